/- Walks: the operations of diagrams. -/
import Derived.Test.YtndefnfknhjfkaaGreatDoorGb

namespace Go.Proofs.YtndefnfknhjfkaaGreatDoor
open Go.RowKit Go.Proofs.Osier

/-- What the cache has was found. -/
structure CacheOk (s : St) (C : List Pl) : Prop where
  len : C.length = 4096
  ok : ∀ (i a b c k : Nat), C[i]? = some (some ((a, b, c), k)) → a < s.l.length ∧ b < s.l.length ∧ c < s.l.length ∧ k < s.l.length ∧ (∀ e, s.ev k e = s.iteF a b c e) ∧ s.top3 a b c ≤ (s.nd k).v

theorem CacheOk.none (s : St) (n : Nat) (hn : n = 4096) : CacheOk s (List.replicate n none) :=
  ⟨by rw [List.length_replicate, hn], fun i a b c k h => by rw [List.getElem?_replicate] at h; split at h <;> cases h⟩

theorem CacheOk.le {s t : St} {C : List Pl} (h : CacheOk s C) (hle : s.Le t) (hs : s.WF) (ht : t.WF) : CacheOk t C := by
  refine ⟨h.len, fun i a b c k hi => ?_⟩
  obtain ⟨ha, hb, hc, hk, he, htop⟩ := h.ok i a b c k hi
  have hl := hle.len
  refine ⟨by omega, by omega, by omega, by omega, fun e => ?_, ?_⟩
  · rw [hle.ev hs ht k e hk, he]
    simp only [St.iteF, hle.ev hs ht _ e ha, hle.ev hs ht _ e hb, hle.ev hs ht _ e hc]
  · rw [hle.nd hk]
    show min (t.nd a).v (min (t.nd b).v (t.nd c).v) ≤ _
    rw [hle.nd ha, hle.nd hb, hle.nd hc]
    exact htop

theorem CacheOk.set {s : St} {C : List Pl} (h : CacheOk s C) (j : Nat) {a b c k : Nat} (ha : a < s.l.length) (hb : b < s.l.length) (hc : c < s.l.length) (hk : k < s.l.length) (he : ∀ e, s.ev k e = s.iteF a b c e) (ht : s.top3 a b c ≤ (s.nd k).v) :
    CacheOk s (C.set j (some ((a, b, c), k))) := by
  refine ⟨by rw [List.length_set]; exact h.len, fun i a' b' c' k' hi => ?_⟩
  rw [List.getElem?_set] at hi
  split at hi
  · split at hi
    · injection hi with hi; injection hi with hi; injection hi with h1 h2
      injection h1 with h1 h3; injection h3 with h3 h4
      subst h1 h2 h3 h4
      exact ⟨ha, hb, hc, hk, he, ht⟩
    · cases hi
  · exact h.ok i a' b' c' k' hi

/-- Operations in memory, their cache made. -/
def OpsIn (h : Key → Nat) (w : World) (op st : Nat) (F : List Nat) (s : St) : Prop :=
  ∃ (F0 : List Nat) (cb n : Nat) (C : List Pl), F = op :: cb :: F0 ∧ Sto h w st F0 s ∧ n = 4096 ∧
    Blk w op 155 #[.pointer (some ⟨st, 0, none⟩), .int .u32 1, .int .i32 0, .int .u32 0, .slice (some ⟨cb, 0, none⟩) n n, .int .i64 0] ∧ Blk w cb 216 (fcArr C) ∧ CacheOk s C

/-- Operations in memory. -/
def Opr (h : Key → Nat) (w : World) (op st : Nat) (F : List Nat) (s : St) : Prop :=
  OpsIn h w op st F s ∨ ∃ F0, F = op :: F0 ∧ Sto h w st F0 s ∧ Blk w op 155 #[.pointer (some ⟨st, 0, none⟩), .int .u32 0, .int .i32 0, .int .u32 0, .slice none 0 0, .int .i64 0]

theorem Sto.of_heap {h : Key → Nat} {w w' : World} {st : Nat} {F : List Nat} {s : St} (t : Sto h w st F s) (hh : ∀ k ∈ F, w'.heap[k]? = w.heap[k]?) : Sto h w' st F s := by
  obtain ⟨lb, cap, ht, pl, P, rfl, t⟩ := t
  exact ⟨lb, cap, ht, pl, P, rfl, t.of_heap hh⟩

theorem Sto.lt {h : Key → Nat} {w : World} {st : Nat} {F : List Nat} {s : St} (t : Sto h w st F s) : ∀ k ∈ F, k < w.heap.size := by
  obtain ⟨lb, cap, ht, pl, P, rfl, t⟩ := t
  intro x hx
  simp only [List.mem_cons, List.mem_nil_iff, or_false] at hx
  rcases hx with rfl | rfl | rfl | rfl
  · exact t.st.lt
  · exact (t.nodes.lt x rfl).2
  · exact t.tab.tab.lt
  · exact t.tab.arr.lt

/-- A block of another kind is none of a store's. -/
theorem Sto.not_mem {h : Key → Nat} {w : World} {st : Nat} {F : List Nat} {s : St} (t : Sto h w st F s) {b : Nat} {ty : TypeId} {cs : Array Value} (hb : Blk w b ty cs) (h1 : ty ≠ 168) (h2 : ty ≠ 171) (h3 : ty ≠ 231) (h4 : ty ≠ 228) : b ∉ F := by
  obtain ⟨lb, cap, ht, pl, P, rfl, t⟩ := t
  have hn2 := t.wf.len2
  obtain ⟨g, c, cur, hv, _, hg, _⟩ := ownsRow_blk t.nodes (by omega)
  obtain rfl : lb = g := by injection hv with hv; injection hv with hv; injection hv
  have a1 : b ≠ st := hb.ne_ t.st h1
  have a2 : b ≠ lb := hb.ne_ hg h2
  have a3 : b ≠ ht := hb.ne_ t.tab.tab h3
  have a4 : b ≠ pl := hb.ne_ t.tab.arr h4
  simp [a1, a2, a3, a4]

theorem Sto.keep {h : Key → Nat} {w w' : World} {st : Nat} {F F' : List Nat} {s : St} (t : Sto h w st F s) (k : Keep F' w w') (hd : ∀ x ∈ F, x ∉ F') : Sto h w' st F s :=
  t.of_heap fun x hx => k.block x (t.lt x hx) (hd x hx)

theorem OpsIn.of_heap {h : Key → Nat} {w w' : World} {op st : Nat} {F : List Nat} {s : St} (t : OpsIn h w op st F s) (hh : ∀ k ∈ F, w'.heap[k]? = w.heap[k]?) : OpsIn h w' op st F s := by
  obtain ⟨F0, cb, n, C, rfl, t, hn, hb, hc, ok⟩ := t
  exact ⟨F0, cb, n, C, rfl, t.of_heap fun k hk => hh k (by simp [hk]), hn, hb.of (hh _ (by simp)), hc.of (hh _ (by simp)), ok⟩
theorem OpsIn.lt {h : Key → Nat} {w : World} {op st : Nat} {F : List Nat} {s : St} (t : OpsIn h w op st F s) : ∀ k ∈ F, k < w.heap.size := by
  obtain ⟨F0, cb, n, C, rfl, t, hn, hb, hc, ok⟩ := t
  intro x hx
  simp only [List.mem_cons] at hx
  rcases hx with rfl | rfl | hx
  · exact hb.lt
  · exact hc.lt
  · exact t.lt x hx
theorem Opr.of_heap {h : Key → Nat} {w w' : World} {op st : Nat} {F : List Nat} {s : St} (t : Opr h w op st F s) (hh : ∀ k ∈ F, w'.heap[k]? = w.heap[k]?) : Opr h w' op st F s := by
  rcases t with t | ⟨F0, rfl, t, hb⟩
  · exact .inl (t.of_heap hh)
  · exact .inr ⟨F0, rfl, t.of_heap fun k hk => hh k (by simp [hk]), hb.of (hh _ (by simp))⟩
theorem Opr.lt {h : Key → Nat} {w : World} {op st : Nat} {F : List Nat} {s : St} (t : Opr h w op st F s) : ∀ k ∈ F, k < w.heap.size := by
  rcases t with t | ⟨F0, rfl, t, hb⟩
  · exact t.lt
  · intro x hx
    simp only [List.mem_cons] at hx
    rcases hx with rfl | hx
    · exact hb.lt
    · exact t.lt x hx
theorem Opr.keep {h : Key → Nat} {w w' : World} {op st : Nat} {F F' : List Nat} {s : St} (t : Opr h w op st F s) (k : Keep F' w w') (hd : ∀ x ∈ F, x ∉ F') : Opr h w' op st F s :=
  t.of_heap fun x hx => k.block x (t.lt x hx) (hd x hx)
theorem Opr.below {h : Key → Nat} {w w' : World} {op st : Nat} {F : List Nat} {s : St} (t : Opr h w op st F s) (k : Below w.heap.size w w') : Opr h w' op st F s :=
  t.of_heap fun x hx => k.block x (t.lt x hx)
theorem OpsIn.below {h : Key → Nat} {w w' : World} {op st : Nat} {F : List Nat} {s : St} (t : OpsIn h w op st F s) (k : Below w.heap.size w w') : OpsIn h w' op st F s :=
  t.of_heap fun x hx => k.block x (t.lt x hx)
theorem Opr.sto {h : Key → Nat} {w : World} {op st : Nat} {F : List Nat} {s : St} (t : Opr h w op st F s) : ∃ F0, Sto h w st F0 s ∧ (∀ x ∈ F0, x ∈ F) ∧ ∃ a b c d e, Blk w op 155 #[.pointer (some ⟨st, 0, none⟩), a, b, c, d, e] := by
  rcases t with ⟨F0, cb, n, C, rfl, t, hn, hb, hc, ok⟩ | ⟨F0, rfl, t, hb⟩
  · exact ⟨F0, t, fun x hx => by simp [hx], _, _, _, _, _, hb⟩
  · exact ⟨F0, t, fun x hx => by simp [hx], _, _, _, _, _, hb⟩

theorem sweeps_any {h : Key → Nat} {w : World} {st : Nat} {F : List Nat} {s : St} (t : Sto h w st F s) :
    Calls Tryz.prog 175 #[.pointer (some ⟨st, 0, none⟩)] w fun e w' => e = .returned (.int .i64 0) ∧ w = w' := by
  obtain ⟨lb, cap, ht, pl, P, rfl, t⟩ := t
  have HG := Lib.hid (given_node t.st)
  have HL := Lib.hid (int64_load st 7 0 w (t.st.cell_of rfl))
  clear t
  go_enter Tryz.func175, Tryz.ntmps175
  go_wp2_with (first | (go_at_call 105; refine HG.out.mono ?_; rintro e w' ⟨rfl, rfl⟩) | (go_at_call 199; refine HL.out.mono ?_; rintro e w' ⟨rfl, rfl⟩))
  go_ret
  exact ⟨rfl, rfl⟩

theorem vars_any {h : Key → Nat} {w : World} {st : Nat} {F : List Nat} {s : St} (t : Sto h w st F s) :
    Calls Tryz.prog 73 #[.pointer (some ⟨st, 0, none⟩)] w fun e w' => e = .returned (.int .i64 s.vars) ∧ w = w' := by
  obtain ⟨lb, cap, ht, pl, P, rfl, t⟩ := t
  have HG := Lib.hid (given_node t.st)
  have h0 : w.cell? ⟨st, 0, none⟩ = some (.int .i64 s.vars) := t.st.cell_of rfl
  clear t
  go_enter Tryz.func73, Tryz.ntmps73
  go_wp2_with (first | (go_at_call 105; refine HG.out.mono ?_; rintro e w' ⟨rfl, rfl⟩))
  go_ret
  exact ⟨rfl, rfl⟩

theorem len_any {h : Key → Nat} {w : World} {st : Nat} {F : List Nat} {s : St} (t : Sto h w st F s) :
    Calls Tryz.prog 113 #[.pointer (some ⟨st, 0, none⟩)] w fun e w' => e = .returned (.int .i64 s.l.length) ∧ w = w' := by
  obtain ⟨lb, cap, ht, pl, P, rfl, t⟩ := t
  have HG := Lib.hid (given_node t.st)
  have h0 : w.cell? ⟨st, 5, none⟩ = some (.int .i64 s.l.length) := t.st.cell_of rfl
  clear t
  go_enter Tryz.func113, Tryz.ntmps113
  go_wp2_with (first | (go_at_call 105; refine HG.out.mono ?_; rintro e w' ⟨rfl, rfl⟩))
  go_ret
  exact ⟨rfl, rfl⟩

theorem node_any {h : Key → Nat} {w : World} {st : Nat} {F : List Nat} {s : St} (t : Sto h w st F s) {k : Nat} (hk : k < s.l.length) :
    Calls Tryz.prog 138 #[.pointer (some ⟨st, 0, none⟩), .int .i64 k] w fun e w' => e = .returned (.tuple #[.int .i64 (s.nd k).v, .int .i64 (s.nd k).lo, .int .i64 (s.nd k).hi, .int .i64 0]) ∧ ∃ n, w' = w.drewN n := by
  obtain ⟨lb, cap, ht, pl, P, rfl, t⟩ := t
  exact node_node t hk

/-- fresh: the cache is there. -/
def Fresh (h : Key → Nat) (op st : Nat) (F : List Nat) (s : St) (w : World) (e : Ending) (w' : World) : Prop :=
  e = .returned (.tuple #[]) ∧ ∃ F', OpsIn h w' op st F' s ∧ Moves F F' w w'

set_option maxRecDepth 100000 in
theorem fresh_done {h : Key → Nat} {w : World} {op st : Nat} {F : List Nat} {s : St} (t : OpsIn h w op st F s) :
    Calls Tryz.prog 156 #[.pointer (some ⟨op, 0, none⟩)] w (Fresh h op st F s w) := by
  have HT := Lib.hid t
  obtain ⟨F0, cb, n, C, rfl, t0, hn, hb, hc, ok⟩ := t
  have hlt := hb.lt
  have HD := Lib.hid (fun fv => do_done op fv _ _ _ _ _ (w.alloc (.cells #[.pointer (some ⟨op, 0, none⟩)] 43)) (hb.alloc _))
  have tS : Sto h (w.alloc (.cells #[.pointer (some ⟨op, 0, none⟩)] 43)) st F0 s := t0.of_heap fun k hk => Below.heap_alloc _ _ _ (t0.lt k hk)
  have HS := Lib.hid (sweeps_any tS)
  have h0 : w.cell? ⟨op, 0, none⟩ = some (.pointer (some ⟨st, 0, none⟩)) := hb.cell_of rfl
  have h5 : w.cell? ⟨op, 5, none⟩ = some (.int .i64 0) := hb.cell_of rfl
  have hmf : ∀ (fn : Fn) (first cap : Array Value) (w : World), (Instr.makeFunc fn first cap).run Tryz.prog w = .ok (.func fn first cap) w := fun _ _ _ _ => rfl
  clear t0 hn hb hc ok tS
  go_enter Tryz.func156, Tryz.ntmps156
  go_wp2_with (first | (go_at_call 188; refine (HD.out _).mono ?_; rintro e w' ⟨rfl, rfl⟩) | (go_at_call 175; refine HS.out.mono ?_; rintro e w' ⟨rfl, rfl⟩))
  refine bodyPost_end (results_none rfl _ _ _) rfl ?_
  have hb := (Below.refl w.heap.size w).alloc (Nat.le_refl _) (.cells #[.pointer (some ⟨op, 0, none⟩)] 43)
  exact ⟨rfl, _, HT.out.below hb, .of_below hb⟩

set_option maxRecDepth 100000 in
theorem fresh_first {h : Key → Nat} {w : World} {op st : Nat} {F0 : List Nat} {s : St} (t : Sto h w st F0 s) (hb : Blk w op 155 #[.pointer (some ⟨st, 0, none⟩), .int .u32 0, .int .i32 0, .int .u32 0, .slice none 0 0, .int .i64 0]) :
    Calls Tryz.prog 156 #[.pointer (some ⟨op, 0, none⟩)] w (Fresh h op st (op :: F0) s w) := by
  obtain ⟨n, hn⟩ : ∃ n, n = 4096 := ⟨_, rfl⟩
  have hlt := hb.lt
  have hbox : (w.alloc (.cells #[.pointer (some ⟨op, 0, none⟩)] 43)).cell? ⟨w.heap.size, 0, none⟩ = some (.pointer (some ⟨op, 0, none⟩)) := (Blk.new w 43 _).cell_of rfl
  have HD := Lib.hid (do_first op st n hn w.heap.size (w.alloc (.cells #[.pointer (some ⟨op, 0, none⟩)] 43)) (by omega) (by simp) hbox (hb.alloc _))
  have HB := Lib.hid hb
  have HT := Lib.hid t
  have HN := Lib.hid hn
  have hmf : ∀ (fn : Fn) (first cap : Array Value) (w : World), (Instr.makeFunc fn first cap).run Tryz.prog w = .ok (.func fn first cap) w := fun _ _ _ _ => rfl
  clear t hn hb
  go_enter Tryz.func156, Tryz.ntmps156
  go_wp2_with fail
  refine HD.out.mono ?_
  rintro e w1 ⟨rfl, hw1⟩
  generalize hA : fcArr (List.replicate n none) = A at hw1
  have hb1 := ((((((HB.out.alloc (.cells #[.pointer (some ⟨op, 0, none⟩)] 43)).set_ 2 (.int .i32 1)).set_ 4 (.slice (some ⟨w.heap.size + 1, 0, none⟩) n n)).alloc (.cells A 216)).drew.drew.set_ 1 (.int .u32 1)).set_ 2 (.int .i32 0))
  have hk1 : Keep [op] w w1 := by
    rw [hw1]
    exact (((((((Keep.refl [op] w).alloc _).setCell (p := ⟨op, 2, none⟩) (.inl (by simp)) _).setCell (p := ⟨op, 4, none⟩) (.inl (by simp)) _).alloc _).drew.drew.setCell (p := ⟨op, 1, none⟩) (.inl (by simp)) _).setCell (p := ⟨op, 2, none⟩) (.inl (by simp)) _)
  have hc1 : Blk w1 (w.heap.size + 1) 216 A := by
    rw [hw1]
    have e0 : w.heap.size + 1 = (((w.alloc (.cells #[.pointer (some ⟨op, 0, none⟩)] 43)).setCell ⟨op, 2, none⟩ (.int .i32 1)).setCell ⟨op, 4, none⟩ (.slice (some ⟨(w.alloc (.cells #[.pointer (some ⟨op, 0, none⟩)] 43)).heap.size, 0, none⟩) n n)).heap.size := by simp
    have := Blk.new (((w.alloc (.cells #[.pointer (some ⟨op, 0, none⟩)] 43)).setCell ⟨op, 2, none⟩ (.int .i32 1)).setCell ⟨op, 4, none⟩ (.slice (some ⟨(w.alloc (.cells #[.pointer (some ⟨op, 0, none⟩)] 43)).heap.size, 0, none⟩) n n)) 216 A
    rw [← e0] at this
    exact ((this.drew.drew.far (p := ⟨op, 1, none⟩) (by show w.heap.size + 1 ≠ op; omega) _).far (p := ⟨op, 2, none⟩) (by show w.heap.size + 1 ≠ op; omega) _)
  have hb2 : Blk w1 op 155 #[.pointer (some ⟨st, 0, none⟩), .int .u32 1, .int .i32 0, .int .u32 0, .slice (some ⟨w.heap.size + 1, 0, none⟩) n n, .int .i64 0] := by
    rw [hw1]
    have e0 : (w.alloc (.cells #[.pointer (some ⟨op, 0, none⟩)] 43)).heap.size = w.heap.size + 1 := by simp
    unfold freshWorld
    rw [e0]
    exact hb1
  have hbx : w1.cell? ⟨w.heap.size, 0, none⟩ = some (.pointer (some ⟨op, 0, none⟩)) := by
    rw [hw1]
    exact ((((((Blk.new w 43 _).far (p := ⟨op, 2, none⟩) (by show w.heap.size ≠ op; omega) _).far (p := ⟨op, 4, none⟩) (by show w.heap.size ≠ op; omega) _).alloc _).drew.drew.far (p := ⟨op, 1, none⟩) (by show w.heap.size ≠ op; omega) _).far (p := ⟨op, 2, none⟩) (by show w.heap.size ≠ op; omega) _).cell_of rfl
  have hop : op ∉ F0 := HT.out.not_mem HB.out (by decide) (by decide) (by decide) (by decide)
  have hS : Sto h w1 st F0 s := HT.out.keep hk1 (fun x hx => by simp; rintro rfl; exact hop hx)
  have HS1 := Lib.hid hS
  have HS := Lib.hid (sweeps_any hS)
  have h0 : w1.cell? ⟨op, 0, none⟩ = some (.pointer (some ⟨st, 0, none⟩)) := hb2.cell_of rfl
  have h5 : w1.cell? ⟨op, 5, none⟩ = some (.int .i64 0) := hb2.cell_of rfl
  have HB2 := Lib.hid hb2
  have HC1 := Lib.hid hc1
  have HK1 := Lib.hid hk1
  have HA := Lib.hid hA
  clear hb1 hk1 hc1 hb2 hS hw1 hbox hA
  go_wp2_with (first | (go_at_call 175; refine HS.out.mono ?_; rintro e w' ⟨rfl, rfl⟩))
  refine bodyPost_end (results_none rfl _ _ _) rfl ?_
  refine ⟨rfl, op :: (w.heap.size + 1) :: F0, ⟨F0, w.heap.size + 1, n, List.replicate n none, rfl, HS1.out, HN.out, HB2.out, by rw [HA.out]; exact HC1.out, CacheOk.none s n HN.out⟩, HK1.out.mono (fun x hx => by simp at hx; simp [hx]), fun x hx => ?_⟩
  simp only [List.mem_cons] at hx ⊢
  rcases hx with rfl | rfl | hx
  · left; left; rfl
  · right; omega
  · left; right; exact hx

theorem fresh_any {h : Key → Nat} {w : World} {op st : Nat} {F : List Nat} {s : St} (t : Opr h w op st F s) :
    Calls Tryz.prog 156 #[.pointer (some ⟨op, 0, none⟩)] w (Fresh h op st F s w) := by
  rcases t with t | ⟨F0, rfl, t, hb⟩
  · exact fresh_done t
  · exact fresh_first t hb

theorem Sto.drewN {h : Key → Nat} {w : World} {st : Nat} {F : List Nat} {s : St} (t : Sto h w st F s) (n : Nat) : Sto h (w.drewN n) st F s := t.of_heap fun _ _ => rfl
theorem Opr.drewN {h : Key → Nat} {w : World} {op st : Nat} {F : List Nat} {s : St} (t : Opr h w op st F s) (n : Nat) : Opr h (w.drewN n) op st F s := t.of_heap fun _ _ => rfl
theorem OpsIn.drewN {h : Key → Nat} {w : World} {op st : Nat} {F : List Nat} {s : St} (t : OpsIn h w op st F s) (n : Nat) : OpsIn h (w.drewN n) op st F s := t.of_heap fun _ _ => rfl

theorem drewN_drewN (w : World) (a b : Nat) : (w.drewN a).drewN b = w.drewN (a + b) := by
  simp [World.drewN, Nat.add_assoc]

/-- may: all are nodes. -/
def Mays (h : Key → Nat) (op st : Nat) (F : List Nat) (s : St) (w : World) (e : Ending) (w' : World) : Prop :=
  e = .returned (.int .i64 0) ∧ ∃ F', OpsIn h w' op st F' s ∧ Moves F F' w w'

set_option maxHeartbeats 1000000 in
set_option maxRecDepth 100000 in
theorem may_any {h : Key → Nat} {w : World} {op st : Nat} {F : List Nat} {s : St} (t : Opr h w op st F s) (sb m : Nat) (ls : Nat → Nat) (hc : ∀ i, i < m → w.cell? ⟨sb, i, none⟩ = some (.int .i64 (ls i))) (hl : ∀ i, i < m → ls i < s.l.length) (hm : m ≤ 1000) :
    Calls Tryz.prog 102 #[.pointer (some ⟨op, 0, none⟩), .slice (some ⟨sb, 0, none⟩) m m] w (Mays h op st F s w) := by
  obtain ⟨F0, tS, hF0, a, b, c, d, e, hb⟩ := t.sto
  have h0 : w.cell? ⟨op, 0, none⟩ = some (.pointer (some ⟨st, 0, none⟩)) := hb.cell_of rfl
  have HN := Lib.hid (fun (n i : Nat) (hi : i < m) => node_any (tS.drewN n) (hl i hi))
  have HF := Lib.hid (fun (n : Nat) => fresh_any (t.drewN n))
  have HC := Lib.hid hc
  clear hc hl tS hb t
  go_enter Tryz.func102, Tryz.ntmps102
  go_wp2
  go_loopg [22] m (fun g i wr => ∃ k n : Nat, g = m - k ∧ k ≤ m ∧ i = .int .i64 k ∧ wr = w.drewN n)
  case atStart => exact ⟨0, 0, rfl, Nat.zero_le _, rfl, rfl⟩
  case round =>
    obtain ⟨k, n, hg, hk, rfl, rfl⟩ := hrel
    have HG := Lib.hid hg
    clear hg
    by_cases hkm : k < m
    · have c0 : w.cell? ⟨sb, k, none⟩ = some (.int .i64 (ls k)) := HC.out k hkm
      go_wp2_with (go_at_call 138; refine (HN.out _ _ hkm).mono ?_; rintro e w' ⟨rfl, n', rfl⟩)
      go_roundg (m - (k + 1))
      case measure => rw [HG.out]; omega
      case rel => exact ⟨k + 1, n + n', rfl, by omega, by go_num, by first | rfl | exact drewN_drewN _ _ _⟩
    · go_wp2_with (go_at_call 156; refine (HF.out _).mono ?_; rintro e w' ⟨rfl, F', h1, h2⟩)
      go_ret
      exact ⟨rfl, F', h1, (Moves.of_keep ((Keep.refl F w).drewN n)).trans h2⟩

/-- The first variable that one of the first k nodes asks. -/
def topN (s : St) (ls : Nat → Nat) : Nat → Nat
  | 0 => s.vars
  | k + 1 => min (topN s ls k) (s.nd (ls k)).v

theorem topN_le (s : St) (ls : Nat → Nat) (k : Nat) : topN s ls k ≤ s.vars := by
  induction k with
  | zero => exact Nat.le_refl _
  | succ k ih => simp only [topN]; omega

set_option maxHeartbeats 1000000 in
set_option maxRecDepth 100000 in
theorem top_any {h : Key → Nat} {w : World} {op st : Nat} {F : List Nat} {s : St} (t : Opr h w op st F s) (sb m : Nat) (ls : Nat → Nat) (hc : ∀ i, i < m → w.cell? ⟨sb, i, none⟩ = some (.int .i64 (ls i))) (hl : ∀ i, i < m → ls i < s.l.length) (hm : m ≤ 1000) :
    Calls Tryz.prog 157 #[.pointer (some ⟨op, 0, none⟩), .slice (some ⟨sb, 0, none⟩) m m] w fun e w' => e = .returned (.int .i64 (topN s ls m)) ∧ ∃ n, w' = w.drewN n := by
  obtain ⟨F0, tS, hF0, a, b, c, d, e, hb⟩ := t.sto
  have h0 : w.cell? ⟨op, 0, none⟩ = some (.pointer (some ⟨st, 0, none⟩)) := hb.cell_of rfl
  have HN := Lib.hid (fun (n i : Nat) (hi : i < m) => node_any (tS.drewN n) (hl i hi))
  have HV := Lib.hid (vars_any tS)
  have HC := Lib.hid hc
  clear hc hl tS hb t
  go_enter Tryz.func157, Tryz.ntmps157
  go_wp2_with (go_at_call 73; refine HV.out.mono ?_; rintro e w' ⟨rfl, rfl⟩)
  go_loopg [5, 19] m (fun g v i wr => ∃ k n tv : Nat, g = m - k ∧ k ≤ m ∧ v = .int .i64 tv ∧ tv = topN s ls k ∧ i = .int .i64 k ∧ wr = w.drewN n)
  case atStart => exact ⟨0, 0, s.vars, rfl, Nat.zero_le _, rfl, rfl, rfl, rfl⟩
  case round =>
    obtain ⟨k, n, tv, hg, hk, rfl, htv, rfl, rfl⟩ := hrel
    have HG := Lib.hid hg
    have HTV := Lib.hid htv
    clear hg htv
    by_cases hkm : k < m
    · have c0 : w.cell? ⟨sb, k, none⟩ = some (.int .i64 (ls k)) := HC.out k hkm
      have HNK := Lib.hid (HN.out n k hkm)
      generalize hx : s.nd (ls k) = nk at HNK
      obtain ⟨xv, xl, xh⟩ := nk
      obtain ⟨mn, hmn, hmm⟩ : ∃ mn : Nat, (if xv < tv then (xv : Int) else (tv : Int)) = (mn : Int) ∧ mn = min tv xv := ⟨min tv xv, by split <;> omega, rfl⟩
      have HX := Lib.hid hx
      have HMM := Lib.hid hmm
      clear hx hmm
      go_wp2_with (go_at_call 138; refine HNK.out.mono ?_; rintro e w' ⟨rfl, n', rfl⟩)
      go_roundg (m - (k + 1))
      case measure => rw [HG.out]; omega
      case rel => exact ⟨k + 1, n + n', mn, rfl, by omega, rfl, by rw [HMM.out, HTV.out]; simp only [topN]; rw [HX.out], by go_num, by first | rfl | exact drewN_drewN _ _ _⟩
    · obtain rfl : k = m := by omega
      go_wp2
      go_ret
      exact ⟨ret_int (by rw [HTV.out]), _, rfl⟩

theorem split_eq {h : Key → Nat} {w : World} {op st : Nat} {F : List Nat} {s : St} (t : Opr h w op st F s) {k v : Nat} (hk : k < s.l.length) (hv : (s.nd k).v = v) :
    Calls Tryz.prog 158 #[.pointer (some ⟨op, 0, none⟩), .int .i64 v, .int .i64 k] w fun e w' => e = .returned (.tuple #[.int .i64 (s.nd k).lo, .int .i64 (s.nd k).hi]) ∧ ∃ n, w' = w.drewN n := by
  obtain ⟨F0, tS, hF0, a, b, c, d, e, hb⟩ := t.sto
  have h0 : w.cell? ⟨op, 0, none⟩ = some (.pointer (some ⟨st, 0, none⟩)) := hb.cell_of rfl
  have HN := Lib.hid (node_any tS hk)
  generalize s.nd k = nk at *
  obtain ⟨xv, xl, xh⟩ := nk
  dsimp only at *
  subst hv
  clear tS hb t
  go_enter Tryz.func158, Tryz.ntmps158
  go_wp2_with (go_at_call 138; refine HN.out.mono ?_; rintro e w' ⟨rfl, n', rfl⟩)
  go_ret2
  exact ⟨rfl, _, rfl⟩

theorem split_ne {h : Key → Nat} {w : World} {op st : Nat} {F : List Nat} {s : St} (t : Opr h w op st F s) {k v : Nat} (hk : k < s.l.length) (hv : (s.nd k).v ≠ v) :
    Calls Tryz.prog 158 #[.pointer (some ⟨op, 0, none⟩), .int .i64 v, .int .i64 k] w fun e w' => e = .returned (.tuple #[.int .i64 k, .int .i64 k]) ∧ ∃ n, w' = w.drewN n := by
  obtain ⟨F0, tS, hF0, a, b, c, d, e, hb⟩ := t.sto
  have h0 : w.cell? ⟨op, 0, none⟩ = some (.pointer (some ⟨st, 0, none⟩)) := hb.cell_of rfl
  have HN := Lib.hid (node_any tS hk)
  generalize s.nd k = nk at *
  obtain ⟨xv, xl, xh⟩ := nk
  dsimp only at *
  have hb1 : ((xv : Int) != (v : Int)) = true := by rw [bne_iff_ne]; omega
  clear tS hb t hv
  go_enter Tryz.func158, Tryz.ntmps158
  go_wp2_with (go_at_call 138; refine HN.out.mono ?_; rintro e w' ⟨rfl, n', rfl⟩)
  go_ret2
  exact ⟨rfl, _, rfl⟩

theorem split_any {h : Key → Nat} {w : World} {op st : Nat} {F : List Nat} {s : St} (t : Opr h w op st F s) {k v : Nat} (hk : k < s.l.length) :
    Calls Tryz.prog 158 #[.pointer (some ⟨op, 0, none⟩), .int .i64 v, .int .i64 k] w fun e w' => e = .returned (.tuple #[.int .i64 (s.cof v false k), .int .i64 (s.cof v true k)]) ∧ ∃ n, w' = w.drewN n := by
  by_cases hv : (s.nd k).v = v
  · have := split_eq t hk hv
    simpa [St.cof, hv] using this
  · have := split_ne t hk hv
    simpa [St.cof, hv] using this
end Go.Proofs.YtndefnfknhjfkaaGreatDoor

namespace Go.Proofs.YtndefnfknhjfkaaGreatDoor
open Go.RowKit Go.Proofs.Osier

/-- Operations in memory, their cache made, by its block. -/
def OpsC (h : Key → Nat) (w : World) (op st cb : Nat) (F : List Nat) (s : St) : Prop :=
  ∃ (F0 : List Nat) (n : Nat) (C : List Pl), F = op :: cb :: F0 ∧ Sto h w st F0 s ∧ n = 4096 ∧
    Blk w op 155 #[.pointer (some ⟨st, 0, none⟩), .int .u32 1, .int .i32 0, .int .u32 0, .slice (some ⟨cb, 0, none⟩) n n, .int .i64 0] ∧ Blk w cb 216 (fcArr C) ∧ CacheOk s C

theorem opsIn_of {h : Key → Nat} {w : World} {op st cb : Nat} {F : List Nat} {s : St} (t : OpsC h w op st cb F s) : OpsIn h w op st F s := by
  obtain ⟨F0, n, C, a, b, c, d, e, f⟩ := t
  exact ⟨F0, cb, n, C, a, b, c, d, e, f⟩
theorem of_opsIn {h : Key → Nat} {w : World} {op st : Nat} {F : List Nat} {s : St} (t : OpsIn h w op st F s) : ∃ cb, OpsC h w op st cb F s := by
  obtain ⟨F0, cb, n, C, a, b, c, d, e, f⟩ := t
  exact ⟨cb, F0, n, C, a, b, c, d, e, f⟩
theorem OpsC.of_heap {h : Key → Nat} {w w' : World} {op st cb : Nat} {F : List Nat} {s : St} (t : OpsC h w op st cb F s) (hh : ∀ k ∈ F, w'.heap[k]? = w.heap[k]?) : OpsC h w' op st cb F s := by
  obtain ⟨F0, n, C, rfl, t, hn, hb, hc, ok⟩ := t
  exact ⟨F0, n, C, rfl, t.of_heap fun k hk => hh k (by simp [hk]), hn, hb.of (hh _ (by simp)), hc.of (hh _ (by simp)), ok⟩
theorem OpsC.below {h : Key → Nat} {w w' : World} {op st cb : Nat} {F : List Nat} {s : St} (t : OpsC h w op st cb F s) (k : Below w.heap.size w w') : OpsC h w' op st cb F s :=
  t.of_heap fun x hx => k.block x ((opsIn_of t).lt x hx)
/-- A block of another kind is none of theirs. -/
theorem OpsC.not_mem {h : Key → Nat} {w : World} {op st cb : Nat} {F : List Nat} {s : St} (t : OpsC h w op st cb F s) {b : Nat} {ty : TypeId} {cs : Array Value} (hb : Blk w b ty cs) (h0 : ty ≠ 155) (h5 : ty ≠ 216) (h1 : ty ≠ 168) (h2 : ty ≠ 171) (h3 : ty ≠ 231) (h4 : ty ≠ 228) : b ∉ F := by
  obtain ⟨F0, n, C, rfl, t, hn, hbo, hc, ok⟩ := t
  have a1 : b ≠ op := hb.ne_ hbo h0
  have a2 : b ≠ cb := hb.ne_ hc h5
  have a3 := t.not_mem hb h1 h2 h3 h4
  simp [a1, a2, a3]

/-- What If-then-else answers and leaves. -/
def IteP (h : Key → Nat) (op st cb : Nat) (F : List Nat) (s : St) (p : Nat → Bool) (L a b c : Nat) (w : World) (e : Ending) (w' : World) : Prop :=
  ∃ (k : Nat) (s' : St) (F' : List Nat), e = .returned (.tuple #[.int .i64 k, .int .i64 0]) ∧ OpsC h w' op st cb F' s' ∧ s.IteGives p L a b c s' k ∧ Moves F F' w w'

theorem gives_same {s : St} {p : Nat → Bool} {L B a b c k : Nat} (ok : s.IteOk p L B a b c) (hk : k < s.l.length) (hf : ∀ e, s.ev k e = s.iteF a b c e) (ht : s.top3 a b c ≤ (s.nd k).v) : s.IteGives p L a b c s k :=
  ((St.Gives.same ok.wf hk L).mono (Nat.zero_le _) ht).congr hf

theorem ite_a1 {h : Key → Nat} {w : World} {op st cb : Nat} {F : List Nat} {s : St} (t : OpsC h w op st cb F s) {p : Nat → Bool} {L B b c : Nat} (ok : s.IteOk p L B 1 b c) :
    Calls Tryz.prog 103 #[.pointer (some ⟨op, 0, none⟩), .int .i64 1, .int .i64 b, .int .i64 c] w (IteP h op st cb F s p L 1 b c w) := by
  have HT := Lib.hid t
  have HOK := Lib.hid ok
  clear t ok
  go_enter Tryz.func103, Tryz.ntmps103
  go_wp2
  go_ret2
  exact ⟨b, s, F, rfl, HT.out, gives_same HOK.out HOK.out.lb (fun e => by simp [St.iteF, St.ev1]) (St.top3_le s 1 b c).2.1, .refl F w⟩

theorem ite_a0 {h : Key → Nat} {w : World} {op st cb : Nat} {F : List Nat} {s : St} (t : OpsC h w op st cb F s) {p : Nat → Bool} {L B b c : Nat} (ok : s.IteOk p L B 0 b c) (hbc : b ≠ c) :
    Calls Tryz.prog 103 #[.pointer (some ⟨op, 0, none⟩), .int .i64 0, .int .i64 b, .int .i64 c] w (IteP h op st cb F s p L 0 b c w) := by
  have HT := Lib.hid t
  have HOK := Lib.hid ok
  have hb : ((b : Int) == (c : Int)) = false := by rw [beq_eq_false_iff_ne]; omega
  clear t ok hbc
  go_enter Tryz.func103, Tryz.ntmps103
  go_wp2
  go_ret2
  exact ⟨c, s, F, rfl, HT.out, gives_same HOK.out HOK.out.lc (fun e => by simp [St.iteF, St.ev0]) (St.top3_le s 0 b c).2.2, .refl F w⟩

theorem ite_bc {h : Key → Nat} {w : World} {op st cb : Nat} {F : List Nat} {s : St} (t : OpsC h w op st cb F s) {p : Nat → Bool} {L B a b : Nat} (ok : s.IteOk p L B a b b) (ha : a ≠ 1) :
    Calls Tryz.prog 103 #[.pointer (some ⟨op, 0, none⟩), .int .i64 a, .int .i64 b, .int .i64 b] w (IteP h op st cb F s p L a b b w) := by
  have HT := Lib.hid t
  have HOK := Lib.hid ok
  have hb : ((a : Int) == 1) = false := by rw [beq_eq_false_iff_ne]; omega
  clear t ok ha
  go_enter Tryz.func103, Tryz.ntmps103
  go_wp2
  go_ret2
  exact ⟨b, s, F, rfl, HT.out, gives_same HOK.out HOK.out.lb (fun e => by simp [St.iteF]) (St.top3_le s a b b).2.1, .refl F w⟩

theorem ite_10 {h : Key → Nat} {w : World} {op st cb : Nat} {F : List Nat} {s : St} (t : OpsC h w op st cb F s) {p : Nat → Bool} {L B a : Nat} (ok : s.IteOk p L B a 1 0) (ha : 2 ≤ a) :
    Calls Tryz.prog 103 #[.pointer (some ⟨op, 0, none⟩), .int .i64 a, .int .i64 1, .int .i64 0] w (IteP h op st cb F s p L a 1 0 w) := by
  have HT := Lib.hid t
  have HOK := Lib.hid ok
  have hb : ((a : Int) == 1) = false := by rw [beq_eq_false_iff_ne]; omega
  have hb0 : ((a : Int) == 0) = false := by rw [beq_eq_false_iff_ne]; omega
  clear t ok ha
  go_enter Tryz.func103, Tryz.ntmps103
  go_wp2
  go_ret2
  exact ⟨a, s, F, rfl, HT.out, gives_same HOK.out HOK.out.la (fun e => by simp [St.iteF, St.ev0, St.ev1]) (St.top3_le s a 1 0).1, .refl F w⟩

theorem cache_ix (a b c : Nat) (ha : a < 65537) (hb : b < 65537) (hc : c < 65537) : bits .and .i64 ((a : Int) * 7 + (b : Int) * 31 + (c : Int) * 127) 4095 = ((a * 7 + b * 31 + c * 127) % 4096 : Nat) := by
  rw [show ((a : Int) * 7 + (b : Int) * 31 + (c : Int) * 127) = ((a * 7 + b * 31 + c * 127 : Nat) : Int) by omega, show (4095 : Int) = ((4095 : Nat) : Int) by rfl, i64_and_nat _ _ (by omega) (by omega)]
  congr 1
  exact Nat.and_two_pow_sub_one_eq_mod (a * 7 + b * 31 + c * 127) 12

theorem found_cells {w : World} {cb : Nat} {C : List Pl} (ha : Blk w cb 216 (fcArr C)) {i : Nat} {x : Pl} (hx : C[i]? = some x) :
    (∀ j v, j < 5 → (fcCells x)[j]? = some v → w.cell? ⟨cb, i * 5 + j, none⟩ = some v) := fun j v hj hv => by rw [ha.cell, fcArr_get hx hj, hv]

theorem fcArr_set (Q : List Pl) (i : Nat) (hi : i < Q.length) (x : Pl) (a0 a1 a2 a3 a4 : Value) (hx : fcCells x = [a0, a1, a2, a3, a4]) :
    (((((fcArr Q).setIfInBounds (i * 5) a0).setIfInBounds (i * 5 + 1) a1).setIfInBounds (i * 5 + 2) a2).setIfInBounds (i * 5 + 3) a3).setIfInBounds (i * 5 + 4) a4 = fcArr (Q.set i x) := by
  apply Array.ext
  · simp [fcArr_size]
  · intro m h1 h2
    have hm : m < Q.length * 5 := by rw [fcArr_size, List.length_set] at h2; omega
    have hq : m / 5 < Q.length := by omega
    have hj : m % 5 < 5 := Nat.mod_lt _ (by omega)
    have e2 := fcArr_get (P := Q.set i x) (j := m % 5) (List.getElem?_eq_getElem (show m / 5 < (Q.set i x).length by rw [List.length_set]; exact hq)) hj
    rw [Nat.div_add_mod' m 5, Array.getElem?_eq_getElem h2] at e2
    have e1 := fcArr_get (P := Q) (j := m % 5) (List.getElem?_eq_getElem hq) hj
    rw [Nat.div_add_mod' m 5, Array.getElem?_eq_getElem (by rw [fcArr_size]; omega)] at e1
    have hsz := fcArr_size Q
    refine Option.some.inj ?_
    rw [e2, ← Array.getElem?_eq_getElem h1]
    simp only [Array.getElem?_setIfInBounds, Array.size_setIfInBounds]
    by_cases hmi : m / 5 = i
    · have hg : (Q.set i x)[m / 5]'(by rw [List.length_set]; exact hq) = x := by simp [hmi]
      rw [hg, hx]
      rcases (show m % 5 = 0 ∨ m % 5 = 1 ∨ m % 5 = 2 ∨ m % 5 = 3 ∨ m % 5 = 4 by omega) with h | h | h | h | h <;> rw [h]
      · rw [if_neg (by omega), if_neg (by omega), if_neg (by omega), if_neg (by omega), if_pos (by omega), if_pos (by omega)]; rfl
      · rw [if_neg (by omega), if_neg (by omega), if_neg (by omega), if_pos (by omega), if_pos (by omega)]; rfl
      · rw [if_neg (by omega), if_neg (by omega), if_pos (by omega), if_pos (by omega)]; rfl
      · rw [if_neg (by omega), if_pos (by omega), if_pos (by omega)]; rfl
      · rw [if_pos (by omega), if_pos (by omega)]; rfl
    · have hg : (Q.set i x)[m / 5]'(by rw [List.length_set]; exact hq) = Q[m / 5] := by rw [List.getElem_set_ne (Ne.symm hmi)]
      rw [hg, ← e1]
      rw [if_neg (by omega), if_neg (by omega), if_neg (by omega), if_neg (by omega), if_neg (by omega), Array.getElem?_eq_getElem]

theorem moves_more {F F' : List Nat} {w w' : World} (m : Moves F F' w w') (G : List Nat) : Moves (G ++ F) (G ++ F') w w' :=
  ⟨m.keep.mono fun x hx => List.mem_append_right _ hx, fun x hx => by
    rcases List.mem_append.1 hx with h | h
    · exact .inl (List.mem_append_left _ h)
    · rcases m.new x h with h | h
      · exact .inl (List.mem_append_right _ h)
      · exact .inr h⟩

theorem iteF_le {s t : St} (h : s.Le t) (hs : s.WF) (ht : t.WF) {a b c : Nat} (ha : a < s.l.length) (hb : b < s.l.length) (hc : c < s.l.length) (e : Env) : t.iteF a b c e = s.iteF a b c e := by
  simp only [St.iteF, h.ev hs ht _ e ha, h.ev hs ht _ e hb, h.ev hs ht _ e hc]
theorem top3_le' {s t : St} (h : s.Le t) {a b c : Nat} (ha : a < s.l.length) (hb : b < s.l.length) (hc : c < s.l.length) : t.top3 a b c = s.top3 a b c := by
  show min (t.nd a).v (min (t.nd b).v (t.nd c).v) = _
  rw [h.nd ha, h.nd hb, h.nd hc]; rfl

/-- The hypothesis of the induction. -/
def IteIH (h : Key → Nat) (op st cb : Nat) (p : Nat → Bool) (L B d : Nat) : Prop :=
  ∀ (w : World) (F : List Nat) (s : St) (a b c : Nat), OpsC h w op st cb F s → s.IteOk p L B a b c → s.vars - s.top3 a b c ≤ d →
    Calls Tryz.prog 103 #[.pointer (some ⟨op, 0, none⟩), .int .i64 a, .int .i64 b, .int .i64 c] w (IteP h op st cb F s p L a b c w)

end Go.Proofs.YtndefnfknhjfkaaGreatDoor

namespace Go.Proofs.YtndefnfknhjfkaaGreatDoor
open Go.RowKit Go.Proofs.Osier

set_option maxHeartbeats 2000000 in
set_option maxRecDepth 100000 in
theorem ite_rec_F {h : Key → Nat} (H : IsHash h) {w : World} {op st cb : Nat} {F : List Nat} {s : St} (t : OpsC h w op st cb F s) {p : Nat → Bool} {L B a b c d : Nat} (ok : s.IteOk p L B a b c) (ha : 2 ≤ a) (hbc : b ≠ c) (eb1 : ((b : Int) == 1) = false)
    (hd : s.vars - s.top3 a b c ≤ d + 1) (ih : IteIH h op st cb p L B d) :
    Calls Tryz.prog 103 #[.pointer (some ⟨op, 0, none⟩), .int .i64 a, .int .i64 b, .int .i64 c] w (IteP h op st cb F s p L a b c w) := by
  have HT := Lib.hid t
  have HOK := Lib.hid ok
  have HIH := Lib.hid ih
  obtain ⟨F0, n, C, hF, tS, hn, hbo, hbc', hco⟩ := t
  obtain ⟨lb, cap, ht, pl, P, hF0, tN⟩ := id tS
  have hsm := tN.most
  have hsm2 := tN.small
  have b1 := ok.la
  have b2 := ok.lb
  have b3 := ok.lc
  have ha' : a < 65537 := by omega
  have hb' : b < 65537 := by omega
  have hc' : c < 65537 := by omega
  have hix := cache_ix a b c ha' hb' hc'
  have hcil : (a * 7 + b * 31 + c * 127) % 4096 < n := by rw [hn]; exact Nat.mod_lt _ (by omega)
  generalize hci : (a * 7 + b * 31 + c * 127) % 4096 = ci at hix hcil
  have hCl : ci < C.length := by rw [hco.len, ← hn]; exact hcil
  have e1 : ((a : Int) == 1) = false := by rw [beq_eq_false_iff_ne]; omega
  have e0 : ((a : Int) == 0) = false := by rw [beq_eq_false_iff_ne]; omega
  have ebc : ((b : Int) == (c : Int)) = false := by rw [beq_eq_false_iff_ne]; omega
  have h0 : w.cell? ⟨op, 0, none⟩ = some (.pointer (some ⟨st, 0, none⟩)) := hbo.cell_of rfl
  have h4 : w.cell? ⟨op, 4, none⟩ = some (.slice (some ⟨cb, 0, none⟩) n n) := hbo.cell_of rfl
  have hlo := hbo.lt
  have hlc := hbc'.lt
  have hnb : n ≤ 65536 := by omega
  have HCI := Lib.hid hci
  have HN := Lib.hid hn
  have HC := Lib.hid hbc'
  have HBO := Lib.hid hbo
  have HCO := Lib.hid hco
  have HS := Lib.hid tS
  have HF := Lib.hid hF
  have HBC := Lib.hid hbc
  have HD := Lib.hid hd
  have hcell := found_cells hbc' (List.getElem?_eq_getElem hCl)
  generalize hx : C[ci] = x at hcell
  have HX := Lib.hid hx
  have HIX := Lib.hid hix
  clear ok ih tS hn hco hF hF0 tN hci hbc hd hx hsm hsm2 b1 b2 b3 hix
  cases x with
  | some Kv =>
    obtain ⟨⟨a', b', c'⟩, v⟩ := Kv
    have c0 : w.cell? ⟨cb, ci * 5, none⟩ = some (.bool true) := hcell 0 _ (by omega) rfl
    have c1 : w.cell? ⟨cb, ci * 5 + 1, none⟩ = some (.int .i64 a') := hcell 1 _ (by omega) rfl
    have c2 : w.cell? ⟨cb, ci * 5 + 2, none⟩ = some (.int .i64 b') := hcell 2 _ (by omega) rfl
    have c3 : w.cell? ⟨cb, ci * 5 + 3, none⟩ = some (.int .i64 c') := hcell 3 _ (by omega) rfl
    have c4 : w.cell? ⟨cb, ci * 5 + 4, none⟩ = some (.int .i64 v) := hcell 4 _ (by omega) rfl
    clear hcell hbo hbc'
    by_cases hK : (a', b', c') = (a, b, c)
    · injection hK with hK1 hK2; injection hK2 with hK2 hK3
      subst hK1 hK2 hK3
      have q := fun w => eq41 a' b' c' a' b' c' w
      simp only [beq_self_eq_true, Bool.and_self] at q
      have HQ := Lib.hid q
      clear q
      have hix := HIX.out
      go_enter Tryz.func103, Tryz.ntmps103
      go_wp2_with fail
      have q := HQ.out
      go_quiet (fail)
      go_wp2
      go_ret2
      have hxx : C[ci]? = some (some ((a', b', c'), v)) := by rw [List.getElem?_eq_getElem hCl, HX.out]
      obtain ⟨_, _, _, k4, k5, k6⟩ := HCO.out.ok ci a' b' c' v hxx
      have hbl := (below_drewN ((Below.refl w.heap.size w).alloc (Nat.le_refl _) (.cells #[.int .i64 a', .int .i64 b', .int .i64 c'] 41)) nq)
      exact ⟨v, s, F, rfl, HT.out.below hbl, gives_same HOK.out k4 k5 k6, .of_below hbl⟩
    · have q : ∀ w, (binOp .eql 41 (.agg #[.int .i64 a', .int .i64 b', .int .i64 c']) (.agg #[.int .i64 a, .int .i64 b, .int .i64 c])).run Tryz.prog w = .ok (.bool false) w := fun w => by
        rw [eq41]
        have : ((a' : Int) == (a : Int) && ((b' : Int) == (b : Int) && (c' : Int) == (c : Int))) = false := by
          rw [Bool.eq_false_iff]; intro hh
          simp only [Bool.and_eq_true, beq_iff_eq] at hh
          exact hK (by rw [Int.ofNat_inj.1 hh.1, Int.ofNat_inj.1 hh.2.1, Int.ofNat_inj.1 hh.2.2])
        rw [this]
      have HQ := Lib.hid q
      clear q hK
      have hix := HIX.out
      go_enter Tryz.func103, Tryz.ntmps103
      go_wp2_with fail
      have q := HQ.out
      go_quiet (fail)
      generalize hw1 : (w.alloc (.cells #[.int .i64 a, .int .i64 b, .int .i64 c] 41)).drewN _ = w1
      have hb1 : Below w.heap.size w w1 := by rw [← hw1]; exact (below_drewN ((Below.refl w.heap.size w).alloc (Nat.le_refl _) (.cells #[.int .i64 a, .int .i64 b, .int .i64 c] 41)) _)
      have hkb : Blk w1 w.heap.size 41 #[.int .i64 a, .int .i64 b, .int .i64 c] := by rw [← hw1]; exact (Blk.new w 41 _).drewN _
      have t1 : OpsC h w1 op st cb F s := HT.out.below hb1
      have hs1 : w.heap.size < w1.heap.size := hkb.lt
      clear hw1 h0 h4 c0 c1 c2 c3 c4
      have hbA : Below w1.heap.size w1 (w1.alloc (.cells #[.int .i64 a, .int .i64 b, .int .i64 c] 3)) := (Below.refl _ _).alloc (Nat.le_refl _) _
      have t2 := t1.below hbA
      have hsb : Blk (w1.alloc (.cells #[.int .i64 a, .int .i64 b, .int .i64 c] 3)) w1.heap.size 3 #[.int .i64 a, .int .i64 b, .int .i64 c] := Blk.new w1 3 _
      have HTOP := Lib.hid (top_any (.inl (opsIn_of t2)) w1.heap.size 3 (fun i => if i = 0 then a else if i = 1 then b else c)
        (fun i hi => by
          rcases (show i = 0 ∨ i = 1 ∨ i = 2 by omega) with rfl | rfl | rfl
          · exact hsb.cell_of rfl
          · exact hsb.cell_of rfl
          · exact hsb.cell_of rfl)
        (fun i hi => by
          rcases (show i = 0 ∨ i = 1 ∨ i = 2 by omega) with rfl | rfl | rfl
          · exact HOK.out.la
          · exact HOK.out.lb
          · exact HOK.out.lc) (by omega))
      have HB1 := Lib.hid (hb1.trans (hbA.mono hb1.size))
      have HKB := Lib.hid (hkb.alloc (.cells #[.int .i64 a, .int .i64 b, .int .i64 c] 3))
      have HT2 := Lib.hid t2
      obtain ⟨hv, hp⟩ := HOK.out.top ha
      have hv0 : topN s (fun i => if i = 0 then a else if i = 1 then b else c) 3 = s.top3 a b c := by
        have l1 := St.v_le HOK.out.wf HOK.out.la
        show min (min (min s.vars (s.nd a).v) (s.nd b).v) (s.nd c).v = min (s.nd a).v (min (s.nd b).v (s.nd c).v)
        omega
      rw [hv0] at HTOP
      have HVL := Lib.hid hv
      clear hb1 hkb t1 hbA t2 hsb hv0 hp hv
      go_wp2_with fail
      refine HTOP.out.mono ?_
      rintro e w' ⟨rfl, n2, rfl⟩
      generalize hw2 : (w1.alloc (.cells #[.int .i64 a, .int .i64 b, .int .i64 c] 3)).drewN n2 = w2
      have hb2 : Below w.heap.size w w2 := by rw [← hw2]; exact below_drewN HB1.out _
      have hkb2 : Blk w2 w.heap.size 41 #[.int .i64 a, .int .i64 b, .int .i64 c] := by rw [← hw2]; exact HKB.out.drewN _
      have t2 : OpsC h w2 op st cb F s := HT.out.below hb2
      have HB2 := Lib.hid hb2
      have HKB2 := Lib.hid hkb2
      have HT2' := Lib.hid t2
      have HSP := Lib.hid (fun (n k : Nat) (hk : k < s.l.length) => split_any (v := s.top3 a b c) (.inl (opsIn_of (t2.of_heap (w' := w2.drewN n) (fun _ _ => rfl)))) hk)
      have la := HOK.out.la
      have lb := HOK.out.lb
      have lc := HOK.out.lc
      clear hw2 hb2 hkb2 t2
      go_wp2_with fail
      refine (HSP.out 0 a la).mono ?_
      rintro e w' ⟨rfl, m1, rfl⟩
      go_wp2_with fail
      refine (HSP.out _ b lb).mono ?_
      rintro e w' ⟨rfl, m2, rfl⟩
      go_wp2_with fail
      refine (HSP.out _ c lc).mono ?_
      rintro e w' ⟨rfl, m3, rfl⟩
      generalize hw3 : World.drewN _ _ = w3
      have hb3 : Below w.heap.size w w3 := by rw [← hw3]; exact below_drewN (below_drewN HB2.out _) _
      have hkb3 : Blk w3 w.heap.size 41 #[.int .i64 a, .int .i64 b, .int .i64 c] := by rw [← hw3]; exact (HKB2.out.drewN _).drewN _
      have t3 : OpsC h w3 op st cb F s := HT.out.below hb3
      have HB3 := Lib.hid hb3
      have HKB3 := Lib.hid hkb3
      have HT3 := Lib.hid t3
      have okl := HOK.out.lo ha
      have hbl := HOK.out.below ha false
      have HCALL := Lib.hid (HIH.out w3 F s _ _ _ t3 okl (by have := HD.out; omega))
      clear hw3 hb3 hkb3 t3 okl hbl
      go_wp2_with fail
      refine HCALL.out.mono ?_
      rintro e w4 ⟨lo, s1, F1, rfl, t4, g1, mv1⟩
      have okh := HOK.out.hi ha g1
      have hbh := HOK.out.below ha true
      have HCALL2 := Lib.hid (HIH.out w4 F1 s1 _ _ _ t4 okh.1 (by rw [okh.2, g1.le.vars]; have := HD.out; omega))
      have HT4 := Lib.hid t4
      have HG1 := Lib.hid g1
      have HMV1 := Lib.hid mv1
      clear okh hbh t4 g1 mv1
      go_wp2_with fail
      refine HCALL2.out.mono ?_
      rintro e w5 ⟨hi, s2, F2, rfl, t5, g2, mv2⟩
      obtain ⟨okm, hroom, gfin⟩ := HOK.out.fin ha HG1.out g2
      have hmv : Moves F F2 w w5 := ((Moves.of_below HB3.out).trans HMV1.out).trans mv2
      have hkb5 : Blk w5 w.heap.size 41 #[.int .i64 a, .int .i64 b, .int .i64 c] := by
        have hk4 := HMV1.out.keep.blk HKB3.out (HT3.out.not_mem HKB3.out (by decide) (by decide) (by decide) (by decide) (by decide) (by decide))
        exact mv2.keep.blk hk4 (HT4.out.not_mem hk4 (by decide) (by decide) (by decide) (by decide) (by decide) (by decide))
      obtain ⟨F3, n5, C5, hF5, tS5, hn5, hbo5, hbc5, hco5⟩ := t5
      have HMK := Lib.hid (mk_any H tS5 okm hroom)
      have g0 : w5.cell? ⟨op, 0, none⟩ = some (.pointer (some ⟨st, 0, none⟩)) := hbo5.cell_of rfl
      have HMV := Lib.hid hmv
      have HKB5 := Lib.hid hkb5
      have HF5 := Lib.hid hF5
      have HTS5 := Lib.hid tS5
      have HN5 := Lib.hid hn5
      have HBO5 := Lib.hid hbo5
      have HBC5 := Lib.hid hbc5
      have HCO5 := Lib.hid hco5
      have HGF := Lib.hid gfin
      have HG2 := Lib.hid g2
      have HMKO := Lib.hid okm
      clear okm hroom gfin g2 mv2 hmv hkb5 hF5 tS5 hn5 hbo5 hbc5 hco5
      go_wp2_with fail
      refine HMK.out.mono ?_
      rintro e w6 ⟨rfl, F6, tS6, mv6⟩
      have hnop : op ∉ F3 := HTS5.out.not_mem HBO5.out (by decide) (by decide) (by decide) (by decide)
      have hncb : cb ∉ F3 := HTS5.out.not_mem HBC5.out (by decide) (by decide) (by decide) (by decide)
      have hnkb : w.heap.size ∉ F3 := HTS5.out.not_mem HKB5.out (by decide) (by decide) (by decide) (by decide)
      have hbo6 := mv6.keep.blk HBO5.out hnop
      have hbc6 := mv6.keep.blk HBC5.out hncb
      have hkb6 := mv6.keep.blk HKB5.out hnkb
      have hCl5 : ci < C5.length := by rw [HCO5.out.len, ← HN.out]; exact hcil
      have hx5 := List.getElem?_eq_getElem hCl5
      have hu : ∀ j, j < 5 → ∃ u, w6.cell? ⟨cb, ci * 5 + j, none⟩ = some u := fun j hj =>
        ⟨_, found_cells hbc6 hx5 j _ hj (List.getElem?_eq_getElem (by rw [fcCells_length]; exact hj))⟩
      obtain ⟨u0, hu0⟩ := hu 0 (by omega)
      obtain ⟨u1, hu1⟩ := hu 1 (by omega)
      obtain ⟨u2, hu2⟩ := hu 2 (by omega)
      obtain ⟨u3, hu3⟩ := hu 3 (by omega)
      obtain ⟨u4, hu4⟩ := hu 4 (by omega)
      rw [Nat.add_zero] at hu0
      have z0 : w6.frozen? ⟨cb, ci * 5, none⟩ = false := hbc6.frozen _
      have z1 : w6.frozen? ⟨cb, ci * 5 + 1, none⟩ = false := hbc6.frozen _
      have z2 : w6.frozen? ⟨cb, ci * 5 + 2, none⟩ = false := hbc6.frozen _
      have z3 : w6.frozen? ⟨cb, ci * 5 + 3, none⟩ = false := hbc6.frozen _
      have z4 : w6.frozen? ⟨cb, ci * 5 + 4, none⟩ = false := hbc6.frozen _
      have y1 : w6.cell? ⟨w.heap.size, 0, none⟩ = some (.int .i64 a) := hkb6.cell_of rfl
      have y2 : w6.cell? ⟨w.heap.size, 1, none⟩ = some (.int .i64 b) := hkb6.cell_of rfl
      have y3 : w6.cell? ⟨w.heap.size, 2, none⟩ = some (.int .i64 c) := hkb6.cell_of rfl
      have hset := fcArr_set C5 ci hCl5 (some ((a, b, c), (s2.mkn (s.top3 a b c) lo hi).1)) _ _ _ _ _ rfl
      have HSET := Lib.hid hset
      have HBO6 := Lib.hid hbo6
      have HBC6 := Lib.hid hbc6
      have HTS6 := Lib.hid tS6
      have HMV6 := Lib.hid mv6
      have gf := HGF.out
      have kgl := gf.lt
      have HGF' := Lib.hid gf
      have hne1 : op ≠ cb := hbo6.ne_ hbc6 (by decide)
      generalize hkk : (s2.mkn (s.top3 a b c) lo hi).1 = kk at *
      generalize hss : (s2.mkn (s.top3 a b c) lo hi).2 = ss at *
      have HKK := Lib.hid hkk
      have HSS := Lib.hid hss
      clear hnop hnkb hbo6 hbc6 hkb6 hx5 hu hset tS6 mv6 gf hkk hss kgl
      go_wp2
      go_ret2
      have hle := HGF'.out.le
      have hl := hle.len
      have wfs := HGF'.out.wf
      have l2 : s2.Le ss := by rw [← HSS.out]; exact (St.mk_gives HG2.out.wf HMKO.out 0).le
      have hk7 := (((((Keep.refl [cb] w6).setCell (p := ⟨cb, ci * 5, none⟩) (.inl (by simp)) (.bool true)).setCell (p := ⟨cb, ci * 5 + 1, none⟩) (.inl (by simp)) (.int .i64 a)).setCell (p := ⟨cb, ci * 5 + 2, none⟩) (.inl (by simp)) (.int .i64 b)).setCell (p := ⟨cb, ci * 5 + 3, none⟩) (.inl (by simp)) (.int .i64 c)).setCell (p := ⟨cb, ci * 5 + 4, none⟩) (.inl (by simp)) (.int .i64 kk)
      have hncb6 : cb ∉ F6 := HTS6.out.not_mem HBC6.out (by decide) (by decide) (by decide) (by decide)
      refine ⟨kk, ss, op :: cb :: F6, rfl, ⟨F6, n5, C5.set ci (some ((a, b, c), kk)), rfl, ?_, HN5.out, ?_, ?_, ?_⟩, HGF'.out, ?_⟩
      · exact HTS6.out.keep hk7 (fun x hx => by simp; rintro rfl; exact hncb6 hx)
      · exact hk7.blk HBO6.out (by simp [hne1])
      · rw [← HSET.out]
        exact ((((HBC6.out.set_ (ci * 5) _).set_ (ci * 5 + 1) _).set_ (ci * 5 + 2) _).set_ (ci * 5 + 3) _).set_ (ci * 5 + 4) _
      · refine (HCO5.out.le l2 HG2.out.wf wfs).set ci (by omega) (by omega) (by omega) HGF'.out.lt (fun e => ?_) ?_
        · rw [HGF'.out.ev, iteF_le hle HOK.out.wf wfs la lb lc]
        · rw [top3_le' hle la lb lc]; exact HGF'.out.top
      · have hmv := HMV.out
        rw [HF5.out] at hmv
        refine (hmv.trans (moves_more HMV6.out [op, cb])).trans (Moves.of_keep (hk7.mono fun x hx => ?_))
        simp at hx; simp [hx]
  | none =>
    have c0 : w.cell? ⟨cb, ci * 5, none⟩ = some (.bool false) := hcell 0 _ (by omega) rfl
    clear hcell hbo hbc'
    have hix := HIX.out
    go_enter Tryz.func103, Tryz.ntmps103
    go_wp2_with fail
    go_quiet (fail)
    generalize hw1 : (w.alloc (.cells #[.int .i64 a, .int .i64 b, .int .i64 c] 41)).drewN _ = w1
    have hb1 : Below w.heap.size w w1 := by rw [← hw1]; exact (below_drewN ((Below.refl w.heap.size w).alloc (Nat.le_refl _) (.cells #[.int .i64 a, .int .i64 b, .int .i64 c] 41)) _)
    have hkb : Blk w1 w.heap.size 41 #[.int .i64 a, .int .i64 b, .int .i64 c] := by rw [← hw1]; exact (Blk.new w 41 _).drewN _
    have t1 : OpsC h w1 op st cb F s := HT.out.below hb1
    have hs1 : w.heap.size < w1.heap.size := hkb.lt
    clear hw1 h0 h4 c0
    have hbA : Below w1.heap.size w1 (w1.alloc (.cells #[.int .i64 a, .int .i64 b, .int .i64 c] 3)) := (Below.refl _ _).alloc (Nat.le_refl _) _
    have t2 := t1.below hbA
    have hsb : Blk (w1.alloc (.cells #[.int .i64 a, .int .i64 b, .int .i64 c] 3)) w1.heap.size 3 #[.int .i64 a, .int .i64 b, .int .i64 c] := Blk.new w1 3 _
    have HTOP := Lib.hid (top_any (.inl (opsIn_of t2)) w1.heap.size 3 (fun i => if i = 0 then a else if i = 1 then b else c)
      (fun i hi => by
        rcases (show i = 0 ∨ i = 1 ∨ i = 2 by omega) with rfl | rfl | rfl
        · exact hsb.cell_of rfl
        · exact hsb.cell_of rfl
        · exact hsb.cell_of rfl)
      (fun i hi => by
        rcases (show i = 0 ∨ i = 1 ∨ i = 2 by omega) with rfl | rfl | rfl
        · exact HOK.out.la
        · exact HOK.out.lb
        · exact HOK.out.lc) (by omega))
    have HB1 := Lib.hid (hb1.trans (hbA.mono hb1.size))
    have HKB := Lib.hid (hkb.alloc (.cells #[.int .i64 a, .int .i64 b, .int .i64 c] 3))
    have HT2 := Lib.hid t2
    obtain ⟨hv, hp⟩ := HOK.out.top ha
    have hv0 : topN s (fun i => if i = 0 then a else if i = 1 then b else c) 3 = s.top3 a b c := by
      have l1 := St.v_le HOK.out.wf HOK.out.la
      show min (min (min s.vars (s.nd a).v) (s.nd b).v) (s.nd c).v = min (s.nd a).v (min (s.nd b).v (s.nd c).v)
      omega
    rw [hv0] at HTOP
    have HVL := Lib.hid hv
    clear hb1 hkb t1 hbA t2 hsb hv0 hp hv
    go_wp2_with fail
    refine HTOP.out.mono ?_
    rintro e w' ⟨rfl, n2, rfl⟩
    generalize hw2 : (w1.alloc (.cells #[.int .i64 a, .int .i64 b, .int .i64 c] 3)).drewN n2 = w2
    have hb2 : Below w.heap.size w w2 := by rw [← hw2]; exact below_drewN HB1.out _
    have hkb2 : Blk w2 w.heap.size 41 #[.int .i64 a, .int .i64 b, .int .i64 c] := by rw [← hw2]; exact HKB.out.drewN _
    have t2 : OpsC h w2 op st cb F s := HT.out.below hb2
    have HB2 := Lib.hid hb2
    have HKB2 := Lib.hid hkb2
    have HT2' := Lib.hid t2
    have HSP := Lib.hid (fun (n k : Nat) (hk : k < s.l.length) => split_any (v := s.top3 a b c) (.inl (opsIn_of (t2.of_heap (w' := w2.drewN n) (fun _ _ => rfl)))) hk)
    have la := HOK.out.la
    have lb := HOK.out.lb
    have lc := HOK.out.lc
    clear hw2 hb2 hkb2 t2
    go_wp2_with fail
    refine (HSP.out 0 a la).mono ?_
    rintro e w' ⟨rfl, m1, rfl⟩
    go_wp2_with fail
    refine (HSP.out _ b lb).mono ?_
    rintro e w' ⟨rfl, m2, rfl⟩
    go_wp2_with fail
    refine (HSP.out _ c lc).mono ?_
    rintro e w' ⟨rfl, m3, rfl⟩
    generalize hw3 : World.drewN _ _ = w3
    have hb3 : Below w.heap.size w w3 := by rw [← hw3]; exact below_drewN (below_drewN HB2.out _) _
    have hkb3 : Blk w3 w.heap.size 41 #[.int .i64 a, .int .i64 b, .int .i64 c] := by rw [← hw3]; exact (HKB2.out.drewN _).drewN _
    have t3 : OpsC h w3 op st cb F s := HT.out.below hb3
    have HB3 := Lib.hid hb3
    have HKB3 := Lib.hid hkb3
    have HT3 := Lib.hid t3
    have okl := HOK.out.lo ha
    have hbl := HOK.out.below ha false
    have HCALL := Lib.hid (HIH.out w3 F s _ _ _ t3 okl (by have := HD.out; omega))
    clear hw3 hb3 hkb3 t3 okl hbl
    go_wp2_with fail
    refine HCALL.out.mono ?_
    rintro e w4 ⟨lo, s1, F1, rfl, t4, g1, mv1⟩
    have okh := HOK.out.hi ha g1
    have hbh := HOK.out.below ha true
    have HCALL2 := Lib.hid (HIH.out w4 F1 s1 _ _ _ t4 okh.1 (by rw [okh.2, g1.le.vars]; have := HD.out; omega))
    have HT4 := Lib.hid t4
    have HG1 := Lib.hid g1
    have HMV1 := Lib.hid mv1
    clear okh hbh t4 g1 mv1
    go_wp2_with fail
    refine HCALL2.out.mono ?_
    rintro e w5 ⟨hi, s2, F2, rfl, t5, g2, mv2⟩
    obtain ⟨okm, hroom, gfin⟩ := HOK.out.fin ha HG1.out g2
    have hmv : Moves F F2 w w5 := ((Moves.of_below HB3.out).trans HMV1.out).trans mv2
    have hkb5 : Blk w5 w.heap.size 41 #[.int .i64 a, .int .i64 b, .int .i64 c] := by
      have hk4 := HMV1.out.keep.blk HKB3.out (HT3.out.not_mem HKB3.out (by decide) (by decide) (by decide) (by decide) (by decide) (by decide))
      exact mv2.keep.blk hk4 (HT4.out.not_mem hk4 (by decide) (by decide) (by decide) (by decide) (by decide) (by decide))
    obtain ⟨F3, n5, C5, hF5, tS5, hn5, hbo5, hbc5, hco5⟩ := t5
    have HMK := Lib.hid (mk_any H tS5 okm hroom)
    have g0 : w5.cell? ⟨op, 0, none⟩ = some (.pointer (some ⟨st, 0, none⟩)) := hbo5.cell_of rfl
    have HMV := Lib.hid hmv
    have HKB5 := Lib.hid hkb5
    have HF5 := Lib.hid hF5
    have HTS5 := Lib.hid tS5
    have HN5 := Lib.hid hn5
    have HBO5 := Lib.hid hbo5
    have HBC5 := Lib.hid hbc5
    have HCO5 := Lib.hid hco5
    have HGF := Lib.hid gfin
    have HG2 := Lib.hid g2
    have HMKO := Lib.hid okm
    clear okm hroom gfin g2 mv2 hmv hkb5 hF5 tS5 hn5 hbo5 hbc5 hco5
    go_wp2_with fail
    refine HMK.out.mono ?_
    rintro e w6 ⟨rfl, F6, tS6, mv6⟩
    have hnop : op ∉ F3 := HTS5.out.not_mem HBO5.out (by decide) (by decide) (by decide) (by decide)
    have hncb : cb ∉ F3 := HTS5.out.not_mem HBC5.out (by decide) (by decide) (by decide) (by decide)
    have hnkb : w.heap.size ∉ F3 := HTS5.out.not_mem HKB5.out (by decide) (by decide) (by decide) (by decide)
    have hbo6 := mv6.keep.blk HBO5.out hnop
    have hbc6 := mv6.keep.blk HBC5.out hncb
    have hkb6 := mv6.keep.blk HKB5.out hnkb
    have hCl5 : ci < C5.length := by rw [HCO5.out.len, ← HN.out]; exact hcil
    have hx5 := List.getElem?_eq_getElem hCl5
    have hu : ∀ j, j < 5 → ∃ u, w6.cell? ⟨cb, ci * 5 + j, none⟩ = some u := fun j hj =>
      ⟨_, found_cells hbc6 hx5 j _ hj (List.getElem?_eq_getElem (by rw [fcCells_length]; exact hj))⟩
    obtain ⟨u0, hu0⟩ := hu 0 (by omega)
    obtain ⟨u1, hu1⟩ := hu 1 (by omega)
    obtain ⟨u2, hu2⟩ := hu 2 (by omega)
    obtain ⟨u3, hu3⟩ := hu 3 (by omega)
    obtain ⟨u4, hu4⟩ := hu 4 (by omega)
    rw [Nat.add_zero] at hu0
    have z0 : w6.frozen? ⟨cb, ci * 5, none⟩ = false := hbc6.frozen _
    have z1 : w6.frozen? ⟨cb, ci * 5 + 1, none⟩ = false := hbc6.frozen _
    have z2 : w6.frozen? ⟨cb, ci * 5 + 2, none⟩ = false := hbc6.frozen _
    have z3 : w6.frozen? ⟨cb, ci * 5 + 3, none⟩ = false := hbc6.frozen _
    have z4 : w6.frozen? ⟨cb, ci * 5 + 4, none⟩ = false := hbc6.frozen _
    have y1 : w6.cell? ⟨w.heap.size, 0, none⟩ = some (.int .i64 a) := hkb6.cell_of rfl
    have y2 : w6.cell? ⟨w.heap.size, 1, none⟩ = some (.int .i64 b) := hkb6.cell_of rfl
    have y3 : w6.cell? ⟨w.heap.size, 2, none⟩ = some (.int .i64 c) := hkb6.cell_of rfl
    have hset := fcArr_set C5 ci hCl5 (some ((a, b, c), (s2.mkn (s.top3 a b c) lo hi).1)) _ _ _ _ _ rfl
    have HSET := Lib.hid hset
    have HBO6 := Lib.hid hbo6
    have HBC6 := Lib.hid hbc6
    have HTS6 := Lib.hid tS6
    have HMV6 := Lib.hid mv6
    have gf := HGF.out
    have kgl := gf.lt
    have HGF' := Lib.hid gf
    have hne1 : op ≠ cb := hbo6.ne_ hbc6 (by decide)
    generalize hkk : (s2.mkn (s.top3 a b c) lo hi).1 = kk at *
    generalize hss : (s2.mkn (s.top3 a b c) lo hi).2 = ss at *
    have HKK := Lib.hid hkk
    have HSS := Lib.hid hss
    clear hnop hnkb hbo6 hbc6 hkb6 hx5 hu hset tS6 mv6 gf hkk hss kgl
    go_wp2
    go_ret2
    have hle := HGF'.out.le
    have hl := hle.len
    have wfs := HGF'.out.wf
    have l2 : s2.Le ss := by rw [← HSS.out]; exact (St.mk_gives HG2.out.wf HMKO.out 0).le
    have hk7 := (((((Keep.refl [cb] w6).setCell (p := ⟨cb, ci * 5, none⟩) (.inl (by simp)) (.bool true)).setCell (p := ⟨cb, ci * 5 + 1, none⟩) (.inl (by simp)) (.int .i64 a)).setCell (p := ⟨cb, ci * 5 + 2, none⟩) (.inl (by simp)) (.int .i64 b)).setCell (p := ⟨cb, ci * 5 + 3, none⟩) (.inl (by simp)) (.int .i64 c)).setCell (p := ⟨cb, ci * 5 + 4, none⟩) (.inl (by simp)) (.int .i64 kk)
    have hncb6 : cb ∉ F6 := HTS6.out.not_mem HBC6.out (by decide) (by decide) (by decide) (by decide)
    refine ⟨kk, ss, op :: cb :: F6, rfl, ⟨F6, n5, C5.set ci (some ((a, b, c), kk)), rfl, ?_, HN5.out, ?_, ?_, ?_⟩, HGF'.out, ?_⟩
    · exact HTS6.out.keep hk7 (fun x hx => by simp; rintro rfl; exact hncb6 hx)
    · exact hk7.blk HBO6.out (by simp [hne1])
    · rw [← HSET.out]
      exact ((((HBC6.out.set_ (ci * 5) _).set_ (ci * 5 + 1) _).set_ (ci * 5 + 2) _).set_ (ci * 5 + 3) _).set_ (ci * 5 + 4) _
    · refine (HCO5.out.le l2 HG2.out.wf wfs).set ci (by omega) (by omega) (by omega) HGF'.out.lt (fun e => ?_) ?_
      · rw [HGF'.out.ev, iteF_le hle HOK.out.wf wfs la lb lc]
      · rw [top3_le' hle la lb lc]; exact HGF'.out.top
    · have hmv := HMV.out
      rw [HF5.out] at hmv
      refine (hmv.trans (moves_more HMV6.out [op, cb])).trans (Moves.of_keep (hk7.mono fun x hx => ?_))
      simp at hx; simp [hx]

set_option maxHeartbeats 2000000 in
set_option maxRecDepth 100000 in
theorem ite_rec_T {h : Key → Nat} (H : IsHash h) {w : World} {op st cb : Nat} {F : List Nat} {s : St} (t : OpsC h w op st cb F s) {p : Nat → Bool} {L B a b c d : Nat} (ok : s.IteOk p L B a b c) (ha : 2 ≤ a) (hbc : b ≠ c) (eb1 : ((b : Int) == 1) = true) (ec0 : ((c : Int) == 0) = false)
    (hd : s.vars - s.top3 a b c ≤ d + 1) (ih : IteIH h op st cb p L B d) :
    Calls Tryz.prog 103 #[.pointer (some ⟨op, 0, none⟩), .int .i64 a, .int .i64 b, .int .i64 c] w (IteP h op st cb F s p L a b c w) := by
  have HT := Lib.hid t
  have HOK := Lib.hid ok
  have HIH := Lib.hid ih
  obtain ⟨F0, n, C, hF, tS, hn, hbo, hbc', hco⟩ := t
  obtain ⟨lb, cap, ht, pl, P, hF0, tN⟩ := id tS
  have hsm := tN.most
  have hsm2 := tN.small
  have b1 := ok.la
  have b2 := ok.lb
  have b3 := ok.lc
  have ha' : a < 65537 := by omega
  have hb' : b < 65537 := by omega
  have hc' : c < 65537 := by omega
  have hix := cache_ix a b c ha' hb' hc'
  have hcil : (a * 7 + b * 31 + c * 127) % 4096 < n := by rw [hn]; exact Nat.mod_lt _ (by omega)
  generalize hci : (a * 7 + b * 31 + c * 127) % 4096 = ci at hix hcil
  have hCl : ci < C.length := by rw [hco.len, ← hn]; exact hcil
  have e1 : ((a : Int) == 1) = false := by rw [beq_eq_false_iff_ne]; omega
  have e0 : ((a : Int) == 0) = false := by rw [beq_eq_false_iff_ne]; omega
  have ebc : ((b : Int) == (c : Int)) = false := by rw [beq_eq_false_iff_ne]; omega
  have h0 : w.cell? ⟨op, 0, none⟩ = some (.pointer (some ⟨st, 0, none⟩)) := hbo.cell_of rfl
  have h4 : w.cell? ⟨op, 4, none⟩ = some (.slice (some ⟨cb, 0, none⟩) n n) := hbo.cell_of rfl
  have hlo := hbo.lt
  have hlc := hbc'.lt
  have hnb : n ≤ 65536 := by omega
  have HCI := Lib.hid hci
  have HN := Lib.hid hn
  have HC := Lib.hid hbc'
  have HBO := Lib.hid hbo
  have HCO := Lib.hid hco
  have HS := Lib.hid tS
  have HF := Lib.hid hF
  have HBC := Lib.hid hbc
  have HD := Lib.hid hd
  have hcell := found_cells hbc' (List.getElem?_eq_getElem hCl)
  generalize hx : C[ci] = x at hcell
  have HX := Lib.hid hx
  have HIX := Lib.hid hix
  clear ok ih tS hn hco hF hF0 tN hci hbc hd hx hsm hsm2 b1 b2 b3 hix
  cases x with
  | some Kv =>
    obtain ⟨⟨a', b', c'⟩, v⟩ := Kv
    have c0 : w.cell? ⟨cb, ci * 5, none⟩ = some (.bool true) := hcell 0 _ (by omega) rfl
    have c1 : w.cell? ⟨cb, ci * 5 + 1, none⟩ = some (.int .i64 a') := hcell 1 _ (by omega) rfl
    have c2 : w.cell? ⟨cb, ci * 5 + 2, none⟩ = some (.int .i64 b') := hcell 2 _ (by omega) rfl
    have c3 : w.cell? ⟨cb, ci * 5 + 3, none⟩ = some (.int .i64 c') := hcell 3 _ (by omega) rfl
    have c4 : w.cell? ⟨cb, ci * 5 + 4, none⟩ = some (.int .i64 v) := hcell 4 _ (by omega) rfl
    clear hcell hbo hbc'
    by_cases hK : (a', b', c') = (a, b, c)
    · injection hK with hK1 hK2; injection hK2 with hK2 hK3
      subst hK1 hK2 hK3
      have q := fun w => eq41 a' b' c' a' b' c' w
      simp only [beq_self_eq_true, Bool.and_self] at q
      have HQ := Lib.hid q
      clear q
      have hix := HIX.out
      go_enter Tryz.func103, Tryz.ntmps103
      go_wp2_with fail
      have q := HQ.out
      go_quiet (fail)
      go_wp2
      go_ret2
      have hxx : C[ci]? = some (some ((a', b', c'), v)) := by rw [List.getElem?_eq_getElem hCl, HX.out]
      obtain ⟨_, _, _, k4, k5, k6⟩ := HCO.out.ok ci a' b' c' v hxx
      have hbl := (below_drewN ((Below.refl w.heap.size w).alloc (Nat.le_refl _) (.cells #[.int .i64 a', .int .i64 b', .int .i64 c'] 41)) nq)
      exact ⟨v, s, F, rfl, HT.out.below hbl, gives_same HOK.out k4 k5 k6, .of_below hbl⟩
    · have q : ∀ w, (binOp .eql 41 (.agg #[.int .i64 a', .int .i64 b', .int .i64 c']) (.agg #[.int .i64 a, .int .i64 b, .int .i64 c])).run Tryz.prog w = .ok (.bool false) w := fun w => by
        rw [eq41]
        have : ((a' : Int) == (a : Int) && ((b' : Int) == (b : Int) && (c' : Int) == (c : Int))) = false := by
          rw [Bool.eq_false_iff]; intro hh
          simp only [Bool.and_eq_true, beq_iff_eq] at hh
          exact hK (by rw [Int.ofNat_inj.1 hh.1, Int.ofNat_inj.1 hh.2.1, Int.ofNat_inj.1 hh.2.2])
        rw [this]
      have HQ := Lib.hid q
      clear q hK
      have hix := HIX.out
      go_enter Tryz.func103, Tryz.ntmps103
      go_wp2_with fail
      have q := HQ.out
      go_quiet (fail)
      generalize hw1 : (w.alloc (.cells #[.int .i64 a, .int .i64 b, .int .i64 c] 41)).drewN _ = w1
      have hb1 : Below w.heap.size w w1 := by rw [← hw1]; exact (below_drewN ((Below.refl w.heap.size w).alloc (Nat.le_refl _) (.cells #[.int .i64 a, .int .i64 b, .int .i64 c] 41)) _)
      have hkb : Blk w1 w.heap.size 41 #[.int .i64 a, .int .i64 b, .int .i64 c] := by rw [← hw1]; exact (Blk.new w 41 _).drewN _
      have t1 : OpsC h w1 op st cb F s := HT.out.below hb1
      have hs1 : w.heap.size < w1.heap.size := hkb.lt
      clear hw1 h0 h4 c0 c1 c2 c3 c4
      have hbA : Below w1.heap.size w1 (w1.alloc (.cells #[.int .i64 a, .int .i64 b, .int .i64 c] 3)) := (Below.refl _ _).alloc (Nat.le_refl _) _
      have t2 := t1.below hbA
      have hsb : Blk (w1.alloc (.cells #[.int .i64 a, .int .i64 b, .int .i64 c] 3)) w1.heap.size 3 #[.int .i64 a, .int .i64 b, .int .i64 c] := Blk.new w1 3 _
      have HTOP := Lib.hid (top_any (.inl (opsIn_of t2)) w1.heap.size 3 (fun i => if i = 0 then a else if i = 1 then b else c)
        (fun i hi => by
          rcases (show i = 0 ∨ i = 1 ∨ i = 2 by omega) with rfl | rfl | rfl
          · exact hsb.cell_of rfl
          · exact hsb.cell_of rfl
          · exact hsb.cell_of rfl)
        (fun i hi => by
          rcases (show i = 0 ∨ i = 1 ∨ i = 2 by omega) with rfl | rfl | rfl
          · exact HOK.out.la
          · exact HOK.out.lb
          · exact HOK.out.lc) (by omega))
      have HB1 := Lib.hid (hb1.trans (hbA.mono hb1.size))
      have HKB := Lib.hid (hkb.alloc (.cells #[.int .i64 a, .int .i64 b, .int .i64 c] 3))
      have HT2 := Lib.hid t2
      obtain ⟨hv, hp⟩ := HOK.out.top ha
      have hv0 : topN s (fun i => if i = 0 then a else if i = 1 then b else c) 3 = s.top3 a b c := by
        have l1 := St.v_le HOK.out.wf HOK.out.la
        show min (min (min s.vars (s.nd a).v) (s.nd b).v) (s.nd c).v = min (s.nd a).v (min (s.nd b).v (s.nd c).v)
        omega
      rw [hv0] at HTOP
      have HVL := Lib.hid hv
      clear hb1 hkb t1 hbA t2 hsb hv0 hp hv
      go_wp2_with fail
      refine HTOP.out.mono ?_
      rintro e w' ⟨rfl, n2, rfl⟩
      generalize hw2 : (w1.alloc (.cells #[.int .i64 a, .int .i64 b, .int .i64 c] 3)).drewN n2 = w2
      have hb2 : Below w.heap.size w w2 := by rw [← hw2]; exact below_drewN HB1.out _
      have hkb2 : Blk w2 w.heap.size 41 #[.int .i64 a, .int .i64 b, .int .i64 c] := by rw [← hw2]; exact HKB.out.drewN _
      have t2 : OpsC h w2 op st cb F s := HT.out.below hb2
      have HB2 := Lib.hid hb2
      have HKB2 := Lib.hid hkb2
      have HT2' := Lib.hid t2
      have HSP := Lib.hid (fun (n k : Nat) (hk : k < s.l.length) => split_any (v := s.top3 a b c) (.inl (opsIn_of (t2.of_heap (w' := w2.drewN n) (fun _ _ => rfl)))) hk)
      have la := HOK.out.la
      have lb := HOK.out.lb
      have lc := HOK.out.lc
      clear hw2 hb2 hkb2 t2
      go_wp2_with fail
      refine (HSP.out 0 a la).mono ?_
      rintro e w' ⟨rfl, m1, rfl⟩
      go_wp2_with fail
      refine (HSP.out _ b lb).mono ?_
      rintro e w' ⟨rfl, m2, rfl⟩
      go_wp2_with fail
      refine (HSP.out _ c lc).mono ?_
      rintro e w' ⟨rfl, m3, rfl⟩
      generalize hw3 : World.drewN _ _ = w3
      have hb3 : Below w.heap.size w w3 := by rw [← hw3]; exact below_drewN (below_drewN HB2.out _) _
      have hkb3 : Blk w3 w.heap.size 41 #[.int .i64 a, .int .i64 b, .int .i64 c] := by rw [← hw3]; exact (HKB2.out.drewN _).drewN _
      have t3 : OpsC h w3 op st cb F s := HT.out.below hb3
      have HB3 := Lib.hid hb3
      have HKB3 := Lib.hid hkb3
      have HT3 := Lib.hid t3
      have okl := HOK.out.lo ha
      have hbl := HOK.out.below ha false
      have HCALL := Lib.hid (HIH.out w3 F s _ _ _ t3 okl (by have := HD.out; omega))
      clear hw3 hb3 hkb3 t3 okl hbl
      go_wp2_with fail
      refine HCALL.out.mono ?_
      rintro e w4 ⟨lo, s1, F1, rfl, t4, g1, mv1⟩
      have okh := HOK.out.hi ha g1
      have hbh := HOK.out.below ha true
      have HCALL2 := Lib.hid (HIH.out w4 F1 s1 _ _ _ t4 okh.1 (by rw [okh.2, g1.le.vars]; have := HD.out; omega))
      have HT4 := Lib.hid t4
      have HG1 := Lib.hid g1
      have HMV1 := Lib.hid mv1
      clear okh hbh t4 g1 mv1
      go_wp2_with fail
      refine HCALL2.out.mono ?_
      rintro e w5 ⟨hi, s2, F2, rfl, t5, g2, mv2⟩
      obtain ⟨okm, hroom, gfin⟩ := HOK.out.fin ha HG1.out g2
      have hmv : Moves F F2 w w5 := ((Moves.of_below HB3.out).trans HMV1.out).trans mv2
      have hkb5 : Blk w5 w.heap.size 41 #[.int .i64 a, .int .i64 b, .int .i64 c] := by
        have hk4 := HMV1.out.keep.blk HKB3.out (HT3.out.not_mem HKB3.out (by decide) (by decide) (by decide) (by decide) (by decide) (by decide))
        exact mv2.keep.blk hk4 (HT4.out.not_mem hk4 (by decide) (by decide) (by decide) (by decide) (by decide) (by decide))
      obtain ⟨F3, n5, C5, hF5, tS5, hn5, hbo5, hbc5, hco5⟩ := t5
      have HMK := Lib.hid (mk_any H tS5 okm hroom)
      have g0 : w5.cell? ⟨op, 0, none⟩ = some (.pointer (some ⟨st, 0, none⟩)) := hbo5.cell_of rfl
      have HMV := Lib.hid hmv
      have HKB5 := Lib.hid hkb5
      have HF5 := Lib.hid hF5
      have HTS5 := Lib.hid tS5
      have HN5 := Lib.hid hn5
      have HBO5 := Lib.hid hbo5
      have HBC5 := Lib.hid hbc5
      have HCO5 := Lib.hid hco5
      have HGF := Lib.hid gfin
      have HG2 := Lib.hid g2
      have HMKO := Lib.hid okm
      clear okm hroom gfin g2 mv2 hmv hkb5 hF5 tS5 hn5 hbo5 hbc5 hco5
      go_wp2_with fail
      refine HMK.out.mono ?_
      rintro e w6 ⟨rfl, F6, tS6, mv6⟩
      have hnop : op ∉ F3 := HTS5.out.not_mem HBO5.out (by decide) (by decide) (by decide) (by decide)
      have hncb : cb ∉ F3 := HTS5.out.not_mem HBC5.out (by decide) (by decide) (by decide) (by decide)
      have hnkb : w.heap.size ∉ F3 := HTS5.out.not_mem HKB5.out (by decide) (by decide) (by decide) (by decide)
      have hbo6 := mv6.keep.blk HBO5.out hnop
      have hbc6 := mv6.keep.blk HBC5.out hncb
      have hkb6 := mv6.keep.blk HKB5.out hnkb
      have hCl5 : ci < C5.length := by rw [HCO5.out.len, ← HN.out]; exact hcil
      have hx5 := List.getElem?_eq_getElem hCl5
      have hu : ∀ j, j < 5 → ∃ u, w6.cell? ⟨cb, ci * 5 + j, none⟩ = some u := fun j hj =>
        ⟨_, found_cells hbc6 hx5 j _ hj (List.getElem?_eq_getElem (by rw [fcCells_length]; exact hj))⟩
      obtain ⟨u0, hu0⟩ := hu 0 (by omega)
      obtain ⟨u1, hu1⟩ := hu 1 (by omega)
      obtain ⟨u2, hu2⟩ := hu 2 (by omega)
      obtain ⟨u3, hu3⟩ := hu 3 (by omega)
      obtain ⟨u4, hu4⟩ := hu 4 (by omega)
      rw [Nat.add_zero] at hu0
      have z0 : w6.frozen? ⟨cb, ci * 5, none⟩ = false := hbc6.frozen _
      have z1 : w6.frozen? ⟨cb, ci * 5 + 1, none⟩ = false := hbc6.frozen _
      have z2 : w6.frozen? ⟨cb, ci * 5 + 2, none⟩ = false := hbc6.frozen _
      have z3 : w6.frozen? ⟨cb, ci * 5 + 3, none⟩ = false := hbc6.frozen _
      have z4 : w6.frozen? ⟨cb, ci * 5 + 4, none⟩ = false := hbc6.frozen _
      have y1 : w6.cell? ⟨w.heap.size, 0, none⟩ = some (.int .i64 a) := hkb6.cell_of rfl
      have y2 : w6.cell? ⟨w.heap.size, 1, none⟩ = some (.int .i64 b) := hkb6.cell_of rfl
      have y3 : w6.cell? ⟨w.heap.size, 2, none⟩ = some (.int .i64 c) := hkb6.cell_of rfl
      have hset := fcArr_set C5 ci hCl5 (some ((a, b, c), (s2.mkn (s.top3 a b c) lo hi).1)) _ _ _ _ _ rfl
      have HSET := Lib.hid hset
      have HBO6 := Lib.hid hbo6
      have HBC6 := Lib.hid hbc6
      have HTS6 := Lib.hid tS6
      have HMV6 := Lib.hid mv6
      have gf := HGF.out
      have kgl := gf.lt
      have HGF' := Lib.hid gf
      have hne1 : op ≠ cb := hbo6.ne_ hbc6 (by decide)
      generalize hkk : (s2.mkn (s.top3 a b c) lo hi).1 = kk at *
      generalize hss : (s2.mkn (s.top3 a b c) lo hi).2 = ss at *
      have HKK := Lib.hid hkk
      have HSS := Lib.hid hss
      clear hnop hnkb hbo6 hbc6 hkb6 hx5 hu hset tS6 mv6 gf hkk hss kgl
      go_wp2
      go_ret2
      have hle := HGF'.out.le
      have hl := hle.len
      have wfs := HGF'.out.wf
      have l2 : s2.Le ss := by rw [← HSS.out]; exact (St.mk_gives HG2.out.wf HMKO.out 0).le
      have hk7 := (((((Keep.refl [cb] w6).setCell (p := ⟨cb, ci * 5, none⟩) (.inl (by simp)) (.bool true)).setCell (p := ⟨cb, ci * 5 + 1, none⟩) (.inl (by simp)) (.int .i64 a)).setCell (p := ⟨cb, ci * 5 + 2, none⟩) (.inl (by simp)) (.int .i64 b)).setCell (p := ⟨cb, ci * 5 + 3, none⟩) (.inl (by simp)) (.int .i64 c)).setCell (p := ⟨cb, ci * 5 + 4, none⟩) (.inl (by simp)) (.int .i64 kk)
      have hncb6 : cb ∉ F6 := HTS6.out.not_mem HBC6.out (by decide) (by decide) (by decide) (by decide)
      refine ⟨kk, ss, op :: cb :: F6, rfl, ⟨F6, n5, C5.set ci (some ((a, b, c), kk)), rfl, ?_, HN5.out, ?_, ?_, ?_⟩, HGF'.out, ?_⟩
      · exact HTS6.out.keep hk7 (fun x hx => by simp; rintro rfl; exact hncb6 hx)
      · exact hk7.blk HBO6.out (by simp [hne1])
      · rw [← HSET.out]
        exact ((((HBC6.out.set_ (ci * 5) _).set_ (ci * 5 + 1) _).set_ (ci * 5 + 2) _).set_ (ci * 5 + 3) _).set_ (ci * 5 + 4) _
      · refine (HCO5.out.le l2 HG2.out.wf wfs).set ci (by omega) (by omega) (by omega) HGF'.out.lt (fun e => ?_) ?_
        · rw [HGF'.out.ev, iteF_le hle HOK.out.wf wfs la lb lc]
        · rw [top3_le' hle la lb lc]; exact HGF'.out.top
      · have hmv := HMV.out
        rw [HF5.out] at hmv
        refine (hmv.trans (moves_more HMV6.out [op, cb])).trans (Moves.of_keep (hk7.mono fun x hx => ?_))
        simp at hx; simp [hx]
  | none =>
    have c0 : w.cell? ⟨cb, ci * 5, none⟩ = some (.bool false) := hcell 0 _ (by omega) rfl
    clear hcell hbo hbc'
    have hix := HIX.out
    go_enter Tryz.func103, Tryz.ntmps103
    go_wp2_with fail
    go_quiet (fail)
    generalize hw1 : (w.alloc (.cells #[.int .i64 a, .int .i64 b, .int .i64 c] 41)).drewN _ = w1
    have hb1 : Below w.heap.size w w1 := by rw [← hw1]; exact (below_drewN ((Below.refl w.heap.size w).alloc (Nat.le_refl _) (.cells #[.int .i64 a, .int .i64 b, .int .i64 c] 41)) _)
    have hkb : Blk w1 w.heap.size 41 #[.int .i64 a, .int .i64 b, .int .i64 c] := by rw [← hw1]; exact (Blk.new w 41 _).drewN _
    have t1 : OpsC h w1 op st cb F s := HT.out.below hb1
    have hs1 : w.heap.size < w1.heap.size := hkb.lt
    clear hw1 h0 h4 c0
    have hbA : Below w1.heap.size w1 (w1.alloc (.cells #[.int .i64 a, .int .i64 b, .int .i64 c] 3)) := (Below.refl _ _).alloc (Nat.le_refl _) _
    have t2 := t1.below hbA
    have hsb : Blk (w1.alloc (.cells #[.int .i64 a, .int .i64 b, .int .i64 c] 3)) w1.heap.size 3 #[.int .i64 a, .int .i64 b, .int .i64 c] := Blk.new w1 3 _
    have HTOP := Lib.hid (top_any (.inl (opsIn_of t2)) w1.heap.size 3 (fun i => if i = 0 then a else if i = 1 then b else c)
      (fun i hi => by
        rcases (show i = 0 ∨ i = 1 ∨ i = 2 by omega) with rfl | rfl | rfl
        · exact hsb.cell_of rfl
        · exact hsb.cell_of rfl
        · exact hsb.cell_of rfl)
      (fun i hi => by
        rcases (show i = 0 ∨ i = 1 ∨ i = 2 by omega) with rfl | rfl | rfl
        · exact HOK.out.la
        · exact HOK.out.lb
        · exact HOK.out.lc) (by omega))
    have HB1 := Lib.hid (hb1.trans (hbA.mono hb1.size))
    have HKB := Lib.hid (hkb.alloc (.cells #[.int .i64 a, .int .i64 b, .int .i64 c] 3))
    have HT2 := Lib.hid t2
    obtain ⟨hv, hp⟩ := HOK.out.top ha
    have hv0 : topN s (fun i => if i = 0 then a else if i = 1 then b else c) 3 = s.top3 a b c := by
      have l1 := St.v_le HOK.out.wf HOK.out.la
      show min (min (min s.vars (s.nd a).v) (s.nd b).v) (s.nd c).v = min (s.nd a).v (min (s.nd b).v (s.nd c).v)
      omega
    rw [hv0] at HTOP
    have HVL := Lib.hid hv
    clear hb1 hkb t1 hbA t2 hsb hv0 hp hv
    go_wp2_with fail
    refine HTOP.out.mono ?_
    rintro e w' ⟨rfl, n2, rfl⟩
    generalize hw2 : (w1.alloc (.cells #[.int .i64 a, .int .i64 b, .int .i64 c] 3)).drewN n2 = w2
    have hb2 : Below w.heap.size w w2 := by rw [← hw2]; exact below_drewN HB1.out _
    have hkb2 : Blk w2 w.heap.size 41 #[.int .i64 a, .int .i64 b, .int .i64 c] := by rw [← hw2]; exact HKB.out.drewN _
    have t2 : OpsC h w2 op st cb F s := HT.out.below hb2
    have HB2 := Lib.hid hb2
    have HKB2 := Lib.hid hkb2
    have HT2' := Lib.hid t2
    have HSP := Lib.hid (fun (n k : Nat) (hk : k < s.l.length) => split_any (v := s.top3 a b c) (.inl (opsIn_of (t2.of_heap (w' := w2.drewN n) (fun _ _ => rfl)))) hk)
    have la := HOK.out.la
    have lb := HOK.out.lb
    have lc := HOK.out.lc
    clear hw2 hb2 hkb2 t2
    go_wp2_with fail
    refine (HSP.out 0 a la).mono ?_
    rintro e w' ⟨rfl, m1, rfl⟩
    go_wp2_with fail
    refine (HSP.out _ b lb).mono ?_
    rintro e w' ⟨rfl, m2, rfl⟩
    go_wp2_with fail
    refine (HSP.out _ c lc).mono ?_
    rintro e w' ⟨rfl, m3, rfl⟩
    generalize hw3 : World.drewN _ _ = w3
    have hb3 : Below w.heap.size w w3 := by rw [← hw3]; exact below_drewN (below_drewN HB2.out _) _
    have hkb3 : Blk w3 w.heap.size 41 #[.int .i64 a, .int .i64 b, .int .i64 c] := by rw [← hw3]; exact (HKB2.out.drewN _).drewN _
    have t3 : OpsC h w3 op st cb F s := HT.out.below hb3
    have HB3 := Lib.hid hb3
    have HKB3 := Lib.hid hkb3
    have HT3 := Lib.hid t3
    have okl := HOK.out.lo ha
    have hbl := HOK.out.below ha false
    have HCALL := Lib.hid (HIH.out w3 F s _ _ _ t3 okl (by have := HD.out; omega))
    clear hw3 hb3 hkb3 t3 okl hbl
    go_wp2_with fail
    refine HCALL.out.mono ?_
    rintro e w4 ⟨lo, s1, F1, rfl, t4, g1, mv1⟩
    have okh := HOK.out.hi ha g1
    have hbh := HOK.out.below ha true
    have HCALL2 := Lib.hid (HIH.out w4 F1 s1 _ _ _ t4 okh.1 (by rw [okh.2, g1.le.vars]; have := HD.out; omega))
    have HT4 := Lib.hid t4
    have HG1 := Lib.hid g1
    have HMV1 := Lib.hid mv1
    clear okh hbh t4 g1 mv1
    go_wp2_with fail
    refine HCALL2.out.mono ?_
    rintro e w5 ⟨hi, s2, F2, rfl, t5, g2, mv2⟩
    obtain ⟨okm, hroom, gfin⟩ := HOK.out.fin ha HG1.out g2
    have hmv : Moves F F2 w w5 := ((Moves.of_below HB3.out).trans HMV1.out).trans mv2
    have hkb5 : Blk w5 w.heap.size 41 #[.int .i64 a, .int .i64 b, .int .i64 c] := by
      have hk4 := HMV1.out.keep.blk HKB3.out (HT3.out.not_mem HKB3.out (by decide) (by decide) (by decide) (by decide) (by decide) (by decide))
      exact mv2.keep.blk hk4 (HT4.out.not_mem hk4 (by decide) (by decide) (by decide) (by decide) (by decide) (by decide))
    obtain ⟨F3, n5, C5, hF5, tS5, hn5, hbo5, hbc5, hco5⟩ := t5
    have HMK := Lib.hid (mk_any H tS5 okm hroom)
    have g0 : w5.cell? ⟨op, 0, none⟩ = some (.pointer (some ⟨st, 0, none⟩)) := hbo5.cell_of rfl
    have HMV := Lib.hid hmv
    have HKB5 := Lib.hid hkb5
    have HF5 := Lib.hid hF5
    have HTS5 := Lib.hid tS5
    have HN5 := Lib.hid hn5
    have HBO5 := Lib.hid hbo5
    have HBC5 := Lib.hid hbc5
    have HCO5 := Lib.hid hco5
    have HGF := Lib.hid gfin
    have HG2 := Lib.hid g2
    have HMKO := Lib.hid okm
    clear okm hroom gfin g2 mv2 hmv hkb5 hF5 tS5 hn5 hbo5 hbc5 hco5
    go_wp2_with fail
    refine HMK.out.mono ?_
    rintro e w6 ⟨rfl, F6, tS6, mv6⟩
    have hnop : op ∉ F3 := HTS5.out.not_mem HBO5.out (by decide) (by decide) (by decide) (by decide)
    have hncb : cb ∉ F3 := HTS5.out.not_mem HBC5.out (by decide) (by decide) (by decide) (by decide)
    have hnkb : w.heap.size ∉ F3 := HTS5.out.not_mem HKB5.out (by decide) (by decide) (by decide) (by decide)
    have hbo6 := mv6.keep.blk HBO5.out hnop
    have hbc6 := mv6.keep.blk HBC5.out hncb
    have hkb6 := mv6.keep.blk HKB5.out hnkb
    have hCl5 : ci < C5.length := by rw [HCO5.out.len, ← HN.out]; exact hcil
    have hx5 := List.getElem?_eq_getElem hCl5
    have hu : ∀ j, j < 5 → ∃ u, w6.cell? ⟨cb, ci * 5 + j, none⟩ = some u := fun j hj =>
      ⟨_, found_cells hbc6 hx5 j _ hj (List.getElem?_eq_getElem (by rw [fcCells_length]; exact hj))⟩
    obtain ⟨u0, hu0⟩ := hu 0 (by omega)
    obtain ⟨u1, hu1⟩ := hu 1 (by omega)
    obtain ⟨u2, hu2⟩ := hu 2 (by omega)
    obtain ⟨u3, hu3⟩ := hu 3 (by omega)
    obtain ⟨u4, hu4⟩ := hu 4 (by omega)
    rw [Nat.add_zero] at hu0
    have z0 : w6.frozen? ⟨cb, ci * 5, none⟩ = false := hbc6.frozen _
    have z1 : w6.frozen? ⟨cb, ci * 5 + 1, none⟩ = false := hbc6.frozen _
    have z2 : w6.frozen? ⟨cb, ci * 5 + 2, none⟩ = false := hbc6.frozen _
    have z3 : w6.frozen? ⟨cb, ci * 5 + 3, none⟩ = false := hbc6.frozen _
    have z4 : w6.frozen? ⟨cb, ci * 5 + 4, none⟩ = false := hbc6.frozen _
    have y1 : w6.cell? ⟨w.heap.size, 0, none⟩ = some (.int .i64 a) := hkb6.cell_of rfl
    have y2 : w6.cell? ⟨w.heap.size, 1, none⟩ = some (.int .i64 b) := hkb6.cell_of rfl
    have y3 : w6.cell? ⟨w.heap.size, 2, none⟩ = some (.int .i64 c) := hkb6.cell_of rfl
    have hset := fcArr_set C5 ci hCl5 (some ((a, b, c), (s2.mkn (s.top3 a b c) lo hi).1)) _ _ _ _ _ rfl
    have HSET := Lib.hid hset
    have HBO6 := Lib.hid hbo6
    have HBC6 := Lib.hid hbc6
    have HTS6 := Lib.hid tS6
    have HMV6 := Lib.hid mv6
    have gf := HGF.out
    have kgl := gf.lt
    have HGF' := Lib.hid gf
    have hne1 : op ≠ cb := hbo6.ne_ hbc6 (by decide)
    generalize hkk : (s2.mkn (s.top3 a b c) lo hi).1 = kk at *
    generalize hss : (s2.mkn (s.top3 a b c) lo hi).2 = ss at *
    have HKK := Lib.hid hkk
    have HSS := Lib.hid hss
    clear hnop hnkb hbo6 hbc6 hkb6 hx5 hu hset tS6 mv6 gf hkk hss kgl
    go_wp2
    go_ret2
    have hle := HGF'.out.le
    have hl := hle.len
    have wfs := HGF'.out.wf
    have l2 : s2.Le ss := by rw [← HSS.out]; exact (St.mk_gives HG2.out.wf HMKO.out 0).le
    have hk7 := (((((Keep.refl [cb] w6).setCell (p := ⟨cb, ci * 5, none⟩) (.inl (by simp)) (.bool true)).setCell (p := ⟨cb, ci * 5 + 1, none⟩) (.inl (by simp)) (.int .i64 a)).setCell (p := ⟨cb, ci * 5 + 2, none⟩) (.inl (by simp)) (.int .i64 b)).setCell (p := ⟨cb, ci * 5 + 3, none⟩) (.inl (by simp)) (.int .i64 c)).setCell (p := ⟨cb, ci * 5 + 4, none⟩) (.inl (by simp)) (.int .i64 kk)
    have hncb6 : cb ∉ F6 := HTS6.out.not_mem HBC6.out (by decide) (by decide) (by decide) (by decide)
    refine ⟨kk, ss, op :: cb :: F6, rfl, ⟨F6, n5, C5.set ci (some ((a, b, c), kk)), rfl, ?_, HN5.out, ?_, ?_, ?_⟩, HGF'.out, ?_⟩
    · exact HTS6.out.keep hk7 (fun x hx => by simp; rintro rfl; exact hncb6 hx)
    · exact hk7.blk HBO6.out (by simp [hne1])
    · rw [← HSET.out]
      exact ((((HBC6.out.set_ (ci * 5) _).set_ (ci * 5 + 1) _).set_ (ci * 5 + 2) _).set_ (ci * 5 + 3) _).set_ (ci * 5 + 4) _
    · refine (HCO5.out.le l2 HG2.out.wf wfs).set ci (by omega) (by omega) (by omega) HGF'.out.lt (fun e => ?_) ?_
      · rw [HGF'.out.ev, iteF_le hle HOK.out.wf wfs la lb lc]
      · rw [top3_le' hle la lb lc]; exact HGF'.out.top
    · have hmv := HMV.out
      rw [HF5.out] at hmv
      refine (hmv.trans (moves_more HMV6.out [op, cb])).trans (Moves.of_keep (hk7.mono fun x hx => ?_))
      simp at hx; simp [hx]

/-- If-then-else of nodes: by induction on how many variables stand behind the first one that is asked. -/
theorem ite_all {h : Key → Nat} (H : IsHash h) (op st cb : Nat) (p : Nat → Bool) (L B : Nat) : ∀ d, IteIH h op st cb p L B d := by
  intro d
  induction d with
  | zero =>
    intro w F s a b c t ok hd
    by_cases h1 : a = 1
    · subst h1; exact ite_a1 t ok
    by_cases hbc : b = c
    · subst hbc; exact ite_bc t ok h1
    by_cases h0 : a = 0
    · subst h0; exact ite_a0 t ok hbc
    have := (ok.top (by omega)).1
    omega
  | succ d ih =>
    intro w F s a b c t ok hd
    by_cases h1 : a = 1
    · subst h1; exact ite_a1 t ok
    by_cases hbc : b = c
    · subst hbc; exact ite_bc t ok h1
    by_cases h0 : a = 0
    · subst h0; exact ite_a0 t ok hbc
    by_cases hb1 : b = 1
    · by_cases hc0 : c = 0
      · subst hb1 hc0; exact ite_10 t ok (by omega)
      · exact ite_rec_T H t ok (by omega) hbc (by rw [beq_iff_eq]; omega) (by rw [beq_eq_false_iff_ne]; omega) hd ih
    · exact ite_rec_F H t ok (by omega) hbc (by rw [beq_eq_false_iff_ne]; omega) hd ih

theorem ite_any {h : Key → Nat} (H : IsHash h) {w : World} {op st cb : Nat} {F : List Nat} {s : St} (t : OpsC h w op st cb F s) {p : Nat → Bool} {L B a b c : Nat} (ok : s.IteOk p L B a b c) :
    Calls Tryz.prog 103 #[.pointer (some ⟨op, 0, none⟩), .int .i64 a, .int .i64 b, .int .i64 c] w (IteP h op st cb F s p L a b c w) :=
  ite_all H op st cb p L B _ w F s a b c t ok (Nat.le_refl _)
end Go.Proofs.YtndefnfknhjfkaaGreatDoor

namespace Go.Proofs.YtndefnfknhjfkaaGreatDoor
open Go.RowKit Go.Proofs.Osier

/-- What an operation answers and leaves. -/
def OpP (h : Key → Nat) (op st : Nat) (F : List Nat) (s : St) (L n : Nat) (f : Env → Bool) (w : World) (e : Ending) (w' : World) : Prop :=
  ∃ (k : Nat) (s' : St) (F' : List Nat), e = .returned (.tuple #[.int .i64 k, .int .i64 0]) ∧ Opr h w' op st F' s' ∧ s.Gives L n s' k f 0 ∧ Moves F F' w w'

theorem OpP.mono {h : Key → Nat} {op st : Nat} {F : List Nat} {s : St} {L n n' : Nat} {f f' : Env → Bool} {w : World} {e : Ending} {w' : World} (o : OpP h op st F s L n f w e w') (hn : n ≤ n') (hf : ∀ e, f e = f' e) : OpP h op st F s L n' f' w e w' := by
  obtain ⟨k, s', F', a, b, g, m⟩ := o
  exact ⟨k, s', F', a, b, (g.mono hn (Nat.le_refl _)).congr hf, m⟩

/-- A store that is sound, and has room for so many nodes more below L. -/
structure Ready (s : St) (L B m : Nat) : Prop where
  wf : s.WF
  low : St.LowAt s.vars L B
  room : s.up L + m + B + 2 ≤ s.budget

/-- A node that hangs on such variables. -/
structure IsNode (s : St) (p : Nat → Bool) (k : Nat) : Prop where
  lt : k < s.l.length
  dep : St.Dep (s.ev k) p

theorem isNode0 {s : St} (h : s.WF) (p : Nat → Bool) : IsNode s p 0 := ⟨by have := h.len2; omega, fun e e' _ => by rw [St.ev0, St.ev0]⟩
theorem isNode1 {s : St} (h : s.WF) (p : Nat → Bool) : IsNode s p 1 := ⟨by have := h.len2; omega, fun e e' _ => by rw [St.ev1, St.ev1]⟩
theorem IsNode.le {s t : St} {p : Nat → Bool} {k : Nat} (h : IsNode s p k) (hle : s.Le t) (hs : s.WF) (ht : t.WF) : IsNode t p k :=
  ⟨Nat.lt_of_lt_of_le h.lt hle.len, hle.dep hs ht h.lt h.dep⟩
theorem IsNode.mono {s : St} {p q : Nat → Bool} {k : Nat} (h : IsNode s p k) (hq : ∀ u, p u = true → q u = true) : IsNode s q k := ⟨h.lt, h.dep.mono hq⟩

/-- What one If-then-else costs, at most. -/
def cost (p : Nat → Bool) (L : Nat) : Nat := St.iteN p 0 L

theorem Ready.ite {s : St} {p : Nat → Bool} {L B a b c m : Nat} (r : Ready s L B m) (hm : cost p L ≤ m) (ha : IsNode s p a) (hb : IsNode s p b) (hc : IsNode s p c) : s.IteOk p L B a b c := by
  have h1 := St.iteN_mono (p := p) (q := p) (L := L) (Nat.zero_le (s.top3 a b c)) (fun _ h => h)
  have h2 := r.room
  unfold cost at hm
  exact ⟨r.wf, ha.lt, hb.lt, hc.lt, ha.dep, hb.dep, hc.dep, r.low, by omega⟩

theorem gives_cost {s s' : St} {p : Nat → Bool} {L a b c k : Nat} (g : s.IteGives p L a b c s' k) : s.Gives L (cost p L) s' k (s.iteF a b c) 0 :=
  St.Gives.mono g (St.iteN_mono (Nat.zero_le _) (fun _ h => h)) (Nat.zero_le _)

theorem Ready.next {s s' : St} {L B m n : Nat} {k t : Nat} {f : Env → Bool} (r : Ready s L B (n + m)) (g : s.Gives L n s' k f t) : Ready s' L B m := by
  have h1 := r.room
  have h2 := g.cost
  exact ⟨g.wf, by rw [g.le.vars]; exact r.low, by rw [g.le.budget]; omega⟩

theorem Ready.less {s : St} {L B m m' : Nat} (r : Ready s L B m) (h : m' ≤ m) : Ready s L B m' := ⟨r.wf, r.low, by have := r.room; omega⟩

theorem Gives.isNode {s s' : St} {L n k t : Nat} {f : Env → Bool} (g : s.Gives L n s' k f t) {p : Nat → Bool} (hf : St.Dep f p) : IsNode s' p k := ⟨g.lt, g.dep hf⟩

set_option maxHeartbeats 1000000 in
set_option maxRecDepth 100000 in
theorem Ite_any {h : Key → Nat} (H : IsHash h) {w : World} {op st : Nat} {F : List Nat} {s : St} (t : Opr h w op st F s) {p : Nat → Bool} {L B a b c : Nat} (ok : s.IteOk p L B a b c) :
    Calls Tryz.prog 61 #[.pointer (some ⟨op, 0, none⟩), .int .i64 a, .int .i64 b, .int .i64 c] w (OpP h op st F s L (cost p L) (s.iteF a b c) w) := by
  have hbA : Below w.heap.size w (w.alloc (.cells #[.int .i64 a, .int .i64 b, .int .i64 c] 3)) := (Below.refl _ _).alloc (Nat.le_refl _) _
  have hsb : Blk (w.alloc (.cells #[.int .i64 a, .int .i64 b, .int .i64 c] 3)) w.heap.size 3 #[.int .i64 a, .int .i64 b, .int .i64 c] := Blk.new w 3 _
  have HM := Lib.hid (may_any (t.below hbA) w.heap.size 3 (fun i => if i = 0 then a else if i = 1 then b else c)
      (fun i hi => by
        rcases (show i = 0 ∨ i = 1 ∨ i = 2 by omega) with rfl | rfl | rfl
        · exact hsb.cell_of rfl
        · exact hsb.cell_of rfl
        · exact hsb.cell_of rfl)
      (fun i hi => by
        rcases (show i = 0 ∨ i = 1 ∨ i = 2 by omega) with rfl | rfl | rfl
        · exact ok.la
        · exact ok.lb
        · exact ok.lc) (by omega))
  have HOK := Lib.hid ok
  have HBA := Lib.hid hbA
  clear t ok hbA hsb
  go_enter Tryz.func61, Tryz.ntmps61
  go_wp2_with fail
  refine HM.out.mono ?_
  rintro e w1 ⟨rfl, F1, t1, mv1⟩
  obtain ⟨cb, t1⟩ := of_opsIn t1
  have HI := Lib.hid (ite_any H t1 HOK.out)
  have HMV := Lib.hid mv1
  clear t1 mv1
  go_wp2_with fail
  refine HI.out.mono ?_
  rintro e w2 ⟨k, s', F', rfl, t2, g, mv2⟩
  have HT2 := Lib.hid t2
  have HG := Lib.hid g
  have HMV2 := Lib.hid mv2
  clear t2 g mv2
  go_wp2
  go_ret2
  exact ⟨k, s', F', rfl, .inl (opsIn_of HT2.out), gives_cost HG.out, ((Moves.of_below HBA.out).trans HMV.out).trans HMV2.out⟩

section
variable {h : Key → Nat} (H : IsHash h) {w : World} {op st : Nat} {F : List Nat} {s : St} (t : Opr h w op st F s) {p : Nat → Bool} {L B a b : Nat}
include H t

theorem And_any (r : Ready s L B (cost p L)) (ha : IsNode s p a) (hb : IsNode s p b) :
    Calls Tryz.prog 27 #[.pointer (some ⟨op, 0, none⟩), .int .i64 a, .int .i64 b] w (OpP h op st F s L (cost p L) (fun e => s.ev a e && s.ev b e) w) := by
  have HI := Lib.hid (Ite_any H t (r.ite (Nat.le_refl _) ha hb (isNode0 r.wf p)))
  clear t ha hb
  go_enter Tryz.func27, Tryz.ntmps27
  go_wp2_with fail
  refine HI.out.mono ?_
  rintro e w2 ⟨k, s', F', rfl, t2, g, mv2⟩
  have HR : Hid (OpP h op st F s L (cost p L) (fun e => s.ev a e && s.ev b e) w (.returned (.tuple #[.int .i64 k, .int .i64 0])) w2) := ⟨k, s', F', rfl, t2, g.congr fun e => by simp only [St.iteF, St.ev0]; cases s.ev a e <;> simp, mv2⟩
  clear t2 g mv2
  go_wp2
  go_ret2
  exact HR.out

theorem Or_any (r : Ready s L B (cost p L)) (ha : IsNode s p a) (hb : IsNode s p b) :
    Calls Tryz.prog 23 #[.pointer (some ⟨op, 0, none⟩), .int .i64 a, .int .i64 b] w (OpP h op st F s L (cost p L) (fun e => s.ev a e || s.ev b e) w) := by
  have HI := Lib.hid (Ite_any H t (r.ite (Nat.le_refl _) ha (isNode1 r.wf p) hb))
  clear t ha hb
  go_enter Tryz.func23, Tryz.ntmps23
  go_wp2_with fail
  refine HI.out.mono ?_
  rintro e w2 ⟨k, s', F', rfl, t2, g, mv2⟩
  have HR : Hid (OpP h op st F s L (cost p L) (fun e => s.ev a e || s.ev b e) w (.returned (.tuple #[.int .i64 k, .int .i64 0])) w2) := ⟨k, s', F', rfl, t2, g.congr fun e => by simp only [St.iteF, St.ev1]; cases s.ev a e <;> simp, mv2⟩
  clear t2 g mv2
  go_wp2
  go_ret2
  exact HR.out

theorem Diff_any (r : Ready s L B (cost p L)) (ha : IsNode s p a) (hb : IsNode s p b) :
    Calls Tryz.prog 92 #[.pointer (some ⟨op, 0, none⟩), .int .i64 a, .int .i64 b] w (OpP h op st F s L (cost p L) (fun e => s.ev a e && !s.ev b e) w) := by
  have HI := Lib.hid (Ite_any H t (r.ite (Nat.le_refl _) hb (isNode0 r.wf p) ha))
  clear t ha hb
  go_enter Tryz.func92, Tryz.ntmps92
  go_wp2_with fail
  refine HI.out.mono ?_
  rintro e w2 ⟨k, s', F', rfl, t2, g, mv2⟩
  have HR : Hid (OpP h op st F s L (cost p L) (fun e => s.ev a e && !s.ev b e) w (.returned (.tuple #[.int .i64 k, .int .i64 0])) w2) := ⟨k, s', F', rfl, t2, g.congr fun e => by simp only [St.iteF, St.ev0]; cases s.ev b e <;> simp, mv2⟩
  clear t2 g mv2
  go_wp2
  go_ret2
  exact HR.out

theorem Not_any (r : Ready s L B (cost p L)) (ha : IsNode s p a) :
    Calls Tryz.prog 111 #[.pointer (some ⟨op, 0, none⟩), .int .i64 a] w (OpP h op st F s L (cost p L) (fun e => !s.ev a e) w) := by
  have HI := Lib.hid (Ite_any H t (r.ite (Nat.le_refl _) ha (isNode0 r.wf p) (isNode1 r.wf p)))
  clear t ha
  go_enter Tryz.func111, Tryz.ntmps111
  go_wp2_with fail
  refine HI.out.mono ?_
  rintro e w2 ⟨k, s', F', rfl, t2, g, mv2⟩
  have HR : Hid (OpP h op st F s L (cost p L) (fun e => !s.ev a e) w (.returned (.tuple #[.int .i64 k, .int .i64 0])) w2) := ⟨k, s', F', rfl, t2, g.congr fun e => by simp only [St.iteF, St.ev0, St.ev1]; cases s.ev a e <;> simp, mv2⟩
  clear t2 g mv2
  go_wp2
  go_ret2
  exact HR.out

set_option maxHeartbeats 1000000 in
set_option maxRecDepth 100000 in
theorem Xor_any (r : Ready s L B (cost p L + cost p L)) (ha : IsNode s p a) (hb : IsNode s p b) :
    Calls Tryz.prog 56 #[.pointer (some ⟨op, 0, none⟩), .int .i64 a, .int .i64 b] w (OpP h op st F s L (cost p L + cost p L) (fun e => s.ev a e != s.ev b e) w) := by
  have hbA : Below w.heap.size w (w.alloc (.cells #[.int .i64 a, .int .i64 b] 3)) := (Below.refl _ _).alloc (Nat.le_refl _) _
  have hsb : Blk (w.alloc (.cells #[.int .i64 a, .int .i64 b] 3)) w.heap.size 3 #[.int .i64 a, .int .i64 b] := Blk.new w 3 _
  have HM := Lib.hid (may_any (t.below hbA) w.heap.size 2 (fun i => if i = 0 then a else b)
      (fun i hi => by
        rcases (show i = 0 ∨ i = 1 by omega) with rfl | rfl
        · exact hsb.cell_of rfl
        · exact hsb.cell_of rfl)
      (fun i hi => by
        rcases (show i = 0 ∨ i = 1 by omega) with rfl | rfl
        · exact ha.lt
        · exact hb.lt) (by omega))
  have HR := Lib.hid r
  have HA := Lib.hid ha
  have HB := Lib.hid hb
  have HBA := Lib.hid hbA
  clear t r ha hb hbA hsb
  go_enter Tryz.func56, Tryz.ntmps56
  go_wp2_with fail
  refine HM.out.mono ?_
  rintro e w1 ⟨rfl, F1, t1, mv1⟩
  obtain ⟨cb, t1⟩ := of_opsIn t1
  have HI := Lib.hid (ite_any H t1 (HR.out.ite (Nat.le_add_right _ _) HB.out (isNode0 HR.out.wf p) (isNode1 HR.out.wf p)))
  have HMV := Lib.hid mv1
  clear t1 mv1
  go_wp2_with fail
  refine HI.out.mono ?_
  rintro e w2 ⟨n, s1, F2, rfl, t2, g, mv2⟩
  have g1 := gives_cost g
  have hn : IsNode s1 p n := ⟨g.lt, g.dep (St.Dep.ite HB.out.dep (isNode0 HR.out.wf p).dep (isNode1 HR.out.wf p).dep)⟩
  have HI2 := Lib.hid (ite_any H t2 ((HR.out.next g1).ite (Nat.le_refl _) (HA.out.le g.le HR.out.wf g.wf) hn (HB.out.le g.le HR.out.wf g.wf)))
  have HG1 := Lib.hid g1
  have HMV2 := Lib.hid mv2
  clear t2 g mv2 g1 hn
  go_wp2_with fail
  refine HI2.out.mono ?_
  rintro e w3 ⟨k, s2, F3, rfl, t3, g2, mv3⟩
  have HRes : Hid (OpP h op st F s L (cost p L + cost p L) (fun e => s.ev a e != s.ev b e) w (.returned (.tuple #[.int .i64 k, .int .i64 0])) w3) := by
    have g1 := HG1.out
    have g2' := gives_cost g2
    refine ⟨k, s2, F3, rfl, .inl (opsIn_of t3), ⟨g1.le.trans g2'.le, g2'.wf, g2'.lt, fun e => ?_, Nat.zero_le _, ?_⟩, (((Moves.of_below HBA.out).trans HMV.out).trans HMV2.out).trans mv3⟩
    · rw [g2'.ev]
      simp only [St.iteF]
      rw [g1.le.ev HR.out.wf g1.wf a e HA.out.lt, g1.le.ev HR.out.wf g1.wf b e HB.out.lt, g1.ev]
      simp only [St.iteF, St.ev0, St.ev1]
      cases s.ev a e <;> cases s.ev b e <;> rfl
    · have := g1.cost
      have := g2'.cost
      omega
  clear t3 g2 mv3
  go_wp2
  go_ret2
  exact HRes.out
end
end Go.Proofs.YtndefnfknhjfkaaGreatDoor
