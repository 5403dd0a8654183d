/- Walks: new stores, bits, ranges. -/
import Derived.Test.YtndefnfknhjfkaaGreatDoorGc
import Derived.Test.YtndefnfknhjfkaaGreatDoorGa

namespace Go.Proofs.YtndefnfknhjfkaaGreatDoor
open Go.RowKit Go.Proofs.Osier

/-- make([]place, 16). -/
theorem make16 (n : Nat) (hn : n = 16) (w : World) : (Instr.makeSlice 229 (.int .i64 16) (.int .i64 16)).run Tryz.prog w =
    .ok (.slice (some ⟨w.heap.size, 0, none⟩) n n) (w.alloc (.cells (plArr (List.replicate n none)) 228)) := by
  obtain ⟨i, hi, hz0, hz1, hz2⟩ := info_parts info228
  have hr := run_make_rowN (P := Tryz.prog) 229 228 i _ Tryz.underlying229 hi hz0 .i64 .i64 n n (Nat.le_refl _) (by rw [hz2]; omega) (by omega) w
  rw [hz1] at hr
  rw [show (16 : Int) = ((n : Nat) : Int) by omega, hr, ← madeCells_pl]
  rfl

theorem cnt_none (n : Nat) : Tab.cnt (List.replicate n none) = 0 := by
  unfold Tab.cnt
  rw [List.filter_eq_nil_iff.2]
  · rfl
  · intro a ha; rw [List.eq_of_mem_replicate ha]; simp

theorem has_none (n : Nat) (K : Key) (v : Nat) : ¬ Tab.Has (List.replicate n none) K v := by
  rintro ⟨i, hi⟩
  rw [List.getElem?_replicate] at hi
  split at hi <;> cases hi

theorem tabAt_new {h : Key → Nat} {w : World} {ht pl n : Nat} (hn : n = 16) (h1 : Blk w ht 231 #[.slice (some ⟨pl, 0, none⟩) n n, .int .i64 0, .int .i64 0]) (h2 : Blk w pl 228 (plArr (List.replicate n none))) : TabAt h w ht pl (List.replicate n none) := by
  have hl : (List.replicate n (none : Pl)).length = n := List.length_replicate
  refine ⟨?_, h2, ⟨by omega, ?_, ?_⟩, ⟨4, by rw [hl, hn]⟩, by omega, by omega, by rw [cnt_none]; omega, .inl (by omega)⟩
  · rw [hl, cnt_none]; exact h1
  · intro i K v hi; exact absurd ⟨i, hi⟩ (has_none n K v)
  · intro i j K v u hi; exact absurd ⟨i, hi⟩ (has_none n K v)

theorem hash_new {w : World} :
    Calls Tryz.prog 112 #[] w fun e w' => e = .returned (.pointer (some ⟨w.heap.size + 1, 0, none⟩)) ∧ ∃ n, n = 16 ∧ w' = (w.alloc (.cells (plArr (List.replicate n none)) 228)).alloc (.cells #[.slice (some ⟨w.heap.size, 0, none⟩) n n, .int .i64 0, .int .i64 0] 231) := by
  obtain ⟨n, hn⟩ : ∃ n, n = 16 := ⟨_, rfl⟩
  generalize hA : (fun n : Nat => plArr (List.replicate n none)) = A
  have hmk : ∀ w : World, (Instr.makeSlice 229 (.int .i64 16) (.int .i64 16)).run Tryz.prog w = .ok (.slice (some ⟨w.heap.size, 0, none⟩) n n) (w.alloc (.cells (A n) 228)) := by rw [← hA]; exact make16 n hn
  have HA := Lib.hid hA
  have HN := Lib.hid hn
  clear hn hA
  go_enter Tryz.func112, Tryz.ntmps112
  go_wp2
  go_ret
  refine ⟨by simp, n, HN.out, ?_⟩
  have := congrFun HA.out n
  rw [this]

/-- A store that has the two ends alone. -/
def newSt (vars budget : Nat) : St := ⟨vars, budget, [⟨vars, 0, 0⟩, ⟨vars, 1, 1⟩]⟩

theorem newSt_wf (vars budget : Nat) : (newSt vars budget).WF :=
  ⟨Nat.le_refl _, rfl, rfl, fun k h1 h2 => by simp [newSt] at h2; omega, fun j k h1 h2 h3 => by simp [newSt] at h3; omega⟩

def endNd (vars k : Nat) : Nd := ⟨vars, k, k⟩

set_option maxHeartbeats 1000000 in
set_option maxRecDepth 100000 in
theorem node_new {h : Key → Nat} {w : World} {vars budget : Nat} (hv : vars ≤ 256) (hb2 : 2 ≤ budget) (hb : budget ≤ 65536) :
    Calls Tryz.prog 64 #[.int .i64 vars, .int .i64 budget] w fun e w' => ∃ st F, e = .returned (.tuple #[.pointer (some ⟨st, 0, none⟩), .int .i64 0]) ∧ Sto h w' st F (newSt vars budget) ∧ Below w.heap.size w w' ∧ ∀ x ∈ F, w.heap.size ≤ x := by
  have t1 : decide ((vars : Int) < 0) = false := by simp
  have t2 : decide ((256 : Int) < (vars : Int)) = false := by simp; omega
  have t3 : decide ((budget : Int) < 2) = false := by simp; omega
  have t4 : decide ((1048576 : Int) < (budget : Int)) = false := by simp; omega
  go_enter Tryz.func64, Tryz.ntmps64
  go_wp2_with fail
  refine hash_new.mono ?_
  rintro e w1 ⟨rfl, n, hn, rfl⟩
  have b1 := (Blk.new w 228 (plArr (List.replicate n none))).alloc (.cells #[.slice (some ⟨w.heap.size, 0, none⟩) n n, .int .i64 0, .int .i64 0] 231)
  have b2 := Blk.new (w.alloc (.cells (plArr (List.replicate n none)) 228)) 231 #[.slice (some ⟨w.heap.size, 0, none⟩) n n, .int .i64 0, .int .i64 0]
  rw [show (w.alloc (.cells (plArr (List.replicate n none)) 228)).heap.size = w.heap.size + 1 by simp] at b2
  have hT := Lib.hid (tabAt_new (h := h) hn b2 b1)
  have hB := Lib.hid (((Below.refl w.heap.size w).alloc (Nat.le_refl _) (.cells (plArr (List.replicate n none)) 228)).alloc (by simp) (.cells #[.slice (some ⟨w.heap.size, 0, none⟩) n n, .int .i64 0, .int .i64 0] 231))
  have hsz : ((w.alloc (.cells (plArr (List.replicate n none)) 228)).alloc (.cells #[.slice (some ⟨w.heap.size, 0, none⟩) n n, .int .i64 0, .int .i64 0] 231)).heap.size = w.heap.size + 2 := by simp
  have HN := Lib.hid hn
  clear hn b1 b2
  generalize (w.alloc (.cells (plArr (List.replicate n none)) 228)).alloc (.cells #[.slice (some ⟨w.heap.size, 0, none⟩) n n, .int .i64 0, .int .i64 0] 231) = w1 at *
  have HSZ := Lib.hid hsz
  clear hsz
  go_wp2
  have HST := Lib.hid (Blk.new w1 168 #[.int .i64 vars, .int .i64 budget, .slice none 0 0, .slice none 0 0, .pointer (some ⟨w.heap.size + 1, 0, none⟩), .int .i64 2, .int .i64 0, .int .i64 0])
  have hst : w1.heap.size < (w1.alloc (.cells #[.int .i64 vars, .int .i64 budget, .slice none 0 0, .slice none 0 0, .pointer (some ⟨w.heap.size + 1, 0, none⟩), .int .i64 2, .int .i64 0, .int .i64 0] 168)).heap.size := by simp
  have HB2 := Lib.hid (hB.out.alloc (by have := HSZ.out; omega) (.cells #[.int .i64 vars, .int .i64 budget, .slice none 0 0, .slice none 0 0, .pointer (some ⟨w.heap.size + 1, 0, none⟩), .int .i64 2, .int .i64 0, .int .i64 0] 168))
  have HT2 : Hid (TabAt h (w1.alloc (.cells #[.int .i64 vars, .int .i64 budget, .slice none 0 0, .slice none 0 0, .pointer (some ⟨w.heap.size + 1, 0, none⟩), .int .i64 2, .int .i64 0, .int .i64 0] 168)) (w.heap.size + 1) w.heap.size (List.replicate n none)) :=
    ⟨hT.out.tab.alloc _, hT.out.arr.alloc _, hT.out.probe, hT.out.pow, hT.out.ge, hT.out.le, hT.out.few, hT.out.sized⟩
  have hge : w.heap.size ≤ w1.heap.size := by have := HSZ.out; omega
  have HP := Lib.hid hge
  clear hge hT hB HSZ
  generalize w1.alloc (.cells #[.int .i64 vars, .int .i64 budget, .slice none 0 0, .slice none 0 0, .pointer (some ⟨w.heap.size + 1, 0, none⟩), .int .i64 2, .int .i64 0, .int .i64 0] 168) = w2 at *
  generalize w1.heap.size = st at *
  go_loopg [27] 2 (fun g i wr => ∃ (k : Nat) (v : Value), g = 2 - k ∧ k ≤ 2 ∧ i = .int .i64 k ∧ wr.ownsRow w.heap.size 171 5 v k ((List.range k).flatMap fun j => ndCells (endNd vars j)) ∧
    Blk wr st 168 #[.int .i64 vars, .int .i64 budget, v, .slice none 0 0, .pointer (some ⟨w.heap.size + 1, 0, none⟩), .int .i64 2, .int .i64 0, .int .i64 0] ∧ TabAt h wr (w.heap.size + 1) w.heap.size (List.replicate n none) ∧ Below w.heap.size w wr)
  case atStart => exact ⟨0, _, rfl, by omega, rfl, World.ownsRow_nil _ _ _ _, HST.out, HT2.out, HB2.out⟩
  case round =>
    obtain ⟨k, v, hg, hk, rfl, hown, hbst, htab, hbel⟩ := hrel
    have HG := Lib.hid hg
    clear hg
    by_cases hkm : k < 2
    · have g2 : wr.cell? ⟨st, 2, none⟩ = some v := hbst.cell_of rfl
      have f2 : wr.frozen? ⟨st, 2, none⟩ = false := hbst.frozen _
      have hsr := hbst.lt
      obtain ⟨i0, hi0, hz0, hz1, hz2⟩ := info_parts info171
      have HBST := Lib.hid hbst
      have HTAB := Lib.hid htab
      have HBEL := Lib.hid hbel
      clear hbst htab hbel
      go_wp2_with (at_builtin; refine wpList_append_own_at _ rfl _ _ 162 rfl w.heap.size 171 i0 (.agg #[.bool false, .int .i64 0, .int .i64 0, .int .i64 0, .int .i64 0]) 5 40 Tryz.underlying162 hi0 hz0 hz1 hz2 rfl (by decide) _ _ _ rfl (hown.alloc _) ⟨wr.heap.size, 0, none⟩ 1 1 (ndCells (endNd vars k)) rfl rfl ?c1 ?c2 ?c3 ?c4 ?c5 ?_)
      case c1 => exact cells_new wr (ndCells (endNd vars k)) 171
      case c2 => intro u hu; simp [ndCells] at hu; rcases hu with rfl | rfl | rfl | rfl | rfl <;> rfl
      case c3 => unfold maxLen; omega
      case c4 => omega
      case c5 => have := HBEL.out.size; simp; omega
      intro v' w5 hown5 hgrow5 hnil5 hat5
      have hne : v.ownBlock ≠ some st := by
        rcases hown.2 with ⟨rfl, _⟩ | ⟨g, c, cur, rfl, _, hg, _⟩
        · simp [Value.ownBlock]
        · intro h; injection h with h
          exact HBST.out.ne_ hg (by decide) h.symm
      have hnt : v.ownBlock ≠ some (w.heap.size + 1) := by
        rcases hown.2 with ⟨rfl, _⟩ | ⟨g, c, cur, rfl, _, hg, _⟩
        · simp [Value.ownBlock]
        · intro h; injection h with h
          exact HTAB.out.tab.ne_ hg (by decide) h.symm
      have hnp : v.ownBlock ≠ some (w.heap.size) := by
        rcases hown.2 with ⟨rfl, _⟩ | ⟨g, c, cur, rfl, _, hg, _⟩
        · simp [Value.ownBlock]
        · intro h; injection h with h
          exact HTAB.out.arr.ne_ hg (by decide) h.symm
      have hst5 := (HBST.out.alloc (.cells (ndCells (endNd vars k)).toArray 171)).grown hgrow5 (Ne.symm hne)
      have htab5 : TabAt h w5 (w.heap.size + 1) w.heap.size (List.replicate n none) :=
        ⟨(HTAB.out.tab.alloc _).grown hgrow5 (Ne.symm hnt), (HTAB.out.arr.alloc _).grown hgrow5 (Ne.symm hnp), HTAB.out.probe, HTAB.out.pow, HTAB.out.ge, HTAB.out.le, HTAB.out.few, HTAB.out.sized⟩
      have hbel5 : Keep [] w w5 := by
        have hk : Keep [] w (wr.alloc (.cells (ndCells (endNd vars k)).toArray 171)) := (Keep.of_below HBEL.out).alloc _
        refine hk.grown hgrow5 fun g hg => .inr ?_
        rcases hown.2 with ⟨rfl, _⟩ | ⟨g', c, cur, rfl, hge, _⟩
        · simp [Value.ownBlock] at hg
        · injection hg with hg; rw [← hg]; exact hge
      have f5 : w5.frozen? ⟨st, 2, none⟩ = false := hst5.frozen _
      have g5 : w5.cell? ⟨st, 2, none⟩ = some v := hst5.cell_of rfl
      obtain ⟨g, cap, cur, rfl, hgb, hcur, q1, q2, q3, q4⟩ := ownsRow_blk hown5 (by omega)
      have HST5 := Lib.hid hst5
      have HTAB5 := Lib.hid htab5
      have HBEL5 := Lib.hid hbel5
      have HCUR := Lib.hid hcur
      have HQ4 := Lib.hid q4
      have HQ3 := Lib.hid q3
      clear hst5 htab5 hbel5 hcur q4 q3 hown5 hown hgrow5 hnil5 hat5 hne hnt hnp g2 f2 hz0 hz1 hz2 hi0
      go_wp2
      go_roundg (2 - (k + 1))
      case measure => rw [HG.out]; omega
      case rel =>
        have d1 : g ≠ st := HCUR.out.ne_ HST5.out (by decide)
        have d2 : w.heap.size + 1 ≠ st := HTAB5.out.tab.ne_ HST5.out (by decide)
        have d3 : w.heap.size ≠ st := HTAB5.out.arr.ne_ HST5.out (by decide)
        refine ⟨k + 1, .slice (some ⟨g, 0, none⟩) (k + 1) cap, rfl, by omega, by go_num, ?_, HST5.out.set_ 2 _, ?_, ?_⟩
        · have h1 := HCUR.out.far (p := ⟨st, 2, none⟩) d1 (.slice (some ⟨g, 0, none⟩) (k + 1) cap)
          refine ownsRow_mk ?_ hgb h1 q1 q2 HQ3.out ?_
          · rw [flat_length _ 5 (fun _ => ndCells_length _)]; simp; omega
          · rw [HQ4.out, List.range_succ, List.flatMap_append]; simp
        · exact ⟨HTAB5.out.tab.far (p := ⟨st, 2, none⟩) d2 _, HTAB5.out.arr.far (p := ⟨st, 2, none⟩) d3 _, HTAB5.out.probe, HTAB5.out.pow, HTAB5.out.ge, HTAB5.out.le, HTAB5.out.few, HTAB5.out.sized⟩
        · exact (HBEL5.out.setCell (p := ⟨st, 2, none⟩) (.inr HP.out) _).below
    · obtain rfl : k = 2 := by omega
      have HBST := Lib.hid hbst
      have HTAB := Lib.hid htab
      have HBEL := Lib.hid hbel
      have HOWN := Lib.hid hown
      clear hbst htab hbel hown
      go_wp2
      go_ret2
      obtain ⟨g, cap, cur, rfl, hgb, hcur, q1, q2, q3, q4⟩ := ownsRow_blk HOWN.out (by omega)
      refine ⟨st, [st, g, w.heap.size + 1, w.heap.size], rfl, ⟨g, cap, _, _, _, rfl, ⟨HBST.out, ?_, HTAB.out, ?_, ?_, newSt_wf _ _, hb2, hb, hv⟩⟩, HBEL.out, ?_⟩
      · have h1 := HOWN.out
        obtain ⟨a, b⟩ := h1
        refine ⟨a, ?_⟩
        rcases b with b | b
        · exact .inl b
        · obtain ⟨g', c', cur', e1, e2, r⟩ := b
          exact .inr ⟨g', c', cur', e1, Nat.zero_le _, r⟩
      · intro K x
        constructor
        · intro hh; exact absurd hh (has_none n K x)
        · rintro ⟨a, b, c⟩; simp [newSt] at b; omega
      · rw [cnt_none]; rfl
      · intro x hx
        have := HP.out
        simp only [List.mem_cons, List.mem_nil_iff, or_false] at hx
        rcases hx with rfl | rfl | rfl | rfl <;> omega

theorem oper_new {h : Key → Nat} {w : World} {st : Nat} {F : List Nat} {s : St} (t : Sto h w st F s) :
    Calls Tryz.prog 65 #[.pointer (some ⟨st, 0, none⟩)] w fun e w' => ∃ op, e = .returned (.tuple #[.pointer (some ⟨op, 0, none⟩), .int .i64 0]) ∧ Opr h w' op st (op :: F) s ∧ Below w.heap.size w w' ∧ w.heap.size ≤ op := by
  have HL := Lib.hid (len_any t)
  have h2 := t.choose_spec.choose_spec.choose_spec.choose_spec.choose_spec.2.wf.len2
  have tb : ((s.l.length : Int) == 0) = false := by rw [beq_eq_false_iff_ne]; omega
  have HT := Lib.hid t
  clear t
  go_enter Tryz.func65, Tryz.ntmps65
  go_wp2_with (go_at_call 113; refine HL.out.mono ?_; rintro e w' ⟨rfl, rfl⟩)
  go_ret2
  exact ⟨w.heap.size, rfl, .inr ⟨F, rfl, HT.out.of_heap fun k hk => Below.heap_alloc _ _ _ (HT.out.lt k hk), Blk.new _ _ _⟩, (Below.refl _ _).alloc (Nat.le_refl _) _, Nat.le_refl _⟩

theorem ops_store {w : World} {op st : Nat} {a b c d e : Value} (hb : Blk w op 155 #[.pointer (some ⟨st, 0, none⟩), a, b, c, d, e]) :
    Calls Tryz.prog 50 #[.pointer (some ⟨op, 0, none⟩)] w fun e w' => e = .returned (.pointer (some ⟨st, 0, none⟩)) ∧ w = w' := by
  have h0 : w.cell? ⟨op, 0, none⟩ = some (.pointer (some ⟨st, 0, none⟩)) := hb.cell_of rfl
  clear hb
  go_enter Tryz.func50, Tryz.ntmps50
  go_wp2
  go_ret
  exact ⟨rfl, rfl⟩

theorem quan_ops {w : World} {q op : Nat} {a : Value} (hb : Blk w q 101 #[.pointer (some ⟨op, 0, none⟩), a]) :
    Calls Tryz.prog 22 #[.pointer (some ⟨q, 0, none⟩)] w fun e w' => e = .returned (.pointer (some ⟨op, 0, none⟩)) ∧ w = w' := by
  have h0 : w.cell? ⟨q, 0, none⟩ = some (.pointer (some ⟨op, 0, none⟩)) := hb.cell_of rfl
  clear hb
  go_enter Tryz.func22, Tryz.ntmps22
  go_wp2
  go_ret
  exact ⟨rfl, rfl⟩

theorem quan_new {h : Key → Nat} {w : World} {op st : Nat} {F : List Nat} {s : St} (t : Opr h w op st F s) :
    Calls Tryz.prog 66 #[.pointer (some ⟨op, 0, none⟩)] w fun e w' => e = .returned (.tuple #[.pointer (some ⟨w.heap.size, 0, none⟩), .int .i64 0]) ∧ w' = w.alloc (.cells #[.pointer (some ⟨op, 0, none⟩), .pointer (some ⟨st, 0, none⟩)] 101) := by
  obtain ⟨F0, tS, hF0, a, b, c, d, e, hb⟩ := t.sto
  have HS := Lib.hid (ops_store hb)
  clear t tS hb
  go_enter Tryz.func66, Tryz.ntmps66
  go_wp2_with (go_at_call 50; refine HS.out.mono ?_; rintro e w' ⟨rfl, rfl⟩)
  go_ret2
  exact ⟨rfl, rfl⟩

end Go.Proofs.YtndefnfknhjfkaaGreatDoor

namespace Go.Proofs.YtndefnfknhjfkaaGreatDoor
open Go.RowKit Go.Proofs.Osier

theorem info4 : (Tryz.prog.info? 4).map (fun i => (i.zero, i.size, i.bytes)) = some (some (.bool false), 1, 1) := by kernel_rfl

/-- The bits of a number, the least first, the first k of them; the others are not put yet. -/
def putArr (n m k : Nat) : Array Value := ((List.range m).map fun j => Value.bool (decide (j < k) && n.testBit j)).toArray

theorem putArr_size (n m k : Nat) : (putArr n m k).size = m := by simp [putArr]
theorem putArr_get (n m k j : Nat) (hj : j < m) : (putArr n m k)[j]? = some (.bool (decide (j < k) && n.testBit j)) := by simp [putArr, hj]
theorem putArr_zero (n m : Nat) : madeCells #[.bool false] (m * 1) = putArr n m 0 := by
  apply Array.ext
  · simp [madeCells, putArr]
  · intro i h1 h2
    simp only [putArr, madeCells, Array.getElem_map, Array.getElem_range, List.getElem_toArray, List.getElem_map]
    simp [Nat.mod_one]
theorem putArr_set (n m k : Nat) (hk : k < m) : (putArr n m k).setIfInBounds k (.bool (n.testBit k)) = putArr n m (k + 1) := by
  apply Array.ext
  · simp [putArr]
  · intro i h1 h2
    have him : i < m := by simpa [putArr] using h2
    refine Option.some.inj ?_
    rw [← Array.getElem?_eq_getElem h1, ← Array.getElem?_eq_getElem h2, putArr_get _ _ _ _ him, Array.getElem?_setIfInBounds]
    by_cases h : k = i
    · subst h; simp [putArr_size, hk]
    · rw [if_neg h, putArr_get _ _ _ _ him]
      have : decide (i < k + 1) = decide (i < k) := by simp; omega
      rw [this]

theorem make96 (n m : Nat) (hm : m ≤ 62) (w : World) : (Instr.makeSlice 96 (.int .i64 m) (.int .i64 m)).run Tryz.prog w =
    .ok (.slice (some ⟨w.heap.size, 0, none⟩) m m) (w.alloc (.cells (putArr n m 0) 4)) := by
  obtain ⟨i, hi, hz0, hz1, hz2⟩ := info_parts info4
  have hr := run_make_rowN (P := Tryz.prog) 96 4 i _ Tryz.underlying96 hi hz0 .i64 .i64 m m (Nat.le_refl _) (by rw [hz2]; omega) (by omega) w
  rw [hz1] at hr
  rw [hr, ← putArr_zero]
  rfl

theorem and_pow (n k : Nat) : n &&& 2 ^ k = if n.testBit k then 2 ^ k else 0 := by
  apply Nat.eq_of_testBit_eq
  intro i
  rw [Nat.testBit_and, Nat.testBit_two_pow]
  by_cases h : k = i
  · subst h
    cases hx : n.testBit k
    · simp
    · simp
  · cases hx : n.testBit k
    · simp [h]
    · simp [h]

theorem bit_value (n k m : Nat) (hn : n < 2 ^ m) (hm : m ≤ 62) (hk : k < m) : (bits .and .i64 (n : Int) (wrap64 (2 ^ k)) != 0) = n.testBit k := by
  have h1 : 2 ^ k < 2 ^ m := Nat.pow_lt_pow_right (by omega) hk
  have h2 : 2 ^ m ≤ 2 ^ 62 := Nat.pow_le_pow_right (by omega) hm
  have h3 : (2 : Nat) ^ 62 = 4611686018427387904 := by decide
  have h4 : 0 < 2 ^ k := Nat.two_pow_pos k
  have ha := and_pow n k
  have hc : ((2 : Int) ^ k) = ((2 ^ k : Nat) : Int) := by push_cast; rfl
  rw [hc]
  generalize 2 ^ k = p at *
  generalize 2 ^ m = q at *
  have e : wrap64 (p : Int) = (p : Int) := by unfold wrap64; omega
  rw [e, i64_and_nat n p (by omega) (by omega), ha]
  cases n.testBit k
  · simp
  · have : p ≠ 0 := by omega
    simp [this]

set_option maxRecDepth 100000 in
theorem put_any {w : World} {n m : Nat} (hm : m ≤ 62) (hn : n < 2 ^ m) :
    Calls Tryz.prog 58 #[.int .i64 n, .int .i64 m] w fun e w' => e = .returned (.tuple #[.slice (some ⟨w.heap.size, 0, none⟩) m m, .int .i64 0]) ∧ Below w.heap.size w w' ∧ Blk w' w.heap.size 4 (putArr n m m) := by
  have t1 : decide ((m : Int) < 0) = false := by simp
  have t2 : decide ((62 : Int) < (m : Int)) = false := by simp; omega
  have t3 : decide ((n : Int) < 0) = false := by simp
  have HM := Lib.hid (make96 n m hm)
  have hmk : ∀ w, (Instr.makeSlice 96 (.int .i64 m) (.int .i64 m)).run Tryz.prog w = .ok (.slice (some ⟨w.heap.size, 0, none⟩) m m) (w.alloc (.cells (putArr n m 0) 4)) := HM.out
  go_enter Tryz.func58, Tryz.ntmps58
  have t4 : (n : Int) / 2 ^ m = 0 := by
    apply Int.ediv_eq_zero_of_lt (by omega)
    exact_mod_cast hn
  go_wp2
  generalize hA : (fun k => putArr n m k) = A
  have hB : (w.alloc (.cells (putArr n m 0) 4)) = (w.alloc (.cells (A 0) 4)) := by rw [← hA]
  rw [hB]
  have b0 := Blk.new w 4 (A 0)
  have HBel := Lib.hid ((Below.refl w.heap.size w).alloc (Nat.le_refl _) (.cells (A 0) 4))
  have HA := Lib.hid hA
  have HB0 := Lib.hid b0
  clear hA hB b0 HM hmk
  generalize w.alloc (.cells (A 0) 4) = w1 at *
  go_loopg [27] m (fun g i wr => ∃ (k : Nat), g = m - k ∧ k ≤ m ∧ i = .int .i64 k ∧ Blk wr w.heap.size 4 (A k) ∧ Below w.heap.size w wr)
  case atStart => exact ⟨0, rfl, by omega, rfl, HB0.out, HBel.out⟩
  case round =>
    obtain ⟨k, hg, hk, rfl, hb, hbel⟩ := hrel
    have HG := Lib.hid hg
    have HBEL := Lib.hid hbel
    clear hg hbel
    by_cases hkm : k < m
    · have hc : wr.cell? ⟨w.heap.size, k, none⟩ = some (.bool false) := hb.cell_of (by rw [← HA.out]; rw [putArr_get _ _ _ _ hkm]; simp)
      have hf : wr.frozen? ⟨w.heap.size, k, none⟩ = false := hb.frozen _
      have hlt := hb.lt
      have HB := Lib.hid hb
      clear hb
      have HS := Lib.hid (bit_value n k m hn hm hkm)
      go_wp2
      rw [HS.out]
      go_roundg (m - (k + 1))
      case measure => rw [HG.out]; omega
      case rel =>
        refine ⟨k + 1, rfl, by omega, by go_num, ?_, ?_⟩
        · have := HB.out.set_ k (.bool (n.testBit k))
          rw [← HA.out] at this ⊢
          dsimp only at this
          rw [putArr_set n m k hkm] at this
          exact this
        · exact ((Keep.of_below (F := []) HBEL.out).setCell (p := ⟨w.heap.size, k, none⟩) (.inr (Nat.le_refl _)) _).below
    · obtain rfl : k = m := by omega
      have HB := Lib.hid hb
      clear hb
      go_wp2
      go_ret2
      refine ⟨rfl, HBEL.out, ?_⟩
      have := HB.out
      rw [← HA.out] at this
      exact this
end Go.Proofs.YtndefnfknhjfkaaGreatDoor

namespace Go.Proofs.YtndefnfknhjfkaaGreatDoor
open Go.RowKit Go.Proofs.Osier

/-- A type that none of the diagrams' own blocks has. -/
def notBdd (ty : TypeId) : Bool := ty != 155 && ty != 216 && ty != 168 && ty != 171 && ty != 231 && ty != 228

/-- The blocks that are not the diagrams' own stay. -/
structure Stays (w w' : World) : Prop where
  size : w.heap.size ≤ w'.heap.size
  blk : ∀ b ty cs, notBdd ty = true → Blk w b ty cs → Blk w' b ty cs

theorem Stays.refl (w : World) : Stays w w := ⟨Nat.le_refl _, fun _ _ _ _ h => h⟩
theorem Stays.trans {a b c : World} (h : Stays a b) (k : Stays b c) : Stays a c := ⟨Nat.le_trans h.size k.size, fun x t cs hn hb => k.blk x t cs hn (h.blk x t cs hn hb)⟩
theorem Stays.of_below {w w' : World} (h : Below w.heap.size w w') : Stays w w' := ⟨h.size, fun _ _ _ _ hb => hb.below h hb.lt⟩

theorem Opr.not_mem {h : Key → Nat} {w : World} {op st : Nat} {F : List Nat} {s : St} (t : Opr h w op st F s) {b : Nat} {ty : TypeId} {cs : Array Value} (hb : Blk w b ty cs) (hn : notBdd ty = true) : b ∉ F := by
  simp only [notBdd, Bool.and_eq_true, bne_iff_ne, ne_eq] at hn
  obtain ⟨⟨⟨⟨⟨h1, h2⟩, h3⟩, h4⟩, h5⟩, h6⟩ := hn
  rcases t with t | ⟨F0, rfl, t, hbo⟩
  · obtain ⟨cb, t⟩ := of_opsIn t
    exact t.not_mem hb h1 h2 h3 h4 h5 h6
  · have a1 : b ≠ op := hb.ne_ hbo h1
    have a2 := t.not_mem hb h3 h4 h5 h6
    simp [a1, a2]

theorem Opr.stays {h : Key → Nat} {w w' : World} {op st : Nat} {F F' : List Nat} {s : St} (t : Opr h w op st F s) (m : Moves F F' w w') : Stays w w' :=
  ⟨m.keep.size, fun _ _ _ hn hb => m.keep.blk hb (t.not_mem hb hn)⟩

theorem Opr.ops {h : Key → Nat} {w : World} {op st : Nat} {F : List Nat} {s : St} (t : Opr h w op st F s) : s.WF := by
  obtain ⟨F0, tS, hF0, a, b, c, d, e, hb⟩ := t.sto
  obtain ⟨lb, cap, ht, pl, P, rfl, t⟩ := tS
  exact t.wf

/-- The store under the operations moves on. -/
theorem opr_sto {h : Key → Nat} {w : World} {op st : Nat} {F : List Nat} {s : St} (t : Opr h w op st F s) :
    ∃ F0, Sto h w st F0 s ∧ ∀ w' F0' s', Sto h w' st F0' s' → Moves F0 F0' w w' → s.Le s' → s.WF → s'.WF → ∃ F', Opr h w' op st F' s' ∧ Moves F F' w w' := by
  rcases t with ⟨F0, cb, n, C, rfl, t, hn, hb, hc, ok⟩ | ⟨F0, rfl, t, hb⟩
  · refine ⟨F0, t, fun w' F0' s' t' m hle hs hs' => ?_⟩
    have a1 : op ∉ F0 := t.not_mem hb (by decide) (by decide) (by decide) (by decide)
    have a2 : cb ∉ F0 := t.not_mem hc (by decide) (by decide) (by decide) (by decide)
    refine ⟨op :: cb :: F0', .inl ⟨F0', cb, n, C, rfl, t', hn, m.keep.blk hb a1, m.keep.blk hc a2, ok.le hle hs hs'⟩, m.keep.mono (fun x hx => by simp [hx]), fun x hx => ?_⟩
    simp only [List.mem_cons] at hx ⊢
    rcases hx with hx | hx | hx
    · exact .inl (.inl hx)
    · exact .inl (.inr (.inl hx))
    · rcases m.new x hx with hx | hx
      · exact .inl (.inr (.inr hx))
      · exact .inr hx
  · refine ⟨F0, t, fun w' F0' s' t' m hle hs hs' => ?_⟩
    have a1 : op ∉ F0 := t.not_mem hb (by decide) (by decide) (by decide) (by decide)
    refine ⟨op :: F0', .inr ⟨F0', rfl, t', m.keep.blk hb a1⟩, m.keep.mono (fun x hx => by simp [hx]), fun x hx => ?_⟩
    simp only [List.mem_cons] at hx ⊢
    rcases hx with hx | hx
    · exact .inl (.inl hx)
    · rcases m.new x hx with hx | hx
      · exact .inl (.inr hx)
      · exact .inr hx

/-- What Mk answers and leaves, of operations. -/
def MkP (h : Key → Nat) (op st : Nat) (F : List Nat) (s : St) (L v : Nat) (f : Env → Bool) (w : World) (e : Ending) (w' : World) : Prop :=
  ∃ (k : Nat) (s' : St) (F' : List Nat), e = .returned (.tuple #[.int .i64 k, .int .i64 0]) ∧ Opr h w' op st F' s' ∧ s.Gives L 1 s' k f v ∧ Moves F F' w w'

theorem MkP.op {h : Key → Nat} {op st : Nat} {F : List Nat} {s : St} {L v : Nat} {f : Env → Bool} {w : World} {e : Ending} {w' : World} (m : MkP h op st F s L v f w e w') : OpP h op st F s L 1 f w e w' := by
  obtain ⟨k, s', F', a, b, g, m⟩ := m
  exact ⟨k, s', F', a, b, g.mono (Nat.le_refl _) (Nat.zero_le _), m⟩

theorem Mk_op {h : Key → Nat} (H : IsHash h) {w : World} {op st : Nat} {F : List Nat} {s : St} (t : Opr h w op st F s) {v lo hi L B : Nat} (r : Ready s L B 1) (ok : s.MkOk v lo hi) :
    Calls Tryz.prog 60 #[.pointer (some ⟨st, 0, none⟩), .int .i64 v, .int .i64 lo, .int .i64 hi] w (MkP h op st F s L v (fun e => if e v then s.ev hi e else s.ev lo e) w) := by
  obtain ⟨F0, tS, hnext⟩ := opr_sto t
  have hr := St.mk_room r.wf ok r.low (by have := r.room; split <;> omega)
  refine (mk_any H tS ok hr).mono ?_
  rintro e w' ⟨rfl, F0', t', m⟩
  have g := St.mk_gives r.wf ok L
  obtain ⟨F', t'', m'⟩ := hnext w' F0' _ t' m g.le r.wf g.wf
  exact ⟨_, _, F', rfl, t'', g.mono (by split <;> omega) (Nat.le_refl _), m'⟩

/-- The bits of domains: what a code has in memory. -/
structure Cd where
  q : Nat
  op : Nat
  st : Nat
  db : Nat
  dcap : Nat
  ab : Nat
  acap : Nat
  n : Nat
  name : Nat → Value
  size : Nat → Nat
  at_ : Nat → List Nat
  rp : Nat → Option Addr
  rc : Nat → Nat

/-- A row of numbers, wherever it stands. -/
def RowIn (w : World) (p : Option Addr) (l : List Nat) : Prop := l = [] ∨ ∃ (g : Nat) (cur : Array Value), p = some ⟨g, 0, none⟩ ∧ Blk w g 3 cur ∧ ∀ (i x : Nat), l[i]? = some x → cur[i]? = some (Value.int .i64 (x : Int))

theorem RowIn.stays {w w' : World} {p : Option Addr} {l : List Nat} (h : RowIn w p l) (k : Stays w w') : RowIn w' p l := by
  rcases h with h | ⟨g, cur, h1, h2, h3⟩
  · exact .inl h
  · exact .inr ⟨g, cur, h1, k.blk _ _ _ rfl h2, h3⟩

theorem RowIn.get {w : World} {p : Option Addr} {l : List Nat} (h : RowIn w p l) {i x : Nat} (hi : l[i]? = some x) : ∃ g, p = some ⟨g, 0, none⟩ ∧ w.cell? ⟨g, i, none⟩ = some (.int .i64 x) ∧ g < w.heap.size := by
  rcases h with h | ⟨g, cur, h1, h2, h3⟩
  · subst h; simp at hi
  · exact ⟨g, h1, h2.cell_of (h3 i x hi), h2.lt⟩

structure CodeAt (w : World) (c : Nat) (K : Cd) : Prop where
  code : Blk w c 63 #[.pointer (some ⟨K.q, 0, none⟩), .slice (some ⟨K.db, 0, none⟩) K.n K.dcap, .slice (some ⟨K.ab, 0, none⟩) K.n K.acap]
  quan : Blk w K.q 101 #[.pointer (some ⟨K.op, 0, none⟩), .pointer (some ⟨K.st, 0, none⟩)]
  doms : ∃ cur, Blk w K.db 31 cur ∧ ∀ d, d < K.n → cur[d * 2]? = some (K.name d) ∧ cur[d * 2 + 1]? = some (.int .i64 (K.size d))
  ats : ∃ cur, Blk w K.ab 34 cur ∧ ∀ d, d < K.n → cur[d]? = some (.slice (K.rp d) (K.at_ d).length (K.rc d))
  rows : ∀ d, d < K.n → RowIn w (K.rp d) (K.at_ d)

theorem CodeAt.stays {w w' : World} {c : Nat} {K : Cd} (h : CodeAt w c K) (k : Stays w w') : CodeAt w' c K := by
  obtain ⟨a, b, ⟨c1, d1, e1⟩, ⟨c2, d2, e2⟩, f⟩ := h
  exact ⟨k.blk _ _ _ rfl a, k.blk _ _ _ rfl b, ⟨c1, k.blk _ _ _ rfl d1, e1⟩, ⟨c2, k.blk _ _ _ rfl d2, e2⟩, fun d hd => (f d hd).stays k⟩

theorem CodeAt.at_cell {w : World} {c : Nat} {K : Cd} (h : CodeAt w c K) {d : Nat} (hd : d < K.n) : w.cell? ⟨K.ab, d, none⟩ = some (.slice (K.rp d) (K.at_ d).length (K.rc d)) := by
  obtain ⟨cur, h1, h2⟩ := h.ats
  exact h1.cell_of (h2 d hd)
theorem CodeAt.size_cell {w : World} {c : Nat} {K : Cd} (h : CodeAt w c K) {d : Nat} (hd : d < K.n) : w.cell? ⟨K.db, d * 2 + 1, none⟩ = some (.int .i64 (K.size d)) := by
  obtain ⟨cur, h1, h2⟩ := h.doms
  exact h1.cell_of (h2 d hd).2

/-- What the rows of bits of a code must be. -/
structure CdOk (K : Cd) (vars : Nat) : Prop where
  lt : ∀ d, d < K.n → ∀ v ∈ K.at_ d, v < vars
  nodup : ∀ d, d < K.n → (K.at_ d).Nodup
  apart : ∀ d e, d < K.n → e < K.n → d ≠ e → ∀ v ∈ K.at_ d, v ∉ K.at_ e
  width : ∀ d, d < K.n → (K.at_ d).length ≤ 16
  fits : ∀ d, d < K.n → 1 ≤ K.size d ∧ K.size d ≤ 2 ^ (K.at_ d).length
  few : K.n ≤ 32

theorem literal_any {h : Key → Nat} (H : IsHash h) {w : World} {c : Nat} {K : Cd} (hc : CodeAt w c K) {F : List Nat} {s : St} (t : Opr h w K.op K.st F s) {v L B : Nat} (r : Ready s L B 1) (hv : v < s.vars) (b : Bool) :
    Calls Tryz.prog 55 #[.pointer (some ⟨c, 0, none⟩), .int .i64 v, .bool b] w (OpP h K.op K.st F s L 1 (fun e => e v == b) w) := by
  have h2 := r.wf.len2
  have n0 := St.nd0 r.wf
  have n1 := St.nd1 r.wf
  have HM := Lib.hid (Mk_op H t r (v := v) (lo := 0) (hi := 1) ⟨hv, by omega, by omega, by rw [n0]; exact hv, by rw [n1]; exact hv⟩)
  have HM1 := Lib.hid (Mk_op H t r (v := v) (lo := 1) (hi := 0) ⟨hv, by omega, by omega, by rw [n1]; exact hv, by rw [n0]; exact hv⟩)
  obtain ⟨F0, tS, hF0, x1, x2, x3, x4, x5, hbo⟩ := t.sto
  have HQ := Lib.hid (quan_ops hc.quan)
  have HS := Lib.hid (ops_store hbo)
  have c0 : w.cell? ⟨c, 0, none⟩ = some (.pointer (some ⟨K.q, 0, none⟩)) := hc.code.cell_of rfl
  clear hc t r tS hbo n0 n1
  cases b
  all_goals
    go_enter Tryz.func55, Tryz.ntmps55
    go_wp2_with (first | (go_at_call 22; refine HQ.out.mono ?_; rintro e w' ⟨rfl, rfl⟩) | (go_at_call 50; refine HS.out.mono ?_; rintro e w' ⟨rfl, rfl⟩))
  · refine HM1.out.mono ?_
    rintro e w1 o
    obtain ⟨k, s', F', rfl, o2⟩ := o.op
    have HO := Lib.hid o2
    clear o2 o
    go_wp2
    go_ret2
    exact ⟨k, s', F', rfl, HO.out.1, HO.out.2.1.congr (fun e => by rw [St.ev1, St.ev0]; cases e v <;> rfl), HO.out.2.2⟩
  · refine HM.out.mono ?_
    rintro e w1 o
    obtain ⟨k, s', F', rfl, o2⟩ := o.op
    have HO := Lib.hid o2
    clear o2 o
    go_wp2
    go_ret2
    exact ⟨k, s', F', rfl, HO.out.1, HO.out.2.1.congr (fun e => by rw [St.ev1, St.ev0]; cases e v <;> rfl), HO.out.2.2⟩

end Go.Proofs.YtndefnfknhjfkaaGreatDoor

namespace Go.Proofs.YtndefnfknhjfkaaGreatDoor
open Go.RowKit Go.Proofs.Osier

/-- The variables of a row. -/
def inRow (l : List Nat) (u : Nat) : Bool := l.contains u

set_option maxHeartbeats 1000000 in
set_option maxRecDepth 100000 in
theorem least_any {h : Key → Nat} (H : IsHash h) {w : World} {c : Nat} {K : Cd} (hc : CodeAt w c K) {F : List Nat} {s : St} (t : Opr h w K.op K.st F s) (ok : CdOk K s.vars) {d n L B : Nat} (hd : d < K.n) (hn : n < 2 ^ (K.at_ d).length) (r : Ready s L B ((K.at_ d).length * (1 + cost (inRow (K.at_ d)) L))) :
    Calls Tryz.prog 96 #[.pointer (some ⟨c, 0, none⟩), .int .i64 d, .int .i64 n] w (OpP h K.op K.st F s L ((K.at_ d).length * (1 + cost (inRow (K.at_ d)) L)) (fun e => decide (n ≤ num (K.at_ d) e)) w) := by
  have c2 : w.cell? ⟨c, 2, none⟩ = some (.slice (some ⟨K.ab, 0, none⟩) K.n K.acap) := hc.code.cell_of rfl
  have cd : w.cell? ⟨K.ab, d, none⟩ = some (.slice (K.rp d) (K.at_ d).length (K.rc d)) := hc.at_cell hd
  have hwd := ok.width d hd
  have HC := Lib.hid hc
  have HT := Lib.hid t
  have HOK := Lib.hid ok
  have HR := Lib.hid r
  obtain ⟨M, hM⟩ : ∃ M, M = (K.at_ d).length := ⟨_, rfl⟩
  have HM := Lib.hid hM
  rw [← hM] at cd hwd
  have HP := Lib.hid (put_any (w := w) (n := n) (m := M) (by omega) (by rw [hM]; exact hn))
  have HN := Lib.hid hn
  clear hc t ok r hM hn
  go_enter Tryz.func96, Tryz.ntmps96
  go_wp2_with fail
  refine HP.out.mono ?_
  rintro e w1 ⟨rfl, hb1, hbits⟩
  have HB1 := Lib.hid hb1
  have HBITS := Lib.hid hbits
  have hsz : w.heap.size < w1.heap.size := hbits.lt
  clear hb1 hbits c2 cd
  go_wp2
  go_loopg [8, 30] M (fun g o i wr => ∃ (j k : Nat) (s' : St) (F' : List Nat), g = M - j ∧ j ≤ M ∧ o = .int .i64 k ∧ i = .int .i64 j ∧ Opr h wr K.op K.st F' s' ∧
    s.Gives L (j * (1 + cost (inRow (K.at_ d)) L)) s' k (leastF (K.at_ d) n j) 0 ∧ Moves F F' w wr ∧ Stays w1 wr)
  case atStart =>
    have h2 := HR.out.wf.len2
    exact ⟨0, 1, s, F, rfl, by omega, rfl, rfl, HT.out.below HB1.out, ⟨.refl s, HR.out.wf, by omega, fun e => by rw [St.ev1, leastF_zero], Nat.zero_le _, by omega⟩, .of_below HB1.out, .refl _⟩
  case round =>
    obtain ⟨j, k, s', F', hg, hj, rfl, rfl, t', gv, mv, sty⟩ := hrel
    have HG := Lib.hid hg
    have HT' := Lib.hid t'
    have HGV := Lib.hid gv
    have HMV := Lib.hid mv
    have HS := Lib.hid sty
    clear hg
    have hbits' := HS.out.blk _ _ _ rfl HBITS.out
    have hc' := HC.out.stays ((Stays.of_below HB1.out).trans HS.out)
    by_cases hjm : j < M
    · obtain ⟨v, hv⟩ : ∃ v, (K.at_ d)[j]? = some v := ⟨_, List.getElem?_eq_getElem (by rw [← HM.out]; exact hjm)⟩
      obtain ⟨g, hrp, hcell, hgl⟩ := (hc'.rows d hd).get hv
      have cb : wr.cell? ⟨w.heap.size, j, none⟩ = some (.bool (n.testBit j)) := by
        rw [hbits'.cell, putArr_get _ _ _ _ hjm]; simp [hjm]
      have hbl := hbits'.lt
      have c2 : wr.cell? ⟨c, 2, none⟩ = some (.slice (some ⟨K.ab, 0, none⟩) K.n K.acap) := hc'.code.cell_of rfl
      have cd : wr.cell? ⟨K.ab, d, none⟩ = some (.slice (some ⟨g, 0, none⟩) M (K.rc d)) := by rw [HM.out, ← hrp]; exact hc'.at_cell hd
      have hvv : v < s'.vars := by rw [gv.le.vars]; exact HOK.out.lt d hd v (List.mem_of_getElem? hv)
      have hcs : (j + 1) * (1 + cost (inRow (K.at_ d)) L) + (M - (j + 1)) * (1 + cost (inRow (K.at_ d)) L) = M * (1 + cost (inRow (K.at_ d)) L) := by
        rw [← Nat.add_mul]; congr 1; omega
      have hr' : Ready s' L B (1 + cost (inRow (K.at_ d)) L) := by
        have e0 : (K.at_ d).length * (1 + cost (inRow (K.at_ d)) L) = j * (1 + cost (inRow (K.at_ d)) L) + ((1 + cost (inRow (K.at_ d)) L) + (M - (j + 1)) * (1 + cost (inRow (K.at_ d)) L)) := by
          rw [← HM.out, ← hcs, Nat.add_mul j 1]; omega
        have r0 := HR.out
        rw [e0] at r0
        exact (r0.next gv).less (by omega)
      have HL := Lib.hid (literal_any H hc' t' (hr'.less (by omega)) hvv true)
      have HC' := Lib.hid hc'
      have HV := Lib.hid hv
      have HR' := Lib.hid hr'
      have HCELL := Lib.hid hcell
      clear t' gv mv sty hc' hv hr' hcs hbits' hrp hvv
      go_wp2_with fail
      refine HL.out.mono ?_
      rintro e w2 ⟨x, s2, F2, rfl, t2, g2, m2⟩
      have st2 := HT'.out.stays m2
      have hc2 := HC'.out.stays st2
      obtain ⟨F0, tS, hF0, x1, x2, x3, x4, x5, hbo⟩ := t2.sto
      have HQ := Lib.hid (quan_ops hc2.quan)
      have c0 : w2.cell? ⟨c, 0, none⟩ = some (.pointer (some ⟨K.q, 0, none⟩)) := hc2.code.cell_of rfl
      have hdep : St.Dep (fun e : Env => e v == true) (inRow (K.at_ d)) := fun e e' he => by
        show (e v == true) = (e' v == true)
        rw [he v (by simp [inRow]; exact List.mem_of_getElem? HV.out)]
      have ia : IsNode s2 (inRow (K.at_ d)) x := Gives.isNode g2 hdep
      have ib : IsNode s2 (inRow (K.at_ d)) k := (Gives.isNode HGV.out (leastF_dep _ _ _)).le g2.le HGV.out.wf g2.wf
      have r2 := HR'.out.next g2
      have HAND := Lib.hid (And_any H t2 r2 ia ib)
      have HOR := Lib.hid (Or_any H t2 r2 ia ib)
      have HG2 := Lib.hid g2
      have HM2 := Lib.hid m2
      have HST2 := Lib.hid st2
      have HT2 := Lib.hid t2
      clear t2 g2 m2 st2 hc2 tS hbo hdep ia ib r2 c2 cd cb hcell
      have hend : ∀ (y : Nat) (s3 : St) (F3 : List Nat) (w3 : World) (f : Env → Bool), Opr h w3 K.op K.st F3 s3 → s2.Gives L (cost (inRow (K.at_ d)) L) s3 y f 0 → Moves F2 F3 w2 w3 → (∀ e, f e = if n.testBit j then (s2.ev x e && s2.ev k e) else (s2.ev x e || s2.ev k e)) → Stays w2 w3 →
          ∃ (j' k' : Nat) (s' : St) (F' : List Nat), M - (j + 1) = M - j' ∧ j' ≤ M ∧ (Value.int .i64 y) = .int .i64 k' ∧ (Value.int .i64 ((j : Int) + 1)) = .int .i64 j' ∧ Opr h w3 K.op K.st F' s' ∧
            s.Gives L (j' * (1 + cost (inRow (K.at_ d)) L)) s' k' (leastF (K.at_ d) n j') 0 ∧ Moves F F' w w3 ∧ Stays w1 w3 := by
        intro y s3 F3 w3 f t3 g3 m3 hf st3
        refine ⟨j + 1, y, s3, F3, rfl, by omega, rfl, by go_num, t3, ⟨(HGV.out.le.trans HG2.out.le).trans g3.le, g3.wf, g3.lt, fun e => ?_, Nat.zero_le _, ?_⟩, (HMV.out.trans HM2.out).trans m3, (HS.out.trans HST2.out).trans st3⟩
        · rw [g3.ev, hf, leastF_succ HV.out, HG2.out.ev, HG2.out.le.ev HGV.out.wf HG2.out.wf k e HGV.out.lt, HGV.out.ev]
          cases e v <;> rfl
        · have a1 := HGV.out.cost
          have a2 := HG2.out.cost
          have a3 := g3.cost
          rw [Nat.add_mul j 1]
          omega
      have HEND := Lib.hid hend
      clear hend
      cases hbit : n.testBit j with
      | true =>
        have HBIT := Lib.hid hbit
        clear hbit
        go_wp2_with (first | (go_at_call 22; refine HQ.out.mono ?_; rintro e w' ⟨rfl, rfl⟩))
        refine HAND.out.mono ?_
        rintro e w3 ⟨y, s3, F3, rfl, t3, g3, m3⟩
        have HF := Lib.hid (HEND.out y s3 F3 w3 _ t3 g3 m3 (fun e => by rw [HBIT.out]; rfl) (HT2.out.stays m3))
        clear t3 g3 m3
        go_wp2
        go_roundg (M - (j + 1))
        case measure => rw [HG.out]; omega
        case rel => exact HF.out
      | false =>
        have HBIT := Lib.hid hbit
        clear hbit
        go_wp2_with (first | (go_at_call 22; refine HQ.out.mono ?_; rintro e w' ⟨rfl, rfl⟩))
        refine HOR.out.mono ?_
        rintro e w3 ⟨y, s3, F3, rfl, t3, g3, m3⟩
        have HF := Lib.hid (HEND.out y s3 F3 w3 _ t3 g3 m3 (fun e => by rw [HBIT.out]; rfl) (HT2.out.stays m3))
        clear t3 g3 m3
        go_wp2
        go_roundg (M - (j + 1))
        case measure => rw [HG.out]; omega
        case rel => exact HF.out
    · obtain rfl : j = M := by omega
      clear t' gv mv sty hc' hbits'
      go_wp2
      go_ret2
      refine ⟨k, s', F', rfl, HT'.out, ?_, HMV.out⟩
      have := HGV.out
      rw [HM.out] at this
      exact this.congr (fun e => leastF_all _ _ HN.out e)
end Go.Proofs.YtndefnfknhjfkaaGreatDoor

namespace Go.Proofs.YtndefnfknhjfkaaGreatDoor
open Go.RowKit Go.Proofs.Osier

/-- What a range of a domain costs, at most. -/
def costR (K : Cd) (d L : Nat) : Nat := 2 * ((K.at_ d).length * (1 + cost (inRow (K.at_ d)) L)) + cost (inRow (K.at_ d)) L

theorem pow16 {m : Nat} (h : m ≤ 16) : 2 ^ m ≤ 65536 ∧ 0 < 2 ^ m := by
  have : 2 ^ m ≤ 2 ^ 16 := Nat.pow_le_pow_right (by omega) h
  exact ⟨by simpa using this, Nat.two_pow_pos m⟩

set_option maxHeartbeats 1000000 in
set_option maxRecDepth 100000 in
theorem between_any {h : Key → Nat} (H : IsHash h) {w : World} {c : Nat} {K : Cd} (hc : CodeAt w c K) {F : List Nat} {s : St} (t : Opr h w K.op K.st F s) (ok : CdOk K s.vars) {d lo hi L B : Nat} (hd : d < K.n) (hlo : lo < 2 ^ (K.at_ d).length) (hhi : hi < 2 ^ (K.at_ d).length) (r : Ready s L B (costR K d L)) :
    Calls Tryz.prog 48 #[.pointer (some ⟨c, 0, none⟩), .int .i64 d, .int .i64 lo, .int .i64 hi] w (OpP h K.op K.st F s L (costR K d L) (fun e => decide (lo ≤ num (K.at_ d) e ∧ num (K.at_ d) e ≤ hi)) w) := by
  have hwd := ok.width d hd
  have hp := pow16 hwd
  have HL := Lib.hid (least_any H hc t ok hd hlo (r.less (by unfold costR; omega)))
  have HC := Lib.hid hc
  have HT := Lib.hid t
  have HOK := Lib.hid ok
  have HR := Lib.hid r
  clear hc t ok r
  go_enter Tryz.func48, Tryz.ntmps48
  go_wp2_with fail
  refine HL.out.mono ?_
  rintro e w1 ⟨k, s1, F1, rfl, t1, g1, m1⟩
  have hc1 := HC.out.stays (HT.out.stays m1)
  have c2 : w1.cell? ⟨c, 2, none⟩ = some (.slice (some ⟨K.ab, 0, none⟩) K.n K.acap) := hc1.code.cell_of rfl
  have cd : w1.cell? ⟨K.ab, d, none⟩ = some (.slice (K.rp d) (K.at_ d).length (K.rc d)) := hc1.at_cell hd
  have HT1 := Lib.hid t1
  have HG1 := Lib.hid g1
  have HM1 := Lib.hid m1
  have HC1 := Lib.hid hc1
  clear t1 g1 m1 hc1
  obtain ⟨P, hP⟩ : ∃ P, P = 2 ^ (K.at_ d).length := ⟨_, rfl⟩
  have hsh : wrap64 (2 ^ (K.at_ d).length) = (P : Int) := by
    have hx : ((2 : Int) ^ (K.at_ d).length) = ((2 ^ (K.at_ d).length : Nat) : Int) := by push_cast; rfl
    rw [hx, hP]
    generalize 2 ^ (K.at_ d).length = p at *
    unfold wrap64; omega
  rw [← hP] at hhi hp hlo
  have HPP := Lib.hid hP
  clear hP
  by_cases hcmp : P ≤ hi + 1
  · have hd1 : (P : Int) ≤ (hi : Int) + 1 := by omega
    go_wp2
    go_ret2
    have g1 := HG1.out
    refine ⟨k, s1, F1, rfl, HT1.out, (g1.mono (by unfold costR; omega) (Nat.le_refl _)).congr fun e => ?_, HM1.out⟩
    have h1 := num_lt (K.at_ d) e
    rw [← HPP.out] at h1
    have h2 : num (K.at_ d) e ≤ hi := by omega
    simp [h2]
  · have hd1 : ¬ (P : Int) ≤ (hi : Int) + 1 := by omega
    have r1 : Ready s1 L B ((K.at_ d).length * (1 + cost (inRow (K.at_ d)) L) + cost (inRow (K.at_ d)) L) := by
      have e0 : costR K d L = (K.at_ d).length * (1 + cost (inRow (K.at_ d)) L) + ((K.at_ d).length * (1 + cost (inRow (K.at_ d)) L) + cost (inRow (K.at_ d)) L) := by unfold costR; omega
      have r0 := HR.out
      rw [e0] at r0
      exact r0.next HG1.out
    have ok1 : CdOk K s1.vars := by rw [HG1.out.le.vars]; exact HOK.out
    have HL1 := Lib.hid (least_any (n := hi + 1) H HC1.out HT1.out ok1 hd (by rw [← HPP.out]; omega) (r1.less (by omega)))
    have HR1 := Lib.hid r1
    clear r1 ok1
    go_wp2_with fail
    refine HL1.out.mono ?_
    rintro e w2 ⟨n, s2, F2, rfl, t2, g2, m2⟩
    have hc2 := HC1.out.stays (HT1.out.stays m2)
    obtain ⟨F0, tS, hF0, x1, x2, x3, x4, x5, hbo⟩ := t2.sto
    have HQ := Lib.hid (quan_ops hc2.quan)
    have c0 : w2.cell? ⟨c, 0, none⟩ = some (.pointer (some ⟨K.q, 0, none⟩)) := hc2.code.cell_of rfl
    have hdep : ∀ x : Nat, St.Dep (fun e : Env => decide (x ≤ num (K.at_ d) e)) (inRow (K.at_ d)) := fun x e e' he => by
      show decide (x ≤ num (K.at_ d) e) = decide (x ≤ num (K.at_ d) e')
      rw [num_dep (K.at_ d) e e' fun v hv => he v (by simpa [inRow] using hv)]
    have ia : IsNode s2 (inRow (K.at_ d)) k := (Gives.isNode HG1.out (hdep lo)).le g2.le HG1.out.wf g2.wf
    have ib : IsNode s2 (inRow (K.at_ d)) n := Gives.isNode g2 (hdep _)
    have HD := Lib.hid (Diff_any H t2 (HR1.out.next g2) ia ib)
    have HG2 := Lib.hid g2
    have HM2 := Lib.hid m2
    clear t2 g2 m2 hc2 tS hbo hdep ia ib c2 cd
    go_wp2_with (first | (go_at_call 22; refine HQ.out.mono ?_; rintro e w' ⟨rfl, rfl⟩))
    refine HD.out.mono ?_
    rintro e w3 ⟨y, s3, F3, rfl, t3, g3, m3⟩
    have HT3 := Lib.hid t3
    have HG3 := Lib.hid g3
    have HM3 := Lib.hid m3
    clear t3 g3 m3
    go_wp2
    go_ret2
    refine ⟨y, s3, F3, rfl, HT3.out, ⟨(HG1.out.le.trans HG2.out.le).trans HG3.out.le, HG3.out.wf, HG3.out.lt, fun e => ?_, Nat.zero_le _, ?_⟩, (HM1.out.trans HM2.out).trans HM3.out⟩
    · rw [HG3.out.ev, HG2.out.ev, HG2.out.le.ev HG1.out.wf HG2.out.wf k e HG1.out.lt, HG1.out.ev]
      rw [← decide_not, ← Bool.decide_and]
      congr 1
      simp only [Nat.not_le, eq_iff_iff]
      omega
    · have a1 := HG1.out.cost
      have a2 := HG2.out.cost
      have a3 := HG3.out.cost
      unfold costR
      omega
end Go.Proofs.YtndefnfknhjfkaaGreatDoor

namespace Go.Proofs.YtndefnfknhjfkaaGreatDoor
open Go.RowKit Go.Proofs.Osier

theorem has_fn {w : World} {c n dc bx : Nat} {dp : Option Addr} {q a : Value} (hb : Blk w c 63 #[q, .slice dp n dc, a]) (hbx : w.cell? ⟨bx, 0, none⟩ = some (.pointer (some ⟨c, 0, none⟩))) (hbl : bx < w.heap.size) (x : Nat) :
    Calls Tryz.prog 95 #[.int .i64 x, .pointer (some ⟨bx, 0, none⟩)] w fun e w' => e = .returned (.bool (decide (n ≤ x))) ∧ w = w' := by
  have c1 : w.cell? ⟨c, 1, none⟩ = some (.slice dp n dc) := hb.cell_of rfl
  have hcl := hb.lt
  clear hb
  go_enter Tryz.func95, Tryz.ntmps95
  go_wp2
  go_ret
  refine ⟨?_, rfl⟩
  have : ¬ (x : Int) < 0 := by omega
  simp [this]

theorem index_any {w : World} {c n dc bx : Nat} {dp p : Option Addr} {q a : Value} (hb : Blk w c 63 #[q, .slice dp n dc, a]) (hbx : w.cell? ⟨bx, 0, none⟩ = some (.pointer (some ⟨c, 0, none⟩))) (hbl : bx < w.heap.size) (l : List Nat) (cap : Nat) (hl : RowIn w p l) (hlen : l.length ≤ 1000000) :
    Calls Tryz.prog 127 #[.slice p l.length cap, .func (.func 95) #[] #[.pointer (some ⟨bx, 0, none⟩)]] w fun e w' => (∃ i : Int, e = .returned (.int .i64 i) ∧ (i < 0 ↔ (l.all fun x => decide (x < n)) = true)) ∧ w = w' := by
  have HF := Lib.hid (fun x => has_fn hb hbx hbl x)
  have HL := Lib.hid hl
  obtain ⟨m, hm⟩ : ∃ m, m = l.length := ⟨_, rfl⟩
  rw [← hm] at hlen ⊢
  have HM := Lib.hid hm
  clear hb hbx hbl hl hm
  go_enter Tryz.func127, Tryz.ntmps127
  go_wp2
  go_loopg [8] m (fun g i wr => ∃ (k : Nat), g = m - k ∧ k ≤ m ∧ i = .int .i64 k ∧ wr = w ∧ Hid (∀ j x, j < k → l[j]? = some x → x < n))
  case atStart => exact ⟨0, rfl, by omega, rfl, rfl, fun j x hj => absurd hj (by omega)⟩
  case round =>
    obtain ⟨k, hg, hk, rfl, rfl, HALL⟩ := hrel
    have HG := Lib.hid hg
    clear hg
    by_cases hkm : k < m
    · obtain ⟨x, hx⟩ : ∃ x, l[k]? = some x := ⟨_, List.getElem?_eq_getElem (by rw [← HM.out]; exact hkm)⟩
      obtain ⟨g, rfl, hcell, hgl⟩ := HL.out.get hx
      have HX := Lib.hid hx
      clear hx
      by_cases hxn : n ≤ x
      · have hdec : decide (n ≤ x) = true := by simp [hxn]
        go_wp2_with (go_at_call 95; refine (HF.out x).mono ?_; rintro e w' ⟨rfl, rfl⟩)
        go_ret
        refine ⟨⟨k, rfl, ?_⟩, rfl⟩
        constructor
        · intro h; omega
        · intro h
          rw [List.all_eq_true] at h
          have := h x (List.mem_of_getElem? HX.out)
          simp at this; omega
      · have hdec : decide (n ≤ x) = false := by simp; omega
        go_wp2_with (go_at_call 95; refine (HF.out x).mono ?_; rintro e w' ⟨rfl, rfl⟩)
        go_roundg (m - (k + 1))
        case measure => rw [HG.out]; omega
        case rel =>
          refine ⟨k + 1, rfl, by omega, by go_num, rfl, fun j y hj hy => ?_⟩
          by_cases hjk : j < k
          · exact HALL.out j y hjk hy
          · obtain rfl : j = k := by omega
            rw [HX.out] at hy; injection hy with hy; omega
    · obtain rfl : k = m := by omega
      go_wp2
      go_ret
      refine ⟨⟨-1, rfl, ?_⟩, rfl⟩
      constructor
      · intro _
        rw [List.all_eq_true]
        intro x hx
        obtain ⟨j, hj, rfl⟩ := List.getElem_of_mem hx
        have := HALL.out j _ (by rw [HM.out]; exact hj) (List.getElem?_eq_getElem hj)
        simp [this]
      · intro _; omega

theorem contains_any {w : World} {c n dc bx : Nat} {dp p : Option Addr} {q a : Value} (hb : Blk w c 63 #[q, .slice dp n dc, a]) (hbx : w.cell? ⟨bx, 0, none⟩ = some (.pointer (some ⟨c, 0, none⟩))) (hbl : bx < w.heap.size) (l : List Nat) (cap : Nat) (hl : RowIn w p l) (hlen : l.length ≤ 1000000) :
    Calls Tryz.prog 94 #[.slice p l.length cap, .func (.func 95) #[] #[.pointer (some ⟨bx, 0, none⟩)]] w fun e w' => e = .returned (.bool (!(l.all fun x => decide (x < n)))) ∧ w = w' := by
  have HI := Lib.hid (index_any hb hbx hbl l cap hl hlen)
  clear hb hbx hbl hl
  go_enter Tryz.func94, Tryz.ntmps94
  go_wp2_with fail
  refine HI.out.mono ?_
  rintro e w' ⟨⟨i, rfl, hi⟩, rfl⟩
  have HH := Lib.hid hi
  clear hi
  go_wp2
  go_ret
  refine ⟨?_, rfl⟩
  have := HH.out
  cases hx : (l.all fun x => decide (x < n))
  · have h0 : ¬ i < 0 := fun h => by rw [this.1 h] at hx; cases hx
    simp; omega
  · have h0 := this.2 hx
    simp; omega

theorem has_any {w : World} {c : Nat} {K : Cd} (hc : CodeAt w c K) (l : List Nat) (cap : Nat) {p : Option Addr} (hl : RowIn w p l) (hlen : l.length ≤ 1000000) :
    Calls Tryz.prog 47 #[.pointer (some ⟨c, 0, none⟩), .slice p l.length cap] w fun e w' => e = .returned (.bool (l.all fun x => decide (x < K.n))) ∧ Below w.heap.size w w' := by
  have hB : Below w.heap.size w (w.alloc (.cells #[.pointer (some ⟨c, 0, none⟩)] 23)) := (Below.refl _ _).alloc (Nat.le_refl _) _
  have hb := hc.code.alloc (.cells #[.pointer (some ⟨c, 0, none⟩)] 23)
  have hbx := Blk.new w 23 #[.pointer (some ⟨c, 0, none⟩)]
  have HK := Lib.hid (contains_any hb (hbx.cell_of rfl) hbx.lt l cap (hl.stays (.of_below hB)) hlen)
  have HB := Lib.hid hB
  have hmf : ∀ (fn : Fn) (first cap : Array Value) (w : World), (Instr.makeFunc fn first cap).run Tryz.prog w = .ok (.func fn first cap) w := fun _ _ _ _ => rfl
  clear hc hb hbx hB hl
  go_enter Tryz.func47, Tryz.ntmps47
  go_wp2_with (go_at_call 94; refine HK.out.mono ?_; rintro e w' ⟨rfl, rfl⟩)
  go_ret
  exact ⟨by simp, HB.out⟩

end Go.Proofs.YtndefnfknhjfkaaGreatDoor

namespace Go.Proofs.YtndefnfknhjfkaaGreatDoor
open Go.RowKit Go.Proofs.Osier

theorem rowIn1 (w : World) (d : Nat) : RowIn (w.alloc (.cells #[.int .i64 d] 3)) (some ⟨w.heap.size, 0, none⟩) [d] :=
  .inr ⟨_, _, rfl, Blk.new w 3 _, fun i x h => by
    match i, h with
    | 0, h => simp at h; subst h; rfl⟩

set_option maxHeartbeats 1000000 in
set_option maxRecDepth 100000 in
theorem Range_good {h : Key → Nat} (H : IsHash h) {w : World} {c : Nat} {K : Cd} (hc : CodeAt w c K) {F : List Nat} {s : St} (t : Opr h w K.op K.st F s) (ok : CdOk K s.vars) {d lo hi L B : Nat} (hd : d < K.n) (hlo : lo < K.size d) (hhi : hi < K.size d) (r : Ready s L B (costR K d L)) :
    Calls Tryz.prog 15 #[.pointer (some ⟨c, 0, none⟩), .int .i64 d, .int .i64 lo, .int .i64 hi] w (OpP h K.op K.st F s L (costR K d L) (fun e => decide (lo ≤ num (K.at_ d) e ∧ num (K.at_ d) e ≤ hi)) w) := by
  have hb1 : Below w.heap.size w (w.alloc (.cells #[.int .i64 d] 3)) := (Below.refl _ _).alloc (Nat.le_refl _) _
  have hc1 := hc.stays (.of_below hb1)
  have HH := Lib.hid (has_any hc1 [d] 1 (rowIn1 w d) (by simp))
  have hall : ([d].all fun x => decide (x < K.n)) = true := by simp [hd]
  rw [hall] at HH
  have c0 : w.cell? ⟨c, 0, none⟩ = some (.pointer (some ⟨K.q, 0, none⟩)) := hc.code.cell_of rfl
  have hcl := hc.code.lt
  have HC1 := Lib.hid hc1
  have HT := Lib.hid (t.below hb1)
  have HOK := Lib.hid ok
  have HR := Lib.hid r
  have HB1 := Lib.hid hb1
  have hfit := ok.fits d hd
  have hwd := ok.width d hd
  have hp := pow16 hwd
  clear hc t ok r hc1 hb1 hall
  go_enter Tryz.func15, Tryz.ntmps15
  go_wp2_with fail
  refine HH.out.mono ?_
  rintro e w1 ⟨rfl, hb2⟩
  have hc2 := HC1.out.stays (.of_below hb2)
  have c1 : w1.cell? ⟨c, 1, none⟩ = some (.slice (some ⟨K.db, 0, none⟩) K.n K.dcap) := hc2.code.cell_of rfl
  have cs : w1.cell? ⟨K.db, d * 2 + 1, none⟩ = some (.int .i64 (K.size d)) := hc2.size_cell hd
  have HC2 := Lib.hid hc2
  have HT2 := Lib.hid (HT.out.below hb2)
  have HB2 := Lib.hid hb2
  clear hc2 hb2 c0
  have hlo' : lo < 2 ^ (K.at_ d).length := by omega
  have hhi' : hi < 2 ^ (K.at_ d).length := by omega
  have HBT := Lib.hid (between_any (lo := lo) (hi := hi) H HC2.out HT2.out HOK.out hd hlo' hhi' HR.out)
  clear hlo' hhi' hp hwd
  by_cases hle : lo ≤ hi
  · rcases (show lo < hi ∨ lo = hi by omega) with hlt | hlt
    · clear hle
      go_wp2_with fail
      refine HBT.out.mono ?_
      rintro e w3 ⟨y, s3, F3, rfl, t3, g3, m3⟩
      have HT3 := Lib.hid t3
      have HG3 := Lib.hid g3
      have HM3 := Lib.hid m3
      clear t3 g3 m3
      go_wp2
      go_ret2
      exact ⟨y, s3, F3, rfl, HT3.out, HG3.out, (Moves.of_below (HB1.out.trans (HB2.out.mono HB1.out.size))).trans HM3.out⟩
    · subst hlt
      go_wp2_with fail
      refine HBT.out.mono ?_
      rintro e w3 ⟨y, s3, F3, rfl, t3, g3, m3⟩
      have HT3 := Lib.hid t3
      have HG3 := Lib.hid g3
      have HM3 := Lib.hid m3
      clear t3 g3 m3
      go_wp2
      go_ret2
      exact ⟨y, s3, F3, rfl, HT3.out, HG3.out, (Moves.of_below (HB1.out.trans (HB2.out.mono HB1.out.size))).trans HM3.out⟩
  · go_wp2
    go_ret2
    have h2 := HR.out.wf.len2
    refine ⟨0, s, F, rfl, HT2.out, ⟨.refl s, HR.out.wf, by omega, fun e => ?_, Nat.zero_le _, by omega⟩, .of_below (HB1.out.trans (HB2.out.mono HB1.out.size))⟩
    rw [St.ev0]
    simp
    omega

set_option maxHeartbeats 1000000 in
set_option maxRecDepth 100000 in
theorem Range_bad {w : World} {c : Nat} {K : Cd} (hc : CodeAt w c K) {d : Nat} {lo hi : Int} (hd : d < K.n) (hbad : lo < 0 ∨ hi < 0 ∨ (K.size d : Int) ≤ lo ∨ (K.size d : Int) ≤ hi) :
    Calls Tryz.prog 15 #[.pointer (some ⟨c, 0, none⟩), .int .i64 d, .int .i64 lo, .int .i64 hi] w fun e w' => e = .returned (.tuple #[.int .i64 0, .int .i64 1]) ∧ Below w.heap.size w w' := by
  have hb1 : Below w.heap.size w (w.alloc (.cells #[.int .i64 d] 3)) := (Below.refl _ _).alloc (Nat.le_refl _) _
  have hc1 := hc.stays (.of_below hb1)
  have HH := Lib.hid (has_any hc1 [d] 1 (rowIn1 w d) (by simp))
  have hall : ([d].all fun x => decide (x < K.n)) = true := by simp [hd]
  rw [hall] at HH
  have c0 : w.cell? ⟨c, 0, none⟩ = some (.pointer (some ⟨K.q, 0, none⟩)) := hc.code.cell_of rfl
  have hcl := hc.code.lt
  have HC1 := Lib.hid hc1
  have HB1 := Lib.hid hb1
  clear hc hc1 hb1 hall
  go_enter Tryz.func15, Tryz.ntmps15
  go_wp2_with fail
  refine HH.out.mono ?_
  rintro e w1 ⟨rfl, hb2⟩
  have hc2 := HC1.out.stays (.of_below hb2)
  have c1 : w1.cell? ⟨c, 1, none⟩ = some (.slice (some ⟨K.db, 0, none⟩) K.n K.dcap) := hc2.code.cell_of rfl
  have cs : w1.cell? ⟨K.db, d * 2 + 1, none⟩ = some (.int .i64 (K.size d)) := hc2.size_cell hd
  have HB2 := Lib.hid (HB1.out.trans (hb2.mono HB1.out.size))
  clear hc2 hb2 c0
  rcases (show lo < hi ∨ hi < lo ∨ lo = hi by omega) with hx | hx | hx
  · rcases (show lo < 0 ∨ (¬ lo < 0 ∧ (K.size d : Int) ≤ hi) by omega) with hy | ⟨hy, hz⟩
    · go_wp2
      go_ret2
      exact ⟨rfl, HB2.out⟩
    · go_wp2
      go_ret2
      exact ⟨rfl, HB2.out⟩
  · rcases (show hi < 0 ∨ (¬ hi < 0 ∧ (K.size d : Int) ≤ lo) by omega) with hy | ⟨hy, hz⟩
    · go_wp2
      go_ret2
      exact ⟨rfl, HB2.out⟩
    · go_wp2
      go_ret2
      exact ⟨rfl, HB2.out⟩
  · subst hx
    rcases (show lo < 0 ∨ (¬ lo < 0 ∧ (K.size d : Int) ≤ lo) by omega) with hy | ⟨hy, hz⟩
    · go_wp2
      go_ret2
      exact ⟨rfl, HB2.out⟩
    · go_wp2
      go_ret2
      exact ⟨rfl, HB2.out⟩

end Go.Proofs.YtndefnfknhjfkaaGreatDoor
