/- Walks: the variables that a node asks, sorted. -/
import Derived.Test.YtndefnfknhjfkaaGreatDoorGf
import Derived.Laws.EntriesVeiled

namespace Go.Proofs.YtndefnfknhjfkaaGreatDoor
open Go.RowKit Go.Proofs.Osier

theorem heap_store {w : World} {a : Addr} (v : Value) {k : Nat} (h : k ≠ a.block) : (w.setCell a v).heap[k]? = w.heap[k]? := Below.heap_setCell w a v k h

set_option maxHeartbeats 1000000 in
set_option maxRecDepth 100000 in
theorem asks_any {h : Key → Nat} {w : World} {st : Nat} {F : List Nat} {s : St} (t : Sto h w st F s) {k : Nat} {p : Nat → Bool} (hk : k < s.l.length) (hd : St.Dep (s.ev k) p) :
    Calls Tryz.prog 181 #[.pointer (some ⟨st, 0, none⟩), .int .i64 k] w fun e w' => ∃ (q : Option Addr) (cap : Nat) (l : List Nat), e = .returned (.tuple #[.slice q l.length cap, .int .i64 0]) ∧ RowIn w' q l ∧ (∀ x ∈ l, p x = true) ∧ l.length ≤ 1000000 ∧ Below w.heap.size w w' := by
  have hB1 : Below w.heap.size w (w.alloc (.cells #[.pointer (some ⟨st, 0, none⟩)] 87)) := (Below.refl _ w).alloc (Nat.le_refl _) _
  have t1 : Sto h (w.alloc (.cells #[.pointer (some ⟨st, 0, none⟩)] 87)) st F s := t.of_heap fun x hx => hB1.block x (t.lt x hx)
  have hbx := Blk.new w 87 #[.pointer (some ⟨st, 0, none⟩)]
  have HM := Lib.hid (cmay_any t1 hk)
  have HT0 := Lib.hid t
  have HB1 := Lib.hid hB1
  have HBX := Lib.hid hbx
  have hmm := @run_makeMap Tryz.prog
  have HD := Lib.hid hd
  obtain ⟨hwf, hl, hvs⟩ := node_lt t
  clear t t1 hB1 hbx hd hwf
  have hmf : ∀ (fn : Fn) (first cap : Array Value) (w : World), (Instr.makeFunc fn first cap).run Tryz.prog w = .ok (.func fn first cap) w := fun _ _ _ _ => rfl
  go_enter Tryz.func181, Tryz.ntmps181
  go_wp2_with fail
  refine HM.out.mono ?_
  rintro e w' ⟨rfl, n, rfl⟩
  go_wp2_with fail
  have s1 : ((w.alloc (.cells #[.pointer (some ⟨st, 0, none⟩)] 87)).drewN n).heap.size = w.heap.size + 1 := by simp
  have s2 : (((w.alloc (.cells #[.pointer (some ⟨st, 0, none⟩)] 87)).drewN n).alloc (.map #[] 0)).heap.size = w.heap.size + 1 + 1 := by simp
  have s3 : ((((w.alloc (.cells #[.pointer (some ⟨st, 0, none⟩)] 87)).drewN n).alloc (.map #[] 0)).alloc (.map #[] 0)).heap.size = w.heap.size + 1 + 1 + 1 := by simp
  have s4 : (((((w.alloc (.cells #[.pointer (some ⟨st, 0, none⟩)] 87)).drewN n).alloc (.map #[] 0)).alloc (.map #[] 0)).alloc (.cells #[.map (some (w.heap.size + 1))] 95)).heap.size = w.heap.size + 1 + 1 + 1 + 1 := by simp
  have s5 : ((((((w.alloc (.cells #[.pointer (some ⟨st, 0, none⟩)] 87)).drewN n).alloc (.map #[] 0)).alloc (.map #[] 0)).alloc (.cells #[.map (some (w.heap.size + 1))] 95)).alloc (.cells #[.map (some (w.heap.size + 1 + 1))] 95)).heap.size = w.heap.size + 1 + 1 + 1 + 1 + 1 := by simp
  have m1 := BMap.made ((w.alloc (.cells #[.pointer (some ⟨st, 0, none⟩)] 87)).drewN n) (fun _ => True)
  have m2 := BMap.made (((w.alloc (.cells #[.pointer (some ⟨st, 0, none⟩)] 87)).drewN n).alloc (.map #[] 0)) (fun u => p u = true)
  have q7 := Blk.new ((((w.alloc (.cells #[.pointer (some ⟨st, 0, none⟩)] 87)).drewN n).alloc (.map #[] 0)).alloc (.map #[] 0)) 95 #[.map (some (w.heap.size + 1))]
  have q8 := Blk.new (((((w.alloc (.cells #[.pointer (some ⟨st, 0, none⟩)] 87)).drewN n).alloc (.map #[] 0)).alloc (.map #[] 0)).alloc (.cells #[.map (some (w.heap.size + 1))] 95)) 95 #[.map (some (w.heap.size + 1 + 1))]
  have q9 := Blk.new ((((((w.alloc (.cells #[.pointer (some ⟨st, 0, none⟩)] 87)).drewN n).alloc (.map #[] 0)).alloc (.map #[] 0)).alloc (.cells #[.map (some (w.heap.size + 1))] 95)).alloc (.cells #[.map (some (w.heap.size + 1 + 1))] 95)) 203 #[.func (.func 203) #[] #[.pointer (some ⟨w.heap.size + 1 + 1 + 1, 0, none⟩), .pointer (some ⟨w.heap.size, 0, none⟩), .pointer (some ⟨w.heap.size + 1 + 1 + 1 + 1, 0, none⟩), .pointer (some ⟨w.heap.size + 1 + 1 + 1 + 1 + 1, 0, none⟩)]]
  rw [s1] at m1
  rw [s2] at m2
  rw [s3] at q7
  rw [s4] at q8
  rw [s5] at q9
  have hB6 : Below w.heap.size w (((((((w.alloc (.cells #[.pointer (some ⟨st, 0, none⟩)] 87)).drewN n).alloc (.map #[] 0)).alloc (.map #[] 0)).alloc (.cells #[.map (some (w.heap.size + 1))] 95)).alloc (.cells #[.map (some (w.heap.size + 1 + 1))] 95)).alloc (.cells #[.func (.func 203) #[] #[.pointer (some ⟨w.heap.size + 1 + 1 + 1, 0, none⟩), .pointer (some ⟨w.heap.size, 0, none⟩), .pointer (some ⟨w.heap.size + 1 + 1 + 1 + 1, 0, none⟩), .pointer (some ⟨w.heap.size + 1 + 1 + 1 + 1 + 1, 0, none⟩)]] 203)) := ((((((below_drewN HB1.out n).alloc (by simp) _).alloc (by simp; omega) _).alloc (by simp; omega) _).alloc (by simp; omega) _).alloc (by simp; omega) _)
  have q2 : Blk (((((((w.alloc (.cells #[.pointer (some ⟨st, 0, none⟩)] 87)).drewN n).alloc (.map #[] 0)).alloc (.map #[] 0)).alloc (.cells #[.map (some (w.heap.size + 1))] 95)).alloc (.cells #[.map (some (w.heap.size + 1 + 1))] 95)).alloc (.cells #[.func (.func 203) #[] #[.pointer (some ⟨w.heap.size + 1 + 1 + 1, 0, none⟩), .pointer (some ⟨w.heap.size, 0, none⟩), .pointer (some ⟨w.heap.size + 1 + 1 + 1 + 1, 0, none⟩), .pointer (some ⟨w.heap.size + 1 + 1 + 1 + 1 + 1, 0, none⟩)]] 203)) w.heap.size 87 #[.pointer (some ⟨st, 0, none⟩)] := ((((((HBX.out.drewN n).alloc _).alloc _).alloc _).alloc _).alloc _)
  have hA : AskAt (((((((w.alloc (.cells #[.pointer (some ⟨st, 0, none⟩)] 87)).drewN n).alloc (.map #[] 0)).alloc (.map #[] 0)).alloc (.cells #[.map (some (w.heap.size + 1))] 95)).alloc (.cells #[.map (some (w.heap.size + 1 + 1))] 95)).alloc (.cells #[.func (.func 203) #[] #[.pointer (some ⟨w.heap.size + 1 + 1 + 1, 0, none⟩), .pointer (some ⟨w.heap.size, 0, none⟩), .pointer (some ⟨w.heap.size + 1 + 1 + 1 + 1, 0, none⟩), .pointer (some ⟨w.heap.size + 1 + 1 + 1 + 1 + 1, 0, none⟩)]] 203)) (w.heap.size + 1 + 1 + 1) w.heap.size (w.heap.size + 1 + 1 + 1 + 1) (w.heap.size + 1 + 1 + 1 + 1 + 1) (w.heap.size + 1) (w.heap.size + 1 + 1) st :=
    ⟨(q7.alloc _).alloc _, q2, q8.alloc _, q9⟩
  have m1' : BMap (((((((w.alloc (.cells #[.pointer (some ⟨st, 0, none⟩)] 87)).drewN n).alloc (.map #[] 0)).alloc (.map #[] 0)).alloc (.cells #[.map (some (w.heap.size + 1))] 95)).alloc (.cells #[.map (some (w.heap.size + 1 + 1))] 95)).alloc (.cells #[.func (.func 203) #[] #[.pointer (some ⟨w.heap.size + 1 + 1 + 1, 0, none⟩), .pointer (some ⟨w.heap.size, 0, none⟩), .pointer (some ⟨w.heap.size + 1 + 1 + 1 + 1, 0, none⟩), .pointer (some ⟨w.heap.size + 1 + 1 + 1 + 1 + 1, 0, none⟩)]] 203)) (w.heap.size + 1) 0 (fun _ => false) (fun _ => True) := m1.kept (by
    rw [Below.heap_alloc _ _ _ (by rw [s5]; omega), Below.heap_alloc _ _ _ (by rw [s4]; omega), Below.heap_alloc _ _ _ (by rw [s3]; omega), Below.heap_alloc _ _ _ (by rw [s2]; omega)])
  have m2' : BMap (((((((w.alloc (.cells #[.pointer (some ⟨st, 0, none⟩)] 87)).drewN n).alloc (.map #[] 0)).alloc (.map #[] 0)).alloc (.cells #[.map (some (w.heap.size + 1))] 95)).alloc (.cells #[.map (some (w.heap.size + 1 + 1))] 95)).alloc (.cells #[.func (.func 203) #[] #[.pointer (some ⟨w.heap.size + 1 + 1 + 1, 0, none⟩), .pointer (some ⟨w.heap.size, 0, none⟩), .pointer (some ⟨w.heap.size + 1 + 1 + 1 + 1, 0, none⟩), .pointer (some ⟨w.heap.size + 1 + 1 + 1 + 1 + 1, 0, none⟩)]] 203)) (w.heap.size + 1 + 1) 0 (fun _ => false) (fun u => p u = true) := m2.kept (by
    rw [Below.heap_alloc _ _ _ (by rw [s5]; omega), Below.heap_alloc _ _ _ (by rw [s4]; omega), Below.heap_alloc _ _ _ (by rw [s3]; omega)])
  have t6 : Sto h (((((((w.alloc (.cells #[.pointer (some ⟨st, 0, none⟩)] 87)).drewN n).alloc (.map #[] 0)).alloc (.map #[] 0)).alloc (.cells #[.map (some (w.heap.size + 1))] 95)).alloc (.cells #[.map (some (w.heap.size + 1 + 1))] 95)).alloc (.cells #[.func (.func 203) #[] #[.pointer (some ⟨w.heap.size + 1 + 1 + 1, 0, none⟩), .pointer (some ⟨w.heap.size, 0, none⟩), .pointer (some ⟨w.heap.size + 1 + 1 + 1 + 1, 0, none⟩), .pointer (some ⟨w.heap.size + 1 + 1 + 1 + 1 + 1, 0, none⟩)]] 203)) st F s := HT0.out.of_heap fun x hx => hB6.block x (HT0.out.lt x hx)
  generalize (((((((w.alloc (.cells #[.pointer (some ⟨st, 0, none⟩)] 87)).drewN n).alloc (.map #[] 0)).alloc (.map #[] 0)).alloc (.cells #[.map (some (w.heap.size + 1))] 95)).alloc (.cells #[.map (some (w.heap.size + 1 + 1))] 95)).alloc (.cells #[.func (.func 203) #[] #[.pointer (some ⟨w.heap.size + 1 + 1 + 1, 0, none⟩), .pointer (some ⟨w.heap.size, 0, none⟩), .pointer (some ⟨w.heap.size + 1 + 1 + 1 + 1, 0, none⟩), .pointer (some ⟨w.heap.size + 1 + 1 + 1 + 1 + 1, 0, none⟩)]] 203)) = w6 at *
  clear q7 q8 q9 q2 m1 m2 s1 s2 s3 s4 s5
  rw [← seenN_none s.l.length] at m1' m2'
  have HW := Lib.hid (asks_walk (by omega) k w6 _ _ t6 hA m1' m2' hk HD.out)
  have HA := Lib.hid hA
  have HM1 := Lib.hid m1'
  have HM2 := Lib.hid m2'
  have HB6 := Lib.hid hB6
  clear hA m1' m2' t6 hB6
  refine HW.out.mono ?_
  rintro e w7 ⟨rfl, fs, fv, h7, v7, k7⟩
  have a7 := HA.out.keep HM1.out HM2.out k7
  have c8 : w7.cell? ⟨w.heap.size + 1 + 1 + 1 + 1, 0, none⟩ = some (.map (some (w.heap.size + 1 + 1))) := a7.f8.cell_of rfl
  have hn7 := seenN_le fs s.l.length
  have HS := Lib.hid (sorted_bmap v7 (by omega))
  have HB7 : Hid (Below w.heap.size w w7) := ((Keep.of_below HB6.out).trans k7 (fun x hx => by right; simp at hx; omega) : Keep [] w w7).below
  have HSZ := Lib.hid (⟨v7.lt, hn7⟩ : w.heap.size + 1 + 1 < w7.heap.size ∧ seenN fs s.l.length ≤ s.l.length)
  clear h7 v7 k7 a7
  go_wp2_with (go_at_call 204; refine (keys_call _ _).mono ?_; rintro e w' ⟨rfl, rfl⟩)
  refine HS.out.mono ?_
  rintro e w8 ⟨q, cap, l, rfl, hr, hp, hlen, hb8⟩
  have HR := Lib.hid hr
  have HP := Lib.hid hp
  have HB8 := Lib.hid hb8
  clear hr hp hb8
  go_wp2
  go_ret2
  exact ⟨q, cap, l, rfl, HR.out, HP.out, by omega, HB7.out.trans (HB8.out.mono HB7.out.size)⟩
end Go.Proofs.YtndefnfknhjfkaaGreatDoor

namespace Go.Proofs.YtndefnfknhjfkaaGreatDoor
open Go.RowKit Go.Proofs.Osier

/-- Where each of the first k variables stands. -/
def atF (sv : List Nat) (k : Nat) (y : Nat) : Option Nat := if sv.idxOf y < k then some (sv.idxOf y) else none

theorem idxOf_get {sv : List Nat} (hn : sv.Nodup) {k v : Nat} (hv : sv[k]? = some v) : sv.idxOf v = k := by
  obtain ⟨hk, rfl⟩ := List.getElem?_eq_some_iff.1 hv
  exact hn.idxOf_getElem k hk

theorem atF_zero (sv : List Nat) : atF sv 0 = fun _ => none := by funext y; simp [atF]
theorem atF_new {sv : List Nat} (hn : sv.Nodup) {k v : Nat} (hv : sv[k]? = some v) : atF sv k v = none := by
  simp [atF, idxOf_get hn hv]
theorem atF_succ {sv : List Nat} (hn : sv.Nodup) {k v : Nat} (hv : sv[k]? = some v) : (fun y => if y = v then some k else atF sv k y) = atF sv (k + 1) := by
  funext y
  by_cases hy : y = v
  · subst hy; rw [if_pos rfl]; simp [atF, idxOf_get hn hv]
  · rw [if_neg hy]
    have : sv.idxOf y ≠ k := by
      intro h
      apply hy
      have hk : k < sv.length := (List.getElem?_eq_some_iff.1 hv).1
      have h1 : sv.idxOf y < sv.length := by omega
      have h2 := List.getElem_idxOf h1
      obtain ⟨_, h3⟩ := List.getElem?_eq_some_iff.1 hv
      rw [← h2, ← h3]
      congr
    unfold atF
    by_cases h : sv.idxOf y < k
    · rw [if_pos h, if_pos (by omega)]
    · rw [if_neg h, if_neg (by omega)]
theorem atF_mem {sv : List Nat} {v : Nat} (h : v ∈ sv) : atF sv sv.length v = some (sv.idxOf v) := by
  unfold atF
  rw [if_pos (List.idxOf_lt_length_iff.2 h)]

theorem sortN_nodup {l : List Nat} (h : l.Nodup) : (sortN l).Nodup := (sortN_perm l).nodup_iff.2 h
theorem sortN_mem {l : List Nat} {x : Nat} : x ∈ sortN l ↔ x ∈ l := (sortN_perm l).mem_iff
theorem sortN_lt {l : List Nat} (h : l.Nodup) : (sortN l).Pairwise (· < ·) := by
  have h1 := sortN_sorted l
  have h2 := sortN_nodup h
  exact (h1.and h2).imp (fun ⟨a, b⟩ => by omega)

theorem Sto.below {h : Key → Nat} {w w' : World} {st : Nat} {F : List Nat} {s : St} (t : Sto h w st F s) (k : Below w.heap.size w w') : Sto h w' st F s :=
  t.of_heap fun x hx => k.block x (t.lt x hx)

set_option maxHeartbeats 2000000 in
set_option maxRecDepth 100000 in
theorem within_any {h : Key → Nat} {w : World} {st : Nat} {F : List Nat} {s : St} (t : Sto h w st F s) {k : Nat} {vars : List Nat} {p : Option Addr} {cap : Nat} (hr : RowIn w p vars) (hp : vars = [] → p = none ∧ cap = 0)
    (hn : vars.Nodup) (hlt : ∀ v ∈ vars, v < s.vars) (hk : k < s.l.length) (hd : St.Dep (s.ev k) (fun u => decide (u ∈ vars))) (hlen : vars.length ≤ 256) :
    Calls Tryz.prog 136 #[.pointer (some ⟨st, 0, none⟩), .int .i64 k, .slice p vars.length cap] w fun e w' => ∃ mb n, e = .returned (.tuple #[.map (some mb), .int .i64 0]) ∧ IMap w' mb n (atF (sortN vars) vars.length) ∧ Below w.heap.size w w' ∧ w.heap.size ≤ mb := by
  have HL := Lib.hid (len_any t)
  obtain ⟨hwf, hl, hvs⟩ := node_lt t
  have h2 := hwf.len2
  have tb : ((s.l.length : Int) == 0) = false := by rw [beq_eq_false_iff_ne]; omega
  have hB1 : Below w.heap.size w (w.alloc (.cells #[.slice p vars.length cap] 34)) := (Below.refl _ w).alloc (Nat.le_refl _) _
  have hI := ints_of_row hr hp
  have HSORT := Lib.hid (sorted_values w.heap.size (.slice p vars.length cap) (vars.map fun x : Nat => (x : Int)) (by simp; omega) (w.alloc (.cells #[.slice p vars.length cap] 34)) (by simp) ((Blk.new w 34 _).cell_of rfl) (by
    rcases hI.below hB1 with h | ⟨b, off, c, h1, hb, h3⟩
    · exact .inl h
    · exact .inr ⟨b, off, c, h1, by simp; omega, h3⟩))
  have HT := Lib.hid t
  have HD := Lib.hid hd
  have HN := Lib.hid hn
  have HLT := Lib.hid hlt
  have HB1 := Lib.hid hB1
  have hmm := @run_makeMap Tryz.prog
  clear t hr hp hn hlt hd hwf hI hB1
  obtain ⟨nv, hnv⟩ : ∃ nv, nv = vars.length := ⟨_, rfl⟩
  have HNV := Lib.hid hnv
  rw [← hnv] at HSORT hlen ⊢
  rw [← hnv] at HB1
  clear hnv
  go_enter Tryz.func136, Tryz.ntmps136
  go_wp2_with (first | (go_at_call 113; refine HL.out.mono ?_; rintro e w' ⟨rfl, rfl⟩) | (go_at_call 180; refine (values_call _ _ _ _).mono ?_; rintro e w' ⟨rfl, rfl⟩))
  refine HSORT.out.mono ?_
  rintro e w1 ⟨v, rfl, hrow, hb1⟩
  rw [sortN_map, List.map_map] at hrow
  obtain ⟨q, cap', rfl, hrow', hnn, _⟩ := rowIn_own (l := sortN vars) hrow
  have HROW := Lib.hid hrow'
  have HBW1 : Hid (Below w.heap.size w w1) := HB1.out.trans (hb1.mono HB1.out.size)
  have hl1 : (sortN vars).length = nv := by rw [sortN_length]; exact HNV.out.symm
  rw [hl1]
  have HL1 := Lib.hid hl1
  clear hrow hrow' hnn hb1 hl1
  have hM0 : IMapN (w1.alloc (.map #[] 0)) w1.heap.size 0 (atF (sortN vars) 0) := by rw [atF_zero]; exact IMapN.made w1
  have hB2 : Below w1.heap.size w1 (w1.alloc (.map #[] 0)) := (Below.refl _ _).alloc (Nat.le_refl _) _
  have HM0 := Lib.hid hM0
  have HT2 := Lib.hid ((HT.out.below HBW1.out).below hB2)
  have HROW2 := Lib.hid (HROW.out.stays (.of_below hB2))
  have HBW2 := Lib.hid (HBW1.out.trans (hB2.mono HBW1.out.size))
  have hmb := HBW1.out.size
  have HMB := Lib.hid hmb
  have hmb2 : w1.heap.size < (w1.alloc (.map #[] 0)).heap.size := by simp
  clear hM0 hB2 hmb
  go_wp2
  generalize w1.alloc (.map #[] 0) = w2 at *
  generalize w1.heap.size = mb at *
  go_loopg [27] nv (fun g i wr => ∃ j : Nat, g = nv - j ∧ j ≤ nv ∧ i = .int .i64 j ∧ IMapN wr mb j (atF (sortN vars) j) ∧ Keep [mb] w2 wr)
  case atStart => exact ⟨0, rfl, by omega, rfl, HM0.out, .refl _ _⟩
  case round =>
    obtain ⟨j, hg, hj, rfl, hm, hkp⟩ := hrel
    have HG := Lib.hid hg
    clear hg
    have hkeepS : Sto h wr st F s := HT2.out.of_heap fun x hx => by
      obtain ⟨ty, cs, hb⟩ := HT2.out.blks x hx
      have := HM0.out.imap.ne_blk hb
      exact hkp.block x hb.lt (by simp [this])
    have hkeepR : RowIn wr q (sortN vars) := by
      rcases HROW2.out with h | ⟨g, cur, h1, h2, h3⟩
      · exact .inl h
      · have := HM0.out.imap.ne_blk h2
        exact .inr ⟨g, cur, h1, hkp.blk h2 (by simp [this]), h3⟩
    by_cases hjm : j < nv
    · obtain ⟨v, hv⟩ : ∃ v, (sortN vars)[j]? = some v := ⟨_, List.getElem?_eq_getElem (by rw [HL1.out]; exact hjm)⟩
      obtain ⟨g, rfl, hcell, hgl⟩ := hkeepR.get hv
      have hvv := HLT.out v (sortN_mem.1 (List.mem_of_getElem? hv))
      obtain ⟨w3, hrun, hm3, hg3⟩ := hm.store (x := v) (by omega) (by omega) (atF_new (sortN_nodup HN.out) hv) j (by omega)
      rw [atF_succ (sortN_nodup HN.out) hv] at hm3
      have hk3 : Keep [mb] w2 w3 := hkp.grown hg3 (fun g hg => by injection hg with hg; left; simp [hg])
      have HV := Lib.hid (vars_any (hkeepS.of_heap (w' := w3) fun x hx => by
        obtain ⟨ty, cs, hb⟩ := hkeepS.blks x hx
        have := hm.imap.ne_blk hb
        exact hg3.block x hb.lt (by simp; exact this)))
      have HM3 := Lib.hid hm3
      have HK3 := Lib.hid hk3
      have t1 : ¬ (v : Int) < 0 := by omega
      have t2 : ¬ s.vars ≤ v := by omega
      clear hm hkp hkeepS hkeepR hv hm3 hk3 hg3
      go_wp2_with (go_at_call 73; refine HV.out.mono ?_; rintro e w' ⟨rfl, rfl⟩)
      go_roundg (nv - (j + 1))
      case measure => rw [HG.out]; omega
      case rel => exact ⟨j + 1, rfl, by omega, by go_num, HM3.out, HK3.out⟩
    · obtain rfl : j = nv := by omega
      have hlen0 := hm.len 3
      have HA := Lib.hid (asks_any hkeepS hk HD.out)
      have HM := Lib.hid hm
      have HK := Lib.hid hkp
      clear hkeepS hkeepR hm hkp
      have hbeq : ((j : Int) == (j : Int)) = true := by simp
      go_wp2_with fail
      refine HA.out.mono ?_
      rintro e w4 ⟨q4, cap4, l, rfl, hr4, hp4, hl4, hb4⟩
      have HR4 := Lib.hid hr4
      have HP4 := Lib.hid hp4
      have hm4 : IMapN w4 mb j (atF (sortN vars) j) := HM.out.kept (hb4.block mb HM.out.imap.lt)
      have HM4 := Lib.hid hm4.imap
      have HB4 : Hid (Below w.heap.size w w4) := by
        have h1 := HBW2.out
        have h2 : Keep [] w wr := (Keep.of_below h1).trans HK.out (fun x hx => by right; simp at hx; rw [hx]; exact HMB.out)
        exact h2.below.trans (hb4.mono h2.size)
      obtain ⟨nl, hnl⟩ : ∃ nl, nl = l.length := ⟨_, rfl⟩
      have HNL := Lib.hid hnl
      rw [← hnl] at hl4 ⊢
      clear hr4 hp4 hm4 hb4 hnl hlen0
      go_wp2
      go_loopg [60] nl (fun g i wr => ∃ m : Nat, g = nl - m ∧ m ≤ nl ∧ i = .int .i64 m ∧ wr = w4)
      case atStart => exact ⟨0, rfl, by omega, rfl, rfl⟩
      case round =>
        obtain ⟨m, hg, hm, rfl, rfl⟩ := hrel
        have HG := Lib.hid hg
        clear hg
        by_cases hmm2 : m < nl
        · obtain ⟨v, hv⟩ : ∃ v, l[m]? = some v := ⟨_, List.getElem?_eq_getElem (by rw [← HNL.out]; exact hmm2)⟩
          obtain ⟨g, rfl, hcell, hgl⟩ := HR4.out.get hv
          have hvm : v ∈ vars := by simpa using HP4.out v (List.mem_of_getElem? hv)
          have hvv := HLT.out v hvm
          have hat : atF (sortN vars) j v = some ((sortN vars).idxOf v) := by
            have := atF_mem (sortN_mem.2 hvm)
            rw [HL1.out] at this; exact this
          have hlook := HM4.out.look_ok (x := v) (by omega)
          rw [hat] at hlook
          simp only [Option.isSome_some] at hlook
          clear hv hvm hat
          go_wp2
          go_roundg (nl - (m + 1))
          case measure => rw [HG.out]; omega
          case rel => exact ⟨m + 1, rfl, by omega, by go_num, rfl⟩
        · obtain rfl : m = nl := by omega
          go_wp2
          go_ret2
          exact ⟨mb, j, rfl, HM4.out, HB4.out, HMB.out⟩
end Go.Proofs.YtndefnfknhjfkaaGreatDoor
