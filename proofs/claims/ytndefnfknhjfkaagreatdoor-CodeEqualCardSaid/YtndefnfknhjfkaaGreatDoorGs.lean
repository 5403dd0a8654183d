/- Walks: what the laws share. -/
import Derived.Test.YtndefnfknhjfkaaGreatDoorGp
import Derived.Test.YtndefnfknhjfkaaGreatDoorGq
import Derived.Test.YtndefnfknhjfkaaGreatDoorGg
import Derived.Test.YtndefnfknhjfkaaGreatDoorGa
import Derived.Test.YtndefnfknhjfkaaGreatDoorGj

/- SameRows; what operations cost over few bits; two domains' equal values as rows. -/
namespace Go.Proofs.YtndefnfknhjfkaaGreatDoor
open Go.RowKit Go.Proofs.Osier

set_option maxHeartbeats 1000000 in
set_option maxRecDepth 100000 in
theorem sameRows_any {w : World} {p q : Option Addr} {rows : List (List Nat)} (hl : RowsIn w p rows) (hm : RowsIn w q rows) (h1 : rows.length ≤ 1000000) (h2 : ∀ r ∈ rows, r.length ≤ 1000000) (c d : Nat) :
    Calls Tryz.prog 18 #[.slice p rows.length c, .slice q rows.length d] w fun e w' => e = .returned (.bool true) ∧ ∃ n, w' = w.drewN n := by
  have HL := Lib.hid hl
  have HM := Lib.hid hm
  have H2 := Lib.hid h2
  obtain ⟨nl, hnl⟩ : ∃ n, n = rows.length := ⟨_, rfl⟩
  rw [← hnl] at h1 ⊢
  have HNL := Lib.hid hnl
  clear hl hm hnl h2
  go_enter Tryz.func18, Tryz.ntmps18
  go_wp2
  go_loopw [5] (fun i wr => ∃ j : Nat, j ≤ nl ∧ i = .int .i64 j ∧ RowsIn wr p rows ∧ RowsIn wr q rows ∧ Hid (∃ n, wr = w.drewN n)) (fun i _ => nl - (intOf i).toNat)
  case atStart => exact ⟨0, by omega, rfl, HL.out, HM.out, ⟨0, rfl⟩⟩
  case round =>
    obtain ⟨j, hj, rfl, hl, hm, HW⟩ := hrel
    by_cases hlt : j < nl
    · obtain ⟨row, hrow⟩ : ∃ x, rows[j]? = some x := ⟨_, List.getElem?_eq_getElem (by rw [← HNL.out]; exact hlt)⟩
      obtain ⟨g, pr, cr, rfl, hcx, hrx, hg⟩ := hl.get hrow
      obtain ⟨g', pr', cr', rfl, hcy, hry, hg'⟩ := hm.get hrow
      have hrl := H2.out row (List.mem_of_getElem? hrow)
      have HS : Hid (∀ n, Calls Tryz.prog 26 #[.slice pr row.length cr, .slice pr' row.length cr'] (wr.drewN n) fun e w' => e = .returned (.bool true) ∧ ∃ m, w' = (wr.drewN n).drewN m) := fun n => by
        have h := sameInts_any (hrx.drewN n) (hry.drewN n) hrl hrl cr cr'
        simpa using h
      have HL' := Lib.hid hl
      have HM' := Lib.hid hm
      clear hl hm hrx hry hrow
      go_wp2
      go_quiet ((go_at_call 26; exact Calls.quiet_of (HS.out _)))
      go_wp2
      go_roundw
      case rel => exact ⟨j + 1, by omega, by go_num, HL'.out.drewN _, HM'.out.drewN _, by obtain ⟨n, hn⟩ := HW.out; exact ⟨_, by rw [hn, World.drewN_drewN]⟩⟩
      case measure => simp [intOf]; omega
    · obtain rfl : j = nl := by omega
      clear hl hm
      go_wp2
      go_ret
      exact ⟨rfl, HW.out⟩

/-! ### costs -/
theorem nodup_sub : ∀ (l m : List Nat), l.Nodup → (∀ x ∈ l, x ∈ m) → l.length ≤ m.length
  | [], _, _, _ => Nat.zero_le _
  | x :: l, m, hn, h => by
    rw [List.nodup_cons] at hn
    have h1 := nodup_sub l (m.erase x) hn.2 (fun y hy => by
      have : y ≠ x := by rintro rfl; exact hn.1 hy
      exact (List.mem_erase_of_ne this).2 (h y (by simp [hy])))
    have h2 : x ∈ m := h x (by simp)
    rw [List.length_erase_of_mem h2] at h1
    have := List.length_pos_of_mem h2
    simp
    omega

theorem cnt_row (l : List Nat) (t L : Nat) : St.cnt (inRow l) t L ≤ l.length := by
  unfold St.cnt
  refine nodup_sub _ _ (List.Pairwise.filter _ List.nodup_range) fun x hx => ?_
  rw [List.mem_filter] at hx
  have h := hx.2
  simp [inRow] at h
  exact h.2

theorem cost_row {l : List Nat} {n L : Nat} (h : l.length ≤ n) : cost (inRow l) L ≤ 2 ^ n - 1 := by
  unfold cost St.iteN
  have h1 := Nat.pow_le_pow_right (show 0 < 2 by omega) (Nat.le_trans (cnt_row l 0 L) h)
  omega

theorem cost4 {l : List Nat} {L : Nat} (h : l.length ≤ 4) : cost (inRow l) L ≤ 15 := cost_row (n := 4) h
theorem cost8 {l : List Nat} {L : Nat} (h : l.length ≤ 8) : cost (inRow l) L ≤ 255 := cost_row (n := 8) h

theorem costR4 {K : Cd} {d L : Nat} (h : (K.at_ d).length ≤ 4) : costR K d L ≤ 143 := by
  unfold costR
  have h1 := cost4 (L := L) h
  have h2 : (K.at_ d).length * (1 + cost (inRow (K.at_ d)) L) ≤ 4 * 16 := Nat.mul_le_mul h (by omega)
  omega

theorem accN4 {K : Cd} {a L : Nat} {p : Nat → Bool} (h : (K.at_ a).length ≤ 4) (hp : cost p L ≤ 255) : accN K a L p ((K.at_ a).length + 1) ≤ 3466 := by
  have h1 := costR4 (L := L) h
  have h2 : (K.at_ a).length * stepN p L ≤ 4 * 767 := Nat.mul_le_mul h (by unfold stepN; omega)
  simp only [accN]
  omega

/-! ### rows of equal values -/
def wantEq (n : Nat) : List (List Nat) := (List.range n).map fun v => [v, v]

theorem wantEq_sorted (n : Nat) : (wantEq n).Pairwise (· < ·) := by
  unfold wantEq
  rw [List.pairwise_map]
  refine List.pairwise_lt_range.imp fun h => ?_
  rw [List.cons_lt_cons_iff]
  exact .inl h

theorem wantEq_mem {K : Cd} {vars a b : Nat} (ok : CdOk K vars) (ha : a < K.n) (hb : b < K.n) (hab : a ≠ b) (hl : (K.at_ a).length = (K.at_ b).length) (r : List Nat) :
    r ∈ wantEq (K.size a) ↔ ∃ e, Tup.tupE K.at_ [a, b] e = r ∧ eqF K a b e = true := by
  have hfit := (ok.fits a ha).2
  unfold wantEq eqF
  rw [List.mem_map]
  constructor
  · rintro ⟨v, hv, rfl⟩
    rw [List.mem_range] at hv
    have f1 : v < 2 ^ (K.at_ a).length := by omega
    have f2 : v < 2 ^ (K.at_ b).length := by rw [← hl]; exact f1
    obtain ⟨e, he⟩ := Tup.exists_env K.at_ [a, b] (flat_nodup ok [a, b] (by simp [ha, hb]) (by simp [hab])) [v, v] ⟨f1, f2, trivial⟩
    refine ⟨e, he, ?_⟩
    simp only [Tup.tupE, List.map_cons, List.map_nil, List.cons.injEq, and_true] at he
    simp [he.1, he.2, hv]
  · rintro ⟨e, rfl, he⟩
    simp only [Bool.and_eq_true, decide_eq_true_eq] at he
    exact ⟨num (K.at_ a) e, List.mem_range.2 he.1, by simp [Tup.tupE, ← he.2]⟩

theorem eqF_dep (K : Cd) (a b : Nat) : St.Dep (eqF K a b) (fun u => decide (u ∈ [a, b].flatMap K.at_)) := by
  intro e e' he
  unfold eqF
  have h1 : num (K.at_ a) e = num (K.at_ a) e' := num_dep _ _ _ fun v hv => he v (by simp [hv])
  have h2 : num (K.at_ b) e = num (K.at_ b) e' := num_dep _ _ _ fun v hv => he v (by simp [hv])
  rw [h1, h2]

theorem Dep.of_ev {s : St} {k : Nat} {f : Env → Bool} {p : Nat → Bool} (h : ∀ e, s.ev k e = f e) (d : St.Dep f p) : St.Dep (s.ev k) p := fun e e' he => by
  rw [h, h]; exact d e e' he

/-- A store that was just made. -/
theorem ready_new {vars m : Nat} (h : m + 2 ≤ 16384) : Ready (newSt vars 16384) vars 0 m :=
  ⟨newSt_wf vars 16384, St.lowAt_all vars, by
    have : (newSt vars 16384).up vars = 0 := by simp [St.up, newSt]
    show (newSt vars 16384).up vars + m + 0 + 2 ≤ 16384
    omega⟩

end Go.Proofs.YtndefnfknhjfkaaGreatDoor

/- awake. -/
namespace Go.Proofs.YtndefnfknhjfkaaGreatDoor
open Go.RowKit Go.Proofs.Osier

theorem hash_is : ∃ h : Key → Nat, IsHash h := ⟨hK, ⟨fun _ => rfl⟩⟩

/-- What has moved was new. -/
theorem Moves.below {F F' : List Nat} {w w1 w2 : World} (h : Below w.heap.size w w1) (m : Moves F F' w1 w2) (hF : ∀ x ∈ F, w.heap.size ≤ x) : Below w.heap.size w w2 := by
  refine ⟨m.keep.os.trans h.os, m.keep.tape.trans h.tape, m.keep.output.trans h.output, Nat.le_trans h.size m.keep.size, fun k hk => (m.keep.block k (Nat.lt_of_lt_of_le hk h.size) (fun hm => ?_)).trans (h.block k hk)⟩
  have := hF k hm
  omega

/-- The rows of a literal. -/
theorem row2 {w : World} {g a b : Nat} (h : Blk w g 3 #[.int .i64 a, .int .i64 b]) : RowIn w (some ⟨g, 0, none⟩) [a, b] :=
  .inr ⟨g, _, rfl, h, fun i x hx => by
    match i, hx with
    | 0, hx => simp at hx; subst hx; rfl
    | 1, hx => simp at hx; subst hx; rfl⟩

def lit4 (w : World) : World := ((((w.alloc (.cells #[.int .i64 0, .int .i64 0] 3)).alloc (.cells #[.int .i64 1, .int .i64 1] 3)).alloc (.cells #[.int .i64 2, .int .i64 2] 3)).alloc (.cells #[.int .i64 3, .int .i64 3] 3)).alloc
  (.cells #[.slice (some ⟨w.heap.size, 0, none⟩) 2 2, .slice (some ⟨w.heap.size + 1, 0, none⟩) 2 2, .slice (some ⟨w.heap.size + 1 + 1, 0, none⟩) 2 2, .slice (some ⟨w.heap.size + 1 + 1 + 1, 0, none⟩) 2 2] 34)

theorem Blk.new_at {w : World} {g : Nat} (h : w.heap.size = g) (t : TypeId) (cs : Array Value) : Blk (w.alloc (.cells cs t)) g t cs := by
  subst h; exact Blk.new w t cs

theorem lit4_rows (w : World) : RowsIn (lit4 w) (some ⟨w.heap.size + 1 + 1 + 1 + 1, 0, none⟩) [[0, 0], [1, 1], [2, 2], [3, 3]] ∧ Below w.heap.size w (lit4 w) := by
  refine ⟨.inr ⟨_, _, rfl, Blk.new_at (by simp) 34 _, fun j row hj => ?_⟩, ?_⟩
  · match j, hj with
    | 0, hj =>
      simp at hj; subst hj
      exact ⟨_, 2, rfl, row2 (a := 0) (b := 0) (((((Blk.new_at rfl 3 _).alloc _).alloc _).alloc _).alloc _)⟩
    | 1, hj =>
      simp at hj; subst hj
      exact ⟨_, 2, rfl, row2 (a := 1) (b := 1) ((((Blk.new_at (by simp) 3 _).alloc _).alloc _).alloc _)⟩
    | 2, hj =>
      simp at hj; subst hj
      exact ⟨_, 2, rfl, row2 (a := 2) (b := 2) (((Blk.new_at (by simp) 3 _).alloc _).alloc _)⟩
    | 3, hj =>
      simp at hj; subst hj
      exact ⟨_, 2, rfl, row2 (a := 3) (b := 3) ((Blk.new_at (by simp) 3 _).alloc _)⟩
    | j + 4, hj => simp at hj
  · exact (((((Below.refl _ _).alloc (Nat.le_refl _) _).alloc (by simp) _).alloc (by simp; omega) _).alloc (by simp; omega) _).alloc (by simp; omega) _

theorem wantEq4 : wantEq 4 = [[0, 0], [1, 1], [2, 2], [3, 3]] := by decide

set_option maxHeartbeats 2000000 in
set_option maxRecDepth 100000 in
theorem awake_any {w : World} {mx : Int} (hml : w.cell? ⟨0, 0, none⟩ = some (.int .i64 mx)) (hw0 : 0 < w.heap.size) :
    Calls Tryz.prog 16 #[] w fun e w' => e = .returned (.bool true) ∧ Below w.heap.size w w' := by
  obtain ⟨h, H⟩ := hash_is
  have HTH : Hid (Calls Tryz.prog 14 #[.agg #[.int .i64 3, .int .i64 3], .int .i64 1] w (ThreeP h 4 4 w)) := three_any h hml hw0 3 3 1 (z0 := 3) (z1 := 3) (by decide) (by decide) (by omega) (by omega)
  clear hml hw0
  go_enter Tryz.func16, Tryz.ntmps16
  go_wp2_with fail
  refine HTH.out.mono ?_
  rintro e w1 ⟨c, b, K, F, rfl, hca, hkn, hks, hok, hlen, ht, hF, _, hb1⟩
  have hs0 : K.size 0 = 4 := by rw [hks]; rfl
  have hs1 : K.size 1 = 4 := by rw [hks]; rfl
  have hl0 := hlen 0 (by omega)
  have hl1 := hlen 1 (by omega)
  have hw0 := wd3_le (n := 4) (m := 4) (by omega) (by omega) 0
  have hw1 := wd3_le (n := 4) (m := 4) (by omega) (by omega) 1
  have hll : (K.at_ 0).length = (K.at_ 1).length := by rw [hl0, hl1]; rfl
  have hp8 : cost (inRow (K.at_ 0 ++ K.at_ 1)) 12 ≤ 255 := cost8 (by simp; omega)
  have hE := Equal_good H hca ht hok (a := 0) (b := 1) (L := 12) (B := 0) (by omega) (by omega) (by rw [hs0, hs1]) hll (p := inRow (K.at_ 0 ++ K.at_ 1)) (fun u hu => by simp [inRow, hu]) (fun u hu => by simp [inRow, hu])
    (ready_new (by have := accN4 (K := K) (a := 0) (L := 12) (p := inRow (K.at_ 0 ++ K.at_ 1)) (by omega) hp8; omega))
  have HE := Lib.hid hE
  have HCA := Lib.hid hca
  have HT := Lib.hid ht
  have HOK := Lib.hid hok
  have HF := Lib.hid hF
  have HB1 := Lib.hid hb1
  have HLL := Lib.hid hll
  have HL0 : Hid ((K.at_ 0).length ≤ 4) := by show _ ≤ _; omega
  have HKN := Lib.hid hkn
  have HS0 := Lib.hid hs0
  clear hca hkn hks hok hlen ht hF hb1 hs0 hs1 hl0 hl1 hw0 hw1 hll hp8 hE
  go_wp2_with fail
  refine HE.out.mono ?_
  rintro e w2 ⟨k, s2, F2, rfl, t2, g2, m2⟩
  have hst := HT.out.stays m2
  have hb2 : Below w.heap.size w w2 := Moves.below HB1.out m2 HF.out
  have h0n : 0 < K.n := by rw [HKN.out]; omega
  have h1n : 1 < K.n := by rw [HKN.out]; omega
  have hbA : Below w2.heap.size w2 (w2.alloc (.cells #[.int .i64 0, .int .i64 1] 3)) := (Below.refl _ _).alloc (Nat.le_refl _) _
  have hvars : s2.vars = 12 := g2.le.vars
  have hT := tuples_any ((HCA.out.stays hst).stays (.of_below hbA)) (t2.below hbA) (by rw [hvars]; exact HOK.out) (k := k) (most := 9) (doms := [0, 1]) (cap := 2) (rowIn2 w2 0 1) (by simp) (by simp [h0n, h1n]) (by simp) g2.lt (Dep.of_ev g2.ev (eqF_dep K 0 1))
    (by have := HL0.out; have := HLL.out; simp; omega) (want := wantEq 4) (wantEq_sorted 4) (fun r => by
      rw [← HS0.out]
      refine (wantEq_mem HOK.out h0n h1n (by omega) HLL.out r).trans ?_
      constructor
      · rintro ⟨e, h1, h2⟩; exact ⟨e, h1, by rw [g2.ev]; exact h2⟩
      · rintro ⟨e, h1, h2⟩; exact ⟨e, h1, by rw [← g2.ev]; exact h2⟩) (by simp [wantEq]) (by omega)
  have HTT := Lib.hid hT
  have HBA := Lib.hid hbA
  have HB2 := Lib.hid hb2
  clear t2 g2 m2 hst hb2 h0n h1n hbA hvars hT
  go_wp2_with fail
  refine HTT.out.mono ?_
  rintro e w3 ⟨q, cp, rfl, hrows, hb3⟩
  have HROWS := Lib.hid hrows
  have HB3 : Hid (Below w.heap.size w w3) := HB2.out.trans ((HBA.out.trans (hb3.mono HBA.out.size)).mono HB2.out.size)
  have hwl : (wantEq 4).length = 4 := by simp [wantEq]
  rw [hwl]
  clear hrows hb3
  obtain ⟨hr9, hb9⟩ := lit4_rows w3
  have hs := sameRows_any (HROWS.out.below hb9) (by rw [wantEq4]; exact hr9) (by simp [wantEq]) (fun r hr => by
    unfold wantEq at hr
    obtain ⟨v, _, rfl⟩ := List.mem_map.1 hr
    simp) cp 4
  rw [hwl] at hs
  have HSR := Lib.hid hs
  have HB9 : Hid (Below w.heap.size w (lit4 w3)) := HB3.out.trans (hb9.mono HB3.out.size)
  clear hr9 hb9 hs
  unfold lit4 at HSR
  go_wp2_with fail
  refine HSR.out.mono ?_
  rintro e w9 ⟨rfl, n9, rfl⟩
  clear HSR
  go_wp2
  go_ret
  exact ⟨rfl, below_drewN HB9.out n9⟩

end Go.Proofs.YtndefnfknhjfkaaGreatDoor
