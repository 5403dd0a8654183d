/- CodeRanges: the walk. -/
import Derived.Test.YtndefnfknhjfkaaGreatDoorGs
namespace Go.Proofs.YtndefnfknhjfkaaGreatDoor
open Go.RowKit Go.Proofs.Osier

theorem wantR_sorted (a m : Nat) : ((List.range m).map fun i => [a + i]).Pairwise (· < ·) := by
  rw [List.pairwise_map]
  refine List.pairwise_lt_range.imp fun h => ?_
  rw [List.cons_lt_cons_iff]
  exact .inl (by omega)

theorem wantR_mem {K : Cd} {vars d lo hi : Nat} (ok : CdOk K vars) (hd : d < K.n) (hhi : hi < K.size d) (r : List Nat) :
    r ∈ ((List.range (hi + 1 - lo)).map fun i => [lo + i]) ↔ ∃ e, Tup.tupE K.at_ [d] e = r ∧ decide (lo ≤ num (K.at_ d) e ∧ num (K.at_ d) e ≤ hi) = true := by
  have hfit := (ok.fits d hd).2
  rw [List.mem_map]
  constructor
  · rintro ⟨i, hi', rfl⟩
    rw [List.mem_range] at hi'
    have f1 : lo + i < 2 ^ (K.at_ d).length := by omega
    obtain ⟨e, he⟩ := Tup.exists_env K.at_ [d] (flat_nodup ok [d] (by simp [hd]) (by simp)) [lo + i] ⟨f1, trivial⟩
    refine ⟨e, he, ?_⟩
    simp only [Tup.tupE, List.map_cons, List.map_nil, List.cons.injEq, and_true] at he
    rw [he, decide_eq_true_eq]
    omega
  · rintro ⟨e, rfl, he⟩
    simp only [decide_eq_true_eq] at he
    exact ⟨num (K.at_ d) e - lo, List.mem_range.2 (by omega), by simp [Tup.tupE]; omega⟩

theorem range_dep (K : Cd) (d lo hi : Nat) : St.Dep (fun e => decide (lo ≤ num (K.at_ d) e ∧ num (K.at_ d) e ≤ hi)) (fun u => decide (u ∈ [d].flatMap K.at_)) := by
  intro e e' he
  have h1 : num (K.at_ d) e = num (K.at_ d) e' := num_dep _ _ _ fun v hv => he v (by simp [hv])
  simp only
  rw [h1]

theorem row1 {w : World} {g a : Nat} (h : Blk w g 3 #[.int .i64 a]) : RowIn w (some ⟨g, 0, none⟩) [a] :=
  .inr ⟨g, _, rfl, h, fun i x hx => by
    match i, hx with
    | 0, hx => simp at hx; subst hx; rfl⟩

/-- A row of one number in a block from b0 on. -/
theorem rowAbove1 {w : World} {g a b0 : Nat} (h : Blk w g 3 #[.int .i64 a]) (hb : b0 ≤ g) : RowAbove b0 w (some ⟨g, 0, none⟩) [a] :=
  .inr ⟨g, _, rfl, hb, h, fun i x hx => by
    match i, hx with
    | 0, hx => simp at hx; subst hx; rfl⟩

set_option maxHeartbeats 4000000 in
set_option maxRecDepth 100000 in
theorem ranges_any {w : World} {mx : Int} (hml : w.cell? ⟨0, 0, none⟩ = some (.int .i64 mx)) (hw0 : 0 < w.heap.size) (s0 s1 o a0 a1 : Int) :
    Calls Tryz.prog 3 #[.agg #[.int .i64 s0, .int .i64 s1], .int .i64 o, .agg #[.int .i64 a0, .int .i64 a1]] w fun e w' => e = .returned (.bool true) ∧ Below w.heap.size w w' := by
  obtain ⟨h, H⟩ := hash_is
  obtain ⟨z0, hz0, e0⟩ := and_le s0 15 (by omega)
  obtain ⟨z1, hz1, e1⟩ := and_le s1 15 (by omega)
  obtain ⟨W, hW⟩ : ∃ W, W = (w.alloc (.cells #[.int .i64 s0, .int .i64 s1] 22)).alloc (.cells #[.int .i64 a0, .int .i64 a1] 22) := ⟨_, rfl⟩
  have hB : Below w.heap.size w W := by rw [hW]; exact ((Below.refl _ _).alloc (Nat.le_refl _) _).alloc (by simp) _
  obtain ⟨b5, hb5⟩ : ∃ z, z = w.heap.size + 1 := ⟨_, rfl⟩
  have k5 : Blk W b5 22 #[.int .i64 a0, .int .i64 a1] := by rw [hW, hb5]; exact Blk.new_at (by simp) 22 _
  have hmlW := (hB.cell (p := ⟨0, 0, none⟩) hw0).trans hml
  have hwW := Nat.lt_of_lt_of_le hw0 hB.size
  have HTH := Lib.hid (three_any h hmlW hwW s0 s1 o e0 e1 hz0 hz1)
  have HAW := Lib.hid (fun (W' : World) (hb : Below W.heap.size W W') => awake_any ((hb.cell (p := ⟨0, 0, none⟩) hwW).trans hmlW) (Nat.lt_of_lt_of_le hwW hb.size))
  have HW := Lib.hid hW
  have HB := Lib.hid hB
  have HB5 := Lib.hid hb5
  have K5 := Lib.hid k5
  clear hml hw0 e0 e1 hW hB hb5 k5 hmlW hwW
  go_enter Tryz.func3, Tryz.ntmps3
  go_wp2_with fail
  rw [← HW.out, ← HB5.out]
  refine HTH.out.mono ?_
  rintro e w1 ⟨c, b, K, F, rfl, hca, hkn, hks, hok, hlen, ht, hF, hdb, hb1⟩
  have h2n : 2 < K.n := by omega
  have hs2 : K.size 2 = z1 + 1 := by rw [hks]; rfl
  have hl2 : (K.at_ 2).length ≤ 4 := by rw [hlen 2 (by omega)]; exact wd3_le (by omega) (by omega) 2
  have x5 := K5.out.below hb1 K5.out.lt
  have q50 : w1.cell? ⟨b5, 0, none⟩ = some (.int .i64 a0) := x5.cell_of rfl
  have q51 : w1.cell? ⟨b5, 1, none⟩ = some (.int .i64 a1) := x5.cell_of rfl
  have X5 := Lib.hid x5
  have HDB := Lib.hid hdb
  have HCA := Lib.hid hca
  have HT := Lib.hid ht
  have HF := Lib.hid hF
  have HOK := Lib.hid hok
  have HB1 : Hid (Below W.heap.size W w1) := hb1
  have HS2 := Lib.hid hs2
  have HKN := Lib.hid hkn
  have HL2 := Lib.hid hl2
  clear x5 hdb hca hkn hks hok hlen ht hF hb1 hz0 HTH
  by_cases hgood : 0 ≤ a0 ∧ a0 ≤ z1 ∧ 0 ≤ a1 ∧ a1 ≤ z1
  · obtain ⟨g1, g2, g3, g4⟩ := hgood
    obtain ⟨lo, rfl⟩ : ∃ z : Nat, a0 = (z : Int) := ⟨a0.toNat, by omega⟩
    obtain ⟨hi, rfl⟩ : ∃ z : Nat, a1 = (z : Int) := ⟨a1.toNat, by omega⟩
    have hlo : lo ≤ z1 := by omega
    have hhi : hi ≤ z1 := by omega
    have HR := Lib.hid (Range_good H HCA.out HT.out HOK.out (d := 2) (lo := lo) (hi := hi) (L := 12) (B := 0) h2n (by rw [hs2]; omega) (by rw [hs2]; omega) (ready_new (by have := costR4 (K := K) (d := 2) (L := 12) hl2; omega)))
    clear hs2 hl2 g1 g2 g3 g4
    go_wp2_with fail
    refine HR.out.mono ?_
    rintro e w2 ⟨k, s2, F2, rfl, t2, g2, m2⟩
    have hst := HT.out.stays m2
    have hb2 : Below w1.heap.size w1 w2 → True := fun _ => trivial
    have x52 := hst.blk _ _ _ rfl X5.out
    have y0 : w2.cell? ⟨b5, 0, none⟩ = some (.int .i64 lo) := x52.cell_of rfl
    have y1 : w2.cell? ⟨b5, 1, none⟩ = some (.int .i64 hi) := x52.cell_of rfl
    have yd : w2.cell? ⟨b, 5, none⟩ = some (.int .i64 ((z1 : Int) + 1)) := (hst.blk _ _ _ rfl HDB.out).cell_of rfl
    have HB2 : Hid (Below W.heap.size W w2) := Moves.below HB1.out m2 HF.out
    have HCA2 := Lib.hid (HCA.out.stays hst)
    have HT2 := Lib.hid t2
    have HG2 := Lib.hid g2
    have X52 := Lib.hid x52
    have t1 : decide ((lo : Int) < 0) = false := by simp
    have t2' : decide ((z1 : Int) + 1 ≤ (lo : Int)) = false := by simp; omega
    have t3 : decide ((hi : Int) < 0) = false := by simp
    have t4 : decide ((z1 : Int) + 1 ≤ (hi : Int)) = false := by simp; omega
    clear hst hb2 x52 q50 q51 t2 g2 m2
    go_wp2
    go_quiet (fail)
    generalize hW3 : w2.drewN _ = W3
    have HB3 : Hid (Below W.heap.size W W3) := by rw [← hW3]; exact below_drewN HB2.out _
    have HCA3 : Hid (CodeAt W3 c K) := by rw [← hW3]; exact HCA2.out.stays (Stays.drewN _ _)
    have HT3 : Hid (Opr h W3 K.op K.st F2 s2) := by rw [← hW3]; exact HT2.out.drewN _
    have X53 : Hid (Blk W3 b5 22 #[.int .i64 lo, .int .i64 hi]) := by rw [← hW3]; exact X52.out.drewN _
    clear hW3 y0 y1 yd t1 t2' t3 t4
    have z0 : W3.cell? ⟨b5, 0, none⟩ = some (.int .i64 lo) := X53.out.cell_of rfl
    obtain ⟨m, hm⟩ : ∃ m, m = hi + 1 - lo := ⟨_, rfl⟩
    have hm16 : m ≤ 16 := by omega
    have HM := Lib.hid hm
    have hb5l := X53.out.lt
    clear hm
    go_wp2
    obtain ⟨i1, hi1, hy0, hy1, hy2⟩ := info_parts info34
    go_loopg [12, 13] (m + 1) (fun g o v wr => ∃ (j vv : Nat) (vs : List Value), g = m + 1 - j ∧ j ≤ m ∧ v = .int .i64 vv ∧ Hid (vv = lo + j) ∧ vv ≤ 33 ∧ wr.ownsRow W3.heap.size 34 1 o j vs ∧ RowsAbove W3.heap.size wr vs ((List.range j).map fun i => [lo + i]) ∧ Below W3.heap.size W3 wr)
    case atStart => exact ⟨0, lo, [], rfl, by omega, rfl, rfl, by omega, World.ownsRow_nil _ _ _ _, RowsAbove.nil _ _, Below.refl _ _⟩
    case round =>
      obtain ⟨j, vv, vs, hg, hj, rfl, HVV, hv33, hown, hra, hbl⟩ := hrel
      have HG := Lib.hid hg
      have HRA := Lib.hid hra
      have HBL := Lib.hid hbl
      have y1 : wr.cell? ⟨b5, 1, none⟩ = some (.int .i64 hi) := (X53.out.below hbl hb5l).cell_of rfl
      have hsz := hbl.size
      clear hg hra
      by_cases hjm : vv ≤ hi
      · have hjm2 : j < m := by have := HVV.out; have := HM.out; omega
        have hj16 : j ≤ 16 := by omega
        go_wp2_with (at_builtin; refine wpList_append_own_at _ rfl _ _ 33 rfl W3.heap.size 34 i1 (.slice none 0 0) 1 24 Tryz.underlying33 hi1 hy0 hy1 hy2 rfl (by decide) _ _ _ rfl ((hown.alloc _).alloc _) ⟨wr.heap.size + 1, 0, none⟩ 1 1 [.slice (some ⟨wr.heap.size, 0, none⟩) 1 1] rfl rfl ?c1 ?c2 ?c3 ?c4 ?c5 ?_)
        case c1 =>
          have h9 := cells_new (wr.alloc (.cells #[.int .i64 (vv : Int)] 3)) [.slice (some ⟨wr.heap.size, 0, none⟩) 1 1] 34
          rw [show (wr.alloc (.cells #[.int .i64 (vv : Int)] 3)).heap.size = wr.heap.size + 1 by simp] at h9
          exact h9
        case c2 => intro u hu; simp at hu; subst hu; rfl
        case c3 => unfold maxLen; omega
        case c4 => omega
        case c5 => simp; omega
        intro v7 w7 o7 g7 n7 a7
        have hof : ∀ g, u12.ownBlock = some g → W3.heap.size ≤ g ∧ ∃ cs, Blk wr g 34 cs := fun g hg => by
          obtain ⟨_, _, _, hh⟩ := own_form hown
          exact hh g hg
        have hkeep : ∀ g cs, Blk ((wr.alloc (.cells #[.int .i64 (vv : Int)] 3)).alloc (.cells #[.slice (some ⟨wr.heap.size, 0, none⟩) 1 1] 34)) g 3 cs → Blk w7 g 3 cs := fun g cs hb => hb.grown g7 (fun e => by
          obtain ⟨_, cs', hb'⟩ := hof g e.symm
          exact hb.ne_ ((hb'.alloc _).alloc _) (by decide) rfl)
        have hr7 : RowsAbove W3.heap.size w7 (vs ++ [.slice (some ⟨wr.heap.size, 0, none⟩) 1 1]) ((List.range (j + 1)).map fun i => [lo + i]) := by
          have h9 := (HRA.out.keep (w' := w7) (fun g cs _ hb => hkeep g cs ((hb.alloc _).alloc _))).snoc (cap := 1) (row := [vv]) (rowAbove1 (hkeep _ _ ((Blk.new wr 3 #[.int .i64 (vv : Int)]).alloc _)) hsz)
          rw [List.range_succ, List.map_append]
          have e : [lo + j] = [vv] := by rw [HVV.out]
          simp only [List.map_cons, List.map_nil]
          rw [e]
          exact h9
        have b7 : Below W3.heap.size W3 w7 := ((HBL.out.alloc hsz _).alloc (by simp; omega) _).grown g7 (by simp; omega) (fun g hg => (hof g hg).1)
        have HO7 := Lib.hid o7
        have HR7 := Lib.hid hr7
        have HB7 := Lib.hid b7
        clear o7 g7 n7 a7 hof hkeep hr7 b7 hown hbl
        go_wp2
        go_roundg (m + 1 - (j + 1))
        case measure => rw [HG.out]; omega
        case rel => exact ⟨j + 1, vv + 1, _, rfl, by omega, by go_num, by rw [HVV.out]; rfl, by omega, HO7.out, HR7.out, HB7.out⟩
      · have hjm2 : j = m := by have := HVV.out; have := HM.out; omega
        have hra := HRA.out
        rw [hjm2] at hra hown
        obtain ⟨pw, cw, rfl, _⟩ := own_form hown
        have hrw := rowsIn_own hown hra
        have hwr : Below W.heap.size W wr := HB3.out.trans (HBL.out.mono HB3.out.size)
        have hbA : Below wr.heap.size wr (wr.alloc (.cells #[.int .i64 2] 3)) := (Below.refl _ _).alloc (Nat.le_refl _) _
        have hB3A : Below W3.heap.size W3 (wr.alloc (.cells #[.int .i64 2] 3)) := HBL.out.trans (hbA.mono hsz)
        have hvars : s2.vars = 12 := HG2.out.le.vars
        have hT := tuples_any (HCA3.out.stays (.of_below hB3A)) (HT3.out.below hB3A) (by rw [hvars]; exact HOK.out) (k := k) (most := 16) (doms := [2]) (cap := 1) (rowIn1 wr 2) (by simp) (by simp [h2n]) (by simp) HG2.out.lt (Dep.of_ev HG2.out.ev (range_dep K 2 lo hi))
          (by have := HL2.out; simp; omega) (want := (List.range m).map fun i => [lo + i]) (wantR_sorted lo m) (fun r => by
            rw [HM.out]
            refine (wantR_mem HOK.out h2n (by rw [HS2.out]; omega) r).trans ?_
            constructor
            · rintro ⟨e, h1, h2⟩; exact ⟨e, h1, by rw [HG2.out.ev]; exact h2⟩
            · rintro ⟨e, h1, h2⟩; exact ⟨e, h1, by rw [← HG2.out.ev]; exact h2⟩) (by simp; exact hm16) (by omega)
        have HTT := Lib.hid hT
        have HRW := Lib.hid hrw
        have HWR := Lib.hid hwr
        have HBA := Lib.hid hbA
        have hwl : ((List.range m).map fun i => [lo + i]).length = m := by simp
        have HWL := Lib.hid hwl
        clear hra hown hrw hwr hbA hB3A hvars hT hwl hbl
        go_wp2_with fail
        refine HTT.out.mono ?_
        rintro e w5 ⟨q, cp, rfl, hrows, hb5⟩
        have hb5' : Below wr.heap.size wr w5 := HBA.out.trans (hb5.mono HBA.out.size)
        have hs := sameRows_any hrows (HRW.out.below hb5') (by rw [HWL.out]; omega) (fun r hr => by
          obtain ⟨i, _, rfl⟩ := List.mem_map.1 hr
          simp) cp cw
        rw [HWL.out] at hs ⊢
        have HSR := Lib.hid hs
        have HB5' : Hid (Below W.heap.size W w5) := HWR.out.trans (hb5'.mono HWR.out.size)
        clear hrows hb5 hb5' hs
        go_wp2_with fail
        refine HSR.out.mono ?_
        rintro e w6 ⟨rfl, n6, rfl⟩
        clear HSR
        go_wp2_with fail
        refine (HAW.out _ (below_drewN HB5'.out n6)).mono ?_
        rintro e w9 ⟨rfl, hb9⟩
        have HB9 : Hid (Below w.heap.size w w9) := HB.out.trans (((below_drewN HB5'.out n6).trans (hb9.mono (by have := HB5'.out.size; simpa using this))).mono HB.out.size)
        clear hb9
        go_wp2
        go_ret
        exact ⟨rfl, HB9.out⟩
  · have hbad : a0 < 0 ∨ a1 < 0 ∨ (K.size 2 : Int) ≤ a0 ∨ (K.size 2 : Int) ≤ a1 := by rw [hs2]; push_cast; omega
    have HR := Lib.hid (Range_bad HCA.out h2n hbad)
    clear hs2 hl2 hbad
    have hc4 : (a0 < 0 ∧ decide (a0 < 0) = true) ∨ (decide (a0 < 0) = false ∧ decide ((z1 : Int) + 1 ≤ a0) = true) ∨ (decide (a0 < 0) = false ∧ decide ((z1 : Int) + 1 ≤ a0) = false ∧ decide (a1 < 0) = true) ∨
        (decide (a0 < 0) = false ∧ decide ((z1 : Int) + 1 ≤ a0) = false ∧ decide (a1 < 0) = false ∧ decide ((z1 : Int) + 1 ≤ a1) = true) := by
      simp only [decide_eq_true_eq, decide_eq_false_iff_not]
      omega
    clear hgood
    go_wp2_with fail
    refine HR.out.mono ?_
    rintro e w2 ⟨rfl, hb2⟩
    have x52 := X5.out.below hb2 X5.out.lt
    have y0 : w2.cell? ⟨b5, 0, none⟩ = some (.int .i64 a0) := x52.cell_of rfl
    have y1 : w2.cell? ⟨b5, 1, none⟩ = some (.int .i64 a1) := x52.cell_of rfl
    have yd : w2.cell? ⟨b, 5, none⟩ = some (.int .i64 ((z1 : Int) + 1)) := (HDB.out.below hb2 HDB.out.lt).cell_of rfl
    have HB2 : Hid (Below W.heap.size W w2) := HB1.out.trans (hb2.mono HB1.out.size)
    clear hb2 x52 q50 q51
    rcases hc4 with ⟨_, t1⟩ | ⟨t1, t2⟩ | ⟨t1, t2, t3⟩ | ⟨t1, t2, t3, t4⟩
    all_goals
      go_wp2
      go_quiet (fail)
      go_wp2_with fail
      refine (HAW.out _ (below_drewN HB2.out _)).mono ?_
      rintro e w9 ⟨rfl, hb9⟩
      have HB9 : Hid (Below w.heap.size w w9) := HB.out.trans (((below_drewN HB2.out _).trans (hb9.mono (by have := HB2.out.size; simpa using this))).mono HB.out.size)
      clear hb9
      go_wp2
      go_ret
      exact ⟨rfl, HB9.out⟩

end Go.Proofs.YtndefnfknhjfkaaGreatDoor
