/- CodeEqual of two domains of one size. -/
import Derived.Test.YtndefnfknhjfkaaGreatDoorZYo
namespace Go.Proofs.YtndefnfknhjfkaaGreatDoor
open Go.RowKit Go.Proofs.Osier

set_option maxHeartbeats 4000000 in
set_option maxRecDepth 100000 in
theorem equal_e {w : World} {mx : Int} (hml : w.cell? ⟨0, 0, none⟩ = some (.int .i64 mx)) (hw0 : 0 < w.heap.size) (s0 s1 o a0 a1 : Int) {z0 z1 za zb : Nat} (hz0 : z0 ≤ 15) (hz1 : z1 ≤ 15) (e0 : bits .and .i64 s0 15 = (z0 : Int)) (e1 : bits .and .i64 s1 15 = (z1 : Int)) (ea : bits .and .i64 a0 3 = (za : Int)) (eb : bits .and .i64 a1 3 = (zb : Int)) (hx : za < 3) (hy : zb < 3) (hxy : za ≠ zb) (hs : szD (ds3 (z0 + 1) (z1 + 1)) za = szD (ds3 (z0 + 1) (z1 + 1)) zb) :
    Calls Tryz.prog 4 #[.agg #[.int .i64 s0, .int .i64 s1], .int .i64 o, .agg #[.int .i64 a0, .int .i64 a1]] w fun e w' => e = .returned (.bool true) ∧ Below w.heap.size w w' := by
  obtain ⟨h, H⟩ := hash_is
  obtain ⟨W, hW⟩ : ∃ W, W = (w.alloc (.cells #[.int .i64 s0, .int .i64 s1] 22)).alloc (.cells #[.int .i64 a0, .int .i64 a1] 22) := ⟨_, rfl⟩
  have hB : Below w.heap.size w W := by rw [hW]; exact ((Below.refl _ _).alloc (Nat.le_refl _) _).alloc (by simp) _
  obtain ⟨b5, hb5⟩ : ∃ z, z = w.heap.size + 1 := ⟨_, rfl⟩
  have k5 : Blk W b5 22 #[.int .i64 a0, .int .i64 a1] := by rw [hW, hb5]; exact Blk.new_at (by simp) 22 _
  have hmlW := (hB.cell (p := ⟨0, 0, none⟩) hw0).trans hml
  have hwW := Nat.lt_of_lt_of_le hw0 hB.size
  have HTH := Lib.hid (three_any h hmlW hwW s0 s1 o e0 e1 hz0 hz1)
  have HAW := Lib.hid (fun (W' : World) (hb : Below W.heap.size W W') => awake_any ((hb.cell (p := ⟨0, 0, none⟩) hwW).trans hmlW) (Nat.lt_of_lt_of_le hwW hb.size))
  have HW := Lib.hid hW
  have HB := Lib.hid hB
  have HB5 := Lib.hid hb5
  have K5 := Lib.hid k5
  clear hml hw0 e0 e1 hW hB hb5 k5 hmlW hwW
  go_enter Tryz.func4, Tryz.ntmps4
  go_wp2_with fail
  rw [← HW.out, ← HB5.out]
  refine HTH.out.mono ?_
  rintro e w1 ⟨c, b, K, F, rfl, hca, hkn, hks, hok, hlen, ht, hF, hdb, hb1⟩
  have hl4 : ∀ d, d < 3 → (K.at_ d).length ≤ 4 := fun d hd => by rw [hlen d hd]; exact wd3_le (by omega) (by omega) d
  have x5 := K5.out.below hb1 K5.out.lt
  have q50 : w1.cell? ⟨b5, 0, none⟩ = some (.int .i64 a0) := x5.cell_of rfl
  have q51 : w1.cell? ⟨b5, 1, none⟩ = some (.int .i64 a1) := x5.cell_of rfl
  have HDC : Hid (∀ w', Stays w1 w' → ∀ i, i < 3 → w'.cell? ⟨b, i * 2 + 1, none⟩ = some (.int .i64 (K.size i))) := fun w' hs i hi => ds3_size (hs.blk _ _ _ rfl hdb) hks hi
  have HSZ := Lib.hid (fun i (hi : i < 3) => ds3_le (n := z0 + 1) (m := z1 + 1) (by omega) (by omega) hks hi)
  have HKS := Lib.hid hks
  have HLEN := Lib.hid hlen
  have HL4 := Lib.hid hl4
  have HDB := Lib.hid hdb
  have HCA := Lib.hid hca
  have HT := Lib.hid ht
  have HF := Lib.hid hF
  have HOK := Lib.hid hok
  have HKN := Lib.hid hkn
  have HB1 : Hid (Below W.heap.size W w1) := hb1
  clear x5 hdb hca hkn hks hok hlen ht hF hb1 hl4 HTH K5
  go_wp2
  go_quiet (fail)
  clear q50 q51 ea eb
  generalize hW2 : w1.drewN _ = W2
  have HB2 : Hid (Below W.heap.size W W2) := by rw [← hW2]; exact below_drewN HB1.out _
  have HST2 : Hid (Stays w1 W2) := by rw [← hW2]; exact Stays.drewN _ _
  have HCA2 : Hid (CodeAt W2 c K) := by rw [← hW2]; exact HCA.out.stays (Stays.drewN _ _)
  have HT2 : Hid (Opr h W2 K.op K.st F (newSt 12 16384)) := by rw [← hW2]; exact HT.out.drewN _
  clear hW2
  have hxn : za < K.n := by rw [HKN.out]; exact hx
  have hyn : zb < K.n := by rw [HKN.out]; exact hy
  have hsk : K.size za = K.size zb := by rw [HKS.out]; exact hs
  have hlk : (K.at_ za).length = (K.at_ zb).length := by rw [HLEN.out za hx, HLEN.out zb hy]; exact wd3_eq hx hy hs
  have HEQ := Lib.hid (Equal_good H HCA2.out HT2.out HOK.out (a := za) (b := zb) (L := 12) (B := 0) hxn hyn hsk hlk (p := inRow (K.at_ za ++ K.at_ zb)) inRow_left inRow_right
    (ready_new (by have := accN4 (K := K) (a := za) (L := 12) (p := inRow (K.at_ za ++ K.at_ zb)) (HL4.out za hx) (cost_mid (HL4.out za hx) (HL4.out zb hy)); omega)))
  have HSK := Lib.hid hsk
  have HLK := Lib.hid hlk
  have HXN := Lib.hid hxn
  have HYN := Lib.hid hyn
  have hacc := accN4 (K := K) (a := za) (L := 12) (p := inRow (K.at_ za ++ K.at_ zb)) (HL4.out za hx) (cost_mid (HL4.out za hx) (HL4.out zb hy))
  have HACC := Lib.hid hacc
  clear hs hsk hlk hxn hyn hacc
  go_wp2_with fail
  refine HEQ.out.mono ?_
  rintro e w3 ⟨k, s3, F3, rfl, t3, g3, m3⟩
  have hst := HT2.out.stays m3
  have hst1 : Stays w1 w3 := HST2.out.trans hst
  have ya : w3.cell? ⟨b, za * 2 + 1, none⟩ = some (.int .i64 (K.size za)) := HDC.out w3 hst1 za hx
  have yb : w3.cell? ⟨b, zb * 2 + 1, none⟩ = some (.int .i64 (K.size za)) := by rw [HSK.out]; exact HDC.out w3 hst1 zb hy
  have HB3 : Hid (Below W.heap.size W w3) := Moves.below HB2.out m3 HF.out
  have HST3 := Lib.hid hst1
  have HCA3 := Lib.hid (HCA2.out.stays hst)
  have HT3 := Lib.hid t3
  have HG3 := Lib.hid g3
  have HM3 := Lib.hid m3
  have hne : ((K.size za : Int) != (K.size za : Int)) = false := by simp
  clear hst hst1 t3 g3 m3 HEQ
  have t1 : decide ((2 : Int) < (za : Int)) = false := by simp; omega
  have t2 : decide ((2 : Int) < (zb : Int)) = false := by simp; omega
  go_wp2
  go_quiet (fail)
  clear ya yb
  generalize hW4 : w3.drewN _ = W4
  have HB4 : Hid (Below W.heap.size W W4) := by rw [← hW4]; exact below_drewN HB3.out _
  have HST4 : Hid (Stays w1 W4) := by rw [← hW4]; exact HST3.out.trans (Stays.drewN _ _)
  have HCA4 : Hid (CodeAt W4 c K) := by rw [← hW4]; exact HCA3.out.stays (Stays.drewN _ _)
  have HT4 : Hid (Opr h W4 K.op K.st F3 s3) := by rw [← hW4]; exact HT3.out.drewN _
  clear hW4
  have hbe : ((za : Int) == (zb : Int)) = false := by rw [beq_eq_false_iff_ne]; omega
  obtain ⟨m, hm⟩ : ∃ m, m = K.size za := ⟨_, rfl⟩
  have hm16 : m ≤ 16 := by rw [hm]; exact HSZ.out za hx
  have HM := Lib.hid hm
  have HXY := Lib.hid hxy
  clear hm hxy
  go_wp2
  obtain ⟨i1, hi1, hy0, hy1, hy2⟩ := info_parts info34
  go_loopg [16, 17] (m + 1) (fun g o v wr => ∃ (j : Nat) (vs : List Value), g = m + 1 - j ∧ j ≤ m ∧ v = .int .i64 j ∧ wr.ownsRow W4.heap.size 34 1 o j vs ∧ RowsAbove W4.heap.size wr vs ((List.range j).map fun i => [i, i]) ∧ Below W4.heap.size W4 wr)
  case atStart => exact ⟨0, [], rfl, by omega, rfl, World.ownsRow_nil _ _ _ _, RowsAbove.nil _ _, Below.refl _ _⟩
  case round =>
    obtain ⟨j, vs, hg, hj, rfl, hown, hra, hbl⟩ := hrel
    have HG := Lib.hid hg
    have HRA := Lib.hid hra
    have HBL := Lib.hid hbl
    have y1 : wr.cell? ⟨b, za * 2 + 1, none⟩ = some (.int .i64 m) := by rw [HM.out]; exact HDC.out wr (HST4.out.trans (.of_below hbl)) za hx
    have hsz := hbl.size
    clear hg hra
    by_cases hjm : j < m
    · have hj16 : j ≤ 16 := by omega
      go_wp2_with (at_builtin; refine wpList_append_own_at _ rfl _ _ 33 rfl W4.heap.size 34 i1 (.slice none 0 0) 1 24 Tryz.underlying33 hi1 hy0 hy1 hy2 rfl (by decide) _ _ _ rfl ((hown.alloc _).alloc _) ⟨wr.heap.size + 1, 0, none⟩ 1 1 [.slice (some ⟨wr.heap.size, 0, none⟩) 2 2] rfl rfl ?c1 ?c2 ?c3 ?c4 ?c5 ?_)
      case c1 =>
        have h9 := cells_new (wr.alloc (.cells #[.int .i64 (j : Int), .int .i64 (j : Int)] 3)) [.slice (some ⟨wr.heap.size, 0, none⟩) 2 2] 34
        rw [show (wr.alloc (.cells #[.int .i64 (j : Int), .int .i64 (j : Int)] 3)).heap.size = wr.heap.size + 1 by simp] at h9
        exact h9
      case c2 => intro u hu; simp at hu; subst hu; rfl
      case c3 => unfold maxLen; omega
      case c4 => omega
      case c5 => simp; omega
      intro v7 w7 o7 g7 n7 a7
      have hof : ∀ g, u16.ownBlock = some g → W4.heap.size ≤ g ∧ ∃ cs, Blk wr g 34 cs := fun g hg => by
        obtain ⟨_, _, _, hh⟩ := own_form hown
        exact hh g hg
      have hkeep : ∀ g cs, Blk ((wr.alloc (.cells #[.int .i64 (j : Int), .int .i64 (j : Int)] 3)).alloc (.cells #[.slice (some ⟨wr.heap.size, 0, none⟩) 2 2] 34)) g 3 cs → Blk w7 g 3 cs := fun g cs hb => hb.grown g7 (fun e => by
        obtain ⟨_, cs', hb'⟩ := hof g e.symm
        exact hb.ne_ ((hb'.alloc _).alloc _) (by decide) rfl)
      have hr7 : RowsAbove W4.heap.size w7 (vs ++ [.slice (some ⟨wr.heap.size, 0, none⟩) 2 2]) ((List.range (j + 1)).map fun i => [i, i]) := by
        have h9 := (HRA.out.keep (w' := w7) (fun g cs _ hb => hkeep g cs ((hb.alloc _).alloc _))).snoc (cap := 2) (row := [j, j]) (rowAbove2 (hkeep _ _ ((Blk.new wr 3 #[.int .i64 (j : Int), .int .i64 (j : Int)]).alloc _)) hsz)
        rw [List.range_succ, List.map_append]
        exact h9
      have b7 : Below W4.heap.size W4 w7 := ((HBL.out.alloc hsz _).alloc (by simp; omega) _).grown g7 (by simp; omega) (fun g hg => (hof g hg).1)
      have HO7 := Lib.hid o7
      have HR7 := Lib.hid hr7
      have HB7 := Lib.hid b7
      clear o7 g7 n7 a7 hof hkeep hr7 b7 hown hbl
      go_wp2
      go_roundg (m + 1 - (j + 1))
      case measure => rw [HG.out]; omega
      case rel => exact ⟨j + 1, _, rfl, by omega, by go_num, HO7.out, HR7.out, HB7.out⟩
    · have hjm2 : j = m := by omega
      have hra := HRA.out
      rw [hjm2] at hra hown
      obtain ⟨pw, cw, rfl, _⟩ := own_form hown
      have hrw := rowsIn_own hown hra
      have hwr : Below W.heap.size W wr := HB4.out.trans (HBL.out.mono HB4.out.size)
      have hbA : Below wr.heap.size wr (wr.alloc (.cells #[.int .i64 za, .int .i64 zb] 3)) := (Below.refl _ _).alloc (Nat.le_refl _) _
      have hB4A : Below W4.heap.size W4 (wr.alloc (.cells #[.int .i64 za, .int .i64 zb] 3)) := HBL.out.trans (hbA.mono hsz)
      have hvars : s3.vars = 12 := HG3.out.le.vars
      have hT := tuples_any (HCA4.out.stays (.of_below hB4A)) (HT4.out.below hB4A) (by rw [hvars]; exact HOK.out) (k := k) (most := 16) (doms := [za, zb]) (cap := 2) (rowIn2 wr za zb) (by simp) (by simp [HXN.out, HYN.out]) (by simp [HXY.out]) HG3.out.lt (Dep.of_ev HG3.out.ev (eqF_dep K za zb))
        (by have h1 := HL4.out za hx; have h2 := HL4.out zb hy; simp; omega) (want := wantEq m) (wantEq_sorted m) (fun r => by
          rw [HM.out]
          refine (wantEq_mem HOK.out HXN.out HYN.out HXY.out HLK.out r).trans ?_
          constructor
          · rintro ⟨e, h1, h2⟩; exact ⟨e, h1, by rw [HG3.out.ev]; exact h2⟩
          · rintro ⟨e, h1, h2⟩; exact ⟨e, h1, by rw [← HG3.out.ev]; exact h2⟩) (by simp [wantEq]; exact hm16) (by omega)
      have HTT := Lib.hid hT
      have HRW := Lib.hid hrw
      have HWR := Lib.hid hwr
      have HBA := Lib.hid hbA
      have hwl : (wantEq m).length = m := by simp [wantEq]
      have HWL := Lib.hid hwl
      clear hra hown hrw hwr hbA hB4A hvars hT hwl hbl
      go_wp2_with fail
      refine HTT.out.mono ?_
      rintro e w5 ⟨q, cp, rfl, hrows, hb5⟩
      have hb5' : Below wr.heap.size wr w5 := HBA.out.trans (hb5.mono HBA.out.size)
      have hs := sameRows_any hrows (HRW.out.below hb5') (by rw [HWL.out]; omega) (fun r hr => by
        obtain ⟨i, _, rfl⟩ := List.mem_map.1 hr
        simp) cp cw
      rw [HWL.out] at hs ⊢
      have HSR := Lib.hid hs
      have HB5' : Hid (Below W.heap.size W w5) := HWR.out.trans (hb5'.mono HWR.out.size)
      clear hrows hb5 hb5' hs
      go_wp2_with fail
      refine HSR.out.mono ?_
      rintro e w6 ⟨rfl, n6, rfl⟩
      clear HSR
      go_wp2_with fail
      refine (HAW.out _ (below_drewN HB5'.out n6)).mono ?_
      rintro e w9 ⟨rfl, hb9⟩
      have HB9 : Hid (Below w.heap.size w w9) := HB.out.trans (((below_drewN HB5'.out n6).trans (hb9.mono (by have := (below_drewN HB5'.out n6).size; simpa using this))).mono HB.out.size)
      clear hb9
      go_wp2
      go_ret
      exact ⟨rfl, HB9.out⟩

end Go.Proofs.YtndefnfknhjfkaaGreatDoor
