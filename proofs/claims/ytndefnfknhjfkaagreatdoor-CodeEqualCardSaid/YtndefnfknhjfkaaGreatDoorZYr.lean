/- CodeEqual of one domain twice. -/
import Derived.Test.YtndefnfknhjfkaaGreatDoorZYo
namespace Go.Proofs.YtndefnfknhjfkaaGreatDoor
open Go.RowKit Go.Proofs.Osier

set_option maxHeartbeats 4000000 in
set_option maxRecDepth 100000 in
theorem equal_d {w : World} {mx : Int} (hml : w.cell? ⟨0, 0, none⟩ = some (.int .i64 mx)) (hw0 : 0 < w.heap.size) (s0 s1 o a0 a1 : Int) {z0 z1 za zb : Nat} (hz0 : z0 ≤ 15) (hz1 : z1 ≤ 15) (e0 : bits .and .i64 s0 15 = (z0 : Int)) (e1 : bits .and .i64 s1 15 = (z1 : Int)) (ea : bits .and .i64 a0 3 = (za : Int)) (eb : bits .and .i64 a1 3 = (zb : Int)) (hx : za < 3) (hxy : za = zb) :
    Calls Tryz.prog 4 #[.agg #[.int .i64 s0, .int .i64 s1], .int .i64 o, .agg #[.int .i64 a0, .int .i64 a1]] w fun e w' => e = .returned (.bool true) ∧ Below w.heap.size w w' := by
  subst hxy
  obtain ⟨h, H⟩ := hash_is
  obtain ⟨W, hW⟩ : ∃ W, W = (w.alloc (.cells #[.int .i64 s0, .int .i64 s1] 22)).alloc (.cells #[.int .i64 a0, .int .i64 a1] 22) := ⟨_, rfl⟩
  have hB : Below w.heap.size w W := by rw [hW]; exact ((Below.refl _ _).alloc (Nat.le_refl _) _).alloc (by simp) _
  obtain ⟨b5, hb5⟩ : ∃ z, z = w.heap.size + 1 := ⟨_, rfl⟩
  have k5 : Blk W b5 22 #[.int .i64 a0, .int .i64 a1] := by rw [hW, hb5]; exact Blk.new_at (by simp) 22 _
  have hmlW := (hB.cell (p := ⟨0, 0, none⟩) hw0).trans hml
  have hwW := Nat.lt_of_lt_of_le hw0 hB.size
  have HTH := Lib.hid (three_any h hmlW hwW s0 s1 o e0 e1 hz0 hz1)
  have HAW := Lib.hid (fun (W' : World) (hb : Below W.heap.size W W') => awake_any ((hb.cell (p := ⟨0, 0, none⟩) hwW).trans hmlW) (Nat.lt_of_lt_of_le hwW hb.size))
  have HW := Lib.hid hW
  have HB := Lib.hid hB
  have HB5 := Lib.hid hb5
  have K5 := Lib.hid k5
  clear hml hw0 e0 e1 hW hB hb5 k5 hmlW hwW
  go_enter Tryz.func4, Tryz.ntmps4
  go_wp2_with fail
  rw [← HW.out, ← HB5.out]
  refine HTH.out.mono ?_
  rintro e w1 ⟨c, b, K, F, rfl, hca, hkn, hks, hok, hlen, ht, hF, hdb, hb1⟩
  have hl4 : ∀ d, d < 3 → (K.at_ d).length ≤ 4 := fun d hd => by rw [hlen d hd]; exact wd3_le (by omega) (by omega) d
  have x5 := K5.out.below hb1 K5.out.lt
  have q50 : w1.cell? ⟨b5, 0, none⟩ = some (.int .i64 a0) := x5.cell_of rfl
  have q51 : w1.cell? ⟨b5, 1, none⟩ = some (.int .i64 a1) := x5.cell_of rfl
  have HDC : Hid (∀ w', Stays w1 w' → ∀ i, i < 3 → w'.cell? ⟨b, i * 2 + 1, none⟩ = some (.int .i64 (K.size i))) := fun w' hs i hi => ds3_size (hs.blk _ _ _ rfl hdb) hks hi
  have HSZ := Lib.hid (fun i (hi : i < 3) => ds3_le (n := z0 + 1) (m := z1 + 1) (by omega) (by omega) hks hi)
  have HKS := Lib.hid hks
  have HLEN := Lib.hid hlen
  have HL4 := Lib.hid hl4
  have HDB := Lib.hid hdb
  have HCA := Lib.hid hca
  have HT := Lib.hid ht
  have HF := Lib.hid hF
  have HOK := Lib.hid hok
  have HKN := Lib.hid hkn
  have HB1 : Hid (Below W.heap.size W w1) := hb1
  clear x5 hdb hca hkn hks hok hlen ht hF hb1 hl4 HTH K5
  go_wp2
  go_quiet (fail)
  clear q50 q51 ea eb
  generalize hW2 : w1.drewN _ = W2
  have HB2 : Hid (Below W.heap.size W W2) := by rw [← hW2]; exact below_drewN HB1.out _
  have HST2 : Hid (Stays w1 W2) := by rw [← hW2]; exact Stays.drewN _ _
  have HCA2 : Hid (CodeAt W2 c K) := by rw [← hW2]; exact HCA.out.stays (Stays.drewN _ _)
  have HT2 : Hid (Opr h W2 K.op K.st F (newSt 12 16384)) := by rw [← hW2]; exact HT.out.drewN _
  clear hW2
  have hy := hx
  have hs : szD (ds3 (z0 + 1) (z1 + 1)) za = szD (ds3 (z0 + 1) (z1 + 1)) za := rfl
  have hxn : za < K.n := by rw [HKN.out]; exact hx
  have hyn : za < K.n := by rw [HKN.out]; exact hy
  have hsk : K.size za = K.size za := rfl
  have hlk : (K.at_ za).length = (K.at_ za).length := rfl
  have HEQ := Lib.hid (Equal_good H HCA2.out HT2.out HOK.out (a := za) (b := za) (L := 12) (B := 0) hxn hyn hsk hlk (p := inRow (K.at_ za ++ K.at_ za)) inRow_left inRow_right
    (ready_new (by have := accN4 (K := K) (a := za) (L := 12) (p := inRow (K.at_ za ++ K.at_ za)) (HL4.out za hx) (cost_mid (HL4.out za hx) (HL4.out za hy)); omega)))
  have HSK := Lib.hid hsk
  have HLK := Lib.hid hlk
  have HXN := Lib.hid hxn
  have HYN := Lib.hid hyn
  have hacc := accN4 (K := K) (a := za) (L := 12) (p := inRow (K.at_ za ++ K.at_ za)) (HL4.out za hx) (cost_mid (HL4.out za hx) (HL4.out za hy))
  have HACC := Lib.hid hacc
  clear hs hsk hlk hxn hyn hacc
  go_wp2_with fail
  refine HEQ.out.mono ?_
  rintro e w3 ⟨k, s3, F3, rfl, t3, g3, m3⟩
  have hst := HT2.out.stays m3
  have hst1 : Stays w1 w3 := HST2.out.trans hst
  have ya : w3.cell? ⟨b, za * 2 + 1, none⟩ = some (.int .i64 (K.size za)) := HDC.out w3 hst1 za hx
  have yb : w3.cell? ⟨b, za * 2 + 1, none⟩ = some (.int .i64 (K.size za)) := HDC.out w3 hst1 za hy
  have HB3 : Hid (Below W.heap.size W w3) := Moves.below HB2.out m3 HF.out
  have HST3 := Lib.hid hst1
  have HCA3 := Lib.hid (HCA2.out.stays hst)
  have HT3 := Lib.hid t3
  have HG3 := Lib.hid g3
  have HM3 := Lib.hid m3
  have hne : ((K.size za : Int) != (K.size za : Int)) = false := by simp
  clear hst hst1 t3 g3 m3 HEQ
  have t1 : decide ((2 : Int) < (za : Int)) = false := by simp; omega
  have t2 : decide ((2 : Int) < (za : Int)) = false := by simp; omega
  go_wp2
  go_quiet (fail)
  clear ya yb
  generalize hW4 : w3.drewN _ = W4
  have HB4 : Hid (Below W.heap.size W W4) := by rw [← hW4]; exact below_drewN HB3.out _
  have HST4 : Hid (Stays w1 W4) := by rw [← hW4]; exact HST3.out.trans (Stays.drewN _ _)
  have HCA4 : Hid (CodeAt W4 c K) := by rw [← hW4]; exact HCA3.out.stays (Stays.drewN _ _)
  have HT4 : Hid (Opr h W4 K.op K.st F3 s3) := by rw [← hW4]; exact HT3.out.drewN _
  clear hW4
  have hz1' : 1 ≤ K.size za := (HOK.out.fits za HXN.out).1
  have hsz := HSZ.out za hx
  have HRG := Lib.hid (Range_good H HCA4.out HT4.out (by rw [HG3.out.le.vars]; exact HOK.out) (d := za) (lo := 0) (hi := K.size za - 1) (L := 12) (B := 0) HXN.out (by omega) (by omega)
    (by
      have r := ready_new (vars := 12) (m := accN K za 12 (inRow (K.at_ za ++ K.at_ za)) ((K.at_ za).length + 1) + costR K za 12) (by have h1 := HACC.out; have h2 := costR4 (K := K) (d := za) (L := 12) (HL4.out za hx); omega)
      exact r.next HG3.out))
  have y4 : W4.cell? ⟨b, za * 2 + 1, none⟩ = some (.int .i64 (K.size za)) := HDC.out W4 HST4.out za hx
  obtain ⟨zl, hzl⟩ : ∃ z, z = K.size za := ⟨_, rfl⟩
  obtain ⟨zh, hzh⟩ : ∃ z, z = K.size za - 1 := ⟨_, rfl⟩
  rw [← hzl] at y4
  rw [← hzh] at HRG
  have HZH := Lib.hid hzh
  have HZL := Lib.hid hzl
  have hzz : (zl : Int) - 1 = (zh : Int) := by omega
  have hzl2 : zl ≤ 16 := by omega
  have hzh2 : zh ≤ 16 := by omega
  have hzl1 : 1 ≤ zl := by omega
  clear hz1' hsz hzh hzl
  go_wp2_with fail
  refine HRG.out.mono ?_
  rintro e w5 ⟨k2, s5, F5, rfl, t5, g5, m5⟩
  have hkk : k = k2 := by
    refine St.canon g5.wf (Nat.lt_of_lt_of_le HG3.out.lt g5.le.len) g5.lt fun e => ?_
    rw [g5.le.ev HG3.out.wf g5.wf k e HG3.out.lt, HG3.out.ev, g5.ev]
    unfold eqF
    rw [HZH.out]
    have h9 : 1 ≤ K.size za := by have := HZL.out; omega
    simp only [decide_true, Bool.and_true, Nat.zero_le, true_and]
    congr 1
    exact propext ⟨fun h => by omega, fun h => by omega⟩
  subst hkk
  have HB5 : Hid (Below W.heap.size W w5) := Moves.below HB4.out m5 (fun x hx => by
    rcases HM3.out.new x hx with h9 | h9
    · exact HF.out x h9
    · exact Nat.le_trans HB2.out.size h9)
  clear t5 g5 m5 y4
  go_wp2_with fail
  refine (HAW.out _ HB5.out).mono ?_
  rintro e w9 ⟨rfl, hb9⟩
  have HB9 : Hid (Below w.heap.size w w9) := HB.out.trans ((HB5.out.trans (hb9.mono (by have := HB5.out.size; simpa using this))).mono HB.out.size)
  clear hb9
  go_wp2
  go_ret
  exact ⟨rfl, HB9.out⟩

end Go.Proofs.YtndefnfknhjfkaaGreatDoor
