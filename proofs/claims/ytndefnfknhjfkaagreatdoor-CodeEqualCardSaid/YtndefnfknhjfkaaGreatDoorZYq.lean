/- CodeEqual where Equal says no: two sizes. -/
import Derived.Test.YtndefnfknhjfkaaGreatDoorZYo
import Derived.Test.YtndefnfknhjfkaaGreatDoorZYm
namespace Go.Proofs.YtndefnfknhjfkaaGreatDoor
open Go.RowKit Go.Proofs.Osier

set_option maxHeartbeats 4000000 in
set_option maxRecDepth 100000 in
theorem equal_c {w : World} {mx : Int} (hml : w.cell? ⟨0, 0, none⟩ = some (.int .i64 mx)) (hw0 : 0 < w.heap.size) (s0 s1 o a0 a1 : Int) {z0 z1 za zb : Nat} (hz0 : z0 ≤ 15) (hz1 : z1 ≤ 15) (e0 : bits .and .i64 s0 15 = (z0 : Int)) (e1 : bits .and .i64 s1 15 = (z1 : Int)) (ea : bits .and .i64 a0 3 = (za : Int)) (eb : bits .and .i64 a1 3 = (zb : Int)) (hx : za < 3) (hy : zb < 3) (hs : szD (ds3 (z0 + 1) (z1 + 1)) za ≠ szD (ds3 (z0 + 1) (z1 + 1)) zb) :
    Calls Tryz.prog 4 #[.agg #[.int .i64 s0, .int .i64 s1], .int .i64 o, .agg #[.int .i64 a0, .int .i64 a1]] w fun e w' => e = .returned (.bool true) ∧ Below w.heap.size w w' := by
  obtain ⟨h, H⟩ := hash_is
  obtain ⟨W, hW⟩ : ∃ W, W = (w.alloc (.cells #[.int .i64 s0, .int .i64 s1] 22)).alloc (.cells #[.int .i64 a0, .int .i64 a1] 22) := ⟨_, rfl⟩
  have hB : Below w.heap.size w W := by rw [hW]; exact ((Below.refl _ _).alloc (Nat.le_refl _) _).alloc (by simp) _
  obtain ⟨b5, hb5⟩ : ∃ z, z = w.heap.size + 1 := ⟨_, rfl⟩
  have k5 : Blk W b5 22 #[.int .i64 a0, .int .i64 a1] := by rw [hW, hb5]; exact Blk.new_at (by simp) 22 _
  have hmlW := (hB.cell (p := ⟨0, 0, none⟩) hw0).trans hml
  have hwW := Nat.lt_of_lt_of_le hw0 hB.size
  have HTH := Lib.hid (three_any h hmlW hwW s0 s1 o e0 e1 hz0 hz1)
  have HAW := Lib.hid (fun (W' : World) (hb : Below W.heap.size W W') => awake_any ((hb.cell (p := ⟨0, 0, none⟩) hwW).trans hmlW) (Nat.lt_of_lt_of_le hwW hb.size))
  have HW := Lib.hid hW
  have HB := Lib.hid hB
  have HB5 := Lib.hid hb5
  have K5 := Lib.hid k5
  clear hml hw0 e0 e1 hW hB hb5 k5 hmlW hwW
  go_enter Tryz.func4, Tryz.ntmps4
  go_wp2_with fail
  rw [← HW.out, ← HB5.out]
  refine HTH.out.mono ?_
  rintro e w1 ⟨c, b, K, F, rfl, hca, hkn, hks, hok, hlen, ht, hF, hdb, hb1⟩
  have hl4 : ∀ d, d < 3 → (K.at_ d).length ≤ 4 := fun d hd => by rw [hlen d hd]; exact wd3_le (by omega) (by omega) d
  have x5 := K5.out.below hb1 K5.out.lt
  have q50 : w1.cell? ⟨b5, 0, none⟩ = some (.int .i64 a0) := x5.cell_of rfl
  have q51 : w1.cell? ⟨b5, 1, none⟩ = some (.int .i64 a1) := x5.cell_of rfl
  have HDC : Hid (∀ w', Stays w1 w' → ∀ i, i < 3 → w'.cell? ⟨b, i * 2 + 1, none⟩ = some (.int .i64 (K.size i))) := fun w' hs i hi => ds3_size (hs.blk _ _ _ rfl hdb) hks hi
  have HSZ := Lib.hid (fun i (hi : i < 3) => ds3_le (n := z0 + 1) (m := z1 + 1) (by omega) (by omega) hks hi)
  have HKS := Lib.hid hks
  have HLEN := Lib.hid hlen
  have HL4 := Lib.hid hl4
  have HDB := Lib.hid hdb
  have HCA := Lib.hid hca
  have HT := Lib.hid ht
  have HF := Lib.hid hF
  have HOK := Lib.hid hok
  have HKN := Lib.hid hkn
  have HB1 : Hid (Below W.heap.size W w1) := hb1
  clear x5 hdb hca hkn hks hok hlen ht hF hb1 hl4 HTH K5
  go_wp2
  go_quiet (fail)
  clear q50 q51 ea eb
  generalize hW2 : w1.drewN _ = W2
  have HB2 : Hid (Below W.heap.size W W2) := by rw [← hW2]; exact below_drewN HB1.out _
  have HST2 : Hid (Stays w1 W2) := by rw [← hW2]; exact Stays.drewN _ _
  have HCA2 : Hid (CodeAt W2 c K) := by rw [← hW2]; exact HCA.out.stays (Stays.drewN _ _)
  have HT2 : Hid (Opr h W2 K.op K.st F (newSt 12 16384)) := by rw [← hW2]; exact HT.out.drewN _
  clear hW2
  have HEQ := Lib.hid (Equal_bad2 HCA2.out (by rw [HKN.out]; omega) (a := za) (b := zb) (by rw [HKN.out]; exact hx) (by rw [HKN.out]; exact hy) (by rw [HKS.out]; exact hs))
  go_wp2_with fail
  refine HEQ.out.mono ?_
  rintro e w3 ⟨rfl, hb3⟩
  have ya : w3.cell? ⟨b, za * 2 + 1, none⟩ = some (.int .i64 (K.size za)) := HDC.out w3 (HST2.out.trans (.of_below hb3)) za hx
  have yb : w3.cell? ⟨b, zb * 2 + 1, none⟩ = some (.int .i64 (K.size zb)) := HDC.out w3 (HST2.out.trans (.of_below hb3)) zb hy
  have HB3 : Hid (Below W.heap.size W w3) := HB2.out.trans (hb3.mono HB2.out.size)
  clear hb3 HEQ
  have t3 : ((K.size za : Int) != (K.size zb : Int)) = true := by have := HKS.out; rw [bne_iff_ne, this]; omega
  clear hs
  have t1 : decide ((2 : Int) < (za : Int)) = false := by simp; omega
  have t2 : decide ((2 : Int) < (zb : Int)) = false := by simp; omega
  go_wp2
  go_quiet (fail)
  go_wp2_with fail
  refine (HAW.out _ (below_drewN HB3.out _)).mono ?_
  rintro e w9 ⟨rfl, hb9⟩
  have HB9 : Hid (Below w.heap.size w w9) := HB.out.trans (((below_drewN HB3.out _).trans (hb9.mono (by have := HB3.out.size; simpa using this))).mono HB.out.size)
  clear hb9
  go_wp2
  go_ret
  exact ⟨rfl, HB9.out⟩

end Go.Proofs.YtndefnfknhjfkaaGreatDoor
