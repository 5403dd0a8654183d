/- Equal of domains that are not, or are of unlike sizes. -/
import Derived.Test.YtndefnfknhjfkaaGreatDoorGq
namespace Go.Proofs.YtndefnfknhjfkaaGreatDoor
open Go.RowKit Go.Proofs.Osier

set_option maxHeartbeats 2000000 in
set_option maxRecDepth 100000 in
theorem Equal_bad2 {w : World} {c : Nat} {K : Cd} (hc : CodeAt w c K) (hn : K.n ≤ 32) {a b : Nat} (ha : a < K.n) (hb : b < K.n) (hs : K.size a ≠ K.size b) :
    Calls Tryz.prog 19 #[.pointer (some ⟨c, 0, none⟩), .int .i64 a, .int .i64 b] w fun e w' => e = .returned (.tuple #[.int .i64 0, .int .i64 1]) ∧ Below w.heap.size w w' := by
  have hcl := hc.code.lt
  obtain ⟨W, hW⟩ : ∃ W, W = ((w.alloc (.cells #[.pointer (some ⟨c, 0, none⟩)] 23)).alloc (.cells #[.int .i64 a] 3)).alloc (.cells #[.int .i64 b] 3) := ⟨_, rfl⟩
  have hB : Below w.heap.size w W := by
    rw [hW]
    exact (((Below.refl _ _).alloc (Nat.le_refl _) _).alloc (by simp) _).alloc (by simp; omega) _
  have k3 : Blk W w.heap.size 23 #[.pointer (some ⟨c, 0, none⟩)] := by rw [hW]; exact ((Blk.new w 23 _).alloc _).alloc _
  have k4 : Blk W (w.heap.size + 1) 3 #[.int .i64 a] := by
    rw [hW]
    have := Blk.new (w.alloc (.cells #[.pointer (some ⟨c, 0, none⟩)] 23)) 3 #[.int .i64 a]
    rw [show (w.alloc (.cells #[.pointer (some ⟨c, 0, none⟩)] 23)).heap.size = w.heap.size + 1 by simp] at this
    exact this.alloc _
  have k5 : Blk W (w.heap.size + 2) 3 #[.int .i64 b] := by
    rw [hW]
    have := Blk.new ((w.alloc (.cells #[.pointer (some ⟨c, 0, none⟩)] 23)).alloc (.cells #[.int .i64 a] 3)) 3 #[.int .i64 b]
    rw [show ((w.alloc (.cells #[.pointer (some ⟨c, 0, none⟩)] 23)).alloc (.cells #[.int .i64 a] 3)).heap.size = w.heap.size + 2 by simp] at this
    exact this
  obtain ⟨b3, h3⟩ : ∃ z, z = w.heap.size := ⟨_, rfl⟩
  obtain ⟨b4, h4⟩ : ∃ z, z = w.heap.size + 1 := ⟨_, rfl⟩
  obtain ⟨b5, h5⟩ : ∃ z, z = w.heap.size + 1 + 1 := ⟨_, rfl⟩
  rw [← h3] at k3
  rw [← h4] at k4
  rw [show w.heap.size + 2 = w.heap.size + 1 + 1 by omega, ← h5] at k5
  have hcW := hc.stays (.of_below hB)
  have q3 : W.cell? ⟨b3, 0, none⟩ = some (.pointer (some ⟨c, 0, none⟩)) := k3.cell_of rfl
  have q4 : W.cell? ⟨b4, 0, none⟩ = some (.int .i64 a) := k4.cell_of rfl
  have q5 : W.cell? ⟨b5, 0, none⟩ = some (.int .i64 b) := k5.cell_of rfl
  have c0 : W.cell? ⟨c, 0, none⟩ = some (.pointer (some ⟨K.q, 0, none⟩)) := hcW.code.cell_of rfl
  have c1 : W.cell? ⟨c, 1, none⟩ = some (.slice (some ⟨K.db, 0, none⟩) K.n K.dcap) := hcW.code.cell_of rfl
  have hbA : Below W.heap.size W (W.alloc (.cells #[.int .i64 a, .int .i64 b] 3)) := (Below.refl _ _).alloc (Nat.le_refl _) _
  have hHas := has_any (hcW.stays (.of_below hbA.drew)) [a, b] 2 (rowIn2 W a b) (by simp)
  have l3 := k3.lt
  have l4 := k4.lt
  have l5 := k5.lt
  have lc := hcW.code.lt
  have ld := hcW.doms.choose_spec.1.lt
  have HW := Lib.hid hW
  have H3 := Lib.hid h3
  have H4 := Lib.hid h4
  have H5 := Lib.hid h5
  have HB := Lib.hid hB
  have csa := hcW.size_cell ha
  have csb := hcW.size_cell hb
  have hall : ([a, b].all fun x => decide (x < K.n)) = true := by simp [ha, hb]
  rw [hall] at hHas
  have HH2 : Hid (Calls Tryz.prog 47 #[.pointer (some ⟨c, 0, none⟩), .slice (some ⟨W.heap.size, 0, none⟩) 2 2] (W.alloc (.cells #[.int .i64 a, .int .i64 b] 3)).drew fun e w' => e = .returned (.bool true) ∧ Below W.heap.size W w') :=
    hHas.mono fun e w' ⟨he, hb'⟩ => ⟨he, hbA.drew.trans (hb'.mono (by simp))⟩
  have hne : ((K.size a : Int) != (K.size b : Int)) = true := by rw [bne_iff_ne]; omega
  have hne2 : ((K.size a : Int) == (K.size b : Int)) = false := by rw [beq_eq_false_iff_ne]; omega
  clear hc hcl hW hB k3 k4 k5 h3 h4 h5 hcW hHas hall hs
  go_enter Tryz.func19, Tryz.ntmps19
  go_wp2
  rw [← HW.out, ← H5.out, ← H4.out, ← H3.out]
  go_region_held3 (fun w' => w'.cell? ⟨b3, 0, none⟩ = some (.pointer (some ⟨c, 0, none⟩)) ∧ w'.cell? ⟨b4, 0, none⟩ = some (.int .i64 a) ∧ w'.cell? ⟨b5, 0, none⟩ = some (.int .i64 b) ∧ w'.cell? ⟨c, 0, none⟩ = some (.pointer (some ⟨K.q, 0, none⟩)) ∧ w'.cell? ⟨c, 1, none⟩ = some (.slice (some ⟨K.db, 0, none⟩) K.n K.dcap) ∧ w'.cell? ⟨K.db, a * 2 + 1, none⟩ = some (.int .i64 (K.size a)) ∧ w'.cell? ⟨K.db, b * 2 + 1, none⟩ = some (.int .i64 (K.size b)))
    (first | exact ⟨q3, q4, q5, c0, c1, csa, csb⟩ | exact ⟨(hbA.cell (p := ⟨b3, 0, none⟩) l3).trans q3, (hbA.cell (p := ⟨b4, 0, none⟩) l4).trans q4, (hbA.cell (p := ⟨b5, 0, none⟩) l5).trans q5, (hbA.cell (p := ⟨c, 0, none⟩) lc).trans c0, (hbA.cell (p := ⟨c, 1, none⟩) lc).trans c1, (hbA.cell (p := ⟨K.db, a * 2 + 1, none⟩) ld).trans csa, (hbA.cell (p := ⟨K.db, b * 2 + 1, none⟩) ld).trans csb⟩ | exact ⟨(hb2.cell (p := ⟨b3, 0, none⟩) l3).trans q3, (hb2.cell (p := ⟨b4, 0, none⟩) l4).trans q4, (hb2.cell (p := ⟨b5, 0, none⟩) l5).trans q5, (hb2.cell (p := ⟨c, 0, none⟩) lc).trans c0, (hb2.cell (p := ⟨c, 1, none⟩) lc).trans c1, (hb2.cell (p := ⟨K.db, a * 2 + 1, none⟩) ld).trans csa, (hb2.cell (p := ⟨K.db, b * 2 + 1, none⟩) ld).trans csb⟩)
    (first | (go_at_call 47; refine HH2.out.mono ?_; rintro e w2 ⟨rfl, hb2⟩))
  go_wp2
  go_ret2
  exact ⟨rfl, HB.out.trans (hb2.mono HB.out.size)⟩

end Go.Proofs.YtndefnfknhjfkaaGreatDoor
