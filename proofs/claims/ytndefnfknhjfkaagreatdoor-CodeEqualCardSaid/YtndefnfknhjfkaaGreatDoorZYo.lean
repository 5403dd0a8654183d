/- CodeEqual: cells of the domains, rows of two. -/
import Derived.Test.YtndefnfknhjfkaaGreatDoorGs
namespace Go.Proofs.YtndefnfknhjfkaaGreatDoor
open Go.RowKit Go.Proofs.Osier

theorem ds3_size {w : World} {b n m : Nat} (hb : Blk w b 31 #[.string dA, .int .i64 n, .string dB, .int .i64 n, .string dC, .int .i64 m]) {K : Cd} (hk : K.size = szD (ds3 n m)) {i : Nat} (hi : i < 3) : w.cell? ⟨b, i * 2 + 1, none⟩ = some (.int .i64 (K.size i)) := by
  rw [hk]
  match i, hi with
  | 0, _ => exact hb.cell_of rfl
  | 1, _ => exact hb.cell_of rfl
  | 2, _ => exact hb.cell_of rfl

theorem ds3_le {n m : Nat} (h1 : n ≤ 16) (h2 : m ≤ 16) {K : Cd} (hk : K.size = szD (ds3 n m)) {i : Nat} (hi : i < 3) : K.size i ≤ 16 := by
  rw [hk]
  match i, hi with
  | 0, _ => exact h1
  | 1, _ => exact h1
  | 2, _ => exact h2

/-- Domains of one size are of one width. -/
theorem wd3_eq {n m : Nat} {i j : Nat} (hi : i < 3) (hj : j < 3) (h : szD (ds3 n m) i = szD (ds3 n m) j) : wdF (ds3 n m) i = wdF (ds3 n m) j := by
  have key : ∀ i, i < 3 → wdF (ds3 n m) i = widthN (szD (ds3 n m) i) := fun i hi => by
    match i, hi with
    | 0, _ => rfl
    | 1, _ => rfl
    | 2, _ => rfl
  rw [key i hi, key j hj, h]

/-- A row of two numbers in a block from b0 on. -/
theorem rowAbove2 {w : World} {g a b b0 : Nat} (h : Blk w g 3 #[.int .i64 a, .int .i64 b]) (hb : b0 ≤ g) : RowAbove b0 w (some ⟨g, 0, none⟩) [a, b] :=
  .inr ⟨g, _, rfl, hb, h, fun i x hx => by
    match i, hx with
    | 0, hx => simp at hx; subst hx; rfl
    | 1, hx => simp at hx; subst hx; rfl⟩

theorem cost_mid {l m : List Nat} {L : Nat} (h1 : l.length ≤ 4) (h2 : m.length ≤ 4) : cost (inRow (l ++ m)) L ≤ 255 := cost8 (by simp; omega)
theorem inRow_left {l m : List Nat} : ∀ u ∈ l, inRow (l ++ m) u = true := fun u hu => by unfold inRow; simp [hu]
theorem inRow_right {l m : List Nat} : ∀ u ∈ m, inRow (l ++ m) u = true := fun u hu => by unfold inRow; simp [hu]

end Go.Proofs.YtndefnfknhjfkaaGreatDoor
