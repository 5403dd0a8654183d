/- CodeEqual: the walk, all cases. -/
import Derived.Test.YtndefnfknhjfkaaGreatDoorZYp
import Derived.Test.YtndefnfknhjfkaaGreatDoorZYq
import Derived.Test.YtndefnfknhjfkaaGreatDoorZYr
import Derived.Test.YtndefnfknhjfkaaGreatDoorZYs
namespace Go.Proofs.YtndefnfknhjfkaaGreatDoor
open Go.RowKit Go.Proofs.Osier

theorem equal_any {w : World} {mx : Int} (hml : w.cell? ⟨0, 0, none⟩ = some (.int .i64 mx)) (hw0 : 0 < w.heap.size) (s0 s1 o a0 a1 : Int) :
    Calls Tryz.prog 4 #[.agg #[.int .i64 s0, .int .i64 s1], .int .i64 o, .agg #[.int .i64 a0, .int .i64 a1]] w fun e w' => e = .returned (.bool true) ∧ Below w.heap.size w w' := by
  obtain ⟨z0, hz0, e0⟩ := and_le s0 15 (by omega)
  obtain ⟨z1, hz1, e1⟩ := and_le s1 15 (by omega)
  obtain ⟨za, hza, ea⟩ := and_le a0 3 (by omega)
  obtain ⟨zb, hzb, eb⟩ := and_le a1 3 (by omega)
  rcases Nat.lt_or_ge za 3 with hx | hx
  · rcases Nat.lt_or_ge zb 3 with hy | hy
    · by_cases hs : szD (ds3 (z0 + 1) (z1 + 1)) za = szD (ds3 (z0 + 1) (z1 + 1)) zb
      · by_cases hxy : za = zb
        · exact equal_d hml hw0 s0 s1 o a0 a1 hz0 hz1 e0 e1 ea eb hx hxy
        · exact equal_e hml hw0 s0 s1 o a0 a1 hz0 hz1 e0 e1 ea eb hx hy hxy hs
      · exact equal_c hml hw0 s0 s1 o a0 a1 hz0 hz1 e0 e1 ea eb hx hy hs
    · exact equal_b hml hw0 s0 s1 o a0 a1 hz0 hz1 e0 e1 ea eb hx hy
  · exact equal_a hml hw0 s0 s1 o a0 a1 hz0 hz1 e0 e1 ea eb hx

end Go.Proofs.YtndefnfknhjfkaaGreatDoor
