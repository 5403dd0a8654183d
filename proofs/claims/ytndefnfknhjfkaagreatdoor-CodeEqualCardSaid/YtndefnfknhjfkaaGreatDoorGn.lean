/- Walks: which of two rows comes first. -/
import Derived.Test.YtndefnfknhjfkaaGreatDoorGd
import Derived.Test.YtndefnfknhjfkaaGreatDoorGa

/- slices.Compare of numbers: which of two rows comes first. -/
namespace Go.Proofs.YtndefnfknhjfkaaGreatDoor
open Go.RowKit Go.Proofs.Osier

theorem nan_any (a : Nat) (w : World) : Calls Tryz.prog 155 #[.int .i64 a] w fun e w' => e = .returned (.bool false) ∧ w = w' := by
  go_enter Tryz.func155, Tryz.ntmps155
  go_wp2
  go_ret
  exact ⟨rfl, rfl⟩

theorem cmp_lt {a b : Nat} (h : a < b) (w : World) : Calls Tryz.prog 101 #[.int .i64 a, .int .i64 b] w fun e w' => e = .returned (.int .i64 (-1)) ∧ w = w' := by
  have h1 : ¬ b < a := by omega
  go_enter Tryz.func101, Tryz.ntmps101
  go_wp2_with (go_at_call 155; refine (nan_any _ _).mono ?_; rintro e w' ⟨rfl, rfl⟩)
  go_ret
  exact ⟨rfl, rfl⟩

theorem cmp_gt {a b : Nat} (h : b < a) (w : World) : Calls Tryz.prog 101 #[.int .i64 a, .int .i64 b] w fun e w' => e = .returned (.int .i64 1) ∧ w = w' := by
  have h1 : ¬ a < b := by omega
  go_enter Tryz.func101, Tryz.ntmps101
  go_wp2_with (go_at_call 155; refine (nan_any _ _).mono ?_; rintro e w' ⟨rfl, rfl⟩)
  go_ret
  exact ⟨rfl, rfl⟩

theorem cmp_eq (a : Nat) (w : World) : Calls Tryz.prog 101 #[.int .i64 a, .int .i64 a] w fun e w' => e = .returned (.int .i64 0) ∧ w = w' := by
  go_enter Tryz.func101, Tryz.ntmps101
  go_wp2_with (go_at_call 155; refine (nan_any _ _).mono ?_; rintro e w' ⟨rfl, rfl⟩)
  go_ret
  exact ⟨rfl, rfl⟩

theorem drop_end (l : List Nat) {j : Nat} (h : l.length ≤ j) : l.drop j = [] := List.drop_eq_nil_of_le h

theorem drop_get {l : List Nat} {j x : Nat} (h : l[j]? = some x) : l.drop j = x :: l.drop (j + 1) := by
  obtain ⟨h1, h2⟩ := List.getElem?_eq_some_iff.1 h
  rw [List.drop_eq_getElem_cons h1, h2]

set_option maxHeartbeats 1000000 in
set_option maxRecDepth 100000 in
theorem compare_any {w : World} {p q : Option Addr} {l m : List Nat} (hl : RowIn w p l) (hm : RowIn w q m) (h1 : l.length ≤ 1000000) (h2 : m.length ≤ 1000000) (c d : Nat) :
    Calls Tryz.prog 52 #[.slice p l.length c, .slice q m.length d] w fun e w' => e = .returned (.int .i64 (Tup.cmpL l m)) ∧ w = w' := by
  have HL := Lib.hid hl
  have HM := Lib.hid hm
  obtain ⟨nl, hnl⟩ : ∃ n, n = l.length := ⟨_, rfl⟩
  obtain ⟨nm, hnm⟩ : ∃ n, n = m.length := ⟨_, rfl⟩
  rw [← hnl] at h1 ⊢
  rw [← hnm] at h2 ⊢
  have HNL := Lib.hid hnl
  have HNM := Lib.hid hnm
  clear hl hm hnl hnm
  obtain ⟨R, hR⟩ : ∃ R, R = Tup.cmpL l m := ⟨_, rfl⟩
  rw [← hR]
  have HR := Lib.hid hR
  clear hR
  go_enter Tryz.func52, Tryz.ntmps52
  go_wp2
  go_loop [11] (fun i => ∃ j : Nat, j ≤ nl ∧ j ≤ nm ∧ i = .int .i64 j ∧ Hid (R = Tup.cmpL (l.drop j) (m.drop j))) (fun i => nl - (intOf i).toNat)
  case atStart => exact ⟨0, by omega, by omega, rfl, HR⟩
  case round =>
    obtain ⟨j, hj, hj2, rfl, HC⟩ := hrel
    by_cases hlt : j < nl
    · obtain ⟨x, hx⟩ : ∃ x, l[j]? = some x := ⟨_, List.getElem?_eq_getElem (by rw [← HNL.out]; exact hlt)⟩
      obtain ⟨g, rfl, hcx, hg⟩ := HL.out.get hx
      have HX := Lib.hid hx
      clear hx
      by_cases hmt : j < nm
      · obtain ⟨y, hy⟩ : ∃ y, m[j]? = some y := ⟨_, List.getElem?_eq_getElem (by rw [← HNM.out]; exact hmt)⟩
        obtain ⟨g', rfl, hcy, hg'⟩ := HM.out.get hy
        have hcm : R = if x < y then -1 else if y < x then 1 else Tup.cmpL (l.drop (j + 1)) (m.drop (j + 1)) := by
          rw [HC.out, drop_get HX.out, drop_get hy]; rfl
        have HCM := Lib.hid hcm
        clear hy hcm HC
        rcases (show x < y ∨ y < x ∨ x = y by omega) with hxy | hxy | hxy
        · have hv : R = -1 := by rw [HCM.out, if_pos hxy]
          have HV := Lib.hid hv
          clear hv
          go_wp2_with (go_at_call 101; refine (cmp_lt hxy _).mono ?_; rintro e w' ⟨rfl, rfl⟩)
          go_ret
          exact ⟨by rw [HV.out]; rfl, rfl⟩
        · have hv : R = 1 := by rw [HCM.out, if_neg (by omega), if_pos hxy]
          have HV := Lib.hid hv
          clear hv
          go_wp2_with (go_at_call 101; refine (cmp_gt hxy _).mono ?_; rintro e w' ⟨rfl, rfl⟩)
          go_ret
          exact ⟨by rw [HV.out]; rfl, rfl⟩
        · subst hxy
          have hv : R = Tup.cmpL (l.drop (j + 1)) (m.drop (j + 1)) := by rw [HCM.out, if_neg (by omega), if_neg (by omega)]
          have HV := Lib.hid hv
          clear hv
          go_wp2_with (go_at_call 101; refine (cmp_eq x _).mono ?_; rintro e w' ⟨rfl, rfl⟩)
          go_round
          case rel => exact ⟨j + 1, by omega, by omega, by go_num, HV⟩
          case measure => simp [intOf]; omega
      · obtain rfl : j = nm := by omega
        have hv : R = 1 := by
          rw [HC.out, drop_get HX.out, drop_end m (by rw [← HNM.out]; exact Nat.le_refl _)]; rfl
        have HV := Lib.hid hv
        clear hv HC
        go_wp2
        go_ret
        exact ⟨by rw [HV.out]; rfl, rfl⟩
    · obtain rfl : j = nl := by omega
      by_cases hmt : j < nm
      · obtain ⟨y, hy⟩ : ∃ y, m[j]? = some y := ⟨_, List.getElem?_eq_getElem (by rw [← HNM.out]; exact hmt)⟩
        have hv : R = -1 := by
          rw [HC.out, drop_end l (by rw [← HNL.out]; exact Nat.le_refl _), drop_get hy]; rfl
        have HV := Lib.hid hv
        clear hv HC hy
        go_wp2
        go_ret
        exact ⟨by rw [HV.out]; rfl, rfl⟩
      · obtain rfl : j = nm := by omega
        have hv : R = 0 := by
          rw [HC.out, drop_end l (by rw [← HNL.out]; exact Nat.le_refl _), drop_end m (by rw [← HNM.out]; exact Nat.le_refl _)]; rfl
        have HV := Lib.hid hv
        clear hv HC
        go_wp2
        go_ret
        exact ⟨by rw [HV.out]; rfl, rfl⟩

end Go.Proofs.YtndefnfknhjfkaaGreatDoor
