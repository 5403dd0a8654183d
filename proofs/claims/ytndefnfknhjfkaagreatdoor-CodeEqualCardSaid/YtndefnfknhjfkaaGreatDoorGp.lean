/- Walks: whether rows are the same. -/
import Derived.Test.YtndefnfknhjfkaaGreatDoorGm
import Derived.Deep.QuietTactic
import Derived.BigQuiet

/- SameInts, SameRows: whether rows of numbers are the same. -/
namespace Go.Proofs.YtndefnfknhjfkaaGreatDoor
open Go.RowKit Go.Proofs.Osier

theorem RowIn.drewN {w : World} {p : Option Addr} {l : List Nat} (h : RowIn w p l) (n : Nat) : RowIn (w.drewN n) p l := h.stays (.of_below (below_drewN (Below.refl _ _) n))

/-- Rows of numbers, wherever they stand. -/
def RowsIn (w : World) (p : Option Addr) (rows : List (List Nat)) : Prop := rows = [] ∨ ∃ (g : Nat) (cur : Array Value), p = some ⟨g, 0, none⟩ ∧ Blk w g 34 cur ∧ ∀ (j : Nat) row, rows[j]? = some row → ∃ pr cap, cur[j]? = some (.slice pr row.length cap) ∧ RowIn w pr row

theorem RowsIn.stays {w w' : World} {p : Option Addr} {rows : List (List Nat)} (h : RowsIn w p rows) (k : Stays w w') : RowsIn w' p rows := by
  rcases h with h | ⟨g, cur, h1, h2, h3⟩
  · exact .inl h
  · exact .inr ⟨g, cur, h1, k.blk _ _ _ rfl h2, fun j row hj => by obtain ⟨pr, cap, a, b⟩ := h3 j row hj; exact ⟨pr, cap, a, b.stays k⟩⟩
theorem RowsIn.drewN {w : World} {p : Option Addr} {rows : List (List Nat)} (h : RowsIn w p rows) (n : Nat) : RowsIn (w.drewN n) p rows := h.stays (.of_below (below_drewN (Below.refl _ _) n))
theorem RowsIn.below {w w' : World} {p : Option Addr} {rows : List (List Nat)} (h : RowsIn w p rows) (k : Below w.heap.size w w') : RowsIn w' p rows := h.stays (.of_below k)

theorem RowsIn.get {w : World} {p : Option Addr} {rows : List (List Nat)} (h : RowsIn w p rows) {j : Nat} {row : List Nat} (hj : rows[j]? = some row) :
    ∃ g pr cap, p = some ⟨g, 0, none⟩ ∧ w.cell? ⟨g, j, none⟩ = some (.slice pr row.length cap) ∧ RowIn w pr row ∧ g < w.heap.size := by
  rcases h with h | ⟨g, cur, h1, h2, h3⟩
  · subst h; simp at hj
  · obtain ⟨pr, cap, a, b⟩ := h3 j row hj
    exact ⟨g, pr, cap, h1, h2.cell_of a, b, h2.lt⟩

theorem rowsIn_own {w : World} {base n : Nat} {p : Option Addr} {cap : Nat} {vs : List Value} {rows : List (List Nat)} (ho : w.ownsRow base 34 1 (.slice p n cap) n vs) (hr : RowsAbove base w vs rows) : RowsIn w p rows := by
  rcases ho.2 with ⟨e, hz⟩ | ⟨g, c, cur, e1, e2, e3, q1, q2, q3, q4⟩
  · have h1 := ho.1
    have h2 := hr.1
    refine .inl (List.eq_nil_of_length_eq_zero ?_)
    omega
  · injection e1 with e1
    refine .inr ⟨g, cur, e1, e3, fun j row hj => ?_⟩
    obtain ⟨pr, capr, h1, h2⟩ := hr.2 j row hj
    refine ⟨pr, capr, ?_, h2.row⟩
    have h8 := (List.getElem?_eq_some_iff.1 h1).1
    have h7 := ho.1
    have h9 := congrArg (fun q => q[j]?) q4
    simp only [List.getElem?_take] at h9
    rw [if_pos (by omega), Array.getElem?_toList, h1] at h9
    exact h9

theorem take_snoc_eq {α : Type} {l m : List α} {j : Nat} {x : α} (h : l.take j = m.take j) (hl : l[j]? = some x) (hm : m[j]? = some x) : l.take (j + 1) = m.take (j + 1) := by
  rw [List.take_add_one, List.take_add_one, h, hl, hm]

theorem ne_of_get {α : Type} {l m : List α} {j : Nat} {x y : α} (hl : l[j]? = some x) (hm : m[j]? = some y) (h : x ≠ y) : l ≠ m := by
  rintro rfl
  rw [hl] at hm
  injection hm with hm
  exact h hm

set_option maxHeartbeats 1000000 in
set_option maxRecDepth 100000 in
theorem sameInts_any {w : World} {p q : Option Addr} {l m : List Nat} (hl : RowIn w p l) (hm : RowIn w q m) (h1 : l.length ≤ 1000000) (h2 : m.length ≤ 1000000) (c d : Nat) :
    Calls Tryz.prog 26 #[.slice p l.length c, .slice q m.length d] w fun e w' => e = .returned (.bool (decide (l = m))) ∧ ∃ n, w' = w.drewN n := by
  have HL := Lib.hid hl
  have HM := Lib.hid hm
  obtain ⟨nl, hnl⟩ : ∃ n, n = l.length := ⟨_, rfl⟩
  obtain ⟨nm, hnm⟩ : ∃ n, n = m.length := ⟨_, rfl⟩
  obtain ⟨R, hR⟩ : ∃ R, R = decide (l = m) := ⟨_, rfl⟩
  rw [← hnl] at h1 ⊢
  rw [← hnm] at h2 ⊢
  rw [← hR]
  have HNL := Lib.hid hnl
  have HNM := Lib.hid hnm
  have HR := Lib.hid hR
  clear hl hm hnl hnm hR
  by_cases hlen : nl = nm
  · subst hlen
    go_enter Tryz.func26, Tryz.ntmps26
    go_wp2
    go_loopw [5] (fun i wr => ∃ j : Nat, j ≤ nl ∧ i = .int .i64 j ∧ Hid (l.take j = m.take j) ∧ RowIn wr p l ∧ RowIn wr q m ∧ Hid (∃ n, wr = w.drewN n)) (fun i _ => nl - (intOf i).toNat)
    case atStart => exact ⟨0, by omega, rfl, rfl, HL.out, HM.out, ⟨0, rfl⟩⟩
    case round =>
      obtain ⟨j, hj, rfl, HT, hl, hm, HW⟩ := hrel
      by_cases hlt : j < nl
      · obtain ⟨x, hx⟩ : ∃ x, l[j]? = some x := ⟨_, List.getElem?_eq_getElem (by rw [← HNL.out]; exact hlt)⟩
        obtain ⟨y, hy⟩ : ∃ y, m[j]? = some y := ⟨_, List.getElem?_eq_getElem (by rw [← HNM.out]; exact hlt)⟩
        obtain ⟨g, rfl, hcx, hg⟩ := hl.get hx
        obtain ⟨g', rfl, hcy, hg'⟩ := hm.get hy
        have HX := Lib.hid hx
        have HY := Lib.hid hy
        have HL' := Lib.hid hl
        have HM' := Lib.hid hm
        clear hx hy hl hm
        by_cases hxy : x = y
        · subst hxy
          have hb : ((x : Int) != (x : Int)) = false := by simp
          go_wp2
          go_quiet (fail)
          go_wp2
          go_roundw
          case rel => exact ⟨j + 1, by omega, by go_num, take_snoc_eq HT.out HX.out HY.out, HL'.out.drewN _, HM'.out.drewN _, by obtain ⟨n, hn⟩ := HW.out; exact ⟨_, by rw [hn, World.drewN_drewN]⟩⟩
          case measure => simp [intOf]; omega
        · have hb : ((x : Int) != (y : Int)) = true := by simp; omega
          have hb2 : ((x : Int) == (y : Int)) = false := by simp; omega
          have hv : R = false := by rw [HR.out]; exact decide_eq_false (ne_of_get HX.out HY.out hxy)
          have HV := Lib.hid hv
          clear hv
          go_wp2
          go_quiet (fail)
          go_wp2
          go_ret
          exact ⟨by rw [HV.out]; rfl, by obtain ⟨n, hn⟩ := HW.out; exact ⟨_, by rw [hn, World.drewN_drewN]⟩⟩
      · obtain rfl : j = nl := by omega
        have hv : R = true := by
          rw [HR.out]
          refine decide_eq_true ?_
          have h3 := HT.out
          rw [List.take_of_length_le (by rw [← HNL.out]; exact Nat.le_refl _), List.take_of_length_le (by rw [← HNM.out]; exact Nat.le_refl _)] at h3
          exact h3
        have HV := Lib.hid hv
        clear hv hl hm
        go_wp2
        go_ret
        exact ⟨by rw [HV.out]; rfl, HW.out⟩
  · have hb : ((nl : Int) == (nm : Int)) = false := by rw [beq_eq_false_iff_ne]; omega
    have hb2 : ((nl : Int) != (nm : Int)) = true := by rw [bne_iff_ne]; omega
    have hv : R = false := by
      rw [HR.out]
      refine decide_eq_false ?_
      rintro rfl
      exact hlen (HNL.out.trans HNM.out.symm)
    have HV := Lib.hid hv
    clear hv
    go_enter Tryz.func26, Tryz.ntmps26
    go_wp2
    go_ret
    exact ⟨by rw [HV.out]; rfl, 0, rfl⟩

end Go.Proofs.YtndefnfknhjfkaaGreatDoor
