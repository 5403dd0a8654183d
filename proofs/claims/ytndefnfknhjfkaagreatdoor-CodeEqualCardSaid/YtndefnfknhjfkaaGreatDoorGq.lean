/- Walks: equal values of two domains. -/
import Derived.Test.YtndefnfknhjfkaaGreatDoorGh
import Derived.Test.YtndefnfknhjfkaaGreatDoorGm
import Derived.Deep.QuietTactic
import Derived.BigQuiet
import Derived.Test.YtndefnfknhjfkaaGreatDoorGa
import Derived.Laws.EntriesVeiled

/- Equal. -/
namespace Go.Proofs.YtndefnfknhjfkaaGreatDoor
open Go.RowKit Go.Proofs.Osier

theorem info91 : (Tryz.prog.info? 91).map (fun i => (i.zero, i.size, i.bytes)) = some (some .nilFunc, 1, 8) := by kernel_rfl

theorem agree_cons (x y : Nat) (l m : List Nat) (n : Nat) (e : Env) : agree (x :: l) (y :: m) (n + 1) e = ((e x == e y) && agree l m n e) := by
  unfold agree
  rw [List.range_succ_eq_map, List.all_cons, List.all_map]
  rfl

theorem agree_num : ∀ (l m : List Nat) (e : Env), l.length = m.length → agree l m l.length e = decide (num l e = num m e)
  | [], [], _, _ => rfl
  | [], _ :: _, _, h => by simp at h
  | _ :: _, [], _, h => by simp at h
  | x :: l, y :: m, e, h => by
    rw [List.length_cons, agree_cons, agree_num l m e (by simpa using h)]
    have h1 : (e x).toNat ≤ 1 := by cases e x <;> simp
    have h2 : (e y).toNat ≤ 1 := by cases e y <;> simp
    have key : (e x = e y ∧ num l e = num m e) ↔ num (x :: l) e = num (y :: m) e := by
      simp only [num]
      constructor
      · rintro ⟨a, b⟩; rw [a, b]
      · intro hh
        refine ⟨?_, by omega⟩
        have h3 : (e x).toNat = (e y).toNat := by omega
        revert h3
        cases e x <;> cases e y <;> simp
    rw [Bool.eq_iff_iff]
    simpa using key

theorem eqVal_more (b3 b4 b5 b8 : Nat) (bj : Nat → Nat) (j q : Nat) : (List.range (j + 1 + 1)).map (eqVal b3 b4 b5 b8 (fun i => if i = j then q else bj i)) = (List.range (j + 1)).map (eqVal b3 b4 b5 b8 bj) ++ [.func (.func 54) #[] #[.pointer (some ⟨b3, 0, none⟩), .pointer (some ⟨b4, 0, none⟩), .pointer (some ⟨q, 0, none⟩), .pointer (some ⟨b5, 0, none⟩), .pointer (some ⟨b8, 0, none⟩)]] := by
  rw [List.range_succ, List.map_append]
  congr 1
  · apply List.map_congr_left
    intro i hi
    rw [List.mem_range] at hi
    rcases i with _ | i
    · rfl
    · simp only [eqVal]
      rw [if_neg (by omega)]
  · simp [eqVal]

/-- Two domains have the same value, one that may be. -/
def eqF (K : Cd) (a b : Nat) (e : Env) : Bool := decide (num (K.at_ a) e < K.size a) && decide (num (K.at_ a) e = num (K.at_ b) e)

theorem rowIn2 (w : World) (a b : Nat) : RowIn (w.alloc (.cells #[.int .i64 a, .int .i64 b] 3)) (some ⟨w.heap.size, 0, none⟩) [a, b] :=
  .inr ⟨_, _, rfl, Blk.new w 3 _, fun i x h => by
    match i, h with
    | 0, h => simp at h; subst h; rfl
    | 1, h => simp at h; subst h; rfl⟩

set_option maxHeartbeats 2000000 in
set_option maxRecDepth 100000 in
theorem Equal_good {h : Key → Nat} (H : IsHash h) {w : World} {c : Nat} {K : Cd} (hc : CodeAt w c K) {F : List Nat} {s : St} (t : Opr h w K.op K.st F s) (ok : CdOk K s.vars) {a b L B : Nat} (ha : a < K.n) (hb : b < K.n) (hs : K.size a = K.size b) (hl : (K.at_ a).length = (K.at_ b).length)
    {p : Nat → Bool} (pa : ∀ u ∈ K.at_ a, p u = true) (pb : ∀ u ∈ K.at_ b, p u = true) (r : Ready s L B (accN K a L p ((K.at_ a).length + 1))) :
    Calls Tryz.prog 19 #[.pointer (some ⟨c, 0, none⟩), .int .i64 a, .int .i64 b] w (OpP h K.op K.st F s L (accN K a L p ((K.at_ a).length + 1)) (eqF K a b) w) := by
  have hcl := hc.code.lt
  obtain ⟨W, hW⟩ : ∃ W, W = ((w.alloc (.cells #[.pointer (some ⟨c, 0, none⟩)] 23)).alloc (.cells #[.int .i64 a] 3)).alloc (.cells #[.int .i64 b] 3) := ⟨_, rfl⟩
  have hB : Below w.heap.size w W := by
    rw [hW]
    exact (((Below.refl _ _).alloc (Nat.le_refl _) _).alloc (by simp) _).alloc (by simp; omega) _
  have k3 : Blk W w.heap.size 23 #[.pointer (some ⟨c, 0, none⟩)] := by rw [hW]; exact ((Blk.new w 23 _).alloc _).alloc _
  have k4 : Blk W (w.heap.size + 1) 3 #[.int .i64 a] := by
    rw [hW]
    have := Blk.new (w.alloc (.cells #[.pointer (some ⟨c, 0, none⟩)] 23)) 3 #[.int .i64 a]
    rw [show (w.alloc (.cells #[.pointer (some ⟨c, 0, none⟩)] 23)).heap.size = w.heap.size + 1 by simp] at this
    exact this.alloc _
  have k5 : Blk W (w.heap.size + 2) 3 #[.int .i64 b] := by
    rw [hW]
    have := Blk.new ((w.alloc (.cells #[.pointer (some ⟨c, 0, none⟩)] 23)).alloc (.cells #[.int .i64 a] 3)) 3 #[.int .i64 b]
    rw [show ((w.alloc (.cells #[.pointer (some ⟨c, 0, none⟩)] 23)).alloc (.cells #[.int .i64 a] 3)).heap.size = w.heap.size + 2 by simp] at this
    exact this
  obtain ⟨b3, h3⟩ : ∃ z, z = w.heap.size := ⟨_, rfl⟩
  obtain ⟨b4, h4⟩ : ∃ z, z = w.heap.size + 1 := ⟨_, rfl⟩
  obtain ⟨b5, h5⟩ : ∃ z, z = w.heap.size + 1 + 1 := ⟨_, rfl⟩
  rw [← h3] at k3
  rw [← h4] at k4
  rw [show w.heap.size + 2 = w.heap.size + 1 + 1 by omega, ← h5] at k5
  have hcW := hc.stays (.of_below hB)
  have tW := t.below hB
  have q3 : W.cell? ⟨b3, 0, none⟩ = some (.pointer (some ⟨c, 0, none⟩)) := k3.cell_of rfl
  have q4 : W.cell? ⟨b4, 0, none⟩ = some (.int .i64 a) := k4.cell_of rfl
  have q5 : W.cell? ⟨b5, 0, none⟩ = some (.int .i64 b) := k5.cell_of rfl
  have c0 : W.cell? ⟨c, 0, none⟩ = some (.pointer (some ⟨K.q, 0, none⟩)) := hcW.code.cell_of rfl
  have c1 : W.cell? ⟨c, 1, none⟩ = some (.slice (some ⟨K.db, 0, none⟩) K.n K.dcap) := hcW.code.cell_of rfl
  have csa := hcW.size_cell ha
  have csb := hcW.size_cell hb
  rw [← hs] at csb
  have hfew := ok.few
  have HW := Lib.hid hW
  have H3 := Lib.hid h3
  have H4 := Lib.hid h4
  have H5 := Lib.hid h5
  have hH2 : Calls Tryz.prog 47 #[.pointer (some ⟨c, 0, none⟩), .slice (some ⟨W.heap.size, 0, none⟩) 2 2] (W.alloc (.cells #[.int .i64 a, .int .i64 b] 3)).drew fun e w' => e = .returned (.bool true) ∧ Below W.heap.size W w' := by
    have hb2 : Below W.heap.size W (W.alloc (.cells #[.int .i64 a, .int .i64 b] 3)).drew := ((Below.refl _ _).alloc (Nat.le_refl _) _).drew
    have h1 := has_any (hcW.stays (.of_below hb2)) [a, b] 2 (rowIn2 W a b) (by simp)
    have hall : ([a, b].all fun x => decide (x < K.n)) = true := by simp [ha, hb]
    rw [hall] at h1
    exact h1.mono fun e w' ⟨he, hb'⟩ => ⟨he, hb2.trans (hb'.mono (by simp))⟩
  have HH2 := Lib.hid hH2
  clear hH2
  have hne : ((K.size a : Int) != (K.size a : Int)) = false := by simp
  have l3 := k3.lt
  have l4 := k4.lt
  have l5 := k5.lt
  have lc := hcW.code.lt
  have ld := hcW.doms.choose_spec.1.lt
  have HCW := Lib.hid hcW
  have HTW := Lib.hid tW
  have HB := Lib.hid hB
  have HOK := Lib.hid ok
  have HS := Lib.hid hs
  have HLL := Lib.hid hl
  have HPA := Lib.hid pa
  have HPB := Lib.hid pb
  have HR := Lib.hid r
  have K3 := Lib.hid k3
  have K4 := Lib.hid k4
  have K5 := Lib.hid k5
  clear hc t ok hs hl pa pb r hcl hW hB k3 k4 k5 h3 h4 h5 hcW tW
  go_enter Tryz.func19, Tryz.ntmps19
  go_wp2
  rw [← HW.out, ← H5.out, ← H4.out, ← H3.out]
  have hbA : Below W.heap.size W (W.alloc (.cells #[.int .i64 a, .int .i64 b] 3)) := (Below.refl _ _).alloc (Nat.le_refl _) _
  go_region_held3 (fun w' => w'.cell? ⟨b3, 0, none⟩ = some (.pointer (some ⟨c, 0, none⟩)) ∧ w'.cell? ⟨b4, 0, none⟩ = some (.int .i64 a) ∧ w'.cell? ⟨b5, 0, none⟩ = some (.int .i64 b) ∧ w'.cell? ⟨c, 0, none⟩ = some (.pointer (some ⟨K.q, 0, none⟩)) ∧ w'.cell? ⟨c, 1, none⟩ = some (.slice (some ⟨K.db, 0, none⟩) K.n K.dcap) ∧ w'.cell? ⟨K.db, a * 2 + 1, none⟩ = some (.int .i64 (K.size a)) ∧ w'.cell? ⟨K.db, b * 2 + 1, none⟩ = some (.int .i64 (K.size a)))
    (first | exact ⟨q3, q4, q5, c0, c1, csa, csb⟩ | exact ⟨(hbA.cell (p := ⟨b3, 0, none⟩) l3).trans q3, (hbA.cell (p := ⟨b4, 0, none⟩) l4).trans q4, (hbA.cell (p := ⟨b5, 0, none⟩) l5).trans q5, (hbA.cell (p := ⟨c, 0, none⟩) lc).trans c0, (hbA.cell (p := ⟨c, 1, none⟩) lc).trans c1, (hbA.cell (p := ⟨K.db, a * 2 + 1, none⟩) ld).trans csa, (hbA.cell (p := ⟨K.db, b * 2 + 1, none⟩) ld).trans csb⟩ | exact ⟨(hb2.cell (p := ⟨b3, 0, none⟩) l3).trans q3, (hb2.cell (p := ⟨b4, 0, none⟩) l4).trans q4, (hb2.cell (p := ⟨b5, 0, none⟩) l5).trans q5, (hb2.cell (p := ⟨c, 0, none⟩) lc).trans c0, (hb2.cell (p := ⟨c, 1, none⟩) lc).trans c1, (hb2.cell (p := ⟨K.db, a * 2 + 1, none⟩) ld).trans csa, (hb2.cell (p := ⟨K.db, b * 2 + 1, none⟩) ld).trans csb⟩)
    (first | (go_at_call 47; refine HH2.out.mono ?_; rintro e w2 ⟨rfl, hb2⟩))
  have l32 := Nat.lt_of_lt_of_le l3 hb2.size
  have l42 := Nat.lt_of_lt_of_le l4 hb2.size
  have l52 := Nat.lt_of_lt_of_le l5 hb2.size
  have HC2 := Lib.hid (HCW.out.stays (.of_below hb2))
  have HT2 := Lib.hid (HTW.out.below hb2)
  have x3 : Blk w2 b3 23 #[.pointer (some ⟨c, 0, none⟩)] := K3.out.below hb2 l3
  have x4 : Blk w2 b4 3 #[.int .i64 a] := K4.out.below hb2 l4
  have x5 : Blk w2 b5 3 #[.int .i64 b] := K5.out.below hb2 l5
  have y3 := x3.cell_of (i := 0) rfl
  have y4 := x4.cell_of (i := 0) rfl
  have y5 := x5.cell_of (i := 0) rfl
  have y0 : w2.cell? ⟨c, 0, none⟩ = some (.pointer (some ⟨K.q, 0, none⟩)) := HC2.out.code.cell_of rfl
  have HQ2 := Lib.hid (quan_ops HC2.out.quan)
  have X3 := Lib.hid x3
  have X4 := Lib.hid x4
  have X5 := Lib.hid x5
  have HB2 := Lib.hid hb2
  clear hb2 x3 x4 x5 q3 q4 q5 c0 c1 csa csb hbA
  have hmf : ∀ (fn : Fn) (first cap : Array Value) (w : World), (Instr.makeFunc fn first cap).run Tryz.prog w = .ok (.func fn first cap) w := fun _ _ _ _ => rfl
  go_wp2_with (go_at_call 22; refine HQ2.out.mono ?_; rintro e w' ⟨rfl, rfl⟩)
  obtain ⟨b8, h8⟩ : ∃ z, z = w2.heap.size := ⟨_, rfl⟩
  obtain ⟨W3, hW3⟩ : ∃ W3, W3 = (w2.alloc (.cells #[.pointer (some ⟨K.op, 0, none⟩)] 43)).alloc (.cells #[.func (.func 53) #[] #[.pointer (some ⟨b3, 0, none⟩), .pointer (some ⟨b4, 0, none⟩)]] 91) := ⟨_, rfl⟩
  have hB3 : Below b8 w2 W3 := by
    rw [hW3, h8]
    exact ((Below.refl _ _).alloc (Nat.le_refl _) _).alloc (by simp) _
  have x8 : Blk W3 b8 43 #[.pointer (some ⟨K.op, 0, none⟩)] := by rw [hW3, h8]; exact (Blk.new w2 43 _).alloc _
  have own3 : W3.ownsRow b8 91 1 (.slice (some ⟨b8 + 1, 0, none⟩) 1 1) 1 ((List.range (0 + 1)).map (eqVal b3 b4 b5 b8 (fun _ => 0))) := by
    refine ⟨rfl, .inr ⟨b8 + 1, 1, #[.func (.func 53) #[] #[.pointer (some ⟨b3, 0, none⟩), .pointer (some ⟨b4, 0, none⟩)]], rfl, by omega, ?_, Nat.le_refl _, by unfold maxLen; omega, rfl, rfl⟩⟩
    rw [hW3, h8]
    have := heap_alloc_new (w2.alloc (.cells #[.pointer (some ⟨K.op, 0, none⟩)] 43)) (.cells #[.func (.func 53) #[] #[.pointer (some ⟨b3, 0, none⟩), .pointer (some ⟨b4, 0, none⟩)]] 91)
    rw [show (w2.alloc (.cells #[.pointer (some ⟨K.op, 0, none⟩)] 43)).heap.size = w2.heap.size + 1 by simp] at this
    exact this
  rw [← hW3, ← h8]
  have H8 := Lib.hid h8
  have HW3 := Lib.hid hW3
  have l38 : b3 < b8 := by rw [h8]; exact l32
  have l48 : b4 < b8 := by rw [h8]; exact l42
  have l58 : b5 < b8 := by rw [h8]; exact l52
  clear h8 hW3 l32 l42 l52 y3 y4 y5 y0
  obtain ⟨m, hm⟩ : ∃ m, m = (K.at_ a).length := ⟨_, rfl⟩
  have HM := Lib.hid hm
  have hm16 : m ≤ 16 := by rw [hm]; exact HOK.out.width a ha
  have hC3 := HC2.out.stays (.of_below (by rw [← H8.out]; exact hB3))
  have y3 : W3.cell? ⟨b3, 0, none⟩ = some (.pointer (some ⟨c, 0, none⟩)) := (X3.out.below hB3 l38).cell_of rfl
  have y4 : W3.cell? ⟨b4, 0, none⟩ = some (.int .i64 a) := (X4.out.below hB3 l48).cell_of rfl
  have c2 : W3.cell? ⟨c, 2, none⟩ = some (.slice (some ⟨K.ab, 0, none⟩) K.n K.acap) := hC3.code.cell_of rfl
  have ca := hC3.at_cell ha
  rw [← hm] at ca
  have OWN3 := Lib.hid own3
  have X8 := Lib.hid x8
  have HB3 := Lib.hid hB3
  clear own3 x8 hB3 hC3 hm
  go_quiet (fail)
  generalize hW4 : W3.drewN _ = W4
  have HB4 : Hid (Below b8 w2 W4) := by rw [← hW4]; exact below_drewN HB3.out _
  have X84 : Hid (Blk W4 b8 43 #[.pointer (some ⟨K.op, 0, none⟩)]) := by rw [← hW4]; exact X8.out.drewN _
  have OWN4 : Hid (W4.ownsRow b8 91 1 (.slice (some ⟨b8 + 1, 0, none⟩) 1 1) 1 ((List.range (0 + 1)).map (eqVal b3 b4 b5 b8 (fun _ => 0)))) := by rw [← hW4]; exact ownsRow_heap rfl OWN3.out
  clear hW4 y3 y4 c2 ca
  go_wp2
  obtain ⟨i0, hi0, hz0, hz1, hz2⟩ := info_parts info91
  go_loopg [9, 62] m (fun g l i wr => ∃ (j : Nat) (bj : Nat → Nat), g = m - j ∧ j ≤ m ∧ i = .int .i64 j ∧ wr.ownsRow b8 91 1 l (j + 1) ((List.range (j + 1)).map (eqVal b3 b4 b5 b8 bj)) ∧ Hid (∀ i, i < j → Blk wr (bj i) 3 #[.int .i64 i]) ∧ Blk wr b8 43 #[.pointer (some ⟨K.op, 0, none⟩)] ∧ Below b8 w2 wr ∧ (a = b → j = 0))
  case atStart => exact ⟨0, fun _ => 0, rfl, by omega, rfl, OWN4.out, fun i hi => absurd hi (by omega), X84.out, HB4.out, fun _ => rfl⟩
  case round =>
    obtain ⟨j, bj, hg, hj, rfl, hown, HKJ, h8r, hbl, hab⟩ := hrel
    have HG := Lib.hid hg
    have HOWN := Lib.hid hown
    have H8R := Lib.hid h8r
    have HBL := Lib.hid hbl
    have HAB := Lib.hid hab
    have y3 : wr.cell? ⟨b3, 0, none⟩ = some (.pointer (some ⟨c, 0, none⟩)) := (X3.out.below hbl l38).cell_of rfl
    have y4 : wr.cell? ⟨b4, 0, none⟩ = some (.int .i64 a) := (X4.out.below hbl l48).cell_of rfl
    have y5 : wr.cell? ⟨b5, 0, none⟩ = some (.int .i64 b) := (X5.out.below hbl l58).cell_of rfl
    have hbz := hbl.size
    have l3r : b3 < wr.heap.size := by have := H8.out; omega
    have l4r : b4 < wr.heap.size := by have := H8.out; omega
    have l5r : b5 < wr.heap.size := by have := H8.out; omega
    clear hg h8r hbl hab
    by_cases hgo : j < m ∧ a ≠ b
    · obtain ⟨hjm, hne2⟩ := hgo
      have hbe : ((a : Int) == (b : Int)) = false := by rw [beq_eq_false_iff_ne]; omega
      go_wp2_with (at_builtin; refine wpList_append_own_at _ rfl _ _ 92 rfl b8 91 i0 .nilFunc 1 8 Tryz.underlying92 hi0 hz0 hz1 hz2 rfl (by decide) _ _ _ rfl ((hown.alloc _).alloc _) ⟨wr.heap.size + 1, 0, none⟩ 1 1 [.func (.func 54) #[] #[.pointer (some ⟨b3, 0, none⟩), .pointer (some ⟨b4, 0, none⟩), .pointer (some ⟨wr.heap.size, 0, none⟩), .pointer (some ⟨b5, 0, none⟩), .pointer (some ⟨b8, 0, none⟩)]] rfl rfl ?c1 ?c2 ?c3 ?c4 ?c5 ?_)
      case c1 =>
        have h9 := cells_new (wr.alloc (.cells #[.int .i64 j] 3)) [.func (.func 54) #[] #[.pointer (some ⟨b3, 0, none⟩), .pointer (some ⟨b4, 0, none⟩), .pointer (some ⟨wr.heap.size, 0, none⟩), .pointer (some ⟨b5, 0, none⟩), .pointer (some ⟨b8, 0, none⟩)]] 91
        rw [show (wr.alloc (.cells #[.int .i64 j] 3)).heap.size = wr.heap.size + 1 by simp] at h9
        exact h9
      case c2 => intro u hu; simp at hu; subst hu; rfl
      case c3 => unfold maxLen; omega
      case c4 => omega
      case c5 => rw [H8.out]; simp; omega
      intro v7 w7 o7 g7 n7 a7
      have hof : ∀ g, u9.ownBlock = some g → b8 ≤ g ∧ ∃ cs, Blk wr g 91 cs := fun g hg => by
        obtain ⟨_, _, _, hh⟩ := own_form hown
        exact hh g hg
      have hkeep : ∀ g ty cs, ty ≠ 91 → Blk wr g ty cs → Blk w7 g ty cs := fun g ty cs hty hb => ((hb.alloc _).alloc _).grown g7 (fun e => by
        obtain ⟨_, cs', hb'⟩ := hof g e.symm
        exact hb.ne_ hb' hty rfl)
      have hnew : Blk w7 wr.heap.size 3 #[.int .i64 j] := ((Blk.new wr 3 #[.int .i64 j]).alloc _).grown g7 (fun e => by
        obtain ⟨_, cs', hb'⟩ := hof _ e.symm
        have := hb'.lt
        omega)
      have b7 : Below b8 w2 w7 := ((HBL.out.alloc (by rw [H8.out]; exact hbz) _).alloc (by rw [H8.out]; simp; omega) _).grown g7 (by rw [H8.out]; simp; omega) (fun g hg => (hof g hg).1)
      have HO7 := Lib.hid o7
      have HB7 := Lib.hid b7
      have HK7 := Lib.hid hkeep
      have HN7 := Lib.hid hnew
      clear o7 g7 n7 a7 hof hkeep hnew b7 hown
      go_wp2
      go_roundg (m - (j + 1))
      case measure => rw [HG.out]; omega
      case rel =>
        refine ⟨j + 1, fun i => if i = j then wr.heap.size else bj i, rfl, by omega, by go_num, ?_, fun i hi => ?_, HK7.out _ _ _ (by decide) H8R.out, HB7.out, fun e => absurd e hne2⟩
        · have h9 := HO7.out
          rw [eqVal_more]
          simpa [List.range_succ, List.map_append] using h9
        · by_cases hij : i = j
          · subst hij
            simp only [if_pos]
            exact HN7.out
          · simp only [if_neg hij]
            exact HK7.out _ _ _ (by decide) (HKJ.out i (by omega))
    · have hj0 : j = m ∨ (j < m ∧ a = b ∧ j = 0) := by
        rcases (show j = m ∨ j < m by omega) with h9 | h9
        · exact .inl h9
        · have h10 : a = b := by
            rcases Nat.lt_trichotomy a b with h | h | h
            · exact absurd ⟨h9, by omega⟩ hgo
            · exact h
            · exact absurd ⟨h9, by omega⟩ hgo
          exact .inr ⟨h9, h10, HAB.out h10⟩
      have HJ0 := Lib.hid hj0
      have HAB2 : Hid (∀ e, accF K a b (j + 1) e = eqF K a b e) := fun e => by
        unfold eqF
        rcases hj0 with h9 | ⟨_, h10, h11⟩
        · simp only [accF]
          rw [h9, HM.out, agree_num _ _ _ HLL.out]
        · subst h10
          subst h11
          simp [accF, agree]
      obtain ⟨gb, cp, cur, rfl, hbase, hgb, r1, r2, r3, r4⟩ : ∃ gb cp cur, u9 = .slice (some ⟨gb, 0, none⟩) (j + 1) cp ∧ b8 ≤ gb ∧ wr.heap[gb]? = some (.cells cur 91 (0, 0)) ∧ j + 1 ≤ cp ∧ cp ≤ maxLen ∧ cur.size = cp * 1 ∧ cur.toList.take ((j + 1) * 1) = (List.range (j + 1)).map (eqVal b3 b4 b5 b8 bj) := by
        rcases hown.2 with ⟨_, hz⟩ | hx
        · omega
        · exact hx
      have hcur : ∀ i, i < j + 1 → cur[i]? = some (eqVal b3 b4 b5 b8 bj i) := fun i hi => by
        have h9 := congrArg (fun l => l[i]?) r4
        simp only [Nat.mul_one] at h9
        rw [List.getElem?_take_of_lt hi, Array.getElem?_toList] at h9
        rw [h9]
        simp [hi]
      have hbl2 : Below w2.heap.size w2 wr := by rw [← H8.out]; exact HBL.out
      have hgbl : gb < wr.heap.size := (Array.getElem?_eq_some_iff.1 hgb).1
      have hl8 := H8R.out.lt
      have hall : ∀ wx, Below wr.heap.size wr wx → Calls Tryz.prog 57 #[.pointer (some ⟨c, 0, none⟩), .slice (some ⟨gb, 0, none⟩) (j + 1) cp] wx (OpP h K.op K.st F s L (accN K a L p (j + 1)) (accF K a b (j + 1)) wx) := fun wx hx => by
        have hbx := hbl2.trans (hx.mono hbl2.size)
        have hbx8 : Below b8 w2 wx := by rw [H8.out]; exact hbx
        exact all_eq H (HC2.out.stays (.of_below hbx)) (HT2.out.below hbx) HOK.out (m := j) ha hb (by rw [← HM.out]; exact hj) (by rw [← HLL.out, ← HM.out]; exact hj) HPA.out HPB.out (HR.out.less (accN_mono K a _ p (by rw [← HM.out]; omega)))
          ⟨X3.out.below hbx8 l38, X4.out.below hbx8 l48, X5.out.below hbx8 l58, H8R.out.below hx hl8⟩ (fun i hi => (HKJ.out i hi).below hx (HKJ.out i hi).lt) (cap := cp) (lb := gb) ((hx.block gb hgbl).trans hgb) rfl hcur
      have HALL := Lib.hid (hall wr (Below.refl _ _))
      have HBA := Lib.hid (((Below.refl wr.heap.size wr).alloc (Nat.le_refl _) (.cells #[.int .i64 j] 3)))
      have HALL2 := Lib.hid (hall _ HBA.out)
      have HBL2 := Lib.hid hbl2
      clear hall hgbl hl8 hbl2 hcur hgb r1 r2 r3 r4 hbase hown hj0 hgo HOWN
      have hcases : j = m ∨ (j < m ∧ a = b) := by
        rcases HJ0.out with h9 | ⟨h9, h10, _⟩
        · exact .inl h9
        · exact .inr ⟨h9, h10⟩
      rcases hcases with h9 | ⟨h9, h10⟩
      · have hn9 : ¬ j < m := by omega
        have hd9 : decide ((j : Int) < (m : Int)) = false := by simp; omega
        clear h9
        go_wp2_with fail
        refine HALL.out.mono ?_
        rintro e w9 ⟨k, s9, F9, rfl, t9, g9, m9⟩
        have HT9 := Lib.hid t9
        have HG9 := Lib.hid g9
        have HM9 := Lib.hid m9
        clear t9 g9 m9
        go_wp2
        go_ret2
        exact ⟨k, s9, F9, rfl, HT9.out, (HG9.out.mono (accN_mono K a _ p (by rw [← HM.out]; omega)) (Nat.zero_le _)).congr HAB2.out, ((Moves.of_below HB.out).trans ((Moves.of_below HB2.out).trans (Moves.of_below HBL2.out))).trans HM9.out⟩
      · subst h10
        go_wp2_with fail
        refine HALL2.out.mono ?_
        rintro e w9 ⟨k, s9, F9, rfl, t9, g9, m9⟩
        have HT9 := Lib.hid t9
        have HG9 := Lib.hid g9
        have HM9 := Lib.hid m9
        clear t9 g9 m9
        go_wp2
        go_ret2
        exact ⟨k, s9, F9, rfl, HT9.out, (HG9.out.mono (accN_mono K a _ p (by rw [← HM.out]; omega)) (Nat.zero_le _)).congr HAB2.out, ((Moves.of_below HB.out).trans ((Moves.of_below HB2.out).trans (Moves.of_below (HBL2.out.trans (HBA.out.mono HBL2.out.size))))).trans HM9.out⟩

end Go.Proofs.YtndefnfknhjfkaaGreatDoor
