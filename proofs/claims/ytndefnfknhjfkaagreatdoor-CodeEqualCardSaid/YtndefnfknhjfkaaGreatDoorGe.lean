/- Walks: maps; which variables a node asks. -/
import Derived.Test.YtndefnfknhjfkaaGreatDoorGb
import Derived.Maps.OwnSet
import Derived.Maps.OwnOps
import Derived.Lib.SlKeysI
import Derived.Test.YtndefnfknhjfkaaGreatDoorGd
import Derived.Test.YtndefnfknhjfkaaGreatDoorGa

namespace Go.Proofs.YtndefnfknhjfkaaGreatDoor
open Go.RowKit Go.Maps

theorem u95 : Tryz.prog.underlying 95 = some (.map 3 4) := by kernel_rfl
theorem u192 : Tryz.prog.underlying 192 = some (.map 3 3) := by kernel_rfl
theorem u3 : Tryz.prog.underlying 3 = some (.int .i64) := by kernel_rfl
theorem u4 : Tryz.prog.underlying 4 = some .bool := by kernel_rfl
theorem zero3 (w : World) : (zeroValue 3).run Tryz.prog w = .ok (.int .i64 0) w := by kernel_rfl
theorem zero4 (w : World) : (zeroValue 4).run Tryz.prog w = .ok (.bool false) w := by kernel_rfl

theorem wf_nat {x : Nat} (h : x < 9223372036854775808) : (Lit.int .i64 (x : Int)).wf = true := by
  simp only [Lit.wf, IntKind.min, IntKind.max, IntKind.signed, IntKind.bits, Bool.and_eq_true, decide_eq_true_eq, if_true]
  omega

theorem lit_ne {x y : Nat} (h : ¬ y = x) : Lit.int .i64 (y : Int) ≠ Lit.int .i64 (x : Int) := by
  intro e; apply h
  simp only [Lit.int.injEq, true_and] at e
  omega

theorem key3 {x : Nat} (h : x < 9223372036854775808) : keyOf Tryz.prog 3 (.int .i64 x) = some (.int .i64 x) := keyOf_int_mk u3 (wf_nat h)

/-- A map from numbers to bools, of the call's own. -/
def BMap (w : World) (b n : Nat) (f : Nat → Bool) (p : Nat → Prop) : Prop :=
  ∃ D : DataW Unit, w.ownsMap Tryz.prog 3 (plainElem Tryz.prog 4) b n D ∧ (∀ x : Nat, D.atKey (.int .i64 x) (.lit (.bool false)) = .lit (.bool (f x))) ∧ (∀ i : Int, has D (.int .i64 i) = true → ∃ x : Nat, i = x ∧ p x)

theorem BMap.made (w : World) (p : Nat → Prop) : BMap (w.alloc (.map #[] 0)) w.heap.size 0 (fun _ => false) p :=
  ⟨.map [], World.ownsMap_made w _ _ _, fun _ => rfl, fun i h => by cases h⟩

theorem BMap.lt {w : World} {b n : Nat} {f : Nat → Bool} {p : Nat → Prop} (h : BMap w b n f p) : b < w.heap.size := by
  obtain ⟨D, h, _⟩ := h; exact h.lt

theorem BMap.kept {w w' : World} {b n : Nat} {f : Nat → Bool} {p : Nat → Prop} (h : BMap w b n f p) (hh : w'.heap[b]? = w.heap[b]?) : BMap w' b n f p := by
  obtain ⟨D, ⟨es, clock, hb, r⟩, h2⟩ := h
  exact ⟨D, ⟨es, clock, hh.trans hb, r⟩, h2⟩

theorem BMap.look {w : World} {b n : Nat} {f : Nat → Bool} {p : Nat → Prop} (h : BMap w b n f p) {x : Nat} (hx : x < 9223372036854775808) :
    (Instr.lookup 95 (.map (some b)) (.int .i64 x) false).run Tryz.prog w = .ok (.bool (f x)) w := by
  obtain ⟨D, hown, hat, _⟩ := h
  obtain ⟨v, ps, hrun, hv⟩ := hown.lookup (int_keyed u3) u95 (zero4 w) (plainElem_bool u4 false) (key3 hx)
  rw [hat x] at hv
  cases v <;> simp [plainElem, u4] at hv
  rw [hrun, hv.1]

theorem BMap.store {w : World} {b n : Nat} {f : Nat → Bool} {p : Nat → Prop} (h : BMap w b n f p) {x : Nat} (hx : x < 9223372036854775808) (hn : n < 1000000) (hp : p x) (v : Bool) :
    ∃ w', (Instr.mapUpdate 95 (.map (some b)) (.int .i64 x) (.bool v)).run Tryz.prog w = .ok () w' ∧ BMap w' b (n + 1) (fun y => if y = x then v else f y) p ∧ w.grownBy w' (some b) := by
  obtain ⟨D, hown, hat, hk⟩ := h
  obtain ⟨w', hrun, hown', hg⟩ := hown.store (int_keyed u3) u95 (by unfold maxLen; omega) (key3 hx) (plainElem_bool u4 v)
  have hkey : WideAt.IsKeyLit (.int .i64 (x : Int)) := (int_keyed u3).key (key3 hx)
  refine ⟨w', hrun, ⟨_, hown', fun y => ?_, fun i hi => ?_⟩, hg.grown⟩
  · by_cases hy : y = x
    · subst hy; simp only [if_true]; rw [atKey_put_same hown.isMap hkey]
    · simp only [if_neg hy]; rw [atKey_put_other (lit_ne hy), hat]
  · by_cases hy : i = x
    · exact ⟨x, hy, hp⟩
    · rw [has_put_other (by intro e; apply hy; simpa using e)] at hi
      exact hk i hi

/-- A map from numbers to numbers, of the call's own; so many entries. -/
def IMap (w : World) (b n : Nat) (f : Nat → Option Nat) : Prop :=
  ∃ D : DataW Unit, w.ownsMap Tryz.prog 3 (plainElem Tryz.prog 3) b n D ∧ (∀ x : Nat, D.atKey (.int .i64 x) (.lit (.int .i64 0)) = .lit (.int .i64 (((f x).getD 0 : Nat) : Int)) ∧ has D (.int .i64 x) = (f x).isSome) ∧ size D ≤ n

theorem IMap.made (w : World) : IMap (w.alloc (.map #[] 0)) w.heap.size 0 (fun _ => none) :=
  ⟨.map [], World.ownsMap_made w _ _ _, fun _ => ⟨rfl, rfl⟩, Nat.le_refl _⟩

theorem IMap.lt {w : World} {b n : Nat} {f : Nat → Option Nat} (h : IMap w b n f) : b < w.heap.size := by
  obtain ⟨D, h, _⟩ := h; exact h.lt

theorem IMap.kept {w w' : World} {b n : Nat} {f : Nat → Option Nat} (h : IMap w b n f) (hh : w'.heap[b]? = w.heap[b]?) : IMap w' b n f := by
  obtain ⟨D, ⟨es, clock, hb, r⟩, h2⟩ := h
  exact ⟨D, ⟨es, clock, hh.trans hb, r⟩, h2⟩

theorem IMap.look {w : World} {b n : Nat} {f : Nat → Option Nat} (h : IMap w b n f) {x : Nat} (hx : x < 9223372036854775808) :
    (Instr.lookup 192 (.map (some b)) (.int .i64 x) false).run Tryz.prog w = .ok (.int .i64 (((f x).getD 0 : Nat) : Int)) w := by
  obtain ⟨D, hown, hat, _⟩ := h
  obtain ⟨c, hrun, hc, _⟩ := hown.lookup_int (int_keyed u3) u192 u3 (zero3 w) (key3 hx)
  rw [(hat x).1] at hc
  simp only [DataW.lit.injEq, Lit.int.injEq, true_and] at hc
  rw [hrun, ← hc]

theorem IMap.look_ok {w : World} {b n : Nat} {f : Nat → Option Nat} (h : IMap w b n f) {x : Nat} (hx : x < 9223372036854775808) :
    (Instr.lookup 192 (.map (some b)) (.int .i64 x) true).run Tryz.prog w = .ok (.tuple #[.int .i64 (((f x).getD 0 : Nat) : Int), .bool (f x).isSome]) w := by
  obtain ⟨D, hown, hat, _⟩ := h
  obtain ⟨v, ps, hrun, hv⟩ := hown.look_ok (int_keyed u3) u192 (zero3 w) (plainElem_int (a := 0) u3 (by decide)) (key3 hx)
  have h1 := (hat x).1
  rw [h1] at hv
  obtain ⟨a, rfl, hz, _⟩ := plainElem_int_inv u3 hv
  simp only [Prod.mk.injEq, DataW.lit.injEq, Lit.int.injEq, true_and] at hz
  rw [hrun, (hat x).2, ← hz.1]

theorem IMap.store {w : World} {b n : Nat} {f : Nat → Option Nat} (h : IMap w b n f) {x : Nat} (hx : x < 9223372036854775808) (hn : n < 1000000) (v : Nat) (hv : v < 9223372036854775808) :
    ∃ w', (Instr.mapUpdate 192 (.map (some b)) (.int .i64 x) (.int .i64 v)).run Tryz.prog w = .ok () w' ∧ IMap w' b (n + 1) (fun y => if y = x then some v else f y) ∧ w.grownBy w' (some b) := by
  obtain ⟨D, hown, hat, hs⟩ := h
  obtain ⟨w', hrun, hown', hg⟩ := hown.store (int_keyed u3) u192 (by unfold maxLen; omega) (key3 hx) (plainElem_int u3 (wf_nat hv))
  have hkey : WideAt.IsKeyLit (.int .i64 (x : Int)) := (int_keyed u3).key (key3 hx)
  refine ⟨w', hrun, ⟨_, hown', fun y => ?_, ?_⟩, hg.grown⟩
  · by_cases hy : y = x
    · subst hy; simp only [if_true]; rw [atKey_put_same hown.isMap hkey, has_put_same hown.isMap hkey]; exact ⟨rfl, rfl⟩
    · have hne := lit_ne hy
      simp only [if_neg hy]
      rw [atKey_put_other hne, has_put_other hne]
      exact hat y
  · rw [size_put (hown.tidy (int_keyed u3))]; split <;> omega

/-- .. and so many entries, just. -/
def IMapN (w : World) (b n : Nat) (f : Nat → Option Nat) : Prop :=
  ∃ D : DataW Unit, w.ownsMap Tryz.prog 3 (plainElem Tryz.prog 3) b n D ∧ (∀ x : Nat, D.atKey (.int .i64 x) (.lit (.int .i64 0)) = .lit (.int .i64 (((f x).getD 0 : Nat) : Int)) ∧ has D (.int .i64 x) = (f x).isSome) ∧ size D = n

theorem IMapN.made (w : World) : IMapN (w.alloc (.map #[] 0)) w.heap.size 0 (fun _ => none) :=
  ⟨.map [], World.ownsMap_made w _ _ _, fun _ => ⟨rfl, rfl⟩, rfl⟩
theorem IMapN.imap {w : World} {b n : Nat} {f : Nat → Option Nat} (h : IMapN w b n f) : IMap w b n f := by
  obtain ⟨D, a, b, c⟩ := h
  exact ⟨D, a, b, Nat.le_of_eq c⟩
theorem IMapN.kept {w w' : World} {b n : Nat} {f : Nat → Option Nat} (h : IMapN w b n f) (hh : w'.heap[b]? = w.heap[b]?) : IMapN w' b n f := by
  obtain ⟨D, ⟨es, clock, hb, r⟩, h2⟩ := h
  exact ⟨D, ⟨es, clock, hh.trans hb, r⟩, h2⟩
theorem IMapN.len {w : World} {b n : Nat} {f : Nat → Option Nat} (h : IMapN w b n f) (ty : TypeId) : (Builtin.len_ #[192] ty #[.map (some b)]).run Tryz.prog w = .ok (.int .i64 n) w := by
  obtain ⟨D, a, b, c⟩ := h
  rw [a.len u192 ty, c]
theorem IMapN.store {w : World} {b n : Nat} {f : Nat → Option Nat} (h : IMapN w b n f) {x : Nat} (hx : x < 9223372036854775808) (hn : n < 1000000) (hf : f x = none) (v : Nat) (hv : v < 9223372036854775808) :
    ∃ w', (Instr.mapUpdate 192 (.map (some b)) (.int .i64 x) (.int .i64 v)).run Tryz.prog w = .ok () w' ∧ IMapN w' b (n + 1) (fun y => if y = x then some v else f y) ∧ w.grownBy w' (some b) := by
  obtain ⟨D, hown, hat, hs⟩ := h
  obtain ⟨w', hrun, hown', hg⟩ := hown.store (int_keyed u3) u192 (by unfold maxLen; omega) (key3 hx) (plainElem_int u3 (wf_nat hv))
  have hkey : WideAt.IsKeyLit (.int .i64 (x : Int)) := (int_keyed u3).key (key3 hx)
  refine ⟨w', hrun, ⟨_, hown', fun y => ?_, ?_⟩, hg.grown⟩
  · by_cases hy : y = x
    · subst hy; simp only [if_true]; rw [atKey_put_same hown.isMap hkey, has_put_same hown.isMap hkey]; exact ⟨rfl, rfl⟩
    · have hne := lit_ne hy
      simp only [if_neg hy]
      rw [atKey_put_other hne, has_put_other hne]
      exact hat y
  · rw [size_put (hown.tidy (int_keyed u3)), (hat x).2, hf]; simp; omega
end Go.Proofs.YtndefnfknhjfkaaGreatDoor

namespace Go.Proofs.YtndefnfknhjfkaaGreatDoor
open Go.RowKit Go.Proofs.Osier

theorem count_any {w : World} {n : Nat} (h : n ≤ 1099511627776) : Calls Tryz.prog 182 #[.int .i64 n] w fun e w' => e = .returned (.int .i64 n) ∧ w = w' := by
  have t1 : decide ((4611686018427387903 : Int) < (n : Int)) = false := by simp; omega
  have t2 : decide ((n : Int) < 4611686018427387903) = true := by simp; omega
  have t3 : ¬ (n : Int) < 0 := by omega
  have t4 : (n : Int) < 4611686018427387903 := by omega
  rcases Nat.eq_zero_or_pos n with h0 | h0
  · subst h0
    go_enter Tryz.func182, Tryz.ntmps182
    go_wp2
    go_ret
    exact ⟨rfl, rfl⟩
  · have t5 : (0 : Int) < (n : Int) := by omega
    go_enter Tryz.func182, Tryz.ntmps182
    go_wp2
    go_ret
    exact ⟨rfl, rfl⟩

set_option maxRecDepth 100000 in
theorem add_any {w : World} {a b : Nat} (ha : a ≤ 1099511627776) (hb : b ≤ 1099511627776) : Calls Tryz.prog 140 #[.int .i64 a, .int .i64 b] w fun e w' => e = .returned (.int .i64 ((a + b : Nat) : Int)) ∧ w = w' := by
  have HA := Lib.hid (count_any (w := w) ha)
  have HB := Lib.hid (count_any (w := w) hb)
  have t1 : (b : Int) < 4611686018427387903 - (a : Int) := by omega
  go_enter Tryz.func140, Tryz.ntmps140
  go_wp2_with (go_at_call 182; first | (refine HA.out.mono ?_; rintro e w' ⟨rfl, rfl⟩) | (refine HB.out.mono ?_; rintro e w' ⟨rfl, rfl⟩))
  go_ret
  exact ⟨ret_int (by omega), rfl⟩

set_option maxRecDepth 100000 in
theorem mul_any {w : World} {a b : Nat} (ha : a ≤ 1048576) (hb : b ≤ 1048576) : Calls Tryz.prog 141 #[.int .i64 a, .int .i64 b] w fun e w' => e = .returned (.int .i64 ((a * b : Nat) : Int)) ∧ w = w' := by
  have HA := Lib.hid (count_any (w := w) (n := a) (by omega))
  have HB := Lib.hid (count_any (w := w) (n := b) (by omega))
  have hm : a * b ≤ 1048576 * 1048576 := Nat.mul_le_mul ha hb
  have hc : ((a * b : Nat) : Int) = (a : Int) * (b : Int) := by push_cast; rfl
  have hw : wrap64 ((a : Int) * (b : Int)) = (a : Int) * (b : Int) := by
    rw [← hc]
    generalize a * b = m at *
    unfold wrap64; omega
  rcases Nat.eq_zero_or_pos a with h0 | h0
  · subst h0
    go_enter Tryz.func141, Tryz.ntmps141
    go_wp2_with (go_at_call 182; first | (refine HA.out.mono ?_; rintro e w' ⟨rfl, rfl⟩) | (refine HB.out.mono ?_; rintro e w' ⟨rfl, rfl⟩))
    go_ret
    exact ⟨ret_int (by simp), rfl⟩
  · have t1 : ((a : Int) == 0) = false := by rw [beq_eq_false_iff_ne]; omega
    have t2 : ((a : Int) != 0) = true := by simp; omega
    obtain ⟨q, hq, hbq, hqm⟩ : ∃ q : Nat, (4611686018427387903 : Int).tdiv (a : Int) = (q : Int) ∧ b ≤ q ∧ q ≤ 4611686018427387903 := by
      refine ⟨4611686018427387903 / a, ?_, ?_, Nat.div_le_self _ _⟩
      · exact (Int.ofNat_tdiv 4611686018427387903 a).symm
      · rw [Nat.le_div_iff_mul_le h0, Nat.mul_comm]; omega
    have hwq : wrap64 (q : Int) = (q : Int) := by unfold wrap64; omega
    have hqb : ¬ (q : Int) < (b : Int) := by omega
    have hne : ¬ (a : Int) = 0 := by omega
    have hne2 : ¬ a = 0 := by omega
    go_enter Tryz.func141, Tryz.ntmps141
    go_wp2_with (go_at_call 182; first | (refine HA.out.mono ?_; rintro e w' ⟨rfl, rfl⟩) | (refine HB.out.mono ?_; rintro e w' ⟨rfl, rfl⟩))
    go_ret
    exact ⟨ret_int hc.symm, rfl⟩

set_option maxRecDepth 100000 in
theorem pow_any {w : World} {n : Nat} (h : n ≤ 61) : Calls Tryz.prog 142 #[.int .i64 n] w fun e w' => e = .returned (.int .i64 ((2 ^ n : Nat) : Int)) ∧ w = w' := by
  have t1 : ¬ (61 : Int) < (n : Int) := by omega
  have h2 : 2 ^ n ≤ 2 ^ 61 := Nat.pow_le_pow_right (by omega) h
  have h3 : (2 : Nat) ^ 61 = 2305843009213693952 := by decide
  have hw : wrap64 (2 ^ n) = ((2 ^ n : Nat) : Int) := by
    have hx : ((2 : Int) ^ n) = ((2 ^ n : Nat) : Int) := by push_cast; rfl
    rw [hx]
    generalize 2 ^ n = p at *
    unfold wrap64; omega
  have hnm : ¬ (n : Int) < 0 := by omega
  have HW := Lib.hid hw
  clear hw h2
  rcases Nat.eq_zero_or_pos n with h0 | h0
  · subst h0
    go_enter Tryz.func142, Tryz.ntmps142
    go_wp2
    go_ret
    exact ⟨rfl, rfl⟩
  · have t5 : (0 : Int) < (n : Int) := by omega
    go_enter Tryz.func142, Tryz.ntmps142
    go_wp2
    go_ret
    exact ⟨ret_int HW.out, rfl⟩
end Go.Proofs.YtndefnfknhjfkaaGreatDoor

namespace Go.Proofs.YtndefnfknhjfkaaGreatDoor
open Go.RowKit Go.Proofs.Osier

theorem cmay_any {h : Key → Nat} {w : World} {st : Nat} {F : List Nat} {s : St} (t : Sto h w st F s) {k : Nat} (hk : k < s.l.length) :
    Calls Tryz.prog 143 #[.pointer (some ⟨st, 0, none⟩), .int .i64 k] w fun e w' => e = .returned (.int .i64 0) ∧ ∃ n, w' = w.drewN n := by
  have HN := Lib.hid (node_any t hk)
  clear t
  go_enter Tryz.func143, Tryz.ntmps143
  go_wp2_with (go_at_call 138; refine HN.out.mono ?_; rintro e w' ⟨rfl, n', rfl⟩)
  go_ret
  exact ⟨rfl, n', rfl⟩

theorem node_lt {h : Key → Nat} {w : World} {st : Nat} {F : List Nat} {s : St} (t : Sto h w st F s) : s.WF ∧ s.l.length ≤ 65536 ∧ s.vars ≤ 256 := by
  obtain ⟨lb, cap, ht, pl, P, rfl, t⟩ := t
  have := t.most; have := t.small
  exact ⟨t.wf, by omega, t.vars⟩

set_option maxRecDepth 100000 in
theorem level_any {h : Key → Nat} {w : World} {st : Nat} {F : List Nat} {s : St} (t : Sto h w st F s) {bv bs bm b n nv cap : Nat} {p : Option Addr} {f : Nat → Option Nat} (hv : w.cell? ⟨bv, 0, none⟩ = some (.slice p nv cap)) (hs : w.cell? ⟨bs, 0, none⟩ = some (.pointer (some ⟨st, 0, none⟩)))
    (hm : w.cell? ⟨bm, 0, none⟩ = some (.map (some b))) (hf : IMap w b n f) {k : Nat} (hk : k < s.l.length) :
    Calls Tryz.prog 137 #[.int .i64 k, .pointer (some ⟨bv, 0, none⟩), .pointer (some ⟨bs, 0, none⟩), .pointer (some ⟨bm, 0, none⟩)] w fun e w' => e = .returned (.int .i64 ((if k < 2 then nv else (f (s.nd k).v).getD 0 : Nat) : Int)) ∧ ∃ n, w' = w.drewN n := by
  by_cases h2 : k < 2
  · simp only [if_pos h2]
    clear t hf hs hm
    go_enter Tryz.func137, Tryz.ntmps137
    go_wp2
    go_ret
    exact ⟨rfl, 0, rfl⟩
  · simp only [if_neg h2]
    obtain ⟨hwf, hl, hvs⟩ := node_lt t
    have hvk := St.v_le hwf hk
    have HN := Lib.hid (node_any t hk)
    have hlook : ∀ n, (Instr.lookup 192 (.map (some b)) (.int .i64 (s.nd k).v) false).run Tryz.prog (w.drewN n) = .ok (.int .i64 (((f (s.nd k).v).getD 0 : Nat) : Int)) (w.drewN n) := fun n => IMap.look (hf.kept (w' := w.drewN n) rfl) (by omega)
    have HT := Lib.hid t
    have HF := Lib.hid hf
    clear t hf hwf
    go_enter Tryz.func137, Tryz.ntmps137
    go_wp2_with (go_at_call 138; refine HN.out.mono ?_; rintro e w' ⟨rfl, n', rfl⟩)
    go_ret
    exact ⟨rfl, n', rfl⟩
end Go.Proofs.YtndefnfknhjfkaaGreatDoor

namespace Go.Proofs.YtndefnfknhjfkaaGreatDoor
open Go.RowKit Go.Proofs.Osier

theorem BMap.ne_blk {w : World} {b n : Nat} {f : Nat → Bool} {p : Nat → Prop} (h : BMap w b n f p) {g : Nat} {t : TypeId} {cs : Array Value} (hb : Blk w g t cs) : g ≠ b := by
  rintro rfl
  obtain ⟨D, ⟨es, clock, h1, _⟩, _⟩ := h
  unfold Blk at hb
  rw [hb] at h1
  cases h1
theorem IMap.ne_blk {w : World} {b n : Nat} {f : Nat → Option Nat} (h : IMap w b n f) {g : Nat} {t : TypeId} {cs : Array Value} (hb : Blk w g t cs) : g ≠ b := by
  rintro rfl
  obtain ⟨D, ⟨es, clock, h1, _⟩, _⟩ := h
  unfold Blk at hb
  rw [hb] at h1
  cases h1

theorem Sto.blks {h : Key → Nat} {w : World} {st : Nat} {F : List Nat} {s : St} (t : Sto h w st F s) : ∀ x ∈ F, ∃ ty cs, Blk w x ty cs := by
  obtain ⟨lb, cap, ht, pl, P, rfl, t⟩ := t
  have hn2 := t.wf.len2
  obtain ⟨g, c, cur, hv, _, hg, _⟩ := ownsRow_blk t.nodes (by omega)
  obtain rfl : lb = g := by injection hv with hv; injection hv with hv; injection hv
  intro x hx
  simp only [List.mem_cons, List.mem_nil_iff, or_false] at hx
  rcases hx with rfl | rfl | rfl | rfl
  · exact ⟨_, _, t.st⟩
  · exact ⟨_, _, hg⟩
  · exact ⟨_, _, t.tab.tab⟩
  · exact ⟨_, _, t.tab.arr⟩

/-- How many of the numbers below L are in. -/
def seenN (f : Nat → Bool) (L : Nat) : Nat := ((List.range L).filter f).length
theorem seenN_le (f : Nat → Bool) (L : Nat) : seenN f L ≤ L := by
  unfold seenN
  have := List.length_filter_le f (List.range L)
  rwa [List.length_range] at this
theorem seenN_none (L : Nat) : seenN (fun _ => false) L = 0 := by
  unfold seenN
  rw [List.filter_eq_nil_iff.2 (by simp)]; rfl
theorem seenN_set (f : Nat → Bool) {k L : Nat} (hk : k < L) (hf : f k = false) : seenN (fun y => if y = k then true else f y) L = seenN f L + 1 := by
  unfold seenN
  induction L with
  | zero => omega
  | succ L ih =>
    rw [List.range_succ, List.filter_append, List.filter_append, List.length_append, List.length_append]
    by_cases h : k = L
    · subst h
      have e : (List.range k).filter (fun y => if y = k then true else f y) = (List.range k).filter f := by
        apply List.filter_congr
        intro x hx
        rw [List.mem_range] at hx
        rw [if_neg (by omega)]
      rw [e]
      simp [hf]
    · rw [ih (by omega)]
      have e : [L].filter (fun y => if y = k then true else f y) = [L].filter f := by
        apply List.filter_congr
        intro x hx
        rw [List.mem_singleton] at hx
        rw [if_neg (by omega)]
      rw [e]
      omega

/-- Asks' boxes. -/
structure AskAt (w : World) (b7 b2 b8 b9 ms mv st : Nat) : Prop where
  f7 : Blk w b7 95 #[.map (some ms)]
  f2 : Blk w b2 87 #[.pointer (some ⟨st, 0, none⟩)]
  f8 : Blk w b8 95 #[.map (some mv)]
  f9 : Blk w b9 203 #[.func (.func 203) #[] #[.pointer (some ⟨b7, 0, none⟩), .pointer (some ⟨b2, 0, none⟩), .pointer (some ⟨b8, 0, none⟩), .pointer (some ⟨b9, 0, none⟩)]]

theorem AskAt.keep {w w' : World} {b7 b2 b8 b9 ms mv st ns nv : Nat} {fs fv : Nat → Bool} {ps pv : Nat → Prop} (a : AskAt w b7 b2 b8 b9 ms mv st) (hs : BMap w ms ns fs ps) (hv : BMap w mv nv fv pv) (k : Keep [ms, mv] w w') : AskAt w' b7 b2 b8 b9 ms mv st := by
  have key : ∀ {g t cs}, Blk w g t cs → Blk w' g t cs := fun hb => k.blk hb (by have h1 := hs.ne_blk hb; have h2 := hv.ne_blk hb; simp [h1, h2])
  exact ⟨key a.f7, key a.f2, key a.f8, key a.f9⟩

theorem Sto.keepMaps {h : Key → Nat} {w w' : World} {st : Nat} {F : List Nat} {s : St} (t : Sto h w st F s) {ms mv ns nv : Nat} {fs fv : Nat → Bool} {ps pv : Nat → Prop} (hs : BMap w ms ns fs ps) (hv : BMap w mv nv fv pv) (k : Keep [ms, mv] w w') : Sto h w' st F s :=
  t.of_heap fun x hx => by
    obtain ⟨ty, cs, hb⟩ := t.blks x hx
    have h1 := hs.ne_blk hb; have h2 := hv.ne_blk hb
    exact k.block x hb.lt (by simp [h1, h2])

/-- What the walk through a node leaves. -/
def AskP (ms mv L : Nat) (p : Nat → Bool) (w : World) (e : Ending) (w' : World) : Prop :=
  e = .returned (.tuple #[]) ∧ ∃ fs fv, BMap w' ms (seenN fs L) fs (fun _ => True) ∧ BMap w' mv (seenN fs L) fv (fun u => p u = true) ∧ Keep [ms, mv] w w'

set_option maxHeartbeats 1000000 in
set_option maxRecDepth 100000 in
theorem asks_walk {h : Key → Nat} {st : Nat} {F : List Nat} {s : St} {b7 b2 b8 b9 ms mv : Nat} {p : Nat → Bool} (hne : ms ≠ mv) : ∀ (k : Nat) (w : World) (fs fv : Nat → Bool), Sto h w st F s → AskAt w b7 b2 b8 b9 ms mv st →
    BMap w ms (seenN fs s.l.length) fs (fun _ => True) → BMap w mv (seenN fs s.l.length) fv (fun u => p u = true) → k < s.l.length → St.Dep (s.ev k) p →
    Calls Tryz.prog 203 #[.int .i64 k, .pointer (some ⟨b7, 0, none⟩), .pointer (some ⟨b2, 0, none⟩), .pointer (some ⟨b8, 0, none⟩), .pointer (some ⟨b9, 0, none⟩)] w (AskP ms mv s.l.length p w) := by
  intro k
  induction k using Nat.strongRecOn with
  | _ k ih =>
    intro w fs fv t a hs hv hk hd
    obtain ⟨hwf, hl, hvs⟩ := node_lt t
    have c7 : w.cell? ⟨b7, 0, none⟩ = some (.map (some ms)) := a.f7.cell_of rfl
    have hlook := hs.look (x := k) (by omega)
    have HS := Lib.hid hs
    have HV := Lib.hid hv
    have HT := Lib.hid t
    have HA := Lib.hid a
    by_cases h2 : k < 2
    · clear t a hs hv hwf
      go_enter Tryz.func203, Tryz.ntmps203
      go_wp2
      refine bodyPost_ret (results_none rfl _ _ _) rfl ?_
      exact ⟨rfl, fs, fv, HS.out, HV.out, Keep.refl _ _⟩
    · cases hf : fs k with
      | true =>
        rw [hf] at hlook
        clear t a hs hv hwf
        go_enter Tryz.func203, Tryz.ntmps203
        go_wp2
        refine bodyPost_ret (results_none rfl _ _ _) rfl ?_
        exact ⟨rfl, fs, fv, HS.out, HV.out, Keep.refl _ _⟩
      | false =>
        rw [hf] at hlook
        have hsn := seenN_le fs s.l.length
        have hok := hwf.ok k (by omega) hk
        have hvp : p (s.nd k).v = true := St.dep_mem hwf (by omega) hk hd
        have hdl := St.dep_lo hwf (by omega) hk hd
        have hdh := St.dep_hi hwf (by omega) hk hd
        have hset := seenN_set fs hk hf
        obtain ⟨w1, hrun1, hs1, hg1⟩ := hs.store (x := k) (by omega) (by omega) trivial true
        have k1 : Keep [ms, mv] w w1 := (Keep.refl _ w).grown hg1 (fun g hg => by injection hg with hg; left; simp [hg])
        have t1 := t.keepMaps hs hv k1
        have a1 := a.keep hs hv k1
        have hv1 : BMap w1 mv (seenN fs s.l.length) fv (fun u => p u = true) := hv.kept (hg1.block mv hv.lt (by simp; exact fun e => hne e.symm))
        have HN := Lib.hid (node_any t1 hk)
        have c2 : w1.cell? ⟨b2, 0, none⟩ = some (.pointer (some ⟨st, 0, none⟩)) := a1.f2.cell_of rfl
        have HS1 := Lib.hid hs1
        have HV1 := Lib.hid hv1
        have HT1 := Lib.hid t1
        have HA1 := Lib.hid a1
        have HK1 := Lib.hid k1
        have HSET := Lib.hid hset
        have HIH := Lib.hid ih
        have HWF := Lib.hid hwf
        have HDL := Lib.hid hdl
        have HDH := Lib.hid hdh
        obtain ⟨o1, o2, o3, _, _, _⟩ := hok
        clear t a hs hv hwf hs1 hv1 t1 a1 k1 hg1 hset ih hdl hdh hd hf
        go_enter Tryz.func203, Tryz.ntmps203
        go_wp2_with fail
        refine HN.out.mono ?_
        rintro e w' ⟨rfl, n', rfl⟩
        obtain ⟨w2, hrun2, hv2, hg2⟩ := (HV1.out.kept (w' := w1.drewN n') rfl).store (x := (s.nd k).v) (by omega) (by omega) hvp true
        have c8 : (w1.drewN n').cell? ⟨b8, 0, none⟩ = some (.map (some mv)) := HA1.out.f8.cell_of rfl
        have k2 : Keep [ms, mv] w1 w2 := ((Keep.refl _ w1).drewN n').grown hg2 (fun g hg => by injection hg with hg; left; simp [hg])
        have hs2 : BMap w2 ms _ _ _ := (HS1.out.kept (w' := w1.drewN n') rfl).kept (hg2.block ms HS1.out.lt (by simp; exact hne))
        have t2 := HT1.out.keepMaps HS1.out HV1.out k2
        have a2 := HA1.out.keep HS1.out HV1.out k2
        rw [← HSET.out] at hs2 hv2
        have HL := Lib.hid (HIH.out (s.nd k).lo o2 w2 _ _ t2 a2 hs2 hv2 (by omega) HDL.out)
        have c9 : w2.cell? ⟨b9, 0, none⟩ = some (.func (.func 203) #[] #[.pointer (some ⟨b7, 0, none⟩), .pointer (some ⟨b2, 0, none⟩), .pointer (some ⟨b8, 0, none⟩), .pointer (some ⟨b9, 0, none⟩)]) := a2.f9.cell_of rfl
        have HT2 := Lib.hid t2
        have HA2 := Lib.hid a2
        have HS2 := Lib.hid hs2
        have HV2 := Lib.hid hv2
        have HK2 := Lib.hid k2
        clear t2 a2 hs2 hv2 k2 hg2
        go_wp2_with fail
        refine HL.out.mono ?_
        rintro e w3 ⟨rfl, fs3, fv3, hs3, hv3, k3⟩
        have t3 := HT2.out.keepMaps HS2.out HV2.out k3
        have a3 := HA2.out.keep HS2.out HV2.out k3
        have HH := Lib.hid (HIH.out (s.nd k).hi o3 w3 _ _ t3 a3 hs3 hv3 (by omega) HDH.out)
        have c9 : w3.cell? ⟨b9, 0, none⟩ = some (.func (.func 203) #[] #[.pointer (some ⟨b7, 0, none⟩), .pointer (some ⟨b2, 0, none⟩), .pointer (some ⟨b8, 0, none⟩), .pointer (some ⟨b9, 0, none⟩)]) := a3.f9.cell_of rfl
        have HK3 := Lib.hid k3
        clear t3 a3 hs3 hv3 k3
        go_wp2_with fail
        refine HH.out.mono ?_
        rintro e w4 ⟨rfl, fs4, fv4, hs4, hv4, k4⟩
        have HS4 := Lib.hid hs4
        have HV4 := Lib.hid hv4
        have HK4 := Lib.hid k4
        clear hs4 hv4 k4
        go_wp2
        refine bodyPost_end (results_none rfl _ _ _) rfl ?_
        exact ⟨rfl, fs4, fv4, HS4.out, HV4.out, ((HK1.out.trans HK2.out (fun _ h => .inl h)).trans HK3.out (fun _ h => .inl h)).trans HK4.out (fun _ h => .inl h)⟩

end Go.Proofs.YtndefnfknhjfkaaGreatDoor
