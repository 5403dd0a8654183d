/- Walks: sorting. -/
import Derived.Test.YtndefnfknhjfkaaGreatDoorGe
import Derived.Shelf.SlIterI.Nil
import Derived.Shelf.SortM.Plain
import Derived.Shelf.SortM.SortNone
import Derived.Ground.GgzProg
import Derived.Ground.SlgmProg
import Derived.RangeFuncBox
import Derived.RangeFuncLeaves
import Derived.Shelf.Abstract
import Derived.WalkKit
import Derived.OwnWalkIn
import Derived.TacticsInMore
import Derived.LoopNIn
import Derived.LoopIn
import Derived.Maps.AppendAt

namespace Go.Proofs.YtndefnfknhjfkaaGreatDoor
open Go.RowKit Go.Maps Go.Sort Go.Shelf Go.Proofs.Osier Go.Proofs

def Tryz.keys204_ren : Go.Shelf.Ren := ⟨fun | 7 => 204 | 10 => 216 | n => n, fun | 23 => 95 | 26 => 3 | 3 => 4 | 28 => 243 | 0 => 0 | 27 => 242 | 33 => 133 | 4 => 4 | n => n, fun | n => n⟩

theorem Tryz.keys204 : Go.Proofs.SlLaysZI.n7 Tryz.prog Tryz.keys204_ren := {
    mixed := by kernel_rfl,
    f7 := ⟨Tryz.f204.name, by decide, Tryz.func204.trans (congrArg some (by kernel_rfl))⟩,
    f10 := ⟨Tryz.f216.name, by decide, Tryz.func216.trans (congrArg some (by kernel_rfl))⟩,
    t0 := Tryz.underlying0,
    a0 := Tryz.isAgg0,
    z0 := Tryz.sizeOf0,
    v0 := Tryz.zeroValue0,
    t4 := Tryz.underlying4,
    a4 := Tryz.isAgg4,
    z4 := Tryz.sizeOf4,
    v4 := Tryz.zeroValue4,
    t23 := Tryz.underlying95,
    a23 := Tryz.isAgg95,
    z23 := Tryz.sizeOf95,
    v23 := Tryz.zeroValue95,
    t26 := Tryz.underlying3,
    a26 := Tryz.isAgg3,
    z26 := Tryz.sizeOf3,
    v26 := Tryz.zeroValue3,
    t27 := Tryz.underlying242,
    a27 := Tryz.isAgg242,
    z27 := Tryz.sizeOf242,
    v27 := Tryz.zeroValue242,
    t28 := Tryz.underlying243,
    a28 := Tryz.isAgg243,
    z28 := Tryz.sizeOf243,
    v28 := Tryz.zeroValue243,
    t33 := Tryz.underlying133,
    a33 := Tryz.isAgg133,
    z33 := Tryz.sizeOf133,
    v33 := Tryz.zeroValue133 }
def Tryz.sorted179_ren : Go.Shelf.Ren := ⟨fun | 6 => 179 | 8 => 201 | 9 => 59 | 11 => 215 | 13 => 100 | 12 => 104 | 23 => 153 | 24 => 154 | 14 => 159 | 15 => 160 | 16 => 161 | 17 => 162 | 18 => 163 | 19 => 164 | 20 => 165 | 21 => 166 | 22 => 167 | 25 => 190 | 26 => 184 | 27 => 185 | 28 => 191 | 29 => 192 | 30 => 155 | 31 => 208 | n => n, fun | 26 => 3 | 28 => 243 | 24 => 34 | 0 => 0 | 3 => 3 | 37 => 158 | 48 => 144 | 50 => 213 | 4 => 4 | 40 => 206 | 39 => 205 | 45 => 129 | 5 => 5 | 9 => 9 | 51 => 246 | 55 => 250 | 57 => 263 | 58 => 218 | 33 => 133 | n => n, fun | n => n⟩

theorem Tryz.sorted179 : Go.Proofs.SlLaysZI.n6 Tryz.prog Tryz.sorted179_ren := {
    mixed := by kernel_rfl,
    f6 := ⟨Tryz.f179.name, by decide, Tryz.func179.trans (congrArg some (by kernel_rfl))⟩,
    f8 := ⟨Tryz.f201.name, by decide, Tryz.func201.trans (congrArg some (by kernel_rfl))⟩,
    f11 := ⟨Tryz.f215.name, by decide, Tryz.func215.trans (congrArg some (by kernel_rfl))⟩,
    t0 := Tryz.underlying0,
    a0 := Tryz.isAgg0,
    z0 := Tryz.sizeOf0,
    v0 := Tryz.zeroValue0,
    t24 := Tryz.underlying34,
    a24 := Tryz.isAgg34,
    z24 := Tryz.sizeOf34,
    v24 := Tryz.zeroValue34,
    t26 := Tryz.underlying3,
    a26 := Tryz.isAgg3,
    z26 := Tryz.sizeOf3,
    v26 := Tryz.zeroValue3,
    t28 := Tryz.underlying243,
    a28 := Tryz.isAgg243,
    z28 := Tryz.sizeOf243,
    v28 := Tryz.zeroValue243,
    i26 := by kernel_rfl }
def Tryz.sort59_ren : Go.Shelf.Ren := ⟨fun | 5 => 59 | 8 => 100 | 7 => 104 | 19 => 153 | 20 => 154 | 10 => 159 | 11 => 160 | 12 => 161 | 13 => 162 | 14 => 163 | 15 => 164 | 16 => 165 | 17 => 166 | 18 => 167 | 30 => 190 | 31 => 184 | 32 => 185 | 33 => 191 | 34 => 192 | 35 => 155 | 40 => 208 | n => n, fun | 23 => 34 | 25 => 3 | 3 => 3 | 32 => 158 | 22 => 34 | 0 => 0 | 44 => 144 | 46 => 213 | 4 => 4 | 36 => 206 | 35 => 205 | 41 => 129 | 5 => 5 | 9 => 9 | 53 => 246 | 57 => 250 | 63 => 263 | 64 => 218 | n => n, fun | n => n⟩

theorem Tryz.sort59 : Go.Proofs.SlLaysM.n5 Tryz.prog Tryz.sort59_ren := {
    mixed := by kernel_rfl,
    f5 := ⟨Tryz.f59.name, by decide, Tryz.func59.trans (congrArg some (by kernel_rfl))⟩,
    f7 := ⟨Tryz.f104.name, by decide, Tryz.func104.trans (congrArg some (by kernel_rfl))⟩,
    f8 := Tryz.func100.trans (congrArg some (by kernel_rfl)),
    f10 := ⟨Tryz.f159.name, by decide, Tryz.func159.trans (congrArg some (by kernel_rfl))⟩,
    f11 := ⟨Tryz.f160.name, by decide, Tryz.func160.trans (congrArg some (by kernel_rfl))⟩,
    f12 := ⟨Tryz.f161.name, by decide, Tryz.func161.trans (congrArg some (by kernel_rfl))⟩,
    f13 := ⟨Tryz.f162.name, by decide, Tryz.func162.trans (congrArg some (by kernel_rfl))⟩,
    f14 := ⟨Tryz.f163.name, by decide, Tryz.func163.trans (congrArg some (by kernel_rfl))⟩,
    f15 := ⟨Tryz.f164.name, by decide, Tryz.func164.trans (congrArg some (by kernel_rfl))⟩,
    f16 := ⟨Tryz.f165.name, by decide, Tryz.func165.trans (congrArg some (by kernel_rfl))⟩,
    f17 := ⟨Tryz.f166.name, by decide, Tryz.func166.trans (congrArg some (by kernel_rfl))⟩,
    f18 := ⟨Tryz.f167.name, by decide, Tryz.func167.trans (congrArg some (by kernel_rfl))⟩,
    f19 := Tryz.func153.trans (congrArg some (by kernel_rfl)),
    f20 := Tryz.func154.trans (congrArg some (by kernel_rfl)),
    f30 := ⟨Tryz.f190.name, by decide, Tryz.func190.trans (congrArg some (by kernel_rfl))⟩,
    f31 := Tryz.func184.trans (congrArg some (by kernel_rfl)),
    f32 := Tryz.func185.trans (congrArg some (by kernel_rfl)),
    f33 := ⟨Tryz.f191.name, by decide, Tryz.func191.trans (congrArg some (by kernel_rfl))⟩,
    f34 := ⟨Tryz.f192.name, by decide, Tryz.func192.trans (congrArg some (by kernel_rfl))⟩,
    f35 := ⟨Tryz.f155.name, by decide, Tryz.func155.trans (congrArg some (by kernel_rfl))⟩,
    f40 := ⟨Tryz.f208.name, by decide, Tryz.func208.trans (congrArg some (by kernel_rfl))⟩,
    t0 := Tryz.underlying0,
    a0 := Tryz.isAgg0,
    z0 := Tryz.sizeOf0,
    v0 := Tryz.zeroValue0,
    t3 := Tryz.underlying3,
    a3 := Tryz.isAgg3,
    z3 := Tryz.sizeOf3,
    v3 := Tryz.zeroValue3,
    t4 := Tryz.underlying4,
    a4 := Tryz.isAgg4,
    z4 := Tryz.sizeOf4,
    v4 := Tryz.zeroValue4,
    t5 := Tryz.underlying5,
    a5 := Tryz.isAgg5,
    z5 := Tryz.sizeOf5,
    v5 := Tryz.zeroValue5,
    t9 := Tryz.underlying9,
    a9 := Tryz.isAgg9,
    z9 := Tryz.sizeOf9,
    v9 := Tryz.zeroValue9,
    t22 := Tryz.underlying34,
    a22 := Tryz.isAgg34,
    z22 := Tryz.sizeOf34,
    v22 := Tryz.zeroValue34,
    t23 := Tryz.underlying34,
    a23 := Tryz.isAgg34,
    z23 := Tryz.sizeOf34,
    v23 := Tryz.zeroValue34,
    t25 := Tryz.underlying3,
    a25 := Tryz.isAgg3,
    z25 := Tryz.sizeOf3,
    v25 := Tryz.zeroValue3,
    t32 := Tryz.underlying158,
    a32 := Tryz.isAgg158,
    z32 := Tryz.sizeOf158,
    v32 := Tryz.zeroValue158,
    t35 := Tryz.underlying205,
    a35 := Tryz.isAgg205,
    z35 := Tryz.sizeOf205,
    v35 := Tryz.zeroValue205,
    t36 := Tryz.underlying206,
    a36 := Tryz.isAgg206,
    z36 := Tryz.sizeOf206,
    v36 := Tryz.zeroValue206,
    t41 := Tryz.underlying129,
    a41 := Tryz.isAgg129,
    z41 := Tryz.sizeOf129,
    v41 := Tryz.zeroValue129,
    t44 := Tryz.underlying144,
    a44 := Tryz.isAgg144,
    z44 := Tryz.sizeOf144,
    v44 := Tryz.zeroValue144,
    t46 := Tryz.underlying213,
    a46 := Tryz.isAgg213,
    z46 := Tryz.sizeOf213,
    v46 := Tryz.zeroValue213,
    t53 := Tryz.underlying246,
    a53 := Tryz.isAgg246,
    z53 := Tryz.sizeOf246,
    v53 := Tryz.zeroValue246,
    t57 := Tryz.underlying250,
    a57 := Tryz.isAgg250,
    z57 := Tryz.sizeOf250,
    v57 := Tryz.zeroValue250,
    t63 := Tryz.underlying263,
    a63 := Tryz.isAgg263,
    z63 := Tryz.sizeOf263,
    v63 := Tryz.zeroValue263,
    t64 := Tryz.underlying218,
    a64 := Tryz.isAgg218,
    z64 := Tryz.sizeOf218,
    v64 := Tryz.zeroValue218 }

end Go.Proofs.YtndefnfknhjfkaaGreatDoor

namespace Go.Proofs.YtndefnfknhjfkaaGreatDoor
open Go.RowKit Go.Maps Go.Sort Go.Shelf Go.Proofs.Osier Go.Proofs

attribute [local go_sem] Oper.semAt_some

/-- What has come when k rounds are over. -/
def upto {α : Type} (f : Nat → α) (k : Nat) : List α := (List.range k).map f
theorem upto_succ {α : Type} (f : Nat → α) (k : Nat) : upto f (k + 1) = upto f k ++ [f k] := by simp [upto, List.range_succ]
theorem upto_length {α : Type} (f : Nat → α) (k : Nat) : (upto f k).length = k := by simp [upto]
theorem upto_all (zs : List Int) : upto (fun j => zs[j]?.getD 0) zs.length = zs := by
  apply List.ext_getElem
  · simp [upto]
  · intro i h1 h2
    simp [upto, h2]
theorem upto_take (zs : List Int) {k : Nat} (hk : k ≤ zs.length) : upto (fun j => zs[j]?.getD 0) k = zs.take k := by
  apply List.ext_getElem
  · simp [upto, hk]
  · intro i h1 h2
    have : i < zs.length := by simp [upto] at h1; omega
    simp [upto, this]

set_option maxRecDepth 100000 in
set_option maxHeartbeats 2000000 in
theorem values1_in (F : Fence) (n : Nat) (h7 : F.fn 202) (hro : F.round = none) (hn : 1 ≤ n) (l Bs n₀ b off len cap : Nat) (zs : List Int) (hreach : len * 8 ≤ 140737488351232) (hb : b < n₀) (J Jx : List Int → World → Prop)
    (hY : ∀ pre x W, J pre W → pre.length < len → YieldAt F (n - 1) Tryz.prog l #[.int .i64 x] W fun e W' =>
      (e = .returned (.bool true) ∧ J (pre ++ [x]) W' ∧ Below n₀ W W') ∨ (e = .returned (.bool false) ∧ Jx (pre ++ [x]) W'))
    (W : World) (hBs : W.cell? ⟨Bs, 0, none⟩ = some (.slice (some ⟨b, off, none⟩) len cap)) (hc : ∀ j, j < len → W.cell? ⟨b, off + j, none⟩ = some (.int .i64 (zs[j]?.getD 0))) (h0 : J [] W) :
    CallsIn F n Tryz.prog 202 #[.func (.yield l) #[] #[], .pointer (some ⟨Bs, 0, none⟩)] W fun e W' => (∃ v, e = .returned v) ∧
      ((∃ ys, ys = upto (fun j => zs[j]?.getD 0) len ∧ J ys W') ∨ (∃ pre, (∃ k, k ≤ len ∧ pre = upto (fun j => zs[j]?.getD 0) k) ∧ Jx pre W')) := by
  refine callsIn_of_wp Tryz.func202 rfl h7 ?_ hro
  simp only [Tryz.ntmps202, List.size_toArray, List.length_cons, List.length_nil, Nat.reduceAdd, Nat.reduceSub, Array.replicate_succ, Array.replicate_zero, List.push_toArray, List.append_toArray, List.nil_append, List.cons_append]
  gi_wp2
  gi_loopw [7] (fun i wr => ∃ k : Nat, k ≤ len ∧ i = .int .i64 k ∧ J (upto (fun j => zs[j]?.getD 0) k) wr ∧ Below n₀ W wr)
    (fun i _ => len - (intOf i).toNat)
  case atStart => exact ⟨0, Nat.zero_le _, rfl, h0, Below.refl _ _⟩
  case round =>
    obtain ⟨k, hk, rfl, hJs, hnx⟩ := hrel
    have hcx : k < len → wr.cell? ⟨b, off + k, none⟩ = some (.int .i64 (zs[k]?.getD 0)) := fun h => (hnx.cell (p := ⟨b, off + k, none⟩) hb).trans (hc k h)
    by_cases hlt : k < len
    · obtain ⟨fn, tmps, assign, body, hy, hR⟩ := hY _ (zs[k]?.getD 0) wr hJs (by rw [upto_length]; exact hlt)
      have hcx' := hcx hlt
      gi_wp2
      refine hR.mono ?_
      rintro e W3 (⟨rfl, hJ3, hk3⟩ | ⟨rfl, hJx3⟩)
      · gi_wp2
        go_roundw
        case rel => exact ⟨k + 1, by omega, by simp, by rw [upto_succ]; exact hJ3, hnx.trans hk3⟩
        case measure => simp [intOf]; omega
      · gi_wp2
        refine bodyPost_ret (results_none rfl _ _ _) rfl ?_
        exact ⟨⟨_, rfl⟩, .inr ⟨_, ⟨k + 1, by omega, (upto_succ _ _).symm⟩, hJx3⟩⟩
    · obtain rfl : k = len := by omega
      gi_wp2
      go_end0
      exact ⟨⟨_, rfl⟩, .inl ⟨_, rfl, hJs⟩⟩

/-- The slice value holds the ints, in a block below n₀; or it is nil and there are none. -/
def Ints (n₀ : Nat) (W : World) (sv : Value) (zs : List Int) : Prop :=
  (sv = .slice none 0 0 ∧ zs = []) ∨ ∃ b off cap, sv = .slice (some ⟨b, off, none⟩) zs.length cap ∧ b < n₀ ∧ ∀ j, j < zs.length → W.cell? ⟨b, off + j, none⟩ = some (.int .i64 (zs[j]?.getD 0))
theorem Ints.below {n₀ : Nat} {A B : World} (h : Below n₀ A B) {sv : Value} {zs : List Int} : Ints n₀ A sv zs → Ints n₀ B sv zs
  | .inl e => .inl e
  | .inr ⟨b, off, cap, e, hb, hc⟩ => .inr ⟨b, off, cap, e, hb, fun j hj => (h.cell (p := ⟨b, off + j, none⟩) hb).trans (hc j hj)⟩

set_option maxRecDepth 100000 in
set_option maxHeartbeats 1000000 in
theorem values1_nil_in (F : Fence) (n : Nat) (h7 : F.fn 202) (hro : F.round = none) (l Bs : Nat) (J : List Int → World → Prop) (W : World) (hBs : W.cell? ⟨Bs, 0, none⟩ = some (.slice none 0 0)) (h0 : J [] W) :
    CallsIn F n Tryz.prog 202 #[.func (.yield l) #[] #[], .pointer (some ⟨Bs, 0, none⟩)] W fun e W' => (∃ v, e = .returned v) ∧ J [] W' := by
  refine callsIn_of_wp Tryz.func202 rfl h7 ?_ hro
  simp only [Tryz.ntmps202, List.size_toArray, List.length_cons, List.length_nil, Nat.reduceAdd, Nat.reduceSub, Array.replicate_succ, Array.replicate_zero, List.push_toArray, List.append_toArray, List.nil_append, List.cons_append]
  gi_wp2
  gi_loopw [7] (fun i wr => i = .int .i64 0 ∧ J [] wr) (fun _ _ => 0)
  case atStart => exact ⟨rfl, h0⟩
  case round =>
    obtain ⟨rfl, hJs⟩ := hrel
    gi_wp2
    go_end0
    exact ⟨⟨_, rfl⟩, hJs⟩

theorem values_stops (F : Fence) (n : Nat) (h7 : F.fn 202) (hro : F.round = none) (hn : 1 ≤ n) (Bs n₀ : Nat) (sv : Value) (zs : List Int) (hreach : zs.length * 8 ≤ 140737488351232) (w : World) (hBs : Bs < w.heap.size) (hn₀ : n₀ ≤ w.heap.size)
    (hc : w.cell? ⟨Bs, 0, none⟩ = some sv) (hI : Ints n₀ w sv zs) :
    SeqStopsK F n Tryz.prog 202 #[.pointer (some ⟨Bs, 0, none⟩)] (fun x : Int => #[Value.int .i64 x]) (Below n₀) (fun ys => ys = zs) (fun pre => pre <+: zs) zs.length w := fun l J Jx W hW _ _ hY h0 => by
  have hc' := (hW.cell (p := ⟨Bs, 0, none⟩) hBs).trans hc
  rcases hI.below (hW.mono hn₀) with ⟨rfl, rfl⟩ | ⟨b, off, cap, rfl, hb, hcs⟩
  · exact (values1_nil_in F n h7 hro l Bs J W hc' h0).mono fun e W' ⟨he, hj⟩ => ⟨he, .inl ⟨_, rfl, hj⟩⟩
  · refine (values1_in F n h7 hro hn l Bs n₀ b off zs.length cap zs hreach hb J Jx hY W hc' hcs h0).mono ?_
    rintro e W' ⟨he, ⟨ys, rfl, hj⟩ | ⟨pre, ⟨k, hk, rfl⟩, hj⟩⟩
    · exact ⟨he, .inl ⟨_, upto_all zs, hj⟩⟩
    · exact ⟨he, .inr ⟨_, by rw [upto_take zs hk]; exact List.take_prefix _ _, hj⟩⟩

theorem info3e : (Tryz.prog.info? 3).map (fun i => (i.zero, i.size, i.bytes)) = some (some (.int .i64 0), 1, 8) := by kernel_rfl

set_option maxRecDepth 100000 in
set_option maxHeartbeats 2000000 in
theorem append_values_in (F : Fence) (n : Nat) (h3 : F.fn 215) (h5 : F.fn 202) (hro : F.round = none) (hn : 3 ≤ n) (Bs : Nat) (sv : Value) (xs : List Int) (hlen : xs.length ≤ 1000000) (w : World) (hBs : Bs < w.heap.size) (hc : w.cell? ⟨Bs, 0, none⟩ = some sv) (hI : Ints w.heap.size w sv xs) :
    CallsIn F n Tryz.prog 215 #[.slice none 0 0, .func (.func 202) #[] #[.pointer (some ⟨Bs, 0, none⟩)]] w fun e W' => ∃ v, e = .returned v ∧ W'.ownsRow w.heap.size 3 1 v xs.length (xs.map (Value.int .i64)) ∧ (v = .slice none 0 0 ↔ xs = []) ∧ Below w.heap.size w W' := by
  have h1 : 1 ≤ n := by omega
  obtain ⟨i0, hi, hz0, hz1, hz2⟩ := info_parts info3e
  refine callsIn_of_wp_marks Tryz.func215 rfl h3 ?_ hro
  simp only [Tryz.ntmps215, List.size_toArray, List.length_cons, List.length_nil, Nat.reduceAdd, Nat.reduceSub, Array.replicate_succ, Array.replicate_zero, List.push_toArray, List.append_toArray, List.nil_append, List.cons_append]
  gi_wp2
  have bO := Boxed.new w 34 (.slice none 0 0)
  have hB0 : Below w.heap.size w (w.alloc (.cells #[.slice none 0 0] 34)) := (Below.refl _ w).alloc (Nat.le_refl _) _
  refine wpIn_rangeFunc_ownG hro h1 (gf := 202) (lb := #[.pointer (some ⟨Bs, 0, none⟩)]) rfl h5 (enters_of Tryz.func202 (by kernel_rfl) rfl)
    (values_stops F (n - 1) h5 hro (by omega) Bs w.heap.size sv xs (by omega) _ (by simp; omega) (by simp) ((hB0.cell (p := ⟨Bs, 0, none⟩) hBs).trans hc) (hI.below hB0)) belowK_t (belowK_b (by simp)) (Below.refl _ _) (fun _ => rfl)
    (fun pre W => (∃ v, Boxed W w.heap.size 34 v ∧ W.ownsRow w.heap.size 3 1 v pre.length (pre.map (Value.int .i64)) ∧ (v = .slice none 0 0 ↔ pre = [])) ∧ Below w.heap.size w W)
    (fun _ _ _ => False)
    (OwnFrom.and (Own.from (holdsRow_own w.heap.size w.heap.size 34 3 1 (fun pre => pre.length) (fun pre => pre.map (Value.int .i64)) (fun pre v => v = .slice none 0 0 ↔ pre = [])) _) (ownFrom_below (Nat.le_refl _) (by simp)))
    (fun _ _ _ _ _ hs _ _ => hs)
    ⟨⟨_, bO, World.ownsRow_nil _ _ _ _, by simp⟩, hB0⟩
    (fun x => { tmps := #[.slice none 0 0, .func (.func 202) #[] #[.pointer (some ⟨Bs, 0, none⟩)], .pointer (some ⟨w.heap.size, 0, none⟩), undef, .slice none 0 0, .int .i64 x, .func (.func 202) #[] #[.pointer (some ⟨Bs, 0, none⟩)], .int .i64 x, undef, undef, undef, undef, undef], defers := [] }) ?assign ?body ?done ?stop
  case assign =>
    intro l x W K hK
    gi_wp2
    exact hK
  case body =>
    rintro l pre x W ⟨⟨v, hv, hrow, hnil⟩, hB⟩ hlt
    have hc := hv.cell
    gi_wp2_with (gi_at_builtin; refine wpListIn_append_own _ rfl _ _ 34 rfl w.heap.size 3 i0 (.int .i64 0) 1 8 Tryz.underlying34 hi hz0 hz1 hz2 rfl (by decide) _ _ _ rfl (hrow.alloc _) ⟨W.heap.size, 0, none⟩ 1 1 [.int .i64 x] rfl rfl (cell_one_new _ _ _) (by simp [Value.oneCell']) (by unfold maxLen; omega) (by omega) (by have := hB.size; simp; omega) ?_; intro v' w1 hown' hgrow _; obtain ⟨g', cap', rfl⟩ := ownsRow_succ hown'; obtain ⟨hv1, hv2, hr2, hk2, hb2⟩ := hv.appended (by decide) hrow hB.size (Nat.le_refl _) hown' hgrow; have hc1 := hv1.cell; have hf1 := hv1.frozen)
    exact ⟨hk2.from _, hb2, ⟨_, hv2, by simpa using hr2, by simp⟩, hB.trans hb2⟩
  case done =>
    rintro D ys W hD rfl ⟨⟨v, hv, hrow, hnil⟩, hB⟩ hK
    have hc := hv.cell
    gi_wp2
    refine ⟨by simp, .inl ⟨_, _, rfl, run_takeDeferred hK, ?_⟩⟩
    exact ⟨_, results_tmp rfl _ _ _, v, rfl, ownsRow_putObj hrow _ hK rfl, hnil, hB.trans (belowK_b (w := w) (Nat.le_refl _) W D _ _ (by simp at hD; omega) hK rfl rfl)⟩
  case stop =>
    rintro D c pre W _ _ h _
    exact h.elim

end Go.Proofs.YtndefnfknhjfkaaGreatDoor

namespace Go.Proofs.YtndefnfknhjfkaaGreatDoor
open Go.RowKit Go.Maps Go.Sort Go.Shelf Go.Proofs.Osier Go.Proofs

theorem collect_values (Bs : Nat) (sv : Value) (xs : List Int) (hlen : xs.length ≤ 1000000) (w : World) (hBs : Bs < w.heap.size) (hc : w.cell? ⟨Bs, 0, none⟩ = some sv) (hI : Ints w.heap.size w sv xs) :
    Calls Tryz.prog 201 #[.func (.func 202) #[] #[.pointer (some ⟨Bs, 0, none⟩)]] w fun e W' => ∃ v, e = .returned v ∧ W'.ownsRow w.heap.size 3 1 v xs.length (xs.map (Value.int .i64)) ∧ (v = .slice none 0 0 ↔ xs = []) ∧ Below w.heap.size w W' := by
  have HA := Lib.hid ((callsIn_wide (n := 3)).1 (append_values_in Fence.wide 3 trivial trivial rfl (by omega) Bs sv xs hlen w hBs hc hI))
  clear hBs hc hI
  go_enter Tryz.func201, Tryz.ntmps201
  go_wp2_with fail
  refine HA.out.mono ?_
  rintro e w' ⟨v, rfl, h1, h2, h3⟩
  have H1 := Lib.hid h1
  have H2 := Lib.hid h2
  have H3 := Lib.hid h3
  clear h1 h2 h3
  go_wp2
  go_ret
  exact ⟨v, rfl, H1.out, H2.out, H3.out⟩

theorem sort_any (blk off cap : Nat) (zs : List Int) (w : World) (hH : Holds (Value.int .i64) w blk off zs.toArray) (hblk : blk < w.heap.size) (hsz : zs.length < 4611686018427387904) :
    Calls Tryz.prog 59 #[.slice (some ⟨blk, off, none⟩) zs.length cap] w fun e w' =>
      e = .returned (.tuple #[]) ∧ ∃ n os, w' = grow (putRow (Value.int .i64) (Sort.ahead w n) blk off (zs.mergeSort fun x y => decide (x ≤ y)).toArray) os :=
  AnyM.slices_Sort_int Tryz.sort59 blk off cap zs w hH hblk hsz
theorem sort_none (p : Option Addr) (cap : Nat) (w : World) : Calls Tryz.prog 59 #[.slice p 0 cap] w fun e w' => e = .returned (.tuple #[]) ∧ w' = w :=
  AnyM.slices_Sort_int_none Tryz.sort59 p cap w

/-- A slice of numbers that the call owns is sorted in its place. -/
theorem sort_own {w : World} {base : Nat} {v : Value} {zs : List Int} (h : w.ownsRow base 3 1 v zs.length (zs.map (Value.int .i64))) (hsz : zs.length < 4611686018427387904) :
    Calls Tryz.prog 59 #[v] w fun e w' => e = .returned (.tuple #[]) ∧ w'.ownsRow base 3 1 v zs.length ((zs.mergeSort fun x y => decide (x ≤ y)).map (Value.int .i64)) ∧ w.grownBy w' v.ownBlock := by
  rcases h.2 with ⟨rfl, hz⟩ | ⟨gb, cap, cur, rfl, hbase, hgb, r1, r2, r3, r4⟩
  · have hss : zs = [] := List.eq_nil_of_length_eq_zero hz
    subst hss
    refine (sort_none none 0 w).mono ?_
    rintro e w' ⟨rfl, rfl⟩
    exact ⟨rfl, by simpa using h, ⟨rfl, rfl, rfl, Nat.le_refl _, fun _ _ _ => rfl⟩⟩
  · have hH : Holds (Value.int .i64) w gb 0 zs.toArray := holds_of_block_i hgb (by simpa using r4)
    refine (sort_any gb 0 cap zs w hH (Array.getElem?_eq_some_iff.1 hgb).1 hsz).mono ?_
    rintro e w' ⟨rfl, n, os, rfl⟩
    exact ⟨rfl, ownsRow_sorted_i (by simp) hbase hgb r1 r2 r3, grownBy_sorted_i _⟩

theorem sorted_values (Bs : Nat) (sv : Value) (xs : List Int) (hlen : xs.length ≤ 1000000) (w : World) (hBs : Bs < w.heap.size) (hc : w.cell? ⟨Bs, 0, none⟩ = some sv) (hI : Ints w.heap.size w sv xs) :
    Calls Tryz.prog 179 #[.func (.func 202) #[] #[.pointer (some ⟨Bs, 0, none⟩)]] w fun e W' => ∃ v, e = .returned v ∧ W'.ownsRow w.heap.size 3 1 v xs.length ((xs.mergeSort fun x y => decide (x ≤ y)).map (Value.int .i64)) ∧ Below w.heap.size w W' := by
  have HA := Lib.hid (collect_values Bs sv xs hlen w hBs hc hI)
  clear hBs hc hI
  go_enter Tryz.func179, Tryz.ntmps179
  go_wp2_with fail
  refine HA.out.mono ?_
  rintro e w1 ⟨v, rfl, h1, h2, h3⟩
  have HS := Lib.hid (sort_own h1 (by omega))
  have H1 := Lib.hid h1
  have H3 := Lib.hid h3
  clear h1 h2 h3
  go_wp2_with fail
  refine HS.out.mono ?_
  rintro e w2 ⟨rfl, h4, h5⟩
  have H4 := Lib.hid h4
  have H5 := Lib.hid h5
  clear h4 h5
  go_wp2
  go_ret
  refine ⟨v, rfl, H4.out, H3.out.grown H5.out H3.out.size fun k e => ?_⟩
  rcases H1.out.2 with ⟨rfl, hz⟩ | ⟨gb, cap, cur, rfl, hbase, _⟩
  · simp [Value.ownBlock] at e
  · simp [Value.ownBlock] at e; omega

theorem values_call (a : Option Addr) (len cap : Nat) (w : World) :
    Calls Tryz.prog 180 #[.slice a len cap] w fun e w' => e = .returned (.func (.func 202) #[] #[.pointer (some ⟨w.heap.size, 0, none⟩)]) ∧ w' = w.alloc (.cells #[.slice a len cap] 34) := by
  have hmf : ∀ (fn : Fn) (first cap : Array Value) (w : World), (Instr.makeFunc fn first cap).run Tryz.prog w = .ok (.func fn first cap) w := fun _ _ _ _ => rfl
  go_enter Tryz.func180, Tryz.ntmps180
  go_wp2
  go_ret
  exact ⟨rfl, rfl⟩

/-- Numbers, rising. -/
def sortN (l : List Nat) : List Nat := l.mergeSort fun x y => decide (x ≤ y)

theorem sortN_map (l : List Nat) : (l.map fun x : Nat => (x : Int)).mergeSort (fun x y => decide (x ≤ y)) = (sortN l).map fun x : Nat => (x : Int) := by
  unfold sortN
  rw [List.map_mergeSort]
  intro a _ b _
  simp

theorem sortN_perm (l : List Nat) : (sortN l).Perm l := List.mergeSort_perm _ _
theorem sortN_length (l : List Nat) : (sortN l).length = l.length := (sortN_perm l).length_eq
theorem sortN_sorted (l : List Nat) : (sortN l).Pairwise (· ≤ ·) := by
  have := List.pairwise_mergeSort (le := fun x y : Nat => decide (x ≤ y)) (fun a b c h1 h2 => by simp at *; omega) (fun a b => by simp; omega) l
  exact this.imp (by simp)

/-- A row of numbers of the call's own reads as such. -/
theorem rowIn_own {w : World} {base : Nat} {v : Value} {l : List Nat} {n : Nat} (h : w.ownsRow base 3 1 v n (l.map fun x : Nat => Value.int .i64 (x : Int))) :
    ∃ p cap, v = .slice p l.length cap ∧ RowIn w p l ∧ n = l.length ∧ ∀ g, v.ownBlock = some g → base ≤ g := by
  have hn : n = l.length := by have := h.1; simp at this; omega
  rcases h.2 with ⟨rfl, hz⟩ | ⟨gb, cap, cur, rfl, hbase, hgb, r1, r2, r3, r4⟩
  · have : l = [] := List.eq_nil_of_length_eq_zero (by omega)
    subst this
    exact ⟨none, 0, rfl, .inl rfl, hn, by simp [Value.ownBlock]⟩
  · refine ⟨_, cap, by rw [hn], .inr ⟨gb, cur, rfl, hgb, fun i x hi => ?_⟩, hn, fun g hg => by simp [Value.ownBlock] at hg; omega⟩
    have h1 := congrArg (fun q => q[i]?) r4
    simp only [List.getElem?_map, hi, Option.map_some, List.getElem?_take] at h1
    have hil : i < l.length := (List.getElem?_eq_some_iff.1 hi).1
    rw [if_pos (by omega), Array.getElem?_toList] at h1
    exact h1

theorem ints_of_row {w : World} {p : Option Addr} {l : List Nat} {cap : Nat} (h : RowIn w p l) (hp : l = [] → p = none ∧ cap = 0) : Ints w.heap.size w (.slice p l.length cap) (l.map fun x : Nat => (x : Int)) := by
  rcases h with rfl | ⟨g, cur, rfl, hb, hcur⟩
  · obtain ⟨rfl, rfl⟩ := hp rfl
    exact .inl ⟨rfl, rfl⟩
  · refine .inr ⟨g, 0, cap, by simp, hb.lt, fun j hj => ?_⟩
    rw [List.length_map] at hj
    have := hcur j _ (List.getElem?_eq_getElem hj)
    rw [Nat.zero_add, hb.cell, this]
    simp [hj]
end Go.Proofs.YtndefnfknhjfkaaGreatDoor

namespace Go.Proofs.YtndefnfknhjfkaaGreatDoor
open Go.RowKit Go.Maps Go.Sort Go.Shelf Go.Proofs.Osier Go.Proofs

theorem keys_call (mb : Option Nat) (W : World) : Calls Tryz.prog 204 #[.map mb] W fun e w' => e = .returned (.func (.func 216) #[] #[.pointer (some ⟨W.heap.size, 0, none⟩)]) ∧ w' = W.alloc (.cells #[.map mb] 95) :=
  (callsIn_wide (n := 5)).1 (AnyZI.keys_in Tryz.keys204 Fence.wide 5 trivial rfl mb W)

theorem sortsZ (m : Nat) : AnyZI.SortsIn Tryz.prog Tryz.sorted179_ren Fence.wide m :=
  ⟨fun blk off cap ss W hH hblk hsz => callsIn_wide.2 (AnyM.slices_Sort_int Tryz.sort59 blk off cap ss W hH hblk hsz),
   fun p cap W => callsIn_wide.2 (AnyM.slices_Sort_int_none Tryz.sort59 p cap W)⟩

set_option maxHeartbeats 1000000 in
theorem sorted_keys {H : Type} (b nn : Nat) (D0 : DataW H) (R : Value → Option (DataW H × List MemPlace)) (w : World) (hown : w.ownsMap Tryz.prog 3 R b nn D0) (hmax : Maps.size D0 ≤ 1000000) :
    Calls Tryz.prog 179 #[.func (.func 216) #[] #[.pointer (some ⟨w.heap.size, 0, none⟩)]] (w.alloc (.cells #[.map (some b)] 95)) fun e w' => ∃ (v : Value) (ss : List Int), e = .returned v ∧ ss.Perm (intKeys D0) ∧
      w'.ownsRow (w.alloc (.cells #[.map (some b)] 95)).heap.size 3 1 v ss.length ((ss.mergeSort (fun x y => decide (x ≤ y))).map encZ) ∧ (v = .slice none 0 0 ↔ ss = []) ∧ Below (w.alloc (.cells #[.map (some b)] 95)).heap.size (w.alloc (.cells #[.map (some b)] 95)) w' := by
  refine (callsIn_wide (n := 5)).1 ?_
  have hbl := hown.lt
  have hseq : SeqGives Fence.wide 2 Tryz.prog 216 #[.pointer (some ⟨w.heap.size, 0, none⟩)] encZ (fun ss => ss.Perm (intKeys D0)) (Maps.size D0) (w.alloc (.cells #[.map (some b)] 95)) :=
    AnyZI.keys_gives (ρ := Tryz.keys204_ren) { Tryz.keys204 with } Fence.wide _ trivial rfl (by omega) w.heap.size b nn D0 _ (by simp) (by simp) (by
      obtain ⟨es, clock, hb, Ft, hs, hD⟩ := hown
      exact ⟨es, clock, (Below.heap_alloc _ _ b hbl).trans hb, Ft, hs, hD⟩)
  exact AnyZI.sorted_in Tryz.sorted179 Fence.wide 5 trivial trivial trivial trivial rfl (by omega) (sortsZ _) (enters_of Tryz.func59 (by kernel_rfl) rfl) 216 #[.pointer (some ⟨w.heap.size, 0, none⟩)] trivial (enters_of Tryz.func216 (by kernel_rfl) rfl) _ _ (by unfold maxLen; omega) (by omega) _ hseq

theorem mem_intKeys {w : World} {R : Value → Option (DataW Unit × List MemPlace)} {b n : Nat} {D : DataW Unit} (h : w.ownsMap Tryz.prog 3 R b n D) {x : Int} (hx : x ∈ intKeys D) : has D (.int .i64 x) = true := by
  obtain ⟨es, clock, hb, F, hs, rfl⟩ := h
  simp only [intKeys, List.mem_map] at hx
  obtain ⟨p, hp, rfl⟩ := hx
  obtain ⟨v, hv⟩ := fit_keys F p (mem_sorted.1 hp)
  obtain ⟨a, _, ha, _⟩ := Maps.keyOf_i64 u3 hv
  rw [has_eq, List.any_eq_true]
  refine ⟨p, hp, ?_⟩
  rw [ha]
  exact WideAt.sameKey_self ((int_keyed u3).key (by rw [ha] at hv; exact hv))

/-- slices.Sorted(maps.Keys(m)) of a map from numbers to bools. -/
theorem sorted_bmap {w : World} {b n : Nat} {f : Nat → Bool} {p : Nat → Prop} (h : BMap w b n f p) (hn : n ≤ 1000000) :
    Calls Tryz.prog 179 #[.func (.func 216) #[] #[.pointer (some ⟨w.heap.size, 0, none⟩)]] (w.alloc (.cells #[.map (some b)] 95)) fun e w' => ∃ (q : Option Addr) (cap : Nat) (l : List Nat), e = .returned (.slice q l.length cap) ∧ RowIn w' q l ∧ (∀ x ∈ l, p x) ∧ l.length ≤ n ∧ Below w.heap.size w w' := by
  obtain ⟨D, hown, _, hk⟩ := h
  have hsz := hown.size_le
  refine (sorted_keys b n D _ w hown (by omega)).mono ?_
  rintro e w' ⟨v, ss, rfl, hperm, hrow, _, hb⟩
  have hb0 : Below w.heap.size w (w.alloc (.cells #[.map (some b)] 95)) := (Below.refl _ w).alloc (Nat.le_refl _) _
  have hmem : ∀ x ∈ ss.mergeSort (fun x y => decide (x ≤ y)), ∃ u : Nat, x = (u : Int) ∧ p u := fun x hx =>
    hk x (mem_intKeys hown (hperm.mem_iff.1 ((List.mergeSort_perm ss _).mem_iff.1 hx)))
  obtain ⟨l, hl, hpl⟩ : ∃ l : List Nat, ss.mergeSort (fun x y => decide (x ≤ y)) = l.map (fun u : Nat => (u : Int)) ∧ ∀ u ∈ l, p u := by
    generalize ss.mergeSort (fun x y => decide (x ≤ y)) = zs at hmem
    clear hrow hperm
    induction zs with
    | nil => exact ⟨[], rfl, by simp⟩
    | cons z zs ih =>
      obtain ⟨u, rfl, hu⟩ := hmem z (by simp)
      obtain ⟨l, hl, hp⟩ := ih fun x hx => hmem x (by simp [hx])
      refine ⟨u :: l, by rw [hl]; rfl, ?_⟩
      intro y hy
      rcases List.mem_cons.1 hy with rfl | hy
      · exact hu
      · exact hp y hy
  have hlen : l.length = ss.length := by
    have := congrArg List.length hl
    rw [List.length_mergeSort, List.length_map] at this
    exact this.symm
  rw [hl, List.map_map, ← hlen] at hrow
  obtain ⟨q, cap, rfl, hrow', _, _⟩ := rowIn_own (l := l) hrow
  refine ⟨q, cap, l, rfl, hrow', hpl, ?_, hb0.trans (hb.mono hb0.size)⟩
  have h1 : (intKeys D).length = Maps.size D := by
    obtain ⟨es, clock, _, _, _, rfl⟩ := hown
    simp [intKeys, Maps.size]
  rw [hlen, hperm.length_eq, h1]; exact hsz
end Go.Proofs.YtndefnfknhjfkaaGreatDoor
