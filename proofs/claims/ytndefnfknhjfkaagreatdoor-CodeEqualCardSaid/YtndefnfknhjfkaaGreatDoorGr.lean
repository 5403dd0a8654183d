/- Walks: widths and names of domains. -/
import Derived.Test.YtndefnfknhjfkaaGreatDoorGe
import Derived.Test.YtndefnfknhjfkaaGreatDoorGd
import Derived.Shelf.Strings.SplitShaped
import Derived.Shelf.GgClosure.StringsRunes
import Derived.Shelf.SlicesQ.IndexFunc
import Derived.Shelf.SlicesG.Reverse
import Derived.Test.YtndefnfknhjfkaaGreatDoorGm

/- How many bits a size needs; names of domains; maps from texts. -/
namespace Go.Proofs.YtndefnfknhjfkaaGreatDoor
open Go.RowKit Go.Maps Go.Shelf Go.Proofs.Osier Go.Proofs

def Tryz.split119_ren : Go.Shelf.Ren := ⟨fun | 146 => 119 | 221 => 174 | 268 => 196 | 138 => 197 | 143 => 198 | 195 => 210 | 197 => 211 | 218 => 212 | 219 => 213 | 260 => 221 | 217 => 222 | 225 => 223 | 224 => 224 | 267 => 225 | 266 => 230 | 314 => 231 | n => n, fun | 9 => 9 | 31 => 70 | 3 => 3 | 4 => 4 | 0 => 0 | 105 => 269 | 21 => 21 | 5 => 5 | 46 => 158 | 119 => 281 | 139 => 284 | 138 => 283 | 146 => 285 | 51 => 144 | n => n, fun | 1 => 0 | 3 => 1 | 4 => 2 | n => n⟩
theorem Tryz.split119 : Go.Proofs.LaysM.n146 Tryz.prog Tryz.split119_ren := {
  mixed := by kernel_rfl,
  f138 := Tryz.func197.trans (congrArg some (by kernel_rfl)),
  f143 := Tryz.func198.trans (congrArg some (by kernel_rfl)),
  f146 := Tryz.func119.trans (congrArg some (by kernel_rfl)),
  f195 := Tryz.func210.trans (congrArg some (by kernel_rfl)),
  f197 := Tryz.func211.trans (congrArg some (by kernel_rfl)),
  f217 := Tryz.func222.trans (congrArg some (by kernel_rfl)),
  f218 := Tryz.func212.trans (congrArg some (by kernel_rfl)),
  f219 := Tryz.func213.trans (congrArg some (by kernel_rfl)),
  f221 := Tryz.func174.trans (congrArg some (by kernel_rfl)),
  f224 := Tryz.func224.trans (congrArg some (by kernel_rfl)),
  f225 := Tryz.func223.trans (congrArg some (by kernel_rfl)),
  f260 := Tryz.func221.trans (congrArg some (by kernel_rfl)),
  f266 := Tryz.func230.trans (congrArg some (by kernel_rfl)),
  f267 := Tryz.func225.trans (congrArg some (by kernel_rfl)),
  f268 := Tryz.func196.trans (congrArg some (by kernel_rfl)),
  f314 := Tryz.func231.trans (congrArg some (by kernel_rfl)),
  t0 := Tryz.underlying0,
  a0 := Tryz.isAgg0,
  z0 := Tryz.sizeOf0,
  v0 := Tryz.zeroValue0,
  t3 := Tryz.underlying3,
  a3 := Tryz.isAgg3,
  z3 := Tryz.sizeOf3,
  v3 := Tryz.zeroValue3,
  t4 := Tryz.underlying4,
  a4 := Tryz.isAgg4,
  z4 := Tryz.sizeOf4,
  v4 := Tryz.zeroValue4,
  t5 := Tryz.underlying5,
  a5 := Tryz.isAgg5,
  z5 := Tryz.sizeOf5,
  v5 := Tryz.zeroValue5,
  t9 := Tryz.underlying9,
  a9 := Tryz.isAgg9,
  z9 := Tryz.sizeOf9,
  v9 := Tryz.zeroValue9,
  t21 := Tryz.underlying21,
  a21 := Tryz.isAgg21,
  z21 := Tryz.sizeOf21,
  v21 := Tryz.zeroValue21,
  t31 := Tryz.underlying70,
  a31 := Tryz.isAgg70,
  z31 := Tryz.sizeOf70,
  v31 := Tryz.zeroValue70,
  t46 := Tryz.underlying158,
  a46 := Tryz.isAgg158,
  z46 := Tryz.sizeOf158,
  v46 := Tryz.zeroValue158,
  t51 := Tryz.underlying144,
  a51 := Tryz.isAgg144,
  z51 := Tryz.sizeOf144,
  v51 := Tryz.zeroValue144,
  t105 := Tryz.underlying269,
  a105 := Tryz.isAgg269,
  z105 := Tryz.sizeOf269,
  v105 := Tryz.zeroValue269,
  t119 := Tryz.underlying281,
  a119 := Tryz.isAgg281,
  z119 := Tryz.sizeOf281,
  t138 := Tryz.underlying283,
  a138 := Tryz.isAgg283,
  z138 := Tryz.sizeOf283,
  v138 := Tryz.zeroValue283,
  t139 := Tryz.underlying284,
  a139 := Tryz.isAgg284,
  z139 := Tryz.sizeOf284,
  v139 := Tryz.zeroValue284,
  t146 := Tryz.underlying285,
  a146 := Tryz.isAgg285,
  z146 := Tryz.sizeOf285,
  v146 := Tryz.zeroValue285,
  g1 := by kernel_rfl,
  g3 := by kernel_rfl,
  g4 := by kernel_rfl,
  i0 := by kernel_rfl,
  i3 := by kernel_rfl,
  i4 := by kernel_rfl,
  i5 := by kernel_rfl,
  i9 := by kernel_rfl,
  i21 := by kernel_rfl,
  i31 := by kernel_rfl,
  i46 := by kernel_rfl,
  i51 := by kernel_rfl,
  i105 := by kernel_rfl,
  i138 := by kernel_rfl,
  i139 := by kernel_rfl,
  i146 := by kernel_rfl,
  m1 := by kernel_rfl,
  s1_3 := fun w h => Go.Proofs.cell_of_shapedOpen_int (zero := #[.int .i64 0]) (t := 3) h (of_decide_eq_true (by kernel_rfl)) (by kernel_rfl) rfl (by kernel_rfl) (by kernel_rfl) Tryz.underlying3,
  m3 := by kernel_rfl,
  m4 := by kernel_rfl }

def Tryz.indexFunc195_ren : Go.Shelf.Ren := ⟨fun | 15 => 195 | 20 => 209 | n => n, fun | 9 => 9 | 23 => 256 | 3 => 3 | 4 => 4 | 0 => 0 | 21 => 21 | n => n, fun | n => n⟩
theorem Tryz.indexFunc195 : Go.Proofs.LaysGw.n15 Tryz.prog Tryz.indexFunc195_ren := {
  mixed := by kernel_rfl,
  f15 := Tryz.func195.trans (congrArg some (by kernel_rfl)),
  f20 := Tryz.func209.trans (congrArg some (by kernel_rfl)),
  t0 := Tryz.underlying0,
  a0 := Tryz.isAgg0,
  z0 := Tryz.sizeOf0,
  v0 := Tryz.zeroValue0,
  i0 := by kernel_rfl,
  t3 := Tryz.underlying3,
  a3 := Tryz.isAgg3,
  z3 := Tryz.sizeOf3,
  v3 := Tryz.zeroValue3,
  i3 := by kernel_rfl,
  t4 := Tryz.underlying4,
  a4 := Tryz.isAgg4,
  z4 := Tryz.sizeOf4,
  v4 := Tryz.zeroValue4,
  i4 := by kernel_rfl,
  t9 := Tryz.underlying9,
  a9 := Tryz.isAgg9,
  z9 := Tryz.sizeOf9,
  v9 := Tryz.zeroValue9,
  i9 := by kernel_rfl,
  t21 := Tryz.underlying21,
  a21 := Tryz.isAgg21,
  z21 := Tryz.sizeOf21,
  v21 := Tryz.zeroValue21,
  i21 := by kernel_rfl,
  t23 := Tryz.underlying256,
  a23 := Tryz.isAgg256,
  z23 := Tryz.sizeOf256,
  v23 := Tryz.zeroValue256,
  i23 := by kernel_rfl }

def Tryz.indexDom120_ren : Go.Shelf.Ren := ⟨fun | 6 => 120 | n => n, fun | 22 => 24 | 23 => 31 | 25 => 184 | 3 => 3 | 0 => 0 | 4 => 4 | n => n, fun | n => n⟩
theorem Tryz.indexDom120 : Go.Proofs.SlLaysH0.n6 Tryz.prog Tryz.indexDom120_ren := {
  mixed := by kernel_rfl,
  f6 := ⟨Tryz.f120.name, by decide, Tryz.func120.trans (congrArg some (by kernel_rfl))⟩,
  t0 := Tryz.underlying0,
  a0 := Tryz.isAgg0,
  z0 := Tryz.sizeOf0,
  v0 := Tryz.zeroValue0,
  t3 := Tryz.underlying3,
  a3 := Tryz.isAgg3,
  z3 := Tryz.sizeOf3,
  v3 := Tryz.zeroValue3,
  t4 := Tryz.underlying4,
  a4 := Tryz.isAgg4,
  z4 := Tryz.sizeOf4,
  v4 := Tryz.zeroValue4,
  t22 := Tryz.underlying24,
  a22 := Tryz.isAgg24,
  z22 := Tryz.sizeOf24,
  v22 := Tryz.zeroValue24,
  t25 := Tryz.underlying184,
  a25 := Tryz.isAgg184,
  z25 := Tryz.sizeOf184,
  v25 := Tryz.zeroValue184 }

def Tryz.reverse122_ren : Go.Shelf.Ren := ⟨fun | 35 => 122 | n => n, fun | 22 => 34 | 23 => 3 | 3 => 3 | 4 => 4 | 0 => 0 | n => n, fun | n => n⟩
theorem Tryz.reverse122 : Go.Proofs.SlLaysN.n35 Tryz.prog Tryz.reverse122_ren := {
  mixed := by kernel_rfl,
  f35 := ⟨Tryz.f122.name, by decide, Tryz.func122.trans (congrArg some (by kernel_rfl))⟩,
  t0 := Tryz.underlying0,
  a0 := Tryz.isAgg0,
  z0 := Tryz.sizeOf0,
  v0 := Tryz.zeroValue0,
  t3 := Tryz.underlying3,
  a3 := Tryz.isAgg3,
  z3 := Tryz.sizeOf3,
  v3 := Tryz.zeroValue3,
  t4 := Tryz.underlying4,
  a4 := Tryz.isAgg4,
  z4 := Tryz.sizeOf4,
  v4 := Tryz.zeroValue4,
  t22 := Tryz.underlying34,
  a22 := Tryz.isAgg34,
  z22 := Tryz.sizeOf34,
  v22 := Tryz.zeroValue34,
  t23 := Tryz.underlying3,
  a23 := Tryz.isAgg3,
  z23 := Tryz.sizeOf3,
  v23 := Tryz.zeroValue3 }


/-- How many bits a number has. -/
def bl (m : Nat) : Nat := if m = 0 then 0 else 1 + bl (m / 2)
termination_by m
decreasing_by omega

theorem bl_zero : bl 0 = 0 := by unfold bl; rfl
theorem bl_pos {m : Nat} (h : m ≠ 0) : bl m = 1 + bl (m / 2) := by
  conv => lhs; unfold bl
  rw [if_neg h]

theorem bl_le : ∀ (j m : Nat), m < 2 ^ j → bl m ≤ j
  | 0, m, h => by have : m = 0 := by simpa using h
                  subst this; rw [bl_zero]; exact Nat.le_refl _
  | j + 1, m, h => by
    by_cases hm : m = 0
    · subst hm; rw [bl_zero]; exact Nat.zero_le _
    · rw [bl_pos hm]
      have := bl_le j (m / 2) (by rw [Nat.pow_succ] at h; omega)
      omega

theorem lt_bl (m : Nat) : m < 2 ^ bl m := by
  induction m using Nat.strongRecOn with
  | _ m ih =>
    by_cases hm : m = 0
    · subst hm; rw [bl_zero]; decide
    · rw [bl_pos hm, Nat.add_comm, Nat.pow_succ]
      have := ih (m / 2) (by omega)
      omega

/-- The bits of so many values. -/
def widthN (n : Nat) : Nat := bl (n - 1)

set_option maxRecDepth 100000 in
theorem width_any {w : World} {n : Nat} (h1 : 1 ≤ n) (h2 : n ≤ 4611686018427387903) : Calls Tryz.prog 172 #[.int .i64 n] w fun e w' => e = .returned (.tuple #[.int .i64 (widthN n : Nat), .int .i64 0]) ∧ w = w' := by
  obtain ⟨m0, hm0⟩ : ∃ m, n = m + 1 := ⟨n - 1, by omega⟩
  subst hm0
  obtain ⟨R, hR⟩ : ∃ R, R = widthN (m0 + 1) := ⟨_, rfl⟩
  have hR' : R = bl m0 := by rw [hR]; unfold widthN; rw [Nat.add_sub_cancel]
  rw [← hR]
  have hRb : R ≤ 62 := by
    rw [hR']
    exact bl_le 62 m0 (by have : (2 : Nat) ^ 62 = 4611686018427387904 := by decide
                          omega)
  have HR := Lib.hid hR'
  clear hR hR'
  have t1 : decide (((m0 : Int) + 1) < 1) = false := by simp; omega
  have t2 : decide ((4611686018427387903 : Int) < (m0 : Int) + 1) = false := by simp; omega
  push_cast
  go_enter Tryz.func172, Tryz.ntmps172
  go_wp2
  go_loop [4, 5] (fun a b => ∃ k m : Nat, a = .int .i64 k ∧ b = .int .i64 m ∧ Hid (k + bl m = R) ∧ m ≤ m0 ∧ k ≤ R) (fun _ b => (intOf b).toNat)
  case atStart => exact ⟨0, m0, rfl, by go_num, by rw [HR.out]; exact Nat.zero_add _, Nat.le_refl _, Nat.zero_le _⟩
  case round =>
    obtain ⟨k, m, rfl, rfl, HK, hm, hk⟩ := hrel
    by_cases hz : m = 0
    · subst hz
      have hkr : k = R := by have := HK.out; rw [bl_zero] at this; omega
      have HKR := Lib.hid hkr
      clear hkr
      go_wp2
      go_ret2
      exact ⟨by rw [HKR.out]; rfl, rfl⟩
    · have hz0 : 0 < m := by omega
      have hz1 : decide ((0 : Int) < (m : Int)) = true := by simp; omega
      have HZ := Lib.hid hz
      have hk1 : k + 1 ≤ R := by have := HK.out; rw [bl_pos hz] at this; omega
      have HN : Hid (k + 1 + bl (m / 2) = R) := by have := HK.out; rw [bl_pos hz] at this; show _ = _; omega
      clear hz
      go_wp2
      go_round
      case rel => exact ⟨k + 1, m / 2, by go_num, by push_cast; rfl, HN, by omega, hk1⟩
      case measure => simp [intOf]; omega

theorem width_bad {w : World} {n : Int} (h : n < 1 ∨ 4611686018427387903 < n) : Calls Tryz.prog 172 #[.int .i64 n] w fun e w' => e = .returned (.tuple #[.int .i64 0, .int .i64 1]) ∧ w = w' := by
  rcases h with h | h
  · go_enter Tryz.func172, Tryz.ntmps172
    go_wp2
    go_ret2
    exact ⟨rfl, rfl⟩
  · have h' : ¬ n < 1 := by omega
    go_enter Tryz.func172, Tryz.ntmps172
    go_wp2
    go_ret2
    exact ⟨rfl, rfl⟩

/-- No letter and no digit. -/
def oddR (x : Nat) : Bool := (decide (x < 97) || decide (122 < x)) && (decide (x < 65) || decide (90 < x)) && (decide (x < 48) || decide (57 < x))

set_option maxRecDepth 100000 in
theorem odd_any (x : Nat) (w : World) : Calls Tryz.prog 194 #[.int .i32 x] w fun e w' => e = .returned (.bool (oddR x)) ∧ w = w' := by
  rcases (show x < 48 ∨ (48 ≤ x ∧ x ≤ 57) ∨ (57 < x ∧ x < 65) ∨ (65 ≤ x ∧ x ≤ 90) ∨ (90 < x ∧ x < 97) ∨ (97 ≤ x ∧ x ≤ 122) ∨ 122 < x by omega) with h | ⟨h, h'⟩ | ⟨h, h'⟩ | ⟨h, h'⟩ | ⟨h, h'⟩ | ⟨h, h'⟩ | h
  all_goals
    obtain ⟨R, hR⟩ : ∃ R, R = oddR x := ⟨_, rfl⟩
    have hR2 := hR
    simp only [oddR] at hR2
    rw [← hR]
  · have e : R = true := by rw [hR2]; simp; omega
    have HE := Lib.hid e
    have a1 : decide ((x : Int) < 97) = true := by simp; omega
    have a2 : decide ((122 : Int) < (x : Int)) = false := by simp; omega
    have a3 : decide ((x : Int) < 65) = true := by simp; omega
    have a4 : decide ((90 : Int) < (x : Int)) = false := by simp; omega
    have a5 : decide ((x : Int) < 48) = true := by simp; omega
    have a6 : decide ((57 : Int) < (x : Int)) = false := by simp; omega
    clear hR hR2 e
    go_enter Tryz.func194, Tryz.ntmps194
    go_wp2
    go_ret
    exact ⟨by rw [HE.out]; rfl, rfl⟩
  · have e : R = false := by rw [hR2]; simp; omega
    have HE := Lib.hid e
    have a1 : decide ((x : Int) < 97) = true := by simp; omega
    have a2 : decide ((122 : Int) < (x : Int)) = false := by simp; omega
    have a3 : decide ((x : Int) < 65) = true := by simp; omega
    have a4 : decide ((90 : Int) < (x : Int)) = false := by simp; omega
    have a5 : decide ((x : Int) < 48) = false := by simp; omega
    have a6 : decide ((57 : Int) < (x : Int)) = false := by simp; omega
    clear hR hR2 e
    go_enter Tryz.func194, Tryz.ntmps194
    go_wp2
    go_ret
    exact ⟨by rw [HE.out]; rfl, rfl⟩
  · have e : R = true := by rw [hR2]; simp; omega
    have HE := Lib.hid e
    have a1 : decide ((x : Int) < 97) = true := by simp; omega
    have a2 : decide ((122 : Int) < (x : Int)) = false := by simp; omega
    have a3 : decide ((x : Int) < 65) = true := by simp; omega
    have a4 : decide ((90 : Int) < (x : Int)) = false := by simp; omega
    have a5 : decide ((x : Int) < 48) = false := by simp; omega
    have a6 : decide ((57 : Int) < (x : Int)) = true := by simp; omega
    clear hR hR2 e
    go_enter Tryz.func194, Tryz.ntmps194
    go_wp2
    go_ret
    exact ⟨by rw [HE.out]; rfl, rfl⟩
  · have e : R = false := by rw [hR2]; simp; omega
    have HE := Lib.hid e
    have a1 : decide ((x : Int) < 97) = true := by simp; omega
    have a2 : decide ((122 : Int) < (x : Int)) = false := by simp; omega
    have a3 : decide ((x : Int) < 65) = false := by simp; omega
    have a4 : decide ((90 : Int) < (x : Int)) = false := by simp; omega
    have a5 : decide ((x : Int) < 48) = false := by simp; omega
    have a6 : decide ((57 : Int) < (x : Int)) = true := by simp; omega
    clear hR hR2 e
    go_enter Tryz.func194, Tryz.ntmps194
    go_wp2
    go_ret
    exact ⟨by rw [HE.out]; rfl, rfl⟩
  · have e : R = true := by rw [hR2]; simp; omega
    have HE := Lib.hid e
    have a1 : decide ((x : Int) < 97) = true := by simp; omega
    have a2 : decide ((122 : Int) < (x : Int)) = false := by simp; omega
    have a3 : decide ((x : Int) < 65) = false := by simp; omega
    have a4 : decide ((90 : Int) < (x : Int)) = true := by simp; omega
    have a5 : decide ((x : Int) < 48) = false := by simp; omega
    have a6 : decide ((57 : Int) < (x : Int)) = true := by simp; omega
    clear hR hR2 e
    go_enter Tryz.func194, Tryz.ntmps194
    go_wp2
    go_ret
    exact ⟨by rw [HE.out]; rfl, rfl⟩
  · have e : R = false := by rw [hR2]; simp; omega
    have HE := Lib.hid e
    have a1 : decide ((x : Int) < 97) = false := by simp; omega
    have a2 : decide ((122 : Int) < (x : Int)) = false := by simp; omega
    have a3 : decide ((x : Int) < 65) = false := by simp; omega
    have a4 : decide ((90 : Int) < (x : Int)) = true := by simp; omega
    have a5 : decide ((x : Int) < 48) = false := by simp; omega
    have a6 : decide ((57 : Int) < (x : Int)) = true := by simp; omega
    clear hR hR2 e
    go_enter Tryz.func194, Tryz.ntmps194
    go_wp2
    go_ret
    exact ⟨by rw [HE.out]; rfl, rfl⟩
  · have e : R = true := by rw [hR2]; simp; omega
    have HE := Lib.hid e
    have a1 : decide ((x : Int) < 97) = false := by simp; omega
    have a2 : decide ((122 : Int) < (x : Int)) = true := by simp; omega
    have a3 : decide ((x : Int) < 65) = false := by simp; omega
    have a4 : decide ((90 : Int) < (x : Int)) = true := by simp; omega
    have a5 : decide ((x : Int) < 48) = false := by simp; omega
    have a6 : decide ((57 : Int) < (x : Int)) = true := by simp; omega
    clear hR hR2 e
    go_enter Tryz.func194, Tryz.ntmps194
    go_wp2
    go_ret
    exact ⟨by rw [HE.out]; rfl, rfl⟩

/-- A domain's name. -/
def nameB (s : ByteArray) : Bool := !s.toList.isEmpty && decide (s.size ≤ 16) && decide (Lib.idxFunc oddR true s < 0)

theorem odd_gives (W : World) (x : Nat) : FnGives Tryz.prog 194 #[] #[encR x] (.bool (oddR x)) W := by
  unfold FnGives
  rw [Array.append_empty]
  exact (odd_any x W).mono fun e w' ⟨he, hw⟩ => ⟨he, 0, hw.symm⟩

theorem odd_runes (w : World) : PredAtRunes Tryz.prog 194 #[] oddR w := fun W x _ _ => odd_gives W x

set_option maxRecDepth 100000 in
theorem name_any (s : ByteArray) (w : World) (hs : s.size ≤ 1000000) : Calls Tryz.prog 173 #[.string s] w fun e w' => e = .returned (.bool (nameB s)) ∧ Below w.heap.size w w' := by
  have eg : ∀ args w, (callFunc 194 args).run Tryz.prog w = .ok (.enter 194 args) w := enters_of Tryz.func194 (by kernel_rfl) rfl
  have HI := Lib.hid (Any.strings_IndexFunc_runes (ρ := Tryz.indexFunc195_ren) Tryz.indexFunc195 194 #[] eg oddR s w (odd_runes w))
  obtain ⟨R, hR⟩ : ∃ R, R = nameB s := ⟨_, rfl⟩
  have hR2 := hR
  unfold nameB at hR2
  rw [← hR]
  clear hR eg
  rcases he : s.toList with _ | ⟨x, l⟩
  · have h1 : s.toList.isEmpty = true := by rw [he]; rfl
    have hv : R = false := by rw [hR2, h1]; rfl
    have HV := Lib.hid hv
    clear hv hR2
    go_enter Tryz.func173, Tryz.ntmps173
    go_wp2
    go_ret
    exact ⟨by rw [HV.out]; rfl, Below.refl _ _⟩
  · have h1 : s.toList.isEmpty = false := by rw [he]; rfl
    have HX := Lib.hid he
    clear he
    by_cases h16 : s.size ≤ 16
    · obtain ⟨i, hi⟩ : ∃ i, i = Lib.idxFunc oddR true s := ⟨_, rfl⟩
      rw [← hi] at HI hR2
      clear hi
      have h3 : decide ((s.size : Int) ≤ 16) = true := by simp; omega
      by_cases hneg : i < 0
      · have hv : R = true := by rw [hR2, h1]; simp [h16, hneg]
        have HV := Lib.hid hv
        clear hv hR2
        go_enter Tryz.func173, Tryz.ntmps173
        go_wp2_with (go_at_call 195; refine HI.out.mono ?_; rintro e w' ⟨rfl, hb⟩)
        go_ret
        exact ⟨by rw [HV.out]; rfl, hb⟩
      · have hv : R = false := by rw [hR2]; simp [hneg]
        have h4 : decide (i < 0) = false := by simpa using hneg
        have HV := Lib.hid hv
        clear hv hR2
        go_enter Tryz.func173, Tryz.ntmps173
        go_wp2_with (go_at_call 195; refine HI.out.mono ?_; rintro e w' ⟨rfl, hb⟩)
        go_ret
        exact ⟨by rw [HV.out]; rfl, hb⟩
    · have hv : R = false := by rw [hR2]; simp [h16]
      have h3 : decide ((s.size : Int) ≤ 16) = false := by simp; omega
      have HV := Lib.hid hv
      clear hv hR2
      go_enter Tryz.func173, Tryz.ntmps173
      go_wp2
      go_ret
      exact ⟨by rw [HV.out]; rfl, Below.refl _ _⟩

end Go.Proofs.YtndefnfknhjfkaaGreatDoor

/- The widths of domains. -/
namespace Go.Proofs.YtndefnfknhjfkaaGreatDoor
open Go.RowKit Go.Maps Go.Proofs.Osier

theorem u131 : Tryz.prog.underlying 131 = some (.map 9 4) := by kernel_rfl
theorem u9 : Tryz.prog.underlying 9 = some .string := by kernel_rfl

/-- A map from texts to bools, of the call's own. -/
def SMap (w : World) (b n : Nat) (f : List UInt8 → Bool) : Prop :=
  ∃ D : DataW Unit, w.ownsMap Tryz.prog 9 (plainElem Tryz.prog 4) b n D ∧ ∀ l : List UInt8, D.atKey (.string l) (.lit (.bool false)) = .lit (.bool (f l))

theorem SMap.made (w : World) : SMap (w.alloc (.map #[] 0)) w.heap.size 0 (fun _ => false) := ⟨.map [], World.ownsMap_made w _ _ _, fun _ => rfl⟩
theorem SMap.lt {w : World} {b n : Nat} {f : List UInt8 → Bool} (h : SMap w b n f) : b < w.heap.size := by
  obtain ⟨D, h, _⟩ := h; exact h.lt
theorem SMap.kept {w w' : World} {b n : Nat} {f : List UInt8 → Bool} (h : SMap w b n f) (hh : w'.heap[b]? = w.heap[b]?) : SMap w' b n f := by
  obtain ⟨D, ⟨es, clock, hb, r⟩, h2⟩ := h
  exact ⟨D, ⟨es, clock, hh.trans hb, r⟩, h2⟩
theorem SMap.below {w w' : World} {b n : Nat} {f : List UInt8 → Bool} (h : SMap w b n f) (k : Below w.heap.size w w') : SMap w' b n f := h.kept (k.block b h.lt)
theorem SMap.ne_blk {w : World} {b n : Nat} {f : List UInt8 → Bool} (h : SMap w b n f) {g : Nat} {t : TypeId} {cs : Array Value} (hb : Blk w g t cs) : g ≠ b := by
  rintro rfl
  obtain ⟨D, ⟨es, clock, hm, r⟩, h2⟩ := h
  unfold Blk at hb
  rw [hm] at hb
  cases hb

theorem SMap.look {w : World} {b n : Nat} {f : List UInt8 → Bool} (h : SMap w b n f) {s : ByteArray} (hs : s.size ≤ 1000000) :
    (Instr.lookup 131 (.map (some b)) (.string s) false).run Tryz.prog w = .ok (.bool (f s.data.toList)) w := by
  obtain ⟨D, hown, hat⟩ := h
  obtain ⟨v, ps, hrun, hv⟩ := hown.lookup (string_keyed u9) u131 (zero4 w) (plainElem_bool u4 false) (WideMaps.keyOf_string_mk u9 (s := s) (by unfold maxLen; omega))
  rw [hat s.data.toList] at hv
  cases v <;> simp [plainElem] at hv
  rw [hrun, hv.1]

theorem SMap.store {w : World} {b n : Nat} {f : List UInt8 → Bool} (h : SMap w b n f) {s : ByteArray} (hs : s.size ≤ 1000000) (hn : n < 1000000) (v : Bool) :
    ∃ w', (Instr.mapUpdate 131 (.map (some b)) (.string s) (.bool v)).run Tryz.prog w = .ok () w' ∧ SMap w' b (n + 1) (fun l => if l = s.data.toList then v else f l) ∧ w.grownBy w' (some b) := by
  obtain ⟨D, hown, hat⟩ := h
  have hk9 := WideMaps.keyOf_string_mk (P := Tryz.prog) u9 (s := s) (by unfold maxLen; omega)
  obtain ⟨w', hrun, hown', hg⟩ := hown.store (string_keyed u9) u131 (by unfold maxLen; omega) hk9 (plainElem_bool u4 v)
  have hkey : WideAt.IsKeyLit (.string s.data.toList) := (string_keyed u9).key hk9
  refine ⟨w', hrun, ⟨_, hown', fun l => ?_⟩, hg.grown⟩
  by_cases hy : l = s.data.toList
  · subst hy; simp only [if_true]; rw [atKey_put_same hown.isMap hkey]
  · simp only [if_neg hy]; rw [atKey_put_other (by intro e; apply hy; simpa using e), hat]

/-- Domains, wherever they stand. -/
def DomsIn (w : World) (p : Option Addr) (ds : List (ByteArray × Int)) : Prop := ds = [] ∨ ∃ b off : Nat, p = some ⟨b, off, none⟩ ∧ b < w.heap.size ∧ ∀ j nm sz, ds[j]? = some (nm, sz) → w.cell? ⟨b, off + j * 2, none⟩ = some (.string nm) ∧ w.cell? ⟨b, off + j * 2 + 1, none⟩ = some (.int .i64 sz)

theorem DomsIn.below {w w' : World} {p : Option Addr} {ds : List (ByteArray × Int)} (h : DomsIn w p ds) (k : Below w.heap.size w w') : DomsIn w' p ds := by
  rcases h with h | ⟨b, off, e, hb, hc⟩
  · exact .inl h
  · exact .inr ⟨b, off, e, Nat.lt_of_lt_of_le hb k.size, fun j nm sz hj => ⟨(k.cell (p := ⟨b, off + j * 2, none⟩) hb).trans (hc j nm sz hj).1, (k.cell (p := ⟨b, off + j * 2 + 1, none⟩) hb).trans (hc j nm sz hj).2⟩⟩

theorem DomsIn.get {w : World} {p : Option Addr} {ds : List (ByteArray × Int)} (h : DomsIn w p ds) {j : Nat} {nm : ByteArray} {sz : Int} (hj : ds[j]? = some (nm, sz)) :
    ∃ b off, p = some ⟨b, off, none⟩ ∧ w.cell? ⟨b, off + j * 2, none⟩ = some (.string nm) ∧ w.cell? ⟨b, off + j * 2 + 1, none⟩ = some (.int .i64 sz) ∧ b < w.heap.size := by
  rcases h with h | ⟨b, off, e, hb, hc⟩
  · subst h; simp at hj
  · exact ⟨b, off, e, (hc j nm sz hj).1, (hc j nm sz hj).2, hb⟩

def okD (seen : List (List UInt8)) (d : ByteArray × Int) : Bool := decide (1 ≤ d.2) && decide (d.2 ≤ 1073741824) && nameB d.1 && !decide (d.1.data.toList ∈ seen)
def seenD (ds : List (ByteArray × Int)) (j : Nat) : List (List UInt8) := (ds.take j).map fun d => d.1.data.toList
def okTo (ds : List (ByteArray × Int)) (j : Nat) : Prop := ∀ i d, i < j → ds[i]? = some d → okD (seenD ds i) d = true
def wds (ds : List (ByteArray × Int)) : List Nat := ds.map fun d => widthN d.2.toNat

theorem seenD_succ {ds : List (ByteArray × Int)} {j : Nat} {d : ByteArray × Int} (h : ds[j]? = some d) : seenD ds (j + 1) = seenD ds j ++ [d.1.data.toList] := by
  simp [seenD, List.take_add_one, h]
theorem wds_succ {ds : List (ByteArray × Int)} {j : Nat} {d : ByteArray × Int} (h : ds[j]? = some d) : (wds ds).take (j + 1) = (wds ds).take j ++ [widthN d.2.toNat] := by
  simp [wds, List.take_add_one, h]

/-- What widths answers and leaves. -/
def WidP (ds : List (ByteArray × Int)) (w : World) (e : Ending) (w' : World) : Prop :=
  (okTo ds ds.length ∧ ∃ q cap, e = .returned (.tuple #[.slice q ds.length cap, .int .i64 ((wds ds).sum : Nat), .bool (decide ((wds ds).sum ≤ 256) && decide (ds.length ≤ 32))]) ∧ RowIn w' q (wds ds) ∧ Below w.heap.size w w') ∨
  (¬ okTo ds ds.length ∧ e = .returned (.tuple #[.slice none 0 0, .int .i64 0, .bool false]) ∧ Below w.heap.size w w')

theorem width_le {z : Nat} (h : z ≤ 1073741824) : widthN z ≤ 30 := by
  refine bl_le 30 (z - 1) ?_
  have : (2 : Nat) ^ 30 = 1073741824 := by decide
  omega

theorem not_okTo {ds : List (ByteArray × Int)} {j : Nat} {d : ByteArray × Int} (h : ds[j]? = some d) (hb : okD (seenD ds j) d = false) : ¬ okTo ds ds.length := fun hk => by
  have := hk j d (List.getElem?_eq_some_iff.1 h).1 h
  rw [hb] at this
  cases this

set_option maxHeartbeats 4000000 in
set_option maxRecDepth 100000 in
theorem widths_any {w : World} {p : Option Addr} {ds : List (ByteArray × Int)} (hd : DomsIn w p ds) (hlen : ds.length ≤ 1000) (hnm : ∀ d ∈ ds, d.1.size ≤ 1000000) (cap : Nat) :
    Calls Tryz.prog 118 #[.slice p ds.length cap] w (WidP ds w) := by
  have HD := Lib.hid hd
  have HNM := Lib.hid hnm
  have hmm := @run_makeMap Tryz.prog
  obtain ⟨n, hn⟩ : ∃ n, n = ds.length := ⟨_, rfl⟩
  have HN := Lib.hid hn
  rw [← hn] at hlen ⊢
  clear hd hnm hn
  go_enter Tryz.func118, Tryz.ntmps118
  go_wp2
  have hm0 : SMap (w.alloc (.map #[] 0)) w.heap.size 0 (fun l => decide (l ∈ seenD ds 0)) := by
    have := SMap.made w
    simpa [seenD] using this
  have HM0 := Lib.hid hm0
  have HB0 : Hid (Below w.heap.size w (w.alloc (.map #[] 0))) := (Below.refl _ _).alloc (Nat.le_refl _) _
  clear hm0
  generalize w.alloc (.map #[] 0) = w2 at *
  obtain ⟨mb, hmb⟩ : ∃ z, z = w.heap.size := ⟨_, rfl⟩
  rw [← hmb] at HM0 ⊢
  have HMB := Lib.hid hmb
  clear hmb
  obtain ⟨i0, hi0, hz0, hz1, hz2⟩ := info_parts info3e
  go_loopg [2, 3, 13] n (fun g l s i wr => ∃ (j sm : Nat), g = n - j ∧ j ≤ n ∧ i = .int .i64 j ∧ wr.ownsRow w.heap.size 3 1 l j (ints ((wds ds).take j)) ∧ s = .int .i64 sm ∧ Hid (sm = ((wds ds).take j).sum) ∧ sm ≤ 30 * j ∧ SMap wr mb j (fun l => decide (l ∈ seenD ds j)) ∧ Below w.heap.size w wr ∧ Hid (okTo ds j))
  case atStart => exact ⟨0, 0, rfl, by omega, rfl, World.ownsRow_nil _ _ _ _, rfl, rfl, by omega, HM0.out, HB0.out, fun i d h => absurd h (by omega)⟩
  case round =>
    obtain ⟨j, sm, hg, hj, rfl, hown, rfl, HSM, hsm, hmap, hbl, HOK⟩ := hrel
    have HG := Lib.hid hg
    have HOWN := Lib.hid hown
    have HMAP := Lib.hid hmap
    have HBL := Lib.hid hbl
    clear hg
    by_cases hjn : j < n
    · obtain ⟨⟨nm, sz⟩, hdj⟩ : ∃ d, ds[j]? = some d := ⟨_, List.getElem?_eq_getElem (by rw [← HN.out]; exact hjn)⟩
      obtain ⟨b, off, rfl, hc1, hc2, hbs⟩ := (HD.out.below hbl).get hdj
      have hns : nm.size ≤ 1000000 := HNM.out _ (List.mem_of_getElem? hdj)
      have HDJ := Lib.hid hdj
      clear hdj
      by_cases hbad : sz < 1 ∨ 4611686018427387903 < sz
      · have HWB := Lib.hid (fun W => width_bad (w := W) hbad)
        have hko : ¬ okTo ds ds.length := not_okTo HDJ.out (by simp [okD]; omega)
        have HKO := Lib.hid hko
        clear hbad hown hmap hko
        go_wp2_with (go_at_call 172; refine (HWB.out _).mono ?_; rintro e w' ⟨rfl, rfl⟩)
        go_ret3
        exact .inr ⟨HKO.out, rfl, HBL.out.alloc HBL.out.size _⟩
      · obtain ⟨z, rfl⟩ : ∃ z : Nat, sz = (z : Int) := ⟨sz.toNat, by omega⟩
        have hz : 1 ≤ z ∧ z ≤ 4611686018427387903 := by omega
        have HWG := Lib.hid (fun W => width_any (w := W) hz.1 hz.2)
        have hz9 := hz.1
        clear hbad hz
        by_cases hbig : 1073741824 < z
        · have t1 : decide ((1073741824 : Int) < (z : Int)) = true := by simp; omega
          have hko : ¬ okTo ds ds.length := not_okTo HDJ.out (by simp [okD]; omega)
          have HKO := Lib.hid hko
          clear hown hmap hko hbig hz9
          go_wp2_with (go_at_call 172; refine (HWG.out _).mono ?_; rintro e w' ⟨rfl, rfl⟩)
          go_ret3
          exact .inr ⟨HKO.out, rfl, HBL.out.alloc HBL.out.size _⟩
        · have t1 : decide ((1073741824 : Int) < (z : Int)) = false := by simp; omega
          have hw30 : widthN z ≤ 30 := width_le (by omega)
          have HNA := Lib.hid (fun W => name_any nm W hns)
          have hbig' : z ≤ 1073741824 := by omega
          have HZ := Lib.hid (And.intro hz9 hbig')
          clear hbig hbig' hz9
          obtain ⟨nb, hnb⟩ : ∃ q, q = nameB nm := ⟨_, rfl⟩
          rw [← hnb] at HNA
          have HNB := Lib.hid hnb
          clear hnb
          obtain ⟨wd, hwd⟩ : ∃ q, q = widthN z := ⟨_, rfl⟩
          rw [← hwd] at hw30 HWG
          have HWD := Lib.hid hwd
          clear hwd
          have hb7 := Blk.new wr 31 #[.string nm, .int .i64 (z : Int)]
          have hbA : Below wr.heap.size wr (wr.alloc (.cells #[.string nm, .int .i64 (z : Int)] 31)) := (Below.refl _ _).alloc (Nat.le_refl _) _
          have HB7 := Lib.hid hb7
          have HBA := Lib.hid hbA
          clear hb7 hbA hown hmap
          cases nb
          · have hko : ¬ okTo ds ds.length := not_okTo HDJ.out (by simp [okD, ← HNB.out])
            have HKO := Lib.hid hko
            clear hko
            go_wp2_with (go_at_call 172; refine (HWG.out _).mono ?_; rintro e w' ⟨rfl, rfl⟩)
            refine (HNA.out _).mono ?_
            rintro e w5 ⟨rfl, hb5⟩
            have HB5 := Lib.hid hb5
            clear hb5
            go_wp2
            go_ret3
            exact .inr ⟨HKO.out, rfl, HBL.out.trans ((HBA.out.trans (HB5.out.mono HBA.out.size)).mono HBL.out.size)⟩
          · go_wp2_with (go_at_call 172; refine (HWG.out _).mono ?_; rintro e w' ⟨rfl, rfl⟩)
            refine (HNA.out _).mono ?_
            rintro e w5 ⟨rfl, hb5⟩
            have hbl5 : Below wr.heap.size wr w5 := HBA.out.trans (hb5.mono HBA.out.size)
            have b75 := HB7.out.below hb5 HB7.out.lt
            have k0 : w5.cell? ⟨wr.heap.size, 0, none⟩ = some (.string nm) := b75.cell_of rfl
            have hm5 := HMAP.out.below hbl5
            have hlook := hm5.look hns
            have HBL5 := Lib.hid hbl5
            have HB75 := Lib.hid b75
            have HM5 := Lib.hid hm5
            have hlt5 := b75.lt
            clear hb5 hbl5 b75 hm5
            by_cases hseen : nm.data.toList ∈ seenD ds j
            · have hd9 : decide (nm.data.toList ∈ seenD ds j) = true := by simpa using hseen
              rw [hd9] at hlook
              have hko : ¬ okTo ds ds.length := not_okTo HDJ.out (by simp [okD, hseen])
              have HKO := Lib.hid hko
              clear hko hseen hd9
              go_wp2
              go_ret3
              exact .inr ⟨HKO.out, rfl, HBL.out.trans (HBL5.out.mono HBL.out.size)⟩
            · have hd9 : decide (nm.data.toList ∈ seenD ds j) = false := by simpa using hseen
              rw [hd9] at hlook
              obtain ⟨w6, hrun, hm6, hg6⟩ := HM5.out.store hns (by omega) true
              have hbl6 : Below w.heap.size w w6 := (HBL.out.trans (HBL5.out.mono HBL.out.size)).grown hg6 (by have := HBL.out.size; have := HBL5.out.size; omega) (fun q hq => by injection hq with hq; rw [← hq, HMB.out]; exact Nat.le_refl _)
              have hown6 : w6.ownsRow w.heap.size 3 1 u2 j (ints ((wds ds).take j)) := by
                have h5 := ownsRow_below HBL5.out HOWN.out
                refine ⟨h5.1, ?_⟩
                rcases h5.2 with hz | ⟨g', c', cur, e1, e2, e3, e4⟩
                · exact .inl hz
                · refine .inr ⟨g', c', cur, e1, e2, ?_, e4⟩
                  have hb' : Blk w5 g' 3 cur := e3
                  exact hb'.grown hg6 (fun e => by injection e with e; exact HM5.out.ne_blk hb' e)
              have k06 : w6.cell? ⟨wr.heap.size, 0, none⟩ = some (.string nm) := (HB75.out.grown hg6 (fun e => by injection e with e; exact HM5.out.ne_blk HB75.out e)).cell_of rfl
              have hm6' : SMap w6 mb (j + 1) (fun l => decide (l ∈ seenD ds (j + 1))) := by
                have e : (fun l => if l = nm.data.toList then true else decide (l ∈ seenD ds j)) = fun l => decide (l ∈ seenD ds (j + 1)) := by
                  funext l
                  rw [seenD_succ HDJ.out]
                  by_cases hl : l = nm.data.toList <;> simp [hl]
                rw [← e]; exact hm6
              have hok' : okTo ds (j + 1) := fun i d hi hdi => by
                rcases (show i < j ∨ i = j by omega) with h | h
                · exact HOK.out i d h hdi
                · subst h
                  rw [HDJ.out] at hdi
                  injection hdi with hdi
                  subst hdi
                  have hz := HZ.out
                  simp [okD, ← HNB.out, hseen]
                  omega
              have hsz6 := hbl6.size
              have HBL6 := Lib.hid hbl6
              have HM6 := Lib.hid hm6'
              have HOK' := Lib.hid hok'
              clear hm6 hg6 hbl6 hm6' hok' hseen hd9
              go_wp2_with (at_builtin; refine wpList_append_own_at _ rfl _ _ 34 rfl w.heap.size 3 i0 (.int .i64 0) 1 8 Tryz.underlying34 hi0 hz0 hz1 hz2 rfl (by decide) _ _ _ rfl (hown6.alloc _) ⟨w6.heap.size, 0, none⟩ 1 1 [.int .i64 (wd : Int)] rfl rfl ?c1 ?c2 ?c3 ?c4 ?c5 ?_)
              case c1 => exact cells_new w6 [.int .i64 (wd : Int)] 3
              case c2 => intro u hu; simp at hu; subst hu; rfl
              case c3 => unfold maxLen; omega
              case c4 => omega
              case c5 => simp; omega
              intro v7 w7 o7 g7 n7 a7
              have hof : ∀ g, u2.ownBlock = some g → w.heap.size ≤ g ∧ ∃ cs, Blk w6 g 3 cs := fun g hg => by
                obtain ⟨_, _, _, hh⟩ := own_form hown6
                exact hh g hg
              have b7 : Below w.heap.size w w7 := (HBL6.out.alloc hsz6 (.cells #[.int .i64 (wd : Int)] 3)).grown g7 (by simp; omega) (fun g hg => (hof g hg).1)
              have hm7 : SMap w7 mb (j + 1) (fun l => decide (l ∈ seenD ds (j + 1))) := (HM6.out.kept (Below.heap_alloc _ _ _ HM6.out.lt)).kept (g7.block mb (by have := HM6.out.lt; simp; omega) (fun e => by
                obtain ⟨_, cs, hb⟩ := hof mb e.symm
                exact HM6.out.ne_blk hb rfl))
              have HO7 := Lib.hid o7
              have HB7' := Lib.hid b7
              have HM7 := Lib.hid hm7
              clear o7 g7 n7 a7 hof b7 hm7 hown6
              go_wp2
              go_roundg (n - (j + 1))
              case measure => rw [HG.out]; omega
              case rel =>
                have hts := wds_succ HDJ.out
                refine ⟨j + 1, sm + wd, rfl, by omega, by go_num, ?_, by go_num, ?_, by omega, HM7.out, HB7'.out, HOK'.out⟩
                · have h9 := HO7.out
                  rw [hts]
                  simpa [ints, ← HWD.out] using h9
                · show _ = _
                  rw [hts, List.sum_append, ← HSM.out, HWD.out]
                  simp
    · obtain rfl : j = n := by omega
      have htk : (wds ds).take j = wds ds := List.take_of_length_le (by simp [wds, ← HN.out])
      rw [htk] at hown
      have hsm2 := HSM.out
      rw [htk] at hsm2
      obtain ⟨q, cap', rfl, hrq, hln, _⟩ := rowIn_own (l := wds ds) hown
      have HRQ := Lib.hid hrq
      have HLN := Lib.hid hln
      have HS2 := Lib.hid hsm2
      have hok := HOK.out
      rw [HN.out] at hok
      have HOK2 := Lib.hid hok
      rw [← HLN.out]
      clear hown hmap hbl hrq hln hsm2 htk hok
      by_cases h256 : sm ≤ 256
      · have t1 : decide ((sm : Int) ≤ 256) = true := by simp; omega
        have t2 : decide ((j : Int) ≤ 32) = decide (j ≤ 32) := by simp; omega
        have hq : (decide ((wds ds).sum ≤ 256) && decide (ds.length ≤ 32)) = decide (j ≤ 32) := by
          rw [← HS2.out, ← HN.out]
          simp [h256]
        have HQ := Lib.hid hq
        clear h256 hq
        go_wp2
        go_ret3
        exact .inl ⟨HOK2.out, q, cap', by rw [HQ.out, ← HS2.out, ← HN.out]; rfl, HRQ.out, HBL.out⟩
      · have t1 : decide ((sm : Int) ≤ 256) = false := by simp; omega
        have hq : (decide ((wds ds).sum ≤ 256) && decide (ds.length ≤ 32)) = false := by
          rw [← HS2.out]
          simp [h256]
        have HQ := Lib.hid hq
        clear h256 hq
        go_wp2
        go_ret3
        exact .inl ⟨HOK2.out, q, cap', by rw [HQ.out, ← HS2.out, ← HN.out]; rfl, HRQ.out, HBL.out⟩

end Go.Proofs.YtndefnfknhjfkaaGreatDoor
