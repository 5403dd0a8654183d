/- Walks: the hash table and the store of nodes. -/
import Derived.WalkKit
import Derived.Deep.Draws
import Derived.Laws.Rows
import Derived.Lib.Hide
import Derived.Test.YtndefnfknhjfkaaGreatDoorProg
import Derived.Test.YtndefnfknhjfkaaGreatDoorGa
import Derived.WalkSpells
import Derived.Deep.LoopGhost
import Derived.WalkLawsBesides
import Derived.ChangeKeysEq
import Derived.Deep.QuietTactic
import Derived.BigQuiet
import Derived.Deep.RegionHeld3
import Derived.Maps.AppendAt
import Derived.Deep.RegionWith
import Derived.Tactics
import Derived.Tactics2
import Derived.Defers
import Derived.Laws.Pointers
import Derived.Laws.LoneSync
import Derived.RegionTactic
import Derived.RegionCalls
import Derived.ChangeAlike

/- What blocks of memory hold: a block known whole, and how it is kept. -/
namespace Go.Proofs.Osier
open Go.RowKit

def Blk (w : World) (g : Nat) (t : TypeId) (cs : Array Value) : Prop := w.heap[g]? = some (.cells cs t (0, 0))

section
variable {w w' : World} {g : Nat} {t : TypeId} {cs : Array Value}
theorem Blk.lt (h : Blk w g t cs) : g < w.heap.size := by
  rcases Nat.lt_or_ge g w.heap.size with hlt | hge
  · exact hlt
  · unfold Blk at h; rw [Array.getElem?_eq_none hge] at h; cases h
theorem Blk.cell (h : Blk w g t cs) (i : Nat) : w.cell? ⟨g, i, none⟩ = cs[i]? := cell_of_row w g i cs t (0, 0) h
theorem Blk.cell_of (h : Blk w g t cs) {i : Nat} {v : Value} (hi : cs[i]? = some v) : w.cell? ⟨g, i, none⟩ = some v := (h.cell i).trans hi
theorem Blk.frozen (h : Blk w g t cs) (i : Nat) : w.frozen? ⟨g, i, none⟩ = false := by
  unfold Blk at h
  simp [World.frozen?, h]
theorem Blk.new (w : World) (t : TypeId) (cs : Array Value) : Blk (w.alloc (.cells cs t)) w.heap.size t cs := heap_alloc_new w _
theorem Blk.drew (h : Blk w g t cs) : Blk w.drew g t cs := h
theorem Blk.drewN (h : Blk w g t cs) (n : Nat) : Blk (w.drewN n) g t cs := h
theorem Blk.alloc (h : Blk w g t cs) (o : Obj) : Blk (w.alloc o) g t cs := (Below.heap_alloc w o g h.lt).trans h
theorem Blk.set_ (h : Blk w g t cs) (i : Nat) (u : Value) : Blk (w.setCell ⟨g, i, none⟩ u) g t (cs.setIfInBounds i u) := by
  unfold Blk at h ⊢
  simp [World.setCell, Array.getElem?_modify, h]
theorem Blk.far (h : Blk w g t cs) {p : Addr} (hp : g ≠ p.block) (u : Value) : Blk (w.setCell p u) g t cs := (Below.heap_setCell w p u g hp).trans h
theorem Blk.below {B : Nat} (h : Blk w g t cs) (hb : Below B w w') (hg : g < B) : Blk w' g t cs := (hb.block g hg).trans h
theorem Blk.grown {row : Option Nat} (h : Blk w g t cs) (hb : w.grownBy w' row) (hg : some g ≠ row) : Blk w' g t cs := (hb.block g h.lt hg).trans h
theorem Blk.of (h : Blk w g t cs) (hb : w'.heap[g]? = w.heap[g]?) : Blk w' g t cs := hb.trans h
theorem Blk.ne_ {g' : Nat} {t' : TypeId} {cs' : Array Value} (h : Blk w g t cs) (h' : Blk w g' t' cs') (hne : t ≠ t') : g ≠ g' := by
  rintro rfl
  unfold Blk at h h'
  rw [h] at h'
  injection h' with h'
  injection h' with _ ht
  exact hne ht
end

/-- Of the blocks that were there, only those of a list may have turned. -/
structure Keep (F : List Nat) (w w' : World) : Prop where
  os : w'.os = w.os
  tape : w'.tape = w.tape
  output : w'.output = w.output
  size : w.heap.size ≤ w'.heap.size
  block : ∀ k, k < w.heap.size → k ∉ F → w'.heap[k]? = w.heap[k]?

theorem Keep.refl (F : List Nat) (w : World) : Keep F w w := ⟨rfl, rfl, rfl, Nat.le_refl _, fun _ _ _ => rfl⟩
theorem Keep.drew {F : List Nat} {a w : World} (h : Keep F a w) : Keep F a w.drew := ⟨h.os, h.tape, h.output, h.size, h.block⟩
theorem Keep.drewN {F : List Nat} {a w : World} (h : Keep F a w) (n : Nat) : Keep F a (w.drewN n) := ⟨h.os, h.tape, h.output, h.size, h.block⟩
theorem Keep.alloc {F : List Nat} {a w : World} (h : Keep F a w) (o : Obj) : Keep F a (w.alloc o) :=
  ⟨h.os, h.tape, h.output, Nat.le_trans h.size (by simp), fun k hk hF => (Below.heap_alloc w o k (Nat.lt_of_lt_of_le hk h.size)).trans (h.block k hk hF)⟩
theorem Keep.setCell {F : List Nat} {a w : World} (h : Keep F a w) {p : Addr} (hp : p.block ∈ F ∨ a.heap.size ≤ p.block) (u : Value) : Keep F a (w.setCell p u) :=
  ⟨h.os, h.tape, h.output, by simpa [World.setCell] using h.size, fun k hk hF => (Below.heap_setCell w p u k (by
    rintro rfl
    rcases hp with hp | hp
    · exact hF hp
    · omega)).trans (h.block k hk hF)⟩
theorem Keep.trans {F F' : List Nat} {a b c : World} (h : Keep F a b) (k : Keep F' b c) (hF : ∀ x, x ∈ F' → x ∈ F ∨ a.heap.size ≤ x) : Keep F a c :=
  ⟨k.os.trans h.os, k.tape.trans h.tape, k.output.trans h.output, Nat.le_trans h.size k.size, fun i hi hn => (k.block i (Nat.lt_of_lt_of_le hi h.size) (fun hm => by
    rcases hF i hm with h1 | h1
    · exact hn h1
    · omega)).trans (h.block i hi hn)⟩
theorem Keep.mono {F F' : List Nat} {a b : World} (h : Keep F a b) (hF : ∀ x, x ∈ F → x ∈ F') : Keep F' a b := ⟨h.os, h.tape, h.output, h.size, fun k hk hn => h.block k hk fun hm => hn (hF k hm)⟩
theorem Keep.below {a b : World} (h : Keep [] a b) : Below a.heap.size a b := ⟨h.os, h.tape, h.output, h.size, fun k hk => h.block k hk (by simp)⟩
theorem Keep.of_below {F : List Nat} {a b : World} (h : Below a.heap.size a b) : Keep F a b := ⟨h.os, h.tape, h.output, h.size, fun k hk _ => h.block k hk⟩
theorem Keep.grown {F : List Nat} {a w w' : World} {row : Option Nat} (h : Keep F a w) (hg : w.grownBy w' row) (hr : ∀ g, row = some g → g ∈ F ∨ a.heap.size ≤ g) : Keep F a w' :=
  h.trans (F' := row.toList) ⟨hg.os, hg.tape, hg.output, hg.size, fun k hk hn => hg.block k hk (fun e => hn (by rw [← e]; simp))⟩ (fun x hx => hr x (by simpa using hx))
theorem Keep.blk {F : List Nat} {w w' : World} {g : Nat} {t : TypeId} {cs : Array Value} (h : Keep F w w') (hb : Blk w g t cs) (hF : g ∉ F) : Blk w' g t cs := (h.block g hb.lt hF).trans hb

theorem Keep.cell {F : List Nat} {w w' : World} (h : Keep F w w') {p : Addr} (hp : p.block < w.heap.size) (hF : p.block ∉ F) : w'.cell? p = w.cell? p := World.cell?_of_block (w := w) (h.block p.block hp hF)

end Go.Proofs.Osier

namespace Go.Proofs.YtndefnfknhjfkaaGreatDoor
open Go.RowKit Go.Proofs.Osier

set_option maxHeartbeats 400000 in
theorem given_any (ht pl n : Nat) (len used : Value) (w : World) (hb : Blk w ht 231 #[.slice (some ⟨pl, 0, none⟩) n n, len, used]) (hn : 0 < n) :
    Calls Tryz.prog 168 #[.pointer (some ⟨ht, 0, none⟩)] w fun e w' => e = .returned (.bool true) ∧ w = w' := by
  have h0 : w.cell? ⟨ht, 0, none⟩ = some (.slice (some ⟨pl, 0, none⟩) n n) := hb.cell_of rfl
  go_enter Tryz.func168, Tryz.ntmps168
  go_wp2
  go_ret
  exact ⟨rfl, rfl⟩

theorem ret_int {k : IntKind} {a b : Int} (h : a = b) : Ending.returned (.int k a) = .returned (.int k b) := by rw [h]

/-- One round of the hash. -/
def hmix (n k : Int) : Int := bits .xor .u64 (IntKind.u64.wrap (bits .xor .u64 n (IntKind.u64.wrap k) * 11400714819323198485)) (IntKind.u64.wrap (bits .xor .u64 n (IntKind.u64.wrap k) * 11400714819323198485) / 536870912)
def hash3 (a b c : Int) : Int := hmix (hmix (hmix 0 a) b) c
/-- The hash of a key. -/
def hK (K : Key) : Nat := (hash3 K.1 K.2.1 K.2.2).toNat
/-- A function is the hash: it stands for it where nothing shall look into it. -/
structure IsHash (h : Key → Nat) : Prop where
  eq : ∀ K, h K = hK K

theorem hmix_range (n k : Int) : 0 ≤ hmix n k ∧ hmix n k < 18446744073709551616 := by
  unfold hmix
  generalize bits .xor .u64 n (IntKind.u64.wrap k) * 11400714819323198485 = x
  rw [IntKind.wrap_u64]
  rw [u64_xor (x % 18446744073709551616) (x % 18446744073709551616 / 536870912) (by omega) (by omega) (by omega) (by omega)]
  refine ⟨by omega, ?_⟩
  have := Nat.xor_lt_two_pow (n := 64) (x := (x % 18446744073709551616).toNat) (y := (x % 18446744073709551616 / 536870912).toNat) (by omega) (by omega)
  omega

theorem start_value (a b c : Nat) (n p : Nat) (hp : n = 2 ^ p) (hn' : n ≤ 1048576) : wrap64 (bits .and .u64 (hash3 a b c) (IntKind.u64.wrap ((n : Int) - 1))) = ((hK (a, b, c) % n : Nat) : Int) := by
  obtain ⟨h0, h1⟩ := hmix_range (hmix (hmix 0 a) b) c
  change 0 ≤ hash3 a b c at h0
  change hash3 a b c < 18446744073709551616 at h1
  have hpos : 0 < n := by rw [hp]; exact Nat.pow_pos (by omega)
  rw [IntKind.wrap_u64, u64_and _ _ h0 h1 (by omega) (by omega)]
  have e1 : (((n : Int) - 1) % 18446744073709551616).toNat = n - 1 := by omega
  rw [e1]
  unfold hK
  simp only
  generalize (hash3 a b c).toNat = h
  have e2 : h &&& (n - 1) = h % n := by rw [hp]; exact Nat.and_two_pow_sub_one_eq_mod h p
  rw [e2]
  have := Nat.mod_lt h hpos
  unfold wrap64
  omega

theorem ix41_0 (a b c : Int) (w : World) : (Instr.index 41 (.agg #[.int .i64 a, .int .i64 b, .int .i64 c]) (.int .i64 0)).run Tryz.prog w = .ok (.int .i64 a) w := by kernel_rfl
theorem ix41_1 (a b c : Int) (w : World) : (Instr.index 41 (.agg #[.int .i64 a, .int .i64 b, .int .i64 c]) (.int .i64 1)).run Tryz.prog w = .ok (.int .i64 b) w := by kernel_rfl
theorem ix41_2 (a b c : Int) (w : World) : (Instr.index 41 (.agg #[.int .i64 a, .int .i64 b, .int .i64 c]) (.int .i64 2)).run Tryz.prog w = .ok (.int .i64 c) w := by kernel_rfl

theorem start_ix {h : Key → Nat} (H : IsHash h) (a b c : Nat) (P : List Pl) (p : Nat) (hp : P.length = 2 ^ p) (hn' : P.length ≤ 1048576) :
    wrap64 (bits .and .u64 (hash3 a b c) (IntKind.u64.wrap ((P.length : Int) - 1))) = (Tab.ix h P (a, b, c) 0 : Nat) := by
  rw [start_value a b c _ p hp hn']
  unfold Tab.ix
  rw [Nat.add_zero, H.eq]

set_option maxHeartbeats 400000 in
theorem start_any {h : Key → Nat} (H : IsHash h) (ht pl p : Nat) (P : List Pl) (len used : Value) (a b c : Nat) (w : World) (hb : Blk w ht 231 #[.slice (some ⟨pl, 0, none⟩) P.length P.length, len, used]) (hp : P.length = 2 ^ p) (hn' : P.length ≤ 1048576) :
    Calls Tryz.prog 193 #[.pointer (some ⟨ht, 0, none⟩), .agg #[.int .i64 a, .int .i64 b, .int .i64 c]] w fun e w' => e = .returned (.int .i64 (Tab.ix h P (a, b, c) 0 : Nat)) ∧ Below w.heap.size w w' := by
  have h0 : w.cell? ⟨ht, 0, none⟩ = some (.slice (some ⟨pl, 0, none⟩) P.length P.length) := hb.cell_of rfl
  have hlt := hb.lt
  have HV := Lib.hid (start_ix H a b c P p hp hn')
  clear hp
  go_enter Tryz.func193, Tryz.ntmps193
  go_wp2
  refine wp_loop_rounds 4 ?_
  rw [rounds_succ]
  have i0 := ix41_0 a b c
  go_wp2
  rw [rounds_succ]
  have i0 := ix41_1 a b c
  go_wp2
  rw [rounds_succ]
  have i0 := ix41_2 a b c
  go_wp2
  rw [rounds_succ]
  go_wp2
  go_ret
  exact ⟨ret_int HV.out, (Below.refl _ _).alloc (Nat.le_refl _) _⟩

theorem info3 : ∃ i, Tryz.prog.info? 3 = some i := by
  cases h : Tryz.prog.info? 3 with
  | some i => exact ⟨i, rfl⟩
  | none => 
    have h2 : (Tryz.prog.info? 3).isSome = true := by kernel_rfl
    rw [h] at h2; cases h2

theorem part3_0 (a b c : Int) (w : World) : (part 3 #[.int .i64 a, .int .i64 b, .int .i64 c] 0).run Tryz.prog w = .ok (.int .i64 a) w := by kernel_rfl
theorem part3_1 (a b c : Int) (w : World) : (part 3 #[.int .i64 a, .int .i64 b, .int .i64 c] 1).run Tryz.prog w = .ok (.int .i64 b) w := by kernel_rfl
theorem part3_2 (a b c : Int) (w : World) : (part 3 #[.int .i64 a, .int .i64 b, .int .i64 c] 2).run Tryz.prog w = .ok (.int .i64 c) w := by kernel_rfl
theorem cells3 : Tryz.prog.cellsOf 3 = 1 := by kernel_rfl

theorem eq41_in (d : Nat) (a b c a' b' c' : Int) (w : World) : (Op.equalIn (d + 2) 41 (.agg #[.int .i64 a, .int .i64 b, .int .i64 c]) (.agg #[.int .i64 a', .int .i64 b', .int .i64 c'])).run Tryz.prog w = .ok (a == a' && (b == b' && c == c')) w := by
  have h41 : Tryz.prog.underlying 41 = some (.array 3 3) := Tryz.underlying41
  have h3 : Tryz.prog.underlying 3 = some (.int .i64) := Tryz.underlying3
  obtain ⟨i, hi⟩ := info3
  rw [run_equalIn_array w (d + 1) _ _ h41 hi, cells3]
  have e3 : ∀ (x y : Int) (w : World), (Op.equalIn (d + 1) 3 (.int .i64 x) (.int .i64 y)).run Tryz.prog w = .ok (x == y) w := fun x y w => run_equalIn_int w d 3 .i64 .i64 x y h3
  simp only [show List.range 3 = [0, 1, 2] from rfl, Op.eqItems, Sem.run_bind, Nat.mul_one, part3_0, Result.andThen_ok, e3]
  cases h1 : a == a'
  · simp
  · cases h2 : b == b'
    · simp [part3_1, e3, h2]
    · cases h3 : c == c' <;> simp [part3_1, part3_2, e3, h2, h3]

theorem eq41 (a b c a' b' c' : Int) (w : World) : (binOp .eql 41 (.agg #[.int .i64 a, .int .i64 b, .int .i64 c]) (.agg #[.int .i64 a', .int .i64 b', .int .i64 c'])).run Tryz.prog w = .ok (.bool (a == a' && (b == b' && c == c'))) w := by
  rw [run_eql_struct, eq41_in 9998]; rfl

def plCells : Pl → List Value
  | none => [.int .i64 0, .int .i64 0, .int .i64 0, .int .i64 0, .int .i64 0]
  | some (K, v) => [.int .i64 1, .int .i64 K.1, .int .i64 K.2.1, .int .i64 K.2.2, .int .i64 v]

theorem plCells_length (x : Pl) : (plCells x).length = 5 := by cases x <;> rfl

theorem flat_length {α : Type} (f : α → List Value) (n : Nat) (hf : ∀ x, (f x).length = n) (l : List α) : (l.flatMap f).length = n * l.length := by
  induction l with
  | nil => simp
  | cons a l ih => rw [List.flatMap_cons, List.length_append, ih, hf, List.length_cons, Nat.mul_succ]; omega

theorem flat_get {α : Type} (f : α → List Value) (n : Nat) (hf : ∀ x, (f x).length = n) : ∀ (l : List α) (i j : Nat) (x : α), l[i]? = some x → j < n → (l.flatMap f)[n * i + j]? = (f x)[j]? := by
  intro l
  induction l with
  | nil => intro i j x h; simp at h
  | cons a l ih =>
    intro i j x h hj
    rw [List.flatMap_cons]
    cases i with
    | zero =>
      simp at h; subst h
      rw [Nat.mul_zero, Nat.zero_add, List.getElem?_append_left (by rw [hf]; exact hj)]
    | succ i =>
      simp at h
      rw [List.getElem?_append_right (by rw [hf, Nat.mul_succ]; omega), hf, ← ih i j x h hj]
      congr 1
      rw [Nat.mul_succ]; omega

def plArr (P : List Pl) : Array Value := (P.flatMap plCells).toArray

theorem plArr_get {P : List Pl} {i j : Nat} {x : Pl} (h : P[i]? = some x) (hj : j < 5) : (plArr P)[i * 5 + j]? = (plCells x)[j]? := by
  unfold plArr
  rw [List.getElem?_toArray, Nat.mul_comm]
  exact flat_get plCells 5 plCells_length P i j x h hj

/-- A table in memory. -/
structure TabAt (h : Key → Nat) (w : World) (ht pl : Nat) (P : List Pl) : Prop where
  tab : Blk w ht 231 #[.slice (some ⟨pl, 0, none⟩) P.length P.length, .int .i64 (Tab.cnt P), .int .i64 (Tab.cnt P)]
  arr : Blk w pl 228 (plArr P)
  probe : Tab.Probe h P
  pow : ∃ p, P.length = 2 ^ p
  ge : 16 ≤ P.length
  le : P.length ≤ 1048576
  few : 4 * Tab.cnt P ≤ 3 * P.length
  sized : P.length ≤ 16 ∨ 3 * P.length ≤ 8 * Tab.cnt P

theorem ofInt_i64 (a : Nat) (ha : a < 9223372036854775808) : (BitVec.ofInt 64 (a : Int)).toNat = a := by
  rw [BitVec.ofInt_natCast, BitVec.toNat_ofNat]; exact Nat.mod_eq_of_lt (by omega)
theorem i64_and_nat (a b : Nat) (ha : a < 9223372036854775808) (hb : b < 9223372036854775808) : bits .and .i64 (a : Int) (b : Int) = ((a &&& b : Nat) : Int) := by
  have hx : a &&& b < 2 ^ 63 := Nat.and_lt_two_pow _ (by omega)
  show IntKind.i64.wrap ((BitVec.ofInt 64 (a : Int) &&& BitVec.ofInt 64 (b : Int)).toNat : Int) = _
  rw [BitVec.toNat_and, ofInt_i64 a ha, ofInt_i64 b hb, IntKind.wrap_i64]
  omega

/-- The next place. -/
theorem next_ix (h : Key → Nat) (P : List Pl) (K : Key) (d p : Nat) (hp : P.length = 2 ^ p) (hn' : P.length ≤ 1048576) :
    bits .and .i64 ((Tab.ix h P K d : Int) + 1) ((P.length : Int) - 1) = (Tab.ix h P K (d + 1) : Nat) := by
  have hpos : 0 < P.length := by rw [hp]; exact Nat.pow_pos (by omega)
  have hlt := Tab.ix_lt (h := h) hpos K d
  have e1 : ((Tab.ix h P K d : Int) + 1) = ((Tab.ix h P K d + 1 : Nat) : Int) := by omega
  have e2 : ((P.length : Int) - 1) = ((P.length - 1 : Nat) : Int) := by omega
  rw [e1, e2, i64_and_nat _ _ (by omega) (by omega)]
  congr 1
  rw [hp, Nat.and_two_pow_sub_one_eq_mod, ← hp]
  unfold Tab.ix
  rw [Nat.mod_add_mod, Nat.add_assoc]

/-- A place's cells. -/
theorem place_cells {w : World} {pl : Nat} {P : List Pl} (ha : Blk w pl 228 (plArr P)) {i : Nat} {x : Pl} (hx : P[i]? = some x) :
    (∀ j v, j < 5 → (plCells x)[j]? = some v → w.cell? ⟨pl, i * 5 + j, none⟩ = some v) := fun j v hj hv => by rw [ha.cell, plArr_get hx hj, hv]

/-- What find answers: the place that the key has, or the first empty one on its way. -/
def Found (h : Key → Nat) (P : List Pl) (K : Key) (w : World) (e : Ending) (w' : World) : Prop :=
  ∃ (d i : Nat) (there : Bool), e = .returned (.tuple #[.int .i64 i, .bool there]) ∧ i = Tab.ix h P K d ∧ d < P.length ∧ Tab.Past h P K d ∧
    (there = true → ∃ v, P[i]? = some (some (K, v))) ∧ (there = false → P[i]? = some none) ∧ Below w.heap.size w w'

set_option maxHeartbeats 1000000 in
theorem find_any {h : Key → Nat} (H : IsHash h) (ht pl : Nat) (P : List Pl) (len used : Value) (a b c : Nat) (w : World) (hb : Blk w ht 231 #[.slice (some ⟨pl, 0, none⟩) P.length P.length, len, used]) (ha : Blk w pl 228 (plArr P))
    (p : Nat) (hp : P.length = 2 ^ p) (hn' : P.length ≤ 1048576) (he : ∃ i : Nat, P[i]? = some none) :
    Calls Tryz.prog 169 #[.pointer (some ⟨ht, 0, none⟩), .agg #[.int .i64 a, .int .i64 b, .int .i64 c]] w (Found h P (a, b, c) w) := by
  have h0 : w.cell? ⟨ht, 0, none⟩ = some (.slice (some ⟨pl, 0, none⟩) P.length P.length) := hb.cell_of rfl
  have hlt := hb.lt
  have hlp := ha.lt
  have hpos : 0 < P.length := by rw [hp]; exact Nat.pow_pos (by omega)
  have HP := Lib.hid hp
  have HE := Lib.hid he
  clear hp he
  go_enter Tryz.func169, Tryz.ntmps169
  go_wp2_with fail
  refine (start_any H ht pl p P len used a b c _ (hb.alloc _) HP.out hn').mono ?_
  rintro e w1 ⟨rfl, hb1⟩
  have HB1 : Below w.heap.size w w1 := ((Below.refl _ _).alloc (Nat.le_refl _) _).trans (hb1.mono (by simp))
  have hbox : Blk w1 w.heap.size 41 #[.int .i64 a, .int .i64 b, .int .i64 c] := (Blk.new w 41 _).below hb1 (by simp)
  have hsz1 : w.heap.size + 1 ≤ w1.heap.size := by have := hb1.size; simpa using this
  have hbt : Blk w1 ht 231 #[.slice (some ⟨pl, 0, none⟩) P.length P.length, len, used] := hb.below HB1 hlt
  have hba : Blk w1 pl 228 (plArr P) := ha.below HB1 hlp
  clear hb ha hb1
  go_wp2_with fail
  go_loopg [6, 7] P.length (fun g fr k wr => ∃ d i : Nat, g = P.length - d ∧ fr = .int .i64 (-1) ∧ k = .int .i64 i ∧ i = Tab.ix h P (a, b, c) d ∧ i < P.length ∧ d < P.length ∧ Tab.Past h P (a, b, c) d ∧ Below (w.heap.size + 1) w1 wr)
  case atStart => exact ⟨0, _, rfl, rfl, rfl, rfl, Tab.ix_lt hpos _ _, hpos, Tab.Past.zero _ _ _, Below.refl _ _⟩
  case round =>
    obtain ⟨d, i, hg, rfl, rfl, hi, hil, hdl, hpast, hbr⟩ := hrel
    have hbt' := hbt.below hbr (by omega)
    have hba' := hba.below hbr (by omega)
    have hbx' := hbox.below hbr (by omega)
    have h0 : wr.cell? ⟨ht, 0, none⟩ = some (.slice (some ⟨pl, 0, none⟩) P.length P.length) := hbt'.cell_of rfl
    have hk1 : wr.cell? ⟨w.heap.size, 0, none⟩ = some (.int .i64 a) := hbx'.cell_of rfl
    have hk2 : wr.cell? ⟨w.heap.size, 1, none⟩ = some (.int .i64 b) := hbx'.cell_of rfl
    have hk3 : wr.cell? ⟨w.heap.size, 2, none⟩ = some (.int .i64 c) := hbx'.cell_of rfl
    have hl1 := hbx'.lt
    have hl2 := hbt'.lt
    have hl3 := hba'.lt
    have HI := Lib.hid hi
    have HPast := Lib.hid hpast
    have HBR := Lib.hid hbr
    have HG := Lib.hid hg
    have HX := Lib.hid (List.getElem?_eq_getElem hil)
    generalize P[i] = x at HX
    have hc := place_cells hba' HX.out
    clear hi hpast hbr hg hbt' hba' hbx'
    cases x with
    | none =>
      have c0 : wr.cell? ⟨pl, i * 5, none⟩ = some (.int .i64 0) := hc 0 _ (by omega) rfl
      have c1 : wr.cell? ⟨pl, i * 5 + 1, none⟩ = some (.int .i64 0) := hc 1 _ (by omega) rfl
      have c2 : wr.cell? ⟨pl, i * 5 + 2, none⟩ = some (.int .i64 0) := hc 2 _ (by omega) rfl
      have c3 : wr.cell? ⟨pl, i * 5 + 3, none⟩ = some (.int .i64 0) := hc 3 _ (by omega) rfl
      have c4 : wr.cell? ⟨pl, i * 5 + 4, none⟩ = some (.int .i64 0) := hc 4 _ (by omega) rfl
      clear hc
      go_wp2
      go_ret2
      exact ⟨d, i, false, rfl, HI.out, hdl, HPast.out, fun hh => (by cases hh), fun _ => HX.out, (HB1.trans (HBR.out.mono (by omega))).alloc (by have := HB1.size; have := HBR.out.size; omega) _⟩
    | some Kv =>
      obtain ⟨⟨a', b', c'⟩, v⟩ := Kv
      have c0 : wr.cell? ⟨pl, i * 5, none⟩ = some (.int .i64 1) := hc 0 _ (by omega) rfl
      have c1 : wr.cell? ⟨pl, i * 5 + 1, none⟩ = some (.int .i64 a') := hc 1 _ (by omega) rfl
      have c2 : wr.cell? ⟨pl, i * 5 + 2, none⟩ = some (.int .i64 b') := hc 2 _ (by omega) rfl
      have c3 : wr.cell? ⟨pl, i * 5 + 3, none⟩ = some (.int .i64 c') := hc 3 _ (by omega) rfl
      have c4 : wr.cell? ⟨pl, i * 5 + 4, none⟩ = some (.int .i64 v) := hc 4 _ (by omega) rfl
      clear hc
      by_cases hK : (a', b', c') = (a, b, c)
      · injection hK with hK1 hK2; injection hK2 with hK2 hK3
        subst hK1 hK2 hK3
        have q := fun w => eq41 a' b' c' a' b' c' w
        simp only [beq_self_eq_true, Bool.and_self] at q
        go_wp2
        go_ret2
        exact ⟨d, i, true, rfl, HI.out, hdl, HPast.out, fun _ => ⟨v, HX.out⟩, fun hh => (by cases hh), (HB1.trans (HBR.out.mono (by omega))).alloc (by have := HB1.size; have := HBR.out.size; omega) _⟩
      · have q : ∀ w, (binOp .eql 41 (.agg #[.int .i64 a', .int .i64 b', .int .i64 c']) (.agg #[.int .i64 a, .int .i64 b, .int .i64 c])).run Tryz.prog w = .ok (.bool false) w := fun w => by
          rw [eq41]
          have : ((a' : Int) == (a : Int) && ((b' : Int) == (b : Int) && (c' : Int) == (c : Int))) = false := by
            rw [Bool.eq_false_iff]; intro hh
            simp only [Bool.and_eq_true, beq_iff_eq] at hh
            exact hK (by rw [Int.ofNat_inj.1 hh.1, Int.ofNat_inj.1 hh.2.1, Int.ofNat_inj.1 hh.2.2])
          rw [this]
        have HK := Lib.hid hK
        have hnx := next_ix h P (a, b, c) d p HP.out hn'
        rw [← HI.out] at hnx
        have HN := Lib.hid hnx
        clear hK hnx
        go_wp2
        have hp' := HPast.out.succ (by rw [← HI.out]; exact HX.out) HK.out
        have hd' := hp'.lt hpos HE.out
        go_roundg (P.length - (d + 1))
        case measure => rw [HG.out]; omega
        case rel => exact ⟨d + 1, _, rfl, rfl, congrArg (Value.int .i64) HN.out, rfl, Tab.ix_lt hpos _ _, hd', hp', HBR.out.alloc (by have := HBR.out.size; omega) _⟩
theorem TabAt.empty {h : Key → Nat} {w : World} {ht pl : Nat} {P : List Pl} (t : TabAt h w ht pl P) : ∃ i : Nat, P[i]? = some none :=
  Tab.empty_of_cnt (by have := t.few; have := t.ge; omega)

set_option maxHeartbeats 1000000 in
theorem get_has {h : Key → Nat} (H : IsHash h) (ht pl : Nat) (P : List Pl) (a b c v : Nat) (w : World) (t : TabAt h w ht pl P) (hv : Tab.Has P (a, b, c) v) :
    Calls Tryz.prog 107 #[.pointer (some ⟨ht, 0, none⟩), .agg #[.int .i64 a, .int .i64 b, .int .i64 c]] w fun e w' => e = .returned (.tuple #[.int .i64 v, .int .i64 0]) ∧ Below w.heap.size w w' := by
  obtain ⟨p, hp⟩ := t.pow
  have HE := Lib.hid t.empty
  have HV := Lib.hid hv
  have HP := Lib.hid hp
  have hpr := t.probe
  have hle := t.le
  have hge := t.ge
  have htb := t.tab
  have har := t.arr
  have hlt := htb.lt
  have hlp := har.lt
  clear hv hp t
  go_enter Tryz.func107, Tryz.ntmps107
  go_wp2_with fail
  refine (given_any ht pl P.length _ _ _ (htb.alloc _) (by omega)).mono ?_
  rintro e w' ⟨rfl, rfl⟩
  go_wp2_with fail
  refine (find_any H ht pl P _ _ a b c _ (htb.alloc _) (har.alloc _) p HP.out hle HE.out).mono ?_
  rintro e w1 ⟨d, i, there, rfl, hi, hdl, hpast, h1, h2, hb1⟩
  have hil : i < P.length := by rw [hi]; exact Tab.ix_lt hpr.pos _ _
  cases there with
  | false =>
    exact absurd HV.out (hpast.absent hpr (by rw [← hi]; exact h2 rfl) v)
  | true =>
    obtain ⟨v', hx⟩ := h1 rfl
    obtain rfl := Tab.Has.uniq hpr HV.out ⟨i, hx⟩
    have HB1 : Below w.heap.size w w1 := ((Below.refl _ _).alloc (Nat.le_refl _) _).trans (hb1.mono (by simp))
    have hbt : Blk w1 ht 231 _ := htb.below HB1 hlt
    have hba : Blk w1 pl 228 (plArr P) := har.below HB1 hlp
    have h0 : w1.cell? ⟨ht, 0, none⟩ = some (.slice (some ⟨pl, 0, none⟩) P.length P.length) := hbt.cell_of rfl
    have c4 : w1.cell? ⟨pl, i * 5 + 4, none⟩ = some (.int .i64 v) := place_cells hba hx 4 _ (by omega) rfl
    clear hi hpast h1 h2 hx
    go_wp2
    go_ret2
    exact ⟨rfl, HB1⟩

set_option maxHeartbeats 1000000 in
theorem get_not {h : Key → Nat} (H : IsHash h) (ht pl : Nat) (P : List Pl) (a b c : Nat) (w : World) (t : TabAt h w ht pl P) (hv : ∀ v, ¬ Tab.Has P (a, b, c) v) :
    Calls Tryz.prog 107 #[.pointer (some ⟨ht, 0, none⟩), .agg #[.int .i64 a, .int .i64 b, .int .i64 c]] w fun e w' => e = .returned (.tuple #[.int .i64 0, .int .i64 3]) ∧ Below w.heap.size w w' := by
  obtain ⟨p, hp⟩ := t.pow
  have HE := Lib.hid t.empty
  have HV := Lib.hid hv
  have HP := Lib.hid hp
  have hle := t.le
  have hge := t.ge
  have htb := t.tab
  have har := t.arr
  have hlt := htb.lt
  clear hv hp t
  go_enter Tryz.func107, Tryz.ntmps107
  go_wp2_with fail
  refine (given_any ht pl P.length _ _ _ (htb.alloc _) (by omega)).mono ?_
  rintro e w' ⟨rfl, rfl⟩
  go_wp2_with fail
  refine (find_any H ht pl P _ _ a b c _ (htb.alloc _) (har.alloc _) p HP.out hle HE.out).mono ?_
  rintro e w1 ⟨d, i, there, rfl, hi, hdl, hpast, h1, h2, hb1⟩
  cases there with
  | true =>
    obtain ⟨v', hx⟩ := h1 rfl
    exact absurd ⟨i, hx⟩ (HV.out v')
  | false =>
    have HB1 : Below w.heap.size w w1 := ((Below.refl _ _).alloc (Nat.le_refl _) _).trans (hb1.mono (by simp))
    clear hi hpast h1 h2
    go_wp2
    go_ret2
    exact ⟨rfl, HB1⟩
end Go.Proofs.YtndefnfknhjfkaaGreatDoor

namespace Go.Proofs.YtndefnfknhjfkaaGreatDoor
open Go.RowKit Go.Proofs.Osier

theorem run_make_rowN {P : Program} (t e : TypeId) (i : TypeInfo) (z : Value) (ht : P.underlying t = some (.slice e)) (hi : P.info? e = some i) (hz : i.zero = some z)
    (kl kc : IntKind) (n c : Nat) (hnc : n ≤ c) (hbytes : i.bytes * c ≤ 281474976710656) (h63 : c ≤ 9223372036854775807) (w : World) :
    (Instr.makeSlice t (.int kl (n : Int)) (.int kc (c : Int))).run P w = .ok (.slice (some ⟨w.heap.size, 0, none⟩) n c) (w.alloc (.cells (madeCells z.cells (c * i.size)) e)) := by
  have hb : (i.bytes : Int) * (c : Int) ≤ 281474976710656 := by
    have h : ((i.bytes * c : Nat) : Int) ≤ 281474976710656 := by omega
    rwa [Int.natCast_mul] at h
  have hr := run_make (P := P) w t e i z ht hi hz kl kc n c (by omega) (by omega) hb (by omega)
  simp only [Int.toNat_natCast] at hr
  exact hr

theorem info228 : (Tryz.prog.info? 228).map (fun i => (i.zero, i.size, i.bytes)) = some (some (.agg #[.int .i64 0, .int .i64 0, .int .i64 0, .int .i64 0, .int .i64 0]), 5, 40) := by kernel_rfl

theorem plArr_size (P : List Pl) : (plArr P).size = 5 * P.length := by
  simp only [plArr, List.size_toArray]
  exact flat_length plCells 5 plCells_length P

theorem madeCells_pl (n : Nat) : madeCells #[.int .i64 0, .int .i64 0, .int .i64 0, .int .i64 0, .int .i64 0] (n * 5) = plArr (List.replicate n none) := by
  apply Array.ext
  · rw [plArr_size]; simp [madeCells]; omega
  · intro i h1 h2
    have hs : (madeCells #[Value.int .i64 0, .int .i64 0, .int .i64 0, .int .i64 0, .int .i64 0] (n * 5)).size = n * 5 := by simp [madeCells]
    have hi : i < n * 5 := by omega
    have hr : (List.replicate n (none : Pl))[i / 5]? = some none := by
      rw [List.getElem?_replicate, if_pos (by omega)]
    have hg := plArr_get (j := i % 5) hr (Nat.mod_lt _ (by omega))
    rw [Nat.div_add_mod' i 5] at hg
    have e2 : (plArr (List.replicate n none))[i]? = some (.int .i64 0) := by
      rw [hg]
      have : i % 5 < 5 := Nat.mod_lt _ (by omega)
      rcases (show i % 5 = 0 ∨ i % 5 = 1 ∨ i % 5 = 2 ∨ i % 5 = 3 ∨ i % 5 = 4 by omega) with h | h | h | h | h <;> rw [h] <;> rfl
    rw [Array.getElem?_eq_getElem h2] at e2
    injection e2 with e2
    rw [e2]
    simp only [madeCells, Array.getElem_map, Array.getElem_range]
    have : i % 5 < 5 := Nat.mod_lt _ (by omega)
    show #[Value.int .i64 0, .int .i64 0, .int .i64 0, .int .i64 0, .int .i64 0][i % 5]! = _
    rcases (show i % 5 = 0 ∨ i % 5 = 1 ∨ i % 5 = 2 ∨ i % 5 = 3 ∨ i % 5 = 4 by omega) with h | h | h | h | h <;> rw [h] <;> rfl

/-- make([]place, 2n). -/
theorem make228 (n : Nat) (hn : n ≤ 1048576) (w : World) : (Instr.makeSlice 229 (.int .i64 ((n : Int) * 2)) (.int .i64 ((n : Int) * 2))).run Tryz.prog w =
    .ok (.slice (some ⟨w.heap.size, 0, none⟩) (n * 2) (n * 2)) (w.alloc (.cells (plArr (List.replicate (n * 2) none)) 228)) := by
  obtain ⟨i, hi, hz0, hz1, hz2⟩ := info_parts info228
  have hr := run_make_rowN (P := Tryz.prog) 229 228 i _ Tryz.underlying229 hi hz0 .i64 .i64 (n * 2) (n * 2) (Nat.le_refl _) (by rw [hz2]; omega) (by omega) w
  rw [hz1] at hr
  rw [show ((n : Int) * 2) = ((n * 2 : Nat) : Int) by omega, hr, ← madeCells_pl]
  rfl

theorem plArr_set (Q : List Pl) (i : Nat) (hi : i < Q.length) (x : Pl) (a0 a1 a2 a3 a4 : Value) (hx : plCells x = [a0, a1, a2, a3, a4]) :
    (((((plArr Q).setIfInBounds (i * 5) a0).setIfInBounds (i * 5 + 1) a1).setIfInBounds (i * 5 + 2) a2).setIfInBounds (i * 5 + 3) a3).setIfInBounds (i * 5 + 4) a4 = plArr (Q.set i x) := by
  apply Array.ext
  · simp [plArr_size]
  · intro m h1 h2
    have hm : m < Q.length * 5 := by rw [plArr_size, List.length_set] at h2; omega
    have hq : m / 5 < Q.length := by omega
    have hj : m % 5 < 5 := Nat.mod_lt _ (by omega)
    have e2 := plArr_get (P := Q.set i x) (j := m % 5) (List.getElem?_eq_getElem (show m / 5 < (Q.set i x).length by rw [List.length_set]; exact hq)) hj
    rw [Nat.div_add_mod' m 5, Array.getElem?_eq_getElem h2] at e2
    have e1 := plArr_get (P := Q) (j := m % 5) (List.getElem?_eq_getElem hq) hj
    rw [Nat.div_add_mod' m 5, Array.getElem?_eq_getElem (by rw [plArr_size]; omega)] at e1
    have hsz := plArr_size Q
    refine Option.some.inj ?_
    rw [e2, ← Array.getElem?_eq_getElem h1]
    simp only [Array.getElem?_setIfInBounds, Array.size_setIfInBounds]
    by_cases hmi : m / 5 = i
    · have hg : (Q.set i x)[m / 5]'(by rw [List.length_set]; exact hq) = x := by simp [hmi]
      rw [hg, hx]
      rcases (show m % 5 = 0 ∨ m % 5 = 1 ∨ m % 5 = 2 ∨ m % 5 = 3 ∨ m % 5 = 4 by omega) with h | h | h | h | h <;> rw [h]
      · rw [if_neg (by omega), if_neg (by omega), if_neg (by omega), if_neg (by omega), if_pos (by omega), if_pos (by omega)]; rfl
      · rw [if_neg (by omega), if_neg (by omega), if_neg (by omega), if_pos (by omega), if_pos (by omega)]; rfl
      · rw [if_neg (by omega), if_neg (by omega), if_pos (by omega), if_pos (by omega)]; rfl
      · rw [if_neg (by omega), if_pos (by omega), if_pos (by omega)]; rfl
      · rw [if_pos (by omega), if_pos (by omega)]; rfl
    · have hg : (Q.set i x)[m / 5]'(by rw [List.length_set]; exact hq) = Q[m / 5] := by rw [List.getElem_set_ne (Ne.symm hmi)]
      rw [hg, ← e1]
      rw [if_neg (by omega), if_neg (by omega), if_neg (by omega), if_neg (by omega), if_neg (by omega), Array.getElem?_eq_getElem]

theorem grows_not (ht pl n c u : Nat) (w : World) (hb : Blk w ht 231 #[.slice (some ⟨pl, 0, none⟩) n n, .int .i64 c, .int .i64 u]) (hn : n ≤ 1048576) (hu : 4 * u < 3 * n) :
    Calls Tryz.prog 170 #[.pointer (some ⟨ht, 0, none⟩)] w fun e w' => e = .returned (.tuple #[]) ∧ ∃ k, w' = w.drewN k := by
  have h0 : w.cell? ⟨ht, 0, none⟩ = some (.slice (some ⟨pl, 0, none⟩) n n) := hb.cell_of rfl
  have h2 : w.cell? ⟨ht, 2, none⟩ = some (.int .i64 u) := hb.cell_of rfl
  go_enter Tryz.func170, Tryz.ntmps170
  go_wp2
  go_quiet (fail)
  go_wp2
  refine bodyPost_ret (results_none rfl _ _ _) rfl ?_
  exact ⟨rfl, _, rfl⟩

set_option maxHeartbeats 1000000 in
set_option maxRecDepth 100000 in
theorem grows_walk {h : Key → Nat} (H : IsHash h) (ht pl : Nat) (P : List Pl) (w : World) (t : TabAt h w ht pl P) (hge : 3 * P.length ≤ 4 * Tab.cnt P) (hcap : 2 * P.length ≤ 1048576) :
    Calls Tryz.prog 170 #[.pointer (some ⟨ht, 0, none⟩)] w fun e w' => e = .returned (.tuple #[]) ∧ ∃ npl Q, TabAt h w' ht npl Q ∧ (∀ K v, Tab.Has Q K v ↔ Tab.Has P K v) ∧ Tab.cnt Q = Tab.cnt P ∧ 4 * Tab.cnt Q < 3 * Q.length ∧ w.heap.size ≤ npl ∧ Keep [ht] w w' := by
  have hb := t.tab
  have ha := t.arr
  have hge' := t.ge
  have hfew := t.few
  have h0 : w.cell? ⟨ht, 0, none⟩ = some (.slice (some ⟨pl, 0, none⟩) P.length P.length) := hb.cell_of rfl
  have h1 : w.cell? ⟨ht, 1, none⟩ = some (.int .i64 (Tab.cnt P)) := hb.cell_of rfl
  have h2 : w.cell? ⟨ht, 2, none⟩ = some (.int .i64 (Tab.cnt P)) := hb.cell_of rfl
  have f0 : w.frozen? ⟨ht, 0, none⟩ = false := hb.frozen 0
  have f2 : w.frozen? ⟨ht, 2, none⟩ = false := hb.frozen 2
  have hlt := hb.lt
  have hlp := ha.lt
  generalize hm : Tab.cnt P = m at *
  generalize hn : P.length = n at *
  have HM := Lib.hid hm
  have HN := Lib.hid hn
  have HT := Lib.hid t
  clear hm hn t hb ha
  have t1 : decide ((n : Int) ≤ 2 * (m : Int)) = true := by simp; omega
  have t2 : decide (4 * (m : Int) < 3 * (n : Int)) = false := by simp; omega
  go_enter Tryz.func170, Tryz.ntmps170
  go_wp2
  go_quiet (fail)
  go_wp2
  generalize hwq : w.drewN nq = w1
  have g0 : w1.cell? ⟨ht, 0, none⟩ = some (.slice (some ⟨pl, 0, none⟩) n n) := by rw [← hwq]; exact h0
  have g1 : w1.cell? ⟨ht, 1, none⟩ = some (.int .i64 m) := by rw [← hwq]; exact h1
  have g2 : w1.cell? ⟨ht, 2, none⟩ = some (.int .i64 m) := by rw [← hwq]; exact h2
  have e0 : w1.frozen? ⟨ht, 0, none⟩ = false := by rw [← hwq]; exact f0
  have e2 : w1.frozen? ⟨ht, 2, none⟩ = false := by rw [← hwq]; exact f2
  have hl1 : ht < w1.heap.size := by rw [← hwq]; exact hlt
  have HW := Lib.hid hwq
  clear hwq h0 h1 h2 f0 f2
  generalize hmt : plArr (List.replicate (n * 2) none) = newc
  have hmk : ∀ w : World, (Instr.makeSlice 229 (.int .i64 ((n : Int) * 2)) (.int .i64 ((n : Int) * 2))).run Tryz.prog w = .ok (.slice (some ⟨w.heap.size, 0, none⟩) (n * 2) (n * 2)) (w.alloc (.cells newc 228)) := by rw [← hmt]; exact make228 n (by omega)
  have HMT := Lib.hid hmt
  clear hmt
  go_region
  have hb2 : Blk ((((w1.setCell ⟨ht, 0, none⟩ (.slice (some ⟨w1.heap.size, 0, none⟩) (n * 2) (n * 2))).setCell ⟨ht, 2, none⟩ (.int .i64 m)).alloc (Obj.cells newc 228)).drew) ht 231 #[.slice (some ⟨w1.heap.size, 0, none⟩) (n * 2) (n * 2), .int .i64 m, .int .i64 m] := by
    have hb1 : Blk w1 ht 231 #[.slice (some ⟨pl, 0, none⟩) n n, .int .i64 m, .int .i64 m] := by rw [← HW.out]; have := HT.out.tab; rw [HM.out, HN.out] at this; exact this
    exact (((hb1.set_ 0 _).set_ 2 _).alloc _).drew
  have hn2 : Blk ((((w1.setCell ⟨ht, 0, none⟩ (.slice (some ⟨w1.heap.size, 0, none⟩) (n * 2) (n * 2))).setCell ⟨ht, 2, none⟩ (.int .i64 m)).alloc (Obj.cells newc 228)).drew) w1.heap.size 228 newc := by
    have := Blk.new ((w1.setCell ⟨ht, 0, none⟩ (.slice (some ⟨w1.heap.size, 0, none⟩) (n * 2) (n * 2))).setCell ⟨ht, 2, none⟩ (.int .i64 m)) 228 newc
    simpa using this.drew
  have ha2 : Blk ((((w1.setCell ⟨ht, 0, none⟩ (.slice (some ⟨w1.heap.size, 0, none⟩) (n * 2) (n * 2))).setCell ⟨ht, 2, none⟩ (.int .i64 m)).alloc (Obj.cells newc 228)).drew) pl 228 (plArr P) := by
    have ha1 : Blk w1 pl 228 (plArr P) := by rw [← HW.out]; exact HT.out.arr
    have hne : pl ≠ ht := (HT.out.arr).ne_ HT.out.tab (by decide)
    exact ((((ha1.far (p := ⟨ht, 0, none⟩) hne _).far (p := ⟨ht, 2, none⟩) hne _).alloc _)).drew
  have hk2 : Keep [ht] w ((((w1.setCell ⟨ht, 0, none⟩ (.slice (some ⟨w1.heap.size, 0, none⟩) (n * 2) (n * 2))).setCell ⟨ht, 2, none⟩ (.int .i64 m)).alloc (Obj.cells newc 228)).drew) := by
    have : Keep [ht] w w1 := by rw [← HW.out]; exact (Keep.refl _ _).drewN nq
    exact (((this.setCell (p := ⟨ht, 0, none⟩) (.inl (by simp)) _).setCell (p := ⟨ht, 2, none⟩) (.inl (by simp)) _).alloc _).drew
  have hsz : w1.heap.size = w.heap.size := by rw [← HW.out]; rfl
  generalize ((((w1.setCell ⟨ht, 0, none⟩ (.slice (some ⟨w1.heap.size, 0, none⟩) (n * 2) (n * 2))).setCell ⟨ht, 2, none⟩ (.int .i64 m)).alloc (Obj.cells newc 228)).drew) = w2 at *
  generalize hnp : w1.heap.size = npl at *
  have HNP := Lib.hid hnp
  have HSZ := Lib.hid hsz
  clear hnp hsz hmk g0 g1 g2 e0 e2
  go_wp2
  obtain ⟨p, hp⟩ := HT.out.pow
  have hpr := HT.out.probe
  have hp2 : (List.replicate (n * 2) (none : Pl)).length = n * 2 := List.length_replicate
  have hpow : n * 2 = 2 ^ (p + 1) := by rw [Nat.pow_succ, ← hp, HN.out]
  have HPOW := Lib.hid hpow
  have hnpl : w.heap.size ≤ npl := by rw [HSZ.out]; exact Nat.le_refl _
  have hl2 := hb2.lt
  have hln := hn2.lt
  have hla := ha2.lt
  have hne1 : npl ≠ ht := hn2.ne_ hb2 (by decide)
  have hne2 : npl ≠ pl := by omega
  have hne3 : pl ≠ ht := ha2.ne_ hb2 (by decide)
  have HN2 := Lib.hid hn2
  have HB2 := Lib.hid hb2
  have HA2 := Lib.hid ha2
  have HK2 := Lib.hid hk2
  clear hp hpow hp2 hn2 hb2 ha2 hk2
  go_loopg [49] n (fun g k wr => ∃ (j : Nat) (Q : List Pl), g = n - j ∧ j ≤ n ∧ k = .int .i64 j ∧ Q.length = n * 2 ∧ Tab.Moved h P Q j ∧
    Blk wr ht 231 #[.slice (some ⟨npl, 0, none⟩) (n * 2) (n * 2), .int .i64 m, .int .i64 m] ∧ Blk wr npl 228 (plArr Q) ∧ Blk wr pl 228 (plArr P) ∧ Keep [ht] w wr ∧ w2.heap.size ≤ wr.heap.size)
  case atStart => exact ⟨0, _, rfl, Nat.zero_le _, rfl, List.length_replicate, Tab.Moved.zero h P (by omega), HB2.out, by rw [HMT.out]; exact HN2.out, HA2.out, HK2.out, Nat.le_refl _⟩
  case round =>
    obtain ⟨j, Q, hg, hj, rfl, hQ, hmv, hb, hq, ha, hkp, hsz⟩ := hrel
    by_cases hjn : j < n
    · have hjP : j < P.length := by rw [HN.out]; exact hjn
      have HX := Lib.hid (List.getElem?_eq_getElem hjP)
      generalize P[j] = x at HX
      have hc := place_cells ha HX.out
      have h0 : wr.cell? ⟨ht, 0, none⟩ = some (.slice (some ⟨npl, 0, none⟩) (n * 2) (n * 2)) := hb.cell_of rfl
      have HB := Lib.hid hb
      have HQ := Lib.hid hq
      have HA := Lib.hid ha
      have HKP := Lib.hid hkp
      have HMV := Lib.hid hmv
      have HQL := Lib.hid hQ
      have HG := Lib.hid hg
      have hsza := ha.lt
      have hszb := hb.lt
      have hszq := hq.lt
      clear hb hq ha hkp hmv hQ hg
      cases x with
      | none =>
        have c0 : wr.cell? ⟨pl, j * 5, none⟩ = some (.int .i64 0) := hc 0 _ (by omega) rfl
        have c1 : wr.cell? ⟨pl, j * 5 + 1, none⟩ = some (.int .i64 0) := hc 1 _ (by omega) rfl
        have c2 : wr.cell? ⟨pl, j * 5 + 2, none⟩ = some (.int .i64 0) := hc 2 _ (by omega) rfl
        have c3 : wr.cell? ⟨pl, j * 5 + 3, none⟩ = some (.int .i64 0) := hc 3 _ (by omega) rfl
        have c4 : wr.cell? ⟨pl, j * 5 + 4, none⟩ = some (.int .i64 0) := hc 4 _ (by omega) rfl
        clear hc
        go_wp2
        go_roundg (n - (j + 1))
        case measure => rw [HG.out]; omega
        case rel => exact ⟨j + 1, Q, rfl, by omega, by go_num, HQL.out, HMV.out.skip HX.out, HB.out.alloc _, HQ.out.alloc _, HA.out.alloc _, HKP.out.alloc _, by simp; omega⟩
      | some Kv =>
        obtain ⟨⟨a, b, c⟩, v⟩ := Kv
        have c0 : wr.cell? ⟨pl, j * 5, none⟩ = some (.int .i64 1) := hc 0 _ (by omega) rfl
        have c1 : wr.cell? ⟨pl, j * 5 + 1, none⟩ = some (.int .i64 a) := hc 1 _ (by omega) rfl
        have c2 : wr.cell? ⟨pl, j * 5 + 2, none⟩ = some (.int .i64 b) := hc 2 _ (by omega) rfl
        have c3 : wr.cell? ⟨pl, j * 5 + 3, none⟩ = some (.int .i64 c) := hc 3 _ (by omega) rfl
        have c4 : wr.cell? ⟨pl, j * 5 + 4, none⟩ = some (.int .i64 v) := hc 4 _ (by omega) rfl
        clear hc
        go_wp2_with fail
        have hcq : Tab.cnt Q < Q.length := by
          have e1 := HMV.out.cnt
          have e2 := Tab.cnt_take_le P j
          rw [HM.out] at e2
          rw [e1, HQL.out]; omega
        refine (find_any H ht npl Q _ _ a b c _ (by rw [HQL.out]; exact HB.out.alloc _) (HQ.out.alloc _) (p + 1) (by rw [HQL.out]; exact HPOW.out) (by rw [HQL.out]; omega) (Tab.empty_of_cnt hcq)).mono ?_
        rintro e w3 ⟨d, i, there, rfl, hi, hdl, hpast, q1, q2, hb3⟩
        cases there with
        | true =>
          obtain ⟨v', hx⟩ := q1 rfl
          exact absurd ⟨i, hx⟩ (HMV.out.absent hpr HX.out)
        | false =>
          have hempty := q2 rfl
          have hil : i < n * 2 := by rw [hi, ← HQL.out]; exact Tab.ix_lt HMV.out.probe.pos _ _
          have hiQ : i < Q.length := by rw [HQL.out]; exact hil
          have HS := Lib.hid (HMV.out.step HX.out hdl hpast (by rw [← hi]; exact hempty))
          rw [← hi] at HS
          have hb3' : Below wr.heap.size wr w3 := ((Below.refl _ _).alloc (Nat.le_refl _) _).trans (hb3.mono (by simp))
          have hbox : Blk w3 wr.heap.size 228 #[.int .i64 1, .int .i64 a, .int .i64 b, .int .i64 c, .int .i64 v] := (Blk.new wr 228 _).below hb3 (by simp)
          have hb' := HB.out.below hb3' hszb
          have hq' := HQ.out.below hb3' hszq
          have ha' := HA.out.below hb3' hsza
          have h0 : w3.cell? ⟨ht, 0, none⟩ = some (.slice (some ⟨npl, 0, none⟩) (n * 2) (n * 2)) := hb'.cell_of rfl
          have d0 : w3.cell? ⟨wr.heap.size, 0, none⟩ = some (.int .i64 1) := hbox.cell_of rfl
          have d1 : w3.cell? ⟨wr.heap.size, 1, none⟩ = some (.int .i64 a) := hbox.cell_of rfl
          have d2 : w3.cell? ⟨wr.heap.size, 2, none⟩ = some (.int .i64 b) := hbox.cell_of rfl
          have d3 : w3.cell? ⟨wr.heap.size, 3, none⟩ = some (.int .i64 c) := hbox.cell_of rfl
          have d4 : w3.cell? ⟨wr.heap.size, 4, none⟩ = some (.int .i64 v) := hbox.cell_of rfl
          have hc := place_cells hq' hempty
          have c0 : w3.cell? ⟨npl, i * 5, none⟩ = some (.int .i64 0) := hc 0 _ (by omega) rfl
          have c1 : w3.cell? ⟨npl, i * 5 + 1, none⟩ = some (.int .i64 0) := hc 1 _ (by omega) rfl
          have c2 : w3.cell? ⟨npl, i * 5 + 2, none⟩ = some (.int .i64 0) := hc 2 _ (by omega) rfl
          have c3 : w3.cell? ⟨npl, i * 5 + 3, none⟩ = some (.int .i64 0) := hc 3 _ (by omega) rfl
          have c4 : w3.cell? ⟨npl, i * 5 + 4, none⟩ = some (.int .i64 0) := hc 4 _ (by omega) rfl
          have z0 : w3.frozen? ⟨npl, i * 5, none⟩ = false := hq'.frozen _
          have z1 : w3.frozen? ⟨npl, i * 5 + 1, none⟩ = false := hq'.frozen _
          have z2 : w3.frozen? ⟨npl, i * 5 + 2, none⟩ = false := hq'.frozen _
          have z3 : w3.frozen? ⟨npl, i * 5 + 3, none⟩ = false := hq'.frozen _
          have z4 : w3.frozen? ⟨npl, i * 5 + 4, none⟩ = false := hq'.frozen _
          have HB3 := Lib.hid hb'
          have HQ3 := Lib.hid hq'
          have HA3 := Lib.hid ha'
          have HK3 := Lib.hid (HKP.out.trans (Keep.of_below (F := [ht]) hb3') (fun x hx => .inl hx))
          have hs3 : wr.heap.size < w3.heap.size := hbox.lt
          have HBX := Lib.hid hbox
          clear hi hdl hpast q1 q2 hempty hcq hb3 hb3' hbox hb' hq' ha' hc
          go_wp2
          go_region
          go_wp2
          go_roundg (n - (j + 1))
          case measure => rw [HG.out]; omega
          case rel =>
            have e1 := plArr_set Q i hiQ (some ((a, b, c), v)) _ _ _ _ _ rfl
            refine ⟨j + 1, Q.set i (some ((a, b, c), v)), rfl, by omega, by go_num, by rw [List.length_set]; exact HQL.out, HS.out, ?_, ?_, ?_, ?_, ?_⟩
            · exact (((((HB3.out.far (p := ⟨npl, _, none⟩) (Ne.symm hne1) _).far (p := ⟨npl, _, none⟩) (Ne.symm hne1) _).far (p := ⟨npl, _, none⟩) (Ne.symm hne1) _).far (p := ⟨npl, _, none⟩) (Ne.symm hne1) _).far (p := ⟨npl, _, none⟩) (Ne.symm hne1) _).drew
            · rw [← e1]
              exact (((((HQ3.out.set_ (i * 5) _).set_ (i * 5 + 1) _).set_ (i * 5 + 2) _).set_ (i * 5 + 3) _).set_ (i * 5 + 4) _).drew
            · exact (((((HA3.out.far (p := ⟨npl, _, none⟩) (Ne.symm hne2) _).far (p := ⟨npl, _, none⟩) (Ne.symm hne2) _).far (p := ⟨npl, _, none⟩) (Ne.symm hne2) _).far (p := ⟨npl, _, none⟩) (Ne.symm hne2) _).far (p := ⟨npl, _, none⟩) (Ne.symm hne2) _).drew
            · exact (((((HK3.out.setCell (p := ⟨npl, _, none⟩) (.inr hnpl) _).setCell (p := ⟨npl, _, none⟩) (.inr hnpl) _).setCell (p := ⟨npl, _, none⟩) (.inr hnpl) _).setCell (p := ⟨npl, _, none⟩) (.inr hnpl) _).setCell (p := ⟨npl, _, none⟩) (.inr hnpl) _).drew
            · simp; omega
    · obtain rfl : n = j := by omega
      have HB := Lib.hid hb
      have HQ := Lib.hid hq
      have HKP := Lib.hid hkp
      have HMV := Lib.hid hmv
      have HQL := Lib.hid hQ
      clear hb hq ha hkp hmv hQ hg
      go_wp2
      refine bodyPost_end (results_none rfl _ _ _) rfl ?_
      have hmv := HMV.out
      rw [← HN.out] at hmv
      have hcn := hmv.all_cnt
      rw [HM.out] at hcn
      refine ⟨rfl, npl, Q, ⟨by rw [HQL.out, hcn]; exact HB.out, HQ.out, hmv.probe, ⟨p + 1, by rw [HQL.out]; exact HPOW.out⟩, by rw [HQL.out]; omega, by rw [HQL.out]; omega, by rw [HQL.out, hcn]; omega, .inr (by rw [HQL.out, hcn]; omega)⟩, hmv.all, hcn, by rw [HQL.out, hcn]; omega, hnpl, HKP.out⟩
/-- grows: the table has room for one more. -/
def Grew (h : Key → Nat) (ht pl : Nat) (P : List Pl) (w : World) (e : Ending) (w' : World) : Prop :=
  e = .returned (.tuple #[]) ∧ ∃ npl Q, TabAt h w' ht npl Q ∧ (∀ K v, Tab.Has Q K v ↔ Tab.Has P K v) ∧ Tab.cnt Q = Tab.cnt P ∧ 4 * Tab.cnt Q < 3 * Q.length ∧ (npl = pl ∨ w.heap.size ≤ npl) ∧ Keep [ht] w w'

theorem TabAt.drewN {h : Key → Nat} {w : World} {ht pl : Nat} {P : List Pl} (t : TabAt h w ht pl P) (k : Nat) : TabAt h (w.drewN k) ht pl P := ⟨t.tab, t.arr, t.probe, t.pow, t.ge, t.le, t.few, t.sized⟩

theorem grows_any {h : Key → Nat} (H : IsHash h) (ht pl : Nat) (P : List Pl) (w : World) (t : TabAt h w ht pl P) (hc : Tab.cnt P ≤ 131072) :
    Calls Tryz.prog 170 #[.pointer (some ⟨ht, 0, none⟩)] w (Grew h ht pl P w) := by
  by_cases hu : 4 * Tab.cnt P < 3 * P.length
  · refine (grows_not ht pl P.length _ _ w t.tab t.le hu).mono ?_
    rintro e w' ⟨rfl, k, rfl⟩
    exact ⟨rfl, pl, P, t.drewN k, fun _ _ => Iff.rfl, rfl, hu, .inl rfl, (Keep.refl _ _).drewN k⟩
  · refine (grows_walk H ht pl P w t (by omega) (by have := t.sized; omega)).mono ?_
    rintro e w' ⟨rfl, npl, Q, a1, a2, a3, a4, a5, a6⟩
    exact ⟨rfl, npl, Q, a1, a2, a3, a4, .inr a5, a6⟩
theorem pow_mod4 {n p : Nat} (hp : n = 2 ^ p) (h : 16 ≤ n) : n % 4 = 0 := by
  rcases (show p = 0 ∨ p = 1 ∨ 2 ≤ p by omega) with rfl | rfl | h2
  · rw [hp] at h; simp at h
  · rw [hp] at h; simp at h
  · obtain ⟨q, rfl⟩ : ∃ q, p = q + 2 := ⟨p - 2, by omega⟩
    rw [hp, Nat.pow_add]; omega

/-- Put, of a key that is not there. -/
def PutIn (h : Key → Nat) (ht pl : Nat) (P : List Pl) (K : Key) (v : Nat) (w : World) (e : Ending) (w' : World) : Prop :=
  e = .returned (.int .i64 0) ∧ ∃ npl Q, TabAt h w' ht npl Q ∧ (∀ K' v', Tab.Has Q K' v' ↔ Tab.Has P K' v' ∨ (K' = K ∧ v' = v)) ∧ Tab.cnt Q = Tab.cnt P + 1 ∧ (npl = pl ∨ w.heap.size ≤ npl) ∧ Keep [ht, pl] w w'

set_option maxHeartbeats 1000000 in
set_option maxRecDepth 100000 in
theorem put_new {h : Key → Nat} (H : IsHash h) (ht pl : Nat) (P : List Pl) (a b c v : Nat) (w : World) (t : TabAt h w ht pl P) (hc0 : Tab.cnt P ≤ 131072) (habs : ∀ v, ¬ Tab.Has P (a, b, c) v) :
    Calls Tryz.prog 108 #[.pointer (some ⟨ht, 0, none⟩), .agg #[.int .i64 a, .int .i64 b, .int .i64 c], .int .i64 v] w (PutIn h ht pl P (a, b, c) v w) := by
  have HT := Lib.hid t
  have HABS := Lib.hid habs
  have hge := t.ge
  have htb := t.tab
  have hlt := htb.lt
  have hlp := t.arr.lt
  clear t habs
  go_enter Tryz.func108, Tryz.ntmps108
  go_wp2_with fail
  refine (given_any ht pl P.length _ _ _ (htb.alloc _) (by omega)).mono ?_
  rintro e w' ⟨rfl, rfl⟩
  go_wp2_with fail
  have t1 : TabAt h (w.alloc (.cells #[.int .i64 a, .int .i64 b, .int .i64 c] 41)) ht pl P := ⟨HT.out.tab.alloc _, HT.out.arr.alloc _, HT.out.probe, HT.out.pow, HT.out.ge, HT.out.le, HT.out.few, HT.out.sized⟩
  refine (grows_any H ht pl P _ t1 hc0).mono ?_
  rintro e w2 ⟨rfl, npl, Q, t2, hhas, hcnt, hroom, hnpl, hk2⟩
  have hbox : Blk w2 w.heap.size 41 #[.int .i64 a, .int .i64 b, .int .i64 c] := hk2.blk (Blk.new w 41 _) (by simp; omega)
  have x1 : w2.cell? ⟨w.heap.size, 0, none⟩ = some (.int .i64 a) := hbox.cell_of rfl
  have x2 : w2.cell? ⟨w.heap.size, 1, none⟩ = some (.int .i64 b) := hbox.cell_of rfl
  have x3 : w2.cell? ⟨w.heap.size, 2, none⟩ = some (.int .i64 c) := hbox.cell_of rfl
  obtain ⟨p, hp⟩ := t2.pow
  have HP := Lib.hid hp
  have HT2 := Lib.hid t2
  have HHAS := Lib.hid hhas
  have HCNT := Lib.hid hcnt
  have HNPL := Lib.hid hnpl
  have HK2 := Lib.hid hk2
  have hle2 := t2.le
  have hge2 := t2.ge
  have htb2 := t2.tab
  have har2 := t2.arr
  clear hp t1 t2 hhas hcnt hnpl hk2 htb
  go_wp2_with fail
  refine (find_any H ht npl Q _ _ a b c _ htb2 har2 p HP.out hle2 (Tab.empty_of_cnt (by omega))).mono ?_
  rintro e w3 ⟨d, i, there, rfl, hi, hdl, hpast, q1, q2, hb3⟩
  cases there with
  | true =>
    obtain ⟨v', hx⟩ := q1 rfl
    exact absurd ((HHAS.out (a, b, c) v').1 ⟨i, hx⟩) (HABS.out v')
  | false =>
    have hempty := q2 rfl
    have hil : i < Q.length := by rw [hi]; exact Tab.ix_lt HT2.out.probe.pos _ _
    have hempty' : Q[Tab.ix h Q (a, b, c) d]? = some none := by rw [← hi]; exact hempty
    have HPS := Lib.hid (Tab.probe_set (v := v) HT2.out.probe hdl hpast hempty')
    have HHS := Lib.hid (Tab.has_set (K := (a, b, c)) (v := v) HT2.out.probe hempty')
    rw [← hi] at HPS HHS
    have HCS := Lib.hid (Tab.cnt_set (x := ((a, b, c), v)) hempty)
    have hb' := htb2.below hb3 htb2.lt
    have hq' := har2.below hb3 har2.lt
    have hbx := hbox.below hb3 hbox.lt
    have h0 : w3.cell? ⟨ht, 0, none⟩ = some (.slice (some ⟨npl, 0, none⟩) Q.length Q.length) := hb'.cell_of rfl
    have h1 : w3.cell? ⟨ht, 1, none⟩ = some (.int .i64 (Tab.cnt Q)) := hb'.cell_of rfl
    have h2 : w3.cell? ⟨ht, 2, none⟩ = some (.int .i64 (Tab.cnt Q)) := hb'.cell_of rfl
    have f1 : w3.frozen? ⟨ht, 1, none⟩ = false := hb'.frozen _
    have f2 : w3.frozen? ⟨ht, 2, none⟩ = false := hb'.frozen _
    have d0 : w3.cell? ⟨w.heap.size, 0, none⟩ = some (.int .i64 a) := hbx.cell_of rfl
    have d1 : w3.cell? ⟨w.heap.size, 1, none⟩ = some (.int .i64 b) := hbx.cell_of rfl
    have d2 : w3.cell? ⟨w.heap.size, 2, none⟩ = some (.int .i64 c) := hbx.cell_of rfl
    have hc := place_cells hq' hempty
    have c0 : w3.cell? ⟨npl, i * 5, none⟩ = some (.int .i64 0) := hc 0 _ (by omega) rfl
    have c1 : w3.cell? ⟨npl, i * 5 + 1, none⟩ = some (.int .i64 0) := hc 1 _ (by omega) rfl
    have c2 : w3.cell? ⟨npl, i * 5 + 2, none⟩ = some (.int .i64 0) := hc 2 _ (by omega) rfl
    have c3 : w3.cell? ⟨npl, i * 5 + 3, none⟩ = some (.int .i64 0) := hc 3 _ (by omega) rfl
    have c4 : w3.cell? ⟨npl, i * 5 + 4, none⟩ = some (.int .i64 0) := hc 4 _ (by omega) rfl
    have z0 : w3.frozen? ⟨npl, i * 5, none⟩ = false := hq'.frozen _
    have z1 : w3.frozen? ⟨npl, i * 5 + 1, none⟩ = false := hq'.frozen _
    have z2 : w3.frozen? ⟨npl, i * 5 + 2, none⟩ = false := hq'.frozen _
    have z3 : w3.frozen? ⟨npl, i * 5 + 3, none⟩ = false := hq'.frozen _
    have z4 : w3.frozen? ⟨npl, i * 5 + 4, none⟩ = false := hq'.frozen _
    have hne : npl ≠ ht := hq'.ne_ hb' (by decide)
    have hne2 : w.heap.size ≠ ht := by omega
    have HB3 := Lib.hid hb'
    have HQ3 := Lib.hid hq'
    have HK3 := Lib.hid (HK2.out.trans (Keep.of_below (F := [ht]) hb3) (fun x hx => .inl hx))
    have hcl : Tab.cnt Q ≤ 131072 := by rw [HCNT.out]; exact hc0
    generalize hm : Tab.cnt Q = m at *
    have HM := Lib.hid hm
    clear hm hi hdl hpast q1 q2 hempty hempty' hb3 hbox hb' hq' hc hbx htb2 har2 x1 x2 x3
    have tt : decide ((1048576 : Int) ≤ (m : Int)) = false := by simp; omega
    have HCL := Lib.hid hcl
    have HLE := Lib.hid hle2
    have HC0 := Lib.hid hc0
    have hmm : m ≤ 10000000 := by omega
    clear hcl hle2 hc0
    go_wp2
    go_region
    go_wp2
    go_ret
    have hiQ : i < Q.length := hil
    have hm4 := pow_mod4 HP.out hge2
    have hle : Q.length ≤ 1048576 := HLE.out
    have e1 := plArr_set Q i hiQ (some ((a, b, c), v)) _ _ _ _ _ rfl
    have hcs : Tab.cnt (Q.set i (some ((a, b, c), v))) = m + 1 := by rw [HCS.out]
    have hsz2 : w.heap.size ≤ w2.heap.size := Nat.le_trans (by simp) HK2.out.size
    have hnew : npl = pl ∨ w.heap.size ≤ npl := by
      rcases HNPL.out with h | h
      · exact .inl h
      · right; simp at h; omega
    refine ⟨rfl, npl, Q.set i (some ((a, b, c), v)), ⟨?_, ?_, HPS.out, ⟨p, by rw [List.length_set]; exact HP.out⟩, by rw [List.length_set]; exact hge2, by rw [List.length_set]; exact hle, by rw [List.length_set, hcs]; omega, ?_⟩, ?_, ?_, hnew, ?_⟩
    · rw [List.length_set, hcs]
      exact (((((((HB3.out.set_ 1 _).set_ 2 _).far (p := ⟨npl, _, none⟩) (Ne.symm hne) _).far (p := ⟨npl, _, none⟩) (Ne.symm hne) _).far (p := ⟨npl, _, none⟩) (Ne.symm hne) _).far (p := ⟨npl, _, none⟩) (Ne.symm hne) _).far (p := ⟨npl, _, none⟩) (Ne.symm hne) _).drew
    · rw [← e1]
      exact (((((((HQ3.out.far (p := ⟨ht, 1, none⟩) hne _).far (p := ⟨ht, 2, none⟩) hne _).set_ (i * 5) _).set_ (i * 5 + 1) _).set_ (i * 5 + 2) _).set_ (i * 5 + 3) _).set_ (i * 5 + 4) _).drew
    · rw [List.length_set, hcs]
      have := HT2.out.sized
      rw [HM.out] at this
      omega
    · intro K' v'
      rw [HHS.out, HHAS.out]
    · rw [hcs, ← HCNT.out]
    · have hmem : npl ∈ [ht, pl] ∨ w.heap.size ≤ npl := by
        rcases hnew with h | h
        · left; simp [h]
        · exact .inr h
      have hk : Keep [ht, pl] w w3 := ((Keep.refl [ht, pl] w).alloc _).trans HK3.out (fun x hx => .inl (by simp at hx; simp [hx]))
      exact (((((((hk.setCell (p := ⟨ht, 1, none⟩) (.inl (by simp)) _).setCell (p := ⟨ht, 2, none⟩) (.inl (by simp)) _).setCell (p := ⟨npl, _, none⟩) hmem _).setCell (p := ⟨npl, _, none⟩) hmem _).setCell (p := ⟨npl, _, none⟩) hmem _).setCell (p := ⟨npl, _, none⟩) hmem _).setCell (p := ⟨npl, _, none⟩) hmem _).drew
end Go.Proofs.YtndefnfknhjfkaaGreatDoor

namespace Go.Proofs.YtndefnfknhjfkaaGreatDoor
open Go.RowKit Go.Proofs.Osier

theorem results_tmp4 {fn : Func} {t u v x : Tmp} (h : fn.results = #[.tmp t, .tmp u, .tmp v, .tmp x]) (tmps : Array Value) (P : Program) (w : World) :
    (results fn tmps).run P w = .ok (.tuple #[tmps.getD t undef, tmps.getD u undef, tmps.getD v undef, tmps.getD x undef]) w := by simp [results, h]

def ndCells (n : Nd) : List Value := [.bool true, .int .i64 n.v, .int .i64 n.lo, .int .i64 n.hi, .int .i64 0]
theorem ndCells_length (n : Nd) : (ndCells n).length = 5 := rfl

/-- A store in memory, with the numbers of its blocks. -/
structure NodeAt (h : Key → Nat) (w : World) (st lb cap ht pl : Nat) (P : List Pl) (s : St) : Prop where
  st : Blk w st 168 #[.int .i64 s.vars, .int .i64 s.budget, .slice (some ⟨lb, 0, none⟩) s.l.length cap, .slice none 0 0, .pointer (some ⟨ht, 0, none⟩), .int .i64 s.l.length, .int .i64 (s.l.length - 2 : Nat), .int .i64 0]
  nodes : w.ownsRow 0 171 5 (.slice (some ⟨lb, 0, none⟩) s.l.length cap) s.l.length (s.l.flatMap ndCells)
  tab : TabAt h w ht pl P
  has : ∀ K k, Tab.Has P K k ↔ 2 ≤ k ∧ k < s.l.length ∧ s.nd k = ⟨K.1, K.2.1, K.2.2⟩
  cnt : Tab.cnt P + 2 = s.l.length
  wf : s.WF
  most : s.l.length ≤ s.budget
  small : s.budget ≤ 65536
  vars : s.vars ≤ 256

/-- A store in memory: its blocks are those of a list. -/
def Sto (h : Key → Nat) (w : World) (st : Nat) (F : List Nat) (s : St) : Prop := ∃ lb cap ht pl P, F = [st, lb, ht, pl] ∧ NodeAt h w st lb cap ht pl P s

theorem node_cells {h : Key → Nat} {w : World} {st lb cap ht pl : Nat} {P : List Pl} {s : St} (t : NodeAt h w st lb cap ht pl P s) {k : Nat} (hk : k < s.l.length) :
    ∀ j v, j < 5 → (ndCells (s.nd k))[j]? = some v → w.cell? ⟨lb, k * 5 + j, none⟩ = some v := by
  intro j v hj hv
  have hx : s.l[k]? = some (s.nd k) := by simp [St.nd, List.getD, List.getElem?_eq_getElem hk]
  have hf := flat_get ndCells 5 ndCells_length s.l k j _ hx hj
  have := t.nodes.cells (g := lb) rfl (5 * k + j) v (hf.trans hv)
  have hadd : (⟨lb, 0, none⟩ : Addr).add (5 * k + j) = ⟨lb, k * 5 + j, none⟩ := by
    unfold Addr.add
    split
    · rename_i h0; have : k * 5 + j = 0 := by omega
      rw [this]
    · simp; omega
  rwa [hadd] at this

theorem given_node {w : World} {st ht : Nat} {a b c d e f g : Value} (hb : Blk w st 168 #[a, b, c, d, .pointer (some ⟨ht, 0, none⟩), e, f, g]) :
    Calls Tryz.prog 105 #[.pointer (some ⟨st, 0, none⟩)] w fun e w' => e = .returned (.bool true) ∧ w = w' := by
  have h0 : w.cell? ⟨st, 4, none⟩ = some (.pointer (some ⟨ht, 0, none⟩)) := hb.cell_of rfl
  go_enter Tryz.func105, Tryz.ntmps105
  go_wp2
  go_ret
  exact ⟨rfl, rfl⟩

set_option maxHeartbeats 400000 in
theorem find_node {h : Key → Nat} {w : World} {st lb cap ht pl : Nat} {P : List Pl} {s : St} (t : NodeAt h w st lb cap ht pl P s) {k : Nat} (hk : k < s.l.length) :
    Calls Tryz.prog 106 #[.pointer (some ⟨st, 0, none⟩), .int .i64 k] w fun e w' => e = .returned (.int .i64 0) ∧ w = w' := by
  have h0 : w.cell? ⟨st, 2, none⟩ = some (.slice (some ⟨lb, 0, none⟩) s.l.length cap) := t.st.cell_of rfl
  have c0 : w.cell? ⟨lb, k * 5, none⟩ = some (.bool true) := node_cells t hk 0 _ (by omega) rfl
  have hm := t.most
  have hsm := t.small
  have HG := Lib.hid (given_node t.st)
  generalize s.l.length = n at *
  clear t
  go_enter Tryz.func106, Tryz.ntmps106
  go_wp2_with fail
  refine HG.out.mono ?_
  rintro e w' ⟨rfl, rfl⟩
  go_wp2
  go_ret
  exact ⟨rfl, rfl⟩

set_option maxHeartbeats 400000 in
theorem node_node {h : Key → Nat} {w : World} {st lb cap ht pl : Nat} {P : List Pl} {s : St} (t : NodeAt h w st lb cap ht pl P s) {k : Nat} (hk : k < s.l.length) :
    Calls Tryz.prog 138 #[.pointer (some ⟨st, 0, none⟩), .int .i64 k] w fun e w' => e = .returned (.tuple #[.int .i64 (s.nd k).v, .int .i64 (s.nd k).lo, .int .i64 (s.nd k).hi, .int .i64 0]) ∧ ∃ n, w' = w.drewN n := by
  have h0 : w.cell? ⟨st, 2, none⟩ = some (.slice (some ⟨lb, 0, none⟩) s.l.length cap) := t.st.cell_of rfl
  have c1 : w.cell? ⟨lb, k * 5 + 1, none⟩ = some (.int .i64 (s.nd k).v) := node_cells t hk 1 _ (by omega) rfl
  have c2 : w.cell? ⟨lb, k * 5 + 2, none⟩ = some (.int .i64 (s.nd k).lo) := node_cells t hk 2 _ (by omega) rfl
  have c3 : w.cell? ⟨lb, k * 5 + 3, none⟩ = some (.int .i64 (s.nd k).hi) := node_cells t hk 3 _ (by omega) rfl
  have hm := t.most
  have hsm := t.small
  have HF := Lib.hid (find_node t hk)
  generalize s.l.length = n at *
  generalize s.nd k = nk at *
  obtain ⟨nv, nl, nh⟩ := nk
  dsimp only at *
  clear t
  go_enter Tryz.func138, Tryz.ntmps138
  go_wp2_with fail
  refine HF.out.mono ?_
  rintro e w' ⟨rfl, rfl⟩
  go_wp2
  go_quiet (fail)
  go_wp2
  refine bodyPost_ret (results_tmp4 rfl _ _ _) rfl ?_
  exact ⟨rfl, _, rfl⟩

theorem NodeAt.of_heap {h : Key → Nat} {w w' : World} {st lb cap ht pl : Nat} {P : List Pl} {s : St} (t : NodeAt h w st lb cap ht pl P s) (hh : ∀ k ∈ [st, lb, ht, pl], w'.heap[k]? = w.heap[k]?) : NodeAt h w' st lb cap ht pl P s := by
  refine ⟨t.st.of (hh _ (by simp)), ?_, ⟨t.tab.tab.of (hh _ (by simp)), t.tab.arr.of (hh _ (by simp)), t.tab.probe, t.tab.pow, t.tab.ge, t.tab.le, t.tab.few, t.tab.sized⟩, t.has, t.cnt, t.wf, t.most, t.small, t.vars⟩
  obtain ⟨h1, h2⟩ := t.nodes
  refine ⟨h1, ?_⟩
  rcases h2 with h2 | ⟨g, c, cur, hv, hg, hgg, r⟩
  · exact .inl h2
  · refine .inr ⟨g, c, cur, hv, hg, ?_, r⟩
    injection hv with hv
    injection hv with hv
    injection hv with hv
    subst hv
    rw [hh _ (by simp)]; exact hgg

theorem NodeAt.drewN {h : Key → Nat} {w : World} {st lb cap ht pl : Nat} {P : List Pl} {s : St} (t : NodeAt h w st lb cap ht pl P s) (n : Nat) : NodeAt h (w.drewN n) st lb cap ht pl P s := t.of_heap fun _ _ => rfl

theorem quiet_left {P : Program} {f : FuncId} {args : Array Value} {w : World} {n : Nat} {v : Value}
    (h : Calls P f args (w.drewN n) fun e w' => e = .returned v ∧ w.drewN n = w') : Calls P f args (w.drewN n) fun e w' => e = .returned v ∧ ∃ m, w' = w.drewN m :=
  h.mono fun _ _ ⟨he, hm⟩ => ⟨he, n, hm.symm⟩

theorem below_drewN {B : Nat} {a w : World} (h : Below B a w) (n : Nat) : Below B a (w.drewN n) := ⟨h.os, h.tape, h.output, h.size, h.block⟩

theorem info171 : (Tryz.prog.info? 171).map (fun i => (i.zero, i.size, i.bytes)) = some (some (.agg #[.bool false, .int .i64 0, .int .i64 0, .int .i64 0, .int .i64 0]), 5, 40) := by kernel_rfl

/-- A new block's cells, from its head on. -/
theorem cells_new (w : World) (cs : List Value) (t : TypeId) : ∀ j u, cs[j]? = some u → (w.alloc (.cells cs.toArray t)).cell? ((⟨w.heap.size, 0, none⟩ : Addr).add j) = some u := by
  intro j u hj
  have hadd : (⟨w.heap.size, 0, none⟩ : Addr).add j = ⟨w.heap.size, j, none⟩ := by unfold Addr.add; split <;> simp_all
  rw [hadd, (Blk.new w t cs.toArray).cell, List.getElem?_toArray]
  exact hj

/-- How the blocks move: only those of F have turned, and what stands in F' beyond F is new. -/
structure Moves (F F' : List Nat) (w w' : World) : Prop where
  keep : Keep F w w'
  new : ∀ x ∈ F', x ∈ F ∨ w.heap.size ≤ x

theorem Moves.refl (F : List Nat) (w : World) : Moves F F w w := ⟨Keep.refl F w, fun _ h => .inl h⟩
theorem Moves.trans {F F' F'' : List Nat} {a b c : World} (h : Moves F F' a b) (k : Moves F' F'' b c) : Moves F F'' a c :=
  ⟨h.keep.trans k.keep h.new, fun x hx => by
    rcases k.new x hx with h1 | h1
    · exact h.new x h1
    · right; have := h.keep.size; omega⟩
theorem Moves.of_keep {F : List Nat} {a b : World} (h : Keep F a b) : Moves F F a b := ⟨h, fun _ h => .inl h⟩
theorem Moves.of_below {F : List Nat} {a b : World} (h : Below a.heap.size a b) : Moves F F a b := .of_keep (.of_below h)

/-- What Mk answers and leaves. -/
def MkPost (h : Key → Nat) (st : Nat) (F : List Nat) (s : St) (v lo hi : Nat) (w : World) (e : Ending) (w' : World) : Prop :=
  e = .returned (.tuple #[.int .i64 (s.mkn v lo hi).1, .int .i64 0]) ∧ ∃ F', Sto h w' st F' (s.mkn v lo hi).2 ∧ Moves F F' w w'

theorem int64_add (b o m : Nat) (w : World) (hc : w.cell? ⟨b, o, none⟩ = some (.int .i64 m)) (hf : w.frozen? ⟨b, o, none⟩ = false) (hm : m ≤ 1000000) :
    Calls Tryz.prog 109 #[.pointer (some ⟨b, o, none⟩), .int .i64 1] w fun e w' => e = .returned (.int .i64 ((m : Int) + 1)) ∧ w.setCell ⟨b, o, none⟩ (.int .i64 ((m : Int) + 1)) = w' := by
  have hs : (Op.intArith .add .i64 (m : Int) 1).run Tryz.prog w = .ok (.int .i64 ((m : Int) + 1)) w := by
    have : IntKind.i64.wrap ((m : Int) + 1) = (m : Int) + 1 := by rw [IntKind.wrap_i64]; omega
    simp [Op.intArith, this]
  have hadd := run_call_add (P := Tryz.prog) Tryz.func171 (by kernel_rfl) (by kernel_rfl) (by kernel_rfl) .i64 (by kernel_rfl) hc hf hs
  go_enter Tryz.func109, Tryz.ntmps109
  go_wp2
  go_ret
  exact ⟨rfl, rfl⟩

theorem int64_load (b o : Nat) (m : Int) (w : World) (hc : w.cell? ⟨b, o, none⟩ = some (.int .i64 m)) :
    Calls Tryz.prog 199 #[.pointer (some ⟨b, o, none⟩)] w fun e w' => e = .returned (.int .i64 m) ∧ w = w' := by
  have hadd := run_call_load (P := Tryz.prog) Tryz.func214 (by kernel_rfl) (by kernel_rfl) (by kernel_rfl) .i64 (by kernel_rfl) hc
  go_enter Tryz.func199, Tryz.ntmps199
  go_wp2
  go_ret
  exact ⟨rfl, rfl⟩

/-- The last five cells of a row are written. -/
theorem row_set5 (cur : Array Value) (n : Nat) (xs : List Value) (hx : xs.length = n * 5) (zs : List Value) (hz : zs.length = 5) (htake : cur.toList.take ((n + 1) * 5) = xs ++ zs) (a0 a1 a2 a3 a4 : Value) :
    ((((((cur.setIfInBounds (n * 5) a0).setIfInBounds (n * 5 + 1) a1).setIfInBounds (n * 5 + 2) a2).setIfInBounds (n * 5 + 3) a3).setIfInBounds (n * 5 + 4) a4)).toList.take ((n + 1) * 5) = xs ++ [a0, a1, a2, a3, a4] := by
  have hlen : (n + 1) * 5 ≤ cur.size := by
    have := congrArg List.length htake
    rw [List.length_take, List.length_append, hx, hz, Array.length_toList] at this
    omega
  apply List.ext_getElem?
  intro i
  rw [List.getElem?_take, Array.getElem?_toList]
  simp only [Array.getElem?_setIfInBounds, Array.size_setIfInBounds]
  by_cases hi : i < (n + 1) * 5
  · rw [if_pos hi]
    by_cases hin : i < n * 5
    · rw [if_neg (by omega), if_neg (by omega), if_neg (by omega), if_neg (by omega), if_neg (by omega), List.getElem?_append_left (by omega)]
      have := congrArg (fun l => l[i]?) htake
      simp only [List.getElem?_take, if_pos hi, Array.getElem?_toList] at this
      rw [this, List.getElem?_append_left (by omega)]
    · rw [List.getElem?_append_right (by omega), hx]
      rcases (show i = n * 5 ∨ i = n * 5 + 1 ∨ i = n * 5 + 2 ∨ i = n * 5 + 3 ∨ i = n * 5 + 4 by omega) with h | h | h | h | h
      · rw [if_neg (by omega), if_neg (by omega), if_neg (by omega), if_neg (by omega), if_pos (by omega), if_pos (by omega), show i - n * 5 = 0 by omega]; rfl
      · rw [if_neg (by omega), if_neg (by omega), if_neg (by omega), if_pos (by omega), if_pos (by omega), show i - n * 5 = 1 by omega]; rfl
      · rw [if_neg (by omega), if_neg (by omega), if_pos (by omega), if_pos (by omega), show i - n * 5 = 2 by omega]; rfl
      · rw [if_neg (by omega), if_pos (by omega), if_pos (by omega), show i - n * 5 = 3 by omega]; rfl
      · rw [if_pos (by omega), if_pos (by omega), show i - n * 5 = 4 by omega]; rfl
  · rw [if_neg hi, List.getElem?_eq_none (by rw [List.length_append, hx]; simp; omega)]

theorem row_get5 (cur : Array Value) (n : Nat) (xs : List Value) (hx : xs.length = n * 5) (zs : List Value) (htake : cur.toList.take ((n + 1) * 5) = xs ++ zs) (j : Nat) (hj : j < 5) (v : Value) (hv : zs[j]? = some v) :
    cur[n * 5 + j]? = some v := by
  have := congrArg (fun l => l[n * 5 + j]?) htake
  simp only [List.getElem?_take, if_pos (show n * 5 + j < (n + 1) * 5 by omega), Array.getElem?_toList] at this
  rw [this, List.getElem?_append_right (by omega), hx, show n * 5 + j - n * 5 = j by omega, hv]

/-- A slice of the call's own that is not empty: its block is known. -/
theorem ownsRow_blk {w : World} {base e size n : Nat} {v : Value} {xs : List Value} (h : w.ownsRow base e size v n xs) (hn : 0 < n) :
    ∃ g cap cur, v = .slice (some ⟨g, 0, none⟩) n cap ∧ base ≤ g ∧ Blk w g e cur ∧ n ≤ cap ∧ cap ≤ maxLen ∧ cur.size = cap * size ∧ cur.toList.take (n * size) = xs := by
  rcases h.2 with ⟨_, h0⟩ | ⟨g, cap, cur, hv, hb, hg, r⟩
  · omega
  · exact ⟨g, cap, cur, hv, hb, hg, r⟩

theorem ownsRow_mk {w : World} {base e size n g cap : Nat} {cur : Array Value} {xs : List Value} (hx : xs.length = n * size) (hb : base ≤ g) (hg : Blk w g e cur) (h1 : n ≤ cap) (h2 : cap ≤ maxLen) (h3 : cur.size = cap * size) (h4 : cur.toList.take (n * size) = xs) :
    w.ownsRow base e size (.slice (some ⟨g, 0, none⟩) n cap) n xs := ⟨hx, .inr ⟨g, cap, cur, rfl, hb, hg, h1, h2, h3, h4⟩⟩

end Go.Proofs.YtndefnfknhjfkaaGreatDoor

namespace Go.Proofs.YtndefnfknhjfkaaGreatDoor
open Go.RowKit Go.Proofs.Osier

set_option maxHeartbeats 1000000 in
set_option maxRecDepth 100000 in
theorem mk_walk {h : Key → Nat} (H : IsHash h) {w : World} {st lb cap ht pl : Nat} {P : List Pl} {s : St} (t : NodeAt h w st lb cap ht pl P s) {v lo hi : Nat} (ok : s.MkOk v lo hi) (hne : lo ≠ hi) (hroom : (∃ k, s.find ⟨v, lo, hi⟩ = some k) ∨ s.l.length < s.budget) :
    Calls Tryz.prog 60 #[.pointer (some ⟨st, 0, none⟩), .int .i64 v, .int .i64 lo, .int .i64 hi] w (MkPost h st [st, lb, ht, pl] s v lo hi w) := by
  have h0 : w.cell? ⟨st, 0, none⟩ = some (.int .i64 s.vars) := t.st.cell_of rfl
  have h2 : w.cell? ⟨st, 2, none⟩ = some (.slice (some ⟨lb, 0, none⟩) s.l.length cap) := t.st.cell_of rfl
  have cl : w.cell? ⟨lb, lo * 5 + 1, none⟩ = some (.int .i64 (s.nd lo).v) := node_cells t ok.llo 1 _ (by omega) rfl
  have ch : w.cell? ⟨lb, hi * 5 + 1, none⟩ = some (.int .i64 (s.nd hi).v) := node_cells t ok.lhi 1 _ (by omega) rfl
  have hm := t.most
  have hsm := t.small
  have hvv := t.vars
  have llo := ok.llo
  have lhi := ok.lhi
  have hv := ok.vv
  have vlo := ok.vlo
  have vhi := ok.vhi
  have HT := Lib.hid t
  have HF := Lib.hid (fun (n k : Nat) (hk : k < s.l.length) => quiet_left (find_node (t.drewN n) hk))
  have HG := Lib.hid (fun (n : Nat) => quiet_left (given_node (t.drewN n).st))
  have HOK := Lib.hid ok
  generalize hl : s.l.length = n at *
  generalize hx : (s.nd lo).v = xl at *
  generalize hy : (s.nd hi).v = xh at *
  have HL := Lib.hid hl
  have HX := Lib.hid hx
  have HY := Lib.hid hy
  clear t ok hl hx hy
  have hneb : ((lo : Int) == (hi : Int)) = false := by rw [beq_eq_false_iff_ne]; omega
  have b1 : decide ((v : Int) < 0) = false := by simp
  obtain ⟨mn, b2, b4⟩ : ∃ mn : Nat, (if xh < xl then (xh : Int) else (xl : Int)) = (mn : Int) ∧ v < mn := by
    by_cases hx : xh < xl
    · exact ⟨xh, by rw [if_pos hx], vhi⟩
    · exact ⟨xl, by rw [if_neg hx], vlo⟩
  have b3 : ¬ s.vars ≤ v := by omega
  have HNE := Lib.hid hne
  have HROOM := Lib.hid hroom
  clear hne hroom
  go_enter Tryz.func60, Tryz.ntmps60
  go_wp2
  go_quiet ((first | (go_at_call 105; exact HG.out _) | (go_at_call 106; exact HF.out _ _ (by omega))))
  generalize hwq : w.drewN nq = w1
  have HW := Lib.hid hwq
  have t1 : NodeAt h w1 st lb cap ht pl P s := by rw [← hwq]; exact HT.out.drewN nq
  have hs1 : w1.heap.size = w.heap.size := by rw [← hwq]; rfl
  have HS1 := Lib.hid hs1
  have hst := t1.st.lt
  have g4 : w1.cell? ⟨st, 4, none⟩ = some (.pointer (some ⟨ht, 0, none⟩)) := t1.st.cell_of rfl
  clear hwq h0 h2 cl ch hs1
  go_wp2
  have hbx := Blk.new w1 41 #[.int .i64 v, .int .i64 lo, .int .i64 hi]
  have t2 : NodeAt h (w1.alloc (.cells #[.int .i64 v, .int .i64 lo, .int .i64 hi] 41)) st lb cap ht pl P s := HT.out.of_heap (fun k hk => by
    have : k < w1.heap.size := by
      simp only [List.mem_cons, List.mem_nil_iff, or_false] at hk
      rcases hk with rfl | rfl | rfl | rfl
      · exact t1.st.lt
      · exact (t1.nodes.lt k rfl).2
      · exact t1.tab.tab.lt
      · exact t1.tab.arr.lt
    rw [Below.heap_alloc _ _ _ this, ← HW.out]; rfl)
  generalize hw2 : w1.alloc (.cells #[.int .i64 v, .int .i64 lo, .int .i64 hi] 41) = w2 at *
  have HW2 := Lib.hid hw2
  have HT2 := Lib.hid t2
  have HBX := Lib.hid hbx
  have hb1 : w1.heap.size < w2.heap.size := hbx.lt
  have hst2 := t2.st.lt
  clear hw2 t1 t2 hbx g4
  cases hf : s.find ⟨v, lo, hi⟩ with
  | some k =>
    obtain ⟨hk2, hkl, hkn⟩ := St.find_some hf
    have HGET := Lib.hid (fun (wx : World) (tx : TabAt h wx ht pl P) => get_has H ht pl P v lo hi k wx tx ((HT.out.has (v, lo, hi) k).2 ⟨hk2, hkl, hkn⟩))
    have g4 : w2.cell? ⟨st, 4, none⟩ = some (.pointer (some ⟨ht, 0, none⟩)) := HT2.out.st.cell_of rfl
    have k1 : w2.cell? ⟨w1.heap.size, 0, none⟩ = some (.int .i64 v) := HBX.out.cell_of rfl
    have k2 : w2.cell? ⟨w1.heap.size, 1, none⟩ = some (.int .i64 lo) := HBX.out.cell_of rfl
    have k3 : w2.cell? ⟨w1.heap.size, 2, none⟩ = some (.int .i64 hi) := HBX.out.cell_of rfl
    go_region_held3 (fun w' => w'.cell? ⟨st, 4, none⟩ = some (.pointer (some ⟨ht, 0, none⟩)) ∧ w'.cell? ⟨w1.heap.size, 0, none⟩ = some (.int .i64 v) ∧ w'.cell? ⟨w1.heap.size, 1, none⟩ = some (.int .i64 lo) ∧ w'.cell? ⟨w1.heap.size, 2, none⟩ = some (.int .i64 hi))
      (first | exact ⟨g4, k1, k2, k3⟩ | exact ⟨(hb.cell (p := ⟨st, 4, none⟩) hst2).trans g4, (hb.cell (p := ⟨w1.heap.size, 0, none⟩) hb1).trans k1, (hb.cell (p := ⟨w1.heap.size, 1, none⟩) hb1).trans k2, (hb.cell (p := ⟨w1.heap.size, 2, none⟩) hb1).trans k3⟩)
      (first | (go_at_call 107; refine (HGET.out _ (HT2.out.drewN 1).tab).mono ?_; rintro e w' ⟨rfl, hb⟩))
    go_wp2
    go_ret2
    have hkeep : Below w.heap.size w w' := by
      have e1 : Below w.heap.size w w2 := by rw [← HW2.out, ← HW.out]; exact ((below_drewN (Below.refl _ _) nq).alloc (Nat.le_refl _) _)
      exact (below_drewN e1 1).trans (hb.mono e1.size)
    have e0 := St.mkn_found HNE.out hf
    unfold MkPost
    rw [e0]
    refine ⟨rfl, [st, lb, ht, pl], ?_, .of_below hkeep⟩
    · exact ⟨lb, cap, ht, pl, P, rfl, HT.out.of_heap fun x hx => hkeep.block x (by
        simp only [List.mem_cons, List.mem_nil_iff, or_false] at hx
        rcases hx with rfl | rfl | rfl | rfl
        · exact HT.out.st.lt
        · exact (HT.out.nodes.lt x rfl).2
        · exact HT.out.tab.tab.lt
        · exact HT.out.tab.arr.lt)⟩
  | none =>
    have hroom : n < s.budget := by
      rcases HROOM.out with ⟨k, hk⟩ | h
      · rw [hf] at hk; cases hk
      · exact h
    have habs : ∀ k, ¬ Tab.Has P (v, lo, hi) k := fun k hh => by
      obtain ⟨a, b, c⟩ := (HT.out.has (v, lo, hi) k).1 hh
      exact St.find_none hf k a b c
    have HABS := Lib.hid habs
    have HF0 := Lib.hid hf
    have HGET := Lib.hid (fun (wx : World) (tx : TabAt h wx ht pl P) => get_not H ht pl P v lo hi wx tx habs)
    clear habs
    have g4 : w2.cell? ⟨st, 4, none⟩ = some (.pointer (some ⟨ht, 0, none⟩)) := HT2.out.st.cell_of rfl
    have k1 : w2.cell? ⟨w1.heap.size, 0, none⟩ = some (.int .i64 v) := HBX.out.cell_of rfl
    have k2 : w2.cell? ⟨w1.heap.size, 1, none⟩ = some (.int .i64 lo) := HBX.out.cell_of rfl
    have k3 : w2.cell? ⟨w1.heap.size, 2, none⟩ = some (.int .i64 hi) := HBX.out.cell_of rfl
    go_region_held3 (fun w' => w'.cell? ⟨st, 4, none⟩ = some (.pointer (some ⟨ht, 0, none⟩)) ∧ w'.cell? ⟨w1.heap.size, 0, none⟩ = some (.int .i64 v) ∧ w'.cell? ⟨w1.heap.size, 1, none⟩ = some (.int .i64 lo) ∧ w'.cell? ⟨w1.heap.size, 2, none⟩ = some (.int .i64 hi))
      (first | exact ⟨g4, k1, k2, k3⟩ | exact ⟨(hb.cell (p := ⟨st, 4, none⟩) hst2).trans g4, (hb.cell (p := ⟨w1.heap.size, 0, none⟩) hb1).trans k1, (hb.cell (p := ⟨w1.heap.size, 1, none⟩) hb1).trans k2, (hb.cell (p := ⟨w1.heap.size, 2, none⟩) hb1).trans k3⟩)
      (first | (go_at_call 107; refine (HGET.out _ (HT2.out.drewN 1).tab).mono ?_; rintro e w' ⟨rfl, hb⟩))
    have hbl := hb
    have t3 : NodeAt h w' st lb cap ht pl P s := (HT2.out.drewN 1).of_heap fun x hx => hb.block x (by
        simp only [List.mem_cons, List.mem_nil_iff, or_false] at hx
        rcases hx with rfl | rfl | rfl | rfl
        · exact (HT2.out.drewN 1).st.lt
        · exact ((HT2.out.drewN 1).nodes.lt x rfl).2
        · exact (HT2.out.drewN 1).tab.tab.lt
        · exact (HT2.out.drewN 1).tab.arr.lt)
    have bx3 : Blk w' w1.heap.size 41 #[.int .i64 v, .int .i64 lo, .int .i64 hi] := (HBX.out.drewN 1).below hb hb1
    have hkeep : Below w.heap.size w w' := by
      have e1 : Below w.heap.size w w2 := by rw [← HW2.out, ← HW.out]; exact ((below_drewN (Below.refl _ _) nq).alloc (Nat.le_refl _) _)
      exact (below_drewN e1 1).trans (hb.mono e1.size)
    have HT3 := Lib.hid t3
    have HB3 := Lib.hid bx3
    have HK3 := Lib.hid hkeep
    have g1 : w'.cell? ⟨st, 1, none⟩ = some (.int .i64 s.budget) := t3.st.cell_of rfl
    have g2 : w'.cell? ⟨st, 2, none⟩ = some (.slice (some ⟨lb, 0, none⟩) s.l.length cap) := t3.st.cell_of rfl
    have g3 : w'.cell? ⟨st, 3, none⟩ = some (.slice none 0 0) := t3.st.cell_of rfl
    have g5 : w'.cell? ⟨st, 5, none⟩ = some (.int .i64 s.l.length) := t3.st.cell_of rfl
    have hst3 := t3.st.lt
    rw [HL.out] at g2 g5
    have hrb : decide ((s.budget : Int) ≤ (n : Int)) = false := by simp; omega
    clear hb hbl t3 bx3 hkeep g4 k1 k2 k3 hf
    go_wp2
    go_quiet (fail)
    generalize hw4 : w'.drewN _ = w4
    have t4 : NodeAt h w4 st lb cap ht pl P s := by rw [← hw4]; exact HT3.out.drewN _
    have bx4 : Blk w4 w1.heap.size 41 #[.int .i64 v, .int .i64 lo, .int .i64 hi] := by rw [← hw4]; exact HB3.out
    have k4 : Below w.heap.size w w4 := by rw [← hw4]; exact below_drewN HK3.out _
    have HT4 := Lib.hid t4
    have HB4 := Lib.hid bx4
    have HK4 := Lib.hid k4
    have g2 : w4.cell? ⟨st, 2, none⟩ = some (.slice (some ⟨lb, 0, none⟩) s.l.length cap) := t4.st.cell_of rfl
    have g3 : w4.cell? ⟨st, 3, none⟩ = some (.slice none 0 0) := t4.st.cell_of rfl
    have f2 : w4.frozen? ⟨st, 2, none⟩ = false := t4.st.frozen _
    have hown := t4.nodes
    have hst4 := t4.st.lt
    rw [HL.out] at g2 hown
    obtain ⟨i0, hi0, hz0, hz1, hz2⟩ := info_parts info171
    clear hw4 t4 bx4 k4
    go_wp2_with (at_builtin; refine wpList_append_own_at _ rfl _ _ 162 rfl 0 171 i0 (.agg #[.bool false, .int .i64 0, .int .i64 0, .int .i64 0, .int .i64 0]) 5 40 Tryz.underlying162 hi0 hz0 hz1 hz2 rfl (by decide) _ _ _ rfl (hown.alloc _) ⟨w4.heap.size, 0, none⟩ 1 1 [.bool false, .int .i64 0, .int .i64 0, .int .i64 0, .int .i64 0] rfl rfl ?c1 ?c2 ?c3 ?c4 ?c5 ?_)
    case c1 => exact cells_new w4 _ 171
    case c2 => intro u hu; simp at hu; rcases hu with rfl | rfl <;> rfl
    case c3 => unfold maxLen; omega
    case c4 => omega
    case c5 => omega
    intro v' w5 hown5 hgrow5 hnil5 hat5
    have hxl : (s.l.flatMap ndCells).length = n * 5 := by rw [flat_length ndCells 5 ndCells_length, HL.out]; omega
    have hn2 : 2 ≤ n := by rw [← HL.out]; exact HT4.out.wf.len2
    obtain ⟨g0, c0, cur0, hv0, _, hcur0, _, _, _, _⟩ := ownsRow_blk hown (by omega)
    obtain rfl : lb = g0 := by injection hv0 with hv0; injection hv0 with hv0; injection hv0
    obtain ⟨g, cap', cur, hv', _, hcur, hcap1, hcap2, hcs, htk⟩ := ownsRow_blk hown5 (by omega)
    rw [hv'] at hat5 ⊢
    simp only [Value.ownBlock] at hat5 hgrow5
    have e1 : st ≠ lb := HT4.out.st.ne_ hcur0 (by decide)
    have e2 : ht ≠ lb := HT4.out.tab.tab.ne_ hcur0 (by decide)
    have e3 : pl ≠ lb := HT4.out.tab.arr.ne_ hcur0 (by decide)
    have e4 : w1.heap.size ≠ lb := HB4.out.ne_ hcur0 (by decide)
    have st5 := (HT4.out.st.alloc (.cells #[.bool false, .int .i64 0, .int .i64 0, .int .i64 0, .int .i64 0] 171)).grown hgrow5 (fun e => e1 (by injection e))
    have ht5 := (HT4.out.tab.tab.alloc (.cells #[.bool false, .int .i64 0, .int .i64 0, .int .i64 0, .int .i64 0] 171)).grown hgrow5 (fun e => e2 (by injection e))
    have pl5 := (HT4.out.tab.arr.alloc (.cells #[.bool false, .int .i64 0, .int .i64 0, .int .i64 0, .int .i64 0] 171)).grown hgrow5 (fun e => e3 (by injection e))
    have bx5 := (HB4.out.alloc (.cells #[.bool false, .int .i64 0, .int .i64 0, .int .i64 0, .int .i64 0] 171)).grown hgrow5 (fun e => e4 (by injection e))
    have k5 : Keep [st, lb, ht, pl] w w5 := ((Keep.of_below HK4.out).alloc _).grown hgrow5 (fun x hx => by injection hx with hx; left; simp [hx])
    have d1 : st ≠ g := st5.ne_ hcur (by decide)
    have d2 : ht ≠ g := ht5.ne_ hcur (by decide)
    have d3 : pl ≠ g := pl5.ne_ hcur (by decide)
    have d4 : w1.heap.size ≠ g := bx5.ne_ hcur (by decide)
    have dg : g = lb ∨ w.heap.size ≤ g := by
      rcases hat5 with h | h
      · left; injection h
      · right
        injection h with h
        have := HK4.out.size
        first | omega | (simp at h; omega)
    have r0 : w5.cell? ⟨g, n * 5, none⟩ = some (.bool false) := by rw [hcur.cell]; exact row_get5 cur n _ hxl _ htk 0 (by omega) _ rfl
    have r1 : w5.cell? ⟨g, n * 5 + 1, none⟩ = some (.int .i64 0) := by rw [hcur.cell]; exact row_get5 cur n _ hxl _ htk 1 (by omega) _ rfl
    have r2 : w5.cell? ⟨g, n * 5 + 2, none⟩ = some (.int .i64 0) := by rw [hcur.cell]; exact row_get5 cur n _ hxl _ htk 2 (by omega) _ rfl
    have r3 : w5.cell? ⟨g, n * 5 + 3, none⟩ = some (.int .i64 0) := by rw [hcur.cell]; exact row_get5 cur n _ hxl _ htk 3 (by omega) _ rfl
    have r4 : w5.cell? ⟨g, n * 5 + 4, none⟩ = some (.int .i64 0) := by rw [hcur.cell]; exact row_get5 cur n _ hxl _ htk 4 (by omega) _ rfl
    have z0 : w5.frozen? ⟨g, n * 5, none⟩ = false := hcur.frozen _
    have z1 : w5.frozen? ⟨g, n * 5 + 1, none⟩ = false := hcur.frozen _
    have z2 : w5.frozen? ⟨g, n * 5 + 2, none⟩ = false := hcur.frozen _
    have z3 : w5.frozen? ⟨g, n * 5 + 3, none⟩ = false := hcur.frozen _
    have z4 : w5.frozen? ⟨g, n * 5 + 4, none⟩ = false := hcur.frozen _
    have y2 : w5.cell? ⟨st, 2, none⟩ = some (.slice (some ⟨lb, 0, none⟩) n cap) := by rw [← HL.out]; exact st5.cell_of rfl
    have fy2 : w5.frozen? ⟨st, 2, none⟩ = false := st5.frozen _
    have HCUR := Lib.hid hcur
    have HST5 := Lib.hid st5
    have HHT5 := Lib.hid ht5
    have HPL5 := Lib.hid pl5
    have HBX5 := Lib.hid bx5
    have HK5 := Lib.hid k5
    have HDG := Lib.hid dg
    have HTK := Lib.hid htk
    have HCS := Lib.hid hcs
    have HXL := Lib.hid hxl
    clear hcur st5 ht5 pl5 bx5 k5 dg htk hcs hxl hat5 hgrow5 hown5 hnil5 hv' hv0 hcur0 g2 g3 f2 hown hz0 hz1 hz2 hi0
    go_wp2
    have HST6 := Lib.hid ((((((HST5.out.set_ 2 (.slice (some ⟨g, 0, none⟩) (n + 1) cap')).far (p := ⟨g, n * 5, none⟩) d1 (.bool true)).far (p := ⟨g, n * 5 + 1, none⟩) d1 (.int .i64 v)).far (p := ⟨g, n * 5 + 2, none⟩) d1 (.int .i64 lo)).far (p := ⟨g, n * 5 + 3, none⟩) d1 (.int .i64 hi)).far (p := ⟨g, n * 5 + 4, none⟩) d1 (.int .i64 0))
    have HHT6 := Lib.hid ((((((HHT5.out.far (p := ⟨st, 2, none⟩) (HHT5.out.ne_ HST5.out (by decide)) (.slice (some ⟨g, 0, none⟩) (n + 1) cap')).far (p := ⟨g, n * 5, none⟩) d2 (.bool true)).far (p := ⟨g, n * 5 + 1, none⟩) d2 (.int .i64 v)).far (p := ⟨g, n * 5 + 2, none⟩) d2 (.int .i64 lo)).far (p := ⟨g, n * 5 + 3, none⟩) d2 (.int .i64 hi)).far (p := ⟨g, n * 5 + 4, none⟩) d2 (.int .i64 0))
    have HPL6 := Lib.hid ((((((HPL5.out.far (p := ⟨st, 2, none⟩) (HPL5.out.ne_ HST5.out (by decide)) (.slice (some ⟨g, 0, none⟩) (n + 1) cap')).far (p := ⟨g, n * 5, none⟩) d3 (.bool true)).far (p := ⟨g, n * 5 + 1, none⟩) d3 (.int .i64 v)).far (p := ⟨g, n * 5 + 2, none⟩) d3 (.int .i64 lo)).far (p := ⟨g, n * 5 + 3, none⟩) d3 (.int .i64 hi)).far (p := ⟨g, n * 5 + 4, none⟩) d3 (.int .i64 0))
    have HBX6 := Lib.hid ((((((HBX5.out.far (p := ⟨st, 2, none⟩) (HBX5.out.ne_ HST5.out (by decide)) (.slice (some ⟨g, 0, none⟩) (n + 1) cap')).far (p := ⟨g, n * 5, none⟩) d4 (.bool true)).far (p := ⟨g, n * 5 + 1, none⟩) d4 (.int .i64 v)).far (p := ⟨g, n * 5 + 2, none⟩) d4 (.int .i64 lo)).far (p := ⟨g, n * 5 + 3, none⟩) d4 (.int .i64 hi)).far (p := ⟨g, n * 5 + 4, none⟩) d4 (.int .i64 0))
    have HG6 := Lib.hid ((((((HCUR.out.far (p := ⟨st, 2, none⟩) (Ne.symm d1) (.slice (some ⟨g, 0, none⟩) (n + 1) cap')).set_ (n * 5) (.bool true)).set_ (n * 5 + 1) (.int .i64 v)).set_ (n * 5 + 2) (.int .i64 lo)).set_ (n * 5 + 3) (.int .i64 hi)).set_ (n * 5 + 4) (.int .i64 0))
    have HROW6 := Lib.hid (row_set5 cur n _ HXL.out _ rfl HTK.out (.bool true) (.int .i64 v) (.int .i64 lo) (.int .i64 hi) (.int .i64 0))
    have hdg : g ∈ [st, lb, ht, pl] ∨ w.heap.size ≤ g := by
      rcases HDG.out with h | h
      · left; simp [h]
      · exact .inr h
    have HK6 := Lib.hid ((((((HK5.out.setCell (p := ⟨st, 2, none⟩) (.inl (by simp)) (.slice (some ⟨g, 0, none⟩) (n + 1) cap')).setCell (p := ⟨g, n * 5, none⟩) hdg (.bool true)).setCell (p := ⟨g, n * 5 + 1, none⟩) hdg (.int .i64 v)).setCell (p := ⟨g, n * 5 + 2, none⟩) hdg (.int .i64 lo)).setCell (p := ⟨g, n * 5 + 3, none⟩) hdg (.int .i64 hi)).setCell (p := ⟨g, n * 5 + 4, none⟩) hdg (.int .i64 0))
    have hcs6 : (((((cur.setIfInBounds (n * 5) (.bool true)).setIfInBounds (n * 5 + 1) (.int .i64 v)).setIfInBounds (n * 5 + 2) (.int .i64 lo)).setIfInBounds (n * 5 + 3) (.int .i64 hi)).setIfInBounds (n * 5 + 4) (.int .i64 0)).size = cap' * 5 := by simp [HCS.out]
    have HCS6 := Lib.hid hcs6
    generalize (((((w5.setCell ⟨st, 2, none⟩ (.slice (some ⟨g, 0, none⟩) (n + 1) cap')).setCell ⟨g, n * 5, none⟩ (.bool true)).setCell ⟨g, n * 5 + 1, none⟩ (.int .i64 v)).setCell ⟨g, n * 5 + 2, none⟩ (.int .i64 lo)).setCell ⟨g, n * 5 + 3, none⟩ (.int .i64 hi)).setCell ⟨g, n * 5 + 4, none⟩ (.int .i64 0) = w6 at *
    generalize (((((cur.setIfInBounds (n * 5) (.bool true)).setIfInBounds (n * 5 + 1) (.int .i64 v)).setIfInBounds (n * 5 + 2) (.int .i64 lo)).setIfInBounds (n * 5 + 3) (.int .i64 hi)).setIfInBounds (n * 5 + 4) (.int .i64 0)) = cur6 at *
    have q4 : w6.cell? ⟨st, 4, none⟩ = some (.pointer (some ⟨ht, 0, none⟩)) := HST6.out.cell_of rfl
    have k1 : w6.cell? ⟨w1.heap.size, 0, none⟩ = some (.int .i64 v) := HBX6.out.cell_of rfl
    have k2 : w6.cell? ⟨w1.heap.size, 1, none⟩ = some (.int .i64 lo) := HBX6.out.cell_of rfl
    have k3 : w6.cell? ⟨w1.heap.size, 2, none⟩ = some (.int .i64 hi) := HBX6.out.cell_of rfl
    have hlst := HST6.out.lt
    have hlbx := HBX6.out.lt
    have m1 : st ∉ [ht, pl] := by
      have a1 : st ≠ ht := HST6.out.ne_ HHT6.out (by decide)
      have a2 : st ≠ pl := HST6.out.ne_ HPL6.out (by decide)
      simp [a1, a2]
    have m2 : w1.heap.size ∉ [ht, pl] := by
      have a1 : w1.heap.size ≠ ht := HBX6.out.ne_ HHT6.out (by decide)
      have a2 : w1.heap.size ≠ pl := HBX6.out.ne_ HPL6.out (by decide)
      simp [a1, a2]
    have T := HT4.out.tab
    have HPUT := Lib.hid (fun wx (tx : TabAt h wx ht pl P) => put_new H ht pl P v lo hi n wx tx (by have := HT4.out.cnt; have := HT4.out.most; rw [HL.out] at *; omega) HABS.out)
    have HT6 : Hid (TabAt h (w6.drewN 1) ht pl P) := ⟨HHT6.out, HPL6.out, T.probe, T.pow, T.ge, T.le, T.few, T.sized⟩
    clear T hcs6 r0 r1 r2 r3 r4 z0 z1 z2 z3 z4 y2 fy2 hdg
    go_region_held3 (fun w' => w'.cell? ⟨st, 4, none⟩ = some (.pointer (some ⟨ht, 0, none⟩)) ∧ w'.cell? ⟨w1.heap.size, 0, none⟩ = some (.int .i64 v) ∧ w'.cell? ⟨w1.heap.size, 1, none⟩ = some (.int .i64 lo) ∧ w'.cell? ⟨w1.heap.size, 2, none⟩ = some (.int .i64 hi))
      (first | exact ⟨q4, k1, k2, k3⟩ | exact ⟨(hk7.cell (p := ⟨st, 4, none⟩) hlst m1).trans q4, (hk7.cell (p := ⟨w1.heap.size, 0, none⟩) hlbx m2).trans k1, (hk7.cell (p := ⟨w1.heap.size, 1, none⟩) hlbx m2).trans k2, (hk7.cell (p := ⟨w1.heap.size, 2, none⟩) hlbx m2).trans k3⟩)
      (first | (go_at_call 108; refine (HPUT.out _ HT6.out).mono ?_; rintro e w7 ⟨rfl, npl, Q, htab7, hhas7, hcnt7, hnpl7, hk7⟩))
    have hst7 := hk7.blk (HST6.out.drewN 1) m1
    have hg7 := hk7.blk (HG6.out.drewN 1) (by simp [Ne.symm d2, Ne.symm d3])
    have HST7 := Lib.hid hst7
    have HG7 := Lib.hid hg7
    have HTAB7 := Lib.hid htab7
    have HHAS7 := Lib.hid hhas7
    have HCNT7 := Lib.hid hcnt7
    have HNPL7 := Lib.hid hnpl7
    have HK7 := Lib.hid hk7
    have u5 : w7.cell? ⟨st, 5, none⟩ = some (.int .i64 n) := by rw [← HL.out]; exact hst7.cell_of rfl
    have fu5 : w7.frozen? ⟨st, 5, none⟩ = false := hst7.frozen _
    have hst8 := hst7.set_ 5 (.int .i64 ((n : Int) + 1))
    have HST8 := Lib.hid hst8
    have HADD := Lib.hid (fun (x : Value) => int64_add st 6 (s.l.length - 2) (w7.setCell ⟨st, 5, none⟩ (.int .i64 ((n : Int) + 1))) (hst8.cell_of rfl) (hst8.frozen _) (by rw [HL.out]; omega))
    clear hst7 hg7 htab7 hhas7 hcnt7 hnpl7 hk7 hst8 q4 k1 k2 k3
    go_wp2_with (go_at_call 109; refine (HADD.out undef).mono ?_; rintro e w' ⟨rfl, rfl⟩)
    go_ret2
    have hr : n < s.budget := hroom
    have ok := HOK.out
    have e0 := St.mkn_new HNE.out HF0.out
    unfold MkPost
    rw [e0]
    refine ⟨by rw [HL.out]; rfl, [st, g, ht, npl], ?_, ?_⟩
    · have hlen : (s.push ⟨v, lo, hi⟩).l.length = n + 1 := by rw [← HL.out]; simp [St.push]
      have hfl : (s.push ⟨v, lo, hi⟩).l.flatMap ndCells = s.l.flatMap ndCells ++ [.bool true, .int .i64 v, .int .i64 lo, .int .i64 hi, .int .i64 0] := by
        simp [St.push, List.flatMap_append, ndCells]
      have hne := HNE.out
      have hwf := St.push_wf HT.out.wf (n := ⟨v, lo, hi⟩) ok.vv ok.llo ok.lhi hne ok.vlo ok.vhi (St.find_none HF0.out)
      refine ⟨g, cap', ht, npl, Q, rfl, ⟨?_, ?_, ?_, ?_, ?_, hwf, by rw [hlen]; exact hr, HT.out.small, HT.out.vars⟩⟩
      · have hb := HST8.out.set_ 6 (.int .i64 (((s.l.length - 2 : Nat) : Int) + 1))
        rw [hlen]
        have e1 : (((n + 1 - 2 : Nat)) : Int) = ((s.l.length - 2 : Nat) : Int) + 1 := by rw [HL.out]; omega
        rw [e1]
        exact hb
      · rw [hlen, hfl]
        refine ownsRow_mk ?_ (Nat.zero_le _) ((HG7.out.far (p := ⟨st, 5, none⟩) (Ne.symm d1) _).far (p := ⟨st, 6, none⟩) (Ne.symm d1) _) hcap1 hcap2 HCS6.out HROW6.out
        rw [List.length_append, HXL.out]; simp; omega
      · have T := HTAB7.out
        have a1 : ht ≠ st := T.tab.ne_ HST7.out (by decide)
        have a2 : npl ≠ st := T.arr.ne_ HST7.out (by decide)
        exact ⟨(T.tab.far (p := ⟨st, 5, none⟩) a1 _).far (p := ⟨st, 6, none⟩) a1 _, (T.arr.far (p := ⟨st, 5, none⟩) a2 _).far (p := ⟨st, 6, none⟩) a2 _, T.probe, T.pow, T.ge, T.le, T.few, T.sized⟩
      · intro K k
        rw [HHAS7.out, HT.out.has, hlen, HL.out]
        constructor
        · rintro (⟨a, b, c⟩ | ⟨rfl, rfl⟩)
          · exact ⟨a, by omega, by rw [St.push_nd_old s _ (by rw [HL.out]; exact b)]; exact c⟩
          · refine ⟨hn2, by omega, ?_⟩
            have := St.push_nd_new s ⟨v, lo, hi⟩
            rw [HL.out] at this
            exact this
        · rintro ⟨a, b, c⟩
          by_cases hk : k < n
          · left
            rw [St.push_nd_old s _ (by rw [HL.out]; exact hk)] at c
            exact ⟨a, hk, c⟩
          · right
            obtain rfl : k = n := by omega
            have := St.push_nd_new s ⟨v, lo, hi⟩
            rw [HL.out, c] at this
            obtain ⟨K1, K2, K3⟩ := K
            simp only [Nd.mk.injEq] at this
            obtain ⟨a1, a2, a3⟩ := this
            exact ⟨by rw [a1, a2, a3], rfl⟩
      · rw [HCNT7.out, hlen]
        have := HT.out.cnt
        rw [HL.out] at this
        omega
    · have hk8 : Keep [st, lb, ht, pl] w w7 := (HK6.out.drewN 1).trans HK7.out (fun x hx => by
        left
        simp only [List.mem_cons, List.mem_nil_iff, or_false] at hx ⊢
        rcases hx with rfl | rfl <;> simp)
      refine ⟨(hk8.setCell (p := ⟨st, 5, none⟩) (.inl (by simp)) _).setCell (p := ⟨st, 6, none⟩) (.inl (by simp)) _, fun x hx => ?_⟩
      simp only [List.mem_cons, List.mem_nil_iff, or_false] at hx ⊢
      rcases hx with rfl | rfl | rfl | rfl
      · left; simp
      · rcases HDG.out with h | h
        · left; simp [h]
        · exact .inr h
      · left; simp
      · rcases HNPL7.out with h | h
        · left; simp [h]
        · right; exact Nat.le_trans HK6.out.size h

set_option maxHeartbeats 1000000 in
set_option maxRecDepth 100000 in
theorem mk_same {h : Key → Nat} {w : World} {st lb cap ht pl : Nat} {P : List Pl} {s : St} (t : NodeAt h w st lb cap ht pl P s) {v lo : Nat} (ok : s.MkOk v lo lo) :
    Calls Tryz.prog 60 #[.pointer (some ⟨st, 0, none⟩), .int .i64 v, .int .i64 lo, .int .i64 lo] w (MkPost h st [st, lb, ht, pl] s v lo lo w) := by
  have h0 : w.cell? ⟨st, 0, none⟩ = some (.int .i64 s.vars) := t.st.cell_of rfl
  have h2 : w.cell? ⟨st, 2, none⟩ = some (.slice (some ⟨lb, 0, none⟩) s.l.length cap) := t.st.cell_of rfl
  have cl : w.cell? ⟨lb, lo * 5 + 1, none⟩ = some (.int .i64 (s.nd lo).v) := node_cells t ok.llo 1 _ (by omega) rfl
  have hm := t.most
  have hsm := t.small
  have hvv := t.vars
  have llo := ok.llo
  have hv := ok.vv
  have vlo := ok.vlo
  have HT := Lib.hid t
  have HF := Lib.hid (fun (n k : Nat) (hk : k < s.l.length) => quiet_left (find_node (t.drewN n) hk))
  have HG := Lib.hid (fun (n : Nat) => quiet_left (given_node (t.drewN n).st))
  have HOK := Lib.hid ok
  generalize hl : s.l.length = n at *
  generalize hx : (s.nd lo).v = xl at *
  have HL := Lib.hid hl
  have HX := Lib.hid hx
  clear t ok hl hx
  have b1 : decide ((v : Int) < 0) = false := by simp
  have b2 : ¬ xl ≤ v := by omega
  have b3 : ¬ s.vars ≤ v := by omega
  go_enter Tryz.func60, Tryz.ntmps60
  go_wp2
  go_quiet ((first | (go_at_call 105; exact HG.out _) | (go_at_call 106; exact HF.out _ _ (by omega))))
  go_wp2
  go_ret2
  unfold MkPost
  rw [St.mkn_eq]
  exact ⟨rfl, [st, lb, ht, pl], ⟨lb, cap, ht, pl, P, rfl, HT.out.drewN _⟩, .of_keep ((Keep.refl _ _).drewN _)⟩

/-- Mk. -/
theorem mk_any {h : Key → Nat} (H : IsHash h) {w : World} {st : Nat} {F : List Nat} {s : St} (t : Sto h w st F s) {v lo hi : Nat} (ok : s.MkOk v lo hi) (hroom : lo = hi ∨ (∃ k, s.find ⟨v, lo, hi⟩ = some k) ∨ s.l.length < s.budget) :
    Calls Tryz.prog 60 #[.pointer (some ⟨st, 0, none⟩), .int .i64 v, .int .i64 lo, .int .i64 hi] w (MkPost h st F s v lo hi w) := by
  obtain ⟨lb, cap, ht, pl, P, rfl, t⟩ := t
  by_cases he : lo = hi
  · subst he
    exact mk_same t ok
  · exact mk_walk H t ok he (hroom.resolve_left he)
end Go.Proofs.YtndefnfknhjfkaaGreatDoor

namespace Go.Proofs.YtndefnfknhjfkaaGreatDoor
open Go.RowKit Go.Proofs.Osier

theorem disable (w : World) : (callFunc 232 #[]).run Tryz.prog w = .ok (.value (.tuple #[])) w := run_call_mark0 Tryz.func232 (by kernel_rfl) (by kernel_rfl) (by kernel_rfl) .disable (by kernel_rfl) w
theorem enable (w : World) : (callFunc 234 #[]).run Tryz.prog w = .ok (.value (.tuple #[])) w := run_call_mark0 Tryz.func234 (by kernel_rfl) (by kernel_rfl) (by kernel_rfl) .enable (by kernel_rfl) w
theorem acquire (a : Addr) (w : World) : (callFunc 235 #[.pointer (some a)]).run Tryz.prog w = .ok (.value (.tuple #[])) w := run_call_marked Tryz.func235 (by kernel_rfl) (by kernel_rfl) (by kernel_rfl) .acquire (by kernel_rfl) a w
theorem releaseMerge (a : Addr) (w : World) : (callFunc 237 #[.pointer (some a)]).run Tryz.prog w = .ok (.value (.tuple #[])) w := run_call_marked Tryz.func237 (by kernel_rfl) (by kernel_rfl) (by kernel_rfl) .releaseMerge (by kernel_rfl) a w

/-- '(*sync/atomic.Bool).Store(true)', ENTERED AS A DEFERRED CALL: the cell holds 1. -/
theorem store_deferred (a : Addr) (x : Value) (u : FrameMode) (w : World) (hc : w.cell? a = some x) (hz : w.frozen? a = false) :
    CallsD Tryz.prog 220 #[.pointer (some a), .bool true] u w fun e u' w' => u' = u ∧ (e = .returned (.tuple #[]) ∧ w' = w.drew.setCell a (.int .u32 1)) := by
  have hc' : w.drew.cell? a = some x := by go_simp
  have hz' : w.drew.frozen? a = false := by go_simp
  have hst := run_call_store (P := Tryz.prog) Tryz.func228 (by kernel_rfl) (by kernel_rfl) (by kernel_rfl) (by kernel_rfl) (k := .u32) (y := 1) hc' hz'
  go_enter_d Tryz.func220, Tryz.ntmps220
  go_wp2
  go_region_calls
  all_goals (go_end0; exact ⟨rfl, rfl⟩)

set_option maxRecDepth 100000 in
/-- '(*sync.Mutex).Unlock', ENTERED AS A DEFERRED CALL, the lock held and nobody waiting (state 1): state 0. -/
theorem unlock_deferred (a : Addr) (u : FrameMode) (w : World) (hc : w.cell? a = some (.int .i32 1)) (hz : w.frozen? a = false) :
    CallsD Tryz.prog 219 #[.pointer (some a)] u w fun e u' w' => u' = u ∧ (e = .returned (.tuple #[]) ∧ w' = w.setCell a (.int .i32 0)) := by
  have hd := disable
  have he := enable
  have hr := releaseMerge
  have hadd := run_call_add (P := Tryz.prog) Tryz.func238 (by kernel_rfl) (by kernel_rfl) (by kernel_rfl) .i32 (by kernel_rfl) (y := -1) (s := 0) hc hz (by simp [go_sem]; rfl)
  have hcv := run_convert_to_unsafe (P := Tryz.prog) (src := 287) (dst := 291) Tryz.underlying287 Tryz.underlying291 (by kernel_rfl) hc
  go_enter_d Tryz.func219, Tryz.ntmps219
  go_wp2
  go_end0
  go_wp2
  go_end0
  exact ⟨rfl, rfl⟩

set_option maxRecDepth 100000 in
/-- '(*sync.Mutex).Lock', the lock free (state 0): state 1. A CONTRACT, to be met at the call ('go_at_call 9'). -/
theorem lock_free (a : Addr) (w : World) (hc : w.cell? a = some (.int .i32 0)) (hz : w.frozen? a = false) :
    Calls Tryz.prog 218 #[.pointer (some a)] w fun e w' => e = .returned (.tuple #[]) ∧ w' = w.setCell a (.int .i32 1) := by
  have hd := disable
  have he := enable
  have ha := acquire
  have hcas := run_call_cas_hit (P := Tryz.prog) Tryz.func233 (by kernel_rfl) (by kernel_rfl) (by kernel_rfl) .i32 (by kernel_rfl) (y := 1) hc hz
  have hc' : (w.setCell a (.int .i32 1)).cell? a = some (.int .i32 1) := World.cell?_setCell_same w a _ hc
  have hcv := run_convert_to_unsafe (P := Tryz.prog) (src := 287) (dst := 291) Tryz.underlying287 Tryz.underlying291 (by kernel_rfl) hc'
  go_enter Tryz.func218, Tryz.ntmps218
  go_wp2
  first | go_end0 | (simp only [Exit.inBlock, Exit.then]; refine bodyPost_ret (results_none rfl _ _ _) rfl ?_) | refine bodyPost_ret (results_none rfl _ _ _) rfl ?_
  go_wp2
  go_end0
  exact ⟨rfl, rfl⟩
/-- A place of the cache. -/
def fcCells : Pl → List Value
  | none => [.bool false, .int .i64 0, .int .i64 0, .int .i64 0, .int .i64 0]
  | some (K, v) => [.bool true, .int .i64 K.1, .int .i64 K.2.1, .int .i64 K.2.2, .int .i64 v]
theorem fcCells_length (x : Pl) : (fcCells x).length = 5 := by cases x <;> rfl
def fcArr (P : List Pl) : Array Value := (P.flatMap fcCells).toArray
theorem fcArr_get {P : List Pl} {i j : Nat} {x : Pl} (h : P[i]? = some x) (hj : j < 5) : (fcArr P)[i * 5 + j]? = (fcCells x)[j]? := by
  unfold fcArr
  rw [List.getElem?_toArray, Nat.mul_comm]
  exact flat_get fcCells 5 fcCells_length P i j x h hj
theorem fcArr_size (P : List Pl) : (fcArr P).size = 5 * P.length := by
  simp only [fcArr, List.size_toArray]
  exact flat_length fcCells 5 fcCells_length P

theorem info216 : (Tryz.prog.info? 216).map (fun i => (i.zero, i.size, i.bytes)) = some (some (.agg #[.bool false, .int .i64 0, .int .i64 0, .int .i64 0, .int .i64 0]), 5, 40) := by kernel_rfl

theorem madeCells_fc (n : Nat) : madeCells #[.bool false, .int .i64 0, .int .i64 0, .int .i64 0, .int .i64 0] (n * 5) = fcArr (List.replicate n none) := by
  apply Array.ext
  · rw [fcArr_size]; simp [madeCells]; omega
  · intro i h1 h2
    have hs : (madeCells #[Value.bool false, .int .i64 0, .int .i64 0, .int .i64 0, .int .i64 0] (n * 5)).size = n * 5 := by simp [madeCells]
    have hi : i < n * 5 := by omega
    have hr : (List.replicate n (none : Pl))[i / 5]? = some none := by
      rw [List.getElem?_replicate, if_pos (by omega)]
    have hg := fcArr_get (j := i % 5) hr (Nat.mod_lt _ (by omega))
    rw [Nat.div_add_mod' i 5, Array.getElem?_eq_getElem h2] at hg
    refine Option.some.inj ?_
    rw [hg]
    simp only [madeCells, Array.getElem_map, Array.getElem_range]
    have : i % 5 < 5 := Nat.mod_lt _ (by omega)
    show some (#[Value.bool false, .int .i64 0, .int .i64 0, .int .i64 0, .int .i64 0][i % 5]!) = _
    rcases (show i % 5 = 0 ∨ i % 5 = 1 ∨ i % 5 = 2 ∨ i % 5 = 3 ∨ i % 5 = 4 by omega) with h | h | h | h | h <;> rw [h] <;> rfl

/-- make([]found, 4096): the number behind a name. -/
theorem make153 (n : Nat) (hn : n = 4096) (w : World) : (Instr.makeSlice 153 (.int .i64 4096) (.int .i64 4096)).run Tryz.prog w =
    .ok (.slice (some ⟨w.heap.size, 0, none⟩) n n) (w.alloc (.cells (fcArr (List.replicate n none)) 216)) := by
  obtain ⟨i, hi, hz0, hz1, hz2⟩ := info_parts info216
  have hr := run_make_rowN (P := Tryz.prog) 153 216 i _ Tryz.underlying153 hi hz0 .i64 .i64 n n (Nat.le_refl _) (by rw [hz2]; omega) (by omega) w
  rw [hz1] at hr
  rw [show (4096 : Int) = ((n : Nat) : Int) by omega, hr, ← madeCells_fc]
  rfl

set_option maxRecDepth 100000 in
theorem once_fn (op st : Nat) (n : Nat) (hn : n = 4096) (pb : Nat) (v4 v5 : Value) (d m : Int) (w : World) (hpb : pb < w.heap.size) (hp : w.cell? ⟨pb, 0, none⟩ = some (.pointer (some ⟨op, 0, none⟩))) (hb : Blk w op 155 #[.pointer (some ⟨st, 0, none⟩), .int .u32 d, .int .i32 m, .int .u32 0, v4, v5]) :
    Calls Tryz.prog 189 #[.pointer (some ⟨pb, 0, none⟩)] w fun e w' => e = .returned (.tuple #[]) ∧ w' = ((w.setCell ⟨op, 4, none⟩ (.slice (some ⟨w.heap.size, 0, none⟩) n n)).alloc (.cells (fcArr (List.replicate n none)) 216)).drew := by
  have h4 : w.cell? ⟨op, 4, none⟩ = some v4 := hb.cell_of rfl
  have f4 : w.frozen? ⟨op, 4, none⟩ = false := hb.frozen _
  have hlt := hb.lt
  generalize hA : fcArr (List.replicate n none) = A
  have hmk : ∀ w : World, (Instr.makeSlice 153 (.int .i64 4096) (.int .i64 4096)).run Tryz.prog w = .ok (.slice (some ⟨w.heap.size, 0, none⟩) n n) (w.alloc (.cells A 216)) := by rw [← hA]; exact make153 n hn
  clear hn hA hb
  go_enter Tryz.func189, Tryz.ntmps189
  go_wp2
  go_region
  go_end0
  exact ⟨rfl, rfl⟩
theorem bool_load0 (a : Addr) (w : World) (hc : w.cell? a = some (.int .u32 0)) : Calls Tryz.prog 206 #[.pointer (some a)] w fun e w' => e = .returned (.bool false) ∧ w = w' := by
  have hl := run_call_load (P := Tryz.prog) Tryz.func217 (by kernel_rfl) (by kernel_rfl) (by kernel_rfl) .u32 (by kernel_rfl) hc
  go_enter Tryz.func206, Tryz.ntmps206
  go_wp2
  go_ret
  exact ⟨rfl, rfl⟩
theorem bool_load1 (a : Addr) (w : World) (hc : w.cell? a = some (.int .u32 1)) : Calls Tryz.prog 206 #[.pointer (some a)] w fun e w' => e = .returned (.bool true) ∧ w = w' := by
  have hl := run_call_load (P := Tryz.prog) Tryz.func217 (by kernel_rfl) (by kernel_rfl) (by kernel_rfl) .u32 (by kernel_rfl) hc
  go_enter Tryz.func206, Tryz.ntmps206
  go_wp2
  go_ret
  exact ⟨rfl, rfl⟩

/-- What fresh leaves, the first time. -/
def freshWorld (op n : Nat) (A : Array Value) (w : World) : World :=
  ((((((w.setCell ⟨op, 2, none⟩ (.int .i32 1)).setCell ⟨op, 4, none⟩ (.slice (some ⟨w.heap.size, 0, none⟩) n n)).alloc (.cells A 216)).drew).drew.setCell ⟨op, 1, none⟩ (.int .u32 1)).setCell ⟨op, 2, none⟩ (.int .i32 0))

set_option maxRecDepth 100000 in
set_option maxHeartbeats 1600000 in
theorem slow_any (op st : Nat) (n : Nat) (hn : n = 4096) (pb : Nat) (w : World) (hne : op ≠ pb) (hpb : pb < w.heap.size) (hp : w.cell? ⟨pb, 0, none⟩ = some (.pointer (some ⟨op, 0, none⟩)))
    (hb : Blk w op 155 #[.pointer (some ⟨st, 0, none⟩), .int .u32 0, .int .i32 0, .int .u32 0, .slice none 0 0, .int .i64 0]) :
    Calls Tryz.prog 207 #[.pointer (some ⟨op, 1, none⟩), .func (.func 189) #[] #[.pointer (some ⟨pb, 0, none⟩)]] w fun e w' => e = .returned (.tuple #[]) ∧
      w' = freshWorld op n (fcArr (List.replicate n none)) w := by
  have hb1 := hb.set_ 2 (.int .i32 1)
  have HL := Lib.hid (bool_load0 ⟨op, 1, none⟩ (w.setCell ⟨op, 2, none⟩ (.int .i32 1)) (hb1.cell_of rfl))
  have hp1 : (w.setCell ⟨op, 2, none⟩ (.int .i32 1)).cell? ⟨pb, 0, none⟩ = some (.pointer (some ⟨op, 0, none⟩)) := (World.cell?_setCell_other _ ⟨op, 2, none⟩ ⟨pb, 0, none⟩ _ (fun h => hne (by injection h))).trans hp
  have hnot : ∀ (x : Bool) (w : World), (Op.unary .not (.bool x)).run Tryz.prog w = .ok (.bool (!x)) w := fun _ _ => rfl
  have HO := Lib.hid (once_fn op st n hn pb _ _ _ _ _ (by simpa using hpb) hp1 hb1)
  have h2 : w.cell? ⟨op, 2, none⟩ = some (.int .i32 0) := hb.cell_of rfl
  have f2 : w.frozen? ⟨op, 2, none⟩ = false := hb.frozen _
  have HB := Lib.hid hb
  clear hn hb hb1 hp1
  go_enter_defers Tryz.func207, Tryz.ntmps207
  go_wp2_with (go_at_call 218; refine (lock_free ⟨op, 2, none⟩ _ h2 f2).mono ?_; rintro e w' ⟨rfl, rfl⟩)
  refine HL.out.mono ?_
  rintro e w' ⟨rfl, rfl⟩
  go_wp2_with fail
  refine HO.out.mono ?_
  rintro e w' ⟨rfl, rfl⟩
  generalize hA : fcArr (List.replicate n none) = A
  have HA := Lib.hid hA
  clear hA
  have hb := HB.out
  have hb4 : Blk (((w.setCell ⟨op, 2, none⟩ (.int .i32 1)).setCell ⟨op, 4, none⟩ (.slice (some ⟨w.heap.size, 0, none⟩) n n)).alloc (.cells A 216)).drew op 155 _ := ((((hb.set_ 2 (.int .i32 1)).set_ 4 (.slice (some ⟨w.heap.size, 0, none⟩) n n)).alloc (.cells A 216))).drew
  simp only [World.size_setCell]
  go_wp2
  refine leaves_cons (f := 220) (args := #[.pointer (some ⟨op, 1, none⟩), .bool true]) (by simp) (by simp [go_sem]) ?_
  refine (store_deferred ⟨op, 1, none⟩ (.int .u32 0) .returning _ (hb4.cell_of rfl) (hb4.frozen _)).mono ?_
  rintro e u' w'' ⟨rfl, rfl, rfl⟩
  refine leaves_cons (f := 219) (args := #[.pointer (some ⟨op, 2, none⟩)]) (by simp [settle]) (by simp [go_sem]) ?_
  refine (unlock_deferred ⟨op, 2, none⟩ _ _ ((hb4.drew.set_ 1 (.int .u32 1)).cell_of rfl) ((hb4.drew.set_ 1 (.int .u32 1)).frozen _)).mono ?_
  rintro e u' w'' ⟨rfl, rfl, rfl⟩
  rw [HA.out]
  simp [Leaves, settle, results, Tryz.results207, freshWorld]

theorem do_first (op st : Nat) (n : Nat) (hn : n = 4096) (pb : Nat) (w : World) (hne : op ≠ pb) (hpb : pb < w.heap.size) (hp : w.cell? ⟨pb, 0, none⟩ = some (.pointer (some ⟨op, 0, none⟩)))
    (hb : Blk w op 155 #[.pointer (some ⟨st, 0, none⟩), .int .u32 0, .int .i32 0, .int .u32 0, .slice none 0 0, .int .i64 0]) :
    Calls Tryz.prog 188 #[.pointer (some ⟨op, 1, none⟩), .func (.func 189) #[] #[.pointer (some ⟨pb, 0, none⟩)]] w fun e w' => e = .returned (.tuple #[]) ∧ w' = freshWorld op n (fcArr (List.replicate n none)) w := by
  have HL := Lib.hid (bool_load0 ⟨op, 1, none⟩ w (hb.cell_of rfl))
  have hnot : ∀ (x : Bool) (w : World), (Op.unary .not (.bool x)).run Tryz.prog w = .ok (.bool (!x)) w := fun _ _ => rfl
  have HS := Lib.hid (slow_any op st n hn pb w hne hpb hp hb)
  clear hn hb
  go_enter Tryz.func188, Tryz.ntmps188
  go_wp2_with (first | (go_at_call 207; refine HS.out.mono ?_; rintro e w' ⟨rfl, rfl⟩) | (go_at_call 206; refine HL.out.mono ?_; rintro e w' ⟨rfl, rfl⟩))
  go_end0
  exact ⟨rfl, rfl⟩

theorem do_done (op : Nat) (fv a c d e f : Value) (w : World) (hb : Blk w op 155 #[a, .int .u32 1, c, d, e, f]) :
    Calls Tryz.prog 188 #[.pointer (some ⟨op, 1, none⟩), fv] w fun e w' => e = .returned (.tuple #[]) ∧ w = w' := by
  have HL := Lib.hid (bool_load1 ⟨op, 1, none⟩ w (hb.cell_of rfl))
  have hnot : ∀ (x : Bool) (w : World), (Op.unary .not (.bool x)).run Tryz.prog w = .ok (.bool (!x)) w := fun _ _ => rfl
  clear hb
  go_enter Tryz.func188, Tryz.ntmps188
  go_wp2_with (go_at_call 206; refine HL.out.mono ?_; rintro e w' ⟨rfl, rfl⟩)
  go_end0
  exact ⟨rfl, rfl⟩
end Go.Proofs.YtndefnfknhjfkaaGreatDoor
