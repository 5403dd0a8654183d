/- Walks: rows, sorted. -/
import Derived.Test.YtndefnfknhjfkaaGreatDoorGn
import Derived.Test.YtndefnfknhjfkaaGreatDoorGm
import Derived.Shelf.SlSortCmp.NoneTotal

/- slices.SortFunc of rows of numbers, by slices.Compare. -/
namespace Go.Proofs.YtndefnfknhjfkaaGreatDoor
open Go.RowKit Go.Sort Go.Shelf Go.Proofs.Osier Go.Proofs

def Tryz.sortF51_ren : Go.Shelf.Ren := ⟨fun | 6 => 51 | 15 => 100 | 14 => 99 | 28 => 153 | 29 => 154 | 20 => 145 | 21 => 146 | 22 => 147 | 23 => 148 | 24 => 149 | 25 => 150 | 26 => 151 | 27 => 152 | 46 => 183 | 47 => 184 | 48 => 185 | 49 => 186 | 50 => 187 | 57 => 205 | n => n, fun | 22 => 33 | 24 => 34 | 25 => 90 | 3 => 3 | 39 => 158 | 0 => 0 | 53 => 144 | 55 => 213 | 4 => 4 | 46 => 206 | 45 => 205 | 50 => 129 | 5 => 5 | 9 => 9 | 66 => 246 | 70 => 250 | 76 => 263 | 77 => 218 | n => n, fun | n => n⟩
theorem Tryz.sortF51 : Go.Proofs.SlLaysF.n6 Tryz.prog Tryz.sortF51_ren := {
  mixed := by kernel_rfl,
  f6 := ⟨Tryz.f51.name, by decide, Tryz.func51.trans (congrArg some (by kernel_rfl))⟩,
  f14 := ⟨Tryz.f99.name, by decide, Tryz.func99.trans (congrArg some (by kernel_rfl))⟩,
  f15 := Tryz.func100.trans (congrArg some (by kernel_rfl)),
  f20 := ⟨Tryz.f145.name, by decide, Tryz.func145.trans (congrArg some (by kernel_rfl))⟩,
  f21 := ⟨Tryz.f146.name, by decide, Tryz.func146.trans (congrArg some (by kernel_rfl))⟩,
  f22 := ⟨Tryz.f147.name, by decide, Tryz.func147.trans (congrArg some (by kernel_rfl))⟩,
  f23 := ⟨Tryz.f148.name, by decide, Tryz.func148.trans (congrArg some (by kernel_rfl))⟩,
  f24 := ⟨Tryz.f149.name, by decide, Tryz.func149.trans (congrArg some (by kernel_rfl))⟩,
  f25 := ⟨Tryz.f150.name, by decide, Tryz.func150.trans (congrArg some (by kernel_rfl))⟩,
  f26 := ⟨Tryz.f151.name, by decide, Tryz.func151.trans (congrArg some (by kernel_rfl))⟩,
  f27 := ⟨Tryz.f152.name, by decide, Tryz.func152.trans (congrArg some (by kernel_rfl))⟩,
  f28 := Tryz.func153.trans (congrArg some (by kernel_rfl)),
  f29 := Tryz.func154.trans (congrArg some (by kernel_rfl)),
  f46 := ⟨Tryz.f183.name, by decide, Tryz.func183.trans (congrArg some (by kernel_rfl))⟩,
  f47 := Tryz.func184.trans (congrArg some (by kernel_rfl)),
  f48 := Tryz.func185.trans (congrArg some (by kernel_rfl)),
  f49 := ⟨Tryz.f186.name, by decide, Tryz.func186.trans (congrArg some (by kernel_rfl))⟩,
  f50 := ⟨Tryz.f187.name, by decide, Tryz.func187.trans (congrArg some (by kernel_rfl))⟩,
  f57 := ⟨Tryz.f205.name, by decide, Tryz.func205.trans (congrArg some (by kernel_rfl))⟩,
  t0 := Tryz.underlying0,
  a0 := Tryz.isAgg0,
  z0 := Tryz.sizeOf0,
  v0 := Tryz.zeroValue0,
  t3 := Tryz.underlying3,
  a3 := Tryz.isAgg3,
  z3 := Tryz.sizeOf3,
  v3 := Tryz.zeroValue3,
  t4 := Tryz.underlying4,
  a4 := Tryz.isAgg4,
  z4 := Tryz.sizeOf4,
  v4 := Tryz.zeroValue4,
  t5 := Tryz.underlying5,
  a5 := Tryz.isAgg5,
  z5 := Tryz.sizeOf5,
  v5 := Tryz.zeroValue5,
  t9 := Tryz.underlying9,
  a9 := Tryz.isAgg9,
  z9 := Tryz.sizeOf9,
  v9 := Tryz.zeroValue9,
  t22 := Tryz.underlying33,
  a22 := Tryz.isAgg33,
  z22 := Tryz.sizeOf33,
  v22 := Tryz.zeroValue33,
  a24 := Tryz.isAgg34,
  z24 := Tryz.sizeOf34,
  t25 := Tryz.underlying90,
  a25 := Tryz.isAgg90,
  z25 := Tryz.sizeOf90,
  v25 := Tryz.zeroValue90,
  t39 := Tryz.underlying158,
  a39 := Tryz.isAgg158,
  z39 := Tryz.sizeOf158,
  v39 := Tryz.zeroValue158,
  t45 := Tryz.underlying205,
  a45 := Tryz.isAgg205,
  z45 := Tryz.sizeOf205,
  v45 := Tryz.zeroValue205,
  t46 := Tryz.underlying206,
  a46 := Tryz.isAgg206,
  z46 := Tryz.sizeOf206,
  v46 := Tryz.zeroValue206,
  t50 := Tryz.underlying129,
  a50 := Tryz.isAgg129,
  z50 := Tryz.sizeOf129,
  v50 := Tryz.zeroValue129,
  t53 := Tryz.underlying144,
  a53 := Tryz.isAgg144,
  z53 := Tryz.sizeOf144,
  v53 := Tryz.zeroValue144,
  t55 := Tryz.underlying213,
  a55 := Tryz.isAgg213,
  z55 := Tryz.sizeOf213,
  v55 := Tryz.zeroValue213,
  t66 := Tryz.underlying246,
  a66 := Tryz.isAgg246,
  z66 := Tryz.sizeOf246,
  v66 := Tryz.zeroValue246,
  t70 := Tryz.underlying250,
  a70 := Tryz.isAgg250,
  z70 := Tryz.sizeOf250,
  v70 := Tryz.zeroValue250,
  t76 := Tryz.underlying263,
  a76 := Tryz.isAgg263,
  z76 := Tryz.sizeOf263,
  v76 := Tryz.zeroValue263,
  t77 := Tryz.underlying218,
  a77 := Tryz.isAgg218,
  z77 := Tryz.sizeOf218,
  v77 := Tryz.zeroValue218 }


def encR (vs : List Value) (j : Nat) : Value := vs.getD j (.slice none 0 0)
def cfR (rows : List (List Nat)) (x y : Nat) : Int := Tup.cmpL (rows.getD x []) (rows.getD y [])

theorem ltR (rows : List (List Nat)) (x y : Nat) : ltOf (cfR rows) x y = decide (rows.getD x [] < rows.getD y []) := by
  unfold ltOf cfR
  exact decide_eq_decide.2 (Tup.cmpL_neg _ _)

theorem swoR (rows : List (List Nat)) : SWO (ltOf (cfR rows)) := {
  irrefl := fun x => by rw [ltR]; simp
  trans := fun x y z h1 h2 => by
    rw [ltR] at *
    simp only [decide_eq_true_eq] at *
    exact List.lt_trans h1 h2
  ntrans := fun x y z h1 h2 => by
    rw [ltR] at *
    simp only [decide_eq_false_iff_not] at *
    rw [List.not_lt] at *
    exact List.le_trans h2 h1 }

section
variable {α : Type} [Inhabited α]
theorem heap_sortW (enc : α → Value) {w : World} {g n : Nat} {os : Array Obj} {cur : Array Value} {e : TypeId} {fr : Nat × Nat} (d : Array α) (hb : w.heap[g]? = some (.cells cur e fr)) :
    (sortWorld enc w g 0 n d os).heap[g]? = some (.cells (putCells enc 0 d cur) e fr) := by
  have hg : g < w.heap.size := (Array.getElem?_eq_some_iff.1 hb).1
  unfold sortWorld
  rw [heap_grow_old _ _ (by simpa using hg)]
  simp [putRow, mapBlock, Sort.ahead, Array.getElem?_modify, hb, onCells]

theorem grown_sortW (enc : α → Value) {w : World} {g n : Nat} {os : Array Obj} (d : Array α) : w.grownBy (sortWorld enc w g 0 n d os) (some g) := by
  unfold sortWorld
  refine ⟨rfl, rfl, rfl, by simp, fun k hk hne => ?_⟩
  rw [heap_grow_old _ _ (by simpa using hk)]
  have : g ≠ k := fun e => hne (by rw [e])
  simp [putRow, mapBlock, Sort.ahead, Array.getElem?_modify, this]

theorem take_putC (enc : α → Value) (cur : Array Value) (d : Array α) (h : d.size ≤ cur.size) : (putCells enc 0 d cur).toList.take d.size = d.toList.map enc := by
  apply List.ext_getElem?
  intro j
  by_cases hj : j < d.size
  · rw [List.getElem?_take_of_lt hj, Array.getElem?_toList]
    simp [putCells, hj, show j < cur.size by omega]
  · rw [List.getElem?_take_eq_none (by omega), List.getElem?_eq_none (by simp; omega)]
end

theorem encR_row {base : Nat} {w : World} {vs : List Value} {rows : List (List Nat)} (h : RowsAbove base w vs rows) (x : Nat) :
    ∃ p cap, encR vs x = .slice p (rows.getD x []).length cap ∧ RowAbove base w p (rows.getD x []) := by
  by_cases hx : x < rows.length
  · obtain ⟨p, cap, h1, h2⟩ := h.2 x _ (List.getElem?_eq_getElem hx)
    refine ⟨p, cap, ?_, ?_⟩
    · simp only [encR, List.getD, h1, List.getElem?_eq_getElem hx]; rfl
    · simpa [List.getD, List.getElem?_eq_getElem hx] using h2
  · have h1 : rows.getD x [] = [] := by simp [List.getD, List.getElem?_eq_none (Nat.le_of_not_lt hx)]
    have h2 : vs.getD x (.slice none 0 0) = .slice none 0 0 := by simp [List.getD, List.getElem?_eq_none (show vs.length ≤ x by rw [h.1]; omega)]
    exact ⟨none, 0, by rw [encR, h1, h2]; rfl, by rw [h1]; exact .inl rfl⟩

theorem range_rows (rows : List (List Nat)) : (List.range rows.length).map (fun j => rows.getD j []) = rows := by
  apply List.ext_getElem?
  intro j
  by_cases hj : j < rows.length
  · simp [hj]
  · simp [hj]

set_option maxHeartbeats 1000000 in
theorem sortF_own {w : World} {base : Nat} {v : Value} {vs : List Value} {rows want : List (List Nat)} (ho : w.ownsRow base 34 1 v rows.length vs) (hr : RowsAbove base w vs rows) (hl : ∀ row ∈ rows, row.length ≤ 1000000) (hn : rows.length ≤ 1000000)
    (hw : want.Pairwise (· < ·)) (hp : rows.Perm want) :
    Calls Tryz.prog 51 #[v, .func (.func 52) #[] #[]] w fun e w' => e = .returned (.tuple #[]) ∧ ∃ vs', w'.ownsRow base 34 1 v rows.length vs' ∧ RowsAbove base w' vs' want ∧ w.grownBy w' v.ownBlock := by
  rcases ho.2 with ⟨rfl, hz⟩ | ⟨gb, cap, cur, rfl, hbase, hgb, r1, r2, r3, r4⟩
  · have h0 : rows = [] := List.eq_nil_of_length_eq_zero hz
    subst h0
    have h1 : want = [] := List.nil_perm.1 hp
    subst h1
    refine (AnyF.slices_SortFunc_none (P := Tryz.prog) (ρ := Tryz.sortF51_ren) { Tryz.sortF51 with } none 0 (.func (.func 52) #[] #[]) w).mono ?_
    rintro e w' ⟨rfl, rfl⟩
    exact ⟨rfl, vs, ho, hr, ⟨rfl, rfl, rfl, Nat.le_refl _, fun _ _ _ => rfl⟩⟩
  · have eg : ∀ args w, (callFunc 52 args).run Tryz.prog w = .ok (.enter 52 args) w := enters_of Tryz.func52 (by kernel_rfl) rfl
    have hb : Blk w gb 34 cur := hgb
    have hgl : gb < w.heap.size := hb.lt
    have hvl : vs.length = rows.length := hr.1
    have hbnd : ∀ x, (rows.getD x []).length ≤ 1000000 := by
      intro x
      by_cases hx : x < rows.length
      · have : rows.getD x [] = rows[x] := by simp [List.getD, List.getElem?_eq_getElem hx]
        rw [this]; exact hl _ (List.getElem_mem hx)
      · have h1 : rows.getD x [] = [] := by simp [List.getD, List.getElem?_eq_none (Nat.le_of_not_lt hx)]
        rw [h1]; exact Nat.zero_le _
    have hcells : ∀ j, j < rows.length → cur[j]? = some (encR vs j) := by
      intro j hj
      have h1 := congrArg (fun l => l[j]?) r4
      simp only [Nat.mul_one] at h1
      rw [List.getElem?_take_of_lt hj, Array.getElem?_toList] at h1
      rw [h1]
      simp [encR, List.getD, List.getElem?_eq_getElem (show j < vs.length by omega)]
    have hH : Holds (encR vs) w gb 0 (Array.range rows.length) := by
      intro j hj
      have hj' : j < rows.length := by simpa using hj
      refine ⟨?_, hb.frozen _⟩
      rw [Nat.zero_add, hb.cell, hcells j hj']
      congr 2
      rw [getElem!_pos _ j hj]
      simp
    have hcmp : CmpLays1 Tryz.prog 52 #[] (encR vs) (cfR rows) gb 0 (Array.range rows.length).size w := by
      intro m os dk hs x y
      have hk : RowsAbove base (sortWorld (encR vs) w gb 0 m dk os) vs rows := hr.keep fun g cs hg hblk => hblk.grown (grown_sortW (encR vs) dk) (fun e => by
        injection e with e
        exact hblk.ne_ hb (by decide) e)
      obtain ⟨px, cx, ex, hx⟩ := encR_row hk x
      obtain ⟨py, cy, ey, hy⟩ := encR_row hk y
      have hc := compare_any hx.row hy.row (hbnd x) (hbnd y) cx cy
      rw [Array.append_empty, ex, ey]
      refine hc.mono ?_
      rintro e w' ⟨rfl, rfl⟩
      exact ⟨rfl, 0, #[], by rw [grow_empty]; rfl⟩
    have h1 : OneCell (encR vs) := by
      intro x
      obtain ⟨px, cx, ex, _⟩ := encR_row hr x
      rw [ex]; rfl
    have hS := Any.slices_SortFunc (ρ := Tryz.sortF51_ren) Tryz.sortF51 (encR vs) h1 (cfR rows) (swoR rows) 52 #[] gb 0 cap (Array.range rows.length) w eg hcmp hH hgl (by rw [Array.size_range]; omega)
    rw [Array.size_range] at hS
    refine hS.mono ?_
    rintro e w' ⟨rfl, d', n, os, hperm, hsort, rfl⟩
    obtain ⟨hsz, _, hpm⟩ := hperm
    rw [Array.size_range] at hsz
    have hpl : d'.toList.Perm (List.range rows.length) := by
      have h2 : (d'.extract 0 rows.length).toList = d'.toList := by rw [← hsz]; simp
      have h3 : ((Array.range rows.length).extract 0 rows.length).toList = List.range rows.length := by simp
      rw [h2, h3] at hpm
      exact hpm
    have hrp : (d'.toList.map fun j => rows.getD j []).Perm rows := by
      have := hpl.map fun j => rows.getD j []
      rwa [range_rows] at this
    have hso : (d'.toList.map fun j => rows.getD j []).Pairwise fun a b => ¬ b < a := by
      rw [List.pairwise_map, List.pairwise_iff_getElem]
      intro i j hi hj hij
      have h5 := hsort i j (Nat.zero_le _) hij (by simpa [hsz] using hj)
      rw [ltR] at h5
      simp only [Array.length_toList] at hi hj
      rw [getElem!_pos _ j hj, getElem!_pos _ i hi] at h5
      simpa using h5
    have heq : (d'.toList.map fun j => rows.getD j []) = want := Tup.sorted_eq hso hw (hrp.trans hp)
    have hg' := grown_sortW (encR vs) (w := w) (g := gb) (n := n) (os := os) d'
    have hk : RowsAbove base (sortWorld (encR vs) w gb 0 n d' os) vs rows := hr.keep fun g cs hg hblk => hblk.grown hg' (fun e => by
      injection e with e
      exact hblk.ne_ hb (by decide) e)
    refine ⟨rfl, d'.toList.map (encR vs), ⟨by simp [hsz], .inr ⟨gb, cap, _, rfl, hbase, heap_sortW (encR vs) d' hgb, r1, r2, by simp [putCells, r3], ?_⟩⟩, ?_, hg'⟩
    · rw [Nat.mul_one, ← hsz]
      exact take_putC _ _ _ (by omega)
    · rw [← heq]
      refine ⟨by simp, fun i row hi => ?_⟩
      rw [List.getElem?_map] at hi ⊢
      cases hdi : d'.toList[i]? with
      | none => rw [hdi] at hi; cases hi
      | some j =>
        rw [hdi] at hi
        simp only [Option.map_some, Option.some.injEq] at hi ⊢
        subst hi
        exact encR_row hk j

end Go.Proofs.YtndefnfknhjfkaaGreatDoor
