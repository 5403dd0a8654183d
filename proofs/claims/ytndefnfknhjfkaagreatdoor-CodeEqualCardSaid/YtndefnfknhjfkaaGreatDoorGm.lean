/- Walks: the ways through a node, its values. -/
import Derived.Test.YtndefnfknhjfkaaGreatDoorGl
import Derived.Deep.AppendLies
import Derived.Deep.RegionLaw

namespace Go.Proofs.YtndefnfknhjfkaaGreatDoor
open Go.RowKit Go.Proofs.Osier

/-- A row of numbers in a block from b0 on. -/
def RowAbove (b0 : Nat) (w : World) (p : Option Addr) (l : List Nat) : Prop := l = [] ∨ ∃ (g : Nat) (cur : Array Value), p = some ⟨g, 0, none⟩ ∧ b0 ≤ g ∧ Blk w g 3 cur ∧ ∀ (i x : Nat), l[i]? = some x → cur[i]? = some (Value.int .i64 (x : Int))
theorem RowAbove.row {b0 : Nat} {w : World} {p : Option Addr} {l : List Nat} (h : RowAbove b0 w p l) : RowIn w p l := by
  rcases h with h | ⟨g, cur, a, _, c, d⟩
  · exact .inl h
  · exact .inr ⟨g, cur, a, c, d⟩
theorem RowAbove.keep {b0 : Nat} {w w' : World} {p : Option Addr} {l : List Nat} (h : RowAbove b0 w p l) (k : ∀ g cur, b0 ≤ g → Blk w g 3 cur → Blk w' g 3 cur) : RowAbove b0 w' p l := by
  rcases h with h | ⟨g, cur, a, b, c, d⟩
  · exact .inl h
  · exact .inr ⟨g, cur, a, b, k g cur b c, d⟩

/-- Values that are rows of numbers, in blocks from b0 on. -/
def RowsAbove (b0 : Nat) (w : World) (vs : List Value) (rows : List (List Nat)) : Prop :=
  vs.length = rows.length ∧ ∀ (i : Nat) row, rows[i]? = some row → ∃ p cap, vs[i]? = some (.slice p row.length cap) ∧ RowAbove b0 w p row

theorem RowsAbove.keep {b0 : Nat} {w w' : World} {vs : List Value} {rows : List (List Nat)} (h : RowsAbove b0 w vs rows) (k : ∀ g cur, b0 ≤ g → Blk w g 3 cur → Blk w' g 3 cur) : RowsAbove b0 w' vs rows :=
  ⟨h.1, fun i row hi => by obtain ⟨p, cap, a, b⟩ := h.2 i row hi; exact ⟨p, cap, a, b.keep k⟩⟩
theorem RowsAbove.nil (b0 : Nat) (w : World) : RowsAbove b0 w [] [] := ⟨rfl, fun i row h => by simp at h⟩
theorem RowsAbove.snoc {b0 : Nat} {w : World} {vs : List Value} {rows : List (List Nat)} (h : RowsAbove b0 w vs rows) {p : Option Addr} {cap : Nat} {row : List Nat} (hr : RowAbove b0 w p row) : RowsAbove b0 w (vs ++ [.slice p row.length cap]) (rows ++ [row]) := by
  refine ⟨by simp [h.1], fun i r hi => ?_⟩
  by_cases hlt : i < rows.length
  · rw [List.getElem?_append_left hlt] at hi
    obtain ⟨p', c', a, b⟩ := h.2 i r hi
    exact ⟨p', c', by rw [List.getElem?_append_left (by rw [h.1]; exact hlt)]; exact a, b⟩
  · rw [List.getElem?_append_right (by omega)] at hi
    have h0 : i - rows.length = 0 := by
      have := (List.getElem?_eq_some_iff.1 hi).1
      simp at this; omega
    rw [h0] at hi
    simp at hi
    subst hi
    exact ⟨p, cap, by rw [List.getElem?_append_right (by rw [h.1]; omega), h.1, h0]; rfl, hr⟩

theorem info34 : (Tryz.prog.info? 34).map (fun i => (i.zero, i.size, i.bytes)) = some (some (.slice none 0 0), 1, 24) := by kernel_rfl

/-- Cubes' boxes. -/
structure CubB where
  b12 : Nat
  b11 : Nat
  b5 : Nat
  b9 : Nat
  b3 : Nat
  b13 : Nat
  wb : Nat
  base : Nat
  b0 : Nat

def wayArr (way : List Nat) : Array Value := (way.map fun x : Nat => Value.int .i64 (x : Int)).toArray
theorem wayArr_set (way : List Nat) (v x : Nat) : (wayArr way).setIfInBounds v (.int .i64 (x : Int)) = wayArr (way.set v x) := by
  simp [wayArr, List.map_set]
theorem wayArr_get (way : List Nat) (v : Nat) : (wayArr way)[v]? = (way[v]?).map fun x : Nat => Value.int .i64 (x : Int) := by simp [wayArr]

structure CubSt (h : Key → Nat) (B : CubB) (st : Nat) (F : List Nat) (s : St) (w : World) (way : List Nat) (rows : List (List Nat)) : Prop where
  f12 : Blk w B.b12 4 #[.bool false]
  f5 : Blk w B.b5 3 #[.int .i64 16384]
  f9 : Blk w B.b9 34 #[.slice (some ⟨B.wb, 0, none⟩) s.vars s.vars]
  f3 : Blk w B.b3 87 #[.pointer (some ⟨st, 0, none⟩)]
  f13 : Blk w B.b13 203 #[.func (.func 144) #[] #[.pointer (some ⟨B.b12, 0, none⟩), .pointer (some ⟨B.b11, 0, none⟩), .pointer (some ⟨B.b5, 0, none⟩), .pointer (some ⟨B.b9, 0, none⟩), .pointer (some ⟨B.b3, 0, none⟩), .pointer (some ⟨B.b13, 0, none⟩)]]
  fw : Blk w B.wb 3 (wayArr way)
  wl : way.length = s.vars
  out : ∃ v vs, Blk w B.b11 33 #[v] ∧ w.ownsRow B.base 34 1 v rows.length vs ∧ RowsAbove B.base w vs rows
  sto : Sto h w st F s
  lt9 : B.b9 < B.base
  ltw : B.wb < B.base
  lt5 : B.b5 < B.base
  ne5 : B.b5 ≠ B.wb
  lb : B.base ≤ w.heap.size
  z12 : B.b0 ≤ B.b12
  z11 : B.b0 ≤ B.b11
  zw : B.b0 ≤ B.wb
  z0 : B.b0 ≤ B.base

theorem Sto.off {h : Key → Nat} {w : World} {st : Nat} {F : List Nat} {s : St} (t : Sto h w st F s) {g : Nat} {ty : TypeId} {cs : Array Value} (hb : Blk w g ty cs) (hn : notBdd ty = true) (i : Nat) (v : Value) : Sto h (w.setCell ⟨g, i, none⟩ v) st F s := by
  simp only [notBdd, Bool.and_eq_true, bne_iff_ne, ne_eq] at hn
  obtain ⟨⟨⟨⟨⟨h1, h2⟩, h3⟩, h4⟩, h5⟩, h6⟩ := hn
  have hx := t.not_mem hb h3 h4 h5 h6
  exact t.of_heap fun k hk => Below.heap_setCell w ⟨g, i, none⟩ v k (by intro e; subst e; exact hx hk)

/-- What the walk through a node leaves. -/
def CubP (h : Key → Nat) (B : CubB) (st : Nat) (F : List Nat) (s : St) (way : List Nat) (rows : List (List Nat)) (k : Nat) (w : World) (e : Ending) (w' : World) : Prop :=
  e = .returned (.tuple #[]) ∧ CubSt h B st F s w' way (rows ++ Cnt.cubes s k way) ∧ Below B.b0 w w'

theorem ownsRow_heap {w w' : World} {base e size n : Nat} {v : Value} {xs : List Value} (hh : w'.heap = w.heap) (h : w.ownsRow base e size v n xs) : w'.ownsRow base e size v n xs := by
  refine ⟨h.1, ?_⟩
  rcases h.2 with hz | ⟨g, c, cur, e1, e2, e3, e4⟩
  · exact .inl hz
  · exact .inr ⟨g, c, cur, e1, e2, by rw [hh]; exact e3, e4⟩

theorem ownsRow_below {w w' : World} {base e size n : Nat} {v : Value} {xs : List Value} (k : Below w.heap.size w w') (h : w.ownsRow base e size v n xs) : w'.ownsRow base e size v n xs := by
  refine ⟨h.1, ?_⟩
  rcases h.2 with hz | ⟨g, c, cur, e1, e2, e3, e4⟩
  · exact .inl hz
  · exact .inr ⟨g, c, cur, e1, e2, (Blk.below (t := e) e3 k (Blk.lt (t := e) e3)), e4⟩

theorem own_form {w : World} {base e size n : Nat} {v : Value} {xs : List Value} (h : w.ownsRow base e size v n xs) : ∃ p cap, v = .slice p n cap ∧ ∀ g, v.ownBlock = some g → base ≤ g ∧ ∃ cs, Blk w g e cs := by
  rcases h.2 with ⟨rfl, hz⟩ | ⟨gb, cap, cur, rfl, hbase, hgb, _⟩
  · exact ⟨none, 0, by rw [hz], by simp [Value.ownBlock]⟩
  · exact ⟨_, cap, rfl, fun g hg => by simp [Value.ownBlock] at hg; subst hg; exact ⟨hbase, _, hgb⟩⟩

theorem cubes_end {h : Key → Nat} {B : CubB} {st : Nat} {F : List Nat} {s : St} {w2 w5 w6 : World} {way : List Nat} {rows : List (List Nat)} (t : CubSt h B st F s w2 way rows) {p p5 : Option Addr} {cap cap5 cap6 gg : Nat} {vs : List Value}
    (h11 : Blk w2 B.b11 33 #[.slice p rows.length cap]) (hown2 : w2.ownsRow B.base 34 1 (.slice p rows.length cap) rows.length vs) (hrows2 : RowsAbove B.base w2 vs rows) (hb5 : Below w2.heap.size w2 w5)
    (hrow5 : w5.ownsRow w2.heap.size 3 1 (.slice p5 s.vars cap5) s.vars (way.map fun x : Nat => Value.int .i64 (x : Int)))
    (hown6 : w6.ownsRow B.base 34 1 (.slice (some ⟨gg, 0, none⟩) (rows.length + 1) cap6) (rows.length + 1) (vs ++ [.slice p5 s.vars cap5]))
    (hgrow6 : (w5.alloc (.cells #[.slice p5 s.vars cap5] 34)).grownBy w6 (Value.slice p rows.length cap).ownBlock) :
    CubSt h B st F s (w6.setCell ⟨B.b11, 0, none⟩ (.slice (some ⟨gg, 0, none⟩) (rows.length + 1) cap6)) way (rows ++ [way]) ∧ Below B.b0 w2 (w6.setCell ⟨B.b11, 0, none⟩ (.slice (some ⟨gg, 0, none⟩) (rows.length + 1) cap6)) := by
  obtain ⟨q, c', e, hblk⟩ := own_form hown2
  have key5 : ∀ {g ty cs}, Blk w2 g ty cs → Blk (w5.alloc (.cells #[.slice p5 s.vars cap5] 34)) g ty cs := fun hb => (hb.below hb5 hb.lt).alloc _
  have key6 : ∀ {g ty cs}, Blk w2 g ty cs → (ty ≠ 34 ∨ g < B.base) → Blk w6 g ty cs := fun {g ty cs} hb hne => (key5 hb).grown hgrow6 (fun e => by
    obtain ⟨h1, cs', h2⟩ := hblk g e.symm
    rcases hne with hne | hne
    · exact hb.ne_ h2 hne rfl
    · omega)
  have h116 := key6 h11 (.inl (by decide))
  have key7 : ∀ {g ty cs}, Blk w2 g ty cs → (ty ≠ 34 ∨ g < B.base) → ty ≠ 33 → Blk (w6.setCell ⟨B.b11, 0, none⟩ (.slice (some ⟨gg, 0, none⟩) (rows.length + 1) cap6)) g ty cs := fun hb hne h33 =>
    (key6 hb hne).far (p := ⟨B.b11, 0, none⟩) ((key6 hb hne).ne_ h116 h33) _
  have hsz5 := hb5.size
  have hsz6 := hgrow6.size
  have hlb := t.lb
  obtain ⟨g6, cap6', cur6, e6, hb6, hblk6, q1, q2, q3, q4⟩ := ownsRow_blk hown6 (by omega)
  have d6 : g6 ≠ B.b11 := hblk6.ne_ h116 (by decide)
  have hB : Keep [] w2 w2 := Keep.refl _ _
  refine ⟨⟨key7 t.f12 (.inl (by decide)) (by decide), key7 t.f5 (.inl (by decide)) (by decide), key7 t.f9 (.inr t.lt9) (by decide), key7 t.f3 (.inl (by decide)) (by decide), key7 t.f13 (.inl (by decide)) (by decide), key7 t.fw (.inl (by decide)) (by decide), t.wl,
    ⟨.slice (some ⟨gg, 0, none⟩) (rows.length + 1) cap6, vs ++ [.slice p5 s.vars cap5], h116.set_ 0 _, ?_, ?_⟩, ?_, t.lt9, t.ltw, t.lt5, t.ne5, ?_, t.z12, t.z11, t.zw, t.z0⟩, ?_⟩
  · rw [List.length_append, List.length_singleton]
    obtain ⟨a, b⟩ := hown6
    refine ⟨a, ?_⟩
    rcases b with b | ⟨g, c, cur, e1, e2, e3, e4⟩
    · exact .inl b
    · refine .inr ⟨g, c, cur, e1, e2, ?_, e4⟩
      have hg : Blk w6 g 34 cur := e3
      exact hg.far (p := ⟨B.b11, 0, none⟩) (hg.ne_ h116 (by decide)) _
  · have h1 : RowsAbove B.base (w6.setCell ⟨B.b11, 0, none⟩ (.slice (some ⟨gg, 0, none⟩) (rows.length + 1) cap6)) vs rows := hrows2.keep fun g cur _ hb => key7 hb (.inl (by decide)) (by decide)
    have h2 : RowAbove B.base (w6.setCell ⟨B.b11, 0, none⟩ (.slice (some ⟨gg, 0, none⟩) (rows.length + 1) cap6)) p5 way := by
      by_cases hz : way = []
      · exact .inl hz
      · have hpos : 0 < s.vars := by rw [← t.wl]; exact List.length_pos_iff.2 hz
        obtain ⟨g, c, cur, e1, e2, e3, _, _, _, e5⟩ := ownsRow_blk hrow5 hpos
        injection e1 with e1
        refine .inr ⟨g, cur, e1, by omega, ?_, fun i x hx => ?_⟩
        · have ha : Blk (w5.alloc (.cells #[.slice p5 s.vars cap5] 34)) g 3 cur := e3.alloc _
          have hb := ha.grown hgrow6 (fun e => by
            obtain ⟨_, cs', h2⟩ := hblk g e.symm
            exact ha.ne_ (key5 h2) (by decide) rfl)
          exact hb.far (p := ⟨B.b11, 0, none⟩) (hb.ne_ h116 (by decide)) _
        · have hil : i < way.length := (List.getElem?_eq_some_iff.1 hx).1
          have h9 := congrArg (fun q => q[i]?) e5
          simp only [List.getElem?_map, hx, Option.map_some, List.getElem?_take] at h9
          rw [if_pos (by rw [← t.wl]; omega), Array.getElem?_toList] at h9
          exact h9
    have := h1.snoc (cap := cap5) h2
    rwa [t.wl] at this
  · have h6 : Sto h w6 st F s := t.sto.of_heap fun k hk => by
      obtain ⟨ty, cs, hb⟩ := t.sto.blks k hk
      by_cases h34 : ty = 34
      · subst h34
        exfalso
        have h1 := t.sto.not_mem hb (by decide) (by decide) (by decide) (by decide)
        exact h1 hk
      · rw [show w6.heap[k]? = some (.cells cs ty (0, 0)) from key6 hb (.inl h34)]
        exact hb.symm
    exact h6.off h116 rfl 0 _
  · simp at hsz6 ⊢; omega
  · have k1 : Keep [] w2 w2 := Keep.refl _ _
    have h1 : Below B.b0 w2 w5 := hb5.mono (by have := t.z0; omega)
    have h2 : Below B.b0 w2 (w5.alloc (.cells #[.slice p5 s.vars cap5] 34)) := h1.alloc (by have := t.z0; omega) _
    have h3 : Below B.b0 w2 w6 := h2.grown hgrow6 (by have := h2.size; have := t.z0; omega) fun g hg => by
      have := (hblk g hg).1
      have := t.z0
      omega
    exact h3.setCell (p := ⟨B.b11, 0, none⟩) t.z11 _

set_option maxHeartbeats 2000000 in
set_option maxRecDepth 100000 in
theorem cubes_one {h : Key → Nat} {B : CubB} {st : Nat} {F : List Nat} {s : St} {w : World} {way : List Nat} {rows : List (List Nat)} (t : CubSt h B st F s w way rows) (hm : rows.length < 16384) :
    Calls Tryz.prog 144 #[.int .i64 1, .pointer (some ⟨B.b12, 0, none⟩), .pointer (some ⟨B.b11, 0, none⟩), .pointer (some ⟨B.b5, 0, none⟩), .pointer (some ⟨B.b9, 0, none⟩), .pointer (some ⟨B.b3, 0, none⟩), .pointer (some ⟨B.b13, 0, none⟩)] w (CubP h B st F s way rows 1 w) := by
  obtain ⟨v, vs, hb11, hown, hrows⟩ := t.out
  obtain ⟨p, cap, rfl, hblk⟩ := own_form hown
  have hvs := (node_lt t.sto).2.2
  have c12 : w.cell? ⟨B.b12, 0, none⟩ = some (.bool false) := t.f12.cell_of rfl
  have g12 : w.frozen? ⟨B.b12, 0, none⟩ = false := t.f12.frozen _
  have c11 : w.cell? ⟨B.b11, 0, none⟩ = some (.slice p rows.length cap) := hb11.cell_of rfl
  have c5 : w.cell? ⟨B.b5, 0, none⟩ = some (.int .i64 16384) := t.f5.cell_of rfl
  have hdec : decide ((16384 : Int) ≤ (rows.length : Int)) = false := by simp; omega
  have l12 := t.f12.lt
  have l11 := hb11.lt
  have ne11 : B.b11 ≠ B.b12 := hb11.ne_ t.f12 (by decide)
  -- the world behind 'full = ..'
  have hset : Blk (w.setCell ⟨B.b12, 0, none⟩ (.bool false)) B.b12 4 #[.bool false] := t.f12.set_ 0 (.bool false)
  have key : ∀ {g ty cs}, Blk w g ty cs → ty ≠ 4 → Blk (w.setCell ⟨B.b12, 0, none⟩ (.bool false)) g ty cs := fun hb hn => hb.far (p := ⟨B.b12, 0, none⟩) (hb.ne_ t.f12 hn) _
  have hw2 : w.heap.size = (w.setCell ⟨B.b12, 0, none⟩ (.bool false)).heap.size := by simp
  have hB2 : Below B.b0 w (w.setCell ⟨B.b12, 0, none⟩ (.bool false)) := (Below.refl _ w).setCell (p := ⟨B.b12, 0, none⟩) t.z12 _
  have h9 := key t.f9 (by decide)
  have hwb := key t.fw (by decide)
  have h11 := key hb11 (by decide)
  have hown2 : (w.setCell ⟨B.b12, 0, none⟩ (.bool false)).ownsRow B.base 34 1 (.slice p rows.length cap) rows.length vs := by
    refine ⟨hown.1, ?_⟩
    rcases hown.2 with hz | ⟨g, c, cur, e1, e2, e3, e4⟩
    · exact .inl hz
    · exact .inr ⟨g, c, cur, e1, e2, key e3 (by decide), e4⟩
  have hrows2 : RowsAbove B.base (w.setCell ⟨B.b12, 0, none⟩ (.bool false)) vs rows := hrows.keep fun g cur _ hb => key hb (by decide)
  have hsto2 := t.sto.off t.f12 rfl 0 (.bool false)
  have t2 : CubSt h B st F s (w.setCell ⟨B.b12, 0, none⟩ (.bool false)) way rows :=
    ⟨hset, key t.f5 (by decide), h9, key t.f3 (by decide), key t.f13 (by decide), hwb, t.wl, ⟨_, _, h11, hown2, hrows2⟩, hsto2, t.lt9, t.ltw, t.lt5, t.ne5, by rw [← hw2]; exact t.lb, t.z12, t.z11, t.zw, t.z0⟩
  have HT2 := Lib.hid t2
  have hlb2 := t2.lb
  have HC : Hid (∀ n, Calls Tryz.prog 82 #[.slice (some ⟨B.wb, 0, none⟩) s.vars s.vars] ((w.setCell ⟨B.b12, 0, none⟩ (.bool false)).drewN n) fun e w' => ∃ v, e = .returned v ∧ w'.ownsRow (w.setCell ⟨B.b12, 0, none⟩ (.bool false)).heap.size 3 1 v s.vars (way.map fun x : Nat => Value.int .i64 (x : Int)) ∧ Below (w.setCell ⟨B.b12, 0, none⟩ (.bool false)).heap.size (w.setCell ⟨B.b12, 0, none⟩ (.bool false)) w') := fun n => by
    have := clone_any (w := (w.setCell ⟨B.b12, 0, none⟩ (.bool false)).drewN n) (g := B.wb) (cap := s.vars) (l := way) (fun i x hx => (hwb.drewN n).cell_of (by rw [wayArr_get, hx]; rfl)) hwb.lt (by rw [t.wl]; omega)
    rw [t.wl] at this
    exact this.mono fun e w' ⟨v, a, b, c⟩ => ⟨v, a, b, ⟨c.os, c.tape, c.output, c.size, c.block⟩⟩
  have HKEY : Hid (∀ {g : Nat} {cs : Array Value}, Blk w g 34 cs → Blk (w.setCell ⟨B.b12, 0, none⟩ (.bool false)) g 34 cs) := fun hb => key hb (by decide)
  generalize hwx : w.setCell ⟨B.b12, 0, none⟩ (.bool false) = w2 at *
  have HWX := Lib.hid hwx
  have d9 : w2.cell? ⟨B.b9, 0, none⟩ = some (.slice (some ⟨B.wb, 0, none⟩) s.vars s.vars) := h9.cell_of rfl
  have d11 : w2.cell? ⟨B.b11, 0, none⟩ = some (.slice p rows.length cap) := h11.cell_of rfl
  have d12 : w2.cell? ⟨B.b12, 0, none⟩ = some (.bool false) := hset.cell_of rfl
  have HH11 := Lib.hid h11
  have HB2 := Lib.hid hB2
  clear hwb key t t2 hB2
  go_enter Tryz.func144, Tryz.ntmps144
  go_wp2
  obtain ⟨i0, hi0, hz0, hz1, hz2⟩ := info_parts info34
  go_region_law (first
    | (go_simp; go_at_call 82; refine (HC.out _).mono ?_; rintro e w5 ⟨v5, rfl, hrow5, hb5⟩; obtain ⟨p5, cap5, rfl, hblk5⟩ := own_form hrow5; have hown5 := ownsRow_below hb5 hown2; have h115 := h11.below hb5 h11.lt; have x11 : w5.cell? ⟨B.b11, 0, none⟩ = some (.slice p rows.length cap) := h115.cell_of rfl; have x11b : (w5.alloc (.cells #[.slice p5 s.vars cap5] 34)).cell? ⟨B.b11, 0, none⟩ = some (.slice p rows.length cap) := (h115.alloc _).cell_of rfl; have hsz5 := hb5.size)
    | (refine step_append_lies _ (by rfl) _ _ _ (by rfl) B.base 34 i0 (.slice none 0 0) 1 24 Tryz.underlying33 hi0 hz0 hz1 hz2 rfl (by omega) (.slice p rows.length cap) rows.length vs (by rfl) (ownsRow_heap (by rfl) (hown5.alloc (.cells #[.slice p5 s.vars cap5] 34)))
        ⟨w5.heap.size, 0, none⟩ 1 1 [.slice p5 s.vars cap5] (by rfl) (by rfl) (World.news_of_block (cs := #[.slice p5 s.vars cap5]) (t := 34) (fr := (0, 0)) (heap_alloc_new w5 _)) (by simp [Value.oneCell'])
        (by omega) (by unfold maxLen; omega) (by omega) (by simp; omega) (w5.heap.size + 1) (by simp) ?_; intro gg cap6 w6 hown6 hgrow6 hat6 hlt6; have h116 := (h115.alloc (.cells #[.slice p5 s.vars cap5] 34)).grown hgrow6 (fun e => by obtain ⟨_, cs, hcs⟩ := hblk _ e.symm; exact h11.ne_ (HKEY.out hcs) (by decide) rfl); have y11 : w6.cell? ⟨B.b11, 0, none⟩ = some (.slice p rows.length cap) := h116.cell_of rfl; have z11 : w6.frozen? ⟨B.b11, 0, none⟩ = false := h116.frozen _))
  all_goals
    have hend := cubes_end HT2.out HH11.out hown2 hrows2 hb5 hrow5 hown6 hgrow6
    have HEND := Lib.hid hend
    clear hend hown2 hrows2 hb5 hrow5 hown6 hgrow6 hown5 h115 h116
    go_wp2
    refine bodyPost_ret (results_none rfl _ _ _) rfl ?_
    exact ⟨rfl, by rw [Cnt.cubes_one]; exact HEND.out.1, HB2.out.trans HEND.out.2⟩
end Go.Proofs.YtndefnfknhjfkaaGreatDoor

namespace Go.Proofs.YtndefnfknhjfkaaGreatDoor
open Go.RowKit Go.Proofs.Osier

/-- The way is written at one place. -/
theorem CubSt.write {h : Key → Nat} {B : CubB} {st : Nat} {F : List Nat} {s : St} {w : World} {way : List Nat} {rows : List (List Nat)} (t : CubSt h B st F s w way rows) (v x : Nat) :
    CubSt h B st F s (w.setCell ⟨B.wb, v, none⟩ (.int .i64 (x : Int))) (way.set v x) rows ∧ Below B.b0 w (w.setCell ⟨B.wb, v, none⟩ (.int .i64 (x : Int))) := by
  have key : ∀ {g ty cs}, Blk w g ty cs → g ≠ B.wb → Blk (w.setCell ⟨B.wb, v, none⟩ (.int .i64 (x : Int))) g ty cs := fun hb hn => hb.far (p := ⟨B.wb, v, none⟩) hn _
  have ne : ∀ {g ty cs}, Blk w g ty cs → ty ≠ 3 → g ≠ B.wb := fun hb hn => hb.ne_ t.fw hn
  obtain ⟨vv, vs, h11, hown, hrows⟩ := t.out
  refine ⟨⟨key t.f12 (ne t.f12 (by decide)), key t.f5 t.ne5, key t.f9 (ne t.f9 (by decide)), key t.f3 (ne t.f3 (by decide)), key t.f13 (ne t.f13 (by decide)), ?_, by rw [List.length_set]; exact t.wl,
    ⟨vv, vs, key h11 (ne h11 (by decide)), ?_, hrows.keep fun g cur hg hb => key hb (by have := t.ltw; omega)⟩, t.sto.off t.fw rfl v _, t.lt9, t.ltw, t.lt5, t.ne5, by simp; exact t.lb, t.z12, t.z11, t.zw, t.z0⟩,
    (Below.refl _ w).setCell (p := ⟨B.wb, v, none⟩) t.zw _⟩
  · rw [← wayArr_set]; exact t.fw.set_ v _
  · refine ⟨hown.1, ?_⟩
    rcases hown.2 with hz | ⟨g, c, cur, e1, e2, e3, e4⟩
    · exact .inl hz
    · refine .inr ⟨g, c, cur, e1, e2, ?_, e4⟩
      have hg : Blk w g 34 cur := e3
      exact key hg (ne hg (by decide))

theorem CubSt.of_heap {h : Key → Nat} {B : CubB} {st : Nat} {F : List Nat} {s : St} {w w' : World} {way : List Nat} {rows : List (List Nat)} (t : CubSt h B st F s w way rows) (e : w'.heap = w.heap) : CubSt h B st F s w' way rows := by
  have q : ∀ k : Nat, w'.heap[k]? = w.heap[k]? := fun k => by rw [e]
  obtain ⟨vv, vs, h11, hown, hrows⟩ := t.out
  exact ⟨t.f12.of (q _), t.f5.of (q _), t.f9.of (q _), t.f3.of (q _), t.f13.of (q _), t.fw.of (q _), t.wl, ⟨vv, vs, h11.of (q _), ownsRow_heap e hown, hrows.keep fun g cur _ hb => hb.of (q _)⟩, t.sto.of_heap fun k _ => q k, t.lt9, t.ltw, t.lt5, t.ne5, by rw [e]; exact t.lb, t.z12, t.z11, t.zw, t.z0⟩

theorem CubSt.c9 {h : Key → Nat} {B : CubB} {st : Nat} {F : List Nat} {s : St} {w : World} {way : List Nat} {rows : List (List Nat)} (t : CubSt h B st F s w way rows) : w.cell? ⟨B.b9, 0, none⟩ = some (.slice (some ⟨B.wb, 0, none⟩) s.vars s.vars) := t.f9.cell_of rfl
theorem CubSt.c13 {h : Key → Nat} {B : CubB} {st : Nat} {F : List Nat} {s : St} {w : World} {way : List Nat} {rows : List (List Nat)} (t : CubSt h B st F s w way rows) : w.cell? ⟨B.b13, 0, none⟩ = some (.func (.func 144) #[] #[.pointer (some ⟨B.b12, 0, none⟩), .pointer (some ⟨B.b11, 0, none⟩), .pointer (some ⟨B.b5, 0, none⟩), .pointer (some ⟨B.b9, 0, none⟩), .pointer (some ⟨B.b3, 0, none⟩), .pointer (some ⟨B.b13, 0, none⟩)]) := t.f13.cell_of rfl

set_option maxHeartbeats 2000000 in
set_option maxRecDepth 100000 in
theorem cubes_walk {h : Key → Nat} {B : CubB} {st : Nat} {F : List Nat} {s : St} : ∀ (k : Nat) (w : World) (way : List Nat) (rows : List (List Nat)), CubSt h B st F s w way rows → k < s.l.length → (∀ u, (s.nd k).v ≤ u → u < s.vars → way.getD u 2 = 2) →
    rows.length + (Cnt.cubes s k way).length ≤ 16384 →
    Calls Tryz.prog 144 #[.int .i64 k, .pointer (some ⟨B.b12, 0, none⟩), .pointer (some ⟨B.b11, 0, none⟩), .pointer (some ⟨B.b5, 0, none⟩), .pointer (some ⟨B.b9, 0, none⟩), .pointer (some ⟨B.b3, 0, none⟩), .pointer (some ⟨B.b13, 0, none⟩)] w (CubP h B st F s way rows k w) := by
  intro k
  induction k using Nat.strongRecOn with
  | _ k ih =>
    intro w way rows t hk hw hm
    obtain ⟨hwf, hl, hvs⟩ := node_lt t.sto
    match k, ih, hk, hw, hm with
    | 0, ih, hk, hw, hm =>
      have HT := Lib.hid t
      clear t hwf ih
      go_enter Tryz.func144, Tryz.ntmps144
      go_wp2
      refine bodyPost_ret (results_none rfl _ _ _) rfl ?_
      exact ⟨rfl, by rw [Cnt.cubes_zero]; simpa using HT.out, Below.refl _ _⟩
    | 1, ih, hk, hw, hm => exact cubes_one t (by rw [Cnt.cubes_one] at hm; simp at hm; omega)
    | j + 2, ih, hk, hw, hm =>
      obtain ⟨k, hkk⟩ : ∃ k, k = j + 2 := ⟨_, rfl⟩
      rw [show ((j + 2 : Nat) : Int) = ((k : Nat) : Int) by rw [hkk]]
      rw [← hkk] at hk hw hm ih ⊢
      have h2 : 2 ≤ k := by omega
      clear hkk
      obtain ⟨o1, o2, o3, o4, o5, o6⟩ := hwf.ok k h2 hk
      have hc := Cnt.cubes_node hwf h2 hk way
      rw [hc, List.length_append] at hm
      have hv2 := hw (s.nd k).v (Nat.le_refl _) o1
      have hvl : (s.nd k).v < way.length := by rw [t.wl]; exact o1
      have c12 : w.cell? ⟨B.b12, 0, none⟩ = some (.bool false) := t.f12.cell_of rfl
      have HN := Lib.hid (node_any t.sto hk)
      have HT := Lib.hid t
      have HW := Lib.hid hw
      have HC := Lib.hid hc
      have HIH := Lib.hid ih
      have hb0 : ((k : Int) == 0) = false := by rw [beq_eq_false_iff_ne]; omega
      have hb1 : ((k : Int) == 1) = false := by rw [beq_eq_false_iff_ne]; omega
      have q9 := t.c9
      have q3 : w.cell? ⟨B.b3, 0, none⟩ = some (.pointer (some ⟨st, 0, none⟩)) := t.f3.cell_of rfl
      have hwlt := t.fw.lt
      have qf : w.frozen? ⟨B.wb, (s.nd k).v, none⟩ = false := t.fw.frozen _
      obtain ⟨x0, hx0⟩ : ∃ x0, way[(s.nd k).v]? = some x0 := ⟨_, List.getElem?_eq_getElem hvl⟩
      have qc : w.cell? ⟨B.wb, (s.nd k).v, none⟩ = some (.int .i64 (x0 : Int)) := t.fw.cell_of (by rw [wayArr_get, hx0]; rfl)
      have hx2 : x0 = 2 := by simpa [List.getD, hx0] using hv2
      have HX2 : Hid (way.set (s.nd k).v 2 = way) := by
        subst hx2
        apply List.ext_getElem?
        intro i
        rw [List.getElem?_set]
        by_cases hi : (s.nd k).v = i
        · rw [if_pos hi, ← hi, hx0, if_pos hvl]
        · rw [if_neg hi]
      clear t hwf hw hc ih hx0 hx2 hv2
      go_enter Tryz.func144, Tryz.ntmps144
      go_wp2_with fail
      refine HN.out.mono ?_
      rintro e w' ⟨rfl, n1, rfl⟩
      have hA := (HT.out.of_heap (w' := w.drewN n1) rfl).write (s.nd k).v 0
      obtain ⟨tA, bA⟩ := hA
      have HLO := Lib.hid (HIH.out (s.nd k).lo o2 _ _ _ tA (by omega) (fun u h1 h3 => by rw [Cnt.getD_set _ _ _ _ hvl, if_neg (by omega)]; exact HW.out u (by omega) h3) (by omega))
      have HTA := Lib.hid tA
      have HBA := Lib.hid bA
      have c13 := tA.c13
      clear tA bA
      rw [show ((0 : Nat) : Int) = 0 from rfl] at c13 HLO HTA HBA
      go_wp2_with fail
      refine HLO.out.mono ?_
      rintro e w3 ⟨rfl, t3, b3⟩
      have hB := (t3.write (s.nd k).v 1)
      obtain ⟨tB, bB⟩ := hB
      rw [List.set_set] at tB
      have q9 := t3.c9
      have qwl := t3.fw.lt
      have qf : w3.frozen? ⟨B.wb, (s.nd k).v, none⟩ = false := t3.fw.frozen _
      have qc : w3.cell? ⟨B.wb, (s.nd k).v, none⟩ = some (.int .i64 ((0 : Nat) : Int)) := t3.fw.cell_of (by rw [wayArr_get, List.getElem?_set]; simp [hvl])
      have HHI := Lib.hid (HIH.out (s.nd k).hi o3 _ _ _ tB (by omega) (fun u h1 h3 => by rw [Cnt.getD_set _ _ _ _ hvl, if_neg (by omega)]; exact HW.out u (by omega) h3) (by rw [List.length_append]; omega))
      have HB3 := Lib.hid b3
      have HBB := Lib.hid bB
      have d13 := tB.c13
      clear t3 b3 tB bB c13
      rw [show ((1 : Nat) : Int) = 1 from rfl] at d13 HHI HBB
      go_wp2_with fail
      refine HHI.out.mono ?_
      rintro e w5 ⟨rfl, t5, b5⟩
      have hC := (t5.write (s.nd k).v 2)
      obtain ⟨tC, bC⟩ := hC
      rw [List.set_set, HX2.out, List.append_assoc, ← HC.out] at tC
      have q9 := t5.c9
      have qwl := t5.fw.lt
      have qf : w5.frozen? ⟨B.wb, (s.nd k).v, none⟩ = false := t5.fw.frozen _
      have qc : w5.cell? ⟨B.wb, (s.nd k).v, none⟩ = some (.int .i64 ((1 : Nat) : Int)) := t5.fw.cell_of (by rw [wayArr_get, List.getElem?_set]; simp [hvl])
      have HTC := Lib.hid tC
      have HB5 := Lib.hid b5
      have HBC := Lib.hid bC
      clear t5 b5 tC bC d13
      rw [show ((2 : Nat) : Int) = 2 from rfl] at HTC HBC
      go_wp2
      refine bodyPost_end (results_none rfl _ _ _) rfl ?_
      exact ⟨rfl, HTC.out, ((((below_drewN (Below.refl _ w) n1).trans HBA.out).trans HB3.out).trans HBB.out).trans HB5.out |>.trans HBC.out⟩
end Go.Proofs.YtndefnfknhjfkaaGreatDoor

namespace Go.Proofs.YtndefnfknhjfkaaGreatDoor
open Go.RowKit Go.Proofs.Osier

/-- The first k places say 2. -/
def fillWay (n k : Nat) : List Nat := (List.range n).map fun i => if i < k then 2 else 0
theorem fillWay_zero (n : Nat) : madeCells #[.int .i64 0] (n * 1) = wayArr (fillWay n 0) := by
  apply Array.ext
  · simp [madeCells, wayArr, fillWay]
  · intro i h1 h2
    simp [madeCells, wayArr, fillWay, Nat.mod_one]
theorem fillWay_set (n k : Nat) : (fillWay n k).set k 2 = fillWay n (k + 1) := by
  apply List.ext_getElem?
  intro i
  simp only [fillWay, List.getElem?_set, List.getElem?_map, List.length_map, List.length_range]
  by_cases h : k = i
  · subst h
    by_cases hn : k < n
    · simp [hn]
    · simp [hn]
  · rw [if_neg h]
    by_cases hn : i < n
    · have : (if i < k then 2 else 0) = (if i < k + 1 then 2 else 0) := by
        by_cases h1 : i < k
        · rw [if_pos h1, if_pos (by omega)]
        · rw [if_neg h1, if_neg (by omega)]
      simp [hn, this]
    · simp [hn]
theorem fillWay_all {s : St} : fillWay s.vars s.vars = Cnt.unasked s := by
  apply List.ext_getElem?
  intro i
  simp only [fillWay, Cnt.unasked, List.getElem?_map, List.getElem?_replicate]
  by_cases hn : i < s.vars <;> simp [hn]
theorem fillWay_get {n k i : Nat} (h : i < n) : ∃ x : Nat, (wayArr (fillWay n k))[i]? = some (.int .i64 (x : Int)) := by
  rw [wayArr_get]
  exact ⟨_, by rw [fillWay, List.getElem?_map, List.getElem?_range h]; rfl⟩

theorem make34 (n : Nat) (hn : n ≤ 256) (w : World) : (Instr.makeSlice 34 (.int .i64 n) (.int .i64 n)).run Tryz.prog w =
    .ok (.slice (some ⟨w.heap.size, 0, none⟩) n n) (w.alloc (.cells (wayArr (fillWay n 0)) 3)) := by
  obtain ⟨i, hi, hz0, hz1, hz2⟩ := info_parts info3e
  have hr := run_make_rowN (P := Tryz.prog) 34 3 i _ Tryz.underlying34 hi hz0 .i64 .i64 n n (Nat.le_refl _) (by rw [hz2]; omega) (by omega) w
  rw [hz1] at hr
  rw [hr, ← fillWay_zero]
  rfl

set_option maxHeartbeats 2000000 in
set_option maxRecDepth 100000 in
theorem cubes_any {h : Key → Nat} {w : World} {st : Nat} {F : List Nat} {s : St} (t : Sto h w st F s) {k : Nat} (hk : k < s.l.length) (hm : (Cnt.cubes s k (Cnt.unasked s)).length ≤ 16384) :
    Calls Tryz.prog 98 #[.pointer (some ⟨st, 0, none⟩), .int .i64 k, .int .i64 16384] w fun e w' => ∃ p cap vs base, e = .returned (.tuple #[.slice p (Cnt.cubes s k (Cnt.unasked s)).length cap, .int .i64 0]) ∧
      w'.ownsRow base 34 1 (.slice p (Cnt.cubes s k (Cnt.unasked s)).length cap) (Cnt.cubes s k (Cnt.unasked s)).length vs ∧ RowsAbove base w' vs (Cnt.cubes s k (Cnt.unasked s)) ∧ Below w.heap.size w w' := by
  have hB2 : Below w.heap.size w ((w.alloc (.cells #[.pointer (some ⟨st, 0, none⟩)] 87)).alloc (.cells #[.int .i64 16384] 3)) := ((Below.refl _ w).alloc (Nat.le_refl _) _).alloc (by simp) _
  have q3 := (Blk.new w 87 #[.pointer (some ⟨st, 0, none⟩)]).alloc (.cells #[.int .i64 16384] 3)
  have q5 := Blk.new (w.alloc (.cells #[.pointer (some ⟨st, 0, none⟩)] 87)) 3 #[.int .i64 16384]
  have s2 : ((w.alloc (.cells #[.pointer (some ⟨st, 0, none⟩)] 87)).alloc (.cells #[.int .i64 16384] 3)).heap.size = w.heap.size + 2 := by simp
  rw [show (w.alloc (.cells #[.pointer (some ⟨st, 0, none⟩)] 87)).heap.size = w.heap.size + 1 by simp] at q5
  have t2 := t.below hB2
  have HL := Lib.hid (len_any t2)
  have HM := Lib.hid (cmay_any t2 hk)
  have HV := Lib.hid (fun n => vars_any (t2.drewN n))
  obtain ⟨hwf, hl, hvs⟩ := node_lt t
  have h2 := hwf.len2
  have tb : ((s.l.length : Int) == 0) = false := by rw [beq_eq_false_iff_ne]; omega
  have hmf : ∀ (fn : Fn) (first cap : Array Value) (w : World), (Instr.makeFunc fn first cap).run Tryz.prog w = .ok (.func fn first cap) w := fun _ _ _ _ => rfl
  have hmk := make34 s.vars hvs
  have HT2 := Lib.hid t2
  have HQ3 := Lib.hid q3
  have HQ5 := Lib.hid q5
  have HB2 := Lib.hid hB2
  have HWF := Lib.hid hwf
  have HMM := Lib.hid hm
  obtain ⟨rows, hrows⟩ : ∃ r, r = Cnt.cubes s k (Cnt.unasked s) := ⟨_, rfl⟩
  have HROWS := Lib.hid hrows
  rw [← hrows]
  have HS2 := Lib.hid s2
  clear t t2 q3 q5 hB2 hwf hm hrows s2
  go_enter Tryz.func98, Tryz.ntmps98
  go_wp2_with (first | (go_at_call 113; refine HL.out.mono ?_; rintro e w' ⟨rfl, rfl⟩) | (go_at_call 143; refine HM.out.mono ?_; rintro e w' ⟨rfl, n1, rfl⟩) | (go_at_call 73; refine (HV.out _).mono ?_; rintro e w' ⟨rfl, rfl⟩))
  have s3 : (((w.alloc (.cells #[.pointer (some ⟨st, 0, none⟩)] 87)).alloc (.cells #[.int .i64 16384] 3)).drewN n1).heap.size = w.heap.size + 1 + 1 := by simp
  have s4 : ((((w.alloc (.cells #[.pointer (some ⟨st, 0, none⟩)] 87)).alloc (.cells #[.int .i64 16384] 3)).drewN n1).alloc (.cells (wayArr (fillWay s.vars 0)) 3)).heap.size = w.heap.size + 1 + 1 + 1 := by simp
  have r3 := Blk.new (((w.alloc (.cells #[.pointer (some ⟨st, 0, none⟩)] 87)).alloc (.cells #[.int .i64 16384] 3)).drewN n1) 3 (wayArr (fillWay s.vars 0))
  have r4 := Blk.new ((((w.alloc (.cells #[.pointer (some ⟨st, 0, none⟩)] 87)).alloc (.cells #[.int .i64 16384] 3)).drewN n1).alloc (.cells (wayArr (fillWay s.vars 0)) 3)) 34 #[.slice (some ⟨w.heap.size + 1 + 1, 0, none⟩) s.vars s.vars]
  rw [s3] at r3
  rw [s4] at r4
  have hB4 : Below w.heap.size w (((((w.alloc (.cells #[.pointer (some ⟨st, 0, none⟩)] 87)).alloc (.cells #[.int .i64 16384] 3)).drewN n1).alloc (.cells (wayArr (fillWay s.vars 0)) 3)).alloc (.cells #[.slice (some ⟨w.heap.size + 1 + 1, 0, none⟩) s.vars s.vars] 34)) := ((below_drewN HB2.out n1).alloc (by simp; omega) _).alloc (by simp; omega) _
  have hw4 : Blk (((((w.alloc (.cells #[.pointer (some ⟨st, 0, none⟩)] 87)).alloc (.cells #[.int .i64 16384] 3)).drewN n1).alloc (.cells (wayArr (fillWay s.vars 0)) 3)).alloc (.cells #[.slice (some ⟨w.heap.size + 1 + 1, 0, none⟩) s.vars s.vars] 34)) (w.heap.size + 1 + 1) 3 (wayArr (fillWay s.vars 0)) := r3.alloc _
  have h53 : Blk (((((w.alloc (.cells #[.pointer (some ⟨st, 0, none⟩)] 87)).alloc (.cells #[.int .i64 16384] 3)).drewN n1).alloc (.cells (wayArr (fillWay s.vars 0)) 3)).alloc (.cells #[.slice (some ⟨w.heap.size + 1 + 1, 0, none⟩) s.vars s.vars] 34)) w.heap.size 87 #[.pointer (some ⟨st, 0, none⟩)] := (HQ3.out.drewN n1).alloc _ |>.alloc _
  have h55 : Blk (((((w.alloc (.cells #[.pointer (some ⟨st, 0, none⟩)] 87)).alloc (.cells #[.int .i64 16384] 3)).drewN n1).alloc (.cells (wayArr (fillWay s.vars 0)) 3)).alloc (.cells #[.slice (some ⟨w.heap.size + 1 + 1, 0, none⟩) s.vars s.vars] 34)) (w.heap.size + 1) 3 #[.int .i64 16384] := (HQ5.out.drewN n1).alloc _ |>.alloc _
  have ht4 : Sto h (((((w.alloc (.cells #[.pointer (some ⟨st, 0, none⟩)] 87)).alloc (.cells #[.int .i64 16384] 3)).drewN n1).alloc (.cells (wayArr (fillWay s.vars 0)) 3)).alloc (.cells #[.slice (some ⟨w.heap.size + 1 + 1, 0, none⟩) s.vars s.vars] 34)) st F s := HT2.out.of_heap fun x hx => by
    have := HT2.out.lt x hx
    rw [Below.heap_alloc _ _ _ (by rw [s4]; rw [HS2.out] at this; omega), Below.heap_alloc _ _ _ (by rw [s3]; rw [HS2.out] at this; omega)]
    rfl
  have sz4 : (((((w.alloc (.cells #[.pointer (some ⟨st, 0, none⟩)] 87)).alloc (.cells #[.int .i64 16384] 3)).drewN n1).alloc (.cells (wayArr (fillWay s.vars 0)) 3)).alloc (.cells #[.slice (some ⟨w.heap.size + 1 + 1, 0, none⟩) s.vars s.vars] 34)).heap.size = w.heap.size + 1 + 1 + 1 + 1 := by simp
  have HR4 := Lib.hid r4
  have HW4 := Lib.hid hw4
  have H53 := Lib.hid h53
  have H55 := Lib.hid h55
  have HT4 := Lib.hid ht4
  have HB4 := Lib.hid hB4
  have HSZ4 := Lib.hid sz4
  generalize (((((w.alloc (.cells #[.pointer (some ⟨st, 0, none⟩)] 87)).alloc (.cells #[.int .i64 16384] 3)).drewN n1).alloc (.cells (wayArr (fillWay s.vars 0)) 3)).alloc (.cells #[.slice (some ⟨w.heap.size + 1 + 1, 0, none⟩) s.vars s.vars] 34)) = w4 at *
  clear r3 r4 hB4 hw4 h53 h55 ht4 s3 s4 sz4
  go_loopg [36] s.vars (fun g i wr => ∃ j : Nat, g = s.vars - j ∧ j ≤ s.vars ∧ i = .int .i64 j ∧ Blk wr (w.heap.size + 1 + 1) 3 (wayArr (fillWay s.vars j)) ∧ Keep [w.heap.size + 1 + 1] w4 wr)
  case atStart => exact ⟨0, rfl, by omega, rfl, HW4.out, .refl _ _⟩
  case round =>
    obtain ⟨j, hg, hj, rfl, hb, hkp⟩ := hrel
    have HG := Lib.hid hg
    clear hg
    have h9 : Blk wr (w.heap.size + 1 + 1 + 1) 34 #[.slice (some ⟨w.heap.size + 1 + 1, 0, none⟩) s.vars s.vars] := hkp.blk HR4.out (by simp)
    have c9 : wr.cell? ⟨w.heap.size + 1 + 1 + 1, 0, none⟩ = some (.slice (some ⟨w.heap.size + 1 + 1, 0, none⟩) s.vars s.vars) := h9.cell_of rfl
    by_cases hjm : j < s.vars
    · obtain ⟨x, hx⟩ := fillWay_get (n := s.vars) (k := j) hjm
      have cw : wr.cell? ⟨w.heap.size + 1 + 1, j, none⟩ = some (.int .i64 (x : Int)) := hb.cell_of hx
      have fw : wr.frozen? ⟨w.heap.size + 1 + 1, j, none⟩ = false := hb.frozen _
      have lw := hb.lt
      have hb' := hb.set_ j (.int .i64 ((2 : Nat) : Int))
      rw [wayArr_set, fillWay_set] at hb'
      have HB' := Lib.hid hb'
      have HK' := Lib.hid (hkp.setCell (p := ⟨w.heap.size + 1 + 1, j, none⟩) (.inl (by simp)) (.int .i64 ((2 : Nat) : Int)))
      rw [show ((2 : Nat) : Int) = 2 from rfl] at HB' HK'
      clear hb hkp h9 hb' hx
      go_wp2
      go_roundg (s.vars - (j + 1))
      case measure => rw [HG.out]; omega
      case rel => exact ⟨j + 1, rfl, by omega, by go_num, HB'.out, HK'.out⟩
    · obtain rfl : j = s.vars := by omega
      rw [fillWay_all] at hb
      have HBW := Lib.hid hb
      have HKP := Lib.hid hkp
      have H9 := Lib.hid h9
      have hszr := hkp.size
      have HSZR := Lib.hid hszr
      clear hb hkp h9 hszr
      generalize hwr : wr = w5 at *
      clear hwr
      go_wp2_with fail
      have e1 : (w5.alloc (.cells #[.slice none 0 0] 33)).heap.size = w5.heap.size + 1 := by simp
      have e2 : ((w5.alloc (.cells #[.slice none 0 0] 33)).alloc (.cells #[.bool false] 4)).heap.size = w5.heap.size + 1 + 1 := by simp
      have p11 := Blk.new w5 33 #[.slice none 0 0]
      have p12 := Blk.new (w5.alloc (.cells #[.slice none 0 0] 33)) 4 #[.bool false]
      have p13 := Blk.new ((w5.alloc (.cells #[.slice none 0 0] 33)).alloc (.cells #[.bool false] 4)) 203 #[.func (.func 144) #[] #[.pointer (some ⟨w5.heap.size + 1, 0, none⟩), .pointer (some ⟨w5.heap.size, 0, none⟩), .pointer (some ⟨w.heap.size + 1, 0, none⟩), .pointer (some ⟨w.heap.size + 1 + 1 + 1, 0, none⟩), .pointer (some ⟨w.heap.size, 0, none⟩), .pointer (some ⟨w5.heap.size + 1 + 1, 0, none⟩)]]
      rw [e1] at p12
      rw [e2] at p13
      have key : ∀ {g ty cs}, Blk w4 g ty cs → g ≠ w.heap.size + 1 + 1 → Blk (((w5.alloc (.cells #[.slice none 0 0] 33)).alloc (.cells #[.bool false] 4)).alloc (.cells #[.func (.func 144) #[] #[.pointer (some ⟨w5.heap.size + 1, 0, none⟩), .pointer (some ⟨w5.heap.size, 0, none⟩), .pointer (some ⟨w.heap.size + 1, 0, none⟩), .pointer (some ⟨w.heap.size + 1 + 1 + 1, 0, none⟩), .pointer (some ⟨w.heap.size, 0, none⟩), .pointer (some ⟨w5.heap.size + 1 + 1, 0, none⟩)]] 203)) g ty cs := fun hb hn => (((HKP.out.blk hb (by simp [hn])).alloc _).alloc _).alloc _
      have hB5 : Below w5.heap.size w5 (((w5.alloc (.cells #[.slice none 0 0] 33)).alloc (.cells #[.bool false] 4)).alloc (.cells #[.func (.func 144) #[] #[.pointer (some ⟨w5.heap.size + 1, 0, none⟩), .pointer (some ⟨w5.heap.size, 0, none⟩), .pointer (some ⟨w.heap.size + 1, 0, none⟩), .pointer (some ⟨w.heap.size + 1 + 1 + 1, 0, none⟩), .pointer (some ⟨w.heap.size, 0, none⟩), .pointer (some ⟨w5.heap.size + 1 + 1, 0, none⟩)]] 203)) := (((Below.refl _ w5).alloc (Nat.le_refl _) _).alloc (by simp) _).alloc (by simp; omega) _
      have hz := HSZR.out
      have hz4 := HSZ4.out
      have ht5 : Sto h (((w5.alloc (.cells #[.slice none 0 0] 33)).alloc (.cells #[.bool false] 4)).alloc (.cells #[.func (.func 144) #[] #[.pointer (some ⟨w5.heap.size + 1, 0, none⟩), .pointer (some ⟨w5.heap.size, 0, none⟩), .pointer (some ⟨w.heap.size + 1, 0, none⟩), .pointer (some ⟨w.heap.size + 1 + 1 + 1, 0, none⟩), .pointer (some ⟨w.heap.size, 0, none⟩), .pointer (some ⟨w5.heap.size + 1 + 1, 0, none⟩)]] 203)) st F s := HT4.out.of_heap fun x hx => by
        obtain ⟨ty, cs, hb⟩ := HT4.out.blks x hx
        have hne : x ≠ w.heap.size + 1 + 1 := by
          intro e
          subst e
          exact HT4.out.not_mem HW4.out (by decide) (by decide) (by decide) (by decide) hx
        rw [hB5.block x (by have := hb.lt; omega)]
        exact HKP.out.block x hb.lt (by simp [hne])
      have hst : CubSt h ⟨w5.heap.size + 1, w5.heap.size, w.heap.size + 1, w.heap.size + 1 + 1 + 1, w.heap.size, w5.heap.size + 1 + 1, w.heap.size + 1 + 1, w5.heap.size + 1 + 1 + 1, w.heap.size⟩ st F s (((w5.alloc (.cells #[.slice none 0 0] 33)).alloc (.cells #[.bool false] 4)).alloc (.cells #[.func (.func 144) #[] #[.pointer (some ⟨w5.heap.size + 1, 0, none⟩), .pointer (some ⟨w5.heap.size, 0, none⟩), .pointer (some ⟨w.heap.size + 1, 0, none⟩), .pointer (some ⟨w.heap.size + 1 + 1 + 1, 0, none⟩), .pointer (some ⟨w.heap.size, 0, none⟩), .pointer (some ⟨w5.heap.size + 1 + 1, 0, none⟩)]] 203)) (Cnt.unasked s) [] :=
        ⟨p12.alloc _, key H55.out (show w.heap.size + 1 ≠ w.heap.size + 1 + 1 by omega), key HR4.out (show w.heap.size + 1 + 1 + 1 ≠ w.heap.size + 1 + 1 by omega), key H53.out (show w.heap.size ≠ w.heap.size + 1 + 1 by omega), p13, ((HBW.out.alloc _).alloc _).alloc _, by simp [Cnt.unasked],
          ⟨.slice none 0 0, [], (p11.alloc _).alloc _, World.ownsRow_nil _ _ _ _, RowsAbove.nil _ _⟩, ht5, by show w.heap.size + 1 + 1 + 1 < w5.heap.size + 1 + 1 + 1; omega, by show w.heap.size + 1 + 1 < w5.heap.size + 1 + 1 + 1; omega, by show w.heap.size + 1 < w5.heap.size + 1 + 1 + 1; omega, by show w.heap.size + 1 ≠ w.heap.size + 1 + 1; omega,
          by show w5.heap.size + 1 + 1 + 1 ≤ _; simp, by show w.heap.size ≤ w5.heap.size + 1; omega, by show w.heap.size ≤ w5.heap.size; omega, by show w.heap.size ≤ w.heap.size + 1 + 1; omega, by show w.heap.size ≤ w5.heap.size + 1 + 1 + 1; omega⟩
      have hkw : Below w.heap.size w (((w5.alloc (.cells #[.slice none 0 0] 33)).alloc (.cells #[.bool false] 4)).alloc (.cells #[.func (.func 144) #[] #[.pointer (some ⟨w5.heap.size + 1, 0, none⟩), .pointer (some ⟨w5.heap.size, 0, none⟩), .pointer (some ⟨w.heap.size + 1, 0, none⟩), .pointer (some ⟨w.heap.size + 1 + 1 + 1, 0, none⟩), .pointer (some ⟨w.heap.size, 0, none⟩), .pointer (some ⟨w5.heap.size + 1 + 1, 0, none⟩)]] 203)) := by
        have k1 : Keep [] w w5 := (Keep.of_below HB4.out).trans HKP.out (fun x hx => by right; simp at hx; omega)
        exact k1.below.trans (hB5.mono (by omega))
      have HCALL := Lib.hid (cubes_walk k _ _ _ hst hk (fun u _ _ => Cnt.unasked_getD s u) (by have := HMM.out; simpa using this))
      have HKW := Lib.hid hkw
      generalize (((w5.alloc (.cells #[.slice none 0 0] 33)).alloc (.cells #[.bool false] 4)).alloc (.cells #[.func (.func 144) #[] #[.pointer (some ⟨w5.heap.size + 1, 0, none⟩), .pointer (some ⟨w5.heap.size, 0, none⟩), .pointer (some ⟨w.heap.size + 1, 0, none⟩), .pointer (some ⟨w.heap.size + 1 + 1 + 1, 0, none⟩), .pointer (some ⟨w.heap.size, 0, none⟩), .pointer (some ⟨w5.heap.size + 1 + 1, 0, none⟩)]] 203)) = w6 at *
      clear hst p11 p12 p13 e1 e2 ht5 hB5 hkw key
      refine HCALL.out.mono ?_
      rintro e w7 ⟨rfl, t7, b7⟩
      rw [List.nil_append, ← HROWS.out] at t7
      obtain ⟨v, vs, h11, hown, hra⟩ := t7.out
      obtain ⟨p, cap, rfl, _⟩ := own_form hown
      have c12 : w7.cell? ⟨w5.heap.size + 1, 0, none⟩ = some (.bool false) := t7.f12.cell_of rfl
      have c11 : w7.cell? ⟨w5.heap.size, 0, none⟩ = some (.slice p rows.length cap) := h11.cell_of rfl
      have HOWN := Lib.hid hown
      have HRA := Lib.hid hra
      have HB7 := Lib.hid b7
      clear t7 h11 hown hra b7
      go_wp2
      go_ret2
      exact ⟨p, cap, vs, _, rfl, HOWN.out, HRA.out, HKW.out.trans HB7.out⟩
end Go.Proofs.YtndefnfknhjfkaaGreatDoor

namespace Go.Proofs.YtndefnfknhjfkaaGreatDoor
open Go.RowKit Go.Proofs.Osier

theorem expandFrom_snoc (way : List Nat) (v : Nat) : ∀ (l : List Nat) (i : Nat) (all : List Nat), Cnt.expandFrom way (l ++ [v]) i all = (Cnt.expandFrom way l i all).flatMap (Cnt.grow1 way v (i + l.length)) := by
  intro l
  induction l with
  | nil => intro i all; simp [Cnt.expandFrom]
  | cons u l ih =>
    intro i all
    simp only [List.cons_append, Cnt.expandFrom, ih, List.length_cons]
    rw [show i + 1 + l.length = i + (l.length + 1) by omega]

theorem grow1_len (way : List Nat) (v i m : Nat) : (Cnt.grow1 way v i m).length ≤ 2 := by
  unfold Cnt.grow1
  split <;> split <;> simp

theorem flat_len (way : List Nat) (v i : Nat) (all : List Nat) : (all.flatMap (Cnt.grow1 way v i)).length ≤ 2 * all.length := by
  induction all with
  | nil => simp
  | cons x all ih =>
    have := grow1_len way v i x
    simp only [List.flatMap_cons, List.length_append, List.length_cons]
    omega

theorem take_flat (way : List Nat) (v i : Nat) {all : List Nat} {j x : Nat} (hx : all[j]? = some x) : (all.take (j + 1)).flatMap (Cnt.grow1 way v i) = (all.take j).flatMap (Cnt.grow1 way v i) ++ Cnt.grow1 way v i x := by
  rw [List.take_add_one, hx, Option.toList_some, List.flatMap_append]
  simp

/-- What has come of the first i variables. -/
def expN (way vars : List Nat) (i : Nat) : List Nat := Cnt.expandFrom way (vars.take i) 0 [0]
theorem expN_zero (way vars : List Nat) : expN way vars 0 = [0] := rfl
theorem expN_all (way vars : List Nat) : expN way vars vars.length = Cnt.expand way vars := by simp [expN, Cnt.expand]
theorem expN_succ (way : List Nat) {vars : List Nat} {i v : Nat} (hv : vars[i]? = some v) : expN way vars (i + 1) = (expN way vars i).flatMap (Cnt.grow1 way v i) := by
  have hi : i < vars.length := (List.getElem?_eq_some_iff.1 hv).1
  unfold expN
  rw [List.take_add_one, hv, Option.toList_some, expandFrom_snoc, List.length_take, Nat.min_eq_left (by omega), Nat.zero_add]
theorem expN_len (way : List Nat) (vars : List Nat) : ∀ i, i ≤ vars.length → (expN way vars i).length ≤ 2 ^ i := by
  intro i
  induction i with
  | zero => intro _; simp [expN_zero]
  | succ i ih =>
    intro hi
    obtain ⟨v, hv⟩ : ∃ v, vars[i]? = some v := ⟨_, List.getElem?_eq_getElem (by omega)⟩
    rw [expN_succ way hv, Nat.pow_succ]
    have := flat_len way v i (expN way vars i)
    have := ih (by omega)
    omega

theorem expN_lt (way : List Nat) (vars : List Nat) : ∀ i, i ≤ vars.length → ∀ x ∈ expN way vars i, x < 2 ^ i := by
  intro i
  induction i with
  | zero => intro _ x hx; simp [expN_zero] at hx; subst hx; simp
  | succ i ih =>
    intro hi
    obtain ⟨v, hv⟩ : ∃ v, vars[i]? = some v := ⟨_, List.getElem?_eq_getElem (by omega)⟩
    rw [expN_succ way hv]
    exact Cnt.grow_lt way v i (ih (by omega))

/-- The numbers of the ways, put in order, are those for which the node says true. -/
theorem sort_each {s : St} (h : s.WF) {vars : List Nat} (hn : vars.Nodup) (hv : ∀ v ∈ vars, v < s.vars) {k : Nat} (hk : k < s.l.length) (hd : St.Dep (s.ev k) (fun u => decide (u ∈ vars))) :
    sortN ((Cnt.cubes s k (Cnt.unasked s)).flatMap fun c => Cnt.expand c vars) = Cnt.each s k vars := by
  have h1 := (sortN_perm ((Cnt.cubes s k (Cnt.unasked s)).flatMap fun c => Cnt.expand c vars)).trans (Cnt.perm_each h hn hv hk hd)
  refine List.Perm.eq_of_pairwise (le := (· ≤ ·)) (fun a b _ _ x y => Nat.le_antisymm x y) (sortN_sorted _) ?_ h1
  exact (Cnt.each_sorted s k vars).imp (fun h => Nat.le_of_lt h)

theorem i64_or_nat (a b : Nat) (ha : a < 9223372036854775808) (hb : b < 9223372036854775808) : bits .or .i64 (a : Int) (b : Int) = ((a ||| b : Nat) : Int) := by
  have hx : a ||| b < 2 ^ 63 := Nat.or_lt_two_pow (by omega) (by omega)
  show IntKind.i64.wrap ((BitVec.ofInt 64 (a : Int) ||| BitVec.ofInt 64 (b : Int)).toNat : Int) = _
  rw [BitVec.toNat_or, ofInt_i64 a ha, ofInt_i64 b hb, IntKind.wrap_i64]
  omega

/-- m | 1 << i, m below 2^i. -/
theorem or_pow {m i : Nat} (hm : m < 2 ^ i) (hi : i ≤ 60) : bits .or .i64 (m : Int) (wrap64 (2 ^ i)) = ((m + 2 ^ i : Nat) : Int) := by
  have h2 : 2 ^ i ≤ 2 ^ 60 := Nat.pow_le_pow_right (by omega) hi
  have h3 : (2 : Nat) ^ 60 = 1152921504606846976 := by decide
  have ho : m ||| 2 ^ i = m + 2 ^ i := by
    have := Nat.two_pow_add_eq_or_of_lt hm 1
    rw [Nat.mul_one] at this
    rw [Nat.or_comm, ← this, Nat.add_comm]
  have hc : ((2 : Int) ^ i) = ((2 ^ i : Nat) : Int) := by push_cast; rfl
  rw [hc, ← ho]
  generalize 2 ^ i = p at *
  have e : wrap64 (p : Int) = (p : Int) := by unfold wrap64; omega
  rw [e, i64_or_nat m p (by omega) (by omega)]
end Go.Proofs.YtndefnfknhjfkaaGreatDoor

namespace Go.Proofs.YtndefnfknhjfkaaGreatDoor
open Go.RowKit Go.Proofs.Osier

theorem rowIn_below {w w' : World} {p : Option Addr} {l : List Nat} (h : RowIn w p l) (k : Below w.heap.size w w') : RowIn w' p l := h.stays (.of_below k)

abbrev ints (l : List Nat) : List Value := l.map fun x : Nat => Value.int .i64 (x : Int)

theorem rows_get {w : World} {base n : Nat} {p : Option Addr} {cap : Nat} {vs : List Value} {rows : List (List Nat)} (ho : w.ownsRow base 34 1 (.slice p n cap) n vs) (hr : RowsAbove base w vs rows) {j : Nat} {row : List Nat} (hj : rows[j]? = some row) :
    ∃ g pr capr, p = some ⟨g, 0, none⟩ ∧ w.cell? ⟨g, j, none⟩ = some (.slice pr row.length capr) ∧ RowIn w pr row ∧ g < w.heap.size := by
  obtain ⟨pr, capr, h1, h2⟩ := hr.2 j row hj
  rcases ho.2 with ⟨e, hz⟩ | ⟨g, c, cur, e1, e2, e3, q1, q2, q3, q4⟩
  · exfalso
    have h9 := ho.1
    have h8 := (List.getElem?_eq_some_iff.1 h1).1
    omega
  · injection e1 with e1
    refine ⟨g, pr, capr, e1, ?_, h2.row, Blk.lt (t := 34) e3⟩
    have hb : Blk w g 34 cur := e3
    rw [hb.cell]
    have h8 := (List.getElem?_eq_some_iff.1 h1).1
    have h7 := ho.1
    have h9 := congrArg (fun q => q[j]?) q4
    simp only [List.getElem?_take] at h9
    rw [if_pos (by omega), Array.getElem?_toList, h1] at h9
    exact h9

set_option maxHeartbeats 4000000 in
set_option maxRecDepth 100000 in
theorem each_any {h : Key → Nat} {w : World} {st : Nat} {F : List Nat} {s : St} (t : Sto h w st F s) {k most : Nat} {vars : List Nat} {p : Option Addr} {cap : Nat} (hr : RowIn w p vars) (hp : vars = [] → p = none ∧ cap = 0)
    (hn : vars.Nodup) (hlt : ∀ v ∈ vars, v < s.vars) (hk : k < s.l.length) (hd : St.Dep (s.ev k) (fun u => decide (u ∈ vars))) (hlen : vars.length ≤ 16) (hmost : (Cnt.each s k vars).length ≤ most) (hm16 : most ≤ 16384) :
    Calls Tryz.prog 49 #[.pointer (some ⟨st, 0, none⟩), .int .i64 k, .slice p vars.length cap, .int .i64 most] w fun e w' => ∃ q cap', e = .returned (.tuple #[.slice q (Cnt.each s k vars).length cap', .int .i64 0]) ∧ RowIn w' q (Cnt.each s k vars) ∧ Below w.heap.size w w' := by
  obtain ⟨hwf, hl, hvs⟩ := node_lt t
  have HSAT := Lib.hid (sat_any t hr hp hn hlt hk hd hlen)
  have hcl := Cnt.cubes_length_le hwf hn hlt hk hd
  have hse := sort_each hwf hn hlt hk hd
  obtain ⟨rows, hrows⟩ : ∃ r, r = Cnt.cubes s k (Cnt.unasked s) := ⟨_, rfl⟩
  have hun : ∀ c ∈ rows, c.length = s.vars := fun c hc => by
    rw [hrows] at hc
    exact (Cnt.cubes_unasked hwf (p := fun u => decide (u ∈ vars)) (u := s.vars) (by simp; intro hh; have := hlt _ hh; omega) k (Cnt.unasked s) hk (by simp [Cnt.unasked]) hd (Cnt.unasked_getD s _) c hc).1
  have hle2 : ∀ c ∈ rows, ∀ u, c.getD u 2 ≤ 2 := fun c hc => by
    rw [hrows] at hc
    exact Cnt.cubes_le2 hwf k (Cnt.unasked s) hk (fun u => by rw [Cnt.unasked_getD]; exact Nat.le_refl _) c hc
  have HCUB := Lib.hid (fun (W : World) (tW : Sto h W st F s) => cubes_any tW hk (by omega))
  have HT := Lib.hid t
  have HR := Lib.hid hr
  have HLT := Lib.hid hlt
  have HSE := Lib.hid hse
  have HUN := Lib.hid hun
  have HLE2 := Lib.hid hle2
  have HROWS := Lib.hid hrows
  obtain ⟨ne, hne⟩ : ∃ n, n = (Cnt.each s k vars).length := ⟨_, rfl⟩
  have HNE := Lib.hid hne
  rw [← hne] at hmost hcl ⊢ HSAT
  obtain ⟨nv, hnv⟩ : ∃ n, n = vars.length := ⟨_, rfl⟩
  have HNV := Lib.hid hnv
  rw [← hnv] at hlen ⊢ HSAT
  rw [← hrows] at hcl HCUB
  obtain ⟨nr, hnr⟩ : ∃ n, n = rows.length := ⟨_, rfl⟩
  have HNR := Lib.hid hnr
  rw [← hnr] at hcl HCUB
  have t1 : decide ((most : Int) < 0) = false := by simp
  have t2 : decide ((16384 : Int) < (most : Int)) = false := by simp; omega
  have t3 : decide ((62 : Int) < (nv : Int)) = false := by simp; omega
  have t4 : decide ((most : Int) < (ne : Int)) = false := by simp; omega
  clear t hr hp hn hlt hd hwf hse hun hle2 hrows hne hnv hnr
  go_enter Tryz.func49, Tryz.ntmps49
  go_wp2_with fail
  refine HSAT.out.mono ?_
  rintro e w1 ⟨rfl, hb1⟩
  have HC1 := Lib.hid (HCUB.out w1 (HT.out.below hb1))
  have HB1 := Lib.hid hb1
  clear hb1
  go_wp2_with fail
  refine HC1.out.mono ?_
  rintro e w2 ⟨p2, cap2, vs, base, rfl, hown2, hrows2, hb2⟩
  have HOWN2 := Lib.hid hown2
  have HROWS2 := Lib.hid hrows2
  have HB2 : Hid (Below w.heap.size w w2) := HB1.out.trans (hb2.mono HB1.out.size)
  clear hown2 hrows2 hb2
  go_wp2
  have HR2 := Lib.hid (rowIn_below HR.out HB2.out)
  go_loopg [13, 59] nr (fun g o i wr => ∃ j : Nat, g = nr - j ∧ j ≤ nr ∧ i = .int .i64 j ∧ wr.ownsRow w2.heap.size 3 1 o ((rows.take j).flatMap fun c => Cnt.expand c vars).length (ints ((rows.take j).flatMap fun c => Cnt.expand c vars)) ∧ Below w2.heap.size w2 wr)
  case atStart => exact ⟨0, rfl, by omega, rfl, World.ownsRow_nil _ _ _ _, Below.refl _ _⟩
  case round =>
    obtain ⟨j, hg, hj, rfl, hout, hbl⟩ := hrel
    have HG := Lib.hid hg
    have HOUT := Lib.hid hout
    have HBL := Lib.hid hbl
    clear hg
    by_cases hjm : j < nr
    · obtain ⟨row, hrow⟩ : ∃ row, rows[j]? = some row := ⟨_, List.getElem?_eq_getElem (by rw [← HNR.out]; exact hjm)⟩
      obtain ⟨g2, pr, capr, rfl, hcell, hrin, hg2l⟩ := rows_get HOWN2.out HROWS2.out hrow
      have hcell' := (hbl.cell (p := ⟨g2, j, none⟩) hg2l).trans hcell
      have hrl : row.length = s.vars := HUN.out row (List.mem_of_getElem? hrow)
      rw [hrl] at hcell'
      have hg2r := Nat.lt_of_lt_of_le hg2l hbl.size
      have HRIN := Lib.hid (rowIn_below hrin hbl)
      have HRV := Lib.hid (rowIn_below HR2.out hbl)
      have HROW := Lib.hid hrow
      have HRL := Lib.hid hrl
      clear hout hbl hrow hcell hrin hrl
      go_wp2
      have hbA : Below wr.heap.size wr (wr.alloc (.cells #[.int .i64 0] 3)) := (Below.refl _ _).alloc (Nat.le_refl _) _
      have hall0 : RowIn (wr.alloc (.cells #[.int .i64 0] 3)) (some ⟨wr.heap.size, 0, none⟩) (expN row vars 0) := by rw [expN_zero]; exact rowIn1 wr 0
      have HALL0 := Lib.hid hall0
      have HRINA := Lib.hid (rowIn_below HRIN.out hbA)
      have HRVA := Lib.hid (rowIn_below HRV.out hbA)
      have HOUTA := Lib.hid (ownsRow_below hbA HOUT.out)
      have HBLA := Lib.hid (HBL.out.trans (hbA.mono HBL.out.size))
      clear hbA hall0 hcell' hg2r
      generalize hW1 : wr.alloc (.cells #[.int .i64 0] 3) = W1 at *
      clear hW1
      go_loopg [16, 66] nv (fun g a i wi => ∃ (i' la : Nat) (pa : Option Addr) (ca : Nat), g = nv - i' ∧ i' ≤ nv ∧ i = .int .i64 i' ∧ a = .slice pa la ca ∧ la = (expN row vars i').length ∧ RowIn wi pa (expN row vars i') ∧ Below W1.heap.size W1 wi)
      case atStart => exact ⟨0, 1, _, 1, rfl, by omega, rfl, rfl, rfl, HALL0.out, Below.refl _ _⟩
      case round =>
        obtain ⟨i, la, pa, ca, hg, hi, rfl, rfl, hla, hra, hbi⟩ := hrel
        have HG2 := Lib.hid hg
        have HRA := Lib.hid hra
        have HBI := Lib.hid hbi
        have HLA := Lib.hid hla
        clear hg
        by_cases hin : i < nv
        · obtain ⟨v, hv⟩ : ∃ v, vars[i]? = some v := ⟨_, List.getElem?_eq_getElem (by rw [← HNV.out]; exact hin)⟩
          have hvv := HLT.out v (List.mem_of_getElem? hv)
          obtain ⟨gv, rfl, hcv, hgvl⟩ := (rowIn_below HRVA.out hbi).get hv
          obtain ⟨c, hc⟩ : ∃ c, row[v]? = some c := ⟨_, List.getElem?_eq_getElem (by rw [HRL.out]; exact hvv)⟩
          obtain ⟨gr, rfl, hcr, hgrl⟩ := (rowIn_below HRINA.out hbi).get hc
          have hc2 : c ≤ 2 := by have := HLE2.out row (List.mem_of_getElem? HROW.out) v; simpa [List.getD, hc] using this
          have hgd : row.getD v 2 = c := by simp [List.getD, hc]
          have hlx : la ≤ 65536 := by
            rw [hla]
            exact Nat.le_trans (expN_len row vars i (by rw [← HNV.out]; exact hi)) (pow16 (by omega)).1
          have HV := Lib.hid hv
          have HGD := Lib.hid hgd
          clear hra hbi hv hc hgd hla
          go_wp2
          obtain ⟨i0, hi0, hz0, hz1, hz2⟩ := info_parts info3e
          generalize hwz : wr = wz at *
          clear hwz
          go_loopg [19, 73] la (fun g nx q wi => ∃ m : Nat, g = la - m ∧ m ≤ la ∧ q = .int .i64 m ∧ wi.ownsRow wz.heap.size 3 1 nx (((expN row vars i).take m).flatMap (Cnt.grow1 row v i)).length (ints (((expN row vars i).take m).flatMap (Cnt.grow1 row v i))) ∧ Below wz.heap.size wz wi)
          case atStart => exact ⟨0, rfl, by omega, rfl, World.ownsRow_nil _ _ _ _, Below.refl _ _⟩
          case round =>
            obtain ⟨m, hg, hm, rfl, hnx, hbm⟩ := hrel
            have HG3 := Lib.hid hg
            have HNX := Lib.hid hnx
            have HBM := Lib.hid hbm
            clear hg
            by_cases hmi : m < la
            · obtain ⟨x, hx⟩ : ∃ x, (expN row vars i)[m]? = some x := ⟨_, List.getElem?_eq_getElem (by rw [← HLA.out]; exact hmi)⟩
              obtain ⟨ga, rfl, hcx, hgal⟩ := (rowIn_below HRA.out hbm).get hx
              have hcr2 := (hbm.cell (p := ⟨gr, v, none⟩) hgrl).trans hcr
              have hgrl2 := Nat.lt_of_lt_of_le hgrl hbm.size
              have hxl : x < 2 ^ i := expN_lt row vars i (by rw [← HNV.out]; exact hi) x (List.mem_of_getElem? hx)
              obtain ⟨y, hy⟩ : ∃ y, y = x + 2 ^ i := ⟨_, rfl⟩
              have hor : bits .or .i64 (x : Int) (wrap64 (2 ^ i)) = (y : Int) := by rw [hy]; exact or_pow hxl (by omega)
              have htf := take_flat row v i hx
              have HTF := Lib.hid htf
              have hlen3 : (((expN row vars i).take m).flatMap (Cnt.grow1 row v i)).length ≤ 2 * 65536 := by
                have h1 := flat_len row v i ((expN row vars i).take m)
                have h2 : ((expN row vars i).take m).length ≤ m := by rw [List.length_take]; omega
                omega
              obtain ⟨N, hN⟩ : ∃ N, N = (((expN row vars i).take m).flatMap (Cnt.grow1 row v i)).length := ⟨_, rfl⟩
              rw [← hN] at hnx hlen3
              have HNN := Lib.hid hN
              have HY := Lib.hid hy
              clear hx hxl hy htf hN
              rcases (show c = 0 ∨ c = 1 ∨ c = 2 by omega) with rfl | rfl | rfl
              · go_wp2_with (at_builtin; refine wpList_append_own_at _ rfl _ _ 34 rfl wz.heap.size 3 i0 (.int .i64 0) 1 8 Tryz.underlying34 hi0 hz0 hz1 hz2 rfl (by decide) _ _ _ rfl (hnx.alloc _) ⟨wr.heap.size, 0, none⟩ 1 1 [.int .i64 (x : Int)] rfl rfl ?c1 ?c2 ?c3 ?c4 ?c5 ?_)
                case c1 => exact cells_new wr [.int .i64 (x : Int)] 3
                case c2 => intro u hu; simp at hu; subst hu; rfl
                case c3 => unfold maxLen; first | omega | (simp; omega)
                case c4 => first | omega | (simp; omega)
                case c5 => have := hbm.size; first | omega | (simp; omega)
                intro v5 x5 o5 g5 nn5 aa5
                have bb5 : Below wz.heap.size wz x5 := (hbm.alloc hbm.size (.cells #[.int .i64 (x : Int)] 3)).grown g5 (by have := hbm.size; simp; omega) (fun g hg => by obtain ⟨_, _, _, hh⟩ := own_form hnx; exact (hh g hg).1)
                have HB5 := Lib.hid bb5
                have hcr5 := (bb5.cell (p := ⟨gr, v, none⟩) hgrl).trans hcr
                have hgrl5 := Nat.lt_of_lt_of_le hgrl bb5.size
                have HO5 := Lib.hid o5
                clear o5 bb5 aa5 nn5
                go_wp2
                go_roundg (la - (m + 1))
                case measure => rw [HG3.out]; omega
                case rel =>
                  have hg1 : Cnt.grow1 row v i x = [x] := by unfold Cnt.grow1; rw [HGD.out]; simp [HY.out]
                  refine ⟨m + 1, rfl, by omega, by go_num, ?_, HB5.out⟩
                  rw [HTF.out, hg1]
                  have h9 := HO5.out
                  rw [HNN.out] at h9
                  simpa [ints, Nat.add_assoc] using h9
              · go_wp2_with (at_builtin; refine wpList_append_own_at _ rfl _ _ 34 rfl wz.heap.size 3 i0 (.int .i64 0) 1 8 Tryz.underlying34 hi0 hz0 hz1 hz2 rfl (by decide) _ _ _ rfl (hnx.alloc _) ⟨wr.heap.size, 0, none⟩ 1 1 [.int .i64 (y : Int)] rfl rfl ?c1 ?c2 ?c3 ?c4 ?c5 ?_)
                case c1 => exact cells_new wr [.int .i64 (y : Int)] 3
                case c2 => intro u hu; simp at hu; subst hu; rfl
                case c3 => unfold maxLen; first | omega | (simp; omega)
                case c4 => first | omega | (simp; omega)
                case c5 => have := hbm.size; first | omega | (simp; omega)
                intro v5 x5 o5 g5 nn5 aa5
                have bb5 : Below wz.heap.size wz x5 := (hbm.alloc hbm.size (.cells #[.int .i64 (y : Int)] 3)).grown g5 (by have := hbm.size; simp; omega) (fun g hg => by obtain ⟨_, _, _, hh⟩ := own_form hnx; exact (hh g hg).1)
                have HB5 := Lib.hid bb5
                have HO5 := Lib.hid o5
                clear o5 bb5 aa5 nn5
                go_wp2
                go_roundg (la - (m + 1))
                case measure => rw [HG3.out]; omega
                case rel =>
                  have hg1 : Cnt.grow1 row v i x = [y] := by unfold Cnt.grow1; rw [HGD.out]; simp [HY.out]
                  refine ⟨m + 1, rfl, by omega, by go_num, ?_, HB5.out⟩
                  rw [HTF.out, hg1]
                  have h9 := HO5.out
                  rw [HNN.out] at h9
                  simpa [ints, Nat.add_assoc] using h9
              · go_wp2_with (at_builtin; refine wpList_append_own_at _ rfl _ _ 34 rfl wz.heap.size 3 i0 (.int .i64 0) 1 8 Tryz.underlying34 hi0 hz0 hz1 hz2 rfl (by decide) _ _ _ rfl (hnx.alloc _) ⟨wr.heap.size, 0, none⟩ 1 1 [.int .i64 (x : Int)] rfl rfl ?c1 ?c2 ?c3 ?c4 ?c5 ?_)
                case c1 => exact cells_new wr [.int .i64 (x : Int)] 3
                case c2 => intro u hu; simp at hu; subst hu; rfl
                case c3 => unfold maxLen; first | omega | (simp; omega)
                case c4 => first | omega | (simp; omega)
                case c5 => have := hbm.size; first | omega | (simp; omega)
                intro v5 x5 o5 g5 nn5 aa5
                have bb5 : Below wz.heap.size wz x5 := (hbm.alloc hbm.size (.cells #[.int .i64 (x : Int)] 3)).grown g5 (by have := hbm.size; simp; omega) (fun g hg => by obtain ⟨_, _, _, hh⟩ := own_form hnx; exact (hh g hg).1)
                have HB5 := Lib.hid bb5
                have HO5 := Lib.hid o5
                have hcr5 := (bb5.cell (p := ⟨gr, v, none⟩) hgrl).trans hcr
                have hgrl5 := Nat.lt_of_lt_of_le hgrl bb5.size
                go_wp2_with (at_builtin; refine wpList_append_own_at _ rfl _ _ 34 rfl wz.heap.size 3 i0 (.int .i64 0) 1 8 Tryz.underlying34 hi0 hz0 hz1 hz2 rfl (by decide) _ _ _ rfl (o5.alloc _) ⟨x5.heap.size, 0, none⟩ 1 1 [.int .i64 (y : Int)] rfl rfl ?d1 ?d2 ?d3 ?d4 ?d5 ?_)
                case d1 => exact cells_new x5 [.int .i64 (y : Int)] 3
                case d2 => intro u hu; simp at hu; subst hu; rfl
                case d3 => unfold maxLen; first | omega | (simp; omega)
                case d4 => first | omega | (simp; omega)
                case d5 => have := bb5.size; first | omega | (simp; omega)
                intro v6 x6 o6 g6 nn6 aa6
                have bb6 : Below wz.heap.size wz x6 := (bb5.alloc bb5.size (.cells #[.int .i64 (y : Int)] 3)).grown g6 (by have := bb5.size; simp; omega) (fun g hg => by obtain ⟨_, _, _, hh⟩ := own_form o5; exact (hh g hg).1)
                have HB6 := Lib.hid bb6
                have HO6 := Lib.hid o6
                clear o6 bb6 aa6 nn6
                go_wp2
                go_roundg (la - (m + 1))
                case measure => rw [HG3.out]; omega
                case rel =>
                  have hg1 : Cnt.grow1 row v i x = [x, y] := by unfold Cnt.grow1; rw [HGD.out]; simp [HY.out]
                  refine ⟨m + 1, rfl, by omega, by go_num, ?_, HB6.out⟩
                  rw [HTF.out, hg1]
                  have h9 := HO6.out
                  rw [HNN.out] at h9
                  simpa [ints, Nat.add_assoc] using h9
            · obtain rfl : m = la := by omega
              rw [List.take_of_length_le (by rw [← HLA.out]; exact Nat.le_refl _), ← expN_succ row HV.out] at hnx
              obtain ⟨pq, cq, rfl, hrq, _, _⟩ := rowIn_own (l := expN row vars (i + 1)) hnx
              have HRQ := Lib.hid hrq
              obtain ⟨lq, hlq⟩ : ∃ n, n = (expN row vars (i + 1)).length := ⟨_, rfl⟩
              have HLQ := Lib.hid hlq
              rw [← hlq]
              clear hnx hbm hrq hlq HNX
              go_wp2
              go_roundg (nv - (i + 1))
              case measure => rw [HG2.out]; omega
              case rel => exact ⟨i + 1, lq, pq, cq, rfl, by omega, by go_num, rfl, HLQ.out, HRQ.out, HBI.out.trans (HBM.out.mono HBI.out.size)⟩
        · obtain rfl : i = nv := by omega
          rw [show expN row vars i = Cnt.expand row vars by rw [HNV.out]; exact expN_all row vars] at hra hla
          have hpos := Cnt.expand_pos row (HLE2.out row (List.mem_of_getElem? HROW.out)) vars
          obtain ⟨x0, hx0⟩ : ∃ x0, (Cnt.expand row vars)[0]? = some x0 := ⟨_, List.getElem?_eq_getElem (by omega)⟩
          obtain ⟨ga, rfl, hcx, hgal⟩ := hra.get hx0
          have hown5 := ownsRow_below hbi HOUTA.out
          have htk : (rows.take (j + 1)).flatMap (fun c => Cnt.expand c vars) = (rows.take j).flatMap (fun c => Cnt.expand c vars) ++ Cnt.expand row vars := by
            rw [List.take_add_one, HROW.out, Option.toList_some, List.flatMap_append]; simp
          have htot : ((rows.take (j + 1)).flatMap fun c => Cnt.expand c vars).length ≤ ne := by
            have h1 : (rows.flatMap fun c => Cnt.expand c vars).length = ne := by
              rw [HNE.out, ← HSE.out, sortN_length, ← HROWS.out]
            rw [← h1]
            conv => rhs; rw [← List.take_append_drop (j + 1) rows]
            rw [List.flatMap_append, List.length_append]
            omega
          rw [htk, List.length_append, ← hla] at htot
          have hcells : ∀ q u, (ints (Cnt.expand row vars))[q]? = some u → wr.cell? ((⟨ga, 0, none⟩ : Addr).add q) = some u := intList_cells (fun q y hy => by
            obtain ⟨g', hg', hc', _⟩ := hra.get hy
            simp only [Option.some.injEq, Addr.mk.injEq, and_true] at hg'
            rw [hg']; exact hc')
          obtain ⟨N, hN⟩ : ∃ N, N = ((rows.take j).flatMap fun c => Cnt.expand c vars).length := ⟨_, rfl⟩
          rw [← hN] at hown5 htot
          obtain ⟨i0, hi0, hz0, hz1, hz2⟩ := info_parts info3e
          have HN3 := Lib.hid hN
          have HTK := Lib.hid htk
          have hsz9 := HBLA.out.size
          have hsz8 := hbi.size
          have hla2 := hla
          clear hN htk hx0 hra hcx
          have HLA2 := Lib.hid hla2
          go_wp2_with (at_builtin; refine wpList_append_own_at _ rfl _ _ 34 rfl w2.heap.size 3 i0 (.int .i64 0) 1 8 Tryz.underlying34 hi0 hz0 hz1 hz2 rfl (by decide) _ _ _ rfl hown5 ⟨ga, 0, none⟩ la ca (ints (Cnt.expand row vars)) rfl ?c1 hcells ?c2 ?c3 ?c4 ?c5 ?_)
          case c1 => simp [HLA2.out]
          case c2 => intro u hu; simp at hu; obtain ⟨x, _, rfl⟩ := hu; rfl
          case c3 => unfold maxLen; omega
          case c4 => omega
          case c5 => omega
          intro v7 w7 o7 g7 n7 a7
          have b7 : Below w2.heap.size w2 w7 := (HBLA.out.trans (HBI.out.mono hsz9)).grown g7 (by omega) (fun g hg => by obtain ⟨_, _, _, hh⟩ := own_form hown5; exact (hh g hg).1)
          have HO7 := Lib.hid o7
          have HB7 := Lib.hid b7
          clear o7 b7 g7 n7 a7 hown5 hcells hla hla2
          go_wp2
          go_roundg (nr - (j + 1))
          case measure => rw [HG.out]; omega
          case rel =>
            refine ⟨j + 1, rfl, by omega, by go_num, ?_, HB7.out⟩
            have h9 := HO7.out
            rw [HN3.out] at h9
            try rw [HLA2.out] at h9
            rw [HTK.out, List.length_append]
            simpa [ints] using h9
    · obtain rfl : j = nr := by omega
      rw [List.take_of_length_le (by rw [← HNR.out]; exact Nat.le_refl _)] at hout
      have hz : (rows.flatMap fun c => Cnt.expand c vars) = (rows.flatMap fun c => Cnt.expand c vars) := rfl
      have hl9 : (rows.flatMap fun c => Cnt.expand c vars).length = ne := by rw [HNE.out, ← HSE.out, sortN_length, ← HROWS.out]
      have hso := sort_own (zs := (rows.flatMap fun c => Cnt.expand c vars).map fun x : Nat => (x : Int)) (base := w2.heap.size) (v := u13) (w := wr) (by rw [List.length_map, List.map_map]; exact hout) (by rw [List.length_map]; omega)
      rw [sortN_map, HROWS.out, HSE.out] at hso
      have HSO := Lib.hid hso
      have hblk := (own_form hout).choose_spec.choose_spec.2
      have HBK := Lib.hid hblk
      clear hout hbl hso hblk hz hl9
      go_wp2_with fail
      refine HSO.out.mono ?_
      rintro e w9 ⟨rfl, h9, g9⟩
      rw [List.map_map] at h9
      obtain ⟨q, cap', rfl, hrq, _, _⟩ := rowIn_own (l := Cnt.each s k vars) h9
      have HRQ := Lib.hid hrq
      have HB9 := Lib.hid ((HB2.out.trans (HBL.out.mono HB2.out.size)).grown g9 (by have := HB2.out.size; have := HBL.out.size; omega) (fun g hg => by have := (HBK.out g hg).1; have := HB2.out.size; omega))
      rw [← HNE.out]
      clear h9 g9 hrq
      go_wp2
      go_ret2
      exact ⟨q, cap', rfl, HRQ.out, HB9.out⟩
end Go.Proofs.YtndefnfknhjfkaaGreatDoor

namespace Go.Proofs.YtndefnfknhjfkaaGreatDoor
open Go.RowKit Go.Proofs.Osier

/-- append of nothing. -/
theorem append_empty (b : Option Addr) (n c : Nat) (q : Option Addr) (d : Nat) (ty : TypeId) (hn : n ≤ c) (w : World) : (Builtin.append_ #[34, 34] ty #[.slice b n c, .slice q 0 d]).run Tryz.prog w = .ok (.slice b n c) w := by
  obtain ⟨i0, hi0, hz0, hz1, hz2⟩ := info_parts info3e
  cases q <;> cases b <;> simp [Builtin.append_, run_underlying Tryz.underlying34, sizeOf, typeInfo, hi0, Builtin.lenOf, Builtin.firstCells, loadCells, loadCellsFrom, hn, storeCells, Result.andThen]

/-- What Vars answers and leaves. -/
def VarsP (l : List Nat) (w : World) (e : Ending) (w' : World) : Prop := ∃ q cap', e = .returned (.tuple #[.slice q l.length cap', .int .i64 0]) ∧ RowIn w' q l ∧ (l = [] → q = none ∧ cap' = 0) ∧ Below w.heap.size w w'

theorem wpList_append_zero {ops : Array Oper} {rest : List Oper} {o : Oper} {a : Act} {w : World} {Q : Exit → Act → World → Prop} (hgd : o.guard = none) (s x : Operand) (ho : o.op = .call { callee := .builtin .append, args := #[s, x], argTypes := #[34, 34] })
    (b : Option Addr) (n c : Nat) (q : Option Addr) (d : Nat) (hn : n ≤ c) (hs : a.eval s = .slice b n c) (hx : a.eval x = .slice q 0 d) (h : wpList Tryz.prog ops Q rest (a.put o.dst (.slice b n c)) w) : wpList Tryz.prog ops Q (o :: rest) a w :=
  wpList_plain hgd fun _ hK => by
    unfold Oper.wp execOp
    simp only [ho, resolve, invoke, builtin, Sem.run_bind, Sem.run_pure, Result.andThen_ok, List.map_toArray, List.map_cons, List.map_nil, hs, hx, append_empty b n c q d o.type hn w]
    exact hK _ _ h

theorem BMap.below {w w' : World} {b n : Nat} {f : Nat → Bool} {p : Nat → Prop} (h : BMap w b n f p) (k : Below w.heap.size w w') : BMap w' b n f p := h.kept (k.block b h.lt)

set_option maxHeartbeats 2000000 in
set_option maxRecDepth 100000 in
theorem Vars_good {w : World} {c : Nat} {K : Cd} (hc : CodeAt w c K) {vars : Nat} (ok : CdOk K vars) {doms : List Nat} {p : Option Addr} {cap : Nat} (hr : RowIn w p doms) (hlen : doms.length ≤ 32) (hlt : ∀ d ∈ doms, d < K.n) (hn : doms.Nodup) :
    Calls Tryz.prog 25 #[.pointer (some ⟨c, 0, none⟩), .slice p doms.length cap] w (VarsP (doms.flatMap K.at_) w) := by
  have HH := Lib.hid (has_any hc doms cap hr (by omega))
  have hall : (doms.all fun x => decide (x < K.n)) = true := by simp; exact hlt
  rw [hall] at HH
  have c0 : w.cell? ⟨c, 0, none⟩ = some (.pointer (some ⟨K.q, 0, none⟩)) := hc.code.cell_of rfl
  have HC := Lib.hid hc
  have HR := Lib.hid hr
  have HLT := Lib.hid hlt
  have HN := Lib.hid hn
  have HOK := Lib.hid ok
  have hmm := @run_makeMap Tryz.prog
  obtain ⟨nd, hnd⟩ : ∃ n, n = doms.length := ⟨_, rfl⟩
  have HND := Lib.hid hnd
  obtain ⟨vl, hvl⟩ : ∃ n, n = doms.flatMap K.at_ := ⟨_, rfl⟩
  rw [← hvl]
  have HVL := Lib.hid hvl
  clear hvl
  rw [← hnd] at hlen ⊢ HH
  have t1 : ¬ 32 < nd := by omega
  have t2 : decide ((32 : Int) < (nd : Int)) = false := by simp; omega
  clear hc hr hlt hn ok hall hnd
  go_enter Tryz.func25, Tryz.ntmps25
  go_wp2_with fail
  refine HH.out.mono ?_
  rintro e w1 ⟨rfl, hb1⟩
  have HB1 := Lib.hid hb1
  clear hb1 c0
  go_wp2
  have hm0 : BMap (w1.alloc (.map #[] 0)) w1.heap.size 0 (fun y => decide (y ∈ doms.take 0)) (fun _ => True) := by
    have := BMap.made w1 (fun _ => True)
    simpa using this
  have hz1 := HB1.out.size
  have hB2 : Below w.heap.size w (w1.alloc (.map #[] 0)) := HB1.out.alloc hz1 _
  have HM0 := Lib.hid hm0
  have HB2 := Lib.hid hB2
  have HZ1 := Lib.hid hz1
  clear hm0 hB2 hz1
  generalize w1.alloc (.map #[] 0) = w2 at *
  generalize w1.heap.size = mb at *
  obtain ⟨i0, hi0, hz0, hz1, hz2⟩ := info_parts info3e
  go_loopg [6, 33] nd (fun g o i wr => ∃ j : Nat, g = nd - j ∧ j ≤ nd ∧ i = .int .i64 j ∧ wr.ownsRow w.heap.size 3 1 o ((doms.take j).flatMap K.at_).length (ints ((doms.take j).flatMap K.at_)) ∧ BMap wr mb j (fun y => decide (y ∈ doms.take j)) (fun _ => True) ∧ Below w.heap.size w wr ∧ Hid ((doms.take j).flatMap K.at_ = [] → o = .slice none 0 0))
  case atStart => exact ⟨0, rfl, by omega, rfl, World.ownsRow_nil _ _ _ _, HM0.out, HB2.out, fun _ => rfl⟩
  case round =>
    obtain ⟨j, hg, hj, rfl, hout, hmap, hbl, HNIL⟩ := hrel
    have HG := Lib.hid hg
    have HOUT := Lib.hid hout
    have HBL := Lib.hid hbl
    have HMAP := Lib.hid hmap
    clear hg
    by_cases hjm : j < nd
    · obtain ⟨d, hd⟩ : ∃ d, doms[j]? = some d := ⟨_, List.getElem?_eq_getElem (by rw [← HND.out]; exact hjm)⟩
      obtain ⟨g, rfl, hcell, hgl⟩ := (rowIn_below HR.out hbl).get hd
      have hdn := HLT.out d (List.mem_of_getElem? hd)
      have hnin : decide (d ∈ doms.take j) = false := by
        simp only [decide_eq_false_iff_not]
        intro hmem
        obtain ⟨i, hi⟩ := List.getElem?_of_mem hmem
        rw [List.getElem?_take] at hi
        split at hi
        · rename_i hij
          have h1 := idxOf_get HN.out hi
          have h2 := idxOf_get HN.out hd
          omega
        · cases hi
      have hfew := HOK.out.few
      have hlook := hmap.look (x := d) (by omega)
      rw [hnin] at hlook
      obtain ⟨w3, hrun, hm3, hg3⟩ := hmap.store (x := d) (by omega) (by omega) trivial true
      have hbl3 : Below w.heap.size w w3 := hbl.grown hg3 hbl.size (fun q hq => by injection hq with hq; rw [← hq]; exact HZ1.out)
      have hcd := HC.out.stays (.of_below hbl3)
      have cc2 : w3.cell? ⟨c, 2, none⟩ = some (.slice (some ⟨K.ab, 0, none⟩) K.n K.acap) := hcd.code.cell_of rfl
      have ccd : w3.cell? ⟨K.ab, d, none⟩ = some (.slice (K.rp d) (K.at_ d).length (K.rc d)) := hcd.at_cell hdn
      have hown3 : w3.ownsRow w.heap.size 3 1 u6 ((doms.take j).flatMap K.at_).length (ints ((doms.take j).flatMap K.at_)) := by
        refine ⟨hout.1, ?_⟩
        rcases hout.2 with hz | ⟨g', c', cur, e1, e2, e3, e4⟩
        · exact .inl hz
        · refine .inr ⟨g', c', cur, e1, e2, ?_, e4⟩
          have hb' : Blk wr g' 3 cur := e3
          exact hb'.grown hg3 (fun e => by injection e with e; exact hmap.ne_blk hb' e)
      have HG3 := Lib.hid hg3
      have hg3s := hg3.size
      have HD := Lib.hid hd
      have hsum : ∀ m, m ≤ nd → ((doms.take m).flatMap K.at_).length ≤ 16 * m := by
        intro m
        induction m with
        | zero => intro _; simp
        | succ m ihm =>
          intro hm
          obtain ⟨x, hx⟩ : ∃ x, doms[m]? = some x := ⟨_, List.getElem?_eq_getElem (by rw [← HND.out]; omega)⟩
          have h1 := ihm (by omega)
          have h2 := HOK.out.width x (HLT.out x (List.mem_of_getElem? hx))
          rw [List.take_add_one, hx, Option.toList_some, List.flatMap_append, List.length_append]
          simp only [List.flatMap_cons, List.flatMap_nil, List.append_nil]
          omega
      have hs1 := hsum j (by omega)
      have hs2 := HOK.out.width d hdn
      have htk : (doms.take (j + 1)).flatMap K.at_ = (doms.take j).flatMap K.at_ ++ K.at_ d := by
        rw [List.take_add_one, hd, Option.toList_some, List.flatMap_append]; simp
      have HTK := Lib.hid htk
      have hm3' : BMap w3 mb (j + 1) (fun y => decide (y ∈ doms.take (j + 1))) (fun _ => True) := by
        have e : (fun y => if y = d then true else decide (y ∈ doms.take j)) = (fun y => decide (y ∈ doms.take (j + 1))) := by
          funext y
          rw [List.take_add_one, hd, Option.toList_some]
          by_cases hy : y = d <;> simp [hy]
        rw [← e]; exact hm3
      have HM3 := Lib.hid hm3'
      have HBL3 := Lib.hid hbl3
      have HOWN3 := Lib.hid hown3
      have HROWD := Lib.hid (hcd.rows d hdn)
      obtain ⟨pv, cv, hpv, hblkv⟩ := own_form hown3
      subst hpv
      have hncv : ((doms.take j).flatMap K.at_).length ≤ cv := by
        rcases hown3.2 with ⟨e, hz⟩ | ⟨g', c', cur, e1, e2, e3, e4, _⟩
        · omega
        · injection e1 with _ _ e1; omega
      obtain ⟨N, hN⟩ : ∃ N, N = ((doms.take j).flatMap K.at_).length := ⟨_, rfl⟩
      have HNN := Lib.hid hN
      rw [← hN] at hncv hs1 hown3 hout ⊢
      clear hN hd hmap hm3 hm3' hg3 hbl hbl3 hcd hout htk hsum hnin
      by_cases hz : K.at_ d = []
      · rw [hz, List.length_nil] at ccd
        clear hown3
        go_wp2_with (at_builtin; refine wpList_append_zero rfl _ _ rfl pv N cv (K.rp d) (K.rc d) hncv rfl rfl ?_)
        go_roundg (nd - (j + 1))
        case measure => rw [HG.out]; omega
        case rel => exact ⟨j + 1, rfl, by omega, by go_num, by rw [HTK.out, hz, List.append_nil, HNN.out]; exact HOWN3.out, HM3.out, HBL3.out, fun e => by rw [HNN.out]; exact HNIL.out (by rw [HTK.out, List.append_eq_nil_iff] at e; exact e.1)⟩
      · obtain ⟨la, hla⟩ : ∃ n, n = (K.at_ d).length := ⟨_, rfl⟩
        obtain ⟨x0, hx0⟩ : ∃ x0, (K.at_ d)[0]? = some x0 := ⟨_, List.getElem?_eq_getElem (List.length_pos_iff.2 hz)⟩
        obtain ⟨ga, hga, _, hgal⟩ := HROWD.out.get hx0
        have hcells : ∀ q u, (ints (K.at_ d))[q]? = some u → w3.cell? ((⟨ga, 0, none⟩ : Addr).add q) = some u := intList_cells (fun q y hy => by
          obtain ⟨g', hg', hc', _⟩ := HROWD.out.get hy
          rw [hga] at hg'
          simp only [Option.some.injEq, Addr.mk.injEq, and_true] at hg'
          rw [hg']; exact hc')
        rw [hga, ← hla] at ccd
        rw [← hla] at hs2
        have hsz9 := HBL3.out.size
        have HLA := Lib.hid hla
        have HZ := Lib.hid hz
        clear hx0 hz hga hla
        go_wp2_with (at_builtin; refine wpList_append_own_at _ rfl _ _ 34 rfl w.heap.size 3 i0 (.int .i64 0) 1 8 Tryz.underlying34 hi0 hz0 hz1 hz2 rfl (by decide) _ _ _ rfl hown3 ⟨ga, 0, none⟩ la (K.rc d) (ints (K.at_ d)) rfl ?c1 hcells ?c2 ?c3 ?c4 ?c5 ?_)
        case c1 => simp [HLA.out]
        case c2 => intro u hu; simp at hu; obtain ⟨x, _, rfl⟩ := hu; rfl
        case c3 => unfold maxLen; omega
        case c4 => omega
        case c5 => omega
        intro v7 w7 o7 g7 n7 a7
        have b7 : Below w.heap.size w w7 := HBL3.out.grown g7 (by omega) (fun g hg => by obtain ⟨_, _, _, hh⟩ := own_form hown3; exact (hh g hg).1)
        have hm7 : BMap w7 mb (j + 1) (fun y => decide (y ∈ doms.take (j + 1))) (fun _ => True) := HM3.out.kept (g7.block mb HM3.out.lt (fun e => by
          obtain ⟨_, _, _, hh⟩ := own_form hown3
          obtain ⟨_, cs, hb⟩ := hh mb e.symm
          exact HM3.out.ne_blk hb rfl))
        have HO7 := Lib.hid o7
        have HB7 := Lib.hid b7
        have HM7 := Lib.hid hm7
        clear o7 b7 g7 n7 a7 hown3 hcells hm7
        go_wp2
        go_roundg (nd - (j + 1))
        case measure => rw [HG.out]; omega
        case rel =>
          refine ⟨j + 1, rfl, by omega, by go_num, ?_, HM7.out, HB7.out, fun e => absurd (by rw [HTK.out, List.append_eq_nil_iff] at e; exact e.2) HZ.out⟩
          have h9 := HO7.out
          rw [HNN.out] at h9
          try rw [HLA.out] at h9
          rw [HTK.out, List.length_append]
          simpa [ints] using h9
    · obtain rfl : j = nd := by omega
      rw [List.take_of_length_le (by rw [← HND.out]; exact Nat.le_refl _)] at hout
      obtain ⟨q, cap', rfl, hrq, _, _⟩ := rowIn_own (l := doms.flatMap K.at_) hout
      have hnil : doms.flatMap K.at_ = [] → q = none ∧ cap' = 0 := fun e => by
        have h3 := HNIL.out (by rw [List.take_of_length_le (by rw [← HND.out]; exact Nat.le_refl _)]; exact e)
        injection h3 with h4 h5 h6
        exact ⟨h4, h6⟩
      have HRQ := Lib.hid hrq
      have HNL2 := Lib.hid hnil
      clear hout hmap hbl hrq hnil HOUT HMAP HNIL
      rw [← HVL.out]
      rw [← HVL.out] at HRQ HNL2
      go_wp2
      go_ret2
      exact ⟨q, cap', rfl, HRQ.out, HNL2.out, HBL.out⟩

end Go.Proofs.YtndefnfknhjfkaaGreatDoor
