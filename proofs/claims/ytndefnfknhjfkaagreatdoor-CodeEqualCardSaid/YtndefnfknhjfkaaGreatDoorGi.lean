/- Walks: where the bits of domains stand. -/
import Derived.Test.YtndefnfknhjfkaaGreatDoorGr
import Derived.Test.YtndefnfknhjfkaaGreatDoorGa
import Derived.Test.YtndefnfknhjfkaaGreatDoorGm

/- Check, Bits; where a name stands among domains; the parts of a text. -/
namespace Go.Proofs.YtndefnfknhjfkaaGreatDoor
open Go.RowKit Go.Maps Go.Sort Go.Shelf Go.Proofs.Osier Go.Proofs

/-- Domains that may be. -/
def mayD (ds : List (ByteArray × Int)) : Prop := okTo ds ds.length ∧ (wds ds).sum ≤ 256 ∧ ds.length ≤ 32

theorem Check_good {w : World} {p : Option Addr} {ds : List (ByteArray × Int)} (hd : DomsIn w p ds) (hnm : ∀ d ∈ ds, d.1.size ≤ 1000000) (cap : Nat) (hm : mayD ds) :
    Calls Tryz.prog 71 #[.slice p ds.length cap] w fun e w' => e = .returned (.int .i64 0) ∧ Below w.heap.size w w' := by
  obtain ⟨h1, h2, h3⟩ := hm
  have HW := Lib.hid (widths_any hd (by omega) hnm cap)
  have HK := Lib.hid h1
  obtain ⟨n, hn⟩ : ∃ n, n = ds.length := ⟨_, rfl⟩
  have HN := Lib.hid hn
  have hb : (decide ((wds ds).sum ≤ 256) && decide (ds.length ≤ 32)) = true := by simp [h2, h3]
  have HB := Lib.hid hb
  rw [← hn] at HW ⊢
  clear hd hnm h1 h2 h3 hn hb
  go_enter Tryz.func71, Tryz.ntmps71
  go_wp2_with fail
  refine HW.out.mono ?_
  rintro e w1 h
  rcases h with ⟨_, q, cp, rfl, _, hb⟩ | ⟨h, _⟩
  · rw [HB.out]
    clear HW
    go_wp2
    go_ret
    exact ⟨rfl, hb⟩
  · exact absurd HK.out h

theorem Check_bad {w : World} {p : Option Addr} {ds : List (ByteArray × Int)} (hd : DomsIn w p ds) (hlen : ds.length ≤ 1000) (hnm : ∀ d ∈ ds, d.1.size ≤ 1000000) (cap : Nat) (hm : ¬ mayD ds) :
    Calls Tryz.prog 71 #[.slice p ds.length cap] w fun e w' => e = .returned (.int .i64 1) ∧ Below w.heap.size w w' := by
  have HW := Lib.hid (widths_any hd hlen hnm cap)
  have HM := Lib.hid hm
  obtain ⟨n, hn⟩ : ∃ n, n = ds.length := ⟨_, rfl⟩
  have HN := Lib.hid hn
  rw [← hn] at HW ⊢
  clear hd hnm hn hm hlen
  go_enter Tryz.func71, Tryz.ntmps71
  go_wp2_with fail
  refine HW.out.mono ?_
  rintro e w1 h
  rcases h with ⟨hk, q, cp, rfl, _, hb⟩ | ⟨h, rfl, hb⟩
  · have hf : (decide ((wds ds).sum ≤ 256) && decide (ds.length ≤ 32)) = false := by
      rw [Bool.and_eq_false_iff]
      simp only [decide_eq_false_iff_not]
      by_cases h2 : (wds ds).sum ≤ 256
      · exact .inr fun h3 => HM.out ⟨hk, h2, h3⟩
      · exact .inl h2
    rw [hf]
    clear HW hk hf
    go_wp2
    go_ret
    exact ⟨rfl, hb⟩
  · clear HW h
    go_wp2
    go_ret
    exact ⟨rfl, hb⟩

theorem Bits_good {w : World} {p : Option Addr} {ds : List (ByteArray × Int)} (hd : DomsIn w p ds) (hnm : ∀ d ∈ ds, d.1.size ≤ 1000000) (cap : Nat) (hm : mayD ds) :
    Calls Tryz.prog 72 #[.slice p ds.length cap] w fun e w' => e = .returned (.int .i64 ((wds ds).sum : Nat)) ∧ Below w.heap.size w w' := by
  obtain ⟨h1, h2, h3⟩ := hm
  have HW := Lib.hid (widths_any hd (by omega) hnm cap)
  have HK := Lib.hid h1
  obtain ⟨n, hn⟩ : ∃ n, n = ds.length := ⟨_, rfl⟩
  have HN := Lib.hid hn
  have hb : (decide ((wds ds).sum ≤ 256) && decide (ds.length ≤ 32)) = true := by simp [h2, h3]
  have HB := Lib.hid hb
  obtain ⟨sm, hsm⟩ : ∃ z, z = (wds ds).sum := ⟨_, rfl⟩
  have HSM := Lib.hid hsm
  rw [← hn] at HW ⊢
  rw [← hsm]
  clear hd hnm h1 h2 h3 hn hb hsm
  go_enter Tryz.func72, Tryz.ntmps72
  go_wp2_with fail
  refine HW.out.mono ?_
  rintro e w1 h
  rcases h with ⟨_, q, cp, rfl, _, hb⟩ | ⟨h, _⟩
  · rw [HB.out, ← HSM.out]
    clear HW
    go_wp2
    go_ret
    exact ⟨rfl, hb⟩
  · exact absurd HK.out h

/-- Where a name stands; -1: nowhere. -/
def idxZ (names : List ByteArray) (s : ByteArray) : Int := match Lay.find names s with
  | some k => (k : Int)
  | none => -1

theorem idxBy_find (s : ByteArray) : ∀ (l : List (ByteArray × Int)) (i : Nat), Lib.idxByFrom (fun _ y => y.1.data.toList == s.data.toList) (default : ByteArray × Int) l i = match (l.map (·.1)).findIdx? (fun x => x.data.toList == s.data.toList) with
    | some k => ((i + k : Nat) : Int)
    | none => -1
  | [], _ => rfl
  | d :: l, i => by
    simp only [Lib.idxByFrom, List.map_cons, List.findIdx?_cons]
    by_cases h : (d.1.data.toList == s.data.toList) = true
    · simp [h]
    · have h' : (d.1.data.toList == s.data.toList) = false := by simpa using h
      simp only [h', Bool.false_eq_true, if_false, idxBy_find s l (i + 1)]
      cases hf : (l.map (·.1)).findIdx? (fun x => x.data.toList == s.data.toList) with
      | none => rfl
      | some k =>
        show ((i + 1 + k : Nat) : Int) = ((i + (k + 1) : Nat) : Int)
        rw [Nat.add_assoc, Nat.add_comm 1 k]

theorem eq_toList (a b : ByteArray) : (a.toList == b.toList) = (a.data.toList == b.data.toList) := by rw [Lib.toList_data, Lib.toList_data]

def encD (d : ByteArray × Int) : List Value := [.string d.1, .int .i64 d.2]

set_option maxRecDepth 100000 in
theorem closure121 {w : World} {bs : Nat} {s : ByteArray} (hc : w.cell? ⟨bs, 0, none⟩ = some (.string s)) (hb : bs < w.heap.size) (d : ByteArray × Int) :
    Calls Tryz.prog 121 #[.agg #[.string d.1, .int .i64 d.2], .pointer (some ⟨bs, 0, none⟩)] w fun e w' => e = .returned (.bool (d.1.data.toList == s.data.toList)) ∧ Below w.heap.size w w' := by
  obtain ⟨nm, sz⟩ := d
  go_enter Tryz.func121, Tryz.ntmps121
  go_wp2
  go_ret
  exact ⟨by rw [← eq_toList]; rfl, (Below.refl _ _).alloc (Nat.le_refl _) _⟩

theorem pred121 {w : World} {bs : Nat} {s : ByteArray} (hc : w.cell? ⟨bs, 0, none⟩ = some (.string s)) (hb : bs < w.heap.size) :
    PredBelow Tryz.prog 121 #[.pointer (some ⟨bs, 0, none⟩)] (fun x => .agg (encD x).toArray) (fun d : ByteArray × Int => d.1.data.toList == s.data.toList) w := fun _ d hW =>
  (closure121 ((hW.cell (p := ⟨bs, 0, none⟩) hb).trans hc) (Nat.lt_of_lt_of_le hb hW.size) d).mono fun _ _ ⟨he, hk⟩ => ⟨he, hW.trans (hk.mono hW.size)⟩

theorem indexDom_empty (a : Option Addr) (c : Nat) (fv : Value) (w : World) : Calls Tryz.prog 120 #[.slice a 0 c, fv] w fun e w' => e = .returned (.int .i64 (-1)) ∧ w = w' := by
  go_enter Tryz.func120, Tryz.ntmps120
  go_wp2
  go_loopg [8] 0 (fun _ i wr => i = .int .i64 0 ∧ wr = w)
  case atStart => exact ⟨rfl, rfl⟩
  case round =>
    obtain ⟨rfl, rfl⟩ := hrel
    go_wp2
    go_ret
    exact ⟨rfl, rfl⟩

theorem indexDom_any {w : World} {p : Option Addr} {ds : List (ByteArray × Int)} (hd : DomsIn w p ds) (hlen : ds.length ≤ 1000) (cap : Nat) {bs : Nat} {s : ByteArray} (hc : w.cell? ⟨bs, 0, none⟩ = some (.string s)) (hb : bs < w.heap.size) :
    Calls Tryz.prog 120 #[.slice p ds.length cap, .func (.func 121) #[] #[.pointer (some ⟨bs, 0, none⟩)]] w fun e w' => e = .returned (.int .i64 (idxZ (ds.map (·.1)) s)) ∧ Below w.heap.size w w' := by
  rcases hd with rfl | ⟨b, off, rfl, hbl, hcells⟩
  · exact (indexDom_empty p cap _ w).mono fun e w' ⟨he, hw⟩ => ⟨he, by rw [← hw]; exact Below.refl _ _⟩
  · have eg : ∀ args w, (callFunc 121 args).run Tryz.prog w = .ok (.enter 121 args) w := enters_of Tryz.func121 (by kernel_rfl) rfl
    have h := AnyQ.slices_IndexFunc (ρ := Tryz.indexDom120_ren) Tryz.indexDom120 2 Tryz.isAgg31 Tryz.sizeOf31 encD (fun _ => rfl) (fun d => d.1.data.toList == s.data.toList) 121 #[.pointer (some ⟨bs, 0, none⟩)] eg b off ds.length cap ds w (pred121 hc hb) (Nat.le_refl _) (by omega) hbl
      (fun j hj i v hv => by
        obtain ⟨⟨nm, sz⟩, hj2⟩ : ∃ d, ds[j]? = some d := ⟨_, List.getElem?_eq_getElem hj⟩
        have he : ds[j]! = (nm, sz) := by simp [hj2]
        rw [he] at hv
        obtain ⟨h1, h2⟩ := hcells j _ _ hj2
        match i, hv with
        | 0, hv => simp [encD] at hv; subst hv; exact h1
        | 1, hv => simp [encD] at hv; subst hv; exact h2)
    rw [List.take_length] at h
    refine h.mono fun e w' ⟨he, hk⟩ => ⟨?_, hk⟩
    rw [he]
    unfold Lib.idxBy
    rw [idxBy_find]
    unfold idxZ Lay.find
    cases (ds.map (·.1)).findIdx? (fun x => x.data.toList == s.data.toList) with
    | none => rfl
    | some k => simp

/-- The parts of a text between another one. -/
def splitS (s sep : ByteArray) : List ByteArray := Lib.splitB sep 0 (Lib.countB s sep) s

theorem splitS_any {w : World} {s sep : ByteArray} {m : Int} (hm : w.cell? ⟨0, 0, none⟩ = some (.int .i64 m)) (hs : s.size < 4294967281) (h1 : 1 ≤ sep.size) :
    Calls Tryz.prog 119 #[.string s, .string sep] w fun e w' => e = .returned (.slice (some ⟨w.heap.size, 0, none⟩) (splitS s sep).length (splitS s sep).length) ∧ w' = w.alloc (.cells ((splitS s sep).map Value.string).toArray 9) := by
  have h := Any.strings_Split (ρ := Tryz.split119_ren) { Tryz.split119 with } Tryz.split119.i9 s sep m w hs hm h1
  have hl := Lib.splitB_all sep h1 0 _ s rfl
  unfold splitS
  rw [hl]
  exact h

/-- A row of numbers of the call's own is turned round in its place. -/
theorem reverse_own {w : World} {base : Nat} {v : Value} {zs : List Int} (h : w.ownsRow base 3 1 v zs.length (zs.map (Value.int .i64))) (hsz : zs.length ≤ 1000000) :
    Calls Tryz.prog 122 #[v] w fun e w' => e = .returned (.tuple #[]) ∧ w'.ownsRow base 3 1 v zs.length (zs.reverse.map (Value.int .i64)) ∧ w.grownBy w' v.ownBlock := by
  rcases h.2 with ⟨rfl, hz⟩ | ⟨gb, cap, cur, rfl, hbase, hgb, r1, r2, r3, r4⟩
  · have hss : zs = [] := List.eq_nil_of_length_eq_zero hz
    subst hss
    refine (AnyG.slices_Reverse_int_empty (ρ := Tryz.reverse122_ren) Tryz.reverse122 none 0 w).mono ?_
    rintro e w' ⟨rfl, rfl⟩
    exact ⟨rfl, h, ⟨rfl, rfl, rfl, Nat.le_refl _, fun _ _ _ => rfl⟩⟩
  · have hH : Sort.Holds (Value.int .i64) w gb 0 zs.toArray := holds_of_block_i hgb (by simpa using r4)
    refine (AnyG.slices_Reverse_int (ρ := Tryz.reverse122_ren) Tryz.reverse122 gb 0 cap zs w hH (by omega)).mono ?_
    rintro e w' ⟨rfl, n, rfl⟩
    have e1 : Sort.putRow (Value.int .i64) (Sort.ahead w n) gb 0 zs.reverse.toArray = grow (Sort.putRow (Value.int .i64) (Sort.ahead w n) gb 0 zs.reverse.toArray) #[] := (grow_empty _).symm
    rw [e1]
    exact ⟨rfl, ownsRow_sorted_i (by simp) hbase hgb r1 r2 r3, grownBy_sorted_i _⟩

end Go.Proofs.YtndefnfknhjfkaaGreatDoor

/- Rows of numbers in a table of the call's own, each with memory of its own. -/
namespace Go.Proofs.YtndefnfknhjfkaaGreatDoor
open Go.RowKit Go.Proofs.Osier

theorem ownsRow_keep {w w' : World} {base e size n : Nat} {v : Value} {xs : List Value} (h : w.ownsRow base e size v n xs) (k : ∀ g, v.ownBlock = some g → w'.heap[g]? = w.heap[g]?) : w'.ownsRow base e size v n xs := by
  refine ⟨h.1, ?_⟩
  rcases h.2 with h2 | ⟨g, c, cur, rfl, a, b, r⟩
  · exact .inl h2
  · exact .inr ⟨g, c, cur, rfl, a, (k g rfl).trans b, r⟩

/-- A table of n rows, each with memory of its own from base on, none of it the block av. -/
def OutAt (w : World) (ob base n : Nat) (f : Nat → List Nat) (av : Nat) : Prop :=
  ∃ cur : Array Value, Blk w ob 34 cur ∧ (∀ k, k < n → ∃ v, cur[k]? = some v ∧ w.ownsRow base 3 1 v (f k).length (ints (f k)) ∧ ∀ g, v.ownBlock = some g → g ≠ av) ∧
    (∀ j k v u g, j < n → k < n → j ≠ k → cur[j]? = some v → cur[k]? = some u → v.ownBlock = some g → u.ownBlock ≠ some g)

theorem OutAt.lt {w : World} {ob base n : Nat} {f : Nat → List Nat} {av : Nat} (h : OutAt w ob base n f av) : ob < w.heap.size := by
  obtain ⟨cur, hb, _⟩ := h; exact hb.lt

theorem OutAt.keep {w w' : World} {ob base n : Nat} {f : Nat → List Nat} {av : Nat} (h : OutAt w ob base n f av) (ho : w'.heap[ob]? = w.heap[ob]?) (k : ∀ g cs, base ≤ g → g ≠ av → Blk w g 3 cs → w'.heap[g]? = w.heap[g]?) : OutAt w' ob base n f av := by
  obtain ⟨cur, hb, h1, h2⟩ := h
  refine ⟨cur, hb.of ho, fun i hi => ?_, h2⟩
  obtain ⟨v, a, b, c⟩ := h1 i hi
  refine ⟨v, a, ownsRow_keep b fun g hg => ?_, c⟩
  obtain ⟨_, _, _, hh⟩ := own_form b
  obtain ⟨hbase, cs, hblk⟩ := hh g hg
  exact k g cs hbase (c g hg) hblk

theorem OutAt.below {w w' : World} {ob base n : Nat} {f : Nat → List Nat} {av : Nat} (h : OutAt w ob base n f av) (k : Below w.heap.size w w') : OutAt w' ob base n f av :=
  h.keep (k.block ob h.lt) fun g _ _ _ hb => k.block g hb.lt

theorem OutAt.get {w : World} {ob base n : Nat} {f : Nat → List Nat} {av : Nat} (h : OutAt w ob base n f av) {k : Nat} (hk : k < n) :
    ∃ v, w.cell? ⟨ob, k, none⟩ = some v ∧ w.ownsRow base 3 1 v (f k).length (ints (f k)) := by
  obtain ⟨cur, hb, h1, h2⟩ := h
  obtain ⟨v, a, b, c⟩ := h1 k hk
  exact ⟨v, hb.cell_of a, b⟩

theorem OutAt.other {w : World} {ob base n : Nat} {f : Nat → List Nat} {av av' : Nat} (h : OutAt w ob base n f av) (ha : av' < base ∨ w.heap.size ≤ av') : OutAt w ob base n f av' := by
  obtain ⟨cur, hb, h1, h2⟩ := h
  refine ⟨cur, hb, fun k hk => ?_, h2⟩
  obtain ⟨v, a, b, c⟩ := h1 k hk
  refine ⟨v, a, b, fun g hg e => ?_⟩
  obtain ⟨_, _, _, hh⟩ := own_form b
  obtain ⟨hbase, cs, hblk⟩ := hh g hg
  have := hblk.lt
  omega

theorem OutAt.grow {w w5 : World} {ob base n : Nat} {f : Nat → List Nat} {av : Nat} (h : OutAt w ob base n f av) {k x : Nat} (hk : k < n) {v v' : Value} (hv : w.cell? ⟨ob, k, none⟩ = some v)
    (o5 : w5.ownsRow base 3 1 v' ((f k).length + 1) (ints (f k) ++ [.int .i64 x])) (g5 : (w.alloc (.cells #[.int .i64 x] 3)).grownBy w5 v.ownBlock)
    (a5 : v'.ownBlock = v.ownBlock ∨ v'.ownBlock = some (w.alloc (.cells #[.int .i64 x] 3)).heap.size) (hav : av < w.heap.size) :
    OutAt (w5.setCell ⟨ob, k, none⟩ v') ob base n (fun j => if j = k then f j ++ [x] else f j) av := by
  obtain ⟨cur, hb, h1, h2⟩ := h
  obtain ⟨v0, a, b, c⟩ := h1 k hk
  have e0 : v = v0 := by
    have := hb.cell_of a
    rw [hv] at this
    injection this
  subst e0
  obtain ⟨_, _, _, hh⟩ := own_form b
  have hsz : (w.alloc (.cells #[.int .i64 x] 3)).heap.size = w.heap.size + 1 := by simp
  have hob5 : Blk w5 ob 34 cur := (hb.alloc _).grown g5 (fun e => by
    obtain ⟨_, cs, hb'⟩ := hh ob e.symm
    exact hb.ne_ hb' (by decide) rfl)
  have hks : k < cur.size := (Array.getElem?_eq_some_iff.1 a).1
  obtain ⟨_, _, _, hh5⟩ := own_form o5
  refine ⟨cur.setIfInBounds k v', hob5.set_ k v', fun j hj => ?_, fun i j u u' g hi hj hij hu hu' hg hg' => ?_⟩
  · by_cases hjk : j = k
    · subst hjk
      refine ⟨v', by rw [Array.getElem?_setIfInBounds_self_of_lt hks], ?_, fun g hg => ?_⟩
      · simp only [if_pos]
        rw [List.length_append, List.length_singleton]
        have e1 : ints (f j ++ [x]) = ints (f j) ++ [.int .i64 x] := by simp [ints]
        rw [e1]
        refine ownsRow_keep o5 fun g hg => Below.heap_setCell w5 _ v' g (fun e => ?_)
        obtain ⟨_, cs, hb'⟩ := hh5 g hg
        subst e
        exact hob5.ne_ hb' (by decide) rfl
      · rcases a5 with a5 | a5
        · rw [a5] at hg; exact c g hg
        · rw [a5] at hg
          injection hg with hg
          omega
    · obtain ⟨u, ua, ub, uc⟩ := h1 j hj
      refine ⟨u, by rw [Array.getElem?_setIfInBounds_ne (fun e => hjk e.symm)]; exact ua, ?_, uc⟩
      simp only [if_neg hjk]
      refine ownsRow_keep ub fun g hg => ?_
      obtain ⟨_, _, _, hhu⟩ := own_form ub
      obtain ⟨_, cs, hb'⟩ := hhu g hg
      rw [Below.heap_setCell w5 _ v' g (fun e => by subst e; exact hb.ne_ hb' (by decide) rfl)]
      rw [g5.block g (by have := hb'.lt; omega) (fun e => h2 j k u v g hj hk hjk ua a hg e.symm)]
      exact Below.heap_alloc w _ g hb'.lt
  · have key : ∀ i, i < n → ∀ u, cur[i]? = some u → ∀ g, u.ownBlock = some g → g < w.heap.size := fun i hi u hu g hg => by
      obtain ⟨u0, ua, ub, _⟩ := h1 i hi
      rw [hu] at ua
      injection ua with ua
      subst ua
      obtain ⟨_, _, _, hhu⟩ := own_form ub
      obtain ⟨_, cs, hb'⟩ := hhu g hg
      exact hb'.lt
    by_cases hik : i = k
    · subst hik
      rw [Array.getElem?_setIfInBounds_self_of_lt hks] at hu
      injection hu with hu
      subst hu
      rw [Array.getElem?_setIfInBounds_ne hij] at hu'
      rcases a5 with a5 | a5
      · rw [a5] at hg; exact h2 i j v u' g hi hj hij a hu' hg hg'
      · rw [a5] at hg
        injection hg with hg
        have := key j hj u' hu' g hg'
        omega
    · rw [Array.getElem?_setIfInBounds_ne (fun e => hik e.symm)] at hu
      by_cases hjk : j = k
      · subst hjk
        rw [Array.getElem?_setIfInBounds_self_of_lt hks] at hu'
        injection hu' with hu'
        subst hu'
        rcases a5 with a5 | a5
        · rw [a5] at hg'; exact h2 i j u v g hi hj hij hu a hg hg'
        · rw [a5] at hg'
          injection hg' with hg'
          have := key i hi u hu g hg
          omega
      · rw [Array.getElem?_setIfInBounds_ne (fun e => hjk e.symm)] at hu'
        exact h2 i j u u' g hi hj hij hu hu' hg hg'

theorem OutAt.turn {w w' : World} {ob base n : Nat} {f : Nat → List Nat} {av : Nat} (h : OutAt w ob base n f av) {k : Nat} (hk : k < n) {v : Value} {l : List Nat} (hv : w.cell? ⟨ob, k, none⟩ = some v)
    (o : w'.ownsRow base 3 1 v l.length (ints l)) (g : w.grownBy w' v.ownBlock) : OutAt w' ob base n (fun j => if j = k then l else f j) av := by
  obtain ⟨cur, hb, h1, h2⟩ := h
  obtain ⟨v0, a, b, c⟩ := h1 k hk
  have e0 : v = v0 := by
    have := hb.cell_of a
    rw [hv] at this
    injection this
  subst e0
  obtain ⟨_, _, _, hh⟩ := own_form b
  have hob : Blk w' ob 34 cur := hb.grown g (fun e => by
    obtain ⟨_, cs, hb'⟩ := hh ob e.symm
    exact hb.ne_ hb' (by decide) rfl)
  refine ⟨cur, hob, fun j hj => ?_, h2⟩
  by_cases hjk : j = k
  · subst hjk
    exact ⟨v, a, by simpa using o, c⟩
  · obtain ⟨u, ua, ub, uc⟩ := h1 j hj
    refine ⟨u, ua, ?_, uc⟩
    simp only [if_neg hjk]
    refine ownsRow_keep ub fun g' hg => ?_
    obtain ⟨_, _, _, hhu⟩ := own_form ub
    obtain ⟨_, cs, hb'⟩ := hhu g' hg
    exact g.block g' hb'.lt (fun e => h2 j k u v g' hj hk hjk ua a hg e.symm)

theorem make33 (n : Nat) (hn : n ≤ 1000) (w : World) : (Instr.makeSlice 33 (.int .i64 n) (.int .i64 n)).run Tryz.prog w = .ok (.slice (some ⟨w.heap.size, 0, none⟩) n n) (w.alloc (.cells (madeCells #[.slice none 0 0] n) 34)) := by
  obtain ⟨i, hi, hz0, hz1, hz2⟩ := info_parts info34
  have hr := run_make_rowN (P := Tryz.prog) 33 34 i _ Tryz.underlying33 hi hz0 .i64 .i64 n n (Nat.le_refl _) (by rw [hz2]; omega) (by omega) w
  rw [hz1, Nat.mul_one] at hr
  exact hr

theorem made_get (n k : Nat) (hk : k < n) : (madeCells #[.slice none 0 0] n)[k]? = some (.slice none 0 0) := by
  simp [madeCells, hk, Nat.mod_one]

theorem OutAt.made (w : World) (n : Nat) : OutAt (w.alloc (.cells (madeCells #[.slice none 0 0] n) 34)) w.heap.size w.heap.size n (fun _ => []) 0 := by
  refine ⟨_, Blk.new w 34 _, fun k hk => ⟨.slice none 0 0, made_get n k hk, World.ownsRow_nil _ _ _ _, fun g hg => by simp [Value.ownBlock] at hg⟩, fun j k v u g hj _ _ hv _ hg => ?_⟩
  rw [made_get n j hj] at hv
  injection hv with hv
  subst hv
  simp [Value.ownBlock] at hg

end Go.Proofs.YtndefnfknhjfkaaGreatDoor

/- Place. -/
namespace Go.Proofs.YtndefnfknhjfkaaGreatDoor
open Go.RowKit Go.Maps Go.Proofs.Osier

def namesD (ds : List (ByteArray × Int)) : List ByteArray := ds.map (·.1)
def wdF (ds : List (ByteArray × Int)) (k : Nat) : Nat := (wds ds).getD k 0
def groupsOf (order : ByteArray) : List (List ByteArray) := (splitS order ⟨#[95]⟩).map fun g => splitS g ⟨#[42]⟩

theorem splitB_size (sep : ByteArray) (save : Nat) : ∀ (k : Nat) (s : ByteArray), ∀ g ∈ Lib.splitB sep save k s, g.size ≤ s.size
  | 0, s, g, h => by
    rw [Lib.splitB_zero, List.mem_singleton] at h
    rw [h]; exact Nat.le_refl _
  | k + 1, s, g, h => by
    unfold Lib.splitB at h
    split at h
    · rw [List.mem_singleton] at h
      rw [h]; exact Nat.le_refl _
    · rcases List.mem_cons.1 h with h | h
      · rw [h, ByteArray.size_extract]; omega
      · have := splitB_size sep save k _ g h
        rw [ByteArray.size_extract] at this
        omega

theorem splitS_size {s sep : ByteArray} : ∀ g ∈ splitS s sep, g.size ≤ s.size := splitB_size sep 0 _ s
theorem splitS_len (s sep : ByteArray) : (splitS s sep).length ≤ s.size + 2 := by
  have h1 := Lib.splitB_length_le sep 0 (Lib.countB s sep) s
  have h2 := Lib.count_le s.data.toList sep.data.toList
  have h3 : Lib.countB s sep = Lib.count s.data.toList sep.data.toList := rfl
  have h4 : s.data.toList.length = s.size := Array.length_toList
  unfold splitS
  omega

/-- What Place answers and leaves, of domains that may be. -/
def PlaceP (ds : List (ByteArray × Int)) (gs : List (List ByteArray)) (w : World) (e : Ending) (w' : World) : Prop :=
  (∃ (G : List (List Nat)) (ob B0 : Nat), Lay.parse (namesD ds) gs = some G ∧ G.flatten.length = ds.length ∧ e = .returned (.tuple #[.slice (some ⟨ob, 0, none⟩) ds.length ds.length, .int .i64 0]) ∧ OutAt w' ob B0 ds.length (fun k => ((Lay.place (wdF ds) G).1 k).reverse) 0 ∧ Below w.heap.size w w') ∨
  ((∀ G, Lay.parse (namesD ds) gs = some G → G.flatten.length ≠ ds.length) ∧ e = .returned (.tuple #[.slice none 0 0, .int .i64 70]) ∧ Below w.heap.size w w')

theorem wdF_le {ds : List (ByteArray × Int)} (h : okTo ds ds.length) (k : Nat) : wdF ds k ≤ 30 := by
  unfold wdF
  by_cases hk : k < ds.length
  · have hd : ds[k]? = some ds[k] := List.getElem?_eq_getElem hk
    have h1 := h k _ hk hd
    simp only [okD, Bool.and_eq_true, decide_eq_true_eq] at h1
    have : (wds ds).getD k 0 = widthN (ds[k]).2.toNat := by simp [wds, List.getD, hk]
    rw [this]
    exact width_le (by omega)
  · have : (wds ds).getD k 0 = 0 := by simp [wds, List.getD, hk]
    rw [this]; omega

theorem DomsIn.later {w w' : World} {p : Option Addr} {ds : List (ByteArray × Int)} (h : DomsIn w p ds) (hs : w.heap.size ≤ w'.heap.size) (k : ∀ b, b < w.heap.size → w'.heap[b]? = w.heap[b]?) : DomsIn w' p ds := by
  rcases h with h | ⟨b, off, e, hb, hc⟩
  · exact .inl h
  · exact .inr ⟨b, off, e, Nat.lt_of_lt_of_le hb hs, fun j nm sz hj => ⟨(World.cell?_of_block (a := ⟨b, off + j * 2, none⟩) (k b hb)).trans (hc j nm sz hj).1, (World.cell?_of_block (a := ⟨b, off + j * 2 + 1, none⟩) (k b hb)).trans (hc j nm sz hj).2⟩⟩

theorem step_other {w w5 : World} {B0 k x b : Nat} {v v' : Value} (g5 : (w.alloc (.cells #[.int .i64 x] 3)).grownBy w5 v.ownBlock) (hb : b < w.heap.size) (hne : v.ownBlock ≠ some b) (hB : b ≠ B0) : (w5.setCell ⟨B0, k, none⟩ v').heap[b]? = w.heap[b]? := by
  rw [Below.heap_setCell w5 ⟨B0, k, none⟩ v' b hB, g5.block b (by simp; omega) (fun e => hne e.symm)]
  exact Below.heap_alloc w _ b hb

theorem step_size {w w5 : World} {B0 k x : Nat} {v v' : Value} (g5 : (w.alloc (.cells #[.int .i64 x] 3)).grownBy w5 v.ownBlock) : w.heap.size ≤ (w5.setCell ⟨B0, k, none⟩ v').heap.size := by
  have := g5.size
  simp at this
  simp
  omega

theorem RowIn.held {w w' : World} {p : Option Addr} {l : List Nat} {lb : Nat} (h : RowIn w p l) (hp : ∀ g, p = some ⟨g, 0, none⟩ → g = lb) (hh : w'.heap[lb]? = w.heap[lb]?) : RowIn w' p l := by
  rcases h with h | ⟨g, cur, h1, h2, h3⟩
  · exact .inl h
  · have e := hp g h1
    subst e
    exact .inr ⟨g, cur, h1, h2.of hh, h3⟩

/-- What stands beside the rows while levels are laid. -/
structure Rest (w1 w : World) (B0 gb lb : Nat) (al : Array Value) (seen : List Nat) (pl : Option Addr) (ks : List Nat) : Prop where
  map : BMap w (B0 + 1) seen.length (fun y => decide (y ∈ seen)) (fun _ => True)
  strs : Blk w gb 9 al
  row : RowIn w pl ks
  below : Below B0 w1 w
  lb : lb < w.heap.size

theorem Rest.step {w1 w w5 : World} {B0 gb lb k x n : Nat} {al : Array Value} {seen : List Nat} {pl : Option Addr} {ks : List Nat} (h : Rest w1 w B0 gb lb al seen pl ks) (hp : ∀ g, pl = some ⟨g, 0, none⟩ → g = lb) (hB : w1.heap.size = B0) (hgb : B0 + 1 < gb) (hlb : lb ≠ B0)
    {f : Nat → List Nat} (o : OutAt w B0 B0 n f lb) (hk : k < n) {v v' : Value} (hv : w.cell? ⟨B0, k, none⟩ = some v) (g5 : (w.alloc (.cells #[.int .i64 x] 3)).grownBy w5 v.ownBlock) : Rest w1 (w5.setCell ⟨B0, k, none⟩ v') B0 gb lb al seen pl ks := by
  obtain ⟨cur, hb, h1, h2⟩ := o
  obtain ⟨v0, a, b, c⟩ := h1 k hk
  have e0 : v = v0 := by
    have := hb.cell_of a
    rw [hv] at this
    injection this
  subst e0
  obtain ⟨_, _, _, hh⟩ := own_form b
  have hs := step_size (B0 := B0) (k := k) (v' := v') g5
  refine ⟨h.map.kept (step_other g5 h.map.lt (fun e => ?_) (by omega)), h.strs.of (step_other g5 h.strs.lt (fun e => ?_) (by omega)), h.row.held hp (step_other g5 h.lb (fun e => c lb e rfl) hlb), ?_, Nat.lt_of_lt_of_le h.lb hs⟩
  · obtain ⟨_, cs, hb'⟩ := hh _ e
    exact h.map.ne_blk hb' rfl
  · obtain ⟨_, cs, hb'⟩ := hh _ e
    exact h.strs.ne_ hb' (by decide) rfl
  · have hbs := h.below.size
    refine ⟨?_, ?_, ?_, Nat.le_trans hbs hs, fun q hq => (step_other g5 (by omega) (fun e => ?_) (by omega)).trans (h.below.block q hq)⟩
    · exact (show (w5.setCell ⟨B0, k, none⟩ v').os = w5.os from rfl).trans (g5.os.trans h.below.os)
    · exact (show (w5.setCell ⟨B0, k, none⟩ v').tape = w5.tape from rfl).trans (g5.tape.trans h.below.tape)
    · exact (show (w5.setCell ⟨B0, k, none⟩ v').output = w5.output from rfl).trans (g5.output.trans h.below.output)
    · have := (hh q e).1
      omega

theorem reverseN {w : World} {base : Nat} {v : Value} {l : List Nat} (h : w.ownsRow base 3 1 v l.length (ints l)) (hs : l.length ≤ 1000000) :
    Calls Tryz.prog 122 #[v] w fun e w' => e = .returned (.tuple #[]) ∧ w'.ownsRow base 3 1 v l.reverse.length (ints l.reverse) ∧ w.grownBy w' v.ownBlock := by
  have h1 := reverse_own (zs := l.map fun x : Nat => (x : Int)) (w := w) (base := base) (v := v) (by rw [List.length_map, List.map_map]; exact h) (by rw [List.length_map]; exact hs)
  refine h1.mono fun e w' ⟨he, ho, hg⟩ => ⟨he, ?_, hg⟩
  rw [List.length_map, ← List.map_reverse, List.map_map] at ho
  rw [List.length_reverse]
  exact ho

theorem more_zero (w : Nat → Nat) (ks : List Nat) (lv : Nat) : false = true ↔ ∃ q ∈ ks.take 0, lv < w q := by simp
theorem more_yes {w : Nat → Nat} {ks : List Nat} {lv m q : Nat} (h : ks[m]? = some q) (hl : lv < w q) : true = true ↔ ∃ q ∈ ks.take (m + 1), lv < w q :=
  ⟨fun _ => ⟨q, by rw [List.take_add_one, h]; simp, hl⟩, fun _ => rfl⟩
theorem more_same {w : Nat → Nat} {ks : List Nat} {lv m q : Nat} {b : Bool} (h : ks[m]? = some q) (hl : ¬ lv < w q) (hb : b = true ↔ ∃ q ∈ ks.take m, lv < w q) : b = true ↔ ∃ q ∈ ks.take (m + 1), lv < w q := by
  rw [hb, List.take_add_one, h]
  constructor
  · rintro ⟨x, h1, h2⟩; exact ⟨x, by simp [h1], h2⟩
  · rintro ⟨x, h1, h2⟩
    rw [List.mem_append] at h1
    rcases h1 with h1 | h1
    · exact ⟨x, h1, h2⟩
    · simp at h1; subst h1; exact absurd h2 hl

set_option maxHeartbeats 8000000 in
set_option maxRecDepth 100000 in
theorem Place_any {w : World} {p : Option Addr} {ds : List (ByteArray × Int)} (hd : DomsIn w p ds) (hnm : ∀ d ∈ ds, d.1.size ≤ 1000000) (cap : Nat) {order : ByteArray} (ho : order.size ≤ 1000000) {x : UInt8} {xs : List UInt8} (hne : order.toList = x :: xs)
    {mx : Int} (hml : w.cell? ⟨0, 0, none⟩ = some (.int .i64 mx)) (hw0 : 0 < w.heap.size) (hm : mayD ds) :
    Calls Tryz.prog 74 #[.slice p ds.length cap, .string order] w (PlaceP ds (groupsOf order) w) := by
  obtain ⟨hk1, hk2, hk3⟩ := hm
  have HW := Lib.hid (widths_any hd (by omega) hnm cap)
  have HD := Lib.hid hd
  have HK := Lib.hid hk1
  have hb : (decide ((wds ds).sum ≤ 256) && decide (ds.length ≤ 32)) = true := by simp [hk2, hk3]
  have HB := Lib.hid hb
  obtain ⟨n, hn⟩ : ∃ n, n = ds.length := ⟨_, rfl⟩
  have HN := Lib.hid hn
  have hmm := @run_makeMap Tryz.prog
  have hmk := fun W => make33 n (by omega) W
  have he1 : order.toList.isEmpty = false := by rw [hne]; rfl
  have HNE := Lib.hid hne
  rw [← hn] at HW hk3 ⊢
  clear hd hnm hk1 hk2 hb hn hne
  go_enter Tryz.func74, Tryz.ntmps74
  go_wp2_with fail
  refine HW.out.mono ?_
  rintro e w1 h
  rcases h with ⟨_, q6, cp6, rfl, hr6, hb1⟩ | ⟨h, _⟩
  · rw [HB.out, ← HN.out]
    have HR6 := Lib.hid hr6
    have HB1 := Lib.hid hb1
    have hml1 := (hb1.cell (p := ⟨0, 0, none⟩) hw0).trans hml
    have hw10 := Nat.lt_of_lt_of_le hw0 hb1.size
    clear HW hr6 hb1 hml
    go_wp2_with fail
    obtain ⟨B0, hB0⟩ : ∃ z, z = w1.heap.size := ⟨_, rfl⟩
    obtain ⟨W2, hW2⟩ : ∃ W, W = (w1.alloc (.cells (madeCells #[.slice none 0 0] n) 34)).alloc (.map #[] 0) := ⟨_, rfl⟩
    have hbl2 : Below B0 w1 W2 := by rw [hW2, hB0]; exact ((Below.refl _ _).alloc (Nat.le_refl _) _).alloc (by simp) _
    have hout2 : OutAt W2 B0 B0 n (fun _ => []) 0 := by rw [hW2, hB0]; exact (OutAt.made w1 n).below ((Below.refl _ _).alloc (Nat.le_refl _) _)
    have hmap2 : BMap W2 (B0 + 1) 0 (fun y => decide (y ∈ ([] : List Nat))) (fun _ => True) := by
      have := BMap.made (w1.alloc (.cells (madeCells #[.slice none 0 0] n) 34)) (fun _ => True)
      rw [show (w1.alloc (.cells (madeCells #[.slice none 0 0] n) 34)).heap.size = w1.heap.size + 1 by simp, ← hB0, ← hW2] at this
      simpa using this
    have hml2 := (hbl2.cell (p := ⟨0, 0, none⟩) (by rw [hB0]; exact hw10)).trans hml1
    obtain ⟨us, hus⟩ : ∃ u : ByteArray, u = ⟨#[95]⟩ := ⟨_, rfl⟩
    obtain ⟨al, hal⟩ : ∃ l, l = splitS order us := ⟨_, rfl⟩
    have hsp := splitS_any (sep := us) hml2 (s := order) (by omega) (by rw [hus]; decide)
    rw [← hal, hus] at hsp
    rw [← hW2, ← hB0]
    have HAL := Lib.hid hal
    have HB0 := Lib.hid hB0
    have HBL2 := Lib.hid hbl2
    have HOUT2 := Lib.hid hout2
    have HMAP2 := Lib.hid hmap2
    have HSP := Lib.hid hsp
    have HUS := Lib.hid hus
    have HMB : Hid (Blk (W2.alloc (.cells (al.map Value.string).toArray 9)) W2.heap.size 9 (al.map Value.string).toArray) := Blk.new W2 9 _
    have hsz2 := hbl2.size
    have hob2 := hout2.lt
    clear hal hB0 hW2 hbl2 hout2 hmap2 hsp hus hml2
    refine HSP.out.mono ?_
    rintro e w3 ⟨rfl, rfl⟩
    obtain ⟨na, hna⟩ : ∃ z, z = al.length := ⟨_, rfl⟩
    rw [← hna]
    have HNA := Lib.hid hna
    have hna2 : na ≤ 1000002 := by rw [hna, HAL.out]; have := splitS_len order us; omega
    obtain ⟨W3, hW3⟩ : ∃ W, W = W2.alloc (.cells (al.map Value.string).toArray 9) := ⟨_, rfl⟩
    obtain ⟨gb, hgb⟩ : ∃ z, z = W2.heap.size := ⟨_, rfl⟩
    rw [← hW3, ← hgb] at HMB ⊢
    have hbA : Below gb W2 W3 := by rw [hW3, hgb]; exact (Below.refl _ _).alloc (Nat.le_refl _) _
    have HBA := Lib.hid hbA
    have HGB := Lib.hid hgb
    clear hna hW3 hgb hbA
    obtain ⟨star, hst⟩ : ∃ u : ByteArray, u = ⟨#[42]⟩ := ⟨_, rfl⟩
    have HSTAR := Lib.hid hst
    obtain ⟨gs, hgs⟩ : ∃ l, l = groupsOf order := ⟨_, rfl⟩
    have hgs2 : gs = al.map fun g => splitS g star := by rw [hgs, HAL.out, HUS.out, hst]; rfl
    have HGS2 := Lib.hid hgs2
    have HGS := Lib.hid hgs
    clear hst hgs hgs2
    obtain ⟨names, hnames⟩ : ∃ l, l = namesD ds := ⟨_, rfl⟩
    have HNAMES := Lib.hid hnames
    clear hnames
    have hgb0 : B0 + 1 < gb := by have := HMAP2.out.lt; rw [HGB.out]; exact this
    have hq0 : 0 < gb := by omega
    have HBL3 : Hid (Below B0 w1 W3) := HBL2.out.trans (HBA.out.mono (by omega))
    have HOUT3 : Hid (OutAt W3 B0 B0 n (fun _ => []) 0) := HOUT2.out.below (by rw [← HGB.out]; exact HBA.out)
    have HMAP3 : Hid (BMap W3 (B0 + 1) 0 (fun y => decide (y ∈ ([] : List Nat))) (fun _ => True)) := HMAP2.out.below (by rw [← HGB.out]; exact HBA.out)
    clear HOUT2 HMAP2 HBL2 hsz2 hob2
    go_wp2
    go_loopg [10, 11, 46] na (fun g lf nx i wr => ∃ (j f : Nat) (G : List (List Nat)), g = na - j ∧ j ≤ na ∧ i = .int .i64 j ∧ lf = .int .i64 f ∧ Hid (f + G.flatten.length = n) ∧ f ≤ n ∧ nx = .int .i64 ((Lay.place (wdF ds) G).2 : Nat) ∧ Hid (Lay.parse names (gs.take j) = some G) ∧
      OutAt wr B0 B0 n (Lay.place (wdF ds) G).1 0 ∧ BMap wr (B0 + 1) G.flatten.length (fun y => decide (y ∈ G.flatten)) (fun _ => True) ∧ Blk wr gb 9 (al.map Value.string).toArray ∧ Below B0 w1 wr)
    case atStart => exact ⟨0, n, [], rfl, by omega, rfl, rfl, rfl, Nat.le_refl _, rfl, rfl, HOUT3.out, HMAP3.out, HMB.out, HBL3.out⟩
    case round =>
      obtain ⟨j, f, G, hg, hj, rfl, rfl, HF, hfn, rfl, HPG, hout, hmap, hgbr, hbl⟩ := hrel
      have HG := Lib.hid hg
      have HOUT := Lib.hid hout
      have HMAP := Lib.hid hmap
      have HGBR := Lib.hid hgbr
      have HBL := Lib.hid hbl
      clear hg
      by_cases hjn : j < na
      · obtain ⟨gr, hgr⟩ : ∃ gr, al[j]? = some gr := ⟨_, List.getElem?_eq_getElem (by rw [← HNA.out]; exact hjn)⟩
        have hcg : wr.cell? ⟨gb, j, none⟩ = some (.string gr) := hgbr.cell_of (by simp [hgr])
        have hmlr : wr.cell? ⟨0, 0, none⟩ = some (.int .i64 mx) := (hbl.cell (p := ⟨0, 0, none⟩) (by rw [HB0.out]; exact hw10)).trans hml1
        have HGR := Lib.hid hgr
        have hgsz : gr.size ≤ 1000000 := by
          have h1 := List.mem_of_getElem? hgr
          rw [HAL.out] at h1
          exact Nat.le_trans (splitS_size gr h1) ho
        obtain ⟨ss, hss⟩ : ∃ l, l = splitS gr star := ⟨_, rfl⟩
        have hsp := splitS_any (sep := star) hmlr (s := gr) (by omega) (by rw [HSTAR.out]; decide)
        rw [← hss, HSTAR.out] at hsp
        have hns : ss.length ≤ 1000002 := by rw [hss]; have := splitS_len gr star; omega
        have hgj : gs[j]? = some ss := by rw [HGS2.out, List.getElem?_map, hgr, hss]; rfl
        have HSP := Lib.hid hsp
        have HGJ := Lib.hid hgj
        clear hout hmap hgbr hbl hgr hsp hgj hss hgsz
        obtain ⟨ns, hns2⟩ : ∃ z, z = ss.length := ⟨_, rfl⟩
        rw [← hns2] at hns HSP
        have HNS := Lib.hid hns2
        clear hns2
        go_wp2_with fail
        refine HSP.out.mono ?_
        rintro e w3 ⟨rfl, rfl⟩
        obtain ⟨wz, hwz⟩ : ∃ W, W = wr.alloc (.cells (ss.map Value.string).toArray 9) := ⟨_, rfl⟩
        obtain ⟨sb, hsb⟩ : ∃ z, z = wr.heap.size := ⟨_, rfl⟩
        have hbz : Below sb wr wz := by rw [hwz, hsb]; exact (Below.refl _ _).alloc (Nat.le_refl _) _
        have hss9 : Blk wz sb 9 (ss.map Value.string).toArray := by rw [hwz, hsb]; exact Blk.new wr 9 _
        have hmsb := HMAP.out.lt
        have houtz : OutAt wz B0 B0 n (Lay.place (wdF ds) G).1 0 := HOUT.out.below (by rw [← hsb]; exact hbz)
        have hmapz : BMap wz (B0 + 1) G.flatten.length (fun y => decide (y ∈ G.flatten)) (fun _ => True) := HMAP.out.below (by rw [← hsb]; exact hbz)
        have hgbz : Blk wz gb 9 (al.map Value.string).toArray := HGBR.out.below (by rw [← hsb]; exact hbz) HGBR.out.lt
        have hblz : Below B0 w1 wz := HBL.out.trans (hbz.mono (by rw [hsb]; omega))
        rw [← hwz, ← hsb]
        rw [← hsb] at hmsb
        have HSB := Lib.hid hsb
        have HSS9 := Lib.hid hss9
        have HOUTZ := Lib.hid houtz
        have HMAPZ := Lib.hid hmapz
        have HGBZ := Lib.hid hgbz
        have HBLZ := Lib.hid hblz
        clear hwz hsb hbz hss9 houtz hmapz hgbz hblz hcg hmlr
        go_wp2
        obtain ⟨i0, hi0, hz0, hz1, hz2⟩ := info_parts info3e
        go_loopg [10, 16, 53] ns (fun g lf l i wi => ∃ (k f' : Nat) (ks : List Nat), g = ns - k ∧ k ≤ ns ∧ i = .int .i64 k ∧ lf = .int .i64 f' ∧ Hid (f' + (G.flatten ++ ks).length = n) ∧ f' ≤ n ∧ wi.ownsRow wz.heap.size 3 1 l ks.length (ints ks) ∧ Hid (Lay.parseG names G.flatten (ss.take k) = some ks) ∧
          BMap wi (B0 + 1) (G.flatten ++ ks).length (fun y => decide (y ∈ G.flatten ++ ks)) (fun _ => True) ∧ Keep [B0 + 1] wz wi)
        case atStart => exact ⟨0, f, [], rfl, by omega, rfl, rfl, by rw [List.append_nil]; exact HF, hfn, World.ownsRow_nil _ _ _ _, rfl, by rw [List.append_nil]; exact HMAPZ.out, Keep.refl _ _⟩
        case round =>
          obtain ⟨k, f', ks, hg, hk, rfl, rfl, HF', hfn', hrow, HPK, hmi, hki⟩ := hrel
          have HG2 := Lib.hid hg
          have HROW := Lib.hid hrow
          have HMI := Lib.hid hmi
          have HKI := Lib.hid hki
          have HPAR := Lib.hid (Lay.parse_sound HPG.out)
          clear hg
          by_cases hkn : k < ns
          · obtain ⟨s, hs⟩ : ∃ s, ss[k]? = some s := ⟨_, List.getElem?_eq_getElem (by rw [← HNS.out]; exact hkn)⟩
            have hsi : sb < wr.heap.size := Nat.lt_of_lt_of_le HSS9.out.lt hki.size
            have hcs : wr.cell? ⟨sb, k, none⟩ = some (.string s) := (hki.blk HSS9.out (by simp; omega)).cell_of (by simp [hs])
            have hbw : Below w.heap.size w wr := by
              have h1 := HB1.out.trans (HBLZ.out.mono (by rw [HB0.out]; exact HB1.out.size))
              exact ⟨hki.os.trans h1.os, hki.tape.trans h1.tape, hki.output.trans h1.output, Nat.le_trans h1.size hki.size, fun b hb => (hki.block b (Nat.lt_of_lt_of_le hb h1.size) (by have := HB1.out.size; simp; rw [HB0.out]; omega)).trans (h1.block b hb)⟩
            have hdw := HD.out.below hbw
            have hxs : Blk (wr.alloc (.cells #[.string s] 9)) wr.heap.size 9 #[.string s] := Blk.new wr 9 _
            have hbA : Below wr.heap.size wr (wr.alloc (.cells #[.string s] 9)) := (Below.refl _ _).alloc (Nat.le_refl _) _
            have hix := indexDom_any (hdw.below hbA) (by rw [← HN.out]; omega) cap (hxs.cell_of rfl) hxs.lt
            rw [← HN.out, show ds.map (·.1) = names from HNAMES.out.symm] at hix
            have HIX := Lib.hid hix
            have HBA2 := Lib.hid hbA
            have HS := Lib.hid hs
            have HBW := Lib.hid hbw
            have hmf : ∀ (fn : Fn) (first cap : Array Value) (w : World), (Instr.makeFunc fn first cap).run Tryz.prog w = .ok (.func fn first cap) w := fun _ _ _ _ => rfl
            have hst := Lay.parseG_take names G.flatten hs
            rw [HPK.out] at hst
            unfold Lay.step at hst
            obtain ⟨z, hz⟩ : ∃ z, z = idxZ names s := ⟨_, rfl⟩
            rw [← hz] at HIX
            unfold idxZ at hz
            clear hrow hmi hki hs hdw hxs hbA hix hbw hcs
            have hcs : wr.cell? ⟨sb, k, none⟩ = some (.string s) := (HKI.out.blk HSS9.out (by simp; omega)).cell_of (by simp [HS.out])
            cases hfd : Lay.find names s with
            | none =>
              rw [hfd] at hst hz
              simp only at hst hz
              have hbad : Lay.parse names gs = none := by
                have h1 := Lay.parseG_bad hst
                have h2 := Lay.parse_take names HGJ.out
                rw [HPG.out] at h2
                unfold Lay.stepG at h2
                simp only [h1, Option.map_none] at h2
                exact Lay.parse_bad h2
              have HBAD := Lib.hid hbad
              subst hz
              clear hst hfd hbad
              go_wp2_with fail
              refine HIX.out.mono ?_
              rintro e w5 ⟨rfl, hb5⟩
              have HB5 := Lib.hid hb5
              clear hb5
              go_wp2
              go_ret2
              refine .inr ⟨fun G' h' => ?_, rfl, HBW.out.trans ((HBA2.out.trans (HB5.out.mono HBA2.out.size)).mono HBW.out.size)⟩
              rw [← HGS.out, ← HNAMES.out, HBAD.out] at h'
              cases h'
            | some q =>
              rw [hfd] at hst hz
              simp only at hst hz
              have hqn : q < n := by have := Lay.find_lt hfd; rw [HNAMES.out] at this; simpa [namesD, ← HN.out] using this
              subst hz
              have HST := Lib.hid hst
              have tq : decide ((q : Int) < 0) = false := by simp
              clear hst hfd
              go_wp2_with fail
              refine HIX.out.mono ?_
              rintro e w5 ⟨rfl, hb5⟩
              have hbl5 : Below wr.heap.size wr w5 := HBA2.out.trans (hb5.mono HBA2.out.size)
              have hm5 := HMI.out.below hbl5
              have hlook := hm5.look (x := q) (by omega)
              have HBL5 := Lib.hid hbl5
              have HM5 := Lib.hid hm5
              clear hb5 hbl5 hm5
              by_cases hmem : q ∈ G.flatten ++ ks
              · have hd9 : decide (q ∈ G.flatten ++ ks) = true := by simpa using hmem
                rw [hd9] at hlook
                have hbad : Lay.parse names gs = none := by
                  have h0 := HST.out
                  rw [if_pos hmem] at h0
                  have h1 := Lay.parseG_bad h0
                  have h2 := Lay.parse_take names HGJ.out
                  rw [HPG.out] at h2
                  unfold Lay.stepG at h2
                  simp only [h1, Option.map_none] at h2
                  exact Lay.parse_bad h2
                have HBAD := Lib.hid hbad
                clear hbad hmem hd9
                go_wp2
                go_ret2
                refine .inr ⟨fun G' h' => ?_, rfl, HBW.out.trans (HBL5.out.mono HBW.out.size)⟩
                rw [← HGS.out, ← HNAMES.out, HBAD.out] at h'
                cases h'
              · have hd9 : decide (q ∈ G.flatten ++ ks) = false := by simpa using hmem
                rw [hd9] at hlook
                have hst := HST.out
                rw [if_neg hmem] at hst
                have hpo := Lay.parseG_ok HPAR.out.1 (ss.take (k + 1)) [] (ks ++ [q]) (by simpa using HPAR.out.1) (by simp) hst
                have hcnt : (G.flatten ++ (ks ++ [q])).length ≤ n := by
                  refine Lay.pigeon n _ hpo.1 fun y hy => ?_
                  rcases List.mem_append.1 hy with hy | hy
                  · have := HPAR.out.2 y hy; rw [HNAMES.out] at this; simpa [namesD, ← HN.out] using this
                  · have := hpo.2 y hy; rw [HNAMES.out] at this; simpa [namesD, ← HN.out] using this
                have hcnt2 : (G.flatten ++ (ks ++ [q])).length = (G.flatten ++ ks).length + 1 := by simp; omega
                obtain ⟨f2, hf2⟩ : ∃ z, f' = z + 1 := ⟨f' - 1, by have := HF'.out; omega⟩
                obtain ⟨w6, hrun, hm6, hg6⟩ := HM5.out.store (x := q) (by omega) (by omega) trivial true
                have hm6' : BMap w6 (B0 + 1) (G.flatten ++ (ks ++ [q])).length (fun y => decide (y ∈ G.flatten ++ (ks ++ [q]))) (fun _ => True) := by
                  have e : (fun y => if y = q then true else decide (y ∈ G.flatten ++ ks)) = fun y => decide (y ∈ G.flatten ++ (ks ++ [q])) := by
                    funext y
                    by_cases hy : y = q
                    · simp [hy]
                    · rw [if_neg hy]; simp [hy]
                  rw [hcnt2, ← e]; exact hm6
                have hown6 : w6.ownsRow wz.heap.size 3 1 u16 ks.length (ints ks) := by
                  have h5 := ownsRow_below HBL5.out HROW.out
                  refine ownsRow_keep h5 fun g hg => ?_
                  obtain ⟨_, _, _, hh⟩ := own_form h5
                  obtain ⟨_, cs, hb'⟩ := hh g hg
                  exact hg6.block g hb'.lt (fun e => by injection e with e; exact HM5.out.ne_blk hb' e)
                have hk6 : Keep [B0 + 1] wz w6 := (HKI.out.trans (Keep.of_below (F := []) HBL5.out) (by simp)).grown hg6 (fun g e => by injection e with e; left; simp [e])
                have hsz6 := hk6.size
                have hlk : ks.length ≤ n := by rw [List.length_append] at hcnt; simp at hcnt; omega
                have hf1 : 1 ≤ f' := by omega
                obtain ⟨lk, hlk2⟩ : ∃ z, z = ks.length := ⟨_, rfl⟩
                rw [← hlk2] at hown6 hlk
                have HLK := Lib.hid hlk2
                have HM6 := Lib.hid hm6'
                have HK6 := Lib.hid hk6
                have HST2 := Lib.hid hst
                have HF2 := Lib.hid hf2
                have HCN := Lib.hid hcnt2
                clear hm6 hm6' hk6 hst hpo hcnt hcnt2 hf2 hmem hd9 hg6 hlk2
                go_wp2_with (at_builtin; refine wpList_append_own_at _ rfl _ _ 34 rfl wz.heap.size 3 i0 (.int .i64 0) 1 8 Tryz.underlying34 hi0 hz0 hz1 hz2 rfl (by decide) _ _ _ rfl (hown6.alloc _) ⟨w6.heap.size, 0, none⟩ 1 1 [.int .i64 (q : Int)] rfl rfl ?c1 ?c2 ?c3 ?c4 ?c5 ?_)
                case c1 => exact cells_new w6 [.int .i64 (q : Int)] 3
                case c2 => intro u hu; simp at hu; subst hu; rfl
                case c3 => unfold maxLen; omega
                case c4 => omega
                case c5 => simp; omega
                intro v7 w7 o7 g7 n7 a7
                have hof : ∀ g, u16.ownBlock = some g → wz.heap.size ≤ g ∧ ∃ cs, Blk w6 g 3 cs := fun g hg => by
                  obtain ⟨_, _, _, hh⟩ := own_form hown6
                  exact hh g hg
                have hk7 : Keep [B0 + 1] wz w7 := (HK6.out.alloc _).grown g7 (fun g hg => .inr (hof g hg).1)
                have hm7 : BMap w7 (B0 + 1) (G.flatten ++ (ks ++ [q])).length (fun y => decide (y ∈ G.flatten ++ (ks ++ [q]))) (fun _ => True) := (HM6.out.kept (Below.heap_alloc _ _ _ HM6.out.lt)).kept (g7.block (B0 + 1) (by have := HM6.out.lt; simp; omega) (fun e => by
                  obtain ⟨_, cs, hb⟩ := hof (B0 + 1) e.symm
                  exact HM6.out.ne_blk hb rfl))
                have HO7 := Lib.hid o7
                have HK7 := Lib.hid hk7
                have HM7 := Lib.hid hm7
                clear o7 g7 n7 a7 hof hk7 hm7 hown6
                go_wp2
                go_roundg (ns - (k + 1))
                case measure => rw [HG2.out]; omega
                case rel =>
                  refine ⟨k + 1, f2, ks ++ [q], rfl, by omega, by go_num, by rw [HF2.out]; go_num, ?_, by have := HF2.out; omega, ?_, HST2.out, HM7.out, HK7.out⟩
                  · show _ = _
                    have h1 := HF'.out
                    have h2 := HF2.out
                    have h3 := HCN.out
                    omega
                  · have h9 := HO7.out
                    rw [HLK.out] at h9
                    simpa [ints] using h9
          · obtain rfl : k = ns := by omega
            have hpk : Lay.parseG names G.flatten ss = some ks := by
              have h0 := HPK.out
              rw [List.take_of_length_le (by rw [← HNS.out]; exact Nat.le_refl _)] at h0
              exact h0
            have hpo := Lay.parseG_ok HPAR.out.1 ss [] ks (by simpa using HPAR.out.1) (by simp) hpk
            have hall : ∀ y ∈ G.flatten ++ ks, y < n := fun y hy => by
              rcases List.mem_append.1 hy with hy | hy
              · have := HPAR.out.2 y hy; rw [HNAMES.out] at this; simpa [namesD, ← HN.out] using this
              · have := hpo.2 y hy; rw [HNAMES.out] at this; simpa [namesD, ← HN.out] using this
            have hparse : Lay.parse names (gs.take (j + 1)) = some (G ++ [ks]) := by
              have h2 := Lay.parse_take names HGJ.out
              rw [HPG.out] at h2
              unfold Lay.stepG at h2
              simp only [hpk, Option.map_some] at h2
              exact h2
            obtain ⟨pl, cl, rfl, hrl, _, hgl⟩ := rowIn_own (l := ks) hrow
            obtain ⟨lb, hlb1, hlb2, hlb3⟩ : ∃ lb, (lb < B0 ∨ wz.heap.size ≤ lb) ∧ lb < wr.heap.size ∧ ∀ g, pl = some ⟨g, 0, none⟩ → g = lb := by
              rcases hrow.2 with ⟨e, _⟩ | ⟨g, c', cur, e, hge, hgh, _⟩
              · injection e with e
                subst e
                exact ⟨0, .inl (by rw [HB0.out]; exact hw10), by have := hmi.lt; omega, fun g hg => by cases hg⟩
              · injection e with e
                exact ⟨g, .inr hge, (Array.getElem?_eq_some_iff.1 hgh).1, fun g' hg' => by rw [hg'] at e; injection e with e; injection e with e⟩
            have hlbn : lb ≠ B0 := by have := HMAPZ.out.lt; omega
            have hout3 : OutAt wr B0 B0 n (Lay.place (wdF ds) G).1 lb := (HOUTZ.out.other hlb1).keep (hki.block B0 (by have := HMAPZ.out.lt; omega) (by simp)) (fun g cs _ _ hb => hki.block g hb.lt (by
              rw [List.mem_singleton]
              exact HMAPZ.out.ne_blk hb))
            have hbw1 : Below B0 w1 wr := by
              have h1 := HBLZ.out
              exact ⟨hki.os.trans h1.os, hki.tape.trans h1.tape, hki.output.trans h1.output, Nat.le_trans h1.size hki.size, fun b hb => (hki.block b (by have := h1.size; rw [← HB0.out] at this; omega) (by simp; omega)).trans (h1.block b hb)⟩
            have hrest : Rest w1 wr B0 gb lb (al.map Value.string).toArray (G.flatten ++ ks) pl ks := ⟨hmi, hki.blk HGBZ.out (by simp; omega), hrl, hbw1, hlb2⟩
            have HOUT3' := Lib.hid hout3
            have HREST := Lib.hid hrest
            have HPARSE := Lib.hid hparse
            have HALL := Lib.hid hall
            have HNOD := Lib.hid hpo.1
            have HLB3 := Lib.hid hlb3
            have hwd30 := Lib.hid (fun q => wdF_le HK.out q)
            clear hrow hmi hki hpk hpo hall hparse hrl hgl hlb1 hlb2 hlb3 hout3 hbw1 hrest HROW HMI HKI
            go_wp2
            obtain ⟨nk, hnk⟩ : ∃ z, z = ks.length := ⟨_, rfl⟩
            rw [← hnk]
            have HNK := Lib.hid hnk
            have hnk32 : nk ≤ 1000 := by
              have h1 := Lay.pigeon n _ HNOD.out HALL.out
              rw [List.length_append] at h1
              omega
            obtain ⟨st0, hst0⟩ : ∃ st, st = Lay.place (wdF ds) G := ⟨_, rfl⟩
            have HST0 := Lib.hid hst0
            rw [← hst0] at HOUT3'
            rw [← hst0]
            clear hnk hst0
            obtain ⟨i0, hi0, hz0, hz1, hz2⟩ := info_parts info3e
            go_loopg [11, 20, 21] 40 (fun g nx lvv more wi => ∃ (lv : Nat) (b : Bool), g = 40 - lv ∧ lv ≤ 31 ∧ lvv = .int .i64 lv ∧ more = .bool b ∧ (b = true → lv ≤ 30) ∧ Hid (b = false → ∀ q ∈ ks, wdF ds q ≤ lv) ∧ nx = .int .i64 ((Lay.putGroup (wdF ds) ks lv st0).2 : Nat) ∧
              OutAt wi B0 B0 n (Lay.putGroup (wdF ds) ks lv st0).1 lb ∧ Rest w1 wi B0 gb lb (al.map Value.string).toArray (G.flatten ++ ks) pl ks)
            case atStart => exact ⟨0, true, rfl, by omega, rfl, rfl, fun _ => by omega, (fun h => by cases h), rfl, HOUT3'.out, HREST.out⟩
            case round =>
              obtain ⟨lv, b, hg, hlv, rfl, rfl, hb30, HSTOP, rfl, houtl, hrestl⟩ := hrel
              have HG3 := Lib.hid hg
              have HOUTL := Lib.hid houtl
              have HRESTL := Lib.hid hrestl
              clear hg houtl hrestl
              cases b
              · have hgrp : Lay.putGroup (wdF ds) ks lv st0 = Lay.place (wdF ds) (G ++ [ks]) := by
                  rw [Lay.place_snoc, ← HST0.out]
                  exact (Lay.putGroup_stop (wdF ds) ks lv (HSTOP.out rfl) st0 62 (by omega)).symm
                have HGRP := Lib.hid hgrp
                clear hgrp hb30
                rw [HGRP.out]
                go_wp2
                go_roundg (na - (j + 1))
                case measure => rw [HG.out]; omega
                case rel =>
                  have hr := HRESTL.out
                  refine ⟨j + 1, f', G ++ [ks], rfl, by omega, by go_num, rfl, ?_, hfn', rfl, HPARSE.out, ?_, ?_, hr.strs, hr.below⟩
                  · show _ = _
                    rw [Lay.flatten_snoc]; exact HF'.out
                  · rw [← HGRP.out]; exact HOUTL.out.other (.inl (by rw [HB0.out]; exact hw10))
                  · rw [Lay.flatten_snoc]; exact hr.map
              · have hlv30 := hb30 rfl
                clear hb30
                obtain ⟨stl, hstl⟩ : ∃ st, st = Lay.putGroup (wdF ds) ks lv st0 := ⟨_, rfl⟩
                rw [← hstl] at HOUTL
                rw [← hstl]
                have HSTL := Lib.hid hstl
                clear hstl
                go_wp2
                go_loopg [11, 21, 81] nk (fun g nx more i wi => ∃ (m : Nat) (b : Bool), g = nk - m ∧ m ≤ nk ∧ i = .int .i64 m ∧ more = .bool b ∧ Hid (b = true ↔ ∃ q ∈ ks.take m, lv < wdF ds q) ∧ nx = .int .i64 ((Lay.putLevel (wdF ds) (ks.take m) lv stl).2 : Nat) ∧
                  OutAt wi B0 B0 n (Lay.putLevel (wdF ds) (ks.take m) lv stl).1 lb ∧ Rest w1 wi B0 gb lb (al.map Value.string).toArray (G.flatten ++ ks) pl ks)
                case atStart => exact ⟨0, false, rfl, by omega, rfl, rfl, more_zero _ _ _, rfl, HOUTL.out, HRESTL.out⟩
                case round =>
                  obtain ⟨m, b, hg, hm, rfl, rfl, HMORE, rfl, hout4, hrest4⟩ := hrel
                  have HG4 := Lib.hid hg
                  have HOUT4 := Lib.hid hout4
                  have HREST4 := Lib.hid hrest4
                  clear hg
                  by_cases hmn : m < nk
                  · obtain ⟨q, hq⟩ : ∃ q, ks[m]? = some q := ⟨_, List.getElem?_eq_getElem (by rw [← HNK.out]; exact hmn)⟩
                    obtain ⟨g4, rfl, hcq, hg4⟩ := hrest4.row.get hq
                    have hqn : q < n := HALL.out q (by simp [List.mem_of_getElem? hq])
                    have hwq : (wds ds)[q]? = some (wdF ds q) := by
                      have h1 : q < (wds ds).length := by simp [wds, ← HN.out]; exact hqn
                      simp [wdF, List.getD, List.getElem?_eq_getElem h1]
                    obtain ⟨g6, rfl, hcw, hg6⟩ := (rowIn_below HR6.out (by rw [← HB0.out]; exact hrest4.below)).get hwq
                    have hpl := Lay.putLevel_take (wdF ds) lv stl hq
                    have hmb := Lay.mid_bounds (w := wdF ds) (G := G) hwd30.out hk3 HNOD.out HALL.out lv m
                    rw [← HST0.out, ← HSTL.out] at hmb
                    obtain ⟨wq, hwq2⟩ : ∃ z, z = wdF ds q := ⟨_, rfl⟩
                    rw [← hwq2] at hcw
                    have hwq30 : wq ≤ 30 := by rw [hwq2]; exact hwd30.out q
                    obtain ⟨stm, hstm⟩ : ∃ st, st = Lay.putLevel (wdF ds) (ks.take m) lv stl := ⟨_, rfl⟩
                    rw [← hstm] at hmb HOUT4 hpl
                    rw [← hstm]
                    have hnx := hmb.2
                    have hlen4 := hmb.1 q
                    have HQ := Lib.hid hq
                    have HPL := Lib.hid hpl
                    have HWQ2 := Lib.hid hwq2
                    clear hq hwq hpl hmb hwq2 hout4 hrest4 hstm
                    by_cases hlt : lv < wq
                    · have tl : decide ((lv : Int) < (wq : Int)) = true := by simp; omega
                      obtain ⟨v, hv, hown⟩ := HOUT4.out.get hqn
                      have hbo : ∃ cur, Blk wr B0 34 cur := ⟨_, HOUT4.out.choose_spec.1⟩
                      obtain ⟨nx, hnx2⟩ : ∃ z, z = stm.2 := ⟨_, rfl⟩
                      rw [← hnx2] at hnx ⊢
                      have HNX := Lib.hid hnx2
                      obtain ⟨ln, hln⟩ : ∃ z, z = (stm.1 q).length := ⟨_, rfl⟩
                      rw [← hln] at hlen4 hown
                      have HLN := Lib.hid hln
                      have hbz := HREST4.out.below.size
                      rw [← HB0.out] at hbz
                      have hB0l := HOUT4.out.lt
                      have HV := Lib.hid hv
                      clear hnx2 hln
                      go_wp2_with (at_builtin; refine wpList_append_own_at _ rfl _ _ 34 rfl B0 3 i0 (.int .i64 0) 1 8 Tryz.underlying34 hi0 hz0 hz1 hz2 rfl (by decide) _ _ _ rfl (hown.alloc _) ⟨wr.heap.size, 0, none⟩ 1 1 [.int .i64 (nx : Int)] rfl rfl ?c1 ?c2 ?c3 ?c4 ?c5 ?_)
                      case c1 => exact cells_new wr [.int .i64 (nx : Int)] 3
                      case c2 => intro u hu; simp at hu; subst hu; rfl
                      case c3 => unfold maxLen; omega
                      case c4 => omega
                      case c5 => simp; omega
                      intro v7 w7 o7 g7 n7 a7
                      obtain ⟨pv7, cv7, hv7, _⟩ := own_form o7
                      subst hv7
                      obtain ⟨cur, hcur⟩ := hbo
                      have hB7 : Blk w7 B0 34 cur := (hcur.alloc _).grown g7 (fun e => by
                        obtain ⟨_, _, _, hh⟩ := own_form hown
                        obtain ⟨_, cs, hb'⟩ := hh B0 e.symm
                        exact hcur.ne_ hb' (by decide) rfl)
                      have hc7 : w7.cell? ⟨B0, q, none⟩ = some v := by
                        rw [hB7.cell, ← hcur.cell]; exact HV.out
                      have hf7 : w7.frozen? ⟨B0, q, none⟩ = false := hB7.frozen q
                      have hout7 := HOUT4.out.grow (x := nx) hqn HV.out (by rw [← HLN.out]; exact o7) g7 (by simpa using a7) HREST4.out.lb
                      have hrest7 := HREST4.out.step (x := nx) HLB3.out HB0.out.symm hgb0 hlbn HOUT4.out hqn (v' := .slice pv7 (ln + 1) cv7) HV.out g7
                      have HOUT7 := Lib.hid hout7
                      have HREST7 := Lib.hid hrest7
                      have hB7l := hB7.lt
                      clear o7 g7 n7 a7 hout7 hrest7 hcur hB7 hown hv hB0l
                      go_wp2
                      go_roundg (nk - (m + 1))
                      case measure => rw [HG4.out]; omega
                      case rel =>
                        have h9 := HPL.out
                        unfold Lay.put1 at h9
                        rw [← HWQ2.out, if_pos hlt, ← HNX.out] at h9
                        exact ⟨m + 1, true, rfl, by omega, by go_num, rfl, more_yes HQ.out (by rw [← HWQ2.out]; exact hlt), by rw [h9]; go_num, by rw [h9]; exact HOUT7.out, HREST7.out⟩
                    · have tl : decide ((lv : Int) < (wq : Int)) = false := by simp; omega
                      have h9 : Lay.putLevel (wdF ds) (ks.take (m + 1)) lv stl = stm := by
                        have h9 := HPL.out
                        unfold Lay.put1 at h9
                        rw [← HWQ2.out, if_neg hlt] at h9
                        exact h9
                      have H9 := Lib.hid h9
                      have HLT : Hid (¬ lv < wdF ds q) := by rw [← HWQ2.out]; exact hlt
                      clear h9
                      go_wp2
                      go_roundg (nk - (m + 1))
                      case measure => rw [HG4.out]; omega
                      case rel => exact ⟨m + 1, b, rfl, by omega, by go_num, rfl, more_same HQ.out HLT.out HMORE.out, by rw [H9.out], by rw [H9.out]; exact HOUT4.out, HREST4.out⟩
                  · obtain rfl : m = nk := by omega
                    have htk : ks.take m = ks := List.take_of_length_le (by rw [← HNK.out]; exact Nat.le_refl _)
                    have hst : Lay.putLevel (wdF ds) (ks.take m) lv stl = Lay.putGroup (wdF ds) ks (lv + 1) st0 := by
                      rw [htk, HSTL.out, Lay.putGroup_succ]
                    have hmore := HMORE.out
                    rw [htk] at hmore
                    have HST5 := Lib.hid hst
                    have HMO := Lib.hid hmore
                    clear htk hst hmore hout4 hrest4
                    rw [HST5.out]
                    go_wp2
                    go_roundg (40 - (lv + 1))
                    case measure => rw [HG3.out]; omega
                    case rel =>
                      refine ⟨lv + 1, b, rfl, by omega, by go_num, rfl, fun hb => ?_, fun hb q hq => ?_, rfl, by rw [← HST5.out]; exact HOUT4.out, HREST4.out⟩
                      · obtain ⟨q, _, hq2⟩ := HMO.out.1 hb
                        have := hwd30.out q
                        omega
                      · by_cases h9 : lv < wdF ds q
                        · have := HMO.out.2 ⟨q, hq, h9⟩
                          rw [hb] at this
                          cases this
                        · omega
      · obtain rfl : j = na := by omega
        have hpar : Lay.parse names gs = some G := by
          have h0 := HPG.out
          rw [List.take_of_length_le (by rw [HGS2.out, List.length_map, ← HNA.out]; exact Nat.le_refl _)] at h0
          exact h0
        have hps := Lay.parse_sound hpar
        have hpl := Lay.placed_all (w := wdF ds) (n := n) (fun q => Nat.le_trans (wdF_le HK.out q) (by omega)) G hps.1 (fun q hq => by have := hps.2 q hq; rw [HNAMES.out] at this; simpa [namesD, ← HN.out] using this)
        have hlens : ∀ q, ((Lay.place (wdF ds) G).1 q).length ≤ 30 := fun q => by
          rw [hpl.length]
          have := wdF_le HK.out q
          split <;> omega
        have HPARR := Lib.hid hpar
        have HLENS := Lib.hid hlens
        have hbw : Below w.heap.size w wr := HB1.out.trans (hbl.mono (by rw [HB0.out]; exact HB1.out.size))
        have HBW := Lib.hid hbw
        clear hpar hps hpl hlens hbw hout hmap hgbr hbl
        by_cases hf0 : f = 0
        · subst hf0
          have hcnt : G.flatten.length = n := by have := HF.out; omega
          have HCNT := Lib.hid hcnt
          clear hcnt
          go_wp2
          go_loopg [109] n (fun g i wi => ∃ m : Nat, g = n - m ∧ m ≤ n ∧ i = .int .i64 m ∧ OutAt wi B0 B0 n (fun q => if q < m then ((Lay.place (wdF ds) G).1 q).reverse else (Lay.place (wdF ds) G).1 q) 0 ∧ Below B0 w1 wi)
          case atStart => exact ⟨0, rfl, by omega, rfl, by simpa using HOUT.out, HBL.out⟩
          case round =>
            obtain ⟨m, hg, hm, rfl, hout5, hbl5⟩ := hrel
            have HG5 := Lib.hid hg
            have HOUT5 := Lib.hid hout5
            have HBL5 := Lib.hid hbl5
            clear hg
            by_cases hmn : m < n
            · obtain ⟨v, hv, hown⟩ := hout5.get hmn
              simp only [Nat.lt_irrefl, if_false] at hown
              have hrv := reverseN hown (by have := HLENS.out m; omega)
              have HRV := Lib.hid hrv
              have HV := Lib.hid hv
              have HOF : Hid (∀ g, v.ownBlock = some g → B0 ≤ g) := fun g hg => by
                obtain ⟨_, _, _, hh⟩ := own_form hown
                exact (hh g hg).1
              have hB0l := hout5.lt
              clear hout5 hbl5 hown hrv
              go_wp2_with fail
              refine HRV.out.mono ?_
              rintro e w9 ⟨rfl, ho9, hg9⟩
              have hout9 := HOUT5.out.turn hmn HV.out ho9 hg9
              have hbl9 : Below B0 w1 w9 := HBL5.out.grown hg9 (by have := HBL5.out.size; rw [← HB0.out] at this; exact this) HOF.out
              have HOUT9 := Lib.hid hout9
              have HBL9 := Lib.hid hbl9
              clear ho9 hg9 hout9 hbl9 hv
              go_wp2
              go_roundg (n - (m + 1))
              case measure => rw [HG5.out]; omega
              case rel =>
                refine ⟨m + 1, rfl, by omega, by go_num, ?_, HBL9.out⟩
                have e : (fun q => if q = m then ((Lay.place (wdF ds) G).1 m).reverse else if q < m then ((Lay.place (wdF ds) G).1 q).reverse else (Lay.place (wdF ds) G).1 q) = fun q => if q < m + 1 then ((Lay.place (wdF ds) G).1 q).reverse else (Lay.place (wdF ds) G).1 q := by
                  funext q
                  by_cases h1 : q = m
                  · subst h1; simp
                  · by_cases h2 : q < m
                    · simp [h1, h2, show q < m + 1 by omega]
                    · simp [h1, h2, show ¬ q < m + 1 by omega]
                rw [← e]
                exact HOUT9.out
            · obtain rfl : m = n := by omega
              clear hout5 hbl5
              go_wp2
              go_ret2
              refine .inl ⟨G, B0, B0, ?_, ?_, ?_, ?_, HB1.out.trans (HBL5.out.mono (by rw [HB0.out]; exact HB1.out.size))⟩
              · rw [← HGS.out, ← HNAMES.out]; exact HPARR.out
              · rw [← HN.out]; exact HCNT.out
              · rw [← HN.out]; rfl
              · rw [← HN.out]
                obtain ⟨cur, hb, h1, h2⟩ := HOUT5.out
                refine ⟨cur, hb, fun k hk => ?_, h2⟩
                have := h1 k hk
                simpa [hk] using this
        · have tf : decide ((0 : Int) < (f : Int)) = true := by simp; omega
          have hfp : 0 < f := by omega
          have HNE2 : Hid (G.flatten.length ≠ n) := by have := HF.out; show _ ≠ _; omega
          clear hf0
          go_wp2
          go_ret2
          refine .inr ⟨fun G' h' => ?_, rfl, HBW.out⟩
          rw [← HGS.out, ← HNAMES.out, HPARR.out] at h'
          injection h' with h'
          subst h'
          rw [← HN.out]
          exact HNE2.out
  · exact absurd HK.out h

end Go.Proofs.YtndefnfknhjfkaaGreatDoor
