/- Walks: tuples told rising. -/
import Derived.Test.YtndefnfknhjfkaaGreatDoorGm
import Derived.Test.YtndefnfknhjfkaaGreatDoorGp
import Derived.Test.YtndefnfknhjfkaaGreatDoorGa
import Derived.Test.YtndefnfknhjfkaaGreatDoorGo

/- Tuples: the tuples for which a node says true, rising. -/
namespace Go.Proofs.YtndefnfknhjfkaaGreatDoor
open Go.RowKit Go.Proofs.Osier

theorem flat_nodup {K : Cd} {vars : Nat} (ok : CdOk K vars) : ∀ (doms : List Nat), (∀ d ∈ doms, d < K.n) → doms.Nodup → (doms.flatMap K.at_).Nodup
  | [], _, _ => List.Pairwise.nil
  | d :: ds, h, hn => by
    rw [List.nodup_cons] at hn
    rw [List.flatMap_cons, List.nodup_append]
    refine ⟨ok.nodup d (h d (by simp)), flat_nodup ok ds (fun x hx => h x (by simp [hx])) hn.2, fun a ha b hb hab => ?_⟩
    subst hab
    rw [List.mem_flatMap] at hb
    obtain ⟨e, he, hae⟩ := hb
    exact ok.apart d e (h d (by simp)) (h e (by simp [he])) (by rintro rfl; exact hn.1 he) a ha hae

theorem flat_lt {K : Cd} {vars : Nat} (ok : CdOk K vars) {doms : List Nat} (h : ∀ d ∈ doms, d < K.n) : ∀ v ∈ doms.flatMap K.at_, v < vars := by
  intro v hv
  rw [List.mem_flatMap] at hv
  obtain ⟨d, hd, hvd⟩ := hv
  exact ok.lt d (h d hd) v hvd

/-- What is left of a number. -/
def divN (ws : List Nat) (n : Nat) : Nat → Nat
  | 0 => n
  | i + 1 => divN ws n i / 2 ^ ws.getD i 0

theorem divN_cons (w : Nat) (ws : List Nat) (n : Nat) : ∀ i, divN (w :: ws) n (i + 1) = divN ws (n / 2 ^ w) i
  | 0 => rfl
  | i + 1 => by
    show divN (w :: ws) n (i + 1) / 2 ^ (w :: ws).getD (i + 1) 0 = divN ws (n / 2 ^ w) i / 2 ^ ws.getD i 0
    rw [divN_cons w ws n i]
    rfl

theorem splitN_get : ∀ (ws : List Nat) (n i w : Nat), ws[i]? = some w → (Tup.splitN ws n)[i]? = some (divN ws n i % 2 ^ w)
  | [], _, _, _, h => by simp at h
  | w :: ws, n, 0, w', h => by simp at h; subst h; rfl
  | w :: ws, n, i + 1, w', h => by
    rw [divN_cons]
    exact splitN_get ws (n / 2 ^ w) i w' (by simpa using h)

theorem divN_le (ws : List Nat) (n : Nat) : ∀ i, divN ws n i ≤ n
  | 0 => Nat.le_refl _
  | i + 1 => Nat.le_trans (Nat.div_le_self _ _) (divN_le ws n i)

theorem and_mask {x m : Nat} (hx : x < 9223372036854775808) (hm : m ≤ 60) : bits .and .i64 (x : Int) (wrap64 (wrap64 (2 ^ m) - 1)) = ((x % 2 ^ m : Nat) : Int) := by
  have h2 : 2 ^ m ≤ 2 ^ 60 := Nat.pow_le_pow_right (by omega) hm
  have h3 : (2 : Nat) ^ 60 = 1152921504606846976 := by decide
  have h4 : 0 < 2 ^ m := Nat.two_pow_pos m
  have hc : ((2 : Int) ^ m) = ((2 ^ m : Nat) : Int) := by push_cast; rfl
  have ha := Nat.and_two_pow_sub_one_eq_mod x m
  rw [hc, ← ha]
  generalize 2 ^ m = p at *
  have e : wrap64 (wrap64 (p : Int) - 1) = ((p - 1 : Nat) : Int) := by unfold wrap64; omega
  rw [e, i64_and_nat x (p - 1) hx (by omega)]

theorem rowAbove_own {w : World} {base b0 : Nat} {v : Value} {l : List Nat} {n : Nat} (h : w.ownsRow base 3 1 v n (ints l)) (hb : b0 ≤ base) : ∃ p cap, v = .slice p l.length cap ∧ RowAbove b0 w p l := by
  obtain ⟨p, cap, rfl, hr, hn, hg⟩ := rowIn_own (l := l) h
  refine ⟨p, cap, rfl, ?_⟩
  rcases hr with hr | ⟨g, cur, rfl, h1, h2⟩
  · exact .inl hr
  · exact .inr ⟨g, cur, rfl, Nat.le_trans hb (hg g rfl), h1, h2⟩

/-- What Tuples answers and leaves. -/
def TupP (want : List (List Nat)) (w : World) (e : Ending) (w' : World) : Prop := ∃ q cap, e = .returned (.tuple #[.slice q want.length cap, .int .i64 0]) ∧ RowsIn w' q want ∧ Below w.heap.size w w'

set_option maxHeartbeats 4000000 in
set_option maxRecDepth 100000 in
theorem tuples_any {h : Key → Nat} {w : World} {c : Nat} {K : Cd} (hc : CodeAt w c K) {F : List Nat} {s : St} (t : Opr h w K.op K.st F s) (ok : CdOk K s.vars) {k most : Nat} {doms : List Nat} {p : Option Addr} {cap : Nat} (hr : RowIn w p doms)
    (hlen : doms.length ≤ 32) (hlt : ∀ d ∈ doms, d < K.n) (hn : doms.Nodup) (hk : k < s.l.length) (hd : St.Dep (s.ev k) (fun u => decide (u ∈ doms.flatMap K.at_))) (h16 : (doms.flatMap K.at_).length ≤ 16)
    {want : List (List Nat)} (hw : want.Pairwise (· < ·)) (hm : ∀ r, r ∈ want ↔ ∃ e, Tup.tupE K.at_ doms e = r ∧ s.ev k e = true) (hmost : want.length ≤ most) (hm16 : most ≤ 16384) :
    Calls Tryz.prog 17 #[.pointer (some ⟨c, 0, none⟩), .int .i64 k, .slice p doms.length cap, .int .i64 most] w (TupP want w) := by
  have hnf := flat_nodup ok doms hlt hn
  have hpm := Tup.rows_perm hnf hd hw hm
  have hec : (Cnt.each s k (doms.flatMap K.at_)).length = want.length := by rw [← Tup.rows0_length, hpm.length_eq]
  have HV := Lib.hid (Vars_good hc ok (cap := cap) hr hlen hlt hn)
  obtain ⟨F0, tS, hF0, x1, x2, x3, x4, x5, hbo⟩ := t.sto
  have HE := Lib.hid (fun (W : World) (q : Option Addr) (cp : Nat) (hb : Below w.heap.size w W) (hq : RowIn W q (doms.flatMap K.at_)) (hq0 : doms.flatMap K.at_ = [] → q = none ∧ cp = 0) => each_any (cap := cp) (most := most) (tS.below hb) hq hq0 hnf (flat_lt ok hlt) hk hd h16 (by omega) hm16)
  have HQ := Lib.hid (fun (W : World) (hb : Below w.heap.size w W) => quan_ops (hc.stays (.of_below hb)).quan)
  have HS := Lib.hid (fun (W : World) (hb : Below w.heap.size w W) => ops_store (hbo.below hb hbo.lt))
  have c0 : w.cell? ⟨c, 0, none⟩ = some (.pointer (some ⟨K.q, 0, none⟩)) := hc.code.cell_of rfl
  have HC := Lib.hid hc
  have HR := Lib.hid hr
  have HLT := Lib.hid hlt
  have HOK := Lib.hid ok
  have HPM := Lib.hid hpm
  have HW := Lib.hid hw
  have HEC := Lib.hid hec
  obtain ⟨nd, hnd⟩ : ∃ n, n = doms.length := ⟨_, rfl⟩
  have HND := Lib.hid hnd
  rw [← hnd] at hlen ⊢ HV
  obtain ⟨vl, hvl⟩ : ∃ l, l = doms.flatMap K.at_ := ⟨_, rfl⟩
  have HVL := Lib.hid hvl
  rw [← hvl] at h16 HV HE HEC
  obtain ⟨nv, hnv⟩ : ∃ n, n = vl.length := ⟨_, rfl⟩
  have HNV := Lib.hid hnv
  rw [← hnv] at h16 HE
  obtain ⟨ea, hea⟩ : ∃ l, l = Cnt.each s k vl := ⟨_, rfl⟩
  have HEA := Lib.hid hea
  rw [← hea] at HE HEC
  have t1 : decide ((most : Int) < 0) = false := by simp
  have t2 : decide ((16384 : Int) < (most : Int)) = false := by simp; omega
  have t3 : decide ((62 : Int) < (nv : Int)) = false := by simp; omega
  clear hc t ok hr hlt hn hd hw hm hnf hpm hec tS hbo hnd hvl hnv hea
  go_enter Tryz.func17, Tryz.ntmps17
  go_wp2_with fail
  refine HV.out.mono ?_
  rintro e w1 ⟨q1, cap1, rfl, hr1, hz1, hb1⟩
  have HE1 := Lib.hid (HE.out w1 q1 cap1 hb1 hr1 hz1)
  have HQ1 := Lib.hid (HQ.out w1 hb1)
  have HS1 := Lib.hid (HS.out w1 hb1)
  have c1 : w1.cell? ⟨c, 0, none⟩ = some (.pointer (some ⟨K.q, 0, none⟩)) := (HC.out.stays (.of_below hb1)).code.cell_of rfl
  have HB1 := Lib.hid hb1
  rw [← HNV.out]
  clear hb1 hr1 hz1 c0
  go_wp2_with (first | (go_at_call 22; refine HQ1.out.mono ?_; rintro e w' ⟨rfl, rfl⟩) | (go_at_call 50; refine HS1.out.mono ?_; rintro e w' ⟨rfl, rfl⟩))
  refine HE1.out.mono ?_
  rintro e w2 ⟨q2, cap2, rfl, hr2, hb2⟩
  have HR2 := Lib.hid hr2
  have HB2 : Hid (Below w.heap.size w w2) := HB1.out.trans (hb2.mono HB1.out.size)
  obtain ⟨ne, hne⟩ : ∃ n, n = ea.length := ⟨_, rfl⟩
  have HNE := Lib.hid hne
  rw [← hne]
  clear hr2 hb2 c1 hne
  go_wp2
  obtain ⟨ws, hws⟩ : ∃ l, l = doms.map fun d => (K.at_ d).length := ⟨_, rfl⟩
  have HWS := Lib.hid hws
  clear hws
  obtain ⟨i0, hi0, hz0, hz1, hz2⟩ := info_parts info3e
  go_loopg [13, 59] ne (fun g o i wr => ∃ (j : Nat) (vs : List Value), g = ne - j ∧ j ≤ ne ∧ i = .int .i64 j ∧ wr.ownsRow w2.heap.size 34 1 o j vs ∧ RowsAbove w2.heap.size wr vs ((ea.take j).map (Tup.splitN ws)) ∧ Below w2.heap.size w2 wr)
  case atStart => exact ⟨0, [], rfl, by omega, rfl, World.ownsRow_nil _ _ _ _, RowsAbove.nil _ _, Below.refl _ _⟩
  case round =>
    obtain ⟨j, vs, hg, hj, rfl, hout, hra, hbl⟩ := hrel
    have HG := Lib.hid hg
    have HOUT := Lib.hid hout
    have HRA := Lib.hid hra
    have HBL := Lib.hid hbl
    clear hg
    by_cases hjm : j < ne
    · obtain ⟨n, hnn⟩ : ∃ n, ea[j]? = some n := ⟨_, List.getElem?_eq_getElem (by rw [← HNE.out]; exact hjm)⟩
      obtain ⟨g2, rfl, hcell, hg2⟩ := (rowIn_below HR2.out hbl).get hnn
      have hn16 : n < 65536 := by
        have h1 := List.mem_of_getElem? hnn
        rw [HEA.out] at h1
        have h2 := (Tup.mem_each.1 h1).1
        rw [← HNV.out] at h2
        exact Nat.lt_of_lt_of_le h2 (pow16 h16).1
      have HNN := Lib.hid hnn
      have HRD := Lib.hid (rowIn_below (rowIn_below HR.out HB2.out) (hbl.mono (by exact Nat.le_refl _)))
      have HCW := Lib.hid (HC.out.stays (.of_below (HB2.out.trans (hbl.mono HB2.out.size))))
      clear hout hra hbl hnn
      go_wp2
      generalize hwz : wr = wz at *
      clear hwz
      go_loopg [16, 15, 65] nd (fun g r x i wi => ∃ (i' : Nat), g = nd - i' ∧ i' ≤ nd ∧ i = .int .i64 i' ∧ x = .int .i64 (divN ws n i') ∧ wi.ownsRow wz.heap.size 3 1 r i' (ints ((Tup.splitN ws n).take i')) ∧ Below wz.heap.size wz wi)
      case atStart => exact ⟨0, rfl, by omega, rfl, rfl, World.ownsRow_nil _ _ _ _, Below.refl _ _⟩
      case round =>
        obtain ⟨i, hg, hi, rfl, rfl, hrow, hbi⟩ := hrel
        have HG2 := Lib.hid hg
        have HROW := Lib.hid hrow
        have HBI := Lib.hid hbi
        clear hg
        by_cases hin : i < nd
        · obtain ⟨d, hdd⟩ : ∃ d, doms[i]? = some d := ⟨_, List.getElem?_eq_getElem (by rw [← HND.out]; exact hin)⟩
          obtain ⟨g3, rfl, hcd, hg3⟩ := (rowIn_below HRD.out hbi).get hdd
          have hdn := HLT.out d (List.mem_of_getElem? hdd)
          have hcw := HCW.out.stays (.of_below hbi)
          have cc2 : wr.cell? ⟨c, 2, none⟩ = some (.slice (some ⟨K.ab, 0, none⟩) K.n K.acap) := hcw.code.cell_of rfl
          have ccd : wr.cell? ⟨K.ab, d, none⟩ = some (.slice (K.rp d) (K.at_ d).length (K.rc d)) := hcw.at_cell hdn
          have hwid := HOK.out.width d hdn
          have hfew := HOK.out.few
          have hx16 : divN ws n i < 65536 := Nat.lt_of_le_of_lt (divN_le ws n i) hn16
          have hwi : ws[i]? = some (K.at_ d).length := by rw [HWS.out, List.getElem?_map, hdd]; rfl
          have hsg := splitN_get ws n i _ hwi
          have hds : divN ws n (i + 1) = divN ws n i / 2 ^ (K.at_ d).length := by
            show divN ws n i / 2 ^ ws.getD i 0 = _
            rw [show ws.getD i 0 = (K.at_ d).length by simp [List.getD, hwi]]
          have HDS := Lib.hid hds
          have HSG := Lib.hid hsg
          obtain ⟨x, hx⟩ : ∃ x, x = divN ws n i := ⟨_, rfl⟩
          rw [← hx] at hx16 ⊢
          have HX := Lib.hid hx
          obtain ⟨wd, hwd⟩ : ∃ x, x = (K.at_ d).length := ⟨_, rfl⟩
          rw [← hwd] at hwid ccd
          have HWD := Lib.hid hwd
          obtain ⟨y, hy⟩ : ∃ y, y = x % 2 ^ wd := ⟨_, rfl⟩
          have hand : bits .and .i64 (x : Int) (wrap64 (wrap64 (2 ^ wd) - 1)) = (y : Int) := by rw [hy]; exact and_mask (by omega) (by omega)
          have HY := Lib.hid hy
          clear hdd hcw hwi hsg hds hx hwd hy
          go_wp2_with (at_builtin; refine wpList_append_own_at _ rfl _ _ 34 rfl wz.heap.size 3 i0 (.int .i64 0) 1 8 Tryz.underlying34 hi0 hz0 hz1 hz2 rfl (by decide) _ _ _ rfl (hrow.alloc _) ⟨wr.heap.size, 0, none⟩ 1 1 [.int .i64 (y : Int)] rfl rfl ?c1 ?c2 ?c3 ?c4 ?c5 ?_)
          case c1 => exact cells_new wr [.int .i64 (y : Int)] 3
          case c2 => intro u hu; simp at hu; subst hu; rfl
          case c3 => unfold maxLen; first | omega | (simp; omega)
          case c4 => first | omega | (simp; omega)
          case c5 => have := hbi.size; first | omega | (simp; omega)
          intro v5 x5 o5 g5 nn5 aa5
          have bb5 : Below wz.heap.size wz x5 := (hbi.alloc hbi.size (.cells #[.int .i64 (y : Int)] 3)).grown g5 (by have := hbi.size; simp; omega) (fun g hg => by obtain ⟨_, _, _, hh⟩ := own_form hrow; exact (hh g hg).1)
          have HB5 := Lib.hid bb5
          have HO5 := Lib.hid o5
          clear o5 bb5 aa5 nn5 g5 hrow
          go_wp2
          go_roundg (nd - (i + 1))
          case measure => rw [HG2.out]; omega
          case rel =>
            refine ⟨i + 1, rfl, by omega, by go_num, ?_, ?_, HB5.out⟩
            · rw [HDS.out, ← HX.out, ← HWD.out]; push_cast; rfl
            · have h9 := HO5.out
              have h8 : (Tup.splitN ws n).take (i + 1) = (Tup.splitN ws n).take i ++ [y] := by
                rw [List.take_add_one, HSG.out, ← HX.out, ← HWD.out, ← HY.out]; rfl
              rw [h8]
              simpa [ints] using h9
        · obtain rfl : i = nd := by omega
          have hwl : ws.length = i := by rw [HWS.out, List.length_map, ← HND.out]
          have hsl : (Tup.splitN ws n).length = i := by rw [Tup.splitN_length, hwl]
          rw [List.take_of_length_le (by omega)] at hrow
          obtain ⟨pq, cq, rfl, hrow2⟩ := rowAbove_own (b0 := w2.heap.size) hrow (HBL.out.size)
          have hown5 := ownsRow_below hbi HOUT.out
          have hbA : Below w2.heap.size w2 wr := HBL.out.trans (hbi.mono HBL.out.size)
          have hra5 : RowsAbove w2.heap.size wr vs ((ea.take j).map (Tup.splitN ws)) := HRA.out.keep fun g cur _ hb => hb.below hbi hb.lt
          have HBA := Lib.hid hbA
          have HRA5 := Lib.hid hra5
          have HROW2 := Lib.hid hrow2
          obtain ⟨lq, hlq⟩ : ∃ z, z = (Tup.splitN ws n).length := ⟨_, rfl⟩
          rw [← hlq]
          have HLQ := Lib.hid hlq
          obtain ⟨i1, hi1, hy0, hy1, hy2⟩ := info_parts info34
          have hszA := hbA.size
          have hne16 : ne ≤ 16384 := by rw [HNE.out, HEC.out]; omega
          clear hrow hbi hwl hsl hrow2 hbA hra5 hlq HROW HBI
          go_wp2_with (at_builtin; refine wpList_append_own_at _ rfl _ _ 33 rfl w2.heap.size 34 i1 (.slice none 0 0) 1 24 Tryz.underlying33 hi1 hy0 hy1 hy2 rfl (by decide) _ _ _ rfl (hown5.alloc _) ⟨wr.heap.size, 0, none⟩ 1 1 [.slice pq lq cq] rfl rfl ?c1 ?c2 ?c3 ?c4 ?c5 ?_)
          case c1 => exact cells_new wr [.slice pq lq cq] 34
          case c2 => intro u hu; simp at hu; subst hu; rfl
          case c3 => unfold maxLen; first | omega | (simp; omega)
          case c4 => first | omega | (simp; omega)
          case c5 => first | omega | (simp; omega)
          intro v7 w7 o7 g7 n7 a7
          have hbA2 : Below wr.heap.size wr (wr.alloc (.cells #[.slice pq lq cq] 34)) := (Below.refl _ _).alloc (Nat.le_refl _) _
          have hg7 : ∀ g, u13.ownBlock = some g → w2.heap.size ≤ g ∧ ∃ cs, Blk wr g 34 cs := fun g hg => by
            obtain ⟨_, _, _, hh⟩ := own_form hown5
            exact hh g hg
          have b7 : Below w2.heap.size w2 w7 := (HBA.out.alloc hszA (.cells #[.slice pq lq cq] 34)).grown g7 (by simp; omega) (fun g hg => (hg7 g hg).1)
          have hkeep : ∀ g cur, w2.heap.size ≤ g → Blk wr g 3 cur → Blk w7 g 3 cur := fun g cur _ hb => (hb.below hbA2 hb.lt).grown g7 (fun e => by
            obtain ⟨_, cs, hb'⟩ := hg7 g e.symm
            exact hb.ne_ hb' (by decide) rfl)
          have hr7 : RowsAbove w2.heap.size w7 (vs ++ [.slice pq lq cq]) ((ea.take (j + 1)).map (Tup.splitN ws)) := by
            have h9 := (HRA5.out.keep hkeep).snoc (cap := cq) (HROW2.out.keep hkeep)
            rw [← HLQ.out] at h9
            rw [List.take_add_one, HNN.out, Option.toList_some, List.map_append]
            exact h9
          have HO7 := Lib.hid o7
          have HB7 := Lib.hid b7
          have HR7 := Lib.hid hr7
          clear o7 b7 g7 n7 a7 hown5 hbA2 hg7 hkeep hr7
          go_wp2
          go_roundg (ne - (j + 1))
          case measure => rw [HG.out]; omega
          case rel => exact ⟨j + 1, _, rfl, by omega, by go_num, HO7.out, HR7.out, HB7.out⟩
    · obtain rfl : j = ne := by omega
      rw [List.take_of_length_le (by rw [← HNE.out]; exact Nat.le_refl _)] at hra
      have hlr : (ea.map (Tup.splitN ws)).length = j := by rw [List.length_map, ← HNE.out]
      have hne16 : j ≤ 16384 := by rw [HNE.out, HEC.out]; omega
      have hwl : ws.length = nd := by rw [HWS.out, List.length_map, ← HND.out]
      have hpm : (ea.map (Tup.splitN ws)).Perm want := by
        have h9 := HPM.out
        unfold Tup.rows0 at h9
        rw [← HWS.out, ← HVL.out, ← HEA.out] at h9
        exact h9
      have hsf := sortF_own (v := u13) (rows := ea.map (Tup.splitN ws)) (by rw [hlr]; exact hout) hra (fun row hrow => by
        obtain ⟨x, _, rfl⟩ := List.mem_map.1 hrow
        rw [Tup.splitN_length, hwl]; omega) (by rw [hlr]; omega) HW.out hpm
      rw [hlr] at hsf
      have HSF := Lib.hid hsf
      have HOF := Lib.hid (own_form hout).choose_spec.choose_spec.2
      clear hout hra hbl hlr hpm hsf
      go_wp2_with fail
      refine HSF.out.mono ?_
      rintro e w9 ⟨rfl, vs', h9, hr9, g9⟩
      obtain ⟨q, cap', rfl, _⟩ := own_form h9
      have hin := rowsIn_own h9 hr9
      have hb9 : Below w.heap.size w w9 := (HB2.out.trans (HBL.out.mono HB2.out.size)).grown g9 (by have := HB2.out.size; have := HBL.out.size; omega) (fun g hg => by have := (HOF.out g hg).1; have := HB2.out.size; omega)
      have HIN := Lib.hid hin
      have HB9 := Lib.hid hb9
      have hwl2 : j = want.length := by rw [HNE.out, HEC.out]
      clear h9 hr9 g9 hin hb9
      go_wp2
      go_ret2
      exact ⟨q, cap', rfl, HIN.out, HB9.out⟩

end Go.Proofs.YtndefnfknhjfkaaGreatDoor
