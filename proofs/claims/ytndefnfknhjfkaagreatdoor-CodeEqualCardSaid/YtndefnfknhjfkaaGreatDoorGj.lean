/- Walks: codes of domains. -/
import Derived.Test.YtndefnfknhjfkaaGreatDoorGi
import Derived.Test.YtndefnfknhjfkaaGreatDoorGd

/- code.New. -/
namespace Go.Proofs.YtndefnfknhjfkaaGreatDoor
open Go.RowKit Go.Maps Go.Proofs.Osier

def flatD (ds : List (ByteArray × Int)) : List Value := ds.flatMap encD

theorem flatD_length (ds : List (ByteArray × Int)) : (flatD ds).length = ds.length * 2 := by
  induction ds with
  | nil => rfl
  | cons d ds ih =>
    have : flatD (d :: ds) = encD d ++ flatD ds := rfl
    rw [this, List.length_append, ih, List.length_cons]
    simp [encD]
    omega

theorem flatD_get : ∀ (ds : List (ByteArray × Int)) (j : Nat) nm sz, ds[j]? = some (nm, sz) → (flatD ds)[j * 2]? = some (.string nm) ∧ (flatD ds)[j * 2 + 1]? = some (.int .i64 sz)
  | [], _, _, _, h => by simp at h
  | d :: ds, 0, nm, sz, h => by
    simp at h
    subst h
    exact ⟨rfl, rfl⟩
  | d :: ds, j + 1, nm, sz, h => by
    have h1 := flatD_get ds j nm sz (by simpa using h)
    have e : flatD (d :: ds) = .string d.1 :: .int .i64 d.2 :: flatD ds := rfl
    rw [e, show (j + 1) * 2 = j * 2 + 1 + 1 by omega]
    exact h1

theorem flatD_inv : ∀ (ds : List (ByteArray × Int)) (q : Nat) (u : Value), (flatD ds)[q]? = some u → ∃ j nm sz, ds[j]? = some (nm, sz) ∧ ((q = j * 2 ∧ u = .string nm) ∨ (q = j * 2 + 1 ∧ u = .int .i64 sz))
  | [], q, u, h => by simp [flatD] at h
  | d :: ds, q, u, h => by
    have e : flatD (d :: ds) = .string d.1 :: .int .i64 d.2 :: flatD ds := rfl
    rw [e] at h
    match q, h with
    | 0, h => simp at h; exact ⟨0, d.1, d.2, rfl, .inl ⟨rfl, h.symm⟩⟩
    | 1, h => simp at h; exact ⟨0, d.1, d.2, rfl, .inr ⟨rfl, h.symm⟩⟩
    | q + 2, h =>
      simp only [List.getElem?_cons_succ] at h
      obtain ⟨j, nm, sz, h1, h2⟩ := flatD_inv ds q u h
      refine ⟨j + 1, nm, sz, by simpa using h1, ?_⟩
      rcases h2 with ⟨h2, h3⟩ | ⟨h2, h3⟩
      · exact .inl ⟨by omega, h3⟩
      · exact .inr ⟨by omega, h3⟩

theorem flatD_cells {w : World} {b off : Nat} {ds : List (ByteArray × Int)} (hc : ∀ j nm sz, ds[j]? = some (nm, sz) → w.cell? ⟨b, off + j * 2, none⟩ = some (.string nm) ∧ w.cell? ⟨b, off + j * 2 + 1, none⟩ = some (.int .i64 sz)) :
    ∀ q u, (flatD ds)[q]? = some u → w.cell? ((⟨b, off, none⟩ : Addr).add q) = some u := by
  intro q u h
  have hadd : (⟨b, off, none⟩ : Addr).add q = ⟨b, off + q, none⟩ := by unfold Addr.add; split <;> simp_all
  rw [hadd]
  obtain ⟨j, nm, sz, h1, h2⟩ := flatD_inv ds q u h
  obtain ⟨a, c⟩ := hc j nm sz h1
  rcases h2 with ⟨rfl, rfl⟩ | ⟨rfl, rfl⟩
  · exact a
  · exact c

theorem info31 : (Tryz.prog.info? 31).map (fun i => (i.zero, i.size, i.bytes)) = some (some (.agg #[.string ByteArray.empty, .int .i64 0]), 2, 24) := by kernel_rfl
theorem eq_nil24 (a : Addr) (m cap : Nat) (w : World) : (binOp .eql 24 (.slice (some a) m cap) (.slice none 0 0)).run Tryz.prog w = .ok (.bool false) w := by kernel_rfl
theorem emptyRowD (w : World) : (w.alloc (.cells #[] 31)).ownsRow w.heap.size 31 2 (.slice (some ⟨w.heap.size, 0, none⟩) 0 0) 0 [] :=
  ⟨rfl, .inr ⟨w.heap.size, 0, #[], rfl, Nat.le_refl _, Blk.new w 31 #[], Nat.le_refl _, by unfold maxLen; omega, rfl, rfl⟩⟩

set_option maxRecDepth 100000 in
theorem cloneD_any {w : World} {b off cap : Nat} {ds : List (ByteArray × Int)} (hc : ∀ j nm sz, ds[j]? = some (nm, sz) → w.cell? ⟨b, off + j * 2, none⟩ = some (.string nm) ∧ w.cell? ⟨b, off + j * 2 + 1, none⟩ = some (.int .i64 sz)) (hb : b < w.heap.size) (hlen : ds.length ≤ 1000) (hne : 0 < ds.length) :
    Calls Tryz.prog 70 #[.slice (some ⟨b, off, none⟩) ds.length cap] w fun e w' => ∃ g cp cur, e = .returned (.slice (some ⟨g, 0, none⟩) ds.length cp) ∧ Blk w' g 31 cur ∧ (∀ j nm sz, ds[j]? = some (nm, sz) → cur[j * 2]? = some (.string nm) ∧ cur[j * 2 + 1]? = some (.int .i64 sz)) ∧ Below w.heap.size w w' := by
  have hB1 : Below w.heap.size w (w.alloc (.cells #[] 31)) := (Below.refl _ _).alloc (Nat.le_refl _) _
  have hcells := flatD_cells (w := w.alloc (.cells #[] 31)) (b := b) (off := off) (ds := ds) (fun j nm sz hj => ⟨(hB1.cell (p := ⟨b, off + j * 2, none⟩) hb).trans (hc j nm sz hj).1, (hB1.cell (p := ⟨b, off + j * 2 + 1, none⟩) hb).trans (hc j nm sz hj).2⟩)
  have hown := emptyRowD w
  obtain ⟨i0, hi0, hz0, hz1, hz2⟩ := info_parts info31
  obtain ⟨m, hm⟩ : ∃ m, m = ds.length := ⟨_, rfl⟩
  have HM := Lib.hid hm
  have HB1 := Lib.hid hB1
  rw [← hm] at hlen hne ⊢
  clear hm hc hB1
  have heq := eq_nil24 ⟨b, off, none⟩ m cap w
  go_enter Tryz.func70, Tryz.ntmps70
  go_wp2_with (at_builtin; refine wpList_append_own_at _ rfl _ _ 24 rfl w.heap.size 31 i0 (.agg #[.string ByteArray.empty, .int .i64 0]) 2 24 Tryz.underlying24 hi0 hz0 hz1 hz2 rfl (by decide) _ _ _ rfl hown ⟨b, off, none⟩ m cap (flatD ds) rfl ?c0 hcells ?c2 ?c3 ?c4 ?c5 ?_)
  case c0 => rw [flatD_length, HM.out]
  case c2 =>
    intro u hu
    obtain ⟨q, hq⟩ := List.getElem?_of_mem hu
    obtain ⟨j, nm, sz, _, h⟩ := flatD_inv ds q u hq
    rcases h with ⟨_, rfl⟩ | ⟨_, rfl⟩ <;> rfl
  case c3 => unfold maxLen; omega
  case c4 => omega
  case c5 => simp
  intro v' w5 hown5 hgrow5 hnil5 hat5
  have HO := Lib.hid hown5
  have HB5 : Hid (Below w.heap.size w w5) := HB1.out.grown hgrow5 HB1.out.size (fun k e => by simp [Value.ownBlock] at e; omega)
  clear hown5 hgrow5 hnil5 hat5 hown hcells hz0 hz1 hz2 hi0
  have ho := HO.out

  rcases ho.2 with ⟨rfl, hz⟩ | ⟨g, cp, cur, rfl, hge, hgb, r1, r2, r3, r4⟩
  · omega
  · have HGB := Lib.hid hgb
    have HR4 := Lib.hid r4
    clear ho hgb r4
    go_wp2
    go_ret
    refine ⟨g, cp, cur, rfl, HGB.out, fun j nm sz hj => ?_, HB5.out⟩
    obtain ⟨h1, h2⟩ := flatD_get ds j nm sz hj
    have hjl : j < ds.length := (List.getElem?_eq_some_iff.1 hj).1
    have h3 := HR4.out
    have ha := congrArg (fun l => l[j * 2]?) h3
    have hb' := congrArg (fun l => l[j * 2 + 1]?) h3
    try simp only at ha hb'
    rw [List.getElem?_take_of_lt (by rw [HM.out]; omega), Array.getElem?_toList, h1] at ha
    rw [List.getElem?_take_of_lt (by rw [HM.out]; omega), Array.getElem?_toList, h2] at hb'
    exact ⟨ha, hb'⟩

end Go.Proofs.YtndefnfknhjfkaaGreatDoor

/- code.New. -/
namespace Go.Proofs.YtndefnfknhjfkaaGreatDoor
open Go.RowKit Go.Maps Go.Proofs.Osier

theorem range_wds (ds : List (ByteArray × Int)) : (List.range ds.length).map (wdF ds) = wds ds := by
  apply List.ext_getElem?
  intro j
  by_cases hj : j < ds.length
  · simp [wdF, wds, hj]
  · simp [wds, hj]

theorem wdF_of {ds : List (ByteArray × Int)} {d : Nat} {nm : ByteArray} {sz : Int} (h : ds[d]? = some (nm, sz)) : wdF ds d = widthN sz.toNat := by
  simp [wdF, wds, List.getD, h]

theorem place_len {ds : List (ByteArray × Int)} (hm : mayD ds) {gs : List (List ByteArray)} {G : List (List Nat)} (hp : Lay.parse (namesD ds) gs = some G) (hl : G.flatten.length = ds.length) :
    Lay.Placed (wdF ds) ds.length G ∧ ∀ d, d < ds.length → ((Lay.place (wdF ds) G).1 d).length = wdF ds d := by
  have hps := Lay.parse_sound hp
  have hlt : ∀ k ∈ G.flatten, k < ds.length := fun k hk => by simpa [namesD] using hps.2 k hk
  have hpl := Lay.placed_all (w := wdF ds) (n := ds.length) (fun q => Nat.le_trans (wdF_le hm.1 q) (by omega)) G hps.1 hlt
  refine ⟨hpl, fun d hd => ?_⟩
  rw [hpl.length, if_pos (Lay.all_in hps.1 hlt (by omega) d hd)]

theorem place_next {ds : List (ByteArray × Int)} (hm : mayD ds) {gs : List (List ByteArray)} {G : List (List Nat)} (hp : Lay.parse (namesD ds) gs = some G) (hl : G.flatten.length = ds.length) : (Lay.place (wdF ds) G).2 = (wds ds).sum := by
  obtain ⟨h1, h2⟩ := place_len hm hp hl
  rw [h1.total, ← range_wds]
  unfold Lay.total
  congr 1
  apply List.map_congr_left
  intro j hj
  exact h2 j (List.mem_range.1 hj)

theorem cdOk_place {ds : List (ByteArray × Int)} (hm : mayD ds) {gs : List (List ByteArray)} {G : List (List Nat)} (hp : Lay.parse (namesD ds) gs = some G) (hl : G.flatten.length = ds.length) (h16 : ∀ k, wdF ds k ≤ 16) {K : Cd} {vars : Nat} (hn : K.n = ds.length)
    (hat : K.at_ = fun k => ((Lay.place (wdF ds) G).1 k).reverse) (hsz : ∀ d nm sz, ds[d]? = some (nm, sz) → K.size d = sz.toNat) (hv : (wds ds).sum ≤ vars) : CdOk K vars := by
  obtain ⟨h1, h2⟩ := place_len hm hp hl
  have h3 := place_next hm hp hl
  refine ⟨fun d hd v hv' => ?_, fun d hd => ?_, fun d e hd he hde v hv' hv2 => ?_, fun d hd => ?_, fun d hd => ?_, by rw [hn]; exact hm.2.2⟩
  · rw [hat] at hv'
    simp only [List.mem_reverse] at hv'
    have := h1.inv.lt d v hv'
    omega
  · rw [hat]
    exact List.pairwise_reverse.2 ((h1.inv.nodup d).imp Ne.symm)
  · rw [hat] at hv' hv2
    simp only [List.mem_reverse] at hv' hv2
    exact h1.inv.apart d e hde v hv' hv2
  · rw [hat]
    simp only [List.length_reverse]
    rw [h2 d (by omega)]
    exact h16 d
  · rw [hat]
    simp only [List.length_reverse]
    rw [h2 d (by omega)]
    obtain ⟨⟨nm, sz⟩, hd'⟩ : ∃ x, ds[d]? = some x := ⟨_, List.getElem?_eq_getElem (by omega)⟩
    rw [hsz d nm sz hd', wdF_of hd']
    have hok := hm.1 d _ (by omega) hd'
    simp only [okD, Bool.and_eq_true, decide_eq_true_eq] at hok
    have := lt_bl (sz.toNat - 1)
    unfold widthN
    omega

def slP : Option Value → Option Addr
  | some (.slice p _ _) => p
  | _ => none
def slC : Option Value → Nat
  | some (.slice _ _ c) => c
  | _ => 0
def szD (ds : List (ByteArray × Int)) (d : Nat) : Nat := (ds[d]?.map fun x => x.2.toNat).getD 0

/-- What New answers and leaves. -/
def NewP (h : Key → Nat) (q op st : Nat) (F : List Nat) (s : St) (ds : List (ByteArray × Int)) (at_ : Nat → List Nat) (w : World) (e : Ending) (w' : World) : Prop :=
  ∃ (c : Nat) (K : Cd), e = .returned (.tuple #[.pointer (some ⟨c, 0, none⟩), .int .i64 0]) ∧ CodeAt w' c K ∧ K.q = q ∧ K.op = op ∧ K.st = st ∧ K.n = ds.length ∧ K.at_ = at_ ∧ K.size = szD ds ∧ Opr h w' op st F s ∧ Below w.heap.size w w'

set_option maxHeartbeats 2000000 in
set_option maxRecDepth 100000 in
theorem New_good {h : Key → Nat} {w : World} {q op st : Nat} {F : List Nat} {s : St} (t : Opr h w op st F s) (hq : Blk w q 101 #[.pointer (some ⟨op, 0, none⟩), .pointer (some ⟨st, 0, none⟩)]) {b off : Nat} {ds : List (ByteArray × Int)}
    (hd : ∀ j nm sz, ds[j]? = some (nm, sz) → w.cell? ⟨b, off + j * 2, none⟩ = some (.string nm) ∧ w.cell? ⟨b, off + j * 2 + 1, none⟩ = some (.int .i64 sz)) (hb : b < w.heap.size) (hne : 0 < ds.length) (hnm : ∀ d ∈ ds, d.1.size ≤ 1000000) (cap : Nat) {order : ByteArray} (ho : order.size ≤ 1000000) {x : UInt8} {xs : List UInt8} (hox : order.toList = x :: xs)
    {mx : Int} (hml : w.cell? ⟨0, 0, none⟩ = some (.int .i64 mx)) (hw0 : 0 < w.heap.size) (hm : mayD ds) (hv : (wds ds).sum ≤ s.vars) {G : List (List Nat)} (hp : Lay.parse (namesD ds) (groupsOf order) = some G) (hl : G.flatten.length = ds.length) :
    Calls Tryz.prog 33 #[.pointer (some ⟨q, 0, none⟩), .slice (some ⟨b, off, none⟩) ds.length cap, .string order] w (NewP h q op st F s ds (fun k => ((Lay.place (wdF ds) G).1 k).reverse) w) := by
  have hdi : DomsIn w (some ⟨b, off, none⟩) ds := .inr ⟨b, off, rfl, hb, hd⟩
  have HQ := Lib.hid (fun (W : World) (hB : Below w.heap.size w W) => quan_ops (hq.below hB hq.lt))
  have HCK := Lib.hid (Check_good hdi hnm cap hm)
  have HBI := Lib.hid (fun (W : World) (hB : Below w.heap.size w W) => Bits_good (hdi.below hB) hnm cap hm)
  have HPL := Lib.hid (fun (W : World) (hB : Below w.heap.size w W) => Place_any (hdi.below hB) hnm cap ho hox ((hB.cell (p := ⟨0, 0, none⟩) hw0).trans hml) (Nat.lt_of_lt_of_le hw0 hB.size) hm)
  have hm3 := hm.2.2
  have HCL := Lib.hid (fun (W : World) (hB : Below w.heap.size w W) => cloneD_any (w := W) (b := b) (off := off) (cap := cap) (ds := ds) (fun j nm sz hj => ⟨(hB.cell (p := ⟨b, off + j * 2, none⟩) hb).trans (hd j nm sz hj).1, (hB.cell (p := ⟨b, off + j * 2 + 1, none⟩) hb).trans (hd j nm sz hj).2⟩) (Nat.lt_of_lt_of_le hb hB.size) (by omega) hne)
  obtain ⟨F0, tS, hF0, x1, x2, x3, x4, x5, hbo⟩ := t.sto
  have HS := Lib.hid (fun (W : World) (hB : Below w.heap.size w W) => ops_store (hbo.below hB hbo.lt))
  have HVA := Lib.hid (fun (W : World) (hB : Below w.heap.size w W) => vars_any (tS.of_heap fun k hk => hB.block k (tS.lt k hk)))
  have HQB := Lib.hid hq
  have HT := Lib.hid t
  have HP := Lib.hid hp
  have HL := Lib.hid hl
  have hgt : ¬ s.vars < (wds ds).sum := by omega
  obtain ⟨sm, hsm⟩ : ∃ z, z = (wds ds).sum := ⟨_, rfl⟩
  rw [← hsm] at hgt HBI
  obtain ⟨n, hn⟩ : ∃ z, z = ds.length := ⟨_, rfl⟩
  rw [← hn] at HCK HBI HPL HCL ⊢
  have HN := Lib.hid hn
  have tgt : decide ((s.vars : Int) < (sm : Int)) = false := by simp; omega
  have HMM := Lib.hid hm
  clear t hq hd hnm hml hm hv hp hl hdi hm3 tS hbo hsm hn hne hb
  go_enter Tryz.func33, Tryz.ntmps33
  go_wp2_with (go_at_call 22; refine (HQ.out w (Below.refl _ _)).mono ?_; rintro e w' ⟨rfl, rfl⟩)
  refine HCK.out.mono ?_
  rintro e w1 ⟨rfl, hb1⟩
  have HB1 := Lib.hid hb1
  clear hb1
  go_wp2_with fail
  refine (HBI.out w1 HB1.out).mono ?_
  rintro e w2 ⟨rfl, hb2⟩
  have HB2 : Hid (Below w.heap.size w w2) := HB1.out.trans (hb2.mono HB1.out.size)
  clear hb2
  go_wp2_with (first | (go_at_call 22; refine (HQ.out w2 HB2.out).mono ?_; rintro e w' ⟨rfl, rfl⟩) | (go_at_call 50; refine (HS.out w2 HB2.out).mono ?_; rintro e w' ⟨rfl, rfl⟩) | (go_at_call 73; refine (HVA.out w2 HB2.out).mono ?_; rintro e w' ⟨rfl, rfl⟩))
  refine (HPL.out w2 HB2.out).mono ?_
  rintro e w3 hP
  rcases hP with ⟨G', ob, B0, hG', _, rfl, hout, hb3⟩ | ⟨hbad, _⟩
  · rw [HP.out] at hG'
    injection hG' with hG'
    subst hG'
    rw [← HN.out] at hout ⊢
    have hB3 : Below w.heap.size w w3 := HB2.out.trans (hb3.mono HB2.out.size)
    have HOUT := Lib.hid hout
    have HB3 := Lib.hid hB3
    clear hout hb3 hB3
    go_wp2_with fail
    refine (HCL.out w3 HB3.out).mono ?_
    rintro e w4 ⟨g, cp, cur, rfl, hg, hcur, hb4⟩
    have HG := Lib.hid hg
    have HCUR := Lib.hid hcur
    have HB4 := Lib.hid hb4
    clear hg hcur hb4
    go_wp2
    go_ret2
    have hB4 : Below w.heap.size w w4 := HB3.out.trans (HB4.out.mono HB3.out.size)
    obtain ⟨W5, hW5⟩ : ∃ W, W = w4.alloc (.cells #[.pointer (some ⟨q, 0, none⟩), .slice (some ⟨g, 0, none⟩) n cp, .slice (some ⟨ob, 0, none⟩) n n] 63) := ⟨_, rfl⟩
    have hbA : Below w4.heap.size w4 W5 := by rw [hW5]; exact (Below.refl _ _).alloc (Nat.le_refl _) _
    have hB5 : Below w.heap.size w W5 := hB4.trans (hbA.mono hB4.size)
    have hout5 := (HOUT.out.below HB4.out).below hbA
    rw [← hW5]
    obtain ⟨cur2, hb2, hk2, _⟩ := hout5
    refine ⟨w4.heap.size, ⟨q, op, st, g, cp, ob, n, n, fun d => (cur[d * 2]?).getD undef, szD ds, fun k => ((Lay.place (wdF ds) G).1 k).reverse, fun d => slP cur2[d]?, fun d => slC cur2[d]?⟩, rfl, ⟨?_, ?_, ⟨cur, HG.out.below hbA HG.out.lt, fun d hd => ?_⟩, ⟨cur2, hb2, fun d hd => ?_⟩, fun d hd => ?_⟩, rfl, rfl, rfl, HN.out, rfl, rfl, HT.out.below hB5, hB5⟩
    · rw [hW5]; exact Blk.new w4 63 _
    · exact HQB.out.below hB5 HQB.out.lt
    · simp only at hd
      obtain ⟨⟨nm, sz⟩, hd'⟩ : ∃ x, ds[d]? = some x := ⟨_, List.getElem?_eq_getElem (by rw [← HN.out]; exact hd)⟩
      obtain ⟨a1, a2⟩ := HCUR.out d nm sz hd'
      have hok := HMM.out.1 d _ (by rw [← HN.out]; exact hd) hd'
      simp only [okD, Bool.and_eq_true, decide_eq_true_eq] at hok
      refine ⟨by show cur[d * 2]? = some ((cur[d * 2]?).getD undef); rw [a1]; rfl, ?_⟩
      rw [a2]
      have e : ((szD ds d : Nat) : Int) = sz := by
        simp [szD, hd']
        omega
      simp only [e]
    · simp only at hd ⊢
      obtain ⟨v, a1, a2, _⟩ := hk2 d hd
      obtain ⟨pv, cv, rfl, _⟩ := own_form a2
      rw [a1]
      rfl
    · simp only at hd ⊢
      obtain ⟨v, a1, a2, _⟩ := hk2 d hd
      obtain ⟨pv, cv, rfl, hr, _⟩ := rowIn_own (l := ((Lay.place (wdF ds) G).1 d).reverse) a2
      rw [a1]
      exact hr
  · exact absurd HL.out (hbad G HP.out)

end Go.Proofs.YtndefnfknhjfkaaGreatDoor

/- begun: domains in a new store. -/
namespace Go.Proofs.YtndefnfknhjfkaaGreatDoor
open Go.RowKit Go.Maps Go.Proofs.Osier

/-- What begun answers and leaves. -/
def BegunP (h : Key → Nat) (vars : Nat) (ds : List (ByteArray × Int)) (at_ : Nat → List Nat) (w : World) (e : Ending) (w' : World) : Prop :=
  ∃ (c : Nat) (K : Cd) (F : List Nat), e = .returned (.tuple #[.pointer (some ⟨c, 0, none⟩), .int .i64 0]) ∧ CodeAt w' c K ∧ K.n = ds.length ∧ K.at_ = at_ ∧ K.size = szD ds ∧ Opr h w' K.op K.st F (newSt vars 16384) ∧ (∀ x ∈ F, w.heap.size ≤ x) ∧ Below w.heap.size w w'

set_option maxHeartbeats 1000000 in
set_option maxRecDepth 100000 in
theorem begun_good (h : Key → Nat) {w : World} {vars : Nat} (hv2 : vars ≤ 256) {b off : Nat} {ds : List (ByteArray × Int)}
    (hd : ∀ j nm sz, ds[j]? = some (nm, sz) → w.cell? ⟨b, off + j * 2, none⟩ = some (.string nm) ∧ w.cell? ⟨b, off + j * 2 + 1, none⟩ = some (.int .i64 sz)) (hb : b < w.heap.size) (hne : 0 < ds.length) (hnm : ∀ d ∈ ds, d.1.size ≤ 1000000) (cap : Nat) {order : ByteArray} (ho : order.size ≤ 1000000) {x : UInt8} {xs : List UInt8} (hox : order.toList = x :: xs)
    {mx : Int} (hml : w.cell? ⟨0, 0, none⟩ = some (.int .i64 mx)) (hw0 : 0 < w.heap.size) (hm : mayD ds) (hv : (wds ds).sum ≤ vars) {G : List (List Nat)} (hp : Lay.parse (namesD ds) (groupsOf order) = some G) (hl : G.flatten.length = ds.length) :
    Calls Tryz.prog 29 #[.int .i64 vars, .slice (some ⟨b, off, none⟩) ds.length cap, .string order] w (BegunP h vars ds (fun k => ((Lay.place (wdF ds) G).1 k).reverse) w) := by
  have HNEW : Hid (∀ (W : World) (q op st : Nat) (F : List Nat), Below w.heap.size w W → Opr h W op st F (newSt vars 16384) → Blk W q 101 #[.pointer (some ⟨op, 0, none⟩), .pointer (some ⟨st, 0, none⟩)] → Calls Tryz.prog 33 #[.pointer (some ⟨q, 0, none⟩), .slice (some ⟨b, off, none⟩) ds.length cap, .string order] W (NewP h q op st F (newSt vars 16384) ds (fun k => ((Lay.place (wdF ds) G).1 k).reverse) W)) :=
    fun W q op st F hB t hq => New_good t hq (fun j nm sz hj => ⟨(hB.cell (p := ⟨b, off + j * 2, none⟩) hb).trans (hd j nm sz hj).1, (hB.cell (p := ⟨b, off + j * 2 + 1, none⟩) hb).trans (hd j nm sz hj).2⟩) (Nat.lt_of_lt_of_le hb hB.size) hne hnm cap ho hox ((hB.cell (p := ⟨0, 0, none⟩) hw0).trans hml) (Nat.lt_of_lt_of_le hw0 hB.size) hm hv hp hl
  have HN := Lib.hid (node_new (h := h) (w := w) hv2 (show 2 ≤ 16384 by omega) (by omega))
  obtain ⟨n, hn⟩ : ∃ z, z = ds.length := ⟨_, rfl⟩
  have HNN := Lib.hid hn
  rw [← hn] at HNEW ⊢
  clear hd hb hne hnm hml hw0 hm hv hp hl hn
  go_enter Tryz.func29, Tryz.ntmps29
  go_wp2_with fail
  refine HN.out.mono ?_
  rintro e w1 ⟨st, F, rfl, hs, hb1, hF⟩
  have HF := Lib.hid hF
  clear hF
  have HO := Lib.hid (oper_new hs)
  have HB1 := Lib.hid hb1
  clear hs hb1
  go_wp2_with fail
  refine HO.out.mono ?_
  rintro e w2 ⟨op, rfl, ht, hb2, hop⟩
  have HOP := Lib.hid hop
  clear hop
  have HT := Lib.hid ht
  have HQ := Lib.hid (quan_new ht)
  have HB2 : Hid (Below w.heap.size w w2) := HB1.out.trans (hb2.mono HB1.out.size)
  clear ht hb2
  go_wp2_with fail
  refine HQ.out.mono ?_
  rintro e w3 ⟨rfl, rfl⟩
  obtain ⟨W3, hW3⟩ : ∃ W, W = w2.alloc (.cells #[.pointer (some ⟨op, 0, none⟩), .pointer (some ⟨st, 0, none⟩)] 101) := ⟨_, rfl⟩
  obtain ⟨q, hq⟩ : ∃ z, z = w2.heap.size := ⟨_, rfl⟩
  have hbA : Below w2.heap.size w2 W3 := by rw [hW3]; exact (Below.refl _ _).alloc (Nat.le_refl _) _
  have hblk : Blk W3 q 101 #[.pointer (some ⟨op, 0, none⟩), .pointer (some ⟨st, 0, none⟩)] := by rw [hW3, hq]; exact Blk.new w2 101 _
  have hB3 : Below w.heap.size w W3 := HB2.out.trans (hbA.mono HB2.out.size)
  have HC := Lib.hid (HNEW.out W3 q op st _ hB3 (HT.out.below hbA) hblk)
  have HB3 := Lib.hid hB3
  rw [← hW3, ← hq]
  clear hW3 hq hbA hblk hB3
  go_wp2_with fail
  refine HC.out.mono ?_
  rintro e w4 ⟨c, K, rfl, hca, k1, k2, k3, k4, k5, k6, ht4, hb4⟩
  have HCA := Lib.hid hca
  have HK := Lib.hid (And.intro k1 (And.intro k2 (And.intro k3 (And.intro k4 (And.intro k5 k6)))))
  have HT4 := Lib.hid ht4
  have HB4 := Lib.hid hb4
  clear hca k1 k2 k3 k4 k5 k6 ht4 hb4
  go_wp2
  go_ret2
  obtain ⟨k1, k2, k3, k4, k5, k6⟩ := HK.out
  exact ⟨c, K, _, rfl, HCA.out, by rw [k4], k5, k6, by rw [k2, k3]; exact HT4.out, fun x hx => by
    rcases List.mem_cons.1 hx with rfl | hx
    · exact Nat.le_trans HB1.out.size HOP.out
    · exact HF.out x hx, HB3.out.trans (HB4.out.mono HB3.out.size)⟩

/-! ### three -/
def dA : ByteArray := ⟨#[65]⟩
def dB : ByteArray := ⟨#[66]⟩
def dC : ByteArray := ⟨#[67]⟩
def ds3 (n m : Nat) : List (ByteArray × Int) := [(dA, (n : Int)), (dB, (n : Int)), (dC, (m : Int))]
def orders6 : List ByteArray := [⟨#[65, 95, 66, 95, 67]⟩, ⟨#[65, 42, 66, 42, 67]⟩, ⟨#[67, 95, 65, 42, 66]⟩, ⟨#[66, 42, 67, 95, 65]⟩, ⟨#[67, 42, 66, 42, 65]⟩, ⟨#[67, 95, 66, 95, 65]⟩]

theorem parse6 : orders6.all (fun o => (Lay.parse [dA, dB, dC] (groupsOf o)).map (fun G => G.flatten.length) == some 3) = true := by kernel_rfl
theorem names3 : (nameB dA && nameB dB && nameB dC) = true := by kernel_rfl

theorem width4 {z : Nat} (h : z ≤ 16) : widthN z ≤ 4 := by
  refine bl_le 4 (z - 1) ?_
  have : (2 : Nat) ^ 4 = 16 := by decide
  omega

theorem may3 {n m : Nat} (h1 : 1 ≤ n) (h2 : n ≤ 16) (h3 : 1 ≤ m) (h4 : m ≤ 16) : mayD (ds3 n m) ∧ (wds (ds3 n m)).sum ≤ 12 := by
  have hn := names3
  simp only [Bool.and_eq_true] at hn
  obtain ⟨⟨nA, nB⟩, nC⟩ := hn
  have w1 := width4 h2
  have w2 := width4 h4
  have hs : (wds (ds3 n m)).sum ≤ 12 := by
    simp [wds, ds3]
    omega
  refine ⟨⟨fun i d hi hd => ?_, by omega, by simp [ds3]⟩, hs⟩
  match i, hd with
  | 0, hd =>
    simp [ds3] at hd; subst hd
    simp [okD, seenD, nA]
    omega
  | 1, hd =>
    simp [ds3] at hd; subst hd
    have : ¬ dB.data.toList = dA.data.toList := by decide
    simp [okD, seenD, nB, ds3, this]
    omega
  | 2, hd =>
    simp [ds3] at hd; subst hd
    have t1 : ¬ dC.data.toList = dA.data.toList := by decide
    have t2 : ¬ dC.data.toList = dB.data.toList := by decide
    simp [okD, seenD, nC, ds3, t1, t2]
    omega
  | i + 3, hd => simp [ds3] at hd

theorem and_le (s : Int) (k : Nat) (hk : k < 9223372036854775808) : ∃ z : Nat, z ≤ k ∧ bits .and .i64 s (k : Int) = (z : Int) := by
  refine ⟨(BitVec.ofInt 64 s &&& BitVec.ofInt 64 (k : Int)).toNat, ?_, ?_⟩
  · rw [BitVec.toNat_and, ofInt_i64 k hk]
    exact Nat.and_le_right
  · have hx : (BitVec.ofInt 64 s &&& BitVec.ofInt 64 (k : Int)).toNat ≤ k := by
      rw [BitVec.toNat_and, ofInt_i64 k hk]
      exact Nat.and_le_right
    show IntKind.i64.wrap ((BitVec.ofInt 64 s &&& BitVec.ofInt 64 (k : Int)).toNat : Int) = _
    rw [IntKind.wrap_i64]
    omega

theorem wd3_le {n m : Nat} (h2 : n ≤ 16) (h4 : m ≤ 16) (k : Nat) : wdF (ds3 n m) k ≤ 4 := by
  have w1 := width4 h2
  have w2 := width4 h4
  match k with
  | 0 => simpa [wdF, wds, ds3] using w1
  | 1 => simpa [wdF, wds, ds3] using w1
  | 2 => simpa [wdF, wds, ds3] using w2
  | k + 3 => simp [wdF, wds, ds3]

/-- What three answers and leaves. -/
def ThreeP (h : Key → Nat) (n m : Nat) (w : World) (e : Ending) (w' : World) : Prop :=
  ∃ (c b : Nat) (K : Cd) (F : List Nat), e = .returned (.tuple #[.pointer (some ⟨c, 0, none⟩), .slice (some ⟨b, 0, none⟩) 3 3, .bool true]) ∧ CodeAt w' c K ∧ K.n = 3 ∧ K.size = szD (ds3 n m) ∧ CdOk K 12 ∧ (∀ d, d < 3 → (K.at_ d).length = wdF (ds3 n m) d) ∧
    Opr h w' K.op K.st F (newSt 12 16384) ∧ (∀ x ∈ F, w.heap.size ≤ x) ∧ Blk w' b 31 #[.string dA, .int .i64 n, .string dB, .int .i64 n, .string dC, .int .i64 m] ∧ Below w.heap.size w w'

theorem ds3_cells {w : World} {b n m : Nat} (hb : Blk w b 31 #[.string dA, .int .i64 n, .string dB, .int .i64 n, .string dC, .int .i64 m]) :
    ∀ j nm sz, (ds3 n m)[j]? = some (nm, sz) → w.cell? ⟨b, 0 + j * 2, none⟩ = some (.string nm) ∧ w.cell? ⟨b, 0 + j * 2 + 1, none⟩ = some (.int .i64 sz) := by
  intro j nm sz hj
  match j, hj with
  | 0, hj => simp [ds3] at hj; obtain ⟨rfl, rfl⟩ := hj; exact ⟨hb.cell_of rfl, hb.cell_of rfl⟩
  | 1, hj => simp [ds3] at hj; obtain ⟨rfl, rfl⟩ := hj; exact ⟨hb.cell_of rfl, hb.cell_of rfl⟩
  | 2, hj => simp [ds3] at hj; obtain ⟨rfl, rfl⟩ := hj; exact ⟨hb.cell_of rfl, hb.cell_of rfl⟩
  | j + 3, hj => simp [ds3] at hj

set_option maxHeartbeats 1000000 in
set_option maxRecDepth 100000 in
theorem three_any (h : Key → Nat) {w : World} {mx : Int} (hml : w.cell? ⟨0, 0, none⟩ = some (.int .i64 mx)) (hw0 : 0 < w.heap.size) (s0 s1 o : Int) {z0 z1 : Nat} (hz0 : bits .and .i64 s0 15 = (z0 : Int)) (hz1 : bits .and .i64 s1 15 = (z1 : Int)) (h0 : z0 ≤ 15) (h1 : z1 ≤ 15) :
    Calls Tryz.prog 14 #[.agg #[.int .i64 s0, .int .i64 s1], .int .i64 o] w (ThreeP h (z0 + 1) (z1 + 1) w) := by
  obtain ⟨q, hq, hqe⟩ := and_le o 255 (by omega)
  have hqe' : bits .and .i64 o 255 = (q : Int) := hqe
  clear hqe
  obtain ⟨W, hW⟩ : ∃ W, W = ((w.alloc (.cells #[.int .i64 s0, .int .i64 s1] 22)).alloc (.cells #[.string ⟨#[65]⟩, .int .i64 (1 + (z0 : Int)), .string ⟨#[66]⟩, .int .i64 (1 + (z0 : Int)), .string ⟨#[67]⟩, .int .i64 (1 + (z1 : Int))] 31)).alloc
    (.cells #[.string ⟨#[65, 95, 66, 95, 67]⟩, .string ⟨#[65, 42, 66, 42, 67]⟩, .string ⟨#[67, 95, 65, 42, 66]⟩, .string ⟨#[66, 42, 67, 95, 65]⟩, .string ⟨#[67, 42, 66, 42, 65]⟩, .string ⟨#[67, 95, 66, 95, 65]⟩] 9) := ⟨_, rfl⟩
  have hB : Below w.heap.size w W := by rw [hW]; exact (((Below.refl _ _).alloc (Nat.le_refl _) _).alloc (by simp) _).alloc (by simp; omega) _
  have hb9 : Blk W (w.heap.size + 1 + 1) 9 (orders6.map Value.string).toArray := by
    rw [hW]
    have := Blk.new ((w.alloc (.cells #[.int .i64 s0, .int .i64 s1] 22)).alloc (.cells #[.string ⟨#[65]⟩, .int .i64 (1 + (z0 : Int)), .string ⟨#[66]⟩, .int .i64 (1 + (z0 : Int)), .string ⟨#[67]⟩, .int .i64 (1 + (z1 : Int))] 31)) 9 (orders6.map Value.string).toArray
    rw [show ((w.alloc (.cells #[.int .i64 s0, .int .i64 s1] 22)).alloc (.cells #[.string ⟨#[65]⟩, .int .i64 (1 + (z0 : Int)), .string ⟨#[66]⟩, .int .i64 (1 + (z0 : Int)), .string ⟨#[67]⟩, .int .i64 (1 + (z1 : Int))] 31)).heap.size = w.heap.size + 1 + 1 by simp] at this
    exact this
  have hb31 : Blk W (w.heap.size + 1) 31 #[.string dA, .int .i64 ((z0 + 1 : Nat) : Int), .string dB, .int .i64 ((z0 + 1 : Nat) : Int), .string dC, .int .i64 ((z1 + 1 : Nat) : Int)] := by
    rw [hW]
    have e0 : (1 + (z0 : Int)) = ((z0 + 1 : Nat) : Int) := by omega
    have e1 : (1 + (z1 : Int)) = ((z1 + 1 : Nat) : Int) := by omega
    rw [e0, e1]
    have := (Blk.new (w.alloc (.cells #[.int .i64 s0, .int .i64 s1] 22)) 31 #[.string dA, .int .i64 ((z0 + 1 : Nat) : Int), .string dB, .int .i64 ((z0 + 1 : Nat) : Int), .string dC, .int .i64 ((z1 + 1 : Nat) : Int)])
    rw [show (w.alloc (.cells #[.int .i64 s0, .int .i64 s1] 22)).heap.size = w.heap.size + 1 by simp] at this
    exact this.alloc _
  obtain ⟨ord, hord⟩ : ∃ s, orders6[q % 6]? = some s := ⟨_, List.getElem?_eq_getElem (by simp [orders6]; omega)⟩
  have hoc : W.cell? ⟨w.heap.size + 1 + 1, q % 6, none⟩ = some (.string ord) := hb9.cell_of (by simp [hord])
  have hmem := List.mem_of_getElem? hord
  have hp6 := List.all_eq_true.1 parse6 ord hmem
  have hlen6 : ord.size ≤ 1000000 ∧ ∃ x xs, ord.toList = x :: xs := by
    simp only [orders6, List.mem_cons, List.mem_nil_iff, or_false] at hmem
    rcases hmem with rfl | rfl | rfl | rfl | rfl | rfl <;> exact ⟨by decide, _, _, (Lib.toList_data _).trans rfl⟩
  obtain ⟨hos, x, xs, hox⟩ := hlen6
  obtain ⟨hmay, hsum⟩ := may3 (n := z0 + 1) (m := z1 + 1) (by omega) (by omega) (by omega) (by omega)
  obtain ⟨G, hG, hGl⟩ : ∃ G, Lay.parse (namesD (ds3 (z0 + 1) (z1 + 1))) (groupsOf ord) = some G ∧ G.flatten.length = (ds3 (z0 + 1) (z1 + 1)).length := by
    have e : namesD (ds3 (z0 + 1) (z1 + 1)) = [dA, dB, dC] := rfl
    rw [e]
    cases hp : Lay.parse [dA, dB, dC] (groupsOf ord) with
    | none => rw [hp] at hp6; cases hp6
    | some G => rw [hp] at hp6; exact ⟨G, rfl, Option.some.inj (beq_iff_eq.1 hp6)⟩
  have hbg := begun_good h (w := W) (vars := 12) (by omega) (b := w.heap.size + 1) (off := 0) (ds := ds3 (z0 + 1) (z1 + 1)) (ds3_cells hb31) hb31.lt (by simp [ds3]) (fun d hd => by
    simp only [ds3, List.mem_cons, List.mem_nil_iff, or_false] at hd
    rcases hd with rfl | rfl | rfl <;> simp [dA, dB, dC] <;> decide) 3 hos hox ((hB.cell (p := ⟨0, 0, none⟩) hw0).trans hml) (Nat.lt_of_lt_of_le hw0 hB.size) hmay hsum hG hGl
  have HBG := Lib.hid hbg
  have HW := Lib.hid hW
  have HB31 := Lib.hid hb31
  have HB := Lib.hid hB
  have HM := Lib.hid (And.intro hmay hsum)
  have HG := Lib.hid (And.intro hG hGl)
  rw [hW] at hoc
  clear hbg hW hb31 hB hmay hsum hG hGl hb9 hord hmem hp6 hos hox hml hw0
  have hl3 : (ds3 (z0 + 1) (z1 + 1)).length = 3 := rfl
  go_enter Tryz.func14, Tryz.ntmps14
  go_wp2_with fail
  rw [← HW.out]
  refine HBG.out.mono ?_
  rintro e w4 ⟨c, K, F, rfl, hca, k4, k5, k6, ht4, hF, hb4⟩
  have HF := Lib.hid hF
  clear hF
  have HCA := Lib.hid hca
  have HK := Lib.hid (And.intro k4 (And.intro k5 k6))
  have HT4 := Lib.hid ht4
  have HB4 := Lib.hid hb4
  clear hca k4 k5 k6 ht4 hb4
  go_wp2
  go_ret3
  obtain ⟨k4, k5, k6⟩ := HK.out
  obtain ⟨hmay, hsum⟩ := HM.out
  obtain ⟨hG, hGl⟩ := HG.out
  have hw4 : ∀ k, wdF (ds3 (z0 + 1) (z1 + 1)) k ≤ 16 := fun k => Nat.le_trans (wd3_le (by omega) (by omega) k) (by omega)
  refine ⟨c, _, K, F, rfl, HCA.out, k4, k6, cdOk_place hmay hG hGl hw4 k4 k5 (fun d nm sz hd => by rw [k6]; simp [szD, hd]) hsum, fun d hd => ?_, HT4.out, fun x hx => Nat.le_trans HB.out.size (HF.out x hx), HB31.out.below HB4.out HB31.out.lt, HB.out.trans (HB4.out.mono HB.out.size)⟩
  rw [k5]
  simp only [List.length_reverse]
  exact (place_len hmay hG hGl).2 d hd

end Go.Proofs.YtndefnfknhjfkaaGreatDoor
