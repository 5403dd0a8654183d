/- Walks: equal values of two domains, all together. -/
import Derived.Test.YtndefnfknhjfkaaGreatDoorGd
import Derived.Deep.RegionHeld3

/- Equal's closures. -/
namespace Go.Proofs.YtndefnfknhjfkaaGreatDoor
open Go.RowKit Go.Proofs.Osier

theorem Stays.drewN (w : World) (n : Nat) : Stays w (w.drewN n) := .of_below (below_drewN (Below.refl _ _) n)
theorem Moves.drewN (F : List Nat) (w : World) (n : Nat) : Moves F F w (w.drewN n) := .of_below (below_drewN (Below.refl _ _) n)

set_option maxHeartbeats 1000000 in
set_option maxRecDepth 100000 in
theorem eq53 {h : Key → Nat} (H : IsHash h) {w : World} {c : Nat} {K : Cd} (hc : CodeAt w c K) {F : List Nat} {s : St} (t : Opr h w K.op K.st F s) (ok : CdOk K s.vars) {a L B b3 b4 : Nat} (ha : a < K.n) (r : Ready s L B (costR K a L))
    (k3 : Blk w b3 23 #[.pointer (some ⟨c, 0, none⟩)]) (k4 : Blk w b4 3 #[.int .i64 a]) :
    Calls Tryz.prog 53 #[.pointer (some ⟨b3, 0, none⟩), .pointer (some ⟨b4, 0, none⟩)] w (OpP h K.op K.st F s L (costR K a L) (fun e => decide (num (K.at_ a) e < K.size a)) w) := by
  obtain ⟨hz1, hz2⟩ := ok.fits a ha
  obtain ⟨z, hz⟩ : ∃ z, K.size a = z + 1 := ⟨K.size a - 1, by omega⟩
  have HBW : Hid (Calls Tryz.prog 48 #[.pointer (some ⟨c, 0, none⟩), .int .i64 a, .int .i64 0, .int .i64 z] w.drew (OpP h K.op K.st F s L (costR K a L) (fun e => decide (0 ≤ num (K.at_ a) e ∧ num (K.at_ a) e ≤ z)) w.drew)) := between_any (lo := 0) (hi := z) H (hc.stays (Stays.drewN w 1)) (t.drewN 1) ok ha (by omega) (by omega) r
  have q3 : w.cell? ⟨b3, 0, none⟩ = some (.pointer (some ⟨c, 0, none⟩)) := k3.cell_of rfl
  have q4 : w.cell? ⟨b4, 0, none⟩ = some (.int .i64 a) := k4.cell_of rfl
  have c1 : w.cell? ⟨c, 1, none⟩ = some (.slice (some ⟨K.db, 0, none⟩) K.n K.dcap) := hc.code.cell_of rfl
  have cs : w.cell? ⟨K.db, a * 2 + 1, none⟩ = some (.int .i64 ((z : Int) + 1)) := by
    have := hc.size_cell ha
    rw [hz] at this
    exact this
  have hfew := ok.few
  have hz3 : z < 65536 := by have := (pow16 (ok.width a ha)).1; omega
  have HT := Lib.hid t
  have HC := Lib.hid hc
  have HK3 := Lib.hid k3
  have HK4 := Lib.hid k4
  have HZ := Lib.hid hz
  have w1 : IntKind.i64.wrap ((z : Int) + 1 - 1) = (z : Int) := by rw [IntKind.wrap_i64]; omega
  have w2 : IntKind.i64.wrap (z : Int) = (z : Int) := by rw [IntKind.wrap_i64]; omega
  clear hc t ok r k3 k4 hz hz1 hz2
  go_enter Tryz.func53, Tryz.ntmps53
  go_wp2
  go_region_held3 (fun w' => w'.cell? ⟨b3, 0, none⟩ = some (.pointer (some ⟨c, 0, none⟩)) ∧ w'.cell? ⟨b4, 0, none⟩ = some (.int .i64 a) ∧ w'.cell? ⟨c, 1, none⟩ = some (.slice (some ⟨K.db, 0, none⟩) K.n K.dcap) ∧ w'.cell? ⟨K.db, a * 2 + 1, none⟩ = some (.int .i64 ((z : Int) + 1)))
    (first | exact ⟨q3, q4, c1, cs⟩ | exact ⟨r3, r4, r1, rs⟩)
    (first | (go_at_call 48; refine HBW.out.mono ?_; rintro e w2 ⟨y, s2, F2, rfl, t2, g2, m2⟩; have hst := (HT.out.drewN 1).stays m2; have r3 := (hst.blk _ _ _ rfl (HK3.out.drewN 1)).cell_of (i := 0) rfl; have r4 := (hst.blk _ _ _ rfl (HK4.out.drewN 1)).cell_of (i := 0) rfl; have r1 := ((HC.out.stays (Stays.drewN w 1)).stays hst).code.cell_of (i := 1) rfl; have rs := ((HC.out.stays (Stays.drewN w 1)).stays hst).size_cell ha; rw [HZ.out] at rs; have HT2 := Lib.hid t2; have HG2 := Lib.hid g2; have HM2 := Lib.hid m2; clear t2 g2 m2 hst))
  go_wp2
  go_ret2
  refine ⟨y, s2, F2, rfl, HT2.out, HG2.out.congr fun e => ?_, (Moves.drewN F w 1).trans HM2.out⟩
  rw [HZ.out]
  simp
  omega

theorem CodeAt.row_cell {w : World} {c : Nat} {K : Cd} (h : CodeAt w c K) {d j v g : Nat} (hd : d < K.n) (hg : K.rp d = some ⟨g, 0, none⟩) (hv : (K.at_ d)[j]? = some v) : w.cell? ⟨g, j, none⟩ = some (.int .i64 v) := by
  obtain ⟨g', e, hc, _⟩ := (h.rows d hd).get hv
  rw [hg] at e
  simp only [Option.some.injEq, Addr.mk.injEq, and_true] at e
  rw [e]; exact hc

/-- Equal's boxes. -/
structure EqBx (w : World) (c : Nat) (K : Cd) (a b b3 b4 b5 b8 : Nat) : Prop where
  k3 : Blk w b3 23 #[.pointer (some ⟨c, 0, none⟩)]
  k4 : Blk w b4 3 #[.int .i64 a]
  k5 : Blk w b5 3 #[.int .i64 b]
  k8 : Blk w b8 43 #[.pointer (some ⟨K.op, 0, none⟩)]
theorem EqBx.stays {w w' : World} {c : Nat} {K : Cd} {a b b3 b4 b5 b8 : Nat} (h : EqBx w c K a b b3 b4 b5 b8) (k : Stays w w') : EqBx w' c K a b b3 b4 b5 b8 :=
  ⟨k.blk _ _ _ rfl h.k3, k.blk _ _ _ rfl h.k4, k.blk _ _ _ rfl h.k5, k.blk _ _ _ rfl h.k8⟩

theorem dep_is {p : Nat → Bool} {u : Nat} (h : p u = true) (b : Bool) : St.Dep (fun e => e u == b) p := fun e e' he => by simp only; rw [he u h]

set_option maxHeartbeats 2000000 in
set_option maxRecDepth 100000 in
theorem eq54 {h : Key → Nat} (H : IsHash h) {w : World} {c : Nat} {K : Cd} (hc : CodeAt w c K) {F : List Nat} {s : St} (t : Opr h w K.op K.st F s) (ok : CdOk K s.vars) {a b j u v L B b3 b4 b5 b8 bj : Nat} (ha : a < K.n) (hb : b < K.n) (hu : (K.at_ a)[j]? = some u) (hv : (K.at_ b)[j]? = some v)
    {p : Nat → Bool} (pu : p u = true) (pv : p v = true) (r : Ready s L B (2 + (cost p L + cost p L))) (bx : EqBx w c K a b b3 b4 b5 b8) (kj : Blk w bj 3 #[.int .i64 j]) :
    Calls Tryz.prog 54 #[.pointer (some ⟨b3, 0, none⟩), .pointer (some ⟨b4, 0, none⟩), .pointer (some ⟨bj, 0, none⟩), .pointer (some ⟨b5, 0, none⟩), .pointer (some ⟨b8, 0, none⟩)] w (OpP h K.op K.st F s L (2 + (cost p L + cost p L)) (fun e => e u == e v) w) := by
  have huv := ok.lt a ha u (List.mem_of_getElem? hu)
  have hvv := ok.lt b hb v (List.mem_of_getElem? hv)
  have HA := Lib.hid (literal_any H (hc.stays (Stays.drewN w 1)) (t.drewN 1) (r.less (m' := 1) (by omega)) huv true)
  have q3 : w.cell? ⟨b3, 0, none⟩ = some (.pointer (some ⟨c, 0, none⟩)) := bx.k3.cell_of rfl
  have q4 : w.cell? ⟨b4, 0, none⟩ = some (.int .i64 a) := bx.k4.cell_of rfl
  have qj : w.cell? ⟨bj, 0, none⟩ = some (.int .i64 j) := kj.cell_of rfl
  have c2 : w.cell? ⟨c, 2, none⟩ = some (.slice (some ⟨K.ab, 0, none⟩) K.n K.acap) := hc.code.cell_of rfl
  obtain ⟨ga, hga, cu, _⟩ := (hc.rows a ha).get hu
  obtain ⟨gb, hgb, _, _⟩ := (hc.rows b hb).get hv
  have ca := hc.at_cell ha
  rw [hga] at ca
  have hja : j < (K.at_ a).length := (List.getElem?_eq_some_iff.1 hu).1
  have hjb : j < (K.at_ b).length := (List.getElem?_eq_some_iff.1 hv).1
  have hwa := ok.width a ha
  have hwb := ok.width b hb
  have hfew := ok.few
  obtain ⟨la, hla⟩ : ∃ n, n = (K.at_ a).length := ⟨_, rfl⟩
  obtain ⟨lb, hlb⟩ : ∃ n, n = (K.at_ b).length := ⟨_, rfl⟩
  rw [← hla] at ca hja hwa
  rw [← hlb] at hjb hwb
  have HLA := Lib.hid hla
  have HLB := Lib.hid hlb
  have HT := Lib.hid t
  have HC := Lib.hid hc
  have HBX := Lib.hid bx
  have HKJ := Lib.hid kj
  have HR := Lib.hid r
  have HGA := Lib.hid hga
  have HGB := Lib.hid hgb
  have HU := Lib.hid hu
  have HV := Lib.hid hv
  have HPU := Lib.hid pu
  have HPV := Lib.hid pv
  clear hc t ok r bx kj hga hgb hu hv hla hlb pu pv
  go_enter Tryz.func54, Tryz.ntmps54
  go_wp2
  go_region_held3 (fun w' => w'.cell? ⟨b3, 0, none⟩ = some (.pointer (some ⟨c, 0, none⟩)) ∧ w'.cell? ⟨b4, 0, none⟩ = some (.int .i64 a) ∧ w'.cell? ⟨bj, 0, none⟩ = some (.int .i64 j) ∧ w'.cell? ⟨c, 2, none⟩ = some (.slice (some ⟨K.ab, 0, none⟩) K.n K.acap) ∧ w'.cell? ⟨K.ab, a, none⟩ = some (.slice (some ⟨ga, 0, none⟩) la (K.rc a)) ∧ w'.cell? ⟨ga, j, none⟩ = some (.int .i64 u))
    (first | exact ⟨q3, q4, qj, c2, ca, cu⟩ | exact ⟨r3, r4, rj, rc, ra, ru⟩)
    (first | (go_at_call 55; refine HA.out.mono ?_; rintro e w2 ⟨x, s2, F2, rfl, t2, g2, m2⟩; have hst := (HT.out.drewN 1).stays m2; have hc2 := (HC.out.stays (Stays.drewN w 1)).stays hst; have r3 := (hst.blk _ _ _ rfl (HBX.out.k3.drewN 1)).cell_of (i := 0) rfl; have r4 := (hst.blk _ _ _ rfl (HBX.out.k4.drewN 1)).cell_of (i := 0) rfl; have rj := (hst.blk _ _ _ rfl (HKJ.out.drewN 1)).cell_of (i := 0) rfl; have rc := hc2.code.cell_of (i := 2) rfl; have ra := hc2.at_cell ha; rw [HGA.out, ← HLA.out] at ra; have ru := hc2.row_cell ha HGA.out HU.out; have HC2 := Lib.hid hc2; have HST := Lib.hid ((Stays.drewN w 1).trans hst); have HT2 := Lib.hid t2; have HG2 := Lib.hid g2; have HM2 := Lib.hid m2; clear t2 g2 m2 hst hc2))
  clear q3 q4 qj c2 ca cu r4 ra ru
  have q5 : w2.cell? ⟨b5, 0, none⟩ = some (.int .i64 b) := (HST.out.blk _ _ _ rfl HBX.out.k5).cell_of rfl
  have cb := HC2.out.at_cell hb
  rw [HGB.out, ← HLB.out] at cb
  have cv := HC2.out.row_cell hb HGB.out HV.out
  have hvars2 : v < s2.vars := by rw [HG2.out.le.vars]; exact hvv
  have HRB := Lib.hid ((HR.out.less (m' := 1 + (1 + (cost p L + cost p L))) (by omega)).next HG2.out)
  have HB := Lib.hid (literal_any H (HC2.out.stays (Stays.drewN w2 1)) (HT2.out.drewN 1) (HRB.out.less (m' := 1) (by omega)) hvars2 false)
  clear hvars2
  go_wp2
  go_region_held3 (fun w' => w'.cell? ⟨b3, 0, none⟩ = some (.pointer (some ⟨c, 0, none⟩)) ∧ w'.cell? ⟨b5, 0, none⟩ = some (.int .i64 b) ∧ w'.cell? ⟨bj, 0, none⟩ = some (.int .i64 j) ∧ w'.cell? ⟨c, 2, none⟩ = some (.slice (some ⟨K.ab, 0, none⟩) K.n K.acap) ∧ w'.cell? ⟨K.ab, b, none⟩ = some (.slice (some ⟨gb, 0, none⟩) lb (K.rc b)) ∧ w'.cell? ⟨gb, j, none⟩ = some (.int .i64 v))
    (first | exact ⟨r3, q5, rj, rc, cb, cv⟩ | exact ⟨z3, z5, zj, zc, zb, zv⟩)
    (first | (go_at_call 55; refine HB.out.mono ?_; rintro e w3 ⟨y, s3, F3, rfl, t3, g3, m3⟩; have hst3 := (HT2.out.drewN 1).stays m3; have hc3 := (HC2.out.stays (Stays.drewN w2 1)).stays hst3; have hst4 := (HST.out.trans (Stays.drewN w2 1)).trans hst3; have z3 := (hst4.blk _ _ _ rfl HBX.out.k3).cell_of (i := 0) rfl; have z5 := (hst4.blk _ _ _ rfl HBX.out.k5).cell_of (i := 0) rfl; have zj := (hst4.blk _ _ _ rfl HKJ.out).cell_of (i := 0) rfl; have zc := hc3.code.cell_of (i := 2) rfl; have zb := hc3.at_cell hb; rw [HGB.out, ← HLB.out] at zb; have zv := hc3.row_cell hb HGB.out HV.out; have z8 := (hst4.blk _ _ _ rfl HBX.out.k8).cell_of (i := 0) rfl; have HT3 := Lib.hid t3; have HG3 := Lib.hid g3; have HM3 := Lib.hid m3; clear t3 g3 m3 hst3 hc3 hst4))
  clear r3 q5 rj rc cb cv z3 z5 zj zc zb zv
  have hx : IsNode s3 p x := (Gives.isNode HG2.out (dep_is HPU.out true)).le HG3.out.le HG2.out.wf HG3.out.wf
  have hy : IsNode s3 p y := Gives.isNode HG3.out (dep_is HPV.out false)
  have HX := Lib.hid (Xor_any H HT3.out (((HRB.out.less (m' := 1 + (cost p L + cost p L)) (by omega)).next HG3.out)) hx hy)
  clear hx hy
  go_wp2_with fail
  refine HX.out.mono ?_
  rintro e w4 ⟨k, s4, F4, rfl, t4, g4, m4⟩
  have HT4 := Lib.hid t4
  have HG4 := Lib.hid g4
  have HM4 := Lib.hid m4
  clear t4 g4 m4
  go_wp2
  go_ret2
  refine ⟨k, s4, F4, rfl, HT4.out, ⟨(HG2.out.le.trans HG3.out.le).trans HG4.out.le, HG4.out.wf, HG4.out.lt, fun e => ?_, Nat.zero_le _, ?_⟩, (((Moves.drewN F w 1).trans HM2.out).trans ((Moves.drewN F2 w2 1).trans HM3.out)).trans HM4.out⟩
  · rw [HG4.out.ev, HG3.out.le.ev HG2.out.wf HG3.out.wf x e HG2.out.lt, HG2.out.ev, HG3.out.ev]
    cases e u <;> cases e v <;> rfl
  · have h1 := HG2.out.cost
    have h2 := HG3.out.cost
    have h3 := HG4.out.cost
    omega

end Go.Proofs.YtndefnfknhjfkaaGreatDoor

/- all: Equal's nodes together. -/
namespace Go.Proofs.YtndefnfknhjfkaaGreatDoor
open Go.RowKit Go.Proofs.Osier

/-- The bits of two rows are the same, so many. -/
def agree (l1 l2 : List Nat) (m : Nat) (e : Env) : Bool := (List.range m).all fun j => e (l1.getD j 0) == e (l2.getD j 0)

theorem agree_succ (l1 l2 : List Nat) (m : Nat) (e : Env) : agree l1 l2 (m + 1) e = (agree l1 l2 m e && (e (l1.getD m 0) == e (l2.getD m 0))) := by
  simp [agree, List.range_succ]

theorem dep_num {p : Nat → Bool} {l : List Nat} (h : ∀ u ∈ l, p u = true) (n : Nat) : St.Dep (fun e => decide (num l e < n)) p := fun e e' he => by
  simp only
  rw [num_dep l e e' fun v hv => he v (h v hv)]

theorem getD_mem {l : List Nat} {j : Nat} (h : j < l.length) : l.getD j 0 ∈ l := by
  simp [List.getD, List.getElem?_eq_getElem h]

theorem dep_agree {p : Nat → Bool} {l1 l2 : List Nat} (h1 : ∀ u ∈ l1, p u = true) (h2 : ∀ u ∈ l2, p u = true) : ∀ m, m ≤ l1.length → m ≤ l2.length → St.Dep (agree l1 l2 m) p
  | 0, _, _ => fun _ _ _ => rfl
  | m + 1, a, b => fun e e' he => by
    rw [agree_succ, agree_succ, dep_agree h1 h2 m (by omega) (by omega) e e' he, he _ (h1 _ (getD_mem (by omega))), he _ (h2 _ (getD_mem (by omega)))]

/-- What has come after so many. -/
def accF (K : Cd) (a b : Nat) : Nat → Env → Bool
  | 0, _ => true
  | i + 1, e => decide (num (K.at_ a) e < K.size a) && agree (K.at_ a) (K.at_ b) i e
def stepN (p : Nat → Bool) (L : Nat) : Nat := 2 + (cost p L + cost p L) + cost p L
def accN (K : Cd) (a L : Nat) (p : Nat → Bool) : Nat → Nat
  | 0 => 0
  | i + 1 => costR K a L + cost p L + i * stepN p L

theorem accN_mono (K : Cd) (a L : Nat) (p : Nat → Bool) {i j : Nat} (h : i ≤ j) : accN K a L p i ≤ accN K a L p j := by
  cases i with
  | zero => exact Nat.zero_le _
  | succ i =>
    cases j with
    | zero => omega
    | succ j =>
      have := Nat.mul_le_mul_right (stepN p L) (show i ≤ j by omega)
      simp only [accN]
      omega

def eqVal (b3 b4 b5 b8 : Nat) (bj : Nat → Nat) : Nat → Value
  | 0 => .func (.func 53) #[] #[.pointer (some ⟨b3, 0, none⟩), .pointer (some ⟨b4, 0, none⟩)]
  | i + 1 => .func (.func 54) #[] #[.pointer (some ⟨b3, 0, none⟩), .pointer (some ⟨b4, 0, none⟩), .pointer (some ⟨bj i, 0, none⟩), .pointer (some ⟨b5, 0, none⟩), .pointer (some ⟨b8, 0, none⟩)]

theorem dep_acc {K : Cd} {a b : Nat} {p : Nat → Bool} (ha : ∀ u ∈ K.at_ a, p u = true) (hb : ∀ u ∈ K.at_ b, p u = true) : ∀ i, i ≤ (K.at_ a).length + 1 → i ≤ (K.at_ b).length + 1 → St.Dep (accF K a b i) p
  | 0, _, _ => fun _ _ _ => rfl
  | i + 1, h1, h2 => fun e e' he => by
    have x := dep_num ha (K.size a) e e' he
    have y := dep_agree ha hb i (by omega) (by omega) e e' he
    simp only at x
    simp only [accF]
    rw [x, y]

set_option maxHeartbeats 2000000 in
set_option maxRecDepth 100000 in
theorem all_eq {h : Key → Nat} (H : IsHash h) {w : World} {c : Nat} {K : Cd} (hc : CodeAt w c K) {F : List Nat} {s : St} (t : Opr h w K.op K.st F s) (ok : CdOk K s.vars) {a b m L B b3 b4 b5 b8 : Nat} {bj : Nat → Nat} (ha : a < K.n) (hb : b < K.n) (hma : m ≤ (K.at_ a).length) (hmb : m ≤ (K.at_ b).length)
    {p : Nat → Bool} (pa : ∀ u ∈ K.at_ a, p u = true) (pb : ∀ u ∈ K.at_ b, p u = true) (r : Ready s L B (accN K a L p (m + 1))) (bx : EqBx w c K a b b3 b4 b5 b8) (kj : ∀ j, j < m → Blk w (bj j) 3 #[.int .i64 j])
    {lb nn cap : Nat} {cur : Array Value} (hl : Blk w lb 91 cur) (hnn : nn = m + 1) (hcur : ∀ i, i < nn → cur[i]? = some (eqVal b3 b4 b5 b8 bj i)) :
    Calls Tryz.prog 57 #[.pointer (some ⟨c, 0, none⟩), .slice (some ⟨lb, 0, none⟩) nn cap] w (OpP h K.op K.st F s L (accN K a L p (m + 1)) (accF K a b (m + 1)) w) := by
  have hwa := ok.width a ha
  have hn17 : nn ≤ 17 := by omega
  have HC := Lib.hid hc
  have HT := Lib.hid t
  have HOK := Lib.hid ok
  have HR := Lib.hid r
  have HBX := Lib.hid bx
  have HKJ := Lib.hid kj
  have HL := Lib.hid hl
  have HN := Lib.hid hnn
  have HCUR := Lib.hid hcur
  have HPA := Lib.hid pa
  have HPB := Lib.hid pb
  clear hc t ok r bx kj hl hnn hcur pa pb
  go_enter Tryz.func57, Tryz.ntmps57
  go_wp2
  go_loopg [6, 13] nn (fun g o i wr => ∃ (j x : Nat) (si : St) (Fi : List Nat), g = nn - j ∧ j ≤ nn ∧ i = .int .i64 j ∧ o = .int .i64 x ∧ Opr h wr K.op K.st Fi si ∧ s.Gives L (accN K a L p j) si x (accF K a b j) 0 ∧ Moves F Fi w wr)
  case atStart =>
    have hw := HT.out.ops
    exact ⟨0, 1, s, F, rfl, by omega, rfl, rfl, HT.out, ⟨.refl s, hw, by have := hw.len2; omega, fun e => St.ev1 s e, Nat.zero_le _, Nat.le_add_right _ _⟩, Moves.refl F w⟩
  case round =>
    obtain ⟨j, x, si, Fi, hg, hj, rfl, rfl, ti, gi, mi⟩ := hrel
    have HG := Lib.hid hg
    have HTI := Lib.hid ti
    have HGI := Lib.hid gi
    have HMI := Lib.hid mi
    have HST := Lib.hid (HT.out.stays mi)
    clear hg ti gi mi
    by_cases hjm : j < nn
    · have hcell : wr.cell? ⟨lb, j, none⟩ = some (eqVal b3 b4 b5 b8 bj j) := (HST.out.blk _ _ _ rfl HL.out).cell_of (HCUR.out j hjm)
      have c0 : wr.cell? ⟨c, 0, none⟩ = some (.pointer (some ⟨K.q, 0, none⟩)) := (HC.out.stays HST.out).code.cell_of rfl
      have hlen1 : j ≤ (K.at_ a).length + 1 := by have := HN.out; omega
      have hlen2 : j ≤ (K.at_ b).length + 1 := by have := HN.out; omega
      have hjm2 : j ≤ m := by have := HN.out; omega
      have hnext : accN K a L p (j + 1) ≤ accN K a L p (m + 1) := accN_mono K a L p (by omega)
      have hvr : si.vars = s.vars := HGI.out.le.vars
      have hx := Gives.isNode HGI.out (dep_acc HPA.out HPB.out j hlen1 hlen2)
      have HX := Lib.hid hx
      obtain ⟨fC, nC, hcase, hF, hN, hD⟩ : ∃ (fC : Env → Bool) (nC : Nat), ((eqVal b3 b4 b5 b8 bj j = .func (.func 53) #[] #[.pointer (some ⟨b3, 0, none⟩), .pointer (some ⟨b4, 0, none⟩)] ∧ Calls Tryz.prog 53 #[.pointer (some ⟨b3, 0, none⟩), .pointer (some ⟨b4, 0, none⟩)] wr (OpP h K.op K.st Fi si L nC fC wr)) ∨
          (∃ q, eqVal b3 b4 b5 b8 bj j = .func (.func 54) #[] #[.pointer (some ⟨b3, 0, none⟩), .pointer (some ⟨b4, 0, none⟩), .pointer (some ⟨q, 0, none⟩), .pointer (some ⟨b5, 0, none⟩), .pointer (some ⟨b8, 0, none⟩)] ∧ Calls Tryz.prog 54 #[.pointer (some ⟨b3, 0, none⟩), .pointer (some ⟨b4, 0, none⟩), .pointer (some ⟨q, 0, none⟩), .pointer (some ⟨b5, 0, none⟩), .pointer (some ⟨b8, 0, none⟩)] wr (OpP h K.op K.st Fi si L nC fC wr))) ∧
          (∀ e, accF K a b (j + 1) e = (accF K a b j e && fC e)) ∧ accN K a L p j + nC + cost p L = accN K a L p (j + 1) ∧ St.Dep fC p := by
        rcases j with _ | j
        · exact ⟨_, _, .inl ⟨rfl, eq53 H (HC.out.stays HST.out) HTI.out (by rw [hvr]; exact HOK.out) ha ((HR.out.less (m' := accN K a L p 0 + costR K a L) (by simp only [accN] at hnext ⊢; omega)).next HGI.out) (HBX.out.stays HST.out).k3 (HBX.out.stays HST.out).k4⟩, fun e => by simp [accF, agree], by simp [accN], dep_num HPA.out _⟩
        · have hja : j < (K.at_ a).length := by have := HN.out; omega
          have hjb : j < (K.at_ b).length := by have := HN.out; omega
          have hu : (K.at_ a)[j]? = some ((K.at_ a).getD j 0) := by simp [List.getD, List.getElem?_eq_getElem hja]
          have hv : (K.at_ b)[j]? = some ((K.at_ b).getD j 0) := by simp [List.getD, List.getElem?_eq_getElem hjb]
          have pu := HPA.out _ (getD_mem hja)
          have pv := HPB.out _ (getD_mem hjb)
          refine ⟨_, _, .inr ⟨bj j, rfl, eq54 H (HC.out.stays HST.out) HTI.out (by rw [hvr]; exact HOK.out) ha hb hu hv pu pv ((HR.out.less (m' := accN K a L p (j + 1) + (2 + (cost p L + cost p L))) (by simp only [accN, stepN, Nat.add_mul] at hnext ⊢; omega)).next HGI.out) (HBX.out.stays HST.out) (HST.out.blk _ _ _ rfl (HKJ.out j (by omega)))⟩, fun e => ?_, ?_, ?_⟩
          · simp only [accF, agree_succ]
            rw [Bool.and_assoc]
          · simp only [accN, stepN, Nat.add_mul, Nat.one_mul]; omega
          · exact fun e e' he => by simp only; rw [he _ pu, he _ pv]
      have HF := Lib.hid hF
      have HNN := Lib.hid hN
      have HD := Lib.hid hD
      have hcost : accN K a L p j + (nC + cost p L) ≤ accN K a L p (m + 1) := by omega
      have HCO := Lib.hid hcost
      clear hx hlen1 hlen2 hF hN hD hnext hvr hcost
      rcases hcase with ⟨hv, hcl⟩ | ⟨q, hv, hcl⟩
      all_goals
        rw [hv] at hcell
        have HCL := Lib.hid hcl
        clear hv hcl
        go_wp2_with fail
        refine HCL.out.mono ?_
        rintro e w2 ⟨y, s2, F2, rfl, t2, g2, m2⟩
        have HT2 := Lib.hid t2
        have HG2 := Lib.hid g2
        have HM2 := Lib.hid m2
        have hst2 := HST.out.trans (HTI.out.stays m2)
        have HQ2 := Lib.hid (quan_ops (HC.out.stays hst2).quan)
        have c02 : w2.cell? ⟨c, 0, none⟩ = some (.pointer (some ⟨K.q, 0, none⟩)) := (HC.out.stays hst2).code.cell_of rfl
        have hx2 := HX.out.le g2.le HGI.out.wf g2.wf
        have hy2 := Gives.isNode g2 HD.out
        have HAN := Lib.hid (And_any H t2 ((((HR.out.less HCO.out).next HGI.out)).next g2) hx2 hy2)
        clear t2 g2 m2 hst2 hx2 hy2 c0
        go_wp2_with (go_at_call 22; refine HQ2.out.mono ?_; rintro e w' ⟨rfl, rfl⟩)
        refine HAN.out.mono ?_
        rintro e w3 ⟨k, s3, F3, rfl, t3, g3, m3⟩
        have HT3 := Lib.hid t3
        have HG3 := Lib.hid g3
        have HM3 := Lib.hid m3
        clear t3 g3 m3
        go_wp2
        go_roundg (nn - (j + 1))
        case measure => rw [HG.out]; omega
        case rel =>
          refine ⟨j + 1, k, s3, F3, rfl, by omega, by go_num, rfl, HT3.out, ⟨(HGI.out.le.trans HG2.out.le).trans HG3.out.le, HG3.out.wf, HG3.out.lt, fun e => ?_, Nat.zero_le _, ?_⟩, (HMI.out.trans HM2.out).trans HM3.out⟩
          · rw [HG3.out.ev, HF.out, HG2.out.le.ev HGI.out.wf HG2.out.wf x e HGI.out.lt, HGI.out.ev, HG2.out.ev]
          · have h1 := HGI.out.cost
            have h2 := HG2.out.cost
            have h3 := HG3.out.cost
            have h4 := HNN.out
            omega
    · have hjn : j = m + 1 := by have := HN.out; omega
      have HJ := Lib.hid hjn
      clear hjn
      go_wp2
      go_ret2
      exact ⟨x, si, Fi, rfl, HTI.out, by rw [← HJ.out]; exact HGI.out, HMI.out⟩

end Go.Proofs.YtndefnfknhjfkaaGreatDoor
