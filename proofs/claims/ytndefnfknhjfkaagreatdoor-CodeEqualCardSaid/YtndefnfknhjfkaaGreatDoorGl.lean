/- Walks: counting. -/
import Derived.Test.YtndefnfknhjfkaaGreatDoorGk
import Derived.Laws.EntriesVeiled
import Derived.Deep.RegionHeld3
import Derived.IntWalk

namespace Go.Proofs.YtndefnfknhjfkaaGreatDoor
open Go.RowKit Go.Proofs.Osier

/-- Sat's boxes. -/
structure SatB where
  b11 : Nat
  b3 : Nat
  b10 : Nat
  b12 : Nat
  b5 : Nat
  b8 : Nat
  ms : Nat
  ma : Nat
  na : Nat
  p : Option Addr
  cap : Nat

/-- Sat's state: its boxes, the store, what was counted. -/
structure SatSt (h : Key → Nat) (B : SatB) (st : Nat) (F : List Nat) (s : St) (sv : List Nat) (w : World) (fs : Nat → Option Nat) : Prop where
  f11 : Blk w B.b11 192 #[.map (some B.ms)]
  f3 : Blk w B.b3 87 #[.pointer (some ⟨st, 0, none⟩)]
  f10 : Blk w B.b10 201 #[.func (.func 137) #[] #[.pointer (some ⟨B.b5, 0, none⟩), .pointer (some ⟨B.b3, 0, none⟩), .pointer (some ⟨B.b8, 0, none⟩)]]
  f12 : Blk w B.b12 201 #[.func (.func 139) #[] #[.pointer (some ⟨B.b11, 0, none⟩), .pointer (some ⟨B.b3, 0, none⟩), .pointer (some ⟨B.b10, 0, none⟩), .pointer (some ⟨B.b12, 0, none⟩)]]
  f5 : Blk w B.b5 34 #[.slice B.p sv.length B.cap]
  f8 : Blk w B.b8 192 #[.map (some B.ma)]
  at_ : IMap w B.ma B.na (atF sv sv.length)
  sto : Sto h w st F s
  seen : IMap w B.ms (seenN (fun x => (fs x).isSome) s.l.length) fs
  ok : ∀ x v, fs x = some v → v = Cnt.below s sv x
  ne : B.ma ≠ B.ms

theorem SatSt.of_heap {h : Key → Nat} {B : SatB} {st : Nat} {F : List Nat} {s : St} {sv : List Nat} {w w' : World} {fs : Nat → Option Nat} (t : SatSt h B st F s sv w fs) (e : w'.heap = w.heap) : SatSt h B st F s sv w' fs := by
  have q : ∀ k : Nat, w'.heap[k]? = w.heap[k]? := fun k => by rw [e]
  exact ⟨t.f11.of (q _), t.f3.of (q _), t.f10.of (q _), t.f12.of (q _), t.f5.of (q _), t.f8.of (q _), t.at_.kept (q _), t.sto.of_heap fun k _ => q k, t.seen.kept (q _), t.ok, t.ne⟩

/-- What the counting leaves. -/
def SatP (h : Key → Nat) (B : SatB) (st : Nat) (F : List Nat) (s : St) (sv : List Nat) (fs : Nat → Option Nat) (k : Nat) (w : World) (e : Ending) (w' : World) : Prop :=
  e = .returned (.int .i64 (Cnt.below s sv k : Nat)) ∧ ∃ fs', SatSt h B st F s sv w' fs' ∧ Keep [B.ms] w w' ∧ ∀ x, k < x → fs' x = fs x

theorem SatSt.q10 {h : Key → Nat} {B : SatB} {st : Nat} {F : List Nat} {s : St} {sv : List Nat} {w : World} {fs : Nat → Option Nat} (t : SatSt h B st F s sv w fs) : w.cell? ⟨B.b10, 0, none⟩ = some (.func (.func 137) #[] #[.pointer (some ⟨B.b5, 0, none⟩), .pointer (some ⟨B.b3, 0, none⟩), .pointer (some ⟨B.b8, 0, none⟩)]) := t.f10.cell_of rfl
theorem SatSt.q12 {h : Key → Nat} {B : SatB} {st : Nat} {F : List Nat} {s : St} {sv : List Nat} {w : World} {fs : Nat → Option Nat} (t : SatSt h B st F s sv w fs) : w.cell? ⟨B.b12, 0, none⟩ = some (.func (.func 139) #[] #[.pointer (some ⟨B.b11, 0, none⟩), .pointer (some ⟨B.b3, 0, none⟩), .pointer (some ⟨B.b10, 0, none⟩), .pointer (some ⟨B.b12, 0, none⟩)]) := t.f12.cell_of rfl

theorem level_val {s : St} (h : s.WF) {sv : List Nat} {k : Nat} (hk : k < s.l.length) (hd : St.Dep (s.ev k) (fun u => decide (u ∈ sv))) :
    (if k < 2 then sv.length else (atF sv sv.length (s.nd k).v).getD 0) = Cnt.level s sv k := by
  unfold Cnt.level
  by_cases h2 : k < 2
  · rw [if_pos h2, if_pos h2]
  · rw [if_neg h2, if_neg h2]
    have hm : (s.nd k).v ∈ sv := by simpa using St.dep_mem h (by omega) hk hd
    rw [atF_mem hm]; rfl

theorem sat_level {h : Key → Nat} {B : SatB} {st : Nat} {F : List Nat} {s : St} {sv : List Nat} {w : World} {fs : Nat → Option Nat} (t : SatSt h B st F s sv w fs) {k : Nat} (hk : k < s.l.length) (hd : St.Dep (s.ev k) (fun u => decide (u ∈ sv))) :
    Calls Tryz.prog 137 #[.int .i64 k, .pointer (some ⟨B.b5, 0, none⟩), .pointer (some ⟨B.b3, 0, none⟩), .pointer (some ⟨B.b8, 0, none⟩)] w fun e w' => e = .returned (.int .i64 (Cnt.level s sv k : Nat)) ∧ ∃ n, w' = w.drewN n := by
  have := level_any t.sto (t.f5.cell_of rfl) (t.f3.cell_of rfl) (t.f8.cell_of rfl) t.at_ hk
  rwa [level_val (node_lt t.sto).1 hk hd] at this

set_option maxHeartbeats 2000000 in
set_option maxRecDepth 100000 in
theorem sat_walk {h : Key → Nat} {B : SatB} {st : Nat} {F : List Nat} {s : St} {sv : List Nat} (hsv : sv.Pairwise (· < ·)) (hlen : sv.length ≤ 16) : ∀ (k : Nat) (w : World) (fs : Nat → Option Nat), SatSt h B st F s sv w fs → k < s.l.length → St.Dep (s.ev k) (fun u => decide (u ∈ sv)) →
    Calls Tryz.prog 139 #[.int .i64 k, .pointer (some ⟨B.b11, 0, none⟩), .pointer (some ⟨B.b3, 0, none⟩), .pointer (some ⟨B.b10, 0, none⟩), .pointer (some ⟨B.b12, 0, none⟩)] w (SatP h B st F s sv fs k w) := by
  intro k
  induction k using Nat.strongRecOn with
  | _ k ih =>
    intro w fs t hk hd
    obtain ⟨hwf, hl, hvs⟩ := node_lt t.sto
    have c11 : w.cell? ⟨B.b11, 0, none⟩ = some (.map (some B.ms)) := t.f11.cell_of rfl
    have hlook := t.seen.look_ok (x := k) (by omega)
    have HT := Lib.hid t
    by_cases h2 : k < 2
    · have hbs := Cnt.below_small s sv h2
      have HBS := Lib.hid hbs
      clear t hwf hbs
      go_enter Tryz.func139, Tryz.ntmps139
      go_wp2
      go_ret
      exact ⟨by rw [HBS.out]; rfl, fs, HT.out, Keep.refl _ _, fun _ _ => rfl⟩
    · cases hf : fs k with
      | some v =>
        have hv := t.ok k v hf
        rw [hf] at hlook
        simp only [Option.isSome_some, Option.getD_some] at hlook
        have HV := Lib.hid hv
        clear t hwf hv hf
        go_enter Tryz.func139, Tryz.ntmps139
        go_wp2
        go_ret
        exact ⟨by rw [← HV.out]; rfl, fs, HT.out, Keep.refl _ _, fun _ _ => rfl⟩
      | none =>
        rw [hf] at hlook
        simp only [Option.isSome_none, Option.getD_none] at hlook
        have hok := hwf.ok k (by omega) hk
        have hdl := St.dep_lo hwf (by omega) hk hd
        have hdh := St.dep_hi hwf (by omega) hk hd
        obtain ⟨o1, o2, o3, o4, o5, o6⟩ := hok
        have hlk := Cnt.level_le (s := s) sv k
        have hl1 := Cnt.level_lt hwf hsv (by omega) hk hd (show (s.nd k).lo < s.l.length by omega) hdl o5
        have hl2 := Cnt.level_lt hwf hsv (by omega) hk hd (show (s.nd k).hi < s.l.length by omega) hdh o6
        have hl3 := Cnt.level_le (s := s) sv (s.nd k).lo
        have hl4 := Cnt.level_le (s := s) sv (s.nd k).hi
        have HN := Lib.hid (node_any t.sto hk)
        have HLV := Lib.hid (fun (n : Nat) => sat_level (t.of_heap (w' := w.drewN n) rfl) hk hd)
        have c10 : w.cell? ⟨B.b10, 0, none⟩ = some (.func (.func 137) #[] #[.pointer (some ⟨B.b5, 0, none⟩), .pointer (some ⟨B.b3, 0, none⟩), .pointer (some ⟨B.b8, 0, none⟩)]) := t.f10.cell_of rfl
        have c3 : w.cell? ⟨B.b3, 0, none⟩ = some (.pointer (some ⟨st, 0, none⟩)) := t.f3.cell_of rfl
        have HNODE := Lib.hid (Cnt.below_node hwf hsv (by omega) hk hd)
        have HF := Lib.hid hf
        have HWF := Lib.hid hwf
        have HIH := Lib.hid ih
        have HDL := Lib.hid hdl
        have HDH := Lib.hid hdh
        obtain ⟨dlo, hdlo⟩ : ∃ d, d = Cnt.level s sv (s.nd k).lo - (Cnt.level s sv k + 1) := ⟨_, rfl⟩
        obtain ⟨dhi, hdhi⟩ : ∃ d, d = Cnt.level s sv (s.nd k).hi - (Cnt.level s sv k + 1) := ⟨_, rfl⟩
        obtain ⟨plo, hplo⟩ : ∃ d, d = 2 ^ dlo := ⟨_, rfl⟩
        obtain ⟨phi, hphi⟩ : ∃ d, d = 2 ^ dhi := ⟨_, rfl⟩
        have hplo2 : plo ≤ 65536 := by rw [hplo]; exact (pow16 (by omega)).1
        have hphi2 : phi ≤ 65536 := by rw [hphi]; exact (pow16 (by omega)).1
        have hblo2 : Cnt.below s sv (s.nd k).lo ≤ 65536 := Nat.le_trans (Cnt.below_le s sv _) (pow16 (by omega)).1
        have hbhi2 : Cnt.below s sv (s.nd k).hi ≤ 65536 := Nat.le_trans (Cnt.below_le s sv _) (pow16 (by omega)).1
        have hm1 : Cnt.below s sv (s.nd k).lo * plo ≤ 65536 * 65536 := Nat.mul_le_mul hblo2 hplo2
        have hm2 : Cnt.below s sv (s.nd k).hi * phi ≤ 65536 * 65536 := Nat.mul_le_mul hbhi2 hphi2
        have hnode := Cnt.below_node hwf hsv (by omega) hk hd
        rw [← hdlo, ← hdhi, ← hplo, ← hphi] at hnode
        obtain ⟨mlo, hmlo⟩ : ∃ d, d = Cnt.below s sv (s.nd k).lo * plo := ⟨_, rfl⟩
        obtain ⟨mhi, hmhi⟩ : ∃ d, d = Cnt.below s sv (s.nd k).hi * phi := ⟨_, rfl⟩
        rw [← hmlo] at hm1 hnode
        rw [← hmhi] at hm2 hnode
        have HBK : Hid (Cnt.below s sv k < 9223372036854775808) := by
          have := Nat.le_trans (Cnt.below_le s sv k) (pow16 (by omega)).1
          exact (by omega : Cnt.below s sv k < 9223372036854775808)
        have HPLO : Hid (∀ W, Calls Tryz.prog 142 #[.int .i64 dlo] W fun e w' => e = .returned (.int .i64 (plo : Nat)) ∧ W = w') := fun W => by rw [hplo]; exact pow_any (by omega)
        have HPHI : Hid (∀ W, Calls Tryz.prog 142 #[.int .i64 dhi] W fun e w' => e = .returned (.int .i64 (phi : Nat)) ∧ W = w') := fun W => by rw [hphi]; exact pow_any (by omega)
        have HMLO : Hid (∀ W, Calls Tryz.prog 141 #[.int .i64 (Cnt.below s sv (s.nd k).lo : Nat), .int .i64 (plo : Nat)] W fun e w' => e = .returned (.int .i64 (mlo : Nat)) ∧ W = w') := fun W => by rw [hmlo]; exact mul_any (by omega) (by omega)
        have HMHI : Hid (∀ W, Calls Tryz.prog 141 #[.int .i64 (Cnt.below s sv (s.nd k).hi : Nat), .int .i64 (phi : Nat)] W fun e w' => e = .returned (.int .i64 (mhi : Nat)) ∧ W = w') := fun W => by rw [hmhi]; exact mul_any (by omega) (by omega)
        have HADD : Hid (∀ W, Calls Tryz.prog 140 #[.int .i64 (mlo : Nat), .int .i64 (mhi : Nat)] W fun e w' => e = .returned (.int .i64 (Cnt.below s sv k : Nat)) ∧ W = w') := fun W => by rw [hnode]; exact add_any (by omega) (by omega)
        have HLO : Hid (∀ W, W.heap = w.heap → Calls Tryz.prog 139 #[.int .i64 (s.nd k).lo, .pointer (some ⟨B.b11, 0, none⟩), .pointer (some ⟨B.b3, 0, none⟩), .pointer (some ⟨B.b10, 0, none⟩), .pointer (some ⟨B.b12, 0, none⟩)] W (SatP h B st F s sv fs (s.nd k).lo W)) := fun W e => ih _ o2 W fs (t.of_heap e) (by omega) hdl
        have HHI : Hid (∀ W fs', SatSt h B st F s sv W fs' → Calls Tryz.prog 139 #[.int .i64 (s.nd k).hi, .pointer (some ⟨B.b11, 0, none⟩), .pointer (some ⟨B.b3, 0, none⟩), .pointer (some ⟨B.b10, 0, none⟩), .pointer (some ⟨B.b12, 0, none⟩)] W (SatP h B st F s sv fs' (s.nd k).hi W)) := fun W fs' t' => ih _ o3 W fs' t' (by omega) hdh
        have HLL : Hid (∀ W fs', SatSt h B st F s sv W fs' → Calls Tryz.prog 137 #[.int .i64 (s.nd k).lo, .pointer (some ⟨B.b5, 0, none⟩), .pointer (some ⟨B.b3, 0, none⟩), .pointer (some ⟨B.b8, 0, none⟩)] W fun e w' => e = .returned (.int .i64 (Cnt.level s sv (s.nd k).lo : Nat)) ∧ ∃ n, w' = W.drewN n) := fun W fs' t' => sat_level t' (by omega) hdl
        have HLH : Hid (∀ W fs', SatSt h B st F s sv W fs' → Calls Tryz.prog 137 #[.int .i64 (s.nd k).hi, .pointer (some ⟨B.b5, 0, none⟩), .pointer (some ⟨B.b3, 0, none⟩), .pointer (some ⟨B.b8, 0, none⟩)] W fun e w' => e = .returned (.int .i64 (Cnt.level s sv (s.nd k).hi : Nat)) ∧ ∃ n, w' = W.drewN n) := fun W fs' t' => sat_level t' (by omega) hdh
        have c12 : w.cell? ⟨B.b12, 0, none⟩ = some (.func (.func 139) #[] #[.pointer (some ⟨B.b11, 0, none⟩), .pointer (some ⟨B.b3, 0, none⟩), .pointer (some ⟨B.b10, 0, none⟩), .pointer (some ⟨B.b12, 0, none⟩)]) := t.f12.cell_of rfl
        have hw1 : IntKind.i64.wrap ((Cnt.level s sv (s.nd k).lo : Nat) - ((Cnt.level s sv k : Nat) + 1 : Int)) = (dlo : Int) := by rw [IntWalk.i64_in _ (by omega)]; omega
        have hw2 : IntKind.i64.wrap ((Cnt.level s sv (s.nd k).hi : Nat) - ((Cnt.level s sv k : Nat) + 1 : Int)) = (dhi : Int) := by rw [IntWalk.i64_in _ (by omega)]; omega
        clear t hwf hf ih hdl hdh hdlo hdhi hplo hphi hmlo hmhi hm1 hm2 hnode
        have HW1 := Lib.hid hw1
        have HW2 := Lib.hid hw2
        clear hw1 hw2
        go_enter Tryz.func139, Tryz.ntmps139
        go_wp2_with (first | (go_at_call 138; refine HN.out.mono ?_; rintro e w' ⟨rfl, n1, rfl⟩) | (go_at_call 137; refine (HLV.out _).mono ?_; rintro e w' ⟨rfl, n2, rfl⟩))
        have hw1 := HW1.out
        have hw2 := HW2.out
        go_region_held3 (fun w' => w'.cell? ⟨B.b10, 0, none⟩ = some (.func (.func 137) #[] #[.pointer (some ⟨B.b5, 0, none⟩), .pointer (some ⟨B.b3, 0, none⟩), .pointer (some ⟨B.b8, 0, none⟩)]) ∧ w'.cell? ⟨B.b12, 0, none⟩ = some (.func (.func 139) #[] #[.pointer (some ⟨B.b11, 0, none⟩), .pointer (some ⟨B.b3, 0, none⟩), .pointer (some ⟨B.b10, 0, none⟩), .pointer (some ⟨B.b12, 0, none⟩)]))
          (first | exact ⟨c10, c12⟩ | exact ⟨q10, q12⟩ | exact ⟨r10, r12⟩)
          (first
            | (go_at_call 139; refine (HLO.out (w.drewN _) rfl).mono ?_; rintro e w3 ⟨rfl, fs3, st3, k3, x3⟩; clear HLO; have q10 := st3.q10; have q12 := st3.q12; have HST3 := Lib.hid st3; have HK3 := Lib.hid k3; have HX3 := Lib.hid x3; clear st3 k3 x3)
            | (go_at_call 137; (first | refine (HLL.out _ fs3 HST3.out).mono ?_ | refine (HLL.out (w3.drewN _) fs3 (HST3.out.of_heap rfl)).mono ?_); rintro e w4 ⟨rfl, n4, rfl⟩; clear HLL)
            | (go_at_call 142; refine (HPLO.out _).mono ?_; rintro e w4 ⟨rfl, rfl⟩; clear HPLO)
            | (go_at_call 141; refine (HMLO.out _).mono ?_; rintro e w4 ⟨rfl, rfl⟩; clear HMLO)
            | (go_at_call 139; (first | refine (HHI.out (w3.drewN _) fs3 (HST3.out.of_heap rfl)).mono ?_ | refine (HHI.out _ fs3 HST3.out).mono ?_); rintro e w5 ⟨rfl, fs5, st5, k5, x5⟩; clear HHI; have r10 := st5.q10; have r12 := st5.q12; have HST5 := Lib.hid st5; have HK5 := Lib.hid k5; have HX5 := Lib.hid x5; clear st5 k5 x5)
            | (go_at_call 137; (first | refine (HLH.out _ fs5 HST5.out).mono ?_ | refine (HLH.out (w5.drewN _) fs5 (HST5.out.of_heap rfl)).mono ?_); rintro e w6 ⟨rfl, n6, rfl⟩; clear HLH)
            | (go_at_call 142; refine (HPHI.out _).mono ?_; rintro e w6 ⟨rfl, rfl⟩; clear HPHI)
            | (go_at_call 141; refine (HMHI.out _).mono ?_; rintro e w6 ⟨rfl, rfl⟩; clear HMHI)
            | (go_at_call 140; refine (HADD.out _).mono ?_; rintro e w6 ⟨rfl, rfl⟩; clear HADD))
        have hf5 : fs5 k = none := by rw [HX5.out k (by omega), HX3.out k (by omega)]; exact HF.out
        have hs5 := seenN_le (fun x => (fs5 x).isSome) s.l.length
        have hset := seenN_set (fun x => (fs5 x).isSome) hk (by rw [hf5]; rfl)
        obtain ⟨w7, hrun7, h7, g7⟩ := (HST5.out.of_heap (w' := w5.drewN n6) rfl).seen.store (x := k) (by omega) (by omega) (Cnt.below s sv k) HBK.out
        have hk7 : Keep [B.ms] w5 w7 := ((Keep.refl _ w5).drewN n6).grown g7 (fun g hg => by injection hg with hg; left; simp [hg])
        have c11 : (w5.drewN n6).cell? ⟨B.b11, 0, none⟩ = some (.map (some B.ms)) := HST5.out.f11.cell_of rfl
        have hst7 : SatSt h B st F s sv w7 (fun y => if y = k then some (Cnt.below s sv k) else fs5 y) := by
          have t5 := HST5.out
          have key : ∀ {g t cs}, Blk w5 g t cs → Blk w7 g t cs := fun hb => hk7.blk hb (by have := t5.seen.ne_blk hb; simp [this])
          refine ⟨key t5.f11, key t5.f3, key t5.f10, key t5.f12, key t5.f5, key t5.f8, t5.at_.kept (hk7.block _ t5.at_.lt (by simp; exact t5.ne)), t5.sto.of_heap fun x hx => ?_, ?_, fun x v hx => ?_, t5.ne⟩
          · obtain ⟨ty, cs, hb⟩ := t5.sto.blks x hx
            exact hk7.block x hb.lt (by have := t5.seen.ne_blk hb; simp [this])
          · have e1 : (fun x => ((fun y => if y = k then some (Cnt.below s sv k) else fs5 y) x).isSome) = (fun y => if y = k then true else (fs5 y).isSome) := by
              funext y; by_cases hy : y = k <;> simp [hy]
            rw [e1, hset]
            exact h7
          · by_cases hy : x = k
            · subst hy; simp at hx; exact hx.symm
            · rw [if_neg hy] at hx; exact t5.ok x v hx
        have HST7 := Lib.hid hst7
        have HK7 := Lib.hid hk7
        have hf7 : ∀ x, k < x → (fun y => if y = k then some (Cnt.below s sv k) else fs5 y) x = fs x := fun x hx => by
          dsimp only
          rw [if_neg (by omega), HX5.out x (by omega), HX3.out x (by omega)]
        have HF7 := Lib.hid hf7
        clear hst7 hk7 h7 g7 hset hf5 hs5 hf7 hw1 hw2
        go_wp2
        go_ret
        exact ⟨rfl, _, HST7.out, ((((Keep.refl _ w).drewN _).trans HK3.out (fun _ h => .inl h)).drewN _ |>.trans HK5.out (fun _ h => .inl h)).trans HK7.out (fun _ h => .inl h), HF7.out⟩
end Go.Proofs.YtndefnfknhjfkaaGreatDoor

namespace Go.Proofs.YtndefnfknhjfkaaGreatDoor
open Go.RowKit Go.Proofs.Osier

set_option maxHeartbeats 2000000 in
set_option maxRecDepth 100000 in
theorem sat_any {h : Key → Nat} {w : World} {st : Nat} {F : List Nat} {s : St} (t : Sto h w st F s) {k : Nat} {vars : List Nat} {p : Option Addr} {cap : Nat} (hr : RowIn w p vars) (hp : vars = [] → p = none ∧ cap = 0)
    (hn : vars.Nodup) (hlt : ∀ v ∈ vars, v < s.vars) (hk : k < s.l.length) (hd : St.Dep (s.ev k) (fun u => decide (u ∈ vars))) (hlen : vars.length ≤ 16) :
    Calls Tryz.prog 97 #[.pointer (some ⟨st, 0, none⟩), .int .i64 k, .slice p vars.length cap] w fun e w' => e = .returned (.tuple #[.int .i64 ((Cnt.each s k vars).length : Nat), .int .i64 0]) ∧ Below w.heap.size w w' := by
  have hB2 : Below w.heap.size w ((w.alloc (.cells #[.pointer (some ⟨st, 0, none⟩)] 87)).alloc (.cells #[.slice p vars.length cap] 34)) := ((Below.refl _ w).alloc (Nat.le_refl _) _).alloc (by simp) _
  have q3 := (Blk.new w 87 #[.pointer (some ⟨st, 0, none⟩)]).alloc (.cells #[.slice p vars.length cap] 34)
  have q5 := Blk.new (w.alloc (.cells #[.pointer (some ⟨st, 0, none⟩)] 87)) 34 #[.slice p vars.length cap]
  rw [show (w.alloc (.cells #[.pointer (some ⟨st, 0, none⟩)] 87)).heap.size = w.heap.size + 1 by simp] at q5
  have t2 := t.below hB2
  have HW := Lib.hid (within_any t2 (hr.stays (.of_below hB2)) hp hn hlt hk hd (by omega))
  obtain ⟨hwf, hl, hvs⟩ := node_lt t
  have HT2 := Lib.hid t2
  have HQ3 := Lib.hid q3
  have HQ5 := Lib.hid q5
  have HB2 := Lib.hid hB2
  have HD := Lib.hid hd
  have HN := Lib.hid hn
  have HWF := Lib.hid hwf
  obtain ⟨res, hres⟩ : ∃ d, d = (Cnt.each s k vars).length := ⟨_, rfl⟩
  rw [← hres]
  have HRES := Lib.hid hres
  clear hres
  have hmm := @run_makeMap Tryz.prog
  have hmf : ∀ (fn : Fn) (first cap : Array Value) (w : World), (Instr.makeFunc fn first cap).run Tryz.prog w = .ok (.func fn first cap) w := fun _ _ _ _ => rfl
  clear t t2 q3 q5 hr hd hn hlt hB2 hwf hp
  go_enter Tryz.func97, Tryz.ntmps97
  go_wp2_with fail
  refine HW.out.mono ?_
  rintro e w1 ⟨mb, n, rfl, hat, hb1, hmb⟩
  have HAT := Lib.hid hat
  have HB1 := Lib.hid hb1
  clear hat hb1
  go_wp2_with fail
  have s1 : (w1.alloc (.cells #[.map (some mb)] 192)).heap.size = w1.heap.size + 1 := by simp
  have s2 : ((w1.alloc (.cells #[.map (some mb)] 192)).alloc (.cells #[.func (.func 137) #[] #[.pointer (some ⟨w.heap.size + 1, 0, none⟩), .pointer (some ⟨w.heap.size, 0, none⟩), .pointer (some ⟨w1.heap.size, 0, none⟩)]] 201)).heap.size = w1.heap.size + 1 + 1 := by simp
  have s3 : (((w1.alloc (.cells #[.map (some mb)] 192)).alloc (.cells #[.func (.func 137) #[] #[.pointer (some ⟨w.heap.size + 1, 0, none⟩), .pointer (some ⟨w.heap.size, 0, none⟩), .pointer (some ⟨w1.heap.size, 0, none⟩)]] 201)).alloc (.map #[] 0)).heap.size = w1.heap.size + 1 + 1 + 1 := by simp
  have s4 : ((((w1.alloc (.cells #[.map (some mb)] 192)).alloc (.cells #[.func (.func 137) #[] #[.pointer (some ⟨w.heap.size + 1, 0, none⟩), .pointer (some ⟨w.heap.size, 0, none⟩), .pointer (some ⟨w1.heap.size, 0, none⟩)]] 201)).alloc (.map #[] 0)).alloc (.cells #[.map (some (w1.heap.size + 1 + 1))] 192)).heap.size = w1.heap.size + 1 + 1 + 1 + 1 := by simp
  have q8 := Blk.new w1 192 #[.map (some mb)]
  have q10 := Blk.new (w1.alloc (.cells #[.map (some mb)] 192)) 201 #[.func (.func 137) #[] #[.pointer (some ⟨w.heap.size + 1, 0, none⟩), .pointer (some ⟨w.heap.size, 0, none⟩), .pointer (some ⟨w1.heap.size, 0, none⟩)]]
  have m := IMap.made ((w1.alloc (.cells #[.map (some mb)] 192)).alloc (.cells #[.func (.func 137) #[] #[.pointer (some ⟨w.heap.size + 1, 0, none⟩), .pointer (some ⟨w.heap.size, 0, none⟩), .pointer (some ⟨w1.heap.size, 0, none⟩)]] 201))
  have q11 := Blk.new (((w1.alloc (.cells #[.map (some mb)] 192)).alloc (.cells #[.func (.func 137) #[] #[.pointer (some ⟨w.heap.size + 1, 0, none⟩), .pointer (some ⟨w.heap.size, 0, none⟩), .pointer (some ⟨w1.heap.size, 0, none⟩)]] 201)).alloc (.map #[] 0)) 192 #[.map (some (w1.heap.size + 1 + 1))]
  have q12 := Blk.new ((((w1.alloc (.cells #[.map (some mb)] 192)).alloc (.cells #[.func (.func 137) #[] #[.pointer (some ⟨w.heap.size + 1, 0, none⟩), .pointer (some ⟨w.heap.size, 0, none⟩), .pointer (some ⟨w1.heap.size, 0, none⟩)]] 201)).alloc (.map #[] 0)).alloc (.cells #[.map (some (w1.heap.size + 1 + 1))] 192)) 201 #[.func (.func 139) #[] #[.pointer (some ⟨w1.heap.size + 1 + 1 + 1, 0, none⟩), .pointer (some ⟨w.heap.size, 0, none⟩), .pointer (some ⟨w1.heap.size + 1, 0, none⟩), .pointer (some ⟨w1.heap.size + 1 + 1 + 1 + 1, 0, none⟩)]]
  rw [s1] at q10
  rw [s2] at m
  rw [s3] at q11
  rw [s4] at q12
  have hB5 : Below w1.heap.size w1 (((((w1.alloc (.cells #[.map (some mb)] 192)).alloc (.cells #[.func (.func 137) #[] #[.pointer (some ⟨w.heap.size + 1, 0, none⟩), .pointer (some ⟨w.heap.size, 0, none⟩), .pointer (some ⟨w1.heap.size, 0, none⟩)]] 201)).alloc (.map #[] 0)).alloc (.cells #[.map (some (w1.heap.size + 1 + 1))] 192)).alloc (.cells #[.func (.func 139) #[] #[.pointer (some ⟨w1.heap.size + 1 + 1 + 1, 0, none⟩), .pointer (some ⟨w.heap.size, 0, none⟩), .pointer (some ⟨w1.heap.size + 1, 0, none⟩), .pointer (some ⟨w1.heap.size + 1 + 1 + 1 + 1, 0, none⟩)]] 201)) := (((((Below.refl _ w1).alloc (Nat.le_refl _) _).alloc (by simp) _).alloc (by simp; omega) _).alloc (by simp; omega) _).alloc (by simp; omega) _
  have m5 : IMap (((((w1.alloc (.cells #[.map (some mb)] 192)).alloc (.cells #[.func (.func 137) #[] #[.pointer (some ⟨w.heap.size + 1, 0, none⟩), .pointer (some ⟨w.heap.size, 0, none⟩), .pointer (some ⟨w1.heap.size, 0, none⟩)]] 201)).alloc (.map #[] 0)).alloc (.cells #[.map (some (w1.heap.size + 1 + 1))] 192)).alloc (.cells #[.func (.func 139) #[] #[.pointer (some ⟨w1.heap.size + 1 + 1 + 1, 0, none⟩), .pointer (some ⟨w.heap.size, 0, none⟩), .pointer (some ⟨w1.heap.size + 1, 0, none⟩), .pointer (some ⟨w1.heap.size + 1 + 1 + 1 + 1, 0, none⟩)]] 201)) (w1.heap.size + 1 + 1) 0 (fun _ => none) := m.kept (by
    rw [Below.heap_alloc _ _ _ (by rw [s4]; omega), Below.heap_alloc _ _ _ (by rw [s3]; omega)])
  have hsz := HB2.out.size
  have hsz1 := HB1.out.size
  have hmbl := HAT.out.lt
  rw [← sortN_length vars] at HAT
  have hst : SatSt h ⟨w1.heap.size + 1 + 1 + 1, w.heap.size, w1.heap.size + 1, w1.heap.size + 1 + 1 + 1 + 1, w.heap.size + 1, w1.heap.size, w1.heap.size + 1 + 1, mb, n, p, cap⟩ st F s (sortN vars) (((((w1.alloc (.cells #[.map (some mb)] 192)).alloc (.cells #[.func (.func 137) #[] #[.pointer (some ⟨w.heap.size + 1, 0, none⟩), .pointer (some ⟨w.heap.size, 0, none⟩), .pointer (some ⟨w1.heap.size, 0, none⟩)]] 201)).alloc (.map #[] 0)).alloc (.cells #[.map (some (w1.heap.size + 1 + 1))] 192)).alloc (.cells #[.func (.func 139) #[] #[.pointer (some ⟨w1.heap.size + 1 + 1 + 1, 0, none⟩), .pointer (some ⟨w.heap.size, 0, none⟩), .pointer (some ⟨w1.heap.size + 1, 0, none⟩), .pointer (some ⟨w1.heap.size + 1 + 1 + 1 + 1, 0, none⟩)]] 201)) (fun _ => none) := by
    refine ⟨q11.alloc _, (HQ3.out.below HB1.out HQ3.out.lt).below hB5 (HQ3.out.below HB1.out HQ3.out.lt).lt, (((q10.alloc _).alloc _).alloc _), q12, ?_, ((((q8.alloc _).alloc _).alloc _).alloc _), HAT.out.kept (hB5.block _ hmbl), (HT2.out.below HB1.out).below hB5, ?_, fun x v hx => (by cases hx), (by show mb ≠ w1.heap.size + 1 + 1; omega)⟩
    · rw [sortN_length]
      exact (HQ5.out.below HB1.out HQ5.out.lt).below hB5 (HQ5.out.below HB1.out HQ5.out.lt).lt
    · have e0 : seenN (fun x => ((fun _ => none : Nat → Option Nat) x).isSome) s.l.length = 0 := seenN_none _
      rw [e0]; exact m5
  generalize (((((w1.alloc (.cells #[.map (some mb)] 192)).alloc (.cells #[.func (.func 137) #[] #[.pointer (some ⟨w.heap.size + 1, 0, none⟩), .pointer (some ⟨w.heap.size, 0, none⟩), .pointer (some ⟨w1.heap.size, 0, none⟩)]] 201)).alloc (.map #[] 0)).alloc (.cells #[.map (some (w1.heap.size + 1 + 1))] 192)).alloc (.cells #[.func (.func 139) #[] #[.pointer (some ⟨w1.heap.size + 1 + 1 + 1, 0, none⟩), .pointer (some ⟨w.heap.size, 0, none⟩), .pointer (some ⟨w1.heap.size + 1, 0, none⟩), .pointer (some ⟨w1.heap.size + 1 + 1 + 1 + 1, 0, none⟩)]] 201)) = w5 at *
  clear q8 q10 m q11 q12 m5 s1 s2 s3 s4
  have hsv := sortN_lt HN.out
  have hd' : St.Dep (s.ev k) (fun u => decide (u ∈ sortN vars)) := HD.out.mono fun u hu => by simp at hu ⊢; exact sortN_mem.2 hu
  have hl16 : (sortN vars).length ≤ 16 := by rw [sortN_length]; exact hlen
  have c12 := hst.q12
  have c10 := hst.q10
  dsimp only at c12 c10
  have hlv := Cnt.level_le (s := s) (sortN vars) k
  have hall := Cnt.below_all HWF.out hsv hk hd'
  rw [Cnt.cntL_perm _ (sortN_perm vars), ← Cnt.length_each] at hall
  obtain ⟨pk, hpk⟩ : ∃ d, d = 2 ^ Cnt.level s (sortN vars) k := ⟨_, rfl⟩
  have hpk2 : pk ≤ 65536 := by rw [hpk]; exact (pow16 (by omega)).1
  have hbk2 : Cnt.below s (sortN vars) k ≤ 65536 := Nat.le_trans (Cnt.below_le s _ _) (pow16 (by omega)).1
  rw [← hpk] at hall
  rw [← HRES.out] at hall
  have HWK : Hid (∀ W, W.heap = w5.heap → Calls Tryz.prog 139 #[.int .i64 k, .pointer (some ⟨w1.heap.size + 1 + 1 + 1, 0, none⟩), .pointer (some ⟨w.heap.size, 0, none⟩), .pointer (some ⟨w1.heap.size + 1, 0, none⟩), .pointer (some ⟨w1.heap.size + 1 + 1 + 1 + 1, 0, none⟩)] W (SatP h ⟨w1.heap.size + 1 + 1 + 1, w.heap.size, w1.heap.size + 1, w1.heap.size + 1 + 1 + 1 + 1, w.heap.size + 1, w1.heap.size, w1.heap.size + 1 + 1, mb, n, p, cap⟩ st F s (sortN vars) (fun _ => none) k W)) := fun W e => sat_walk hsv hl16 k W _ (hst.of_heap e) hk hd'
  have HLK : Hid (∀ W fs', SatSt h ⟨w1.heap.size + 1 + 1 + 1, w.heap.size, w1.heap.size + 1, w1.heap.size + 1 + 1 + 1 + 1, w.heap.size + 1, w1.heap.size, w1.heap.size + 1 + 1, mb, n, p, cap⟩ st F s (sortN vars) W fs' → Calls Tryz.prog 137 #[.int .i64 k, .pointer (some ⟨w.heap.size + 1, 0, none⟩), .pointer (some ⟨w.heap.size, 0, none⟩), .pointer (some ⟨w1.heap.size, 0, none⟩)] W fun e w' => e = .returned (.int .i64 (Cnt.level s (sortN vars) k : Nat)) ∧ ∃ n, w' = W.drewN n) := fun W fs' t' => sat_level t' hk hd'
  have HPK : Hid (∀ W, Calls Tryz.prog 142 #[.int .i64 (Cnt.level s (sortN vars) k : Nat)] W fun e w' => e = .returned (.int .i64 (pk : Nat)) ∧ W = w') := fun W => by rw [hpk]; exact pow_any (by omega)
  have HMK : Hid (∀ W, Calls Tryz.prog 141 #[.int .i64 (Cnt.below s (sortN vars) k : Nat), .int .i64 (pk : Nat)] W fun e w' => e = .returned (.int .i64 (res : Nat)) ∧ W = w') := fun W => by rw [← hall]; exact mul_any (by omega) (by omega)
  have HB5 := Lib.hid hB5
  clear hst hB5 hsv hd' hall hpk
  go_region_held3 (fun w' => w'.cell? ⟨w1.heap.size + 1, 0, none⟩ = some (.func (.func 137) #[] #[.pointer (some ⟨w.heap.size + 1, 0, none⟩), .pointer (some ⟨w.heap.size, 0, none⟩), .pointer (some ⟨w1.heap.size, 0, none⟩)]) ∧ w'.cell? ⟨w1.heap.size + 1 + 1 + 1 + 1, 0, none⟩ = some (.func (.func 139) #[] #[.pointer (some ⟨w1.heap.size + 1 + 1 + 1, 0, none⟩), .pointer (some ⟨w.heap.size, 0, none⟩), .pointer (some ⟨w1.heap.size + 1, 0, none⟩), .pointer (some ⟨w1.heap.size + 1 + 1 + 1 + 1, 0, none⟩)]))
    (first | exact ⟨c10, c12⟩ | exact ⟨r10, r12⟩)
    (first
      | (go_at_call 139; refine (HWK.out (w5.drewN _) rfl).mono ?_; rintro e w6 ⟨rfl, fs6, st6, k6, _⟩; have r10 := st6.q10; have r12 := st6.q12; dsimp only at r10 r12; have HST6 := Lib.hid st6; have HK6 := Lib.hid k6; clear st6 k6 HWK)
      | (go_at_call 137; (first | refine (HLK.out _ fs6 HST6.out).mono ?_ | refine (HLK.out (w6.drewN _) fs6 (HST6.out.of_heap rfl)).mono ?_); rintro e w7 ⟨rfl, n7, rfl⟩; clear HLK)
      | (go_at_call 142; refine (HPK.out _).mono ?_; rintro e w7 ⟨rfl, rfl⟩)
      | (go_at_call 141; refine (HMK.out _).mono ?_; rintro e w7 ⟨rfl, rfl⟩))
  go_wp2
  go_ret2
  refine ⟨rfl, ?_⟩
  have h5 : Below w.heap.size w w5 := (HB2.out.trans (HB1.out.mono hsz)).trans (HB5.out.mono (by omega))
  have hx : Keep [] w w6 := ((Keep.of_below h5).drewN _).trans HK6.out (fun x hx => by right; simp at hx; omega)
  exact (hx.drewN _).below
end Go.Proofs.YtndefnfknhjfkaaGreatDoor

namespace Go.Proofs.YtndefnfknhjfkaaGreatDoor
open Go.RowKit Go.Proofs.Osier

theorem intList_cells {w : World} {g : Nat} {l : List Nat} (hr : ∀ (i x : Nat), l[i]? = some x → w.cell? ⟨g, i, none⟩ = some (Value.int .i64 (x : Int))) :
    ∀ j u, (l.map fun x : Nat => Value.int .i64 (x : Int))[j]? = some u → w.cell? ((⟨g, 0, none⟩ : Addr).add j) = some u := by
  intro j u hj
  have hadd : (⟨g, 0, none⟩ : Addr).add j = ⟨g, j, none⟩ := by unfold Addr.add; split <;> simp_all
  rw [hadd]
  rw [List.getElem?_map] at hj
  cases hx : l[j]? with
  | none => rw [hx] at hj; cases hj
  | some x =>
    rw [hx] at hj
    simp at hj
    rw [← hj]; exact hr j x hx

theorem eq_nil34 (a : Addr) (m cap : Nat) (w : World) : (binOp .eql 34 (.slice (some a) m cap) (.slice none 0 0)).run Tryz.prog w = .ok (.bool false) w := by kernel_rfl

theorem emptyRow (w : World) : (w.alloc (.cells #[] 3)).ownsRow w.heap.size 3 1 (.slice (some ⟨w.heap.size, 0, none⟩) 0 0) 0 [] :=
  ⟨rfl, .inr ⟨w.heap.size, 0, #[], rfl, Nat.le_refl _, Blk.new w 3 #[], Nat.le_refl _, by unfold maxLen; omega, rfl, rfl⟩⟩

set_option maxRecDepth 100000 in
theorem clone_any {w : World} {g cap : Nat} {l : List Nat} (hr : ∀ (i x : Nat), l[i]? = some x → w.cell? ⟨g, i, none⟩ = some (Value.int .i64 (x : Int))) (hg : g < w.heap.size) (hlen : l.length ≤ 1000000) :
    Calls Tryz.prog 82 #[.slice (some ⟨g, 0, none⟩) l.length cap] w fun e w' => ∃ v, e = .returned v ∧ w'.ownsRow w.heap.size 3 1 v l.length (l.map fun x : Nat => Value.int .i64 (x : Int)) ∧ Below w.heap.size w w' := by
  have hB1 : Below w.heap.size w (w.alloc (.cells #[] 3)) := (Below.refl _ _).alloc (Nat.le_refl _) _
  have hcells : ∀ j u, (l.map fun x : Nat => Value.int .i64 (x : Int))[j]? = some u → (w.alloc (.cells #[] 3)).cell? ((⟨g, 0, none⟩ : Addr).add j) = some u := intList_cells (fun i x hx => (hB1.cell (p := ⟨g, i, none⟩) hg).trans (hr i x hx))
  have hown := emptyRow w
  obtain ⟨i0, hi0, hz0, hz1, hz2⟩ := info_parts info3e
  obtain ⟨m, hm⟩ : ∃ m, m = l.length := ⟨_, rfl⟩
  have HM := Lib.hid hm
  have HB1 := Lib.hid hB1
  rw [← hm] at hlen ⊢
  clear hm hr hB1
  have heq := eq_nil34 ⟨g, 0, none⟩ m cap w
  go_enter Tryz.func82, Tryz.ntmps82
  go_wp2_with (at_builtin; refine wpList_append_own_at _ rfl _ _ 34 rfl w.heap.size 3 i0 (.int .i64 0) 1 8 Tryz.underlying34 hi0 hz0 hz1 hz2 rfl (by decide) _ _ _ rfl hown ⟨g, 0, none⟩ m cap (l.map fun x : Nat => Value.int .i64 (x : Int)) rfl ?c0 hcells ?c2 ?c3 ?c4 ?c5 ?_)
  case c0 => simp [HM.out]
  case c2 => intro u hu; simp at hu; obtain ⟨x, _, rfl⟩ := hu; rfl
  case c3 => unfold maxLen; omega
  case c4 => omega
  case c5 => simp
  intro v' w5 hown5 hgrow5 hnil5 hat5
  have HO := Lib.hid hown5
  have HB5 : Hid (Below w.heap.size w w5) := HB1.out.grown hgrow5 HB1.out.size (fun k e => by simp [Value.ownBlock] at e; omega)
  clear hown5 hgrow5 hnil5 hat5 hown hcells hz0 hz1 hz2 hi0
  go_wp2
  go_ret
  exact ⟨v', rfl, by simpa using HO.out, HB5.out⟩
end Go.Proofs.YtndefnfknhjfkaaGreatDoor
