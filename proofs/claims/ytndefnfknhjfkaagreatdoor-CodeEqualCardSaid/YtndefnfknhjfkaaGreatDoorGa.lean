/- Plain laws: decision diagrams, a hash table, counts, tuples, where bits stand. -/

/- Plain theory of reduced ordered decision diagrams kept as a growing list of nodes: no program in sight. -/
namespace Go.Proofs.Osier

structure Nd where
  v : Nat
  lo : Nat
  hi : Nat
  deriving DecidableEq, Repr

abbrev Env := Nat → Bool

/-- A store of nodes: the terminals 0 and 1 stand first. -/
structure St where
  vars : Nat
  budget : Nat
  l : List Nd

namespace St

def nd (s : St) (k : Nat) : Nd := s.l.getD k ⟨0, 0, 0⟩

/-- What a node says, with so many steps. -/
def evf (l : List Nd) : Nat → Nat → Env → Bool
  | 0, k, _ => k == 1
  | f + 1, k, e => if k < 2 then k == 1 else evf l f (if e (l.getD k ⟨0, 0, 0⟩).v then (l.getD k ⟨0, 0, 0⟩).hi else (l.getD k ⟨0, 0, 0⟩).lo) e

def ev (s : St) (k : Nat) (e : Env) : Bool := evf s.l k k e

structure WF (s : St) : Prop where
  len2 : 2 ≤ s.l.length
  t0 : s.l[0]? = some ⟨s.vars, 0, 0⟩
  t1 : s.l[1]? = some ⟨s.vars, 1, 1⟩
  ok : ∀ k, 2 ≤ k → k < s.l.length → (s.nd k).v < s.vars ∧ (s.nd k).lo < k ∧ (s.nd k).hi < k ∧ (s.nd k).lo ≠ (s.nd k).hi ∧
    (s.nd k).v < (s.nd (s.nd k).lo).v ∧ (s.nd k).v < (s.nd (s.nd k).hi).v
  uniq : ∀ j k, 2 ≤ j → 2 ≤ k → j < s.l.length → k < s.l.length → s.nd j = s.nd k → j = k

theorem nd0 {s : St} (h : s.WF) : s.nd 0 = ⟨s.vars, 0, 0⟩ := by simp [nd, List.getD, h.t0]
theorem nd1 {s : St} (h : s.WF) : s.nd 1 = ⟨s.vars, 1, 1⟩ := by simp [nd, List.getD, h.t1]

theorem v_le {s : St} (h : s.WF) {k : Nat} (hk : k < s.l.length) : (s.nd k).v ≤ s.vars := by
  match k, hk with
  | 0, _ => simp [nd0 h]
  | 1, _ => simp [nd1 h]
  | k + 2, hk => exact Nat.le_of_lt (h.ok (k + 2) (by omega) hk).1

theorem lt2 {k : Nat} (h : ¬ 2 ≤ k) : k = 0 ∨ k = 1 := by omega
theorem v_small {s : St} (h : s.WF) {k : Nat} (hk : ¬ 2 ≤ k) : (s.nd k).v = s.vars := by
  rcases lt2 hk with rfl | rfl
  · rw [nd0 h]
  · rw [nd1 h]

theorem v_lt {s : St} (h : s.WF) {k : Nat} (h2 : 2 ≤ k) (hk : k < s.l.length) : (s.nd k).v < s.vars := (h.ok k h2 hk).1

/-- The steps do not matter, once there are enough. -/
theorem evf_ge {s : St} (h : s.WF) : ∀ (f k : Nat) (e : Env), k < s.l.length → k ≤ f → evf s.l f k e = evf s.l k k e := by
  intro f
  induction f using Nat.strongRecOn with
  | _ f ih =>
    intro k e hk hf
    match k, hk, hf with
    | 0, _, _ => cases f <;> simp [evf]
    | 1, _, _ => cases f <;> simp [evf]
    | k + 2, hk, hf =>
      have hok := h.ok (k + 2) (by omega) hk
      obtain ⟨g, rfl⟩ : ∃ g, f = g + 1 := ⟨f - 1, by omega⟩
      show evf s.l (g + 1) (k + 2) e = evf s.l (k + 1 + 1) (k + 2) e
      have hn : ¬ k + 2 < 2 := by omega
      simp only [evf, if_neg hn]
      change evf s.l g (if e (s.nd (k + 2)).v then (s.nd (k + 2)).hi else (s.nd (k + 2)).lo) e = evf s.l (k + 1) (if e (s.nd (k + 2)).v then (s.nd (k + 2)).hi else (s.nd (k + 2)).lo) e
      generalize hc : (if e (s.nd (k + 2)).v then (s.nd (k + 2)).hi else (s.nd (k + 2)).lo) = c
      have hcl : c < k + 2 := by
        rw [← hc]; split
        · exact hok.2.2.1
        · exact hok.2.1
      rw [ih g (by omega) c e (by omega) (by omega)]
      by_cases hg : k + 1 = g
      · subst hg; rw [ih (k + 1) (by omega) c e (by omega) (by omega)]
      · rw [ih (k + 1) (by omega) c e (by omega) (by omega)]

theorem ev0 (s : St) (e : Env) : s.ev 0 e = false := by simp [ev, evf]
theorem ev1 (s : St) (e : Env) : s.ev 1 e = true := by simp [ev, evf]

theorem ev_node {s : St} (h : s.WF) {k : Nat} (h2 : 2 ≤ k) (hk : k < s.l.length) (e : Env) :
    s.ev k e = if e (s.nd k).v then s.ev (s.nd k).hi e else s.ev (s.nd k).lo e := by
  obtain ⟨g, rfl⟩ : ∃ g, k = g + 2 := ⟨k - 2, by omega⟩
  have hok := h.ok (g + 2) (by omega) hk
  have hn : ¬ g + 2 < 2 := by omega
  show evf s.l (g + 1 + 1) (g + 2) e = _
  simp only [evf, if_neg hn]
  change evf s.l (g + 1) (if e (s.nd (g + 2)).v then (s.nd (g + 2)).hi else (s.nd (g + 2)).lo) e = _
  split
  · rw [evf_ge h _ _ e (by omega) (by omega)]; rfl
  · rw [evf_ge h _ _ e (by omega) (by omega)]; rfl

/-- A node's word hangs on the variables from its own on alone. -/
theorem ev_congr {s : St} (h : s.WF) : ∀ (k : Nat) (e e' : Env), k < s.l.length → (∀ u, (s.nd k).v ≤ u → u < s.vars → e u = e' u) → s.ev k e = s.ev k e' := by
  intro k
  induction k using Nat.strongRecOn with
  | _ k ih =>
    intro e e' hk he
    by_cases h2 : k < 2
    · match k, h2 with
      | 0, _ => rw [ev0, ev0]
      | 1, _ => rw [ev1, ev1]
    · have h2 : 2 ≤ k := by omega
      have hok := h.ok k h2 hk
      rw [ev_node h h2 hk, ev_node h h2 hk, he (s.nd k).v (Nat.le_refl _) hok.1]
      rw [ih _ hok.2.2.1 e e' (by omega) (fun u hu hv => he u (by omega) hv), ih _ hok.2.1 e e' (by omega) (fun u hu hv => he u (by omega) hv)]

def set (e : Env) (v : Nat) (b : Bool) : Env := fun u => if u = v then b else e u

theorem ev_set_lt {s : St} (h : s.WF) {k : Nat} (hk : k < s.l.length) {v : Nat} (hv : v < (s.nd k).v) (e : Env) (b : Bool) : s.ev k (set e v b) = s.ev k e :=
  ev_congr h k _ _ hk fun u hu _ => by simp [set, show u ≠ v by omega]

theorem ev_set_hi {s : St} (h : s.WF) {k : Nat} (h2 : 2 ≤ k) (hk : k < s.l.length) (e : Env) : s.ev k (set e (s.nd k).v true) = s.ev (s.nd k).hi e := by
  have hok := h.ok k h2 hk
  rw [ev_node h h2 hk, if_pos (by simp [set]), ev_set_lt h (by omega) hok.2.2.2.2.2]
theorem ev_set_lo {s : St} (h : s.WF) {k : Nat} (h2 : 2 ≤ k) (hk : k < s.l.length) (e : Env) : s.ev k (set e (s.nd k).v false) = s.ev (s.nd k).lo e := by
  have hok := h.ok k h2 hk
  rw [ev_node h h2 hk, if_neg (by simp [set]), ev_set_lt h (by omega) hok.2.2.2.2.1]

/-- Each function has one node. -/
theorem canon_lt {s : St} (h : s.WF) : ∀ (n j k : Nat), j < n → k < n → j < s.l.length → k < s.l.length → (∀ e, s.ev j e = s.ev k e) → j = k := by
  intro n
  induction n with
  | zero => intro j k hj; omega
  | succ n ih =>
    have key : ∀ j k, j < n + 1 → j < s.l.length → k < s.l.length → (∀ e, s.ev j e = s.ev k e) → 2 ≤ j → (s.nd j).v < (s.nd k).v → j = k := by
      intro j k hn hj hk he h2 hv
      have hok := h.ok j h2 hj
      exfalso
      refine hok.2.2.2.1 (ih _ _ (by omega) (by omega) (by omega) (by omega) fun e => ?_)
      rw [← ev_set_lo h h2 hj, ← ev_set_hi h h2 hj, he, he, ev_set_lt h hk hv, ev_set_lt h hk hv]
    intro j k hjn hkn hj hk he
    rcases Nat.lt_trichotomy (s.nd j).v (s.nd k).v with hv | hv | hv
    · by_cases h2 : 2 ≤ j
      · exact key j k hjn hj hk he h2 hv
      · exfalso
        have := v_small h h2
        have := v_le h hk
        omega
    · by_cases h2 : 2 ≤ j
      · by_cases h2k : 2 ≤ k
        · have hoj := h.ok j h2 hj
          have hok := h.ok k h2k hk
          refine h.uniq j k h2 h2k hj hk ?_
          have hlo : (s.nd j).lo = (s.nd k).lo := ih _ _ (by omega) (by omega) (by omega) (by omega) fun e => by
            rw [← ev_set_lo h h2 hj, ← ev_set_lo h h2k hk, he, hv]
          have hhi : (s.nd j).hi = (s.nd k).hi := ih _ _ (by omega) (by omega) (by omega) (by omega) fun e => by
            rw [← ev_set_hi h h2 hj, ← ev_set_hi h h2k hk, he, hv]
          cases hnj : s.nd j; cases hnk : s.nd k
          simp_all
        · exfalso
          have h1 := v_lt h h2 hj
          have := v_small h h2k
          omega
      · by_cases h2k : 2 ≤ k
        · exfalso
          have h1 := v_lt h h2k hk
          have := v_small h h2
          omega
        · have e0 := he (fun _ => false)
          rcases lt2 h2 with rfl | rfl <;> rcases lt2 h2k with rfl | rfl
          · rfl
          · simp [ev0, ev1] at e0
          · simp [ev0, ev1] at e0
          · rfl
    · by_cases h2 : 2 ≤ k
      · exact (key k j hkn hk hj (fun e => (he e).symm) h2 hv).symm
      · exfalso
        have := v_small h h2
        have := v_le h hj
        omega

theorem canon {s : St} (h : s.WF) {j k : Nat} (hj : j < s.l.length) (hk : k < s.l.length) (he : ∀ e, s.ev j e = s.ev k e) : j = k :=
  canon_lt h (j + k + 1) j k (by omega) (by omega) hj hk he

/-- The store has grown. -/
structure Le (s t : St) : Prop where
  vars : t.vars = s.vars
  budget : t.budget = s.budget
  pre : ∃ m, t.l = s.l ++ m

theorem Le.refl (s : St) : s.Le s := ⟨rfl, rfl, [], by simp⟩
theorem Le.trans {s t u : St} (h : s.Le t) (k : t.Le u) : s.Le u := by
  obtain ⟨m, hm⟩ := h.pre
  obtain ⟨n, hn⟩ := k.pre
  exact ⟨k.vars.trans h.vars, k.budget.trans h.budget, m ++ n, by rw [hn, hm, List.append_assoc]⟩
theorem Le.len {s t : St} (h : s.Le t) : s.l.length ≤ t.l.length := by
  obtain ⟨m, hm⟩ := h.pre
  rw [hm]; simp
theorem Le.nd {s t : St} (h : s.Le t) {k : Nat} (hk : k < s.l.length) : t.nd k = s.nd k := by
  obtain ⟨m, hm⟩ := h.pre
  simp only [St.nd, List.getD, hm]
  rw [List.getElem?_append_left hk]

theorem Le.ev {s t : St} (h : s.Le t) (hs : s.WF) (ht : t.WF) : ∀ (k : Nat) (e : Env), k < s.l.length → t.ev k e = s.ev k e := by
  intro k
  induction k using Nat.strongRecOn with
  | _ k ih =>
    intro e hk
    have hl := h.len
    by_cases h2 : 2 ≤ k
    · have hok := hs.ok k h2 hk
      rw [ev_node hs h2 hk, ev_node ht h2 (by omega), h.nd hk, ih _ hok.2.2.1 e (by omega), ih _ hok.2.1 e (by omega)]
    · rcases lt2 h2 with rfl | rfl
      · rw [ev0, ev0]
      · rw [ev1, ev1]

/-- One node more. -/
def push (s : St) (n : Nd) : St := { s with l := s.l ++ [n] }

theorem push_le (s : St) (n : Nd) : s.Le (s.push n) := ⟨rfl, rfl, [n], rfl⟩

theorem push_nd_old (s : St) (n : Nd) {k : Nat} (hk : k < s.l.length) : (s.push n).nd k = s.nd k := (push_le s n).nd hk
theorem push_nd_new (s : St) (n : Nd) : (s.push n).nd s.l.length = n := by simp [nd, push, List.getD]

theorem push_wf {s : St} (h : s.WF) {n : Nd} (hv : n.v < s.vars) (hlo : n.lo < s.l.length) (hhi : n.hi < s.l.length) (hne : n.lo ≠ n.hi)
    (hvl : n.v < (s.nd n.lo).v) (hvh : n.v < (s.nd n.hi).v) (hnew : ∀ k, 2 ≤ k → k < s.l.length → s.nd k ≠ n) : (s.push n).WF := by
  have hlen : (s.push n).l.length = s.l.length + 1 := by simp [push]
  have h2 := h.len2
  refine ⟨by omega, ?_, ?_, ?_, ?_⟩
  · show (s.l ++ [n])[0]? = _
    rw [List.getElem?_append_left (by omega)]; exact h.t0
  · show (s.l ++ [n])[1]? = _
    rw [List.getElem?_append_left (by omega)]; exact h.t1
  · intro k hk2 hk
    by_cases hk' : k < s.l.length
    · have hok := h.ok k hk2 hk'
      rw [push_nd_old s n hk', push_nd_old s n (show (s.nd k).lo < s.l.length by omega), push_nd_old s n (show (s.nd k).hi < s.l.length by omega)]
      exact hok
    · obtain rfl : k = s.l.length := by omega
      rw [push_nd_new, push_nd_old s n hlo, push_nd_old s n hhi]
      exact ⟨hv, hlo, hhi, hne, hvl, hvh⟩
  · intro j k hj2 hk2 hj hk he
    by_cases hj' : j < s.l.length
    · by_cases hk' : k < s.l.length
      · rw [push_nd_old s n hj', push_nd_old s n hk'] at he
        exact h.uniq j k hj2 hk2 hj' hk' he
      · obtain rfl : k = s.l.length := by omega
        rw [push_nd_old s n hj', push_nd_new] at he
        exact absurd he (hnew j hj2 hj')
    · obtain rfl : j = s.l.length := by omega
      by_cases hk' : k < s.l.length
      · rw [push_nd_old s n hk', push_nd_new] at he
        exact absurd he.symm (hnew k hk2 hk')
      · omega

/-- How many nodes ask a variable below L; and from L on. -/
def up (s : St) (L : Nat) : Nat := ((s.l.drop 2).filter fun n => decide (n.v < L)).length
def low (s : St) (L : Nat) : Nat := ((s.l.drop 2).filter fun n => !decide (n.v < L)).length

theorem length_up_low (s : St) (h : 2 ≤ s.l.length) (L : Nat) : s.l.length = 2 + s.up L + s.low L := by
  have : ∀ l : List Nd, l.length = (l.filter fun n => decide (n.v < L)).length + (l.filter fun n => !decide (n.v < L)).length := by
    intro l
    induction l with
    | nil => rfl
    | cons a l ih => by_cases ha : a.v < L <;> simp [ha, ih] <;> omega
  have h1 := this (s.l.drop 2)
  rw [List.length_drop] at h1
  unfold up low
  omega

theorem up_push (s : St) (h : 2 ≤ s.l.length) (n : Nd) (L : Nat) : (s.push n).up L = s.up L + if n.v < L then 1 else 0 := by
  unfold up push
  simp only [List.drop_append_of_le_length h, List.filter_append, List.length_append]
  by_cases hn : n.v < L <;> simp [hn]

theorem Le.up {s t : St} (h : s.Le t) (h2 : 2 ≤ s.l.length) (L : Nat) : s.up L ≤ t.up L := by
  obtain ⟨m, hm⟩ := h.pre
  unfold St.up
  rw [hm, List.drop_append_of_le_length h2, List.filter_append, List.length_append]
  omega

/-- So many nodes from L on, at most, in whatever store of so many variables. -/
def LowAt (vars L B : Nat) : Prop := ∀ s : St, s.WF → s.vars = vars → s.low L ≤ B

theorem lowAt_all (vars : Nat) : LowAt vars vars 0 := by
  intro s h hv
  have hs : (s.l.drop 2).filter (fun n => !decide (n.v < vars)) = [] := by
    rw [List.filter_eq_nil_iff]
    intro a ha
    obtain ⟨i, hi, rfl⟩ := List.getElem_of_mem ha
    rw [List.length_drop] at hi
    have := (h.ok (i + 2) (by omega) (by omega)).1
    simp only [nd, List.getD, List.getElem?_eq_getElem (show i + 2 < s.l.length by omega), Option.getD_some] at this
    rw [List.getElem_drop]
    simp only [Nat.add_comm 2 i]
    simp; omega
  simp [low, hs]

/-- Where a node stands; none: it is not there. -/
def find (s : St) (n : Nd) : Option Nat := (List.range s.l.length).find? fun k => decide (2 ≤ k) && decide (s.nd k = n)

theorem find_some {s : St} {n : Nd} {k : Nat} (h : s.find n = some k) : 2 ≤ k ∧ k < s.l.length ∧ s.nd k = n := by
  have h1 := List.find?_some h
  have h2 := List.mem_of_find?_eq_some h
  simp at h1 h2
  exact ⟨h1.1, h2, h1.2⟩
theorem find_none {s : St} {n : Nd} (h : s.find n = none) : ∀ k, 2 ≤ k → k < s.l.length → s.nd k ≠ n := by
  intro k h2 hk he
  have := List.find?_eq_none.1 h k (List.mem_range.2 hk)
  simp [h2, he] at this
theorem find_eq {s : St} (h : s.WF) {k : Nat} (h2 : 2 ≤ k) (hk : k < s.l.length) : s.find (s.nd k) = some k := by
  cases hf : s.find (s.nd k) with
  | none => exact absurd rfl (find_none hf k h2 hk)
  | some j =>
    obtain ⟨a, b, c⟩ := find_some hf
    rw [h.uniq j k a h2 b hk c]

/-- What Mk answers, and what it leaves. -/
def mkn (s : St) (v lo hi : Nat) : Nat × St :=
  if lo = hi then (lo, s) else match s.find ⟨v, lo, hi⟩ with
  | some k => (k, s)
  | none => (s.l.length, s.push ⟨v, lo, hi⟩)

/-- A call's answer: a node that says f and asks nothing ahead of t; so many nodes more below L. -/
structure Gives (s : St) (L n : Nat) (s' : St) (k : Nat) (f : Env → Bool) (t : Nat) : Prop where
  le : s.Le s'
  wf : s'.WF
  lt : k < s'.l.length
  ev : ∀ e, s'.ev k e = f e
  top : t ≤ (s'.nd k).v
  cost : s'.up L ≤ s.up L + n

/-- What may be made of two nodes. -/
structure MkOk (s : St) (v lo hi : Nat) : Prop where
  vv : v < s.vars
  llo : lo < s.l.length
  lhi : hi < s.l.length
  vlo : v < (s.nd lo).v
  vhi : v < (s.nd hi).v

theorem mkn_eq (s : St) (v lo : Nat) : s.mkn v lo lo = (lo, s) := by simp [mkn]
theorem mkn_found {s : St} {v lo hi k : Nat} (hne : lo ≠ hi) (hf : s.find ⟨v, lo, hi⟩ = some k) : s.mkn v lo hi = (k, s) := by simp [mkn, hne, hf]
theorem mkn_new {s : St} {v lo hi : Nat} (hne : lo ≠ hi) (hf : s.find ⟨v, lo, hi⟩ = none) : s.mkn v lo hi = (s.l.length, s.push ⟨v, lo, hi⟩) := by simp [mkn, hne, hf]

theorem mk_gives {s : St} (h : s.WF) {v lo hi : Nat} (m : s.MkOk v lo hi) (L : Nat) :
    s.Gives L (if v < L then 1 else 0) (s.mkn v lo hi).2 (s.mkn v lo hi).1 (fun e => if e v then s.ev hi e else s.ev lo e) v := by
  have hl2 := h.len2
  by_cases hne : lo = hi
  · subst hne
    rw [mkn_eq]
    exact ⟨.refl s, h, m.llo, fun e => by simp, Nat.le_of_lt m.vlo, Nat.le_add_right _ _⟩
  · cases hf : s.find ⟨v, lo, hi⟩ with
    | some k =>
      rw [mkn_found hne hf]
      obtain ⟨h2, hk, hn⟩ := find_some hf
      refine ⟨.refl s, h, hk, fun e => ?_, by rw [hn]; exact Nat.le_refl _, Nat.le_add_right _ _⟩
      rw [ev_node h h2 hk, hn]
    | none =>
      rw [mkn_new hne hf]
      have hw := push_wf h (n := ⟨v, lo, hi⟩) m.vv m.llo m.lhi hne m.vlo m.vhi (find_none hf)
      refine ⟨push_le s _, hw, by simp [push], fun e => ?_, by rw [push_nd_new]; exact Nat.le_refl _, by rw [up_push s hl2]; exact Nat.le_refl _⟩
      show (s.push _).ev s.l.length e = _
      rw [ev_node hw hl2 (by simp [push]), push_nd_new]
      simp only
      rw [(push_le s _).ev h hw hi e m.lhi, (push_le s _).ev h hw lo e m.llo]

/-- There is room for a node, where there is room for what it costs. -/
theorem mk_room {s : St} (h : s.WF) {v lo hi : Nat} (m : s.MkOk v lo hi) {L B : Nat} (hB : LowAt s.vars L B)
    (hr : s.up L + (if v < L then 1 else 0) + B + 2 ≤ s.budget) : lo = hi ∨ (∃ k, s.find ⟨v, lo, hi⟩ = some k) ∨ s.l.length < s.budget := by
  by_cases he : lo = hi
  · exact .inl he
  cases hf : s.find ⟨v, lo, hi⟩ with
  | some k => exact .inr (.inl ⟨k, rfl⟩)
  | none =>
    refine .inr (.inr ?_)
    have hl2 := h.len2
    have hw := push_wf h (n := ⟨v, lo, hi⟩) m.vv m.llo m.lhi he m.vlo m.vhi (find_none hf)
    have h1 := hB _ hw rfl
    have h2 := length_up_low (s.push ⟨v, lo, hi⟩) (by simp [push]; omega) L
    rw [up_push s hl2] at h2
    have h3 : (s.push ⟨v, lo, hi⟩).l.length = s.l.length + 1 := by simp [push]
    rw [h3] at h2
    simp only at h2
    omega

/-- A function hangs on such variables alone. -/
def Dep (f : Env → Bool) (p : Nat → Bool) : Prop := ∀ e e', (∀ u, p u = true → e u = e' u) → f e = f e'

theorem Dep.mono {f : Env → Bool} {p q : Nat → Bool} (h : Dep f p) (hq : ∀ u, p u = true → q u = true) : Dep f q :=
  fun e e' he => h e e' fun u hu => he u (hq u hu)

theorem dep_const (b : Bool) (p : Nat → Bool) : Dep (fun _ => b) p := fun _ _ _ => rfl
theorem dep_var {p : Nat → Bool} {v : Nat} (h : p v = true) : Dep (fun e => e v) p := fun _ _ he => he v h
theorem Dep.ite {f g k : Env → Bool} {p : Nat → Bool} (h1 : Dep f p) (h2 : Dep g p) (h3 : Dep k p) : Dep (fun e => if f e then g e else k e) p :=
  fun e e' he => by simp only [h1 e e' he, h2 e e' he, h3 e e' he]

theorem Dep.set {f : Env → Bool} {p : Nat → Bool} (h : Dep f p) (v : Nat) (b : Bool) : Dep (fun e => f (St.set e v b)) p :=
  fun e e' he => h _ _ fun u hu => by
    simp only [St.set]
    split
    · rfl
    · exact he u hu

/-- The variable that a node asks is one on which it hangs. -/
theorem dep_mem {s : St} (h : s.WF) {k : Nat} (h2 : 2 ≤ k) (hk : k < s.l.length) {p : Nat → Bool} (hd : Dep (s.ev k) p) : p (s.nd k).v = true := by
  have hok := h.ok k h2 hk
  cases hp : p (s.nd k).v with
  | true => rfl
  | false =>
    exfalso
    refine hok.2.2.2.1 (canon h (by omega) (by omega) fun e => ?_)
    rw [← ev_set_lo h h2 hk, ← ev_set_hi h h2 hk]
    refine hd _ _ fun u hu => ?_
    have : u ≠ (s.nd k).v := fun e => by rw [e, hp] at hu; cases hu
    simp [St.set, this]

theorem dep_lo {s : St} (h : s.WF) {k : Nat} (h2 : 2 ≤ k) (hk : k < s.l.length) {p : Nat → Bool} (hd : Dep (s.ev k) p) : Dep (s.ev (s.nd k).lo) p := by
  intro e e' he
  rw [← ev_set_lo h h2 hk, ← ev_set_lo h h2 hk]
  exact hd.set _ _ e e' he
theorem dep_hi {s : St} (h : s.WF) {k : Nat} (h2 : 2 ≤ k) (hk : k < s.l.length) {p : Nat → Bool} (hd : Dep (s.ev k) p) : Dep (s.ev (s.nd k).hi) p := by
  intro e e' he
  rw [← ev_set_hi h h2 hk, ← ev_set_hi h h2 hk]
  exact hd.set _ _ e e' he

/-- How many such variables there are from t on, below L. -/
def cnt (p : Nat → Bool) (t L : Nat) : Nat := ((List.range L).filter fun u => decide (t ≤ u) && p u).length

theorem filter_le {α : Type} {f g : α → Bool} (l : List α) (h : ∀ u, f u = true → g u = true) : (l.filter f).length ≤ (l.filter g).length := by
  induction l with
  | nil => exact Nat.le_refl _
  | cons a l ih =>
    by_cases hf : f a = true
    · simp [hf, h a hf]; exact ih
    · by_cases hg : g a = true
      · simp [hf, hg]; omega
      · simp [hf, hg]; exact ih

theorem cnt_mono {p q : Nat → Bool} {t t' L : Nat} (ht : t' ≤ t) (hp : ∀ u, p u = true → q u = true) : cnt p t L ≤ cnt q t' L := by
  refine filter_le _ fun u hu => ?_
  simp at hu ⊢
  exact ⟨by omega, hp u hu.2⟩

theorem filter_lt {α : Type} {f g : α → Bool} (l : List α) (h : ∀ u, f u = true → g u = true) {v : α} (hv : v ∈ l) (hf : f v = false) (hg : g v = true) : (l.filter f).length + 1 ≤ (l.filter g).length := by
  induction l with
  | nil => cases hv
  | cons a l ih =>
    cases hv with
    | head =>
      have := filter_le l h
      simp [hf, hg]; omega
    | tail _ hm =>
      have := ih hm
      by_cases hfa : f a = true
      · simp [hfa, h a hfa]; omega
      · by_cases hga : g a = true
        · simp [hfa, hga]; omega
        · simp [hfa, hga]; omega

theorem cnt_step {p : Nat → Bool} {t v L : Nat} (ht : t ≤ v) (hv : v < L) (hp : p v = true) : cnt p (v + 1) L + 1 ≤ cnt p t L := by
  refine filter_lt _ (fun u hu => ?_) (List.mem_range.2 hv) (by simp; omega) (by simp [ht, hp])
  simp at hu ⊢
  exact ⟨by omega, hu.2⟩

theorem cnt_past {p : Nat → Bool} {t L : Nat} (h : L ≤ t) : cnt p t L = 0 := by
  unfold cnt
  rw [List.length_eq_zero_iff, List.filter_eq_nil_iff]
  intro u hu
  have := List.mem_range.1 hu
  simp; omega

/-- How a node goes on at a variable. -/
def cof (s : St) (v : Nat) (b : Bool) (k : Nat) : Nat := if (s.nd k).v = v then (if b then (s.nd k).hi else (s.nd k).lo) else k

theorem ge2_of_v {s : St} (h : s.WF) {k : Nat} (hk : (s.nd k).v < s.vars) : 2 ≤ k := by
  by_cases h2 : 2 ≤ k
  · exact h2
  · have := v_small h h2; omega

theorem cof_lt {s : St} (h : s.WF) {k v : Nat} (b : Bool) (hk : k < s.l.length) (hv : v < s.vars) : s.cof v b k < s.l.length := by
  unfold cof
  split
  · have hok := h.ok k (ge2_of_v h (by omega)) hk
    split <;> omega
  · exact hk

theorem cof_ev {s : St} (h : s.WF) {k v : Nat} (b : Bool) (hk : k < s.l.length) (hv : v < s.vars) (ht : v ≤ (s.nd k).v) (e : Env) :
    s.ev (s.cof v b k) e = s.ev k (set e v b) := by
  unfold cof
  split
  · rename_i hkv
    have h2 := ge2_of_v h (show (s.nd k).v < s.vars by omega)
    subst hkv
    cases b
    · simp [ev_set_lo h h2 hk]
    · simp [ev_set_hi h h2 hk]
  · rw [ev_set_lt h hk (by omega)]

theorem cof_top {s : St} (h : s.WF) {k v : Nat} (b : Bool) (hk : k < s.l.length) (hv : v < s.vars) (ht : v ≤ (s.nd k).v) : v < (s.nd (s.cof v b k)).v := by
  unfold cof
  split
  · have hok := h.ok k (ge2_of_v h (by omega)) hk
    split <;> omega
  · omega

theorem cof_dep {s : St} (h : s.WF) {k v : Nat} (b : Bool) (hk : k < s.l.length) (hv : v < s.vars) (ht : v ≤ (s.nd k).v) {p : Nat → Bool} (hd : Dep (s.ev k) p) : Dep (s.ev (s.cof v b k)) p := by
  intro e e' he
  rw [cof_ev h b hk hv ht, cof_ev h b hk hv ht]
  exact hd.set _ _ e e' he

theorem Le.cof {s t : St} (h : s.Le t) (v : Nat) (b : Bool) {k : Nat} (hk : k < s.l.length) : t.cof v b k = s.cof v b k := by
  simp only [St.cof, h.nd hk]

theorem Gives.mono {s s' : St} {L n n' k t t' : Nat} {f : Env → Bool} (g : s.Gives L n s' k f t) (hn : n ≤ n') (ht : t' ≤ t) : s.Gives L n' s' k f t' :=
  ⟨g.le, g.wf, g.lt, g.ev, Nat.le_trans ht g.top, by have := g.cost; omega⟩
theorem Gives.congr {s s' : St} {L n k t : Nat} {f f' : Env → Bool} (g : s.Gives L n s' k f t) (hf : ∀ e, f e = f' e) : s.Gives L n s' k f' t :=
  ⟨g.le, g.wf, g.lt, fun e => (g.ev e).trans (hf e), g.top, g.cost⟩
theorem Gives.same {s : St} (h : s.WF) {k : Nat} (hk : k < s.l.length) (L : Nat) : s.Gives L 0 s k (s.ev k) (s.nd k).v :=
  ⟨.refl s, h, hk, fun _ => rfl, Nat.le_refl _, Nat.le_refl _⟩

/-- The first variable that one of three nodes asks. -/
def top3 (s : St) (a b c : Nat) : Nat := min (s.nd a).v (min (s.nd b).v (s.nd c).v)

/-- What If-then-else says. -/
def iteF (s : St) (a b c : Nat) : Env → Bool := fun e => if s.ev a e then s.ev b e else s.ev c e

/-- How many nodes an If-then-else may cost. -/
def iteN (p : Nat → Bool) (t L : Nat) : Nat := 2 ^ cnt p t L - 1

theorem iteN_past {p : Nat → Bool} {t L : Nat} (h : L ≤ t) : iteN p t L = 0 := by simp [iteN, cnt_past h]
theorem iteN_mono {p q : Nat → Bool} {t t' L : Nat} (ht : t' ≤ t) (hp : ∀ u, p u = true → q u = true) : iteN p t L ≤ iteN q t' L := by
  have := Nat.pow_le_pow_right (show 0 < 2 by omega) (cnt_mono (L := L) ht hp)
  unfold iteN; omega
theorem iteN_step {p : Nat → Bool} {v L : Nat} (hp : p v = true) : 2 * iteN p (v + 1) L + (if v < L then 1 else 0) ≤ iteN p v L := by
  by_cases hv : v < L
  · have h1 := cnt_step (Nat.le_refl v) hv hp
    have h2 := Nat.pow_le_pow_right (show 0 < 2 by omega) h1
    have h3 : 2 ^ (cnt p (v + 1) L + 1) = 2 * 2 ^ cnt p (v + 1) L := by rw [Nat.pow_succ]; omega
    have h4 : 0 < 2 ^ cnt p (v + 1) L := Nat.pow_pos (by omega)
    rw [if_pos hv]
    unfold iteN; omega
  · rw [if_neg hv, iteN_past (show L ≤ v + 1 by omega)]; omega

/-- The step of If-then-else: out of the two below, and of Mk. -/
theorem ite_step {s s1 s2 : St} (h : s.WF) {a b c v lo hi L n t1 t2 : Nat} (ha : a < s.l.length) (hb : b < s.l.length) (hc : c < s.l.length)
    (hv : v < s.vars) (hva : v ≤ (s.nd a).v) (hvb : v ≤ (s.nd b).v) (hvc : v ≤ (s.nd c).v)
    (g1 : s.Gives L n s1 lo (s.iteF (s.cof v false a) (s.cof v false b) (s.cof v false c)) t1) (ht1 : v < t1)
    (g2 : s1.Gives L n s2 hi (s1.iteF (s1.cof v true a) (s1.cof v true b) (s1.cof v true c)) t2) (ht2 : v < t2) :
    s2.MkOk v lo hi ∧ ∀ n', 2 * n + (if v < L then 1 else 0) ≤ n' → s.Gives L n' (s2.mkn v lo hi).2 (s2.mkn v lo hi).1 (s.iteF a b c) v := by
  have l1 := g1.le
  have l2 := g2.le
  have e1 : ∀ k e, k < s.l.length → s1.ev k e = s.ev k e := fun k e hk => l1.ev h g1.wf k e hk
  have m : s2.MkOk v lo hi := by
    refine ⟨by rw [l2.vars, l1.vars]; exact hv, Nat.lt_of_lt_of_le g1.lt l2.len, g2.lt, ?_, Nat.lt_of_lt_of_le ht2 g2.top⟩
    rw [l2.nd g1.lt]
    exact Nat.lt_of_lt_of_le ht1 g1.top
  refine ⟨m, fun n' hn' => ?_⟩
  have gm := mk_gives g2.wf m L
  refine ⟨(l1.trans l2).trans gm.le, gm.wf, gm.lt, fun e => ?_, gm.top, ?_⟩
  · rw [gm.ev]
    rw [l2.ev g1.wf g2.wf lo e g1.lt, g1.ev, g2.ev]
    simp only [iteF]
    rw [l1.cof v true ha, l1.cof v true hb, l1.cof v true hc, e1 _ e (cof_lt h true ha hv), e1 _ e (cof_lt h true hb hv), e1 _ e (cof_lt h true hc hv)]
    simp only [cof_ev h _ ha hv hva, cof_ev h _ hb hv hvb, cof_ev h _ hc hv hvc]
    by_cases he : e v = true
    · have : set e v true = e := by funext u; simp only [set]; split <;> simp_all
      rw [if_pos he, this]
    · have : set e v false = e := by funext u; simp only [set]; split <;> simp_all
      rw [if_neg he, this]
  · have c1 := g1.cost
    have c2 := g2.cost
    have c3 := gm.cost
    omega

/-- What If-then-else asks: nodes that hang on such variables alone; room. -/
structure IteOk (s : St) (p : Nat → Bool) (L B a b c : Nat) : Prop where
  wf : s.WF
  la : a < s.l.length
  lb : b < s.l.length
  lc : c < s.l.length
  da : Dep (s.ev a) p
  db : Dep (s.ev b) p
  dc : Dep (s.ev c) p
  low : LowAt s.vars L B
  room : s.up L + iteN p (s.top3 a b c) L + B + 2 ≤ s.budget

def IteGives (s : St) (p : Nat → Bool) (L a b c : Nat) (s' : St) (k : Nat) : Prop := s.Gives L (iteN p (s.top3 a b c) L) s' k (s.iteF a b c) (s.top3 a b c)

theorem top3_le (s : St) (a b c : Nat) : s.top3 a b c ≤ (s.nd a).v ∧ s.top3 a b c ≤ (s.nd b).v ∧ s.top3 a b c ≤ (s.nd c).v := by
  unfold top3; omega

theorem IteOk.top {s : St} {p : Nat → Bool} {L B a b c : Nat} (h : s.IteOk p L B a b c) (h2 : 2 ≤ a) : s.top3 a b c < s.vars ∧ p (s.top3 a b c) = true := by
  have hv := v_lt h.wf h2 h.la
  have hle := top3_le s a b c
  refine ⟨by omega, ?_⟩
  have key : s.top3 a b c = (s.nd a).v ∨ s.top3 a b c = (s.nd b).v ∨ s.top3 a b c = (s.nd c).v := by unfold top3; omega
  rcases key with e | e | e
  · rw [e]; exact dep_mem h.wf h2 h.la h.da
  · rw [e]; exact dep_mem h.wf (ge2_of_v h.wf (by omega)) h.lb h.db
  · rw [e]; exact dep_mem h.wf (ge2_of_v h.wf (by omega)) h.lc h.dc

/-- The three below, on either side. -/
theorem IteOk.below {s : St} {p : Nat → Bool} {L B a b c : Nat} (h : s.IteOk p L B a b c) (h2 : 2 ≤ a) (d : Bool) :
    s.top3 a b c < s.top3 (s.cof (s.top3 a b c) d a) (s.cof (s.top3 a b c) d b) (s.cof (s.top3 a b c) d c) ∧
    iteN p (s.top3 (s.cof (s.top3 a b c) d a) (s.cof (s.top3 a b c) d b) (s.cof (s.top3 a b c) d c)) L ≤ iteN p (s.top3 a b c + 1) L ∧
    2 * iteN p (s.top3 a b c + 1) L + (if s.top3 a b c < L then 1 else 0) ≤ iteN p (s.top3 a b c) L := by
  obtain ⟨hv, hp⟩ := h.top h2
  obtain ⟨t1, t2, t3⟩ := top3_le s a b c
  have c1 := cof_top h.wf d h.la hv t1
  have c2 := cof_top h.wf d h.lb hv t2
  have c3 := cof_top h.wf d h.lc hv t3
  have hlt : s.top3 a b c < s.top3 (s.cof (s.top3 a b c) d a) (s.cof (s.top3 a b c) d b) (s.cof (s.top3 a b c) d c) := by
    show _ < min _ (min _ _)
    omega
  exact ⟨hlt, iteN_mono hlt (fun _ h => h), iteN_step hp⟩

theorem IteOk.lo {s : St} {p : Nat → Bool} {L B a b c : Nat} (h : s.IteOk p L B a b c) (h2 : 2 ≤ a) :
    s.IteOk p L B (s.cof (s.top3 a b c) false a) (s.cof (s.top3 a b c) false b) (s.cof (s.top3 a b c) false c) := by
  obtain ⟨hv, hp⟩ := h.top h2
  obtain ⟨t1, t2, t3⟩ := top3_le s a b c
  obtain ⟨_, n1, n2⟩ := h.below h2 false
  have := h.room
  exact ⟨h.wf, cof_lt h.wf _ h.la hv, cof_lt h.wf _ h.lb hv, cof_lt h.wf _ h.lc hv, cof_dep h.wf _ h.la hv t1 h.da, cof_dep h.wf _ h.lb hv t2 h.db,
    cof_dep h.wf _ h.lc hv t3 h.dc, h.low, by omega⟩

theorem Gives.dep {s s' : St} {L n k t : Nat} {f : Env → Bool} (g : s.Gives L n s' k f t) {p : Nat → Bool} (hf : Dep f p) : Dep (s'.ev k) p :=
  fun e e' he => by rw [g.ev, g.ev]; exact hf e e' he

theorem Le.dep {s t : St} (h : s.Le t) (hs : s.WF) (ht : t.WF) {k : Nat} (hk : k < s.l.length) {p : Nat → Bool} (hd : Dep (s.ev k) p) : Dep (t.ev k) p :=
  fun e e' he => by rw [h.ev hs ht k e hk, h.ev hs ht k e' hk]; exact hd e e' he

theorem IteOk.hi {s s1 : St} {p : Nat → Bool} {L B a b c lo : Nat} (h : s.IteOk p L B a b c) (h2 : 2 ≤ a)
    (g : s.IteGives p L (s.cof (s.top3 a b c) false a) (s.cof (s.top3 a b c) false b) (s.cof (s.top3 a b c) false c) s1 lo) :
    s1.IteOk p L B (s.cof (s.top3 a b c) true a) (s.cof (s.top3 a b c) true b) (s.cof (s.top3 a b c) true c) ∧
    s1.top3 (s.cof (s.top3 a b c) true a) (s.cof (s.top3 a b c) true b) (s.cof (s.top3 a b c) true c) =
      s.top3 (s.cof (s.top3 a b c) true a) (s.cof (s.top3 a b c) true b) (s.cof (s.top3 a b c) true c) := by
  obtain ⟨hv, hp⟩ := h.top h2
  obtain ⟨t1, t2, t3⟩ := top3_le s a b c
  obtain ⟨_, n1, n2⟩ := h.below h2 false
  obtain ⟨_, m1, m2⟩ := h.below h2 true
  have hr := h.room
  have hc := g.cost
  have hl := g.le
  have hlen := hl.len
  have ka := cof_lt h.wf true h.la hv
  have kb := cof_lt h.wf true h.lb hv
  have kc := cof_lt h.wf true h.lc hv
  have et : s1.top3 (s.cof (s.top3 a b c) true a) (s.cof (s.top3 a b c) true b) (s.cof (s.top3 a b c) true c) =
      s.top3 (s.cof (s.top3 a b c) true a) (s.cof (s.top3 a b c) true b) (s.cof (s.top3 a b c) true c) := by
    show min (s1.nd (s.cof (s.top3 a b c) true a)).v (min (s1.nd (s.cof (s.top3 a b c) true b)).v (s1.nd (s.cof (s.top3 a b c) true c)).v) = _
    rw [hl.nd ka, hl.nd kb, hl.nd kc]; rfl
  refine ⟨⟨g.wf, by omega, by omega, by omega, hl.dep h.wf g.wf ka (cof_dep h.wf _ h.la hv t1 h.da), hl.dep h.wf g.wf kb (cof_dep h.wf _ h.lb hv t2 h.db),
    hl.dep h.wf g.wf kc (cof_dep h.wf _ h.lc hv t3 h.dc), by rw [hl.vars]; exact h.low, ?_⟩, et⟩
  rw [et, hl.budget]
  omega

theorem IteOk.fin {s s1 s2 : St} {p : Nat → Bool} {L B a b c lo hi : Nat} (h : s.IteOk p L B a b c) (h2 : 2 ≤ a)
    (g1 : s.IteGives p L (s.cof (s.top3 a b c) false a) (s.cof (s.top3 a b c) false b) (s.cof (s.top3 a b c) false c) s1 lo)
    (g2 : s1.IteGives p L (s.cof (s.top3 a b c) true a) (s.cof (s.top3 a b c) true b) (s.cof (s.top3 a b c) true c) s2 hi) :
    s2.MkOk (s.top3 a b c) lo hi ∧ (lo = hi ∨ (∃ k, s2.find ⟨s.top3 a b c, lo, hi⟩ = some k) ∨ s2.l.length < s2.budget) ∧
    s.IteGives p L a b c (s2.mkn (s.top3 a b c) lo hi).2 (s2.mkn (s.top3 a b c) lo hi).1 := by
  obtain ⟨hv, hp⟩ := h.top h2
  obtain ⟨t1, t2, t3⟩ := top3_le s a b c
  obtain ⟨v1, n1, n2⟩ := h.below h2 false
  obtain ⟨v2, m1, m2⟩ := h.below h2 true
  obtain ⟨_, et⟩ := h.hi h2 g1
  have hl := g1.le
  have r := h.room
  have c1 := g1.cost
  have c2 := g2.cost
  unfold IteGives at g2
  rw [et] at g2 c2
  have g2' := g2.mono m1 (Nat.le_refl _)
  have e2 : s1.iteF (s.cof (s.top3 a b c) true a) (s.cof (s.top3 a b c) true b) (s.cof (s.top3 a b c) true c) = s1.iteF (s1.cof (s.top3 a b c) true a) (s1.cof (s.top3 a b c) true b) (s1.cof (s.top3 a b c) true c) := by
    rw [hl.cof _ _ h.la, hl.cof _ _ h.lb, hl.cof _ _ h.lc]
  rw [e2] at g2'
  have g1' : s.Gives L (iteN p (s.top3 a b c + 1) L) s1 lo _ _ := Gives.mono g1 n1 (Nat.le_refl _)
  obtain ⟨ok, fin⟩ := ite_step h.wf h.la h.lb h.lc hv t1 t2 t3 g1' v1 g2' v2
  refine ⟨ok, mk_room g2.wf ok (L := L) (B := B) (by rw [g2.le.vars, hl.vars]; exact h.low) ?_, fin _ n2⟩
  rw [g2.le.budget, hl.budget]
  omega

theorem iteF_dep {s : St} {p : Nat → Bool} {L B a b c : Nat} (h : s.IteOk p L B a b c) : Dep (s.iteF a b c) p := Dep.ite h.da h.db h.dc

end St
end Go.Proofs.Osier

/- Plain theory of an open-addressed table of keys, without deletions: no program in sight. -/
namespace Go.Proofs.Osier

abbrev Key := Nat × Nat × Nat
abbrev Pl := Option (Key × Nat)

/-- The place that is looked at d steps behind the first one. -/
def Tab.ix (h : Key → Nat) (P : List Pl) (K : Key) (d : Nat) : Nat := (h K + d) % P.length

namespace Tab

theorem ix_lt {h : Key → Nat} {P : List Pl} (hp : 0 < P.length) (K : Key) (d : Nat) : ix h P K d < P.length := Nat.mod_lt _ hp

/-- The key has the value. -/
def Has (P : List Pl) (K : Key) (v : Nat) : Prop := ∃ i : Nat, P[i]? = some (some (K, v))

/-- How many places are full. -/
def cnt (P : List Pl) : Nat := (P.filter Option.isSome).length

structure Probe (h : Key → Nat) (P : List Pl) : Prop where
  pos : 0 < P.length
  chain : ∀ (i : Nat) (K : Key) (v : Nat), P[i]? = some (some (K, v)) → ∃ d, d < P.length ∧ ix h P K d = i ∧ ∀ d', d' < d → ∃ x, P[ix h P K d']? = some (some x)
  uniq : ∀ (i j : Nat) (K : Key) (v w : Nat), P[i]? = some (some (K, v)) → P[j]? = some (some (K, w)) → i = j

/-- So many steps have been gone past other keys. -/
def Past (h : Key → Nat) (P : List Pl) (K : Key) (d : Nat) : Prop := ∀ d', d' < d → ∃ K' v, P[ix h P K d']? = some (some (K', v)) ∧ K' ≠ K

theorem Past.zero (h : Key → Nat) (P : List Pl) (K : Key) : Past h P K 0 := fun _ hd => absurd hd (by omega)

theorem Past.succ {h : Key → Nat} {P : List Pl} {K K' : Key} {d v : Nat} (p : Past h P K d) (hx : P[ix h P K d]? = some (some (K', v))) (hne : K' ≠ K) : Past h P K (d + 1) := by
  intro d' hd'
  by_cases hd : d' < d
  · exact p d' hd
  · obtain rfl : d' = d := by omega
    exact ⟨K', v, hx, hne⟩

/-- Some place is empty: the steps end. -/
theorem Past.lt {h : Key → Nat} {P : List Pl} {K : Key} {d : Nat} (hp : 0 < P.length) (p : Past h P K d) (he : ∃ i : Nat, P[i]? = some none) : d < P.length := by
  rcases Nat.lt_or_ge d P.length with hlt | hge
  · exact hlt
  · exfalso
    obtain ⟨i, hi⟩ := he
    have hil : i < P.length := (List.getElem?_eq_some_iff.1 hi).1
    have hs : h K % P.length < P.length := Nat.mod_lt _ hp
    let e := (i + P.length - h K % P.length) % P.length
    have hel : e < P.length := Nat.mod_lt _ hp
    have hix : ix h P K e = i := by
      show (h K + (i + P.length - h K % P.length) % P.length) % P.length = i
      rw [Nat.add_mod, Nat.mod_mod, ← Nat.add_mod]
      have : (h K + (i + P.length - h K % P.length)) % P.length = (h K % P.length + (i + P.length - h K % P.length)) % P.length := by
        conv => lhs; rw [Nat.add_mod]
        conv => rhs; rw [Nat.add_mod, Nat.mod_mod]
      rw [this, show h K % P.length + (i + P.length - h K % P.length) = i + P.length by omega, Nat.add_mod_right, Nat.mod_eq_of_lt hil]
    obtain ⟨K', v, hx, _⟩ := p e (by omega)
    rw [hix, hi] at hx
    cases hx

/-- The key was found. -/
theorem Past.found {P : List Pl} {K : Key} {i v : Nat} (hx : P[i]? = some (some (K, v))) : Has P K v := ⟨i, hx⟩

/-- An empty place behind other keys: the key is not there. -/
theorem Past.absent {h : Key → Nat} {P : List Pl} {K : Key} {d : Nat} (hP : Probe h P) (p : Past h P K d) (hx : P[ix h P K d]? = some none) (v : Nat) : ¬ Has P K v := by
  rintro ⟨i, hi⟩
  obtain ⟨e, hel, hix, hb⟩ := hP.chain i K v hi
  rcases Nat.lt_trichotomy d e with hlt | heq | hgt
  · obtain ⟨x, hx'⟩ := hb d hlt
    rw [hx] at hx'; cases hx'
  · subst heq; rw [hix, hi] at hx; cases hx
  · obtain ⟨K', w, hx', hne⟩ := p e hgt
    rw [hix, hi] at hx'
    injection hx' with hx'; injection hx' with hx'; injection hx' with h1 _
    exact hne h1.symm

theorem Has.uniq {h : Key → Nat} {P : List Pl} {K : Key} {v w : Nat} (hP : Probe h P) (a : Has P K v) (b : Has P K w) : v = w := by
  obtain ⟨i, hi⟩ := a
  obtain ⟨j, hj⟩ := b
  obtain rfl := hP.uniq i j K v w hi hj
  rw [hi] at hj
  injection hj with hj; injection hj with hj; injection hj

theorem cnt_set {P : List Pl} : ∀ {i : Nat} {x : Key × Nat}, P[i]? = some none → cnt (P.set i (some x)) = cnt P + 1 := by
  induction P with
  | nil => intro i x hi; simp at hi
  | cons a P ih =>
    intro i x hi
    cases i with
    | zero =>
      simp at hi
      subst hi
      simp [cnt]
    | succ i =>
      have := ih (i := i) (x := x) (by simpa using hi)
      unfold cnt at this ⊢
      cases a <;> simp [this]

theorem cnt_le (P : List Pl) : cnt P ≤ P.length := List.length_filter_le _ _

theorem empty_of_cnt {P : List Pl} (h : cnt P < P.length) : ∃ i : Nat, P[i]? = some none := by
  induction P with
  | nil => simp [cnt] at h
  | cons a P ih =>
    cases a with
    | none => exact ⟨0, by simp⟩
    | some x =>
      obtain ⟨i, hi⟩ := ih (by simp [cnt] at h ⊢; omega)
      exact ⟨i + 1, by simpa using hi⟩

theorem probe_set {h : Key → Nat} {P : List Pl} {K : Key} {d v : Nat} (hP : Probe h P) (hd : d < P.length) (p : Past h P K d) (hx : P[ix h P K d]? = some none) :
    Probe h (P.set (ix h P K d) (some (K, v))) := by
  have hlen : (P.set (ix h P K d) (some (K, v))).length = P.length := List.length_set
  have hixs : ∀ K' d', ix h (P.set (ix h P K d) (some (K, v))) K' d' = ix h P K' d' := fun K' d' => by simp [ix]
  have hil := ix_lt (h := h) hP.pos K d
  have hnew : (P.set (ix h P K d) (some (K, v)))[ix h P K d]? = some (some (K, v)) := by
    rw [List.getElem?_set_self hil]
  have hold : ∀ j, j ≠ ix h P K d → (P.set (ix h P K d) (some (K, v)))[j]? = P[j]? := fun j hj => List.getElem?_set_ne (Ne.symm hj)
  have hfull : ∀ (j : Nat) (x : Key × Nat), P[j]? = some (some x) → (P.set (ix h P K d) (some (K, v)))[j]? = some (some x) := fun j x hj => by
    rw [hold j (fun e => by rw [e, hx] at hj; cases hj)]; exact hj
  refine ⟨by rw [hlen]; exact hP.pos, ?_, ?_⟩
  · intro i K' v' hi
    by_cases he : i = ix h P K d
    · subst he
      rw [hnew] at hi
      injection hi with hi; injection hi with hi; injection hi with h1 h2
      subst h1
      refine ⟨d, by rw [hlen]; exact hd, by rw [hixs], fun d' hd' => ?_⟩
      obtain ⟨K'', v'', hy, _⟩ := p d' hd'
      exact ⟨(K'', v''), by rw [hixs]; exact hfull _ _ hy⟩
    · rw [hold i he] at hi
      obtain ⟨e, hel, hix, hb⟩ := hP.chain i K' v' hi
      refine ⟨e, by rw [hlen]; exact hel, by rw [hixs]; exact hix, fun d' hd' => ?_⟩
      obtain ⟨x, hy⟩ := hb d' hd'
      exact ⟨x, by rw [hixs]; exact hfull _ _ hy⟩
  · intro i j K' v' w' hi hj
    have habs := Past.absent hP p hx
    by_cases hei : i = ix h P K d
    · subst hei
      by_cases hej : j = ix h P K d
      · exact hej.symm
      · rw [hold j hej] at hj
        rw [hnew] at hi
        injection hi with hi; injection hi with hi; injection hi with h1 h2
        subst h1
        exact absurd ⟨j, hj⟩ (habs w')
    · rw [hold i hei] at hi
      by_cases hej : j = ix h P K d
      · subst hej
        rw [hnew] at hj
        injection hj with hj; injection hj with hj; injection hj with h1 h2
        subst h1
        exact absurd ⟨i, hi⟩ (habs v')
      · rw [hold j hej] at hj
        exact hP.uniq i j K' v' w' hi hj

theorem has_set {h : Key → Nat} {P : List Pl} {K : Key} {d v : Nat} (hP : Probe h P) (hx : P[ix h P K d]? = some none) (K' : Key) (v' : Nat) :
    Has (P.set (ix h P K d) (some (K, v))) K' v' ↔ Has P K' v' ∨ (K' = K ∧ v' = v) := by
  have hil := ix_lt (h := h) hP.pos K d
  constructor
  · rintro ⟨i, hi⟩
    by_cases he : ix h P K d = i
    · subst he
      rw [List.getElem?_set_self hil] at hi
      injection hi with hi; injection hi with hi; injection hi with h1 h2
      exact .inr ⟨h1.symm, h2.symm⟩
    · rw [List.getElem?_set_ne he] at hi
      exact .inl ⟨i, hi⟩
  · rintro (⟨i, hi⟩ | ⟨rfl, rfl⟩)
    · refine ⟨i, ?_⟩
      rw [List.getElem?_set_ne (fun e => by rw [e, hi] at hx; cases hx)]
      exact hi
    · exact ⟨_, List.getElem?_set_self hil⟩

theorem probe_none (h : Key → Nat) {n : Nat} (hn : 0 < n) : Probe h (List.replicate n none) := by
  refine ⟨by simpa using hn, ?_, ?_⟩
  · intro i K v hi
    rw [List.getElem?_replicate] at hi
    split at hi <;> cases hi
  · intro i j K v w hi
    rw [List.getElem?_replicate] at hi
    split at hi <;> cases hi

theorem has_none (n : Nat) (K : Key) (v : Nat) : ¬ Has (List.replicate n none) K v := by
  rintro ⟨i, hi⟩
  rw [List.getElem?_replicate] at hi
  split at hi <;> cases hi

theorem cnt_none (n : Nat) : cnt (List.replicate n none) = 0 := by
  induction n with
  | zero => rfl
  | succ n ih => simp [cnt, List.replicate_succ]

/-! ### The table is made anew: place by place the full ones are laid into a larger one -/

/-- So many of the old places have been laid. -/
structure Moved (h : Key → Nat) (P Q : List Pl) (k : Nat) : Prop where
  probe : Probe h Q
  cnt : cnt Q = cnt (P.take k)
  has : ∀ K v, Has Q K v ↔ ∃ i, i < k ∧ P[i]? = some (some (K, v))

theorem Moved.zero (h : Key → Nat) (P : List Pl) {n : Nat} (hn : 0 < n) : Moved h P (List.replicate n none) 0 :=
  ⟨probe_none h hn, by simp [Tab.cnt], fun K v => ⟨fun hh => absurd hh (has_none n K v), fun ⟨_, hi, _⟩ => absurd hi (by omega)⟩⟩

theorem cnt_append (a b : List Pl) : Tab.cnt (a ++ b) = Tab.cnt a + Tab.cnt b := by simp [Tab.cnt]

theorem cnt_take_le (P : List Pl) (k : Nat) : Tab.cnt (P.take k) ≤ Tab.cnt P := by
  conv => rhs; rw [← List.take_append_drop k P, cnt_append]
  omega

theorem cnt_take_succ {P : List Pl} {k : Nat} {x : Pl} (hx : P[k]? = some x) : Tab.cnt (P.take (k + 1)) = Tab.cnt (P.take k) + if x.isSome then 1 else 0 := by
  obtain ⟨hk, hxe⟩ := List.getElem?_eq_some_iff.1 hx
  rw [List.take_succ_eq_append_getElem hk, cnt_append, hxe]
  cases x <;> simp [Tab.cnt]

theorem Moved.skip {h : Key → Nat} {P Q : List Pl} {k : Nat} (m : Moved h P Q k) (hx : P[k]? = some none) : Moved h P Q (k + 1) := by
  refine ⟨m.probe, by rw [cnt_take_succ hx, m.cnt]; rfl, fun K v => (m.has K v).trans ⟨fun ⟨i, hi, e⟩ => ⟨i, by omega, e⟩, fun ⟨i, hi, e⟩ => ⟨i, ?_, e⟩⟩⟩
  rcases Nat.lt_or_ge i k with hlt | hge
  · exact hlt
  · obtain rfl : i = k := by omega
    rw [hx] at e; cases e

theorem Moved.step {h : Key → Nat} {P Q : List Pl} {k d v : Nat} {K : Key} (m : Moved h P Q k) (hx : P[k]? = some (some (K, v)))
    (hd : d < Q.length) (p : Past h Q K d) (he : Q[ix h Q K d]? = some none) : Moved h P (Q.set (ix h Q K d) (some (K, v))) (k + 1) := by
  refine ⟨probe_set m.probe hd p he, by rw [cnt_set he, cnt_take_succ hx, m.cnt]; rfl, fun K' v' => ?_⟩
  rw [has_set m.probe he, m.has]
  constructor
  · rintro (⟨i, hi, e⟩ | ⟨rfl, rfl⟩)
    · exact ⟨i, by omega, e⟩
    · exact ⟨k, by omega, hx⟩
  · rintro ⟨i, hi, e⟩
    rcases Nat.lt_or_ge i k with hlt | hge
    · exact .inl ⟨i, hlt, e⟩
    · obtain rfl : i = k := by omega
      rw [hx] at e
      injection e with e; injection e with e; injection e with h1 h2
      exact .inr ⟨h1.symm, h2.symm⟩

/-- The key that is laid now is not there yet. -/
theorem Moved.absent {h : Key → Nat} {P Q : List Pl} {k v w : Nat} {K : Key} (hP : Probe h P) (m : Moved h P Q k) (hx : P[k]? = some (some (K, v))) : ¬ Has Q K w := by
  intro hh
  obtain ⟨i, hi, e⟩ := (m.has K w).1 hh
  have := hP.uniq i k K w v e hx
  omega

theorem Moved.all {h : Key → Nat} {P Q : List Pl} (m : Moved h P Q P.length) (K : Key) (v : Nat) : Has Q K v ↔ Has P K v :=
  (m.has K v).trans ⟨fun ⟨i, _, e⟩ => ⟨i, e⟩, fun ⟨i, e⟩ => ⟨i, (List.getElem?_eq_some_iff.1 e).1, e⟩⟩

theorem Moved.all_cnt {h : Key → Nat} {P Q : List Pl} (m : Moved h P Q P.length) : Tab.cnt Q = Tab.cnt P := by rw [m.cnt, List.take_length]

end Tab
end Go.Proofs.Osier

/- Plain theory: for how many values a node says true; the ways through it; the numbers for which it says true. -/
namespace Go.Proofs.Osier
open St
namespace Cnt

def cntL : List Nat → (Env → Bool) → Env → Nat
  | [], f, e => if f e then 1 else 0
  | v :: vs, f, e => cntL vs f (St.set e v false) + cntL vs f (St.set e v true)

theorem cntL_le (f : Env → Bool) : ∀ (vs : List Nat) (e : Env), cntL vs f e ≤ 2 ^ vs.length := by
  intro vs
  induction vs with
  | nil => intro e; simp only [cntL]; split <;> simp
  | cons v vs ih =>
    intro e
    have h1 := ih (St.set e v false)
    have h2 := ih (St.set e v true)
    simp only [cntL, List.length_cons, Nat.pow_succ]
    omega

theorem cntL_congr (f : Env → Bool) {p : Nat → Bool} (hf : Dep f p) : ∀ (vs : List Nat) (e e' : Env), (∀ u, p u = true → u ∉ vs → e u = e' u) → cntL vs f e = cntL vs f e' := by
  intro vs
  induction vs with
  | nil => intro e e' h; simp only [cntL]; rw [hf e e' (fun u hu => h u hu (by simp))]
  | cons v vs ih =>
    intro e e' h
    simp only [cntL]
    rw [ih (St.set e v false) (St.set e' v false), ih (St.set e v true) (St.set e' v true)]
    all_goals
      intro u hu hn
      simp only [St.set]
      split
      · rfl
      · rename_i hne
        exact h u hu (by simp [hne, hn])

theorem cntL_fun {f g : Env → Bool} (h : ∀ e, f e = g e) (vs : List Nat) (e : Env) : cntL vs f e = cntL vs g e := by
  have : f = g := funext h
  rw [this]

/-- A variable on which it does not hang doubles. -/
theorem cntL_skip (f : Env → Bool) {p : Nat → Bool} (hf : Dep f p) {v : Nat} (hv : p v = false) (vs : List Nat) (e : Env) : cntL (v :: vs) f e = 2 * cntL vs f e := by
  have key : ∀ b, cntL vs f (St.set e v b) = cntL vs f e := fun b => cntL_congr f hf vs _ _ fun u hu _ => by
    simp only [St.set]
    split
    · rename_i h; subst h; rw [hv] at hu; cases hu
    · rfl
  simp only [cntL, key]
  omega

theorem set_comm (e : Env) {a b : Nat} (h : a ≠ b) (x y : Bool) : St.set (St.set e a x) b y = St.set (St.set e b y) a x := by
  funext u
  simp only [St.set]
  by_cases h1 : u = a <;> by_cases h2 : u = b <;> simp_all

theorem cntL_perm (f : Env → Bool) {vs vs' : List Nat} (h : vs.Perm vs') : ∀ e, cntL vs f e = cntL vs' f e := by
  induction h with
  | nil => intro e; rfl
  | cons v _ ih => intro e; simp only [cntL, ih]
  | swap a b l =>
    intro e
    by_cases hab : a = b
    · subst hab; rfl
    · simp only [cntL]
      rw [set_comm e hab, set_comm e hab, set_comm e hab, set_comm e hab]
      omega
  | trans _ _ h1 h2 => intro e; rw [h1, h2]

/-- The values of variables that a number's bits are, the lowest first. -/
def setAll (e : Env) : List Nat → Nat → Env
  | [], _ => e
  | v :: vs, m => setAll (St.set e v (m % 2 == 1)) vs (m / 2)

theorem length_filter_range_two (n : Nat) (q : Nat → Bool) : ((List.range (2 * n)).filter q).length = ((List.range n).filter fun m => q (2 * m)).length + ((List.range n).filter fun m => q (2 * m + 1)).length := by
  induction n with
  | zero => rfl
  | succ n ih =>
    rw [show 2 * (n + 1) = 2 * n + 1 + 1 by omega, List.range_succ, List.range_succ, List.range_succ]
    simp only [List.filter_append, List.length_append, ih]
    by_cases h1 : q (2 * n) = true <;> by_cases h2 : q (2 * n + 1) = true <;> simp [h1, h2] <;> omega

theorem length_filter_setAll (f : Env → Bool) : ∀ (vs : List Nat) (e : Env), ((List.range (2 ^ vs.length)).filter fun m => f (setAll e vs m)).length = cntL vs f e := by
  intro vs
  induction vs with
  | nil => intro e; simp only [List.length_nil, Nat.pow_zero, setAll, cntL]; by_cases h : f e = true <;> simp [h]
  | cons v vs ih =>
    intro e
    rw [List.length_cons, Nat.pow_succ, Nat.mul_comm, length_filter_range_two]
    simp only [cntL]
    rw [← ih (St.set e v false), ← ih (St.set e v true)]
    congr 3
    · funext m; simp only [setAll]; rw [show 2 * m % 2 = 0 by omega, show 2 * m / 2 = m by omega]; rfl
    · funext m; simp only [setAll]; rw [show (2 * m + 1) % 2 = 1 by omega, show (2 * m + 1) / 2 = m by omega]; rfl

/-! ### By a node -/

/-- Where a variable stands among sorted ones; a terminal behind all. -/
def level (s : St) (sv : List Nat) (k : Nat) : Nat := if k < 2 then sv.length else sv.idxOf (s.nd k).v

/-- For how many values of the variables from its own on. -/
def below (s : St) (sv : List Nat) (k : Nat) : Nat := cntL (sv.drop (level s sv k)) (s.ev k) (fun _ => false)

theorem below_small (s : St) (sv : List Nat) {k : Nat} (hk : k < 2) : below s sv k = k := by
  unfold below level
  rw [if_pos hk, List.drop_length]
  rcases (show k = 0 ∨ k = 1 by omega) with rfl | rfl
  · simp [cntL, ev0]
  · simp [cntL, ev1]

theorem idx_lt {sv : List Nat} {v : Nat} (h : v ∈ sv) : sv.idxOf v < sv.length := List.idxOf_lt_length_iff.2 h

/-- Of the sorted variables, those ahead of a node's own do not matter to it. -/
theorem cntL_down {s : St} (h : s.WF) {sv : List Nat} (hs : sv.Pairwise (· < ·)) {k : Nat} (hk : k < s.l.length) (hd : Dep (s.ev k) (fun u => decide (u ∈ sv))) :
    ∀ (n i : Nat), i + n = level s sv k → cntL (sv.drop i) (s.ev k) (fun _ => false) = 2 ^ n * below s sv k := by
  have hlev : level s sv k ≤ sv.length := by
    unfold level
    split
    · exact Nat.le_refl _
    · exact List.idxOf_le_length
  intro n
  induction n with
  | zero => intro i hi; simp only [Nat.add_zero] at hi; subst hi; simp [below]
  | succ n ih =>
    intro i hi
    have hil : i < sv.length := by omega
    rw [List.drop_eq_getElem_cons hil]
    have hp : Dep (s.ev k) (fun u => decide ((s.nd k).v ≤ u) && decide (u < s.vars)) := fun e e' he => ev_congr h k e e' hk fun u h1 h2 => he u (by simp [h1, h2])
    rw [cntL_skip (s.ev k) hp ?_, ih (i + 1) (by omega), Nat.pow_succ]
    · rw [Nat.mul_comm (2 ^ n) 2, Nat.mul_assoc]
    · by_cases h2 : k < 2
      · have hv := v_small h (show ¬ 2 ≤ k by omega)
        rw [hv]; simp
      · have hmem : (s.nd k).v ∈ sv := by simpa using dep_mem h (by omega) hk hd
        have hidx : level s sv k = sv.idxOf (s.nd k).v := by simp [level, h2]
        have hlt : sv[i] < sv[sv.idxOf (s.nd k).v]'(idx_lt hmem) := (List.pairwise_iff_getElem.1 hs) i _ hil (idx_lt hmem) (by omega)
        rw [List.getElem_idxOf] at hlt
        simp; omega

theorem level_le {s : St} (sv : List Nat) (k : Nat) : level s sv k ≤ sv.length := by
  unfold level
  split
  · exact Nat.le_refl _
  · exact List.idxOf_le_length

theorem level_lt {s : St} (h : s.WF) {sv : List Nat} (hs : sv.Pairwise (· < ·)) {k j : Nat} (h2 : 2 ≤ k) (hk : k < s.l.length) (hd : Dep (s.ev k) (fun u => decide (u ∈ sv)))
    (hj : j < s.l.length) (hdj : Dep (s.ev j) (fun u => decide (u ∈ sv))) (hv : (s.nd k).v < (s.nd j).v) : level s sv k + 1 ≤ level s sv j := by
  have hmem : (s.nd k).v ∈ sv := by simpa using dep_mem h h2 hk hd
  have e1 : level s sv k = sv.idxOf (s.nd k).v := by simp [level, show ¬ k < 2 by omega]
  have l1 := idx_lt hmem
  by_cases hj2 : j < 2
  · simp only [level, hj2, if_true]; rw [if_neg (by omega)]; omega
  · have hmemj : (s.nd j).v ∈ sv := by simpa using dep_mem h (by omega) hj hdj
    have e2 : level s sv j = sv.idxOf (s.nd j).v := by simp [level, hj2]
    have l2 := idx_lt hmemj
    rw [e1, e2]
    rcases Nat.lt_trichotomy (sv.idxOf (s.nd k).v) (sv.idxOf (s.nd j).v) with hlt | heq | hgt
    · exact hlt
    · exfalso
      have a := List.getElem_idxOf (xs := sv) (x := (s.nd k).v) l1
      have b := List.getElem_idxOf (xs := sv) (x := (s.nd j).v) l2
      simp only [heq] at a
      omega
    · exfalso
      have := (List.pairwise_iff_getElem.1 hs) _ _ l2 l1 hgt
      rw [List.getElem_idxOf, List.getElem_idxOf] at this
      omega

theorem below_node {s : St} (h : s.WF) {sv : List Nat} (hs : sv.Pairwise (· < ·)) {k : Nat} (h2 : 2 ≤ k) (hk : k < s.l.length) (hd : Dep (s.ev k) (fun u => decide (u ∈ sv))) :
    below s sv k = below s sv (s.nd k).lo * 2 ^ (level s sv (s.nd k).lo - (level s sv k + 1)) + below s sv (s.nd k).hi * 2 ^ (level s sv (s.nd k).hi - (level s sv k + 1)) := by
  have hok := h.ok k h2 hk
  have hmem : (s.nd k).v ∈ sv := by simpa using dep_mem h h2 hk hd
  have dlo := dep_lo h h2 hk hd
  have dhi := dep_hi h h2 hk hd
  have llo := level_lt h hs h2 hk hd (show (s.nd k).lo < s.l.length by omega) dlo hok.2.2.2.2.1
  have lhi := level_lt h hs h2 hk hd (show (s.nd k).hi < s.l.length by omega) dhi hok.2.2.2.2.2
  have e1 : level s sv k = sv.idxOf (s.nd k).v := by simp [level, show ¬ k < 2 by omega]
  have l1 := idx_lt hmem
  have c1 := cntL_down h hs (show (s.nd k).lo < s.l.length by omega) dlo (level s sv (s.nd k).lo - (level s sv k + 1)) (level s sv k + 1) (by omega)
  have c2 := cntL_down h hs (show (s.nd k).hi < s.l.length by omega) dhi (level s sv (s.nd k).hi - (level s sv k + 1)) (level s sv k + 1) (by omega)
  rw [Nat.mul_comm (below s sv (s.nd k).lo), Nat.mul_comm (below s sv (s.nd k).hi), ← c1, ← c2]
  have hdrop : sv.drop (level s sv k) = (s.nd k).v :: sv.drop (level s sv k + 1) := by
    rw [e1, List.drop_eq_getElem_cons l1, List.getElem_idxOf]
  unfold below
  rw [hdrop]
  simp only [cntL]
  have hnot : (s.nd k).v ∉ sv.drop (level s sv k + 1) := by
    intro hm
    obtain ⟨j, hj, hje⟩ := List.getElem_of_mem hm
    rw [List.getElem_drop] at hje
    rw [List.length_drop] at hj
    have := (List.pairwise_iff_getElem.1 hs) (sv.idxOf (s.nd k).v) (level s sv k + 1 + j) l1 (by omega) (by omega)
    rw [List.getElem_idxOf, hje] at this
    omega
  have key : ∀ (b : Bool) (j : Nat), (∀ e, s.ev k (St.set e (s.nd k).v b) = s.ev j e) → ∀ (vs : List Nat) (e : Env), (s.nd k).v ∉ vs →
      cntL vs (s.ev k) (St.set e (s.nd k).v b) = cntL vs (s.ev j) e := by
    intro b j hj vs
    induction vs with
    | nil => intro e _; simp only [cntL, hj]
    | cons v vs ih =>
      intro e hn
      simp only [List.mem_cons, not_or] at hn
      simp only [cntL]
      rw [set_comm e hn.1, set_comm e hn.1, ih _ hn.2, ih _ hn.2]
  rw [key false _ (ev_set_lo h h2 hk) _ _ hnot, key true _ (ev_set_hi h h2 hk) _ _ hnot]

/-- For how many values of all variables. -/
theorem below_all {s : St} (h : s.WF) {sv : List Nat} (hs : sv.Pairwise (· < ·)) {k : Nat} (hk : k < s.l.length) (hd : Dep (s.ev k) (fun u => decide (u ∈ sv))) :
    below s sv k * 2 ^ level s sv k = cntL sv (s.ev k) (fun _ => false) := by
  have := cntL_down h hs hk hd (level s sv k) 0 (by omega)
  rw [List.drop_zero] at this
  rw [this, Nat.mul_comm]

theorem below_le (s : St) (sv : List Nat) (k : Nat) : below s sv k ≤ 2 ^ (sv.length - level s sv k) := by
  have := cntL_le (s.ev k) (sv.drop (level s sv k)) (fun _ => false)
  rw [List.length_drop] at this
  exact this

/-! ### The ways through a node -/

/-- The ways through a node that end at 1, behind a way that has been gone; with so many steps. -/
def cubesf (s : St) : Nat → Nat → List Nat → List (List Nat)
  | 0, k, way => if k = 1 then [way] else []
  | f + 1, k, way => if k = 0 then [] else if k = 1 then [way] else
    cubesf s f (s.nd k).lo (way.set (s.nd k).v 0) ++ cubesf s f (s.nd k).hi (way.set (s.nd k).v 1)

def cubes (s : St) (k : Nat) (way : List Nat) : List (List Nat) := cubesf s k k way

theorem cubesf_ge {s : St} (h : s.WF) : ∀ (f k : Nat) (way : List Nat), k < s.l.length → k ≤ f → cubesf s f k way = cubesf s k k way := by
  intro f
  induction f using Nat.strongRecOn with
  | _ f ih =>
    intro k way hk hf
    match k, hk, hf with
    | 0, _, _ => cases f <;> simp [cubesf]
    | 1, _, _ => cases f <;> simp [cubesf]
    | k + 2, hk, hf =>
      have hok := h.ok (k + 2) (by omega) hk
      obtain ⟨g, rfl⟩ : ∃ g, f = g + 1 := ⟨f - 1, by omega⟩
      show cubesf s (g + 1) (k + 2) way = cubesf s (k + 1 + 1) (k + 2) way
      have step : ∀ f, cubesf s (f + 1) (k + 2) way = cubesf s f (s.nd (k + 2)).lo (way.set (s.nd (k + 2)).v 0) ++ cubesf s f (s.nd (k + 2)).hi (way.set (s.nd (k + 2)).v 1) := fun f => by
        conv => lhs; unfold cubesf
        rw [if_neg (by omega), if_neg (by omega)]
      rw [step, step]
      have key : ∀ c w, c < k + 2 → cubesf s g c w = cubesf s (k + 1) c w := by
        intro c w hc
        rw [ih g (by omega) c w (by omega) (by omega)]
        by_cases hg : k + 1 = g
        · subst hg; rw [ih (k + 1) (by omega) c w (by omega) (by omega)]
        · rw [ih (k + 1) (by omega) c w (by omega) (by omega)]
      rw [key _ _ hok.2.1, key _ _ hok.2.2.1]

theorem cubes_zero (s : St) (way : List Nat) : cubes s 0 way = [] := by simp [cubes, cubesf]
theorem cubes_one (s : St) (way : List Nat) : cubes s 1 way = [way] := by simp [cubes, cubesf]
theorem cubes_node {s : St} (h : s.WF) {k : Nat} (h2 : 2 ≤ k) (hk : k < s.l.length) (way : List Nat) :
    cubes s k way = cubes s (s.nd k).lo (way.set (s.nd k).v 0) ++ cubes s (s.nd k).hi (way.set (s.nd k).v 1) := by
  have hok := h.ok k h2 hk
  obtain ⟨g, rfl⟩ : ∃ g, k = g + 2 := ⟨k - 2, by omega⟩
  show cubesf s (g + 1 + 1) (g + 2) way = _
  conv => lhs; unfold cubesf
  rw [if_neg (by omega), if_neg (by omega), cubesf_ge h (g + 1) (s.nd (g + 2)).lo _ (by omega) (by omega), cubesf_ge h (g + 1) (s.nd (g + 2)).hi _ (by omega) (by omega)]
  rfl

/-- Has an environment the values of a way? -/
def compat (way : List Nat) (e : Env) : Bool := (List.range way.length).all fun u => way.getD u 2 == 2 || way.getD u 2 == (if e u then 1 else 0)

theorem compat_iff {way : List Nat} {e : Env} : compat way e = true ↔ ∀ u, u < way.length → way.getD u 2 = 2 ∨ way.getD u 2 = (if e u then 1 else 0) := by
  simp [compat]

theorem getD_set (way : List Nat) (v x u : Nat) (hv : v < way.length) : (way.set v x).getD u 2 = if u = v then x else way.getD u 2 := by
  simp only [List.getD, List.getElem?_set]
  by_cases h : v = u
  · subst h; simp [hv]
  · rw [if_neg h, if_neg (Ne.symm h)]

theorem compat_set {way : List Nat} {v : Nat} (hv : v < way.length) (h2 : way.getD v 2 = 2) (b : Bool) (e : Env) :
    compat (way.set v (if b then 1 else 0)) e = (compat way e && (e v == b)) := by
  rw [Bool.eq_iff_iff, Bool.and_eq_true, compat_iff, compat_iff, List.length_set]
  constructor
  · intro h
    refine ⟨fun u hu => ?_, ?_⟩
    · by_cases huv : u = v
      · subst huv; exact .inl h2
      · have := h u hu
        rw [getD_set way v _ u hv, if_neg huv] at this
        exact this
    · have := h v hv
      rw [getD_set way v _ v hv, if_pos rfl] at this
      cases b <;> cases hev : e v <;> simp_all
  · rintro ⟨h, hb⟩ u hu
    rw [getD_set way v _ u hv]
    by_cases huv : u = v
    · subst huv
      rw [if_pos rfl]
      cases b <;> cases hev : e u <;> simp_all
    · rw [if_neg huv]; exact h u hu

/-- Just one way for each environment for which a node says true. -/
theorem count_cubes {s : St} (h : s.WF) (e : Env) : ∀ (k : Nat) (way : List Nat), k < s.l.length → way.length = s.vars → (∀ u, (s.nd k).v ≤ u → u < s.vars → way.getD u 2 = 2) →
    ((cubes s k way).filter fun c => compat c e).length = if compat way e && s.ev k e then 1 else 0 := by
  intro k
  induction k using Nat.strongRecOn with
  | _ k ih =>
    intro way hk hl hw
    by_cases h2 : 2 ≤ k
    · have hok := h.ok k h2 hk
      have hvl : (s.nd k).v < way.length := by rw [hl]; exact hok.1
      have h2v := hw (s.nd k).v (Nat.le_refl _) hok.1
      rw [cubes_node h h2 hk, List.filter_append, List.length_append]
      have side : ∀ (x c : Nat), (s.nd k).v < (s.nd c).v → ∀ u, (s.nd c).v ≤ u → u < s.vars → (way.set (s.nd k).v x).getD u 2 = 2 := by
        intro x c hc u h1 h3
        rw [getD_set way _ _ u hvl, if_neg (by omega)]
        exact hw u (by omega) h3
      rw [ih _ hok.2.1 (way.set (s.nd k).v 0) (by omega) (by simpa using hl) (side 0 _ hok.2.2.2.2.1),
        ih _ hok.2.2.1 (way.set (s.nd k).v 1) (by omega) (by simpa using hl) (side 1 _ hok.2.2.2.2.2)]
      have c0 := compat_set hvl h2v false e
      have c1 := compat_set hvl h2v true e
      simp only [Bool.false_eq_true, if_false, if_true] at c0 c1
      rw [c0, c1, ev_node h h2 hk]
      cases e (s.nd k).v <;> cases compat way e <;> simp
    · rcases lt2 h2 with rfl | rfl
      · rw [cubes_zero, ev0]; simp
      · rw [cubes_one, ev1]; by_cases hc : compat way e = true <;> simp [hc]

/-- What is not asked stays unasked. -/
theorem cubes_unasked {s : St} (h : s.WF) {p : Nat → Bool} {u : Nat} (hu : p u = false) : ∀ (k : Nat) (way : List Nat), k < s.l.length → way.length = s.vars → Dep (s.ev k) p → way.getD u 2 = 2 →
    ∀ c ∈ cubes s k way, c.length = s.vars ∧ c.getD u 2 = 2 := by
  intro k
  induction k using Nat.strongRecOn with
  | _ k ih =>
    intro way hk hl hd hw c hc
    by_cases h2 : 2 ≤ k
    · have hok := h.ok k h2 hk
      have hvl : (s.nd k).v < way.length := by rw [hl]; exact hok.1
      have hne : u ≠ (s.nd k).v := fun e => by
        have := dep_mem h h2 hk hd
        rw [← e, hu] at this; cases this
      rw [cubes_node h h2 hk, List.mem_append] at hc
      rcases hc with hc | hc
      · exact ih _ hok.2.1 _ (by omega) (by simpa using hl) (dep_lo h h2 hk hd) (by rw [getD_set way _ _ u hvl, if_neg hne]; exact hw) c hc
      · exact ih _ hok.2.2.1 _ (by omega) (by simpa using hl) (dep_hi h h2 hk hd) (by rw [getD_set way _ _ u hvl, if_neg hne]; exact hw) c hc
    · rcases lt2 h2 with rfl | rfl
      · rw [cubes_zero] at hc; cases hc
      · rw [cubes_one] at hc
        simp at hc; subst hc
        exact ⟨hl, hw⟩

/-- Each entry of a way is 0, 1 or 2. -/
theorem cubes_le2 {s : St} (h : s.WF) : ∀ (k : Nat) (way : List Nat), k < s.l.length → (∀ u, way.getD u 2 ≤ 2) → ∀ c ∈ cubes s k way, ∀ u, c.getD u 2 ≤ 2 := by
  intro k
  induction k using Nat.strongRecOn with
  | _ k ih =>
    intro way hk hw c hc
    by_cases h2 : 2 ≤ k
    · have hok := h.ok k h2 hk
      have side : ∀ x, x ≤ 2 → ∀ u, (way.set (s.nd k).v x).getD u 2 ≤ 2 := by
        intro x hx u
        simp only [List.getD, List.getElem?_set]
        split
        · split <;> simp [hx]
        · exact hw u
      rw [cubes_node h h2 hk, List.mem_append] at hc
      rcases hc with hc | hc
      · exact ih _ hok.2.1 _ (by omega) (side 0 (by omega)) c hc
      · exact ih _ hok.2.2.1 _ (by omega) (side 1 (by omega)) c hc
    · rcases lt2 h2 with rfl | rfl
      · rw [cubes_zero] at hc; cases hc
      · rw [cubes_one] at hc
        simp at hc; subst hc
        exact hw

/-! ### The numbers of a way -/

/-- One step: a variable more. -/
def grow1 (way : List Nat) (v i : Nat) (m : Nat) : List Nat := (if way.getD v 2 ≠ 1 then [m] else []) ++ (if way.getD v 2 ≠ 0 then [m + 2 ^ i] else [])

def expandFrom (way : List Nat) : List Nat → Nat → List Nat → List Nat
  | [], _, all => all
  | v :: vs, i, all => expandFrom way vs (i + 1) (all.flatMap (grow1 way v i))

def expand (way : List Nat) (vars : List Nat) : List Nat := expandFrom way vars 0 [0]

/-- Fit the bits of a number from i on? -/
def fits (way : List Nat) : List Nat → Nat → Bool
  | [], m => m == 0
  | v :: vs, m => (way.getD v 2 == 2 || way.getD v 2 == m % 2) && fits way vs (m / 2)

theorem fits_lt (way : List Nat) : ∀ (vs : List Nat) (m : Nat), fits way vs m = true → m < 2 ^ vs.length := by
  intro vs
  induction vs with
  | nil => intro m h; simp [fits] at h; subst h; simp
  | cons v vs ih =>
    intro m h
    simp only [fits, Bool.and_eq_true] at h
    have := ih _ h.2
    rw [List.length_cons, Nat.pow_succ]
    omega

theorem count_flatMap_grow (way : List Nat) (v i : Nat) (hle : way.getD v 2 ≤ 2) (m : Nat) : ∀ (all : List Nat), (∀ x ∈ all, x < 2 ^ i) → m < 2 ^ (i + 1) →
    (all.flatMap (grow1 way v i)).count m = if way.getD v 2 = 2 ∨ way.getD v 2 = m / 2 ^ i then all.count (m % 2 ^ i) else 0 := by
  intro all
  induction all with
  | nil => intro _ _; simp
  | cons x all ih =>
    intro hx hm
    have hxi := hx x (by simp)
    have hrec := ih (fun y hy => hx y (by simp [hy])) hm
    rw [List.flatMap_cons, List.count_append, hrec, List.count_cons]
    have hp : 0 < 2 ^ i := Nat.pow_pos (by omega)
    have hdiv : m / 2 ^ i < 2 := by
      rw [Nat.div_lt_iff_lt_mul hp, Nat.mul_comm, ← Nat.pow_succ]; exact hm
    have hmod : m % 2 ^ i < 2 ^ i := Nat.mod_lt _ hp
    have hdm := Nat.div_add_mod m (2 ^ i)
    have e0 : (m = x) ↔ (m / 2 ^ i = 0 ∧ m % 2 ^ i = x) := by
      constructor
      · rintro rfl; exact ⟨Nat.div_eq_of_lt hxi, Nat.mod_eq_of_lt hxi⟩
      · rintro ⟨a, b⟩; rw [a, Nat.mul_zero, Nat.zero_add] at hdm; omega
    have e1 : (m = x + 2 ^ i) ↔ (m / 2 ^ i = 1 ∧ m % 2 ^ i = x) := by
      constructor
      · rintro rfl
        rw [Nat.add_div_right _ hp, Nat.div_eq_of_lt hxi, Nat.add_mod_right, Nat.mod_eq_of_lt hxi]
        exact ⟨rfl, rfl⟩
      · rintro ⟨a, b⟩; rw [a, Nat.mul_one] at hdm; omega
    have hd01 : m / 2 ^ i = 0 ∨ m / 2 ^ i = 1 := by generalize m / 2 ^ i = q at hdiv; omega
    have hw : way.getD v 2 = 0 ∨ way.getD v 2 = 1 ∨ way.getD v 2 = 2 := by omega
    unfold grow1
    have b0 : (x == m) = decide (m / 2 ^ i = 0 ∧ m % 2 ^ i = x) := by rw [Bool.eq_iff_iff]; simp only [beq_iff_eq, decide_eq_true_eq]; rw [← e0]; exact eq_comm
    have b1 : (x + 2 ^ i == m) = decide (m / 2 ^ i = 1 ∧ m % 2 ^ i = x) := by rw [Bool.eq_iff_iff]; simp only [beq_iff_eq, decide_eq_true_eq]; rw [← e1]; exact eq_comm
    have b2 : (x == m % 2 ^ i) = decide (m % 2 ^ i = x) := by rw [Bool.eq_iff_iff]; simp only [beq_iff_eq, decide_eq_true_eq]; exact eq_comm
    rw [b2]
    generalize way.getD v 2 = gw at *
    rcases hw with hw | hw | hw <;> rcases hd01 with hd | hd <;> by_cases hmx : m % 2 ^ i = x <;>
      simp [hw, hd, hmx, b0, b1, List.count_cons] <;> omega

theorem grow_lt (way : List Nat) (v i : Nat) {all : List Nat} (h : ∀ x ∈ all, x < 2 ^ i) : ∀ x ∈ all.flatMap (grow1 way v i), x < 2 ^ (i + 1) := by
  intro x hx
  rw [List.mem_flatMap] at hx
  obtain ⟨y, hy, hxy⟩ := hx
  have := h y hy
  rw [Nat.pow_succ]
  unfold grow1 at hxy
  rw [List.mem_append] at hxy
  rcases hxy with hxy | hxy <;> split at hxy <;> simp at hxy <;> omega

theorem count_expandFrom (way : List Nat) (hle : ∀ u, way.getD u 2 ≤ 2) (m : Nat) : ∀ (vs : List Nat) (i : Nat) (all : List Nat), (∀ x ∈ all, x < 2 ^ i) →
    (expandFrom way vs i all).count m = if fits way vs (m / 2 ^ i) then all.count (m % 2 ^ i) else 0 := by
  intro vs
  induction vs with
  | nil =>
    intro i all hall
    simp only [expandFrom, fits]
    have hp : 0 < 2 ^ i := Nat.pow_pos (by omega)
    by_cases h : m < 2 ^ i
    · rw [Nat.div_eq_of_lt h, Nat.mod_eq_of_lt h]; simp
    · have : ¬ m / 2 ^ i = 0 := by rw [Nat.div_eq_zero_iff]; omega
      simp only [beq_iff_eq, this, if_false]
      rw [List.count_eq_zero]
      intro hm
      exact h (hall m hm)
  | cons v vs ih =>
    intro i all hall
    simp only [expandFrom, fits]
    rw [ih (i + 1) _ (grow_lt way v i hall)]
    have hp : 0 < 2 ^ i := Nat.pow_pos (by omega)
    have e1 : m / 2 ^ (i + 1) = m / 2 ^ i / 2 := by rw [Nat.pow_succ, Nat.div_div_eq_div_mul]
    have e2 : m % 2 ^ (i + 1) / 2 ^ i = m / 2 ^ i % 2 := by rw [Nat.pow_succ, Nat.mod_mul_right_div_self]
    have e3 : m % 2 ^ (i + 1) % 2 ^ i = m % 2 ^ i := by rw [Nat.pow_succ, Nat.mod_mul_right_mod]
    have hlt : m % 2 ^ (i + 1) < 2 ^ (i + 1) := Nat.mod_lt _ (Nat.pow_pos (by omega))
    rw [count_flatMap_grow way v i (hle v) _ all hall hlt, e2, e3, e1]
    by_cases h1 : fits way vs (m / 2 ^ i / 2) = true <;> by_cases h2 : way.getD v 2 = 2 ∨ way.getD v 2 = m / 2 ^ i % 2 <;> simp [h1]

theorem count_expand (way : List Nat) (hle : ∀ u, way.getD u 2 ≤ 2) (vars : List Nat) (m : Nat) : (expand way vars).count m = if fits way vars m then 1 else 0 := by
  unfold expand
  rw [count_expandFrom way hle m vars 0 [0] (by simp)]
  simp [Nat.mod_one]

/-- The number fits just where its environment has the values of the way. -/
theorem fits_iff (way : List Nat) : ∀ (vs : List Nat) (m : Nat) (e : Env), vs.Nodup → (fits way vs m = true ↔ m < 2 ^ vs.length ∧ ∀ v ∈ vs, way.getD v 2 = 2 ∨ way.getD v 2 = (if setAll e vs m v then 1 else 0)) := by
  intro vs
  induction vs with
  | nil => intro m e _; simp [fits]
  | cons v vs ih =>
    intro m e hn
    rw [List.nodup_cons] at hn
    simp only [fits, Bool.and_eq_true, Bool.or_eq_true, beq_iff_eq]
    have hset : ∀ (vs : List Nat) (e : Env) (m u : Nat), u ∉ vs → setAll e vs m u = e u := by
      intro vs
      induction vs with
      | nil => intro e m u _; rfl
      | cons a vs ih =>
        intro e m u hu
        simp only [List.mem_cons, not_or] at hu
        simp only [setAll]
        rw [ih _ _ _ hu.2]
        simp [St.set, hu.1]
    rw [ih (m / 2) (St.set e v (m % 2 == 1)) hn.2]
    have hv : setAll e (v :: vs) m v = (m % 2 == 1) := by
      simp only [setAll]
      rw [hset _ _ _ _ hn.1]
      simp [St.set]
    have hp : m / 2 < 2 ^ vs.length ↔ m < 2 ^ (v :: vs).length := by
      rw [List.length_cons, Nat.pow_succ]; omega
    rw [← hp]
    constructor
    · rintro ⟨h1, h2, h3⟩
      refine ⟨h2, fun u hu => ?_⟩
      rcases List.mem_cons.1 hu with rfl | hu
      · rw [hv]
        rcases h1 with h1 | h1
        · exact .inl h1
        · right
          rw [h1]
          rcases (show m % 2 = 0 ∨ m % 2 = 1 by omega) with h | h <;> simp [h]
      · exact h3 u hu
    · rintro ⟨h2, h3⟩
      refine ⟨?_, h2, fun u hu => h3 u (by simp [hu])⟩
      have := h3 v (by simp)
      rw [hv] at this
      rcases this with h1 | h1
      · exact .inl h1
      · right
        rw [h1]
        rcases (show m % 2 = 0 ∨ m % 2 = 1 by omega) with h | h <;> simp [h]

theorem expand_pos (way : List Nat) (hle : ∀ u, way.getD u 2 ≤ 2) (vars : List Nat) : 1 ≤ (expand way vars).length := by
  have key : ∀ (vs : List Nat) (i : Nat) (all : List Nat), 1 ≤ all.length → 1 ≤ (expandFrom way vs i all).length := by
    intro vs
    induction vs with
    | nil => intro i all h; exact h
    | cons v vs ih =>
      intro i all h
      simp only [expandFrom]
      refine ih _ _ ?_
      cases all with
      | nil => simp at h
      | cons x all =>
        rw [List.flatMap_cons, List.length_append]
        have := hle v
        have : 1 ≤ (grow1 way v i x).length := by
          unfold grow1
          generalize way.getD v 2 = gw at *
          by_cases h1 : gw = 1
          · simp [h1]
          · simp [h1]
        omega
  exact key vars 0 [0] (by simp)

/-! ### Each -/

/-- The numbers for which a node says true. -/
def each (s : St) (k : Nat) (vars : List Nat) : List Nat := (List.range (2 ^ vars.length)).filter fun m => s.ev k (setAll (fun _ => false) vars m)

theorem length_each (s : St) (k : Nat) (vars : List Nat) : (each s k vars).length = cntL vars (s.ev k) (fun _ => false) := length_filter_setAll _ _ _

def unasked (s : St) : List Nat := List.replicate s.vars 2

theorem unasked_getD (s : St) (u : Nat) : (unasked s).getD u 2 = 2 := by
  simp only [unasked, List.getD, List.getElem?_replicate]; split <;> rfl

theorem perm_each {s : St} (h : s.WF) {vars : List Nat} (hn : vars.Nodup) (hv : ∀ v ∈ vars, v < s.vars) {k : Nat} (hk : k < s.l.length) (hd : Dep (s.ev k) (fun u => decide (u ∈ vars))) :
    ((cubes s k (unasked s)).flatMap fun c => expand c vars).Perm (each s k vars) := by
  rw [List.perm_iff_count]
  intro m
  have hle := cubes_le2 h k (unasked s) hk (fun u => by rw [unasked_getD]; exact Nat.le_refl _)
  have hun : ∀ u, u ∉ vars → ∀ c ∈ cubes s k (unasked s), c.length = s.vars ∧ c.getD u 2 = 2 := fun u hu => cubes_unasked h (p := fun u => decide (u ∈ vars)) (by simpa using hu) k (unasked s) hk (by simp [unasked]) hd (unasked_getD s u)
  have hlen : ∀ c ∈ cubes s k (unasked s), c.length = s.vars := by
    intro c hc
    obtain ⟨u, hu⟩ : ∃ u, u ∉ vars := ⟨s.vars, fun hm => by have := hv _ hm; omega⟩
    exact (hun u hu c hc).1
  have hcomp : ∀ c ∈ cubes s k (unasked s), fits c vars m = (decide (m < 2 ^ vars.length) && compat c (setAll (fun _ => false) vars m)) := by
    intro c hc
    rw [Bool.eq_iff_iff, Bool.and_eq_true, decide_eq_true_eq, fits_iff c vars m (fun _ => false) hn, compat_iff]
    constructor
    · rintro ⟨h1, h2⟩
      refine ⟨h1, fun u hu => ?_⟩
      by_cases hmem : u ∈ vars
      · exact h2 u hmem
      · exact .inl (hun u hmem c hc).2
    · rintro ⟨h1, h2⟩
      exact ⟨h1, fun v hvm => h2 v (by rw [hlen c hc]; exact hv v hvm)⟩
  have hsum : ∀ (l : List (List Nat)), (∀ c ∈ l, fits c vars m = (decide (m < 2 ^ vars.length) && compat c (setAll (fun _ => false) vars m))) → (∀ c ∈ l, ∀ u, c.getD u 2 ≤ 2) →
      (l.flatMap fun c => expand c vars).count m = if m < 2 ^ vars.length then (l.filter fun c => compat c (setAll (fun _ => false) vars m)).length else 0 := by
    intro l
    induction l with
    | nil => intro _ _; simp
    | cons c l ih =>
      intro h1 h2
      rw [List.flatMap_cons, List.count_append, ih (fun c hc => h1 c (by simp [hc])) (fun c hc => h2 c (by simp [hc])), count_expand c (h2 c (by simp)), h1 c (by simp), List.filter_cons]
      by_cases a : m < 2 ^ vars.length <;> by_cases b : compat c (setAll (fun _ => false) vars m) = true <;> simp [a, b] <;> omega
  rw [hsum _ hcomp hle, count_cubes h _ k (unasked s) hk (by simp [unasked]) (fun u _ _ => unasked_getD s u)]
  have hc : compat (unasked s) (setAll (fun _ => false) vars m) = true := compat_iff.2 fun u _ => .inl (unasked_getD s u)
  rw [hc]
  have hnd : (each s k vars).Nodup := List.Pairwise.filter _ List.nodup_range
  rw [hnd.count]
  by_cases a : m < 2 ^ vars.length <;> simp [a, each]

theorem cubes_length_le {s : St} (h : s.WF) {vars : List Nat} (hn : vars.Nodup) (hv : ∀ v ∈ vars, v < s.vars) {k : Nat} (hk : k < s.l.length) (hd : Dep (s.ev k) (fun u => decide (u ∈ vars))) :
    (cubes s k (unasked s)).length ≤ (each s k vars).length := by
  rw [← (perm_each h hn hv hk hd).length_eq]
  have hle := cubes_le2 h k (unasked s) hk (fun u => by rw [unasked_getD]; exact Nat.le_refl _)
  have : ∀ l : List (List Nat), (∀ c ∈ l, ∀ u, c.getD u 2 ≤ 2) → l.length ≤ (l.flatMap fun c => expand c vars).length := by
    intro l
    induction l with
    | nil => intro _; simp
    | cons c l ih =>
      intro h2
      have h3 := ih (fun c hc => h2 c (by simp [hc]))
      have h4 := expand_pos c (h2 c (by simp)) vars
      rw [List.flatMap_cons, List.length_append, List.length_cons]
      omega
  exact this _ hle

theorem each_sorted (s : St) (k : Nat) (vars : List Nat) : (each s k vars).Pairwise (· < ·) := List.Pairwise.filter _ List.pairwise_lt_range

end Cnt
end Go.Proofs.Osier

namespace Go.Proofs.Osier

/-- What bits say as a number, the least first. -/
def num : List Nat → Env → Nat
  | [], _ => 0
  | v :: l, e => (e v).toNat + 2 * num l e

theorem num_lt (l : List Nat) (e : Env) : num l e < 2 ^ l.length := by
  induction l with
  | nil => simp [num]
  | cons v l ih =>
    simp only [num, List.length_cons, Nat.pow_succ]
    have : (e v).toNat ≤ 1 := by cases e v <;> simp
    omega

theorem num_snoc (l : List Nat) (v : Nat) (e : Env) : num (l ++ [v]) e = num l e + (e v).toNat * 2 ^ l.length := by
  induction l with
  | nil => simp [num]
  | cons u l ih =>
    simp only [List.cons_append, num, ih, List.length_cons, Nat.pow_succ]
    rw [Nat.mul_add, ← Nat.mul_assoc, Nat.mul_comm (2 ^ l.length) 2, ← Nat.mul_assoc, Nat.mul_comm 2 (e v).toNat]
    omega

theorem num_append (l m : List Nat) (e : Env) : num (l ++ m) e = num l e + 2 ^ l.length * num m e := by
  induction l with
  | nil => simp [num]
  | cons u l ih =>
    simp only [List.cons_append, num, ih, List.length_cons, Nat.pow_succ]
    rw [Nat.mul_add, ← Nat.mul_assoc, Nat.mul_comm 2 (2 ^ l.length)]
    omega

theorem num_dep (l : List Nat) : ∀ e e' : Env, (∀ v ∈ l, e v = e' v) → num l e = num l e' := by
  induction l with
  | nil => intros; rfl
  | cons u l ih => intro e e' h; simp only [num]; rw [h u (by simp), ih e e' fun v hv => h v (by simp [hv])]

theorem num_take_succ {l : List Nat} {j v : Nat} (h : l[j]? = some v) (e : Env) : num (l.take (j + 1)) e = num (l.take j) e + (e v).toNat * 2 ^ j := by
  have hj : j < l.length := (List.getElem?_eq_some_iff.1 h).1
  rw [List.take_add_one, h, Option.toList_some, num_snoc, List.length_take, Nat.min_eq_left (Nat.le_of_lt hj)]

theorem mod_pow_succ (n j : Nat) : n % 2 ^ (j + 1) = n % 2 ^ j + (n.testBit j).toNat * 2 ^ j := by
  rw [Nat.pow_succ, Nat.mod_mul, Nat.testBit_eq_decide_div_mod_eq]
  have : n / 2 ^ j % 2 = (decide (n / 2 ^ j % 2 = 1)).toNat := by
    have := Nat.mod_lt (n / 2 ^ j) (show 0 < 2 by omega)
    by_cases h : n / 2 ^ j % 2 = 1
    · simp [h]
    · have : n / 2 ^ j % 2 = 0 := by omega
      simp [this]
  rw [← this, Nat.mul_comm]

/-- The first j bits say at least as much as those of n. -/
def leastF (l : List Nat) (n j : Nat) (e : Env) : Bool := decide (n % 2 ^ j ≤ num (l.take j) e)

theorem leastF_zero (l : List Nat) (n : Nat) (e : Env) : leastF l n 0 e = true := by simp [leastF, Nat.mod_one]

theorem leastF_all (l : List Nat) (n : Nat) (h : n < 2 ^ l.length) (e : Env) : leastF l n l.length e = decide (n ≤ num l e) := by
  simp only [leastF, List.take_length, Nat.mod_eq_of_lt h]

theorem leastF_succ {l : List Nat} {n j v : Nat} (h : l[j]? = some v) (e : Env) : leastF l n (j + 1) e = if n.testBit j then (e v && leastF l n j e) else (e v || leastF l n j e) := by
  have hj : j < l.length := (List.getElem?_eq_some_iff.1 h).1
  have h1 := num_lt (l.take j) e
  rw [List.length_take, Nat.min_eq_left (Nat.le_of_lt hj)] at h1
  have h2 := Nat.mod_lt n (Nat.two_pow_pos j)
  unfold leastF
  rw [mod_pow_succ, num_take_succ h]
  generalize 2 ^ j = p at *
  cases n.testBit j <;> cases e v <;> simp <;> omega

theorem leastF_dep (l : List Nat) (n j : Nat) : St.Dep (leastF l n j) (fun u => l.contains u) := by
  intro e e' h
  unfold leastF
  rw [num_dep (l.take j) e e' fun v hv => h v (by simp; exact List.mem_of_mem_take hv)]

end Go.Proofs.Osier

/- Plain law: the tuples for which a node says true, as lists of numbers, rising. -/
namespace Go.Proofs.Osier
open St
namespace Tup

/-- A number, cut into numbers of so many bits, the lowest first. -/
def splitN : List Nat → Nat → List Nat
  | [], _ => []
  | w :: ws, n => n % 2 ^ w :: splitN ws (n / 2 ^ w)

def joinN : List Nat → List Nat → Nat
  | w :: ws, r :: rs => r + 2 ^ w * joinN ws rs
  | _, _ => 0

/-- Numbers of so many bits. -/
def Fit : List Nat → List Nat → Prop
  | [], [] => True
  | w :: ws, r :: rs => r < 2 ^ w ∧ Fit ws rs
  | _, _ => False

theorem splitN_length : ∀ (ws : List Nat) (n : Nat), (splitN ws n).length = ws.length
  | [], _ => rfl
  | w :: ws, n => by simp [splitN, splitN_length ws]

theorem split_join : ∀ (ws rs : List Nat), Fit ws rs → splitN ws (joinN ws rs) = rs
  | [], [], _ => rfl
  | [], _ :: _, h => by cases h
  | _ :: _, [], h => by cases h
  | w :: ws, r :: rs, h => by
    have h1 : (r + 2 ^ w * joinN ws rs) % 2 ^ w = r := by rw [Nat.add_mul_mod_self_left, Nat.mod_eq_of_lt h.1]
    have h2 : (r + 2 ^ w * joinN ws rs) / 2 ^ w = joinN ws rs := by
      rw [Nat.add_mul_div_left _ _ (Nat.pow_pos (by omega)), Nat.div_eq_of_lt h.1, Nat.zero_add]
    simp only [splitN, joinN, h1, h2, split_join ws rs h.2]

theorem join_split : ∀ (ws : List Nat) (n : Nat), n < 2 ^ ws.sum → joinN ws (splitN ws n) = n
  | [], n, h => by simp at h; simp [joinN, h]
  | w :: ws, n, h => by
    rw [List.sum_cons, Nat.pow_add] at h
    have h1 : n / 2 ^ w < 2 ^ ws.sum := Nat.div_lt_of_lt_mul h
    simp only [splitN, joinN, join_split ws _ h1]
    exact Nat.mod_add_div n (2 ^ w)

/-- The values of domains. -/
def tupE (at_ : Nat → List Nat) (doms : List Nat) (e : Env) : List Nat := doms.map fun d => num (at_ d) e

theorem split_num (at_ : Nat → List Nat) (e : Env) : ∀ doms : List Nat, splitN (doms.map fun d => (at_ d).length) (num (doms.flatMap at_) e) = tupE at_ doms e
  | [] => rfl
  | d :: ds => by
    have h1 := num_lt (at_ d) e
    simp only [List.map_cons, splitN, List.flatMap_cons, num_append, tupE]
    rw [Nat.add_mul_mod_self_left, Nat.mod_eq_of_lt h1, Nat.add_mul_div_left _ _ (Nat.pow_pos (by omega)), Nat.div_eq_of_lt h1, Nat.zero_add, split_num at_ e ds]
    rfl

theorem setAll_off : ∀ (vs : List Nat) (e : Env) (m u : Nat), u ∉ vs → Cnt.setAll e vs m u = e u
  | [], _, _, _, _ => rfl
  | v :: vs, e, m, u, h => by
    simp only [List.mem_cons, not_or] at h
    simp only [Cnt.setAll]
    rw [setAll_off vs _ _ u h.2]
    simp [St.set, h.1]

theorem num_setAll : ∀ (vs : List Nat) (e : Env) (m : Nat), vs.Nodup → num vs (Cnt.setAll e vs m) = m % 2 ^ vs.length
  | [], _, m, _ => by simp [num, Nat.mod_one]
  | v :: vs, e, m, h => by
    rw [List.nodup_cons] at h
    simp only [num, Cnt.setAll, List.length_cons]
    rw [setAll_off vs _ _ v h.1, num_setAll vs _ _ h.2, Nat.pow_succ, Nat.mul_comm (2 ^ vs.length) 2, Nat.mod_mul]
    simp only [St.set, if_pos]
    have := Nat.mod_lt m (show 0 < 2 by omega)
    by_cases h1 : m % 2 = 1
    · simp [h1]
    · have : m % 2 = 0 := by omega
      simp [this]

theorem num_inj : ∀ (vs : List Nat) (e e' : Env), num vs e = num vs e' → ∀ v ∈ vs, e v = e' v
  | [], _, _, _, v, h => by cases h
  | u :: vs, e, e', h, v, hv => by
    simp only [num] at h
    have a1 : (e u).toNat ≤ 1 := by cases e u <;> simp
    have a2 : (e' u).toNat ≤ 1 := by cases e' u <;> simp
    have h1 : (e u).toNat = (e' u).toNat := by omega
    have h2 : num vs e = num vs e' := by omega
    rcases List.mem_cons.1 hv with rfl | hv
    · revert h1; cases e v <;> cases e' v <;> simp
    · exact num_inj vs e e' h2 v hv

/-- The tuples for which a node says true, in whatever order. -/
def rows0 (s : St) (k : Nat) (at_ : Nat → List Nat) (doms : List Nat) : List (List Nat) := (Cnt.each s k (doms.flatMap at_)).map (splitN (doms.map fun d => (at_ d).length))

theorem sum_len (at_ : Nat → List Nat) (doms : List Nat) : (doms.map fun d => (at_ d).length).sum = (doms.flatMap at_).length := by
  induction doms with
  | nil => rfl
  | cons d ds ih => rw [List.map_cons, List.sum_cons, ih, List.flatMap_cons, List.length_append]

theorem rows0_length (s : St) (k : Nat) (at_ : Nat → List Nat) (doms : List Nat) : (rows0 s k at_ doms).length = (Cnt.each s k (doms.flatMap at_)).length := by simp [rows0]

theorem mem_each {s : St} {k : Nat} {vars : List Nat} {m : Nat} : m ∈ Cnt.each s k vars ↔ m < 2 ^ vars.length ∧ s.ev k (Cnt.setAll (fun _ => false) vars m) = true := by
  unfold Cnt.each
  rw [List.mem_filter, List.mem_range]

theorem rows0_nodup (s : St) (k : Nat) (at_ : Nat → List Nat) (doms : List Nat) : (rows0 s k at_ doms).Nodup := by
  unfold rows0 List.Nodup
  rw [List.pairwise_map]
  refine List.Pairwise.imp_of_mem ?_ (Cnt.each_sorted s k (doms.flatMap at_))
  intro a b ha hb hab he
  have h1 := join_split (doms.map fun d => (at_ d).length) a (by rw [sum_len]; exact (mem_each.1 ha).1)
  have h2 := join_split (doms.map fun d => (at_ d).length) b (by rw [sum_len]; exact (mem_each.1 hb).1)
  rw [he, h2] at h1
  omega

theorem mem_rows0 {s : St} {k : Nat} {at_ : Nat → List Nat} {doms : List Nat} (hn : (doms.flatMap at_).Nodup) (hd : Dep (s.ev k) (fun u => decide (u ∈ doms.flatMap at_))) {r : List Nat} :
    r ∈ rows0 s k at_ doms ↔ ∃ e, tupE at_ doms e = r ∧ s.ev k e = true := by
  simp only [rows0, List.mem_map, mem_each]
  constructor
  · rintro ⟨m, ⟨hm, he⟩, rfl⟩
    refine ⟨_, ?_, he⟩
    rw [← split_num, num_setAll _ _ _ hn, Nat.mod_eq_of_lt hm]
  · rintro ⟨e, rfl, he⟩
    refine ⟨num (doms.flatMap at_) e, ⟨num_lt _ _, ?_⟩, split_num at_ e doms⟩
    rw [← he]
    refine hd _ _ fun u hu => ?_
    refine num_inj (doms.flatMap at_) _ _ ?_ u (by simpa using hu)
    rw [num_setAll _ _ _ hn, Nat.mod_eq_of_lt (num_lt _ _)]

/-- Whatever values may be, some bits have them. -/
theorem exists_env (at_ : Nat → List Nat) (doms : List Nat) (hn : (doms.flatMap at_).Nodup) (rs : List Nat) (h : Fit (doms.map fun d => (at_ d).length) rs) : ∃ e, tupE at_ doms e = rs := by
  refine ⟨Cnt.setAll (fun _ => false) (doms.flatMap at_) (joinN (doms.map fun d => (at_ d).length) rs), ?_⟩
  have hlt : ∀ (ws rs : List Nat), Fit ws rs → joinN ws rs < 2 ^ ws.sum := by
    intro ws
    induction ws with
    | nil => intro rs h; cases rs <;> simp [joinN]
    | cons w ws ih =>
      intro rs h
      cases rs with
      | nil => cases h
      | cons r rs =>
        have h1 := ih rs h.2
        have h2 := h.1
        simp only [joinN, List.sum_cons, Nat.pow_add]
        calc r + 2 ^ w * joinN ws rs < 2 ^ w + 2 ^ w * joinN ws rs := by omega
          _ = 2 ^ w * (joinN ws rs + 1) := by rw [Nat.mul_add, Nat.mul_one, Nat.add_comm]
          _ ≤ 2 ^ w * 2 ^ ws.sum := Nat.mul_le_mul_left _ h1
  rw [← split_num, num_setAll _ _ _ hn, ← sum_len, Nat.mod_eq_of_lt (hlt _ _ h), split_join _ _ h]

theorem lt_irrefl' (l : List Nat) : ¬ l < l := List.lt_irrefl l

theorem nodup_of_lt {L : List (List Nat)} (h : L.Pairwise (· < ·)) : L.Nodup :=
  List.Pairwise.imp (fun {a b} hab he => by subst he; exact lt_irrefl' a hab) h

/-- Two rising lists of the same tuples are one. -/
theorem rows_eq {L M : List (List Nat)} (hL : L.Pairwise (· < ·)) (hM : M.Pairwise (· < ·)) (h : ∀ r, r ∈ L ↔ r ∈ M) : L = M := by
  have hp : L.Perm M := (List.perm_ext_iff_of_nodup (nodup_of_lt hL) (nodup_of_lt hM)).2 h
  exact hp.eq_of_pairwise (fun a b _ _ hab hba => absurd (List.lt_trans hab hba) (lt_irrefl' a)) hL hM

theorem rows_perm {s : St} {k : Nat} {at_ : Nat → List Nat} {doms : List Nat} (hn : (doms.flatMap at_).Nodup) (hd : Dep (s.ev k) (fun u => decide (u ∈ doms.flatMap at_)))
    {want : List (List Nat)} (hw : want.Pairwise (· < ·)) (hm : ∀ r, r ∈ want ↔ ∃ e, tupE at_ doms e = r ∧ s.ev k e = true) : (rows0 s k at_ doms).Perm want :=
  (List.perm_ext_iff_of_nodup (rows0_nodup s k at_ doms) (nodup_of_lt hw)).2 fun r => (mem_rows0 hn hd).trans (hm r).symm

/-- A list that was sorted. -/
theorem sorted_eq {L M : List (List Nat)} (hL : L.Pairwise (fun a b => ¬ b < a)) (hM : M.Pairwise (· < ·)) (hp : L.Perm M) : L = M := by
  have hn : L.Nodup := hp.nodup_iff.2 (nodup_of_lt hM)
  refine rows_eq ?_ hM fun r => hp.mem_iff
  refine (hL.and hn).imp ?_
  rintro a b ⟨h1, h2⟩
  rcases Std.lt_trichotomy a b with h | h | h
  · exact h
  · exact absurd h h2
  · exact absurd h h1

/-- slices.Compare of numbers. -/
def cmpL : List Nat → List Nat → Int
  | [], [] => 0
  | [], _ :: _ => -1
  | _ :: _, [] => 1
  | a :: l, b :: m => if a < b then -1 else if b < a then 1 else cmpL l m

theorem cmpL_neg : ∀ (l m : List Nat), cmpL l m < 0 ↔ l < m
  | [], [] => by simp [cmpL]
  | [], _ :: _ => by simp [cmpL]
  | _ :: _, [] => by simp [cmpL]
  | a :: l, b :: m => by
    simp only [cmpL, List.cons_lt_cons_iff]
    by_cases h1 : a < b
    · simp [h1]
    · by_cases h2 : b < a
      · have h3 : ¬ a = b := by omega
        simp [h1, h2, h3]
      · have h3 : a = b := by omega
        subst h3
        simp [cmpL_neg l m]

end Tup
end Go.Proofs.Osier

/- Plain law: where the bits of domains stand. -/
namespace Go.Proofs.Osier
namespace Lay

/-- The rows of domains, each its highest bit first, and the next variable. -/
abbrev Out := (Nat → List Nat) × Nat

def put1 (w : Nat → Nat) (level : Nat) (st : Out) (k : Nat) : Out :=
  if level < w k then (fun j => if j = k then st.1 j ++ [st.2] else st.1 j, st.2 + 1) else st

def putLevel (w : Nat → Nat) (ks : List Nat) (level : Nat) (st : Out) : Out := ks.foldl (put1 w level) st

/-- So many levels of a group. -/
def putGroup (w : Nat → Nat) (ks : List Nat) (n : Nat) (st : Out) : Out := (List.range n).foldl (fun st level => putLevel w ks level st) st

theorem putGroup_zero (w : Nat → Nat) (ks : List Nat) (st : Out) : putGroup w ks 0 st = st := rfl
theorem putGroup_succ (w : Nat → Nat) (ks : List Nat) (n : Nat) (st : Out) : putGroup w ks (n + 1) st = putLevel w ks n (putGroup w ks n st) := by
  simp [putGroup, List.range_succ]

theorem putLevel_take (w : Nat → Nat) {ks : List Nat} (level : Nat) (st : Out) {j k : Nat} (hk : ks[j]? = some k) : putLevel w (ks.take (j + 1)) level st = put1 w level (putLevel w (ks.take j) level st) k := by
  unfold putLevel
  rw [List.take_add_one, hk, Option.toList_some, List.foldl_append]
  rfl

theorem putLevel_none (w : Nat → Nat) (level : Nat) : ∀ (ks : List Nat) (st : Out), (∀ k ∈ ks, w k ≤ level) → putLevel w ks level st = st
  | [], _, _ => rfl
  | k :: ks, st, h => by
    have h1 : put1 w level st k = st := if_neg (by have := h k (by simp); omega)
    show putLevel w ks level (put1 w level st k) = st
    rw [h1]
    exact putLevel_none w level ks st fun x hx => h x (by simp [hx])

theorem putGroup_stop (w : Nat → Nat) (ks : List Nat) (m : Nat) (h : ∀ k ∈ ks, w k ≤ m) (st : Out) : ∀ n, m ≤ n → putGroup w ks n st = putGroup w ks m st := by
  intro n
  induction n with
  | zero => intro hn; rw [show m = 0 by omega]
  | succ n ih =>
    intro hn
    by_cases h1 : m = n + 1
    · rw [h1]
    · rw [putGroup_succ, ih (by omega), putLevel_none]
      intro k hk
      have := h k hk
      omega

/-- What the rows are, always. -/
structure Inv (st : Out) : Prop where
  lt : ∀ k, ∀ x ∈ st.1 k, x < st.2
  nodup : ∀ k, (st.1 k).Nodup
  apart : ∀ k j, k ≠ j → ∀ x ∈ st.1 k, x ∉ st.1 j

theorem Inv.put1 {w : Nat → Nat} {level : Nat} {st : Out} (h : Inv st) (k : Nat) : Inv (put1 w level st k) := by
  unfold Lay.put1
  split
  · refine ⟨fun j x hx => ?_, fun j => ?_, fun i j hij x hx hx' => ?_⟩
    · simp only at hx ⊢
      split at hx
      · rw [List.mem_append, List.mem_singleton] at hx
        rcases hx with hx | hx
        · have := h.lt j x hx; omega
        · omega
      · have := h.lt j x hx; omega
    · simp only
      split
      · rw [List.nodup_append]
        refine ⟨h.nodup j, by simp, fun a ha b hb => ?_⟩
        rw [List.mem_singleton] at hb
        have := h.lt j a ha
        omega
      · exact h.nodup j
    · simp only at hx hx'
      split at hx
      · split at hx'
        · omega
        · rw [List.mem_append, List.mem_singleton] at hx
          rcases hx with hx | hx
          · exact h.apart i j hij x hx hx'
          · have := h.lt j x hx'; omega
      · split at hx'
        · rw [List.mem_append, List.mem_singleton] at hx'
          rcases hx' with hx' | hx'
          · exact h.apart i j hij x hx hx'
          · have := h.lt i x hx; omega
        · exact h.apart i j hij x hx hx'
  · exact h

theorem Inv.level {w : Nat → Nat} {level : Nat} : ∀ (ks : List Nat) {st : Out}, Inv st → Inv (putLevel w ks level st)
  | [], _, h => h
  | k :: ks, _, h => Inv.level ks (h.put1 k)

theorem Inv.group {w : Nat → Nat} {ks : List Nat} (n : Nat) {st : Out} (h : Inv st) : Inv (putGroup w ks n st) := by
  induction n with
  | zero => exact h
  | succ n ih => rw [putGroup_succ]; exact ih.level ks

/-- How many there are of each domain. -/
theorem put1_length (w : Nat → Nat) (level : Nat) (st : Out) (k j : Nat) : ((put1 w level st k).1 j).length = (st.1 j).length + if j = k ∧ level < w k then 1 else 0 := by
  unfold put1
  by_cases h1 : level < w k
  · by_cases h2 : j = k <;> simp [h1, h2]
  · simp [h1]

theorem putLevel_length (w : Nat → Nat) (level : Nat) (j : Nat) : ∀ (ks : List Nat) (st : Out), ks.Nodup → ((putLevel w ks level st).1 j).length = (st.1 j).length + if j ∈ ks ∧ level < w j then 1 else 0
  | [], st, _ => by simp [putLevel]
  | k :: ks, st, h => by
    rw [List.nodup_cons] at h
    show ((putLevel w ks level (put1 w level st k)).1 j).length = _
    rw [putLevel_length w level j ks _ h.2, put1_length]
    by_cases h1 : j = k
    · subst h1
      simp [h.1]
    · simp [h1]

theorem putGroup_length (w : Nat → Nat) (j : Nat) {ks : List Nat} (hn : ks.Nodup) (n : Nat) (st : Out) : ((putGroup w ks n st).1 j).length = (st.1 j).length + if j ∈ ks then min n (w j) else 0 := by
  induction n with
  | zero => simp [putGroup_zero]
  | succ n ih =>
    rw [putGroup_succ, putLevel_length w n j ks _ hn, ih]
    by_cases h1 : j ∈ ks
    · by_cases h2 : n < w j
      · simp [h1, h2]; omega
      · simp [h1, h2]; omega
    · simp [h1]

/-- The next variable: how many there are. -/
def total (n : Nat) (f : Nat → List Nat) : Nat := ((List.range n).map fun j => (f j).length).sum

theorem sum_bump (n k : Nat) (f : Nat → Nat) (hk : k < n) : ((List.range n).map fun j => f j + if j = k then 1 else 0).sum = ((List.range n).map f).sum + 1 := by
  induction n with
  | zero => omega
  | succ n ih =>
    rw [List.range_succ, List.map_append, List.map_append, List.sum_append, List.sum_append]
    by_cases h : k = n
    · subst h
      have : (List.range k).map (fun j => f j + if j = k then 1 else 0) = (List.range k).map f := by
        apply List.map_congr_left
        intro j hj
        rw [List.mem_range] at hj
        rw [if_neg (by omega)]
        rfl
      rw [this]
      simp
      omega
    · rw [ih (by omega)]
      have h2 : ¬ n = k := fun e => h e.symm
      simp [h2]
      omega

theorem put1_total {w : Nat → Nat} {level n : Nat} {st : Out} (h : st.2 = total n st.1) {k : Nat} (hk : k < n) : (put1 w level st k).2 = total n (put1 w level st k).1 := by
  unfold total
  have e : (fun j => ((put1 w level st k).1 j).length) = fun j => (st.1 j).length + if j = k ∧ level < w k then 1 else 0 := funext fun j => put1_length w level st k j
  rw [e]
  by_cases h1 : level < w k
  · simp only [h1, and_true]
    rw [sum_bump n k _ hk]
    unfold put1
    rw [if_pos h1]
    exact congrArg (· + 1) h
  · simp only [h1, and_false, if_false, Nat.add_zero]
    unfold put1
    rw [if_neg h1]
    exact h

theorem putLevel_total {w : Nat → Nat} {level n : Nat} : ∀ (ks : List Nat) {st : Out}, st.2 = total n st.1 → (∀ k ∈ ks, k < n) → (putLevel w ks level st).2 = total n (putLevel w ks level st).1
  | [], _, h, _ => h
  | k :: ks, _, h, hk => putLevel_total ks (put1_total h (hk k (by simp))) fun x hx => hk x (by simp [hx])

theorem putGroup_total {w : Nat → Nat} {ks : List Nat} {n : Nat} (m : Nat) {st : Out} (h : st.2 = total n st.1) (hk : ∀ k ∈ ks, k < n) : (putGroup w ks m st).2 = total n (putGroup w ks m st).1 := by
  induction m with
  | zero => exact h
  | succ m ih => rw [putGroup_succ]; exact putLevel_total ks ih hk

/-! ### Groups -/

def none_ : Out := (fun _ => [], 0)

/-- All groups, one behind the other. -/
def place (w : Nat → Nat) (G : List (List Nat)) : Out := G.foldl (fun st ks => putGroup w ks 62 st) none_

theorem place_snoc (w : Nat → Nat) (G : List (List Nat)) (ks : List Nat) : place w (G ++ [ks]) = putGroup w ks 62 (place w G) := by simp [place]

theorem flatten_snoc (G : List (List Nat)) (ks : List Nat) : (G ++ [ks]).flatten = G.flatten ++ ks := by simp

structure Placed (w : Nat → Nat) (n : Nat) (G : List (List Nat)) : Prop where
  inv : Inv (place w G)
  total : (place w G).2 = total n (place w G).1
  length : ∀ j, ((place w G).1 j).length = if j ∈ G.flatten then w j else 0

theorem placed_nil (w : Nat → Nat) (n : Nat) : Placed w n [] :=
  ⟨⟨fun k x h => (by cases h), fun k => List.Pairwise.nil, fun k j _ x h => (by cases h)⟩, by simp [place, none_, Lay.total, List.map_const', List.sum_replicate_nat], fun j => by simp [place, none_]⟩

theorem Placed.snoc {w : Nat → Nat} {n : Nat} {G : List (List Nat)} {ks : List Nat} (h : Placed w n G) (hw : ∀ k, w k ≤ 62) (hn : (G.flatten ++ ks).Nodup) (hk : ∀ k ∈ ks, k < n) : Placed w n (G ++ [ks]) := by
  rw [List.nodup_append] at hn
  obtain ⟨h1, h2, h3⟩ := hn
  refine ⟨?_, ?_, fun j => ?_⟩
  · rw [place_snoc]; exact h.inv.group 62
  · rw [place_snoc]; exact putGroup_total 62 h.total hk
  · rw [place_snoc, putGroup_length w j h2, h.length, flatten_snoc]
    have := hw j
    by_cases hj : j ∈ G.flatten
    · have : j ∉ ks := fun hj' => h3 j hj j hj' rfl
      simp [hj, this]
    · by_cases hj' : j ∈ ks
      · simp [hj, hj']; omega
      · simp [hj, hj']

theorem placed_all {w : Nat → Nat} {n : Nat} (hw : ∀ k, w k ≤ 62) : ∀ (G : List (List Nat)), G.flatten.Nodup → (∀ k ∈ G.flatten, k < n) → Placed w n G := by
  intro G
  have key : ∀ (m : Nat), m ≤ G.length → G.flatten.Nodup → (∀ k ∈ G.flatten, k < n) → Placed w n (G.take m) := by
    intro m
    induction m with
    | zero => intro _ _ _; exact placed_nil w n
    | succ m ih =>
      intro hm hn hk
      have hg : G[m]? = some G[m] := List.getElem?_eq_getElem (by omega)
      have hs : (G.take (m + 1)).flatten ++ (G.drop (m + 1)).flatten = G.flatten := by rw [← List.flatten_append, List.take_append_drop]
      rw [List.take_add_one, hg, Option.toList_some]
      rw [List.take_add_one, hg, Option.toList_some, flatten_snoc] at hs
      rw [← hs] at hn hk
      refine (ih (by omega) (hs ▸ hn) (hs ▸ hk)).snoc hw (List.nodup_append.1 hn).1 fun k hk' => hk k (by simp [hk'])
  intro hn hk
  have := key G.length (Nat.le_refl _) hn hk
  rwa [List.take_length] at this

/-! ### Reading an order -/

def find (names : List ByteArray) (s : ByteArray) : Option Nat := names.findIdx? fun x => x.data.toList == s.data.toList

def step (names : List ByteArray) (seen : List Nat) (acc : Option (List Nat)) (s : ByteArray) : Option (List Nat) :=
  match acc, find names s with
  | some l, some k => if k ∈ seen ++ l then none else some (l ++ [k])
  | _, _ => none

def parseG (names : List ByteArray) (seen : List Nat) (ss : List ByteArray) : Option (List Nat) := ss.foldl (step names seen) (some [])

def stepG (names : List ByteArray) (acc : Option (List (List Nat))) (ss : List ByteArray) : Option (List (List Nat)) :=
  match acc with
  | some G => (parseG names G.flatten ss).map fun l => G ++ [l]
  | none => none

def parse (names : List ByteArray) (gs : List (List ByteArray)) : Option (List (List Nat)) := gs.foldl (stepG names) (some [])

theorem parseG_take (names : List ByteArray) (seen : List Nat) {ss : List ByteArray} {j : Nat} {s : ByteArray} (h : ss[j]? = some s) : parseG names seen (ss.take (j + 1)) = step names seen (parseG names seen (ss.take j)) s := by
  unfold parseG
  rw [List.take_add_one, h, Option.toList_some, List.foldl_append]
  rfl

theorem parse_take (names : List ByteArray) {gs : List (List ByteArray)} {j : Nat} {ss : List ByteArray} (h : gs[j]? = some ss) : parse names (gs.take (j + 1)) = stepG names (parse names (gs.take j)) ss := by
  unfold parse
  rw [List.take_add_one, h, Option.toList_some, List.foldl_append]
  rfl

theorem step_none (names : List ByteArray) (seen : List Nat) : ∀ ss : List ByteArray, ss.foldl (step names seen) none = none
  | [] => rfl
  | s :: ss => by simp only [List.foldl_cons, step]; exact step_none names seen ss

theorem stepG_none (names : List ByteArray) : ∀ gs : List (List ByteArray), gs.foldl (stepG names) none = none
  | [] => rfl
  | s :: ss => by simp only [List.foldl_cons, stepG]; exact stepG_none names ss

theorem parseG_bad {names : List ByteArray} {seen : List Nat} {ss : List ByteArray} {j : Nat} (h : parseG names seen (ss.take j) = none) : parseG names seen ss = none := by
  have : ss = ss.take j ++ ss.drop j := (List.take_append_drop j ss).symm
  rw [this]
  unfold parseG at h ⊢
  rw [List.foldl_append, h]
  exact step_none names seen _

theorem parse_bad {names : List ByteArray} {gs : List (List ByteArray)} {j : Nat} (h : parse names (gs.take j) = none) : parse names gs = none := by
  have : gs = gs.take j ++ gs.drop j := (List.take_append_drop j gs).symm
  rw [this]
  unfold parse at h ⊢
  rw [List.foldl_append, h]
  exact stepG_none names _

theorem find_lt {names : List ByteArray} {s : ByteArray} {k : Nat} (h : find names s = some k) : k < names.length := by
  unfold find at h
  rw [List.findIdx?_eq_some_iff_getElem] at h
  exact h.1

theorem parseG_ok {names : List ByteArray} {seen : List Nat} (hs : seen.Nodup) : ∀ (ss : List ByteArray) (l0 l : List Nat), (seen ++ l0).Nodup → (∀ k ∈ l0, k < names.length) → ss.foldl (step names seen) (some l0) = some l → (seen ++ l).Nodup ∧ (∀ k ∈ l, k < names.length)
  | [], l0, l, h1, h2, h => by
    simp only [List.foldl_nil, Option.some.injEq] at h
    subst h
    exact ⟨h1, h2⟩
  | s :: ss, l0, l, h1, h2, h => by
    simp only [List.foldl_cons, step] at h
    cases hf : find names s with
    | none => rw [hf] at h; simp only at h; rw [step_none] at h; cases h
    | some k =>
      rw [hf] at h
      simp only at h
      by_cases hk : k ∈ seen ++ l0
      · rw [if_pos hk, step_none] at h; cases h
      · rw [if_neg hk] at h
        refine parseG_ok hs ss (l0 ++ [k]) l ?_ ?_ h
        · rw [← List.append_assoc, List.nodup_append]
          exact ⟨h1, by simp, fun a ha b hb => by rw [List.mem_singleton] at hb; rintro rfl; subst hb; exact hk ha⟩
        · intro x hx
          rw [List.mem_append, List.mem_singleton] at hx
          rcases hx with hx | rfl
          · exact h2 x hx
          · exact find_lt hf

theorem parse_ok {names : List ByteArray} : ∀ (gs : List (List ByteArray)) (G0 G : List (List Nat)), G0.flatten.Nodup → (∀ k ∈ G0.flatten, k < names.length) → gs.foldl (stepG names) (some G0) = some G → G.flatten.Nodup ∧ (∀ k ∈ G.flatten, k < names.length)
  | [], G0, G, h1, h2, h => by
    simp only [List.foldl_nil, Option.some.injEq] at h
    subst h
    exact ⟨h1, h2⟩
  | ss :: gs, G0, G, h1, h2, h => by
    simp only [List.foldl_cons, stepG] at h
    cases hp : parseG names G0.flatten ss with
    | none => rw [hp] at h; simp only [Option.map_none] at h; rw [stepG_none] at h; cases h
    | some l =>
      rw [hp] at h
      simp only [Option.map_some] at h
      obtain ⟨a, b⟩ := parseG_ok h1 ss [] l (by simpa using h1) (by simp) hp
      refine parse_ok gs (G0 ++ [l]) G (by rw [flatten_snoc]; exact a) ?_ h
      rw [flatten_snoc]
      intro k hk
      rw [List.mem_append] at hk
      rcases hk with hk | hk
      · exact h2 k hk
      · exact b k hk

theorem parse_sound {names : List ByteArray} {gs : List (List ByteArray)} {G : List (List Nat)} (h : parse names gs = some G) : G.flatten.Nodup ∧ (∀ k ∈ G.flatten, k < names.length) :=
  parse_ok gs [] G (by simp) (by simp) h

/-- Different numbers below one are no more than it. -/
theorem pigeon : ∀ (n : Nat) (l : List Nat), l.Nodup → (∀ x ∈ l, x < n) → l.length ≤ n
  | 0, [], _, _ => Nat.le_refl _
  | 0, x :: l, _, h => absurd (h x (by simp)) (by omega)
  | n + 1, l, hn, h => by
    have h1 := pigeon n (l.erase n) (hn.erase n) (fun x hx => by
      have h2 := h x (List.mem_of_mem_erase hx)
      have h3 : x ≠ n := ((List.Nodup.mem_erase_iff hn).1 hx).1
      omega)
    rw [List.length_erase] at h1
    split at h1 <;> omega

/-- All of so many numbers, each once. -/
theorem all_in {l : List Nat} {n : Nat} (hn : l.Nodup) (hl : ∀ k ∈ l, k < n) (he : n ≤ l.length) : ∀ k, k < n → k ∈ l := by
  intro k hk
  by_cases h : k ∈ l
  · exact h
  · have := pigeon n (k :: l) (List.nodup_cons.2 ⟨h, hn⟩) (fun x hx => by
      rcases List.mem_cons.1 hx with rfl | hx
      · exact hk
      · exact hl x hx)
    simp at this
    omega

theorem total_le (n c : Nat) (f : Nat → List Nat) (h : ∀ k, (f k).length ≤ c) : total n f ≤ n * c := by
  unfold total
  induction n with
  | zero => simp
  | succ n ih =>
    rw [List.range_succ, List.map_append, List.sum_append, Nat.succ_mul]
    have := h n
    simp
    omega

/-- Within a level nothing is large. -/
theorem mid_bounds {w : Nat → Nat} {n : Nat} {G : List (List Nat)} {l : List Nat} (hw : ∀ k, w k ≤ 30) (hn : n ≤ 32) (hG : (G.flatten ++ l).Nodup) (hk : ∀ k ∈ G.flatten ++ l, k < n) (lv j : Nat) :
    (∀ k, ((putLevel w (l.take j) lv (putGroup w l lv (place w G))).1 k).length ≤ 100) ∧ (putLevel w (l.take j) lv (putGroup w l lv (place w G))).2 ≤ 3200 := by
  have h1 := List.nodup_append.1 hG
  have hp := placed_all (w := w) (n := n) (fun k => Nat.le_trans (hw k) (by omega)) G h1.1 (fun k hk' => hk k (by simp [hk']))
  have hl : ∀ k, ((putLevel w (l.take j) lv (putGroup w l lv (place w G))).1 k).length ≤ 100 := by
    intro k
    rw [putLevel_length w lv k _ _ (List.Pairwise.sublist (List.take_sublist j l) h1.2.1), putGroup_length w k h1.2.1, hp.length]
    have := hw k
    split <;> split <;> split <;> omega
  refine ⟨hl, ?_⟩
  have ht : (putLevel w (l.take j) lv (putGroup w l lv (place w G))).2 = total n (putLevel w (l.take j) lv (putGroup w l lv (place w G))).1 :=
    putLevel_total _ (putGroup_total lv hp.total (fun k hk' => hk k (by simp [hk']))) (fun k hk' => hk k (by simp [List.mem_of_mem_take hk']))
  rw [ht]
  have h3 := total_le n 100 _ hl
  have h4 : n * 100 ≤ 3200 := by omega
  omega

end Lay
end Go.Proofs.Osier
