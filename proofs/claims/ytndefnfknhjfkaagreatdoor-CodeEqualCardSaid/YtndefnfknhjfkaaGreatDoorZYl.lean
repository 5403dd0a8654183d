/- What every law's proof needs: from the walk to the row. -/
import Derived.Test.YtndefnfknhjfkaaGreatDoorZYk
import Derived.Test.YtndefnfknhjfkaaGreatDoorRows
import Derived.ProofKit
import Derived.HandedShaped
import Derived.WideKeyArr2
import Derived.OpenShut
import Derived.Carry
import Derived.Lay
import Derived.LaidOnce
import Derived.Stop.Joined
namespace Go.Proofs.YtndefnfknhjfkaaGreatDoor
open Go.ChangeShapes Go.WideShapes Go.ChangeAt Go.RowKit Go.WideMaps Go.Proofs.Osier

theorem own : ownKnob Tryz.prog.godebug = none := by kernel_rfl
theorem laidOut : laidOutB Tryz.prog = true := by kernel_rfl

/-- The wrap with a condition on the start and with the world's shape. -/
theorem handed_both {H : Type} {enc : TypeId × Value → H} {a : Assume} {C : Checked} {os : Os} {f : FuncId} {fn : Func} {s : ChangeSpec} {conds : List PathCond} {apart fresh handsOn again : Bool} {X : World → Array Value → Prop}
    (hX : ∀ (w w' : World) (args : Array Value), w.heap = w'.heap → X w args → X w' args)
    (own : ownKnob C.prog.godebug = none) (started : os.Started) (noInit : C.prog.inits.idxOf? f = none) (hfn : C.prog.funcs[f]? = some fn)
    (witness : ∃ (w : World) (tape : Tape) (i : Input), w.os = os ∧ (w.forCall tape i).Shaped C.prog ∧ i.vars = [] ∧ Input.okWide C.prog (w.forCall tape i) .any w.heap.size f i ∧
      ((s.pre enc C.prog fn conds apart (w.forCall tape i).memory i.args ∧ X (w.forCall tape i).memory i.args) ∧ sizedMet enc C.prog fn (OpenSpec.ofChange s) apart (w.forCall tape i).memory i.args) ∧ a.holds C.prog (lone (Frame.enter C.prog f i.args .normal) [] (w.forCall tape i)))
    (contract : ∀ (W : World) (base : Nat) (args : Array Value) (ds gs : List (DataW H)) (before : List MemPlace),
      (∀ (j : Nat) t v, fn.params[j]? = some t → args[j]? = some v → Value.okWide C.prog W .any base t v) →
      DataW.Whole enc C.prog fn.params.toList s.vars apart W args.toList ds gs before →
      (DataW.weightsEach C.prog (fn.params.toList ++ s.plain.varTypes C.prog) (ds ++ gs)).all (· ≤ reachBytes) = true → X W args → W.ShapedOpen C.prog →
      Calls C.prog f args W fun e W' => ∃ v, e = .returned v ∧ s.post enc C.prog fn apart fresh handsOn again W args v W') :
    ReturnsInHanded a C os f .any (fun w args => (s.pre enc C.prog fn conds apart w args ∧ X w args) ∧ sizedMet enc C.prog fn (OpenSpec.ofChange s) apart w args) (s.post enc C.prog fn apart fresh handsOn again) := by
  refine returnsInHanded_of_calls own started noInit witness ?_
  intro w tape i _ hsh _ hok hpre _
  obtain ⟨_, _, _, fn', hfn', _, _, _, _, hval⟩ := hok
  have e : fn' = fn := Option.some.inj (hfn'.symm.trans hfn)
  subst e
  obtain ⟨⟨⟨ds, gs, before, hw, _⟩, hx⟩, hz⟩ := hpre
  have hw' := DataW.Whole.of_heap (w' := w.forCall tape i) (by rfl) hw
  refine (contract (w.forCall tape i) w.heap.size i.args ds gs before hval hw' (hz.weights hw) (hX _ _ _ (by rfl) hx) hsh).mono fun e W' ⟨v, he, hp⟩ => ?_
  subst he
  exact ChangeSpec.post_blind hp

theorem arr22 : ArrKey Tryz.prog 22 3 2 := ⟨by kernel_rfl, by kernel_rfl, by kernel_rfl, by kernel_rfl⟩

set_option maxRecDepth 100000 in
/-- Two numbers, by value. -/
theorem open_pair {H : Type} {enc : TypeId × Value → H} {W : World} {r : Reach} {b0 : Nat} {v : Value} {d : DataW H} {ps : List MemPlace} {base : Nat} {sp : Nat → Bool} {held : Bool} (hv : Value.okWide Tryz.prog W r b0 22 v)
    (h : DataW.Trod enc Tryz.prog W base sp held 22 v d ps) : ∃ a b : Int, v = .agg #[.int .i64 a, .int .i64 b] ∧ ps = [] := by
  obtain ⟨xs, rfl, hn⟩ := okWide_arr arr22 hv
  obtain ⟨fuel, hf⟩ := h
  obtain ⟨ys, m, rfl, hx, _, hyn, hel⟩ := DataW.trod_array (n := 2) (e := 3) arr22.hu hf
  have c3 : Tryz.prog.cellsOf 3 = 1 := by kernel_rfl
  rw [c3] at hel
  match ys, hyn with
  | [y0, y1], _ =>
    have e0 := hel 0 (by decide)
    have e1 := hel 1 (by decide)
    obtain ⟨a, ha, hy0, _⟩ := DataW.trod_int Tryz.underlying3 e0
    obtain ⟨b, hb, hy1, _⟩ := DataW.trod_int Tryz.underlying3 e1
    obtain ⟨l⟩ := xs
    match l, hn with
    | [v0, v1], _ =>
      simp [Value.cells] at ha hb
      subst ha
      subst hb
      refine ⟨a, b, rfl, ?_⟩
      have := congrArg Prod.snd hx
      simp only at this
      rw [this, hy0, hy1]
      rfl

theorem cell_lt {w : World} {p : Addr} {v : Value} (h : w.cell? p = some v) : p.block < w.heap.size := by
  rcases Nat.lt_or_ge p.block w.heap.size with hlt | hge
  · exact hlt
  · unfold World.cell? at h
    rw [Array.getElem?_eq_none hge] at h
    cases h

theorem max_cell {w : World} (h : w.ShapedOpen Tryz.prog) : ∃ m : Int, w.cell? ⟨0, 0, none⟩ = some (.int .i64 m) := Tryz.split119.s1_3 w h

end Go.Proofs.YtndefnfknhjfkaaGreatDoor
