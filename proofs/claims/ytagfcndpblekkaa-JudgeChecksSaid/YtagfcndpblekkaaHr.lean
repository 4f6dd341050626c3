/- A drawn region with guarded operations: the walk's own steps. 'held_run' takes all that yields the same in every world that meets S (loads too) and passes over what a guard bars; it stops where a call or a store is next. -/
import Derived.Deep.RegionHeld3
namespace Go.Proofs.Ytagfcndpblekkaa
open Lean Elab Tactic Meta Go

def heldTake (i : Nat) (skip : Bool) : TacticM Unit := withMainContext do
  let t := (← instantiateMVars (← getMainTarget)).consumeMData
  unless t.isAppOfArity ``wpAnyH 9 do throwError "held_take: no wpAnyH"
  let some oe := opAt t.getAppArgs[2]! i | throwError "held_take: the region is not written out"
  let oStx ← Term.exprToSyntax oe
  if skip then
    evalTactic (← `(tactic| refine wpAnyH_take (i := $(quote i)) (oi := $oStx) (v := undef) rfl (by kernel_rfl) (by kernel_rfl) (by kernel_rfl) (fun _ _ _ h => h) (Or.inr ⟨by rfl, rfl⟩) (by assumption) ?_))
  else
    evalTactic (← `(tactic| refine wpAnyH_take (i := $(quote i)) (oi := $oStx) (v := ?_) rfl (by kernel_rfl) (by kernel_rfl) (by kernel_rfl) (fun _ _ _ h => h) (Or.inl ⟨by rfl, ?_⟩) (by assumption) ?_))
    let gs ← getGoals
    let [_, hy, rest] := gs | throwError "held_take: three goals expected"
    setGoals [hy]
    evalTactic (← `(tactic| (intro w hSw; (try dsimp only at hSw); go_split_ands; go_simp)))
    unless (← getGoals).isEmpty do evalTactic (← `(tactic| with_reducible rfl))
    unless (← getGoals).isEmpty do throwError "not closed"
    setGoals [rest]
  evalTactic (← `(tactic| try simp only [Act.put, List.setIfInBounds_toArray, List.set_cons_zero, List.set_cons_succ]))

elab "held_take " i:num : tactic => heldTake i.getNat false
elab "held_skip " i:num : tactic => heldTake i.getNat true

partial def heldRun : TacticM Unit := withMainContext do
  let t := (← instantiateMVars (← getMainTarget)).consumeMData
  unless t.isAppOfArity ``wpAnyH 9 do throwError "held_run: no wpAnyH"
  let args := t.getAppArgs
  let ready ← kernelNats (mkApp3 (mkConst ``Region.ready) args[1]! args[2]! args[6]!)
  if ready.isEmpty then
    evalTactic (← `(tactic| refine wpAnyH_done (by kernel_rfl) ?_ _))
    return
  for i in ready do
    let s ← saveState
    let took ← try
      Tactic.withoutRecover (heldTake i true); pure true
    catch _ => do
      s.restore
      let h := opHead args[2]! i
      if h == some ``Op.call || h == some ``Op.store then pure false else
      try
        Tactic.withoutRecover (heldTake i false); pure true
      catch _ => do s.restore; pure false
    if took then
      heldRun
      return
  return

elab "held_run" : tactic => heldRun

/-- The call that alone is ready: its contract is met by the tactic that follows; the goal is '(Oper.wp ..)' as 'AllReadyH.cons' leaves it, then go_simp. -/
def heldCall (i : Nat) : TacticM Unit := withMainContext do
  let t := (← instantiateMVars (← getMainTarget)).consumeMData
  unless t.isAppOfArity ``wpAnyH 9 do throwError "held_call: no wpAnyH"
  let some oe := opAt t.getAppArgs[2]! i | throwError "held_call: the region is not written out"
  let oStx ← Term.exprToSyntax oe
  let n := quote i
  evalTactic (← `(tactic| refine wpAnyH_ready (rs := [$n]) (by kernel_rfl) (by simp) ?_))
  evalTactic (← `(tactic| refine AllReadyH.cons (o := $oStx) rfl (fun $(mkIdent `K) $(mkIdent `hK) => ?_) AllReadyH.nil))

elab "held_call " i:num : tactic => heldCall i.getNat

/-- All that may come up next: one goal each. -/
elab "held_all" : tactic => withMainContext do
  let t := (← instantiateMVars (← getMainTarget)).consumeMData
  unless t.isAppOfArity ``wpAnyH 9 do throwError "held_all: no wpAnyH"
  let args := t.getAppArgs
  let ready ← kernelNats (mkApp3 (mkConst ``Region.ready) args[1]! args[2]! args[6]!)
  let lits : Array (TSyntax `term) := ready.toArray.map fun i => quote i
  evalTactic (← `(tactic| refine wpAnyH_ready (rs := [$lits,*]) (by kernel_rfl) (by simp) ?_))
  let mut done : List MVarId := []
  for i in ready do
    let some oe := opAt args[2]! i | throwError "held_all: the region is not written out"
    let oStx ← Term.exprToSyntax oe
    evalTactic (← `(tactic| refine AllReadyH.cons (o := $oStx) rfl (fun $(mkIdent `K) $(mkIdent `hK) => ?_) ?_))
    let gs ← getGoals
    let [step, more] := gs | throwError "held_all: two goals expected"
    done := done ++ [step]
    setGoals [more]
  evalTactic (← `(tactic| exact AllReadyH.nil))
  setGoals done

/-- Behind such a step: S anew by 'e'; on. -/
macro "held_on " e:term : tactic => `(tactic| (refine $(Lean.mkIdent `hK).out _ _ $e (fun $(Lean.mkIdent `hHeld) => ?_); clear $(Lean.mkIdent `hK) $(Lean.mkIdent `K); (try simp only [Act.put, List.setIfInBounds_toArray, List.set_cons_zero, List.set_cons_succ])))
end Go.Proofs.Ytagfcndpblekkaa
