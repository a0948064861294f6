/- a rule that never fires with some events does not fire when only these come; and without a ring few events end without ErrLoop -/
import Derived.Below
import Derived.Carry
import Derived.ChangeOld
import Derived.OpenShut
import Derived.ProofKit
import Derived.ShutString
import Derived.SizedLaws
import Derived.Test.YtadhpgecilhgnaaRows
import Derived.WalkKit
import Derived.Test.YtadhpgecilhgnaaCWatchesNeverFire5
-- YtadhpgecilhgnaaRWatchesNeverFire
namespace Go.Proofs.Ytadhpgecilhgnaa.watchesNeverFire
open Go.ChangeShapes Go.WideShapes Go.ChangeAt Go.RowKit Go.Proofs.Ytadhpgecilhgnaa.A
set_option linter.unusedVariables false
theorem own : ownKnob Try.prog.godebug = none := by kernel_rfl
theorem laidOut : laidOutB Try.prog = true := by kernel_rfl
set_option maxRecDepth 100000 in
theorem lifted (os : Os) (started : os.Started) (H : Type) (enc : TypeId × Value → H) :
 ReturnsInHanded {} Try.checked os 8 .any (Rows.watchesNeverFireSpec.pre6 enc Try.prog Try.f8 Rows.watchesNeverFireRow.domain false) (Rows.watchesNeverFireSpec.post enc Try.prog Try.f8 false true false false) := by
 refine returnsInHanded_of_change_sized (C := Try.checked) own started (by kernel_rfl) Try.func8
  (ChangeSpec.witness6 (enc := enc) (C := Try.checked) false ⟨#[], #[.agg #[.slice none 0 0, .slice none 0 0, .string ByteArray.empty, .slice none 0 0], .slice none 0 0], []⟩ 8 (by kernel_rfl) (by kernel_rfl) (by kernel_rfl) (by kernel_rfl)) ?_
 intro W base args ds gs before hval0 hW hcnd hsz0 _
 have hsz : (DataW.weightsEach Try.prog (Try.f8.params.toList ++ Rows.watchesNeverFireSpec.plain.varTypes Try.prog) (ds ++ gs)).all (· ≤ reachBytes) = true := hsz0
 have hval : ∀ (j : Nat) t v, Try.f8.params[j]? = some t → args[j]? = some v → Value.okWide Try.prog W .any base t v := hval0
 have hW' := hW
 obtain ⟨p, q, hA0, hV, rfl, hfz, hnd⟩ := hW
 have hA : DataW.TrodAll enc Try.prog W 0 (fun _ => true) true Try.f8.params.toList args.toList ds p := hA0
 rw [Try.params8] at hA hval hsz
 obtain ⟨v0, vs0, d0, ds0, p0, q0, hargs, rfl, rfl, h0, r0⟩ := trodAll_cons hA
 obtain ⟨v1, vs1, d1, ds1, p1, q1, rfl, rfl, rfl, h1, r1⟩ := trodAll_cons r0
 obtain ⟨rfl, rfl, rfl⟩ := trodAll_nil r1
 obtain rfl : args = #[v0, v1] := by cases args; simp_all
 obtain ⟨rfl, rfl⟩ := trodVars_none hV
 have k0 := h0
 have lt0 : ∀ x ∈ p0, x.block < W.heap.size := by obtain ⟨m, hm⟩ := k0; exact DataW.trod_lt m _ _ _ hm
 obtain ⟨x0, y0, o0⟩ := arg_open (Z := fun b => b < W.heap.size) (fun _ h => h) (τ := YWatch) (t := 26) (j := 0) (by kernel_rfl) hsz rfl rfl (hval 0 26 v0 rfl rfl) h0
 have k1 := h1
 have lt1 : ∀ x ∈ p1, x.block < W.heap.size := by obtain ⟨m, hm⟩ := k1; exact DataW.trod_lt m _ _ _ hm
 obtain ⟨x1, y1, o1⟩ := arg_open (Z := fun b => b < W.heap.size) (fun _ h => h) (τ := (.sl YEvent)) (t := 39) (j := 1) (by kernel_rfl) hsz rfl rfl (hval 1 39 v1 rfl rfl) h1
 clear hA0 hval0 hsz0 hsz
 obtain ⟨n, hn⟩ := Pure.WatchesNeverFire x0 x1 o0 o1
 refine ((perigeelaw8_WatchesNeverFire.ok n).ok' rfl (fun b => b < W.heap.size) W (x0, (x1, ())) [v0, v1] [] (true, ()) (fun _ h => h) ⟨v0, [v1], [], [], rfl, rfl, y0, ⟨v1, [], [], [], rfl, rfl, y1, ⟨rfl, rfl⟩⟩⟩ (by simp) (by simp) hn).mono fun e W' ⟨v, Z', us, Fr, Fi, he, p⟩ => ?_
 obtain ⟨hv, bel⟩ := law_end p (τs := []) rfl (b := true) (fun h => h)
 subst he
 subst hv
 exact ⟨_, rfl, _, _, _, [], _, [], hW', trodAll_mk1 (shut_bool Try.underlying4 _), (trodAll_cons_mk (Below.trod laidOut (by kernel_rfl) (of_decide_eq_true (by kernel_rfl)) k0 bel lt0) (trodAll_cons_mk (Below.trod laidOut (by kernel_rfl) (of_decide_eq_true (by kernel_rfl)) k1 bel lt1) trodAll_mk0)), rfl, bel.frame _, fun h => by cases h⟩
end Go.Proofs.Ytadhpgecilhgnaa.watchesNeverFire
