/- A watch over the levels of a battery has an alarm below its floor just if the battery is empty at some moment. -/
import Derived.Below
import Derived.Carry
import Derived.ChangeOld
import Derived.OpenShut
import Derived.ProofKit
import Derived.ShutString
import Derived.SizedLaws
import Derived.Test.YtodnfnnfjnnhmaaRows
import Derived.WalkKit
import Derived.Test.YtodnfnnfjnnhmaaCTopLevelsAreWatched5
-- YtodnfnnfjnnhmaaRTopLevelsAreWatched
namespace Go.Proofs.Ytodnfnnfjnnhmaa.topLevelsAreWatched
open Go.ChangeShapes Go.WideShapes Go.ChangeAt Go.RowKit Go.Proofs.Ytodnfnnfjnnhmaa.A
set_option linter.unusedVariables false
theorem own : ownKnob Try.prog.godebug = none := by kernel_rfl
theorem laidOut : laidOutB Try.prog = true := by kernel_rfl
set_option maxRecDepth 100000 in
theorem lifted (os : Os) (started : os.Started) (H : Type) (enc : TypeId × Value → H) :
 ReturnsInHanded {} Try.checked os 10 .any (Rows.topLevelsAreWatchedSpec.pre6 enc Try.prog Try.f10 Rows.topLevelsAreWatchedRow.domain false) (Rows.topLevelsAreWatchedSpec.post enc Try.prog Try.f10 false true false false) := by
 refine returnsInHanded_of_change_sized (C := Try.checked) own started (by kernel_rfl) Try.func10
  (ChangeSpec.witness6 (enc := enc) (C := Try.checked) false ⟨#[], #[.agg #[.int .i64 0, .int .i64 0, .int .i64 0, .int .i64 0, .int .i64 0], .slice none 0 0, .slice none 0 0, .slice none 0 0, .int .i64 0], []⟩ 8 (by kernel_rfl) (by kernel_rfl) (by kernel_rfl) (by kernel_rfl)) ?_
 intro W base args ds gs before hval0 hW hcnd hsz0 _
 have hsz : (DataW.weightsEach Try.prog (Try.f10.params.toList ++ Rows.topLevelsAreWatchedSpec.plain.varTypes Try.prog) (ds ++ gs)).all (· ≤ reachBytes) = true := hsz0
 have hval : ∀ (j : Nat) t v, Try.f10.params[j]? = some t → args[j]? = some v → Value.okWide Try.prog W .any base t v := hval0
 have hW' := hW
 obtain ⟨p, q, hA0, hV, rfl, hfz, hnd⟩ := hW
 have hA : DataW.TrodAll enc Try.prog W 0 (fun _ => true) true Try.f10.params.toList args.toList ds p := hA0
 rw [Try.params10] at hA hval hsz
 obtain ⟨v0, vs0, d0, ds0, p0, q0, hargs, rfl, rfl, h0, r0⟩ := trodAll_cons hA
 obtain ⟨v1, vs1, d1, ds1, p1, q1, rfl, rfl, rfl, h1, r1⟩ := trodAll_cons r0
 obtain ⟨v2, vs2, d2, ds2, p2, q2, rfl, rfl, rfl, h2, r2⟩ := trodAll_cons r1
 obtain ⟨v3, vs3, d3, ds3, p3, q3, rfl, rfl, rfl, h3, r3⟩ := trodAll_cons r2
 obtain ⟨v4, vs4, d4, ds4, p4, q4, rfl, rfl, rfl, h4, r4⟩ := trodAll_cons r3
 obtain ⟨rfl, rfl, rfl⟩ := trodAll_nil r4
 obtain rfl : args = #[v0, v1, v2, v3, v4] := by cases args; simp_all
 obtain ⟨rfl, rfl⟩ := trodVars_none hV
 have k0 := h0
 have lt0 : ∀ x ∈ p0, x.block < W.heap.size := by obtain ⟨m, hm⟩ := k0; exact DataW.trod_lt m _ _ _ hm
 obtain ⟨x0, y0, o0⟩ := arg_open (Z := fun b => b < W.heap.size) (fun _ h => h) (τ := YCell) (t := 58) (j := 0) (by kernel_rfl) hsz rfl rfl (hval 0 58 v0 rfl rfl) h0
 have k1 := h1
 have lt1 : ∀ x ∈ p1, x.block < W.heap.size := by obtain ⟨m, hm⟩ := k1; exact DataW.trod_lt m _ _ _ hm
 obtain ⟨x1, y1, o1⟩ := arg_open (Z := fun b => b < W.heap.size) (fun _ h => h) (τ := (.sl YLevel)) (t := 59) (j := 1) (by kernel_rfl) hsz rfl rfl (hval 1 59 v1 rfl rfl) h1
 have k2 := h2
 have lt2 : ∀ x ∈ p2, x.block < W.heap.size := by obtain ⟨m, hm⟩ := k2; exact DataW.trod_lt m _ _ _ hm
 obtain ⟨x2, y2, o2⟩ := arg_open (Z := fun b => b < W.heap.size) (fun _ h => h) (τ := (.sl YUse)) (t := 60) (j := 2) (by kernel_rfl) hsz rfl rfl (hval 2 60 v2 rfl rfl) h2
 have k3 := h3
 have lt3 : ∀ x ∈ p3, x.block < W.heap.size := by obtain ⟨m, hm⟩ := k3; exact DataW.trod_lt m _ _ _ hm
 obtain ⟨x3, y3, o3⟩ := arg_open (Z := fun b => b < W.heap.size) (fun _ h => h) (τ := (.sl YUse)) (t := 61) (j := 3) (by kernel_rfl) hsz rfl rfl (hval 3 61 v3 rfl rfl) h3
 have k4 := h4
 have lt4 : ∀ x ∈ p4, x.block < W.heap.size := by obtain ⟨m, hm⟩ := k4; exact DataW.trod_lt m _ _ _ hm
 obtain ⟨x4, y4, o4⟩ := arg_open (Z := fun b => b < W.heap.size) (fun _ h => h) (τ := (.int .i64)) (t := 3) (j := 4) (by kernel_rfl) hsz rfl rfl (hval 4 3 v4 rfl rfl) h4
 clear hA0 hval0 hsz0 hsz
 obtain ⟨n, hn⟩ := Pure.TopLevelsAreWatched x0 x1 x2 x3 x4 o0 o1 o2 o3 o4
 refine ((perigeetop_TopLevelsAreWatched.ok n).ok' rfl (fun _ => ([], [])) (fun b => b < W.heap.size) W (x0, (x1, (x2, (x3, (x4, ()))))) [v0, v1, v2, v3, v4] [] (true, ()) (fun _ h => h) ⟨v0, [v1, v2, v3, v4], [], [], rfl, rfl, y0, ⟨v1, [v2, v3, v4], [], [], rfl, rfl, y1, ⟨v2, [v3, v4], [], [], rfl, rfl, y2, ⟨v3, [v4], [], [], rfl, rfl, y3, ⟨v4, [], [], [], rfl, rfl, y4, ⟨rfl, rfl⟩⟩⟩⟩⟩⟩ (by simp) (by simp) hn).mono fun e W' ⟨v, Z', us, Fr, Fi, he, p⟩ => ?_
 obtain ⟨hv, bel⟩ := law_end p (τs := []) rfl (b := true) (fun h => h)
 subst he
 subst hv
 exact ⟨_, rfl, _, _, _, [], _, [], hW', trodAll_mk1 (shut_bool Try.underlying4 _), (trodAll_cons_mk (Below.trod laidOut (by kernel_rfl) (of_decide_eq_true (by kernel_rfl)) k0 bel lt0) (trodAll_cons_mk (Below.trod laidOut (by kernel_rfl) (of_decide_eq_true (by kernel_rfl)) k1 bel lt1) (trodAll_cons_mk (Below.trod laidOut (by kernel_rfl) (of_decide_eq_true (by kernel_rfl)) k2 bel lt2) (trodAll_cons_mk (Below.trod laidOut (by kernel_rfl) (of_decide_eq_true (by kernel_rfl)) k3 bel lt3) (trodAll_cons_mk (Below.trod laidOut (by kernel_rfl) (of_decide_eq_true (by kernel_rfl)) k4 bel lt4) trodAll_mk0))))), rfl, bel.frame _, fun h => by cases h⟩
end Go.Proofs.Ytodnfnnfjnnhmaa.topLevelsAreWatched
