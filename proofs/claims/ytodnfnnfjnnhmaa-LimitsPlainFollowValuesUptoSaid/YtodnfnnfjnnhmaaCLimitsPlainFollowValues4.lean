/- With Count and Clear 1 and Back 0 the state is that of the last value by itself, for all limits and values, of a bulk of 1048576 at most. -/
import Derived.Below
import Derived.Carry
import Derived.ChangeOld
import Derived.Deep.CondSized
import Derived.JoinedCond
import Derived.OpenShut
import Derived.ProofKit
import Derived.ShutString
import Derived.SizedLaws
import Derived.Test.YtodnfnnfjnnhmaaRows
import Derived.WalkKit
import Derived.Test.YtodnfnnfjnnhmaaCLimitsPlainFollowValues3
-- YtodnfnnfjnnhmaaRLimitsPlainFollowValues
namespace Go.Proofs.Ytodnfnnfjnnhmaa.limitsPlainFollowValues
open Go.ChangeShapes Go.WideShapes Go.ChangeAt Go.RowKit Go.Proofs.Ytodnfnnfjnnhmaa.A
set_option linter.unusedVariables false
theorem own : ownKnob Try.prog.godebug = none := by kernel_rfl
theorem laidOut : laidOutB Try.prog = true := by kernel_rfl
theorem bulk_pos {H : Type} (d : DataW H) : 1 ≤ Rows.uptoBulk d := by
 cases d with
 | lit l => cases l <;> simp [Rows.uptoBulk]
 | _ => simp [Rows.uptoBulk]
theorem bulk_all {H : Type} : ∀ l : List (DataW H), l.length ≤ Rows.uptoBulkAll l
 | [] => by simp [Rows.uptoBulkAll]
 | d :: l => by have h1 := bulk_pos d; have h2 := bulk_all l; simp only [Rows.uptoBulkAll, List.length_cons]; omega
theorem bulk_mem {H : Type} {d : DataW H} : ∀ {l : List (DataW H)}, d ∈ l → Rows.uptoBulk d ≤ Rows.uptoBulkAll l
 | [], h => by cases h
 | e :: l, h => by
  rcases List.mem_cons.1 h with rfl | h
  ·simp only [Rows.uptoBulkAll]; omega
  ·have := bulk_mem h; simp only [Rows.uptoBulkAll]; omega
theorem upto_len {H α : Type} {y : List α} {d : DataW H} {ds : List (DataW H)} (h : y = [] ∨ ∃ es r, d = .slice es r ∧ es.length = y.length) (hd : d ∈ ds) (hs : Rows.uptoSmall H ds = true) : y.length ≤ 1048576 := by
 have hs : Rows.uptoBulkAll ds ≤ 1048576 := of_decide_eq_true hs
 rcases h with rfl | ⟨es, r, rfl, h⟩
 ·simp
 ·have h1 := bulk_mem hd
  have h2 := bulk_all es
  simp only [Rows.uptoBulk] at h1
  omega
set_option maxRecDepth 100000 in
theorem lifted (os : Os) (started : os.Started) (H : Type) (enc : TypeId × Value → H) (F : Stop.Interp) :
 ReturnsInHanded {} Try.checked os 4 .any ((Rows.OpenSpec.upto Rows.limitsPlainFollowValuesSpec).pre6 enc Try.prog Try.f4 Rows.limitsPlainFollowValuesUptoRow.domain false) (((Rows.OpenSpec.upto Rows.limitsPlainFollowValuesSpec).at F).post enc Try.prog Try.f4 false true false false) := by
 refine returnsInHanded_of_cond_sized (C := Try.checked) (s := (Rows.OpenSpec.upto Rows.limitsPlainFollowValuesSpec)) (k := Rows.uptoSmall) rfl own started (by kernel_rfl) Try.func4
  (OpenSpec.witness (enc := enc) (C := Try.checked) (s := (Rows.OpenSpec.upto Rows.limitsPlainFollowValuesSpec)) (k := Rows.uptoSmall) rfl false ⟨#[], #[.agg #[.string ByteArray.empty, .int .i64 0, .int .i64 0, .int .i64 0, .int .i64 0, .int .i64 0, .int .i64 0, .int .i64 0], .slice none 0 0], []⟩ 8 (by kernel_rfl) (by kernel_rfl) (by kernel_rfl) (x := ([.agg [.lit (.string []), .lit (.int .i64 0), .lit (.int .i64 0), .lit (.int .i64 0), .lit (.int .i64 0), .lit (.int .i64 0), .lit (.int .i64 0), .lit (.int .i64 0)], .nil], [], [])) (by kernel_rfl) (by kernel_rfl) (by kernel_rfl)) ?_
 intro W base args ds gs before hval0 hW hcnd hsmall0 hsz0 _
 have hsz : (DataW.weightsEach Try.prog (Try.f4.params.toList ++ Rows.limitsPlainFollowValuesSpec.plain.varTypes Try.prog) (ds ++ gs)).all (· ≤ reachBytes) = true := hsz0
 have hval : ∀ (j : Nat) t v, Try.f4.params[j]? = some t → args[j]? = some v → Value.okWide Try.prog W .any base t v := hval0
 have hW' := hW
 obtain ⟨p, q, hA0, hV, rfl, hfz, hnd⟩ := hW
 have hA : DataW.TrodAll enc Try.prog W 0 (fun _ => true) true Try.f4.params.toList args.toList ds p := hA0
 rw [Try.params4] at hA hval hsz
 obtain ⟨v0, vs0, d0, ds0, p0, q0, hargs, rfl, rfl, h0, r0⟩ := trodAll_cons hA
 obtain ⟨v1, vs1, d1, ds1, p1, q1, rfl, rfl, rfl, h1, r1⟩ := trodAll_cons r0
 obtain ⟨rfl, rfl, rfl⟩ := trodAll_nil r1
 obtain rfl : args = #[v0, v1] := by cases args; simp_all
 obtain ⟨rfl, rfl⟩ := trodVars_none hV
 have k0 := h0
 have lt0 : ∀ x ∈ p0, x.block < W.heap.size := by obtain ⟨m, hm⟩ := k0; exact DataW.trod_lt m _ _ _ hm
 obtain ⟨x0, y0, o0⟩ := arg_open (Z := fun b => b < W.heap.size) (fun _ h => h) (τ := YLimit) (t := 25) (j := 0) (by kernel_rfl) hsz rfl rfl (hval 0 25 v0 rfl rfl) h0
 have k1 := h1
 have lt1 : ∀ x ∈ p1, x.block < W.heap.size := by obtain ⟨m, hm⟩ := k1; exact DataW.trod_lt m _ _ _ hm
 obtain ⟨x1, y1, o1⟩ := arg_open (Z := fun b => b < W.heap.size) (fun _ h => h) (τ := (.sl (.int .i64))) (t := 33) (j := 1) (by kernel_rfl) hsz rfl rfl (hval 1 33 v1 rfl rfl) h1
 have u1 : x1.length ≤ 1048576 := upto_len (arg_len (by kernel_rfl) (hval 1 33 v1 rfl rfl) y1 h1) (by simp) hsmall0
 clear hA0 hval0 hsz0 hsz
 obtain ⟨n, hn⟩ := Pure.LimitsPlainFollowValues x0 x1 o0 o1 u1
 refine ((perigeelaw8_LimitsPlainFollowValues.ok n).ok' rfl (fun b => b < W.heap.size) W (x0, (x1, ())) [v0, v1] [] (true, ()) (fun _ h => h) ⟨v0, [v1], [], [], rfl, rfl, y0, ⟨v1, [], [], [], rfl, rfl, y1, ⟨rfl, rfl⟩⟩⟩ (by simp) (by simp) hn).mono fun e W' ⟨v, Z', us, Fr, Fi, he, p⟩ => ?_
 obtain ⟨hv, bel⟩ := law_end p (τs := []) rfl (b := true) (fun h => h)
 subst he
 subst hv
 exact ⟨_, rfl, _, _, _, [], _, [], hW', trodAll_mk1 (shut_bool Try.underlying4 _), (trodAll_cons_mk (Below.trod laidOut (by kernel_rfl) (of_decide_eq_true (by kernel_rfl)) k0 bel lt0) (trodAll_cons_mk (Below.trod laidOut (by kernel_rfl) (of_decide_eq_true (by kernel_rfl)) k1 bel lt1) trodAll_mk0)), rfl, bel.frame _, fun h => by cases h⟩
end Go.Proofs.Ytodnfnnfjnnhmaa.limitsPlainFollowValues
