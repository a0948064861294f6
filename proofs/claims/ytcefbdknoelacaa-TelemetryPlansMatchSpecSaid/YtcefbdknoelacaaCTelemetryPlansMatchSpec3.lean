/- CheckPlan and Sent are as specified, with all errors; no condition. -/
import Derived.Below
import Derived.KernelRfl
import Derived.Laws.Strings
import Derived.Shelf.Small.Strs
import Derived.Test.YtcefbdknoelacaaChecked
import Derived.Test.YtcefbdknoelacaaProg
import Derived.Test.YtcefbdknoelacaaCTelemetryPlansMatchSpec2
-- YtcefbdknoelacaaLw
set_option linter.unusedVariables false
set_option linter.unusedSimpArgs false
namespace Go.Proofs.Ytcefbdknoelacaa.A
open Go
section
variable {P : Program} {tab : Nat → Option TI}
theorem TOk.nil : TOk P (ofL none []) := fun _ _ h => by cases h
theorem TOk.cons {f : Nat} {F : FunE} {l : List (Nat × Option FunE)} (h : FunC P f F) (hl : TOk P (ofL none l)) : TOk P (ofL none ((f, some F) :: l)) := by
 intro g G hg
 rw [ofL_cons] at hg
 by_cases e : g = f
 ·subst e
  rw [upd_same] at hg
  cases hg
  exact h
 ·rw [upd_other _ _ e] at hg
  exact hl g G hg
theorem funC_of (hm : P.follows .mixedOrders = true) (hT : TabOk P tab) {f : FuncId} {fn : Func} (hf : P.funcs[f]? = some fn) {T : Nat → Nat → Option FunE} {ann : Nat → Option (List Keep)} {ins : List (Bool × Ty)} {outs : List Ty} {n : Nat} (hC : ∀ k, TOk P (T k)) (hk : fnOkB fn ins = true) (hn : (fn.name == "runtime.NumGoroutine") = false) : FunC P f (fnE tab T ann fn ins outs n) := by
 refine ⟨fnE_ok hm hT hf (fun k _ => way_ok hT (hC k)) hk, fn, hf, hn, ?_⟩
 simp only [fnOkB, Bool.and_eq_true] at hk
 have := hk.1.1.2
 cases hb : fn.body with
 | none => rw [hb] at this; cases this
 | some _ => rfl
theorem FunC.spec {f : FuncId} {ins : List (Bool × Ty)} {outs : List Ty} {F : Nat → (ins.foldr (fun p t => Ty.pair p.2 t) .unit).den → Option ((outs ++ (ins.filter (·.1)).map (·.2)).foldr Ty.pair .unit).den} {g : (ins.foldr (fun p t => Ty.pair p.2 t) .unit).den → Option ((outs ++ (ins.filter (·.1)).map (·.2)).foldr Ty.pair .unit).den}
 (hF : ∀ n, FunC P f ⟨ins, outs, F n⟩) (h : ∀ x r, g x = some r → ∃ n, F n x = some r) : FunC P f ⟨ins, outs, g⟩ := by
 refine ⟨fun Z w xs vs Fs r h1 h2 h3 h4 h5 => ?_, (hF 0).en⟩
 obtain ⟨n, hn⟩ := h xs r h5
 exact ((hF n).ok Z w xs vs Fs r h1 h2 h3 h4 hn).mono fun e w' ⟨v, Z', us, Fr, Fi, he, p⟩ => ⟨v, Z', us, Fr, Fi, he, ⟨p.kp, p.zs, p.zl, p.zi, p.res, p.v, p.io, p.nd, p.nz⟩⟩
theorem law_end {Z : Nat → Prop} {w w' : World} {F : FunE} {vs us : List Value} {v : Value} {Z' : Nat → Prop} {Fr Fi : List Nat} {r : ((F.outs ++ (F.ins.filter (·.1)).map (·.2)).foldr Ty.pair .unit).den} (p : Post Z w [] F vs r v w' Z' us Fr Fi) {τs : List Ty} (ho : F.outs = [.bool]) {b : Bool} (hb : ResL Z' w' F.outs (splitRes F.outs _ r).1 us Fr → ResL Z' w' [.bool] (b, ()) us Fr) :
 v = .bool b ∧ RowKit.Below w.heap.size w w' := by
 refine ⟨?_, p.kp.os, p.kp.tape, p.kp.output, p.kp.size, fun k hk => p.kp.block k hk (by simp)⟩
 obtain ⟨u, us', F1, F2, e1, e2, ⟨cs, e3, e4⟩, e5, e6⟩ := hb p.res
 have e3 : cs = [u] := e3
 subst e3
 obtain ⟨e7, _⟩ := e4
 rw [p.v, e1, e5]
 simpa [tupOf] using e7
end
end Go.Proofs.Ytcefbdknoelacaa.A

-- YtcefbdknoelacaaShelf
namespace Go.Proofs
open Go.Shelf
def Try.lays106_ren : Go.Shelf.Ren := ⟨fun | 106 => 110 | 213 => 121 | 265 => 134 | n => n, fun | 9 => 9 | 3 => 3 | n => n, fun | n => n⟩
theorem Try.lays106 : Go.Proofs.Lays.n106 Try.prog Try.lays106_ren := {
 mixed := by kernel_rfl
 f106 := Try.func110.trans (congrArg some (by kernel_rfl))
 f213 := Try.func121.trans (congrArg some (by kernel_rfl))
 f265 := Try.func134.trans (congrArg some (by kernel_rfl))
 t3 := Try.underlying3
 a3 := Try.isAgg3
 z3 := Try.sizeOf3
 v3 := Try.zeroValue3
 t9 := Try.underlying9
 a9 := Try.isAgg9
 z9 := Try.sizeOf9
 v9 := Try.zeroValue9 }
open Go.RowKit in
theorem Try.strings_Compare (a b : ByteArray) (w : World) :
 Calls Try.prog 110 #[.string a, .string b] w fun e w' => e = .returned (.int .i64 (Lib.compareBytes a.data.toList b.data.toList)) ∧ w' = w := Any.strings_Compare Try.lays106 a b w
end Go.Proofs

-- YtcefbdknoelacaaK
set_option linter.unusedVariables false
set_option maxRecDepth 100000
namespace Go.Proofs.Ytcefbdknoelacaa.A
open Go
theorem follows : Try.prog.follows .mixedOrders = true := by kernel_rfl
theorem tab_ok : TabOk Try.prog tab := tabOk_of (by kernel_rfl)
theorem compare_less : ∀ a b : List UInt8, Lib.compareBytes a b = if Op.bytesLess a b = true then -1 else if Op.bytesLess b a = true then 1 else 0 := by
 intro a
 induction a with
 | nil => intro b; cases b <;> simp [Lib.compareBytes, Op.bytesLess]
 | cons x a ih =>
  intro b
  cases b with
  | nil => simp [Lib.compareBytes, Op.bytesLess]
  | cons y b =>
   have e1 : Op.bytesLess (x :: a) (y :: b) = (decide (x < y) || (x == y && Op.bytesLess a b)) := by rw [Op.bytesLess]
   have e2 : Op.bytesLess (y :: b) (x :: a) = (decide (y < x) || (y == x && Op.bytesLess b a)) := by rw [Op.bytesLess]
   rw [Lib.compareBytes, e1, e2]
   rcases Nat.lt_trichotomy x.toNat y.toNat with h | h | h
   ·have h1 : x < y := UInt8.lt_iff_toNat_lt.2 h
    simp [h1]
   ·have h3 : x = y := UInt8.toNat_inj.1 h
    subst h3
    have h2 : ¬ x < x := fun h' => by have := UInt8.lt_iff_toNat_lt.1 h'; omega
    simpa [h2] using ih b
   ·have h1 : y < x := UInt8.lt_iff_toNat_lt.2 h
    have h2 : ¬ x < y := fun h' => by have := UInt8.lt_iff_toNat_lt.1 h'; omega
    have h3 : ¬ x = y := fun h' => by subst h'; omega
    simp [h1, h2, h3]
theorem cmpS_range (a b : List UInt8) : IntKind.i64.min ≤ cmpS a b ∧ cmpS a b ≤ IntKind.i64.max := by
 have h1 : IntKind.i64.min = -9223372036854775808 := rfl
 have h2 : IntKind.i64.max = 9223372036854775807 := rfl
 rw [h1, h2]
 unfold cmpS
 split
 ·omega
 ·split <;> omega
theorem strings_Compare.ok (n : Nat) : FunC Try.prog 110 (strings_Compare.E n) := by
 refine ⟨fun Z w xs vs Fs r hZ hA hn hF hr => ?_, Try.f110, Try.func110, by kernel_rfl, by kernel_rfl⟩
 obtain ⟨v0, vs0, F0, G0, rfl, rfl, ⟨c0, i0, q0⟩, v1, vs1, F1, G1, rfl, rfl, ⟨c1, i1, q1⟩, rfl, rfl⟩ := hA
 have i0 : c0 = [v0] := i0
 have i1 : c1 = [v1] := i1
 subst i0; subst i1
 obtain ⟨q0, rfl, l0⟩ := q0
 obtain ⟨q1, rfl, l1⟩ := q1
 simp only [List.cons.injEq, and_true] at q0 q1
 subst q0; subst q1
 have hr : some (cmpS xs.1 xs.2.1, ()) = some r := hr
 cases hr
 refine (Try.strings_Compare ⟨⟨xs.1⟩⟩ ⟨⟨xs.2.1⟩⟩ w).mono ?_
 rintro e w' ⟨rfl, rfl⟩
 refine ⟨_, Z, [.int .i64 (cmpS xs.1 xs.2.1)], [], [], rfl, Kept.refl _ _, fun _ h => h, hZ, fun _ h _ => .inl h, ?_, ?_, ?_, by simp, by simp⟩
 ·exact ⟨_, [], [], [], rfl, rfl, ⟨[_], rfl, rfl, rfl, cmpS_range _ _⟩, rfl, rfl⟩
 ·rw [compare_less]
  rfl
 ·rfl

theorem telemetry_parameter_1.ok (n : Nat) : FunC Try.prog 109 (telemetry_parameter_1.E n) := funC_of follows tab_ok Try.func109 (T := telemetry_parameter_1.T) (ann := telemetry_parameter_1.ann) (ins := telemetry_parameter_1.ins) (outs := telemetry_parameter_1.outs) (n := n) (fun k => TOk.cons (strings_Compare.ok k) (TOk.nil)) (by kernel_rfl) (by kernel_rfl)
theorem kit_In.ok (n : Nat) : FunC Try.prog 55 (kit_In.E n) := funC_of follows tab_ok Try.func55 (T := kit_In.T) (ann := kit_In.ann) (ins := kit_In.ins) (outs := kit_In.outs) (n := n) (fun k => TOk.nil) (by kernel_rfl) (by kernel_rfl)
theorem telemetry_Word.ok (n : Nat) : FunC Try.prog 60 (telemetry_Word.E n) := funC_of follows tab_ok Try.func60 (T := telemetry_Word.T) (ann := telemetry_Word.ann) (ins := telemetry_Word.ins) (outs := telemetry_Word.outs) (n := n) (fun k => TOk.nil) (by kernel_rfl) (by kernel_rfl)
theorem kit_First.ok (n : Nat) : FunC Try.prog 61 (kit_First.E n) := funC_of follows tab_ok Try.func61 (T := kit_First.T) (ann := kit_First.ann) (ins := kit_First.ins) (outs := kit_First.outs) (n := n) (fun k => TOk.nil) (by kernel_rfl) (by kernel_rfl)
theorem telemetry_span.ok (n : Nat) : FunC Try.prog 54 (telemetry_span.E n) := funC_of follows tab_ok Try.func54 (T := telemetry_span.T) (ann := telemetry_span.ann) (ins := telemetry_span.ins) (outs := telemetry_span.outs) (n := n) (fun k => TOk.nil) (by kernel_rfl) (by kernel_rfl)
theorem telemetry_checkDots.ok (n : Nat) : FunC Try.prog 62 (telemetry_checkDots.E n) := funC_of follows tab_ok Try.func62 (T := telemetry_checkDots.T) (ann := telemetry_checkDots.ann) (ins := telemetry_checkDots.ins) (outs := telemetry_checkDots.outs) (n := n) (fun k => TOk.cons (telemetry_span.ok k) (TOk.cons (kit_In.ok k) (TOk.nil))) (by kernel_rfl) (by kernel_rfl)
theorem telemetry_checkWords.ok (n : Nat) : FunC Try.prog 63 (telemetry_checkWords.E n) := funC_of follows tab_ok Try.func63 (T := telemetry_checkWords.T) (ann := telemetry_checkWords.ann) (ins := telemetry_checkWords.ins) (outs := telemetry_checkWords.outs) (n := n) (fun k => TOk.cons (telemetry_span.ok k) (TOk.cons (kit_In.ok k) (TOk.cons (telemetry_Word.ok k) (TOk.nil)))) (by kernel_rfl) (by kernel_rfl)
theorem telemetry_CheckParameters.ok (n : Nat) : FunC Try.prog 18 (telemetry_CheckParameters.E n) := funC_of follows tab_ok Try.func18 (T := telemetry_CheckParameters.T) (ann := telemetry_CheckParameters.ann) (ins := telemetry_CheckParameters.ins) (outs := telemetry_CheckParameters.outs) (n := n) (fun k => TOk.cons (kit_In.ok k) (TOk.cons (telemetry_Word.ok k) (TOk.cons (kit_First.ok k) (TOk.cons (telemetry_checkDots.ok k) (TOk.cons (telemetry_checkWords.ok k) (TOk.nil)))))) (by kernel_rfl) (by kernel_rfl)
theorem slices_BinarySearchFunc_string.ok (n : Nat) : FunC Try.prog 108 (slices_BinarySearchFunc_string.E n) := funC_of follows tab_ok Try.func108 (T := slices_BinarySearchFunc_string.T) (ann := slices_BinarySearchFunc_string.ann) (ins := slices_BinarySearchFunc_string.ins) (outs := slices_BinarySearchFunc_string.outs) (n := n) (fun k => TOk.cons (telemetry_parameter_1.ok k) (TOk.nil)) (by kernel_rfl) (by kernel_rfl)
theorem telemetry_parameter.ok (n : Nat) : FunC Try.prog 53 (telemetry_parameter.E n) := funC_of follows tab_ok Try.func53 (T := telemetry_parameter.T) (ann := telemetry_parameter.ann) (ins := telemetry_parameter.ins) (outs := telemetry_parameter.outs) (n := n) (fun k => TOk.cons (slices_BinarySearchFunc_string.ok k) (TOk.nil)) (by kernel_rfl) (by kernel_rfl)
theorem perigeeref7_within.ok (n : Nat) : FunC Try.prog 65 (perigeeref7_within.E n) := funC_of follows tab_ok Try.func65 (T := perigeeref7_within.T) (ann := perigeeref7_within.ann) (ins := perigeeref7_within.ins) (outs := perigeeref7_within.outs) (n := n) (fun k => TOk.nil) (by kernel_rfl) (by kernel_rfl)
theorem perigeeref7_IsWord.ok (n : Nat) : FunC Try.prog 64 (perigeeref7_IsWord.E n) := funC_of follows tab_ok Try.func64 (T := perigeeref7_IsWord.T) (ann := perigeeref7_IsWord.ann) (ins := perigeeref7_IsWord.ins) (outs := perigeeref7_IsWord.outs) (n := n) (fun k => TOk.cons (perigeeref7_within.ok k) (TOk.nil)) (by kernel_rfl) (by kernel_rfl)
theorem perigeeref7_ends.ok (n : Nat) : FunC Try.prog 75 (perigeeref7_ends.E n) := funC_of follows tab_ok Try.func75 (T := perigeeref7_ends.T) (ann := perigeeref7_ends.ann) (ins := perigeeref7_ends.ins) (outs := perigeeref7_ends.outs) (n := n) (fun k => TOk.nil) (by kernel_rfl) (by kernel_rfl)
theorem perigeeref7_isRaw.ok (n : Nat) : FunC Try.prog 58 (perigeeref7_isRaw.E n) := funC_of follows tab_ok Try.func58 (T := perigeeref7_isRaw.T) (ann := perigeeref7_isRaw.ann) (ins := perigeeref7_isRaw.ins) (outs := perigeeref7_isRaw.outs) (n := n) (fun k => TOk.cons (perigeeref7_within.ok k) (TOk.cons (perigeeref7_ends.ok k) (TOk.nil))) (by kernel_rfl) (by kernel_rfl)
theorem perigeeref7_checkPoints.ok (n : Nat) : FunC Try.prog 66 (perigeeref7_checkPoints.E n) := funC_of follows tab_ok Try.func66 (T := perigeeref7_checkPoints.T) (ann := perigeeref7_checkPoints.ann) (ins := perigeeref7_checkPoints.ins) (outs := perigeeref7_checkPoints.outs) (n := n) (fun k => TOk.cons (perigeeref7_isRaw.ok k) (TOk.cons (perigeeref7_IsWord.ok k) (TOk.cons (perigeeref7_within.ok k) (TOk.nil)))) (by kernel_rfl) (by kernel_rfl)
theorem perigeeref7_CheckParameters.ok (n : Nat) : FunC Try.prog 19 (perigeeref7_CheckParameters.E n) := funC_of follows tab_ok Try.func19 (T := perigeeref7_CheckParameters.T) (ann := perigeeref7_CheckParameters.ann) (ins := perigeeref7_CheckParameters.ins) (outs := perigeeref7_CheckParameters.outs) (n := n) (fun k => TOk.cons (perigeeref7_IsWord.ok k) (TOk.cons (perigeeref7_within.ok k) (TOk.cons (perigeeref7_checkPoints.ok k) (TOk.nil)))) (by kernel_rfl) (by kernel_rfl)
theorem perigeeref7_find.ok (n : Nat) : FunC Try.prog 57 (perigeeref7_find.E n) := funC_of follows tab_ok Try.func57 (T := perigeeref7_find.T) (ann := perigeeref7_find.ann) (ins := perigeeref7_find.ins) (outs := perigeeref7_find.outs) (n := n) (fun k => TOk.nil) (by kernel_rfl) (by kernel_rfl)
theorem slices_Equal_byte.ok (n : Nat) : FunC Try.prog 34 (slices_Equal_byte.E n) := funC_of follows tab_ok Try.func34 (T := slices_Equal_byte.T) (ann := slices_Equal_byte.ann) (ins := slices_Equal_byte.ins) (outs := slices_Equal_byte.outs) (n := n) (fun k => TOk.nil) (by kernel_rfl) (by kernel_rfl)
theorem telemetry_groups.ok (n : Nat) : FunC Try.prog 122 (telemetry_groups.E n) := funC_of follows tab_ok Try.func122 (T := telemetry_groups.T) (ann := telemetry_groups.ann) (ins := telemetry_groups.ins) (outs := telemetry_groups.outs) (n := n) (fun k => TOk.nil) (by kernel_rfl) (by kernel_rfl)
theorem telemetry_squeezed.ok (n : Nat) : FunC Try.prog 112 (telemetry_squeezed.E n) := funC_of follows tab_ok Try.func112 (T := telemetry_squeezed.T) (ann := telemetry_squeezed.ann) (ins := telemetry_squeezed.ins) (outs := telemetry_squeezed.outs) (n := n) (fun k => TOk.cons (telemetry_groups.ok k) (TOk.nil)) (by kernel_rfl) (by kernel_rfl)
theorem telemetry_Squeezed.ok (n : Nat) : FunC Try.prog 67 (telemetry_Squeezed.E n) := funC_of follows tab_ok Try.func67 (T := telemetry_Squeezed.T) (ann := telemetry_Squeezed.ann) (ins := telemetry_Squeezed.ins) (outs := telemetry_Squeezed.outs) (n := n) (fun k => TOk.cons (kit_In.ok k) (TOk.cons (telemetry_squeezed.ok k) (TOk.nil))) (by kernel_rfl) (by kernel_rfl)
theorem perigeelaw7_awake.ok (n : Nat) : FunC Try.prog 20 (perigeelaw7_awake.E n) := funC_of follows tab_ok Try.func20 (T := perigeelaw7_awake.T) (ann := perigeelaw7_awake.ann) (ins := perigeelaw7_awake.ins) (outs := perigeelaw7_awake.outs) (n := n) (fun k => TOk.cons (slices_Equal_byte.ok k) (TOk.cons (telemetry_Squeezed.ok k) (TOk.nil))) (by kernel_rfl) (by kernel_rfl)
theorem kit_Down.ok (n : Nat) : FunC Try.prog 113 (kit_Down.E n) := funC_of follows tab_ok Try.func113 (T := kit_Down.T) (ann := kit_Down.ann) (ins := kit_Down.ins) (outs := kit_Down.outs) (n := n) (fun k => TOk.nil) (by kernel_rfl) (by kernel_rfl)
theorem kit_Up.ok (n : Nat) : FunC Try.prog 70 (kit_Up.E n) := funC_of follows tab_ok Try.func70 (T := kit_Up.T) (ann := kit_Up.ann) (ins := kit_Up.ins) (outs := kit_Up.outs) (n := n) (fun k => TOk.cons (kit_Down.ok k) (TOk.nil)) (by kernel_rfl) (by kernel_rfl)
theorem telemetry_checkParts.ok (n : Nat) : FunC Try.prog 92 (telemetry_checkParts.E n) := funC_of follows tab_ok Try.func92 (T := telemetry_checkParts.T) (ann := telemetry_checkParts.ann) (ins := telemetry_checkParts.ins) (outs := telemetry_checkParts.outs) (n := n) (fun k => TOk.cons (telemetry_parameter.ok k) (TOk.nil)) (by kernel_rfl) (by kernel_rfl)
theorem telemetry_CheckLayouts.ok (n : Nat) : FunC Try.prog 38 (telemetry_CheckLayouts.E n) := funC_of follows tab_ok Try.func38 (T := telemetry_CheckLayouts.T) (ann := telemetry_CheckLayouts.ann) (ins := telemetry_CheckLayouts.ins) (outs := telemetry_CheckLayouts.outs) (n := n) (fun k => TOk.cons (telemetry_CheckParameters.ok k) (TOk.cons (telemetry_Word.ok k) (TOk.cons (telemetry_checkParts.ok k) (TOk.nil)))) (by kernel_rfl) (by kernel_rfl)
theorem telemetry_layout.ok (n : Nat) : FunC Try.prog 83 (telemetry_layout.E n) := funC_of follows tab_ok Try.func83 (T := telemetry_layout.T) (ann := telemetry_layout.ann) (ins := telemetry_layout.ins) (outs := telemetry_layout.outs) (n := n) (fun k => TOk.nil) (by kernel_rfl) (by kernel_rfl)
theorem slices_Index_apiRegular.ok (n : Nat) : FunC Try.prog 102 (slices_Index_apiRegular.E n) := funC_of follows tab_ok Try.func102 (T := slices_Index_apiRegular.T) (ann := slices_Index_apiRegular.ann) (ins := slices_Index_apiRegular.ins) (outs := slices_Index_apiRegular.outs) (n := n) (fun k => TOk.nil) (by kernel_rfl) (by kernel_rfl)
theorem slices_Contains_apiRegular.ok (n : Nat) : FunC Try.prog 47 (slices_Contains_apiRegular.E n) := funC_of follows tab_ok Try.func47 (T := slices_Contains_apiRegular.T) (ann := slices_Contains_apiRegular.ann) (ins := slices_Contains_apiRegular.ins) (outs := slices_Contains_apiRegular.outs) (n := n) (fun k => TOk.cons (slices_Index_apiRegular.ok k) (TOk.nil)) (by kernel_rfl) (by kernel_rfl)
theorem telemetry_CheckPlan.ok (n : Nat) : FunC Try.prog 29 (telemetry_CheckPlan.E n) := funC_of follows tab_ok Try.func29 (T := telemetry_CheckPlan.T) (ann := telemetry_CheckPlan.ann) (ins := telemetry_CheckPlan.ins) (outs := telemetry_CheckPlan.outs) (n := n) (fun k => TOk.cons (telemetry_CheckLayouts.ok k) (TOk.cons (slices_Contains_apiRegular.ok k) (TOk.cons (kit_In.ok k) (TOk.cons (telemetry_layout.ok k) (TOk.nil))))) (by kernel_rfl) (by kernel_rfl)
theorem telemetry_sending.ok (n : Nat) : FunC Try.prog 80 (telemetry_sending.E n) := funC_of follows tab_ok Try.func80 (T := telemetry_sending.T) (ann := telemetry_sending.ann) (ins := telemetry_sending.ins) (outs := telemetry_sending.outs) (n := n) (fun k => TOk.cons (kit_Up.ok k) (TOk.nil)) (by kernel_rfl) (by kernel_rfl)
theorem telemetry_Sent.ok (n : Nat) : FunC Try.prog 27 (telemetry_Sent.E n) := funC_of follows tab_ok Try.func27 (T := telemetry_Sent.T) (ann := telemetry_Sent.ann) (ins := telemetry_Sent.ins) (outs := telemetry_Sent.outs) (n := n) (fun k => TOk.cons (telemetry_CheckPlan.ok k) (TOk.cons (kit_In.ok k) (TOk.cons (telemetry_sending.ok k) (TOk.nil)))) (by kernel_rfl) (by kernel_rfl)
theorem slices_Index_string.ok (n : Nat) : FunC Try.prog 116 (slices_Index_string.E n) := funC_of follows tab_ok Try.func116 (T := slices_Index_string.T) (ann := slices_Index_string.ann) (ins := slices_Index_string.ins) (outs := slices_Index_string.outs) (n := n) (fun k => TOk.nil) (by kernel_rfl) (by kernel_rfl)
theorem slices_Contains_string.ok (n : Nat) : FunC Try.prog 93 (slices_Contains_string.E n) := funC_of follows tab_ok Try.func93 (T := slices_Contains_string.T) (ann := slices_Contains_string.ann) (ins := slices_Contains_string.ins) (outs := slices_Contains_string.outs) (n := n) (fun k => TOk.cons (slices_Index_string.ok k) (TOk.nil)) (by kernel_rfl) (by kernel_rfl)
theorem perigeeref7_CheckLayouts.ok (n : Nat) : FunC Try.prog 39 (perigeeref7_CheckLayouts.E n) := funC_of follows tab_ok Try.func39 (T := perigeeref7_CheckLayouts.T) (ann := perigeeref7_CheckLayouts.ann) (ins := perigeeref7_CheckLayouts.ins) (outs := perigeeref7_CheckLayouts.outs) (n := n) (fun k => TOk.cons (perigeeref7_CheckParameters.ok k) (TOk.cons (perigeeref7_find.ok k) (TOk.cons (perigeeref7_IsWord.ok k) (TOk.cons (slices_Contains_string.ok k) (TOk.nil))))) (by kernel_rfl) (by kernel_rfl)
theorem perigeeref7_partsOf.ok (n : Nat) : FunC Try.prog 84 (perigeeref7_partsOf.E n) := funC_of follows tab_ok Try.func84 (T := perigeeref7_partsOf.T) (ann := perigeeref7_partsOf.ann) (ins := perigeeref7_partsOf.ins) (outs := perigeeref7_partsOf.outs) (n := n) (fun k => TOk.cons (perigeeref7_find.ok k) (TOk.nil)) (by kernel_rfl) (by kernel_rfl)
theorem perigeeref7_CheckPlan.ok (n : Nat) : FunC Try.prog 30 (perigeeref7_CheckPlan.E n) := funC_of follows tab_ok Try.func30 (T := perigeeref7_CheckPlan.T) (ann := perigeeref7_CheckPlan.ann) (ins := perigeeref7_CheckPlan.ins) (outs := perigeeref7_CheckPlan.outs) (n := n) (fun k => TOk.cons (perigeeref7_CheckLayouts.ok k) (TOk.cons (slices_Contains_apiRegular.ok k) (TOk.cons (perigeeref7_within.ok k) (TOk.cons (perigeeref7_partsOf.ok k) (TOk.nil))))) (by kernel_rfl) (by kernel_rfl)
theorem perigeeref7_firstFrom.ok (n : Nat) : FunC Try.prog 81 (perigeeref7_firstFrom.E n) := funC_of follows tab_ok Try.func81 (T := perigeeref7_firstFrom.T) (ann := perigeeref7_firstFrom.ann) (ins := perigeeref7_firstFrom.ins) (outs := perigeeref7_firstFrom.outs) (n := n) (fun k => TOk.nil) (by kernel_rfl) (by kernel_rfl)
theorem perigeeref7_inTurn.ok (n : Nat) : FunC Try.prog 82 (perigeeref7_inTurn.E n) := funC_of follows tab_ok Try.func82 (T := perigeeref7_inTurn.T) (ann := perigeeref7_inTurn.ann) (ins := perigeeref7_inTurn.ins) (outs := perigeeref7_inTurn.outs) (n := n) (fun k => TOk.nil) (by kernel_rfl) (by kernel_rfl)
theorem perigeeref7_Sent.ok (n : Nat) : FunC Try.prog 28 (perigeeref7_Sent.E n) := funC_of follows tab_ok Try.func28 (T := perigeeref7_Sent.T) (ann := perigeeref7_Sent.ann) (ins := perigeeref7_Sent.ins) (outs := perigeeref7_Sent.outs) (n := n) (fun k => TOk.cons (perigeeref7_CheckPlan.ok k) (TOk.cons (perigeeref7_within.ok k) (TOk.cons (perigeeref7_firstFrom.ok k) (TOk.cons (perigeeref7_inTurn.ok k) (TOk.nil))))) (by kernel_rfl) (by kernel_rfl)
theorem slices_Equal_apiDue.ok (n : Nat) : FunC Try.prog 31 (slices_Equal_apiDue.E n) := funC_of follows tab_ok Try.func31 (T := slices_Equal_apiDue.T) (ann := slices_Equal_apiDue.ann) (ins := slices_Equal_apiDue.ins) (outs := slices_Equal_apiDue.outs) (n := n) (fun k => TOk.nil) (by kernel_rfl) (by kernel_rfl)
theorem perigeelaw7_TelemetryPlansMatchSpec.ok (n : Nat) : FunC Try.prog 7 (perigeelaw7_TelemetryPlansMatchSpec.E n) := funC_of follows tab_ok Try.func7 (T := perigeelaw7_TelemetryPlansMatchSpec.T) (ann := perigeelaw7_TelemetryPlansMatchSpec.ann) (ins := perigeelaw7_TelemetryPlansMatchSpec.ins) (outs := perigeelaw7_TelemetryPlansMatchSpec.outs) (n := n) (fun k => TOk.cons (perigeelaw7_awake.ok k) (TOk.cons (telemetry_Sent.ok k) (TOk.cons (perigeeref7_Sent.ok k) (TOk.cons (telemetry_CheckPlan.ok k) (TOk.cons (perigeeref7_CheckPlan.ok k) (TOk.cons (slices_Equal_apiDue.ok k) (TOk.nil))))))) (by kernel_rfl) (by kernel_rfl)
end Go.Proofs.Ytcefbdknoelacaa.A

-- YtcefbdknoelacaaPk
set_option linter.unusedVariables false
set_option linter.unusedSimpArgs false
namespace Go.Proofs.Ytcefbdknoelacaa.Pure
open Go Go.Proofs.Ytcefbdknoelacaa.A

def Ev {α : Type} (g : Nat → Option α) (r : α) : Prop := ∃ k, ∀ n, k ≤ n → g n = some r
theorem Ev.now {α : Type} (r : α) : Ev (fun _ => some r) r := ⟨0, fun _ _ => rfl⟩
theorem Ev.rounds {α : Type} {g : Nat → Option α} {r : α} (h : Ev g r) : ∃ k, g k = some r := let ⟨K, h⟩ := h; ⟨K, h K (Nat.le_refl _)⟩
theorem Ev.bind {α β : Type} {g : Nat → Option α} {f : Nat → α → Option β} {a : α} {r : β} (h : Ev g a) (k : Ev (fun n => f n a) r) : Ev (fun n => (g n).bind (f n)) r := by
 obtain ⟨K, h⟩ := h
 obtain ⟨K', k⟩ := k
 refine ⟨max K K', fun n hn => ?_⟩
 simp only [h n (by omega), Option.bind_some]
 exact k n (by omega)
theorem Ev.step {α : Type} {g f : Nat → Option α} {r : α} (h : ∀ k, g (k + 1) = f k) (k : Ev f r) : Ev g r := by
 obtain ⟨K, k⟩ := k
 refine ⟨K + 1, fun n hn => ?_⟩
 obtain ⟨m, rfl⟩ : ∃ m, n = m + 1 := ⟨n - 1, by omega⟩
 rw [h]
 exact k m (by omega)
theorem Ev.eq {α : Type} {g f : Nat → Option α} {r : α} (h : ∀ k, g k = f k) (k : Ev f r) : Ev g r := by
 obtain ⟨K, k⟩ := k
 exact ⟨K, fun n hn => (h n).trans (k n hn)⟩
theorem less_total : ∀ a b : List UInt8, (Op.bytesLess a b || a == b) = !Op.bytesLess b a := by
 intro a
 induction a with
 | nil => intro b; cases b <;> simp [Op.bytesLess]
 | cons x a ih =>
  intro b
  cases b with
  | nil => simp [Op.bytesLess]
  | cons y b =>
   have := ih b
   have e1 : Op.bytesLess (x :: a) (y :: b) = (decide (x < y) || (x == y && Op.bytesLess a b)) := by rw [Op.bytesLess]
   have e2 : Op.bytesLess (y :: b) (x :: a) = (decide (y < x) || (y == x && Op.bytesLess b a)) := by rw [Op.bytesLess]
   rw [e1, e2]
   rcases Nat.lt_trichotomy x.toNat y.toNat with h | h | h
   ·have h1 : x < y := UInt8.lt_iff_toNat_lt.2 h
    have h2 : ¬ y < x := fun h' => by have := UInt8.lt_iff_toNat_lt.1 h'; omega
    have h3 : ¬ y = x := fun h' => by subst h'; omega
    simp [h1, h2, h3]
   ·have h3 : x = y := UInt8.toNat_inj.1 h
    subst h3
    have h2 : ¬ x < x := fun h' => by have := UInt8.lt_iff_toNat_lt.1 h'; omega
    simpa [h2] using this
   ·have h1 : y < x := UInt8.lt_iff_toNat_lt.2 h
    have h2 : ¬ x < y := fun h' => by have := UInt8.lt_iff_toNat_lt.1 h'; omega
    have h3 : ¬ x = y := fun h' => by subst h'; omega
    simp [h1, h2, h3]

theorem w64 {x : Int} (h : -9223372036854775808 ≤ x) (h' : x ≤ 9223372036854775807) : IntKind.wrap .i64 x = x := by
 have e1 : (2 : Int) ^ 64 = 18446744073709551616 := rfl
 have e2 : (2 : Int) ^ (64 - 1) = 9223372036854775808 := rfl
 simp only [IntKind.wrap, IntKind.bits, IntKind.signed, e1, e2, Bool.true_and, decide_eq_true_eq]
 by_cases hh : x % 18446744073709551616 ≥ 9223372036854775808
 ·rw [if_pos hh]; omega
 ·rw [if_neg hh]; omega
theorem Ev.yes {α : Type} {c : Prop} {hd : Decidable c} {g g' : Nat → Option α} {r : α} (h : c) (e : Ev g r) : Ev (fun k => if c then g k else g' k) r := by
 simp only [if_pos h]; exact e
theorem Ev.no {α : Type} {c : Prop} {hd : Decidable c} {g g' : Nat → Option α} {r : α} (h : ¬ c) (e : Ev g' r) : Ev (fun k => if c then g k else g' k) r := by
 simp only [if_neg h]; exact e
theorem Ev.some {α : Type} {o : Option α} {r : α} (h : o = some r) : Ev (fun _ => o) r := by subst h; exact Ev.now _

theorem mul_bd {x y A B : Int} (hx : -A ≤ x) (hx' : x ≤ A) (hy : -B ≤ y) (hy' : y ≤ B) : -(A * B) ≤ x * y ∧ x * y ≤ A * B := by
 have hA : 0 ≤ A := by omega
 have hB : 0 ≤ B := by omega
 have h1 : x.natAbs ≤ A.natAbs := by omega
 have h2 : y.natAbs ≤ B.natAbs := by omega
 have h3 : (x * y).natAbs ≤ (A * B).natAbs := by rw [Int.natAbs_mul, Int.natAbs_mul]; exact Nat.mul_le_mul h1 h2
 have h4 : 0 ≤ A * B := Int.mul_nonneg hA hB
 omega

theorem getD_nat {α : Type} (z : α) (l : List α) (i : Nat) (h : i < l.length) : l.getD i z = l[i] := by
 simp [List.getD_eq_getElem?_getD, List.getElem?_eq_getElem h]
theorem getD_mem {α : Type} {z : α} {l : List α} {i : Nat} (h : i < l.length) : l.getD i z ∈ l := by
 rw [getD_nat z l i h]; exact List.getElem_mem h

theorem bl_cons (x y : UInt8) (a b : List UInt8) : Op.bytesLess (x :: a) (y :: b) = (decide (x < y) || (x == y && Op.bytesLess a b)) := by rw [Op.bytesLess]
theorem less_irrefl (a : List UInt8) : Op.bytesLess a a = false := by
 have := less_total a a
 cases h : Op.bytesLess a a with
 | false => rfl
 | true => rw [h] at this; simp at this
theorem less_ne {a b : List UInt8} (h : Op.bytesLess a b = true) : a ≠ b := by
 intro e
 subst e
 rw [less_irrefl] at h
 cases h
theorem less_tri {a b : List UInt8} (h1 : ¬ Op.bytesLess a b = true) (h2 : a ≠ b) : Op.bytesLess b a = true := by
 have := less_total a b
 rw [show Op.bytesLess a b = false by simpa using h1, show (a == b) = false by simpa using h2] at this
 simpa using this.symm
theorem less_trans : ∀ {a b c : List UInt8}, Op.bytesLess a b = true → Op.bytesLess b c = true → Op.bytesLess a c = true := by
 intro a
 induction a with
 | nil =>
  intro b c h1 h2
  cases b with
  | nil => simp [Op.bytesLess] at h1
  | cons y b =>
   cases c with
   | nil => simp [Op.bytesLess] at h2
   | cons z c => simp [Op.bytesLess]
 | cons x a ih =>
  intro b c h1 h2
  cases b with
  | nil => simp [Op.bytesLess] at h1
  | cons y b =>
   cases c with
   | nil => simp [Op.bytesLess] at h2
   | cons z c =>
    rw [bl_cons] at h1 h2 ⊢
    simp only [Bool.or_eq_true, Bool.and_eq_true, decide_eq_true_eq, beq_iff_eq] at h1 h2 ⊢
    rcases h1 with h1 | ⟨rfl, h1⟩
    ·rcases h2 with h2 | ⟨rfl, h2⟩
     ·left
      have := UInt8.lt_iff_toNat_lt.1 h1
      have := UInt8.lt_iff_toNat_lt.1 h2
      exact UInt8.lt_iff_toNat_lt.2 (by omega)
     ·exact .inl h1
    ·rcases h2 with h2 | ⟨rfl, h2⟩
     ·exact .inl h2
     ·exact .inr ⟨rfl, ih h1 h2⟩
def Twin {α β : Type} (g : Nat → Option α) (g' : Nat → Option β) (R : α → β → Prop) : Prop := ∃ a b, Ev g a ∧ Ev g' b ∧ R a b
section
variable {α β γ δ : Type} {R : α → β → Prop}
theorem Twin.of {g : Nat → Option α} {g' : Nat → Option β} {a : α} {b : β} (h : Ev g a) (h' : Ev g' b) (r : R a b) : Twin g g' R := ⟨a, b, h, h', r⟩
theorem Twin.now {a : α} {b : β} (r : R a b) : Twin (fun _ => some a) (fun _ => some b) R := ⟨a, b, Ev.now _, Ev.now _, r⟩
theorem Twin.mono {g : Nat → Option α} {g' : Nat → Option β} {S : α → β → Prop} (h : Twin g g' S) (k : ∀ a b, S a b → R a b) : Twin g g' R := by
 obtain ⟨a, b, h1, h2, h3⟩ := h
 exact ⟨a, b, h1, h2, k a b h3⟩
theorem Twin.stepL {g f : Nat → Option α} {g' : Nat → Option β} (h : ∀ k, g (k + 1) = f k) (t : Twin f g' R) : Twin g g' R := by
 obtain ⟨a, b, h1, h2, h3⟩ := t
 exact ⟨a, b, Ev.step h h1, h2, h3⟩
theorem Twin.stepR {g : Nat → Option α} {g' f : Nat → Option β} (h : ∀ k, g' (k + 1) = f k) (t : Twin g f R) : Twin g g' R := by
 obtain ⟨a, b, h1, h2, h3⟩ := t
 exact ⟨a, b, h1, Ev.step h h2, h3⟩
theorem Twin.ifL {c : Prop} {hd : Decidable c} {g f : Nat → Option α} {g' : Nat → Option β} (y : c → Twin g g' R) (n : ¬ c → Twin f g' R) : Twin (fun k => if c then g k else f k) g' R := by
 by_cases h : c
 ·simp only [if_pos h]; exact y h
 ·simp only [if_neg h]; exact n h
theorem Twin.ifR {c : Prop} {hd : Decidable c} {g : Nat → Option α} {g' f : Nat → Option β} (y : c → Twin g g' R) (n : ¬ c → Twin g f R) : Twin g (fun k => if c then g' k else f k) R := by
 by_cases h : c
 ·simp only [if_pos h]; exact y h
 ·simp only [if_neg h]; exact n h
theorem Twin.bind {g : Nat → Option γ} {g' : Nat → Option δ} {S : γ → δ → Prop} {f : Nat → γ → Option α} {f' : Nat → δ → Option β} (t : Twin g g' S) (k : ∀ a b, S a b → Twin (fun n => f n a) (fun n => f' n b) R) :
 Twin (fun n => (g n).bind (f n)) (fun n => (g' n).bind (f' n)) R := by
 obtain ⟨a, b, h1, h2, h3⟩ := t
 obtain ⟨a', b', h1', h2', h3'⟩ := k a b h3
 exact ⟨a', b', Ev.bind h1 h1', Ev.bind h2 h2', h3'⟩
theorem Twin.bindL {g : Nat → Option γ} {f : Nat → γ → Option α} {g' : Nat → Option β} {a : γ} (h : Ev g a) (t : Twin (fun n => f n a) g' R) : Twin (fun n => (g n).bind (f n)) g' R := by
 obtain ⟨a', b', h1', h2', h3'⟩ := t
 exact ⟨a', b', Ev.bind h h1', h2', h3'⟩
theorem Twin.bindR {g : Nat → Option γ} {f : Nat → γ → Option β} {g' : Nat → Option α} {a : γ} (h : Ev g a) (t : Twin g' (fun n => f n a) R) : Twin g' (fun n => (g n).bind (f n)) R := by
 obtain ⟨a', b', h1', h2', h3'⟩ := t
 exact ⟨a', b', h1', Ev.bind h h2', h3'⟩
theorem Twin.right {g : Nat → Option α} {g' : Nat → Option β} (t : Twin g g' R) : ∃ b, Ev g' b := by
 obtain ⟨a, b, h1, h2, h3⟩ := t
 exact ⟨b, h2⟩
theorem Ev.split {c : Prop} {hd : Decidable c} {g f : Nat → Option α} {r : α} (y : c → Ev g r) (n : ¬ c → Ev f r) : Ev (fun k => if c then g k else f k) r := by
 by_cases h : c
 ·simp only [if_pos h]; exact y h
 ·simp only [if_neg h]; exact n h
theorem Ev.is {v r : α} (h : v = r) : Ev (fun _ => Option.some v) r := by subst h; exact Ev.now _
end
theorem Twin.yesL {α β : Type} {R : α → β → Prop} {c : Prop} {hd : Decidable c} {g f : Nat → Option α} {g' : Nat → Option β} (h : c) (y : Twin g g' R) : Twin (fun k => if c then g k else f k) g' R := Twin.ifL (fun _ => y) (fun n => absurd h n)
theorem Twin.noL {α β : Type} {R : α → β → Prop} {c : Prop} {hd : Decidable c} {g f : Nat → Option α} {g' : Nat → Option β} (h : ¬ c) (y : Twin f g' R) : Twin (fun k => if c then g k else f k) g' R := Twin.ifL (fun n => absurd n h) (fun _ => y)
theorem Twin.yesR {α β : Type} {R : α → β → Prop} {c : Prop} {hd : Decidable c} {g : Nat → Option α} {g' f : Nat → Option β} (h : c) (y : Twin g g' R) : Twin g (fun k => if c then g' k else f k) R := Twin.ifR (fun _ => y) (fun n => absurd h n)
theorem Twin.noR {α β : Type} {R : α → β → Prop} {c : Prop} {hd : Decidable c} {g : Nat → Option α} {g' f : Nat → Option β} (h : ¬ c) (y : Twin g f R) : Twin g (fun k => if c then g' k else f k) R := Twin.ifR (fun n => absurd n h) (fun _ => y)

end Go.Proofs.Ytcefbdknoelacaa.Pure

-- YtcefbdknoelacaaQ1
set_option linter.unusedVariables false
set_option linter.unusedSimpArgs false
namespace Go.Proofs.Ytcefbdknoelacaa.Pure
open Go Go.Proofs.Ytcefbdknoelacaa.A

theorem in_ev (n : Nat) (a l h : Int) : kit_In.f n a l h = some (decide (l ≤ a ∧ a ≤ h), ()) := by
 rw [kit_In.f_eq]
 by_cases h1 : l ≤ a <;> simp [h1]
theorem within_ev (n : Nat) (a l h : Int) : perigeeref7_within.f n a l h = some (decide (l ≤ a ∧ a ≤ h), ()) := by
 rw [perigeeref7_within.f_eq]
 by_cases h1 : l ≤ a <;> simp [h1]

theorem word_loop (s : List UInt8) (hs : s.length ≤ 140737488351232) : ∀ (d i : Nat), i + d = s.length → (i = 0 → 97 ≤ ((s.getD 0 0).toNat : Int) ∧ ((s.getD 0 0).toNat : Int) ≤ 122) →
 Twin (fun k => telemetry_Word.c1 k s (s.length : Int) i) (fun k => perigeeref7_IsWord.c1 k s (s.length : Int) i) (fun a b => a = b) := by
 intro d
 induction d with
 | zero =>
  intro i hi h0
  refine Twin.stepL (fun k => by rw [telemetry_Word.c1_eq]) (Twin.stepR (fun k => by rw [perigeeref7_IsWord.c1_eq]) ?_)
  simp only [decide_eq_true_eq]
  repeat' (first | (exfalso; omega) | (refine Twin.ifL (fun h_ => ?_) (fun h_ => ?_)) | (refine Twin.ifR (fun h_ => ?_) (fun h_ => ?_)))
  exact Twin.now rfl
 | succ d ih =>
  intro i hi h0
  have next := ih (i + 1) (by omega) (by omega)
  refine Twin.stepL (fun k => by rw [telemetry_Word.c1_eq]) (Twin.stepR (fun k => by rw [perigeeref7_IsWord.c1_eq]) ?_)
  rw [w64 (x := (i : Int) + 1) (by omega) (by omega)]
  have h1 : (i : Int) = 0 → 97 ≤ ((s.getD ((i : Int)).toNat 0).toNat : Int) ∧ ((s.getD ((i : Int)).toNat 0).toNat : Int) ≤ 122 := by
   intro h
   rw [h]
   exact h0 (by omega)
  generalize ((s.getD ((i : Int)).toNat 0).toNat : Int) = c at h1
  simp only [decide_eq_true_eq, Bool.not_eq_true', decide_eq_false_iff_not]
  repeat' (first | (exfalso; omega) | (refine Twin.ifL (fun h_ => ?_) (fun h_ => ?_)) | (refine Twin.ifR (fun h_ => ?_) (fun h_ => ?_)))
  all_goals first | exact next | exact Twin.now rfl
theorem word_ev (s : List UInt8) (hs : s.length ≤ 140737488351232) : ∃ b, Ev (fun k => telemetry_Word.f k s) (b, ()) ∧ Ev (fun k => perigeeref7_IsWord.f k s) (b, ()) := by
 have : Twin (fun k => telemetry_Word.f k s) (fun k => perigeeref7_IsWord.f k s) (fun a b => a = b) := by
  have e : (s = []) ↔ s.length = 0 := by cases s <;> simp
  simp only [telemetry_Word.f_eq, perigeeref7_IsWord.f_eq, within_ev, Option.bind_some, decide_eq_true_eq, Bool.not_eq_true', decide_eq_false_iff_not, e]
  repeat' (first | (exfalso; omega) | (refine Twin.ifL (fun h_ => ?_) (fun h_ => ?_)) | (refine Twin.ifR (fun h_ => ?_) (fun h_ => ?_)))
  all_goals (try refine Twin.stepL (fun k => by rw [telemetry_Word.c0_eq]) ?_)
  all_goals (try refine Twin.stepR (fun k => by rw [perigeeref7_IsWord.c0_eq]) ?_)
  all_goals first | exact Twin.now rfl | exact word_loop s hs s.length 0 (by omega) (fun _ => by omega) | skip
  all_goals (try (refine Twin.stepL (fun k => by rw [telemetry_Word.c1_eq]) ?_; simp only [decide_eq_true_eq, Bool.not_eq_true', decide_eq_false_iff_not, Int.toNat_zero]; (repeat' (first | (exfalso; omega) | (refine Twin.ifL (fun h_ => ?_) (fun h_ => ?_))))))
  all_goals first | exact Twin.now rfl | exact absurd trivial ‹¬True›
 obtain ⟨a, b, h1, h2, rfl⟩ := this
 exact ⟨a.1, h1, h2⟩

theorem shl_one : ∀ n : Nat, n ≤ 24 → shlI .i64 1 (n : Int) = ((2 ^ n : Nat) : Int) := by
 intro n hn
 have : ∀ m : Fin 25, shlI .i64 1 ((m.val : Nat) : Int) = ((2 ^ m.val : Nat) : Int) := by decide +kernel
 exact this ⟨n, by omega⟩
theorem shl_neg : ∀ n : Nat, n ≤ 24 → shlI .i64 (-1) (n : Int) = -((2 ^ n : Nat) : Int) := by
 intro n hn
 have : ∀ m : Fin 25, shlI .i64 (-1) ((m.val : Nat) : Int) = -((2 ^ m.val : Nat) : Int) := by decide +kernel
 exact this ⟨n, by omega⟩
abbrev Par := DParameter
def lo (p : Par) : Int := if p.2.2.1 = true then -((2 ^ (p.2.1 - 1).toNat : Nat) : Int) else 0
def hi (p : Par) : Int := if p.2.2.1 = true then ((2 ^ (p.2.1 - 1).toNat : Nat) : Int) - 1 else ((2 ^ p.2.1.toNat : Nat) : Int) - 1
theorem pow_bd : ∀ n : Nat, n ≤ 24 → 1 ≤ 2 ^ n ∧ 2 ^ n ≤ 16777216 := by decide +kernel
theorem span_ev (k : Nat) (p : Par) (h : 1 ≤ p.2.1 ∧ p.2.1 ≤ 24) : telemetry_span.f k p = some (lo p, hi p, ()) := by
 obtain ⟨n, hn⟩ : ∃ n : Nat, p.2.1 = (n : Int) + 1 := ⟨(p.2.1 - 1).toNat, by omega⟩
 have b1 := pow_bd n (by omega)
 have b2 := pow_bd (n + 1) (by omega)
 rw [telemetry_span.f_eq]
 unfold lo hi
 rw [hn, w64 (x := (n : Int) + 1 - 1) (by omega) (by omega), show (n : Int) + 1 - 1 = n by omega, shl_neg n (by omega), shl_one n (by omega), show ((n : Int) + 1) = ((n + 1 : Nat) : Int) by omega, shl_one (n + 1) (by omega)]
 rw [w64 (by omega) (by omega), w64 (by omega) (by omega)]
 simp only [Int.toNat_natCast]
 by_cases hb : p.2.2.1 = true
 ·simp [hb]
 ·simp [hb]
  omega
theorem ends_ev (k : Nat) (p : Par) (h : 1 ≤ p.2.1 ∧ p.2.1 ≤ 24) : perigeeref7_ends.f k p = some (lo p, hi p, ()) := by
 rw [← span_ev k p h, perigeeref7_ends.f_eq, telemetry_span.f_eq]
theorem isRaw_ev (k : Nat) (p : Par) (h : 1 ≤ p.2.1 ∧ p.2.1 ≤ 24) (n : Int) : perigeeref7_isRaw.f k p n = some (decide (lo p ≤ n ∧ n ≤ hi p), ()) := by
 rw [perigeeref7_isRaw.f_eq, ends_ev k p h]
 simp only [Option.bind_some, within_ev]
def Dots (p : Par) (i : Nat) : Prop := ∀ j : Nat, i ≤ j → j < p.2.2.2.1.length → (lo p ≤ (p.2.2.2.1.getD j (Ty.dflt YShare)).1 ∧ (p.2.2.2.1.getD j (Ty.dflt YShare)).1 ≤ hi p) ∧ (-1000000000 ≤ (p.2.2.2.1.getD j (Ty.dflt YShare)).2 ∧ (p.2.2.2.1.getD j (Ty.dflt YShare)).2 ≤ 1000000000) ∧ (0 < j → (p.2.2.2.1.getD ((j : Int) - 1).toNat (Ty.dflt YShare)).1 < (p.2.2.2.1.getD j (Ty.dflt YShare)).1)
theorem dots_loop (p : Par) (hb : 1 ≤ p.2.1 ∧ p.2.1 ≤ 24) (hl : p.2.2.2.1.length ≤ 50) (s : Int)
 (hs : Ev (fun k => if 50 < (p.2.2.2.2.length : Int) then some (2, ()) else perigeeref7_checkPoints.c1 k p.1 p.2.1 p.2.2.1 p.2.2.2.1 p.2.2.2.2 p.2.2.2.2 (p.2.2.2.2.length : Int) 0) (s, ())) : ∀ (d i : Nat), i + d = p.2.2.2.1.length →
 Twin (fun k => telemetry_checkDots.c0 k p.1 p.2.1 p.2.2.1 p.2.2.2.1 p.2.2.2.2 (lo p) (hi p) p.2.2.2.1 (p.2.2.2.1.length : Int) i) (fun k => perigeeref7_checkPoints.c0 k p.1 p.2.1 p.2.2.1 p.2.2.2.1 p.2.2.2.2 p.2.2.2.1 (p.2.2.2.1.length : Int) i)
  (fun a b => b.1 = (if a.1 = 0 then s else a.1) ∧ (a.1 = 0 → Dots p i)) := by
 intro d
 induction d with
 | zero =>
  intro i hij
  refine Twin.stepL (fun k => by rw [telemetry_checkDots.c0_eq]) (Twin.stepR (fun k => by rw [perigeeref7_checkPoints.c0_eq]) ?_)
  simp only [decide_eq_true_eq]
  refine Twin.noL (by omega) (Twin.noR (by omega) ?_)
  exact ⟨(0, ()), (s, ()), Ev.now _, hs, rfl, fun _ j h1 h2 => by omega⟩
 | succ d ih =>
  intro i hij
  have next := ih (i + 1) (by omega)
  refine Twin.stepL (fun k => by rw [telemetry_checkDots.c0_eq]) (Twin.stepR (fun k => by rw [perigeeref7_checkPoints.c0_eq]) ?_)
  have hraw : ∀ k n, perigeeref7_isRaw.f k (p.1, (p.2.1, (p.2.2.1, (p.2.2.2.1, p.2.2.2.2)))) n = some (decide (lo p ≤ n ∧ n ≤ hi p), ()) := fun k n => isRaw_ev k p hb n
  rw [w64 (x := (i : Int) - 1) (by omega) (by omega), w64 (x := (i : Int) + 1) (by omega) (by omega)]
  simp only [in_ev, hraw, within_ev, Option.bind_some, decide_eq_true_eq, Bool.not_eq_true', decide_eq_false_iff_not, Int.toNat_natCast]
  have fin : (lo p ≤ (p.2.2.2.1.getD i (Ty.dflt YShare)).1 ∧ (p.2.2.2.1.getD i (Ty.dflt YShare)).1 ≤ hi p) → (-1000000000 ≤ (p.2.2.2.1.getD i (Ty.dflt YShare)).2 ∧ (p.2.2.2.1.getD i (Ty.dflt YShare)).2 ≤ 1000000000) → (0 < i → (p.2.2.2.1.getD ((i : Int) - 1).toNat (Ty.dflt YShare)).1 < (p.2.2.2.1.getD i (Ty.dflt YShare)).1) →
   Twin (fun k => telemetry_checkDots.c0 k p.1 p.2.1 p.2.2.1 p.2.2.2.1 p.2.2.2.2 (lo p) (hi p) p.2.2.2.1 (p.2.2.2.1.length : Int) ((i : Int) + 1)) (fun k => perigeeref7_checkPoints.c0 k p.1 p.2.1 p.2.2.1 p.2.2.2.1 p.2.2.2.2 p.2.2.2.1 (p.2.2.2.1.length : Int) ((i : Int) + 1))
    (fun a b => b.1 = (if a.1 = 0 then s else a.1) ∧ (a.1 = 0 → Dots p i)) := by
   intro g1 g2 hlt
   refine Twin.mono next fun a b ⟨h1, h2⟩ => ⟨h1, fun ha j h3 h4 => ?_⟩
   rcases Nat.lt_or_ge i j with h5 | h5
   ·exact h2 ha j h5 h4
   ·obtain rfl : j = i := by omega
    exact ⟨g1, g2, hlt⟩
  repeat' (first | (exfalso; omega) | (refine Twin.ifL (fun h_ => ?_) (fun h_ => ?_)) | (refine Twin.ifR (fun h_ => ?_) (fun h_ => ?_)))
  all_goals first | exact Twin.now ⟨rfl, fun h => absurd h (by decide)⟩ | exact fin (by omega) (by omega) (fun _ => by omega)
theorem dots_ev (p : Par) (hb : 1 ≤ p.2.1 ∧ p.2.1 ≤ 24) (s : Int)
 (hs : Ev (fun k => if 50 < (p.2.2.2.2.length : Int) then some (2, ()) else perigeeref7_checkPoints.c1 k p.1 p.2.1 p.2.2.1 p.2.2.2.1 p.2.2.2.2 p.2.2.2.2 (p.2.2.2.2.length : Int) 0) (s, ())) :
 Twin (fun k => telemetry_checkDots.f k p) (fun k => perigeeref7_checkPoints.f k p) (fun a b => b.1 = (if a.1 = 0 then s else a.1) ∧ (a.1 = 0 → Dots p 0 ∧ p.2.2.2.1.length ≤ 50 ∧ p.2.2.2.1.length ≠ 1)) := by
 simp only [telemetry_checkDots.f_eq, perigeeref7_checkPoints.f_eq, span_ev _ p hb, Option.bind_some, decide_eq_true_eq]
 repeat' (first | (exfalso; omega) | (refine Twin.ifL (fun h_ => ?_) (fun h_ => ?_)) | (refine Twin.ifR (fun h_ => ?_) (fun h_ => ?_)))
 ·exact Twin.now ⟨rfl, fun h => absurd h (by decide)⟩
 ·exact Twin.now ⟨rfl, fun h => absurd h (by decide)⟩
 ·exact Twin.mono (dots_loop p hb (by omega) s hs p.2.2.2.1.length 0 (by omega)) fun a b ⟨h1, h2⟩ => ⟨h1, fun h => ⟨h2 h, by omega, by omega⟩⟩

theorem words_loop (p : Par) (hb : 1 ≤ p.2.1 ∧ p.2.1 ≤ 24) (hl : p.2.2.2.2.length ≤ 50) (hn : ∀ z ∈ p.2.2.2.2, z.2.length ≤ 140737488351232) : ∀ (d i : Nat), i + d = p.2.2.2.2.length →
 Twin (fun k => telemetry_checkWords.c0 k p.1 p.2.1 p.2.2.1 p.2.2.2.1 p.2.2.2.2 (lo p) (hi p) p.2.2.2.2 (p.2.2.2.2.length : Int) i) (fun k => perigeeref7_checkPoints.c1 k p.1 p.2.1 p.2.2.1 p.2.2.2.1 p.2.2.2.2 p.2.2.2.2 (p.2.2.2.2.length : Int) i) (fun a b => a = b) := by
 intro d
 induction d with
 | zero =>
  intro i hij
  refine Twin.stepL (fun k => by rw [telemetry_checkWords.c0_eq]) (Twin.stepR (fun k => by rw [perigeeref7_checkPoints.c1_eq]) ?_)
  simp only [decide_eq_true_eq]
  refine Twin.noL (by omega) (Twin.noR (by omega) ?_)
  exact Twin.now rfl
 | succ d ih =>
  intro i hij
  have next := ih (i + 1) (by omega)
  refine Twin.stepL (fun k => by rw [telemetry_checkWords.c0_eq]) (Twin.stepR (fun k => by rw [perigeeref7_checkPoints.c1_eq]) ?_)
  have hraw : ∀ k n, perigeeref7_isRaw.f k (p.1, (p.2.1, (p.2.2.1, (p.2.2.2.1, p.2.2.2.2)))) n = some (decide (lo p ≤ n ∧ n ≤ hi p), ()) := fun k n => isRaw_ev k p hb n
  have h1 : ((i : Nat) : Int) < (p.2.2.2.2.length : Int) := by omega
  rw [w64 (x := (i : Int) - 1) (by omega) (by omega), w64 (x := (i : Int) + 1) (by omega) (by omega)]
  simp only [in_ev, hraw, within_ev, Option.bind_some, decide_eq_true_eq, Bool.not_eq_true', decide_eq_false_iff_not, Int.toNat_natCast]
  simp only [if_pos h1, if_pos (show (0 : Int) ≤ (i : Int) ∧ (i : Int) < (p.2.2.2.2.length : Int) by omega)]
  obtain ⟨b, e1, e2⟩ := word_ev (p.2.2.2.2.getD i (Ty.dflt YDue)).2 (hn _ (getD_mem (by omega)))
  refine Twin.ifL (fun h2 => Twin.yesR h2 (Twin.now rfl)) (fun h2 => Twin.noR h2 ?_)
  refine Twin.bindL e1 (Twin.bindR e2 ?_)
  refine Twin.ifL (fun h3 => Twin.yesR h3 (Twin.now rfl)) (fun h3 => Twin.noR h3 ?_)
  repeat' (first | (exfalso; omega) | (refine Twin.ifL (fun h_ => ?_) (fun h_ => ?_)) | (refine Twin.ifR (fun h_ => ?_) (fun h_ => ?_)))
  all_goals first | exact Twin.now rfl | exact next
theorem words_ev (p : Par) (hb : 1 ≤ p.2.1 ∧ p.2.1 ≤ 24) (hn : ∀ z ∈ p.2.2.2.2, z.2.length ≤ 140737488351232) :
 ∃ s, Ev (fun k => telemetry_checkWords.f k p) (s, ()) ∧ Ev (fun k => if 50 < (p.2.2.2.2.length : Int) then some (2, ()) else perigeeref7_checkPoints.c1 k p.1 p.2.1 p.2.2.1 p.2.2.2.1 p.2.2.2.2 p.2.2.2.2 (p.2.2.2.2.length : Int) 0) (s, ()) ∧ (s = 0 → p.2.2.2.2.length ≤ 50) := by
 have : Twin (fun k => telemetry_checkWords.f k p) (fun k => if 50 < (p.2.2.2.2.length : Int) then some (2, ()) else perigeeref7_checkPoints.c1 k p.1 p.2.1 p.2.2.1 p.2.2.2.1 p.2.2.2.2 p.2.2.2.2 (p.2.2.2.2.length : Int) 0) (fun a b => a = b ∧ (a.1 = 0 → p.2.2.2.2.length ≤ 50)) := by
  simp only [telemetry_checkWords.f_eq, span_ev _ p hb, Option.bind_some, decide_eq_true_eq]
  repeat' (first | (exfalso; omega) | (refine Twin.ifL (fun h_ => ?_) (fun h_ => ?_)) | (refine Twin.ifR (fun h_ => ?_) (fun h_ => ?_)))
  ·exact Twin.now ⟨rfl, fun h => absurd h (by decide)⟩
  ·exact Twin.mono (words_loop p hb (by omega) hn p.2.2.2.2.length 0 (by omega)) fun a b h => ⟨h, fun _ => by omega⟩
 obtain ⟨a, b, h1, h2, rfl, h3⟩ := this
 exact ⟨a.1, h1, h2, h3⟩

theorem first_ev (a b : Int) : Ev (fun k => kit_First.f k [a, b]) (if a = 0 then b else a, ()) := by
 refine Ev.eq (fun k => by rw [kit_First.f_eq]) ?_
 refine Ev.step (fun k => by rw [kit_First.c0_eq]) ?_
 simp only [decide_eq_true_eq, Bool.not_eq_true', decide_eq_false_iff_not, List.length_cons, List.length_nil]
 rw [show ([a, b] : List Int).getD (0 : Int).toNat 0 = a from rfl, show IntKind.wrap .i64 (0 + 1) = 1 from w64 (by omega) (by omega)]
 refine Ev.yes (by omega) (Ev.yes (by omega) (Ev.split (fun h => ?_) (fun h => ?_)))
 ·rw [if_neg h]
  exact Ev.now _
 ·have h : a = 0 := by simpa using h
  rw [if_pos h]
  refine Ev.step (fun k => by rw [kit_First.c0_eq]) ?_
  simp only [decide_eq_true_eq, Bool.not_eq_true', decide_eq_false_iff_not, List.length_cons, List.length_nil]
  rw [show ([a, b] : List Int).getD (1 : Int).toNat 0 = b from rfl, show IntKind.wrap .i64 (1 + 1) = 2 from w64 (by omega) (by omega)]
  refine Ev.yes (by omega) (Ev.yes (by omega) (Ev.split (fun h => Ev.now _) (fun h => ?_)))
  have h : b = 0 := by simpa using h
  refine Ev.step (fun k => by rw [kit_First.c0_eq]) ?_
  simp only [decide_eq_true_eq]
  refine Ev.no (by simp) ?_
  rw [h]
  exact Ev.now _

def Fit (p : Par) : Prop := (1 ≤ p.2.1 ∧ p.2.1 ≤ 24) ∧ Dots p 0 ∧ p.2.2.2.1.length ≤ 50 ∧ p.2.2.2.1.length ≠ 1 ∧ p.2.2.2.2.length ≤ 50
def Fits (l : List DParameter) (i : Nat) : Prop := ∀ j : Nat, i ≤ j → j < l.length → Fit (l.getD j (Ty.dflt YParameter)) ∧ (0 < j → lessS (l.getD ((j : Int) - 1).toNat (Ty.dflt YParameter)).1 (l.getD j (Ty.dflt YParameter)).1 = true)
theorem params_loop (l : List DParameter) (hl : l.length ≤ 500) (hn : ∀ z ∈ l, okT YParameter z) : ∀ (d i : Nat), i + d = l.length →
 Twin (fun k => telemetry_CheckParameters.c0 k l l (l.length : Int) i) (fun k => perigeeref7_CheckParameters.c0 k l l (l.length : Int) i) (fun a b => a = b ∧ (a.1 = 0 → Fits l i)) := by
 intro d
 induction d with
 | zero =>
  intro i hij
  refine Twin.stepL (fun k => by rw [telemetry_CheckParameters.c0_eq]) (Twin.stepR (fun k => by rw [perigeeref7_CheckParameters.c0_eq]) ?_)
  simp only [decide_eq_true_eq]
  refine Twin.noL (by omega) (Twin.noR (by omega) ?_)
  exact Twin.now ⟨rfl, fun _ j h1 h2 => by omega⟩
 | succ d ih =>
  intro i hij
  have next := ih (i + 1) (by omega)
  refine Twin.stepL (fun k => by rw [telemetry_CheckParameters.c0_eq]) (Twin.stepR (fun k => by rw [perigeeref7_CheckParameters.c0_eq]) ?_)
  have h1 : ((i : Nat) : Int) < (l.length : Int) := by omega
  have hp : okT YParameter (l.getD i (Ty.dflt YParameter)) := hn _ (getD_mem (by omega))
  rw [w64 (x := (i : Int) - 1) (by omega) (by omega), w64 (x := (i : Int) + 1) (by omega) (by omega)]
  simp only [in_ev, within_ev, Option.bind_some, decide_eq_true_eq, Bool.not_eq_true', decide_eq_false_iff_not, Int.toNat_natCast]
  simp only [if_pos h1, if_pos (show (0 : Int) ≤ (i : Int) ∧ (i : Int) < (l.length : Int) by omega)]
  obtain ⟨b, e1, e2⟩ := word_ev (l.getD i (Ty.dflt YParameter)).1 hp.1
  refine Twin.bindL e1 (Twin.bindR e2 ?_)
  refine Twin.ifL (fun h3 => Twin.yesR h3 (Twin.now ⟨rfl, fun h => absurd h (by decide)⟩)) (fun h3 => Twin.noR h3 ?_)
  refine Twin.ifL (fun h4 => Twin.yesR h4 (Twin.now ⟨rfl, fun h => absurd h (by decide)⟩)) (fun h4 => Twin.noR h4 ?_)
  have h4 : 1 ≤ (l.getD i (Ty.dflt YParameter)).2.1 ∧ (l.getD i (Ty.dflt YParameter)).2.1 ≤ 24 := by simpa using h4
  obtain ⟨s, w1, w2, w3⟩ := words_ev (l.getD i (Ty.dflt YParameter)) h4 (fun z hz => (hp.2.2.2.2.2.2 z hz).2)
  obtain ⟨a, c, d1, d2, d4, d3⟩ := dots_ev (l.getD i (Ty.dflt YParameter)) h4 s w2
  refine Twin.bindL d1 (Twin.bindL w1 (Twin.bindL (first_ev a.1 s) (Twin.bindR d2 ?_)))
  rw [d4]
  refine Twin.ifL (fun h5 => Twin.yesR h5 (Twin.now ⟨rfl, fun h => absurd h h5⟩)) (fun h5 => Twin.noR h5 ?_)
  have h5 : (if a.1 = 0 then s else a.1) = 0 := by simpa using h5
  have ha : a.1 = 0 := by
   by_cases h : a.1 = 0
   ·exact h
   ·rw [if_neg h] at h5; exact absurd h5 h
  rw [if_pos ha] at h5
  have fit : Fit (l.getD i (Ty.dflt YParameter)) := ⟨h4, (d3 ha).1, (d3 ha).2.1, (d3 ha).2.2, w3 h5⟩
  have fin : (0 < i → lessS (l.getD ((i : Int) - 1).toNat (Ty.dflt YParameter)).1 (l.getD i (Ty.dflt YParameter)).1 = true) → Twin (fun k => telemetry_CheckParameters.c0 k l l (l.length : Int) ((i : Int) + 1)) (fun k => perigeeref7_CheckParameters.c0 k l l (l.length : Int) ((i : Int) + 1)) (fun a b => a = b ∧ (a.1 = 0 → Fits l i)) := by
   intro hlt
   refine Twin.mono next fun a b ⟨h1, h2⟩ => ⟨h1, fun ha j h3 h4 => ?_⟩
   rcases Nat.lt_or_ge i j with h5 | h5
   ·exact h2 ha j h5 h4
   ·obtain rfl : j = i := by omega
    exact ⟨fit, hlt⟩
  refine Twin.ifL (fun h6 => Twin.yesR h6 ?_) (fun h6 => Twin.noR h6 (fin fun h => absurd h (by omega)))
  refine Twin.yesL (by omega) (Twin.yesR (by omega) ?_)
  refine Twin.ifL (fun h7 => Twin.yesR h7 (Twin.now ⟨rfl, fun h => absurd h (by decide)⟩)) (fun h7 => Twin.noR h7 (fin fun _ => by simpa using h7))
theorem params_ev (l : List DParameter) (h : okT (.sl YParameter) l) : ∃ c, Ev (fun k => telemetry_CheckParameters.f k l) (c, ()) ∧ Ev (fun k => perigeeref7_CheckParameters.f k l) (c, ()) ∧ (c = 0 → l.length ≤ 500 ∧ Fits l 0) := by
 have : Twin (fun k => telemetry_CheckParameters.f k l) (fun k => perigeeref7_CheckParameters.f k l) (fun a b => a = b ∧ (a.1 = 0 → l.length ≤ 500 ∧ Fits l 0)) := by
  simp only [telemetry_CheckParameters.f_eq, perigeeref7_CheckParameters.f_eq, decide_eq_true_eq]
  repeat' (first | (exfalso; omega) | (refine Twin.ifL (fun h_ => ?_) (fun h_ => ?_)) | (refine Twin.ifR (fun h_ => ?_) (fun h_ => ?_)))
  ·exact Twin.now ⟨rfl, fun h => absurd h (by decide)⟩
  ·exact Twin.mono (params_loop l (by omega) h.2.2 l.length 0 (by omega)) fun a b ⟨h1, h2⟩ => ⟨h1, fun h => ⟨by omega, h2 h⟩⟩
 obtain ⟨a, b, h1, h2, rfl, h3⟩ := this
 exact ⟨a.1, h1, h2, h3⟩
end Go.Proofs.Ytcefbdknoelacaa.Pure

-- YtcefbdknoelacaaQ2
set_option linter.unusedVariables false
set_option linter.unusedSimpArgs false
namespace Go.Proofs.Ytcefbdknoelacaa.Pure
open Go Go.Proofs.Ytcefbdknoelacaa.A

theorem u64_in {x : Int} (h : 0 ≤ x) (h' : x < 18446744073709551616) : IntKind.wrap .u64 x = x := by
 have e1 : (2 : Int) ^ 64 = 18446744073709551616 := rfl
 simp only [IntKind.wrap, IntKind.bits, IntKind.signed, e1, Bool.false_and]
 simp
 omega
theorem shr_half (x : Int) : shrI .u64 x 1 = x / 2 := by
 unfold shrI
 exact Int.fdiv_eq_ediv_of_nonneg _ (by decide)

abbrev nameOf (l : List DParameter) (j : Nat) : List UInt8 := (l.getD j (Ty.dflt YParameter)).1
theorem sorted {l : List DParameter} (h : Fits l 0) : ∀ (b a : Nat), a < b → b < l.length → lessS (nameOf l a) (nameOf l b) = true := by
 intro b
 induction b with
 | zero => intro a h1; omega
 | succ b ih =>
  intro a h1 h2
  have h3 := (h (b + 1) (by omega) h2).2 (by omega)
  rw [show (((b + 1 : Nat) : Int) - 1).toNat = b by omega] at h3
  rcases Nat.lt_or_ge a b with h4 | h4
  ·exact less_trans (ih a h4 (by omega)) h3
  ·obtain rfl : a = b := by omega
   exact h3
structure Place (l : List DParameter) (t : List UInt8) (p : Nat) : Prop where
 le : p ≤ l.length
 low : ∀ j, j < p → lessS (nameOf l j) t = true
 high : ∀ j, p ≤ j → j < l.length → ¬ lessS (nameOf l j) t = true
theorem search_loop (l : List DParameter) (hl : l.length ≤ 500) (hf : Fits l 0) (t : List UInt8) : ∀ (d i j : Nat), j = i + d → j ≤ l.length → (∀ m, m < i → lessS (nameOf l m) t = true) → (∀ m, j ≤ m → m < l.length → ¬ lessS (nameOf l m) t = true) →
 ∃ p, Place l t p ∧ Ev (fun k => slices_BinarySearchFunc_string.c0 k l t (l.length : Int) i j) ((p : Int), decide (p < l.length ∧ nameOf l p = t), ()) := by
 intro d
 induction d using Nat.strongRecOn with
 | _ d ih =>
  intro i j hj hjl hlow hhigh
  rcases Nat.eq_zero_or_pos d with h0 | h0
  ·subst h0
   have hij : j = i := by omega
   subst hij
   refine ⟨j, ⟨hjl, hlow, hhigh⟩, ?_⟩
   refine Ev.step (fun k => by rw [slices_BinarySearchFunc_string.c0_eq]) ?_
   simp only [decide_eq_true_eq, telemetry_parameter_1.f_eq, Option.bind_some]
   refine Ev.no (by omega) ?_
   by_cases h1 : (j : Int) < (l.length : Int)
   ·refine Ev.yes h1 (Ev.yes (by omega) (Ev.is ?_))
    rw [Int.toNat_natCast]
    have h2 := hhigh j (Nat.le_refl _) (by omega)
    unfold cmpS
    rw [if_neg h2]
    show ((j : Int), decide _, ()) = ((j : Int), decide (j < l.length ∧ (l.getD j (Ty.dflt YParameter)).1 = t), ())
    by_cases h4 : (l.getD j (Ty.dflt YParameter)).1 = t
    ·rw [h4, show lessS t t = false from less_irrefl t, decide_eq_true (p := j < l.length ∧ t = t) ⟨by omega, rfl⟩]
     rfl
    ·have h6 : lessS t (l.getD j (Ty.dflt YParameter)).1 = true := less_tri h2 h4
     rw [if_pos h6]
     rw [decide_eq_false (p := j < l.length ∧ (l.getD j (Ty.dflt YParameter)).1 = t) (fun h => h4 h.2)]
     rfl
   ·refine Ev.no h1 (Ev.is ?_)
    rw [decide_eq_false (p := j < l.length ∧ nameOf l j = t) (by omega)]
  ·have hm : ∃ m : Nat, IntKind.wrap .i64 (shrI .u64 (IntKind.wrap .u64 (IntKind.wrap .i64 ((i : Int) + (j : Int)))) 1) = (m : Int) ∧ m = (i + j) / 2 := by
    refine ⟨(i + j) / 2, ?_, rfl⟩
    rw [w64 (x := (i : Int) + (j : Int)) (by omega) (by omega), u64_in (by omega) (by omega), shr_half, w64 (by omega) (by omega)]
    omega
   obtain ⟨m, hm, hm2⟩ := hm
   have hmi : i ≤ m ∧ m < j := by omega
   rcases Classical.em (lessS (nameOf l m) t = true) with h1 | h1
   ·obtain ⟨p, hp, hev⟩ := ih (j - (m + 1)) (by omega) (m + 1) j (by omega) hjl (fun a ha => by
     rcases Nat.lt_or_ge a m with h2 | h2
     ·exact less_trans (sorted hf m a h2 (by omega)) h1
     ·obtain rfl : a = m := by omega
      exact h1) hhigh
    refine ⟨p, hp, ?_⟩
    refine Ev.step (fun k => by rw [slices_BinarySearchFunc_string.c0_eq]) ?_
    rw [hm, w64 (x := (m : Int) + 1) (by omega) (by omega)]
    simp only [decide_eq_true_eq, telemetry_parameter_1.f_eq, Option.bind_some, Int.toNat_natCast, cmpS]
    refine Ev.yes (by omega) (Ev.yes (by omega) (Ev.yes ?_ hev))
    rw [if_pos h1]; decide
   ·obtain ⟨p, hp, hev⟩ := ih (m - i) (by omega) i m (by omega) (by omega) hlow (fun a ha hb => by
     rcases Nat.lt_or_ge m a with h2 | h2
     ·intro h3
      exact h1 (less_trans (sorted hf a m h2 hb) h3)
     ·obtain rfl : a = m := by omega
      exact h1)
    refine ⟨p, hp, ?_⟩
    refine Ev.step (fun k => by rw [slices_BinarySearchFunc_string.c0_eq]) ?_
    rw [hm]
    simp only [decide_eq_true_eq, telemetry_parameter_1.f_eq, Option.bind_some, Int.toNat_natCast, cmpS]
    refine Ev.yes (by omega) (Ev.yes (by omega) (Ev.no ?_ hev))
    rw [if_neg h1]; split <;> omega

def findP (l : List DParameter) (t : List UInt8) : Option DParameter := l.find? fun p => decide (p.1 = t)
def fnd : Option DParameter → DParameter × Bool × Unit
 | some p => (p, true, ())
 | none => (([], (0, (false, ([], [])))), false, ())
theorem findP_some {l : List DParameter} {t : List UInt8} {p : DParameter} (h : findP l t = some p) : p ∈ l ∧ p.1 = t :=
 ⟨List.mem_of_find?_eq_some h, by simpa using List.find?_some h⟩
theorem findP_none {l : List DParameter} {t : List UInt8} (h : findP l t = none) : ∀ p ∈ l, p.1 ≠ t := by
 intro p hp e
 have := List.find?_eq_none.1 h p hp
 simp [e] at this
theorem inj_name {l : List DParameter} (hf : Fits l 0) {p q : DParameter} (hp : p ∈ l) (hq : q ∈ l) (h : p.1 = q.1) : p = q := by
 obtain ⟨i, hi, rfl⟩ := List.getElem_of_mem hp
 obtain ⟨j, hj, rfl⟩ := List.getElem_of_mem hq
 have no : ∀ a b : Nat, (ha : a < l.length) → (hb : b < l.length) → a < b → l[a].1 ≠ l[b].1 := by
  intro a b ha hb hab
  have := sorted hf b a hab hb
  unfold nameOf at this
  rw [getD_nat _ _ _ ha, getD_nat _ _ _ hb] at this
  exact less_ne this
 rcases Nat.lt_trichotomy i j with h1 | h1 | h1
 ·exact absurd h (no i j hi hj h1)
 ·subst h1; rfl
 ·exact absurd h.symm (no j i hj hi h1)
theorem findP_of {l : List DParameter} (hf : Fits l 0) {p : DParameter} (hp : p ∈ l) : findP l p.1 = some p := by
 cases h : findP l p.1 with
 | none => exact absurd rfl (findP_none h p hp)
 | some q => obtain ⟨h1, h2⟩ := findP_some h; rw [inj_name hf h1 hp h2]
theorem mem_fit {l : List DParameter} (hf : Fits l 0) {p : DParameter} (hp : p ∈ l) : Fit p := by
 obtain ⟨i, hi, rfl⟩ := List.getElem_of_mem hp
 have := (hf i (by omega) hi).1
 rw [getD_nat _ _ _ hi] at this
 exact this
theorem parameter_ev (l : List DParameter) (hl : l.length ≤ 500) (hf : Fits l 0) (t : List UInt8) : Ev (fun k => telemetry_parameter.f k l t) (fnd (findP l t)) := by
 obtain ⟨p, hp, hev⟩ := search_loop l hl hf t l.length 0 l.length (by omega) (by omega) (fun m h => by omega) (fun m h h' => by omega)
 refine Ev.eq (fun k => by rw [telemetry_parameter.f_eq, slices_BinarySearchFunc_string.f_eq]) ?_
 refine Ev.bind hev ?_
 by_cases h : p < l.length ∧ nameOf l p = t
 ·have : findP l t = some (l.getD p (Ty.dflt YParameter)) := by
   rw [← h.2]; exact findP_of hf (getD_mem h.1)
  rw [this]
  simp only [decide_eq_true h]
  refine Ev.no (by simp) (Ev.yes (by omega) ?_)
  rw [Int.toNat_natCast]
  exact Ev.now _
 ·have : findP l t = none := by
   cases e : findP l t with
   | none => rfl
   | some q =>
    exfalso
    obtain ⟨h1, h2⟩ := findP_some e
    obtain ⟨i, hi, rfl⟩ := List.getElem_of_mem h1
    have e1 : nameOf l i = t := by unfold nameOf; rw [getD_nat _ _ _ hi]; exact h2
    rcases Nat.lt_trichotomy i p with h3 | h3 | h3
    ·exact less_ne (hp.low i h3) e1
    ·subst h3; exact h ⟨hi, e1⟩
    ·have := sorted hf i p h3 hi
     rw [e1] at this
     exact hp.high p (Nat.le_refl _) (by omega) this
  rw [this]
  simp only [decide_eq_false h]
  exact Ev.yes (by simp) (Ev.now _)
theorem find_ev (l : List DParameter) (hl : l.length ≤ 4611686018427387904) (t : List UInt8) : Ev (fun k => perigeeref7_find.f k l t) (fnd (findP l t)) := by
 have loop : ∀ (d i : Nat), i + d = l.length → Ev (fun k => perigeeref7_find.c0 k t [] 0 false [] [] l (l.length : Int) i) (fnd (findP (l.drop i) t)) := by
  intro d
  induction d with
  | zero =>
   intro i hi
   refine Ev.step (fun k => by rw [perigeeref7_find.c0_eq]) ?_
   simp only [decide_eq_true_eq]
   refine Ev.no (by omega) ?_
   rw [List.drop_of_length_le (by omega)]
   exact Ev.now _
  | succ d ih =>
   intro i hi
   have next := ih (i + 1) (by omega)
   refine Ev.step (fun k => by rw [perigeeref7_find.c0_eq]) ?_
   rw [w64 (x := (i : Int) + 1) (by omega) (by omega), List.drop_eq_getElem_cons (show i < l.length by omega)]
   simp only [decide_eq_true_eq, Int.toNat_natCast, getD_nat (Ty.dflt YParameter) l i (by omega)]
   refine Ev.yes (by omega) (Ev.yes (by omega) (Ev.split (fun h => ?_) (fun h => ?_)))
   ·unfold findP
    rw [List.find?_cons_of_pos (by simpa using h)]
    exact Ev.now _
   ·unfold findP
    rw [List.find?_cons_of_neg (by simpa using h)]
    exact next
 refine Ev.eq (fun k => by rw [perigeeref7_find.f_eq]) ?_
 exact loop l.length 0 (by omega)

def findL (l : List DLayout) (t : List UInt8) : Option DLayout := l.find? fun p => decide (p.1 = t)
def fndL : Option DLayout → DLayout × Bool × Unit
 | some p => (p, true, ())
 | none => (([], []), false, ())
theorem layout_ev (l : List DLayout) (hl : l.length ≤ 4611686018427387904) (t : List UInt8) : Ev (fun k => telemetry_layout.f k l t) (fndL (findL l t)) := by
 have loop : ∀ (d i : Nat), i + d = l.length → Ev (fun k => telemetry_layout.c0 k t [] [] l (l.length : Int) i) (fndL (findL (l.drop i) t)) := by
  intro d
  induction d with
  | zero =>
   intro i hi
   refine Ev.step (fun k => by rw [telemetry_layout.c0_eq]) ?_
   simp only [decide_eq_true_eq]
   refine Ev.no (by omega) ?_
   rw [List.drop_of_length_le (by omega)]
   exact Ev.now _
  | succ d ih =>
   intro i hi
   have next := ih (i + 1) (by omega)
   refine Ev.step (fun k => by rw [telemetry_layout.c0_eq]) ?_
   rw [w64 (x := (i : Int) + 1) (by omega) (by omega), List.drop_eq_getElem_cons (show i < l.length by omega)]
   simp only [decide_eq_true_eq, Int.toNat_natCast, getD_nat (Ty.dflt YLayout) l i (by omega)]
   refine Ev.yes (by omega) (Ev.yes (by omega) (Ev.split (fun h => ?_) (fun h => ?_)))
   ·unfold findL
    rw [List.find?_cons_of_pos (by simpa using h)]
    exact Ev.now _
   ·unfold findL
    rw [List.find?_cons_of_neg (by simpa using h)]
    exact next
 refine Ev.eq (fun k => by rw [telemetry_layout.f_eq]) ?_
 exact loop l.length 0 (by omega)
end Go.Proofs.Ytcefbdknoelacaa.Pure

-- YtcefbdknoelacaaBt
set_option linter.unusedVariables false
set_option linter.unusedSimpArgs false
namespace Go.Proofs.Ytcefbdknoelacaa.Pure
open Go Go.Proofs.Ytcefbdknoelacaa.A

def bitAt (b : List Int) (i : Nat) : Bool := (b.getD (i / 8) 0).toNat.testBit (7 - i % 8)
def Bytes (b : List Int) : Prop := ∀ x ∈ b, 0 ≤ x ∧ x < 256
theorem Bytes.at {b : List Int} (h : Bytes b) (i : Nat) : 0 ≤ b.getD i 0 ∧ b.getD i 0 < 256 := by
 rcases Nat.lt_or_ge i b.length with hi | hi
 ·exact h _ (getD_mem hi)
 ·rw [List.getD_eq_getElem?_getD, List.getElem?_eq_none hi]; simp
structure Pack (b : List Int) (L : List Bool) : Prop where
 by_ : Bytes b
 len : b.length = (L.length + 7) / 8
 bit : ∀ i, bitAt b i = L.getD i false
theorem Pack.nil : Pack [] [] := ⟨fun x h => by simp at h, rfl, fun i => by simp [bitAt]⟩
def putAt (b : List Int) (i : Nat) (x : Nat) : List Int := b.set (i / 8) ((((b.getD (i / 8) 0).toNat ||| (x <<< (7 - i % 8))) : Nat) : Int)
theorem one_shl_testBit (k t : Nat) : (1 <<< k).testBit t = decide (k = t) := by
 rw [Nat.one_shiftLeft]; exact Nat.testBit_two_pow
theorem bitAt_put {b : List Int} (hb : Bytes b) (i : Nat) (hi : i < 8 * b.length) (x : Nat) (hx : x ≤ 1) (j : Nat) : bitAt (putAt b i x) j = (bitAt b j || (decide (j = i) && decide (x = 1))) := by
 unfold bitAt putAt
 rw [List.getD_eq_getElem?_getD, List.getElem?_set]
 by_cases h1 : i / 8 = j / 8
 ·rw [if_pos h1, if_pos (by omega)]
  simp only [Option.getD_some, Int.toNat_natCast, Nat.testBit_or, ← h1]
  congr 1
  rcases (show x = 0 ∨ x = 1 by omega) with rfl | rfl
  ·simp
  ·rw [one_shl_testBit]
   simp only [decide_true, Bool.and_true]
   exact decide_eq_decide.2 ⟨fun h => by omega, fun h => by omega⟩
 ·rw [if_neg h1, ← List.getD_eq_getElem?_getD]
  have : ¬ j = i := fun h => h1 (by rw [h])
  simp [this]
theorem bytes_put {b : List Int} (hb : Bytes b) (i : Nat) (x : Nat) (hx : x ≤ 1) : Bytes (putAt b i x) := by
 intro y hy
 unfold putAt at hy
 rcases List.mem_or_eq_of_mem_set hy with h | h
 ·exact hb y h
 ·have := hb.at (i / 8)
  have h1 : (b.getD (i / 8) 0).toNat ||| (x <<< (7 - i % 8)) < 2 ^ 8 := by
   refine Nat.or_lt_two_pow (by omega) ?_
   rw [Nat.shiftLeft_eq]
   have : 2 ^ (7 - i % 8) ≤ 2 ^ 7 := Nat.pow_le_pow_right (by omega) (by omega)
   have : x * 2 ^ (7 - i % 8) ≤ 1 * 2 ^ (7 - i % 8) := Nat.mul_le_mul_right _ hx
   omega
  rw [h]
  omega
theorem putAt_length (b : List Int) (i x : Nat) : (putAt b i x).length = b.length := by simp [putAt]
theorem Pack.push {b : List Int} {L : List Bool} (h : Pack b L) (x : Nat) (hx : x ≤ 1) : Pack (putAt (if L.length % 8 = 0 then b ++ [0] else b) L.length x) (L ++ [decide (x = 1)]) := by
 have hb2 : Bytes (if L.length % 8 = 0 then b ++ [0] else b) := by
  split
  ·intro y hy
   rcases List.mem_append.1 hy with hy | hy
   ·exact h.by_ y hy
   ·simp at hy; omega
  ·exact h.by_
 have hl2 : (if L.length % 8 = 0 then b ++ [0] else b).length = (L.length + 8) / 8 := by
  have := h.len
  split
  ·simp only [List.length_append, List.length_cons, List.length_nil]; omega
  ·omega
 have hbit : ∀ j, bitAt (if L.length % 8 = 0 then b ++ [0] else b) j = bitAt b j := by
  intro j
  split
  ·unfold bitAt
   congr 2
   rw [List.getD_eq_getElem?_getD, List.getD_eq_getElem?_getD]
   rcases Nat.lt_trichotomy (j / 8) b.length with h1 | h1 | h1
   ·rw [List.getElem?_append_left h1]
   ·rw [List.getElem?_append_right (by omega), h1, Nat.sub_self, List.getElem?_eq_none (Nat.le_refl _)]; rfl
   ·rw [List.getElem?_eq_none (by simp; omega), List.getElem?_eq_none (by omega)]
  ·rfl
 refine ⟨bytes_put hb2 _ x hx, ?_, fun i => ?_⟩
 ·rw [putAt_length, hl2, List.length_append, List.length_cons, List.length_nil]
 ·rw [bitAt_put hb2 _ (by rw [hl2]; omega) x hx, hbit, h.bit]
  rw [List.getD_eq_getElem?_getD, List.getD_eq_getElem?_getD, List.getElem?_append]
  rcases Nat.lt_trichotomy i L.length with h1 | h1 | h1
  ·rw [if_pos h1]
   have : ¬ i = L.length := by omega
   simp [this]
  ·subst h1
   simp
  ·rw [if_neg (by omega), List.getElem?_eq_none (by omega), List.getElem?_eq_none (by simp; omega)]
   have : ¬ i = L.length := by omega
   simp [this]

end Go.Proofs.Ytcefbdknoelacaa.Pure

-- YtcefbdknoelacaaLp
set_option linter.unusedVariables false
set_option linter.unusedSimpArgs false
namespace Go.Proofs.Ytcefbdknoelacaa.Pure
open Go Go.Proofs.Ytcefbdknoelacaa.A

theorem Ev.rng {α β σ : Type} (z : α) (l : List α) (hl : l.length ≤ 4611686018427387904) {g : Nat → σ → Int → Option β} {B : Nat → σ → Int → Option β} {E : Nat → σ → Option β}
 (hg : ∀ k s i, g (k + 1) s i = if decide (i < (l.length : Int)) = true then (if (0 : Int) ≤ i ∧ i < (l.length : Int) then B k s i else none) else E k s)
 (Inv : Nat → σ → Prop) (spec : List α → Nat → σ → β)
 (hfin : ∀ s, Inv l.length s → Ev (fun k => E k s) (spec [] l.length s))
 (hstep : ∀ (i : Nat) (x : α) (xs : List α) (s : σ), i < l.length → x ∈ l → l.drop i = x :: xs → l.getD i z = x → IntKind.wrap .i64 ((i : Int) + 1) = (i : Int) + 1 → Inv i s →
  (∀ s', Inv (i + 1) s' → Ev (fun k => g k s' ((i : Int) + 1)) (spec xs (i + 1) s')) → Ev (fun k => B k s i) (spec (x :: xs) i s)) :
 ∀ (i : Nat) (s : σ), i ≤ l.length → Inv i s → Ev (fun k => g k s i) (spec (l.drop i) i s) := by
 have loop : ∀ (d i : Nat) (s : σ), i + d = l.length → Inv i s → Ev (fun k => g k s i) (spec (l.drop i) i s) := by
  intro d
  induction d with
  | zero =>
   intro i s hi hs
   have : i = l.length := by omega
   subst this
   refine Ev.step (fun k => hg k s _) ?_
   refine Ev.no (by simp) ?_
   rw [List.drop_length]
   exact hfin s hs
  | succ d ih =>
   intro i s hi hs
   refine Ev.step (fun k => hg k s _) ?_
   refine Ev.yes (by simp; omega) (Ev.yes (by omega) ?_)
   rw [List.drop_eq_getElem_cons (show i < l.length by omega)]
   refine hstep i _ _ s (by omega) (List.getElem_mem _) (List.drop_eq_getElem_cons (by omega)) (getD_nat z l i (by omega)) (w64 (by omega) (by omega)) hs fun s' hs' => ?_
   have := ih (i + 1) s' (by omega) hs'
   rw [show ((i + 1 : Nat) : Int) = (i : Int) + 1 by omega] at this
   exact this
 exact fun i s hi hs => loop (l.length - i) i s (by omega) hs
theorem Ev.cast {α : Type} {g : Nat → Option α} {a b : α} (h : a = b) (e : Ev g a) : Ev g b := h ▸ e

theorem eqV_iff : ∀ {τ : Ty}, τ.eqB = true → ∀ {x y : τ.den}, eqV τ x y = true ↔ x = y := by
 intro τ
 induction τ with
 | pair a b iha ihb =>
  intro h x y
  simp only [Ty.eqB, Bool.and_eq_true] at h
  simp only [eqV, Bool.and_eq_true, iha h.1, ihb h.2]
  exact ⟨fun h => Prod.ext h.1 h.2, fun h => by rw [h]; exact ⟨rfl, rfl⟩⟩
 | bool => intro _ x y; exact decide_eq_true_iff
 | int k => intro _ x y; exact decide_eq_true_iff
 | str => intro _ x y; exact decide_eq_true_iff
 | unit => intro h; simp [Ty.eqB] at h
 | sl e _ => intro h; simp [Ty.eqB] at h
 | vec e _ => intro h; simp [Ty.eqB] at h
 | map k e _ _ => intro h; simp [Ty.eqB] at h
 | fnv f => intro h; simp [Ty.eqB] at h
theorem eq_loop {α : Type} (z : α) {e : α → α → Bool} (he : ∀ x y, e x y = true ↔ x = y) (a b : List α) (hl : a.length ≤ 4611686018427387904) (hab : a.length = b.length) {g : Nat → Int → Option (Bool × Unit)}
 (hg : ∀ k i, g (k + 1) i = if decide (i < (a.length : Int)) = true then (if (0 : Int) ≤ i ∧ i < (a.length : Int) then (if (0 : Int) ≤ i ∧ i < (b.length : Int) then (if (!(e (a.getD i.toNat z) (b.getD i.toNat z))) = true then some (false, ()) else g k (IntKind.wrap .i64 (i + 1))) else none) else none) else some (true, ())) :
 ∃ r, Ev (fun k => g k 0) (r, ()) ∧ (r = true ↔ a = b) := by
 classical
 have := Ev.rng (σ := Unit) z a hl (g := fun k _ i => g k i) (fun k s i => hg k i) (fun i _ => True)
  (fun r i _ => (decide (∀ j : Nat, i ≤ j → j < a.length → a.getD j z = b.getD j z), ())) (fun _ _ => Ev.is (by
   rw [decide_eq_true]
   intro j h1 h2; omega)) (fun i x xs _ hi hx _ hget hw _ next => by
   simp only [Int.toNat_natCast, hget, hw, Bool.not_eq_true']
   refine Ev.yes (by omega) (Ev.split (fun h => ?_) (fun h => ?_))
   ·refine Ev.is ?_
    rw [decide_eq_false]
    intro hh
    have := hh i (Nat.le_refl _) hi
    rw [hget] at this
    rw [(he _ _).2 this] at h
    cases h
   ·refine Ev.cast ?_ (next () trivial)
    have h : x = b.getD i z := (he _ _).1 (by simpa using h)
    refine congrArg (fun b => (b, ())) (decide_eq_decide.2 ⟨fun hh j h1 h2 => ?_, fun hh j h1 h2 => hh j (by omega) h2⟩)
    rcases Nat.lt_or_ge i j with h3 | h3
    ·exact hh j h3 h2
    ·obtain rfl : j = i := by omega
     rw [hget]; exact h) 0 () (by omega) trivial
 refine ⟨_, this, ?_⟩
 rw [decide_eq_true_iff]
 refine ⟨fun h => List.ext_getElem hab fun j h1 h2 => ?_, fun h => by rw [h]; exact fun _ _ _ => rfl⟩
 have := h j (by omega) h1
 rw [getD_nat z a j h1, getD_nat z b j h2] at this
 exact this
theorem idx_loop {α : Type} [DecidableEq α] (z : α) (v : α) {e : α → Bool} (he : ∀ x, e x = true ↔ v = x) (l : List α) (hl : l.length ≤ 4611686018427387904) {g : Nat → Int → Option (Int × Unit)}
 (hg : ∀ k i, g (k + 1) i = if decide (i < (l.length : Int)) = true then (if (0 : Int) ≤ i ∧ i < (l.length : Int) then (if e (l.getD i.toNat z) = true then some (i, ()) else g k (IntKind.wrap .i64 (i + 1))) else none) else some (-1, ())) :
 ∃ n, Ev (fun k => g k 0) (n, ()) ∧ (0 ≤ n ↔ v ∈ l) := by
 have h := Ev.rng (σ := Unit) z l hl (g := fun k _ i => g k i) (fun k s i => hg k i)
  (fun _ _ => True) (fun r i _ => (if v ∈ r then ((i + r.idxOf v : Nat) : Int) else -1, ())) (fun _ _ => Ev.is (by simp)) (fun i x xs s hi hx _ hget hw _ next => by
   simp only [Int.toNat_natCast, hget, hw]
   refine Ev.split (fun h => ?_) (fun h => ?_)
   ·have h := (he _).1 h
    subst h
    refine Ev.is ?_
    simp
   ·refine Ev.cast ?_ (next () trivial)
    have h' : ¬ v = x := fun e => h ((he _).2 e)
    have h'' : ¬ x = v := fun e => h' e.symm
    by_cases hm : v ∈ xs
    ·rw [if_pos hm, if_pos (by simp [hm]), List.idxOf_cons, show (x == v) = false by simpa using h'']
     simp only [cond_false]
     congr 1; omega
    ·rw [if_neg hm, if_neg (by simp [hm, h'])]) 0 () (by omega) trivial
 refine ⟨_, h, ?_⟩
 simp only [List.drop_zero]
 split <;> rename_i hm
 ·exact ⟨fun _ => hm, fun _ => by omega⟩
 ·exact ⟨fun h => by omega, fun h => absurd h hm⟩
end Go.Proofs.Ytcefbdknoelacaa.Pure

-- YtcefbdknoelacaaQ4
set_option linter.unusedVariables false
set_option linter.unusedSimpArgs false
namespace Go.Proofs.Ytcefbdknoelacaa.Pure
open Go Go.Proofs.Ytcefbdknoelacaa.A

theorem has_iff (s : List UInt8) : ∀ (m : List (List UInt8 × Bool)), (∀ p ∈ m, p.2 = true) → (mapGet .str .bool s m false = true ↔ s ∈ m.map (·.1))
 | [], _ => by simp [mapGet]
 | p :: m, h => by
  have ih := has_iff s m (fun q hq => h q (by simp [hq]))
  unfold mapGet
  by_cases e : p.1 = s
  ·have e2 : eqV .str p.1 s = true := decide_eq_true e
   rw [if_pos e2]
   simp [h p (by simp), e]
  ·have e2 : ¬ eqV .str p.1 s = true := fun hh => e (of_decide_eq_true hh)
   rw [if_neg e2, ih]
   have : ¬ s = p.1 := fun hh => e hh.symm
   simp [this]
theorem put_keys (s : List UInt8) : ∀ (m : List (List UInt8 × Bool)), (∀ p ∈ m, p.2 = true) → (∀ p ∈ mapPut .str .bool s true m, p.2 = true) ∧ (∀ t, t ∈ (mapPut .str .bool s true m).map (·.1) ↔ (t ∈ m.map (·.1) ∨ t = s))
 | [], _ => by simp [mapPut]
 | p :: m, h => by
  have ih := put_keys s m (fun q hq => h q (by simp [hq]))
  unfold mapPut
  by_cases e : p.1 = s
  ·have e2 : eqV .str p.1 s = true := decide_eq_true e
   rw [if_pos e2]
   refine ⟨fun q hq => ?_, fun t => ?_⟩
   ·rcases List.mem_cons.1 hq with rfl | hq
    ·rfl
    ·exact h q (by simp [hq])
   ·simp only [List.map_cons, List.mem_cons, e]
    exact ⟨fun h => h.elim .inr fun h => .inl (.inr h), fun h => h.elim (fun h => h) .inl⟩
  ·have e2 : ¬ eqV .str p.1 s = true := fun hh => e (of_decide_eq_true hh)
   rw [if_neg e2]
   refine ⟨fun q hq => ?_, fun t => ?_⟩
   ·rcases List.mem_cons.1 hq with rfl | hq
    ·exact h q (by simp)
    ·exact ih.1 q hq
   ·simp only [List.map_cons, List.mem_cons, ih.2 t]
    exact ⟨fun h => h.elim (fun h => .inl (.inl h)) fun h => h.elim (fun h => .inl (.inr h)) .inr, fun h => h.elim (fun h => h.elim .inl fun h => .inr (.inl h)) fun h => .inr (.inr h)⟩
def ckParts (p : List DParameter) : List (List UInt8) → List (List UInt8) → Int
 | [], _ => 0
 | s :: ss, seen => if findP p s = none then 9 else if s ∈ seen then 7 else ckParts p ss (seen ++ [s])
theorem ckParts_congr (p : List DParameter) : ∀ (ss a b : List (List UInt8)), (∀ t, t ∈ a ↔ t ∈ b) → ckParts p ss a = ckParts p ss b
 | [], _, _, _ => rfl
 | s :: ss, a, b, h => by
  unfold ckParts
  simp only [h s]
  rw [ckParts_congr p ss (a ++ [s]) (b ++ [s]) (fun t => by simp [h t])]
theorem ckParts_ok (p : List DParameter) : ∀ (ss a : List (List UInt8)), ckParts p ss a = 0 → (∀ s ∈ ss, ∃ y, findP p s = some y)
 | [], _, _ => by simp
 | s :: ss, a, h => by
  unfold ckParts at h
  by_cases h1 : findP p s = none
  ·rw [if_pos h1] at h; exact absurd h (by decide)
  ·rw [if_neg h1] at h
   by_cases h2 : s ∈ a
   ·rw [if_pos h2] at h; exact absurd h (by decide)
   ·rw [if_neg h2] at h
    have ih := ckParts_ok p ss _ h
    intro t ht
    rcases List.mem_cons.1 ht with rfl | ht
    ·cases e : findP p t with
     | none => exact absurd e h1
     | some y => exact ⟨y, rfl⟩
    ·exact ih t ht
theorem fnd_ok (o : Option DParameter) : ((fnd o).2.1 = false) = (o = none) := by cases o <;> simp [fnd]
theorem checkParts_ev (p : List DParameter) (hp : p.length ≤ 500) (hf : Fits p 0) (ss : List (List UInt8)) (hs : ss.length ≤ 4611686018427387904) :
 Ev (fun k => telemetry_checkParts.f k p ss) (if ss = [] then 9 else if 200 < ss.length then 2 else ckParts p ss [], ()) := by
 refine Ev.eq (fun k => by rw [telemetry_checkParts.f_eq]) ?_
 simp only [decide_eq_true_eq]
 refine Ev.split (fun h => ?_) (fun h => ?_)
 ·rw [if_pos (List.length_eq_zero_iff.1 (by omega))]; exact Ev.now _
 ·rw [if_neg (fun e => h (by rw [e]; rfl))]
  refine Ev.split (fun h2 => ?_) (fun h2 => ?_)
  ·rw [if_pos (by omega)]; exact Ev.now _
  ·rw [if_neg (by omega)]
   have := Ev.rng (σ := List (List UInt8 × Bool)) [] ss hs (g := fun k s i => telemetry_checkParts.c0 k p s ss (ss.length : Int) i) (fun k s i => telemetry_checkParts.c0_eq _ _ _ _ _ _)
    (fun _ m => ∀ q ∈ m, q.2 = true) (fun l _ m => (ckParts p l (m.map (·.1)), ())) (fun s _ => Ev.now _) (fun i x xs m hi hx _ hget hw hm next => by
     simp only [Int.toNat_natCast, hget, hw]
     refine Ev.bind (parameter_ev p hp hf x) ?_
     simp only [Bool.not_eq_true', fnd_ok]
     unfold ckParts
     refine Ev.split (fun h => ?_) (fun h => ?_)
     ·rw [if_pos h]; exact Ev.now _
     ·rw [if_neg h]
      refine Ev.split (fun h => ?_) (fun h => ?_)
      ·rw [if_pos ((has_iff x m hm).1 h)]; exact Ev.now _
      ·rw [if_neg (fun e => h ((has_iff x m hm).2 e))]
       have k := put_keys x m hm
       refine Ev.cast ?_ (next _ k.1)
       rw [ckParts_congr p xs _ (m.map (·.1) ++ [x]) (fun t => by rw [k.2 t]; simp)]) 0 [] (by omega) (by simp)
   exact this

theorem index_str (l : List (List UInt8)) (hl : l.length ≤ 4611686018427387904) (v : List UInt8) : ∃ n, Ev (fun k => slices_Index_string.f k l v) (n, ()) ∧ (0 ≤ n ↔ v ∈ l) := by
 have h := Ev.rng (σ := Unit) [] l hl (g := fun k s i => slices_Index_string.c0 k l v (l.length : Int) i) (fun k s i => slices_Index_string.c0_eq _ _ _ _ _)
  (fun _ _ => True) (fun r i _ => (if v ∈ r then ((i + r.idxOf v : Nat) : Int) else -1, ())) (fun _ _ => Ev.is (by simp)) (fun i x xs s hi hx _ hget hw _ next => by
   simp only [Int.toNat_natCast, hget, hw, decide_eq_true_eq]
   refine Ev.split (fun h => ?_) (fun h => ?_)
   ·subst h
    refine Ev.is ?_
    simp
   ·refine Ev.cast ?_ (next () trivial)
    have h' : ¬ x = v := fun e => h e.symm
    by_cases hm : v ∈ xs
    ·rw [if_pos hm, if_pos (by simp [hm]), List.idxOf_cons, show (x == v) = false by simpa using h']
     simp only [cond_false]
     congr 1; omega
    ·rw [if_neg hm, if_neg (by simp [hm, h])]) 0 () (by omega) trivial
 refine ⟨_, Ev.eq (fun k => by rw [slices_Index_string.f_eq]; rfl) h, ?_⟩
 simp only [List.drop_zero]
 split <;> rename_i hm
 ·exact ⟨fun _ => hm, fun _ => by omega⟩
 ·exact ⟨fun h => by omega, fun h => absurd h hm⟩
theorem contains_str (l : List (List UInt8)) (hl : l.length ≤ 4611686018427387904) (v : List UInt8) : Ev (fun k => slices_Contains_string.f k l v) (decide (v ∈ l), ()) := by
 obtain ⟨n, h1, h2⟩ := index_str l hl v
 refine Ev.eq (fun k => by rw [slices_Contains_string.f_eq]) (Ev.bind h1 (Ev.is ?_))
 simp only [h2]

def LOk (p : List DParameter) (x : DLayout) : Prop := x.2 ≠ [] ∧ x.2.length ≤ 200 ∧ ∀ s ∈ x.2, ∃ y, findP p s = some y
theorem refParts_loop (p : List DParameter) (hp : p.length ≤ 500) (hf : Fits p 0) (l : List DLayout) (ii : Int) (t7 : List UInt8) (ss : List (List UInt8)) (hs : ss.length ≤ 200) (l2 : List DLayout) (len t22 : Int) :
 ∀ (d i : Nat), i + d = ss.length → ∀ r, (ckParts p (ss.drop i) (ss.take i) = 0 → Ev (fun k => if 0 < ii then (if (0 : Int) ≤ IntKind.wrap .i64 (ii - 1) ∧ IntKind.wrap .i64 (ii - 1) < (l.length : Int) then (if (lessS (l.getD (IntKind.wrap .i64 (ii - 1)).toNat (Ty.dflt YLayout)).1 t7) = false then some (8, ()) else perigeeref7_CheckLayouts.c0 k p l l2 len (IntKind.wrap .i64 (t22 + 1))) else none) else perigeeref7_CheckLayouts.c0 k p l l2 len (IntKind.wrap .i64 (t22 + 1))) r) →
 (ckParts p (ss.drop i) (ss.take i) ≠ 0 → r = (ckParts p (ss.drop i) (ss.take i), ())) →
 Ev (fun k => perigeeref7_CheckLayouts.c1 k p l ii t7 ss l2 len t22 ss (ss.length : Int) i) r := by
 intro d
 induction d with
 | zero =>
  intro i hi r h0 h1
  refine Ev.step (fun k => by rw [perigeeref7_CheckLayouts.c1_eq]) ?_
  simp only [decide_eq_true_eq, Bool.not_eq_true']
  refine Ev.no (by omega) (h0 ?_)
  rw [List.drop_of_length_le (by omega)]
  rfl
 | succ d ih =>
  intro i hi r h0 h1
  have next := ih (i + 1) (by omega) r
  refine Ev.step (fun k => by rw [perigeeref7_CheckLayouts.c1_eq]) ?_
  have hd := List.drop_eq_getElem_cons (show i < ss.length by omega)
  have ht : ss.take (i + 1) = ss.take i ++ [ss[i]] := by rw [List.take_add_one, List.getElem?_eq_getElem (by omega)]; rfl
  rw [w64 (x := (i : Int) + 1) (by omega) (by omega)]
  simp only [decide_eq_true_eq, Bool.not_eq_true', Int.toNat_natCast, getD_nat [] ss i (by omega), List.drop_zero]
  refine Ev.yes (by omega) (Ev.yes (by omega) (Ev.bind (find_ev p (by omega) ss[i]) ?_))
  simp only [fnd_ok]
  rw [hd] at h0 h1
  unfold ckParts at h0 h1
  refine Ev.split (fun h => ?_) (fun h => ?_)
  ·rw [if_pos h] at h1
   rw [h1 (by decide)]
   exact Ev.now _
  ·rw [if_neg h] at h0 h1
   refine Ev.yes (by omega) (Ev.bind (contains_str _ (by simp; omega) _) ?_)
   simp only [decide_eq_true_eq]
   refine Ev.split (fun h => ?_) (fun h => ?_)
   ·rw [if_pos h] at h1
    rw [h1 (by decide)]
    exact Ev.now _
   ·rw [if_neg h] at h0 h1
    rw [ht] at next
    exact next h0 h1
theorem layouts_ev (p : List DParameter) (l : List DLayout) (h : okT (.sl YParameter) p) (h2 : okT (.sl YLayout) l) : ∃ c, Ev (fun k => telemetry_CheckLayouts.f k p l) (c, ()) ∧ Ev (fun k => perigeeref7_CheckLayouts.f k p l) (c, ()) ∧
 (c = 0 → (p.length ≤ 500 ∧ Fits p 0) ∧ l.length ≤ 100 ∧ ∀ x ∈ l, LOk p x) := by
 obtain ⟨c, c1, c2, c3⟩ := params_ev p h
 have : Twin (fun k => telemetry_CheckLayouts.f k p l) (fun k => perigeeref7_CheckLayouts.f k p l) (fun a b => a = b ∧ (a.1 = 0 → (p.length ≤ 500 ∧ Fits p 0) ∧ l.length ≤ 100 ∧ ∀ x ∈ l, LOk p x)) := by
  simp only [telemetry_CheckLayouts.f_eq, perigeeref7_CheckLayouts.f_eq, decide_eq_true_eq, Bool.not_eq_true', decide_eq_false_iff_not]
  refine Twin.bindL c1 (Twin.bindR c2 ?_)
  by_cases hc : c = 0
  ·subst hc
   obtain ⟨hp, hf⟩ := c3 rfl
   refine Twin.noL (fun h => h rfl) (Twin.noR (fun h => h rfl) ?_)
   refine Twin.ifL (fun h1 => Twin.yesR h1 (Twin.now ⟨rfl, fun h => absurd h (by decide)⟩)) (fun h1 => Twin.noR h1 ?_)
   have loop : ∀ (d i : Nat), i + d = l.length → Twin (fun k => telemetry_CheckLayouts.c0 k p l l (l.length : Int) i) (fun k => perigeeref7_CheckLayouts.c0 k p l l (l.length : Int) i) (fun a b => a = b ∧ (a.1 = 0 → ∀ x ∈ l.drop i, LOk p x)) := by
    intro d
    induction d with
    | zero =>
     intro i hi
     refine Twin.stepL (fun k => by rw [telemetry_CheckLayouts.c0_eq]) (Twin.stepR (fun k => by rw [perigeeref7_CheckLayouts.c0_eq]) ?_)
     simp only [decide_eq_true_eq]
     refine Twin.noL (by omega) (Twin.noR (by omega) (Twin.now ⟨rfl, fun _ x hx => ?_⟩))
     rw [List.drop_of_length_le (by omega)] at hx
     simp at hx
    | succ d ih =>
     intro i hi
     have next := ih (i + 1) (by omega)
     have hx : okT YLayout l[i] := h2.2.2 _ (List.getElem_mem _)
     have hs : l[i].2.length ≤ 140737488351232 := hx.2.1
     have hd := List.drop_eq_getElem_cons (show i < l.length by omega)
     refine Twin.stepL (fun k => by rw [telemetry_CheckLayouts.c0_eq]) (Twin.stepR (fun k => by rw [perigeeref7_CheckLayouts.c0_eq]) ?_)
     rw [w64 (x := (i : Int) + 1) (by omega) (by omega)]
     simp only [decide_eq_true_eq, Bool.not_eq_true', decide_eq_false_iff_not, Int.toNat_natCast, getD_nat (Ty.dflt YLayout) l i (by omega)]
     refine Twin.yesL (by omega) (Twin.yesR (by omega) (Twin.yesL (by omega) (Twin.yesR (by omega) ?_)))
     obtain ⟨b, e1, e2⟩ := word_ev l[i].1 hx.1
     refine Twin.bindL e1 (Twin.bindR e2 ?_)
     refine Twin.ifL (fun h3 => Twin.yesR h3 (Twin.now ⟨rfl, fun h => absurd h (by decide)⟩)) (fun h3 => Twin.noR h3 ?_)
     refine Twin.bindL (checkParts_ev p hp hf l[i].2 (by omega)) ?_
     by_cases g1 : l[i].2 = []
     ·rw [if_pos g1]
      exact Twin.yesL (show ¬ (9 : Int) = 0 by decide) (Twin.yesR (by rw [g1]; rfl) (Twin.now ⟨rfl, fun h => absurd h (by decide)⟩))
     ·have g1' : ¬ (l[i].2.length : Int) = 0 := fun e => g1 (List.length_eq_zero_iff.1 (by omega))
      rw [if_neg g1]
      refine Twin.noR g1' ?_
      by_cases g2 : 200 < l[i].2.length
      ·rw [if_pos g2]
       exact Twin.yesL (show ¬ (2 : Int) = 0 by decide) (Twin.yesR (by omega) (Twin.now ⟨rfl, fun h => absurd h (by decide)⟩))
      ·rw [if_neg g2]
       refine Twin.noR (by omega) ?_
       by_cases g3 : ckParts p l[i].2 [] = 0
       ·rw [g3]
        refine Twin.noL (fun h => h rfl) ?_
        have ok : LOk p l[i] := ⟨g1, by omega, ckParts_ok p _ _ g3⟩
        have fin : Twin (fun k => telemetry_CheckLayouts.c0 k p l l (l.length : Int) ((i : Int) + 1)) (fun k => perigeeref7_CheckLayouts.c0 k p l l (l.length : Int) ((i : Int) + 1)) (fun a b => a = b ∧ (a.1 = 0 → ∀ x ∈ l.drop i, LOk p x)) := by
         refine Twin.mono next fun a b ⟨h1, h2⟩ => ⟨h1, fun h x hx => ?_⟩
         rw [hd] at hx
         rcases List.mem_cons.1 hx with rfl | hx
         ·exact ok
         ·exact h2 h x hx
        have key : Twin (fun k => if 0 < (i : Int) then (if (0 : Int) ≤ IntKind.wrap .i64 ((i : Int) - 1) ∧ IntKind.wrap .i64 ((i : Int) - 1) < (l.length : Int) then (if lessS (l.getD (IntKind.wrap .i64 ((i : Int) - 1)).toNat (Ty.dflt YLayout)).1 l[i].1 = false then some (8, ()) else telemetry_CheckLayouts.c0 k p l l (l.length : Int) ((i : Int) + 1)) else none) else telemetry_CheckLayouts.c0 k p l l (l.length : Int) ((i : Int) + 1))
         (fun k => if 0 < (i : Int) then (if (0 : Int) ≤ IntKind.wrap .i64 ((i : Int) - 1) ∧ IntKind.wrap .i64 ((i : Int) - 1) < (l.length : Int) then (if lessS (l.getD (IntKind.wrap .i64 ((i : Int) - 1)).toNat (Ty.dflt YLayout)).1 l[i].1 = false then some (8, ()) else perigeeref7_CheckLayouts.c0 k p l l (l.length : Int) (IntKind.wrap .i64 ((i : Int) + 1))) else none) else perigeeref7_CheckLayouts.c0 k p l l (l.length : Int) (IntKind.wrap .i64 ((i : Int) + 1)))
         (fun a b => a = b ∧ (a.1 = 0 → ∀ x ∈ l.drop i, LOk p x)) := by
         rw [w64 (x := (i : Int) + 1) (by omega) (by omega), w64 (x := (i : Int) - 1) (by omega) (by omega)]
         refine Twin.ifL (fun h6 => Twin.yesR h6 (Twin.yesL (by omega) (Twin.yesR (by omega) ?_))) (fun h6 => Twin.noR h6 fin)
         exact Twin.ifL (fun h7 => Twin.yesR h7 (Twin.now ⟨rfl, fun h => absurd h (by decide)⟩)) (fun h7 => Twin.noR h7 fin)
        obtain ⟨a, b, k1, k2, k3⟩ := key
        exact ⟨a, b, k1, refParts_loop p hp hf l i l[i].1 l[i].2 (by omega) l l.length i l[i].2.length 0 (by omega) b (fun _ => k2) (fun h => absurd (by simpa using g3) h), k3⟩
       ·refine Twin.yesL g3 ⟨_, (ckParts p l[i].2 [], ()), Ev.now _, ?_, rfl, fun h => absurd h g3⟩
        exact refParts_loop p hp hf l i l[i].1 l[i].2 (by omega) l l.length i l[i].2.length 0 (by omega) _ (fun h => absurd (by simpa using h) g3) (fun _ => by simp)
   exact Twin.mono (loop l.length 0 (by omega)) fun a b ⟨h3, h4⟩ => ⟨h3, fun h => ⟨⟨hp, hf⟩, by omega, h4 h⟩⟩
  ·exact Twin.yesL hc (Twin.yesR hc (Twin.now ⟨rfl, fun h => absurd h hc⟩))
 obtain ⟨a, b, h1, h2, rfl, h3⟩ := this
 exact ⟨a.1, h1, h2, h3⟩
end Go.Proofs.Ytcefbdknoelacaa.Pure

-- YtcefbdknoelacaaQ5
set_option linter.unusedVariables false
set_option linter.unusedSimpArgs false
namespace Go.Proofs.Ytcefbdknoelacaa.Pure
open Go Go.Proofs.Ytcefbdknoelacaa.A

def prm (p : List DParameter) (s : List UInt8) : DParameter := (fnd (findP p s)).1
def ps (p : List DParameter) (x : DLayout) : List DParameter := x.2.map (prm p)
theorem prm_ok {p : List DParameter} {s : List UInt8} (h : ∃ y, findP p s = some y) : findP p s = some (prm p s) ∧ prm p s ∈ p ∧ (prm p s).1 = s := by
 obtain ⟨y, hy⟩ := h
 have e : prm p s = y := by unfold prm; rw [hy]; rfl
 rw [e]
 exact ⟨hy, findP_some hy⟩
structure AllOk (p : List DParameter) (l : List DLayout) : Prop where
 hp : p.length ≤ 500
 hf : Fits p 0
 hl : l.length ≤ 100
 ok : ∀ x ∈ l, LOk p x
theorem AllOk.bits {p : List DParameter} {l : List DLayout} (h : AllOk p l) {s : List UInt8} (hs : ∃ y, findP p s = some y) : 1 ≤ (prm p s).2.1 ∧ (prm p s).2.1 ≤ 24 := (mem_fit h.hf (prm_ok hs).2.1).1
theorem layoutsOk (p : List DParameter) (l : List DLayout) (h : okT (.sl YParameter) p) (h2 : okT (.sl YLayout) l) : ∃ c, Ev (fun k => telemetry_CheckLayouts.f k p l) (c, ()) ∧ Ev (fun k => perigeeref7_CheckLayouts.f k p l) (c, ()) ∧ (c = 0 → AllOk p l) := by
 obtain ⟨c, h1, h2, h3⟩ := layouts_ev p l h h2
 exact ⟨c, h1, h2, fun h => ⟨(h3 h).1.1, (h3 h).1.2, (h3 h).2.1, (h3 h).2.2⟩⟩
theorem fndL_ok (o : Option DLayout) : ((fndL o).2.1 = false) = (o = none) := by cases o <;> simp [fndL]
theorem partsOf_ev (p : List DParameter) (hp : p.length ≤ 4611686018427387904) (l : List DLayout) (hl : l.length ≤ 4611686018427387904) (hs : ∀ x ∈ l, x.2.length ≤ 1099511627776) (t : List UInt8) :
 Ev (fun k => perigeeref7_partsOf.f k p l t) (match findL l t with | some x => (ps p x, true, ()) | none => ([], false, ())) := by
 refine Ev.eq (fun k => by rw [perigeeref7_partsOf.f_eq]) ?_
 have := Ev.rng (σ := Unit) (Ty.dflt YLayout) l hl (g := fun k s i => perigeeref7_partsOf.c0 k p t l (l.length : Int) i) (fun k s i => perigeeref7_partsOf.c0_eq _ _ _ _ _ _)
  (fun _ _ => True) (fun r _ _ => (match findL r t with | some x => (ps p x, true, ()) | none => ([], false, ()))) (fun _ _ => Ev.now _) (fun i x xs s hi hx _ hget hw _ next => by
   simp only [Int.toNat_natCast, hget, hw, decide_eq_true_eq, Bool.not_eq_true', decide_eq_false_iff_not]
   refine Ev.split (fun h => ?_) (fun h => ?_)
   ·refine Ev.cast ?_ (next () trivial)
    unfold findL
    rw [List.find?_cons_of_neg (by simpa using h)]
   ·have e : findL (x :: xs) t = some x := by
     unfold findL
     rw [List.find?_cons_of_pos (by simpa using h)]
    rw [e]
    have k := Ev.rng (σ := List DParameter) [] x.2 (by have := hs x hx; omega) (g := fun k s i => perigeeref7_partsOf.c1 k p s x.2 (x.2.length : Int) i) (fun k s i => perigeeref7_partsOf.c1_eq _ _ _ _ _ _)
     (fun i s => s.length = i) (fun r _ s => (s ++ r.map (prm p), true, ())) (fun s _ => Ev.is (by simp)) (fun i y ys s hi _ _ hget hw hs' next => by
      have hx2 := hs x hx
      simp only [Int.toNat_natCast, hget, hw]
      refine Ev.bind (find_ev p hp y) (Ev.yes (by omega) (Ev.cast ?_ (next _ (by simp [hs']))))
      simp only [List.map_cons, List.append_assoc, List.cons_append, List.nil_append]
      rfl) 0 [] (by omega) rfl
    exact k) 0 () (by omega) trivial
 exact this
def POk (L : List DParameter) : Prop := L.length ≤ 200 ∧ ∀ y ∈ L, Fit y
theorem AllOk.ps {p : List DParameter} {l : List DLayout} (h : AllOk p l) {x : DLayout} (hx : x ∈ l) : POk (ps p x) := by
 have k := h.ok x hx
 refine ⟨by simp [Pure.ps]; exact k.2.1, fun y hy => ?_⟩
 obtain ⟨s, hs, rfl⟩ := List.mem_map.1 hy
 exact mem_fit h.hf (prm_ok (k.2.2 s hs)).2.1
def chk : List DParameter → List DReading → Int
 | [], [] => 0
 | y :: ys, v :: vs => if v.1 = y.1 then (if lo y ≤ v.2 ∧ v.2 ≤ hi y then chk ys vs else 1) else 3
 | _, _ => 3
def ROk : List DParameter → List DReading → Prop
 | [], [] => True
 | y :: ys, v :: vs => v.1 = y.1 ∧ (lo y ≤ v.2 ∧ v.2 ≤ hi y) ∧ ROk ys vs
 | _, _ => False
theorem ROk.len : ∀ {ys : List DParameter} {vs : List DReading}, ROk ys vs → vs.length = ys.length
 | [], [], _ => rfl
 | [], _ :: _, h => h.elim
 | _ :: _, [], h => h.elim
 | _ :: ys, _ :: vs, h => by simp [ROk.len h.2.2]
theorem ROk.drop : ∀ {ys : List DParameter} {vs : List DReading}, ROk ys vs → ∀ i, ROk (ys.drop i) (vs.drop i)
 | _, _, h, 0 => by simpa using h
 | [], [], _, i + 1 => by simp [ROk]
 | [], _ :: _, h, _ + 1 => h.elim
 | _ :: _, [], h, _ + 1 => h.elim
 | _ :: ys, _ :: vs, h, i + 1 => by simpa using ROk.drop h.2.2 i

end Go.Proofs.Ytcefbdknoelacaa.Pure

-- YtcefbdknoelacaaQ3
set_option linter.unusedVariables false
set_option linter.unusedSimpArgs false
namespace Go.Proofs.Ytcefbdknoelacaa.Pure
open Go Go.Proofs.Ytcefbdknoelacaa.A

theorem tmod_lt (a b : Int) (h : b ≠ 0) : (Int.tmod a b).natAbs < b.natAbs := by
 rw [Int.natAbs_tmod]
 exact Nat.mod_lt _ (by omega)
theorem tdiv_bd (a b : Int) : (Int.tdiv a b).natAbs ≤ a.natAbs := by
 rw [Int.natAbs_tdiv]
 exact Nat.div_le_self _ _
abbrev R (p : DParameter) (j : Nat) : Int := (p.2.2.2.1.getD j (Ty.dflt YShare)).1
abbrev V (p : DParameter) (j : Nat) : Int := (p.2.2.2.1.getD j (Ty.dflt YShare)).2
def den (p : DParameter) (j : Nat) : Int := R p (j + 1) - R p j
theorem V_bd {p : DParameter} (h : Fit p) (j : Nat) (hj : j < p.2.2.2.1.length) : -1000000000 ≤ V p j ∧ V p j ≤ 1000000000 := (h.2.1 j (by omega) hj).2.1
theorem R_up {p : DParameter} (h : Fit p) (j : Nat) (hj : j + 1 < p.2.2.2.1.length) : R p j < R p (j + 1) := by
 have h1 := (h.2.1 (j + 1) (by omega) hj).2.2 (by omega)
 rw [show (((j + 1 : Nat) : Int) - 1).toNat = j by omega] at h1
 exact h1

abbrev PV (P : List DShare) (j : Nat) : Int := (P.getD j (Ty.dflt YShare)).2
def Dir (P : List DShare) (s : Int) : Prop := (s = 1 ∨ s = -1) ∧ 2 ≤ P.length ∧ ∀ j : Nat, j + 1 < P.length → s * PV P j < s * PV P (j + 1)
theorem floor_tdiv (a b : Int) (hb : 0 < b) : (Int.tmod a b < 0 → Int.tdiv a b - 1 = a / b) ∧ (¬ Int.tmod a b < 0 → Int.tdiv a b = a / b) := by
 have h1 := Int.tmod_add_mul_tdiv a b
 have h2 : (Int.tmod a b).natAbs < b.natAbs := tmod_lt a b (by omega)
 constructor
 ·intro h
  have e : Int.tmod a b + b + b * (Int.tdiv a b - 1) = a := by rw [Int.mul_sub]; omega
  exact ((Int.ediv_emod_unique (r := Int.tmod a b + b) hb).2 ⟨e, by omega, by omega⟩).1.symm
 ·intro h
  exact ((Int.ediv_emod_unique hb).2 ⟨h1, by omega, by omega⟩).1.symm
theorem down_ev (k : Nat) (a b : Int) (hb : 0 < b) (ha : a.natAbs ≤ 9223372036854775800) : kit_Down.f k a b = some (a / b, ()) := by
 have h1 := floor_tdiv a b hb
 have h2 := tdiv_bd a b
 rw [kit_Down.f_eq, if_pos (by omega), if_pos (by omega), w64 (x := Int.tdiv a b) (by omega) (by omega), w64 (x := Int.tdiv a b - 1) (by omega) (by omega)]
 simp only [decide_eq_true_eq]
 by_cases h : Int.tmod a b < 0
 ·rw [if_pos h, h1.1 h]
 ·rw [if_neg h, h1.2 h]
theorem ediv_bd (a b : Int) (hb : 0 < b) : (a / b).natAbs ≤ a.natAbs := by
 have h1 := floor_tdiv a b hb
 have h2 := tdiv_bd a b
 have h4 := Int.tmod_add_mul_tdiv a b
 by_cases h : Int.tmod a b < 0
 ·have h3 := h1.1 h
  have h5 := Int.mul_ediv_add_emod a b
  have h6 := Int.emod_nonneg a (show b ≠ 0 by omega)
  have h7 : a < 0 := by
   rcases Int.lt_or_le a 0 with h | h8
   ·exact h
   ·have := Int.tmod_nonneg b h8
    omega
  have h8 : -1 * -a ≤ a / b := by
   have : a / 1 ≤ a / b ∨ True := .inr trivial
   have e : a ≤ b * (a / b) + (b - 1) := by have := Int.emod_lt_of_pos a hb; omega
   rcases Int.lt_or_le (a / b) a with h9 | h9
   ·have : b * (a / b) ≤ 1 * (a / b) := Int.mul_le_mul_of_nonpos_right (by omega) (by omega)
    have : b * (a / b) ≤ b * (a - 1) := Int.mul_le_mul_of_nonneg_left (by omega) (by omega)
    have : b * (a - 1) ≤ b * (-1) + b * a := by rw [← Int.mul_add]; exact Int.mul_le_mul_of_nonneg_left (by omega) (by omega)
    have : b * a ≤ 1 * a := Int.mul_le_mul_of_nonpos_right (by omega) (by omega)
    omega
   ·omega
  have h9 : a / b ≤ 0 := by
   have : a / b < 0 := Int.ediv_neg_of_neg_of_pos h7 hb
   omega
  omega
 ·rw [← h1.2 h]; omega
theorem up_ev (k : Nat) (a b : Int) (hb : 0 < b) (ha : a.natAbs ≤ 9223372036854775800) : kit_Up.f k a b = some (-((-a) / b), ()) := by
 rw [kit_Up.f_eq]
 have h := ediv_bd (-a) b hb
 rw [w64 (x := 0 - a) (by omega) (by omega), Int.zero_sub, down_ev k (-a) b hb (by omega)]
 simp only [Option.bind_some]
 rw [w64 (by omega) (by omega), Int.zero_sub]
def AA (p : DParameter) (s n d : Int) (m : Nat) : Int := s * (n - V p m * d)
def CC (p : DParameter) (s d : Int) (m : Nat) : Int := s * (V p (m + 1) - V p m) * d
theorem lo_hi (p : DParameter) (h : 1 ≤ p.2.1 ∧ p.2.1 ≤ 24) : lo p ≤ hi p ∧ hi p - lo p ≤ 16777215 := by
 have b1 := pow_bd (p.2.1 - 1).toNat (by omega)
 have b2 := pow_bd p.2.1.toNat (by omega)
 have e : 2 ^ p.2.1.toNat = 2 * 2 ^ (p.2.1 - 1).toNat := by
  rw [show p.2.1.toNat = (p.2.1 - 1).toNat + 1 by omega, Nat.pow_succ]; omega
 unfold lo hi
 split <;> omega
structure Ask (p : DParameter) (s n d : Int) : Prop where
 fit : Fit p
 dir : Dir p.2.2.2.1 s
 d0 : 1 ≤ d
 d1 : d ≤ 100
 n0 : -1000000000 * d ≤ n
 n1 : n ≤ 1000000000 * d
theorem Ask.vd {p : DParameter} {s n d : Int} (h : Ask p s n d) (m : Nat) (hm : m < p.2.2.2.1.length) : -100000000000 ≤ V p m * d ∧ V p m * d ≤ 100000000000 := by
 have v := V_bd h.fit m hm
 have := h.d0
 have := h.d1
 have a := mul_bd (x := V p m) (y := d) (A := 1000000000) (B := 100) (by omega) (by omega) (by omega) (by omega)
 omega
theorem sgn {s : Int} (h : s = 1 ∨ s = -1) (x : Int) : s * x = x ∨ s * x = -x := by
 rcases h with rfl | rfl <;> omega
theorem Ask.bd {p : DParameter} {s n d : Int} (h : Ask p s n d) (m : Nat) (hm : m + 1 < p.2.2.2.1.length) :
 (-200000000000 ≤ AA p s n d m ∧ AA p s n d m ≤ 200000000000) ∧ (0 < CC p s d m ∧ CC p s d m ≤ 200000000000) ∧ (0 < den p m ∧ den p m ≤ 16777215) ∧ (-3400000000000000000 ≤ AA p s n d m * den p m ∧ AA p s n d m * den p m ≤ 3400000000000000000) := by
 have v0 := V_bd h.fit m (by omega)
 have v1 := V_bd h.fit (m + 1) hm
 have w0 := h.vd m (by omega)
 have d0 := h.d0
 have d1 := h.d1
 have n0 := h.n0
 have n1 := h.n1
 have up := R_up h.fit m hm
 have r0 := (h.fit.2.1 m (by omega) (by omega)).1
 have r1 := (h.fit.2.1 (m + 1) (by omega) hm).1
 have lh := (lo_hi p h.fit.1).2
 have hA : -200000000000 ≤ AA p s n d m ∧ AA p s n d m ≤ 200000000000 := by
  unfold AA
  rcases sgn h.dir.1 (n - V p m * d) with e | e <;> omega
 have hD : 0 < den p m ∧ den p m ≤ 16777215 := by
  have e1 : R p m = (p.2.2.2.1.getD m (Ty.dflt YShare)).1 := rfl
  have e2 : R p (m + 1) = (p.2.2.2.1.getD (m + 1) (Ty.dflt YShare)).1 := rfl
  unfold den
  omega
 have hC : 0 < CC p s d m ∧ CC p s d m ≤ 200000000000 := by
  have inc := h.dir.2.2 m hm
  have e1 : PV p.2.2.2.1 m = V p m := rfl
  have e2 : PV p.2.2.2.1 (m + 1) = V p (m + 1) := rfl
  rw [e1, e2] at inc
  have pos : 0 < s * (V p (m + 1) - V p m) := by rw [Int.mul_sub]; omega
  have le : s * (V p (m + 1) - V p m) ≤ 2000000000 := by rcases sgn h.dir.1 (V p (m + 1) - V p m) with e | e <;> omega
  have a := mul_bd (x := s * (V p (m + 1) - V p m)) (y := d) (A := 2000000000) (B := 100) (by omega) (by omega) (by omega) (by omega)
  have b := Int.mul_pos pos (show 0 < d by omega)
  unfold CC
  omega
 have a := mul_bd (x := AA p s n d m) (y := den p m) (A := 200000000000) (B := 16777215) (by omega) (by omega) (by omega) (by omega)
 exact ⟨hA, hC, hD, by omega⟩
theorem Ask.cond {p : DParameter} {s n d : Int} (h : Ask p s n d) (m : Nat) (hm : m < p.2.2.2.1.length) : IntKind.wrap .i64 ((IntKind.wrap .i64 (s * ((p.2.2.2.1.getD m (Ty.dflt YShare)).2))) * d) = s * V p m * d ∧ IntKind.wrap .i64 (s * n) = s * n := by
 have v0 := V_bd h.fit m (by omega)
 have w0 := h.vd m (by omega)
 have n0 := h.n0
 have n1 := h.n1
 have d1 := h.d1
 have d0 := h.d0
 have a1 : IntKind.wrap .i64 (s * V p m) = s * V p m := by rcases sgn h.dir.1 (V p m) with e | e <;> exact w64 (by omega) (by omega)
 have a2 : IntKind.wrap .i64 (s * n) = s * n := by rcases sgn h.dir.1 n with e | e <;> exact w64 (by omega) (by omega)
 refine ⟨?_, a2⟩
 rw [a1, Int.mul_assoc]
 rcases sgn h.dir.1 (V p m * d) with e | e <;> exact w64 (by omega) (by omega)
end Go.Proofs.Ytcefbdknoelacaa.Pure

-- YtcefbdknoelacaaQ10
set_option linter.unusedVariables false
set_option linter.unusedSimpArgs false
namespace Go.Proofs.Ytcefbdknoelacaa.Pure
open Go Go.Proofs.Ytcefbdknoelacaa.A

def hit (r : DRegular) (t : Int) : Bool := decide (r.2.2 ≤ t ∧ (t - r.2.2) % r.2.1 = 0)
def at_ (s : List DRegular) (t : Int) : List DDue := (s.filter fun r => hit r t).map fun r => (t, r.1)
def upto (s : List DRegular) : Int → Nat → List DDue
 | _, 0 => []
 | t, n + 1 => at_ s t ++ upto s (t + 1) n
def RegOk (r : DRegular) : Prop := (1 ≤ r.2.1 ∧ r.2.1 ≤ 100000) ∧ 0 ≤ r.2.2 ∧ r.2.2 ≤ r.2.1 - 1
theorem upto_split (s : List DRegular) : ∀ (n m : Nat) (t : Int), upto s t (n + m) = upto s t n ++ upto s (t + n) m
 | 0, m, t => by simp [upto]
 | n + 1, m, t => by
  rw [show n + 1 + m = (n + m) + 1 by omega, upto, upto, upto_split s n m (t + 1), List.append_assoc]
  rw [show t + 1 + (n : Int) = t + ((n + 1 : Nat) : Int) by omega]
theorem upto_mem {s : List DRegular} : ∀ {n : Nat} {t : Int} {d : DDue}, d ∈ upto s t n → t ≤ d.1 ∧ d.1 < t + n
 | 0, _, _, h => by simp [upto] at h
 | n + 1, t, d, h => by
  rw [upto, List.mem_append] at h
  rcases h with h | h
  ·obtain ⟨r, _, rfl⟩ := List.mem_map.1 h
   simp; omega
  ·have := upto_mem h
   omega
theorem upto_none {s : List DRegular} : ∀ {n : Nat} {t : Int}, (∀ u, t ≤ u → u < t + n → at_ s u = []) → upto s t n = []
 | 0, _, _ => rfl
 | n + 1, t, h => by
  rw [upto, h t (by omega) (by omega), upto_none (fun u h1 h2 => h u (by omega) (by omega))]; rfl
theorem at_nil {s : List DRegular} {t : Int} (h : ∀ r ∈ s, hit r t = false) : at_ s t = [] := by
 unfold at_
 rw [List.filter_eq_nil_iff.2 (fun r hr => by simp [h r hr])]; rfl

def nx (r : DRegular) (t : Int) : Int := if t ≤ r.2.2 then r.2.2 else r.2.2 + -((-(t - r.2.2)) / r.2.1) * r.2.1
theorem ceil_ok {d e : Int} (he : 0 < e) (hd : 0 < d) : ∃ q, -((-d) / e) = q ∧ (d + e - 1) / e = q ∧ d ≤ q * e ∧ q * e < d + e ∧ 0 < q := by
 have h1 := Int.mul_ediv_add_emod (-d) e
 have h2 := Int.emod_nonneg (-d) (show e ≠ 0 by omega)
 have h3 := Int.emod_lt_of_pos (-d) he
 generalize hm : (-d) / e = m at h1
 generalize hr : (-d) % e = r at h1 h2 h3
 have e1 : (-m) * e = -(e * m) := by rw [Int.neg_mul, Int.mul_comm]
 refine ⟨-m, rfl, ?_, by omega, by omega, ?_⟩
 ·refine ((Int.ediv_emod_unique (a := d + e - 1) (b := e) (r := e - 1 - r) (q := -m) he).2 ⟨?_, by omega, by omega⟩).1
  have : e * -m = -(e * m) := by rw [Int.mul_neg]
  omega
 ·apply Classical.byContradiction
  intro hn
  have : -m * e ≤ 0 := Int.mul_nonpos_of_nonpos_of_nonneg (by omega) (by omega)
  omega
theorem nx_ok {r : DRegular} (h : RegOk r) (t : Int) : t ≤ nx r t ∧ hit r (nx r t) = true ∧ (∀ u, t ≤ u → u < nx r t → hit r u = false) ∧ nx r t ≤ (if t ≤ r.2.2 then 100000 else t + 100000) ∧ 0 ≤ nx r t := by
 obtain ⟨⟨h1, h2⟩, h3, h4⟩ := h
 unfold nx
 by_cases ht : t ≤ r.2.2
 ·rw [if_pos ht, if_pos ht]
  refine ⟨ht, decide_eq_true ⟨Int.le_refl _, by simp⟩, fun u hu hu2 => decide_eq_false (fun hh => by omega), by omega, h3⟩
 ·rw [if_neg ht, if_neg ht]
  obtain ⟨q, q1, q2, q3, q4, q5⟩ := ceil_ok (d := t - r.2.2) (e := r.2.1) (by omega) (by omega)
  rw [q1]
  refine ⟨by omega, decide_eq_true ⟨by omega, ?_⟩, fun u hu hu2 => decide_eq_false (fun hh => ?_), by omega, by omega⟩
  ·rw [show r.2.2 + q * r.2.1 - r.2.2 = q * r.2.1 by omega, Int.mul_emod_left]
  ·have g1 := Int.mul_ediv_add_emod (u - r.2.2) r.2.1
   rw [hh.2, Int.add_zero] at g1
   generalize (u - r.2.2) / r.2.1 = k at g1
   have : k < q := by
    apply Classical.byContradiction
    intro hn
    have : q * r.2.1 ≤ k * r.2.1 := Int.mul_le_mul_of_nonneg_right (by omega) (by omega)
    rw [Int.mul_comm k] at this
    omega
   have : k * r.2.1 ≤ (q - 1) * r.2.1 := Int.mul_le_mul_of_nonneg_right (by omega) (by omega)
   rw [Int.sub_mul, Int.one_mul, Int.mul_comm k] at this
   omega
theorem hit_iff {r : DRegular} (h : RegOk r) (t : Int) : hit r t = true ↔ nx r t = t := by
 obtain ⟨h1, h2, h3, _⟩ := nx_ok h t
 constructor
 ·intro hh
  rcases Int.lt_or_le t (nx r t) with h4 | h4
  ·rw [h3 t (Int.le_refl _) h4] at hh; cases hh
  ·omega
 ·intro hh; rw [hh] at h2; exact h2
theorem hit_next {r : DRegular} (h : RegOk r) {t : Int} (ht : hit r t = true) : hit r (t + r.2.1) = true ∧ ∀ u, t < u → u < t + r.2.1 → hit r u = false := by
 obtain ⟨⟨h1, h2⟩, h3, h4⟩ := h
 have ht := of_decide_eq_true ht
 refine ⟨decide_eq_true ⟨by omega, ?_⟩, fun u g1 g2 => decide_eq_false (fun hh => ?_)⟩
 ·rw [show t + r.2.1 - r.2.2 = (t - r.2.2) + r.2.1 by omega, Int.add_emod_right]; exact ht.2
 ·have e : (u - t) % r.2.1 = u - t := Int.emod_eq_of_lt (by omega) (by omega)
  have : (u - t) % r.2.1 = 0 := by
   rw [show u - t = (u - r.2.2) - (t - r.2.2) by omega, Int.sub_emod, hh.2, ht.2]; simp
  omega
theorem sendingT_ev (k : Nat) (r : DRegular) (h : RegOk r) (t : Int) (h0 : 0 ≤ t) (h1 : t ≤ 2000000000000) : telemetry_sending.f k r t = some (nx r t, ()) := by
 obtain ⟨n1, n2, n3, n4, n5⟩ := nx_ok h t
 obtain ⟨⟨a1, a2⟩, a3, a4⟩ := h
 rw [telemetry_sending.f_eq]
 unfold nx at n1 n4 n5 ⊢
 simp only [decide_eq_true_eq]
 by_cases ht : t ≤ r.2.2
 ·rw [if_pos ht, if_pos ht]
 ·rw [if_neg ht, if_neg ht]
  rw [if_neg ht] at n1 n4 n5
  rw [if_neg ht] at n4
  rw [w64 (x := t - r.2.2) (by omega) (by omega), up_ev k _ _ (by omega) (by omega)]
  simp only [Option.bind_some]
  rw [w64 (x := -(-(t - r.2.2) / r.2.1) * r.2.1) (by omega) (by omega), w64 (by omega) (by omega)]
theorem firstR_ev (k : Nat) (r : DRegular) (h : RegOk r) (t : Int) (h0 : 0 ≤ t) (h1 : t ≤ 2000000000000) : perigeeref7_firstFrom.f k r t = some (nx r t, ()) := by
 obtain ⟨n1, n2, n3, n4, n5⟩ := nx_ok h t
 obtain ⟨⟨a1, a2⟩, a3, a4⟩ := h
 rw [perigeeref7_firstFrom.f_eq]
 unfold nx at n1 n4 n5 ⊢
 simp only [decide_eq_true_eq]
 by_cases ht : t ≤ r.2.2
 ·rw [if_pos ht, if_pos ht]
 ·rw [if_neg ht, if_neg ht]
  rw [if_neg ht] at n1 n4 n5
  rw [if_neg ht] at n4
  obtain ⟨q, q1, q2, q3, q4, q5⟩ := ceil_ok (d := t - r.2.2) (e := r.2.1) (by omega) (by omega)
  rw [q1] at n1 n4 n5 ⊢
  have qb : q ≤ q * r.2.1 := by
   have : q * 1 ≤ q * r.2.1 := Int.mul_le_mul_of_nonneg_left (by omega) (by omega)
   omega
  rw [if_pos (by omega), w64 (x := t - r.2.2) (by omega) (by omega), w64 (x := t - r.2.2 + r.2.1) (by omega) (by omega), w64 (x := t - r.2.2 + r.2.1 - 1) (by omega) (by omega), Int.tdiv_eq_ediv_of_nonneg (by omega), q2, w64 (x := q) (by omega) (by omega), w64 (x := q * r.2.1) (by omega) (by omega), w64 (by omega) (by omega)]

def cnt (r : DRegular) (from_ to : Int) : Int := if nx r from_ < to then (to - 1 - nx r from_) / r.2.1 + 1 else 0
def cnts : List DRegular → Int → Int → Int
 | [], _, _ => 0
 | r :: s, a, b => cnt r a b + cnts s a b
theorem upto_from {s : List DRegular} {t u : Int} {n : Nat} (h1 : t ≤ u) (h2 : u ≤ t + n) (h : ∀ v, t ≤ v → v < u → at_ s v = []) : upto s t n = upto s u (t + n - u).toNat := by
 have := upto_split s (u - t).toNat (t + n - u).toNat t
 rw [show (u - t).toNat + (t + n - u).toNat = n by omega, upto_none (n := (u - t).toNat) (fun v g1 g2 => h v g1 (by omega))] at this
 rw [this, show t + ((u - t).toNat : Int) = u by omega]; rfl
theorem at_pos {r : DRegular} {s : List DRegular} {t : Int} (h : hit r t = true) : at_ (r :: s) t = (t, r.1) :: at_ s t := by
 unfold at_; rw [List.filter_cons_of_pos (p := fun r => hit r t) h]; rfl
theorem at_neg {r : DRegular} {s : List DRegular} {t : Int} (h : ¬ hit r t = true) : at_ (r :: s) t = at_ s t := by
 unfold at_; rw [List.filter_cons_of_neg (p := fun r => hit r t) h]
theorem at_one (r : DRegular) (t : Int) : at_ [r] t = if hit r t = true then [(t, r.1)] else [] := by
 unfold at_
 cases h : hit r t <;> simp [h]
theorem one_step {r : DRegular} (h : RegOk r) {t to : Int} (ht : hit r t = true) (hlt : t < to) : upto [r] t (to - t).toNat = (t, r.1) :: upto [r] (t + r.2.1) (to - (t + r.2.1)).toNat := by
 obtain ⟨g1, g2⟩ := hit_next h ht
 obtain ⟨n, hn⟩ : ∃ n, (to - t).toNat = n + 1 := ⟨(to - t).toNat - 1, by omega⟩
 rw [hn, upto, at_one, if_pos ht]
 have a1 := h.1.1
 rcases Int.lt_or_le (t + r.2.1) to with h1 | h1
 ·rw [upto_from (u := t + r.2.1) (t := t + 1) (n := n) (by omega) (by omega) (fun v q1 q2 => by rw [at_one, g2 v (by omega) q2]; rfl)]
  rw [show (t + 1 + (n : Int) - (t + r.2.1)).toNat = (to - (t + r.2.1)).toNat by omega]; rfl
 ·rw [upto_none (n := n) (fun v q1 q2 => by rw [at_one, g2 v (by omega) (by omega)]; rfl), show (to - (t + r.2.1)).toNat = 0 by omega]; rfl
theorem one_first {r : DRegular} (h : RegOk r) (t to : Int) : upto [r] t (to - t).toNat = upto [r] (nx r t) (to - nx r t).toNat := by
 obtain ⟨n1, n2, n3, n4, n5⟩ := nx_ok h t
 rcases Int.lt_or_le (nx r t) to with h1 | h1
 ·rw [upto_from (u := nx r t) (t := t) (n := (to - t).toNat) n1 (by omega) (fun v q1 q2 => by rw [at_one, n3 v q1 q2]; rfl)]
  congr 1
  omega
 ·rw [show (to - nx r t).toNat = 0 by omega, upto_none (fun v q1 q2 => by rw [at_one, n3 v q1 (by omega)]; rfl)]; rfl
theorem one_len {r : DRegular} (h : RegOk r) : ∀ (d : Nat) (t to : Int), hit r t = true → (to - t).toNat = d → ((upto [r] t (to - t).toNat).length : Int) = if t < to then (to - 1 - t) / r.2.1 + 1 else 0 := by
 intro d
 induction d using Nat.strongRecOn with
 | _ d ih =>
  intro t to ht hd
  have a1 := h.1.1
  by_cases hlt : t < to
  ·rw [one_step h ht hlt, if_pos hlt, List.length_cons]
   have := ih (to - (t + r.2.1)).toNat (by omega) (t + r.2.1) to (hit_next h ht).1 rfl
   rw [Int.natCast_add, this]
   by_cases h2 : t + r.2.1 < to
   ·rw [if_pos h2]
    have e : (to - 1 - t) / r.2.1 = (to - 1 - (t + r.2.1)) / r.2.1 + 1 := by
     rw [show to - 1 - t = (to - 1 - (t + r.2.1)) + 1 * r.2.1 by omega, Int.add_mul_ediv_right _ _ (by omega)]
    rw [e]; rfl
   ·rw [if_neg h2, Int.ediv_eq_zero_of_lt (by omega) (by omega)]; rfl
  ·rw [if_neg hlt, show (to - t).toNat = 0 by omega]; rfl
theorem cnt_len {r : DRegular} (h : RegOk r) (t to : Int) : ((upto [r] t (to - t).toNat).length : Int) = cnt r t to := by
 rw [one_first h, one_len h _ _ _ (nx_ok h t).2.1 rfl]; rfl
theorem at_len (s : List DRegular) (r : DRegular) (t : Int) : (at_ (r :: s) t).length = (at_ [r] t).length + (at_ s t).length := by
 unfold at_
 cases h : hit r t <;> simp [h]; omega
theorem upto_len (s : List DRegular) (r : DRegular) : ∀ (n : Nat) (t : Int), (upto (r :: s) t n).length = (upto [r] t n).length + (upto s t n).length
 | 0, _ => rfl
 | n + 1, t => by simp only [upto, List.length_append, at_len s r, upto_len s r n]; omega
theorem cnts_len : ∀ (s : List DRegular), (∀ r ∈ s, RegOk r) → ∀ (t to : Int), ((upto s t (to - t).toNat).length : Int) = cnts s t to
 | [], _, t, to => by
  rw [upto_none (fun u _ _ => rfl)]; rfl
 | r :: s, h, t, to => by
  rw [upto_len, Int.natCast_add, cnt_len (h r (by simp)), cnts_len s (fun z hz => h z (by simp [hz]))]; rfl
theorem cnt_bd {r : DRegular} (h : RegOk r) {t to : Int} (h0 : 0 ≤ t) (h1 : to ≤ 1000000000000) : 0 ≤ cnt r t to ∧ cnt r t to ≤ 1000000000001 := by
 obtain ⟨n1, n2, n3, n4, n5⟩ := nx_ok h t
 have := h.1.1
 unfold cnt
 split
 ·have a := Int.ediv_nonneg (show 0 ≤ to - 1 - nx r t by omega) (show 0 ≤ r.2.1 by omega)
  have b := Int.ediv_le_self r.2.1 (show 0 ≤ to - 1 - nx r t by omega)
  omega
 ·omega
theorem cnts_bd : ∀ {s : List DRegular}, (∀ r ∈ s, RegOk r) → ∀ {t to : Int}, 0 ≤ t → to ≤ 1000000000000 → 0 ≤ cnts s t to ∧ cnts s t to ≤ 1000000000001 * s.length
 | [], _, _, _, _, _ => by simp [cnts]
 | r :: s, h, t, to, h0, h1 => by
  have a := cnt_bd (h r (by simp)) h0 h1
  have b := cnts_bd (s := s) (fun z hz => h z (by simp [hz])) h0 h1
  simp only [cnts, List.length_cons]
  omega

theorem contains_reg (l : List DRegular) (hl : l.length ≤ 4611686018427387904) (v : DRegular) : Ev (fun k => slices_Contains_apiRegular.f k l v) (decide (v ∈ l), ()) := by
 obtain ⟨n, h1, h2⟩ := idx_loop (Ty.dflt YRegular) v (e := fun x => eqV YRegular v x) (fun x => eqV_iff (τ := YRegular) rfl) l hl (g := fun k i => slices_Index_apiRegular.c0 k l v.1 v.2.1 v.2.2 (l.length : Int) i) (fun k i => slices_Index_apiRegular.c0_eq _ _ _ _ _ _ _)
 refine Ev.eq (fun k => by rw [slices_Contains_apiRegular.f_eq]) (Ev.bind (Ev.eq (fun k => by rw [slices_Index_apiRegular.f_eq]) h1) (Ev.is ?_))
 simp only [h2]
structure PlanOk (p : List DParameter) (l : List DLayout) (s : List DRegular) : Prop where
 all : AllOk p l
 len : s.length ≤ 50
 reg : ∀ r ∈ s, RegOk r
 lay : ∀ r ∈ s, ∃ x, findL l r.1 = some x
theorem plans_ev (p : List DParameter) (l : List DLayout) (s : List DRegular) (h0 : okT (.sl YParameter) p) (h1 : okT (.sl YLayout) l) (hs : s.length ≤ 4611686018427387904) :
 ∃ c, Ev (fun k => telemetry_CheckPlan.f k p l s) (c, ()) ∧ Ev (fun k => perigeeref7_CheckPlan.f k p l s) (c, ()) ∧ (c = 0 → PlanOk p l s) := by
 obtain ⟨c, c1, c2, ok⟩ := layoutsOk p l h0 h1
 have : Twin (fun k => telemetry_CheckPlan.f k p l s) (fun k => perigeeref7_CheckPlan.f k p l s) (fun a b => a = b ∧ (a.1 = 0 → PlanOk p l s)) := by
  simp only [telemetry_CheckPlan.f_eq, perigeeref7_CheckPlan.f_eq, decide_eq_true_eq, Bool.not_eq_true', decide_eq_false_iff_not]
  refine Twin.bindL c1 (Twin.bindR c2 ?_)
  by_cases hc : c = 0
  ·subst hc
   have a := ok rfl
   have hp := a.hp
   have hl := a.hl
   refine Twin.noL (fun h => h rfl) (Twin.noR (fun h => h rfl) ?_)
   refine Twin.ifL (fun h1 => Twin.yesR h1 (Twin.now ⟨rfl, fun h => absurd h (by decide)⟩)) (fun h1 => Twin.noR h1 ?_)
   have loop : ∀ (d i : Nat), i + d = s.length → Twin (fun k => telemetry_CheckPlan.c0 k l s s (s.length : Int) i) (fun k => perigeeref7_CheckPlan.c0 k p l s s (s.length : Int) i) (fun a b => a = b ∧ (a.1 = 0 → ∀ r ∈ s.drop i, RegOk r ∧ ∃ x, findL l r.1 = some x)) := by
    intro d
    induction d with
    | zero =>
     intro i hi
     refine Twin.stepL (fun k => by rw [telemetry_CheckPlan.c0_eq]) (Twin.stepR (fun k => by rw [perigeeref7_CheckPlan.c0_eq]) ?_)
     simp only [decide_eq_true_eq]
     refine Twin.noL (by omega) (Twin.noR (by omega) (Twin.now ⟨rfl, fun _ x hx => ?_⟩))
     rw [List.drop_of_length_le (by omega)] at hx
     simp at hx
    | succ d ih =>
     intro i hi
     have next := ih (i + 1) (by omega)
     have hd := List.drop_eq_getElem_cons (show i < s.length by omega)
     refine Twin.stepL (fun k => by rw [telemetry_CheckPlan.c0_eq]) (Twin.stepR (fun k => by rw [perigeeref7_CheckPlan.c0_eq]) ?_)
     rw [w64 (x := (i : Int) + 1) (by omega) (by omega)]
     simp only [decide_eq_true_eq, Bool.not_eq_true', decide_eq_false_iff_not, Int.toNat_natCast, getD_nat (Ty.dflt YRegular) s i (by omega), List.drop_zero]
     refine Twin.yesL (by omega) (Twin.yesR (by omega) (Twin.yesL (by omega) (Twin.yesR (by omega) ?_)))
     refine Twin.bindL (layout_ev l (by omega) s[i].1) (Twin.bindR (partsOf_ev p (by omega) l (by omega) (fun x hx => by have := (a.ok x hx).2.1; omega) s[i].1) ?_)
     simp only [fndL_ok]
     cases hf : findL l s[i].1 with
     | none => exact Twin.yesL rfl (Twin.yesR rfl (Twin.now ⟨rfl, fun h => absurd h (by decide)⟩))
     | some x =>
      refine Twin.noL (by simp) (Twin.noR (by simp) ?_)
      simp only [in_ev, within_ev, Option.bind_some, decide_eq_false_iff_not]
      refine Twin.ifL (fun h1 => Twin.yesR h1 (Twin.now ⟨rfl, fun h => absurd h (by decide)⟩)) (fun h1 => Twin.noR h1 ?_)
      rw [w64 (x := s[i].2.1 - 1) (by omega) (by omega)]
      refine Twin.ifL (fun h2 => Twin.yesR h2 (Twin.now ⟨rfl, fun h => absurd h (by decide)⟩)) (fun h2 => Twin.noR h2 ?_)
      refine Twin.yesL (by omega) (Twin.yesR (by omega) (Twin.bindL (contains_reg _ (by simp; omega) _) (Twin.bindR (contains_reg _ (by simp; omega) _) ?_)))
      refine Twin.ifL (fun h3 => Twin.yesR h3 (Twin.now ⟨rfl, fun h => absurd h (by decide)⟩)) (fun h3 => Twin.noR h3 ?_)
      refine Twin.mono next fun a b ⟨g1, g2⟩ => ⟨g1, fun h r hr => ?_⟩
      rw [hd] at hr
      rcases List.mem_cons.1 hr with rfl | hr
      ·exact ⟨⟨by omega, by omega⟩, x, hf⟩
      ·exact g2 h r hr
   exact Twin.mono (loop s.length 0 (by omega)) fun a' b' ⟨g1, g2⟩ => ⟨g1, fun h => ⟨a, by omega, fun r hr => (g2 h r hr).1, fun r hr => (g2 h r hr).2⟩⟩
  ·exact Twin.yesL hc (Twin.yesR hc (Twin.now ⟨rfl, fun h => absurd h hc⟩))
 obtain ⟨a, b, h1, h2, rfl, h3⟩ := this
 exact ⟨a.1, h1, h2, h3⟩

def mrg : List DDue → List DDue → List DDue
 | [], b => b
 | x :: a, [] => x :: a
 | x :: a, y :: b => if x.1 ≤ y.1 then x :: mrg a (y :: b) else y :: mrg (x :: a) b
 termination_by a b => a.length + b.length
theorem mrg_nil : ∀ a, mrg a [] = a
 | [] => by rw [mrg]
 | x :: a => by rw [mrg]
theorem inTurn_ev : ∀ (n : Nat) (a b out : List DDue), a.length + b.length = n → out.length + n ≤ 1000000 → Ev (fun k => perigeeref7_inTurn.c0 k a b out) (out ++ mrg a b, ()) := by
 intro n
 induction n with
 | zero =>
  intro a b out hn ho
  obtain rfl : a = [] := List.eq_nil_of_length_eq_zero (by omega)
  obtain rfl : b = [] := List.eq_nil_of_length_eq_zero (by omega)
  refine Ev.step (fun k => by rw [perigeeref7_inTurn.c0_eq]) (Ev.no (by simp) (Ev.no (by simp) (Ev.is ?_)))
  rw [mrg]; simp
 | succ n ih =>
  intro a b out hn ho
  have into : ∀ r, Ev (fun k => perigeeref7_inTurn.c1 k a b out) r → Ev (fun k => perigeeref7_inTurn.c0 k a b out) r := by
   intro r hr
   refine Ev.step (fun k => by rw [perigeeref7_inTurn.c0_eq]) ?_
   simp only [decide_eq_true_eq]
   exact Ev.split (fun _ => hr) (fun h => Ev.yes (by omega) hr)
  refine into _ (Ev.step (fun k => by rw [perigeeref7_inTurn.c1_eq]) ?_)
  simp only [decide_eq_true_eq]
  cases a with
  | nil =>
   cases b with
   | nil => simp at hn
   | cons y b =>
    have next := ih [] b (out ++ [y]) (by simp at hn ⊢; omega) (by simp; omega)
    simp only [List.length_cons, List.length_nil] at hn ⊢
    refine Ev.no (by omega) (Ev.no (by omega) (Ev.yes (by omega) (Ev.yes (by omega) (Ev.yes (by omega) ?_))))
    rw [List.append_assoc] at next
    have e : ((y :: b).take (b.length + 1)).drop 1 = b := by simp
    rw [e, show (y :: b).getD 0 (Ty.dflt YDue) = y from rfl]
    rw [mrg] at next
    rw [mrg]
    exact next
  | cons x a =>
   cases b with
   | nil =>
    have next := ih a [] (out ++ [x]) (by simp at hn ⊢; omega) (by simp; omega)
    simp only [List.length_cons, List.length_nil] at hn ⊢
    refine Ev.yes rfl (Ev.yes (by omega) (Ev.yes (by omega) (Ev.yes (by omega) ?_)))
    rw [List.append_assoc, mrg_nil] at next
    have e : ((x :: a).take (a.length + 1)).drop 1 = a := by simp
    rw [e, show (x :: a).getD 0 (Ty.dflt YDue) = x from rfl, mrg]
    exact next
   | cons y b =>
    simp only [List.length_cons] at hn ⊢
    refine Ev.no (by omega) (Ev.yes (by omega) (Ev.yes (by omega) (Ev.yes (by omega) ?_)))
    rw [show (x :: a).getD 0 (Ty.dflt YDue) = x from rfl, show (y :: b).getD 0 (Ty.dflt YDue) = y from rfl, mrg]
    have e1 : ((x :: a).take (a.length + 1)).drop 1 = a := by simp
    have e2 : ((y :: b).take (b.length + 1)).drop 1 = b := by simp
    refine Ev.split (fun h => ?_) (fun h => ?_)
    ·have next := ih a (y :: b) (out ++ [x]) (by simp; omega) (by simp; omega)
     rw [List.append_assoc] at next
     rw [if_pos h, e1]
     exact Ev.yes (by omega) (Ev.yes (by omega) (Ev.yes (by omega) next))
    ·have next := ih (x :: a) b (out ++ [y]) (by simp; omega) (by simp; omega)
     rw [List.append_assoc] at next
     rw [if_neg h, e2]
     exact Ev.yes (by omega) (Ev.yes (by omega) (Ev.yes (by omega) next))
theorem mrg_at : ∀ (a b a' b' : List DDue) (t : Int), (∀ d ∈ a, d.1 = t) → (∀ d ∈ b, d.1 = t) → (∀ d ∈ a', t < d.1) → (∀ d ∈ b', t < d.1) → mrg (a ++ a') (b ++ b') = a ++ b ++ mrg a' b'
 | [], [], a', b', _, _, _, _, _ => rfl
 | x :: a, [], a', b', t, h1, h2, h3, h4 => by
  have ih := mrg_at a [] a' b' t (fun d hd => h1 d (by simp [hd])) h2 h3 h4
  have hx := h1 x (by simp)
  cases b' with
  | nil => simp [mrg_nil]
  | cons y b' =>
   have := h4 y (by simp)
   simp only [List.nil_append, List.append_nil, List.cons_append] at ih ⊢
   rw [mrg, if_pos (by omega), ih]
 | [], y :: b, a', b', t, h1, h2, h3, h4 => by
  have ih := mrg_at [] b a' b' t h1 (fun d hd => h2 d (by simp [hd])) h3 h4
  have hy := h2 y (by simp)
  cases a' with
  | nil => simp only [List.nil_append, List.cons_append] at ih ⊢; rw [mrg, mrg]
  | cons x a' =>
   have := h3 x (by simp)
   simp only [List.nil_append, List.cons_append] at ih ⊢
   rw [mrg, if_neg (by omega), ih]
 | x :: a, y :: b, a', b', t, h1, h2, h3, h4 => by
  have ih := mrg_at a (y :: b) a' b' t (fun d hd => h1 d (by simp [hd])) h2 h3 h4
  have hx := h1 x (by simp)
  have hy := h2 y (by simp)
  simp only [List.cons_append] at ih ⊢
  rw [mrg, if_pos (by omega), ih]
 termination_by a b => a.length + b.length
theorem at_snoc (s : List DRegular) (r : DRegular) (t : Int) : at_ (s ++ [r]) t = at_ s t ++ at_ [r] t := by
 unfold at_; rw [List.filter_append, List.map_append]
theorem at_time {s : List DRegular} {t : Int} : ∀ d ∈ at_ s t, d.1 = t := by
 intro d hd
 obtain ⟨r, _, rfl⟩ := List.mem_map.1 hd
 rfl
theorem mrg_upto (s : List DRegular) (r : DRegular) : ∀ (n : Nat) (t : Int), mrg (upto s t n) (upto [r] t n) = upto (s ++ [r]) t n
 | 0, _ => by simp [upto, mrg]
 | n + 1, t => by
  rw [upto, upto, upto, mrg_at _ _ _ _ t at_time at_time (fun d hd => by have := upto_mem hd; omega) (fun d hd => by have := upto_mem hd; omega), mrg_upto s r n, at_snoc]
def sentR (s : List DRegular) (a b : Int) : List DDue × Int × Unit := if 20000 < cnts s a b then ([], 2, ()) else (upto s a (b - a).toNat, 0, ())
theorem cnts_append : ∀ (s r : List DRegular) (a b : Int), cnts (s ++ r) a b = cnts s a b + cnts r a b
 | [], _, _, _ => by simp [cnts]
 | x :: s, r, a, b => by simp only [List.cons_append, cnts, cnts_append s r]; omega
theorem sentT_loop (s : List DRegular) (hs : s.length ≤ 50) (hr : ∀ r ∈ s, RegOk r) (a b : Int) (ha : 0 ≤ a) (hb : b ≤ 1000000000000) (ha2 : a ≤ 1000000000000) (hc : cnts s a b ≤ 20000) :
 ∀ (d : Nat) (t : Int) (out : List DDue), a ≤ t → t ≤ 1000000000000 → (b - t).toNat = d → out ++ upto s t (b - t).toNat = upto s a (b - a).toNat → Ev (fun k => telemetry_Sent.c2 k s b out t) (upto s a (b - a).toNat, 0, ()) := by
 have tot := cnts_len s hr a b
 intro d
 induction d using Nat.strongRecOn with
 | _ d ih =>
  intro t out hat ht2 hd hout
  have olen : out.length ≤ 20000 := by
   have := congrArg List.length hout
   rw [List.length_append] at this
   omega
  refine Ev.step (fun k => by rw [telemetry_Sent.c2_eq]) ?_
  -- the next moment
  have mins : ∀ (m i : Nat) (z : Int), i + m = s.length → z ≤ b → (∀ r ∈ s.take i, z ≤ nx r t) → (z = b ∨ t ≤ z) → ∃ z', z' ≤ b ∧ (z' = b ∨ t ≤ z') ∧ (∀ r ∈ s, z' ≤ nx r t) ∧ ∀ R, Ev (fun k => if b ≤ z' then some (out, 0, ()) else telemetry_Sent.c4 k s b out z' s (s.length : Int) 0) R → Ev (fun k => telemetry_Sent.c3 k s b out t z s (s.length : Int) i) R := by
   intro m
   induction m with
   | zero =>
    intro i z hi hz h1 h3
    refine ⟨z, hz, h3, ?_, fun R hR => ?_⟩
    ·rw [List.take_of_length_le (by omega)] at h1; exact h1
    ·refine Ev.step (fun k => by rw [telemetry_Sent.c3_eq]) ?_
     simp only [decide_eq_true_eq]
     exact Ev.no (by omega) hR
   | succ m ihm =>
    intro i z hi hz h1 h3
    have hi2 : i < s.length := by omega
    have ro := hr _ (List.getElem_mem hi2)
    obtain ⟨n1, n2, n3, n4, n5⟩ := nx_ok ro t
    have mn : mnI z (nx s[i] t) ≤ z ∧ mnI z (nx s[i] t) ≤ nx s[i] t ∧ (mnI z (nx s[i] t) = z ∨ mnI z (nx s[i] t) = nx s[i] t) := by unfold mnI; split <;> omega
    obtain ⟨z', q1, q2, q3, q4⟩ := ihm (i + 1) (mnI z (nx s[i] t)) (by omega) (by omega) (fun r hr' => by
     rw [List.take_add_one, List.getElem?_eq_getElem hi2] at hr'
     rcases List.mem_append.1 hr' with hr' | hr'
     ·have := h1 r hr'; omega
     ·simp at hr'; subst hr'; exact mn.2.1) (by omega)
    refine ⟨z', q1, q2, q3, fun R hR => ?_⟩
    refine Ev.step (fun k => by rw [telemetry_Sent.c3_eq]) ?_
    rw [w64 (x := (i : Int) + 1) (by omega) (by omega)]
    simp only [decide_eq_true_eq, Int.toNat_natCast, getD_nat (Ty.dflt YRegular) s i hi2, sendingT_ev _ _ ro t (by omega) (by omega), Option.bind_some]
    exact Ev.yes (by omega) (Ev.yes (by omega) (q4 R hR))
  obtain ⟨z, z1, z2, z3, z4⟩ := mins s.length 0 b (by omega) (Int.le_refl _) (by simp) (.inl rfl)
  have gap : ∀ v, t ≤ v → v < z → at_ s v = [] := fun v g1 g2 => at_nil fun r hr' => (nx_ok (hr r hr') t).2.2.1 v g1 (by have := z3 r hr'; omega)
  refine z4 _ ?_
  rcases Int.lt_or_le z b with hzb | hzb
  ·have htz : t ≤ z := by omega
   have e1 : upto s t (b - t).toNat = upto s z (b - z).toNat := by
    rw [upto_from (u := z) htz (by omega) gap]
    congr 1
    omega
   obtain ⟨n, hn⟩ : ∃ n, (b - z).toNat = n + 1 := ⟨(b - z).toNat - 1, by omega⟩
   have e2 : upto s z (b - z).toNat = at_ s z ++ upto s (z + 1) (b - (z + 1)).toNat := by
    rw [hn, upto, show (b - (z + 1)).toNat = n by omega]
   refine Ev.no (by omega) ?_
   -- those at this moment
   have adds : ∀ (m i : Nat) (o : List DDue), i + m = s.length → o ++ at_ (s.drop i) z = out ++ at_ s z → Ev (fun k => telemetry_Sent.c4 k s b o z s (s.length : Int) i) (upto s a (b - a).toNat, 0, ()) := by
    intro m
    induction m with
    | zero =>
     intro i o hi ho
     rw [List.drop_of_length_le (by omega)] at ho
     refine Ev.step (fun k => by rw [telemetry_Sent.c4_eq]) ?_
     rw [w64 (x := z + 1) (by omega) (by omega)]
     simp only [decide_eq_true_eq]
     refine Ev.no (by omega) (ih (b - (z + 1)).toNat (by omega) (z + 1) o (by omega) (by omega) rfl ?_)
     rw [← hout, e1, e2, ← List.append_assoc, ← ho]
     simp [at_]
    | succ m ihm =>
     intro i o hi ho
     have hi2 : i < s.length := by omega
     have ro := hr _ (List.getElem_mem hi2)
     have hd2 := List.drop_eq_getElem_cons hi2
     have ol : o.length + 1 ≤ 1099511627776 := by
      have l1 := congrArg List.length ho
      have l2 := congrArg List.length hout
      rw [List.length_append, List.length_append] at l1
      rw [e1, e2, List.length_append, List.length_append] at l2
      omega
     refine Ev.step (fun k => by rw [telemetry_Sent.c4_eq]) ?_
     rw [w64 (x := (i : Int) + 1) (by omega) (by omega)]
     simp only [decide_eq_true_eq, Int.toNat_natCast, getD_nat (Ty.dflt YRegular) s i hi2, sendingT_ev _ _ ro z (by omega) (by omega), Option.bind_some]
     refine Ev.yes (by omega) (Ev.yes (by omega) (Ev.split (fun h => ?_) (fun h => ?_)))
     ·refine Ev.yes ol (ihm (i + 1) _ (by omega) ?_)
      rw [← ho, hd2, List.append_assoc, at_pos ((hit_iff ro z).2 h)]; rfl
     ·refine ihm (i + 1) _ (by omega) ?_
      rw [← ho, hd2, at_neg (fun hh => h ((hit_iff ro z).1 hh))]
   exact adds s.length 0 out (by omega) (by simp)
  ·refine Ev.yes hzb (Ev.is ?_)
   have : z = b := by omega
   rw [← hout, upto_none (s := s) (t := t) (fun u g1 g2 => gap u g1 (by omega))]
   simp
theorem sentT_ev (s : List DRegular) (hs : s.length ≤ 50) (hr : ∀ r ∈ s, RegOk r) (a b : Int) (ha : 0 ≤ a) (hb : b ≤ 1000000000000) (ha2 : a ≤ 1000000000000) (hb0 : 0 ≤ b) : Ev (fun k => telemetry_Sent.c0 k s a b) (sentR s a b) := by
 refine Ev.step (fun k => by rw [telemetry_Sent.c0_eq]) ?_
 have h := Ev.rng (σ := Int) (Ty.dflt YRegular) s (by omega) (g := fun k c i => telemetry_Sent.c1 k s a b c s (s.length : Int) i) (fun k c i => telemetry_Sent.c1_eq _ _ _ _ _ _ _ _)
  (fun i c => 0 ≤ c ∧ c ≤ 20000 ∧ c + cnts (s.drop i) a b = cnts s a b) (fun r i c => sentR s a b) (fun c hc => by
   obtain ⟨c0, c1, c2⟩ := hc
   rw [List.drop_length, cnts] at c2
   unfold sentR
   rw [if_neg (by omega)]
   exact sentT_loop s hs hr a b ha hb ha2 (by omega) _ a [] (Int.le_refl _) ha2 rfl rfl) (fun i x xs c hi hx hd hget hw hc next => by
   obtain ⟨c0, c1, c2⟩ := hc
   have ro := hr x hx
   obtain ⟨n1, n2, n3, n4, n5⟩ := nx_ok ro a
   have a1 := ro.1.1
   have bd := cnt_bd ro ha hb
   have hd2 : s.drop (i + 1) = xs := by rw [← List.drop_drop, hd]; rfl
   have bd2 := cnts_bd (s := xs) (fun r hr' => hr r (by rw [← hd2] at hr'; exact List.mem_of_mem_drop hr')) ha hb
   rw [hd, cnts] at c2
   simp only [Int.toNat_natCast, hget, hw, decide_eq_true_eq, sendingT_ev _ _ ro a ha (by omega), Option.bind_some]
   refine Ev.split (fun h => ?_) (fun h => ?_)
   ·have e : IntKind.wrap .i64 (c + IntKind.wrap .i64 (IntKind.wrap .i64 (Int.tdiv (IntKind.wrap .i64 (IntKind.wrap .i64 (b - 1) - nx x a)) x.2.1) + 1)) = c + cnt x a b := by
     unfold cnt at bd ⊢
     rw [if_pos h] at bd ⊢
     rw [w64 (x := b - 1) (by omega) (by omega), w64 (x := b - 1 - nx x a) (by omega) (by omega), Int.tdiv_eq_ediv_of_nonneg (by omega), w64 (x := (b - 1 - nx x a) / x.2.1) (by omega) (by omega), w64 (x := (b - 1 - nx x a) / x.2.1 + 1) (by omega) (by omega), w64 (by omega) (by omega)]
    rw [e]
    refine Ev.yes (by omega) (Ev.split (fun h2 => ?_) (fun h2 => next _ ⟨by omega, by omega, by rw [hd2]; omega⟩))
    unfold sentR
    rw [if_pos (by omega)]
    exact Ev.now _
   ·have e : cnt x a b = 0 := by unfold cnt; rw [if_neg h]
    refine Ev.no (by omega) (next _ ⟨by omega, by omega, by rw [hd2]; omega⟩)) 0 0 (by omega) ⟨by omega, by omega, by simp⟩
 exact h
theorem sentR_ev (s : List DRegular) (hs : s.length ≤ 50) (hr : ∀ r ∈ s, RegOk r) (a b : Int) (ha : 0 ≤ a) (hb : b ≤ 1000000000000) (ha2 : a ≤ 1000000000000) (hb0 : 0 ≤ b) : Ev (fun k => perigeeref7_Sent.c0 k s a b) (sentR s a b) := by
 refine Ev.step (fun k => by rw [perigeeref7_Sent.c0_eq]) ?_
 have h := Ev.rng (σ := Int) (Ty.dflt YRegular) s (by omega) (g := fun k c i => perigeeref7_Sent.c1 k s a b c s (s.length : Int) i) (fun k c i => perigeeref7_Sent.c1_eq _ _ _ _ _ _ _ _)
  (fun i c => 0 ≤ c ∧ c ≤ 1000000000001 * i ∧ c + cnts (s.drop i) a b = cnts s a b) (fun r i c => sentR s a b) (fun c hc => by
   obtain ⟨c0, c1, c2⟩ := hc
   rw [List.drop_length, cnts] at c2
   simp only [decide_eq_true_eq]
   unfold sentR
   refine Ev.split (fun h => ?_) (fun h => ?_)
   ·rw [if_pos (by omega)]; exact Ev.now _
   ·rw [if_neg (by omega)]
    have k2 := Ev.rng (σ := List DDue) (Ty.dflt YRegular) s (by omega) (g := fun k o i => perigeeref7_Sent.c2 k a b o s (s.length : Int) i) (fun k o i => perigeeref7_Sent.c2_eq _ _ _ _ _ _ _)
     (fun i o => o = upto (s.take i) a (b - a).toNat) (fun r i o => (upto s a (b - a).toNat, 0, ())) (fun o ho => by
      rw [List.take_length] at ho
      rw [ho]
      exact Ev.now _) (fun i x xs o hi hx hd hget hw ho next => by
      have ro := hr x hx
      obtain ⟨n1, n2, n3, n4, n5⟩ := nx_ok ro a
      have a1 := ro.1
      simp only [Int.toNat_natCast, hget, hw, firstR_ev _ _ ro a ha (by omega), Option.bind_some]
      have ht : s.take (i + 1) = s.take i ++ [x] := by
       rw [List.take_add_one]
       have : s[i]? = some x := by
        have := congrArg (fun l => l[0]?) hd
        simpa using this
       rw [this]; rfl
      have lens : (o.length : Int) + cnt x a b ≤ 20000 := by
       have e1 := cnts_append (s.take i) (s.drop i) a b
       rw [List.take_append_drop, hd, cnts] at e1
       have e2 := cnts_len (s.take i) (fun r hr' => hr r (List.mem_of_mem_take hr')) a b
       have e3 := cnts_bd (s := xs) (fun r hr' => hr r (by rw [show xs = s.drop (i + 1) by rw [← List.drop_drop, hd]; rfl] at hr'; exact List.mem_of_mem_drop hr')) ha hb
       rw [ho]
       omega
      -- those of one
      have own : ∀ (d : Nat) (t : Int) (w : List DDue), hit x t = true → 0 ≤ t → t ≤ 1000000200000 → (b - t).toNat = d → w ++ upto [x] t (b - t).toNat = upto [x] a (b - a).toNat → Ev (fun k => perigeeref7_Sent.c3 k a b o x.1 x.2.1 x.2.2 w t s (s.length : Int) i) (upto s a (b - a).toNat, 0, ()) := by
       intro d
       induction d using Nat.strongRecOn with
       | _ d ihd =>
        intro t w ht0 ht1 ht2 hd' hw'
        have wl : (w.length : Int) ≤ cnt x a b := by
         rw [← cnt_len ro a b, ← hw', List.length_append]; omega
        refine Ev.step (fun k => by rw [perigeeref7_Sent.c3_eq]) ?_
        simp only [decide_eq_true_eq]
        refine Ev.split (fun h => ?_) (fun h => ?_)
        ·rw [w64 (x := t + x.2.1) (by omega) (by omega)]
         refine Ev.yes (by omega) (ihd (b - (t + x.2.1)).toNat (by omega) (t + x.2.1) _ (hit_next ro ht0).1 (by omega) (by omega) rfl ?_)
         rw [← hw', one_step ro ht0 h, List.append_assoc]; rfl
        ·rw [show (b - t).toNat = 0 by omega, upto, List.append_nil] at hw'
         rw [hw]
         have wl2 := cnt_len ro a b
         refine Ev.bind (Ev.eq (fun k => by rw [perigeeref7_inTurn.f_eq]) (inTurn_ev _ o w [] rfl (by rw [hw']; simp; omega))) ?_
         refine next _ ?_
         rw [List.nil_append, ho, hw', mrg_upto, ht]
      exact own _ (nx x a) [] n2 n5 (by split at n4 <;> omega) rfl (by rw [List.nil_append, ← one_first ro])) 0 [] (by omega) (by rw [List.take_zero, upto_none (fun u _ _ => rfl)])
    exact k2) (fun i x xs c hi hx hd hget hw hc next => by
   obtain ⟨c0, c1, c2⟩ := hc
   have ro := hr x hx
   obtain ⟨n1, n2, n3, n4, n5⟩ := nx_ok ro a
   have a1 := ro.1.1
   have bd := cnt_bd ro ha hb
   have hd2 : s.drop (i + 1) = xs := by rw [← List.drop_drop, hd]; rfl
   rw [hd, cnts] at c2
   simp only [Int.toNat_natCast, hget, hw, decide_eq_true_eq, firstR_ev _ _ ro a ha (by omega), Option.bind_some]
   refine Ev.split (fun h => ?_) (fun h => ?_)
   ·have e : IntKind.wrap .i64 (c + IntKind.wrap .i64 (IntKind.wrap .i64 (Int.tdiv (IntKind.wrap .i64 (IntKind.wrap .i64 (b - nx x a) - 1)) x.2.1) + 1)) = c + cnt x a b := by
     unfold cnt at bd ⊢
     rw [if_pos h] at bd ⊢
     rw [w64 (x := b - nx x a) (by omega) (by omega), w64 (x := b - nx x a - 1) (by omega) (by omega), Int.tdiv_eq_ediv_of_nonneg (by omega), show b - nx x a - 1 = b - 1 - nx x a by omega, w64 (x := (b - 1 - nx x a) / x.2.1) (by omega) (by omega), w64 (x := (b - 1 - nx x a) / x.2.1 + 1) (by omega) (by omega), w64 (by omega) (by omega)]
    rw [e]
    exact Ev.yes (by omega) (next _ ⟨by omega, by omega, by rw [hd2]; omega⟩)
   ·have e : cnt x a b = 0 := by unfold cnt; rw [if_neg h]
    exact next _ ⟨by omega, by omega, by rw [hd2]; omega⟩) 0 0 (by omega) ⟨by omega, by omega, by simp⟩
 exact h
def sent (c : Int) (s : List DRegular) (a b : Int) : List DDue × Int × Unit :=
 if ¬ c = 0 then ([], c, ()) else if ¬ (0 ≤ a ∧ a ≤ 1000000000000) then ([], 1, ()) else if ¬ (0 ≤ b ∧ b ≤ 1000000000000) then ([], 1, ()) else sentR s a b
theorem sent_evT (p : List DParameter) (l : List DLayout) (s : List DRegular) (c : Int) (h : Ev (fun k => telemetry_CheckPlan.f k p l s) (c, ())) (ok : c = 0 → PlanOk p l s) (a b : Int) : Ev (fun k => telemetry_Sent.f k p l s a b) (sent c s a b) := by
 refine Ev.eq (fun k => by rw [telemetry_Sent.f_eq]) (Ev.bind h ?_)
 simp only [Bool.not_eq_true', decide_eq_false_iff_not, in_ev, Option.bind_some]
 unfold sent
 refine Ev.split (fun h => by rw [if_pos h]; exact Ev.now _) (fun h => ?_)
 rw [if_neg h]
 refine Ev.split (fun h => by rw [if_pos h]; exact Ev.now _) (fun h => ?_)
 rw [if_neg h]
 refine Ev.split (fun h => by rw [if_pos h]; exact Ev.now _) (fun h => ?_)
 rw [if_neg h]
 have k := ok (by omega)
 exact sentT_ev s k.len k.reg a b (by omega) (by omega) (by omega) (by omega)
theorem sent_evR (p : List DParameter) (l : List DLayout) (s : List DRegular) (c : Int) (h : Ev (fun k => perigeeref7_CheckPlan.f k p l s) (c, ())) (ok : c = 0 → PlanOk p l s) (a b : Int) : Ev (fun k => perigeeref7_Sent.f k p l s a b) (sent c s a b) := by
 refine Ev.eq (fun k => by rw [perigeeref7_Sent.f_eq]) (Ev.bind h ?_)
 simp only [Bool.not_eq_true', decide_eq_false_iff_not, within_ev, Option.bind_some]
 unfold sent
 refine Ev.split (fun h => by rw [if_pos h]; exact Ev.now _) (fun h => ?_)
 rw [if_neg h]
 refine Ev.split (fun h => by rw [if_pos h]; exact Ev.now _) (fun h => ?_)
 rw [if_neg h]
 refine Ev.split (fun h => by rw [if_pos h]; exact Ev.now _) (fun h => ?_)
 rw [if_neg h]
 have k := ok (by omega)
 exact sentR_ev s k.len k.reg a b (by omega) (by omega) (by omega) (by omega)
theorem sent_len {p : List DParameter} {l : List DLayout} {s : List DRegular} {c : Int} (ok : c = 0 → PlanOk p l s) (a b : Int) : (sent c s a b).1.length ≤ 20000 := by
 unfold sent
 split
 ·simp
 ·split
  ·simp
  ·split
   ·simp
   ·unfold sentR
    split
    ·simp
    ·have := cnts_len s (ok (by omega)).reg a b
     simp only
     omega
theorem equal_dues (a b : List DDue) (ha : a.length ≤ 4611686018427387904) : ∃ r, Ev (fun k => slices_Equal_apiDue.f k a b) (r, ()) ∧ (r = true ↔ a = b) := by
 by_cases h : a.length = b.length
 ·obtain ⟨r, h1, h2⟩ := eq_loop (Ty.dflt YDue) (e := fun x y => eqV YDue x y) (fun x y => eqV_iff (τ := YDue) rfl) a b ha h (g := fun k i => slices_Equal_apiDue.c0 k a b (a.length : Int) i) (fun k i => slices_Equal_apiDue.c0_eq _ _ _ _ _)
  refine ⟨r, Ev.eq (fun k => by rw [slices_Equal_apiDue.f_eq]) (Ev.no (by simp; omega) h1), h2⟩
 ·exact ⟨false, Ev.eq (fun k => by rw [slices_Equal_apiDue.f_eq]) (Ev.yes (by simp; omega) (Ev.now _)), by simp; exact fun e => h (by rw [e])⟩
end Go.Proofs.Ytcefbdknoelacaa.Pure

-- YtcefbdknoelacaaAw
namespace Go.Proofs.Ytcefbdknoelacaa.Pure
open Go Go.Proofs.Ytcefbdknoelacaa.A
theorem awake_at (k : Nat) : perigeelaw7_awake.f (k + 40) = some (true, ()) := by kernel_rfl
theorem awake_ev : Ev (fun k => perigeelaw7_awake.f k) (true, ()) := ⟨40, fun n hn => by
 obtain ⟨k, rfl⟩ : ∃ k, n = k + 40 := ⟨n - 40, by omega⟩
 exact awake_at k⟩
end Go.Proofs.Ytcefbdknoelacaa.Pure

-- YtcefbdknoelacaaPureTelemetryPlansMatchSpec
set_option linter.unusedVariables false
namespace Go.Proofs.Ytcefbdknoelacaa.Pure
open Go Go.Proofs.Ytcefbdknoelacaa.A
theorem TelemetryPlansMatchSpec (p : List DParameter) (l : List DLayout) (s : List DRegular) (a b : Int) (h0 : okT (.sl YParameter) p) (h1 : okT (.sl YLayout) l) (h2 : okT (.sl YRegular) s) (h3 : okT (.int .i64) a) (h4 : okT (.int .i64) b) :
 ∃ n, perigeelaw7_TelemetryPlansMatchSpec.f n p l s a b = some (true, ()) := by
 refine Ev.rounds (g := fun k => perigeelaw7_TelemetryPlansMatchSpec.f k p l s a b) ?_
 obtain ⟨c, c1, c2, ok⟩ := plans_ev p l s h0 h1 (by have := h2.1; omega)
 have e1 := sent_evT p l s c c1 ok a b
 have e2 := sent_evR p l s c c2 ok a b
 obtain ⟨q, g1, g2⟩ := equal_dues (sent c s a b).1 (sent c s a b).1 (by have := sent_len ok a b; omega)
 obtain rfl : q = true := g2.2 rfl
 refine Ev.eq (fun k => by rw [perigeelaw7_TelemetryPlansMatchSpec.f_eq]) ?_
 exact Ev.bind e1 (Ev.bind e2 (Ev.bind c1 (Ev.bind c2 (Ev.yes (by simp) (Ev.yes (by simp) (Ev.bind g1 (Ev.yes rfl (Ev.bind awake_ev (Ev.now _)))))))))
end Go.Proofs.Ytcefbdknoelacaa.Pure
