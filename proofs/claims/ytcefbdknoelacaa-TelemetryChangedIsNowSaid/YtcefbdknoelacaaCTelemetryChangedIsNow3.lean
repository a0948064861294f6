/- What changed makes the new readings of those before; where nothing did it has a bit for each part alone; no condition. -/
import Derived.KernelRfl
import Derived.Laws.Strings
import Derived.Test.YtcefbdknoelacaaChecked
import Derived.Test.YtcefbdknoelacaaCTelemetryChangedIsNow2
-- YtcefbdknoelacaaK
set_option linter.unusedVariables false
set_option maxRecDepth 100000
namespace Go.Proofs.Ytcefbdknoelacaa.A
open Go
theorem follows : Try.prog.follows .mixedOrders = true := by kernel_rfl
theorem tab_ok : TabOk Try.prog tab := tabOk_of (by kernel_rfl)
theorem compare_less : ∀ a b : List UInt8, Lib.compareBytes a b = if Op.bytesLess a b = true then -1 else if Op.bytesLess b a = true then 1 else 0 := by
 intro a
 induction a with
 | nil => intro b; cases b <;> simp [Lib.compareBytes, Op.bytesLess]
 | cons x a ih =>
  intro b
  cases b with
  | nil => simp [Lib.compareBytes, Op.bytesLess]
  | cons y b =>
   have e1 : Op.bytesLess (x :: a) (y :: b) = (decide (x < y) || (x == y && Op.bytesLess a b)) := by rw [Op.bytesLess]
   have e2 : Op.bytesLess (y :: b) (x :: a) = (decide (y < x) || (y == x && Op.bytesLess b a)) := by rw [Op.bytesLess]
   rw [Lib.compareBytes, e1, e2]
   rcases Nat.lt_trichotomy x.toNat y.toNat with h | h | h
   ·have h1 : x < y := UInt8.lt_iff_toNat_lt.2 h
    simp [h1]
   ·have h3 : x = y := UInt8.toNat_inj.1 h
    subst h3
    have h2 : ¬ x < x := fun h' => by have := UInt8.lt_iff_toNat_lt.1 h'; omega
    simpa [h2] using ih b
   ·have h1 : y < x := UInt8.lt_iff_toNat_lt.2 h
    have h2 : ¬ x < y := fun h' => by have := UInt8.lt_iff_toNat_lt.1 h'; omega
    have h3 : ¬ x = y := fun h' => by subst h'; omega
    simp [h1, h2, h3]
theorem cmpS_range (a b : List UInt8) : IntKind.i64.min ≤ cmpS a b ∧ cmpS a b ≤ IntKind.i64.max := by
 have h1 : IntKind.i64.min = -9223372036854775808 := rfl
 have h2 : IntKind.i64.max = 9223372036854775807 := rfl
 rw [h1, h2]
 unfold cmpS
 split
 ·omega
 ·split <;> omega
theorem strings_Compare.ok (n : Nat) : FunC Try.prog 110 (strings_Compare.E n) := by
 refine ⟨fun Z w xs vs Fs r hZ hA hn hF hr => ?_, Try.f110, Try.func110, by kernel_rfl, by kernel_rfl⟩
 obtain ⟨v0, vs0, F0, G0, rfl, rfl, ⟨c0, i0, q0⟩, v1, vs1, F1, G1, rfl, rfl, ⟨c1, i1, q1⟩, rfl, rfl⟩ := hA
 have i0 : c0 = [v0] := i0
 have i1 : c1 = [v1] := i1
 subst i0; subst i1
 obtain ⟨q0, rfl, l0⟩ := q0
 obtain ⟨q1, rfl, l1⟩ := q1
 simp only [List.cons.injEq, and_true] at q0 q1
 subst q0; subst q1
 have hr : some (cmpS xs.1 xs.2.1, ()) = some r := hr
 cases hr
 refine (Try.strings_Compare ⟨⟨xs.1⟩⟩ ⟨⟨xs.2.1⟩⟩ w).mono ?_
 rintro e w' ⟨rfl, rfl⟩
 refine ⟨_, Z, [.int .i64 (cmpS xs.1 xs.2.1)], [], [], rfl, Kept.refl _ _, fun _ h => h, hZ, fun _ h _ => .inl h, ?_, ?_, ?_, by simp, by simp⟩
 ·exact ⟨_, [], [], [], rfl, rfl, ⟨[_], rfl, rfl, rfl, cmpS_range _ _⟩, rfl, rfl⟩
 ·rw [compare_less]
  rfl
 ·rfl

theorem telemetry_parameter_1.ok (n : Nat) : FunC Try.prog 109 (telemetry_parameter_1.E n) := funC_of follows tab_ok Try.func109 (T := telemetry_parameter_1.T) (ann := telemetry_parameter_1.ann) (ins := telemetry_parameter_1.ins) (outs := telemetry_parameter_1.outs) (n := n) (fun k => TOk.cons (strings_Compare.ok k) (TOk.nil)) (by kernel_rfl) (by kernel_rfl)
theorem kit_In.ok (n : Nat) : FunC Try.prog 55 (kit_In.E n) := funC_of follows tab_ok Try.func55 (T := kit_In.T) (ann := kit_In.ann) (ins := kit_In.ins) (outs := kit_In.outs) (n := n) (fun k => TOk.nil) (by kernel_rfl) (by kernel_rfl)
theorem telemetry_Word.ok (n : Nat) : FunC Try.prog 60 (telemetry_Word.E n) := funC_of follows tab_ok Try.func60 (T := telemetry_Word.T) (ann := telemetry_Word.ann) (ins := telemetry_Word.ins) (outs := telemetry_Word.outs) (n := n) (fun k => TOk.nil) (by kernel_rfl) (by kernel_rfl)
theorem kit_First.ok (n : Nat) : FunC Try.prog 61 (kit_First.E n) := funC_of follows tab_ok Try.func61 (T := kit_First.T) (ann := kit_First.ann) (ins := kit_First.ins) (outs := kit_First.outs) (n := n) (fun k => TOk.nil) (by kernel_rfl) (by kernel_rfl)
theorem telemetry_span.ok (n : Nat) : FunC Try.prog 54 (telemetry_span.E n) := funC_of follows tab_ok Try.func54 (T := telemetry_span.T) (ann := telemetry_span.ann) (ins := telemetry_span.ins) (outs := telemetry_span.outs) (n := n) (fun k => TOk.nil) (by kernel_rfl) (by kernel_rfl)
theorem telemetry_checkDots.ok (n : Nat) : FunC Try.prog 62 (telemetry_checkDots.E n) := funC_of follows tab_ok Try.func62 (T := telemetry_checkDots.T) (ann := telemetry_checkDots.ann) (ins := telemetry_checkDots.ins) (outs := telemetry_checkDots.outs) (n := n) (fun k => TOk.cons (telemetry_span.ok k) (TOk.cons (kit_In.ok k) (TOk.nil))) (by kernel_rfl) (by kernel_rfl)
theorem telemetry_checkWords.ok (n : Nat) : FunC Try.prog 63 (telemetry_checkWords.E n) := funC_of follows tab_ok Try.func63 (T := telemetry_checkWords.T) (ann := telemetry_checkWords.ann) (ins := telemetry_checkWords.ins) (outs := telemetry_checkWords.outs) (n := n) (fun k => TOk.cons (telemetry_span.ok k) (TOk.cons (kit_In.ok k) (TOk.cons (telemetry_Word.ok k) (TOk.nil)))) (by kernel_rfl) (by kernel_rfl)
theorem telemetry_CheckParameters.ok (n : Nat) : FunC Try.prog 18 (telemetry_CheckParameters.E n) := funC_of follows tab_ok Try.func18 (T := telemetry_CheckParameters.T) (ann := telemetry_CheckParameters.ann) (ins := telemetry_CheckParameters.ins) (outs := telemetry_CheckParameters.outs) (n := n) (fun k => TOk.cons (kit_In.ok k) (TOk.cons (telemetry_Word.ok k) (TOk.cons (kit_First.ok k) (TOk.cons (telemetry_checkDots.ok k) (TOk.cons (telemetry_checkWords.ok k) (TOk.nil)))))) (by kernel_rfl) (by kernel_rfl)
theorem slices_BinarySearchFunc_string.ok (n : Nat) : FunC Try.prog 108 (slices_BinarySearchFunc_string.E n) := funC_of follows tab_ok Try.func108 (T := slices_BinarySearchFunc_string.T) (ann := slices_BinarySearchFunc_string.ann) (ins := slices_BinarySearchFunc_string.ins) (outs := slices_BinarySearchFunc_string.outs) (n := n) (fun k => TOk.cons (telemetry_parameter_1.ok k) (TOk.nil)) (by kernel_rfl) (by kernel_rfl)
theorem telemetry_parameter.ok (n : Nat) : FunC Try.prog 53 (telemetry_parameter.E n) := funC_of follows tab_ok Try.func53 (T := telemetry_parameter.T) (ann := telemetry_parameter.ann) (ins := telemetry_parameter.ins) (outs := telemetry_parameter.outs) (n := n) (fun k => TOk.cons (slices_BinarySearchFunc_string.ok k) (TOk.nil)) (by kernel_rfl) (by kernel_rfl)
theorem slices_Equal_byte.ok (n : Nat) : FunC Try.prog 34 (slices_Equal_byte.E n) := funC_of follows tab_ok Try.func34 (T := slices_Equal_byte.T) (ann := slices_Equal_byte.ann) (ins := slices_Equal_byte.ins) (outs := slices_Equal_byte.outs) (n := n) (fun k => TOk.nil) (by kernel_rfl) (by kernel_rfl)
theorem telemetry_groups.ok (n : Nat) : FunC Try.prog 122 (telemetry_groups.E n) := funC_of follows tab_ok Try.func122 (T := telemetry_groups.T) (ann := telemetry_groups.ann) (ins := telemetry_groups.ins) (outs := telemetry_groups.outs) (n := n) (fun k => TOk.nil) (by kernel_rfl) (by kernel_rfl)
theorem telemetry_squeezed.ok (n : Nat) : FunC Try.prog 112 (telemetry_squeezed.E n) := funC_of follows tab_ok Try.func112 (T := telemetry_squeezed.T) (ann := telemetry_squeezed.ann) (ins := telemetry_squeezed.ins) (outs := telemetry_squeezed.outs) (n := n) (fun k => TOk.cons (telemetry_groups.ok k) (TOk.nil)) (by kernel_rfl) (by kernel_rfl)
theorem telemetry_Squeezed.ok (n : Nat) : FunC Try.prog 67 (telemetry_Squeezed.E n) := funC_of follows tab_ok Try.func67 (T := telemetry_Squeezed.T) (ann := telemetry_Squeezed.ann) (ins := telemetry_Squeezed.ins) (outs := telemetry_Squeezed.outs) (n := n) (fun k => TOk.cons (kit_In.ok k) (TOk.cons (telemetry_squeezed.ok k) (TOk.nil))) (by kernel_rfl) (by kernel_rfl)
theorem perigeelaw7_awake.ok (n : Nat) : FunC Try.prog 20 (perigeelaw7_awake.E n) := funC_of follows tab_ok Try.func20 (T := perigeelaw7_awake.T) (ann := perigeelaw7_awake.ann) (ins := perigeelaw7_awake.ins) (outs := perigeelaw7_awake.outs) (n := n) (fun k => TOk.cons (slices_Equal_byte.ok k) (TOk.cons (telemetry_Squeezed.ok k) (TOk.nil))) (by kernel_rfl) (by kernel_rfl)
theorem telemetry_checkParts.ok (n : Nat) : FunC Try.prog 92 (telemetry_checkParts.E n) := funC_of follows tab_ok Try.func92 (T := telemetry_checkParts.T) (ann := telemetry_checkParts.ann) (ins := telemetry_checkParts.ins) (outs := telemetry_checkParts.outs) (n := n) (fun k => TOk.cons (telemetry_parameter.ok k) (TOk.nil)) (by kernel_rfl) (by kernel_rfl)
theorem telemetry_CheckLayouts.ok (n : Nat) : FunC Try.prog 38 (telemetry_CheckLayouts.E n) := funC_of follows tab_ok Try.func38 (T := telemetry_CheckLayouts.T) (ann := telemetry_CheckLayouts.ann) (ins := telemetry_CheckLayouts.ins) (outs := telemetry_CheckLayouts.outs) (n := n) (fun k => TOk.cons (telemetry_CheckParameters.ok k) (TOk.cons (telemetry_Word.ok k) (TOk.cons (telemetry_checkParts.ok k) (TOk.nil)))) (by kernel_rfl) (by kernel_rfl)
theorem telemetry_layout.ok (n : Nat) : FunC Try.prog 83 (telemetry_layout.E n) := funC_of follows tab_ok Try.func83 (T := telemetry_layout.T) (ann := telemetry_layout.ann) (ins := telemetry_layout.ins) (outs := telemetry_layout.outs) (n := n) (fun k => TOk.nil) (by kernel_rfl) (by kernel_rfl)
theorem telemetry_found.ok (n : Nat) : FunC Try.prog 77 (telemetry_found.E n) := funC_of follows tab_ok Try.func77 (T := telemetry_found.T) (ann := telemetry_found.ann) (ins := telemetry_found.ins) (outs := telemetry_found.outs) (n := n) (fun k => TOk.cons (telemetry_CheckLayouts.ok k) (TOk.cons (telemetry_layout.ok k) (TOk.nil))) (by kernel_rfl) (by kernel_rfl)
theorem telemetry_checkReadings.ok (n : Nat) : FunC Try.prog 78 (telemetry_checkReadings.E n) := funC_of follows tab_ok Try.func78 (T := telemetry_checkReadings.T) (ann := telemetry_checkReadings.ann) (ins := telemetry_checkReadings.ins) (outs := telemetry_checkReadings.outs) (n := n) (fun k => TOk.cons (telemetry_parameter.ok k) (TOk.cons (telemetry_span.ok k) (TOk.cons (kit_In.ok k) (TOk.nil)))) (by kernel_rfl) (by kernel_rfl)
theorem telemetry_row_put.ok (n : Nat) : FunC Try.prog 79 (telemetry_row_put.E n) := funC_of follows tab_ok Try.func79 (T := telemetry_row_put.T) (ann := telemetry_row_put.ann) (ins := telemetry_row_put.ins) (outs := telemetry_row_put.outs) (n := n) (fun k => TOk.nil) (by kernel_rfl) (by kernel_rfl)
theorem telemetry_raw.ok (n : Nat) : FunC Try.prog 86 (telemetry_raw.E n) := funC_of follows tab_ok Try.func86 (T := telemetry_raw.T) (ann := telemetry_raw.ann) (ins := telemetry_raw.ins) (outs := telemetry_raw.outs) (n := n) (fun k => TOk.nil) (by kernel_rfl) (by kernel_rfl)
theorem telemetry_row_take.ok (n : Nat) : FunC Try.prog 87 (telemetry_row_take.E n) := funC_of follows tab_ok Try.func87 (T := telemetry_row_take.T) (ann := telemetry_row_take.ann) (ins := telemetry_row_take.ins) (outs := telemetry_row_take.outs) (n := n) (fun k => TOk.nil) (by kernel_rfl) (by kernel_rfl)
theorem telemetry_row_ends.ok (n : Nat) : FunC Try.prog 88 (telemetry_row_ends.E n) := funC_of follows tab_ok Try.func88 (T := telemetry_row_ends.T) (ann := telemetry_row_ends.ann) (ins := telemetry_row_ends.ins) (outs := telemetry_row_ends.outs) (n := n) (fun k => TOk.cons (telemetry_row_take.ok k) (TOk.nil)) (by kernel_rfl) (by kernel_rfl)
theorem slices_Equal_apiReading.ok (n : Nat) : FunC Try.prog 33 (slices_Equal_apiReading.E n) := funC_of follows tab_ok Try.func33 (T := slices_Equal_apiReading.T) (ann := slices_Equal_apiReading.ann) (ins := slices_Equal_apiReading.ins) (outs := slices_Equal_apiReading.outs) (n := n) (fun k => TOk.nil) (by kernel_rfl) (by kernel_rfl)
theorem telemetry_Changes.ok (n : Nat) : FunC Try.prog 42 (telemetry_Changes.E n) := funC_of follows tab_ok Try.func42 (T := telemetry_Changes.T) (ann := telemetry_Changes.ann) (ins := telemetry_Changes.ins) (outs := telemetry_Changes.outs) (n := n) (fun k => TOk.cons (telemetry_parameter.ok k) (TOk.cons (telemetry_found.ok k) (TOk.cons (telemetry_checkReadings.ok k) (TOk.cons (telemetry_row_put.ok k) (TOk.nil))))) (by kernel_rfl) (by kernel_rfl)
theorem telemetry_Changed.ok (n : Nat) : FunC Try.prog 43 (telemetry_Changed.E n) := funC_of follows tab_ok Try.func43 (T := telemetry_Changed.T) (ann := telemetry_Changed.ann) (ins := telemetry_Changed.ins) (outs := telemetry_Changed.outs) (n := n) (fun k => TOk.cons (telemetry_parameter.ok k) (TOk.cons (telemetry_found.ok k) (TOk.cons (telemetry_checkReadings.ok k) (TOk.cons (telemetry_raw.ok k) (TOk.cons (telemetry_row_take.ok k) (TOk.cons (telemetry_row_ends.ok k) (TOk.nil))))))) (by kernel_rfl) (by kernel_rfl)
theorem perigeelaw7_TelemetryChangedIsNow.ok (n : Nat) : FunC Try.prog 11 (perigeelaw7_TelemetryChangedIsNow.E n) := funC_of follows tab_ok Try.func11 (T := perigeelaw7_TelemetryChangedIsNow.T) (ann := perigeelaw7_TelemetryChangedIsNow.ann) (ins := perigeelaw7_TelemetryChangedIsNow.ins) (outs := perigeelaw7_TelemetryChangedIsNow.outs) (n := n) (fun k => TOk.cons (perigeelaw7_awake.ok k) (TOk.cons (slices_Equal_apiReading.ok k) (TOk.cons (telemetry_Changes.ok k) (TOk.cons (telemetry_Changed.ok k) (TOk.nil))))) (by kernel_rfl) (by kernel_rfl)
end Go.Proofs.Ytcefbdknoelacaa.A

-- YtcefbdknoelacaaPk
set_option linter.unusedVariables false
set_option linter.unusedSimpArgs false
namespace Go.Proofs.Ytcefbdknoelacaa.Pure
open Go Go.Proofs.Ytcefbdknoelacaa.A

def Ev {α : Type} (g : Nat → Option α) (r : α) : Prop := ∃ k, ∀ n, k ≤ n → g n = some r
theorem Ev.now {α : Type} (r : α) : Ev (fun _ => some r) r := ⟨0, fun _ _ => rfl⟩
theorem Ev.rounds {α : Type} {g : Nat → Option α} {r : α} (h : Ev g r) : ∃ k, g k = some r := let ⟨K, h⟩ := h; ⟨K, h K (Nat.le_refl _)⟩
theorem Ev.bind {α β : Type} {g : Nat → Option α} {f : Nat → α → Option β} {a : α} {r : β} (h : Ev g a) (k : Ev (fun n => f n a) r) : Ev (fun n => (g n).bind (f n)) r := by
 obtain ⟨K, h⟩ := h
 obtain ⟨K', k⟩ := k
 refine ⟨max K K', fun n hn => ?_⟩
 simp only [h n (by omega), Option.bind_some]
 exact k n (by omega)
theorem Ev.step {α : Type} {g f : Nat → Option α} {r : α} (h : ∀ k, g (k + 1) = f k) (k : Ev f r) : Ev g r := by
 obtain ⟨K, k⟩ := k
 refine ⟨K + 1, fun n hn => ?_⟩
 obtain ⟨m, rfl⟩ : ∃ m, n = m + 1 := ⟨n - 1, by omega⟩
 rw [h]
 exact k m (by omega)
theorem Ev.eq {α : Type} {g f : Nat → Option α} {r : α} (h : ∀ k, g k = f k) (k : Ev f r) : Ev g r := by
 obtain ⟨K, k⟩ := k
 exact ⟨K, fun n hn => (h n).trans (k n hn)⟩
theorem less_total : ∀ a b : List UInt8, (Op.bytesLess a b || a == b) = !Op.bytesLess b a := by
 intro a
 induction a with
 | nil => intro b; cases b <;> simp [Op.bytesLess]
 | cons x a ih =>
  intro b
  cases b with
  | nil => simp [Op.bytesLess]
  | cons y b =>
   have := ih b
   have e1 : Op.bytesLess (x :: a) (y :: b) = (decide (x < y) || (x == y && Op.bytesLess a b)) := by rw [Op.bytesLess]
   have e2 : Op.bytesLess (y :: b) (x :: a) = (decide (y < x) || (y == x && Op.bytesLess b a)) := by rw [Op.bytesLess]
   rw [e1, e2]
   rcases Nat.lt_trichotomy x.toNat y.toNat with h | h | h
   ·have h1 : x < y := UInt8.lt_iff_toNat_lt.2 h
    have h2 : ¬ y < x := fun h' => by have := UInt8.lt_iff_toNat_lt.1 h'; omega
    have h3 : ¬ y = x := fun h' => by subst h'; omega
    simp [h1, h2, h3]
   ·have h3 : x = y := UInt8.toNat_inj.1 h
    subst h3
    have h2 : ¬ x < x := fun h' => by have := UInt8.lt_iff_toNat_lt.1 h'; omega
    simpa [h2] using this
   ·have h1 : y < x := UInt8.lt_iff_toNat_lt.2 h
    have h2 : ¬ x < y := fun h' => by have := UInt8.lt_iff_toNat_lt.1 h'; omega
    have h3 : ¬ x = y := fun h' => by subst h'; omega
    simp [h1, h2, h3]

theorem w64 {x : Int} (h : -9223372036854775808 ≤ x) (h' : x ≤ 9223372036854775807) : IntKind.wrap .i64 x = x := by
 have e1 : (2 : Int) ^ 64 = 18446744073709551616 := rfl
 have e2 : (2 : Int) ^ (64 - 1) = 9223372036854775808 := rfl
 simp only [IntKind.wrap, IntKind.bits, IntKind.signed, e1, e2, Bool.true_and, decide_eq_true_eq]
 by_cases hh : x % 18446744073709551616 ≥ 9223372036854775808
 ·rw [if_pos hh]; omega
 ·rw [if_neg hh]; omega
theorem Ev.yes {α : Type} {c : Prop} {hd : Decidable c} {g g' : Nat → Option α} {r : α} (h : c) (e : Ev g r) : Ev (fun k => if c then g k else g' k) r := by
 simp only [if_pos h]; exact e
theorem Ev.no {α : Type} {c : Prop} {hd : Decidable c} {g g' : Nat → Option α} {r : α} (h : ¬ c) (e : Ev g' r) : Ev (fun k => if c then g k else g' k) r := by
 simp only [if_neg h]; exact e
theorem Ev.some {α : Type} {o : Option α} {r : α} (h : o = some r) : Ev (fun _ => o) r := by subst h; exact Ev.now _

theorem getD_nat {α : Type} (z : α) (l : List α) (i : Nat) (h : i < l.length) : l.getD i z = l[i] := by
 simp [List.getD_eq_getElem?_getD, List.getElem?_eq_getElem h]
theorem getD_mem {α : Type} {z : α} {l : List α} {i : Nat} (h : i < l.length) : l.getD i z ∈ l := by
 rw [getD_nat z l i h]; exact List.getElem_mem h

theorem bl_cons (x y : UInt8) (a b : List UInt8) : Op.bytesLess (x :: a) (y :: b) = (decide (x < y) || (x == y && Op.bytesLess a b)) := by rw [Op.bytesLess]
theorem less_irrefl (a : List UInt8) : Op.bytesLess a a = false := by
 have := less_total a a
 cases h : Op.bytesLess a a with
 | false => rfl
 | true => rw [h] at this; simp at this
theorem less_ne {a b : List UInt8} (h : Op.bytesLess a b = true) : a ≠ b := by
 intro e
 subst e
 rw [less_irrefl] at h
 cases h
theorem less_tri {a b : List UInt8} (h1 : ¬ Op.bytesLess a b = true) (h2 : a ≠ b) : Op.bytesLess b a = true := by
 have := less_total a b
 rw [show Op.bytesLess a b = false by simpa using h1, show (a == b) = false by simpa using h2] at this
 simpa using this.symm
theorem less_trans : ∀ {a b c : List UInt8}, Op.bytesLess a b = true → Op.bytesLess b c = true → Op.bytesLess a c = true := by
 intro a
 induction a with
 | nil =>
  intro b c h1 h2
  cases b with
  | nil => simp [Op.bytesLess] at h1
  | cons y b =>
   cases c with
   | nil => simp [Op.bytesLess] at h2
   | cons z c => simp [Op.bytesLess]
 | cons x a ih =>
  intro b c h1 h2
  cases b with
  | nil => simp [Op.bytesLess] at h1
  | cons y b =>
   cases c with
   | nil => simp [Op.bytesLess] at h2
   | cons z c =>
    rw [bl_cons] at h1 h2 ⊢
    simp only [Bool.or_eq_true, Bool.and_eq_true, decide_eq_true_eq, beq_iff_eq] at h1 h2 ⊢
    rcases h1 with h1 | ⟨rfl, h1⟩
    ·rcases h2 with h2 | ⟨rfl, h2⟩
     ·left
      have := UInt8.lt_iff_toNat_lt.1 h1
      have := UInt8.lt_iff_toNat_lt.1 h2
      exact UInt8.lt_iff_toNat_lt.2 (by omega)
     ·exact .inl h1
    ·rcases h2 with h2 | ⟨rfl, h2⟩
     ·exact .inl h2
     ·exact .inr ⟨rfl, ih h1 h2⟩
def Twin {α β : Type} (g : Nat → Option α) (g' : Nat → Option β) (R : α → β → Prop) : Prop := ∃ a b, Ev g a ∧ Ev g' b ∧ R a b
section
variable {α β γ δ : Type} {R : α → β → Prop}
theorem Twin.of {g : Nat → Option α} {g' : Nat → Option β} {a : α} {b : β} (h : Ev g a) (h' : Ev g' b) (r : R a b) : Twin g g' R := ⟨a, b, h, h', r⟩
theorem Twin.now {a : α} {b : β} (r : R a b) : Twin (fun _ => some a) (fun _ => some b) R := ⟨a, b, Ev.now _, Ev.now _, r⟩
theorem Twin.mono {g : Nat → Option α} {g' : Nat → Option β} {S : α → β → Prop} (h : Twin g g' S) (k : ∀ a b, S a b → R a b) : Twin g g' R := by
 obtain ⟨a, b, h1, h2, h3⟩ := h
 exact ⟨a, b, h1, h2, k a b h3⟩
theorem Twin.stepL {g f : Nat → Option α} {g' : Nat → Option β} (h : ∀ k, g (k + 1) = f k) (t : Twin f g' R) : Twin g g' R := by
 obtain ⟨a, b, h1, h2, h3⟩ := t
 exact ⟨a, b, Ev.step h h1, h2, h3⟩
theorem Twin.stepR {g : Nat → Option α} {g' f : Nat → Option β} (h : ∀ k, g' (k + 1) = f k) (t : Twin g f R) : Twin g g' R := by
 obtain ⟨a, b, h1, h2, h3⟩ := t
 exact ⟨a, b, h1, Ev.step h h2, h3⟩
theorem Twin.ifL {c : Prop} {hd : Decidable c} {g f : Nat → Option α} {g' : Nat → Option β} (y : c → Twin g g' R) (n : ¬ c → Twin f g' R) : Twin (fun k => if c then g k else f k) g' R := by
 by_cases h : c
 ·simp only [if_pos h]; exact y h
 ·simp only [if_neg h]; exact n h
theorem Twin.ifR {c : Prop} {hd : Decidable c} {g : Nat → Option α} {g' f : Nat → Option β} (y : c → Twin g g' R) (n : ¬ c → Twin g f R) : Twin g (fun k => if c then g' k else f k) R := by
 by_cases h : c
 ·simp only [if_pos h]; exact y h
 ·simp only [if_neg h]; exact n h
theorem Twin.bind {g : Nat → Option γ} {g' : Nat → Option δ} {S : γ → δ → Prop} {f : Nat → γ → Option α} {f' : Nat → δ → Option β} (t : Twin g g' S) (k : ∀ a b, S a b → Twin (fun n => f n a) (fun n => f' n b) R) :
 Twin (fun n => (g n).bind (f n)) (fun n => (g' n).bind (f' n)) R := by
 obtain ⟨a, b, h1, h2, h3⟩ := t
 obtain ⟨a', b', h1', h2', h3'⟩ := k a b h3
 exact ⟨a', b', Ev.bind h1 h1', Ev.bind h2 h2', h3'⟩
theorem Twin.bindL {g : Nat → Option γ} {f : Nat → γ → Option α} {g' : Nat → Option β} {a : γ} (h : Ev g a) (t : Twin (fun n => f n a) g' R) : Twin (fun n => (g n).bind (f n)) g' R := by
 obtain ⟨a', b', h1', h2', h3'⟩ := t
 exact ⟨a', b', Ev.bind h h1', h2', h3'⟩
theorem Twin.bindR {g : Nat → Option γ} {f : Nat → γ → Option β} {g' : Nat → Option α} {a : γ} (h : Ev g a) (t : Twin g' (fun n => f n a) R) : Twin g' (fun n => (g n).bind (f n)) R := by
 obtain ⟨a', b', h1', h2', h3'⟩ := t
 exact ⟨a', b', h1', Ev.bind h h2', h3'⟩
theorem Twin.right {g : Nat → Option α} {g' : Nat → Option β} (t : Twin g g' R) : ∃ b, Ev g' b := by
 obtain ⟨a, b, h1, h2, h3⟩ := t
 exact ⟨b, h2⟩
theorem Ev.split {c : Prop} {hd : Decidable c} {g f : Nat → Option α} {r : α} (y : c → Ev g r) (n : ¬ c → Ev f r) : Ev (fun k => if c then g k else f k) r := by
 by_cases h : c
 ·simp only [if_pos h]; exact y h
 ·simp only [if_neg h]; exact n h
theorem Ev.is {v r : α} (h : v = r) : Ev (fun _ => Option.some v) r := by subst h; exact Ev.now _
end
theorem Twin.yesL {α β : Type} {R : α → β → Prop} {c : Prop} {hd : Decidable c} {g f : Nat → Option α} {g' : Nat → Option β} (h : c) (y : Twin g g' R) : Twin (fun k => if c then g k else f k) g' R := Twin.ifL (fun _ => y) (fun n => absurd h n)
theorem Twin.noL {α β : Type} {R : α → β → Prop} {c : Prop} {hd : Decidable c} {g f : Nat → Option α} {g' : Nat → Option β} (h : ¬ c) (y : Twin f g' R) : Twin (fun k => if c then g k else f k) g' R := Twin.ifL (fun n => absurd n h) (fun _ => y)
theorem Twin.yesR {α β : Type} {R : α → β → Prop} {c : Prop} {hd : Decidable c} {g : Nat → Option α} {g' f : Nat → Option β} (h : c) (y : Twin g g' R) : Twin g (fun k => if c then g' k else f k) R := Twin.ifR (fun _ => y) (fun n => absurd h n)
theorem Twin.noR {α β : Type} {R : α → β → Prop} {c : Prop} {hd : Decidable c} {g : Nat → Option α} {g' f : Nat → Option β} (h : ¬ c) (y : Twin g f R) : Twin g (fun k => if c then g' k else f k) R := Twin.ifR (fun n => absurd n h) (fun _ => y)

end Go.Proofs.Ytcefbdknoelacaa.Pure

-- YtcefbdknoelacaaQ1
set_option linter.unusedVariables false
set_option linter.unusedSimpArgs false
namespace Go.Proofs.Ytcefbdknoelacaa.Pure
open Go Go.Proofs.Ytcefbdknoelacaa.A

theorem in_ev (n : Nat) (a l h : Int) : kit_In.f n a l h = some (decide (l ≤ a ∧ a ≤ h), ()) := by
 rw [kit_In.f_eq]
 by_cases h1 : l ≤ a <;> simp [h1]
theorem within_ev (n : Nat) (a l h : Int) : perigeeref7_within.f n a l h = some (decide (l ≤ a ∧ a ≤ h), ()) := by
 rw [perigeeref7_within.f_eq]
 by_cases h1 : l ≤ a <;> simp [h1]

theorem word_loop (s : List UInt8) (hs : s.length ≤ 140737488351232) : ∀ (d i : Nat), i + d = s.length → (i = 0 → 97 ≤ ((s.getD 0 0).toNat : Int) ∧ ((s.getD 0 0).toNat : Int) ≤ 122) →
 Twin (fun k => telemetry_Word.c1 k s (s.length : Int) i) (fun k => perigeeref7_IsWord.c1 k s (s.length : Int) i) (fun a b => a = b) := by
 intro d
 induction d with
 | zero =>
  intro i hi h0
  refine Twin.stepL (fun k => by rw [telemetry_Word.c1_eq]) (Twin.stepR (fun k => by rw [perigeeref7_IsWord.c1_eq]) ?_)
  simp only [decide_eq_true_eq]
  repeat' (first | (exfalso; omega) | (refine Twin.ifL (fun h_ => ?_) (fun h_ => ?_)) | (refine Twin.ifR (fun h_ => ?_) (fun h_ => ?_)))
  exact Twin.now rfl
 | succ d ih =>
  intro i hi h0
  have next := ih (i + 1) (by omega) (by omega)
  refine Twin.stepL (fun k => by rw [telemetry_Word.c1_eq]) (Twin.stepR (fun k => by rw [perigeeref7_IsWord.c1_eq]) ?_)
  rw [w64 (x := (i : Int) + 1) (by omega) (by omega)]
  have h1 : (i : Int) = 0 → 97 ≤ ((s.getD ((i : Int)).toNat 0).toNat : Int) ∧ ((s.getD ((i : Int)).toNat 0).toNat : Int) ≤ 122 := by
   intro h
   rw [h]
   exact h0 (by omega)
  generalize ((s.getD ((i : Int)).toNat 0).toNat : Int) = c at h1
  simp only [decide_eq_true_eq, Bool.not_eq_true', decide_eq_false_iff_not]
  repeat' (first | (exfalso; omega) | (refine Twin.ifL (fun h_ => ?_) (fun h_ => ?_)) | (refine Twin.ifR (fun h_ => ?_) (fun h_ => ?_)))
  all_goals first | exact next | exact Twin.now rfl
theorem word_ev (s : List UInt8) (hs : s.length ≤ 140737488351232) : ∃ b, Ev (fun k => telemetry_Word.f k s) (b, ()) ∧ Ev (fun k => perigeeref7_IsWord.f k s) (b, ()) := by
 have : Twin (fun k => telemetry_Word.f k s) (fun k => perigeeref7_IsWord.f k s) (fun a b => a = b) := by
  have e : (s = []) ↔ s.length = 0 := by cases s <;> simp
  simp only [telemetry_Word.f_eq, perigeeref7_IsWord.f_eq, within_ev, Option.bind_some, decide_eq_true_eq, Bool.not_eq_true', decide_eq_false_iff_not, e]
  repeat' (first | (exfalso; omega) | (refine Twin.ifL (fun h_ => ?_) (fun h_ => ?_)) | (refine Twin.ifR (fun h_ => ?_) (fun h_ => ?_)))
  all_goals (try refine Twin.stepL (fun k => by rw [telemetry_Word.c0_eq]) ?_)
  all_goals (try refine Twin.stepR (fun k => by rw [perigeeref7_IsWord.c0_eq]) ?_)
  all_goals first | exact Twin.now rfl | exact word_loop s hs s.length 0 (by omega) (fun _ => by omega) | skip
  all_goals (try (refine Twin.stepL (fun k => by rw [telemetry_Word.c1_eq]) ?_; simp only [decide_eq_true_eq, Bool.not_eq_true', decide_eq_false_iff_not, Int.toNat_zero]; (repeat' (first | (exfalso; omega) | (refine Twin.ifL (fun h_ => ?_) (fun h_ => ?_))))))
  all_goals first | exact Twin.now rfl | exact absurd trivial ‹¬True›
 obtain ⟨a, b, h1, h2, rfl⟩ := this
 exact ⟨a.1, h1, h2⟩

theorem shl_one : ∀ n : Nat, n ≤ 24 → shlI .i64 1 (n : Int) = ((2 ^ n : Nat) : Int) := by
 intro n hn
 have : ∀ m : Fin 25, shlI .i64 1 ((m.val : Nat) : Int) = ((2 ^ m.val : Nat) : Int) := by decide +kernel
 exact this ⟨n, by omega⟩
theorem shl_neg : ∀ n : Nat, n ≤ 24 → shlI .i64 (-1) (n : Int) = -((2 ^ n : Nat) : Int) := by
 intro n hn
 have : ∀ m : Fin 25, shlI .i64 (-1) ((m.val : Nat) : Int) = -((2 ^ m.val : Nat) : Int) := by decide +kernel
 exact this ⟨n, by omega⟩
abbrev Par := DParameter
def lo (p : Par) : Int := if p.2.2.1 = true then -((2 ^ (p.2.1 - 1).toNat : Nat) : Int) else 0
def hi (p : Par) : Int := if p.2.2.1 = true then ((2 ^ (p.2.1 - 1).toNat : Nat) : Int) - 1 else ((2 ^ p.2.1.toNat : Nat) : Int) - 1
theorem pow_bd : ∀ n : Nat, n ≤ 24 → 1 ≤ 2 ^ n ∧ 2 ^ n ≤ 16777216 := by decide +kernel
theorem span_ev (k : Nat) (p : Par) (h : 1 ≤ p.2.1 ∧ p.2.1 ≤ 24) : telemetry_span.f k p = some (lo p, hi p, ()) := by
 obtain ⟨n, hn⟩ : ∃ n : Nat, p.2.1 = (n : Int) + 1 := ⟨(p.2.1 - 1).toNat, by omega⟩
 have b1 := pow_bd n (by omega)
 have b2 := pow_bd (n + 1) (by omega)
 rw [telemetry_span.f_eq]
 unfold lo hi
 rw [hn, w64 (x := (n : Int) + 1 - 1) (by omega) (by omega), show (n : Int) + 1 - 1 = n by omega, shl_neg n (by omega), shl_one n (by omega), show ((n : Int) + 1) = ((n + 1 : Nat) : Int) by omega, shl_one (n + 1) (by omega)]
 rw [w64 (by omega) (by omega), w64 (by omega) (by omega)]
 simp only [Int.toNat_natCast]
 by_cases hb : p.2.2.1 = true
 ·simp [hb]
 ·simp [hb]
  omega
theorem ends_ev (k : Nat) (p : Par) (h : 1 ≤ p.2.1 ∧ p.2.1 ≤ 24) : perigeeref7_ends.f k p = some (lo p, hi p, ()) := by
 rw [← span_ev k p h, perigeeref7_ends.f_eq, telemetry_span.f_eq]
theorem isRaw_ev (k : Nat) (p : Par) (h : 1 ≤ p.2.1 ∧ p.2.1 ≤ 24) (n : Int) : perigeeref7_isRaw.f k p n = some (decide (lo p ≤ n ∧ n ≤ hi p), ()) := by
 rw [perigeeref7_isRaw.f_eq, ends_ev k p h]
 simp only [Option.bind_some, within_ev]
def Dots (p : Par) (i : Nat) : Prop := ∀ j : Nat, i ≤ j → j < p.2.2.2.1.length → (lo p ≤ (p.2.2.2.1.getD j (Ty.dflt YShare)).1 ∧ (p.2.2.2.1.getD j (Ty.dflt YShare)).1 ≤ hi p) ∧ (-1000000000 ≤ (p.2.2.2.1.getD j (Ty.dflt YShare)).2 ∧ (p.2.2.2.1.getD j (Ty.dflt YShare)).2 ≤ 1000000000) ∧ (0 < j → (p.2.2.2.1.getD ((j : Int) - 1).toNat (Ty.dflt YShare)).1 < (p.2.2.2.1.getD j (Ty.dflt YShare)).1)
theorem dots_loop (p : Par) (hb : 1 ≤ p.2.1 ∧ p.2.1 ≤ 24) (hl : p.2.2.2.1.length ≤ 50) (s : Int)
 (hs : Ev (fun k => if 50 < (p.2.2.2.2.length : Int) then some (2, ()) else perigeeref7_checkPoints.c1 k p.1 p.2.1 p.2.2.1 p.2.2.2.1 p.2.2.2.2 p.2.2.2.2 (p.2.2.2.2.length : Int) 0) (s, ())) : ∀ (d i : Nat), i + d = p.2.2.2.1.length →
 Twin (fun k => telemetry_checkDots.c0 k p.1 p.2.1 p.2.2.1 p.2.2.2.1 p.2.2.2.2 (lo p) (hi p) p.2.2.2.1 (p.2.2.2.1.length : Int) i) (fun k => perigeeref7_checkPoints.c0 k p.1 p.2.1 p.2.2.1 p.2.2.2.1 p.2.2.2.2 p.2.2.2.1 (p.2.2.2.1.length : Int) i)
  (fun a b => b.1 = (if a.1 = 0 then s else a.1) ∧ (a.1 = 0 → Dots p i)) := by
 intro d
 induction d with
 | zero =>
  intro i hij
  refine Twin.stepL (fun k => by rw [telemetry_checkDots.c0_eq]) (Twin.stepR (fun k => by rw [perigeeref7_checkPoints.c0_eq]) ?_)
  simp only [decide_eq_true_eq]
  refine Twin.noL (by omega) (Twin.noR (by omega) ?_)
  exact ⟨(0, ()), (s, ()), Ev.now _, hs, rfl, fun _ j h1 h2 => by omega⟩
 | succ d ih =>
  intro i hij
  have next := ih (i + 1) (by omega)
  refine Twin.stepL (fun k => by rw [telemetry_checkDots.c0_eq]) (Twin.stepR (fun k => by rw [perigeeref7_checkPoints.c0_eq]) ?_)
  have hraw : ∀ k n, perigeeref7_isRaw.f k (p.1, (p.2.1, (p.2.2.1, (p.2.2.2.1, p.2.2.2.2)))) n = some (decide (lo p ≤ n ∧ n ≤ hi p), ()) := fun k n => isRaw_ev k p hb n
  rw [w64 (x := (i : Int) - 1) (by omega) (by omega), w64 (x := (i : Int) + 1) (by omega) (by omega)]
  simp only [in_ev, hraw, within_ev, Option.bind_some, decide_eq_true_eq, Bool.not_eq_true', decide_eq_false_iff_not, Int.toNat_natCast]
  have fin : (lo p ≤ (p.2.2.2.1.getD i (Ty.dflt YShare)).1 ∧ (p.2.2.2.1.getD i (Ty.dflt YShare)).1 ≤ hi p) → (-1000000000 ≤ (p.2.2.2.1.getD i (Ty.dflt YShare)).2 ∧ (p.2.2.2.1.getD i (Ty.dflt YShare)).2 ≤ 1000000000) → (0 < i → (p.2.2.2.1.getD ((i : Int) - 1).toNat (Ty.dflt YShare)).1 < (p.2.2.2.1.getD i (Ty.dflt YShare)).1) →
   Twin (fun k => telemetry_checkDots.c0 k p.1 p.2.1 p.2.2.1 p.2.2.2.1 p.2.2.2.2 (lo p) (hi p) p.2.2.2.1 (p.2.2.2.1.length : Int) ((i : Int) + 1)) (fun k => perigeeref7_checkPoints.c0 k p.1 p.2.1 p.2.2.1 p.2.2.2.1 p.2.2.2.2 p.2.2.2.1 (p.2.2.2.1.length : Int) ((i : Int) + 1))
    (fun a b => b.1 = (if a.1 = 0 then s else a.1) ∧ (a.1 = 0 → Dots p i)) := by
   intro g1 g2 hlt
   refine Twin.mono next fun a b ⟨h1, h2⟩ => ⟨h1, fun ha j h3 h4 => ?_⟩
   rcases Nat.lt_or_ge i j with h5 | h5
   ·exact h2 ha j h5 h4
   ·obtain rfl : j = i := by omega
    exact ⟨g1, g2, hlt⟩
  repeat' (first | (exfalso; omega) | (refine Twin.ifL (fun h_ => ?_) (fun h_ => ?_)) | (refine Twin.ifR (fun h_ => ?_) (fun h_ => ?_)))
  all_goals first | exact Twin.now ⟨rfl, fun h => absurd h (by decide)⟩ | exact fin (by omega) (by omega) (fun _ => by omega)
theorem dots_ev (p : Par) (hb : 1 ≤ p.2.1 ∧ p.2.1 ≤ 24) (s : Int)
 (hs : Ev (fun k => if 50 < (p.2.2.2.2.length : Int) then some (2, ()) else perigeeref7_checkPoints.c1 k p.1 p.2.1 p.2.2.1 p.2.2.2.1 p.2.2.2.2 p.2.2.2.2 (p.2.2.2.2.length : Int) 0) (s, ())) :
 Twin (fun k => telemetry_checkDots.f k p) (fun k => perigeeref7_checkPoints.f k p) (fun a b => b.1 = (if a.1 = 0 then s else a.1) ∧ (a.1 = 0 → Dots p 0 ∧ p.2.2.2.1.length ≤ 50 ∧ p.2.2.2.1.length ≠ 1)) := by
 simp only [telemetry_checkDots.f_eq, perigeeref7_checkPoints.f_eq, span_ev _ p hb, Option.bind_some, decide_eq_true_eq]
 repeat' (first | (exfalso; omega) | (refine Twin.ifL (fun h_ => ?_) (fun h_ => ?_)) | (refine Twin.ifR (fun h_ => ?_) (fun h_ => ?_)))
 ·exact Twin.now ⟨rfl, fun h => absurd h (by decide)⟩
 ·exact Twin.now ⟨rfl, fun h => absurd h (by decide)⟩
 ·exact Twin.mono (dots_loop p hb (by omega) s hs p.2.2.2.1.length 0 (by omega)) fun a b ⟨h1, h2⟩ => ⟨h1, fun h => ⟨h2 h, by omega, by omega⟩⟩

theorem words_loop (p : Par) (hb : 1 ≤ p.2.1 ∧ p.2.1 ≤ 24) (hl : p.2.2.2.2.length ≤ 50) (hn : ∀ z ∈ p.2.2.2.2, z.2.length ≤ 140737488351232) : ∀ (d i : Nat), i + d = p.2.2.2.2.length →
 Twin (fun k => telemetry_checkWords.c0 k p.1 p.2.1 p.2.2.1 p.2.2.2.1 p.2.2.2.2 (lo p) (hi p) p.2.2.2.2 (p.2.2.2.2.length : Int) i) (fun k => perigeeref7_checkPoints.c1 k p.1 p.2.1 p.2.2.1 p.2.2.2.1 p.2.2.2.2 p.2.2.2.2 (p.2.2.2.2.length : Int) i) (fun a b => a = b) := by
 intro d
 induction d with
 | zero =>
  intro i hij
  refine Twin.stepL (fun k => by rw [telemetry_checkWords.c0_eq]) (Twin.stepR (fun k => by rw [perigeeref7_checkPoints.c1_eq]) ?_)
  simp only [decide_eq_true_eq]
  refine Twin.noL (by omega) (Twin.noR (by omega) ?_)
  exact Twin.now rfl
 | succ d ih =>
  intro i hij
  have next := ih (i + 1) (by omega)
  refine Twin.stepL (fun k => by rw [telemetry_checkWords.c0_eq]) (Twin.stepR (fun k => by rw [perigeeref7_checkPoints.c1_eq]) ?_)
  have hraw : ∀ k n, perigeeref7_isRaw.f k (p.1, (p.2.1, (p.2.2.1, (p.2.2.2.1, p.2.2.2.2)))) n = some (decide (lo p ≤ n ∧ n ≤ hi p), ()) := fun k n => isRaw_ev k p hb n
  have h1 : ((i : Nat) : Int) < (p.2.2.2.2.length : Int) := by omega
  rw [w64 (x := (i : Int) - 1) (by omega) (by omega), w64 (x := (i : Int) + 1) (by omega) (by omega)]
  simp only [in_ev, hraw, within_ev, Option.bind_some, decide_eq_true_eq, Bool.not_eq_true', decide_eq_false_iff_not, Int.toNat_natCast]
  simp only [if_pos h1, if_pos (show (0 : Int) ≤ (i : Int) ∧ (i : Int) < (p.2.2.2.2.length : Int) by omega)]
  obtain ⟨b, e1, e2⟩ := word_ev (p.2.2.2.2.getD i (Ty.dflt YDue)).2 (hn _ (getD_mem (by omega)))
  refine Twin.ifL (fun h2 => Twin.yesR h2 (Twin.now rfl)) (fun h2 => Twin.noR h2 ?_)
  refine Twin.bindL e1 (Twin.bindR e2 ?_)
  refine Twin.ifL (fun h3 => Twin.yesR h3 (Twin.now rfl)) (fun h3 => Twin.noR h3 ?_)
  repeat' (first | (exfalso; omega) | (refine Twin.ifL (fun h_ => ?_) (fun h_ => ?_)) | (refine Twin.ifR (fun h_ => ?_) (fun h_ => ?_)))
  all_goals first | exact Twin.now rfl | exact next
theorem words_ev (p : Par) (hb : 1 ≤ p.2.1 ∧ p.2.1 ≤ 24) (hn : ∀ z ∈ p.2.2.2.2, z.2.length ≤ 140737488351232) :
 ∃ s, Ev (fun k => telemetry_checkWords.f k p) (s, ()) ∧ Ev (fun k => if 50 < (p.2.2.2.2.length : Int) then some (2, ()) else perigeeref7_checkPoints.c1 k p.1 p.2.1 p.2.2.1 p.2.2.2.1 p.2.2.2.2 p.2.2.2.2 (p.2.2.2.2.length : Int) 0) (s, ()) ∧ (s = 0 → p.2.2.2.2.length ≤ 50) := by
 have : Twin (fun k => telemetry_checkWords.f k p) (fun k => if 50 < (p.2.2.2.2.length : Int) then some (2, ()) else perigeeref7_checkPoints.c1 k p.1 p.2.1 p.2.2.1 p.2.2.2.1 p.2.2.2.2 p.2.2.2.2 (p.2.2.2.2.length : Int) 0) (fun a b => a = b ∧ (a.1 = 0 → p.2.2.2.2.length ≤ 50)) := by
  simp only [telemetry_checkWords.f_eq, span_ev _ p hb, Option.bind_some, decide_eq_true_eq]
  repeat' (first | (exfalso; omega) | (refine Twin.ifL (fun h_ => ?_) (fun h_ => ?_)) | (refine Twin.ifR (fun h_ => ?_) (fun h_ => ?_)))
  ·exact Twin.now ⟨rfl, fun h => absurd h (by decide)⟩
  ·exact Twin.mono (words_loop p hb (by omega) hn p.2.2.2.2.length 0 (by omega)) fun a b h => ⟨h, fun _ => by omega⟩
 obtain ⟨a, b, h1, h2, rfl, h3⟩ := this
 exact ⟨a.1, h1, h2, h3⟩

theorem first_ev (a b : Int) : Ev (fun k => kit_First.f k [a, b]) (if a = 0 then b else a, ()) := by
 refine Ev.eq (fun k => by rw [kit_First.f_eq]) ?_
 refine Ev.step (fun k => by rw [kit_First.c0_eq]) ?_
 simp only [decide_eq_true_eq, Bool.not_eq_true', decide_eq_false_iff_not, List.length_cons, List.length_nil]
 rw [show ([a, b] : List Int).getD (0 : Int).toNat 0 = a from rfl, show IntKind.wrap .i64 (0 + 1) = 1 from w64 (by omega) (by omega)]
 refine Ev.yes (by omega) (Ev.yes (by omega) (Ev.split (fun h => ?_) (fun h => ?_)))
 ·rw [if_neg h]
  exact Ev.now _
 ·have h : a = 0 := by simpa using h
  rw [if_pos h]
  refine Ev.step (fun k => by rw [kit_First.c0_eq]) ?_
  simp only [decide_eq_true_eq, Bool.not_eq_true', decide_eq_false_iff_not, List.length_cons, List.length_nil]
  rw [show ([a, b] : List Int).getD (1 : Int).toNat 0 = b from rfl, show IntKind.wrap .i64 (1 + 1) = 2 from w64 (by omega) (by omega)]
  refine Ev.yes (by omega) (Ev.yes (by omega) (Ev.split (fun h => Ev.now _) (fun h => ?_)))
  have h : b = 0 := by simpa using h
  refine Ev.step (fun k => by rw [kit_First.c0_eq]) ?_
  simp only [decide_eq_true_eq]
  refine Ev.no (by simp) ?_
  rw [h]
  exact Ev.now _

def Fit (p : Par) : Prop := (1 ≤ p.2.1 ∧ p.2.1 ≤ 24) ∧ Dots p 0 ∧ p.2.2.2.1.length ≤ 50 ∧ p.2.2.2.1.length ≠ 1 ∧ p.2.2.2.2.length ≤ 50
def Fits (l : List DParameter) (i : Nat) : Prop := ∀ j : Nat, i ≤ j → j < l.length → Fit (l.getD j (Ty.dflt YParameter)) ∧ (0 < j → lessS (l.getD ((j : Int) - 1).toNat (Ty.dflt YParameter)).1 (l.getD j (Ty.dflt YParameter)).1 = true)
theorem params_loop (l : List DParameter) (hl : l.length ≤ 500) (hn : ∀ z ∈ l, okT YParameter z) : ∀ (d i : Nat), i + d = l.length →
 Twin (fun k => telemetry_CheckParameters.c0 k l l (l.length : Int) i) (fun k => perigeeref7_CheckParameters.c0 k l l (l.length : Int) i) (fun a b => a = b ∧ (a.1 = 0 → Fits l i)) := by
 intro d
 induction d with
 | zero =>
  intro i hij
  refine Twin.stepL (fun k => by rw [telemetry_CheckParameters.c0_eq]) (Twin.stepR (fun k => by rw [perigeeref7_CheckParameters.c0_eq]) ?_)
  simp only [decide_eq_true_eq]
  refine Twin.noL (by omega) (Twin.noR (by omega) ?_)
  exact Twin.now ⟨rfl, fun _ j h1 h2 => by omega⟩
 | succ d ih =>
  intro i hij
  have next := ih (i + 1) (by omega)
  refine Twin.stepL (fun k => by rw [telemetry_CheckParameters.c0_eq]) (Twin.stepR (fun k => by rw [perigeeref7_CheckParameters.c0_eq]) ?_)
  have h1 : ((i : Nat) : Int) < (l.length : Int) := by omega
  have hp : okT YParameter (l.getD i (Ty.dflt YParameter)) := hn _ (getD_mem (by omega))
  rw [w64 (x := (i : Int) - 1) (by omega) (by omega), w64 (x := (i : Int) + 1) (by omega) (by omega)]
  simp only [in_ev, within_ev, Option.bind_some, decide_eq_true_eq, Bool.not_eq_true', decide_eq_false_iff_not, Int.toNat_natCast]
  simp only [if_pos h1, if_pos (show (0 : Int) ≤ (i : Int) ∧ (i : Int) < (l.length : Int) by omega)]
  obtain ⟨b, e1, e2⟩ := word_ev (l.getD i (Ty.dflt YParameter)).1 hp.1
  refine Twin.bindL e1 (Twin.bindR e2 ?_)
  refine Twin.ifL (fun h3 => Twin.yesR h3 (Twin.now ⟨rfl, fun h => absurd h (by decide)⟩)) (fun h3 => Twin.noR h3 ?_)
  refine Twin.ifL (fun h4 => Twin.yesR h4 (Twin.now ⟨rfl, fun h => absurd h (by decide)⟩)) (fun h4 => Twin.noR h4 ?_)
  have h4 : 1 ≤ (l.getD i (Ty.dflt YParameter)).2.1 ∧ (l.getD i (Ty.dflt YParameter)).2.1 ≤ 24 := by simpa using h4
  obtain ⟨s, w1, w2, w3⟩ := words_ev (l.getD i (Ty.dflt YParameter)) h4 (fun z hz => (hp.2.2.2.2.2.2 z hz).2)
  obtain ⟨a, c, d1, d2, d4, d3⟩ := dots_ev (l.getD i (Ty.dflt YParameter)) h4 s w2
  refine Twin.bindL d1 (Twin.bindL w1 (Twin.bindL (first_ev a.1 s) (Twin.bindR d2 ?_)))
  rw [d4]
  refine Twin.ifL (fun h5 => Twin.yesR h5 (Twin.now ⟨rfl, fun h => absurd h h5⟩)) (fun h5 => Twin.noR h5 ?_)
  have h5 : (if a.1 = 0 then s else a.1) = 0 := by simpa using h5
  have ha : a.1 = 0 := by
   by_cases h : a.1 = 0
   ·exact h
   ·rw [if_neg h] at h5; exact absurd h5 h
  rw [if_pos ha] at h5
  have fit : Fit (l.getD i (Ty.dflt YParameter)) := ⟨h4, (d3 ha).1, (d3 ha).2.1, (d3 ha).2.2, w3 h5⟩
  have fin : (0 < i → lessS (l.getD ((i : Int) - 1).toNat (Ty.dflt YParameter)).1 (l.getD i (Ty.dflt YParameter)).1 = true) → Twin (fun k => telemetry_CheckParameters.c0 k l l (l.length : Int) ((i : Int) + 1)) (fun k => perigeeref7_CheckParameters.c0 k l l (l.length : Int) ((i : Int) + 1)) (fun a b => a = b ∧ (a.1 = 0 → Fits l i)) := by
   intro hlt
   refine Twin.mono next fun a b ⟨h1, h2⟩ => ⟨h1, fun ha j h3 h4 => ?_⟩
   rcases Nat.lt_or_ge i j with h5 | h5
   ·exact h2 ha j h5 h4
   ·obtain rfl : j = i := by omega
    exact ⟨fit, hlt⟩
  refine Twin.ifL (fun h6 => Twin.yesR h6 ?_) (fun h6 => Twin.noR h6 (fin fun h => absurd h (by omega)))
  refine Twin.yesL (by omega) (Twin.yesR (by omega) ?_)
  refine Twin.ifL (fun h7 => Twin.yesR h7 (Twin.now ⟨rfl, fun h => absurd h (by decide)⟩)) (fun h7 => Twin.noR h7 (fin fun _ => by simpa using h7))
theorem params_ev (l : List DParameter) (h : okT (.sl YParameter) l) : ∃ c, Ev (fun k => telemetry_CheckParameters.f k l) (c, ()) ∧ Ev (fun k => perigeeref7_CheckParameters.f k l) (c, ()) ∧ (c = 0 → l.length ≤ 500 ∧ Fits l 0) := by
 have : Twin (fun k => telemetry_CheckParameters.f k l) (fun k => perigeeref7_CheckParameters.f k l) (fun a b => a = b ∧ (a.1 = 0 → l.length ≤ 500 ∧ Fits l 0)) := by
  simp only [telemetry_CheckParameters.f_eq, perigeeref7_CheckParameters.f_eq, decide_eq_true_eq]
  repeat' (first | (exfalso; omega) | (refine Twin.ifL (fun h_ => ?_) (fun h_ => ?_)) | (refine Twin.ifR (fun h_ => ?_) (fun h_ => ?_)))
  ·exact Twin.now ⟨rfl, fun h => absurd h (by decide)⟩
  ·exact Twin.mono (params_loop l (by omega) h.2.2 l.length 0 (by omega)) fun a b ⟨h1, h2⟩ => ⟨h1, fun h => ⟨by omega, h2 h⟩⟩
 obtain ⟨a, b, h1, h2, rfl, h3⟩ := this
 exact ⟨a.1, h1, h2, h3⟩
end Go.Proofs.Ytcefbdknoelacaa.Pure

-- YtcefbdknoelacaaQ2
set_option linter.unusedVariables false
set_option linter.unusedSimpArgs false
namespace Go.Proofs.Ytcefbdknoelacaa.Pure
open Go Go.Proofs.Ytcefbdknoelacaa.A

theorem u64_in {x : Int} (h : 0 ≤ x) (h' : x < 18446744073709551616) : IntKind.wrap .u64 x = x := by
 have e1 : (2 : Int) ^ 64 = 18446744073709551616 := rfl
 simp only [IntKind.wrap, IntKind.bits, IntKind.signed, e1, Bool.false_and]
 simp
 omega
theorem shr_half (x : Int) : shrI .u64 x 1 = x / 2 := by
 unfold shrI
 exact Int.fdiv_eq_ediv_of_nonneg _ (by decide)

abbrev nameOf (l : List DParameter) (j : Nat) : List UInt8 := (l.getD j (Ty.dflt YParameter)).1
theorem sorted {l : List DParameter} (h : Fits l 0) : ∀ (b a : Nat), a < b → b < l.length → lessS (nameOf l a) (nameOf l b) = true := by
 intro b
 induction b with
 | zero => intro a h1; omega
 | succ b ih =>
  intro a h1 h2
  have h3 := (h (b + 1) (by omega) h2).2 (by omega)
  rw [show (((b + 1 : Nat) : Int) - 1).toNat = b by omega] at h3
  rcases Nat.lt_or_ge a b with h4 | h4
  ·exact less_trans (ih a h4 (by omega)) h3
  ·obtain rfl : a = b := by omega
   exact h3
structure Place (l : List DParameter) (t : List UInt8) (p : Nat) : Prop where
 le : p ≤ l.length
 low : ∀ j, j < p → lessS (nameOf l j) t = true
 high : ∀ j, p ≤ j → j < l.length → ¬ lessS (nameOf l j) t = true
theorem search_loop (l : List DParameter) (hl : l.length ≤ 500) (hf : Fits l 0) (t : List UInt8) : ∀ (d i j : Nat), j = i + d → j ≤ l.length → (∀ m, m < i → lessS (nameOf l m) t = true) → (∀ m, j ≤ m → m < l.length → ¬ lessS (nameOf l m) t = true) →
 ∃ p, Place l t p ∧ Ev (fun k => slices_BinarySearchFunc_string.c0 k l t (l.length : Int) i j) ((p : Int), decide (p < l.length ∧ nameOf l p = t), ()) := by
 intro d
 induction d using Nat.strongRecOn with
 | _ d ih =>
  intro i j hj hjl hlow hhigh
  rcases Nat.eq_zero_or_pos d with h0 | h0
  ·subst h0
   have hij : j = i := by omega
   subst hij
   refine ⟨j, ⟨hjl, hlow, hhigh⟩, ?_⟩
   refine Ev.step (fun k => by rw [slices_BinarySearchFunc_string.c0_eq]) ?_
   simp only [decide_eq_true_eq, telemetry_parameter_1.f_eq, Option.bind_some]
   refine Ev.no (by omega) ?_
   by_cases h1 : (j : Int) < (l.length : Int)
   ·refine Ev.yes h1 (Ev.yes (by omega) (Ev.is ?_))
    rw [Int.toNat_natCast]
    have h2 := hhigh j (Nat.le_refl _) (by omega)
    unfold cmpS
    rw [if_neg h2]
    show ((j : Int), decide _, ()) = ((j : Int), decide (j < l.length ∧ (l.getD j (Ty.dflt YParameter)).1 = t), ())
    by_cases h4 : (l.getD j (Ty.dflt YParameter)).1 = t
    ·rw [h4, show lessS t t = false from less_irrefl t, decide_eq_true (p := j < l.length ∧ t = t) ⟨by omega, rfl⟩]
     rfl
    ·have h6 : lessS t (l.getD j (Ty.dflt YParameter)).1 = true := less_tri h2 h4
     rw [if_pos h6]
     rw [decide_eq_false (p := j < l.length ∧ (l.getD j (Ty.dflt YParameter)).1 = t) (fun h => h4 h.2)]
     rfl
   ·refine Ev.no h1 (Ev.is ?_)
    rw [decide_eq_false (p := j < l.length ∧ nameOf l j = t) (by omega)]
  ·have hm : ∃ m : Nat, IntKind.wrap .i64 (shrI .u64 (IntKind.wrap .u64 (IntKind.wrap .i64 ((i : Int) + (j : Int)))) 1) = (m : Int) ∧ m = (i + j) / 2 := by
    refine ⟨(i + j) / 2, ?_, rfl⟩
    rw [w64 (x := (i : Int) + (j : Int)) (by omega) (by omega), u64_in (by omega) (by omega), shr_half, w64 (by omega) (by omega)]
    omega
   obtain ⟨m, hm, hm2⟩ := hm
   have hmi : i ≤ m ∧ m < j := by omega
   rcases Classical.em (lessS (nameOf l m) t = true) with h1 | h1
   ·obtain ⟨p, hp, hev⟩ := ih (j - (m + 1)) (by omega) (m + 1) j (by omega) hjl (fun a ha => by
     rcases Nat.lt_or_ge a m with h2 | h2
     ·exact less_trans (sorted hf m a h2 (by omega)) h1
     ·obtain rfl : a = m := by omega
      exact h1) hhigh
    refine ⟨p, hp, ?_⟩
    refine Ev.step (fun k => by rw [slices_BinarySearchFunc_string.c0_eq]) ?_
    rw [hm, w64 (x := (m : Int) + 1) (by omega) (by omega)]
    simp only [decide_eq_true_eq, telemetry_parameter_1.f_eq, Option.bind_some, Int.toNat_natCast, cmpS]
    refine Ev.yes (by omega) (Ev.yes (by omega) (Ev.yes ?_ hev))
    rw [if_pos h1]; decide
   ·obtain ⟨p, hp, hev⟩ := ih (m - i) (by omega) i m (by omega) (by omega) hlow (fun a ha hb => by
     rcases Nat.lt_or_ge m a with h2 | h2
     ·intro h3
      exact h1 (less_trans (sorted hf a m h2 hb) h3)
     ·obtain rfl : a = m := by omega
      exact h1)
    refine ⟨p, hp, ?_⟩
    refine Ev.step (fun k => by rw [slices_BinarySearchFunc_string.c0_eq]) ?_
    rw [hm]
    simp only [decide_eq_true_eq, telemetry_parameter_1.f_eq, Option.bind_some, Int.toNat_natCast, cmpS]
    refine Ev.yes (by omega) (Ev.yes (by omega) (Ev.no ?_ hev))
    rw [if_neg h1]; split <;> omega

def findP (l : List DParameter) (t : List UInt8) : Option DParameter := l.find? fun p => decide (p.1 = t)
def fnd : Option DParameter → DParameter × Bool × Unit
 | some p => (p, true, ())
 | none => (([], (0, (false, ([], [])))), false, ())
theorem findP_some {l : List DParameter} {t : List UInt8} {p : DParameter} (h : findP l t = some p) : p ∈ l ∧ p.1 = t :=
 ⟨List.mem_of_find?_eq_some h, by simpa using List.find?_some h⟩
theorem findP_none {l : List DParameter} {t : List UInt8} (h : findP l t = none) : ∀ p ∈ l, p.1 ≠ t := by
 intro p hp e
 have := List.find?_eq_none.1 h p hp
 simp [e] at this
theorem inj_name {l : List DParameter} (hf : Fits l 0) {p q : DParameter} (hp : p ∈ l) (hq : q ∈ l) (h : p.1 = q.1) : p = q := by
 obtain ⟨i, hi, rfl⟩ := List.getElem_of_mem hp
 obtain ⟨j, hj, rfl⟩ := List.getElem_of_mem hq
 have no : ∀ a b : Nat, (ha : a < l.length) → (hb : b < l.length) → a < b → l[a].1 ≠ l[b].1 := by
  intro a b ha hb hab
  have := sorted hf b a hab hb
  unfold nameOf at this
  rw [getD_nat _ _ _ ha, getD_nat _ _ _ hb] at this
  exact less_ne this
 rcases Nat.lt_trichotomy i j with h1 | h1 | h1
 ·exact absurd h (no i j hi hj h1)
 ·subst h1; rfl
 ·exact absurd h.symm (no j i hj hi h1)
theorem findP_of {l : List DParameter} (hf : Fits l 0) {p : DParameter} (hp : p ∈ l) : findP l p.1 = some p := by
 cases h : findP l p.1 with
 | none => exact absurd rfl (findP_none h p hp)
 | some q => obtain ⟨h1, h2⟩ := findP_some h; rw [inj_name hf h1 hp h2]
theorem mem_fit {l : List DParameter} (hf : Fits l 0) {p : DParameter} (hp : p ∈ l) : Fit p := by
 obtain ⟨i, hi, rfl⟩ := List.getElem_of_mem hp
 have := (hf i (by omega) hi).1
 rw [getD_nat _ _ _ hi] at this
 exact this
theorem parameter_ev (l : List DParameter) (hl : l.length ≤ 500) (hf : Fits l 0) (t : List UInt8) : Ev (fun k => telemetry_parameter.f k l t) (fnd (findP l t)) := by
 obtain ⟨p, hp, hev⟩ := search_loop l hl hf t l.length 0 l.length (by omega) (by omega) (fun m h => by omega) (fun m h h' => by omega)
 refine Ev.eq (fun k => by rw [telemetry_parameter.f_eq, slices_BinarySearchFunc_string.f_eq]) ?_
 refine Ev.bind hev ?_
 by_cases h : p < l.length ∧ nameOf l p = t
 ·have : findP l t = some (l.getD p (Ty.dflt YParameter)) := by
   rw [← h.2]; exact findP_of hf (getD_mem h.1)
  rw [this]
  simp only [decide_eq_true h]
  refine Ev.no (by simp) (Ev.yes (by omega) ?_)
  rw [Int.toNat_natCast]
  exact Ev.now _
 ·have : findP l t = none := by
   cases e : findP l t with
   | none => rfl
   | some q =>
    exfalso
    obtain ⟨h1, h2⟩ := findP_some e
    obtain ⟨i, hi, rfl⟩ := List.getElem_of_mem h1
    have e1 : nameOf l i = t := by unfold nameOf; rw [getD_nat _ _ _ hi]; exact h2
    rcases Nat.lt_trichotomy i p with h3 | h3 | h3
    ·exact less_ne (hp.low i h3) e1
    ·subst h3; exact h ⟨hi, e1⟩
    ·have := sorted hf i p h3 hi
     rw [e1] at this
     exact hp.high p (Nat.le_refl _) (by omega) this
  rw [this]
  simp only [decide_eq_false h]
  exact Ev.yes (by simp) (Ev.now _)
theorem find_ev (l : List DParameter) (hl : l.length ≤ 4611686018427387904) (t : List UInt8) : Ev (fun k => perigeeref7_find.f k l t) (fnd (findP l t)) := by
 have loop : ∀ (d i : Nat), i + d = l.length → Ev (fun k => perigeeref7_find.c0 k t [] 0 false [] [] l (l.length : Int) i) (fnd (findP (l.drop i) t)) := by
  intro d
  induction d with
  | zero =>
   intro i hi
   refine Ev.step (fun k => by rw [perigeeref7_find.c0_eq]) ?_
   simp only [decide_eq_true_eq]
   refine Ev.no (by omega) ?_
   rw [List.drop_of_length_le (by omega)]
   exact Ev.now _
  | succ d ih =>
   intro i hi
   have next := ih (i + 1) (by omega)
   refine Ev.step (fun k => by rw [perigeeref7_find.c0_eq]) ?_
   rw [w64 (x := (i : Int) + 1) (by omega) (by omega), List.drop_eq_getElem_cons (show i < l.length by omega)]
   simp only [decide_eq_true_eq, Int.toNat_natCast, getD_nat (Ty.dflt YParameter) l i (by omega)]
   refine Ev.yes (by omega) (Ev.yes (by omega) (Ev.split (fun h => ?_) (fun h => ?_)))
   ·unfold findP
    rw [List.find?_cons_of_pos (by simpa using h)]
    exact Ev.now _
   ·unfold findP
    rw [List.find?_cons_of_neg (by simpa using h)]
    exact next
 refine Ev.eq (fun k => by rw [perigeeref7_find.f_eq]) ?_
 exact loop l.length 0 (by omega)

def findL (l : List DLayout) (t : List UInt8) : Option DLayout := l.find? fun p => decide (p.1 = t)
def fndL : Option DLayout → DLayout × Bool × Unit
 | some p => (p, true, ())
 | none => (([], []), false, ())
theorem layout_ev (l : List DLayout) (hl : l.length ≤ 4611686018427387904) (t : List UInt8) : Ev (fun k => telemetry_layout.f k l t) (fndL (findL l t)) := by
 have loop : ∀ (d i : Nat), i + d = l.length → Ev (fun k => telemetry_layout.c0 k t [] [] l (l.length : Int) i) (fndL (findL (l.drop i) t)) := by
  intro d
  induction d with
  | zero =>
   intro i hi
   refine Ev.step (fun k => by rw [telemetry_layout.c0_eq]) ?_
   simp only [decide_eq_true_eq]
   refine Ev.no (by omega) ?_
   rw [List.drop_of_length_le (by omega)]
   exact Ev.now _
  | succ d ih =>
   intro i hi
   have next := ih (i + 1) (by omega)
   refine Ev.step (fun k => by rw [telemetry_layout.c0_eq]) ?_
   rw [w64 (x := (i : Int) + 1) (by omega) (by omega), List.drop_eq_getElem_cons (show i < l.length by omega)]
   simp only [decide_eq_true_eq, Int.toNat_natCast, getD_nat (Ty.dflt YLayout) l i (by omega)]
   refine Ev.yes (by omega) (Ev.yes (by omega) (Ev.split (fun h => ?_) (fun h => ?_)))
   ·unfold findL
    rw [List.find?_cons_of_pos (by simpa using h)]
    exact Ev.now _
   ·unfold findL
    rw [List.find?_cons_of_neg (by simpa using h)]
    exact next
 refine Ev.eq (fun k => by rw [telemetry_layout.f_eq]) ?_
 exact loop l.length 0 (by omega)
theorem findL_some {l : List DLayout} {t : List UInt8} {p : DLayout} (h : findL l t = some p) : p ∈ l ∧ p.1 = t :=
 ⟨List.mem_of_find?_eq_some h, by simpa using List.find?_some h⟩
end Go.Proofs.Ytcefbdknoelacaa.Pure

-- YtcefbdknoelacaaBt
set_option linter.unusedVariables false
set_option linter.unusedSimpArgs false
namespace Go.Proofs.Ytcefbdknoelacaa.Pure
open Go Go.Proofs.Ytcefbdknoelacaa.A

theorem wrap_u8 {x : Int} (h : 0 ≤ x) (h' : x < 256) : IntKind.wrap .u8 x = x := by
 have e1 : (2 : Int) ^ 8 = 256 := rfl
 simp only [IntKind.wrap, IntKind.bits, IntKind.signed, e1, Bool.false_and]
 simp
 omega
theorem and_bit (x : Int) : bitsOp .i64 .and x 1 = x % 2 := by
 have e0 : (BitVec.ofInt 64 x &&& BitVec.ofInt 64 1).toNat = (x % 2).toNat := by
  have e1 : (BitVec.ofInt 64 1).toNat = 1 := by decide
  rw [BitVec.toNat_and, e1, Nat.and_one_is_mod, BitVec.toNat_ofInt]
  have : ((2 ^ 64 : Nat) : Int) = 18446744073709551616 := rfl
  rw [this]
  omega
 show IntKind.wrap .i64 ((BitVec.ofInt 64 x &&& BitVec.ofInt 64 1).toNat : Nat) = x % 2
 rw [e0, w64 (by omega) (by omega)]
 omega
theorem and_bit8 (n : Nat) (h : n < 256) : bitsOp .u8 .and (n : Int) 1 = ((n % 2 : Nat) : Int) := by
 have e0 : (BitVec.ofInt 8 (n : Int) &&& BitVec.ofInt 8 1).toNat = n % 2 := by
  have e1 : (BitVec.ofInt 8 1).toNat = 1 := by decide
  rw [BitVec.toNat_and, e1, Nat.and_one_is_mod, BitVec.toNat_ofInt]
  have : ((2 ^ 8 : Nat) : Int) = 256 := rfl
  rw [this]
  omega
 show IntKind.wrap .u8 ((BitVec.ofInt 8 (n : Int) &&& BitVec.ofInt 8 1).toNat : Nat) = ((n % 2 : Nat) : Int)
 rw [e0, wrap_u8 (by omega) (by omega)]
theorem or8 (a b : Nat) (ha : a < 256) (hb : b < 256) : bitsOp .u8 .or (a : Int) (b : Int) = ((a ||| b : Nat) : Int) := by
 have e0 : (BitVec.ofInt 8 (a : Int) ||| BitVec.ofInt 8 (b : Int)).toNat = a ||| b := by
  have : ((2 ^ 8 : Nat) : Int) = 256 := rfl
  rw [BitVec.toNat_or, BitVec.toNat_ofInt, BitVec.toNat_ofInt, this]
  rw [show ((a : Int) % 256).toNat = a by omega, show ((b : Int) % 256).toNat = b by omega]
 have h1 : a ||| b < 2 ^ 8 := Nat.or_lt_two_pow (by omega) (by omega)
 show IntKind.wrap .u8 ((BitVec.ofInt 8 (a : Int) ||| BitVec.ofInt 8 (b : Int)).toNat : Nat) = ((a ||| b : Nat) : Int)
 rw [e0, wrap_u8 (by omega) (by omega)]
theorem shr8 (n k : Nat) (h : n < 256) (hk : k ≤ 8) : shrI .u8 (n : Int) (k : Int) = ((n >>> k : Nat) : Int) := by
 unfold shrI
 rw [Int.toNat_natCast, show IntKind.bits .u8 = 8 from rfl, Nat.min_eq_left hk, Nat.shiftRight_eq_div_pow, Int.natCast_ediv, Int.natCast_pow]
 exact Int.fdiv_eq_ediv_of_nonneg _ (by have : (0 : Int) < 2 ^ k := Int.pow_pos (by omega); omega)
theorem shr64 (x : Int) (k : Nat) (hk : k ≤ 64) : shrI .i64 x (k : Int) = x / 2 ^ k := by
 unfold shrI
 rw [Int.toNat_natCast, show IntKind.bits .i64 = 64 from rfl, Nat.min_eq_left hk]
 exact Int.fdiv_eq_ediv_of_nonneg _ (by have : (0 : Int) < 2 ^ k := Int.pow_pos (by omega); omega)
theorem shl8 (n k : Nat) (hn : n ≤ 1) (hk : k ≤ 7) : shlI .u8 (n : Int) (k : Int) = ((n <<< k : Nat) : Int) := by
 have : ∀ (n : Fin 2) (k : Fin 8), shlI .u8 ((n.val : Nat) : Int) ((k.val : Nat) : Int) = ((n.val <<< k.val : Nat) : Int) := by decide +kernel
 exact this ⟨n, by omega⟩ ⟨k, by omega⟩
def bitAt (b : List Int) (i : Nat) : Bool := (b.getD (i / 8) 0).toNat.testBit (7 - i % 8)
def Bytes (b : List Int) : Prop := ∀ x ∈ b, 0 ≤ x ∧ x < 256
theorem Bytes.at {b : List Int} (h : Bytes b) (i : Nat) : 0 ≤ b.getD i 0 ∧ b.getD i 0 < 256 := by
 rcases Nat.lt_or_ge i b.length with hi | hi
 ·exact h _ (getD_mem hi)
 ·rw [List.getD_eq_getElem?_getD, List.getElem?_eq_none hi]; simp
theorem bitAt_out {b : List Int} {i : Nat} (h : 8 * b.length ≤ i) : bitAt b i = false := by
 unfold bitAt
 rw [List.getD_eq_getElem?_getD, List.getElem?_eq_none (by omega)]
 simp
structure Pack (b : List Int) (L : List Bool) : Prop where
 by_ : Bytes b
 len : b.length = (L.length + 7) / 8
 bit : ∀ i, bitAt b i = L.getD i false
theorem Pack.nil : Pack [] [] := ⟨fun x h => by simp at h, rfl, fun i => by simp [bitAt]⟩
def putAt (b : List Int) (i : Nat) (x : Nat) : List Int := b.set (i / 8) ((((b.getD (i / 8) 0).toNat ||| (x <<< (7 - i % 8))) : Nat) : Int)
theorem one_shl_testBit (k t : Nat) : (1 <<< k).testBit t = decide (k = t) := by
 rw [Nat.one_shiftLeft]; exact Nat.testBit_two_pow
theorem bitAt_put {b : List Int} (hb : Bytes b) (i : Nat) (hi : i < 8 * b.length) (x : Nat) (hx : x ≤ 1) (j : Nat) : bitAt (putAt b i x) j = (bitAt b j || (decide (j = i) && decide (x = 1))) := by
 unfold bitAt putAt
 rw [List.getD_eq_getElem?_getD, List.getElem?_set]
 by_cases h1 : i / 8 = j / 8
 ·rw [if_pos h1, if_pos (by omega)]
  simp only [Option.getD_some, Int.toNat_natCast, Nat.testBit_or, ← h1]
  congr 1
  rcases (show x = 0 ∨ x = 1 by omega) with rfl | rfl
  ·simp
  ·rw [one_shl_testBit]
   simp only [decide_true, Bool.and_true]
   exact decide_eq_decide.2 ⟨fun h => by omega, fun h => by omega⟩
 ·rw [if_neg h1, ← List.getD_eq_getElem?_getD]
  have : ¬ j = i := fun h => h1 (by rw [h])
  simp [this]
theorem bytes_put {b : List Int} (hb : Bytes b) (i : Nat) (x : Nat) (hx : x ≤ 1) : Bytes (putAt b i x) := by
 intro y hy
 unfold putAt at hy
 rcases List.mem_or_eq_of_mem_set hy with h | h
 ·exact hb y h
 ·have := hb.at (i / 8)
  have h1 : (b.getD (i / 8) 0).toNat ||| (x <<< (7 - i % 8)) < 2 ^ 8 := by
   refine Nat.or_lt_two_pow (by omega) ?_
   rw [Nat.shiftLeft_eq]
   have : 2 ^ (7 - i % 8) ≤ 2 ^ 7 := Nat.pow_le_pow_right (by omega) (by omega)
   have : x * 2 ^ (7 - i % 8) ≤ 1 * 2 ^ (7 - i % 8) := Nat.mul_le_mul_right _ hx
   omega
  rw [h]
  omega
theorem putAt_length (b : List Int) (i x : Nat) : (putAt b i x).length = b.length := by simp [putAt]
theorem Pack.push {b : List Int} {L : List Bool} (h : Pack b L) (x : Nat) (hx : x ≤ 1) : Pack (putAt (if L.length % 8 = 0 then b ++ [0] else b) L.length x) (L ++ [decide (x = 1)]) := by
 have hb2 : Bytes (if L.length % 8 = 0 then b ++ [0] else b) := by
  split
  ·intro y hy
   rcases List.mem_append.1 hy with hy | hy
   ·exact h.by_ y hy
   ·simp at hy; omega
  ·exact h.by_
 have hl2 : (if L.length % 8 = 0 then b ++ [0] else b).length = (L.length + 8) / 8 := by
  have := h.len
  split
  ·simp only [List.length_append, List.length_cons, List.length_nil]; omega
  ·omega
 have hbit : ∀ j, bitAt (if L.length % 8 = 0 then b ++ [0] else b) j = bitAt b j := by
  intro j
  split
  ·unfold bitAt
   congr 2
   rw [List.getD_eq_getElem?_getD, List.getD_eq_getElem?_getD]
   rcases Nat.lt_trichotomy (j / 8) b.length with h1 | h1 | h1
   ·rw [List.getElem?_append_left h1]
   ·rw [List.getElem?_append_right (by omega), h1, Nat.sub_self, List.getElem?_eq_none (Nat.le_refl _)]; rfl
   ·rw [List.getElem?_eq_none (by simp; omega), List.getElem?_eq_none (by omega)]
  ·rfl
 refine ⟨bytes_put hb2 _ x hx, ?_, fun i => ?_⟩
 ·rw [putAt_length, hl2, List.length_append, List.length_cons, List.length_nil]
 ·rw [bitAt_put hb2 _ (by rw [hl2]; omega) x hx, hbit, h.bit]
  rw [List.getD_eq_getElem?_getD, List.getD_eq_getElem?_getD, List.getElem?_append]
  rcases Nat.lt_trichotomy i L.length with h1 | h1 | h1
  ·rw [if_pos h1]
   have : ¬ i = L.length := by omega
   simp [this]
  ·subst h1
   simp
  ·rw [if_neg (by omega), List.getElem?_eq_none (by omega), List.getElem?_eq_none (by simp; omega)]
   have : ¬ i = L.length := by omega
   simp [this]

def nbits (n : Int) : Nat → List Bool
 | 0 => []
 | k + 1 => decide (n / 2 ^ k % 2 = 1) :: nbits n k
def num : Int → List Bool → Int
 | a, [] => a
 | a, b :: L => num (2 * a + (if b = true then 1 else 0)) L
theorem nbits_length (n : Int) : ∀ k, (nbits n k).length = k
 | 0 => rfl
 | k + 1 => by simp [nbits, nbits_length n k]
theorem num_acc : ∀ (L : List Bool) (a : Int), num a L = a * 2 ^ L.length + num 0 L
 | [], a => by simp [num]
 | b :: L, a => by
  rw [num, num, num_acc L (2 * a + _), num_acc L (2 * 0 + _), List.length_cons, Int.pow_succ]
  have : (2 * a + (if b = true then 1 else 0)) * 2 ^ L.length = a * (2 ^ L.length * 2) + (2 * 0 + (if b = true then 1 else 0)) * 2 ^ L.length := by
   rw [Int.add_mul, Int.mul_comm 2 a, Int.mul_assoc, Int.mul_comm 2 (2 ^ L.length)]
   simp
  omega
theorem num_bd : ∀ (L : List Bool), 0 ≤ num 0 L ∧ num 0 L < 2 ^ L.length
 | [] => by simp [num]
 | b :: L => by
  rw [num, num_acc, List.length_cons, Int.pow_succ]
  have := num_bd L
  cases b <;> simp <;> omega
theorem num_nbits (n : Int) : ∀ k, num 0 (nbits n k) = n % 2 ^ k
 | 0 => by simp [num, nbits]
 | k + 1 => by
  rw [nbits, num, num_acc, nbits_length, num_nbits n k, Int.pow_succ]
  have h1 := Int.mul_ediv_add_emod n (2 ^ k)
  have p : (0 : Int) < 2 ^ k := Int.pow_pos (by omega)
  have h2 := Int.emod_nonneg n (show (2 : Int) ^ k ≠ 0 by omega)
  have h3 := Int.emod_lt_of_pos n p
  generalize hq : n / 2 ^ k = q at h1 ⊢
  generalize hr : n % 2 ^ k = r at h1 h2 h3 ⊢
  generalize (2 : Int) ^ k = P at *
  have h4 := Int.mul_ediv_add_emod q 2
  have : (2 * 0 + (if decide (q % 2 = 1) = true then 1 else 0) : Int) = q % 2 := by
   rcases (show q % 2 = 0 ∨ q % 2 = 1 by omega) with h | h <;> simp [h]
  rw [this]
  have e : n = (P * 2) * (q / 2) + ((q % 2) * P + r) := by
   have : P * q = P * (2 * (q / 2) + q % 2) := by rw [h4]
   rw [Int.mul_add, ← Int.mul_assoc] at this
   rw [← h1, this, Int.mul_comm (q % 2) P]
   omega
  have lt : (q % 2) * P + r < P * 2 ∧ 0 ≤ (q % 2) * P + r := by
   rcases (show q % 2 = 0 ∨ q % 2 = 1 by omega) with h | h <;> rw [h] <;> omega
  rw [e, Int.mul_add_emod_self_left, Int.emod_eq_of_lt lt.2 lt.1]
end Go.Proofs.Ytcefbdknoelacaa.Pure

-- YtcefbdknoelacaaLp
set_option linter.unusedVariables false
set_option linter.unusedSimpArgs false
namespace Go.Proofs.Ytcefbdknoelacaa.Pure
open Go Go.Proofs.Ytcefbdknoelacaa.A

theorem Ev.rng {α β σ : Type} (z : α) (l : List α) (hl : l.length ≤ 4611686018427387904) {g : Nat → σ → Int → Option β} {B : Nat → σ → Int → Option β} {E : Nat → σ → Option β}
 (hg : ∀ k s i, g (k + 1) s i = if decide (i < (l.length : Int)) = true then (if (0 : Int) ≤ i ∧ i < (l.length : Int) then B k s i else none) else E k s)
 (Inv : Nat → σ → Prop) (spec : List α → Nat → σ → β)
 (hfin : ∀ s, Inv l.length s → Ev (fun k => E k s) (spec [] l.length s))
 (hstep : ∀ (i : Nat) (x : α) (xs : List α) (s : σ), i < l.length → x ∈ l → l.drop i = x :: xs → l.getD i z = x → IntKind.wrap .i64 ((i : Int) + 1) = (i : Int) + 1 → Inv i s →
  (∀ s', Inv (i + 1) s' → Ev (fun k => g k s' ((i : Int) + 1)) (spec xs (i + 1) s')) → Ev (fun k => B k s i) (spec (x :: xs) i s)) :
 ∀ (i : Nat) (s : σ), i ≤ l.length → Inv i s → Ev (fun k => g k s i) (spec (l.drop i) i s) := by
 have loop : ∀ (d i : Nat) (s : σ), i + d = l.length → Inv i s → Ev (fun k => g k s i) (spec (l.drop i) i s) := by
  intro d
  induction d with
  | zero =>
   intro i s hi hs
   have : i = l.length := by omega
   subst this
   refine Ev.step (fun k => hg k s _) ?_
   refine Ev.no (by simp) ?_
   rw [List.drop_length]
   exact hfin s hs
  | succ d ih =>
   intro i s hi hs
   refine Ev.step (fun k => hg k s _) ?_
   refine Ev.yes (by simp; omega) (Ev.yes (by omega) ?_)
   rw [List.drop_eq_getElem_cons (show i < l.length by omega)]
   refine hstep i _ _ s (by omega) (List.getElem_mem _) (List.drop_eq_getElem_cons (by omega)) (getD_nat z l i (by omega)) (w64 (by omega) (by omega)) hs fun s' hs' => ?_
   have := ih (i + 1) s' (by omega) hs'
   rw [show ((i + 1 : Nat) : Int) = (i : Int) + 1 by omega] at this
   exact this
 exact fun i s hi hs => loop (l.length - i) i s (by omega) hs
theorem Ev.cast {α : Type} {g : Nat → Option α} {a b : α} (h : a = b) (e : Ev g a) : Ev g b := h ▸ e

theorem eqV_iff : ∀ {τ : Ty}, τ.eqB = true → ∀ {x y : τ.den}, eqV τ x y = true ↔ x = y := by
 intro τ
 induction τ with
 | pair a b iha ihb =>
  intro h x y
  simp only [Ty.eqB, Bool.and_eq_true] at h
  simp only [eqV, Bool.and_eq_true, iha h.1, ihb h.2]
  exact ⟨fun h => Prod.ext h.1 h.2, fun h => by rw [h]; exact ⟨rfl, rfl⟩⟩
 | bool => intro _ x y; exact decide_eq_true_iff
 | int k => intro _ x y; exact decide_eq_true_iff
 | str => intro _ x y; exact decide_eq_true_iff
 | unit => intro h; simp [Ty.eqB] at h
 | sl e _ => intro h; simp [Ty.eqB] at h
 | vec e _ => intro h; simp [Ty.eqB] at h
 | map k e _ _ => intro h; simp [Ty.eqB] at h
 | fnv f => intro h; simp [Ty.eqB] at h
theorem eq_loop {α : Type} (z : α) {e : α → α → Bool} (he : ∀ x y, e x y = true ↔ x = y) (a b : List α) (hl : a.length ≤ 4611686018427387904) (hab : a.length = b.length) {g : Nat → Int → Option (Bool × Unit)}
 (hg : ∀ k i, g (k + 1) i = if decide (i < (a.length : Int)) = true then (if (0 : Int) ≤ i ∧ i < (a.length : Int) then (if (0 : Int) ≤ i ∧ i < (b.length : Int) then (if (!(e (a.getD i.toNat z) (b.getD i.toNat z))) = true then some (false, ()) else g k (IntKind.wrap .i64 (i + 1))) else none) else none) else some (true, ())) :
 ∃ r, Ev (fun k => g k 0) (r, ()) ∧ (r = true ↔ a = b) := by
 classical
 have := Ev.rng (σ := Unit) z a hl (g := fun k _ i => g k i) (fun k s i => hg k i) (fun i _ => True)
  (fun r i _ => (decide (∀ j : Nat, i ≤ j → j < a.length → a.getD j z = b.getD j z), ())) (fun _ _ => Ev.is (by
   rw [decide_eq_true]
   intro j h1 h2; omega)) (fun i x xs _ hi hx _ hget hw _ next => by
   simp only [Int.toNat_natCast, hget, hw, Bool.not_eq_true']
   refine Ev.yes (by omega) (Ev.split (fun h => ?_) (fun h => ?_))
   ·refine Ev.is ?_
    rw [decide_eq_false]
    intro hh
    have := hh i (Nat.le_refl _) hi
    rw [hget] at this
    rw [(he _ _).2 this] at h
    cases h
   ·refine Ev.cast ?_ (next () trivial)
    have h : x = b.getD i z := (he _ _).1 (by simpa using h)
    refine congrArg (fun b => (b, ())) (decide_eq_decide.2 ⟨fun hh j h1 h2 => ?_, fun hh j h1 h2 => hh j (by omega) h2⟩)
    rcases Nat.lt_or_ge i j with h3 | h3
    ·exact hh j h3 h2
    ·obtain rfl : j = i := by omega
     rw [hget]; exact h) 0 () (by omega) trivial
 refine ⟨_, this, ?_⟩
 rw [decide_eq_true_iff]
 refine ⟨fun h => List.ext_getElem hab fun j h1 h2 => ?_, fun h => by rw [h]; exact fun _ _ _ => rfl⟩
 have := h j (by omega) h1
 rw [getD_nat z a j h1, getD_nat z b j h2] at this
 exact this
end Go.Proofs.Ytcefbdknoelacaa.Pure

-- YtcefbdknoelacaaQ4
set_option linter.unusedVariables false
set_option linter.unusedSimpArgs false
namespace Go.Proofs.Ytcefbdknoelacaa.Pure
open Go Go.Proofs.Ytcefbdknoelacaa.A

theorem has_iff (s : List UInt8) : ∀ (m : List (List UInt8 × Bool)), (∀ p ∈ m, p.2 = true) → (mapGet .str .bool s m false = true ↔ s ∈ m.map (·.1))
 | [], _ => by simp [mapGet]
 | p :: m, h => by
  have ih := has_iff s m (fun q hq => h q (by simp [hq]))
  unfold mapGet
  by_cases e : p.1 = s
  ·have e2 : eqV .str p.1 s = true := decide_eq_true e
   rw [if_pos e2]
   simp [h p (by simp), e]
  ·have e2 : ¬ eqV .str p.1 s = true := fun hh => e (of_decide_eq_true hh)
   rw [if_neg e2, ih]
   have : ¬ s = p.1 := fun hh => e hh.symm
   simp [this]
theorem put_keys (s : List UInt8) : ∀ (m : List (List UInt8 × Bool)), (∀ p ∈ m, p.2 = true) → (∀ p ∈ mapPut .str .bool s true m, p.2 = true) ∧ (∀ t, t ∈ (mapPut .str .bool s true m).map (·.1) ↔ (t ∈ m.map (·.1) ∨ t = s))
 | [], _ => by simp [mapPut]
 | p :: m, h => by
  have ih := put_keys s m (fun q hq => h q (by simp [hq]))
  unfold mapPut
  by_cases e : p.1 = s
  ·have e2 : eqV .str p.1 s = true := decide_eq_true e
   rw [if_pos e2]
   refine ⟨fun q hq => ?_, fun t => ?_⟩
   ·rcases List.mem_cons.1 hq with rfl | hq
    ·rfl
    ·exact h q (by simp [hq])
   ·simp only [List.map_cons, List.mem_cons, e]
    exact ⟨fun h => h.elim .inr fun h => .inl (.inr h), fun h => h.elim (fun h => h) .inl⟩
  ·have e2 : ¬ eqV .str p.1 s = true := fun hh => e (of_decide_eq_true hh)
   rw [if_neg e2]
   refine ⟨fun q hq => ?_, fun t => ?_⟩
   ·rcases List.mem_cons.1 hq with rfl | hq
    ·exact h q (by simp)
    ·exact ih.1 q hq
   ·simp only [List.map_cons, List.mem_cons, ih.2 t]
    exact ⟨fun h => h.elim (fun h => .inl (.inl h)) fun h => h.elim (fun h => .inl (.inr h)) .inr, fun h => h.elim (fun h => h.elim .inl fun h => .inr (.inl h)) fun h => .inr (.inr h)⟩
def ckParts (p : List DParameter) : List (List UInt8) → List (List UInt8) → Int
 | [], _ => 0
 | s :: ss, seen => if findP p s = none then 9 else if s ∈ seen then 7 else ckParts p ss (seen ++ [s])
theorem ckParts_congr (p : List DParameter) : ∀ (ss a b : List (List UInt8)), (∀ t, t ∈ a ↔ t ∈ b) → ckParts p ss a = ckParts p ss b
 | [], _, _, _ => rfl
 | s :: ss, a, b, h => by
  unfold ckParts
  simp only [h s]
  rw [ckParts_congr p ss (a ++ [s]) (b ++ [s]) (fun t => by simp [h t])]
theorem ckParts_ok (p : List DParameter) : ∀ (ss a : List (List UInt8)), ckParts p ss a = 0 → (∀ s ∈ ss, ∃ y, findP p s = some y)
 | [], _, _ => by simp
 | s :: ss, a, h => by
  unfold ckParts at h
  by_cases h1 : findP p s = none
  ·rw [if_pos h1] at h; exact absurd h (by decide)
  ·rw [if_neg h1] at h
   by_cases h2 : s ∈ a
   ·rw [if_pos h2] at h; exact absurd h (by decide)
   ·rw [if_neg h2] at h
    have ih := ckParts_ok p ss _ h
    intro t ht
    rcases List.mem_cons.1 ht with rfl | ht
    ·cases e : findP p t with
     | none => exact absurd e h1
     | some y => exact ⟨y, rfl⟩
    ·exact ih t ht
theorem fnd_ok (o : Option DParameter) : ((fnd o).2.1 = false) = (o = none) := by cases o <;> simp [fnd]
theorem checkParts_ev (p : List DParameter) (hp : p.length ≤ 500) (hf : Fits p 0) (ss : List (List UInt8)) (hs : ss.length ≤ 4611686018427387904) :
 Ev (fun k => telemetry_checkParts.f k p ss) (if ss = [] then 9 else if 200 < ss.length then 2 else ckParts p ss [], ()) := by
 refine Ev.eq (fun k => by rw [telemetry_checkParts.f_eq]) ?_
 simp only [decide_eq_true_eq]
 refine Ev.split (fun h => ?_) (fun h => ?_)
 ·rw [if_pos (List.length_eq_zero_iff.1 (by omega))]; exact Ev.now _
 ·rw [if_neg (fun e => h (by rw [e]; rfl))]
  refine Ev.split (fun h2 => ?_) (fun h2 => ?_)
  ·rw [if_pos (by omega)]; exact Ev.now _
  ·rw [if_neg (by omega)]
   have := Ev.rng (σ := List (List UInt8 × Bool)) [] ss hs (g := fun k s i => telemetry_checkParts.c0 k p s ss (ss.length : Int) i) (fun k s i => telemetry_checkParts.c0_eq _ _ _ _ _ _)
    (fun _ m => ∀ q ∈ m, q.2 = true) (fun l _ m => (ckParts p l (m.map (·.1)), ())) (fun s _ => Ev.now _) (fun i x xs m hi hx _ hget hw hm next => by
     simp only [Int.toNat_natCast, hget, hw]
     refine Ev.bind (parameter_ev p hp hf x) ?_
     simp only [Bool.not_eq_true', fnd_ok]
     unfold ckParts
     refine Ev.split (fun h => ?_) (fun h => ?_)
     ·rw [if_pos h]; exact Ev.now _
     ·rw [if_neg h]
      refine Ev.split (fun h => ?_) (fun h => ?_)
      ·rw [if_pos ((has_iff x m hm).1 h)]; exact Ev.now _
      ·rw [if_neg (fun e => h ((has_iff x m hm).2 e))]
       have k := put_keys x m hm
       refine Ev.cast ?_ (next _ k.1)
       rw [ckParts_congr p xs _ (m.map (·.1) ++ [x]) (fun t => by rw [k.2 t]; simp)]) 0 [] (by omega) (by simp)
   exact this

theorem index_str (l : List (List UInt8)) (hl : l.length ≤ 4611686018427387904) (v : List UInt8) : ∃ n, Ev (fun k => slices_Index_string.f k l v) (n, ()) ∧ (0 ≤ n ↔ v ∈ l) := by
 have h := Ev.rng (σ := Unit) [] l hl (g := fun k s i => slices_Index_string.c0 k l v (l.length : Int) i) (fun k s i => slices_Index_string.c0_eq _ _ _ _ _)
  (fun _ _ => True) (fun r i _ => (if v ∈ r then ((i + r.idxOf v : Nat) : Int) else -1, ())) (fun _ _ => Ev.is (by simp)) (fun i x xs s hi hx _ hget hw _ next => by
   simp only [Int.toNat_natCast, hget, hw, decide_eq_true_eq]
   refine Ev.split (fun h => ?_) (fun h => ?_)
   ·subst h
    refine Ev.is ?_
    simp
   ·refine Ev.cast ?_ (next () trivial)
    have h' : ¬ x = v := fun e => h e.symm
    by_cases hm : v ∈ xs
    ·rw [if_pos hm, if_pos (by simp [hm]), List.idxOf_cons, show (x == v) = false by simpa using h']
     simp only [cond_false]
     congr 1; omega
    ·rw [if_neg hm, if_neg (by simp [hm, h])]) 0 () (by omega) trivial
 refine ⟨_, Ev.eq (fun k => by rw [slices_Index_string.f_eq]; rfl) h, ?_⟩
 simp only [List.drop_zero]
 split <;> rename_i hm
 ·exact ⟨fun _ => hm, fun _ => by omega⟩
 ·exact ⟨fun h => by omega, fun h => absurd h hm⟩
theorem contains_str (l : List (List UInt8)) (hl : l.length ≤ 4611686018427387904) (v : List UInt8) : Ev (fun k => slices_Contains_string.f k l v) (decide (v ∈ l), ()) := by
 obtain ⟨n, h1, h2⟩ := index_str l hl v
 refine Ev.eq (fun k => by rw [slices_Contains_string.f_eq]) (Ev.bind h1 (Ev.is ?_))
 simp only [h2]

def LOk (p : List DParameter) (x : DLayout) : Prop := x.2 ≠ [] ∧ x.2.length ≤ 200 ∧ ∀ s ∈ x.2, ∃ y, findP p s = some y
theorem refParts_loop (p : List DParameter) (hp : p.length ≤ 500) (hf : Fits p 0) (l : List DLayout) (ii : Int) (t7 : List UInt8) (ss : List (List UInt8)) (hs : ss.length ≤ 200) (l2 : List DLayout) (len t22 : Int) :
 ∀ (d i : Nat), i + d = ss.length → ∀ r, (ckParts p (ss.drop i) (ss.take i) = 0 → Ev (fun k => if 0 < ii then (if (0 : Int) ≤ IntKind.wrap .i64 (ii - 1) ∧ IntKind.wrap .i64 (ii - 1) < (l.length : Int) then (if (lessS (l.getD (IntKind.wrap .i64 (ii - 1)).toNat (Ty.dflt YLayout)).1 t7) = false then some (8, ()) else perigeeref7_CheckLayouts.c0 k p l l2 len (IntKind.wrap .i64 (t22 + 1))) else none) else perigeeref7_CheckLayouts.c0 k p l l2 len (IntKind.wrap .i64 (t22 + 1))) r) →
 (ckParts p (ss.drop i) (ss.take i) ≠ 0 → r = (ckParts p (ss.drop i) (ss.take i), ())) →
 Ev (fun k => perigeeref7_CheckLayouts.c1 k p l ii t7 ss l2 len t22 ss (ss.length : Int) i) r := by
 intro d
 induction d with
 | zero =>
  intro i hi r h0 h1
  refine Ev.step (fun k => by rw [perigeeref7_CheckLayouts.c1_eq]) ?_
  simp only [decide_eq_true_eq, Bool.not_eq_true']
  refine Ev.no (by omega) (h0 ?_)
  rw [List.drop_of_length_le (by omega)]
  rfl
 | succ d ih =>
  intro i hi r h0 h1
  have next := ih (i + 1) (by omega) r
  refine Ev.step (fun k => by rw [perigeeref7_CheckLayouts.c1_eq]) ?_
  have hd := List.drop_eq_getElem_cons (show i < ss.length by omega)
  have ht : ss.take (i + 1) = ss.take i ++ [ss[i]] := by rw [List.take_add_one, List.getElem?_eq_getElem (by omega)]; rfl
  rw [w64 (x := (i : Int) + 1) (by omega) (by omega)]
  simp only [decide_eq_true_eq, Bool.not_eq_true', Int.toNat_natCast, getD_nat [] ss i (by omega), List.drop_zero]
  refine Ev.yes (by omega) (Ev.yes (by omega) (Ev.bind (find_ev p (by omega) ss[i]) ?_))
  simp only [fnd_ok]
  rw [hd] at h0 h1
  unfold ckParts at h0 h1
  refine Ev.split (fun h => ?_) (fun h => ?_)
  ·rw [if_pos h] at h1
   rw [h1 (by decide)]
   exact Ev.now _
  ·rw [if_neg h] at h0 h1
   refine Ev.yes (by omega) (Ev.bind (contains_str _ (by simp; omega) _) ?_)
   simp only [decide_eq_true_eq]
   refine Ev.split (fun h => ?_) (fun h => ?_)
   ·rw [if_pos h] at h1
    rw [h1 (by decide)]
    exact Ev.now _
   ·rw [if_neg h] at h0 h1
    rw [ht] at next
    exact next h0 h1
theorem layouts_ev (p : List DParameter) (l : List DLayout) (h : okT (.sl YParameter) p) (h2 : okT (.sl YLayout) l) : ∃ c, Ev (fun k => telemetry_CheckLayouts.f k p l) (c, ()) ∧ Ev (fun k => perigeeref7_CheckLayouts.f k p l) (c, ()) ∧
 (c = 0 → (p.length ≤ 500 ∧ Fits p 0) ∧ l.length ≤ 100 ∧ ∀ x ∈ l, LOk p x) := by
 obtain ⟨c, c1, c2, c3⟩ := params_ev p h
 have : Twin (fun k => telemetry_CheckLayouts.f k p l) (fun k => perigeeref7_CheckLayouts.f k p l) (fun a b => a = b ∧ (a.1 = 0 → (p.length ≤ 500 ∧ Fits p 0) ∧ l.length ≤ 100 ∧ ∀ x ∈ l, LOk p x)) := by
  simp only [telemetry_CheckLayouts.f_eq, perigeeref7_CheckLayouts.f_eq, decide_eq_true_eq, Bool.not_eq_true', decide_eq_false_iff_not]
  refine Twin.bindL c1 (Twin.bindR c2 ?_)
  by_cases hc : c = 0
  ·subst hc
   obtain ⟨hp, hf⟩ := c3 rfl
   refine Twin.noL (fun h => h rfl) (Twin.noR (fun h => h rfl) ?_)
   refine Twin.ifL (fun h1 => Twin.yesR h1 (Twin.now ⟨rfl, fun h => absurd h (by decide)⟩)) (fun h1 => Twin.noR h1 ?_)
   have loop : ∀ (d i : Nat), i + d = l.length → Twin (fun k => telemetry_CheckLayouts.c0 k p l l (l.length : Int) i) (fun k => perigeeref7_CheckLayouts.c0 k p l l (l.length : Int) i) (fun a b => a = b ∧ (a.1 = 0 → ∀ x ∈ l.drop i, LOk p x)) := by
    intro d
    induction d with
    | zero =>
     intro i hi
     refine Twin.stepL (fun k => by rw [telemetry_CheckLayouts.c0_eq]) (Twin.stepR (fun k => by rw [perigeeref7_CheckLayouts.c0_eq]) ?_)
     simp only [decide_eq_true_eq]
     refine Twin.noL (by omega) (Twin.noR (by omega) (Twin.now ⟨rfl, fun _ x hx => ?_⟩))
     rw [List.drop_of_length_le (by omega)] at hx
     simp at hx
    | succ d ih =>
     intro i hi
     have next := ih (i + 1) (by omega)
     have hx : okT YLayout l[i] := h2.2.2 _ (List.getElem_mem _)
     have hs : l[i].2.length ≤ 140737488351232 := hx.2.1
     have hd := List.drop_eq_getElem_cons (show i < l.length by omega)
     refine Twin.stepL (fun k => by rw [telemetry_CheckLayouts.c0_eq]) (Twin.stepR (fun k => by rw [perigeeref7_CheckLayouts.c0_eq]) ?_)
     rw [w64 (x := (i : Int) + 1) (by omega) (by omega)]
     simp only [decide_eq_true_eq, Bool.not_eq_true', decide_eq_false_iff_not, Int.toNat_natCast, getD_nat (Ty.dflt YLayout) l i (by omega)]
     refine Twin.yesL (by omega) (Twin.yesR (by omega) (Twin.yesL (by omega) (Twin.yesR (by omega) ?_)))
     obtain ⟨b, e1, e2⟩ := word_ev l[i].1 hx.1
     refine Twin.bindL e1 (Twin.bindR e2 ?_)
     refine Twin.ifL (fun h3 => Twin.yesR h3 (Twin.now ⟨rfl, fun h => absurd h (by decide)⟩)) (fun h3 => Twin.noR h3 ?_)
     refine Twin.bindL (checkParts_ev p hp hf l[i].2 (by omega)) ?_
     by_cases g1 : l[i].2 = []
     ·rw [if_pos g1]
      exact Twin.yesL (show ¬ (9 : Int) = 0 by decide) (Twin.yesR (by rw [g1]; rfl) (Twin.now ⟨rfl, fun h => absurd h (by decide)⟩))
     ·have g1' : ¬ (l[i].2.length : Int) = 0 := fun e => g1 (List.length_eq_zero_iff.1 (by omega))
      rw [if_neg g1]
      refine Twin.noR g1' ?_
      by_cases g2 : 200 < l[i].2.length
      ·rw [if_pos g2]
       exact Twin.yesL (show ¬ (2 : Int) = 0 by decide) (Twin.yesR (by omega) (Twin.now ⟨rfl, fun h => absurd h (by decide)⟩))
      ·rw [if_neg g2]
       refine Twin.noR (by omega) ?_
       by_cases g3 : ckParts p l[i].2 [] = 0
       ·rw [g3]
        refine Twin.noL (fun h => h rfl) ?_
        have ok : LOk p l[i] := ⟨g1, by omega, ckParts_ok p _ _ g3⟩
        have fin : Twin (fun k => telemetry_CheckLayouts.c0 k p l l (l.length : Int) ((i : Int) + 1)) (fun k => perigeeref7_CheckLayouts.c0 k p l l (l.length : Int) ((i : Int) + 1)) (fun a b => a = b ∧ (a.1 = 0 → ∀ x ∈ l.drop i, LOk p x)) := by
         refine Twin.mono next fun a b ⟨h1, h2⟩ => ⟨h1, fun h x hx => ?_⟩
         rw [hd] at hx
         rcases List.mem_cons.1 hx with rfl | hx
         ·exact ok
         ·exact h2 h x hx
        have key : Twin (fun k => if 0 < (i : Int) then (if (0 : Int) ≤ IntKind.wrap .i64 ((i : Int) - 1) ∧ IntKind.wrap .i64 ((i : Int) - 1) < (l.length : Int) then (if lessS (l.getD (IntKind.wrap .i64 ((i : Int) - 1)).toNat (Ty.dflt YLayout)).1 l[i].1 = false then some (8, ()) else telemetry_CheckLayouts.c0 k p l l (l.length : Int) ((i : Int) + 1)) else none) else telemetry_CheckLayouts.c0 k p l l (l.length : Int) ((i : Int) + 1))
         (fun k => if 0 < (i : Int) then (if (0 : Int) ≤ IntKind.wrap .i64 ((i : Int) - 1) ∧ IntKind.wrap .i64 ((i : Int) - 1) < (l.length : Int) then (if lessS (l.getD (IntKind.wrap .i64 ((i : Int) - 1)).toNat (Ty.dflt YLayout)).1 l[i].1 = false then some (8, ()) else perigeeref7_CheckLayouts.c0 k p l l (l.length : Int) (IntKind.wrap .i64 ((i : Int) + 1))) else none) else perigeeref7_CheckLayouts.c0 k p l l (l.length : Int) (IntKind.wrap .i64 ((i : Int) + 1)))
         (fun a b => a = b ∧ (a.1 = 0 → ∀ x ∈ l.drop i, LOk p x)) := by
         rw [w64 (x := (i : Int) + 1) (by omega) (by omega), w64 (x := (i : Int) - 1) (by omega) (by omega)]
         refine Twin.ifL (fun h6 => Twin.yesR h6 (Twin.yesL (by omega) (Twin.yesR (by omega) ?_))) (fun h6 => Twin.noR h6 fin)
         exact Twin.ifL (fun h7 => Twin.yesR h7 (Twin.now ⟨rfl, fun h => absurd h (by decide)⟩)) (fun h7 => Twin.noR h7 fin)
        obtain ⟨a, b, k1, k2, k3⟩ := key
        exact ⟨a, b, k1, refParts_loop p hp hf l i l[i].1 l[i].2 (by omega) l l.length i l[i].2.length 0 (by omega) b (fun _ => k2) (fun h => absurd (by simpa using g3) h), k3⟩
       ·refine Twin.yesL g3 ⟨_, (ckParts p l[i].2 [], ()), Ev.now _, ?_, rfl, fun h => absurd h g3⟩
        exact refParts_loop p hp hf l i l[i].1 l[i].2 (by omega) l l.length i l[i].2.length 0 (by omega) _ (fun h => absurd (by simpa using h) g3) (fun _ => by simp)
   exact Twin.mono (loop l.length 0 (by omega)) fun a b ⟨h3, h4⟩ => ⟨h3, fun h => ⟨⟨hp, hf⟩, by omega, h4 h⟩⟩
  ·exact Twin.yesL hc (Twin.yesR hc (Twin.now ⟨rfl, fun h => absurd h hc⟩))
 obtain ⟨a, b, h1, h2, rfl, h3⟩ := this
 exact ⟨a.1, h1, h2, h3⟩
end Go.Proofs.Ytcefbdknoelacaa.Pure

-- YtcefbdknoelacaaQ5
set_option linter.unusedVariables false
set_option linter.unusedSimpArgs false
namespace Go.Proofs.Ytcefbdknoelacaa.Pure
open Go Go.Proofs.Ytcefbdknoelacaa.A

def prm (p : List DParameter) (s : List UInt8) : DParameter := (fnd (findP p s)).1
def ps (p : List DParameter) (x : DLayout) : List DParameter := x.2.map (prm p)
theorem prm_ok {p : List DParameter} {s : List UInt8} (h : ∃ y, findP p s = some y) : findP p s = some (prm p s) ∧ prm p s ∈ p ∧ (prm p s).1 = s := by
 obtain ⟨y, hy⟩ := h
 have e : prm p s = y := by unfold prm; rw [hy]; rfl
 rw [e]
 exact ⟨hy, findP_some hy⟩
theorem prm_ev {p : List DParameter} (hp : p.length ≤ 500) (hf : Fits p 0) {s : List UInt8} (h : ∃ y, findP p s = some y) : Ev (fun k => telemetry_parameter.f k p s) (prm p s, true, ()) := by
 have := parameter_ev p hp hf s
 rw [(prm_ok h).1] at this
 exact this
structure AllOk (p : List DParameter) (l : List DLayout) : Prop where
 hp : p.length ≤ 500
 hf : Fits p 0
 hl : l.length ≤ 100
 ok : ∀ x ∈ l, LOk p x
theorem AllOk.bits {p : List DParameter} {l : List DLayout} (h : AllOk p l) {s : List UInt8} (hs : ∃ y, findP p s = some y) : 1 ≤ (prm p s).2.1 ∧ (prm p s).2.1 ≤ 24 := (mem_fit h.hf (prm_ok hs).2.1).1
theorem layoutsOk (p : List DParameter) (l : List DLayout) (h : okT (.sl YParameter) p) (h2 : okT (.sl YLayout) l) : ∃ c, Ev (fun k => telemetry_CheckLayouts.f k p l) (c, ()) ∧ Ev (fun k => perigeeref7_CheckLayouts.f k p l) (c, ()) ∧ (c = 0 → AllOk p l) := by
 obtain ⟨c, h1, h2, h3⟩ := layouts_ev p l h h2
 exact ⟨c, h1, h2, fun h => ⟨(h3 h).1.1, (h3 h).1.2, (h3 h).2.1, (h3 h).2.2⟩⟩
theorem fndL_ok (o : Option DLayout) : ((fndL o).2.1 = false) = (o = none) := by cases o <;> simp [fndL]
theorem found_ev (p : List DParameter) (l : List DLayout) (c : Int) (h : Ev (fun k => telemetry_CheckLayouts.f k p l) (c, ())) (hl : l.length ≤ 4611686018427387904) (t : List UInt8) :
 Ev (fun k => telemetry_found.f k p l t) (if c = 0 then (match findL l t with | some x => (x, 0, ()) | none => (([], []), 9, ())) else (([], []), c, ())) := by
 refine Ev.eq (fun k => by rw [telemetry_found.f_eq]) (Ev.bind h ?_)
 simp only [Bool.not_eq_true', decide_eq_false_iff_not]
 by_cases hc : c = 0
 ·refine Ev.no (fun h => h hc) (Ev.bind (layout_ev l hl t) ?_)
  rw [if_pos hc]
  simp only [fndL_ok]
  cases e : findL l t with
  | none => exact Ev.yes rfl (Ev.now _)
  | some x => exact Ev.no (by simp) (Ev.now _)
 ·rw [if_neg hc]
  exact Ev.yes hc (Ev.now _)
def bsum : List DParameter → Int
 | [] => 0
 | y :: ys => y.2.1 + bsum ys
def POk (L : List DParameter) : Prop := L.length ≤ 200 ∧ ∀ y ∈ L, Fit y
theorem AllOk.ps {p : List DParameter} {l : List DLayout} (h : AllOk p l) {x : DLayout} (hx : x ∈ l) : POk (ps p x) := by
 have k := h.ok x hx
 refine ⟨by simp [Pure.ps]; exact k.2.1, fun y hy => ?_⟩
 obtain ⟨s, hs, rfl⟩ := List.mem_map.1 hy
 exact mem_fit h.hf (prm_ok (k.2.2 s hs)).2.1
def chk : List DParameter → List DReading → Int
 | [], [] => 0
 | y :: ys, v :: vs => if v.1 = y.1 then (if lo y ≤ v.2 ∧ v.2 ≤ hi y then chk ys vs else 1) else 3
 | _, _ => 3
theorem chk_nil (vs : List DReading) : chk [] vs = if vs = [] then 0 else 3 := by cases vs <;> simp [chk]
theorem chk_nil2 (ys : List DParameter) : chk ys [] = if ys = [] then 0 else 3 := by cases ys <;> simp [chk]
theorem readT_ev (p : List DParameter) (hp : p.length ≤ 500) (hf : Fits p 0) (x : DLayout) (hx : LOk p x) (vs : List DReading) (hv : vs.length ≤ 4611686018427387904) : Ev (fun k => telemetry_checkReadings.f k p x vs) (chk (ps p x) vs, ()) := by
 refine Ev.eq (fun k => by rw [telemetry_checkReadings.f_eq]) ?_
 have h2 := hx.2.1
 have := Ev.rng (σ := Unit) (Ty.dflt YReading) vs hv (g := fun k s i => telemetry_checkReadings.c0 k p vs x.1 x.2 vs (vs.length : Int) i) (fun k s i => telemetry_checkReadings.c0_eq _ _ _ _ _ _ _ _)
  (fun i s => i ≤ x.2.length) (fun r i s => (chk ((ps p x).drop i) r, ())) (fun s hs => by
   simp only [decide_eq_true_eq]
   refine Ev.split (fun h => ?_) (fun h => ?_)
   ·refine Ev.is ?_
    rw [chk_nil2, if_neg]
    intro e
    have := congrArg List.length e
    simp [ps] at this
    omega
   ·refine Ev.is ?_
    rw [chk_nil2, if_pos]
    apply List.eq_nil_of_length_eq_zero
    simp [ps]
    omega) (fun i v rest s hi hy _ hget hw hs next => by
   simp only [Int.toNat_natCast, hget, hw, decide_eq_true_eq, Bool.not_eq_true', decide_eq_false_iff_not]
   refine Ev.split (fun h => ?_) (fun h => ?_)
   ·refine Ev.is ?_
    rw [List.drop_of_length_le (by simp [ps]; omega), chk_nil]
    simp
   ·have hi2 : i < x.2.length := by omega
    have hd : (ps p x).drop i = prm p x.2[i] :: (ps p x).drop (i + 1) := by
     rw [List.drop_eq_getElem_cons (show i < (ps p x).length by simp [ps]; omega)]
     simp [ps]
    have hk : ∃ y, findP p x.2[i] = some y := hx.2.2 _ (List.getElem_mem _)
    have nm := (prm_ok hk).2.2
    refine Ev.yes (by omega) ?_
    rw [hd, chk, getD_nat [] x.2 i hi2]
    refine Ev.split (fun h => ?_) (fun h => ?_)
    ·rw [if_neg (by rw [nm]; exact h)]; exact Ev.now _
    ·have h : v.1 = x.2[i] := by simpa using h
     rw [if_pos (by rw [nm]; exact h), h]
     refine Ev.bind (prm_ev hp hf hk) ?_
     have fit := (mem_fit hf (prm_ok hk).2.1).1
     simp only [span_ev _ _ fit, Option.bind_some, in_ev]
     refine Ev.split (fun h => ?_) (fun h => ?_)
     ·rw [if_neg (of_decide_eq_false h)]; exact Ev.now _
     ·rw [if_pos (by simpa using h)]
      exact next () (by omega)) 0 () (by omega) (by omega)
 simpa using this
def ROk : List DParameter → List DReading → Prop
 | [], [] => True
 | y :: ys, v :: vs => v.1 = y.1 ∧ (lo y ≤ v.2 ∧ v.2 ≤ hi y) ∧ ROk ys vs
 | _, _ => False
theorem chk_zero : ∀ (ys : List DParameter) (vs : List DReading), chk ys vs = 0 ↔ ROk ys vs
 | [], [] => by simp [chk, ROk]
 | [], v :: vs => by simp [chk, ROk]
 | y :: ys, [] => by simp [chk, ROk]
 | y :: ys, v :: vs => by
  unfold chk ROk
  by_cases h1 : v.1 = y.1
  ·by_cases h2 : lo y ≤ v.2 ∧ v.2 ≤ hi y
   ·rw [if_pos h1, if_pos h2, chk_zero ys vs]
    exact ⟨fun h => ⟨h1, h2, h⟩, fun h => h.2.2⟩
   ·rw [if_pos h1, if_neg h2]
    exact ⟨fun h => absurd h (by decide), fun h => absurd h.2.1 h2⟩
  ·rw [if_neg h1]
   exact ⟨fun h => absurd h (by decide), fun h => absurd h.1 h1⟩
theorem ROk.len : ∀ {ys : List DParameter} {vs : List DReading}, ROk ys vs → vs.length = ys.length
 | [], [], _ => rfl
 | [], _ :: _, h => h.elim
 | _ :: _, [], h => h.elim
 | _ :: ys, _ :: vs, h => by simp [ROk.len h.2.2]
theorem ROk.drop : ∀ {ys : List DParameter} {vs : List DReading}, ROk ys vs → ∀ i, ROk (ys.drop i) (vs.drop i)
 | _, _, h, 0 => by simpa using h
 | [], [], _, i + 1 => by simp [ROk]
 | [], _ :: _, h, _ + 1 => h.elim
 | _ :: _, [], h, _ + 1 => h.elim
 | _ :: ys, _ :: vs, h, i + 1 => by simpa using ROk.drop h.2.2 i

def nb (y : DParameter) : Nat := y.2.1.toNat
def allBits : List DParameter → List DReading → List Bool
 | y :: ys, v :: vs => nbits v.2 (nb y) ++ allBits ys vs
 | _, _ => []
theorem bit01 (x : Int) : x % 2 = 0 ∨ x % 2 = 1 := by omega
theorem put_ev : ∀ (m : Nat) (b : List Int) (L : List Bool) (n : Int), Pack b L → L.length + m ≤ 1000000 → m ≤ 64 →
 ∃ c, Pack c (L ++ nbits n m) ∧ Ev (fun k => telemetry_row_put.c0 k b (L.length : Int) n ((m : Int) - 1)) ((c, ((L.length + m : Nat) : Int)), ()) := by
 intro m
 induction m with
 | zero =>
  intro b L n hb hl hm
  refine ⟨b, by simpa [nbits] using hb, Ev.step (fun k => by rw [telemetry_row_put.c0_eq]) ?_⟩
  simp only [decide_eq_true_eq]
  exact Ev.no (by omega) (Ev.is (by simp))
 | succ m ih =>
  intro b L n hb hl hm
  have hx : ∃ x : Nat, n / 2 ^ m % 2 = (x : Int) ∧ x ≤ 1 := by
   rcases bit01 (n / 2 ^ m) with h | h
   ·exact ⟨0, by omega, by omega⟩
   ·exact ⟨1, by omega, by omega⟩
  obtain ⟨x, hx, hx1⟩ := hx
  have push := hb.push x hx1
  have blen := hb.len
  obtain ⟨c, c1, c2⟩ := ih _ _ n push (by simp; omega) (by omega)
  have eb : decide (x = 1) = decide (n / 2 ^ m % 2 = 1) := decide_eq_decide.2 (by omega)
  refine ⟨c, ?_, ?_⟩
  ·rw [List.append_assoc, eb] at c1
   exact c1
  ·have inner : Ev (fun k => telemetry_row_put.c1 k (if L.length % 8 = 0 then b ++ [0] else b) (L.length : Int) n (m : Int)) ((c, ((L.length + (m + 1) : Nat) : Int)), ()) := by
    have bl : (if L.length % 8 = 0 then b ++ [0] else b).length = (L.length + 8) / 8 := by
     split
     ·simp only [List.length_append, List.length_cons, List.length_nil]; omega
     ·omega
    have bb : Bytes (if L.length % 8 = 0 then b ++ [0] else b) := by
     split
     ·intro y hy
      rcases List.mem_append.1 hy with hy | hy
      ·exact hb.by_ y hy
      ·simp at hy; omega
     ·exact hb.by_
    generalize (if L.length % 8 = 0 then b ++ [0] else b) = b2 at *
    refine Ev.step (fun k => by rw [telemetry_row_put.c1_eq]) ?_
    have d8 : Int.tdiv (L.length : Int) 8 = ((L.length / 8 : Nat) : Int) := by rw [Int.tdiv_eq_ediv_of_nonneg (by omega)]; omega
    have m8 : Int.tmod (L.length : Int) 8 = ((L.length % 8 : Nat) : Int) := by rw [Int.tmod_eq_emod_of_nonneg (by omega)]; omega
    have s7 : (7 : Int) - ((L.length % 8 : Nat) : Int) = ((7 - L.length % 8 : Nat) : Int) := by omega
    have bat := bb.at (L.length / 8)
    obtain ⟨old, ho, ho2⟩ : ∃ old : Nat, b2.getD (L.length / 8) 0 = (old : Int) ∧ old < 256 := ⟨(b2.getD (L.length / 8) 0).toNat, by omega, by omega⟩
    rw [d8, m8, w64 (x := ((L.length / 8 : Nat) : Int)) (by omega) (by omega), s7, w64 (x := ((7 - L.length % 8 : Nat) : Int)) (by omega) (by omega)]
    simp only [Int.toNat_natCast]
    rw [shr64 n m (by omega), and_bit, hx, wrap_u8 (by omega) (by omega), shl8 x _ hx1 (by omega), ho]
    have sh : x <<< (7 - L.length % 8) < 256 := by
     rw [Nat.shiftLeft_eq]
     have : 2 ^ (7 - L.length % 8) ≤ 2 ^ 7 := Nat.pow_le_pow_right (by omega) (by omega)
     have : x * 2 ^ (7 - L.length % 8) ≤ 1 * 2 ^ (7 - L.length % 8) := Nat.mul_le_mul_right _ hx1
     omega
    rw [or8 old _ ho2 sh, w64 (x := (L.length : Int) + 1) (by omega) (by omega), w64 (x := (m : Int) - 1) (by omega) (by omega)]
    refine Ev.yes (by omega) (Ev.yes (by omega) (Ev.yes (by omega) (Ev.yes (by omega) ?_)))
    have e1 : putAt b2 L.length x = b2.set (L.length / 8) ((old ||| x <<< (7 - L.length % 8) : Nat) : Int) := by
     unfold putAt
     rw [ho, Int.toNat_natCast]
    rw [e1] at c2
    simp only [List.length_append, List.length_cons, List.length_nil] at c2
    rw [show ((L.length + 1 + m : Nat) : Int) = ((L.length + (m + 1) : Nat) : Int) by omega, show ((L.length + (0 + 1) : Nat) : Int) = (L.length : Int) + 1 by omega] at c2
    exact c2
   refine Ev.step (fun k => by rw [telemetry_row_put.c0_eq]) ?_
   rw [show (((m + 1 : Nat) : Int) - 1) = (m : Int) by omega]
   simp only [decide_eq_true_eq]
   have m8 : Int.tmod (L.length : Int) 8 = ((L.length % 8 : Nat) : Int) := by rw [Int.tmod_eq_emod_of_nonneg (by omega)]; omega
   rw [m8]
   refine Ev.yes (by omega) (Ev.split (fun h => ?_) (fun h => ?_))
   ·rw [if_pos (by omega)] at inner
    exact Ev.yes (by omega) inner
   ·rw [if_neg (by omega)] at inner
    exact inner
theorem putf_ev (b : List Int) (L : List Bool) (n : Int) (m : Nat) (h : Pack b L) (hl : L.length + m ≤ 1000000) (hm : m ≤ 64) :
 ∃ c, Pack c (L ++ nbits n m) ∧ Ev (fun k => telemetry_row_put.f k (b, (L.length : Int)) n (m : Int)) ((c, ((L.length + m : Nat) : Int)), ()) := by
 obtain ⟨c, c1, c2⟩ := put_ev m b L n h hl hm
 refine ⟨c, c1, Ev.eq (fun k => by rw [telemetry_row_put.f_eq]) ?_⟩
 rw [w64 (x := (m : Int) - 1) (by omega) (by omega)]
 exact c2
end Go.Proofs.Ytcefbdknoelacaa.Pure

-- YtcefbdknoelacaaQ6
set_option linter.unusedVariables false
set_option linter.unusedSimpArgs false
namespace Go.Proofs.Ytcefbdknoelacaa.Pure
open Go Go.Proofs.Ytcefbdknoelacaa.A

theorem equal_reads (a b : List DReading) (ha : a.length ≤ 4611686018427387904) : ∃ r, Ev (fun k => slices_Equal_apiReading.f k a b) (r, ()) ∧ (r = true ↔ a = b) := by
 by_cases h : a.length = b.length
 ·obtain ⟨r, h1, h2⟩ := eq_loop (Ty.dflt YReading) (e := fun x y => eqV YReading x y) (fun x y => eqV_iff (τ := YReading) rfl) a b ha h (g := fun k i => slices_Equal_apiReading.c0 k a b (a.length : Int) i) (fun k i => slices_Equal_apiReading.c0_eq _ _ _ _ _)
  refine ⟨r, Ev.eq (fun k => by rw [slices_Equal_apiReading.f_eq]) (Ev.no (by simp; omega) h1), h2⟩
 ·exact ⟨false, Ev.eq (fun k => by rw [slices_Equal_apiReading.f_eq]) (Ev.yes (by simp; omega) (Ev.now _)), by simp; exact fun e => h (by rw [e])⟩
def FillRes (c : Int) (p : List DParameter) (o : Option DLayout) (vs : List DReading) (r : List Int × Int × Unit) : Prop :=
 if c ≠ 0 then r = ([], c, ()) else match o with
  | none => r = ([], 9, ())
  | some x => if chk (ps p x) vs ≠ 0 then r = ([], chk (ps p x) vs, ()) else Pack r.1 (allBits (ps p x) vs) ∧ r.2.1 = 0
theorem FillRes.c {c : Int} {p : List DParameter} {o : Option DLayout} {vs : List DReading} (h : ¬ c = 0) : FillRes c p o vs ([], c, ()) := by unfold FillRes; rw [if_pos h]
theorem FillRes.none {c : Int} {p : List DParameter} {vs : List DReading} (h : c = 0) : FillRes c p none vs ([], 9, ()) := by unfold FillRes; rw [if_neg (by omega)]
theorem FillRes.bad {c : Int} {p : List DParameter} {x : DLayout} {vs : List DReading} (h : c = 0) (hk : ¬ chk (ps p x) vs = 0) : FillRes c p (some x) vs ([], chk (ps p x) vs, ()) := by
 unfold FillRes; rw [if_neg (by omega)]; simp only; rw [if_pos hk]; trivial
theorem FillRes.good {c : Int} {p : List DParameter} {x : DLayout} {vs : List DReading} {r : List Int × Int × Unit} (h : c = 0) (hk : chk (ps p x) vs = 0) (g : Pack r.1 (allBits (ps p x) vs) ∧ r.2.1 = 0) : FillRes c p (some x) vs r := by
 unfold FillRes; rw [if_neg (by omega)]; simp only; rw [if_neg (by omega)]; exact g
def seg (b : List Int) : Nat → Nat → List Bool
 | _, 0 => []
 | i, n + 1 => bitAt b i :: seg b (i + 1) n
theorem seg_length (b : List Int) : ∀ (n i : Nat), (seg b i n).length = n
 | 0, _ => rfl
 | n + 1, i => by simp [seg, seg_length b n]
theorem seg_append (b : List Int) : ∀ (n m i : Nat), seg b i (n + m) = seg b i n ++ seg b (i + n) m
 | 0, m, i => by simp [seg]
 | n + 1, m, i => by rw [show n + 1 + m = (n + m) + 1 by omega, seg, seg, seg_append b n m (i + 1), show i + 1 + n = i + (n + 1) by omega]; rfl
theorem seg_eq (b : List Int) (L : List Bool) : ∀ (n i : Nat), L.length = n → (∀ j, j < n → bitAt b (i + j) = L.getD j false) → seg b i n = L := by
 intro n i hl h
 refine List.ext_getElem (by rw [seg_length, hl]) fun j h1 h2 => ?_
 have key : ∀ (n i j : Nat) (hj : j < (seg b i n).length), (seg b i n)[j] = bitAt b (i + j) := by
  intro n
  induction n with
  | zero => intro i j hj; simp [seg] at hj
  | succ n ih =>
   intro i j hj
   cases j with
   | zero => rfl
   | succ j =>
    simp only [seg, List.getElem_cons_succ]
    rw [ih]
    congr 1; omega
 rw [key, h j (by omega), getD_nat false L j h2]
theorem take_ev (b : List Int) (hb : Bytes b) (hl : b.length ≤ 140737488351232) : ∀ (m i j : Nat) (n : Int), i + m ≤ 8 * b.length → j + m ≤ 32 → 0 ≤ n → n < 2 ^ (32 - m) →
 Ev (fun k => telemetry_row_take.c0 k b (i : Int) n ((j + m : Nat) : Int) (j : Int)) (num n (seg b i m), (b, ((i + m : Nat) : Int)), ()) := by
 intro m
 induction m with
 | zero =>
  intro i j n hi hm h0 h1
  refine Ev.step (fun k => by rw [telemetry_row_take.c0_eq]) ?_
  simp only [decide_eq_true_eq]
  exact Ev.no (by omega) (Ev.is (by simp [seg, num]))
 | succ m ih =>
  intro i j n hi hm h0 h1
  have d8 : Int.tdiv (i : Int) 8 = ((i / 8 : Nat) : Int) := by rw [Int.tdiv_eq_ediv_of_nonneg (by omega)]; omega
  have m8 : Int.tmod (i : Int) 8 = ((i % 8 : Nat) : Int) := by rw [Int.tmod_eq_emod_of_nonneg (by omega)]; omega
  have s7 : (7 : Int) - ((i % 8 : Nat) : Int) = ((7 - i % 8 : Nat) : Int) := by omega
  have bat := hb.at (i / 8)
  obtain ⟨old, ho, ho2⟩ : ∃ old : Nat, b.getD (i / 8) 0 = (old : Int) ∧ old < 256 := ⟨(b.getD (i / 8) 0).toNat, by omega, by omega⟩
  have sl : old >>> (7 - i % 8) < 256 := by
   rw [Nat.shiftRight_eq_div_pow]
   exact Nat.lt_of_le_of_lt (Nat.div_le_self _ _) ho2
  have bit : (old >>> (7 - i % 8)) % 2 = if bitAt b i = true then 1 else 0 := by
   unfold bitAt
   rw [ho, Int.toNat_natCast, Nat.testBit, Nat.and_comm, Nat.and_one_is_mod]
   rcases Nat.mod_two_eq_zero_or_one (old >>> (7 - i % 8)) with h | h <;> simp [h]
  have pw : (2 : Int) ^ (32 - m) = 2 * 2 ^ (32 - (m + 1)) := by
   rw [show 32 - m = (32 - (m + 1)) + 1 by omega, Int.pow_succ, Int.mul_comm]
  have pw2 : (2 : Int) ^ (32 - (m + 1)) ≤ 2147483648 := by
   have : ∀ a : Fin 32, (2 : Int) ^ a.val ≤ 2147483648 := by decide
   exact this ⟨32 - (m + 1), by omega⟩
  have bd : (0 : Int) ≤ (if bitAt b i = true then 1 else 0) ∧ (if bitAt b i = true then (1 : Int) else 0) ≤ 1 := by split <;> omega
  have next := ih (i + 1) (j + 1) (2 * n + (if bitAt b i = true then 1 else 0)) (by omega) (by omega) (by omega) (by omega)
  refine Ev.step (fun k => by rw [telemetry_row_take.c0_eq]) ?_
  rw [d8, m8, s7, w64 (x := ((i / 8 : Nat) : Int)) (by omega) (by omega), w64 (x := ((7 - i % 8 : Nat) : Int)) (by omega) (by omega)]
  simp only [decide_eq_true_eq, Int.toNat_natCast]
  rw [ho, shr8 old _ ho2 (by omega), and_bit8 _ sl, bit, w64 (x := (i : Int) + 1) (by omega) (by omega), w64 (x := (j : Int) + 1) (by omega) (by omega)]
  have ec : (((if bitAt b i = true then 1 else 0 : Nat)) : Int) = (if bitAt b i = true then 1 else 0) := by split <;> rfl
  rw [ec, w64 (x := 2 * n) (by omega) (by omega), w64 (x := (if bitAt b i = true then (1 : Int) else 0)) (by omega) (by omega), w64 (x := 2 * n + (if bitAt b i = true then 1 else 0)) (by omega) (by omega)]
  refine Ev.yes (by omega) (Ev.yes (by omega) (Ev.yes (by omega) ?_))
  rw [show ((j + 1 + m : Nat) : Int) = ((j + (m + 1) : Nat) : Int) by omega, show ((i + 1 : Nat) : Int) = (i : Int) + 1 by omega, show ((j + 1 : Nat) : Int) = (j : Int) + 1 by omega, show ((i + 1 + m : Nat) : Int) = ((i + (m + 1) : Nat) : Int) by omega] at next
  exact next
theorem takef_ev (b : List Int) (hb : Bytes b) (hl : b.length ≤ 140737488351232) (m i : Nat) (hi : i + m ≤ 8 * b.length) (hm : m ≤ 32) : Ev (fun k => telemetry_row_take.f k (b, (i : Int)) (m : Int)) (num 0 (seg b i m), (b, ((i + m : Nat) : Int)), ()) := by
 refine Ev.eq (fun k => by rw [telemetry_row_take.f_eq]) ?_
 have := take_ev b hb hl m i 0 0 hi (by omega) (by omega) (Int.pow_pos (by omega))
 rw [show ((0 + m : Nat) : Int) = (m : Int) by omega] at this
 exact this
def rawv (y : DParameter) (n : Int) : Int := if y.2.2.1 = true ∧ 2 ^ (nb y - 1) ≤ n then n - 2 ^ nb y else n
theorem shl1 (m : Nat) (hm : m ≤ 24) : shlI .i64 1 (m : Int) = 2 ^ m := by
 rw [shl_one m hm]; simp
theorem nbI {y : DParameter} (hy : 1 ≤ y.2.1 ∧ y.2.1 ≤ 24) : y.2.1 = ((nb y : Nat) : Int) ∧ 1 ≤ nb y ∧ nb y ≤ 24 := by simp [nb]; omega
theorem p24 (m : Nat) (hm : m ≤ 24) : (1 : Int) ≤ 2 ^ m ∧ (2 : Int) ^ m ≤ 16777216 := by
 have : ∀ a : Fin 25, (1 : Int) ≤ 2 ^ a.val ∧ (2 : Int) ^ a.val ≤ 16777216 := by decide
 exact this ⟨m, by omega⟩
theorem rawT_ev (k : Nat) (y : DParameter) (hy : 1 ≤ y.2.1 ∧ y.2.1 ≤ 24) (n : Int) (h0 : 0 ≤ n) (h1 : n < 16777216) : telemetry_raw.f k y n = some (rawv y n, ()) := by
 obtain ⟨e, e1, e2⟩ := nbI hy
 have b1 := p24 (nb y) e2
 rw [telemetry_raw.f_eq, e, w64 (x := ((nb y : Nat) : Int) - 1) (by omega) (by omega), show ((nb y : Nat) : Int) - 1 = ((nb y - 1 : Nat) : Int) by omega, shl1 _ (by omega), shl1 _ e2, w64 (by omega) (by omega)]
 simp only [decide_eq_true_eq]
 unfold rawv
 by_cases h : y.2.2.1 = true
 ·rw [if_pos h, if_pos (by omega)]
  by_cases h2 : (2 : Int) ^ (nb y - 1) ≤ n
  ·rw [if_pos h2, if_pos (by omega), if_pos ⟨h, h2⟩]
  ·rw [if_neg h2, if_neg (fun hh => h2 hh.2)]
 ·rw [if_neg h, if_neg (fun hh => h hh.1)]
theorem num_cons_bool (b : Bool) (L : List Bool) : num 0 (b :: L) = (if b = true then 2 ^ L.length else 0) + num 0 L := by
 rw [num, num_acc]; cases b <;> simp
theorem seg_snoc (b : List Int) (n i : Nat) : seg b i (n + 1) = seg b i n ++ [bitAt b (i + n)] := by
 rw [seg_append b n 1 i]; rfl
def vals : List DParameter → List Int → Nat → List DReading
 | [], _, _ => []
 | y :: ys, b, i => (y.1, rawv y (num 0 (seg b i (nb y)))) :: vals ys b (i + nb y)
def Zeros (b : List Int) (i : Nat) : Prop := ∀ j, i ≤ j → bitAt b j = false
def bsz (L : List DParameter) : Nat := (bsum L).toNat
open Classical in
def EmpRes (c : Int) (p : List DParameter) (o : Option DLayout) (b : List Int) (r : List DReading × Int × Unit) : Prop :=
 if c ≠ 0 then r = ([], c, ()) else match o with
  | none => r = ([], 9, ())
  | some x => if b.length = (bsz (ps p x) + 7) / 8 ∧ Zeros b (bsz (ps p x)) then r = (vals (ps p x) b 0, 0, ()) else r = ([], 3, ())
theorem EmpRes.c {c : Int} {p : List DParameter} {o : Option DLayout} {b : List Int} (h : ¬ c = 0) : EmpRes c p o b ([], c, ()) := by unfold EmpRes; rw [if_pos h]
theorem EmpRes.none {c : Int} {p : List DParameter} {b : List Int} (h : c = 0) : EmpRes c p none b ([], 9, ()) := by unfold EmpRes; rw [if_neg (by omega)]
theorem EmpRes.bad {c : Int} {p : List DParameter} {x : DLayout} {b : List Int} (h : c = 0) (hk : ¬ (b.length = (bsz (ps p x) + 7) / 8 ∧ Zeros b (bsz (ps p x)))) : EmpRes c p (some x) b ([], 3, ()) := by
 unfold EmpRes; rw [if_neg (by omega)]; simp only; rw [if_neg hk]; trivial
theorem EmpRes.good {c : Int} {p : List DParameter} {x : DLayout} {b : List Int} (h : c = 0) (hk : b.length = (bsz (ps p x) + 7) / 8 ∧ Zeros b (bsz (ps p x))) : EmpRes c p (some x) b (vals (ps p x) b 0, 0, ()) := by
 unfold EmpRes; rw [if_neg (by omega)]; simp only; rw [if_pos hk]; trivial
theorem num_zero : ∀ (L : List Bool), num 0 L = 0 ↔ ∀ x ∈ L, x = false
 | [] => by simp [num]
 | b :: L => by
  have ih := num_zero L
  have bd := num_bd L
  have p : (0 : Int) < 2 ^ L.length := Int.pow_pos (by omega)
  rw [num_cons_bool]
  cases b with
  | false => simpa using ih
  | true => simp; omega
theorem seg_mem (b : List Int) : ∀ (n i : Nat) (x : Bool), x ∈ seg b i n ↔ ∃ j, j < n ∧ bitAt b (i + j) = x
 | 0, i, x => by simp [seg]
 | n + 1, i, x => by
  rw [seg, List.mem_cons, seg_mem b n (i + 1) x]
  constructor
  ·rintro (h | ⟨j, h1, h2⟩)
   ·exact ⟨0, by omega, h.symm⟩
   ·exact ⟨j + 1, by omega, by rw [← h2]; congr 1; omega⟩
  ·rintro ⟨j, h1, h2⟩
   cases j with
   | zero => exact .inl h2.symm
   | succ j => exact .inr ⟨j, by omega, by rw [← h2]; congr 1; omega⟩
theorem zeros_seg (b : List Int) (i : Nat) (hi : i ≤ 8 * b.length) : Zeros b i ↔ ∀ x ∈ seg b i (8 * b.length - i), x = false := by
 constructor
 ·intro h x hx
  obtain ⟨j, h1, h2⟩ := (seg_mem b _ _ _).1 hx
  rw [← h2]; exact h _ (by omega)
 ·intro h j hj
  rcases Nat.lt_or_ge j (8 * b.length) with h1 | h1
  ·exact h _ ((seg_mem b _ _ _).2 ⟨j - i, by omega, by congr 1; omega⟩)
  ·exact bitAt_out h1
end Go.Proofs.Ytcefbdknoelacaa.Pure

-- YtcefbdknoelacaaQ7
set_option linter.unusedVariables false
set_option linter.unusedSimpArgs false
namespace Go.Proofs.Ytcefbdknoelacaa.Pure
open Go Go.Proofs.Ytcefbdknoelacaa.A

theorem lohi {y : DParameter} (hy : 1 ≤ y.2.1 ∧ y.2.1 ≤ 24) : ∃ H : Int, 1 ≤ H ∧ H ≤ 8388608 ∧ (2 : Int) ^ (nb y - 1) = H ∧ (2 : Int) ^ nb y = 2 * H ∧ lo y = (if y.2.2.1 = true then -H else 0) ∧ hi y = (if y.2.2.1 = true then H - 1 else 2 * H - 1) := by
 obtain ⟨e, e1, e2⟩ := nbI hy
 have b0 : (1 : Int) ≤ 2 ^ (nb y - 1) ∧ (2 : Int) ^ (nb y - 1) ≤ 8388608 := by
  have : ∀ a : Fin 24, (1 : Int) ≤ 2 ^ a.val ∧ (2 : Int) ^ a.val ≤ 8388608 := by decide
  exact this ⟨nb y - 1, by omega⟩
 have pw : (2 : Int) ^ nb y = 2 * 2 ^ (nb y - 1) := by rw [show nb y = (nb y - 1) + 1 by omega, Int.pow_succ, Int.mul_comm]; rfl
 refine ⟨2 ^ (nb y - 1), b0.1, b0.2, rfl, pw, ?_, ?_⟩
 ·unfold lo
  rw [show (y.2.1 - 1).toNat = nb y - 1 by omega, Int.natCast_pow]; rfl
 ·unfold hi
  rw [show (y.2.1 - 1).toNat = nb y - 1 by omega, show y.2.1.toNat = nb y from rfl, Int.natCast_pow, Int.natCast_pow, ← pw]; rfl
theorem rawv_back {y : DParameter} (hy : 1 ≤ y.2.1 ∧ y.2.1 ≤ 24) {v : Int} (h : lo y ≤ v ∧ v ≤ hi y) : rawv y (v % 2 ^ nb y) = v := by
 obtain ⟨H, h1, h2, h3, h4, h5, h6⟩ := lohi hy
 unfold rawv
 rw [h3, h4]
 rw [h5, h6] at h
 by_cases s : y.2.2.1 = true
 ·rw [if_pos s, if_pos s] at h
  rcases Int.lt_or_le v 0 with hv | hv
  ·have e : v % (2 * H) = v + 2 * H := by
    rw [← Int.add_emod_right, Int.emod_eq_of_lt (by omega) (by omega)]
   rw [e, if_pos ⟨s, by omega⟩]; omega
  ·have e : v % (2 * H) = v := Int.emod_eq_of_lt (by omega) (by omega)
   rw [e, if_neg (fun hh => by omega)]
 ·rw [if_neg s, if_neg s] at h
  have e : v % (2 * H) = v := Int.emod_eq_of_lt (by omega) (by omega)
  rw [e, if_neg (fun hh => s hh.1)]
theorem EmpRes.nil {p : List DParameter} {o : Option DLayout} {c : Int} {b : List Int} {r : List DReading × Int × Unit} (h : EmpRes c p o b r) (hr : ¬ r.2.1 = 0) : r.1 = [] := by
 unfold EmpRes at h
 by_cases hc : c = 0
 ·rw [if_neg (by omega)] at h
  cases o with
  | none => simp only at h; rw [h]
  | some x =>
   simp only at h
   by_cases hk : b.length = (bsz (ps p x) + 7) / 8 ∧ Zeros b (bsz (ps p x))
   ·rw [if_pos hk] at h; rw [h] at hr; exact absurd rfl hr
   ·rw [if_neg hk] at h; rw [h]
 ·rw [if_pos hc] at h
  rw [h]
end Go.Proofs.Ytcefbdknoelacaa.Pure

-- YtcefbdknoelacaaQ8
set_option linter.unusedVariables false
set_option linter.unusedSimpArgs false
namespace Go.Proofs.Ytcefbdknoelacaa.Pure
open Go Go.Proofs.Ytcefbdknoelacaa.A

def flags : List DReading → List DReading → List Bool
 | b :: bs, n :: ns => (!decide (b.2 = n.2)) :: flags bs ns
 | _, _ => []
def cvals : List DParameter → List DReading → List DReading → List Bool
 | y :: ys, b :: bs, n :: ns => (if b.2 = n.2 then [] else nbits n.2 (nb y)) ++ cvals ys bs ns
 | _, _, _ => []
theorem flags_length : ∀ (bs ns : List DReading), bs.length = ns.length → (flags bs ns).length = bs.length
 | [], [], _ => rfl
 | [], _ :: _, h => by simp at h
 | _ :: _, [], h => by simp at h
 | b :: bs, n :: ns, h => by simp [flags, flags_length bs ns (by simpa using h)]
theorem cvals_length : ∀ (ys : List DParameter) (bs ns : List DReading), (∀ y ∈ ys, Fit y) → (cvals ys bs ns).length ≤ 24 * ys.length
 | [], _, _, _ => by simp [cvals]
 | y :: ys, [], _, _ => by simp [cvals]
 | y :: ys, _ :: _, [], _ => by simp [cvals]
 | y :: ys, b :: bs, n :: ns, h => by
  have ih := cvals_length ys bs ns (fun z hz => h z (by simp [hz]))
  have fit := (h y (by simp)).1
  have : nb y ≤ 24 := (nbI fit).2.2
  simp only [cvals, List.length_append, List.length_cons]
  split
  ·simp; omega
  ·rw [nbits_length]; omega
def ChRes (c : Int) (p : List DParameter) (o : Option DLayout) (bs ns : List DReading) (r : List Int × Int × Unit) : Prop :=
 if ¬ c = 0 then r = ([], c, ()) else match o with
  | none => r = ([], 9, ())
  | some x => if ¬ chk (ps p x) bs = 0 then r = ([], chk (ps p x) bs, ()) else if ¬ chk (ps p x) ns = 0 then r = ([], chk (ps p x) ns, ()) else Pack r.1 (flags bs ns ++ cvals (ps p x) bs ns) ∧ r.2.1 = 0
section
variable {c : Int} {p : List DParameter} {o : Option DLayout} {bs ns : List DReading} {x : DLayout} {r s : List Int × Int × Unit}
theorem ChRes.cc (h : ¬ c = 0) : ChRes c p o bs ns ([], c, ()) := by unfold ChRes; rw [if_pos h]
theorem ChRes.none (h : c = 0) : ChRes c p none bs ns ([], 9, ()) := by unfold ChRes; rw [if_neg (by omega)]
theorem ChRes.bad1 (h : c = 0) (hk : ¬ chk (ps p x) bs = 0) : ChRes c p (some x) bs ns ([], chk (ps p x) bs, ()) := by unfold ChRes; rw [if_neg (by omega)]; simp only; rw [if_pos hk]; trivial
theorem ChRes.bad2 (h : c = 0) (hk : chk (ps p x) bs = 0) (hk2 : ¬ chk (ps p x) ns = 0) : ChRes c p (some x) bs ns ([], chk (ps p x) ns, ()) := by unfold ChRes; rw [if_neg (by omega)]; simp only; rw [if_neg (by omega), if_pos hk2]; trivial
theorem ChRes.good (h : c = 0) (hk : chk (ps p x) bs = 0) (hk2 : chk (ps p x) ns = 0) (g : Pack r.1 (flags bs ns ++ cvals (ps p x) bs ns) ∧ r.2.1 = 0) : ChRes c p (some x) bs ns r := by unfold ChRes; rw [if_neg (by omega)]; simp only; rw [if_neg (by omega), if_neg (by omega)]; exact g
end
theorem nbits_one (x : Int) : nbits x 1 = [decide (x % 2 = 1)] := by simp [nbits]
theorem chgT_ev (p : List DParameter) (l : List DLayout) (c : Int) (h : Ev (fun k => telemetry_CheckLayouts.f k p l) (c, ())) (ok : c = 0 → AllOk p l) (hl : l.length ≤ 4611686018427387904) (t : List UInt8) (bs ns : List DReading) (hb : bs.length ≤ 4611686018427387904) (hn : ns.length ≤ 4611686018427387904) :
 ∃ r, Ev (fun k => telemetry_Changes.f k p l t bs ns) r ∧ ChRes c p (findL l t) bs ns r := by
 have fo := found_ev p l c h hl t
 have e0 := fun k => telemetry_Changes.f_eq k p l t bs ns
 by_cases hc : c = 0
 ·rw [if_pos hc] at fo
  have a := ok hc
  cases e : findL l t with
  | none =>
   rw [e] at fo
   exact ⟨([], 9, ()), Ev.eq e0 (Ev.bind fo (Ev.yes (by simp) (Ev.now _))), ChRes.none hc⟩
  | some x =>
   rw [e] at fo
   obtain ⟨hx, _⟩ := findL_some e
   have lok := a.ok x hx
   have pok := a.ps hx
   have rd1 := readT_ev p a.hp a.hf x lok bs hb
   have rd2 := readT_ev p a.hp a.hf x lok ns hn
   by_cases hk : chk (ps p x) bs = 0
   ·by_cases hk2 : chk (ps p x) ns = 0
    ·have rok1 := (chk_zero _ _).1 hk
     have rok := (chk_zero _ _).1 hk2
     have len1 := rok1.len
     have len := rok.len
     have pl := pok.1
     -- the second loop
     have key2 : ∀ (d i : Nat) (b : List Int) (L : List Bool), i + d = ns.length → Pack b L → L.length + 24 * d ≤ 1000000 →
      ∃ r, Ev (fun k => telemetry_Changes.c1 k p bs b (L.length : Int) ns (ns.length : Int) i) r ∧ (Pack r.1 (L ++ cvals ((ps p x).drop i) (bs.drop i) (ns.drop i)) ∧ r.2.1 = 0) := by
      intro d
      induction d with
      | zero =>
       intro i b L hi hb h1
       refine ⟨(b, 0, ()), Ev.step (fun k => by rw [telemetry_Changes.c1_eq]) (Ev.no (by simp; omega) (Ev.now _)), ?_, rfl⟩
       rw [List.drop_of_length_le (by omega), List.drop_of_length_le (by omega), List.drop_of_length_le (by omega)]
       simpa [cvals] using hb
      | succ d ih =>
       intro i b L hi hb h1
       have hi2 : i < ns.length := by omega
       have hi1 : i < bs.length := by omega
       have hi3 : i < (ps p x).length := by omega
       have hi4 : i < x.2.length := by simpa [ps] using hi3
       have d1 := List.drop_eq_getElem_cons hi2
       have d2 := List.drop_eq_getElem_cons hi3
       have d3 := List.drop_eq_getElem_cons hi1
       have ro := rok.drop i
       rw [d1, d2] at ro
       have nm := ro.1
       have epx : (ps p x)[i] = prm p x.2[i] := by simp [ps]
       have hk2 := lok.2.2 _ (List.getElem_mem hi4)
       have pr : prm p ns[i].1 = (ps p x)[i] := by rw [nm, epx, (prm_ok hk2).2.2]
       have hk3 : ∃ y, findP p ns[i].1 = some y := by rw [nm, epx, (prm_ok hk2).2.2]; exact hk2
       have fit := (pok.2 _ (List.getElem_mem hi3)).1
       obtain ⟨m, hm⟩ : ∃ m : Nat, m = nb (ps p x)[i] := ⟨_, rfl⟩
       have hmb : ((ps p x)[i].2.1 : Int) = (m : Int) := by rw [hm]; simp [nb]; omega
       have stp : ∀ r, Ev (fun k => if ¬ ns[i].2 = bs[i].2 then (telemetry_parameter.f k p ns[i].1).bind fun r6 => (telemetry_row_put.f k (b, (L.length : Int)) ns[i].2 r6.1.2.1).bind fun r7 => telemetry_Changes.c1 k p bs r7.1.1 r7.1.2 ns (ns.length : Int) ((i : Int) + 1) else telemetry_Changes.c1 k p bs b (L.length : Int) ns (ns.length : Int) ((i : Int) + 1)) r → Ev (fun k => telemetry_Changes.c1 k p bs b (L.length : Int) ns (ns.length : Int) i) r := by
        intro r hr
        refine Ev.step (fun k => by rw [telemetry_Changes.c1_eq]) ?_
        rw [w64 (x := (i : Int) + 1) (by omega) (by omega)]
        simp only [decide_eq_true_eq, Bool.not_eq_true', decide_eq_false_iff_not, Int.toNat_natCast, getD_nat (Ty.dflt YReading) ns i hi2, getD_nat (Ty.dflt YReading) bs i hi1]
        exact Ev.yes (by omega) (Ev.yes (by omega) (Ev.yes (by omega) hr))
       by_cases hd : bs[i].2 = ns[i].2
       ·obtain ⟨r, r1, r2⟩ := ih (i + 1) b L (by omega) hb (by omega)
        refine ⟨r, stp r (Ev.no (fun h => h hd.symm) r1), ?_⟩
        rw [d1, d2, d3, cvals, if_pos hd]
        exact r2
       ·obtain ⟨b2, p1, p2⟩ := putf_ev b L ns[i].2 m hb (by omega) (by omega)
        have len2 : (L ++ nbits ns[i].2 m).length = L.length + m := by rw [List.length_append, nbits_length]
        obtain ⟨r, r1, r2⟩ := ih (i + 1) b2 _ (by omega) p1 (by omega)
        refine ⟨r, stp r (Ev.yes (fun h => hd h.symm) (Ev.bind (prm_ev a.hp a.hf hk3) ?_)), ?_⟩
        ·simp only
         rw [pr, hmb]
         refine Ev.bind p2 ?_
         rw [len2] at r1
         exact r1
        ·rw [d1, d2, d3, cvals, if_neg hd, ← hm, ← List.append_assoc]
         exact r2
     -- the first loop
     have key : ∀ (d i : Nat) (b : List Int) (L : List Bool), i + d = ns.length → Pack b L → L.length = i →
      ∃ r, Ev (fun k => telemetry_Changes.c0 k p bs ns b (L.length : Int) ns (ns.length : Int) i) r ∧ (Pack r.1 ((L ++ flags (bs.drop i) (ns.drop i)) ++ cvals (ps p x) bs ns) ∧ r.2.1 = 0) := by
      intro d
      induction d with
      | zero =>
       intro i b L hi hb h1
       obtain ⟨r, r1, r2⟩ := key2 ns.length 0 b L (by omega) hb (by omega)
       have r1 : Ev (fun k => telemetry_Changes.c1 k p bs b (L.length : Int) ns (ns.length : Int) 0) r := r1
       refine ⟨r, Ev.step (fun k => by rw [telemetry_Changes.c0_eq]) (Ev.no (by simp; omega) r1), ?_⟩
       rw [List.drop_of_length_le (l := bs) (by omega), List.drop_of_length_le (l := ns) (by omega)]
       simpa [flags] using r2
      | succ d ih =>
       intro i b L hi hb h1
       have hi2 : i < ns.length := by omega
       have hi1 : i < bs.length := by omega
       have d1 := List.drop_eq_getElem_cons hi2
       have d3 := List.drop_eq_getElem_cons hi1
       have stp : ∀ r, Ev (fun k => if ¬ ns[i].2 = bs[i].2 then (telemetry_row_put.f k (b, (L.length : Int)) 1 1).bind fun r4 => telemetry_Changes.c0 k p bs ns r4.1.1 r4.1.2 ns (ns.length : Int) ((i : Int) + 1) else (telemetry_row_put.f k (b, (L.length : Int)) 0 1).bind fun r5 => telemetry_Changes.c0 k p bs ns r5.1.1 r5.1.2 ns (ns.length : Int) ((i : Int) + 1)) r → Ev (fun k => telemetry_Changes.c0 k p bs ns b (L.length : Int) ns (ns.length : Int) i) r := by
        intro r hr
        refine Ev.step (fun k => by rw [telemetry_Changes.c0_eq]) ?_
        rw [w64 (x := (i : Int) + 1) (by omega) (by omega)]
        simp only [decide_eq_true_eq, Bool.not_eq_true', decide_eq_false_iff_not, Int.toNat_natCast, getD_nat (Ty.dflt YReading) ns i hi2, getD_nat (Ty.dflt YReading) bs i hi1]
        exact Ev.yes (by omega) (Ev.yes (by omega) (Ev.yes (by omega) hr))
       by_cases hd : bs[i].2 = ns[i].2
       ·obtain ⟨b2, p1, p2⟩ := putf_ev b L 0 1 hb (by omega) (by omega)
        rw [nbits_one] at p1
        have len2 : (L ++ [decide ((0 : Int) % 2 = 1)]).length = L.length + 1 := by simp
        obtain ⟨r, r1, r2⟩ := ih (i + 1) b2 _ (by omega) p1 (by omega)
        refine ⟨r, stp r (Ev.no (fun h => h hd.symm) (Ev.bind p2 ?_)), ?_⟩
        ·rw [len2] at r1
         exact r1
        ·rw [d1, d3, flags, decide_eq_true hd]
         rw [List.append_assoc L] at r2
         exact r2
       ·obtain ⟨b2, p1, p2⟩ := putf_ev b L 1 1 hb (by omega) (by omega)
        rw [nbits_one] at p1
        have len2 : (L ++ [decide ((1 : Int) % 2 = 1)]).length = L.length + 1 := by simp
        obtain ⟨r, r1, r2⟩ := ih (i + 1) b2 _ (by omega) p1 (by omega)
        refine ⟨r, stp r (Ev.yes (fun h => hd h.symm) (Ev.bind p2 ?_)), ?_⟩
        ·rw [len2] at r1
         exact r1
        ·rw [d1, d3, flags, decide_eq_false hd]
         rw [List.append_assoc L] at r2
         exact r2
     obtain ⟨r, r1, r2⟩ := key ns.length 0 [] [] (by omega) Pack.nil rfl
     rw [hk] at rd1
     rw [hk2] at rd2
     exact ⟨r, Ev.eq e0 (Ev.bind fo (Ev.no (by simp) (Ev.bind rd1 (Ev.no (by simp) (Ev.bind rd2 (Ev.no (by simp) r1)))))), ChRes.good hc hk hk2 (by simpa using r2)⟩
    ·rw [hk] at rd1
     exact ⟨_, Ev.eq e0 (Ev.bind fo (Ev.no (by simp) (Ev.bind rd1 (Ev.no (by simp) (Ev.bind rd2 (Ev.yes (by simpa using hk2) (Ev.now _))))))), ChRes.bad2 hc hk hk2⟩
   ·exact ⟨_, Ev.eq e0 (Ev.bind fo (Ev.no (by simp) (Ev.bind rd1 (Ev.yes (by simpa using hk) (Ev.now _))))), ChRes.bad1 hc hk⟩
 ·rw [if_neg hc] at fo
  exact ⟨_, Ev.eq e0 (Ev.bind fo (Ev.yes (by simpa using hc) (Ev.now _))), ChRes.cc hc⟩
end Go.Proofs.Ytcefbdknoelacaa.Pure

-- YtcefbdknoelacaaQ9
set_option linter.unusedVariables false
set_option linter.unusedSimpArgs false
namespace Go.Proofs.Ytcefbdknoelacaa.Pure
open Go Go.Proofs.Ytcefbdknoelacaa.A

def totF : List DParameter → List Bool → Nat
 | y :: ys, f :: fs => (if f = true then nb y else 0) + totF ys fs
 | _, _ => 0
def news : List DParameter → List DReading → List Bool → List Int → Nat → Option (List DReading)
 | y :: ys, r :: rs, f :: fs, b, i => if f = true then (if rawv y (num 0 (seg b i (nb y))) = r.2 then none else (news ys rs fs b (i + nb y)).map ((r.1, rawv y (num 0 (seg b i (nb y)))) :: ·)) else (news ys rs fs b i).map (r :: ·)
 | _, _, _, _, _ => some []
def CdOk (L : List DParameter) (rs : List DReading) (b : List Int) : Prop :=
 b.length = (L.length + totF L (seg b 0 L.length) + 7) / 8 ∧ Zeros b (L.length + totF L (seg b 0 L.length)) ∧ (news L rs (seg b 0 L.length) b L.length).isSome = true
open Classical in
noncomputable def CdRes (c : Int) (p : List DParameter) (o : Option DLayout) (rs : List DReading) (b : List Int) : List DReading × Int × Unit :=
 if ¬ c = 0 then ([], c, ()) else match o with
  | none => ([], 9, ())
  | some x => if ¬ chk (ps p x) rs = 0 then ([], chk (ps p x) rs, ()) else if CdOk (ps p x) rs b then ((news (ps p x) rs (seg b 0 (ps p x).length) b (ps p x).length).getD [], 0, ()) else ([], 3, ())
theorem totF_bd : ∀ (L : List DParameter) (fs : List Bool), (∀ y ∈ L, Fit y) → totF L fs ≤ 24 * L.length
 | [], _, _ => by simp [totF]
 | y :: ys, [], _ => by simp [totF]
 | y :: ys, f :: fs, h => by
  have ih := totF_bd ys fs (fun z hz => h z (by simp [hz]))
  have := (nbI (h y (by simp)).1).2.2
  simp only [totF, List.length_cons]
  split <;> omega
theorem bit_num (b : List Int) (i : Nat) : num 0 (seg b i 1) = (if bitAt b i = true then 1 else 0) := by
 simp [seg, num]
theorem set_mid {α : Type} (a : List α) (x y : α) (l : List α) : (a ++ x :: l).set a.length y = a ++ y :: l := by
 rw [List.set_append_right _ _ (Nat.le_refl _), Nat.sub_self]; rfl
theorem totF_cons (y : DParameter) (ys : List DParameter) (f : Bool) (fs : List Bool) : totF (y :: ys) (f :: fs) = (if f = true then nb y else 0) + totF ys fs := rfl
open Classical in
theorem cdT_ev (p : List DParameter) (l : List DLayout) (c : Int) (h : Ev (fun k => telemetry_CheckLayouts.f k p l) (c, ())) (ok : c = 0 → AllOk p l) (hl : l.length ≤ 4611686018427387904) (t : List UInt8) (rs : List DReading) (hr : rs.length ≤ 4611686018427387904) (b : List Int) (hb : Bytes b) (hbl : b.length ≤ 140737488351232) :
 Ev (fun k => telemetry_Changed.f k p l t rs b) (CdRes c p (findL l t) rs b) := by
 have fo := found_ev p l c h hl t
 have e0 := fun k => telemetry_Changed.f_eq k p l t rs b
 unfold CdRes
 by_cases hc : c = 0
 ·rw [if_neg (by omega)]
  rw [if_pos hc] at fo
  have a := ok hc
  cases e : findL l t with
  | none =>
   rw [e] at fo
   exact Ev.eq e0 (Ev.bind fo (Ev.yes (by simp) (Ev.now _)))
  | some x =>
   rw [e] at fo
   obtain ⟨hx, _⟩ := findL_some e
   have lok := a.ok x hx
   have pok := a.ps hx
   have rd1 := readT_ev p a.hp a.hf x lok rs hr
   have xl : x.2.length = (ps p x).length := by simp [ps]
   have pl := pok.1
   have tb := fun fs => totF_bd (ps p x) fs pok.2
   simp only
   by_cases hk : chk (ps p x) rs = 0
   ·rw [if_neg (by omega)]
    have rok := (chk_zero _ _).1 hk
    have len := rok.len
    rw [hk] at rd1
    have d8 : ∀ n : Nat, n ≤ 1000000 → IntKind.wrap .i64 (Int.tdiv (IntKind.wrap .i64 ((n : Int) + 7)) 8) = (((n + 7) / 8 : Nat) : Int) := by
     intro n hn
     rw [w64 (x := (n : Int) + 7) (by omega) (by omega), Int.tdiv_eq_ediv_of_nonneg (by omega), w64 (by omega) (by omega)]
     omega
    by_cases hlen : b.length < (x.2.length + 7) / 8
    ·rw [if_neg (fun hh => by have := hh.1; omega)]
     refine Ev.eq e0 (Ev.bind fo (Ev.no (by simp) (Ev.bind rd1 (Ev.no (by simp) (Ev.yes ?_ (Ev.now _))))))
     simp only
     rw [d8 _ (by omega)]
     simp only [decide_eq_true_eq]
     omega
    · -- the values
     have key2 : ∀ (d i : Nat) (done : List DReading) (at_ : Nat), i + d = x.2.length → done.length = i → b.length = (x.2.length + totF (ps p x) (seg b 0 x.2.length) + 7) / 8 → at_ + totF ((ps p x).drop i) ((seg b 0 x.2.length).drop i) = x.2.length + totF (ps p x) (seg b 0 x.2.length) →
      Ev (fun k => telemetry_Changed.c1 k p rs b (at_ : Int) (seg b 0 x.2.length) (done ++ rs.drop i) x.2 (x.2.length : Int) i) (match news ((ps p x).drop i) (rs.drop i) ((seg b 0 x.2.length).drop i) b at_ with
       | some out => if Zeros b (x.2.length + totF (ps p x) (seg b 0 x.2.length)) then (done ++ out, 0, ()) else ([], 3, ())
       | none => ([], 3, ())) := by
      intro d
      induction d with
      | zero =>
       intro i done at_ hi hd hbl hat
       have e1 : (ps p x).drop i = [] := List.drop_of_length_le (by omega)
       rw [e1] at hat ⊢
       have hat : at_ = x.2.length + totF (ps p x) (seg b 0 x.2.length) := by simpa [totF] using hat
       have tb' := tb (seg b 0 x.2.length)
       refine Ev.step (fun k => by rw [telemetry_Changed.c1_eq]) ?_
       refine Ev.no (by simp; omega) ?_
       have ends : Ev (fun k => telemetry_row_ends.f k (b, (at_ : Int))) (decide (Zeros b at_), (b, ((8 * b.length : Nat) : Int)), ()) := by
        refine Ev.eq (fun k => by rw [telemetry_row_ends.f_eq]) ?_
        simp only
        rw [w64 (x := 8 * (b.length : Int)) (by omega) (by omega), w64 (x := 8 * (b.length : Int) - (at_ : Int)) (by omega) (by omega), show 8 * (b.length : Int) - (at_ : Int) = ((8 * b.length - at_ : Nat) : Int) by omega]
        simp only [decide_eq_true_eq]
        refine Ev.yes (by omega) (Ev.yes (by omega) (Ev.bind (takef_ev b hb (by omega) (8 * b.length - at_) at_ (by omega) (by omega)) (Ev.is ?_)))
        rw [show at_ + (8 * b.length - at_) = 8 * b.length by omega]
        congr 1
        refine decide_eq_decide.2 ?_
        rw [num_zero, zeros_seg b at_ (by omega)]
       refine Ev.bind ends ?_
       rw [← hat]
       simp only [news]
       rw [List.drop_of_length_le (l := rs) (by omega)]
       by_cases hz : Zeros b at_
       ·rw [if_pos hz]; exact Ev.no (by simp [hz]) (Ev.now _)
       ·rw [if_neg hz]; exact Ev.yes (by simp [hz]) (Ev.now _)
      | succ d ih =>
       intro i done at_ hi hd hbl hat
       have hi4 : i < x.2.length := by omega
       have hi3 : i < (ps p x).length := by omega
       have hi2 : i < rs.length := by omega
       have hi5 : i < (seg b 0 x.2.length).length := by rw [seg_length]; omega
       have d1 := List.drop_eq_getElem_cons hi2
       have d2 := List.drop_eq_getElem_cons hi3
       have d5 := List.drop_eq_getElem_cons hi5
       have epx : (ps p x)[i] = prm p x.2[i] := by simp [ps]
       have hk2 := lok.2.2 _ (List.getElem_mem hi4)
       have fit := (pok.2 _ (List.getElem_mem hi3)).1
       obtain ⟨n1, n2, n3⟩ := nbI fit
       have tb' := tb (seg b 0 x.2.length)
       rw [d1, d2, d5] 
       rw [d2, d5] at hat
       rw [totF_cons] at hat
       unfold news
       have hmid : (done ++ rs[i] :: rs.drop (i + 1)).getD i (Ty.dflt YReading) = rs[i] := by
        rw [List.getD_eq_getElem?_getD, List.getElem?_append_right (by omega), hd, Nat.sub_self]; rfl
       have stp : ∀ r, Ev (fun k => if (seg b 0 x.2.length)[i] = false then telemetry_Changed.c1 k p rs b (at_ : Int) (seg b 0 x.2.length) (done ++ rs[i] :: rs.drop (i + 1)) x.2 (x.2.length : Int) ((i : Int) + 1) else
        (telemetry_parameter.f k p x.2[i]).bind fun r5 => (telemetry_row_take.f k (b, (at_ : Int)) r5.1.2.1).bind fun r6 => (telemetry_raw.f k r5.1 r6.1).bind fun r7 =>
         if (0 : Int) ≤ (i : Int) ∧ (i : Int) < (rs.length : Int) then (if r7.1 = rs[i].2 then some ([], (3, ())) else (if (0 : Int) ≤ (i : Int) ∧ (i : Int) < ((done ++ rs[i] :: rs.drop (i + 1)).length : Int) then telemetry_Changed.c1 k p rs r6.2.1.1 r6.2.1.2 (seg b 0 x.2.length) ((done ++ rs[i] :: rs.drop (i + 1)).set i (rs[i].1, r7.1)) x.2 (x.2.length : Int) ((i : Int) + 1) else none)) else none) r →
        Ev (fun k => telemetry_Changed.c1 k p rs b (at_ : Int) (seg b 0 x.2.length) (done ++ rs[i] :: rs.drop (i + 1)) x.2 (x.2.length : Int) i) r := by
        intro r hr
        refine Ev.step (fun k => by rw [telemetry_Changed.c1_eq]) ?_
        rw [w64 (x := (i : Int) + 1) (by omega) (by omega)]
        simp only [decide_eq_true_eq, Bool.not_eq_true', Int.toNat_natCast, getD_nat (Ty.dflt YReading) rs i hi2, getD_nat [] x.2 i hi4, getD_nat false _ i hi5, hmid]
        exact Ev.yes (by omega) (Ev.yes (by omega) (Ev.yes (by omega) hr))
       cases hf : (seg b 0 x.2.length)[i] with
       | false =>
        rw [hf] at hat
        rw [if_neg (by simp)]
        have next := ih (i + 1) (done ++ [rs[i]]) at_ (by omega) (by simp [hd]) hbl (by simpa using hat)
        rw [List.append_assoc] at next
        refine stp _ (Ev.yes hf ?_)
        refine Ev.cast ?_ next
        cases news ((ps p x).drop (i + 1)) (rs.drop (i + 1)) ((seg b 0 x.2.length).drop (i + 1)) b at_ with
        | none => rfl
        | some out => simp
       | true =>
        rw [hf, if_pos rfl] at hat
        rw [if_pos rfl]
        have bd := num_bd (seg b at_ (nb (ps p x)[i]))
        rw [seg_length] at bd
        have b1 := p24 (nb (ps p x)[i]) n3
        have rw_ := fun k => rawT_ev k (ps p x)[i] fit (num 0 (seg b at_ (nb (ps p x)[i]))) bd.1 (by omega)
        refine stp _ (Ev.no (by simp [hf]) (Ev.bind (prm_ev a.hp a.hf hk2) ?_))
        simp only
        rw [← epx, n1]
        refine Ev.bind (takef_ev b hb (by omega) (nb (ps p x)[i]) at_ (by omega) (by omega)) ?_
        simp only [rw_, Option.bind_some]
        refine Ev.yes (by omega) ?_
        by_cases he : rawv (ps p x)[i] (num 0 (seg b at_ (nb (ps p x)[i]))) = rs[i].2
        ·rw [if_pos he]
         exact Ev.yes he (Ev.now _)
        ·rw [if_neg he]
         refine Ev.no he (Ev.yes (by simp; omega) ?_)
         have next := ih (i + 1) (done ++ [(rs[i].1, rawv (ps p x)[i] (num 0 (seg b at_ (nb (ps p x)[i]))))]) (at_ + nb (ps p x)[i]) (by omega) (by simp [hd]) hbl (by omega)
         rw [List.append_assoc] at next
         have sm := set_mid done rs[i] (rs[i].1, rawv (ps p x)[i] (num 0 (seg b at_ (nb (ps p x)[i])))) (rs.drop (i + 1))
         rw [hd] at sm
         rw [sm]
         refine Ev.cast ?_ next
         cases news ((ps p x).drop (i + 1)) (rs.drop (i + 1)) ((seg b 0 x.2.length).drop (i + 1)) b (at_ + nb (ps p x)[i]) with
         | none => rfl
         | some out => simp
     have R : List DReading × Int × Unit := ([], 3, ())
     -- the bits
     have key : ∀ (d i : Nat) (tot : Nat), i + d = x.2.length → tot + totF ((ps p x).drop i) ((seg b 0 x.2.length).drop i) = x.2.length + totF (ps p x) (seg b 0 x.2.length) →
      Ev (fun k => telemetry_Changed.c0 k p rs b x.1 x.2 b (i : Int) (seg b 0 i) (tot : Int) x.2 (x.2.length : Int) i) (if CdOk (ps p x) rs b then ((news (ps p x) rs (seg b 0 (ps p x).length) b (ps p x).length).getD [], 0, ()) else ([], 3, ())) := by
      intro d
      induction d with
      | zero =>
       intro i tot hi ht
       have hix : i = x.2.length := by omega
       have ht : tot = x.2.length + totF (ps p x) (seg b 0 x.2.length) := by
        rw [List.drop_of_length_le (l := ps p x) (by omega)] at ht
        simpa [totF] using ht
       have tb' := tb (seg b 0 x.2.length)
       refine Ev.step (fun k => by rw [telemetry_Changed.c0_eq]) ?_
       refine Ev.no (by simp; omega) ?_
       rw [d8 tot (by omega)]
       simp only [Bool.not_eq_true', decide_eq_false_iff_not]
       by_cases hl2 : b.length = (tot + 7) / 8
       ·refine Ev.no (by omega) (Ev.yes (by omega) ?_)
        have k2 := key2 x.2.length 0 [] x.2.length (by omega) rfl (by omega) (by simp)
        rw [hix]
        simp only [List.drop_zero, List.nil_append] at k2
        refine Ev.cast ?_ k2
        unfold CdOk
        rw [← xl]
        cases hn : news (ps p x) rs (seg b 0 x.2.length) b x.2.length with
        | none => rw [if_neg (fun hh => by have := hh.2.2; simp at this)]
        | some out =>
         by_cases hz : Zeros b (x.2.length + totF (ps p x) (seg b 0 x.2.length))
         ·rw [if_pos ⟨by omega, hz, rfl⟩]
          simp [hz]
         ·rw [if_neg (fun hh => hz hh.2.1)]
          simp [hz]
       ·rw [if_neg (fun hh => by have := hh.1; rw [← xl] at this; omega)]
        exact Ev.yes (by omega) (Ev.now _)
      | succ d ih =>
       intro i tot hi ht
       have hi4 : i < x.2.length := by omega
       have hi3 : i < (ps p x).length := by omega
       have hi5 : i < (seg b 0 x.2.length).length := by rw [seg_length]; omega
       have d2 := List.drop_eq_getElem_cons hi3
       have d5 := List.drop_eq_getElem_cons hi5
       have epx : (ps p x)[i] = prm p x.2[i] := by simp [ps]
       have hk2 := lok.2.2 _ (List.getElem_mem hi4)
       have fit := (pok.2 _ (List.getElem_mem hi3)).1
       obtain ⟨n1, n2, n3⟩ := nbI fit
       have tb' := tb (seg b 0 x.2.length)
       have hbit : (seg b 0 x.2.length)[i] = bitAt b i := by
        have e := seg_append b i (x.2.length - i) 0
        rw [show i + (x.2.length - i) = x.2.length by omega] at e
        have : (seg b 0 x.2.length)[i]? = some (bitAt b i) := by
         rw [e, List.getElem?_append_right (by rw [seg_length]; omega), seg_length, Nat.sub_self]
         obtain ⟨m, hm⟩ : ∃ m, x.2.length - i = m + 1 := ⟨x.2.length - i - 1, by omega⟩
         rw [hm, seg]; simp
        rw [List.getElem?_eq_getElem hi5] at this
        injection this
       rw [d2, d5, hbit] at ht
       rw [totF_cons] at ht
       have sn := seg_snoc b i 0
       rw [Nat.zero_add] at sn
       have tk := takef_ev b hb (by omega) 1 i (by omega) (by omega)
       rw [bit_num] at tk
       refine Ev.step (fun k => by rw [telemetry_Changed.c0_eq]) ?_
       rw [w64 (x := (i : Int) + 1) (by omega) (by omega)]
       simp only [decide_eq_true_eq, Int.toNat_natCast, getD_nat [] x.2 i hi4]
       refine Ev.yes (by omega) (Ev.yes (by omega) (Ev.bind tk (Ev.yes (by rw [seg_length]; omega) (Ev.bind (prm_ev a.hp a.hf hk2) ?_))))
       simp only
       have bt : decide ((if bitAt b i = true then (1 : Int) else 0) = 1) = bitAt b i := by cases bitAt b i <;> simp
       rw [bt, ← sn, ← epx, n1]
       rw [w64 (x := (tot : Int) + ((nb (ps p x)[i] : Nat) : Int)) (by omega) (by omega)]
       by_cases hf : bitAt b i = true
       ·rw [if_pos hf] at ht ⊢
        have next := ih (i + 1) (tot + nb (ps p x)[i]) (by omega) (by omega)
        exact Ev.yes (by decide) next
       ·rw [if_neg hf] at ht ⊢
        have next := ih (i + 1) tot (by omega) (by omega)
        exact Ev.no (by decide) next
     have k := key x.2.length 0 x.2.length (by omega) (by simp)
     refine Ev.eq e0 (Ev.bind fo (Ev.no (by simp) (Ev.bind rd1 (Ev.no (by simp) (Ev.no ?_ k)))))
     simp only
     rw [d8 _ (by omega)]
     simp only [decide_eq_true_eq]
     omega
   ·rw [if_pos hk]
    exact Ev.eq e0 (Ev.bind fo (Ev.no (by simp) (Ev.bind rd1 (Ev.yes (by simpa using hk) (Ev.now _)))))
 ·rw [if_pos hc]
  rw [if_neg hc] at fo
  exact Ev.eq e0 (Ev.bind fo (Ev.yes (by simpa using hc) (Ev.now _)))

theorem cd_totF : ∀ (ys : List DParameter) (bs ns : List DReading), ys.length = bs.length → bs.length = ns.length → totF ys (flags bs ns) = (cvals ys bs ns).length
 | [], [], [], _, _ => rfl
 | [], [], _ :: _, _, h => by simp at h
 | [], _ :: _, _, h, _ => by simp at h
 | _ :: _, [], _, h, _ => by simp at h
 | _ :: _, _ :: _, [], _, h => by simp at h
 | y :: ys, b :: bs, n :: ns, h1, h2 => by
  have ih := cd_totF ys bs ns (by simpa using h1) (by simpa using h2)
  simp only [totF, flags, cvals, List.length_append, ih]
  by_cases h : b.2 = n.2
  ·simp [h]
  ·simp [h, nbits_length]
theorem cd_news : ∀ (ys : List DParameter) (bs ns : List DReading) (b : List Int) (i : Nat), ROk ys bs → ROk ys ns → (∀ y ∈ ys, Fit y) → (∀ j, j < (cvals ys bs ns).length → bitAt b (i + j) = (cvals ys bs ns).getD j false) → news ys bs (flags bs ns) b i = some ns
 | [], [], [], _, _, _, _, _, _ => rfl
 | [], _, _ :: _, _, _, _, h, _, _ => h.elim
 | [], _ :: _, _, _, _, h, _, _, _ => h.elim
 | _ :: _, [], _, _, _, h, _, _, _ => h.elim
 | _ :: _, _ :: _, [], _, _, _, h, _, _ => h.elim
 | y :: ys, r :: bs, n :: ns, b, i, h1, h2, hf, hb => by
  have fit := (hf y (by simp)).1
  have nm : n.1 = r.1 := by rw [h1.1, h2.1]
  unfold flags news
  rw [cvals] at hb
  by_cases h : r.2 = n.2
  ·rw [if_pos h] at hb
   rw [if_neg (by simp [h]), cd_news ys bs ns b i h1.2.2 h2.2.2 (fun z hz => hf z (by simp [hz])) (by simpa using hb)]
   have : r = n := Prod.ext nm.symm h
   rw [this]
   rfl
  ·rw [if_neg h] at hb
   have s1 : seg b i (nb y) = nbits n.2 (nb y) := by
    refine seg_eq b _ _ _ (nbits_length _ _) fun j hj => ?_
    rw [hb j (by rw [List.length_append, nbits_length]; omega), List.getD_eq_getElem?_getD, List.getD_eq_getElem?_getD, List.getElem?_append_left (by rw [nbits_length]; exact hj)]
   have ih := cd_news ys bs ns b (i + nb y) h1.2.2 h2.2.2 (fun z hz => hf z (by simp [hz])) (fun j hj => by
    rw [show i + nb y + j = i + (nb y + j) by omega, hb (nb y + j) (by rw [List.length_append, nbits_length]; omega), List.getD_eq_getElem?_getD, List.getD_eq_getElem?_getD, List.getElem?_append_right (by rw [nbits_length]; omega), nbits_length]
    congr 2; omega)
   rw [if_pos (by simp [h]), s1, num_nbits, rawv_back fit h2.2.1, if_neg (fun e => h e.symm), ih]
   show some ((r.1, n.2) :: ns) = some (n :: ns)
   rw [← nm]
theorem flags_self : ∀ ns : List DReading, flags ns ns = List.replicate ns.length false
 | [] => rfl
 | n :: ns => by simp [flags, flags_self ns, List.replicate_succ]
theorem cvals_self : ∀ (ys : List DParameter) (ns : List DReading), cvals ys ns ns = []
 | [], _ => by simp [cvals]
 | _ :: _, [] => by simp [cvals]
 | y :: ys, n :: ns => by simp [cvals, cvals_self ys ns]
theorem ChRes.nil {c : Int} {p : List DParameter} {o : Option DLayout} {bs ns : List DReading} {r : List Int × Int × Unit} (h : ChRes c p o bs ns r) (hr : ¬ r.2.1 = 0) : r.1 = [] := by
 unfold ChRes at h
 by_cases hc : c = 0
 ·rw [if_neg (by omega)] at h
  cases o with
  | none => rw [h]
  | some x =>
   simp only at h
   by_cases hk : chk (ps p x) bs = 0
   ·rw [if_neg (by omega)] at h
    by_cases hk : chk (ps p x) ns = 0
    ·rw [if_neg (by omega)] at h; exact absurd h.2 hr
    ·rw [if_pos hk] at h; rw [h]
   ·rw [if_pos hk] at h; rw [h]
 ·rw [if_pos hc] at h; rw [h]
theorem ChRes.good_of {c : Int} {p : List DParameter} {o : Option DLayout} {bs ns : List DReading} {r : List Int × Int × Unit} (h : ChRes c p o bs ns r) (hr : r.2.1 = 0) :
 c = 0 ∧ ∃ x, o = some x ∧ ROk (ps p x) bs ∧ ROk (ps p x) ns ∧ Pack r.1 (flags bs ns ++ cvals (ps p x) bs ns) := by
 unfold ChRes at h
 by_cases hc : c = 0
 ·rw [if_neg (by omega)] at h
  cases o with
  | none => rw [h] at hr; exact absurd hr (by decide)
  | some x =>
   simp only at h
   by_cases hk : chk (ps p x) bs = 0
   ·rw [if_neg (by omega)] at h
    by_cases hk2 : chk (ps p x) ns = 0
    ·rw [if_neg (by omega)] at h; exact ⟨hc, x, rfl, (chk_zero _ _).1 hk, (chk_zero _ _).1 hk2, h.1⟩
    ·rw [if_pos hk2] at h; rw [h] at hr; exact absurd hr hk2
   ·rw [if_pos hk] at h; rw [h] at hr; exact absurd hr hk
 ·rw [if_pos hc] at h; rw [h] at hr; exact absurd hr hc
theorem CdRes.back {p : List DParameter} {x : DLayout} {bs ns : List DReading} {b : List Int} (pok : POk (ps p x)) (h1 : ROk (ps p x) bs) (h2 : ROk (ps p x) ns) (h : Pack b (flags bs ns ++ cvals (ps p x) bs ns)) : CdRes 0 p (some x) bs b = (ns, 0, ()) := by
 have l1 := h1.len
 have l2 := h2.len
 have fl := flags_length bs ns (by omega)
 have sf : seg b 0 (ps p x).length = flags bs ns := by
  refine seg_eq b _ _ _ (by omega) fun j hj => ?_
  rw [Nat.zero_add, h.bit, List.getD_eq_getElem?_getD, List.getD_eq_getElem?_getD, List.getElem?_append_left (by omega)]
 have tf : totF (ps p x) (flags bs ns) = (cvals (ps p x) bs ns).length := cd_totF _ _ _ (by omega) (by omega)
 have nw : news (ps p x) bs (flags bs ns) b (ps p x).length = some ns := by
  refine cd_news _ _ _ b _ h1 h2 pok.2 fun j hj => ?_
  rw [h.bit, List.getD_eq_getElem?_getD, List.getD_eq_getElem?_getD, List.getElem?_append_right (by omega), fl]
  congr 2; omega
 have all : CdOk (ps p x) bs b := by
  unfold CdOk
  rw [sf, tf, nw]
  have hl := h.len
  rw [List.length_append, fl, l1] at hl
  refine ⟨hl, fun j hj => ?_, rfl⟩
  rw [h.bit, List.getD_eq_getElem?_getD, List.getElem?_eq_none (by rw [List.length_append]; omega)]; rfl
 unfold CdRes
 rw [if_neg (by decide)]
 simp only
 rw [if_neg (by rw [(chk_zero _ _).2 h1]; decide), if_pos all, sf, nw]
 rfl
end Go.Proofs.Ytcefbdknoelacaa.Pure

-- YtcefbdknoelacaaAw
namespace Go.Proofs.Ytcefbdknoelacaa.Pure
open Go Go.Proofs.Ytcefbdknoelacaa.A
theorem awake_at (k : Nat) : perigeelaw7_awake.f (k + 40) = some (true, ()) := by kernel_rfl
theorem awake_ev : Ev (fun k => perigeelaw7_awake.f k) (true, ()) := ⟨40, fun n hn => by
 obtain ⟨k, rfl⟩ : ∃ k, n = k + 40 := ⟨n - 40, by omega⟩
 exact awake_at k⟩
end Go.Proofs.Ytcefbdknoelacaa.Pure

-- YtcefbdknoelacaaPureTelemetryChangedIsNow
set_option linter.unusedVariables false
namespace Go.Proofs.Ytcefbdknoelacaa.Pure
open Go Go.Proofs.Ytcefbdknoelacaa.A
theorem TelemetryChangedIsNow (p : List DParameter) (l : List DLayout) (t : List UInt8) (bs ns : List DReading) (h0 : okT (.sl YParameter) p) (h1 : okT (.sl YLayout) l) (h2 : okT .str t) (h3 : okT (.sl YReading) bs) (h4 : okT (.sl YReading) ns) :
 ∃ n, perigeelaw7_TelemetryChangedIsNow.f n p l t bs ns = some (true, ()) := by
 refine Ev.rounds (g := fun k => perigeelaw7_TelemetryChangedIsNow.f k p l t bs ns) ?_
 have hl : l.length ≤ 4611686018427387904 := by have := h1.1; omega
 have hb : bs.length ≤ 4611686018427387904 := by have := h3.1; omega
 have hn : ns.length ≤ 4611686018427387904 := by have := h4.1; omega
 obtain ⟨c, c1, c2, ok⟩ := layoutsOk p l h0 h1
 obtain ⟨r, r1, r2⟩ := chgT_ev p l c c1 ok hl t bs ns hb hn
 refine Ev.eq (fun k => by rw [perigeelaw7_TelemetryChangedIsNow.f_eq]) (Ev.bind r1 ?_)
 by_cases hr : r.2.1 = 0
 ·refine Ev.no (by simp [hr]) ?_
  obtain ⟨hc, x, hx, g1, g2, g3⟩ := r2.good_of hr
  subst hc
  have a := ok rfl
  have pok := a.ps (findL_some hx).1
  have pl := pok.1
  have l1 := g1.len
  have l2 := g2.len
  have cl := cvals_length (ps p x) bs ns pok.2
  have fl := flags_length bs ns (by omega)
  have bl : r.1.length ≤ 1000000 := by rw [g3.len, List.length_append]; omega
  have d1 := cdT_ev p l 0 c1 ok hl t bs hb r.1 g3.by_ (by omega)
  rw [hx, CdRes.back pok g1 g2 g3] at d1
  obtain ⟨q1, e1, e2⟩ := equal_reads ns ns hn
  obtain rfl : q1 = true := e2.2 rfl
  obtain ⟨s, s1, s2⟩ := chgT_ev p l 0 c1 ok hl t ns ns hn hn
  have hs : Pack s.1 (flags ns ns) ∧ s.2.1 = 0 := by
   unfold ChRes at s2
   rw [if_neg (by decide), hx] at s2
   simp only at s2
   rw [if_neg (by rw [(chk_zero _ _).2 g2]; decide), if_neg (by rw [(chk_zero _ _).2 g2]; decide), cvals_self, List.append_nil] at s2
   exact s2
  refine Ev.bind d1 (Ev.no (by simp) (Ev.bind e1 (Ev.no (by simp) (Ev.bind s1 (Ev.yes (by simp [hs.2]) (Ev.yes ?_ (Ev.bind awake_ev (Ev.now _))))))))
  rw [w64 (x := (ns.length : Int) + 7) (by omega) (by omega), Int.tdiv_eq_ediv_of_nonneg (by omega), w64 (by omega) (by omega), hs.1.len, flags_self, List.length_replicate]
  simp
 ·refine Ev.yes (by simp [hr]) (Ev.yes ?_ (Ev.bind awake_ev (Ev.now _)))
  rw [r2.nil hr]; simp
end Go.Proofs.Ytcefbdknoelacaa.Pure
