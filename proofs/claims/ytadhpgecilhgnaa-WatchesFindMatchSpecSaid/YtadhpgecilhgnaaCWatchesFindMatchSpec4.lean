/- Reached, Ways and Traps are as specified, with all errors. -/
import Derived.Laws.Strings
import Derived.Test.YtadhpgecilhgnaaChecked
import Derived.Test.YtadhpgecilhgnaaCWatchesFindMatchSpec3
-- YtadhpgecilhgnaaK
set_option linter.unusedVariables false
set_option maxRecDepth 100000
namespace Go.Proofs.Ytadhpgecilhgnaa.A
open Go
theorem follows : Try.prog.follows .mixedOrders = true := by kernel_rfl
theorem tab_ok : TabOk Try.prog tab := tabOk_of (by kernel_rfl)
theorem slices_Index_string.ok (n : Nat) : FunC Try.prog 64 (slices_Index_string.E n) := funC_of follows tab_ok Try.func64 (T := slices_Index_string.T) (ann := slices_Index_string.ann) (ins := slices_Index_string.ins) (outs := slices_Index_string.outs) (n := n) (fun k => TOk.nil) (by kernel_rfl) (by kernel_rfl)
theorem slices_Contains_string.ok (n : Nat) : FunC Try.prog 30 (slices_Contains_string.E n) := funC_of follows tab_ok Try.func30 (T := slices_Contains_string.T) (ann := slices_Contains_string.ann) (ins := slices_Contains_string.ins) (outs := slices_Contains_string.outs) (n := n) (fun k => TOk.cons (slices_Index_string.ok k) (TOk.nil)) (by kernel_rfl) (by kernel_rfl)
theorem monitor_IsName.ok (n : Nat) : FunC Try.prog 59 (monitor_IsName.E n) := funC_of follows tab_ok Try.func59 (T := monitor_IsName.T) (ann := monitor_IsName.ann) (ins := monitor_IsName.ins) (outs := monitor_IsName.outs) (n := n) (fun k => TOk.nil) (by kernel_rfl) (by kernel_rfl)
theorem monitor_checkModes.ok (n : Nat) : FunC Try.prog 51 (monitor_checkModes.E n) := funC_of follows tab_ok Try.func51 (T := monitor_checkModes.T) (ann := monitor_checkModes.ann) (ins := monitor_checkModes.ins) (outs := monitor_checkModes.outs) (n := n) (fun k => TOk.cons (slices_Contains_string.ok k) (TOk.cons (monitor_IsName.ok k) (TOk.nil))) (by kernel_rfl) (by kernel_rfl)
theorem kit_In.ok (n : Nat) : FunC Try.prog 58 (kit_In.E n) := funC_of follows tab_ok Try.func58 (T := kit_In.T) (ann := kit_In.ann) (ins := kit_In.ins) (outs := kit_In.outs) (n := n) (fun k => TOk.nil) (by kernel_rfl) (by kernel_rfl)
theorem monitor_checkRule.ok (n : Nat) : FunC Try.prog 52 (monitor_checkRule.E n) := funC_of follows tab_ok Try.func52 (T := monitor_checkRule.T) (ann := monitor_checkRule.ann) (ins := monitor_checkRule.ins) (outs := monitor_checkRule.outs) (n := n) (fun k => TOk.cons (slices_Contains_string.ok k) (TOk.cons (kit_In.ok k) (TOk.cons (monitor_IsName.ok k) (TOk.nil)))) (by kernel_rfl) (by kernel_rfl)
theorem monitor_CheckWatch.ok (n : Nat) : FunC Try.prog 19 (monitor_CheckWatch.E n) := funC_of follows tab_ok Try.func19 (T := monitor_CheckWatch.T) (ann := monitor_CheckWatch.ann) (ins := monitor_CheckWatch.ins) (outs := monitor_CheckWatch.outs) (n := n) (fun k => TOk.cons (monitor_checkModes.ok k) (TOk.cons (monitor_checkRule.ok k) (TOk.nil))) (by kernel_rfl) (by kernel_rfl)
theorem kit_First.ok (n : Nat) : FunC Try.prog 46 (kit_First.E n) := funC_of follows tab_ok Try.func46 (T := kit_First.T) (ann := kit_First.ann) (ins := kit_First.ins) (outs := kit_First.outs) (n := n) (fun k => TOk.nil) (by kernel_rfl) (by kernel_rfl)
theorem monitor_CheckLimits.ok (n : Nat) : FunC Try.prog 77 (monitor_CheckLimits.E n) := funC_of follows tab_ok Try.func77 (T := monitor_CheckLimits.T) (ann := monitor_CheckLimits.ann) (ins := monitor_CheckLimits.ins) (outs := monitor_CheckLimits.outs) (n := n) (fun k => TOk.cons (kit_In.ok k) (TOk.cons (monitor_IsName.ok k) (TOk.nil))) (by kernel_rfl) (by kernel_rfl)
theorem kit_Range.ok (n : Nat) : FunC Try.prog 78 (kit_Range.E n) := funC_of follows tab_ok Try.func78 (T := kit_Range.T) (ann := kit_Range.ann) (ins := kit_Range.ins) (outs := kit_Range.outs) (n := n) (fun k => TOk.cons (kit_In.ok k) (TOk.nil)) (by kernel_rfl) (by kernel_rfl)
theorem monitor_state.ok (n : Nat) : FunC Try.prog 79 (monitor_state.E n) := funC_of follows tab_ok Try.func79 (T := monitor_state.T) (ann := monitor_state.ann) (ins := monitor_state.ins) (outs := monitor_state.outs) (n := n) (fun k => TOk.nil) (by kernel_rfl) (by kernel_rfl)
theorem monitor_StateOf.ok (n : Nat) : FunC Try.prog 44 (monitor_StateOf.E n) := funC_of follows tab_ok Try.func44 (T := monitor_StateOf.T) (ann := monitor_StateOf.ann) (ins := monitor_StateOf.ins) (outs := monitor_StateOf.outs) (n := n) (fun k => TOk.cons (kit_First.ok k) (TOk.cons (monitor_CheckLimits.ok k) (TOk.cons (kit_Range.ok k) (TOk.cons (monitor_state.ok k) (TOk.nil))))) (by kernel_rfl) (by kernel_rfl)
theorem perigeelaw8_awake.ok (n : Nat) : FunC Try.prog 14 (perigeelaw8_awake.E n) := funC_of follows tab_ok Try.func14 (T := perigeelaw8_awake.T) (ann := perigeelaw8_awake.ann) (ins := perigeelaw8_awake.ins) (outs := perigeelaw8_awake.outs) (n := n) (fun k => TOk.cons (monitor_StateOf.ok k) (TOk.nil)) (by kernel_rfl) (by kernel_rfl)
theorem perigeeref8_within.ok (n : Nat) : FunC Try.prog 60 (perigeeref8_within.E n) := funC_of follows tab_ok Try.func60 (T := perigeeref8_within.T) (ann := perigeeref8_within.ann) (ins := perigeeref8_within.ins) (outs := perigeeref8_within.outs) (n := n) (fun k => TOk.nil) (by kernel_rfl) (by kernel_rfl)
theorem perigeeref8_IsName.ok (n : Nat) : FunC Try.prog 53 (perigeeref8_IsName.E n) := funC_of follows tab_ok Try.func53 (T := perigeeref8_IsName.T) (ann := perigeeref8_IsName.ann) (ins := perigeeref8_IsName.ins) (outs := perigeeref8_IsName.outs) (n := n) (fun k => TOk.cons (perigeeref8_within.ok k) (TOk.nil)) (by kernel_rfl) (by kernel_rfl)
theorem perigeeref8_has.ok (n : Nat) : FunC Try.prog 55 (perigeeref8_has.E n) := funC_of follows tab_ok Try.func55 (T := perigeeref8_has.T) (ann := perigeeref8_has.ann) (ins := perigeeref8_has.ins) (outs := perigeeref8_has.outs) (n := n) (fun k => TOk.nil) (by kernel_rfl) (by kernel_rfl)
theorem perigeeref8_checkChange.ok (n : Nat) : FunC Try.prog 54 (perigeeref8_checkChange.E n) := funC_of follows tab_ok Try.func54 (T := perigeeref8_checkChange.T) (ann := perigeeref8_checkChange.ann) (ins := perigeeref8_checkChange.ins) (outs := perigeeref8_checkChange.outs) (n := n) (fun k => TOk.cons (perigeeref8_IsName.ok k) (TOk.cons (perigeeref8_has.ok k) (TOk.nil))) (by kernel_rfl) (by kernel_rfl)
theorem perigeeref8_checkRule.ok (n : Nat) : FunC Try.prog 56 (perigeeref8_checkRule.E n) := funC_of follows tab_ok Try.func56 (T := perigeeref8_checkRule.T) (ann := perigeeref8_checkRule.ann) (ins := perigeeref8_checkRule.ins) (outs := perigeeref8_checkRule.outs) (n := n) (fun k => TOk.cons (perigeeref8_IsName.ok k) (TOk.cons (perigeeref8_has.ok k) (TOk.cons (perigeeref8_within.ok k) (TOk.nil)))) (by kernel_rfl) (by kernel_rfl)
theorem perigeeref8_ruleOf.ok (n : Nat) : FunC Try.prog 57 (perigeeref8_ruleOf.E n) := funC_of follows tab_ok Try.func57 (T := perigeeref8_ruleOf.T) (ann := perigeeref8_ruleOf.ann) (ins := perigeeref8_ruleOf.ins) (outs := perigeeref8_ruleOf.outs) (n := n) (fun k => TOk.nil) (by kernel_rfl) (by kernel_rfl)
theorem perigeeref8_CheckWatch.ok (n : Nat) : FunC Try.prog 20 (perigeeref8_CheckWatch.E n) := funC_of follows tab_ok Try.func20 (T := perigeeref8_CheckWatch.T) (ann := perigeeref8_CheckWatch.ann) (ins := perigeeref8_CheckWatch.ins) (outs := perigeeref8_CheckWatch.outs) (n := n) (fun k => TOk.cons (perigeeref8_IsName.ok k) (TOk.cons (perigeeref8_checkChange.ok k) (TOk.cons (perigeeref8_has.ok k) (TOk.cons (perigeeref8_checkRule.ok k) (TOk.cons (perigeeref8_ruleOf.ok k) (TOk.nil)))))) (by kernel_rfl) (by kernel_rfl)
theorem perigeeref8_inOrder.ok (n : Nat) : FunC Try.prog 73 (perigeeref8_inOrder.E n) := funC_of follows tab_ok Try.func73 (T := perigeeref8_inOrder.T) (ann := perigeeref8_inOrder.ann) (ins := perigeeref8_inOrder.ins) (outs := perigeeref8_inOrder.outs) (n := n) (fun k => TOk.nil) (by kernel_rfl) (by kernel_rfl)
theorem slices_Equal_string.ok (n : Nat) : FunC Try.prog 27 (slices_Equal_string.E n) := funC_of follows tab_ok Try.func27 (T := slices_Equal_string.T) (ann := slices_Equal_string.ann) (ins := slices_Equal_string.ins) (outs := slices_Equal_string.outs) (n := n) (fun k => TOk.nil) (by kernel_rfl) (by kernel_rfl)
theorem monitor_reach.ok (n : Nat) : FunC Try.prog 62 (monitor_reach.E n) := funC_of follows tab_ok Try.func62 (T := monitor_reach.T) (ann := monitor_reach.ann) (ins := monitor_reach.ins) (outs := monitor_reach.outs) (n := n) (fun k => TOk.nil) (by kernel_rfl) (by kernel_rfl)
theorem monitor_Reached.ok (n : Nat) : FunC Try.prog 28 (monitor_Reached.E n) := funC_of follows tab_ok Try.func28 (T := monitor_Reached.T) (ann := monitor_Reached.ann) (ins := monitor_Reached.ins) (outs := monitor_Reached.outs) (n := n) (fun k => TOk.cons (monitor_CheckWatch.ok k) (TOk.cons (slices_Contains_string.ok k) (TOk.cons (monitor_reach.ok k) (TOk.nil)))) (by kernel_rfl) (by kernel_rfl)
theorem cmp_isNaN_string.ok (n : Nat) : FunC Try.prog 84 (cmp_isNaN_string.E n) := funC_of follows tab_ok Try.func84 (T := cmp_isNaN_string.T) (ann := cmp_isNaN_string.ann) (ins := cmp_isNaN_string.ins) (outs := cmp_isNaN_string.outs) (n := n) (fun k => TOk.nil) (by kernel_rfl) (by kernel_rfl)
theorem slices_Clone_string.ok (n : Nat) : FunC Try.prog 69 (slices_Clone_string.E n) := funC_of follows tab_ok Try.func69 (T := slices_Clone_string.T) (ann := slices_Clone_string.ann) (ins := slices_Clone_string.ins) (outs := slices_Clone_string.outs) (n := n) (fun k => TOk.nil) (by kernel_rfl) (by kernel_rfl)
theorem cmp_Compare_string.ok (n : Nat) : FunC Try.prog 86 (cmp_Compare_string.E n) := funC_of follows tab_ok Try.func86 (T := cmp_Compare_string.T) (ann := cmp_Compare_string.ann) (ins := cmp_Compare_string.ins) (outs := cmp_Compare_string.outs) (n := n) (fun k => TOk.cons (cmp_isNaN_string.ok k) (TOk.nil)) (by kernel_rfl) (by kernel_rfl)
theorem slices_Compare_string.ok (n : Nat) : FunC Try.prog 70 (slices_Compare_string.E n) := funC_of follows tab_ok Try.func70 (T := slices_Compare_string.T) (ann := slices_Compare_string.ann) (ins := slices_Compare_string.ins) (outs := slices_Compare_string.outs) (n := n) (fun k => TOk.cons (cmp_Compare_string.ok k) (TOk.nil)) (by kernel_rfl) (by kernel_rfl)
theorem slices_Sort_string.ok (n : Nat) : FunC Try.prog 71 (slices_Sort_string.E n) := by
 refine ⟨fun h => (by have h2 : (some ⟨.str, fun xs => some (sortS xs)⟩ : Option ((e : Ty) × (List e.den → Option (List e.den)))) = none := h; cases h2), fun e g h => ?_, Try.f71, Try.func71, by kernel_rfl, by kernel_rfl⟩
 cases h
 exact rowOk_sortS (fun blk off cap zs w h1 h2 h3 => Try.slices_Sort_string blk off cap zs w h1 h2 h3) fun p cap w => Try.slices_Sort_string_none p cap w

theorem monitor_Ways.ok (n : Nat) : FunC Try.prog 33 (monitor_Ways.E n) := funC_of follows tab_ok Try.func33 (T := monitor_Ways.T) (ann := monitor_Ways.ann) (ins := monitor_Ways.ins) (outs := monitor_Ways.outs) (n := n) (fun k => TOk.cons (monitor_CheckWatch.ok k) (TOk.cons (slices_Contains_string.ok k) (TOk.cons (slices_Clone_string.ok k) (TOk.cons (slices_Compare_string.ok k) (TOk.cons (slices_Sort_string.ok k) (TOk.nil)))))) (by kernel_rfl) (by kernel_rfl)
theorem monitor_Traps.ok (n : Nat) : FunC Try.prog 35 (monitor_Traps.E n) := funC_of follows tab_ok Try.func35 (T := monitor_Traps.T) (ann := monitor_Traps.ann) (ins := monitor_Traps.ins) (outs := monitor_Traps.outs) (n := n) (fun k => TOk.cons (monitor_CheckWatch.ok k) (TOk.cons (slices_Contains_string.ok k) (TOk.cons (monitor_reach.ok k) (TOk.nil)))) (by kernel_rfl) (by kernel_rfl)
theorem perigeeref8_Reached.ok (n : Nat) : FunC Try.prog 39 (perigeeref8_Reached.E n) := funC_of follows tab_ok Try.func39 (T := perigeeref8_Reached.T) (ann := perigeeref8_Reached.ann) (ins := perigeeref8_Reached.ins) (outs := perigeeref8_Reached.outs) (n := n) (fun k => TOk.cons (perigeeref8_CheckWatch.ok k) (TOk.cons (perigeeref8_has.ok k) (TOk.cons (perigeeref8_inOrder.ok k) (TOk.nil)))) (by kernel_rfl) (by kernel_rfl)
theorem perigeeref8_modeOf.ok (n : Nat) : FunC Try.prog 75 (perigeeref8_modeOf.E n) := funC_of follows tab_ok Try.func75 (T := perigeeref8_modeOf.T) (ann := perigeeref8_modeOf.ann) (ins := perigeeref8_modeOf.ins) (outs := perigeeref8_modeOf.outs) (n := n) (fun k => TOk.nil) (by kernel_rfl) (by kernel_rfl)
theorem perigeeref8_far.ok (n : Nat) : FunC Try.prog 74 (perigeeref8_far.E n) := funC_of follows tab_ok Try.func74 (T := perigeeref8_far.T) (ann := perigeeref8_far.ann) (ins := perigeeref8_far.ins) (outs := perigeeref8_far.outs) (n := n) (fun k => TOk.cons (perigeeref8_modeOf.ok k) (TOk.nil)) (by kernel_rfl) (by kernel_rfl)
theorem perigeeref8_Ways.ok (n : Nat) : FunC Try.prog 40 (perigeeref8_Ways.E n) := funC_of follows tab_ok Try.func40 (T := perigeeref8_Ways.T) (ann := perigeeref8_Ways.ann) (ins := perigeeref8_Ways.ins) (outs := perigeeref8_Ways.outs) (n := n) (fun k => TOk.cons (perigeeref8_CheckWatch.ok k) (TOk.cons (perigeeref8_has.ok k) (TOk.cons (perigeeref8_far.ok k) (TOk.cons (perigeeref8_modeOf.ok k) (TOk.nil))))) (by kernel_rfl) (by kernel_rfl)
theorem perigeeref8_Traps.ok (n : Nat) : FunC Try.prog 41 (perigeeref8_Traps.E n) := funC_of follows tab_ok Try.func41 (T := perigeeref8_Traps.T) (ann := perigeeref8_Traps.ann) (ins := perigeeref8_Traps.ins) (outs := perigeeref8_Traps.outs) (n := n) (fun k => TOk.cons (perigeeref8_CheckWatch.ok k) (TOk.cons (perigeeref8_has.ok k) (TOk.cons (perigeeref8_far.ok k) (TOk.nil)))) (by kernel_rfl) (by kernel_rfl)
theorem perigeelaw8_WatchesFindMatchSpec.ok (n : Nat) : FunC Try.prog 12 (perigeelaw8_WatchesFindMatchSpec.E n) := funC_of follows tab_ok Try.func12 (T := perigeelaw8_WatchesFindMatchSpec.T) (ann := perigeelaw8_WatchesFindMatchSpec.ann) (ins := perigeelaw8_WatchesFindMatchSpec.ins) (outs := perigeelaw8_WatchesFindMatchSpec.outs) (n := n) (fun k => TOk.cons (perigeelaw8_awake.ok k) (TOk.cons (slices_Equal_string.ok k) (TOk.cons (monitor_Reached.ok k) (TOk.cons (monitor_Ways.ok k) (TOk.cons (monitor_Traps.ok k) (TOk.cons (perigeeref8_Reached.ok k) (TOk.cons (perigeeref8_Ways.ok k) (TOk.cons (perigeeref8_Traps.ok k) (TOk.nil))))))))) (by kernel_rfl) (by kernel_rfl)
end Go.Proofs.Ytadhpgecilhgnaa.A

-- YtadhpgecilhgnaaPk
set_option linter.unusedVariables false
set_option linter.unusedSimpArgs false
namespace Go.Proofs.Ytadhpgecilhgnaa.Pure
open Go Go.Proofs.Ytadhpgecilhgnaa.A

def Ev {α : Type} (g : Nat → Option α) (r : α) : Prop := ∃ k, ∀ n, k ≤ n → g n = some r
theorem Ev.now {α : Type} (r : α) : Ev (fun _ => some r) r := ⟨0, fun _ _ => rfl⟩
theorem Ev.rounds {α : Type} {g : Nat → Option α} {r : α} (h : Ev g r) : ∃ k, g k = some r := let ⟨K, h⟩ := h; ⟨K, h K (Nat.le_refl _)⟩
theorem Ev.bind {α β : Type} {g : Nat → Option α} {f : Nat → α → Option β} {a : α} {r : β} (h : Ev g a) (k : Ev (fun n => f n a) r) : Ev (fun n => (g n).bind (f n)) r := by
 obtain ⟨K, h⟩ := h
 obtain ⟨K', k⟩ := k
 refine ⟨max K K', fun n hn => ?_⟩
 simp only [h n (by omega), Option.bind_some]
 exact k n (by omega)
theorem Ev.step {α : Type} {g f : Nat → Option α} {r : α} (h : ∀ k, g (k + 1) = f k) (k : Ev f r) : Ev g r := by
 obtain ⟨K, k⟩ := k
 refine ⟨K + 1, fun n hn => ?_⟩
 obtain ⟨m, rfl⟩ : ∃ m, n = m + 1 := ⟨n - 1, by omega⟩
 rw [h]
 exact k m (by omega)
theorem Ev.eq {α : Type} {g f : Nat → Option α} {r : α} (h : ∀ k, g k = f k) (k : Ev f r) : Ev g r := by
 obtain ⟨K, k⟩ := k
 exact ⟨K, fun n hn => (h n).trans (k n hn)⟩
theorem less_total : ∀ a b : List UInt8, (Op.bytesLess a b || a == b) = !Op.bytesLess b a := by
 intro a
 induction a with
 | nil => intro b; cases b <;> simp [Op.bytesLess]
 | cons x a ih =>
  intro b
  cases b with
  | nil => simp [Op.bytesLess]
  | cons y b =>
   have := ih b
   have e1 : Op.bytesLess (x :: a) (y :: b) = (decide (x < y) || (x == y && Op.bytesLess a b)) := by rw [Op.bytesLess]
   have e2 : Op.bytesLess (y :: b) (x :: a) = (decide (y < x) || (y == x && Op.bytesLess b a)) := by rw [Op.bytesLess]
   rw [e1, e2]
   rcases Nat.lt_trichotomy x.toNat y.toNat with h | h | h
   ·have h1 : x < y := UInt8.lt_iff_toNat_lt.2 h
    have h2 : ¬ y < x := fun h' => by have := UInt8.lt_iff_toNat_lt.1 h'; omega
    have h3 : ¬ y = x := fun h' => by subst h'; omega
    simp [h1, h2, h3]
   ·have h3 : x = y := UInt8.toNat_inj.1 h
    subst h3
    have h2 : ¬ x < x := fun h' => by have := UInt8.lt_iff_toNat_lt.1 h'; omega
    simpa [h2] using this
   ·have h1 : y < x := UInt8.lt_iff_toNat_lt.2 h
    have h2 : ¬ x < y := fun h' => by have := UInt8.lt_iff_toNat_lt.1 h'; omega
    have h3 : ¬ x = y := fun h' => by subst h'; omega
    simp [h1, h2, h3]

theorem w64 {x : Int} (h : -9223372036854775808 ≤ x) (h' : x ≤ 9223372036854775807) : IntKind.wrap .i64 x = x := by
 have e1 : (2 : Int) ^ 64 = 18446744073709551616 := rfl
 have e2 : (2 : Int) ^ (64 - 1) = 9223372036854775808 := rfl
 simp only [IntKind.wrap, IntKind.bits, IntKind.signed, e1, e2, Bool.true_and, decide_eq_true_eq]
 by_cases hh : x % 18446744073709551616 ≥ 9223372036854775808
 ·rw [if_pos hh]; omega
 ·rw [if_neg hh]; omega
theorem Ev.yes {α : Type} {c : Prop} {hd : Decidable c} {g g' : Nat → Option α} {r : α} (h : c) (e : Ev g r) : Ev (fun k => if c then g k else g' k) r := by
 simp only [if_pos h]; exact e
theorem Ev.no {α : Type} {c : Prop} {hd : Decidable c} {g g' : Nat → Option α} {r : α} (h : ¬ c) (e : Ev g' r) : Ev (fun k => if c then g k else g' k) r := by
 simp only [if_neg h]; exact e
theorem Ev.unique {α : Type} {g : Nat → Option α} {r s : α} (h : Ev g r) (h' : Ev g s) : r = s := by
 obtain ⟨K, h⟩ := h
 obtain ⟨K', h'⟩ := h'
 have h1 := h (max K K') (by omega)
 have h2 := h' (max K K') (by omega)
 rw [h1] at h2
 injection h2
theorem Ev.some {α : Type} {o : Option α} {r : α} (h : o = some r) : Ev (fun _ => o) r := by subst h; exact Ev.now _

theorem getD_nat {α : Type} (z : α) (l : List α) (i : Nat) (h : i < l.length) : l.getD i z = l[i] := by
 simp [List.getD_eq_getElem?_getD, List.getElem?_eq_getElem h]
theorem getD_mem {α : Type} {z : α} {l : List α} {i : Nat} (h : i < l.length) : l.getD i z ∈ l := by
 rw [getD_nat z l i h]; exact List.getElem_mem h

theorem bl_cons (x y : UInt8) (a b : List UInt8) : Op.bytesLess (x :: a) (y :: b) = (decide (x < y) || (x == y && Op.bytesLess a b)) := by rw [Op.bytesLess]
theorem less_irrefl (a : List UInt8) : Op.bytesLess a a = false := by
 have := less_total a a
 cases h : Op.bytesLess a a with
 | false => rfl
 | true => rw [h] at this; simp at this
theorem less_asymm {a b : List UInt8} (h : Op.bytesLess a b = true) : Op.bytesLess b a = false := by
 have := less_total a b
 rw [h] at this
 simpa using this.symm
theorem less_ne {a b : List UInt8} (h : Op.bytesLess a b = true) : a ≠ b := by
 intro e
 subst e
 rw [less_irrefl] at h
 cases h
theorem less_tri {a b : List UInt8} (h1 : ¬ Op.bytesLess a b = true) (h2 : a ≠ b) : Op.bytesLess b a = true := by
 have := less_total a b
 rw [show Op.bytesLess a b = false by simpa using h1, show (a == b) = false by simpa using h2] at this
 simpa using this.symm
theorem less_trans : ∀ {a b c : List UInt8}, Op.bytesLess a b = true → Op.bytesLess b c = true → Op.bytesLess a c = true := by
 intro a
 induction a with
 | nil =>
  intro b c h1 h2
  cases b with
  | nil => simp [Op.bytesLess] at h1
  | cons y b =>
   cases c with
   | nil => simp [Op.bytesLess] at h2
   | cons z c => simp [Op.bytesLess]
 | cons x a ih =>
  intro b c h1 h2
  cases b with
  | nil => simp [Op.bytesLess] at h1
  | cons y b =>
   cases c with
   | nil => simp [Op.bytesLess] at h2
   | cons z c =>
    rw [bl_cons] at h1 h2 ⊢
    simp only [Bool.or_eq_true, Bool.and_eq_true, decide_eq_true_eq, beq_iff_eq] at h1 h2 ⊢
    rcases h1 with h1 | ⟨rfl, h1⟩
    ·rcases h2 with h2 | ⟨rfl, h2⟩
     ·left
      have := UInt8.lt_iff_toNat_lt.1 h1
      have := UInt8.lt_iff_toNat_lt.1 h2
      exact UInt8.lt_iff_toNat_lt.2 (by omega)
     ·exact .inl h1
    ·rcases h2 with h2 | ⟨rfl, h2⟩
     ·exact .inl h2
     ·exact .inr ⟨rfl, ih h1 h2⟩
def Twin {α β : Type} (g : Nat → Option α) (g' : Nat → Option β) (R : α → β → Prop) : Prop := ∃ a b, Ev g a ∧ Ev g' b ∧ R a b
section
variable {α β γ δ : Type} {R : α → β → Prop}
theorem Twin.of {g : Nat → Option α} {g' : Nat → Option β} {a : α} {b : β} (h : Ev g a) (h' : Ev g' b) (r : R a b) : Twin g g' R := ⟨a, b, h, h', r⟩
theorem Twin.now {a : α} {b : β} (r : R a b) : Twin (fun _ => some a) (fun _ => some b) R := ⟨a, b, Ev.now _, Ev.now _, r⟩
theorem Twin.mono {g : Nat → Option α} {g' : Nat → Option β} {S : α → β → Prop} (h : Twin g g' S) (k : ∀ a b, S a b → R a b) : Twin g g' R := by
 obtain ⟨a, b, h1, h2, h3⟩ := h
 exact ⟨a, b, h1, h2, k a b h3⟩
theorem Twin.bind {g : Nat → Option γ} {g' : Nat → Option δ} {S : γ → δ → Prop} {f : Nat → γ → Option α} {f' : Nat → δ → Option β} (t : Twin g g' S) (k : ∀ a b, S a b → Twin (fun n => f n a) (fun n => f' n b) R) :
 Twin (fun n => (g n).bind (f n)) (fun n => (g' n).bind (f' n)) R := by
 obtain ⟨a, b, h1, h2, h3⟩ := t
 obtain ⟨a', b', h1', h2', h3'⟩ := k a b h3
 exact ⟨a', b', Ev.bind h1 h1', Ev.bind h2 h2', h3'⟩
theorem Twin.right {g : Nat → Option α} {g' : Nat → Option β} (t : Twin g g' R) : ∃ b, Ev g' b := by
 obtain ⟨a, b, h1, h2, h3⟩ := t
 exact ⟨b, h2⟩
theorem Ev.split {c : Prop} {hd : Decidable c} {g f : Nat → Option α} {r : α} (y : c → Ev g r) (n : ¬ c → Ev f r) : Ev (fun k => if c then g k else f k) r := by
 by_cases h : c
 ·simp only [if_pos h]; exact y h
 ·simp only [if_neg h]; exact n h
theorem Ev.is {v r : α} (h : v = r) : Ev (fun _ => Option.some v) r := by subst h; exact Ev.now _
end
end Go.Proofs.Ytadhpgecilhgnaa.Pure

-- YtadhpgecilhgnaaLp
set_option linter.unusedVariables false
set_option linter.unusedSimpArgs false
namespace Go.Proofs.Ytadhpgecilhgnaa.Pure
open Go Go.Proofs.Ytadhpgecilhgnaa.A

theorem Ev.rng {α β σ : Type} (z : α) (l : List α) (hl : l.length ≤ 4611686018427387904) {g : Nat → σ → Int → Option β} {B : Nat → σ → Int → Option β} {E : Nat → σ → Option β}
 (hg : ∀ k s i, g (k + 1) s i = if decide (i < (l.length : Int)) = true then (if (0 : Int) ≤ i ∧ i < (l.length : Int) then B k s i else none) else E k s)
 (Inv : Nat → σ → Prop) (spec : List α → Nat → σ → β)
 (hfin : ∀ s, Inv l.length s → Ev (fun k => E k s) (spec [] l.length s))
 (hstep : ∀ (i : Nat) (x : α) (xs : List α) (s : σ), i < l.length → x ∈ l → l.drop i = x :: xs → l.getD i z = x → IntKind.wrap .i64 ((i : Int) + 1) = (i : Int) + 1 → Inv i s →
  (∀ s', Inv (i + 1) s' → Ev (fun k => g k s' ((i : Int) + 1)) (spec xs (i + 1) s')) → Ev (fun k => B k s i) (spec (x :: xs) i s)) :
 ∀ (i : Nat) (s : σ), i ≤ l.length → Inv i s → Ev (fun k => g k s i) (spec (l.drop i) i s) := by
 have loop : ∀ (d i : Nat) (s : σ), i + d = l.length → Inv i s → Ev (fun k => g k s i) (spec (l.drop i) i s) := by
  intro d
  induction d with
  | zero =>
   intro i s hi hs
   have : i = l.length := by omega
   subst this
   refine Ev.step (fun k => hg k s _) ?_
   refine Ev.no (by simp) ?_
   rw [List.drop_length]
   exact hfin s hs
  | succ d ih =>
   intro i s hi hs
   refine Ev.step (fun k => hg k s _) ?_
   refine Ev.yes (by simp; omega) (Ev.yes (by omega) ?_)
   rw [List.drop_eq_getElem_cons (show i < l.length by omega)]
   refine hstep i _ _ s (by omega) (List.getElem_mem _) (List.drop_eq_getElem_cons (by omega)) (getD_nat z l i (by omega)) (w64 (by omega) (by omega)) hs fun s' hs' => ?_
   have := ih (i + 1) s' (by omega) hs'
   rw [show ((i + 1 : Nat) : Int) = (i : Int) + 1 by omega] at this
   exact this
 exact fun i s hi hs => loop (l.length - i) i s (by omega) hs
theorem Ev.rngR {α β σ : Type} (z : α) (l : List α) (hl : l.length ≤ 4611686018427387904) {g : Nat → σ → Int → Option β} {B : Nat → σ → Int → Option β} {E : Nat → σ → Option β}
 (hg : ∀ k s i, g (k + 1) s i = if decide (i < (l.length : Int)) = true then (if (0 : Int) ≤ i ∧ i < (l.length : Int) then B k s i else none) else E k s)
 (Inv : Nat → σ → Prop) (Q : β → Prop)
 (hfin : ∀ s, Inv l.length s → ∃ r, Ev (fun k => E k s) r ∧ Q r)
 (hstep : ∀ (i : Nat) (x : α) (s : σ), i < l.length → x ∈ l → l[i]? = Option.some x → l.getD i z = x → IntKind.wrap .i64 ((i : Int) + 1) = (i : Int) + 1 → Inv i s →
  (∀ s', Inv (i + 1) s' → ∃ r, Ev (fun k => g k s' ((i : Int) + 1)) r ∧ Q r) → ∃ r, Ev (fun k => B k s i) r ∧ Q r) :
 ∀ (i : Nat) (s : σ), i ≤ l.length → Inv i s → ∃ r, Ev (fun k => g k s i) r ∧ Q r := by
 have loop : ∀ (d i : Nat) (s : σ), i + d = l.length → Inv i s → ∃ r, Ev (fun k => g k s i) r ∧ Q r := by
  intro d
  induction d with
  | zero =>
   intro i s hi hs
   have : i = l.length := by omega
   subst this
   obtain ⟨r, h1, h2⟩ := hfin s hs
   exact ⟨r, Ev.step (fun k => hg k s _) (Ev.no (by simp) h1), h2⟩
  | succ d ih =>
   intro i s hi hs
   have hs' := hstep i l[i] s (by omega) (List.getElem_mem _) (List.getElem?_eq_getElem (by omega)) (getD_nat z l i (by omega)) (w64 (by omega) (by omega)) hs fun s' hs' => by
    have := ih (i + 1) s' (by omega) hs'
    rw [show ((i + 1 : Nat) : Int) = (i : Int) + 1 by omega] at this
    exact this
   obtain ⟨r, h1, h2⟩ := hs'
   exact ⟨r, Ev.step (fun k => hg k s _) (Ev.yes (by simp; omega) (Ev.yes (by omega) h1)), h2⟩
 exact fun i s hi hs => loop (l.length - i) i s (by omega) hs
theorem Ev.cast {α : Type} {g : Nat → Option α} {a b : α} (h : a = b) (e : Ev g a) : Ev g b := h ▸ e

theorem eqV_iff : ∀ {τ : Ty}, τ.eqB = true → ∀ {x y : τ.den}, eqV τ x y = true ↔ x = y := by
 intro τ
 induction τ with
 | pair a b iha ihb =>
  intro h x y
  simp only [Ty.eqB, Bool.and_eq_true] at h
  simp only [eqV, Bool.and_eq_true, iha h.1, ihb h.2]
  exact ⟨fun h => Prod.ext h.1 h.2, fun h => by rw [h]; exact ⟨rfl, rfl⟩⟩
 | bool => intro _ x y; exact decide_eq_true_iff
 | int k => intro _ x y; exact decide_eq_true_iff
 | str => intro _ x y; exact decide_eq_true_iff
 | fmap k e _ _ => intro h; cases h
 | mapb k e _ _ => intro h; cases h
 | unit => intro h; simp [Ty.eqB] at h
 | sl e _ => intro h; simp [Ty.eqB] at h
 | vec e _ => intro h; simp [Ty.eqB] at h
 | map k e _ _ => intro h; simp [Ty.eqB] at h
 | fnv f => intro h; simp [Ty.eqB] at h
 | nil => intro h; simp [Ty.eqB] at h
 | ptr e _ => intro h; simp [Ty.eqB] at h
theorem eq_loop {α : Type} (z : α) {e : α → α → Bool} (he : ∀ x y, e x y = true ↔ x = y) (a b : List α) (hl : a.length ≤ 4611686018427387904) (hab : a.length = b.length) {g : Nat → Int → Option (Bool × Unit)}
 (hg : ∀ k i, g (k + 1) i = if decide (i < (a.length : Int)) = true then (if (0 : Int) ≤ i ∧ i < (a.length : Int) then (if (0 : Int) ≤ i ∧ i < (b.length : Int) then (if (!(e (a.getD i.toNat z) (b.getD i.toNat z))) = true then some (false, ()) else g k (IntKind.wrap .i64 (i + 1))) else none) else none) else some (true, ())) :
 ∃ r, Ev (fun k => g k 0) (r, ()) ∧ (r = true ↔ a = b) := by
 classical
 have := Ev.rng (σ := Unit) z a hl (g := fun k _ i => g k i) (fun k s i => hg k i) (fun i _ => True)
  (fun r i _ => (decide (∀ j : Nat, i ≤ j → j < a.length → a.getD j z = b.getD j z), ())) (fun _ _ => Ev.is (by
   rw [decide_eq_true]
   intro j h1 h2; omega)) (fun i x xs _ hi hx _ hget hw _ next => by
   simp only [Int.toNat_natCast, hget, hw, Bool.not_eq_true']
   refine Ev.yes (by omega) (Ev.split (fun h => ?_) (fun h => ?_))
   ·refine Ev.is ?_
    rw [decide_eq_false]
    intro hh
    have := hh i (Nat.le_refl _) hi
    rw [hget] at this
    rw [(he _ _).2 this] at h
    cases h
   ·refine Ev.cast ?_ (next () trivial)
    have h : x = b.getD i z := (he _ _).1 (by simpa using h)
    refine congrArg (fun b => (b, ())) (decide_eq_decide.2 ⟨fun hh j h1 h2 => ?_, fun hh j h1 h2 => hh j (by omega) h2⟩)
    rcases Nat.lt_or_ge i j with h3 | h3
    ·exact hh j h3 h2
    ·obtain rfl : j = i := by omega
     rw [hget]; exact h) 0 () (by omega) trivial
 refine ⟨_, this, ?_⟩
 rw [decide_eq_true_iff]
 refine ⟨fun h => List.ext_getElem hab fun j h1 h2 => ?_, fun h => by rw [h]; exact fun _ _ _ => rfl⟩
 have := h j (by omega) h1
 rw [getD_nat z a j h1, getD_nat z b j h2] at this
 exact this
theorem idx_loop {α : Type} [DecidableEq α] (z : α) (v : α) {e : α → Bool} (he : ∀ x, e x = true ↔ v = x) (l : List α) (hl : l.length ≤ 4611686018427387904) {g : Nat → Int → Option (Int × Unit)}
 (hg : ∀ k i, g (k + 1) i = if decide (i < (l.length : Int)) = true then (if (0 : Int) ≤ i ∧ i < (l.length : Int) then (if e (l.getD i.toNat z) = true then some (i, ()) else g k (IntKind.wrap .i64 (i + 1))) else none) else some (-1, ())) :
 ∃ n, Ev (fun k => g k 0) (n, ()) ∧ (0 ≤ n ↔ v ∈ l) := by
 have h := Ev.rng (σ := Unit) z l hl (g := fun k _ i => g k i) (fun k s i => hg k i)
  (fun _ _ => True) (fun r i _ => (if v ∈ r then ((i + r.idxOf v : Nat) : Int) else -1, ())) (fun _ _ => Ev.is (by simp)) (fun i x xs s hi hx _ hget hw _ next => by
   simp only [Int.toNat_natCast, hget, hw]
   refine Ev.split (fun h => ?_) (fun h => ?_)
   ·have h := (he _).1 h
    subst h
    refine Ev.is ?_
    simp
   ·refine Ev.cast ?_ (next () trivial)
    have h' : ¬ v = x := fun e => h ((he _).2 e)
    have h'' : ¬ x = v := fun e => h' e.symm
    by_cases hm : v ∈ xs
    ·rw [if_pos hm, if_pos (by simp [hm]), List.idxOf_cons, show (x == v) = false by simpa using h'']
     simp only [cond_false]
     congr 1; omega
    ·rw [if_neg hm, if_neg (by simp [hm, h'])]) 0 () (by omega) trivial
 refine ⟨_, h, ?_⟩
 simp only [List.drop_zero]
 split <;> rename_i hm
 ·exact ⟨fun _ => hm, fun _ => by omega⟩
 ·exact ⟨fun h => by omega, fun h => absurd h hm⟩
end Go.Proofs.Ytadhpgecilhgnaa.Pure

-- YtadhpgecilhgnaaQ1
set_option linter.unusedVariables false
set_option linter.unusedSimpArgs false
namespace Go.Proofs.Ytadhpgecilhgnaa.Pure
open Go Go.Proofs.Ytadhpgecilhgnaa.A

theorem in_ev (n : Nat) (a l h : Int) : kit_In.f n a l h = some (decide (l ≤ a ∧ a ≤ h), ()) := by
 rw [kit_In.f_eq]
 by_cases h1 : l ≤ a <;> simp [h1]
theorem name_ex (s : List UInt8) (hs : s.length ≤ 140737488351232) : ∃ b, Ev (fun k => monitor_IsName.f k s) (b, ()) ∧ (b = true → s.length ≤ 40) := by
 by_cases h0 : s = []
 ·exact ⟨false, Ev.eq (fun k => by rw [monitor_IsName.f_eq]) (Ev.yes (by simpa using h0) (Ev.now _)), fun h => by cases h⟩
 by_cases h1 : 40 < (s.length : Int)
 ·exact ⟨false, Ev.eq (fun k => by rw [monitor_IsName.f_eq]) (Ev.no (by simpa using h0) (Ev.yes (by simpa using h1) (Ev.now _))), fun h => by cases h⟩
 have h := Ev.rngR (σ := Unit) (0 : UInt8) s (by omega) (g := fun k _ i => monitor_IsName.c1 k s (s.length : Int) i) (fun k _ i => monitor_IsName.c1_eq _ _ _ _)
  (fun _ _ => True) (fun r : Bool × Unit => True) (fun _ _ => ⟨_, Ev.now _, trivial⟩) (fun i x _ hi hx _ hget hw _ next => by
   simp only [Int.toNat_natCast, hget, hw]
   obtain ⟨r, n1, _⟩ := next () trivial
   have key : ∀ {g : Nat → Option (Bool × Unit)}, (Ev g (false, ()) ∨ Ev g r) → ∃ r, Ev g r ∧ True := fun h => h.elim (fun h => ⟨_, h, trivial⟩) (fun h => ⟨_, h, trivial⟩)
   have sp : ∀ {c : Prop} {hd : Decidable c} {g f : Nat → Option (Bool × Unit)}, (Ev g (false, ()) ∨ Ev g r) → (Ev f (false, ()) ∨ Ev f r) → (Ev (fun k => if c then g k else f k) (false, ()) ∨ Ev (fun k => if c then g k else f k) r) := fun {c hd g f} y n => by
    by_cases h : c
    ·exact y.imp (fun y => Ev.yes h y) (fun y => Ev.yes h y)
    ·exact n.imp (fun n => Ev.no h n) (fun n => Ev.no h n)
   have F : Ev (fun _ : Nat => some (false, ())) (false, ()) ∨ Ev (fun _ : Nat => some (false, ())) r := .inl (Ev.now _)
   have N : Ev (fun k => monitor_IsName.c1 k s (s.length : Int) ((i : Int) + 1)) (false, ()) ∨ Ev (fun k => monitor_IsName.c1 k s (s.length : Int) ((i : Int) + 1)) r := .inr n1
   exact key (sp (sp F (sp (sp (sp F (sp F N)) N) N)) (sp (sp F (sp (sp (sp F (sp F N)) N) N)) N))) 0 () (by omega) trivial
 obtain ⟨⟨b, u⟩, h2, _⟩ := h
 have h2 : Ev (fun k => monitor_IsName.c1 k s (s.length : Int) 0) (b, u) := h2
 exact ⟨b, Ev.eq (fun k => by rw [monitor_IsName.f_eq]) (Ev.no (by simpa using h0) (Ev.no (by simpa using h1) (Ev.step (fun k => by rw [monitor_IsName.c0_eq]) h2))), fun _ => by omega⟩
open Classical in
noncomputable def isNm (s : List UInt8) : Bool := if Ev (fun k => monitor_IsName.f k s) (true, ()) then true else false
theorem name_ev (s : List UInt8) (hs : s.length ≤ 140737488351232) : Ev (fun k => monitor_IsName.f k s) (isNm s, ()) ∧ (isNm s = true → s.length ≤ 40) := by
 obtain ⟨b, h1, h2⟩ := name_ex s hs
 have : isNm s = b := by
  unfold isNm
  cases b with
  | true => rw [if_pos h1]
  | false =>
   rw [if_neg]
   intro h
   have := h.unique h1
   simp at this
 rw [this]
 exact ⟨h1, h2⟩

theorem chain_pair {α : Type} {R : α → α → Prop} (tr : ∀ a b c, R a b → R b c → R a c) (z : α) : ∀ (l : List α), (∀ j, j < l.length → 0 < j → R (l.getD (j - 1) z) (l.getD j z)) ↔ l.Pairwise R
 | [] => by simp
 | [x] => by simp
 | x :: y :: l => by
  have ih := chain_pair tr z (y :: l)
  constructor
  ·intro h
   have h1 := ih.1 (fun j hj hj0 => by
    have := h (j + 1) (by simp at hj ⊢; omega) (by omega)
    obtain ⟨i, rfl⟩ : ∃ i, j = i + 1 := ⟨j - 1, by omega⟩
    simpa using this)
   have h0 : R x y := by simpa using h 1 (by simp) (by omega)
   rw [List.pairwise_cons]
   refine ⟨fun b hb => ?_, h1⟩
   rcases List.mem_cons.1 hb with rfl | hb
   ·exact h0
   ·exact tr _ _ _ h0 ((List.pairwise_cons.1 h1).1 b hb)
  ·intro h j hj hj0
   rw [List.pairwise_cons] at h
   by_cases h1 : j = 1
   ·subst h1; simpa using h.1 y (by simp)
   ·obtain ⟨i, rfl⟩ : ∃ i, j = i + 2 := ⟨j - 2, by omega⟩
    have := ih.2 h.2 (i + 1) (by simp at hj ⊢; omega) (by omega)
    simpa using this
theorem awake_at (k : Nat) : perigeelaw8_awake.f (k + 40) = some (true, ()) := by kernel_rfl
theorem awake_ev : Ev (fun k => perigeelaw8_awake.f k) (true, ()) := ⟨40, fun n hn => by
 obtain ⟨k, rfl⟩ : ∃ k, n = k + 40 := ⟨n - 40, by omega⟩
 exact awake_at k⟩

theorem nm_ne {s : List UInt8} (h : isNm s = true) : s ≠ [] := by
 intro e
 subst e
 have h1 : Ev (fun k => monitor_IsName.f k []) (false, ()) := Ev.eq (fun k => monitor_IsName.f_eq _ _) (Ev.yes (by simp) (Ev.now _))
 have h2 := (name_ev [] (by simp)).1.unique h1
 rw [h] at h2
 cases h2
theorem contains_ev (s : List (List UInt8)) (v : List UInt8) (hl : s.length ≤ 4611686018427387904) : Ev (fun k => slices_Contains_string.f k s v) (decide (v ∈ s), ()) := by
 obtain ⟨n, h1, h2⟩ := idx_loop ([] : List UInt8) v (e := fun x => decide (v = x)) (fun x => by simp) s hl (g := fun k i => slices_Index_string.c0 k s v (s.length : Int) i) (fun k i => slices_Index_string.c0_eq _ _ _ _ _)
 refine Ev.eq (fun k => by rw [slices_Contains_string.f_eq]) (Ev.bind (Ev.eq (fun k => by rw [slices_Index_string.f_eq]) h1) (Ev.is ?_))
 rw [decide_eq_decide.2 h2]
def befC (b c : DModeChange) : Prop := lessS c.1 b.1 = false ∧ (c.1 = b.1 → lessS b.2.1 c.2.1 = true)
structure ModesOk (w : DWatch) : Prop where
 m0 : 1 ≤ w.1.length
 ml : w.1.length ≤ 50
 cl : w.2.1.length ≤ 500
 ch : ∀ c ∈ w.2.1, c.1 ∈ w.1 ∧ c.2.2 ∈ w.1
 od : ∀ j, j < w.2.1.length → 0 < j → befC (w.2.1.getD (j - 1) (Ty.dflt YModeChange)) (w.2.1.getD j (Ty.dflt YModeChange))
 md : w.2.2.1 ∈ w.1
 en : ∀ c ∈ w.2.1, c.2.1 ≠ []
 mo : ∀ j, j < w.1.length → 0 < j → lessS (w.1.getD (j - 1) []) (w.1.getD j []) = true
theorem changes_ev (w : DWatch) (h0 : okT YWatch w) (m0 : 1 ≤ w.1.length) (ml : w.1.length ≤ 50) (cl : w.2.1.length ≤ 500) (mo : ∀ j, j < w.1.length → 0 < j → lessS (w.1.getD (j - 1) []) (w.1.getD j []) = true) : ∃ r : Int × Unit, Ev (fun k => monitor_checkModes.c1 k w.1 w.2.1 w.2.2.1 w.2.2.2 w.2.1 (w.2.1.length : Int) 0) r ∧ (r.1 = 0 → ModesOk w) := by
 have hm := contains_ev w.1
 refine Ev.rngR (σ := Unit) (Ty.dflt YModeChange) w.2.1 (by omega) (g := fun k _ i => monitor_checkModes.c1 k w.1 w.2.1 w.2.2.1 w.2.2.2 w.2.1 (w.2.1.length : Int) i) (fun k _ i => monitor_checkModes.c1_eq _ _ _ _ _ _ _ _)
  (fun i _ => ∀ j, j < i → j < w.2.1.length → ((w.2.1.getD j (Ty.dflt YModeChange)).1 ∈ w.1 ∧ (w.2.1.getD j (Ty.dflt YModeChange)).2.2 ∈ w.1 ∧ (w.2.1.getD j (Ty.dflt YModeChange)).2.1 ≠ []) ∧ (0 < j → befC (w.2.1.getD (j - 1) (Ty.dflt YModeChange)) (w.2.1.getD j (Ty.dflt YModeChange))))
  (fun r => r.1 = 0 → ModesOk w) (fun _ hs => ?_) (fun i c _ hi hc hget hgd hw hs next => ?_) 0 () (by omega) (fun j hj => by omega)
 ·by_cases h : w.2.2.1 ∈ w.1
  ·refine ⟨_, Ev.bind (hm _ (by omega)) (Ev.no (by simp [h]) (Ev.now _)), fun _ => ⟨m0, ml, cl, fun c hc => ?_, fun j hj hj0 => (hs j hj hj).2 hj0, h, fun c hc => ?_, mo⟩⟩
   obtain ⟨j, hj, rfl⟩ := List.getElem_of_mem hc
   have := (hs j hj hj).1
   rw [getD_nat _ _ _ hj] at this
   exact ⟨this.1, this.2.1⟩
   obtain ⟨j, hj, rfl⟩ := List.getElem_of_mem hc
   have := (hs j hj hj).1
   rw [getD_nat _ _ _ hj] at this
   exact this.2.2
  ·exact ⟨_, Ev.bind (hm _ (by omega)) (Ev.yes (by simp [h]) (Ev.now _)), fun h => by cases h⟩
 ·simp only [Int.toNat_natCast, hgd, hw]
  have hce := (h0.2.1.2.2 c hc).2.1
  by_cases h1 : c.1 ∈ w.1
  case neg => exact ⟨_, Ev.bind (hm _ (by omega)) (Ev.yes (by simp [h1]) (Ev.now _)), fun h => by cases h⟩
  by_cases h2 : c.2.2 ∈ w.1
  case neg => exact ⟨_, Ev.bind (hm _ (by omega)) (Ev.no (by simp [h1]) (Ev.bind (hm _ (by omega)) (Ev.yes (by simp [h2]) (Ev.now _)))), fun h => by cases h⟩
  have pre : ∀ {r : Int × Unit}, Ev (fun k => monitor_checkModes.c2 k w.1 w.2.1 w.2.2.1 w.2.2.2 (i : Int) c.1 c.2.1 c.2.2 w.2.1 (w.2.1.length : Int) (i : Int)) r → Ev (fun k => (slices_Contains_string.f k w.1 c.1).bind fun r2 => if (!r2.1) = true then some (9, ()) else (slices_Contains_string.f k w.1 c.2.2).bind fun r3 => if (!r3.1) = true then some (9, ()) else monitor_checkModes.c2 k w.1 w.2.1 w.2.2.1 w.2.2.2 (i : Int) c.1 c.2.1 c.2.2 w.2.1 (w.2.1.length : Int) (i : Int)) r := fun h =>
   Ev.bind (hm _ (by omega)) (Ev.no (by simp [h1]) (Ev.bind (hm _ (by omega)) (Ev.no (by simp [h2]) h)))
  obtain ⟨nm, _⟩ := name_ev c.2.1 hce
  by_cases h3 : isNm c.2.1 = true
  case neg =>
   refine ⟨(5, ()), pre (Ev.step (fun k => monitor_checkModes.c2_eq _ _ _ _ _ _ _ _ _ _ _ _) ?_), fun h => by cases h⟩
   exact Ev.bind nm (Ev.yes (by simpa using h3) (Ev.now _))
  have key : (0 < i → befC (w.2.1.getD (i - 1) (Ty.dflt YModeChange)) c) → ∃ r, Ev (fun k => monitor_checkModes.c1 k w.1 w.2.1 w.2.2.1 w.2.2.2 w.2.1 (w.2.1.length : Int) ((i : Int) + 1)) r ∧ (r.1 = 0 → ModesOk w) := fun hb => next () fun j hj hjl => by
   by_cases e : j = i
   ·subst e
    rw [hgd]
    exact ⟨⟨h1, h2, nm_ne h3⟩, hb⟩
   ·exact hs j (by omega) hjl
  by_cases hi0 : i = 0
  ·subst hi0
   obtain ⟨r, r1, r2⟩ := key (fun h => by omega)
   refine ⟨r, pre (Ev.step (fun k => monitor_checkModes.c2_eq _ _ _ _ _ _ _ _ _ _ _ _) ?_), r2⟩
   refine Ev.bind nm (Ev.no (by simp [h3]) (Ev.no (by simp) ?_))
   rw [hw]; exact r1
  ·have hw1 : IntKind.wrap .i64 ((i : Int) - 1) = ((i - 1 : Nat) : Int) := by rw [w64 (by omega) (by omega)]; omega
   have pre2 : ∀ {r : Int × Unit}, Ev (fun k => if (lessS c.1 (w.2.1.getD (i - 1) (Ty.dflt YModeChange)).1) = true then some (8, ()) else if (decide (c.1 = (w.2.1.getD (i - 1) (Ty.dflt YModeChange)).1)) = true then (if (!(lessS (w.2.1.getD (i - 1) (Ty.dflt YModeChange)).2.1 c.2.1)) = true then some (8, ()) else monitor_checkModes.c1 k w.1 w.2.1 w.2.2.1 w.2.2.2 w.2.1 (w.2.1.length : Int) ((i : Int) + 1)) else monitor_checkModes.c1 k w.1 w.2.1 w.2.2.1 w.2.2.2 w.2.1 (w.2.1.length : Int) ((i : Int) + 1)) r →
    Ev (fun k => monitor_checkModes.c2 k w.1 w.2.1 w.2.2.1 w.2.2.2 (i : Int) c.1 c.2.1 c.2.2 w.2.1 (w.2.1.length : Int) (i : Int)) r := fun {r} h => by
    refine Ev.step (fun k => monitor_checkModes.c2_eq _ _ _ _ _ _ _ _ _ _ _ _) ?_
    refine Ev.bind nm (Ev.no (by simp [h3]) (Ev.yes (by simp; omega) ?_))
    simp only [hw1, hw, Int.toNat_natCast]
    exact Ev.yes (by omega) h
   by_cases l1 : lessS c.1 (w.2.1.getD (i - 1) (Ty.dflt YModeChange)).1 = true
   ·exact ⟨(8, ()), pre (pre2 (Ev.yes l1 (Ev.now _))), fun h => by cases h⟩
   have l1' : lessS c.1 (w.2.1.getD (i - 1) (Ty.dflt YModeChange)).1 = false := by simpa using l1
   by_cases l2 : c.1 = (w.2.1.getD (i - 1) (Ty.dflt YModeChange)).1
   ·by_cases l3 : lessS (w.2.1.getD (i - 1) (Ty.dflt YModeChange)).2.1 c.2.1 = true
    ·obtain ⟨r, r1, r2⟩ := key (fun _ => ⟨l1', fun _ => l3⟩)
     exact ⟨r, pre (pre2 (Ev.no l1 (Ev.yes (decide_eq_true l2) (Ev.no (fun h => by rw [l3] at h; cases h) r1)))), r2⟩
    ·exact ⟨(8, ()), pre (pre2 (Ev.no l1 (Ev.yes (decide_eq_true l2) (Ev.yes (by simpa using l3) (Ev.now _))))), fun h => by cases h⟩
   ·obtain ⟨r, r1, r2⟩ := key (fun _ => ⟨l1', fun h => absurd h l2⟩)
    exact ⟨r, pre (pre2 (Ev.no l1 (Ev.no (fun h => l2 (of_decide_eq_true h)) r1))), r2⟩
end Go.Proofs.Ytadhpgecilhgnaa.Pure

-- YtadhpgecilhgnaaQ2
set_option linter.unusedVariables false
set_option linter.unusedSimpArgs false
namespace Go.Proofs.Ytadhpgecilhgnaa.Pure
open Go Go.Proofs.Ytadhpgecilhgnaa.A

theorem modes_ev (w : DWatch) (h0 : okT YWatch w) : ∃ r : Int × Unit, Ev (fun k => monitor_checkModes.f k w) r ∧ (r.1 = 0 → ModesOk w) := by
 have hm := contains_ev w.1
 by_cases m0 : w.1.length = 0
 ·refine ⟨(9, ()), Ev.eq (fun k => monitor_checkModes.f_eq _ _) ?_, fun h => by cases h⟩
  exact Ev.yes (by simp [m0]) (Ev.now _)
 by_cases ml : 50 < w.1.length
 ·refine ⟨(2, ()), Ev.eq (fun k => monitor_checkModes.f_eq _ _) ?_, fun h => by cases h⟩
  exact Ev.no (fun h => m0 (by have := of_decide_eq_true h; omega)) (Ev.yes (decide_eq_true (by omega)) (Ev.now _))
 have start : ∀ {r}, Ev (fun k => monitor_checkModes.c0 k w.1 w.2.1 w.2.2.1 w.2.2.2 w.1 (w.1.length : Int) 0) r → Ev (fun k => monitor_checkModes.f k w) r := fun {r} h => by
  refine Ev.eq (fun k => monitor_checkModes.f_eq _ _) ?_
  exact Ev.no (fun h => m0 (by have := of_decide_eq_true h; omega)) (Ev.no (fun h => ml (by have := of_decide_eq_true h; omega)) h)
 have := Ev.rngR (σ := Unit) ([] : List UInt8) w.1 (by omega) (g := fun k _ i => monitor_checkModes.c0 k w.1 w.2.1 w.2.2.1 w.2.2.2 w.1 (w.1.length : Int) i) (fun k _ i => monitor_checkModes.c0_eq _ _ _ _ _ _ _ _)
  (fun i _ => ∀ j, j < i → 0 < j → lessS (w.1.getD (j - 1) []) (w.1.getD j []) = true) (fun r => r.1 = 0 → ModesOk w) (fun _ hs => ?_) (fun i x _ hi hc hget hgd hw hs next => ?_) 0 () (by omega) (fun j hj => by omega)
 ·obtain ⟨r, r1, r2⟩ := this
  exact ⟨r, start r1, r2⟩
 ·by_cases cl : 500 < w.2.1.length
  ·exact ⟨(2, ()), Ev.yes (decide_eq_true (by omega)) (Ev.now _), fun h => by cases h⟩
  ·obtain ⟨r, r1, r2⟩ := changes_ev w h0 (by omega) (by omega) (by omega) hs
   exact ⟨r, Ev.no (fun h => cl (by have := of_decide_eq_true h; omega)) r1, r2⟩
 ·simp only [Int.toNat_natCast, hgd, hw]
  obtain ⟨nm, _⟩ := name_ev x (h0.1.2.2 x hc)
  by_cases h3 : isNm x = true
  case neg => exact ⟨(5, ()), Ev.bind nm (Ev.yes (by simpa using h3) (Ev.now _)), fun h => by cases h⟩
  by_cases hi0 : i = 0
  ·subst hi0
   obtain ⟨r, r1, r2⟩ := next () (fun j hj h0 => by omega)
   exact ⟨r, Ev.bind nm (Ev.no (by simp [h3]) (Ev.no (by simp) r1)), r2⟩
  ·have hw1 : IntKind.wrap .i64 ((i : Int) - 1) = ((i - 1 : Nat) : Int) := by rw [w64 (by omega) (by omega)]; omega
   simp only [hw1, Int.toNat_natCast]
   by_cases l1 : lessS (w.1.getD (i - 1) []) x = true
   ·obtain ⟨r, r1, r2⟩ := next () (fun j hj h0 => by
     by_cases e : j = i
     ·subst e; rw [hgd]; exact l1
     ·exact hs j (by omega) h0)
    exact ⟨r, Ev.bind nm (Ev.no (by simp [h3]) (Ev.yes (by simp; omega) (Ev.yes (by omega) (Ev.no (fun h => by rw [l1] at h; cases h) r1)))), r2⟩
   ·exact ⟨(8, ()), Ev.bind nm (Ev.no (by simp [h3]) (Ev.yes (by simp; omega) (Ev.yes (by omega) (Ev.yes (by simpa using l1) (Ev.now _))))), fun h => by cases h⟩
theorem rule_ev (w : DWatch) (x : DWatchRule) (hl : w.1.length ≤ 50) (hx : okT YWatchRule x) : ∃ r : Int × Unit, Ev (fun k => monitor_checkRule.f k w x) r := by
 have tail : ∃ r : Int × Unit, Ev (fun k => monitor_checkRule.c1 k x.1 x.2.1 x.2.2.1 x.2.2.2.1 x.2.2.2.2) r := by
  by_cases al : 10 < x.2.2.2.2.length
  ·refine ⟨(2, ()), Ev.step (fun k => monitor_checkRule.c1_eq _ _ _ _ _ _) ?_⟩
   exact Ev.yes (decide_eq_true (by omega)) (Ev.now _)
  have := Ev.rngR (σ := Unit) (Ty.dflt YAct) x.2.2.2.2 (by omega) (g := fun k _ i => monitor_checkRule.c2 k x.2.2.2.2 (x.2.2.2.2.length : Int) i) (fun k _ i => monitor_checkRule.c2_eq _ _ _ _)
   (fun i _ => True) (fun r => True) (fun _ hs => ⟨_, Ev.now _, trivial⟩) (fun i y _ hi hc hget hgd hw hs next => ?_) 0 () (by omega) trivial
  ·obtain ⟨r, r1, _⟩ := this
   refine ⟨r, Ev.step (fun k => monitor_checkRule.c1_eq _ _ _ _ _ _) ?_⟩
   exact Ev.no (fun h => al (by have := of_decide_eq_true h; omega)) r1
  ·simp only [Int.toNat_natCast, hgd, hw, in_ev, Option.bind_some]
   obtain ⟨nm, _⟩ := name_ev y.2.1 ((hx.2.2.2.2.2.2 y hc).2.1)
   obtain ⟨r, r1, _⟩ := next () trivial
   by_cases k1 : (1 ≤ y.1 ∧ y.1 ≤ 4)
   case neg => exact ⟨(4, ()), Ev.yes (by simp only [decide_eq_false k1]; rfl) (Ev.now _), trivial⟩
   by_cases h3 : isNm y.2.1 = true
   case neg => exact ⟨(5, ()), Ev.no (by simp only [decide_eq_true k1]; simp) (Ev.bind nm (Ev.yes (by simpa using h3) (Ev.now _))), trivial⟩
   by_cases h4 : y.2.2 = true
   case neg => exact ⟨r, Ev.no (by simp only [decide_eq_true k1]; simp) (Ev.bind nm (Ev.no (by simp [h3]) (Ev.no h4 r1))), trivial⟩
   by_cases h5 : y.1 = 4
   ·exact ⟨r, Ev.no (by simp only [decide_eq_true k1]; simp) (Ev.bind nm (Ev.no (by simp [h3]) (Ev.yes h4 (Ev.no (by simp [h5]) r1)))), trivial⟩
   ·exact ⟨(3, ()), Ev.no (by simp only [decide_eq_true k1]; simp) (Ev.bind nm (Ev.no (by simp [h3]) (Ev.yes h4 (Ev.yes (by simpa using h5) (Ev.now _))))), trivial⟩
 obtain ⟨r, r1⟩ := tail
 obtain ⟨n1, _⟩ := name_ev x.1 hx.1
 obtain ⟨n2, _⟩ := name_ev x.2.1 hx.2.1
 by_cases a1 : isNm x.1 = true
 case neg =>
  refine ⟨(5, ()), Ev.eq (fun k => monitor_checkRule.f_eq _ _ _) ?_⟩
  exact Ev.bind n1 (Ev.yes (by simpa using a1) (Ev.now _))
 by_cases a2 : isNm x.2.1 = true
 case neg =>
  refine ⟨(5, ()), Ev.eq (fun k => monitor_checkRule.f_eq _ _ _) ?_⟩
  exact Ev.bind n1 (Ev.no (by simp [a1]) (Ev.bind n2 (Ev.yes (by simpa using a2) (Ev.now _))))
 have go : ∀ {r}, Ev (fun k => monitor_checkRule.c0 k w.1 w.2.1 w.2.2.1 w.2.2.2 x.1 x.2.1 x.2.2.1 x.2.2.2.1 x.2.2.2.2) r → Ev (fun k => monitor_checkRule.f k w x) r := fun {r} h => by
  refine Ev.eq (fun k => monitor_checkRule.f_eq _ _ _) ?_
  exact Ev.bind n1 (Ev.no (by simp [a1]) (Ev.bind n2 (Ev.no (by simp [a2]) h)))
 by_cases a3 : x.2.2.1 = []
 ·refine ⟨r, go (Ev.step (fun k => monitor_checkRule.c0_eq _ _ _ _ _ _ _ _ _ _) ?_)⟩
  exact Ev.no (by simp [a3]) r1
 by_cases a4 : x.2.2.1 ∈ w.1
 ·refine ⟨r, go (Ev.step (fun k => monitor_checkRule.c0_eq _ _ _ _ _ _ _ _ _ _) ?_)⟩
  exact Ev.yes (by simpa using a3) (Ev.bind (contains_ev _ _ (by omega)) (Ev.no (by simp [a4]) r1))
 ·refine ⟨(9, ()), go (Ev.step (fun k => monitor_checkRule.c0_eq _ _ _ _ _ _ _ _ _ _) ?_)⟩
  exact Ev.yes (by simpa using a3) (Ev.bind (contains_ev _ _ (by omega)) (Ev.yes (by simp [a4]) (Ev.now _)))
theorem watch_ev (w : DWatch) (h0 : okT YWatch w) : ∃ r : Int × Unit, Ev (fun k => monitor_CheckWatch.f k w) r ∧ (r.1 = 0 → ModesOk w) := by
 obtain ⟨r, r1, r2⟩ := modes_ev w h0
 by_cases hr : r.1 = 0
 case neg =>
  refine ⟨r, Ev.eq (fun k => monitor_CheckWatch.f_eq _ _) ?_, fun h => absurd h hr⟩
  exact Ev.bind r1 (Ev.yes (by simpa using hr) (Ev.now _))
 have ok := r2 hr
 by_cases rl : 200 < w.2.2.2.length
 ·refine ⟨(2, ()), Ev.eq (fun k => monitor_CheckWatch.f_eq _ _) ?_, fun h => by cases h⟩
  exact Ev.bind r1 (Ev.no (by simp [hr]) (Ev.yes (decide_eq_true (by omega)) (Ev.now _)))
 suffices h : ∃ r : Int × Unit, Ev (fun k => monitor_CheckWatch.c0 k w.1 w.2.1 w.2.2.1 w.2.2.2 [] w.2.2.2 (w.2.2.2.length : Int) 0) r by
  obtain ⟨s, s1⟩ := h
  refine ⟨s, Ev.eq (fun k => monitor_CheckWatch.f_eq _ _) ?_, fun _ => ok⟩
  exact Ev.bind r1 (Ev.no (by simp [hr]) (Ev.no (fun h => rl (by have := of_decide_eq_true h; omega)) s1))
 have acts : ∀ (m : List (List UInt8 × Bool)), ∃ r : Int × Unit, Ev (fun k => monitor_CheckWatch.c1 k m w.2.2.2 (w.2.2.2.length : Int) 0) r := fun m => by
  have := Ev.rngR (σ := Unit) (Ty.dflt YWatchRule) w.2.2.2 (by omega) (g := fun k _ i => monitor_CheckWatch.c1 k m w.2.2.2 (w.2.2.2.length : Int) i) (fun k _ i => monitor_CheckWatch.c1_eq _ _ _ _ _)
   (fun i _ => True) (fun r => True) (fun _ hs => ⟨_, Ev.now _, trivial⟩) (fun i x _ hi hc hget hgd hw hs next => ?_) 0 () (by omega) trivial
  ·obtain ⟨r, r1, _⟩ := this
   exact ⟨r, r1⟩
  ·simp only [Int.toNat_natCast, hgd, hw]
   have hx := h0.2.2.2.2.2 x hc
   have hl := hx.2.2.2.2.1
   exact Ev.rngR (σ := Unit) (Ty.dflt YAct) x.2.2.2.2 (by omega) (g := fun k _ j => monitor_CheckWatch.c2 k m w.2.2.2 (w.2.2.2.length : Int) (i : Int) x.2.2.2.2 (x.2.2.2.2.length : Int) j) (fun k _ j => monitor_CheckWatch.c2_eq _ _ _ _ _ _ _ _)
    (fun i _ => True) (fun r => True) (fun _ hs => by rw [hw]; exact next () trivial) (fun j y _ hj hcy hgety hgdy hwy hsy nexty => by
     simp only [Int.toNat_natCast, hgdy, hwy]
     obtain ⟨r, r1, _⟩ := nexty () trivial
     by_cases k1 : y.1 = 2
     ·by_cases k2 : mapGet .str .bool y.2.1 m false = true
      ·exact ⟨r, Ev.yes (decide_eq_true k1) (Ev.no (by simp [k2]) r1), trivial⟩
      ·exact ⟨(9, ()), Ev.yes (decide_eq_true k1) (Ev.yes (by simpa using k2) (Ev.now _)), trivial⟩
     ·by_cases k3 : y.1 = 3
      ·by_cases k2 : mapGet .str .bool y.2.1 m false = true
       ·exact ⟨r, Ev.no (by simpa using k1) (Ev.yes (decide_eq_true k3) (Ev.no (by simp [k2]) r1)), trivial⟩
       ·exact ⟨(9, ()), Ev.no (by simpa using k1) (Ev.yes (decide_eq_true k3) (Ev.yes (by simpa using k2) (Ev.now _))), trivial⟩
      ·exact ⟨r, Ev.no (by simpa using k1) (Ev.no (by simpa using k3) r1), trivial⟩) 0 () (by omega) trivial
 have := Ev.rngR (σ := List (List UInt8 × Bool)) (Ty.dflt YWatchRule) w.2.2.2 (by omega) (g := fun k m i => monitor_CheckWatch.c0 k w.1 w.2.1 w.2.2.1 w.2.2.2 m w.2.2.2 (w.2.2.2.length : Int) i) (fun k _ i => monitor_CheckWatch.c0_eq _ _ _ _ _ _ _ _ _)
  (fun i _ => True) (fun r => True) (fun m hs => by
   obtain ⟨r, r1⟩ := acts m
   exact ⟨r, r1, trivial⟩) (fun i x m hi hc hget hgd hw hs next => ?_) 0 [] (by omega) trivial
 ·obtain ⟨r, r1, _⟩ := this
  exact ⟨r, r1⟩
 ·simp only [Int.toNat_natCast, hgd, hw]
  have hx := h0.2.2.2.2.2 x hc
  obtain ⟨q, q1⟩ := rule_ev w x ok.ml hx
  obtain ⟨r, r1, _⟩ := next (mapPut .str .bool x.1 true m) trivial
  by_cases c1 : q.1 = 0
  case neg => exact ⟨(q.1, ()), Ev.bind q1 (Ev.yes (by simpa using c1) (Ev.now _)), trivial⟩
  by_cases hi0 : i = 0
  ·subst hi0
   exact ⟨r, Ev.bind q1 (Ev.no (by simp [c1]) (Ev.no (by simp) r1)), trivial⟩
  ·have hw1 : IntKind.wrap .i64 ((i : Int) - 1) = ((i - 1 : Nat) : Int) := by rw [w64 (by omega) (by omega)]; omega
   simp only [hw1, Int.toNat_natCast]
   by_cases l1 : lessS (w.2.2.2.getD (i - 1) (Ty.dflt YWatchRule)).1 x.1 = true
   ·exact ⟨r, Ev.bind q1 (Ev.no (by simp [c1]) (Ev.yes (by simp; omega) (Ev.yes (by omega) (Ev.no (fun h => by rw [l1] at h; cases h) r1)))), trivial⟩
   ·exact ⟨(8, ()), Ev.bind q1 (Ev.no (by simp [c1]) (Ev.yes (by simp; omega) (Ev.yes (by omega) (Ev.yes (by simpa using l1) (Ev.now _))))), trivial⟩
end Go.Proofs.Ytadhpgecilhgnaa.Pure

-- YtadhpgecilhgnaaQ3
set_option linter.unusedVariables false
set_option linter.unusedSimpArgs false
namespace Go.Proofs.Ytadhpgecilhgnaa.Pure
open Go Go.Proofs.Ytadhpgecilhgnaa.A

abbrev S := List UInt8
def lk {β : Type} : List (S × β) → S → Option β
 | [], _ => none
 | p :: m, k => if p.1 = k then some p.2 else lk m k
section
variable {σ : Ty}
theorem eqS {x y : S} : eqV .str x y = true ↔ x = y := eqV_iff (τ := .str) rfl
theorem has_lk (m : List (S × σ.den)) (k : S) : mapHas .str σ k m = (lk m k).isSome := by
 induction m with
 | nil => rfl
 | cons p m ih =>
  simp only [mapHas, List.any_cons] at ih ⊢
  rw [lk]
  by_cases h : p.1 = k
  ·rw [if_pos h, (eqS (x := p.1) (y := k)).2 h]; rfl
  ·rw [if_neg h, ih]
   have : eqV .str p.1 k = false := by rw [← Bool.not_eq_true]; exact fun e => h (eqS.1 e)
   rw [this]; rfl
theorem get_lk (m : List (S × σ.den)) (k : S) (z : σ.den) : mapGet .str σ k m z = (lk m k).getD z := by
 induction m with
 | nil => rfl
 | cons p m ih =>
  rw [mapGet, lk]
  by_cases h : p.1 = k
  ·rw [if_pos h, if_pos (eqS.2 h)]; rfl
  ·rw [if_neg h, if_neg (fun e => h (eqS.1 e)), ih]
theorem lk_put (m : List (S × σ.den)) (k : S) (v : σ.den) (j : S) : lk (mapPut .str σ k v m) j = if k = j then some v else lk m j := by
 induction m with
 | nil => simp [mapPut, lk]
 | cons p m ih =>
  rw [mapPut]
  by_cases h : p.1 = k
  ·rw [if_pos (eqS.2 h), lk, lk]
   by_cases hj : k = j
   ·rw [if_pos hj, if_pos hj]
   ·rw [if_neg hj, if_neg hj, if_neg (fun e => hj (h ▸ e))]
  ·rw [if_neg (fun e => h (eqS.1 e)), lk, lk, ih]
   by_cases hp : p.1 = j
   ·rw [if_pos hp, if_neg (fun e => h (hp.trans e.symm)), if_pos hp]
   ·rw [if_neg hp, if_neg hp]
theorem keys_put (m : List (S × σ.den)) (k : S) (v : σ.den) : (mapPut .str σ k v m).map (·.1) = if (lk m k).isSome = true then m.map (·.1) else m.map (·.1) ++ [k] := by
 induction m with
 | nil => rfl
 | cons p m ih =>
  rw [mapPut, lk]
  by_cases h : p.1 = k
  ·rw [if_pos (eqS.2 h), if_pos h]; simp [h]
  ·rw [if_neg (fun e => h (eqS.1 e)), if_neg h, List.map_cons, ih]
   split <;> simp
theorem lk_mem {β : Type} {m : List (S × β)} {k : S} : (lk m k).isSome = true ↔ k ∈ m.map (·.1) := by
 induction m with
 | nil => simp [lk]
 | cons p m ih =>
  rw [lk]
  by_cases h : p.1 = k
  ·rw [if_pos h]; simp [h]
  ·rw [if_neg h, ih]; simp [Ne.symm h]
theorem put_nodup {m : List (S × σ.den)} (h : (m.map (·.1)).Nodup) (k : S) (v : σ.den) : ((mapPut .str σ k v m).map (·.1)).Nodup := by
 rw [keys_put]
 split
 ·exact h
 ·rename_i hk
  rw [List.nodup_append]
  refine ⟨h, by simp, fun a ha b hb => ?_⟩
  simp at hb
  subst hb
  exact fun e => hk (lk_mem.2 (e ▸ ha))
end
theorem lk_at {β : Type} {m : List (S × β)} (h : (m.map (·.1)).Nodup) {i : Nat} {p : S × β} (hp : m[i]? = some p) : lk m p.1 = some p.2 ∧ ∀ k, lk (m.eraseIdx i) k = if p.1 = k then none else lk m k := by
 induction m generalizing i with
 | nil => simp at hp
 | cons q m ih =>
  simp only [List.map_cons, List.nodup_cons] at h
  cases i with
  | zero =>
   simp at hp; subst hp
   refine ⟨by simp [lk], fun k => ?_⟩
   simp only [List.eraseIdx_zero, List.tail_cons]
   by_cases e : q.1 = k
   ·rw [if_pos e]
    cases hk : lk m k with
    | none => rfl
    | some v => exact absurd (lk_mem.1 (by rw [hk]; rfl)) (e ▸ h.1)
   ·rw [if_neg e, lk, if_neg e]
  | succ i =>
   simp at hp
   obtain ⟨a1, a2⟩ := ih h.2 hp
   have hne : q.1 ≠ p.1 := fun e => h.1 (e ▸ lk_mem.1 (by rw [a1]; rfl))
   refine ⟨by rw [lk, if_neg hne]; exact a1, fun k => ?_⟩
   rw [List.eraseIdx_cons_succ, lk, lk, a2]
   by_cases e : q.1 = k
   ·rw [if_pos e, if_pos e, if_neg (fun e' => hne (e.trans e'.symm))]
   ·rw [if_neg e, if_neg e]
theorem nodup_len {α : Type} [DecidableEq α] : ∀ {l m : List α}, l.Nodup → (∀ x ∈ l, x ∈ m) → l.length ≤ m.length
 | [], m, _, _ => by simp
 | x :: l, m, h, hs => by
  rw [List.nodup_cons] at h
  have hx := hs x (by simp)
  have := nodup_len (l := l) (m := m.erase x) h.2 fun y hy => (List.mem_erase_of_ne (by rintro rfl; exact h.1 hy)).2 (hs y (by simp [hy]))
  rw [List.length_erase_of_mem hx] at this
  have := List.length_pos_of_mem hx
  simp only [List.length_cons]; omega

theorem sortS_perm {a b : List S} (h : a.Perm b) : sortS a = sortS b := by
 have tot : ∀ x y : S, (decide (x ≤ y) || decide (y ≤ x)) = true := fun x y => by
  simp only [Bool.or_eq_true, decide_eq_true_eq]
  exact List.le_total x y
 have tr : ∀ x y z : S, decide (x ≤ y) = true → decide (y ≤ z) = true → decide (x ≤ z) = true := fun x y z h1 h2 => by
  simp only [decide_eq_true_eq] at *
  exact List.le_trans h1 h2
 have p : (sortS a).Perm (sortS b) := (List.mergeSort_perm _ _).trans (h.trans (List.mergeSort_perm _ _).symm)
 have s1 := List.pairwise_mergeSort (le := fun x y : S => decide (x ≤ y)) tr tot a
 have s2 := List.pairwise_mergeSort (le := fun x y : S => decide (x ≤ y)) tr tot b
 exact p.eq_of_pairwise (fun x y _ _ h1 h2 => by
  simp only [decide_eq_true_eq] at h1 h2
  exact List.le_antisymm h1 h2) s1 s2
theorem mem_sortS {l : List S} {x : S} : x ∈ sortS l ↔ x ∈ l := List.mem_mergeSort
theorem len_sortS (l : List S) : (sortS l).length = l.length := List.length_mergeSort _

theorem clone_ev (s : List S) (h : s.length ≤ 1099511627776) : Ev (fun k => slices_Clone_string.f k s) (s, ()) := by
 refine Ev.eq (fun k => slices_Clone_string.f_eq _ _) ?_
 have h1 : Ev (fun _ : Nat => if 0 + s.length ≤ 1099511627776 then some (s, ()) else none) (s, ()) := Ev.yes (by omega) (Ev.now _)
 obtain ⟨K, h1⟩ := h1
 refine ⟨K, fun n hn => ?_⟩
 have h1 := h1 n hn
 simp only at h1
 simp only [h1]
 unfold agree2
 by_cases h0 : s.length = 0
 ·have := List.eq_nil_of_length_eq_zero h0
  subst this
  simp
 ·rw [if_neg h0]; simp
theorem cmp1_ev (a b : S) : ∃ r : Int, Ev (fun k => cmp_Compare_string.f k a b) (r, ()) := by
 have n : ∀ (x : S) (k : Nat), cmp_isNaN_string.f k x = some (false, ()) := fun x k => by rw [cmp_isNaN_string.f_eq]; simp
 by_cases h1 : lessS a b = true
 ·refine ⟨-1, Ev.eq (fun k => cmp_Compare_string.f_eq _ _ _) ?_⟩
  simp only [n, Option.bind_some]
  exact Ev.no (by simp) (Ev.no (by simp) (Ev.yes h1 (Ev.now _)))
 by_cases h2 : lessS b a = true
 ·refine ⟨1, Ev.eq (fun k => cmp_Compare_string.f_eq _ _ _) ?_⟩
  simp only [n, Option.bind_some]
  exact Ev.no (by simp) (Ev.no (by simp) (Ev.no h1 (Ev.yes h2 (Ev.now _))))
 ·refine ⟨0, Ev.eq (fun k => cmp_Compare_string.f_eq _ _ _) ?_⟩
  simp only [n, Option.bind_some]
  exact Ev.no (by simp) (Ev.no (by simp) (Ev.no h1 (Ev.no h2 (Ev.now _))))
theorem cmp_ev' (a b : List S) (ha : a.length ≤ 1099511627776) (hb : b.length ≤ 1099511627776) : ∃ r : Int, Ev (fun k => slices_Compare_string.f k a b) (r, ()) := by
 have := Ev.rngR (σ := Unit) ([] : S) a (by omega) (g := fun k _ i => slices_Compare_string.c0 k a b a (a.length : Int) i) (fun k _ i => slices_Compare_string.c0_eq _ _ _ _ _ _)
  (fun i _ => True) (fun r => True) (fun _ hs => ?_) (fun i x _ hi hc hget hgd hw hs next => ?_) 0 () (by omega) trivial
 ·obtain ⟨⟨r, u⟩, r1, _⟩ := this
  exact ⟨r, Ev.eq (fun k => slices_Compare_string.f_eq _ _ _) r1⟩
 ·by_cases h : (a.length : Int) < (b.length : Int)
  ·exact ⟨(-1, ()), Ev.yes (decide_eq_true h) (Ev.now _), trivial⟩
  ·exact ⟨(0, ()), Ev.no (fun e => h (of_decide_eq_true e)) (Ev.now _), trivial⟩
 ·simp only [Int.toNat_natCast, hgd, hw]
  by_cases h : (b.length : Int) ≤ (i : Int)
  ·exact ⟨(1, ()), Ev.yes (decide_eq_true h) (Ev.now _), trivial⟩
  obtain ⟨r, r1⟩ := cmp1_ev x (b.getD i [])
  by_cases hr : r = 0
  ·obtain ⟨q, q1, _⟩ := next () trivial
   exact ⟨q, Ev.no (fun e => h (of_decide_eq_true e)) (Ev.yes (by omega) (Ev.bind r1 (Ev.no (by simp [hr]) q1))), trivial⟩
  ·exact ⟨(r, ()), Ev.no (fun e => h (of_decide_eq_true e)) (Ev.yes (by omega) (Ev.bind r1 (Ev.yes (by simpa using hr) (Ev.now _)))), trivial⟩
open Classical in
noncomputable def cmpv (a b : List S) : Int := if h : ∃ r : Int, Ev (fun k => slices_Compare_string.f k a b) (r, ()) then h.choose else 0
theorem cmp_ev (a b : List S) (ha : a.length ≤ 1099511627776) (hb : b.length ≤ 1099511627776) : Ev (fun k => slices_Compare_string.f k a b) (cmpv a b, ()) := by
 have h := cmp_ev' a b ha hb
 unfold cmpv
 rw [dif_pos h]
 exact h.choose_spec

def ltC (b c : DModeChange) : Prop := lessS b.1 c.1 = true ∨ (b.1 = c.1 ∧ lessS b.2.1 c.2.1 = true)
theorem ltC_of {b c : DModeChange} (h : befC b c) : ltC b c := by
 by_cases e : c.1 = b.1
 ·exact .inr ⟨e.symm, h.2 e⟩
 ·exact .inl (less_tri (by rw [show Op.bytesLess c.1 b.1 = false from h.1]; simp) e)
theorem ltC_trans {a b c : DModeChange} (h1 : ltC a b) (h2 : ltC b c) : ltC a c := by
 rcases h1 with h1 | ⟨e1, h1⟩ <;> rcases h2 with h2 | ⟨e2, h2⟩
 ·exact .inl (less_trans h1 h2)
 ·exact .inl (e2 ▸ h1)
 ·exact .inl (e1 ▸ h2)
 ·exact .inr ⟨e1.trans e2, less_trans h1 h2⟩
theorem ltC_ne {a b : DModeChange} (h : ltC a b) : ¬ (a.1 = b.1 ∧ a.2.1 = b.2.1) := by
 rintro ⟨h1, h2⟩
 rcases h with h | ⟨_, h⟩
 ·exact less_ne h h1
 ·exact less_ne h h2
theorem pair_uniq {l : List DModeChange} (h : l.Pairwise ltC) : ∀ c ∈ l, ∀ d ∈ l, c.1 = d.1 → c.2.1 = d.2.1 → c = d := by
 induction l with
 | nil => intro c hc; cases hc
 | cons a l ih =>
  rw [List.pairwise_cons] at h
  intro c hc d hd e1 e2
  rcases List.mem_cons.1 hc with rfl | hc' <;> rcases List.mem_cons.1 hd with rfl | hd'
  ·rfl
  ·exact absurd ⟨e1, e2⟩ (ltC_ne (h.1 d hd'))
  ·exact absurd ⟨e1.symm, e2.symm⟩ (ltC_ne (h.1 c hc'))
  ·exact ih h.2 c hc' d hd' e1 e2
theorem one_change {w : DWatch} (ok : ModesOk w) : ∀ c ∈ w.2.1, ∀ d ∈ w.2.1, c.1 = d.1 → c.2.1 = d.2.1 → c = d :=
 pair_uniq ((chain_pair (R := ltC) (fun _ _ _ => ltC_trans) (Ty.dflt YModeChange) w.2.1).1 fun j hj h0 => ltC_of (ok.od j hj h0))
def Wi (C : List DModeChange) (fr : S) : Nat → S → Prop
 | 0, y => y = fr
 | n + 1, y => Wi C fr n y ∨ ∃ c ∈ C, Wi C fr n c.1 ∧ c.2.2 = y
theorem Wi.mono {C : List DModeChange} {fr y : S} {n m : Nat} (h : n ≤ m) (hw : Wi C fr n y) : Wi C fr m y := by
 induction m with
 | zero =>
  obtain rfl : n = 0 := by omega
  exact hw
 | succ m ih =>
  by_cases e : n = m + 1
  ·subst e; exact hw
  ·exact .inl (ih (by omega))
def wk (C : List DModeChange) (m e : S) : S := match C.find? fun c => decide (c.1 = m ∧ c.2.1 = e) with | some c => c.2.2 | none => m
end Go.Proofs.Ytadhpgecilhgnaa.Pure

-- YtadhpgecilhgnaaQo
set_option linter.unusedVariables false
set_option linter.unusedSimpArgs false
namespace Go.Proofs.Ytadhpgecilhgnaa.Pure
open Go Go.Proofs.Ytadhpgecilhgnaa.A

def lxl : List S → List S → Prop
 | [], [] => False
 | [], _ :: _ => True
 | _ :: _, [] => False
 | x :: a, y :: b => lessS x y = true ∨ (x = y ∧ lxl a b)
theorem lxl_irrefl : ∀ a : List S, ¬ lxl a a
 | [] => fun h => h
 | x :: a => fun h => by
  rcases h with h | ⟨_, h⟩
  ·exact less_ne h rfl
  ·exact lxl_irrefl a h
theorem lxl_trans : ∀ {a b c : List S}, lxl a b → lxl b c → lxl a c
 | [], [], c, h, _ => h.elim
 | [], _ :: _, [], _, h => h.elim
 | [], _ :: _, _ :: _, _, _ => trivial
 | _ :: _, [], c, h, _ => h.elim
 | _ :: _, _ :: _, [], _, h => h.elim
 | x :: a, y :: b, z :: c, h1, h2 => by
  rcases h1 with h1 | ⟨e1, h1⟩ <;> rcases h2 with h2 | ⟨e2, h2⟩
  ·exact .inl (less_trans h1 h2)
  ·exact .inl (e2 ▸ h1)
  ·exact .inl (e1 ▸ h2)
  ·exact .inr ⟨e1.trans e2, lxl_trans h1 h2⟩
theorem lxl_total : ∀ {a b : List S}, ¬ lxl a b → ¬ lxl b a → a = b
 | [], [], _, _ => rfl
 | [], _ :: _, h, _ => absurd trivial h
 | _ :: _, [], _, h => absurd trivial h
 | x :: a, y :: b, h1, h2 => by
  have e : x = y := by
   apply Classical.byContradiction
   intro hne
   by_cases h : lessS x y = true
   ·exact h1 (.inl h)
   ·exact h2 (.inl (less_tri h hne))
  subst e
  rw [lxl_total (fun h => h1 (.inr ⟨rfl, h⟩)) (fun h => h2 (.inr ⟨rfl, h⟩))]
theorem lxl_app : ∀ {a b : List S} (u v : List S), a.length = b.length → lxl a b → lxl (a ++ u) (b ++ v)
 | [], [], _, _, _, h => h.elim
 | [], _ :: _, _, _, hl, _ => by simp at hl
 | _ :: _, [], _, _, hl, _ => by simp at hl
 | x :: a, y :: b, u, v, hl, h => by
  rcases h with h | ⟨e, h⟩
  ·exact .inl h
  ·exact .inr ⟨e, lxl_app u v (by simpa using hl) h⟩
def cl : List S → List S → Int
 | [], [] => 0
 | [], _ :: _ => -1
 | _ :: _, [] => 1
 | x :: a, y :: b => if lessS x y = true then -1 else if lessS y x = true then 1 else cl a b
theorem cl_lxl : ∀ a b : List S, cl a b < 0 ↔ lxl a b
 | [], [] => by simp [cl, lxl]
 | [], _ :: _ => by simp [cl, lxl]
 | _ :: _, [] => by simp [cl, lxl]
 | x :: a, y :: b => by
  rw [cl, lxl]
  by_cases h1 : lessS x y = true
  ·rw [if_pos h1]; simp [h1]
  ·rw [if_neg h1]
   by_cases h2 : lessS y x = true
   ·rw [if_pos h2]
    have : x ≠ y := fun e => less_ne h2 e.symm
    simp [h1, this]
   ·rw [if_neg h2, cl_lxl a b]
    have e : x = y := by
     apply Classical.byContradiction
     intro hne
     exact h2 (less_tri h1 hne)
    subst e
    simp [h1]
theorem cmp1_is (a b : S) : Ev (fun k => cmp_Compare_string.f k a b) (if lessS a b = true then -1 else if lessS b a = true then 1 else 0, ()) := by
 have n : ∀ (x : S) (k : Nat), cmp_isNaN_string.f k x = some (false, ()) := fun x k => by rw [cmp_isNaN_string.f_eq]; simp
 refine Ev.eq (fun k => cmp_Compare_string.f_eq _ _ _) ?_
 simp only [n, Option.bind_some]
 refine Ev.no (by simp) (Ev.no (by simp) (Ev.split (fun h => by rw [if_pos h]; exact Ev.now _) (fun h => by rw [if_neg h]; exact Ev.split (fun h2 => by rw [if_pos h2]; exact Ev.now _) (fun h2 => by rw [if_neg h2]; exact Ev.now _))))
theorem cmp_is (a b : List S) (ha : a.length ≤ 1099511627776) (hb : b.length ≤ 1099511627776) : Ev (fun k => slices_Compare_string.f k a b) (cl a b, ()) := by
 have h := Ev.rng (σ := Unit) ([] : S) a (by omega) (g := fun k _ i => slices_Compare_string.c0 k a b a (a.length : Int) i) (fun k _ i => slices_Compare_string.c0_eq _ _ _ _ _ _)
  (fun _ _ => True) (fun xs i _ => (cl xs (b.drop i), ())) (fun _ _ => by
   simp only [decide_eq_true_eq]
   refine Ev.split (fun h => Ev.is ?_) (fun h => Ev.is ?_)
   ·rw [List.drop_eq_getElem_cons (show a.length < b.length by omega)]; rfl
   ·rw [List.drop_eq_nil_of_le (by omega)]; rfl) (fun i x xs _ hi hx hd hget hw _ next => by
   simp only [Int.toNat_natCast, hget, hw, decide_eq_true_eq]
   refine Ev.split (fun h => Ev.is ?_) (fun h => Ev.yes (by omega) (Ev.bind (cmp1_is x (b.getD i [])) ?_))
   ·rw [List.drop_eq_nil_of_le (by omega)]; rfl
   ·have hib : i < b.length := by omega
    rw [List.drop_eq_getElem_cons hib, getD_nat _ _ _ hib, cl]
    have nxt := next () trivial
    by_cases h1 : lessS x b[i] = true
    ·rw [if_pos h1, if_pos h1]
     exact Ev.yes (by simp) (Ev.now _)
    ·rw [if_neg h1, if_neg h1]
     by_cases h2 : lessS b[i] x = true
     ·rw [if_pos h2, if_pos h2]
      exact Ev.yes (by simp) (Ev.now _)
     ·rw [if_neg h2, if_neg h2]
      exact Ev.no (by simp) nxt) 0 () (by omega) trivial
 exact Ev.eq (fun k => slices_Compare_string.f_eq _ _ _) h
theorem cmpv_is {a b : List S} (ha : a.length ≤ 1099511627776) (hb : b.length ≤ 1099511627776) : cmpv a b < 0 ↔ lxl a b := by
 have e := (cmp_ev a b ha hb).unique (cmp_is a b ha hb)
 simp only [Prod.mk.injEq, and_true] at e
 rw [e, cl_lxl]

def Pt (C : List DModeChange) : S → List S → S → Prop
 | x, [], y => x = y
 | x, e :: l, y => ∃ c ∈ C, c.1 = x ∧ c.2.1 = e ∧ Pt C c.2.2 l y
variable {C : List DModeChange}
theorem Pt_snoc : ∀ {l : List S} {x y e : S}, Pt C x (l ++ [e]) y ↔ ∃ c ∈ C, Pt C x l c.1 ∧ c.2.1 = e ∧ c.2.2 = y
 | [], x, y, e => by
  constructor
  ·rintro ⟨c, hc, h1, h2, h3⟩; exact ⟨c, hc, h1.symm, h2, h3⟩
  ·rintro ⟨c, hc, h1, h2, h3⟩; exact ⟨c, hc, h1.symm, h2, h3⟩
 | a :: l, x, y, e => by
  constructor
  ·rintro ⟨c, hc, h1, h2, h3⟩
   obtain ⟨d, hd, k1, k2, k3⟩ := (Pt_snoc (l := l)).1 h3
   exact ⟨d, hd, ⟨c, hc, h1, h2, k1⟩, k2, k3⟩
  ·rintro ⟨d, hd, ⟨c, hc, h1, h2, k1⟩, k2, k3⟩
   exact ⟨c, hc, h1, h2, (Pt_snoc (l := l)).2 ⟨d, hd, k1, k2, k3⟩⟩
theorem Pt_wi {fr : S} : ∀ (n : Nat) {l : List S} {y : S}, l.length = n → Pt C fr l y → Wi C fr n y
 | 0, l, y, hl, h => by
  have := List.eq_nil_of_length_eq_zero hl
  subst this
  exact (show fr = y from h).symm
 | n + 1, l, y, hl, h => by
  rcases List.eq_nil_or_concat l with rfl | ⟨p, e, rfl⟩
  ·simp at hl
  ·rw [List.concat_eq_append] at hl h
   obtain ⟨c, hc, k1, k2, k3⟩ := Pt_snoc.1 h
   exact .inr ⟨c, hc, Pt_wi n (by simpa using hl) k1, k3⟩
theorem wi_Pt {fr : S} : ∀ (n : Nat) {y : S}, Wi C fr n y → ∃ l, l.length ≤ n ∧ Pt C fr l y
 | 0, y, h => ⟨[], by simp, (show y = fr from h).symm⟩
 | n + 1, y, h => by
  rcases h with h | ⟨c, hc, h1, h2⟩
  ·obtain ⟨l, k1, k2⟩ := wi_Pt n h
   exact ⟨l, by omega, k2⟩
  ·obtain ⟨l, k1, k2⟩ := wi_Pt n h1
   exact ⟨l ++ [c.2.1], by simp; omega, Pt_snoc.2 ⟨c, hc, k2, rfl, h2⟩⟩
end Go.Proofs.Ytadhpgecilhgnaa.Pure

-- YtadhpgecilhgnaaQ4
set_option linter.unusedVariables false
set_option linter.unusedSimpArgs false
namespace Go.Proofs.Ytadhpgecilhgnaa.Pure
open Go Go.Proofs.Ytadhpgecilhgnaa.A

theorem Ev.agreeL {α β : Type} {l : List β} (hl : l ≠ []) {K : Nat → β → List β → Option α} {r : α} (h : ∀ (i : Nat) (x : β), l[i]? = Option.some x → Ev (fun k => K k x (l.eraseIdx i)) r) : Ev (fun k => Go.Proofs.Ytadhpgecilhgnaa.A.agreeL l (K k)) r := by
 have bound : ∀ b : Nat, ∃ N, ∀ i, i < b → ∀ x, l[i]? = Option.some x → ∀ n, N ≤ n → K n x (l.eraseIdx i) = Option.some r := by
  intro b
  induction b with
  | zero => exact ⟨0, fun i hi => by omega⟩
  | succ b ih =>
   obtain ⟨N, hN⟩ := ih
   cases hb : l[b]? with
   | none =>
    refine ⟨N, fun i hi x hx n hn => ?_⟩
    by_cases e : i = b
    ·subst e; rw [hb] at hx; cases hx
    ·exact hN i (by omega) x hx n hn
   | some y =>
    obtain ⟨M, hM⟩ := h b y hb
    refine ⟨max N M, fun i hi x hx n hn => ?_⟩
    by_cases e : i = b
    ·subst e; rw [hb] at hx; cases hx; exact hM n (by omega)
    ·exact hN i (by omega) x hx n (by omega)
 obtain ⟨N, hN⟩ := bound l.length
 refine ⟨N, fun n hn => ?_⟩
 have all : ∀ (i : Nat) (x : β), l[i]? = Option.some x → K n x (l.eraseIdx i) = Option.some r := fun i x hx => hN i (List.getElem?_eq_some_iff.1 hx).1 x hx n hn
 show Go.Proofs.Ytadhpgecilhgnaa.A.agreeL l (K n) = _
 unfold Go.Proofs.Ytadhpgecilhgnaa.A.agreeL
 have e : ∃ r, ∀ (i : Nat) (x : β), l[i]? = Option.some x → K n x (l.eraseIdx i) = Option.some r := ⟨r, all⟩
 rw [dif_pos e]
 obtain ⟨x, xs, rfl⟩ := List.exists_cons_of_ne_nil hl
 have h1 := Classical.choose_spec e 0 x rfl
 rw [all 0 x rfl] at h1
 exact h1.symm

abbrev Mp := List (S × List S)
noncomputable def stepC (B : S → Option (List S)) (m : S) (nx : Mp) (c : DModeChange) : Mp :=
 if (B c.2.2).isSome = true then nx else if c.1 = m then
  (if (lk nx c.2.2).isSome = true then (if cmpv ((B m).getD [] ++ [c.2.1]) ((lk nx c.2.2).getD []) < 0 then mapPut .str (.sl .str) c.2.2 ((B m).getD [] ++ [c.2.1]) nx else nx)
   else mapPut .str (.sl .str) c.2.2 ((B m).getD [] ++ [c.2.1]) nx)
 else nx
noncomputable def NX (C : List DModeChange) (B : S → Option (List S)) (now : List S) : Mp := now.foldl (fun nx m => C.foldl (stepC B m) nx) []
section
variable {C : List DModeChange} {B : S → Option (List S)} {M : List S}
structure NxOk (C : List DModeChange) (B : S → Option (List S)) (M : List S) (nx : Mp) : Prop where
 n1 : ∀ k v, lk nx k = some v → B k = none ∧ ∃ m ∈ M, ∃ c ∈ C, c.1 = m ∧ c.2.2 = k ∧ v = (B m).getD [] ++ [c.2.1]
 n2 : (nx.map (·.1)).Nodup
theorem stepC_cases (B : S → Option (List S)) (m : S) (nx : Mp) (c : DModeChange) : stepC B m nx c = nx ∨ (B c.2.2 = none ∧ c.1 = m ∧ stepC B m nx c = mapPut .str (.sl .str) c.2.2 ((B m).getD [] ++ [c.2.1]) nx) := by
 unfold stepC
 split
 ·exact .inl rfl
 ·rename_i hB
  have hB : B c.2.2 = none := by simpa using hB
  split
  ·rename_i hm
   split
   ·split
    ·exact .inr ⟨hB, hm, rfl⟩
    ·exact .inl rfl
   ·exact .inr ⟨hB, hm, rfl⟩
  ·exact .inl rfl
theorem stepC_ok {m : S} (hm : m ∈ M) {nx : Mp} (h : NxOk C B M nx) {c : DModeChange} (hc : c ∈ C) : NxOk C B M (stepC B m nx c) := by
 rcases stepC_cases B m nx c with e | ⟨e1, e2, e3⟩
 ·rw [e]; exact h
 ·rw [e3]
  refine ⟨fun k v hk => ?_, put_nodup (σ := .sl .str) h.n2 _ _⟩
  rw [lk_put (σ := .sl .str)] at hk
  split at hk
  ·rename_i hk2
   cases hk
   subst hk2
   exact ⟨e1, m, hm, c, hc, e2, rfl, rfl⟩
  ·exact h.n1 k v hk
def Has (nx : Mp) (k : S) (cand : List S) : Prop := ∃ v, lk nx k = some v ∧ ¬ lxl cand v
def Short (B : S → Option (List S)) : Prop := ∀ k v, B k = some v → v.length ≤ 1000
theorem NxOk.short {nx : Mp} (h : NxOk C B M nx) (hB : Short B) {k : S} {v : List S} (hv : lk nx k = some v) : v.length ≤ 1001 := by
 obtain ⟨_, m, _, c, _, _, _, e⟩ := h.n1 k v hv
 rw [e]
 cases hx : B m with
 | none => simp
 | some u => have := hB m u hx; simp; omega
theorem cand_short (hB : Short B) (m e : S) : ((B m).getD [] ++ [e]).length ≤ 1001 := by
 cases hx : B m with
 | none => simp
 | some u => have := hB m u hx; simp; omega
theorem stepC_mono (hB : Short B) {nx : Mp} (hn : NxOk C B M nx) (m : S) (c : DModeChange) {k : S} {cand : List S} (h : Has nx k cand) : Has (stepC B m nx c) k cand := by
 obtain ⟨v, h1, h2⟩ := h
 unfold stepC
 split
 ·exact ⟨v, h1, h2⟩
 ·split
  ·split
   ·split
    ·rename_i hs hc
     unfold Has
     rw [lk_put (σ := .sl .str)]
     by_cases e : c.2.2 = k
     ·refine ⟨(B m).getD [] ++ [c.2.1], if_pos e, fun hh => h2 ?_⟩
      have hv := hn.short hB h1
      have hx : lk nx c.2.2 = some v := e ▸ h1
      rw [hx] at hc
      have hc : cmpv ((B m).getD [] ++ [c.2.1]) v < 0 := hc
      exact lxl_trans hh ((cmpv_is (by have := cand_short hB m c.2.1; omega) (by omega)).1 hc)
     ·exact ⟨v, by rw [if_neg e]; exact h1, h2⟩
    ·exact ⟨v, h1, h2⟩
   ·rename_i hs
    unfold Has
    rw [lk_put (σ := .sl .str)]
    by_cases e : c.2.2 = k
    ·rw [e, h1] at hs
     exact absurd rfl hs
    ·exact ⟨v, by rw [if_neg e]; exact h1, h2⟩
  ·exact ⟨v, h1, h2⟩
theorem stepC_has (hB : Short B) {m : S} {nx : Mp} (hn : NxOk C B M nx) {c : DModeChange} (h1 : B c.2.2 = none) (h2 : c.1 = m) : Has (stepC B m nx c) c.2.2 ((B m).getD [] ++ [c.2.1]) := by
 unfold stepC Has
 rw [if_neg (by simp [h1]), if_pos h2]
 split
 ·rename_i h
  cases hx : lk nx c.2.2 with
  | none => rw [hx] at h; cases h
  | some v =>
   split
   ·exact ⟨_, by rw [lk_put (σ := .sl .str), if_pos rfl], lxl_irrefl _⟩
   ·rename_i hc
    refine ⟨v, hx, fun hh => hc ?_⟩
    have hv := hn.short hB hx
    exact (cmpv_is (a := (B m).getD [] ++ [c.2.1]) (b := v) (by have := cand_short hB m c.2.1; omega) (by omega)).2 hh
 ·exact ⟨_, by rw [lk_put (σ := .sl .str), if_pos rfl], lxl_irrefl _⟩
theorem foldC_mono (hB : Short B) {m : S} (hm : m ∈ M) {k : S} {cand : List S} : ∀ (L : List DModeChange) (nx : Mp), (∀ c ∈ L, c ∈ C) → NxOk C B M nx → Has nx k cand → Has (L.foldl (stepC B m) nx) k cand
 | [], _, _, _, h => h
 | c :: L, nx, hL, hn, h => foldC_mono hB hm L _ (fun d hd => hL d (by simp [hd])) (stepC_ok hm hn (hL c (by simp))) (stepC_mono hB hn m c h)
theorem foldC_ok {m : S} (hm : m ∈ M) : ∀ (L : List DModeChange) (nx : Mp), (∀ c ∈ L, c ∈ C) → NxOk C B M nx → NxOk C B M (L.foldl (stepC B m) nx) ∧ (Short B → ∀ c ∈ L, B c.2.2 = none → c.1 = m → Has (L.foldl (stepC B m) nx) c.2.2 ((B m).getD [] ++ [c.2.1]))
 | [], _, _, h => ⟨h, fun _ c hc => by cases hc⟩
 | c :: L, nx, hL, h => by
  have h0 := stepC_ok hm h (hL c (by simp))
  obtain ⟨h1, h2⟩ := foldC_ok hm L (stepC B m nx c) (fun d hd => hL d (by simp [hd])) h0
  refine ⟨h1, fun hB d hd e1 e2 => ?_⟩
  rcases List.mem_cons.1 hd with rfl | hd
  ·exact foldC_mono hB hm L _ (fun d hd => hL d (by simp [hd])) h0 (stepC_has hB h e1 e2)
  ·exact h2 hB d hd e1 e2
theorem foldM_ok : ∀ (L : List S) (nx : Mp), (∀ m ∈ L, m ∈ M) → NxOk C B M nx → NxOk C B M (L.foldl (fun nx m => C.foldl (stepC B m) nx) nx) ∧ (Short B → ∀ k cand, Has nx k cand → Has (L.foldl (fun nx m => C.foldl (stepC B m) nx) nx) k cand) ∧
 (Short B → ∀ m ∈ L, ∀ c ∈ C, B c.2.2 = none → c.1 = m → Has (L.foldl (fun nx m => C.foldl (stepC B m) nx) nx) c.2.2 ((B m).getD [] ++ [c.2.1]))
 | [], _, _, h => ⟨h, fun _ _ _ h => h, fun _ c hc => by cases hc⟩
 | m :: L, nx, hL, h => by
  obtain ⟨a1, a2⟩ := foldC_ok (hL m (by simp)) C nx (fun _ h => h) h
  obtain ⟨h1, h2, h3⟩ := foldM_ok L (C.foldl (stepC B m) nx) (fun d hd => hL d (by simp [hd])) a1
  refine ⟨h1, fun hB k cand hk => h2 hB k cand (foldC_mono hB (hL m (by simp)) C nx (fun _ h => h) h hk), fun hB d hd c hc e1 e2 => ?_⟩
  rcases List.mem_cons.1 hd with rfl | hd
  ·exact h2 hB _ _ (a2 hB c hc e1 e2)
  ·exact h3 hB d hd c hc e1 e2
theorem NX_ok (now : List S) : NxOk C B now (NX C B now) ∧ (Short B → ∀ m ∈ now, ∀ c ∈ C, B c.2.2 = none → c.1 = m → Has (NX C B now) c.2.2 ((B m).getD [] ++ [c.2.1])) := by
 obtain ⟨h1, _, h3⟩ := foldM_ok (C := C) (B := B) (M := now) now [] (fun _ h => h) ⟨fun k v h => (by cases h), by simp⟩
 exact ⟨h1, h3⟩
end
section
variable {C : List DModeChange} {B : S → Option (List S)} {to md : S} {ms : List S} {rl : List DWatchRule} {best : Mp}
theorem c3_ev (hC : C.length ≤ 500) (hb : ∀ k, lk best k = B k) (hB : ∀ k v, B k = some v → v.length ≤ 1000) {now : List S} {m : S} (hm : m ∈ now) {nx : Mp} (hnx : NxOk C B now nx) {nl i : Int} {r : List S × Bool × Int × Unit}
 (fin : Ev (fun k => monitor_Ways.c2 k to ms C md rl best (C.foldl (stepC B m) nx) now nl (IntKind.wrap .i64 (i + 1))) r) : Ev (fun k => monitor_Ways.c3 k to ms C md rl best nx m now nl i C (C.length : Int) 0) r := by
 have h := Ev.rng (σ := Mp) (Ty.dflt YModeChange) C (by omega) (g := fun k s j => monitor_Ways.c3 k to ms C md rl best s m now nl i C (C.length : Int) j) (fun k s j => monitor_Ways.c3_eq _ _ _ _ _ _ _ _ _ _ _ _ _ _ _)
  (fun j s => s = (C.take j).foldl (stepC B m) nx) (fun _ _ _ => r) (fun s hs => by
   rw [hs, List.take_length]; exact fin) (fun j c cs s hj hc hd hget hw hs next => by
   simp only [Int.toNat_natCast, hget, hw]
   have ht : C.take (j + 1) = C.take j ++ [c] := by
    rw [List.take_add_one]
    have : C[j]? = some c := by
     have := congrArg (fun l => l[0]?) hd
     simpa using this
    rw [this]; rfl
   have nxt := next (stepC B m s c) (by rw [ht, List.foldl_append, ← hs]; rfl)
   have ok : NxOk C B now s := by
    rw [hs]
    exact (foldC_ok hm (C.take j) nx (fun d hd => List.mem_of_mem_take hd) hnx).1
   have hway : ((B m).getD [] ++ [c.2.1]).length ≤ 1001 := by
    cases hx : B m with
    | none => simp
    | some v => have := hB m v hx; simp; omega
   have hclone : Ev (fun k => slices_Clone_string.f k (mapGet .str (.sl .str) m best [])) ((B m).getD [], ()) := by
    rw [get_lk (σ := .sl .str), hb]
    exact clone_ev _ (by simp only [List.length_append, List.length_singleton] at hway; omega)
   rw [has_lk (σ := .sl .str), hb]
   unfold stepC at nxt
   by_cases h1 : (B c.2.2).isSome = true
   ·rw [if_pos h1] at nxt
    exact Ev.yes h1 nxt
   rw [if_neg h1] at nxt
   refine Ev.no h1 ?_
   by_cases h2 : c.1 = m
   case neg =>
    rw [if_neg h2] at nxt
    exact Ev.yes (by simpa using h2) nxt
   rw [if_pos h2] at nxt
   refine Ev.no (by simp [h2]) (Ev.step (fun k => monitor_Ways.c5_eq _ _ _ _ _ _ _ _ _ _ _ _ _ _ _ _ _ _) ?_)
   refine Ev.bind hclone (Ev.yes (by show ((B m).getD []).length + 1 ≤ 1099511627776; simp only [List.length_append, List.length_singleton] at hway; omega) ?_)
   rw [has_lk (σ := .sl .str), get_lk (σ := .sl .str), hw]
   by_cases h3 : (lk s c.2.2).isSome = true
   ·rw [if_pos h3] at nxt
    refine Ev.no (by simp [h3]) (Ev.bind (cmp_ev ((B m).getD [] ++ [c.2.1]) _ (by omega) ?_) ?_)
    ·cases hx : lk s c.2.2 with
     | none => simp
     | some v =>
      obtain ⟨_, m', _, c', _, _, _, hv⟩ := ok.n1 _ _ hx
      simp only [Option.getD_some]
      rw [hv]
      cases hx' : B m' with
      | none => simp
      | some v' => have := hB m' v' hx'; simp; omega
    ·by_cases h4 : cmpv ((B m).getD [] ++ [c.2.1]) ((lk s c.2.2).getD []) < 0
     ·rw [if_pos h4] at nxt
      exact Ev.yes (decide_eq_true h4) nxt
     ·rw [if_neg h4] at nxt
      exact Ev.no (fun h => h4 (of_decide_eq_true h)) nxt
   ·rw [if_neg h3] at nxt
    exact Ev.yes (by simpa using h3) nxt) 0 nx (by omega) rfl
 exact h
theorem c2_ev (hC : C.length ≤ 500) (hb : ∀ k, lk best k = B k) (hB : ∀ k v, B k = some v → v.length ≤ 1000) {now : List S} (hn : now.length ≤ 1000) {r : List S × Bool × Int × Unit}
 (fin : Ev (fun k => monitor_Ways.c4 k to ms C md rl best [] none (NX C B now)) r) : Ev (fun k => monitor_Ways.c2 k to ms C md rl best [] now (now.length : Int) 0) r := by
 have h := Ev.rng (σ := Mp) ([] : S) now (by omega) (g := fun k s j => monitor_Ways.c2 k to ms C md rl best s now (now.length : Int) j) (fun k s j => monitor_Ways.c2_eq _ _ _ _ _ _ _ _ _ _ _)
  (fun j s => s = NX C B (now.take j)) (fun _ _ _ => r) (fun s hs => by
   rw [hs, List.take_length]; exact fin) (fun j m cs s hj hm hd hget hw hs next => by
   simp only [Int.toNat_natCast, hget]
   have ht : now.take (j + 1) = now.take j ++ [m] := by
    rw [List.take_add_one]
    have : now[j]? = some m := by
     have := congrArg (fun l => l[0]?) hd
     simpa using this
    rw [this]; rfl
   have nxt := next (C.foldl (stepC B m) s) (by rw [ht]; unfold NX; rw [List.foldl_append]; rw [hs]; rfl)
   refine c3_ev hC hb hB hm ?_ (by rw [hw]; exact nxt)
   rw [hs]
   exact (foldM_ok (M := now) (now.take j) [] (fun d hd => List.mem_of_mem_take hd) ⟨fun k v h => (by cases h), by simp⟩).1) 0 [] (by omega) rfl
 exact h
theorem c4_ev {F : S → Option (List S)} {P : List S} (hP : P.length ≤ 1000) {r : List S × Bool × Int × Unit} (fin : ∀ best, (∀ k, lk best k = F k) → Ev (fun k => monitor_Ways.c1 k to ms C md rl best (sortS P)) r) :
 ∀ (n : Nat) (rest best : Mp) (acc : List S) (o : Option (S × List S)), rest.length = n → (rest.map (·.1)).Nodup → (∀ k, ((lk rest k).or (lk best k)) = F k) → (acc ++ rest.map (·.1)).Perm P → Ev (fun k => monitor_Ways.c4 k to ms C md rl best acc o rest) r
 | 0, rest, best, acc, o, hl, _, hF, hp => by
  have := List.eq_nil_of_length_eq_zero hl
  subst this
  refine Ev.step (fun k => monitor_Ways.c4_eq _ _ _ _ _ _ _ _ _ _) (Ev.yes rfl ?_)
  rw [sortS_perm (show acc.Perm P by simpa using hp)]
  exact fin best fun k => by have := hF k; simpa [lk] using this
 | n + 1, rest, best, acc, o, hl, hd, hF, hp => by
  refine Ev.step (fun k => monitor_Ways.c4_eq _ _ _ _ _ _ _ _ _ _) (Ev.no (by omega) (Ev.agreeL (fun e => by rw [e] at hl; cases hl) fun i p hi => ?_))
  have hlen := hp.length_eq
  simp only [List.length_append, List.length_map] at hlen
  refine Ev.yes (by omega) ?_
  have hil := (List.getElem?_eq_some_iff.1 hi).1
  obtain ⟨q1, q2⟩ := lk_at hd hi
  have hsub : ((rest.eraseIdx i).map (·.1)).Sublist (rest.map (·.1)) := (List.eraseIdx_sublist _ _).map _
  have hper : (p.1 :: (rest.eraseIdx i).map (·.1)).Perm (rest.map (·.1)) := by
   have hd2 : rest = rest.take i ++ p :: rest.drop (i + 1) := by
    have : rest.drop i = p :: rest.drop (i + 1) := by
     rw [List.drop_eq_getElem_cons hil]
     have := (List.getElem?_eq_some_iff.1 hi).2
     rw [this]
    rw [← this, List.take_append_drop]
   rw [List.eraseIdx_eq_take_drop_succ]
   conv => rhs; rw [hd2]
   simp only [List.map_append, List.map_cons]
   exact List.perm_middle.symm
  refine c4_ev hP fin n _ _ _ _ (by rw [List.length_eraseIdx_of_lt hil]; omega) (hd.sublist hsub) (fun k => ?_) ?_
  ·rw [q2, lk_put (σ := .sl .str), ← hF k]
   by_cases e : p.1 = k
   ·rw [if_pos e, if_pos e, ← e, q1]; rfl
   ·rw [if_neg e, if_neg e]
  ·refine List.Perm.trans ?_ hp
   rw [List.append_assoc]
   exact List.Perm.append_left _ hper
end
end Go.Proofs.Ytadhpgecilhgnaa.Pure

-- YtadhpgecilhgnaaQ5
set_option linter.unusedVariables false
set_option linter.unusedSimpArgs false
namespace Go.Proofs.Ytadhpgecilhgnaa.Pure
open Go Go.Proofs.Ytadhpgecilhgnaa.A

structure LvOk (C : List DModeChange) (fr to : S) (n : Nat) (B : S → Option (List S)) (now : List S) : Prop where
 a : ∀ y, (B y).isSome = true ↔ Wi C fr n y
 b : ∀ y v, B y = some v → v.length ≤ n ∧ (∀ k, k < v.length → ¬ Wi C fr k y) ∧ v.foldl (wk C) fr = y
 m : ∀ y v, B y = some v → Pt C fr v y ∧ ∀ l, l.length = v.length → Pt C fr l y → ¬ lxl l v
 bn : n ≤ 1000
 c1 : ∀ x ∈ now, ∃ v, B x = some v ∧ v.length = n
 c2 : ∀ c ∈ C, Wi C fr n c.1 → Wi C fr n c.2.2 ∨ c.1 ∈ now
 f : now.length ≤ 1000
 g : (B to).isSome = true → to ∈ now
def WayOk (C : List DModeChange) (fr to : S) (r : List S × Bool × Int × Unit) : Prop :=
 r.2.2.1 = 0 ∧ ((r.2.1 = true ∧ (∃ n, Wi C fr n to) ∧ (∀ k, k < r.1.length → ¬ Wi C fr k to) ∧ r.1.foldl (wk C) fr = to ∧ r.1.length ≤ 1000 ∧ Pt C fr r.1 to ∧ ∀ l, l.length = r.1.length → Pt C fr l to → ¬ lxl l r.1) ∨ (r.2.1 = false ∧ r.1 = [] ∧ ∀ k, ¬ Wi C fr k to))
def meas (ms : List S) (B : S → Option (List S)) : Nat := (ms.filter fun m => (B m).isNone).length
theorem filter_less {α : Type} {p q : α → Bool} : ∀ {l : List α}, (∀ x ∈ l, q x = true → p x = true) → (∃ x ∈ l, p x = true ∧ q x = false) → (l.filter q).length < (l.filter p).length
 | [], _, h => by obtain ⟨x, hx, _⟩ := h; cases hx
 | y :: l, h1, h2 => by
  have mono : (l.filter q).length ≤ (l.filter p).length := by
   clear h2
   induction l with
   | nil => simp
   | cons z l ih =>
    have ih := ih fun x hx => h1 x (by simp at hx ⊢; rcases hx with h | h <;> simp [h])
    have hz := h1 z (by simp)
    by_cases a : q z = true
    ·rw [List.filter_cons_of_pos a, List.filter_cons_of_pos (hz a)]; simp; omega
    ·rw [List.filter_cons_of_neg a]
     by_cases b : p z = true
     ·rw [List.filter_cons_of_pos b]; simp; omega
     ·rw [List.filter_cons_of_neg b]; omega
  by_cases hy : p y = true ∧ q y = false
  ·rw [List.filter_cons_of_pos hy.1, List.filter_cons_of_neg (by simp [hy.2])]
   simp; omega
  ·have ih := filter_less (l := l) (fun x hx => h1 x (by simp [hx])) (by
    obtain ⟨x, hx, e⟩ := h2
    rcases List.mem_cons.1 hx with rfl | hx
    ·exact absurd e hy
    ·exact ⟨x, hx, e⟩)
   by_cases a : q y = true
   ·rw [List.filter_cons_of_pos a, List.filter_cons_of_pos (h1 y (by simp) a)]; simp; omega
   ·rw [List.filter_cons_of_neg a]
    by_cases b : p y = true
    ·rw [List.filter_cons_of_pos b]; simp; omega
    ·rw [List.filter_cons_of_neg b]; omega
theorem sortS_nil : sortS (List.map (fun x : S × List S => x.1) ([] : Mp)) = [] := by simp [sortS]
section
variable {C : List DModeChange} {fr to md : S} {ms : List S} {rl : List DWatchRule}
theorem lv_nil {n : Nat} {B : S → Option (List S)} (h : LvOk C fr to n B []) : ∃ r, WayOk C fr to r ∧ ∀ best : Mp, (∀ k, lk best k = B k) → Ev (fun k => monitor_Ways.c1 k to ms C md rl best []) r := by
 refine ⟨([], (false, (0, ()))), ⟨rfl, .inr ⟨rfl, rfl, fun k hk => ?_⟩⟩, fun best hb => ?_⟩
 ·have all : ∀ (k : Nat) (y : S), Wi C fr k y → Wi C fr n y := by
   intro k
   induction k with
   | zero => intro y hy; exact Wi.mono (Nat.zero_le _) hy
   | succ k ih =>
    intro y hy
    rcases hy with hy | ⟨c, hc, h1, h2⟩
    ·exact ih y hy
    ·rcases h.c2 c hc (ih _ h1) with h3 | h3
     ·exact h2 ▸ h3
     ·cases h3
  have := h.g ((h.a to).2 (all k to hk))
  cases this
 ·refine Ev.step (fun k => monitor_Ways.c1_eq _ _ _ _ _ _ _ _) ?_
  exact Ev.no (by simp) (Ev.now _)
theorem wk_of (uq : ∀ c ∈ C, ∀ d ∈ C, c.1 = d.1 → c.2.1 = d.2.1 → c = d) {c : DModeChange} (hc : c ∈ C) : wk C c.1 c.2.1 = c.2.2 := by
 unfold wk
 cases hf : C.find? fun d => decide (d.1 = c.1 ∧ d.2.1 = c.2.1) with
 | none =>
  have := List.find?_eq_none.1 hf c hc
  simp at this
 | some d =>
  have h1 := List.mem_of_find?_eq_some hf
  have h2 := List.find?_some hf
  simp only [decide_eq_true_eq] at h2
  rw [uq d h1 c hc h2.1 h2.2]
theorem lv_next (uq : ∀ c ∈ C, ∀ d ∈ C, c.1 = d.1 → c.2.1 = d.2.1 → c = d) (hms : ∀ c ∈ C, c.2.2 ∈ ms) (hml : ms.length ≤ 50) {n : Nat} {B : S → Option (List S)} {now : List S} (h : LvOk C fr to n B now) (hn50 : n ≤ 50) (ht : B to = none) :
 LvOk C fr to (n + 1) (fun k => (lk (NX C B now) k).or (B k)) (sortS ((NX C B now).map (·.1))) := by
 obtain ⟨ok, has⟩ := NX_ok (C := C) (B := B) now
 have sh : Short B := fun k v hk => by have := (h.b k v hk).1; have := h.bn; omega
 have has := has sh
 have nw : ∀ {y v}, lk (NX C B now) y = some v → ¬ Wi C fr n y ∧ Wi C fr (n + 1) y ∧ v.length = n + 1 ∧ v.foldl (wk C) fr = y := fun {y v} hy => by
  obtain ⟨e1, m, hm, c, hc, e2, e3, e4⟩ := ok.n1 _ _ hy
  obtain ⟨u, u1, u2⟩ := h.c1 m hm
  have hw : Wi C fr n m := (h.a m).1 (by rw [u1]; rfl)
  refine ⟨fun hh => ?_, .inr ⟨c, hc, e2 ▸ hw, e3⟩, ?_, ?_⟩
  ·have := (h.a y).2 hh
   rw [e1] at this; cases this
  ·rw [e4, u1]; simp [u2]
  ·rw [e4, u1]
   simp only [Option.getD_some, List.foldl_append, List.foldl_cons, List.foldl_nil]
   rw [(h.b m u u1).2.2, ← e2, wk_of uq hc, e3]
 have old : ∀ {y}, Wi C fr n y → lk (NX C B now) y = none := fun {y} hy => by
  cases hk : lk (NX C B now) y with
  | none => rfl
  | some v => exact absurd hy (nw hk).1
 have a' : ∀ y, ((lk (NX C B now) y).or (B y)).isSome = true ↔ Wi C fr (n + 1) y := fun y => by
  constructor
  ·intro hy
   cases hk : lk (NX C B now) y with
   | some v => exact (nw hk).2.1
   | none =>
    rw [hk] at hy
    exact .inl ((h.a y).1 (by simpa using hy))
  ·intro hy
   by_cases hn : Wi C fr n y
   ·rw [old hn]
    simpa using (h.a y).2 hn
   ·rcases hy with hy | ⟨c, hc, h1, h2⟩
    ·exact absurd hy hn
    ·rcases h.c2 c hc h1 with h3 | h3
     ·exact absurd (h2 ▸ h3) hn
     ·have hB : B c.2.2 = none := by
       cases hb : B c.2.2 with
       | none => rfl
       | some v => exact absurd ((h.a _).1 (by rw [hb]; rfl)) (h2 ▸ hn)
      obtain ⟨v, hv, _⟩ := has _ h3 c hc hB rfl
      rw [h2] at hv
      rw [hv]; rfl
 have a0 := a'
 refine ⟨a', fun y v hy => ?_, fun y v hy => ?_, by omega, fun x hx => ?_, fun c hc hw => ?_, ?_, fun hh => ?_⟩
 ·cases hk : lk (NX C B now) y with
  | some u =>
   simp only [hk, Option.some_or, Option.some.injEq] at hy
   subst hy
   obtain ⟨k1, k2, k3, k4⟩ := nw hk
   exact ⟨by omega, fun k hk2 hw => k1 (Wi.mono (by omega) hw), k4⟩
  | none =>
   simp only [hk, Option.none_or] at hy
   obtain ⟨k1, k2, k3⟩ := h.b y v hy
   exact ⟨by omega, k2, k3⟩
 ·cases hk : lk (NX C B now) y with
  | none =>
   simp only [hk, Option.none_or] at hy
   exact h.m y v hy
  | some u =>
   simp only [hk, Option.some_or, Option.some.injEq] at hy
   subst hy
   obtain ⟨k1, k2, k3, k4⟩ := nw hk
   obtain ⟨e1, m, hm, c, hc, e2, e3, e4⟩ := ok.n1 _ _ hk
   obtain ⟨t, t1, t2⟩ := h.c1 m hm
   refine ⟨?_, fun l hl hp => ?_⟩
   ·rw [e4, t1]
    exact Pt_snoc.2 ⟨c, hc, by rw [e2]; exact (h.m m t t1).1, rfl, e3⟩
   ·rcases List.eq_nil_or_concat l with rfl | ⟨p, e, rfl⟩
    ·simp at hl; omega
    rw [List.concat_eq_append] at hl hp ⊢
    obtain ⟨d, hd, d1, d2, d3⟩ := Pt_snoc.1 hp
    have pl : p.length = n := by simp at hl; omega
    have dw : Wi C fr n d.1 := Pt_wi n pl d1
    have dn : d.1 ∈ now := by
     rcases h.c2 d hd dw with h3 | h3
     ·exact absurd (d3 ▸ h3) k1
     ·exact h3
    obtain ⟨u', u1, u2⟩ := h.c1 d.1 dn
    obtain ⟨v', v1, v2⟩ := has _ dn d hd (by rw [d3]; exact e1) rfl
    rw [d3, hk] at v1
    cases v1
    rw [u1] at v2
    simp only [Option.getD_some] at v2
    have pu := (h.m d.1 u' u1).2 p (by omega) d1
    intro hh
    by_cases hup : lxl u' p
    ·exact v2 (lxl_trans (lxl_app [d.2.1] [e] (by omega) hup) hh)
    ·have := lxl_total pu hup
     subst this
     rw [d2] at v2
     exact v2 hh
 ·have hx := lk_mem.2 (mem_sortS.1 hx)
  cases hk : lk (NX C B now) x with
  | none => rw [hk] at hx; cases hx
  | some v => exact ⟨v, by simp, (nw hk).2.2.1⟩
 ·by_cases hn : Wi C fr n c.1
  ·exact .inl (.inr ⟨c, hc, hn, rfl⟩)
  ·right
   have := (a' c.1).2 hw
   have hB : B c.1 = none := by
    cases hb : B c.1 with
    | none => rfl
    | some v => exact absurd ((h.a _).1 (by rw [hb]; rfl)) hn
   rw [hB, Option.or_none] at this
   exact mem_sortS.2 (lk_mem.1 this)
 ·rw [len_sortS]
  have := nodup_len (m := ms) ok.n2 fun x hx => by
   have hx := lk_mem.2 hx
   cases hk : lk (NX C B now) x with
   | none => rw [hk] at hx; cases hx
   | some v =>
    obtain ⟨e1, m, hm, c, hc, e2, e3, e4⟩ := ok.n1 _ _ hk
    exact e3 ▸ hms c hc
  omega
 ·simp only [ht, Option.or_none] at hh
  exact mem_sortS.2 (lk_mem.1 hh)
theorem bfs (uq : ∀ c ∈ C, ∀ d ∈ C, c.1 = d.1 → c.2.1 = d.2.1 → c = d) (hms : ∀ c ∈ C, c.2.2 ∈ ms) (hml : ms.length ≤ 50) (hC : C.length ≤ 500) : ∀ (d n : Nat) (B : S → Option (List S)) (now : List S), LvOk C fr to n B now → n + meas ms B ≤ 50 → meas ms B ≤ d →
 ∃ r, WayOk C fr to r ∧ ∀ best : Mp, (∀ k, lk best k = B k) → Ev (fun k => monitor_Ways.c1 k to ms C md rl best now) r := by
 intro d
 induction d with
 | zero =>
  intro n B now h he hd
  by_cases h0 : now = []
  ·subst h0; exact lv_nil h
  have hpos := List.length_pos_iff.2 h0
  cases ht : B to with
  | some v =>
   obtain ⟨b1, b2, b3⟩ := h.b to v ht
   refine ⟨(v, (true, (0, ()))), ⟨rfl, .inl ⟨rfl, ⟨n, (h.a to).1 (by rw [ht]; rfl)⟩, b2, b3, by show v.length ≤ 1000; omega, h.m to v ht⟩⟩, fun best hb => ?_⟩
   refine Ev.step (fun k => monitor_Ways.c1_eq _ _ _ _ _ _ _ _) ?_
   rw [has_lk (σ := .sl .str), get_lk (σ := .sl .str), hb, ht]
   exact Ev.yes (decide_eq_true (by omega)) (Ev.yes rfl (Ev.now _))
  | none =>
   have nx0 : NX C B now = [] := by
    cases hn : NX C B now with
    | nil => rfl
    | cons p l =>
     exfalso
     obtain ⟨ok, _⟩ := NX_ok (C := C) (B := B) now
     have hk : lk (NX C B now) p.1 = some p.2 := by rw [hn]; simp [lk]
     obtain ⟨e1, m, hm, c, hc, e2, e3, e4⟩ := ok.n1 _ _ hk
     have : p.1 ∈ ms.filter fun m => (B m).isNone := List.mem_filter.2 ⟨e3 ▸ hms c hc, by rw [e1]; rfl⟩
     have := List.length_pos_of_mem this
     unfold meas at hd
     omega
   have nxt := lv_next uq hms hml h (by omega) ht
   rw [nx0, sortS_nil] at nxt
   obtain ⟨r, r1, r2⟩ := lv_nil (ms := ms) (md := md) (rl := rl) nxt
   refine ⟨r, r1, fun best hb => ?_⟩
   refine Ev.step (fun k => monitor_Ways.c1_eq _ _ _ _ _ _ _ _) ?_
   rw [has_lk (σ := .sl .str), hb, ht]
   refine Ev.yes (decide_eq_true (by omega)) (Ev.no (by simp) (c2_ev hC hb (fun k v hk => by have := (h.b k v hk).1; omega) h.f ?_))
   rw [nx0]
   exact c4_ev (F := fun k => (lk ([] : Mp) k).or (B k)) (P := []) (by simp) (fun best' hb' => by rw [show sortS ([] : List S) = [] from by simp [sortS]]; exact r2 best' hb') 0 [] best [] none rfl (by simp) (fun k => by rw [hb]) (.refl _)
 | succ d ih =>
  intro n B now h he hd
  by_cases h0 : now = []
  ·subst h0; exact lv_nil h
  have hpos := List.length_pos_iff.2 h0
  cases ht : B to with
  | some v =>
   obtain ⟨b1, b2, b3⟩ := h.b to v ht
   refine ⟨(v, (true, (0, ()))), ⟨rfl, .inl ⟨rfl, ⟨n, (h.a to).1 (by rw [ht]; rfl)⟩, b2, b3, by show v.length ≤ 1000; omega, h.m to v ht⟩⟩, fun best hb => ?_⟩
   refine Ev.step (fun k => monitor_Ways.c1_eq _ _ _ _ _ _ _ _) ?_
   rw [has_lk (σ := .sl .str), get_lk (σ := .sl .str), hb, ht]
   exact Ev.yes (decide_eq_true (by omega)) (Ev.yes rfl (Ev.now _))
  | none =>
   have nxt := lv_next uq hms hml h (by omega) ht
   obtain ⟨ok, _⟩ := NX_ok (C := C) (B := B) now
   have hrec : ∃ r, WayOk C fr to r ∧ ∀ best : Mp, (∀ k, lk best k = (lk (NX C B now) k).or (B k)) → Ev (fun k => monitor_Ways.c1 k to ms C md rl best (sortS ((NX C B now).map (·.1)))) r := by
    cases hn : NX C B now with
    | nil =>
     rw [hn, sortS_nil] at nxt
     rw [sortS_nil]
     exact lv_nil nxt
    | cons p l =>
     rw [← hn]
     have hk : lk (NX C B now) p.1 = some p.2 := by rw [hn]; simp [lk]
     obtain ⟨e1, m, hm, c, hc, e2, e3, e4⟩ := ok.n1 _ _ hk
     have hless : meas ms (fun k => (lk (NX C B now) k).or (B k)) < meas ms B := by
      unfold meas
      refine filter_less (fun x _ hx => ?_) ⟨p.1, e3 ▸ hms c hc, by rw [e1]; rfl, by simp only [hk]; rfl⟩
      cases hb : B x with
      | none => rfl
      | some v => simp [hb] at hx
     exact ih (n + 1) _ _ nxt (by omega) (by omega)
   obtain ⟨r, r1, r2⟩ := hrec
   refine ⟨r, r1, fun best hb => ?_⟩
   refine Ev.step (fun k => monitor_Ways.c1_eq _ _ _ _ _ _ _ _) ?_
   rw [has_lk (σ := .sl .str), hb, ht]
   refine Ev.yes (decide_eq_true (by omega)) (Ev.no (by simp) (c2_ev hC hb (fun k v hk => by have := (h.b k v hk).1; omega) h.f ?_))
   have hlen := nxt.f
   rw [len_sortS] at hlen
   exact c4_ev (F := fun k => (lk (NX C B now) k).or (B k)) (P := (NX C B now).map (·.1)) hlen (fun best' hb' => r2 best' hb') _ (NX C B now) best [] none rfl ok.n2 (fun k => by rw [hb]) (.refl _)
end
theorem ways_ev (w : DWatch) (fr to : S) {q : Int × Unit} (hq : Ev (fun k => monitor_CheckWatch.f k w) q) (ok : q.1 = 0 → ModesOk w) :
 ∃ r, Ev (fun k => monitor_Ways.f k w fr to) r ∧ ((r.2.2.1 ≠ 0 ∧ r.1 = [] ∧ r.2.1 = false ∧ ¬ (q.1 = 0 ∧ fr ∈ w.1 ∧ to ∈ w.1)) ∨ (q.1 = 0 ∧ fr ∈ w.1 ∧ to ∈ w.1 ∧ WayOk w.2.1 fr to r)) := by
 by_cases h0 : q.1 = 0
 case neg =>
  refine ⟨([], (false, (q.1, ()))), Ev.eq (fun k => monitor_Ways.f_eq _ _ _ _) ?_, .inl ⟨h0, rfl, rfl, fun h => h0 h.1⟩⟩
  exact Ev.bind hq (Ev.yes (by simpa using h0) (Ev.now _))
 have ok := ok h0
 have ml := ok.ml
 have cl := ok.cl
 by_cases h1 : fr ∈ w.1
 case neg =>
  refine ⟨([], (false, (9, ()))), Ev.eq (fun k => monitor_Ways.f_eq _ _ _ _) ?_, .inl ⟨by simp, rfl, rfl, fun h => h1 h.2.1⟩⟩
  exact Ev.bind hq (Ev.no (by simp [h0]) (Ev.bind (contains_ev _ _ (by omega)) (Ev.yes (by simp [h1]) (Ev.now _))))
 by_cases h2 : to ∈ w.1
 case neg =>
  refine ⟨([], (false, (9, ()))), Ev.eq (fun k => monitor_Ways.f_eq _ _ _ _) ?_, .inl ⟨by simp, rfl, rfl, fun h => h2 h.2.2⟩⟩
  exact Ev.bind hq (Ev.no (by simp [h0]) (Ev.bind (contains_ev _ _ (by omega)) (Ev.no (by simp [h1]) (Ev.bind (contains_ev _ _ (by omega)) (Ev.yes (by simp [h2]) (Ev.now _))))))
 let B : S → Option (List S) := fun k => if fr = k then some [] else none
 have hB : ∀ k, lk (mapPut .str (.sl .str) fr [] ([] : Mp)) k = B k := fun k => by rw [lk_put (σ := .sl .str)]; rfl
 have lv : LvOk w.2.1 fr to 0 B [fr] := by
  refine ⟨fun y => ?_, fun y v hy => ?_, fun y v hy => ?_, by omega, fun x hx => ?_, fun c hc hw => ?_, by simp, fun hh => ?_⟩
  ·show (if fr = y then some ([] : List S) else none).isSome = true ↔ y = fr
   by_cases e : fr = y
   ·rw [if_pos e]; simp [e]
   ·rw [if_neg e]; simp [Ne.symm e]
  ·have hy : (if fr = y then some ([] : List S) else none) = some v := hy
   split at hy
   ·rename_i e
    cases hy
    exact ⟨by simp, fun k hk => by simp at hk, e⟩
   ·cases hy
  ·have hy : (if fr = y then some ([] : List S) else none) = some v := hy
   split at hy
   ·rename_i e
    cases hy
    refine ⟨e, fun l hl _ => ?_⟩
    have := List.eq_nil_of_length_eq_zero hl
    subst this
    exact lxl_irrefl _
   ·cases hy
  ·simp at hx
   subst hx
   exact ⟨[], if_pos rfl, rfl⟩
  ·right
   have hw : c.1 = fr := hw
   simp [hw]
  ·have hh : (if fr = to then some ([] : List S) else none).isSome = true := hh
   split at hh
   ·rename_i e; simp [e]
   ·cases hh
 have hm : meas w.1 B ≤ 50 := Nat.le_trans (List.length_filter_le _ _) ml
 obtain ⟨r, r1, r2⟩ := bfs (md := w.2.2.1) (rl := w.2.2.2) (one_change ok) (fun c hc => (ok.ch c hc).2) ml cl (meas w.1 B) 0 B [fr] lv (by omega) (Nat.le_refl _)
 refine ⟨r, Ev.eq (fun k => monitor_Ways.f_eq _ _ _ _) ?_, .inr ⟨h0, h1, h2, r1⟩⟩
 refine Ev.bind hq (Ev.no (by simp [h0]) (Ev.bind (contains_ev _ _ (by omega)) (Ev.no (by simp [h1]) (Ev.bind (contains_ev _ _ (by omega)) (Ev.no (by simp [h2]) ?_)))))
 exact Ev.step (fun k => monitor_Ways.c0_eq _ _ _ _ _ _ _) (r2 _ hB)

end Go.Proofs.Ytadhpgecilhgnaa.Pure

-- YtadhpgecilhgnaaQ6
set_option linter.unusedVariables false
set_option linter.unusedSimpArgs false
namespace Go.Proofs.Ytadhpgecilhgnaa.Pure
open Go Go.Proofs.Ytadhpgecilhgnaa.A

abbrev Fr := List (S × Int)
structure RI (C : List DModeChange) (fr : S) (far : Fr) (q : List S) : Prop where
 i1 : (lk far fr).isSome = true
 i2 : ∀ y, (lk far y).isSome = true → ∃ n, Wi C fr n y
 i3 : ∀ x, (lk far x).isSome = true → x ∈ q ∨ ∀ c ∈ C, c.1 = x → (lk far c.2.2).isSome = true
 i4 : ∀ x ∈ q, (lk far x).isSome = true
def mu (ms : List S) (far : Fr) (q : List S) : Nat := 2 * (ms.filter fun m => (lk far m).isNone).length + q.length
theorem reach_loop (w : DWatch) (fr : S) (ok : ModesOk w) : ∀ (d : Nat) (far : Fr) (q : List S), RI w.2.1 fr far q → mu w.1 far q ≤ d → d ≤ 1000 →
 ∃ r : Fr × Unit, Ev (fun k => monitor_reach.c0 k w.1 w.2.1 w.2.2.1 w.2.2.2 far q) r ∧ ∀ y, (lk r.1 y).isSome = true ↔ ∃ n, Wi w.2.1 fr n y := by
 have cl := ok.cl
 intro d
 induction d with
 | zero =>
  intro far q h hd _
  have hq : q = [] := by
   unfold mu at hd
   exact List.eq_nil_of_length_eq_zero (by omega)
  subst hq
  refine ⟨(far, ()), Ev.step (fun k => monitor_reach.c0_eq _ _ _ _ _ _ _) (Ev.no (by simp) (Ev.now _)), fun y => ⟨h.i2 y, ?_⟩⟩
  rintro ⟨n, hn⟩
  induction n generalizing y with
  | zero => exact (show y = fr from hn) ▸ h.i1
  | succ n ih =>
   rcases hn with hn | ⟨c, hc, h1, h2⟩
   ·exact ih y hn
   ·rcases h.i3 c.1 (ih _ h1) with h3 | h3
    ·cases h3
    ·exact h2 ▸ h3 c hc rfl
 | succ d ih =>
  intro far q h hd hdl
  match q, h, hd with
  | [], h, hd =>
   refine ⟨(far, ()), Ev.step (fun k => monitor_reach.c0_eq _ _ _ _ _ _ _) (Ev.no (by simp) (Ev.now _)), fun y => ⟨h.i2 y, ?_⟩⟩
   rintro ⟨n, hn⟩
   induction n generalizing y with
   | zero => exact (show y = fr from hn) ▸ h.i1
   | succ n ihn =>
    rcases hn with hn | ⟨c, hc, h1, h2⟩
    ·exact ihn y hn
    ·rcases h.i3 c.1 (ihn _ h1) with h3 | h3
     ·cases h3
     ·exact h2 ▸ h3 c hc rfl
  | x :: q, h, hd =>
   have hx := h.i4 x (by simp)
   have := Ev.rngR (σ := Fr × List S) (Ty.dflt YModeChange) w.2.1 (by omega) (g := fun k s i => monitor_reach.c1 k w.1 w.2.1 w.2.2.1 w.2.2.2 s.1 s.2 w.2.1 (w.2.1.length : Int) i) (fun k s i => monitor_reach.c1_eq _ _ _ _ _ _ _ _ _ _)
    (fun i s => RI w.2.1 fr s.1 s.2 ∧ mu w.1 s.1 s.2 ≤ d + 1 ∧ (∃ q', s.2 = x :: q') ∧ ∀ c ∈ w.2.1.take i, c.1 = x → (lk s.1 c.2.2).isSome = true)
    (fun r => ∀ y, (lk r.1 y).isSome = true ↔ ∃ n, Wi w.2.1 fr n y) (fun s hs => ?_) (fun i c s hi hc hget hgd hw hs next => ?_) 0 (far, x :: q) (by omega) ⟨h, hd, ⟨q, rfl⟩, fun c hc => by simp at hc⟩
   ·obtain ⟨r, r1, r2⟩ := this
    exact ⟨r, Ev.step (fun k => monitor_reach.c0_eq _ _ _ _ _ _ _) (Ev.yes (decide_eq_true (by simp only [List.length_cons]; omega)) r1), r2⟩
   ·obtain ⟨s1, s2⟩ := s
    obtain ⟨a1, a2, ⟨q', rfl⟩, a4⟩ := hs
    simp only [List.take_length] at a4
    simp only at a1 a2
    obtain ⟨r, r1, r2⟩ := ih s1 q' ⟨a1.i1, a1.i2, fun y hy => by
     rcases a1.i3 y hy with h3 | h3
     ·rcases List.mem_cons.1 h3 with rfl | h3
      ·exact .inr a4
      ·exact .inl h3
     ·exact .inr h3, fun y hy => a1.i4 y (by simp [hy])⟩ (by unfold mu at *; simp at a2; omega) (by omega)
    exact ⟨r, Ev.yes (by simp only [List.length_cons]; omega) r1, r2⟩
   ·obtain ⟨s1, s2⟩ := s
    obtain ⟨a1, a2, ⟨q', rfl⟩, a4⟩ := hs
    simp only at a1 a2 a4
    simp only [Int.toNat_natCast, hgd, hw]
    have ht : w.2.1.take (i + 1) = w.2.1.take i ++ [c] := by
     rw [List.take_add_one, hget]; rfl
    have same : (c.1 = x → (lk s1 c.2.2).isSome = true) → ∃ r : Fr × Unit, Ev (fun k => monitor_reach.c1 k w.1 w.2.1 w.2.2.1 w.2.2.2 s1 (x :: q') w.2.1 (w.2.1.length : Int) ((i : Int) + 1)) r ∧ ∀ y, (lk r.1 y).isSome = true ↔ ∃ n, Wi w.2.1 fr n y := fun hc2 =>
     next (s1, x :: q') ⟨a1, a2, ⟨q', rfl⟩, fun e he e1 => by
      rw [ht] at he
      rcases List.mem_append.1 he with he | he
      ·exact a4 e he e1
      ·simp at he; subst he; exact hc2 e1⟩
    by_cases h1 : c.1 = x
    case neg =>
     obtain ⟨r, r1, r2⟩ := same fun e => absurd e h1
     exact ⟨r, Ev.yes (by simp) (Ev.yes (by simpa using h1) r1), r2⟩
    rw [has_lk (σ := .int .i64)]
    by_cases h2 : (lk s1 c.2.2).isSome = true
    ·obtain ⟨r, r1, r2⟩ := same fun _ => h2
     exact ⟨r, Ev.yes (by simp) (Ev.no (by simp [h1]) (Ev.no (by simp [h2]) r1)), r2⟩
    have mono : ∀ {y v}, (lk s1 y).isSome = true → (lk (mapPut .str (.int .i64) c.2.2 v s1) y).isSome = true := fun {y v} hy => by
     rw [lk_put (σ := .int .i64)]
     split
     ·rfl
     ·exact hy
    have new : ∀ {v}, (lk (mapPut .str (.int .i64) c.2.2 v s1) c.2.2).isSome = true := fun {v} => by
     rw [lk_put (σ := .int .i64), if_pos rfl]; rfl
    obtain ⟨n, hn⟩ := a1.i2 x (a1.i4 x (by simp))
    have hms := (ok.ch c hc).2
    have key : ∀ v : Int, RI w.2.1 fr (mapPut .str (.int .i64) c.2.2 v s1) ((x :: q') ++ [c.2.2]) ∧ mu w.1 (mapPut .str (.int .i64) c.2.2 v s1) ((x :: q') ++ [c.2.2]) ≤ d + 1 := fun v => by
     refine ⟨⟨mono a1.i1, fun y hy => ?_, fun y hy => ?_, fun y hy => ?_⟩, ?_⟩
     ·rw [lk_put (σ := .int .i64)] at hy
      split at hy
      ·rename_i e
       exact ⟨n + 1, .inr ⟨c, hc, h1 ▸ hn, e⟩⟩
      ·exact a1.i2 y hy
     ·rw [lk_put (σ := .int .i64)] at hy
      split at hy
      ·rename_i e
       exact .inl (by simp [e])
      ·rcases a1.i3 y hy with h3 | h3
       ·exact .inl (List.mem_append_left _ h3)
       ·exact .inr fun e he e1 => mono (h3 e he e1)
     ·rcases List.mem_append.1 hy with hy | hy
      ·exact mono (a1.i4 y hy)
      ·simp at hy; subst hy; exact new
     ·have hlt : (w.1.filter fun m => (lk (mapPut .str (.int .i64) c.2.2 v s1) m).isNone).length < (w.1.filter fun m => (lk s1 m).isNone).length := by
       refine filter_less (fun y _ hy => ?_) ⟨c.2.2, hms, ?_, ?_⟩
       ·cases hl : lk s1 y with
        | none => rfl
        | some z =>
         have := mono (v := v) (y := y) (by rw [hl]; rfl)
         cases hl2 : lk (mapPut .str (.int .i64) c.2.2 v s1) y with
         | none => rw [hl2] at this; cases this
         | some z2 => rw [hl2] at hy; cases hy
       ·cases hl : lk s1 c.2.2 with
        | none => rfl
        | some z => rw [hl] at h2; simp at h2
       ·have := new (v := v)
        cases hl2 : lk (mapPut .str (.int .i64) c.2.2 v s1) c.2.2 with
        | none => rw [hl2] at this; cases this
        | some z2 => rfl
      unfold mu at a2 ⊢
      simp only [List.length_append, List.length_cons, List.length_nil] at a2 ⊢
      omega
    obtain ⟨k1, k2⟩ := key (IntKind.wrap .i64 (mapGet .str (.int .i64) c.1 s1 0 + 1))
    obtain ⟨r, r1, r2⟩ := next (mapPut .str (.int .i64) c.2.2 (IntKind.wrap .i64 (mapGet .str (.int .i64) c.1 s1 0 + 1)) s1, (x :: q') ++ [c.2.2]) ⟨k1, k2, ⟨q' ++ [c.2.2], rfl⟩, fun e he e1 => by
     rw [ht] at he
     rcases List.mem_append.1 he with he | he
     ·exact mono (a4 e he e1)
     ·simp at he; subst he; exact new⟩
    have hql : (x :: q').length + 1 ≤ 1099511627776 := by
     unfold mu at a2
     omega
    exact ⟨r, Ev.yes (by simp) (Ev.no (by simp [h1]) (Ev.yes (by simpa using h2) (Ev.yes hql r1))), r2⟩
theorem reach_ev (w : DWatch) (fr : S) (ok : ModesOk w) : ∃ r : Fr × Unit, Ev (fun k => monitor_reach.f k w fr) r ∧ ∀ y, (lk r.1 y).isSome = true ↔ ∃ n, Wi w.2.1 fr n y := by
 have hl : ∀ y, (lk (mapPut .str (.int .i64) fr 0 ([] : Fr)) y).isSome = true ↔ fr = y := fun y => by
  rw [lk_put (σ := .int .i64)]
  split
  ·rename_i e; simp [e]
  ·rename_i e; simp [e, lk]
 have ml := ok.ml
 obtain ⟨r, r1, r2⟩ := reach_loop w fr ok (mu w.1 (mapPut .str (.int .i64) fr 0 ([] : Fr)) [fr]) (mapPut .str (.int .i64) fr 0 []) [fr] ⟨(hl _).2 rfl, fun y hy => ⟨0, ((hl y).1 hy).symm⟩, fun x hx => .inl (by simp [(hl x).1 hx]), fun x hx => (hl x).2 (by simpa using hx : x = fr).symm⟩ (Nat.le_refl _) (by
  have : (w.1.filter fun m => (lk (mapPut .str (.int .i64) fr 0 ([] : Fr)) m).isNone).length ≤ w.1.length := List.length_filter_le _ _
  unfold mu
  simp only [List.length_cons, List.length_nil]
  omega)
 exact ⟨r, Ev.eq (fun k => monitor_reach.f_eq _ _ _) r1, r2⟩
open Classical in
theorem reached_ev (w : DWatch) (fr : S) {q : Int × Unit} (hq : Ev (fun k => monitor_CheckWatch.f k w) q) (h0 : q.1 = 0) (ok : ModesOk w) (hf : fr ∈ w.1) :
 Ev (fun k => monitor_Reached.f k w fr) (w.1.filter fun m => decide (∃ n, Wi w.2.1 fr n m), (0, ())) := by
 have ml := ok.ml
 obtain ⟨far, r1, r2⟩ := reach_ev w fr ok
 refine Ev.eq (fun k => monitor_Reached.f_eq _ _ _) (Ev.bind hq (Ev.no (by simp [h0]) (Ev.bind (contains_ev _ _ (by omega)) (Ev.no (by simp [hf]) (Ev.bind r1 ?_)))))
 have h := Ev.rng (σ := List S) ([] : S) w.1 (by omega) (g := fun k s i => monitor_Reached.c0 k far.1 s w.1 (w.1.length : Int) i) (fun k s i => monitor_Reached.c0_eq _ _ _ _ _ _)
  (fun i s => s = (w.1.take i).filter fun m => decide (∃ n, Wi w.2.1 fr n m)) (fun _ _ _ => (w.1.filter fun m => decide (∃ n, Wi w.2.1 fr n m), (0, ()))) (fun s hs => by
   rw [hs, List.take_length]; exact Ev.now _) (fun j c cs s hj hc hd hget hw hs next => by
   simp only [Int.toNat_natCast, hget, hw]
   have ht : w.1.take (j + 1) = w.1.take j ++ [c] := by
    rw [List.take_add_one]
    have : w.1[j]? = some c := by
     have := congrArg (fun l => l[0]?) hd
     simpa using this
    rw [this]; rfl
   have hsl : s.length ≤ 50 := by
    rw [hs]
    exact Nat.le_trans (List.length_filter_le _ _) (Nat.le_trans (List.length_take_le _ _) (by omega))
   rw [has_lk (σ := .int .i64)]
   by_cases h1 : ∃ n, Wi w.2.1 fr n c
   ·refine Ev.yes ((r2 c).2 h1) (Ev.yes (by omega) (next _ ?_))
    rw [ht, List.filter_append, ← hs, List.filter_cons_of_pos (by simpa using h1)]; rfl
   ·refine Ev.no (fun h => h1 ((r2 c).1 h)) (next _ ?_)
    rw [ht, List.filter_append, ← hs, List.filter_cons_of_neg (by simpa using h1)]; simp) 0 [] (by omega) (by rfl)
 exact h
open Classical in
theorem traps_ev (w : DWatch) (safe : S) {q : Int × Unit} (hq : Ev (fun k => monitor_CheckWatch.f k w) q) (h0 : q.1 = 0) (ok : ModesOk w) (hf : safe ∈ w.1) :
 Ev (fun k => monitor_Traps.f k w safe) (w.1.filter fun m => decide (¬ ∃ n, Wi w.2.1 m n safe), (0, ())) := by
 have ml := ok.ml
 refine Ev.eq (fun k => monitor_Traps.f_eq _ _ _) (Ev.bind hq (Ev.no (by simp [h0]) (Ev.bind (contains_ev _ _ (by omega)) (Ev.no (by simp [hf]) ?_))))
 have h := Ev.rng (σ := List S) ([] : S) w.1 (by omega) (g := fun k s i => monitor_Traps.c0 k safe w.1 w.2.1 w.2.2.1 w.2.2.2 s w.1 (w.1.length : Int) i) (fun k s i => monitor_Traps.c0_eq _ _ _ _ _ _ _ _ _ _)
  (fun i s => s = (w.1.take i).filter fun m => decide (¬ ∃ n, Wi w.2.1 m n safe)) (fun _ _ _ => (w.1.filter fun m => decide (¬ ∃ n, Wi w.2.1 m n safe), (0, ()))) (fun s hs => by
   rw [hs, List.take_length]; exact Ev.now _) (fun j c cs s hj hc hd hget hw hs next => by
   simp only [Int.toNat_natCast, hget, hw]
   have ht : w.1.take (j + 1) = w.1.take j ++ [c] := by
    rw [List.take_add_one]
    have : w.1[j]? = some c := by
     have := congrArg (fun l => l[0]?) hd
     simpa using this
    rw [this]; rfl
   have hsl : s.length ≤ 50 := by
    rw [hs]
    exact Nat.le_trans (List.length_filter_le _ _) (Nat.le_trans (List.length_take_le _ _) (by omega))
   obtain ⟨far, r1, r2⟩ := reach_ev w c ok
   refine Ev.bind r1 ?_
   rw [has_lk (σ := .int .i64)]
   by_cases h1 : ∃ n, Wi w.2.1 c n safe
   ·refine Ev.no (by simp [(r2 safe).2 h1]) (next _ ?_)
    rw [ht, List.filter_append, ← hs, List.filter_cons_of_neg (by simpa using h1)]; simp
   ·refine Ev.yes ?_ (Ev.yes (by omega) (next _ ?_))
    ·cases hl : (lk far.1 safe).isSome with
     | true => exact absurd ((r2 safe).1 hl) h1
     | false => rfl
    ·rw [ht, List.filter_append, ← hs, List.filter_cons_of_pos (by simpa using h1)]; rfl) 0 [] (by omega) (by rfl)
 exact h
end Go.Proofs.Ytadhpgecilhgnaa.Pure

-- YtadhpgecilhgnaaQ7
set_option linter.unusedVariables false
set_option linter.unusedSimpArgs false
namespace Go.Proofs.Ytadhpgecilhgnaa.Pure
open Go Go.Proofs.Ytadhpgecilhgnaa.A

def gdP (c : Nat) (i : Nat) : Prop := (97 ≤ c ∧ c ≤ 122) ∨ (i ≠ 0 ∧ (c = 45 ∨ c = 95 ∨ (48 ≤ c ∧ c ≤ 57)))
instance (c i : Nat) : Decidable (gdP c i) := by unfold gdP; infer_instance
def ag : List UInt8 → Nat → Bool
 | [], _ => true
 | x :: xs, i => decide (gdP x.toNat i) && ag xs (i + 1)
theorem mname_loop (s : List UInt8) (hs : s.length ≤ 140737488351232) : Ev (fun k => monitor_IsName.c1 k s (s.length : Int) 0) (ag s 0, ()) := by
 have h := Ev.rng (σ := Unit) (0 : UInt8) s (by omega) (g := fun k _ i => monitor_IsName.c1 k s (s.length : Int) i) (fun k _ i => monitor_IsName.c1_eq _ _ _ _)
  (fun _ _ => True) (fun xs i _ => (ag xs i, ())) (fun _ _ => Ev.is rfl) (fun i x xs _ hi hx hd hget hw _ next => by
   simp only [Int.toNat_natCast, hget, hw, decide_eq_true_eq, Bool.not_eq_true', decide_eq_false_iff_not]
   have F : ¬ gdP x.toNat i → Ev (fun _ : Nat => some (false, ())) (ag (x :: xs) i, ()) := fun h => Ev.is (by rw [ag, decide_eq_false h]; rfl)
   have T : gdP x.toNat i → Ev (fun k => monitor_IsName.c1 k s (s.length : Int) ((i : Int) + 1)) (ag (x :: xs) i, ()) := fun h => by
    rw [ag, decide_eq_true h]; exact next () trivial
   unfold gdP at F T
   refine Ev.split (fun h1 => Ev.split (fun h2 => F (by omega)) (fun h2 => Ev.split (fun h3 => Ev.split (fun h4 => Ev.split (fun h5 => F (by omega)) (fun h5 => Ev.split (fun h6 => F (by omega)) (fun h6 => T (by omega)))) (fun h4 => T (by omega))) (fun h3 => T (by omega)))) (fun h1 => Ev.split (fun h2 => Ev.split (fun h3 => F (by omega)) (fun h3 => Ev.split (fun h4 => Ev.split (fun h5 => Ev.split (fun h6 => F (by omega)) (fun h6 => Ev.split (fun h7 => F (by omega)) (fun h7 => T (by omega)))) (fun h5 => T (by omega))) (fun h4 => T (by omega)))) (fun h2 => T (by omega)))) 0 () (by omega) trivial
 exact h
theorem rname_loop (s : List UInt8) (hs : s.length ≤ 140737488351232) : Ev (fun k => perigeeref8_IsName.c0 k s 0) (ag s 0 && decide (1 ≤ (s.length : Int) ∧ (s.length : Int) ≤ 40), ()) := by
 have wi : ∀ (k : Nat) (n a b : Int), perigeeref8_within.f k n a b = some (decide (a ≤ n ∧ n ≤ b), ()) := fun k n a b => by
  rw [perigeeref8_within.f_eq]
  by_cases h1 : a ≤ n <;> simp [h1]
 have h := Ev.rng (σ := Unit) (0 : UInt8) s (by omega) (g := fun k _ i => perigeeref8_IsName.c0 k s i) (fun k _ i => perigeeref8_IsName.c0_eq _ _ _)
  (fun _ _ => True) (fun xs i _ => (ag xs i && decide (1 ≤ (s.length : Int) ∧ (s.length : Int) ≤ 40), ())) (fun _ _ => by simp only [wi, Option.bind_some]; exact Ev.is rfl) (fun i x xs _ hi hx hd hget hw _ next => by
   simp only [Int.toNat_natCast, hget, hw, decide_eq_true_eq, Bool.not_eq_true', decide_eq_false_iff_not]
   have F : ¬ gdP x.toNat i → Ev (fun _ : Nat => some (false, ())) (ag (x :: xs) i && decide (1 ≤ (s.length : Int) ∧ (s.length : Int) ≤ 40), ()) := fun h => Ev.is (by rw [ag, decide_eq_false h]; rfl)
   have T : gdP x.toNat i → Ev (fun k => perigeeref8_IsName.c0 k s ((i : Int) + 1)) (ag (x :: xs) i && decide (1 ≤ (s.length : Int) ∧ (s.length : Int) ≤ 40), ()) := fun h => by
    rw [ag, decide_eq_true h]; exact next () trivial
   unfold gdP at F T
   refine Ev.split (fun h1 => Ev.split (fun h2 => Ev.split (fun h3 => F (by omega)) (fun h3 => Ev.split (fun h4 => Ev.split (fun h5 => Ev.split (fun h6 => Ev.split (fun h7 => F (by omega)) (fun h7 => T (by omega))) (fun h6 => F (by omega))) (fun h5 => T (by omega))) (fun h4 => T (by omega)))) (fun h2 => T (by omega))) (fun h1 => Ev.split (fun h2 => F (by omega)) (fun h2 => Ev.split (fun h3 => Ev.split (fun h4 => Ev.split (fun h5 => Ev.split (fun h6 => F (by omega)) (fun h6 => T (by omega))) (fun h5 => F (by omega))) (fun h4 => T (by omega))) (fun h3 => T (by omega))))) 0 () (by omega) trivial
 exact h
theorem rname_ev (s : List UInt8) (hs : s.length ≤ 140737488351232) : Ev (fun k => perigeeref8_IsName.f k s) (isNm s, ()) := by
 have r := rname_loop s hs
 have m := mname_loop s hs
 obtain ⟨nv, _⟩ := name_ev s hs
 have key : Ev (fun k => monitor_IsName.f k s) (ag s 0 && decide (1 ≤ (s.length : Int) ∧ (s.length : Int) ≤ 40), ()) := by
  refine Ev.eq (fun k => monitor_IsName.f_eq _ _) ?_
  simp only [decide_eq_true_eq]
  refine Ev.split (fun h => ?_) (fun h => Ev.split (fun h2 => ?_) (fun h2 => Ev.step (fun k => monitor_IsName.c0_eq _ _) ?_))
  ·subst h
   exact Ev.is (by simp)
  ·exact Ev.is (by rw [show decide (1 ≤ (s.length : Int) ∧ (s.length : Int) ≤ 40) = false from decide_eq_false (by omega), Bool.and_false])
  ·have : 0 < s.length := List.length_pos_iff.2 h
   rw [show decide (1 ≤ (s.length : Int) ∧ (s.length : Int) ≤ 40) = true from decide_eq_true (by omega), Bool.and_true]
   exact m
 have e := nv.unique key
 simp only [Prod.mk.injEq, and_true] at e
 rw [e]
 exact Ev.eq (fun k => perigeeref8_IsName.f_eq _ _) r
theorem rhas_ev (l : List S) (v : S) (hl : l.length ≤ 4611686018427387904) : Ev (fun k => perigeeref8_has.f k l v) (decide (v ∈ l), ()) := by
 have h := Ev.rng (σ := Unit) ([] : S) l hl (g := fun k _ i => perigeeref8_has.c0 k l v i) (fun k _ i => perigeeref8_has.c0_eq _ _ _ _)
  (fun _ _ => True) (fun xs i _ => (decide (v ∈ xs), ())) (fun _ _ => Ev.is (by simp)) (fun i x xs _ hi hx hd hget hw _ next => by
   simp only [Int.toNat_natCast, hget, hw, decide_eq_true_eq]
   refine Ev.split (fun h => Ev.is (by simp [h])) (fun h => ?_)
   rw [show decide (v ∈ x :: xs) = decide (v ∈ xs) from decide_eq_decide.2 (by simp [Ne.symm h])]
   exact next () trivial) 0 () (by omega) trivial
 exact Ev.eq (fun k => perigeeref8_has.f_eq _ _ _) h
theorem rrule_ev (w : DWatch) (v : S) (hl : w.2.2.2.length ≤ 4611686018427387904) : ∃ r : Int × Unit, Ev (fun k => perigeeref8_ruleOf.f k w v) r ∧ (r.1 < 0 ↔ ∀ x ∈ w.2.2.2, x.1 ≠ v) := by
 have := Ev.rngR (σ := Unit) (Ty.dflt YWatchRule) w.2.2.2 hl (g := fun k _ i => perigeeref8_ruleOf.c0 k v w.1 w.2.1 w.2.2.1 w.2.2.2 i) (fun k _ i => perigeeref8_ruleOf.c0_eq _ _ _ _ _ _ _)
  (fun i _ => ∀ x ∈ w.2.2.2.take i, x.1 ≠ v) (fun r => r.1 < 0 ↔ ∀ x ∈ w.2.2.2, x.1 ≠ v) (fun _ hs => ⟨(-1, ()), Ev.now _, by rw [List.take_length] at hs; exact ⟨fun _ => hs, fun _ => by simp⟩⟩) (fun i x _ hi hc hget hgd hw hs next => ?_) 0 () (by omega) (fun x hx => by simp at hx)
 ·obtain ⟨r, r1, r2⟩ := this
  exact ⟨r, Ev.eq (fun k => perigeeref8_ruleOf.f_eq _ _ _) r1, r2⟩
 ·simp only [Int.toNat_natCast, hgd, hw]
  by_cases h : x.1 = v
  ·exact ⟨((i : Int), ()), Ev.yes (decide_eq_true h) (Ev.now _), ⟨fun h => by have h : (i : Int) < 0 := h; omega, fun hh => absurd h (hh x hc)⟩⟩
  ·obtain ⟨r, r1, r2⟩ := next () (fun y hy => by
    rw [List.take_add_one, hget] at hy
    rcases List.mem_append.1 hy with hy | hy
    ·exact hs y hy
    ·simp at hy; subst hy; exact h)
   exact ⟨r, Ev.no (fun e => h (of_decide_eq_true e)) r1, r2⟩

def Chk (g h rest : Nat → Option (Int × Unit)) : Prop := ∃ c : Int, Ev g (c, ()) ∧ ((c ≠ 0 ∧ Ev h (c, ())) ∨ (c = 0 ∧ ∀ r, Ev rest r → Ev h r))
section
variable {g g' h h' rest : Nat → Option (Int × Unit)}
theorem Chk.l (k : ∀ r, Ev g' r → Ev g r) (c : Chk g' h rest) : Chk g h rest := let ⟨c, c1, c2⟩ := c; ⟨c, k _ c1, c2⟩
theorem Chk.r (k : ∀ r, Ev h' r → Ev h r) (c : Chk g h' rest) : Chk g h rest := let ⟨c, c1, c2⟩ := c; ⟨c, c1, c2.imp (fun ⟨a, b⟩ => ⟨a, k _ b⟩) (fun ⟨a, b⟩ => ⟨a, fun r e => k _ (b r e)⟩)⟩
theorem Chk.bad {c : Int} (h0 : c ≠ 0) (e1 : Ev g (c, ())) (e2 : Ev h (c, ())) : Chk g h rest := ⟨c, e1, .inl ⟨h0, e2⟩⟩
theorem Chk.ok (e1 : Ev g (0, ())) (e2 : ∀ r, Ev rest r → Ev h r) : Chk g h rest := ⟨0, e1, .inr ⟨rfl, e2⟩⟩
theorem Chk.loop {g h : Nat → Int → Option (Int × Unit)} (n : Nat) (step : ∀ i : Nat, i < n → Chk (fun k => g k ((i : Int) + 1)) (fun k => h k ((i : Int) + 1)) rest → Chk (fun k => g k i) (fun k => h k i) rest)
 (fin : Chk (fun k => g k n) (fun k => h k n) rest) : Chk (fun k => g k 0) (fun k => h k 0) rest := by
 have loop : ∀ (d i : Nat), i + d = n → Chk (fun k => g k i) (fun k => h k i) rest := by
  intro d
  induction d with
  | zero =>
   intro i hi
   obtain rfl : i = n := by omega
   exact fin
  | succ d ih =>
   intro i hi
   have := ih (i + 1) (by omega)
   rw [show ((i + 1 : Nat) : Int) = (i : Int) + 1 by omega] at this
   exact step i (by omega) this
 exact loop n 0 (by omega)
end
end Go.Proofs.Ytadhpgecilhgnaa.Pure

-- YtadhpgecilhgnaaQ8
set_option linter.unusedVariables false
set_option linter.unusedSimpArgs false
namespace Go.Proofs.Ytadhpgecilhgnaa.Pure
open Go Go.Proofs.Ytadhpgecilhgnaa.A

theorem wpred {i : Nat} (h : i ≠ 0) (hi : i < 4611686018427387904) : IntKind.wrap .i64 ((i : Int) - 1) = ((i - 1 : Nat) : Int) := by rw [w64 (by omega) (by omega)]; omega
theorem modes_chk (w : DWatch) (h0 : okT YWatch w) (ml : w.1.length ≤ 50) {g h rest : Nat → Option (Int × Unit)}
 (hg : Chk g h rest)
 (eg : ∀ k, monitor_checkModes.c0 (k + 1) w.1 w.2.1 w.2.2.1 w.2.2.2 w.1 (w.1.length : Int) (w.1.length : Int) = g k) (eh : ∀ k, perigeeref8_CheckWatch.c0 (k + 1) w.1 w.2.1 w.2.2.1 w.2.2.2 (w.1.length : Int) = h k) :
 Chk (fun k => monitor_checkModes.c0 k w.1 w.2.1 w.2.2.1 w.2.2.2 w.1 (w.1.length : Int) 0) (fun k => perigeeref8_CheckWatch.c0 k w.1 w.2.1 w.2.2.1 w.2.2.2 0) rest := by
 refine Chk.loop (g := fun k i => monitor_checkModes.c0 k w.1 w.2.1 w.2.2.1 w.2.2.2 w.1 (w.1.length : Int) i) (h := fun k i => perigeeref8_CheckWatch.c0 k w.1 w.2.1 w.2.2.1 w.2.2.2 i) w.1.length (fun i hi next => ?_) (Chk.l (fun r e => Ev.step eg e) (Chk.r (fun r e => Ev.step eh e) hg))
 have hx := h0.1.2.2 _ (getD_mem (z := []) hi)
 have hw : IntKind.wrap .i64 ((i : Int) + 1) = (i : Int) + 1 := w64 (by omega) (by omega)
 generalize hcc : w.1.getD i [] = x at hx
 obtain ⟨n1, _⟩ := name_ev _ hx
 have n2 := rname_ev _ hx
 by_cases a1 : isNm x = true
 case neg =>
  refine Chk.bad (c := 5) (by omega) (Ev.step (fun k => monitor_checkModes.c0_eq _ _ _ _ _ _ _ _) ?_) (Ev.step (fun k => perigeeref8_CheckWatch.c0_eq _ _ _ _ _ _) ?_)
  ·simp only [Int.toNat_natCast, hcc]
   exact Ev.yes (by simp; omega) (Ev.yes (by omega) (Ev.bind n1 (Ev.yes (by simpa using a1) (Ev.now _))))
  ·simp only [Int.toNat_natCast, hcc]
   exact Ev.yes (by simp; omega) (Ev.yes (by omega) (Ev.bind n2 (Ev.yes (by simpa using a1) (Ev.now _))))
 by_cases i0 : i = 0
 ·subst i0
  refine Chk.l (fun r e => Ev.step (fun k => monitor_checkModes.c0_eq _ _ _ _ _ _ _ _) ?_) (Chk.r (fun r e => Ev.step (fun k => perigeeref8_CheckWatch.c0_eq _ _ _ _ _ _) ?_) next)
  ·simp only [Int.toNat_natCast, hcc, hw]
   exact Ev.yes (by simp; omega) (Ev.yes (by omega) (Ev.bind n1 (Ev.no (by simp [a1]) (Ev.no (by simp) e))))
  ·simp only [Int.toNat_natCast, hcc, hw]
   exact Ev.yes (by simp; omega) (Ev.yes (by omega) (Ev.bind n2 (Ev.no (by simp [a1]) (Ev.no (by simp) e))))
 have hp := wpred i0 (by omega)
 by_cases l1 : lessS (w.1.getD (i - 1) []) x = true
 ·refine Chk.l (fun r e => Ev.step (fun k => monitor_checkModes.c0_eq _ _ _ _ _ _ _ _) ?_) (Chk.r (fun r e => Ev.step (fun k => perigeeref8_CheckWatch.c0_eq _ _ _ _ _ _) ?_) next)
  ·simp only [hw, hp, Int.toNat_natCast, hcc]
   exact Ev.yes (by simp; omega) (Ev.yes (by omega) (Ev.bind n1 (Ev.no (by simp [a1]) (Ev.yes (by simp; omega) (Ev.yes (by omega) (Ev.no (fun h => by rw [l1] at h; cases h) e))))))
  ·simp only [hw, hp, Int.toNat_natCast, hcc]
   exact Ev.yes (by simp; omega) (Ev.yes (by omega) (Ev.bind n2 (Ev.no (by simp [a1]) (Ev.yes (by simp; omega) (Ev.yes (by omega) (Ev.yes (by omega) (Ev.no (fun h => by rw [l1] at h; cases h) e)))))))
 ·refine Chk.bad (c := 8) (by omega) (Ev.step (fun k => monitor_checkModes.c0_eq _ _ _ _ _ _ _ _) ?_) (Ev.step (fun k => perigeeref8_CheckWatch.c0_eq _ _ _ _ _ _) ?_)
  ·simp only [hp, Int.toNat_natCast, hcc]
   exact Ev.yes (by simp; omega) (Ev.yes (by omega) (Ev.bind n1 (Ev.no (by simp [a1]) (Ev.yes (by simp; omega) (Ev.yes (by omega) (Ev.yes (by simpa using l1) (Ev.now _)))))))
  ·simp only [hp, Int.toNat_natCast, hcc]
   exact Ev.yes (by simp; omega) (Ev.yes (by omega) (Ev.bind n2 (Ev.no (by simp [a1]) (Ev.yes (by simp; omega) (Ev.yes (by omega) (Ev.yes (by omega) (Ev.yes (by simpa using l1) (Ev.now _))))))))
theorem changes_chk (w : DWatch) (h0 : okT YWatch w) (ml : w.1.length ≤ 50) (cl : w.2.1.length ≤ 500) {g h rest : Nat → Option (Int × Unit)}
 (hg : Chk g h rest)
 (eg : ∀ k, monitor_checkModes.c1 (k + 1) w.1 w.2.1 w.2.2.1 w.2.2.2 w.2.1 (w.2.1.length : Int) (w.2.1.length : Int) = g k) (eh : ∀ k, perigeeref8_CheckWatch.c1 (k + 1) w.1 w.2.1 w.2.2.1 w.2.2.2 (w.2.1.length : Int) = h k) :
 Chk (fun k => monitor_checkModes.c1 k w.1 w.2.1 w.2.2.1 w.2.2.2 w.2.1 (w.2.1.length : Int) 0) (fun k => perigeeref8_CheckWatch.c1 k w.1 w.2.1 w.2.2.1 w.2.2.2 0) rest := by
 refine Chk.loop (g := fun k i => monitor_checkModes.c1 k w.1 w.2.1 w.2.2.1 w.2.2.2 w.2.1 (w.2.1.length : Int) i) (h := fun k i => perigeeref8_CheckWatch.c1 k w.1 w.2.1 w.2.2.1 w.2.2.2 i) w.2.1.length (fun i hi next => ?_) (Chk.l (fun r e => Ev.step eg e) (Chk.r (fun r e => Ev.step eh e) hg))
 have hc := h0.2.1.2.2 _ (getD_mem (z := Ty.dflt YModeChange) hi)
 have hw : IntKind.wrap .i64 ((i : Int) + 1) = (i : Int) + 1 := w64 (by omega) (by omega)
 -- the reference's one change
 have rc : ∀ {c : Int}, Ev (fun k => perigeeref8_checkChange.f k w (i : Int)) (c, ()) → c ≠ 0 → Ev (fun k => perigeeref8_CheckWatch.c1 k w.1 w.2.1 w.2.2.1 w.2.2.2 (i : Int)) (c, ()) := fun {c} e hc => by
  refine Ev.step (fun k => perigeeref8_CheckWatch.c1_eq _ _ _ _ _ _) ?_
  exact Ev.yes (by simp; omega) (Ev.bind e (Ev.yes (by simpa using hc) (Ev.now _)))
 have rok : Ev (fun k => perigeeref8_checkChange.f k w (i : Int)) (0, ()) → ∀ r, Ev (fun k => perigeeref8_CheckWatch.c1 k w.1 w.2.1 w.2.2.1 w.2.2.2 ((i : Int) + 1)) r → Ev (fun k => perigeeref8_CheckWatch.c1 k w.1 w.2.1 w.2.2.1 w.2.2.2 (i : Int)) r := fun e r hr => by
  refine Ev.step (fun k => perigeeref8_CheckWatch.c1_eq _ _ _ _ _ _) ?_
  rw [hw]
  exact Ev.yes (by simp; omega) (Ev.bind e (Ev.no (by simp) hr))
 generalize hcc : w.2.1.getD i (Ty.dflt YModeChange) = c at hc
 obtain ⟨n1, _⟩ := name_ev c.2.1 hc.2.1
 have n2 := rname_ev c.2.1 hc.2.1
 have c1 := contains_ev w.1 c.1 (by omega)
 have c2 := contains_ev w.1 c.2.2 (by omega)
 have d1 := rhas_ev w.1 c.1 (by omega)
 have d2 := rhas_ev w.1 c.2.2 (by omega)
 by_cases a1 : c.1 ∈ w.1
 case neg =>
  refine Chk.bad (c := 9) (by omega) (Ev.step (fun k => monitor_checkModes.c1_eq _ _ _ _ _ _ _ _) ?_) (rc (Ev.eq (fun k => perigeeref8_checkChange.f_eq _ _ _) ?_) (by omega))
  ·simp only [Int.toNat_natCast, hcc]
   exact Ev.yes (by simp; omega) (Ev.yes (by omega) (Ev.bind c1 (Ev.yes (by simp [a1]) (Ev.now _))))
  ·simp only [Int.toNat_natCast, hcc]
   exact Ev.yes (by omega) (Ev.bind d1 (Ev.yes (by simp [a1]) (Ev.now _)))
 by_cases a2 : c.2.2 ∈ w.1
 case neg =>
  refine Chk.bad (c := 9) (by omega) (Ev.step (fun k => monitor_checkModes.c1_eq _ _ _ _ _ _ _ _) ?_) (rc (Ev.eq (fun k => perigeeref8_checkChange.f_eq _ _ _) ?_) (by omega))
  ·simp only [Int.toNat_natCast, hcc]
   exact Ev.yes (by simp; omega) (Ev.yes (by omega) (Ev.bind c1 (Ev.no (by simp [a1]) (Ev.bind c2 (Ev.yes (by simp [a2]) (Ev.now _))))))
  ·simp only [Int.toNat_natCast, hcc]
   exact Ev.yes (by omega) (Ev.bind d1 (Ev.no (by simp [a1]) (Ev.bind d2 (Ev.yes (by simp [a2]) (Ev.now _)))))
 have gl : ∀ r, Ev (fun k => monitor_checkModes.c2 k w.1 w.2.1 w.2.2.1 w.2.2.2 (i : Int) c.1 c.2.1 c.2.2 w.2.1 (w.2.1.length : Int) (i : Int)) r → Ev (fun k => monitor_checkModes.c1 k w.1 w.2.1 w.2.2.1 w.2.2.2 w.2.1 (w.2.1.length : Int) (i : Int)) r := fun r e => by
  refine Ev.step (fun k => monitor_checkModes.c1_eq _ _ _ _ _ _ _ _) ?_
  simp only [Int.toNat_natCast, hcc]
  exact Ev.yes (by simp; omega) (Ev.yes (by omega) (Ev.bind c1 (Ev.no (by simp [a1]) (Ev.bind c2 (Ev.no (by simp [a2]) e)))))
 have gr : ∀ r, Ev (fun k => perigeeref8_checkChange.c0 k (i : Int) w.1 w.2.1 w.2.2.1 w.2.2.2 c.1 c.2.1 c.2.2) r → Ev (fun k => perigeeref8_checkChange.f k w (i : Int)) r := fun r e => by
  refine Ev.eq (fun k => perigeeref8_checkChange.f_eq _ _ _) ?_
  simp only [Int.toNat_natCast, hcc]
  exact Ev.yes (by omega) (Ev.bind d1 (Ev.no (by simp [a1]) (Ev.bind d2 (Ev.no (by simp [a2]) e))))
 by_cases a3 : isNm c.2.1 = true
 case neg =>
  refine Chk.bad (c := 5) (by omega) (gl _ (Ev.step (fun k => monitor_checkModes.c2_eq _ _ _ _ _ _ _ _ _ _ _ _) ?_)) (rc (gr _ (Ev.step (fun k => perigeeref8_checkChange.c0_eq _ _ _ _ _ _ _ _ _) ?_)) (by omega))
  ·exact Ev.bind n1 (Ev.yes (by simpa using a3) (Ev.now _))
  ·exact Ev.bind n2 (Ev.yes (by simpa using a3) (Ev.now _))
 by_cases i0 : i = 0
 ·subst i0
  refine Chk.l (fun r e => gl _ (Ev.step (fun k => monitor_checkModes.c2_eq _ _ _ _ _ _ _ _ _ _ _ _) ?_)) (Chk.r (rok (gr _ (Ev.step (fun k => perigeeref8_checkChange.c0_eq _ _ _ _ _ _ _ _ _) ?_))) next)
  ·rw [hw]
   exact Ev.bind n1 (Ev.no (by simp [a3]) (Ev.no (by simp) e))
  ·exact Ev.bind n2 (Ev.no (by simp [a3]) (Ev.no (by simp) (Ev.now _)))
 have hp := wpred i0 (by omega)
 have gl2 : ∀ r, Ev (fun k => if (lessS c.1 (w.2.1.getD (i - 1) (Ty.dflt YModeChange)).1) = true then some (8, ()) else if (decide (c.1 = (w.2.1.getD (i - 1) (Ty.dflt YModeChange)).1)) = true then (if (!(lessS (w.2.1.getD (i - 1) (Ty.dflt YModeChange)).2.1 c.2.1)) = true then some (8, ()) else monitor_checkModes.c1 k w.1 w.2.1 w.2.2.1 w.2.2.2 w.2.1 (w.2.1.length : Int) ((i : Int) + 1)) else monitor_checkModes.c1 k w.1 w.2.1 w.2.2.1 w.2.2.2 w.2.1 (w.2.1.length : Int) ((i : Int) + 1)) r → Ev (fun k => monitor_checkModes.c1 k w.1 w.2.1 w.2.2.1 w.2.2.2 w.2.1 (w.2.1.length : Int) (i : Int)) r := fun r e => by
  refine gl _ (Ev.step (fun k => monitor_checkModes.c2_eq _ _ _ _ _ _ _ _ _ _ _ _) ?_)
  refine Ev.bind n1 (Ev.no (by simp [a3]) (Ev.yes (by simp; omega) ?_))
  simp only [hp, hw, Int.toNat_natCast]
  exact Ev.yes (by omega) e
 have gr2 : ∀ r, Ev (fun k => if (lessS c.1 (w.2.1.getD (i - 1) (Ty.dflt YModeChange)).1) = true then some (8, ()) else if (decide (c.1 = (w.2.1.getD (i - 1) (Ty.dflt YModeChange)).1)) = true then (if (!(lessS (w.2.1.getD (i - 1) (Ty.dflt YModeChange)).2.1 c.2.1)) = true then some (8, ()) else some (0, ())) else some (0, ())) r → Ev (fun k => perigeeref8_checkChange.f k w (i : Int)) r := fun r e => by
  refine gr _ (Ev.step (fun k => perigeeref8_checkChange.c0_eq _ _ _ _ _ _ _ _ _) ?_)
  refine Ev.bind n2 (Ev.no (by simp [a3]) (Ev.yes (by simp; omega) ?_))
  simp only [hp, hw, Int.toNat_natCast]
  exact Ev.yes (by omega) e
 by_cases l1 : lessS c.1 (w.2.1.getD (i - 1) (Ty.dflt YModeChange)).1 = true
 ·exact Chk.bad (c := 8) (by omega) (gl2 _ (Ev.yes l1 (Ev.now _))) (rc (gr2 _ (Ev.yes l1 (Ev.now _))) (by omega))
 by_cases l2 : c.1 = (w.2.1.getD (i - 1) (Ty.dflt YModeChange)).1
 ·by_cases l3 : lessS (w.2.1.getD (i - 1) (Ty.dflt YModeChange)).2.1 c.2.1 = true
  ·exact Chk.l (fun r e => gl2 _ (Ev.no l1 (Ev.yes (decide_eq_true l2) (Ev.no (fun h => by rw [l3] at h; cases h) e)))) (Chk.r (rok (gr2 _ (Ev.no l1 (Ev.yes (decide_eq_true l2) (Ev.no (fun h => by rw [l3] at h; cases h) (Ev.now _)))))) next)
  ·exact Chk.bad (c := 8) (by omega) (gl2 _ (Ev.no l1 (Ev.yes (decide_eq_true l2) (Ev.yes (by simpa using l3) (Ev.now _))))) (rc (gr2 _ (Ev.no l1 (Ev.yes (decide_eq_true l2) (Ev.yes (by simpa using l3) (Ev.now _))))) (by omega))
 ·exact Chk.l (fun r e => gl2 _ (Ev.no l1 (Ev.no (fun h => l2 (of_decide_eq_true h)) e))) (Chk.r (rok (gr2 _ (Ev.no l1 (Ev.no (fun h => l2 (of_decide_eq_true h)) (Ev.now _))))) next)
end Go.Proofs.Ytadhpgecilhgnaa.Pure

-- YtadhpgecilhgnaaQ9
set_option linter.unusedVariables false
set_option linter.unusedSimpArgs false
namespace Go.Proofs.Ytadhpgecilhgnaa.Pure
open Go Go.Proofs.Ytadhpgecilhgnaa.A

theorem Chk.loopS {σ : Type} {rest : Nat → Option (Int × Unit)} {g : Nat → σ → Int → Option (Int × Unit)} {h : Nat → Int → Option (Int × Unit)} (n : Nat) (Inv : Nat → σ → Prop)
 (step : ∀ (i : Nat) (s : σ), i < n → Inv i s → (∀ s', Inv (i + 1) s' → Chk (fun k => g k s' ((i : Int) + 1)) (fun k => h k ((i : Int) + 1)) rest) → Chk (fun k => g k s i) (fun k => h k i) rest)
 (fin : ∀ s, Inv n s → Chk (fun k => g k s n) (fun k => h k n) rest) (s : σ) (h0 : Inv 0 s) : Chk (fun k => g k s 0) (fun k => h k 0) rest := by
 have loop : ∀ (d i : Nat) (s : σ), i + d = n → Inv i s → Chk (fun k => g k s i) (fun k => h k i) rest := by
  intro d
  induction d with
  | zero =>
   intro i s hi hs
   obtain rfl : i = n := by omega
   exact fin s hs
  | succ d ih =>
   intro i s hi hs
   refine step i s (by omega) hs fun s' hs' => ?_
   have := ih (i + 1) s' (by omega) hs'
   rw [show ((i + 1 : Nat) : Int) = (i : Int) + 1 by omega] at this
   exact this
 exact loop n 0 s (by omega) h0
theorem rwithin (k : Nat) (n a b : Int) : perigeeref8_within.f k n a b = some (decide (a ≤ n ∧ n ≤ b), ()) := by
 rw [perigeeref8_within.f_eq]
 by_cases h1 : a ≤ n <;> simp [h1]
noncomputable def ordR (w : DWatch) (i : Nat) : Int := if 0 < i ∧ lessS (w.2.2.2.getD (i - 1) (Ty.dflt YWatchRule)).1 (w.2.2.2.getD i (Ty.dflt YWatchRule)).1 = false then 8 else 0
theorem rule_chk (w : DWatch) (ml : w.1.length ≤ 50) (rl : w.2.2.2.length ≤ 200) {i : Nat} (hi : i < w.2.2.2.length) (hx : okT YWatchRule (w.2.2.2.getD i (Ty.dflt YWatchRule))) :
 Chk (fun k => monitor_checkRule.f k w (w.2.2.2.getD i (Ty.dflt YWatchRule))) (fun k => perigeeref8_checkRule.f k w (i : Int)) (fun _ => some (ordR w i, ())) := by
 unfold ordR
 generalize hxx : w.2.2.2.getD i (Ty.dflt YWatchRule) = x at hx
 have gr : ∀ r, Ev (fun k => (perigeeref8_IsName.f k x.1).bind fun r1 => if (!r1.1) = true then some (5, ()) else (perigeeref8_IsName.f k x.2.1).bind fun r2 => if (!r2.1) = true then some (5, ()) else perigeeref8_checkRule.c0 k (i : Int) w.1 w.2.1 w.2.2.1 w.2.2.2 x.1 x.2.1 x.2.2.1 x.2.2.2.1 x.2.2.2.2) r → Ev (fun k => perigeeref8_checkRule.f k w (i : Int)) r := fun r e => by
  refine Ev.eq (fun k => perigeeref8_checkRule.f_eq _ _ _) ?_
  simp only [Int.toNat_natCast, hxx]
  exact Ev.yes (by omega) e
 refine Chk.l (fun r e => Ev.eq (fun k => monitor_checkRule.f_eq _ _ _) e) (Chk.r gr ?_)
 obtain ⟨n1, _⟩ := name_ev x.1 hx.1
 obtain ⟨n2, _⟩ := name_ev x.2.1 hx.2.1
 have m1 := rname_ev x.1 hx.1
 have m2 := rname_ev x.2.1 hx.2.1
 by_cases a1 : isNm x.1 = true
 case neg => exact Chk.bad (c := 5) (by omega) (Ev.bind n1 (Ev.yes (by simpa using a1) (Ev.now _))) (Ev.bind m1 (Ev.yes (by simpa using a1) (Ev.now _)))
 by_cases a2 : isNm x.2.1 = true
 case neg => exact Chk.bad (c := 5) (by omega) (Ev.bind n1 (Ev.no (by simp [a1]) (Ev.bind n2 (Ev.yes (by simpa using a2) (Ev.now _))))) (Ev.bind m1 (Ev.no (by simp [a1]) (Ev.bind m2 (Ev.yes (by simpa using a2) (Ev.now _)))))
 refine Chk.l (fun r e => Ev.bind n1 (Ev.no (by simp [a1]) (Ev.bind n2 (Ev.no (by simp [a2]) e)))) (Chk.r (fun r e => Ev.bind m1 (Ev.no (by simp [a1]) (Ev.bind m2 (Ev.no (by simp [a2]) e)))) ?_)
 suffices tail : Chk (fun k => monitor_checkRule.c1 k x.1 x.2.1 x.2.2.1 x.2.2.2.1 x.2.2.2.2) (fun k => perigeeref8_checkRule.c1 k (i : Int) w.1 w.2.1 w.2.2.1 w.2.2.2 x.1 x.2.1 x.2.2.1 x.2.2.2.1 x.2.2.2.2) (fun _ => some (if 0 < i ∧ lessS (w.2.2.2.getD (i - 1) (Ty.dflt YWatchRule)).1 x.1 = false then 8 else 0, ())) by
  refine Chk.l (fun r e => Ev.step (fun k => monitor_checkRule.c0_eq _ _ _ _ _ _ _ _ _ _) e) (Chk.r (fun r e => Ev.step (fun k => perigeeref8_checkRule.c0_eq _ _ _ _ _ _ _ _ _ _ _) e) ?_)
  by_cases a3 : x.2.2.1 = []
  ·exact Chk.l (fun r e => Ev.no (by simp [a3]) e) (Chk.r (fun r e => Ev.no (by simp [a3]) e) tail)
  by_cases a4 : x.2.2.1 ∈ w.1
  ·exact Chk.l (fun r e => Ev.yes (by simpa using a3) (Ev.bind (contains_ev _ _ (by omega)) (Ev.no (by simp [a4]) e))) (Chk.r (fun r e => Ev.yes (by simpa using a3) (Ev.bind (rhas_ev _ _ (by omega)) (Ev.no (by simp [a4]) e))) tail)
  ·exact Chk.bad (c := 9) (by omega) (Ev.yes (by simpa using a3) (Ev.bind (contains_ev _ _ (by omega)) (Ev.yes (by simp [a4]) (Ev.now _)))) (Ev.yes (by simpa using a3) (Ev.bind (rhas_ev _ _ (by omega)) (Ev.yes (by simp [a4]) (Ev.now _))))
 refine Chk.l (fun r e => Ev.step (fun k => monitor_checkRule.c1_eq _ _ _ _ _ _) e) (Chk.r (fun r e => Ev.step (fun k => perigeeref8_checkRule.c1_eq _ _ _ _ _ _ _ _ _ _ _) e) ?_)
 by_cases al : 10 < x.2.2.2.2.length
 ·exact Chk.bad (c := 2) (by omega) (Ev.yes (decide_eq_true (by omega)) (Ev.now _)) (Ev.yes (decide_eq_true (by omega)) (Ev.now _))
 refine Chk.l (fun r e => Ev.no (fun h => al (by have := of_decide_eq_true h; omega)) e) (Chk.r (fun r e => Ev.no (fun h => al (by have := of_decide_eq_true h; omega)) e) ?_)
 refine Chk.loop (g := fun k j => monitor_checkRule.c2 k x.2.2.2.2 (x.2.2.2.2.length : Int) j) (h := fun k j => perigeeref8_checkRule.c2 k (i : Int) w.1 w.2.1 w.2.2.1 w.2.2.2 x.1 x.2.1 x.2.2.1 x.2.2.2.1 x.2.2.2.2 j) x.2.2.2.2.length (fun j hj next => ?_) ?_
 ·have hy := hx.2.2.2.2.2.2 _ (getD_mem (z := Ty.dflt YAct) hj)
  have hw : IntKind.wrap .i64 ((j : Int) + 1) = (j : Int) + 1 := w64 (by omega) (by omega)
  generalize hyy : x.2.2.2.2.getD j (Ty.dflt YAct) = y at hy
  have gl : ∀ r, Ev (fun k => if (!decide (1 ≤ y.1 ∧ y.1 ≤ 4)) = true then some (4, ()) else (monitor_IsName.f k y.2.1).bind fun r5 => if (!r5.1) = true then some (5, ()) else if y.2.2 = true then (if (!(decide (y.1 = 4))) = true then some (3, ()) else monitor_checkRule.c2 k x.2.2.2.2 (x.2.2.2.2.length : Int) ((j : Int) + 1)) else monitor_checkRule.c2 k x.2.2.2.2 (x.2.2.2.2.length : Int) ((j : Int) + 1)) r → Ev (fun k => monitor_checkRule.c2 k x.2.2.2.2 (x.2.2.2.2.length : Int) (j : Int)) r := fun r e => by
   refine Ev.step (fun k => monitor_checkRule.c2_eq _ _ _ _) ?_
   simp only [Int.toNat_natCast, hyy, hw, in_ev, Option.bind_some]
   exact Ev.yes (by simp; omega) (Ev.yes (by omega) e)
  have gr : ∀ r, Ev (fun k => if (!decide (1 ≤ y.1 ∧ y.1 ≤ 4)) = true then some (4, ()) else (perigeeref8_IsName.f k y.2.1).bind fun r5 => if (!r5.1) = true then some (5, ()) else if y.2.2 = true then (if (!(decide (y.1 = 4))) = true then some (3, ()) else perigeeref8_checkRule.c2 k (i : Int) w.1 w.2.1 w.2.2.1 w.2.2.2 x.1 x.2.1 x.2.2.1 x.2.2.2.1 x.2.2.2.2 ((j : Int) + 1)) else perigeeref8_checkRule.c2 k (i : Int) w.1 w.2.1 w.2.2.1 w.2.2.2 x.1 x.2.1 x.2.2.1 x.2.2.2.1 x.2.2.2.2 ((j : Int) + 1)) r → Ev (fun k => perigeeref8_checkRule.c2 k (i : Int) w.1 w.2.1 w.2.2.1 w.2.2.2 x.1 x.2.1 x.2.2.1 x.2.2.2.1 x.2.2.2.2 (j : Int)) r := fun r e => by
   refine Ev.step (fun k => perigeeref8_checkRule.c2_eq _ _ _ _ _ _ _ _ _ _ _ _) ?_
   simp only [Int.toNat_natCast, hyy, hw, rwithin, Option.bind_some]
   exact Ev.yes (by simp; omega) (Ev.yes (by omega) e)
  refine Chk.l gl (Chk.r gr ?_)
  obtain ⟨n3, _⟩ := name_ev y.2.1 hy.2.1
  have m3 := rname_ev y.2.1 hy.2.1
  by_cases k1 : (1 ≤ y.1 ∧ y.1 ≤ 4)
  case neg => exact Chk.bad (c := 4) (by omega) (Ev.yes (by rw [decide_eq_false k1]; rfl) (Ev.now _)) (Ev.yes (by rw [decide_eq_false k1]; rfl) (Ev.now _))
  refine Chk.l (fun r e => Ev.no (by rw [decide_eq_true k1]; simp) e) (Chk.r (fun r e => Ev.no (by rw [decide_eq_true k1]; simp) e) ?_)
  by_cases k2 : isNm y.2.1 = true
  case neg => exact Chk.bad (c := 5) (by omega) (Ev.bind n3 (Ev.yes (by simpa using k2) (Ev.now _))) (Ev.bind m3 (Ev.yes (by simpa using k2) (Ev.now _)))
  refine Chk.l (fun r e => Ev.bind n3 (Ev.no (by simp [k2]) e)) (Chk.r (fun r e => Ev.bind m3 (Ev.no (by simp [k2]) e)) ?_)
  by_cases k3 : y.2.2 = true
  case neg => exact Chk.l (fun r e => Ev.no k3 e) (Chk.r (fun r e => Ev.no k3 e) next)
  refine Chk.l (fun r e => Ev.yes k3 e) (Chk.r (fun r e => Ev.yes k3 e) ?_)
  by_cases k4 : y.1 = 4
  ·exact Chk.l (fun r e => Ev.no (by simp [k4]) e) (Chk.r (fun r e => Ev.no (by simp [k4]) e) next)
  ·exact Chk.bad (c := 3) (by omega) (Ev.yes (by simpa using k4) (Ev.now _)) (Ev.yes (by simpa using k4) (Ev.now _))
 ·refine Chk.ok (Ev.step (fun k => monitor_checkRule.c2_eq _ _ _ _) (Ev.no (by simp) (Ev.now _))) fun r e => Ev.step (fun k => perigeeref8_checkRule.c2_eq _ _ _ _ _ _ _ _ _ _ _ _) (Ev.no (by simp) ?_)
  by_cases i0 : i = 0
  ·subst i0
   exact Ev.no (by simp) (by simpa using e)
  ·simp only [wpred i0 (by omega), Int.toNat_natCast]
   by_cases l1 : lessS (w.2.2.2.getD (i - 1) (Ty.dflt YWatchRule)).1 x.1 = true
   ·refine Ev.yes (by simp; omega) (Ev.yes (by omega) (Ev.no (fun h => by rw [l1] at h; cases h) ?_))
    rw [if_neg (fun h => by rw [l1] at h; exact absurd h.2 (by simp))] at e
    exact e
   ·have l1 : lessS (w.2.2.2.getD (i - 1) (Ty.dflt YWatchRule)).1 x.1 = false := by rw [← Bool.not_eq_true]; exact l1
    refine Ev.yes (by simp; omega) (Ev.yes (by omega) (Ev.yes (by rw [l1]; rfl) ?_))
    rw [if_pos ⟨by omega, l1⟩] at e
    exact e
theorem acts_chk (w : DWatch) (rl : w.2.2.2.length ≤ 200) (h0 : okT YWatch w) (m : List (S × Bool)) (hm : ∀ v : S, (lk m v).getD false = true ↔ ∃ x ∈ w.2.2.2, x.1 = v) :
 Chk (fun k => monitor_CheckWatch.c1 k m w.2.2.2 (w.2.2.2.length : Int) 0) (fun k => perigeeref8_CheckWatch.c3 k w.1 w.2.1 w.2.2.1 w.2.2.2 0) (fun _ => some (0, ())) := by
 refine Chk.loop (g := fun k i => monitor_CheckWatch.c1 k m w.2.2.2 (w.2.2.2.length : Int) i) (h := fun k i => perigeeref8_CheckWatch.c3 k w.1 w.2.1 w.2.2.1 w.2.2.2 i) w.2.2.2.length (fun i hi next => ?_) ?_
 ·have hx := h0.2.2.2.2.2 _ (getD_mem (z := Ty.dflt YWatchRule) hi)
  have hw : IntKind.wrap .i64 ((i : Int) + 1) = (i : Int) + 1 := w64 (by omega) (by omega)
  generalize hxx : w.2.2.2.getD i (Ty.dflt YWatchRule) = x at hx
  have al := hx.2.2.2.2.1
  have gl : ∀ r, Ev (fun k => monitor_CheckWatch.c2 k m w.2.2.2 (w.2.2.2.length : Int) (i : Int) x.2.2.2.2 (x.2.2.2.2.length : Int) 0) r → Ev (fun k => monitor_CheckWatch.c1 k m w.2.2.2 (w.2.2.2.length : Int) (i : Int)) r := fun r e => by
   refine Ev.step (fun k => monitor_CheckWatch.c1_eq _ _ _ _ _) ?_
   simp only [Int.toNat_natCast, hxx]
   exact Ev.yes (by simp; omega) (Ev.yes (by omega) e)
  have gr : ∀ r, Ev (fun k => perigeeref8_CheckWatch.c4 k w.1 w.2.1 w.2.2.1 w.2.2.2 (i : Int) 0) r → Ev (fun k => perigeeref8_CheckWatch.c3 k w.1 w.2.1 w.2.2.1 w.2.2.2 (i : Int)) r := fun r e => by
   refine Ev.step (fun k => perigeeref8_CheckWatch.c3_eq _ _ _ _ _ _) ?_
   exact Ev.yes (by simp; omega) e
  refine Chk.l gl (Chk.r gr ?_)
  refine Chk.loop (g := fun k j => monitor_CheckWatch.c2 k m w.2.2.2 (w.2.2.2.length : Int) (i : Int) x.2.2.2.2 (x.2.2.2.2.length : Int) j) (h := fun k j => perigeeref8_CheckWatch.c4 k w.1 w.2.1 w.2.2.1 w.2.2.2 (i : Int) j) x.2.2.2.2.length (fun j hj nexty => ?_) ?_
  ·have hwj : IntKind.wrap .i64 ((j : Int) + 1) = (j : Int) + 1 := w64 (by omega) (by omega)
   obtain ⟨y, hyy⟩ : ∃ y, x.2.2.2.2.getD j (Ty.dflt YAct) = y := ⟨_, rfl⟩
   have gl : ∀ r, Ev (fun k => if (decide (y.1 = 2)) = true then (if (!(mapGet .str .bool y.2.1 m false)) = true then some (9, ()) else monitor_CheckWatch.c2 k m w.2.2.2 (w.2.2.2.length : Int) (i : Int) x.2.2.2.2 (x.2.2.2.2.length : Int) ((j : Int) + 1)) else if (decide (y.1 = 3)) = true then (if (!(mapGet .str .bool y.2.1 m false)) = true then some (9, ()) else monitor_CheckWatch.c2 k m w.2.2.2 (w.2.2.2.length : Int) (i : Int) x.2.2.2.2 (x.2.2.2.2.length : Int) ((j : Int) + 1)) else monitor_CheckWatch.c2 k m w.2.2.2 (w.2.2.2.length : Int) (i : Int) x.2.2.2.2 (x.2.2.2.2.length : Int) ((j : Int) + 1)) r → Ev (fun k => monitor_CheckWatch.c2 k m w.2.2.2 (w.2.2.2.length : Int) (i : Int) x.2.2.2.2 (x.2.2.2.2.length : Int) (j : Int)) r := fun r e => by
    refine Ev.step (fun k => monitor_CheckWatch.c2_eq _ _ _ _ _ _ _ _) ?_
    simp only [Int.toNat_natCast, hyy, hwj]
    exact Ev.yes (by simp; omega) (Ev.yes (by omega) e)
   obtain ⟨q, q1, q2⟩ := rrule_ev w y.2.1 (by omega)
   have gr : ∀ r, Ev (fun k => if (decide (y.1 = 2)) = true then (if (decide (q.1 < 0)) = true then some (9, ()) else perigeeref8_CheckWatch.c4 k w.1 w.2.1 w.2.2.1 w.2.2.2 (i : Int) ((j : Int) + 1)) else if (decide (y.1 = 3)) = true then (if (decide (q.1 < 0)) = true then some (9, ()) else perigeeref8_CheckWatch.c4 k w.1 w.2.1 w.2.2.1 w.2.2.2 (i : Int) ((j : Int) + 1)) else perigeeref8_CheckWatch.c4 k w.1 w.2.1 w.2.2.1 w.2.2.2 (i : Int) ((j : Int) + 1)) r → Ev (fun k => perigeeref8_CheckWatch.c4 k w.1 w.2.1 w.2.2.1 w.2.2.2 (i : Int) (j : Int)) r := fun r e => by
    refine Ev.step (fun k => perigeeref8_CheckWatch.c4_eq _ _ _ _ _ _ _) ?_
    simp only [Int.toNat_natCast, hxx, hyy, hwj]
    refine Ev.yes (by omega) (Ev.yes (by simp; omega) (Ev.yes (by omega) (Ev.yes (by omega) ?_)))
    by_cases k1 : y.1 = 2
    ·simp only [k1] at e ⊢
     exact Ev.yes (by simp) (Ev.bind q1 (by simpa using e))
    ·have d1 : decide (y.1 = 2) = false := decide_eq_false k1
     simp only [d1] at e ⊢
     refine Ev.no (by simp) ?_
     have e : Ev (fun k => if (decide (y.1 = 3)) = true then (if (decide (q.1 < 0)) = true then some (9, ()) else perigeeref8_CheckWatch.c4 k w.1 w.2.1 w.2.2.1 w.2.2.2 (i : Int) ((j : Int) + 1)) else perigeeref8_CheckWatch.c4 k w.1 w.2.1 w.2.2.1 w.2.2.2 (i : Int) ((j : Int) + 1)) r := by simpa using e
     by_cases k2 : y.1 = 3
     ·have d2 : decide (y.1 = 3) = true := decide_eq_true k2
      simp only [d2, if_true] at e ⊢
      exact Ev.bind q1 e
     ·have d2 : decide (y.1 = 3) = false := decide_eq_false k2
      simp only [d2] at e ⊢
      simpa using e
   have hq : (mapGet .str .bool y.2.1 m false = true) ↔ ¬ q.1 < 0 := by
    rw [get_lk (σ := .bool), hm, q2]
    constructor
    ·rintro ⟨x, hx, e⟩ h; exact h x hx e
    ·intro h
     apply Classical.byContradiction
     intro hn
     exact h fun x hx e => hn ⟨x, hx, e⟩
   refine Chk.l gl (Chk.r gr ?_)
   have tail : Chk (fun k => if (!(mapGet .str .bool y.2.1 m false)) = true then some (9, ()) else monitor_CheckWatch.c2 k m w.2.2.2 (w.2.2.2.length : Int) (i : Int) x.2.2.2.2 (x.2.2.2.2.length : Int) ((j : Int) + 1)) (fun k => if (decide (q.1 < 0)) = true then some (9, ()) else perigeeref8_CheckWatch.c4 k w.1 w.2.1 w.2.2.1 w.2.2.2 (i : Int) ((j : Int) + 1)) (fun _ => some (0, ())) := by
    by_cases h : q.1 < 0
    ·have : mapGet .str .bool y.2.1 m false = false := by rw [← Bool.not_eq_true, hq]; exact fun e => e h
     exact Chk.bad (c := 9) (by omega) (Ev.yes (by rw [this]; rfl) (Ev.now _)) (Ev.yes (decide_eq_true h) (Ev.now _))
    ·have : mapGet .str .bool y.2.1 m false = true := hq.2 h
     exact Chk.l (fun r e => Ev.no (by rw [this]; simp) e) (Chk.r (fun r e => Ev.no (fun e => h (of_decide_eq_true e)) e) nexty)
   by_cases k1 : y.1 = 2
   ·exact Chk.l (fun r e => Ev.yes (decide_eq_true k1) e) (Chk.r (fun r e => Ev.yes (decide_eq_true k1) e) tail)
   by_cases k2 : y.1 = 3
   ·exact Chk.l (fun r e => Ev.no (fun e => k1 (of_decide_eq_true e)) (Ev.yes (decide_eq_true k2) e)) (Chk.r (fun r e => Ev.no (fun e => k1 (of_decide_eq_true e)) (Ev.yes (decide_eq_true k2) e)) tail)
   ·exact Chk.l (fun r e => Ev.no (fun e => k1 (of_decide_eq_true e)) (Ev.no (fun e => k2 (of_decide_eq_true e)) e)) (Chk.r (fun r e => Ev.no (fun e => k1 (of_decide_eq_true e)) (Ev.no (fun e => k2 (of_decide_eq_true e)) e)) nexty)
  ·refine Chk.l (fun r e => Ev.step (fun k => monitor_CheckWatch.c2_eq _ _ _ _ _ _ _ _) (Ev.no (by simp) ?_)) (Chk.r (fun r e => Ev.step (fun k => perigeeref8_CheckWatch.c4_eq _ _ _ _ _ _ _) ?_) next)
   ·rw [hw]; exact e
   ·simp only [Int.toNat_natCast, hxx, hw]
    exact Ev.yes (by omega) (Ev.no (by simp) e)
 ·exact Chk.ok (Ev.step (fun k => monitor_CheckWatch.c1_eq _ _ _ _ _) (Ev.no (by simp) (Ev.now _))) fun r e => Ev.step (fun k => perigeeref8_CheckWatch.c3_eq _ _ _ _ _ _) (Ev.no (by simp) e)
theorem rules_chk (w : DWatch) (ml : w.1.length ≤ 50) (rl : w.2.2.2.length ≤ 200) (h0 : okT YWatch w) :
 Chk (fun k => monitor_CheckWatch.c0 k w.1 w.2.1 w.2.2.1 w.2.2.2 [] w.2.2.2 (w.2.2.2.length : Int) 0) (fun k => perigeeref8_CheckWatch.c2 k w.1 w.2.1 w.2.2.1 w.2.2.2 0) (fun _ => some (0, ())) := by
 refine Chk.loopS (σ := List (S × Bool)) (g := fun k m i => monitor_CheckWatch.c0 k w.1 w.2.1 w.2.2.1 w.2.2.2 m w.2.2.2 (w.2.2.2.length : Int) i) (h := fun k i => perigeeref8_CheckWatch.c2 k w.1 w.2.1 w.2.2.1 w.2.2.2 i) w.2.2.2.length
  (fun i m => ∀ v : S, (lk m v).getD false = true ↔ ∃ x ∈ w.2.2.2.take i, x.1 = v) (fun i m hi hm next => ?_) (fun m hm => ?_) [] (fun v => by simp [lk])
 ·have hx := h0.2.2.2.2.2 _ (getD_mem (z := Ty.dflt YWatchRule) hi)
  have hw : IntKind.wrap .i64 ((i : Int) + 1) = (i : Int) + 1 := w64 (by omega) (by omega)
  obtain ⟨c, c1, c2⟩ := rule_chk w ml rl hi hx
  rcases c2 with ⟨c3, c4⟩ | ⟨c3, c4⟩
  ·refine Chk.bad c3 (Ev.step (fun k => monitor_CheckWatch.c0_eq _ _ _ _ _ _ _ _ _) ?_) (Ev.step (fun k => perigeeref8_CheckWatch.c2_eq _ _ _ _ _ _) ?_)
   ·simp only [Int.toNat_natCast]
    exact Ev.yes (by simp; omega) (Ev.yes (by omega) (Ev.bind c1 (Ev.yes (by simpa using c3) (Ev.now _))))
   ·exact Ev.yes (by simp; omega) (Ev.bind c4 (Ev.yes (by simpa using c3) (Ev.now _)))
  ·subst c3
   have c4 := c4 _ (Ev.now _)
   have nxt := next (mapPut .str .bool (w.2.2.2.getD i (Ty.dflt YWatchRule)).1 true m) (fun v => by
    rw [lk_put (σ := .bool), List.take_add_one, List.getElem?_eq_getElem hi, getD_nat _ _ _ hi]
    split
    ·rename_i e
     simp only [Option.getD_some, true_iff]
     exact ⟨_, List.mem_append_right _ (by simp), e⟩
    ·rename_i e
     rw [hm]
     constructor
     ·rintro ⟨x, hx, h⟩; exact ⟨x, List.mem_append_left _ hx, h⟩
     ·rintro ⟨x, hx, h⟩
      rcases List.mem_append.1 hx with hx | hx
      ·exact ⟨x, hx, h⟩
      ·simp at hx; subst hx; exact absurd h e)
   have ord : ordR w i = 8 ∨ ordR w i = 0 := by unfold ordR; split <;> simp
   by_cases i0 : i = 0
   ·subst i0
    have o0 : ordR w 0 = 0 := by unfold ordR; rw [if_neg (by simp)]
    rw [o0] at c4
    refine Chk.l (fun r e => Ev.step (fun k => monitor_CheckWatch.c0_eq _ _ _ _ _ _ _ _ _) ?_) (Chk.r (fun r e => Ev.step (fun k => perigeeref8_CheckWatch.c2_eq _ _ _ _ _ _) ?_) nxt)
    ·simp only [Int.toNat_natCast, hw]
     exact Ev.yes (by simp; omega) (Ev.yes (by omega) (Ev.bind c1 (Ev.no (by simp) (Ev.no (by simp) e))))
    ·rw [hw]
     exact Ev.yes (by simp; omega) (Ev.bind c4 (Ev.no (by simp) e))
   ·have hp := wpred i0 (by omega)
    by_cases l1 : lessS (w.2.2.2.getD (i - 1) (Ty.dflt YWatchRule)).1 (w.2.2.2.getD i (Ty.dflt YWatchRule)).1 = true
    ·have o0 : ordR w i = 0 := by unfold ordR; rw [if_neg (fun h => by rw [l1] at h; exact absurd h.2 (by simp))]
     rw [o0] at c4
     refine Chk.l (fun r e => Ev.step (fun k => monitor_CheckWatch.c0_eq _ _ _ _ _ _ _ _ _) ?_) (Chk.r (fun r e => Ev.step (fun k => perigeeref8_CheckWatch.c2_eq _ _ _ _ _ _) ?_) nxt)
     ·simp only [hw, hp, Int.toNat_natCast]
      exact Ev.yes (by simp; omega) (Ev.yes (by omega) (Ev.bind c1 (Ev.no (by simp) (Ev.yes (by simp; omega) (Ev.yes (by omega) (Ev.no (fun h => by rw [l1] at h; cases h) e))))))
     ·rw [hw]
      exact Ev.yes (by simp; omega) (Ev.bind c4 (Ev.no (by simp) e))
    ·have l1 : lessS (w.2.2.2.getD (i - 1) (Ty.dflt YWatchRule)).1 (w.2.2.2.getD i (Ty.dflt YWatchRule)).1 = false := by rw [← Bool.not_eq_true]; exact l1
     have o0 : ordR w i = 8 := by unfold ordR; rw [if_pos ⟨by omega, l1⟩]
     rw [o0] at c4
     refine Chk.bad (c := 8) (by omega) (Ev.step (fun k => monitor_CheckWatch.c0_eq _ _ _ _ _ _ _ _ _) ?_) (Ev.step (fun k => perigeeref8_CheckWatch.c2_eq _ _ _ _ _ _) ?_)
     ·simp only [hp, Int.toNat_natCast]
      exact Ev.yes (by simp; omega) (Ev.yes (by omega) (Ev.bind c1 (Ev.no (by simp) (Ev.yes (by simp; omega) (Ev.yes (by omega) (Ev.yes (by rw [l1]; rfl) (Ev.now _)))))))
     ·exact Ev.yes (by simp; omega) (Ev.bind c4 (Ev.yes (by simp) (Ev.now _)))
 ·rw [List.take_length] at hm
  exact Chk.l (fun r e => Ev.step (fun k => monitor_CheckWatch.c0_eq _ _ _ _ _ _ _ _ _) (Ev.no (by simp) e)) (Chk.r (fun r e => Ev.step (fun k => perigeeref8_CheckWatch.c2_eq _ _ _ _ _ _) (Ev.no (by simp) e)) (acts_chk w rl h0 m hm))
theorem watch_twin (w : DWatch) (h0 : okT YWatch w) : ∃ c : Int, Ev (fun k => monitor_CheckWatch.f k w) (c, ()) ∧ Ev (fun k => perigeeref8_CheckWatch.f k w) (c, ()) := by
 have first : Chk (fun k => monitor_checkModes.f k w) (fun k => perigeeref8_CheckWatch.f k w) (fun k => if (decide (200 < (w.2.2.2.length : Int))) = true then some (2, ()) else perigeeref8_CheckWatch.c2 k w.1 w.2.1 w.2.2.1 w.2.2.2 0) := by
  refine Chk.l (fun r e => Ev.eq (fun k => monitor_checkModes.f_eq _ _) e) (Chk.r (fun r e => Ev.eq (fun k => perigeeref8_CheckWatch.f_eq _ _) e) ?_)
  by_cases m0 : (w.1.length : Int) = 0
  ·exact Chk.bad (c := 9) (by omega) (Ev.yes (decide_eq_true m0) (Ev.now _)) (Ev.yes (decide_eq_true m0) (Ev.now _))
  refine Chk.l (fun r e => Ev.no (fun h => m0 (of_decide_eq_true h)) e) (Chk.r (fun r e => Ev.no (fun h => m0 (of_decide_eq_true h)) e) ?_)
  by_cases m1 : 50 < (w.1.length : Int)
  ·exact Chk.bad (c := 2) (by omega) (Ev.yes (decide_eq_true m1) (Ev.now _)) (Ev.yes (decide_eq_true m1) (Ev.now _))
  refine Chk.l (fun r e => Ev.no (fun h => m1 (of_decide_eq_true h)) e) (Chk.r (fun r e => Ev.no (fun h => m1 (of_decide_eq_true h)) e) ?_)
  refine modes_chk w h0 (by omega) (g := fun k => if (decide (500 < (w.2.1.length : Int))) = true then some (2, ()) else monitor_checkModes.c1 k w.1 w.2.1 w.2.2.1 w.2.2.2 w.2.1 (w.2.1.length : Int) 0) (h := fun k => if (decide (500 < (w.2.1.length : Int))) = true then some (2, ()) else perigeeref8_CheckWatch.c1 k w.1 w.2.1 w.2.2.1 w.2.2.2 0) ?_ (fun k => by rw [monitor_checkModes.c0_eq, if_neg (by simp)]) (fun k => by rw [perigeeref8_CheckWatch.c0_eq, if_neg (by simp)])
  by_cases m2 : 500 < (w.2.1.length : Int)
  ·exact Chk.bad (c := 2) (by omega) (Ev.yes (decide_eq_true m2) (Ev.now _)) (Ev.yes (decide_eq_true m2) (Ev.now _))
  refine Chk.l (fun r e => Ev.no (fun h => m2 (of_decide_eq_true h)) e) (Chk.r (fun r e => Ev.no (fun h => m2 (of_decide_eq_true h)) e) ?_)
  refine changes_chk w h0 (by omega) (by omega) (g := fun k => (slices_Contains_string.f k w.1 w.2.2.1).bind fun r4 => if (!r4.1) = true then some (9, ()) else some (0, ())) (h := fun k => (perigeeref8_has.f k w.1 w.2.2.1).bind fun r3 => if (!r3.1) = true then some (9, ()) else if (decide (200 < (w.2.2.2.length : Int))) = true then some (2, ()) else perigeeref8_CheckWatch.c2 k w.1 w.2.1 w.2.2.1 w.2.2.2 0) ?_ (fun k => by rw [monitor_checkModes.c1_eq, if_neg (by simp)]) (fun k => by rw [perigeeref8_CheckWatch.c1_eq, if_neg (by simp)])
  by_cases m3 : w.2.2.1 ∈ w.1
  ·exact Chk.ok (Ev.bind (contains_ev _ _ (by omega)) (Ev.no (by simp [m3]) (Ev.now _))) fun r e => Ev.bind (rhas_ev _ _ (by omega)) (Ev.no (by simp [m3]) e)
  ·exact Chk.bad (c := 9) (by omega) (Ev.bind (contains_ev _ _ (by omega)) (Ev.yes (by simp [m3]) (Ev.now _))) (Ev.bind (rhas_ev _ _ (by omega)) (Ev.yes (by simp [m3]) (Ev.now _)))
 obtain ⟨c, c1, c2⟩ := first
 rcases c2 with ⟨c3, c4⟩ | ⟨c3, c4⟩
 ·exact ⟨c, Ev.eq (fun k => monitor_CheckWatch.f_eq _ _) (Ev.bind c1 (Ev.yes (by simpa using c3) (Ev.now _))), c4⟩
 subst c3
 obtain ⟨q, q1, q2⟩ := modes_ev w h0
 have e := q1.unique c1
 have ok := q2 (by rw [e])
 by_cases m4 : 200 < (w.2.2.2.length : Int)
 ·exact ⟨2, Ev.eq (fun k => monitor_CheckWatch.f_eq _ _) (Ev.bind c1 (Ev.no (by simp) (Ev.yes (decide_eq_true m4) (Ev.now _)))), c4 _ (Ev.yes (decide_eq_true m4) (Ev.now _))⟩
 obtain ⟨d, d1, d2⟩ := rules_chk w ok.ml (by omega) h0
 refine ⟨d, Ev.eq (fun k => monitor_CheckWatch.f_eq _ _) (Ev.bind c1 (Ev.no (by simp) (Ev.no (fun h => m4 (of_decide_eq_true h)) d1))), c4 _ (Ev.no (fun h => m4 (of_decide_eq_true h)) ?_)⟩
 rcases d2 with ⟨_, d3⟩ | ⟨d3, d4⟩
 ·exact d3
 ·subst d3; exact d4 _ (Ev.now _)
end Go.Proofs.Ytadhpgecilhgnaa.Pure

-- YtadhpgecilhgnaaQ10
set_option linter.unusedVariables false
set_option linter.unusedSimpArgs false
namespace Go.Proofs.Ytadhpgecilhgnaa.Pure
open Go Go.Proofs.Ytadhpgecilhgnaa.A

theorem idx_inj {l : List S} {x y : S} (hx : x ∈ l) (hy : y ∈ l) (h : l.idxOf x = l.idxOf y) : x = y := by
 have h1 := List.getElem_idxOf (List.idxOf_lt_length_of_mem hx)
 have h2 := List.getElem_idxOf (List.idxOf_lt_length_of_mem hy)
 rw [← h1, ← h2]
 simp only [h]
theorem modeOf_ev (w : DWatch) (v : S) (hl : w.1.length ≤ 50) (hv : v ∈ w.1) : Ev (fun k => perigeeref8_modeOf.f k w v) ((w.1.idxOf v : Int), ()) := by
 have h := Ev.rng (σ := Unit) ([] : S) w.1 (by omega) (g := fun k _ i => perigeeref8_modeOf.c0 k v w.1 w.2.1 w.2.2.1 w.2.2.2 i) (fun k _ i => perigeeref8_modeOf.c0_eq _ _ _ _ _ _ _)
  (fun _ _ => True) (fun r i _ => (if v ∈ r then ((i + r.idxOf v : Nat) : Int) else -1, ())) (fun _ _ => Ev.is (by simp)) (fun i x xs s hi hx _ hget hw _ next => by
   simp only [Int.toNat_natCast, hget, hw, decide_eq_true_eq]
   refine Ev.split (fun h => ?_) (fun h => ?_)
   ·subst h
    refine Ev.is ?_
    simp
   ·refine Ev.cast ?_ (next () trivial)
    have h'' : ¬ v = x := fun e => h e.symm
    by_cases hm : v ∈ xs
    ·rw [if_pos hm, if_pos (by simp [hm]), List.idxOf_cons, show (x == v) = false by simpa using h]
     simp only [cond_false]
     congr 1; omega
    ·rw [if_neg hm, if_neg (by simp [hm, h''])]) 0 () (by omega) trivial
 refine Ev.eq (fun k => perigeeref8_modeOf.f_eq _ _ _) ?_
 simp only [List.drop_zero, if_pos hv, Nat.zero_add] at h
 exact h
def dAt (ms : List S) (ds : List Int) (x : S) : Int := ds.getD (ms.idxOf x) 0
theorem dAt_set {ms : List S} {ds : List Int} (hl : ds.length = ms.length) {x y : S} (hx : x ∈ ms) (hy : y ∈ ms) (v : Int) : dAt ms (ds.set (ms.idxOf x) v) y = if x = y then v else dAt ms ds y := by
 have lx := List.idxOf_lt_length_of_mem hx
 unfold dAt
 rw [List.getD_eq_getElem?_getD, List.getD_eq_getElem?_getD, List.getElem?_set]
 by_cases e : x = y
 ·subst e
  rw [if_pos rfl, if_pos rfl, if_pos (by omega)]; rfl
 ·rw [if_neg (fun h => e (idx_inj hx hy h)), if_neg e]
structure BI (C : List DModeChange) (ms : List S) (to : S) (ds : List Int) (Q : List S) (t : Nat) : Prop where
 len : ds.length = ms.length
 q0 : to ∈ Q ∧ dAt ms ds to = 0
 q1 : ∀ x ∈ Q, x ∈ ms ∧ 0 ≤ dAt ms ds x ∧ ∃ l : List S, (l.length : Int) = dAt ms ds x ∧ Pt C x l to
 q2 : ∀ x ∈ ms, 0 ≤ dAt ms ds x → x ∈ Q
 q3 : Q.Pairwise fun a b => dAt ms ds a ≤ dAt ms ds b
 q4 : ∀ h, Q[t]? = some h → ∀ x ∈ Q, dAt ms ds x ≤ dAt ms ds h + 1
 q5 : ∀ z ∈ Q.take t, ∀ c ∈ C, c.2.2 = z → 0 ≤ dAt ms ds c.1 ∧ dAt ms ds c.1 ≤ dAt ms ds z + 1
 q7 : Q.Nodup
 q8 : ∀ x ∈ Q, dAt ms ds x + 1 ≤ Q.length
structure DistOk (C : List DModeChange) (ms : List S) (to : S) (ds : List Int) : Prop where
 len : ds.length = ms.length
 pos : ∀ x ∈ ms, 0 ≤ dAt ms ds x → dAt ms ds x ≤ 50 ∧ ∃ l : List S, (l.length : Int) = dAt ms ds x ∧ Pt C x l to
 min : ∀ x ∈ ms, ∀ l : List S, Pt C x l to → 0 ≤ dAt ms ds x ∧ dAt ms ds x ≤ l.length
theorem bi_done {C : List DModeChange} {ms : List S} {to : S} {ds : List Int} {Q : List S} {t : Nat} (hms : ∀ c ∈ C, c.1 ∈ ms ∧ c.2.2 ∈ ms) (hml : ms.length ≤ 50) (h : BI C ms to ds Q t) (ht : Q.length ≤ t) : DistOk C ms to ds := by
 have all : Q.take t = Q := List.take_of_length_le ht
 refine ⟨h.len, fun x hx h0 => ?_, ?_⟩
 ·have hq := h.q2 x hx h0
  refine ⟨?_, (h.q1 x hq).2.2⟩
  have h1 := h.q8 x hq
  have h2 := nodup_len (m := ms) h.q7 fun y hy => (h.q1 y hy).1
  omega
 ·have main : ∀ (l : List S) (x : S), x ∈ ms → Pt C x l to → 0 ≤ dAt ms ds x ∧ dAt ms ds x ≤ l.length := by
   intro l
   induction l with
   | nil =>
    intro x _ hp
    obtain rfl : x = to := hp
    rw [h.q0.2]; simp
   | cons e l ih =>
    intro x hx hp
    obtain ⟨c, hc, h1, h2, h3⟩ := hp
    obtain ⟨k1, k2⟩ := ih c.2.2 (hms c hc).2 h3
    have hq := h.q2 _ (hms c hc).2 k1
    obtain ⟨k3, k4⟩ := h.q5 c.2.2 (by rw [all]; exact hq) c hc rfl
    rw [h1] at k3 k4
    refine ⟨k3, ?_⟩
    simp only [List.length_cons]
    omega
  exact fun x hx l hp => main l x hx hp
section
variable {w : DWatch} {to : S}
theorem far_loop (ok : ModesOk w) : ∀ (d t : Nat) (ds : List Int) (Q : List S), BI w.2.1 w.1 to ds Q t → t + d = 51 →
 ∃ r : List Int × Unit, Ev (fun k => perigeeref8_far.c1 k w.1 w.2.1 w.2.2.1 w.2.2.2 ds Q (t : Int)) r ∧ DistOk w.2.1 w.1 to r.1 := by
 have ml := ok.ml
 have cl := ok.cl
 intro d
 induction d with
 | zero =>
  intro t ds Q h ht
  have h2 := nodup_len (m := w.1) h.q7 fun y hy => (h.q1 y hy).1
  refine ⟨(ds, ()), Ev.step (fun k => perigeeref8_far.c1_eq _ _ _ _ _ _ _ _) (Ev.no (by simp; omega) (Ev.now _)), bi_done ok.ch ml h (by omega)⟩
 | succ d ih =>
  intro t ds Q h ht
  have h2 := nodup_len (m := w.1) h.q7 fun y hy => (h.q1 y hy).1
  by_cases hq : t < Q.length
  case neg => exact ⟨(ds, ()), Ev.step (fun k => perigeeref8_far.c1_eq _ _ _ _ _ _ _ _) (Ev.no (by simp; omega) (Ev.now _)), bi_done ok.ch ml h (by omega)⟩
  obtain ⟨hd, hhd⟩ : ∃ hd, Q[t]? = some hd := ⟨_, List.getElem?_eq_getElem hq⟩
  have := Ev.rngR (σ := List Int × List S) (Ty.dflt YModeChange) w.2.1 (by omega) (g := fun k s i => perigeeref8_far.c2 k w.1 w.2.1 w.2.2.1 w.2.2.2 s.1 s.2 (t : Int) i) (fun k s i => perigeeref8_far.c2_eq _ _ _ _ _ _ _ _ _)
   (fun i s => BI w.2.1 w.1 to s.1 s.2 t ∧ s.2[t]? = some hd ∧ ∀ c ∈ w.2.1.take i, c.2.2 = hd → 0 ≤ dAt w.1 s.1 c.1 ∧ dAt w.1 s.1 c.1 ≤ dAt w.1 s.1 hd + 1)
   (fun r => DistOk w.2.1 w.1 to r.1) (fun s hs => ?_) (fun i c s hi hc hget hgd hw hs next => ?_) 0 (ds, Q) (by omega) ⟨h, hhd, fun c hc => by simp at hc⟩
  ·obtain ⟨r, r1, r2⟩ := this
   exact ⟨r, Ev.step (fun k => perigeeref8_far.c1_eq _ _ _ _ _ _ _ _) (Ev.yes (decide_eq_true (by omega)) r1), r2⟩
  ·obtain ⟨s1, s2⟩ := s
   obtain ⟨a1, a2, a3⟩ := hs
   simp only [List.take_length] at a1 a2 a3
   have hts : t < s2.length := (List.getElem?_eq_some_iff.1 a2).1
   have bi' : BI w.2.1 w.1 to s1 s2 (t + 1) := by
    refine ⟨a1.len, a1.q0, a1.q1, a1.q2, a1.q3, fun h' hh' x hx => ?_, fun z hz c hc e => ?_, a1.q7, a1.q8⟩
    ·have k1 := a1.q4 hd a2 x hx
     have k2 := (List.pairwise_iff_getElem.1 a1.q3) t (t + 1) hts (List.getElem?_eq_some_iff.1 hh').1 (by omega)
     rw [(List.getElem?_eq_some_iff.1 a2).2, (List.getElem?_eq_some_iff.1 hh').2] at k2
     omega
    ·rw [List.take_add_one, a2] at hz
     rcases List.mem_append.1 hz with hz | hz
     ·exact a1.q5 z hz c hc e
     ·simp at hz
      subst hz
      exact a3 c hc e
   obtain ⟨r, r1, r2⟩ := ih (t + 1) s1 s2 bi' (by omega)
   refine ⟨r, ?_, r2⟩
   rw [w64 (by omega) (by omega)]
   rw [show ((t + 1 : Nat) : Int) = (t : Int) + 1 by omega] at r1
   exact r1
  ·obtain ⟨s1, s2⟩ := s
   obtain ⟨a1, a2, a3⟩ := hs
   simp only at a1 a2 a3
   have hts : t < s2.length := (List.getElem?_eq_some_iff.1 a2).1
   have hdQ : hd ∈ s2 := List.mem_of_getElem? a2
   have hdm := (a1.q1 hd hdQ).1
   have hgh : s2.getD t [] = hd := by rw [List.getD_eq_getElem?_getD, a2]; rfl
   simp only [Int.toNat_natCast, hgd, hw, hgh]
   have ht2 : w.2.1.take (i + 1) = w.2.1.take i ++ [c] := by rw [List.take_add_one, hget]; rfl
   obtain ⟨c1m, c2m⟩ := ok.ch c hc
   have l1 := List.idxOf_lt_length_of_mem c1m
   have same : (c.2.2 = hd → 0 ≤ dAt w.1 s1 c.1 ∧ dAt w.1 s1 c.1 ≤ dAt w.1 s1 hd + 1) → ∃ r : List Int × Unit, Ev (fun k => perigeeref8_far.c2 k w.1 w.2.1 w.2.2.1 w.2.2.2 s1 s2 (t : Int) ((i : Int) + 1)) r ∧ DistOk w.2.1 w.1 to r.1 := fun hc2 => next (s1, s2) ⟨a1, a2, fun e he e1 => by
    rw [ht2] at he
    rcases List.mem_append.1 he with he | he
    ·exact a3 e he e1
    ·simp at he; subst he; exact hc2 e1⟩
   have mo := modeOf_ev w c.1 ml c1m
   by_cases h1 : c.2.2 = hd
   case neg =>
    obtain ⟨r, r1, r2⟩ := same fun e => absurd e h1
    exact ⟨r, Ev.bind mo (Ev.yes (by omega) (Ev.no (fun h => h1 (of_decide_eq_true h)) r1)), r2⟩
   by_cases h3 : dAt w.1 s1 c.1 < 0
   case neg =>
    have k1 := a1.q2 c.1 c1m (by omega)
    obtain ⟨r, r1, r2⟩ := same fun _ => ⟨by omega, a1.q4 hd a2 c.1 k1⟩
    refine ⟨r, Ev.bind mo (Ev.yes (by omega) (Ev.yes (decide_eq_true h1) (Ev.yes (by rw [a1.len]; omega) (Ev.no (fun h => h3 ?_) r1)))), r2⟩
    have := of_decide_eq_true h
    simpa [dAt] using this
   have mo2 := modeOf_ev w c.2.2 ml c2m
   have l2 := List.idxOf_lt_length_of_mem c2m
   have hb := a1.q8 hd hdQ
   have hnd := nodup_len (m := w.1) a1.q7 fun y hy => (a1.q1 y hy).1
   have h0 := (a1.q1 hd hdQ).2.1
   have hwr : IntKind.wrap .i64 (dAt w.1 s1 hd + 1) = dAt w.1 s1 hd + 1 := w64 (by omega) (by omega)
   have nq : c.1 ∉ s2 := fun h => by have := (a1.q1 c.1 h).2.1; omega
   have ds : ∀ y ∈ w.1, dAt w.1 (s1.set (w.1.idxOf c.1) (dAt w.1 s1 hd + 1)) y = if c.1 = y then dAt w.1 s1 hd + 1 else dAt w.1 s1 y := fun y hy => dAt_set a1.len c1m hy _
   have old : ∀ y ∈ s2, dAt w.1 (s1.set (w.1.idxOf c.1) (dAt w.1 s1 hd + 1)) y = dAt w.1 s1 y := fun y hy => by
    rw [ds y (a1.q1 y hy).1, if_neg (fun e => nq (by rw [e]; exact hy))]
   have new : dAt w.1 (s1.set (w.1.idxOf c.1) (dAt w.1 s1 hd + 1)) c.1 = dAt w.1 s1 hd + 1 := by rw [ds c.1 c1m, if_pos rfl]
   have bi : BI w.2.1 w.1 to (s1.set (w.1.idxOf c.1) (dAt w.1 s1 hd + 1)) (s2 ++ [c.1]) t := by
    refine ⟨by rw [List.length_set]; exact a1.len, ⟨List.mem_append_left _ a1.q0.1, by rw [old _ a1.q0.1]; exact a1.q0.2⟩, fun x hx => ?_, fun x hx hx0 => ?_, ?_, fun h' hh' x hx => ?_, fun z hz e he e1 => ?_, ?_, fun x hx => ?_⟩
    ·rcases List.mem_append.1 hx with hx | hx
     ·rw [old x hx]; exact a1.q1 x hx
     ·simp at hx
      subst hx
      rw [new]
      obtain ⟨l, k1, k2⟩ := (a1.q1 hd hdQ).2.2
      exact ⟨c1m, by omega, c.2.1 :: l, by simp only [List.length_cons]; omega, c, hc, rfl, rfl, h1 ▸ k2⟩
    ·rw [ds x hx] at hx0
     split at hx0
     ·rename_i e
      exact List.mem_append_right _ (by simp [e])
     ·exact List.mem_append_left _ (a1.q2 x hx hx0)
    ·rw [List.pairwise_append]
     refine ⟨?_, by simp, fun a ha b hb => ?_⟩
     ·refine List.Pairwise.imp_of_mem (fun {a b} ha hb hab => ?_) a1.q3
      rw [old a ha, old b hb]; exact hab
     ·simp at hb
      subst hb
      rw [old a ha, new]
      exact a1.q4 hd a2 a ha
    ·have e : h' = hd := by
      rw [List.getElem?_append_left hts, a2] at hh'
      cases hh'; rfl
     subst e
     rw [old h' hdQ]
     rcases List.mem_append.1 hx with hx | hx
     ·rw [old x hx]; exact a1.q4 h' a2 x hx
     ·simp at hx
      subst hx
      rw [new]; omega
    ·rw [List.take_append_of_le_length (by omega)] at hz
     have hzQ := List.mem_of_mem_take hz
     obtain ⟨k1, k2⟩ := a1.q5 z hz e he e1
     have : c.1 ≠ e.1 := fun h => by rw [← h] at k1; omega
     rw [ds e.1 (ok.ch e he).1, if_neg this, old z hzQ]
     exact ⟨k1, k2⟩
    ·rw [List.nodup_append]
     refine ⟨a1.q7, by simp, fun a ha b hb => ?_⟩
     simp at hb
     subst hb
     exact fun e => nq (e ▸ ha)
    ·rw [List.length_append]
     simp only [List.length_cons, List.length_nil]
     rcases List.mem_append.1 hx with hx | hx
     ·rw [old x hx]; have := a1.q8 x hx; omega
     ·simp at hx
      subst hx
      rw [new]; omega
   obtain ⟨r, r1, r2⟩ := next (s1.set (w.1.idxOf c.1) (dAt w.1 s1 hd + 1), s2 ++ [c.1]) ⟨bi, by rw [List.getElem?_append_left hts]; exact a2, fun e he e1 => by
    rw [ht2] at he
    rcases List.mem_append.1 he with he | he
    ·obtain ⟨k1, k2⟩ := a3 e he e1
     have : c.1 ≠ e.1 := fun h => by rw [← h] at k1; omega
     rw [ds e.1 (ok.ch e (List.mem_of_mem_take he)).1, if_neg this, old hd hdQ]
     exact ⟨k1, k2⟩
    ·simp at he
     subst he
     rw [new, old hd hdQ]
     exact ⟨by omega, by omega⟩⟩
   refine ⟨r, Ev.bind mo (Ev.yes (by omega) (Ev.yes (decide_eq_true h1) (Ev.yes (by rw [a1.len]; omega) (Ev.yes (decide_eq_true ?_) (Ev.bind mo2 (Ev.yes (by rw [a1.len]; omega) (Ev.yes (by rw [a1.len]; omega) (Ev.yes (by omega) ?_)))))))), r2⟩
   ·simpa [dAt] using h3
   ·simp only [Int.toNat_natCast]
    rw [h1]
    rw [show IntKind.wrap .i64 (s1.getD (w.1.idxOf hd) 0 + 1) = dAt w.1 s1 hd + 1 from hwr]
    exact r1
theorem far_ev (ok : ModesOk w) (hto : to ∈ w.1) : ∃ r : List Int × Unit, Ev (fun k => perigeeref8_far.f k w to) r ∧ DistOk w.2.1 w.1 to r.1 := by
 have ml := ok.ml
 have lt := List.idxOf_lt_length_of_mem hto
 have dm : ∀ y ∈ w.1, dAt w.1 ((List.replicate w.1.length (-1)).set (w.1.idxOf to) 0) y = if to = y then 0 else -1 := fun y hy => by
  rw [dAt_set (by simp) hto hy]
  split
  ·rfl
  ·have := List.idxOf_lt_length_of_mem hy
   unfold dAt
   rw [List.getD_eq_getElem?_getD, List.getElem?_replicate, if_pos this]; rfl
 obtain ⟨r, r1, r2⟩ := far_loop (w := w) (to := to) ok 51 0 ((List.replicate w.1.length (-1)).set (w.1.idxOf to) 0) [to] ⟨by simp, ⟨by simp, by rw [dm to hto, if_pos rfl]⟩, fun x hx => by
  simp at hx; subst hx
  rw [dm x hto, if_pos rfl]
  exact ⟨hto, by omega, [], rfl, rfl⟩, fun x hx h0 => by
  rw [dm x hx] at h0
  split at h0
  ·rename_i e; simp [e]
  ·omega, by simp, fun h hh x hx => by
  simp at hh hx
  subst hh; subst hx; omega, fun z hz => by simp at hz, by simp, fun x hx => by
  simp at hx; subst hx
  rw [dm x hto, if_pos rfl]; simp⟩ (by omega)
 refine ⟨r, Ev.eq (fun k => perigeeref8_far.f_eq _ _ _) (Ev.yes (by omega) ?_), r2⟩
 have fill : ∀ (d i : Nat), i + d = w.1.length → Ev (fun k => perigeeref8_far.c0 k to w.1 w.2.1 w.2.2.1 w.2.2.2 (List.replicate i (-1) ++ List.replicate d 0) (i : Int)) r := by
  intro d
  induction d with
  | zero =>
   intro i hi
   refine Ev.step (fun k => perigeeref8_far.c0_eq _ _ _ _ _ _ _ _) (Ev.no (by simp) (Ev.bind (modeOf_ev w to ml hto) (Ev.yes (by simp; omega) ?_)))
   simp only [Int.toNat_natCast, List.replicate_zero, List.append_nil]
   obtain rfl : i = w.1.length := by omega
   exact r1
  | succ d ih =>
   intro i hi
   refine Ev.step (fun k => perigeeref8_far.c0_eq _ _ _ _ _ _ _ _) (Ev.yes (by simp; omega) (Ev.yes (by simp; omega) ?_))
   have e : (List.replicate i (-1 : Int) ++ List.replicate (d + 1) 0).set ((i : Int).toNat) (-1) = List.replicate (i + 1) (-1) ++ List.replicate d 0 := by
    rw [Int.toNat_natCast, List.set_append_right _ _ (by simp), List.length_replicate, Nat.sub_self, List.replicate_succ, List.set_cons_zero, List.replicate_succ', List.append_assoc]
    rfl
   rw [e, w64 (by omega) (by omega)]
   have := ih (i + 1) (by omega)
   rw [show ((i + 1 : Nat) : Int) = (i : Int) + 1 by omega] at this
   exact this
 have := fill w.1.length 0 (by omega)
 simp only [List.replicate_zero, List.nil_append] at this
 simpa using this
end
end Go.Proofs.Ytadhpgecilhgnaa.Pure

-- YtadhpgecilhgnaaQ11
set_option linter.unusedVariables false
set_option linter.unusedSimpArgs false
namespace Go.Proofs.Ytadhpgecilhgnaa.Pure
open Go Go.Proofs.Ytadhpgecilhgnaa.A

theorem find_first {l : List DModeChange} (h : l.Pairwise ltC) {p : DModeChange → Bool} {c d : DModeChange} (hf : l.find? p = some c) (hd : d ∈ l) (hp : p d = true) : d = c ∨ ltC c d := by
 induction l with
 | nil => cases hd
 | cons x l ih =>
  rw [List.pairwise_cons] at h
  by_cases hx : p x = true
  ·rw [List.find?_cons_of_pos hx] at hf
   cases hf
   rcases List.mem_cons.1 hd with e | hd
   ·exact .inl e
   ·exact .inr (h.1 d hd)
  ·rw [List.find?_cons_of_neg hx] at hf
   rcases List.mem_cons.1 hd with e | hd
   ·exact absurd (e ▸ hp) hx
   ·exact ih h.2 hf hd
theorem changes_sorted {w : DWatch} (ok : ModesOk w) : w.2.1.Pairwise ltC :=
 (chain_pair (R := ltC) (fun _ _ _ => ltC_trans) (Ty.dflt YModeChange) w.2.1).1 fun j hj h0 => ltC_of (ok.od j hj h0)
section
variable {w : DWatch} {to : S} {ds : List Int}
theorem rways_loop (ok : ModesOk w) (D : DistOk w.2.1 w.1 to ds) : ∀ (d : Nat) (at_ : S) (out : List S), at_ ∈ w.1 → dAt w.1 ds at_ = d → out.length + d ≤ 200 →
 ∃ l : List S, l.length = d ∧ Pt w.2.1 at_ l to ∧ (∀ l', l'.length = d → Pt w.2.1 at_ l' to → ¬ lxl l' l) ∧ Ev (fun k => perigeeref8_Ways.c1 k w.1 w.2.1 w.2.2.1 w.2.2.2 ds out at_) (out ++ l, (true, (0, ()))) := by
 have ml := ok.ml
 have cl := ok.cl
 intro d
 induction d with
 | zero =>
  intro at_ out ha hd ho
  obtain ⟨l, l1, l2⟩ := (D.pos at_ ha (by omega)).2
  have : l = [] := List.eq_nil_of_length_eq_zero (by omega)
  subst this
  have la := List.idxOf_lt_length_of_mem ha
  refine ⟨[], rfl, l2, fun l' h _ => ?_, ?_⟩
  ·have := List.eq_nil_of_length_eq_zero h
   subst this
   exact lxl_irrefl _
  ·refine Ev.step (fun k => perigeeref8_Ways.c1_eq _ _ _ _ _ _ _ _) (Ev.bind (modeOf_ev w at_ ml ha) (Ev.yes (by rw [D.len]; omega) (Ev.no ?_ (by rw [List.append_nil]; exact Ev.now _))))
   simp only [Int.toNat_natCast, decide_eq_true_eq]
   have : ds.getD (w.1.idxOf at_) 0 = 0 := hd
   omega
 | succ d ih =>
  intro at_ out ha hd ho
  have la := List.idxOf_lt_length_of_mem ha
  -- which changes lead nearer
  have near : ∀ c ∈ w.2.1, c.1 = at_ → ∀ l1, l1.length ≤ d → Pt w.2.1 c.2.2 l1 to → dAt w.1 ds c.2.2 = d ∧ l1.length = d := fun c hc h1 l1 hl hp => by
   obtain ⟨k1, k2⟩ := D.min c.2.2 (ok.ch c hc).2 l1 hp
   obtain ⟨l2, m1, m2⟩ := (D.pos c.2.2 (ok.ch c hc).2 k1).2
   have := (D.min at_ ha (c.2.1 :: l2) ⟨c, hc, h1, rfl, m2⟩).2
   simp only [List.length_cons] at this
   omega
  let p : DModeChange → Bool := fun c => decide (c.1 = at_ ∧ dAt w.1 ds c.2.2 = d)
  obtain ⟨c0, hc0⟩ : ∃ c0, w.2.1.find? p = some c0 := by
   obtain ⟨l, l1, l2⟩ := (D.pos at_ ha (by omega)).2
   cases l with
   | nil => simp at l1; omega
   | cons e l =>
    obtain ⟨c, hc, h1, h2, h3⟩ := l2
    simp only [List.length_cons] at l1
    cases hf : w.2.1.find? p with
    | some c0 => exact ⟨c0, rfl⟩
    | none =>
     have := List.find?_eq_none.1 hf c hc
     exact absurd (decide_eq_true ⟨h1, (near c hc h1 l (by omega) h3).1⟩) this
  have hm := List.mem_of_find?_eq_some hc0
  have hp0 := List.find?_some hc0
  simp only [p, decide_eq_true_eq] at hp0
  obtain ⟨l, l1, l2, l3, l4⟩ := ih c0.2.2 (out ++ [c0.2.1]) (ok.ch c0 hm).2 hp0.2 (by simp; omega)
  refine ⟨c0.2.1 :: l, by simp [l1], ⟨c0, hm, hp0.1, rfl, l2⟩, fun l' h1 h2 => ?_, ?_⟩
  ·cases l' with
   | nil => simp at h1
   | cons e' l' =>
    obtain ⟨c', hc', k1, k2, k3⟩ := h2
    simp only [List.length_cons] at h1
    have nr := near c' hc' k1 l' (by omega) k3
    rcases find_first (changes_sorted ok) hc0 hc' (decide_eq_true ⟨k1, nr.1⟩) with e | hlt
    ·subst e
     rw [← k2]
     rintro (h | ⟨_, h⟩)
     ·exact less_ne h rfl
     ·exact l3 l' nr.2 k3 h
    ·have hev : lessS c0.2.1 c'.2.1 = true := by
      rcases hlt with h | ⟨_, h⟩
      ·rw [hp0.1, k1] at h
       exact absurd rfl (less_ne h)
      ·exact h
     rw [← k2]
     rintro (h | ⟨e, _⟩)
     ·rw [show lessS c'.2.1 c0.2.1 = false from less_asymm hev] at h
      cases h
     ·exact less_ne hev e.symm
  ·refine Ev.step (fun k => perigeeref8_Ways.c1_eq _ _ _ _ _ _ _ _) (Ev.bind (modeOf_ev w at_ ml ha) (Ev.yes (by rw [D.len]; omega) (Ev.yes ?_ ?_)))
   ·simp only [Int.toNat_natCast, decide_eq_true_eq]
    have : ds.getD (w.1.idxOf at_) 0 = ((d + 1 : Nat) : Int) := hd
    omega
   have h := Ev.rng (σ := DModeChange) (Ty.dflt YModeChange) w.2.1 (by omega) (g := fun k s i => perigeeref8_Ways.c2 k w.1 w.2.1 w.2.2.1 w.2.2.2 ds out at_ s.1 s.2.1 s.2.2 i) (fun k s i => perigeeref8_Ways.c2_eq _ _ _ _ _ _ _ _ _ _ _ _)
    (fun i s => s = ((w.2.1.take i).find? p).getD ([], ([], []))) (fun _ _ _ => (out ++ c0.2.1 :: l, (true, (0, ())))) (fun s hs => by
     rw [List.take_length, hc0] at hs
     have hs : s = c0 := hs
     subst hs
     rw [show out ++ s.2.1 :: l = (out ++ [s.2.1]) ++ l by simp]
     exact Ev.yes (by omega) l4) (fun i c cs s hi hc hdp hget hw hs next => by
     simp only [Int.toNat_natCast, hget, hw]
     have ht : w.2.1.take (i + 1) = w.2.1.take i ++ [c] := by
      rw [List.take_add_one]
      have : w.2.1[i]? = some c := by
       have := congrArg (fun l => l[0]?) hdp
       simpa using this
      rw [this]; rfl
     have l2' := List.idxOf_lt_length_of_mem (ok.ch c hc).2
     have keep : p c = false ∨ s.2.1 ≠ [] → Ev (fun k => perigeeref8_Ways.c2 k w.1 w.2.1 w.2.2.1 w.2.2.2 ds out at_ s.1 s.2.1 s.2.2 ((i : Int) + 1)) (out ++ c0.2.1 :: l, (true, (0, ()))) := fun hk => next s (by
      rw [ht, List.find?_append, hs]
      cases hf : (w.2.1.take i).find? p with
      | some y => rfl
      | none =>
       rw [hf] at hs
       rcases hk with hk | hk
       ·rw [List.find?_cons_of_neg (by simp [hk])]; rfl
       ·exact absurd (by rw [hs]; rfl) hk)
     by_cases h1 : c.1 = at_
     case neg => exact Ev.no (fun h => h1 (of_decide_eq_true h)) (keep (.inl (decide_eq_false fun h => h1 h.1)))
     refine Ev.yes (decide_eq_true h1) (Ev.bind (modeOf_ev w c.2.2 ml (ok.ch c hc).2) (Ev.yes (by rw [D.len]; omega) (Ev.bind (modeOf_ev w at_ ml ha) (Ev.yes (by rw [D.len]; omega) ?_))))
     have e2 : IntKind.wrap .i64 (ds.getD (w.1.idxOf at_) 0 - 1) = d := by
      rw [show ds.getD (w.1.idxOf at_) 0 = ((d + 1 : Nat) : Int) from hd, w64 (by omega) (by omega)]; omega
     by_cases h2 : dAt w.1 ds c.2.2 = d
     case neg =>
      refine Ev.no (fun h => h2 ?_) (keep (.inl (decide_eq_false fun h => h2 h.2)))
      have h' : ds.getD (w.1.idxOf c.2.2) 0 = IntKind.wrap .i64 (ds.getD (w.1.idxOf at_) 0 - 1) := of_decide_eq_true h
      rw [e2] at h'
      exact h'
     have h2' : ds.getD (w.1.idxOf c.2.2) 0 = IntKind.wrap .i64 (ds.getD (w.1.idxOf at_) 0 - 1) := by rw [e2]; exact h2
     refine Ev.yes (decide_eq_true h2') ?_
     have hpc : p c = true := decide_eq_true ⟨h1, h2⟩
     by_cases h3 : s.2.1 = []
     ·refine Ev.yes (decide_eq_true h3) (next c ?_)
      rw [ht, List.find?_append]
      cases hf : (w.2.1.take i).find? p with
      | some y =>
       rw [hf] at hs
       have hs : s = y := hs
       rw [hs] at h3
       exact absurd h3 (ok.en y (List.mem_of_mem_take (List.mem_of_find?_eq_some hf)))
      | none => rw [List.find?_cons_of_pos hpc]; rfl
     ·exact Ev.no (fun h => h3 (of_decide_eq_true h)) (keep (.inr h3))) 0 ([], ([], [])) (by omega) (by simp)
   exact h
theorem rways_ev (fr : S) {c : Int} (hc : Ev (fun k => perigeeref8_CheckWatch.f k w) (c, ())) (h0 : c = 0) (ok : ModesOk w) (hf : fr ∈ w.1) (ht : to ∈ w.1) :
 (∃ l : List S, Pt w.2.1 fr l to ∧ (∀ l', Pt w.2.1 fr l' to → l.length ≤ l'.length) ∧ (∀ l', l'.length = l.length → Pt w.2.1 fr l' to → ¬ lxl l' l) ∧ Ev (fun k => perigeeref8_Ways.f k w fr to) (l, (true, (0, ())))) ∨
 ((∀ l, ¬ Pt w.2.1 fr l to) ∧ Ev (fun k => perigeeref8_Ways.f k w fr to) ([], (false, (0, ())))) := by
 have ml := ok.ml
 obtain ⟨⟨ds, u⟩, d1, D⟩ := far_ev ok ht
 have D : DistOk w.2.1 w.1 to ds := D
 have lf := List.idxOf_lt_length_of_mem hf
 have start : ∀ {r}, Ev (fun k => if (decide (dAt w.1 ds fr < 0)) = true then some ([], (false, (0, ()))) else perigeeref8_Ways.c1 k w.1 w.2.1 w.2.2.1 w.2.2.2 ds [] fr) r → Ev (fun k => perigeeref8_Ways.f k w fr to) r := fun {r} e => by
  refine Ev.eq (fun k => perigeeref8_Ways.f_eq _ _ _ _) (Ev.bind hc (Ev.no (by simp [h0]) (Ev.bind (rhas_ev _ _ (by omega)) (Ev.no (by simp [hf]) (Ev.bind (rhas_ev _ _ (by omega)) (Ev.no (by simp [ht]) ?_))))))
  refine Ev.step (fun k => perigeeref8_Ways.c0_eq _ _ _ _ _ _ _) (Ev.bind d1 (Ev.bind (modeOf_ev w fr ml hf) (Ev.yes (by show (0 : Int) ≤ (w.1.idxOf fr : Int) ∧ (w.1.idxOf fr : Int) < (ds.length : Int); rw [D.len]; omega) ?_)))
  simp only [Int.toNat_natCast]
  exact e
 by_cases hd : dAt w.1 ds fr < 0
 ·exact .inr ⟨fun l hl => by have := (D.min fr hf l hl).1; omega, start (Ev.yes (decide_eq_true hd) (Ev.now _))⟩
 ·obtain ⟨d, hd'⟩ : ∃ d : Nat, dAt w.1 ds fr = d := ⟨(dAt w.1 ds fr).toNat, by omega⟩
  have hb := (D.pos fr hf (by omega)).1
  obtain ⟨l, l1, l2, l3, l4⟩ := rways_loop ok D d fr [] hf hd' (by simp; omega)
  exact .inl ⟨l, l2, fun l' hl' => by have := (D.min fr hf l' hl').2; omega, fun l' e hl' => l3 l' (by omega) hl', start (Ev.no (fun h => hd (of_decide_eq_true h)) l4)⟩
end
abbrev lt1 (a b : S) : Prop := lessS a b = true
theorem modes_sorted {w : DWatch} (ok : ModesOk w) : w.1.Pairwise lt1 :=
 (chain_pair (R := lt1) (fun _ _ _ => less_trans) ([] : S) w.1).1 fun j hj h0 => ok.mo j hj h0
theorem sorted_nodup {l : List S} (h : l.Pairwise lt1) : l.Nodup := h.imp fun h => less_ne h
theorem sorted_ext : ∀ {a b : List S}, a.Pairwise lt1 → b.Pairwise lt1 → (∀ x, x ∈ a ↔ x ∈ b) → a = b
 | [], [], _, _, _ => rfl
 | [], y :: b, _, _, h => by have := (h y).2 (by simp); cases this
 | x :: a, [], _, _, h => by have := (h x).1 (by simp); cases this
 | x :: a, y :: b, ha, hb, h => by
  rw [List.pairwise_cons] at ha hb
  have e : x = y := by
   rcases List.mem_cons.1 ((h x).1 (by simp)) with e | h1
   ·exact e
   ·rcases List.mem_cons.1 ((h y).2 (by simp)) with e | h2
    ·exact e.symm
    ·have k1 : lessS x y = false := less_asymm (hb.1 x h1)
     have k2 : lessS x y = true := ha.1 y h2
     rw [k2] at k1
     cases k1
  subst e
  rw [sorted_ext ha.2 hb.2 fun z => ?_]
  constructor
  ·intro hz
   rcases List.mem_cons.1 ((h z).1 (by simp [hz])) with e | h1
   ·exact absurd e.symm (less_ne (ha.1 z hz))
   ·exact h1
  ·intro hz
   rcases List.mem_cons.1 ((h z).2 (by simp [hz])) with e | h1
   ·exact absurd e.symm (less_ne (hb.1 z hz))
   ·exact h1
theorem equal_ev (a : List S) (hl : a.length ≤ 4611686018427387904) : Ev (fun k => slices_Equal_string.f k a a) (true, ()) := by
 obtain ⟨r, r1, r2⟩ := eq_loop ([] : S) (e := fun x y => decide (x = y)) (fun x y => by simp) a a hl rfl (g := fun k i => slices_Equal_string.c0 k a a (a.length : Int) i) (fun k i => slices_Equal_string.c0_eq _ _ _ _ _)
 have : r = true := r2.2 rfl
 subst this
 exact Ev.eq (fun k => slices_Equal_string.f_eq _ _ _) (Ev.no (by simp) r1)
theorem idx_get {l : List S} (h : l.Nodup) {i : Nat} (hi : i < l.length) : l.idxOf l[i] = i := by
 have hm : l[i] ∈ l := List.getElem_mem hi
 have h1 := List.idxOf_lt_length_of_mem hm
 have h2 := List.getElem_idxOf h1
 rcases Nat.lt_trichotomy (l.idxOf l[i]) i with h3 | h3 | h3
 ·exact absurd h2 ((List.pairwise_iff_getElem.1 h) _ _ h1 hi h3)
 ·exact h3
 ·exact absurd h2.symm ((List.pairwise_iff_getElem.1 h) _ _ hi h1 h3)
open Classical in
theorem rtraps_ev {w : DWatch} {safe : S} {c : Int} (hc : Ev (fun k => perigeeref8_CheckWatch.f k w) (c, ())) (h0 : c = 0) (ok : ModesOk w) (ht : safe ∈ w.1) :
 Ev (fun k => perigeeref8_Traps.f k w safe) (w.1.filter fun m => decide (¬ ∃ n, Wi w.2.1 m n safe), (0, ())) := by
 have ml := ok.ml
 obtain ⟨⟨ds, u⟩, d1, D⟩ := far_ev ok ht
 have D : DistOk w.2.1 w.1 safe ds := D
 have key : ∀ m ∈ w.1, dAt w.1 ds m < 0 ↔ ¬ ∃ n, Wi w.2.1 m n safe := fun m hm => by
  constructor
  ·rintro h ⟨n, hn⟩
   obtain ⟨l, _, hl⟩ := wi_Pt n hn
   have := (D.min m hm l hl).1
   omega
  ·intro h
   apply Classical.byContradiction
   intro hn
   obtain ⟨l, _, hl⟩ := (D.pos m hm (by omega)).2
   exact h ⟨l.length, Pt_wi _ rfl hl⟩
 refine Ev.eq (fun k => perigeeref8_Traps.f_eq _ _ _) (Ev.bind hc (Ev.no (by simp [h0]) (Ev.bind (rhas_ev _ _ (by omega)) (Ev.no (by simp [ht]) (Ev.bind d1 ?_)))))
 have h := Ev.rng (σ := List S) ([] : S) w.1 (by omega) (g := fun k s i => perigeeref8_Traps.c0 k w.1 w.2.1 w.2.2.1 w.2.2.2 ds s i) (fun k s i => by rw [perigeeref8_Traps.c0_eq, D.len])
  (fun i s => s = (w.1.take i).filter fun m => decide (¬ ∃ n, Wi w.2.1 m n safe)) (fun _ _ _ => (w.1.filter fun m => decide (¬ ∃ n, Wi w.2.1 m n safe), (0, ()))) (fun s hs => by
   rw [hs, List.take_length]; exact Ev.now _) (fun j c cs s hj hc hd hget hw hs next => by
   simp only [Int.toNat_natCast, hget, hw]
   have hcj : w.1[j]? = some c := by
    have := congrArg (fun l => l[0]?) hd
    simpa using this
   have ht : w.1.take (j + 1) = w.1.take j ++ [c] := by
    rw [List.take_add_one, hcj]; rfl
   have hsl : s.length ≤ 50 := by
    rw [hs]
    exact Nat.le_trans (List.length_filter_le _ _) (Nat.le_trans (List.length_take_le _ _) (by omega))
   have e : ds.getD j 0 = dAt w.1 ds c := by
    have := idx_get (sorted_nodup (modes_sorted ok)) hj
    rw [(List.getElem?_eq_some_iff.1 hcj).2] at this
    unfold dAt
    rw [this]
   by_cases h1 : dAt w.1 ds c < 0
   ·have h1' : ds.getD j 0 < 0 := e ▸ h1
    refine Ev.yes (decide_eq_true h1') (Ev.yes (by omega) (Ev.yes (by omega) (next _ ?_)))
    have kn := (key c hc).1 h1
    rw [ht, List.filter_append, ← hs, List.filter_cons_of_pos (by simpa using kn)]; rfl
   ·refine Ev.no (fun h => h1 (by have h' : ds.getD j 0 < 0 := of_decide_eq_true h; rw [e] at h'; exact h')) (next _ ?_)
    have ke : ∃ n, Wi w.2.1 c n safe := Classical.byContradiction fun h => h1 ((key c hc).2 h)
    rw [ht, List.filter_append, ← hs, List.filter_cons_of_neg (by simpa using ke)]; simp) 0 [] (by omega) (by rfl)
 exact h
end Go.Proofs.Ytadhpgecilhgnaa.Pure

-- YtadhpgecilhgnaaQ12
set_option linter.unusedVariables false
set_option linter.unusedSimpArgs false
namespace Go.Proofs.Ytadhpgecilhgnaa.Pure
open Go Go.Proofs.Ytadhpgecilhgnaa.A

theorem put_in {l : List S} (hs : l.Pairwise lt1) {s : S} {k : Nat} (hk : k ≤ l.length) (h1 : ∀ x ∈ l.drop k, lt1 s x) (h2 : ∀ x ∈ l.take k, lt1 x s) :
 (l.take k ++ [s] ++ l.drop k).Pairwise lt1 ∧ ∀ x, x ∈ l.take k ++ [s] ++ l.drop k ↔ x = s ∨ x ∈ l := by
 constructor
 ·rw [List.append_assoc, List.pairwise_append]
  refine ⟨hs.sublist (List.take_sublist _ _), ?_, fun a ha b hb => ?_⟩
  ·rw [List.singleton_append, List.pairwise_cons]
   exact ⟨h1, hs.sublist (List.drop_sublist _ _)⟩
  ·rw [List.singleton_append] at hb
   rcases List.mem_cons.1 hb with e | hb
   ·rw [e]; exact h2 a ha
   ·exact less_trans (h2 a ha) (h1 b hb)
 ·intro x
  have : x ∈ l ↔ x ∈ l.take k ∨ x ∈ l.drop k := by
   conv => lhs; rw [← List.take_append_drop k l]
   rw [List.mem_append]
  rw [this]
  simp only [List.mem_append, List.mem_singleton]
  constructor
  ·rintro ((h | h) | h)
   ·exact .inr (.inl h)
   ·exact .inl h
   ·exact .inr (.inr h)
  ·rintro (h | h | h)
   ·exact .inl (.inr h)
   ·exact .inl (.inl h)
   ·exact .inr h
theorem inOrder_ev (l : List S) (s : S) (hl : l.length ≤ 100) (hs : l.Pairwise lt1) (hn : s ∉ l) : ∃ r : List S, Ev (fun k => perigeeref8_inOrder.f k l s) (r, ()) ∧ r.Pairwise lt1 ∧ (∀ x, x ∈ r ↔ x = s ∨ x ∈ l) := by
 have ins : ∀ k : Nat, k ≤ l.length → Ev (fun _ : Nat => if (0 : Int) ≤ 0 ∧ (0 : Int) ≤ (k : Int) ∧ ((k : Int) : Int) ≤ (l.length : Int) then
  (if 0 + ((l.take ((k : Int)).toNat).drop 0).length ≤ 1099511627776 then
   (if ((l.take ((k : Int)).toNat).drop 0).length + 1 ≤ 1099511627776 then
    (if (0 : Int) ≤ (k : Int) ∧ ((k : Int) : Int) ≤ (l.length : Int) ∧ ((l.length : Int) : Int) ≤ (l.length : Int) then
     (if (((l.take ((k : Int)).toNat).drop 0) ++ [s]).length + ((l.take l.length).drop ((k : Int)).toNat).length ≤ 1099511627776 then
      some (((((l.take ((k : Int)).toNat).drop 0) ++ [s]) ++ ((l.take l.length).drop ((k : Int)).toNat)), ())
      else none)
     else none)
    else none)
   else none)
  else none) (l.take k ++ [s] ++ l.drop k, ()) := fun k hk => by
  have l1 : ((l.take ((k : Int)).toNat).drop 0).length ≤ 100 := by rw [List.drop_zero, Int.toNat_natCast]; exact Nat.le_trans (List.length_take_le _ _) (by omega)
  have l2 : ((l.take l.length).drop ((k : Int)).toNat).length ≤ 100 := by rw [List.take_length, List.length_drop]; omega
  refine Ev.yes (by omega) (Ev.yes (by omega) (Ev.yes (by omega) (Ev.yes (by omega) (Ev.yes (by rw [List.length_append]; simp only [List.length_cons, List.length_nil]; omega) (Ev.is ?_)))))
  rw [Int.toNat_natCast, List.drop_zero, List.take_length]
 have loop : ∀ k : Nat, k ≤ l.length → (∀ x ∈ l.drop k, lt1 s x) → ∃ r : List S, Ev (fun n => perigeeref8_inOrder.c0 n l s (k : Int)) (r, ()) ∧ r.Pairwise lt1 ∧ (∀ x, x ∈ r ↔ x = s ∨ x ∈ l) := by
  intro k
  induction k with
  | zero =>
   intro hk hd
   obtain ⟨p1, p2⟩ := put_in hs (k := 0) hk hd (fun x hx => by simp at hx)
   exact ⟨_, Ev.step (fun n => perigeeref8_inOrder.c0_eq _ _ _ _) (Ev.no (by simp) (Ev.no (by simp) (ins 0 hk))), p1, p2⟩
  | succ k ih =>
   intro hk hd
   have hw : IntKind.wrap .i64 (((k + 1 : Nat) : Int) - 1) = (k : Int) := by rw [w64 (by omega) (by omega)]; omega
   have hkl : k < l.length := by omega
   have hg := getD_nat ([] : S) l k hkl
   have hmem : l[k] ∈ l := List.getElem_mem hkl
   by_cases h1 : lessS s l[k] = true
   ·obtain ⟨r, r1, r2⟩ := ih (by omega) (fun x hx => by
     rw [List.drop_eq_getElem_cons hkl] at hx
     rcases List.mem_cons.1 hx with e | hx
     ·rw [e]; exact h1
     ·exact hd x hx)
    refine ⟨r, Ev.step (fun n => perigeeref8_inOrder.c0_eq _ _ _ _) (Ev.yes (decide_eq_true (by omega)) ?_), r2⟩
    rw [hw]
    simp only [Int.toNat_natCast, hg]
    exact Ev.yes (by omega) (Ev.yes h1 r1)
   ·have hne : l[k] ≠ s := fun e => hn (e ▸ hmem)
    have hlt : lt1 l[k] s := less_tri h1 (fun e => hne e.symm)
    obtain ⟨p1, p2⟩ := put_in hs (k := k + 1) hk hd (fun x hx => by
     rw [List.take_add_one, List.getElem?_eq_getElem hkl] at hx
     rcases List.mem_append.1 hx with hx | hx
     ·obtain ⟨j, hj, e⟩ := List.getElem_of_mem hx
      rw [List.getElem_take] at e
      have hj' : j < k := by rw [List.length_take] at hj; omega
      have := (List.pairwise_iff_getElem.1 hs) j k (by omega) hkl hj'
      rw [← e]
      exact less_trans this hlt
     ·simp at hx
      rw [hx]; exact hlt)
    refine ⟨_, Ev.step (fun n => perigeeref8_inOrder.c0_eq _ _ _ _) (Ev.yes (decide_eq_true (by omega)) ?_), p1, p2⟩
    rw [hw]
    simp only [Int.toNat_natCast, hg]
    have h0 := ins (k + 1) hk
    simp only [Int.toNat_natCast] at h0
    exact Ev.yes (by omega) (Ev.no h1 (Ev.yes (decide_eq_true (by omega)) (Ev.yes (by omega) (Ev.no (fun h => hne (of_decide_eq_true h)) h0))))
 obtain ⟨r, r1, r2, r3⟩ := loop l.length (Nat.le_refl _) (fun x hx => by rw [List.drop_length] at hx; cases hx)
 exact ⟨r, Ev.eq (fun k => perigeeref8_inOrder.f_eq _ _ _) r1, r2, r3⟩
structure RR (C : List DModeChange) (ms : List S) (fr : S) (R Q : List S) (t : Nat) : Prop where
 so : R.Pairwise lt1
 me : ∀ x, x ∈ R ↔ x ∈ Q
 nd : Q.Nodup
 sd : ∀ x ∈ Q, x ∈ ms ∧ ∃ n, Wi C fr n x
 fr' : fr ∈ Q
 cl : ∀ z ∈ Q.take t, ∀ c ∈ C, c.1 = z → c.2.2 ∈ Q
section
variable {w : DWatch} {fr : S}
theorem rr_done {R Q : List S} {t : Nat} (h : RR w.2.1 w.1 fr R Q t) (ht : Q.length ≤ t) : ∀ x, x ∈ R ↔ ∃ n, Wi w.2.1 fr n x := fun x => by
 have all : Q.take t = Q := List.take_of_length_le ht
 rw [h.me]
 refine ⟨fun hx => (h.sd x hx).2, ?_⟩
 rintro ⟨n, hn⟩
 induction n generalizing x with
 | zero => exact (show x = fr from hn) ▸ h.fr'
 | succ n ih =>
  rcases hn with hn | ⟨c, hc, h1, h2⟩
  ·exact ih x hn
  ·exact h2 ▸ h.cl c.1 (by rw [all]; exact ih _ h1) c hc rfl
theorem rreach_loop (ok : ModesOk w) : ∀ (d t : Nat) (R Q : List S), RR w.2.1 w.1 fr R Q t → t + d = 51 →
 ∃ r : List S × Int × Unit, Ev (fun k => perigeeref8_Reached.c0 k w.1 w.2.1 w.2.2.1 w.2.2.2 R Q (t : Int)) r ∧ r.2.1 = 0 ∧ r.1.Pairwise lt1 ∧ ∀ x, x ∈ r.1 ↔ ∃ n, Wi w.2.1 fr n x := by
 have ml := ok.ml
 have cl := ok.cl
 intro d
 induction d with
 | zero =>
  intro t R Q h ht
  have h2 := nodup_len (m := w.1) h.nd fun y hy => (h.sd y hy).1
  exact ⟨(R, (0, ())), Ev.step (fun k => perigeeref8_Reached.c0_eq _ _ _ _ _ _ _ _) (Ev.no (by simp; omega) (Ev.now _)), rfl, h.so, rr_done h (by omega)⟩
 | succ d ih =>
  intro t R Q h ht
  have h2 := nodup_len (m := w.1) h.nd fun y hy => (h.sd y hy).1
  by_cases hq : t < Q.length
  case neg => exact ⟨(R, (0, ())), Ev.step (fun k => perigeeref8_Reached.c0_eq _ _ _ _ _ _ _ _) (Ev.no (by simp; omega) (Ev.now _)), rfl, h.so, rr_done h (by omega)⟩
  obtain ⟨hd, hhd⟩ : ∃ hd, Q[t]? = some hd := ⟨_, List.getElem?_eq_getElem hq⟩
  have := Ev.rngR (σ := List S × List S) (Ty.dflt YModeChange) w.2.1 (by omega) (g := fun k s i => perigeeref8_Reached.c1 k w.1 w.2.1 w.2.2.1 w.2.2.2 s.1 s.2 (t : Int) i) (fun k s i => perigeeref8_Reached.c1_eq _ _ _ _ _ _ _ _ _)
   (fun i s => RR w.2.1 w.1 fr s.1 s.2 t ∧ s.2[t]? = some hd ∧ ∀ c ∈ w.2.1.take i, c.1 = hd → c.2.2 ∈ s.2)
   (fun r => r.2.1 = 0 ∧ r.1.Pairwise lt1 ∧ ∀ x, x ∈ r.1 ↔ ∃ n, Wi w.2.1 fr n x) (fun s hs => ?_) (fun i c s hi hc hget hgd hw hs next => ?_) 0 (R, Q) (by omega) ⟨h, hhd, fun c hc => by simp at hc⟩
  ·obtain ⟨r, r1, r2⟩ := this
   exact ⟨r, Ev.step (fun k => perigeeref8_Reached.c0_eq _ _ _ _ _ _ _ _) (Ev.yes (decide_eq_true (by omega)) r1), r2⟩
  ·obtain ⟨s1, s2⟩ := s
   obtain ⟨a1, a2, a3⟩ := hs
   simp only [List.take_length] at a1 a2 a3
   have bi' : RR w.2.1 w.1 fr s1 s2 (t + 1) := by
    refine ⟨a1.so, a1.me, a1.nd, a1.sd, a1.fr', fun z hz c hc e => ?_⟩
    rw [List.take_add_one, a2] at hz
    rcases List.mem_append.1 hz with hz | hz
    ·exact a1.cl z hz c hc e
    ·simp at hz
     subst hz
     exact a3 c hc e
   obtain ⟨r, r1, r2⟩ := ih (t + 1) s1 s2 bi' (by omega)
   refine ⟨r, ?_, r2⟩
   rw [w64 (by omega) (by omega)]
   rw [show ((t + 1 : Nat) : Int) = (t : Int) + 1 by omega] at r1
   exact r1
  ·obtain ⟨s1, s2⟩ := s
   obtain ⟨a1, a2, a3⟩ := hs
   simp only at a1 a2 a3
   have hts : t < s2.length := (List.getElem?_eq_some_iff.1 a2).1
   have hdQ : hd ∈ s2 := List.mem_of_getElem? a2
   have hgh : s2.getD t [] = hd := by rw [List.getD_eq_getElem?_getD, a2]; rfl
   simp only [Int.toNat_natCast, hgd, hw, hgh]
   have ht2 : w.2.1.take (i + 1) = w.2.1.take i ++ [c] := by rw [List.take_add_one, hget]; rfl
   have hn2 := nodup_len (m := w.1) a1.nd fun y hy => (a1.sd y hy).1
   have hn1 := nodup_len (m := w.1) (sorted_nodup a1.so) fun y hy => (a1.sd y ((a1.me y).1 hy)).1
   have same : (c.1 = hd → c.2.2 ∈ s2) → ∃ r : List S × Int × Unit, Ev (fun k => perigeeref8_Reached.c1 k w.1 w.2.1 w.2.2.1 w.2.2.2 s1 s2 (t : Int) ((i : Int) + 1)) r ∧ r.2.1 = 0 ∧ r.1.Pairwise lt1 ∧ ∀ x, x ∈ r.1 ↔ ∃ n, Wi w.2.1 fr n x := fun hc2 => next (s1, s2) ⟨a1, a2, fun e he e1 => by
    rw [ht2] at he
    rcases List.mem_append.1 he with he | he
    ·exact a3 e he e1
    ·simp at he; subst he; exact hc2 e1⟩
   by_cases h1 : c.1 = hd
   case neg =>
    obtain ⟨r, r1, r2⟩ := same fun e => absurd e h1
    exact ⟨r, Ev.yes (by omega) (Ev.no (fun h => h1 (of_decide_eq_true h)) r1), r2⟩
   by_cases h3 : c.2.2 ∈ s1
   ·obtain ⟨r, r1, r2⟩ := same fun _ => (a1.me _).1 h3
    exact ⟨r, Ev.yes (by omega) (Ev.yes (decide_eq_true h1) (Ev.bind (rhas_ev s1 c.2.2 (by omega)) (Ev.no (by simp [h3]) r1))), r2⟩
   obtain ⟨R', o1, o2, o3⟩ := inOrder_ev s1 c.2.2 (by omega) a1.so h3
   obtain ⟨n, hn⟩ := (a1.sd hd hdQ).2
   have nq : c.2.2 ∉ s2 := fun h => h3 ((a1.me _).2 h)
   have bi : RR w.2.1 w.1 fr R' (s2 ++ [c.2.2]) t := by
    refine ⟨o2, fun x => ?_, ?_, fun x hx => ?_, List.mem_append_left _ a1.fr', fun z hz e he e1 => ?_⟩
    ·rw [o3, a1.me, List.mem_append, List.mem_singleton]
     exact Or.comm
    ·rw [List.nodup_append]
     refine ⟨a1.nd, by simp, fun a ha b hb => ?_⟩
     simp at hb
     subst hb
     exact fun e => nq (e ▸ ha)
    ·rcases List.mem_append.1 hx with hx | hx
     ·exact a1.sd x hx
     ·simp at hx
      subst hx
      exact ⟨(ok.ch c hc).2, n + 1, .inr ⟨c, hc, h1 ▸ hn, rfl⟩⟩
    ·rw [List.take_append_of_le_length (by omega)] at hz
     exact List.mem_append_left _ (a1.cl z hz e he e1)
   obtain ⟨r, r1, r2⟩ := next (R', s2 ++ [c.2.2]) ⟨bi, by rw [List.getElem?_append_left hts]; exact a2, fun e he e1 => by
    rw [ht2] at he
    rcases List.mem_append.1 he with he | he
    ·exact List.mem_append_left _ (a3 e he e1)
    ·simp at he
     subst he
     exact List.mem_append_right _ (by simp)⟩
   exact ⟨r, Ev.yes (by omega) (Ev.yes (decide_eq_true h1) (Ev.bind (rhas_ev s1 c.2.2 (by omega)) (Ev.yes (by simp [h3]) (Ev.bind o1 (Ev.yes (by omega) r1))))), r2⟩
theorem rreached_ev {c : Int} (hc : Ev (fun k => perigeeref8_CheckWatch.f k w) (c, ())) (h0 : c = 0) (ok : ModesOk w) (hf : fr ∈ w.1) :
 ∃ r : List S × Int × Unit, Ev (fun k => perigeeref8_Reached.f k w fr) r ∧ r.2.1 = 0 ∧ r.1.Pairwise lt1 ∧ ∀ x, x ∈ r.1 ↔ ∃ n, Wi w.2.1 fr n x := by
 have ml := ok.ml
 obtain ⟨r, r1, r2⟩ := rreach_loop (w := w) (fr := fr) ok 51 0 [fr] [fr] ⟨by simp, fun _ => Iff.rfl, by simp, fun x hx => by
  simp at hx; subst hx; exact ⟨hf, 0, rfl⟩, by simp, fun z hz => by simp at hz⟩ (by omega)
 exact ⟨r, Ev.eq (fun k => perigeeref8_Reached.f_eq _ _ _) (Ev.bind hc (Ev.no (by simp [h0]) (Ev.bind (rhas_ev _ _ (by omega)) (Ev.no (by simp [hf]) r1)))), r2⟩
end
end Go.Proofs.Ytadhpgecilhgnaa.Pure

-- YtadhpgecilhgnaaPureWatchesFindMatchSpec
set_option linter.unusedVariables false
set_option linter.unusedSimpArgs false
namespace Go.Proofs.Ytadhpgecilhgnaa.Pure
open Go Go.Proofs.Ytadhpgecilhgnaa.A
section
variable {w : DWatch} {c : Int}
open Classical in
theorem find_reached (fr : S) (h1 : Ev (fun k => monitor_CheckWatch.f k w) (c, ())) (h2 : Ev (fun k => perigeeref8_CheckWatch.f k w) (c, ())) (ok : c = 0 → ModesOk w) :
 ∃ r : List S × Int × Unit, r.1.length ≤ 50 ∧ Ev (fun k => monitor_Reached.f k w fr) r ∧ Ev (fun k => perigeeref8_Reached.f k w fr) r := by
 by_cases h0 : c = 0
 case neg => exact ⟨([], (c, ())), by simp, Ev.eq (fun k => monitor_Reached.f_eq _ _ _) (Ev.bind h1 (Ev.yes (by simpa using h0) (Ev.now _))), Ev.eq (fun k => perigeeref8_Reached.f_eq _ _ _) (Ev.bind h2 (Ev.yes (by simpa using h0) (Ev.now _)))⟩
 have ok := ok h0
 have ml := ok.ml
 by_cases hf : fr ∈ w.1
 case neg => exact ⟨([], (9, ())), by simp, Ev.eq (fun k => monitor_Reached.f_eq _ _ _) (Ev.bind h1 (Ev.no (by simp [h0]) (Ev.bind (contains_ev _ _ (by omega)) (Ev.yes (by simp [hf]) (Ev.now _))))), Ev.eq (fun k => perigeeref8_Reached.f_eq _ _ _) (Ev.bind h2 (Ev.no (by simp [h0]) (Ev.bind (rhas_ev _ _ (by omega)) (Ev.yes (by simp [hf]) (Ev.now _)))))⟩
 obtain ⟨⟨R, c', u⟩, r1, r2, r3, r4⟩ := rreached_ev (fr := fr) h2 h0 ok hf
 have r2 : c' = 0 := r2
 subst r2
 have e : (w.1.filter fun m => decide (∃ n, Wi w.2.1 fr n m)) = R := by
  refine sorted_ext ((modes_sorted ok).sublist List.filter_sublist) r3 fun x => ?_
  have r4 : x ∈ R ↔ ∃ n, Wi w.2.1 fr n x := r4 x
  rw [List.mem_filter, r4]
  refine ⟨fun h => by simpa using h.2, fun h => ⟨?_, by simpa using h⟩⟩
  obtain ⟨n, hn⟩ := h
  have all : ∀ (n : Nat) (y : S), Wi w.2.1 fr n y → y ∈ w.1 := by
   intro n
   induction n with
   | zero => intro y hy; exact (show y = fr from hy) ▸ hf
   | succ n ih =>
    intro y hy
    rcases hy with hy | ⟨d, hd, _, e⟩
    ·exact ih y hy
    ·exact e ▸ (ok.ch d hd).2
  exact all n x hn
 have m := reached_ev w fr h1 h0 ok hf
 rw [e] at m
 refine ⟨(R, (0, u)), ?_, m, r1⟩
 have := Nat.le_trans (List.length_filter_le (fun m => decide (∃ n, Wi w.2.1 fr n m)) w.1) ml
 rw [e] at this
 exact this
open Classical in
theorem find_traps (to : S) (h1 : Ev (fun k => monitor_CheckWatch.f k w) (c, ())) (h2 : Ev (fun k => perigeeref8_CheckWatch.f k w) (c, ())) (ok : c = 0 → ModesOk w) :
 ∃ r : List S × Int × Unit, r.1.length ≤ 50 ∧ Ev (fun k => monitor_Traps.f k w to) r ∧ Ev (fun k => perigeeref8_Traps.f k w to) r := by
 by_cases h0 : c = 0
 case neg => exact ⟨([], (c, ())), by simp, Ev.eq (fun k => monitor_Traps.f_eq _ _ _) (Ev.bind h1 (Ev.yes (by simpa using h0) (Ev.now _))), Ev.eq (fun k => perigeeref8_Traps.f_eq _ _ _) (Ev.bind h2 (Ev.yes (by simpa using h0) (Ev.now _)))⟩
 have ok := ok h0
 have ml := ok.ml
 by_cases hf : to ∈ w.1
 case neg => exact ⟨([], (9, ())), by simp, Ev.eq (fun k => monitor_Traps.f_eq _ _ _) (Ev.bind h1 (Ev.no (by simp [h0]) (Ev.bind (contains_ev _ _ (by omega)) (Ev.yes (by simp [hf]) (Ev.now _))))), Ev.eq (fun k => perigeeref8_Traps.f_eq _ _ _) (Ev.bind h2 (Ev.no (by simp [h0]) (Ev.bind (rhas_ev _ _ (by omega)) (Ev.yes (by simp [hf]) (Ev.now _)))))⟩
 exact ⟨_, Nat.le_trans (List.length_filter_le _ _) ml, traps_ev w to h1 h0 ok hf, rtraps_ev h2 h0 ok hf⟩
theorem find_ways (fr to : S) (h1 : Ev (fun k => monitor_CheckWatch.f k w) (c, ())) (h2 : Ev (fun k => perigeeref8_CheckWatch.f k w) (c, ())) (ok : c = 0 → ModesOk w) :
 ∃ r : List S × Bool × Int × Unit, r.1.length ≤ 1000 ∧ Ev (fun k => monitor_Ways.f k w fr to) r ∧ Ev (fun k => perigeeref8_Ways.f k w fr to) r := by
 by_cases h0 : c = 0
 case neg => exact ⟨([], (false, (c, ()))), by simp, Ev.eq (fun k => monitor_Ways.f_eq _ _ _ _) (Ev.bind h1 (Ev.yes (by simpa using h0) (Ev.now _))), Ev.eq (fun k => perigeeref8_Ways.f_eq _ _ _ _) (Ev.bind h2 (Ev.yes (by simpa using h0) (Ev.now _)))⟩
 have ok' := ok h0
 have ml := ok'.ml
 by_cases hf : fr ∈ w.1
 case neg => exact ⟨([], (false, (9, ()))), by simp, Ev.eq (fun k => monitor_Ways.f_eq _ _ _ _) (Ev.bind h1 (Ev.no (by simp [h0]) (Ev.bind (contains_ev _ _ (by omega)) (Ev.yes (by simp [hf]) (Ev.now _))))), Ev.eq (fun k => perigeeref8_Ways.f_eq _ _ _ _) (Ev.bind h2 (Ev.no (by simp [h0]) (Ev.bind (rhas_ev _ _ (by omega)) (Ev.yes (by simp [hf]) (Ev.now _)))))⟩
 by_cases ht : to ∈ w.1
 case neg => exact ⟨([], (false, (9, ()))), by simp, Ev.eq (fun k => monitor_Ways.f_eq _ _ _ _) (Ev.bind h1 (Ev.no (by simp [h0]) (Ev.bind (contains_ev _ _ (by omega)) (Ev.no (by simp [hf]) (Ev.bind (contains_ev _ _ (by omega)) (Ev.yes (by simp [ht]) (Ev.now _))))))), Ev.eq (fun k => perigeeref8_Ways.f_eq _ _ _ _) (Ev.bind h2 (Ev.no (by simp [h0]) (Ev.bind (rhas_ev _ _ (by omega)) (Ev.no (by simp [hf]) (Ev.bind (rhas_ev _ _ (by omega)) (Ev.yes (by simp [ht]) (Ev.now _)))))))⟩
 obtain ⟨⟨l, is, f, u⟩, r1, r2⟩ := ways_ev w fr to h1 ok
 rcases r2 with ⟨_, _, _, bad⟩ | ⟨_, _, _, b3, b4⟩
 ·exact absurd ⟨h0, hf, ht⟩ bad
 have b3 : f = 0 := b3
 subst b3
 rcases b4 with ⟨c1, ⟨n, hn⟩, c3, c4, c5, c6, c7⟩ | ⟨c1, c2, c3⟩
 ·have c1 : is = true := c1
  subst c1
  have c3 : ∀ k, k < l.length → ¬ Wi w.2.1 fr k to := c3
  have c6 : Pt w.2.1 fr l to := c6
  have c7 : ∀ l', l'.length = l.length → Pt w.2.1 fr l' to → ¬ lxl l' l := c7
  rcases rways_ev fr h2 h0 ok' hf ht with ⟨m, m1, m2, m3, m4⟩ | ⟨m1, m2⟩
  ·have e1 : m.length = l.length := by
    have k1 := m2 l c6
    have k2 : ¬ m.length < l.length := fun h => c3 _ h (Pt_wi _ rfl m1)
    omega
   have e : m = l := lxl_total (c7 m e1 m1) (m3 l e1.symm c6)
   subst e
   exact ⟨(m, (true, (0, u))), c5, r1, m4⟩
  ·exact absurd c6 (m1 l)
 ·have c1 : is = false := c1
  have c2 : l = [] := c2
  subst c1; subst c2
  rcases rways_ev fr h2 h0 ok' hf ht with ⟨m, m1, _⟩ | ⟨m1, m2⟩
  ·exact absurd (Pt_wi _ rfl m1) (c3 _)
  ·exact ⟨([], (false, (0, u))), by simp, r1, m2⟩
end
theorem WatchesFindMatchSpec (w : DWatch) (fr to : S) (h0 : okT YWatch w) (h1 : okT .str fr) (h2 : okT .str to) : ∃ n, perigeelaw8_WatchesFindMatchSpec.f n w fr to = some (true, ()) := by
 refine Ev.rounds (g := fun k => perigeelaw8_WatchesFindMatchSpec.f k w fr to) ?_
 obtain ⟨c, q1, q2⟩ := watch_twin w h0
 have ok : c = 0 → ModesOk w := fun hc => by
  obtain ⟨q, k1, k2⟩ := watch_ev w h0
  have e := k1.unique q1
  exact k2 (by rw [e]; exact hc)
 obtain ⟨r, r0, r1, r2⟩ := find_reached fr q1 q2 ok
 obtain ⟨s, s0, s1, s2⟩ := find_ways fr to q1 q2 ok
 obtain ⟨t, t0, t1, t2⟩ := find_traps to q1 q2 ok
 refine Ev.eq (fun k => perigeelaw8_WatchesFindMatchSpec.f_eq _ _ _ _) (Ev.bind r1 (Ev.bind r2 (Ev.bind (equal_ev r.1 (by omega)) (Ev.no (by simp) (Ev.no (by simp) ?_)))))
 refine Ev.step (fun k => perigeelaw8_WatchesFindMatchSpec.c0_eq _ _ _ _ _ _ _) (Ev.bind s1 (Ev.bind s2 (Ev.bind (equal_ev s.1 (by omega)) (Ev.no (by simp) (Ev.no (by simp) (Ev.no (by simp) ?_))))))
 exact Ev.step (fun k => perigeelaw8_WatchesFindMatchSpec.c1_eq _ _ _ _ _ _) (Ev.bind t1 (Ev.bind t2 (Ev.bind (equal_ev t.1 (by omega)) (Ev.yes rfl (Ev.yes (by simp) (Ev.bind awake_ev (Ev.now _)))))))
end Go.Proofs.Ytadhpgecilhgnaa.Pure
