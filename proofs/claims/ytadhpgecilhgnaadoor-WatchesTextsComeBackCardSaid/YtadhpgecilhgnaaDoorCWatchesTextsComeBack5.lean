/- A watch is read as it was written, and the text of what was read is the text: for every watch and text the law returns true. The row lists two package-level variables with what they hold; the card ties them to the pruned copy of the program's text. -/
import Derived.Laws.Strings
import Derived.Test.YtadhpgecilhgnaaDoorChecked
import Derived.Test.YtadhpgecilhgnaaDoorCWatchesTextsComeBack4
-- YtadhpgecilhgnaaDoorK
set_option linter.unusedVariables false
set_option maxRecDepth 100000
namespace Go.Proofs.YtadhpgecilhgnaaDoor.A
open Go
theorem follows : Tryd.prog.follows .mixedOrders = true := by kernel_rfl
theorem tab_ok : TabOk Tryd.prog tab := tabOk_of (by kernel_rfl)
theorem idx_le : ∀ (s : List UInt8) (c : UInt8), Lib.indexByte s c ≤ s.length
 | [], _ => by simp [Lib.indexByte]
 | b :: l, c => by
  have ih := idx_le l c
  unfold Lib.indexByte
  split
  ·simp; omega
  ·split
   ·simp; omega
   ·simp; omega
theorem idx_range (s : List UInt8) (c : UInt8) (hk : s.length ≤ 4611686018427387904) : IntKind.i64.min ≤ Lib.indexByte s c ∧ Lib.indexByte s c ≤ IntKind.i64.max := by
 have h1 : IntKind.i64.min = -9223372036854775808 := rfl
 have h2 : IntKind.i64.max = 9223372036854775807 := rfl
 rw [h1, h2]
 have := idx_le s c
 have := Lib.indexByte_ge s c
 omega
theorem cnt_range (s : List UInt8) (c : UInt8) (hk : s.length ≤ 4611686018427387904) : IntKind.i64.min ≤ (Lib.countByte s c : Int) ∧ (Lib.countByte s c : Int) ≤ IntKind.i64.max := by
 have h1 : IntKind.i64.min = -9223372036854775808 := rfl
 have h2 : IntKind.i64.max = 9223372036854775807 := rfl
 rw [h1, h2]
 have : Lib.countByte s c ≤ s.length := List.count_le_length
 omega
theorem strings_Index.ok (n : Nat) : FunC Tryd.prog 36 (strings_Index.E n) := by
 refine ⟨fun _ fr Z w xs vs Fs r hZ hA hn hF hr => ?_, fun _ _ h => (by have h2 : (none : Option ((e : Ty) × (List e.den → Option (List e.den)))) = some _ := h; cases h2), Tryd.f36, Tryd.func36, by kernel_rfl, by kernel_rfl⟩
 obtain ⟨v0, vs0, F0, G0, rfl, rfl, ⟨c0, i0, q0⟩, v1, vs1, F1, G1, rfl, rfl, ⟨c1, i1, q1⟩, rfl, rfl⟩ := hA
 have i0 : c0 = [v0] := i0
 have i1 : c1 = [v1] := i1
 subst i0; subst i1
 obtain ⟨q0, rfl, l0⟩ := q0
 obtain ⟨q1, rfl, l1⟩ := q1
 simp only [List.cons.injEq, and_true] at q0
 simp only [List.cons.injEq, and_true] at q1
 subst q0; subst q1
 obtain ⟨s, sep, u⟩ := xs
 have hr : strings_Index.f n s sep = some r := hr
 unfold strings_Index.f at hr
 split at hr
 rotate_left
 ·cases hr
 rename_i c hr0
 split at hr
 case isFalse => cases hr
 rename_i hk
 cases hr
 refine (Tryd.strings_Index_one ⟨⟨s⟩⟩ c w).mono ?_
 rintro e w' ⟨rfl, rfl⟩
 refine ⟨_, Z, [.int .i64 (Lib.indexByte s c)], [], [], rfl, Kept.refl _ _, fun _ h => h, hZ, fun _ h _ => .inl h, ?_, rfl, rfl, by simp, by simp⟩
 exact ⟨_, [], [], [], rfl, rfl, ⟨[_], rfl, rfl, rfl, idx_range _ _ hk⟩, rfl, rfl⟩

theorem strings_Count.ok (n : Nat) : FunC Tryd.prog 21 (strings_Count.E n) := by
 refine ⟨fun _ fr Z w xs vs Fs r hZ hA hn hF hr => ?_, fun _ _ h => (by have h2 : (none : Option ((e : Ty) × (List e.den → Option (List e.den)))) = some _ := h; cases h2), Tryd.f21, Tryd.func21, by kernel_rfl, by kernel_rfl⟩
 obtain ⟨v0, vs0, F0, G0, rfl, rfl, ⟨c0, i0, q0⟩, v1, vs1, F1, G1, rfl, rfl, ⟨c1, i1, q1⟩, rfl, rfl⟩ := hA
 have i0 : c0 = [v0] := i0
 have i1 : c1 = [v1] := i1
 subst i0; subst i1
 obtain ⟨q0, rfl, l0⟩ := q0
 obtain ⟨q1, rfl, l1⟩ := q1
 simp only [List.cons.injEq, and_true] at q0
 simp only [List.cons.injEq, and_true] at q1
 subst q0; subst q1
 obtain ⟨s, sep, u⟩ := xs
 have hr : strings_Count.f n s sep = some r := hr
 unfold strings_Count.f at hr
 split at hr
 rotate_left
 ·cases hr
 rename_i c hr0
 split at hr
 case isFalse => cases hr
 rename_i hk
 cases hr
 refine (Tryd.strings_Count_one ⟨⟨s⟩⟩ c w).mono ?_
 rintro e w' ⟨rfl, rfl⟩
 refine ⟨_, Z, [.int .i64 ((Lib.countByte s c : Int))], [], [], rfl, Kept.refl _ _, fun _ h => h, hZ, fun _ h _ => .inl h, ?_, rfl, rfl, by simp, by simp⟩
 exact ⟨_, [], [], [], rfl, rfl, ⟨[_], rfl, rfl, rfl, cnt_range _ _ hk⟩, rfl, rfl⟩

theorem strings_explode.ok (n : Nat) : FunC Tryd.prog 65 (strings_explode.E n) := ⟨fun _ _ _ _ _ _ _ _ _ _ _ _ h => (by cases h), fun _ _ h => (by have h2 : (none : Option ((e : Ty) × (List e.den → Option (List e.den)))) = some _ := h; cases h2), Tryd.f65, Tryd.func65, by kernel_rfl, by kernel_rfl⟩

theorem strings_genSplit.ok (n : Nat) : FunC Tryd.prog 61 (strings_genSplit.E n) := funC_of follows tab_ok Tryd.func61 (T := strings_genSplit.T) (ann := strings_genSplit.ann) (ins := strings_genSplit.ins) (outs := strings_genSplit.outs) (n := n) (fun k => TOk.cons (strings_Count.ok k) (TOk.cons (strings_Index.ok k) (TOk.cons (strings_explode.ok k) (TOk.nil)))) (by kernel_rfl) (by kernel_rfl)
theorem strings_Split.ok (n : Nat) : FunC Tryd.prog 55 (strings_Split.E n) := funC_of follows tab_ok Tryd.func55 (T := strings_Split.T) (ann := strings_Split.ann) (ins := strings_Split.ins) (outs := strings_Split.outs) (n := n) (fun k => TOk.cons (strings_genSplit.ok k) (TOk.nil)) (by kernel_rfl) (by kernel_rfl)
theorem monitor_words.ok (n : Nat) : FunC Tryd.prog 32 (monitor_words.E n) := funC_of follows tab_ok Tryd.func32 (T := monitor_words.T) (ann := monitor_words.ann) (ins := monitor_words.ins) (outs := monitor_words.outs) (n := n) (fun k => TOk.cons (strings_Split.ok k) (TOk.nil)) (by kernel_rfl) (by kernel_rfl)
theorem monitor_actOf.ok (n : Nat) : FunC Tryd.prog 33 (monitor_actOf.E n) := funC_of follows tab_ok Tryd.func33 (T := monitor_actOf.T) (ann := monitor_actOf.ann) (ins := monitor_actOf.ins) (outs := monitor_actOf.outs) (n := n) (fun k => TOk.nil) (by kernel_rfl) (by kernel_rfl)
theorem monitor_reader_take.ok (n : Nat) : FunC Tryd.prog 20 (monitor_reader_take.E n) := funC_of follows tab_ok Tryd.func20 (T := monitor_reader_take.T) (ann := monitor_reader_take.ann) (ins := monitor_reader_take.ins) (outs := monitor_reader_take.outs) (n := n) (fun k => TOk.cons (monitor_words.ok k) (TOk.cons (monitor_actOf.ok k) (TOk.nil))) (by kernel_rfl) (by kernel_rfl)
theorem monitor_IsName.ok (n : Nat) : FunC Tryd.prog 49 (monitor_IsName.E n) := funC_of follows tab_ok Tryd.func49 (T := monitor_IsName.T) (ann := monitor_IsName.ann) (ins := monitor_IsName.ins) (outs := monitor_IsName.outs) (n := n) (fun k => TOk.nil) (by kernel_rfl) (by kernel_rfl)
theorem slices_Index_string.ok (n : Nat) : FunC Tryd.prog 58 (slices_Index_string.E n) := funC_of follows tab_ok Tryd.func58 (T := slices_Index_string.T) (ann := slices_Index_string.ann) (ins := slices_Index_string.ins) (outs := slices_Index_string.outs) (n := n) (fun k => TOk.nil) (by kernel_rfl) (by kernel_rfl)
theorem slices_Contains_string.ok (n : Nat) : FunC Tryd.prog 50 (slices_Contains_string.E n) := funC_of follows tab_ok Tryd.func50 (T := slices_Contains_string.T) (ann := slices_Contains_string.ann) (ins := slices_Contains_string.ins) (outs := slices_Contains_string.outs) (n := n) (fun k => TOk.cons (slices_Index_string.ok k) (TOk.nil)) (by kernel_rfl) (by kernel_rfl)
theorem monitor_checkModes.ok (n : Nat) : FunC Tryd.prog 27 (monitor_checkModes.E n) := funC_of follows tab_ok Tryd.func27 (T := monitor_checkModes.T) (ann := monitor_checkModes.ann) (ins := monitor_checkModes.ins) (outs := monitor_checkModes.outs) (n := n) (fun k => TOk.cons (monitor_IsName.ok k) (TOk.cons (slices_Contains_string.ok k) (TOk.nil))) (by kernel_rfl) (by kernel_rfl)
theorem kit_In.ok (n : Nat) : FunC Tryd.prog 51 (kit_In.E n) := funC_of follows tab_ok Tryd.func51 (T := kit_In.T) (ann := kit_In.ann) (ins := kit_In.ins) (outs := kit_In.outs) (n := n) (fun k => TOk.nil) (by kernel_rfl) (by kernel_rfl)
theorem monitor_checkRule.ok (n : Nat) : FunC Tryd.prog 28 (monitor_checkRule.E n) := funC_of follows tab_ok Tryd.func28 (T := monitor_checkRule.T) (ann := monitor_checkRule.ann) (ins := monitor_checkRule.ins) (outs := monitor_checkRule.outs) (n := n) (fun k => TOk.cons (monitor_IsName.ok k) (TOk.cons (slices_Contains_string.ok k) (TOk.cons (kit_In.ok k) (TOk.nil)))) (by kernel_rfl) (by kernel_rfl)
theorem monitor_CheckWatch.ok (n : Nat) : FunC Tryd.prog 11 (monitor_CheckWatch.E n) := funC_of follows tab_ok Tryd.func11 (T := monitor_CheckWatch.T) (ann := monitor_CheckWatch.ann) (ins := monitor_CheckWatch.ins) (outs := monitor_CheckWatch.outs) (n := n) (fun k => TOk.cons (monitor_checkModes.ok k) (TOk.cons (monitor_checkRule.ok k) (TOk.nil))) (by kernel_rfl) (by kernel_rfl)
theorem Builder_WriteString.ok (n : Nat) : FunC Tryd.prog 13 (Builder_WriteString.E n) := ⟨fun _ _ _ _ _ _ _ _ _ _ _ _ h => (by cases h), fun _ _ h => (by have h2 : (none : Option ((e : Ty) × (List e.den → Option (List e.den)))) = some _ := h; cases h2), Tryd.f13, Tryd.func13, by kernel_rfl, by kernel_rfl⟩
theorem Builder_WriteString.sb (n : Nat) : SbC Tryd.prog 13 (Builder_WriteString.E n) := fun q h => by
 have h : some ({ tb := 39, eb := 5, fst := true, res := .junk, ins := [(false, .str)], f := fun x xs => wsF x xs.1 } : SbRule) = some q := h
 cases h
 exact sb13

theorem repl_str {Z : Nat → Prop} {w : World} : ∀ {xs : List (List UInt8)} {c : List Value} {F : List Nat}, RepL (fun (x : List UInt8) c F => Rep Z w .str x c F) xs c F → c = xs.map fun l => Value.string ⟨⟨l⟩⟩
 | [], _, _, h => h.1
 | x :: xs, _, _, ⟨c1, c2, F1, F2, h1, h2, h3, h4⟩ => by rw [h1, h3.1, repl_str h4]; rfl
theorem strings_Join.ok (n : Nat) : FunC Tryd.prog 14 (strings_Join.E n) := by
 refine ⟨fun _ fr Z w xs vs Fs r hZ hA hn hF hr => ?_, fun _ _ h => (by have h2 : (none : Option ((e : Ty) × (List e.den → Option (List e.den)))) = some _ := h; cases h2), Tryd.f14, Tryd.func14, by kernel_rfl, by kernel_rfl⟩
 obtain ⟨v0, vs0, F0, G0, rfl, rfl, ⟨c0, i0, q0⟩, v1, vs1, F1, G1, rfl, rfl, ⟨c1, i1, q1⟩, rfl, rfl⟩ := hA
 have i0 : c0 = [v0] := i0
 have i1 : c1 = [v1] := i1
 subst i0; subst i1
 obtain ⟨q1, rfl, l1⟩ := q1
 simp only [List.cons.injEq, and_true] at q1
 subst q1
 obtain ⟨l, sep, u⟩ := xs
 obtain ⟨rfl, l0, ad, cap, q0, q2, q3⟩ : Rep Z w (.sl .str) l [v0] F0 := q0
 simp only [List.cons.injEq, and_true] at q0
 subst q0
 have hr : (if (Lib.join l sep).length ≤ 140737488355328 ∧ l.length ≤ 140737488355328 then some (Lib.join l sep, ()) else none) = some r := hr
 split at hr
 case isFalse => cases hr
 rename_i hk
 cases hr
 have fin : ∀ {w' : World}, RowKit.Below w.heap.size w w' → ∃ v Z' us Fr Fi, Ending.returned (.string ⟨⟨Lib.join l sep⟩⟩) = .returned v ∧ Post fr Z w [] (strings_Join.E n) [.slice ad l.length cap, .string ⟨⟨sep⟩⟩] (Lib.join l sep, ()) v w' Z' us Fr Fi := by
  intro w' hb
  refine ⟨_, Z, [.string ⟨⟨Lib.join l sep⟩⟩], [], [], rfl, ⟨hb.os, hb.tape, hb.output, hb.size, fun b h _ => hb.block b h⟩, fun _ h => h, fun b h => Nat.lt_of_lt_of_le (hZ b h) hb.size, fun _ h _ => .inl h, ?_, rfl, rfl, by simp, by simp⟩
  exact ⟨_, [], [], [], rfl, rfl, ⟨[_], rfl, rfl, rfl, Nat.le_trans hk.1 (by decide)⟩, rfl, rfl⟩
 rcases q3 with q3 | ⟨b, o, c, rfl, q4, q5, q6⟩
 ·subst q3
  refine (Tryd.strings_Join_none ad cap ⟨⟨sep⟩⟩ w).mono ?_
  rintro e w' ⟨rfl, rfl⟩
  exact fin (RowKit.Below.refl _ _)
 ·have hc := repl_str q5
  have hm : (l.map fun x => (⟨⟨x⟩⟩ : ByteArray)).map (fun x => x.data.toList) = l := by rw [List.map_map]; exact List.map_id _
  have hlen : (l.map fun x => (⟨⟨x⟩⟩ : ByteArray)).length = l.length := List.length_map ..
  have key := Tryd.strings_Join b o cap (l.map fun x => (⟨⟨x⟩⟩ : ByteArray)) ⟨⟨sep⟩⟩ w (fun j x hx => q6 j _ (by
   rw [hc]
   rw [List.getElem?_map] at hx ⊢
   cases hl : l[j]? with
   | none => rw [hl] at hx; cases hx
   | some y => rw [hl] at hx; cases hx; rfl)) (hZ b q4) (by rw [hlen]; exact hk.2) (by rw [hlen]; exact q2) (by rw [hm]; exact hk.1)
  rw [hlen, hm] at key
  refine key.mono ?_
  rintro e w' ⟨rfl, hb⟩
  exact fin hb

theorem Builder_WriteByte.ok (n : Nat) : FunC Tryd.prog 15 (Builder_WriteByte.E n) := ⟨fun _ _ _ _ _ _ _ _ _ _ _ _ h => (by cases h), fun _ _ h => (by have h2 : (none : Option ((e : Ty) × (List e.den → Option (List e.den)))) = some _ := h; cases h2), Tryd.f15, Tryd.func15, by kernel_rfl, by kernel_rfl⟩
theorem Builder_WriteByte.sb (n : Nat) : SbC Tryd.prog 15 (Builder_WriteByte.E n) := fun q h => by
 have h : some ({ tb := 39, eb := 5, fst := true, res := .junk, ins := [(false, (.int .u8))], f := fun x xs => wbF x xs.1 } : SbRule) = some q := h
 cases h
 exact sb15

theorem monitor_Text_1.ok (n : Nat) : FunC Tryd.prog 12 (monitor_Text_1.E n) := ⟨fun _ _ _ _ _ _ _ _ _ _ _ _ h => (by have h2 : (none : Option Unit) = some _ := h; cases h2), fun _ _ h => (by cases h), Tryd.f12, Tryd.func12, by kernel_rfl, by kernel_rfl⟩
theorem monitor_Text_1.sb (n : Nat) : SbC Tryd.prog 12 (monitor_Text_1.E n) := fun q h => by
 have h : some (sbE tab monitor_Text_1.T monitor_Text_1.ann Tryd.f12 39 5 monitor_Text_1.ins n) = some q := h
 cases h
 exact sbFun_ok follows tab_ok Tryd.func12 (fun k => TOk.cons (Builder_WriteString.ok k) (TOk.cons (strings_Join.ok k) (TOk.cons (Builder_WriteByte.ok k) (TOk.nil) (Builder_WriteByte.sb k))) (Builder_WriteString.sb k)) (by kernel_rfl)
theorem monitor_verb.ok (n : Nat) : FunC Tryd.prog 16 (monitor_verb.E n) := funC_of follows tab_ok Tryd.func16 (T := monitor_verb.T) (ann := monitor_verb.ann) (ins := monitor_verb.ins) (outs := monitor_verb.outs) (n := n) (fun k => TOk.nil) (by kernel_rfl) (by kernel_rfl)
theorem Builder_Len.ok (n : Nat) : FunC Tryd.prog 17 (Builder_Len.E n) := ⟨fun _ _ _ _ _ _ _ _ _ _ _ _ h => (by cases h), fun _ _ h => (by have h2 : (none : Option ((e : Ty) × (List e.den → Option (List e.den)))) = some _ := h; cases h2), Tryd.f17, Tryd.func17, by kernel_rfl, by kernel_rfl⟩
theorem Builder_Len.sb (n : Nat) : SbC Tryd.prog 17 (Builder_Len.E n) := fun q h => by
 have h : some ({ tb := 39, eb := 5, fst := true, res := .len, ins := [], f := fun x xs => lnF x  } : SbRule) = some q := h
 cases h
 exact sb17

theorem Builder_String.ok (n : Nat) : FunC Tryd.prog 18 (Builder_String.E n) := ⟨fun _ _ _ _ _ _ _ _ _ _ _ _ h => (by cases h), fun _ _ h => (by have h2 : (none : Option ((e : Ty) × (List e.den → Option (List e.den)))) = some _ := h; cases h2), Tryd.f18, Tryd.func18, by kernel_rfl, by kernel_rfl⟩
theorem Builder_String.sb (n : Nat) : SbC Tryd.prog 18 (Builder_String.E n) := fun q h => by
 have h : some ({ tb := 39, eb := 5, fst := true, res := .str, ins := [], f := fun x xs => stF x  } : SbRule) = some q := h
 cases h
 exact sb18

theorem monitor_Text.ok (n : Nat) : FunC Tryd.prog 5 (monitor_Text.E n) := funC_of follows tab_ok Tryd.func5 (T := monitor_Text.T) (ann := monitor_Text.ann) (ins := monitor_Text.ins) (outs := monitor_Text.outs) (n := n) (fun k => TOk.cons (monitor_CheckWatch.ok k) (TOk.cons (monitor_Text_1.ok k) (TOk.cons (monitor_verb.ok k) (TOk.cons (Builder_Len.ok k) (TOk.cons (Builder_String.ok k) (TOk.nil) (Builder_String.sb k)) (Builder_Len.sb k))) (monitor_Text_1.sb k))) (by kernel_rfl) (by kernel_rfl)
theorem strings_IndexByte.ok (n : Nat) : FunC Tryd.prog 31 (strings_IndexByte.E n) := by
 refine ⟨fun _ fr Z w xs vs Fs r hZ hA hn hF hr => ?_, fun _ _ h => (by have h2 : (none : Option ((e : Ty) × (List e.den → Option (List e.den)))) = some _ := h; cases h2), Tryd.f31, Tryd.func31, by kernel_rfl, by kernel_rfl⟩
 obtain ⟨v0, vs0, F0, G0, rfl, rfl, ⟨c0, i0, q0⟩, v1, vs1, F1, G1, rfl, rfl, ⟨c1, i1, q1⟩, rfl, rfl⟩ := hA
 have i0 : c0 = [v0] := i0
 have i1 : c1 = [v1] := i1
 subst i0; subst i1
 obtain ⟨q0, rfl, l0⟩ := q0
 obtain ⟨q1, rfl, l1⟩ := q1
 simp only [List.cons.injEq, and_true] at q0
 simp only [List.cons.injEq, and_true] at q1
 subst q0; subst q1
 obtain ⟨s, c, u⟩ := xs
 have hr : (if s.length ≤ 4611686018427387904 then some (Lib.indexByte s c.toNat.toUInt8, ()) else none) = some r := hr
 split at hr
 case isFalse => cases hr
 rename_i hk
 cases hr
 refine (Tryd.strings_IndexByte ⟨⟨s⟩⟩ c w).mono ?_
 rintro e w' ⟨rfl, rfl⟩
 refine ⟨_, Z, [.int .i64 (Lib.indexByte s c.toNat.toUInt8)], [], [], rfl, Kept.refl _ _, fun _ h => h, hZ, fun _ h _ => .inl h, ?_, rfl, rfl, by simp, by simp⟩
 exact ⟨_, [], [], [], rfl, rfl, ⟨[_], rfl, rfl, rfl, idx_range _ _ hk⟩, rfl, rfl⟩

theorem kit_Lines.ok (n : Nat) : FunC Tryd.prog 19 (kit_Lines.E n) := funC_of follows tab_ok Tryd.func19 (T := kit_Lines.T) (ann := kit_Lines.ann) (ins := kit_Lines.ins) (outs := kit_Lines.outs) (n := n) (fun k => TOk.cons (monitor_reader_take.ok k) (TOk.cons (strings_IndexByte.ok k) (TOk.nil))) (by kernel_rfl) (by kernel_rfl)
theorem monitor_Read.ok (n : Nat) : FunC Tryd.prog 6 (monitor_Read.E n) := funC_of follows tab_ok Tryd.func6 (T := monitor_Read.T) (ann := monitor_Read.ann) (ins := monitor_Read.ins) (outs := monitor_Read.outs) (n := n) (fun k => TOk.cons (monitor_CheckWatch.ok k) (TOk.cons (kit_Lines.ok k) (TOk.cons (strings_Count.ok k) (TOk.nil)))) (by kernel_rfl) (by kernel_rfl)
theorem perigeeref8_SameWatch.ok (n : Nat) : FunC Tryd.prog 7 (perigeeref8_SameWatch.E n) := funC_of follows tab_ok Tryd.func7 (T := perigeeref8_SameWatch.T) (ann := perigeeref8_SameWatch.ann) (ins := perigeeref8_SameWatch.ins) (outs := perigeeref8_SameWatch.outs) (n := n) (fun k => TOk.nil) (by kernel_rfl) (by kernel_rfl)
theorem kit_First.ok (n : Nat) : FunC Tryd.prog 37 (kit_First.E n) := funC_of follows tab_ok Tryd.func37 (T := kit_First.T) (ann := kit_First.ann) (ins := kit_First.ins) (outs := kit_First.outs) (n := n) (fun k => TOk.nil) (by kernel_rfl) (by kernel_rfl)
theorem monitor_CheckLimits.ok (n : Nat) : FunC Tryd.prog 38 (monitor_CheckLimits.E n) := funC_of follows tab_ok Tryd.func38 (T := monitor_CheckLimits.T) (ann := monitor_CheckLimits.ann) (ins := monitor_CheckLimits.ins) (outs := monitor_CheckLimits.outs) (n := n) (fun k => TOk.cons (monitor_IsName.ok k) (TOk.cons (kit_In.ok k) (TOk.nil))) (by kernel_rfl) (by kernel_rfl)
theorem kit_Range.ok (n : Nat) : FunC Tryd.prog 39 (kit_Range.E n) := funC_of follows tab_ok Tryd.func39 (T := kit_Range.T) (ann := kit_Range.ann) (ins := kit_Range.ins) (outs := kit_Range.outs) (n := n) (fun k => TOk.cons (kit_In.ok k) (TOk.nil)) (by kernel_rfl) (by kernel_rfl)
theorem monitor_state.ok (n : Nat) : FunC Tryd.prog 40 (monitor_state.E n) := funC_of follows tab_ok Tryd.func40 (T := monitor_state.T) (ann := monitor_state.ann) (ins := monitor_state.ins) (outs := monitor_state.outs) (n := n) (fun k => TOk.nil) (by kernel_rfl) (by kernel_rfl)
theorem monitor_StateOf.ok (n : Nat) : FunC Tryd.prog 22 (monitor_StateOf.E n) := funC_of follows tab_ok Tryd.func22 (T := monitor_StateOf.T) (ann := monitor_StateOf.ann) (ins := monitor_StateOf.ins) (outs := monitor_StateOf.outs) (n := n) (fun k => TOk.cons (kit_First.ok k) (TOk.cons (monitor_CheckLimits.ok k) (TOk.cons (kit_Range.ok k) (TOk.cons (monitor_state.ok k) (TOk.nil))))) (by kernel_rfl) (by kernel_rfl)
theorem perigeelaw8_awake.ok (n : Nat) : FunC Tryd.prog 8 (perigeelaw8_awake.E n) := funC_of follows tab_ok Tryd.func8 (T := perigeelaw8_awake.T) (ann := perigeelaw8_awake.ann) (ins := perigeelaw8_awake.ins) (outs := perigeelaw8_awake.outs) (n := n) (fun k => TOk.cons (monitor_StateOf.ok k) (TOk.nil)) (by kernel_rfl) (by kernel_rfl)
theorem perigeelaw8_WatchesTextsComeBack.ok (n : Nat) : FunC Tryd.prog 3 (perigeelaw8_WatchesTextsComeBack.E n) := funC_of follows tab_ok Tryd.func3 (T := perigeelaw8_WatchesTextsComeBack.T) (ann := perigeelaw8_WatchesTextsComeBack.ann) (ins := perigeelaw8_WatchesTextsComeBack.ins) (outs := perigeelaw8_WatchesTextsComeBack.outs) (n := n) (fun k => TOk.cons (monitor_Text.ok k) (TOk.cons (monitor_Read.ok k) (TOk.cons (perigeeref8_SameWatch.ok k) (TOk.cons (perigeelaw8_awake.ok k) (TOk.nil))))) (by kernel_rfl) (by kernel_rfl)
end Go.Proofs.YtadhpgecilhgnaaDoor.A

-- YtadhpgecilhgnaaDoorPk
set_option linter.unusedVariables false
set_option linter.unusedSimpArgs false
namespace Go.Proofs.YtadhpgecilhgnaaDoor.Pure
open Go Go.Proofs.YtadhpgecilhgnaaDoor.A

def Ev {α : Type} (g : Nat → Option α) (r : α) : Prop := ∃ k, ∀ n, k ≤ n → g n = some r
theorem Ev.now {α : Type} (r : α) : Ev (fun _ => some r) r := ⟨0, fun _ _ => rfl⟩
theorem Ev.rounds {α : Type} {g : Nat → Option α} {r : α} (h : Ev g r) : ∃ k, g k = some r := let ⟨K, h⟩ := h; ⟨K, h K (Nat.le_refl _)⟩
theorem Ev.bind {α β : Type} {g : Nat → Option α} {f : Nat → α → Option β} {a : α} {r : β} (h : Ev g a) (k : Ev (fun n => f n a) r) : Ev (fun n => (g n).bind (f n)) r := by
 obtain ⟨K, h⟩ := h
 obtain ⟨K', k⟩ := k
 refine ⟨max K K', fun n hn => ?_⟩
 simp only [h n (by omega), Option.bind_some]
 exact k n (by omega)
theorem Ev.step {α : Type} {g f : Nat → Option α} {r : α} (h : ∀ k, g (k + 1) = f k) (k : Ev f r) : Ev g r := by
 obtain ⟨K, k⟩ := k
 refine ⟨K + 1, fun n hn => ?_⟩
 obtain ⟨m, rfl⟩ : ∃ m, n = m + 1 := ⟨n - 1, by omega⟩
 rw [h]
 exact k m (by omega)
theorem Ev.eq {α : Type} {g f : Nat → Option α} {r : α} (h : ∀ k, g k = f k) (k : Ev f r) : Ev g r := by
 obtain ⟨K, k⟩ := k
 exact ⟨K, fun n hn => (h n).trans (k n hn)⟩
theorem less_total : ∀ a b : List UInt8, (Op.bytesLess a b || a == b) = !Op.bytesLess b a := by
 intro a
 induction a with
 | nil => intro b; cases b <;> simp [Op.bytesLess]
 | cons x a ih =>
  intro b
  cases b with
  | nil => simp [Op.bytesLess]
  | cons y b =>
   have := ih b
   have e1 : Op.bytesLess (x :: a) (y :: b) = (decide (x < y) || (x == y && Op.bytesLess a b)) := by rw [Op.bytesLess]
   have e2 : Op.bytesLess (y :: b) (x :: a) = (decide (y < x) || (y == x && Op.bytesLess b a)) := by rw [Op.bytesLess]
   rw [e1, e2]
   rcases Nat.lt_trichotomy x.toNat y.toNat with h | h | h
   ·have h1 : x < y := UInt8.lt_iff_toNat_lt.2 h
    have h2 : ¬ y < x := fun h' => by have := UInt8.lt_iff_toNat_lt.1 h'; omega
    have h3 : ¬ y = x := fun h' => by subst h'; omega
    simp [h1, h2, h3]
   ·have h3 : x = y := UInt8.toNat_inj.1 h
    subst h3
    have h2 : ¬ x < x := fun h' => by have := UInt8.lt_iff_toNat_lt.1 h'; omega
    simpa [h2] using this
   ·have h1 : y < x := UInt8.lt_iff_toNat_lt.2 h
    have h2 : ¬ x < y := fun h' => by have := UInt8.lt_iff_toNat_lt.1 h'; omega
    have h3 : ¬ x = y := fun h' => by subst h'; omega
    simp [h1, h2, h3]

theorem w64 {x : Int} (h : -9223372036854775808 ≤ x) (h' : x ≤ 9223372036854775807) : IntKind.wrap .i64 x = x := by
 have e1 : (2 : Int) ^ 64 = 18446744073709551616 := rfl
 have e2 : (2 : Int) ^ (64 - 1) = 9223372036854775808 := rfl
 simp only [IntKind.wrap, IntKind.bits, IntKind.signed, e1, e2, Bool.true_and, decide_eq_true_eq]
 by_cases hh : x % 18446744073709551616 ≥ 9223372036854775808
 ·rw [if_pos hh]; omega
 ·rw [if_neg hh]; omega
theorem Ev.yes {α : Type} {c : Prop} {hd : Decidable c} {g g' : Nat → Option α} {r : α} (h : c) (e : Ev g r) : Ev (fun k => if c then g k else g' k) r := by
 simp only [if_pos h]; exact e
theorem Ev.no {α : Type} {c : Prop} {hd : Decidable c} {g g' : Nat → Option α} {r : α} (h : ¬ c) (e : Ev g' r) : Ev (fun k => if c then g k else g' k) r := by
 simp only [if_neg h]; exact e
theorem Ev.unique {α : Type} {g : Nat → Option α} {r s : α} (h : Ev g r) (h' : Ev g s) : r = s := by
 obtain ⟨K, h⟩ := h
 obtain ⟨K', h'⟩ := h'
 have h1 := h (max K K') (by omega)
 have h2 := h' (max K K') (by omega)
 rw [h1] at h2
 injection h2
theorem Ev.some {α : Type} {o : Option α} {r : α} (h : o = some r) : Ev (fun _ => o) r := by subst h; exact Ev.now _

theorem getD_nat {α : Type} (z : α) (l : List α) (i : Nat) (h : i < l.length) : l.getD i z = l[i] := by
 simp [List.getD_eq_getElem?_getD, List.getElem?_eq_getElem h]
theorem getD_mem {α : Type} {z : α} {l : List α} {i : Nat} (h : i < l.length) : l.getD i z ∈ l := by
 rw [getD_nat z l i h]; exact List.getElem_mem h

def Twin {α β : Type} (g : Nat → Option α) (g' : Nat → Option β) (R : α → β → Prop) : Prop := ∃ a b, Ev g a ∧ Ev g' b ∧ R a b
section
variable {α β γ δ : Type} {R : α → β → Prop}
theorem Twin.of {g : Nat → Option α} {g' : Nat → Option β} {a : α} {b : β} (h : Ev g a) (h' : Ev g' b) (r : R a b) : Twin g g' R := ⟨a, b, h, h', r⟩
theorem Twin.now {a : α} {b : β} (r : R a b) : Twin (fun _ => some a) (fun _ => some b) R := ⟨a, b, Ev.now _, Ev.now _, r⟩
theorem Twin.mono {g : Nat → Option α} {g' : Nat → Option β} {S : α → β → Prop} (h : Twin g g' S) (k : ∀ a b, S a b → R a b) : Twin g g' R := by
 obtain ⟨a, b, h1, h2, h3⟩ := h
 exact ⟨a, b, h1, h2, k a b h3⟩
theorem Twin.bind {g : Nat → Option γ} {g' : Nat → Option δ} {S : γ → δ → Prop} {f : Nat → γ → Option α} {f' : Nat → δ → Option β} (t : Twin g g' S) (k : ∀ a b, S a b → Twin (fun n => f n a) (fun n => f' n b) R) :
 Twin (fun n => (g n).bind (f n)) (fun n => (g' n).bind (f' n)) R := by
 obtain ⟨a, b, h1, h2, h3⟩ := t
 obtain ⟨a', b', h1', h2', h3'⟩ := k a b h3
 exact ⟨a', b', Ev.bind h1 h1', Ev.bind h2 h2', h3'⟩
theorem Twin.right {g : Nat → Option α} {g' : Nat → Option β} (t : Twin g g' R) : ∃ b, Ev g' b := by
 obtain ⟨a, b, h1, h2, h3⟩ := t
 exact ⟨b, h2⟩
theorem Ev.split {c : Prop} {hd : Decidable c} {g f : Nat → Option α} {r : α} (y : c → Ev g r) (n : ¬ c → Ev f r) : Ev (fun k => if c then g k else f k) r := by
 by_cases h : c
 ·simp only [if_pos h]; exact y h
 ·simp only [if_neg h]; exact n h
theorem Ev.is {v r : α} (h : v = r) : Ev (fun _ => Option.some v) r := by subst h; exact Ev.now _
end
end Go.Proofs.YtadhpgecilhgnaaDoor.Pure

-- YtadhpgecilhgnaaDoorLp
set_option linter.unusedVariables false
set_option linter.unusedSimpArgs false
namespace Go.Proofs.YtadhpgecilhgnaaDoor.Pure
open Go Go.Proofs.YtadhpgecilhgnaaDoor.A

theorem Ev.rng {α β σ : Type} (z : α) (l : List α) (hl : l.length ≤ 4611686018427387904) {g : Nat → σ → Int → Option β} {B : Nat → σ → Int → Option β} {E : Nat → σ → Option β}
 (hg : ∀ k s i, g (k + 1) s i = if decide (i < (l.length : Int)) = true then (if (0 : Int) ≤ i ∧ i < (l.length : Int) then B k s i else none) else E k s)
 (Inv : Nat → σ → Prop) (spec : List α → Nat → σ → β)
 (hfin : ∀ s, Inv l.length s → Ev (fun k => E k s) (spec [] l.length s))
 (hstep : ∀ (i : Nat) (x : α) (xs : List α) (s : σ), i < l.length → x ∈ l → l.drop i = x :: xs → l.getD i z = x → IntKind.wrap .i64 ((i : Int) + 1) = (i : Int) + 1 → Inv i s →
  (∀ s', Inv (i + 1) s' → Ev (fun k => g k s' ((i : Int) + 1)) (spec xs (i + 1) s')) → Ev (fun k => B k s i) (spec (x :: xs) i s)) :
 ∀ (i : Nat) (s : σ), i ≤ l.length → Inv i s → Ev (fun k => g k s i) (spec (l.drop i) i s) := by
 have loop : ∀ (d i : Nat) (s : σ), i + d = l.length → Inv i s → Ev (fun k => g k s i) (spec (l.drop i) i s) := by
  intro d
  induction d with
  | zero =>
   intro i s hi hs
   have : i = l.length := by omega
   subst this
   refine Ev.step (fun k => hg k s _) ?_
   refine Ev.no (by simp) ?_
   rw [List.drop_length]
   exact hfin s hs
  | succ d ih =>
   intro i s hi hs
   refine Ev.step (fun k => hg k s _) ?_
   refine Ev.yes (by simp; omega) (Ev.yes (by omega) ?_)
   rw [List.drop_eq_getElem_cons (show i < l.length by omega)]
   refine hstep i _ _ s (by omega) (List.getElem_mem _) (List.drop_eq_getElem_cons (by omega)) (getD_nat z l i (by omega)) (w64 (by omega) (by omega)) hs fun s' hs' => ?_
   have := ih (i + 1) s' (by omega) hs'
   rw [show ((i + 1 : Nat) : Int) = (i : Int) + 1 by omega] at this
   exact this
 exact fun i s hi hs => loop (l.length - i) i s (by omega) hs
theorem Ev.rngR {α β σ : Type} (z : α) (l : List α) (hl : l.length ≤ 4611686018427387904) {g : Nat → σ → Int → Option β} {B : Nat → σ → Int → Option β} {E : Nat → σ → Option β}
 (hg : ∀ k s i, g (k + 1) s i = if decide (i < (l.length : Int)) = true then (if (0 : Int) ≤ i ∧ i < (l.length : Int) then B k s i else none) else E k s)
 (Inv : Nat → σ → Prop) (Q : β → Prop)
 (hfin : ∀ s, Inv l.length s → ∃ r, Ev (fun k => E k s) r ∧ Q r)
 (hstep : ∀ (i : Nat) (x : α) (s : σ), i < l.length → x ∈ l → l[i]? = Option.some x → l.getD i z = x → IntKind.wrap .i64 ((i : Int) + 1) = (i : Int) + 1 → Inv i s →
  (∀ s', Inv (i + 1) s' → ∃ r, Ev (fun k => g k s' ((i : Int) + 1)) r ∧ Q r) → ∃ r, Ev (fun k => B k s i) r ∧ Q r) :
 ∀ (i : Nat) (s : σ), i ≤ l.length → Inv i s → ∃ r, Ev (fun k => g k s i) r ∧ Q r := by
 have loop : ∀ (d i : Nat) (s : σ), i + d = l.length → Inv i s → ∃ r, Ev (fun k => g k s i) r ∧ Q r := by
  intro d
  induction d with
  | zero =>
   intro i s hi hs
   have : i = l.length := by omega
   subst this
   obtain ⟨r, h1, h2⟩ := hfin s hs
   exact ⟨r, Ev.step (fun k => hg k s _) (Ev.no (by simp) h1), h2⟩
  | succ d ih =>
   intro i s hi hs
   have hs' := hstep i l[i] s (by omega) (List.getElem_mem _) (List.getElem?_eq_getElem (by omega)) (getD_nat z l i (by omega)) (w64 (by omega) (by omega)) hs fun s' hs' => by
    have := ih (i + 1) s' (by omega) hs'
    rw [show ((i + 1 : Nat) : Int) = (i : Int) + 1 by omega] at this
    exact this
   obtain ⟨r, h1, h2⟩ := hs'
   exact ⟨r, Ev.step (fun k => hg k s _) (Ev.yes (by simp; omega) (Ev.yes (by omega) h1)), h2⟩
 exact fun i s hi hs => loop (l.length - i) i s (by omega) hs
theorem Ev.cast {α : Type} {g : Nat → Option α} {a b : α} (h : a = b) (e : Ev g a) : Ev g b := h ▸ e

theorem eqV_iff : ∀ {τ : Ty}, τ.eqB = true → ∀ {x y : τ.den}, eqV τ x y = true ↔ x = y := by
 intro τ
 induction τ with
 | pair a b iha ihb =>
  intro h x y
  simp only [Ty.eqB, Bool.and_eq_true] at h
  simp only [eqV, Bool.and_eq_true, iha h.1, ihb h.2]
  exact ⟨fun h => Prod.ext h.1 h.2, fun h => by rw [h]; exact ⟨rfl, rfl⟩⟩
 | bool => intro _ x y; exact decide_eq_true_iff
 | int k => intro _ x y; exact decide_eq_true_iff
 | str => intro _ x y; exact decide_eq_true_iff
 | fmap k e _ _ => intro h; cases h
 | mapb k e _ _ => intro h; cases h
 | nsl e _ => intro h; simp [Ty.eqB] at h
 | clo f b e _ => intro h; simp [Ty.eqB] at h
 | unit => intro h; simp [Ty.eqB] at h
 | sl e _ => intro h; simp [Ty.eqB] at h
 | vec e _ => intro h; simp [Ty.eqB] at h
 | map k e _ _ => intro h; simp [Ty.eqB] at h
 | fnv f => intro h; simp [Ty.eqB] at h
 | nil => intro h; simp [Ty.eqB] at h
 | ptr e _ => intro h; simp [Ty.eqB] at h
theorem idx_loop {α : Type} [DecidableEq α] (z : α) (v : α) {e : α → Bool} (he : ∀ x, e x = true ↔ v = x) (l : List α) (hl : l.length ≤ 4611686018427387904) {g : Nat → Int → Option (Int × Unit)}
 (hg : ∀ k i, g (k + 1) i = if decide (i < (l.length : Int)) = true then (if (0 : Int) ≤ i ∧ i < (l.length : Int) then (if e (l.getD i.toNat z) = true then some (i, ()) else g k (IntKind.wrap .i64 (i + 1))) else none) else some (-1, ())) :
 ∃ n, Ev (fun k => g k 0) (n, ()) ∧ (0 ≤ n ↔ v ∈ l) := by
 have h := Ev.rng (σ := Unit) z l hl (g := fun k _ i => g k i) (fun k s i => hg k i)
  (fun _ _ => True) (fun r i _ => (if v ∈ r then ((i + r.idxOf v : Nat) : Int) else -1, ())) (fun _ _ => Ev.is (by simp)) (fun i x xs s hi hx _ hget hw _ next => by
   simp only [Int.toNat_natCast, hget, hw]
   refine Ev.split (fun h => ?_) (fun h => ?_)
   ·have h := (he _).1 h
    subst h
    refine Ev.is ?_
    simp
   ·refine Ev.cast ?_ (next () trivial)
    have h' : ¬ v = x := fun e => h ((he _).2 e)
    have h'' : ¬ x = v := fun e => h' e.symm
    by_cases hm : v ∈ xs
    ·rw [if_pos hm, if_pos (by simp [hm]), List.idxOf_cons, show (x == v) = false by simpa using h'']
     simp only [cond_false]
     congr 1; omega
    ·rw [if_neg hm, if_neg (by simp [hm, h'])]) 0 () (by omega) trivial
 refine ⟨_, h, ?_⟩
 simp only [List.drop_zero]
 split <;> rename_i hm
 ·exact ⟨fun _ => hm, fun _ => by omega⟩
 ·exact ⟨fun h => by omega, fun h => absurd h hm⟩
end Go.Proofs.YtadhpgecilhgnaaDoor.Pure

-- YtadhpgecilhgnaaDoorE1
set_option linter.unusedVariables false
set_option linter.unusedSimpArgs false
namespace Go.Proofs.YtadhpgecilhgnaaDoor.Pure
open Go Go.Proofs.YtadhpgecilhgnaaDoor.A

theorem in_ev (n : Nat) (a l h : Int) : kit_In.f n a l h = some (decide (l ≤ a ∧ a ≤ h), ()) := by
 rw [kit_In.f_eq]
 by_cases h1 : l ≤ a <;> simp [h1]
theorem name_ex (s : List UInt8) (hs : s.length ≤ 140737488351232) : ∃ b, Ev (fun k => monitor_IsName.f k s) (b, ()) ∧ (b = true → s.length ≤ 40) := by
 by_cases h0 : s = []
 ·exact ⟨false, Ev.eq (fun k => by rw [monitor_IsName.f_eq]) (Ev.yes (by simpa using h0) (Ev.now _)), fun h => by cases h⟩
 by_cases h1 : 40 < (s.length : Int)
 ·exact ⟨false, Ev.eq (fun k => by rw [monitor_IsName.f_eq]) (Ev.no (by simpa using h0) (Ev.yes (by simpa using h1) (Ev.now _))), fun h => by cases h⟩
 have h := Ev.rngR (σ := Unit) (0 : UInt8) s (by omega) (g := fun k _ i => monitor_IsName.c1 k s (s.length : Int) i) (fun k _ i => monitor_IsName.c1_eq _ _ _ _)
  (fun _ _ => True) (fun r : Bool × Unit => True) (fun _ _ => ⟨_, Ev.now _, trivial⟩) (fun i x _ hi hx _ hget hw _ next => by
   simp only [Int.toNat_natCast, hget, hw]
   obtain ⟨r, n1, _⟩ := next () trivial
   have key : ∀ {g : Nat → Option (Bool × Unit)}, (Ev g (false, ()) ∨ Ev g r) → ∃ r, Ev g r ∧ True := fun h => h.elim (fun h => ⟨_, h, trivial⟩) (fun h => ⟨_, h, trivial⟩)
   have sp : ∀ {c : Prop} {hd : Decidable c} {g f : Nat → Option (Bool × Unit)}, (Ev g (false, ()) ∨ Ev g r) → (Ev f (false, ()) ∨ Ev f r) → (Ev (fun k => if c then g k else f k) (false, ()) ∨ Ev (fun k => if c then g k else f k) r) := fun {c hd g f} y n => by
    by_cases h : c
    ·exact y.imp (fun y => Ev.yes h y) (fun y => Ev.yes h y)
    ·exact n.imp (fun n => Ev.no h n) (fun n => Ev.no h n)
   have F : Ev (fun _ : Nat => some (false, ())) (false, ()) ∨ Ev (fun _ : Nat => some (false, ())) r := .inl (Ev.now _)
   have N : Ev (fun k => monitor_IsName.c1 k s (s.length : Int) ((i : Int) + 1)) (false, ()) ∨ Ev (fun k => monitor_IsName.c1 k s (s.length : Int) ((i : Int) + 1)) r := .inr n1
   exact key (sp (sp F (sp (sp (sp F (sp F N)) N) N)) (sp (sp F (sp (sp (sp F (sp F N)) N) N)) N))) 0 () (by omega) trivial
 obtain ⟨⟨b, u⟩, h2, _⟩ := h
 have h2 : Ev (fun k => monitor_IsName.c1 k s (s.length : Int) 0) (b, u) := h2
 exact ⟨b, Ev.eq (fun k => by rw [monitor_IsName.f_eq]) (Ev.no (by simpa using h0) (Ev.no (by simpa using h1) (Ev.step (fun k => by rw [monitor_IsName.c0_eq]) h2))), fun _ => by omega⟩
open Classical in
noncomputable def isNm (s : List UInt8) : Bool := if Ev (fun k => monitor_IsName.f k s) (true, ()) then true else false
theorem name_ev (s : List UInt8) (hs : s.length ≤ 140737488351232) : Ev (fun k => monitor_IsName.f k s) (isNm s, ()) ∧ (isNm s = true → s.length ≤ 40) := by
 obtain ⟨b, h1, h2⟩ := name_ex s hs
 have : isNm s = b := by
  unfold isNm
  cases b with
  | true => rw [if_pos h1]
  | false =>
   rw [if_neg]
   intro h
   have := h.unique h1
   simp at this
 rw [this]
 exact ⟨h1, h2⟩

theorem awake_at (k : Nat) : perigeelaw8_awake.f (k + 40) = some (true, ()) := by kernel_rfl
theorem awake_ev : Ev (fun k => perigeelaw8_awake.f k) (true, ()) := ⟨40, fun n hn => by
 obtain ⟨k, rfl⟩ : ∃ k, n = k + 40 := ⟨n - 40, by omega⟩
 exact awake_at k⟩

theorem nm_ne {s : List UInt8} (h : isNm s = true) : s ≠ [] := by
 intro e
 subst e
 have h1 : Ev (fun k => monitor_IsName.f k []) (false, ()) := Ev.eq (fun k => monitor_IsName.f_eq _ _) (Ev.yes (by simp) (Ev.now _))
 have h2 := (name_ev [] (by simp)).1.unique h1
 rw [h] at h2
 cases h2
theorem contains_ev (s : List (List UInt8)) (v : List UInt8) (hl : s.length ≤ 4611686018427387904) : Ev (fun k => slices_Contains_string.f k s v) (decide (v ∈ s), ()) := by
 obtain ⟨n, h1, h2⟩ := idx_loop ([] : List UInt8) v (e := fun x => decide (v = x)) (fun x => by simp) s hl (g := fun k i => slices_Index_string.c0 k s v (s.length : Int) i) (fun k i => slices_Index_string.c0_eq _ _ _ _ _)
 refine Ev.eq (fun k => by rw [slices_Contains_string.f_eq]) (Ev.bind (Ev.eq (fun k => by rw [slices_Index_string.f_eq]) h1) (Ev.is ?_))
 rw [decide_eq_decide.2 h2]
def befC (b c : DModeChange) : Prop := lessS c.1 b.1 = false ∧ (c.1 = b.1 → lessS b.2.1 c.2.1 = true)
structure ModesOk (w : DFWatch) : Prop where
 m0 : 1 ≤ w.1.length
 ml : w.1.length ≤ 50
 cl : w.2.1.length ≤ 500
 ch : ∀ c ∈ w.2.1, c.1 ∈ w.1 ∧ c.2.2 ∈ w.1
 od : ∀ j, j < w.2.1.length → 0 < j → befC (w.2.1.getD (j - 1) (Ty.dflt YModeChange)) (w.2.1.getD j (Ty.dflt YModeChange))
 md : w.2.2.1 ∈ w.1
 en : ∀ c ∈ w.2.1, isNm c.2.1 = true
 mn : ∀ j, j < w.1.length → isNm (w.1.getD j []) = true
 mo : ∀ j, j < w.1.length → 0 < j → lessS (w.1.getD (j - 1) []) (w.1.getD j []) = true
theorem changes_ev (w : DFWatch) (h0 : okT YFWatch w) (m0 : 1 ≤ w.1.length) (ml : w.1.length ≤ 50) (cl : w.2.1.length ≤ 500) (mo : ∀ j, j < w.1.length → 0 < j → lessS (w.1.getD (j - 1) []) (w.1.getD j []) = true) (mn : ∀ j, j < w.1.length → isNm (w.1.getD j []) = true) : ∃ r : Int × Unit, Ev (fun k => monitor_checkModes.c1 k w.1 w.2.1 w.2.2.1 w.2.2.2 w.2.1 (w.2.1.length : Int) 0) r ∧ (r.1 = 0 → ModesOk w) := by
 have hm := contains_ev w.1
 refine Ev.rngR (σ := Unit) (Ty.dflt YModeChange) w.2.1 (by omega) (g := fun k _ i => monitor_checkModes.c1 k w.1 w.2.1 w.2.2.1 w.2.2.2 w.2.1 (w.2.1.length : Int) i) (fun k _ i => monitor_checkModes.c1_eq _ _ _ _ _ _ _ _)
  (fun i _ => ∀ j, j < i → j < w.2.1.length → ((w.2.1.getD j (Ty.dflt YModeChange)).1 ∈ w.1 ∧ (w.2.1.getD j (Ty.dflt YModeChange)).2.2 ∈ w.1 ∧ isNm (w.2.1.getD j (Ty.dflt YModeChange)).2.1 = true) ∧ (0 < j → befC (w.2.1.getD (j - 1) (Ty.dflt YModeChange)) (w.2.1.getD j (Ty.dflt YModeChange))))
  (fun r => r.1 = 0 → ModesOk w) (fun _ hs => ?_) (fun i c _ hi hc hget hgd hw hs next => ?_) 0 () (by omega) (fun j hj => by omega)
 ·by_cases h : w.2.2.1 ∈ w.1
  ·refine ⟨_, Ev.bind (hm _ (by omega)) (Ev.no (by simp [h]) (Ev.now _)), fun _ => ⟨m0, ml, cl, fun c hc => ?_, fun j hj hj0 => (hs j hj hj).2 hj0, h, fun c hc => ?_, mn, mo⟩⟩
   obtain ⟨j, hj, rfl⟩ := List.getElem_of_mem hc
   have := (hs j hj hj).1
   rw [getD_nat _ _ _ hj] at this
   exact ⟨this.1, this.2.1⟩
   obtain ⟨j, hj, rfl⟩ := List.getElem_of_mem hc
   have := (hs j hj hj).1
   rw [getD_nat _ _ _ hj] at this
   exact this.2.2
  ·exact ⟨_, Ev.bind (hm _ (by omega)) (Ev.yes (by simp [h]) (Ev.now _)), fun h => by cases h⟩
 ·simp only [Int.toNat_natCast, hgd, hw]
  have hce := (h0.2.1.2.2 c hc).2.1
  by_cases h1 : c.1 ∈ w.1
  case neg => exact ⟨_, Ev.bind (hm _ (by omega)) (Ev.yes (by simp [h1]) (Ev.now _)), fun h => by cases h⟩
  by_cases h2 : c.2.2 ∈ w.1
  case neg => exact ⟨_, Ev.bind (hm _ (by omega)) (Ev.no (by simp [h1]) (Ev.bind (hm _ (by omega)) (Ev.yes (by simp [h2]) (Ev.now _)))), fun h => by cases h⟩
  have pre : ∀ {r : Int × Unit}, Ev (fun k => monitor_checkModes.c2 k w.1 w.2.1 w.2.2.1 w.2.2.2 (i : Int) c.1 c.2.1 c.2.2 w.2.1 (w.2.1.length : Int) (i : Int)) r → Ev (fun k => (slices_Contains_string.f k w.1 c.1).bind fun r2 => if (!r2.1) = true then some (9, ()) else (slices_Contains_string.f k w.1 c.2.2).bind fun r3 => if (!r3.1) = true then some (9, ()) else monitor_checkModes.c2 k w.1 w.2.1 w.2.2.1 w.2.2.2 (i : Int) c.1 c.2.1 c.2.2 w.2.1 (w.2.1.length : Int) (i : Int)) r := fun h =>
   Ev.bind (hm _ (by omega)) (Ev.no (by simp [h1]) (Ev.bind (hm _ (by omega)) (Ev.no (by simp [h2]) h)))
  obtain ⟨nm, _⟩ := name_ev c.2.1 hce
  by_cases h3 : isNm c.2.1 = true
  case neg =>
   refine ⟨(5, ()), pre (Ev.step (fun k => monitor_checkModes.c2_eq _ _ _ _ _ _ _ _ _ _ _ _) ?_), fun h => by cases h⟩
   exact Ev.bind nm (Ev.yes (by simpa using h3) (Ev.now _))
  have key : (0 < i → befC (w.2.1.getD (i - 1) (Ty.dflt YModeChange)) c) → ∃ r, Ev (fun k => monitor_checkModes.c1 k w.1 w.2.1 w.2.2.1 w.2.2.2 w.2.1 (w.2.1.length : Int) ((i : Int) + 1)) r ∧ (r.1 = 0 → ModesOk w) := fun hb => next () fun j hj hjl => by
   by_cases e : j = i
   ·subst e
    rw [hgd]
    exact ⟨⟨h1, h2, h3⟩, hb⟩
   ·exact hs j (by omega) hjl
  by_cases hi0 : i = 0
  ·subst hi0
   obtain ⟨r, r1, r2⟩ := key (fun h => by omega)
   refine ⟨r, pre (Ev.step (fun k => monitor_checkModes.c2_eq _ _ _ _ _ _ _ _ _ _ _ _) ?_), r2⟩
   refine Ev.bind nm (Ev.no (by simp [h3]) (Ev.no (by simp) ?_))
   rw [hw]; exact r1
  ·have hw1 : IntKind.wrap .i64 ((i : Int) - 1) = ((i - 1 : Nat) : Int) := by rw [w64 (by omega) (by omega)]; omega
   have pre2 : ∀ {r : Int × Unit}, Ev (fun k => if (lessS c.1 (w.2.1.getD (i - 1) (Ty.dflt YModeChange)).1) = true then some (8, ()) else if (decide (c.1 = (w.2.1.getD (i - 1) (Ty.dflt YModeChange)).1)) = true then (if (!(lessS (w.2.1.getD (i - 1) (Ty.dflt YModeChange)).2.1 c.2.1)) = true then some (8, ()) else monitor_checkModes.c1 k w.1 w.2.1 w.2.2.1 w.2.2.2 w.2.1 (w.2.1.length : Int) ((i : Int) + 1)) else monitor_checkModes.c1 k w.1 w.2.1 w.2.2.1 w.2.2.2 w.2.1 (w.2.1.length : Int) ((i : Int) + 1)) r →
    Ev (fun k => monitor_checkModes.c2 k w.1 w.2.1 w.2.2.1 w.2.2.2 (i : Int) c.1 c.2.1 c.2.2 w.2.1 (w.2.1.length : Int) (i : Int)) r := fun {r} h => by
    refine Ev.step (fun k => monitor_checkModes.c2_eq _ _ _ _ _ _ _ _ _ _ _ _) ?_
    refine Ev.bind nm (Ev.no (by simp [h3]) (Ev.yes (by simp; omega) ?_))
    simp only [hw1, hw, Int.toNat_natCast]
    exact Ev.yes (by omega) h
   by_cases l1 : lessS c.1 (w.2.1.getD (i - 1) (Ty.dflt YModeChange)).1 = true
   ·exact ⟨(8, ()), pre (pre2 (Ev.yes l1 (Ev.now _))), fun h => by cases h⟩
   have l1' : lessS c.1 (w.2.1.getD (i - 1) (Ty.dflt YModeChange)).1 = false := by simpa using l1
   by_cases l2 : c.1 = (w.2.1.getD (i - 1) (Ty.dflt YModeChange)).1
   ·by_cases l3 : lessS (w.2.1.getD (i - 1) (Ty.dflt YModeChange)).2.1 c.2.1 = true
    ·obtain ⟨r, r1, r2⟩ := key (fun _ => ⟨l1', fun _ => l3⟩)
     exact ⟨r, pre (pre2 (Ev.no l1 (Ev.yes (decide_eq_true l2) (Ev.no (fun h => by rw [l3] at h; cases h) r1)))), r2⟩
    ·exact ⟨(8, ()), pre (pre2 (Ev.no l1 (Ev.yes (decide_eq_true l2) (Ev.yes (by simpa using l3) (Ev.now _))))), fun h => by cases h⟩
   ·obtain ⟨r, r1, r2⟩ := key (fun _ => ⟨l1', fun h => absurd h l2⟩)
    exact ⟨r, pre (pre2 (Ev.no l1 (Ev.no (fun h => l2 (of_decide_eq_true h)) r1))), r2⟩
end Go.Proofs.YtadhpgecilhgnaaDoor.Pure

-- YtadhpgecilhgnaaDoorE2
set_option linter.unusedVariables false
set_option linter.unusedSimpArgs false
namespace Go.Proofs.YtadhpgecilhgnaaDoor.Pure
open Go Go.Proofs.YtadhpgecilhgnaaDoor.A

theorem modes_ev (w : DFWatch) (h0 : okT YFWatch w) : ∃ r : Int × Unit, Ev (fun k => monitor_checkModes.f k w) r ∧ (r.1 = 0 → ModesOk w) := by
 have hm := contains_ev w.1
 by_cases m0 : w.1.length = 0
 ·refine ⟨(9, ()), Ev.eq (fun k => monitor_checkModes.f_eq _ _) ?_, fun h => by cases h⟩
  exact Ev.yes (by simp [m0]) (Ev.now _)
 by_cases ml : 50 < w.1.length
 ·refine ⟨(2, ()), Ev.eq (fun k => monitor_checkModes.f_eq _ _) ?_, fun h => by cases h⟩
  exact Ev.no (fun h => m0 (by have := of_decide_eq_true h; omega)) (Ev.yes (decide_eq_true (by omega)) (Ev.now _))
 have start : ∀ {r}, Ev (fun k => monitor_checkModes.c0 k w.1 w.2.1 w.2.2.1 w.2.2.2 w.1 (w.1.length : Int) 0) r → Ev (fun k => monitor_checkModes.f k w) r := fun {r} h => by
  refine Ev.eq (fun k => monitor_checkModes.f_eq _ _) ?_
  exact Ev.no (fun h => m0 (by have := of_decide_eq_true h; omega)) (Ev.no (fun h => ml (by have := of_decide_eq_true h; omega)) h)
 have := Ev.rngR (σ := Unit) ([] : List UInt8) w.1 (by omega) (g := fun k _ i => monitor_checkModes.c0 k w.1 w.2.1 w.2.2.1 w.2.2.2 w.1 (w.1.length : Int) i) (fun k _ i => monitor_checkModes.c0_eq _ _ _ _ _ _ _ _)
  (fun i _ => (∀ j, j < i → 0 < j → lessS (w.1.getD (j - 1) []) (w.1.getD j []) = true) ∧ ∀ j, j < i → isNm (w.1.getD j []) = true) (fun r => r.1 = 0 → ModesOk w) (fun _ hs => ?_) (fun i x _ hi hc hget hgd hw hs next => ?_) 0 () (by omega) ⟨fun j hj => by omega, fun j hj => by omega⟩
 ·obtain ⟨r, r1, r2⟩ := this
  exact ⟨r, start r1, r2⟩
 ·by_cases cl : 500 < w.2.1.length
  ·exact ⟨(2, ()), Ev.yes (decide_eq_true (by omega)) (Ev.now _), fun h => by cases h⟩
  ·obtain ⟨r, r1, r2⟩ := changes_ev w h0 (by omega) (by omega) (by omega) hs.1 hs.2
   exact ⟨r, Ev.no (fun h => cl (by have := of_decide_eq_true h; omega)) r1, r2⟩
 ·simp only [Int.toNat_natCast, hgd, hw]
  obtain ⟨nm, _⟩ := name_ev x (h0.1.2.2 x hc)
  by_cases h3 : isNm x = true
  case neg => exact ⟨(5, ()), Ev.bind nm (Ev.yes (by simpa using h3) (Ev.now _)), fun h => by cases h⟩
  have more : ∀ j, j < i + 1 → isNm (w.1.getD j []) = true := fun j hj => by
   by_cases e : j = i
   ·subst e; rw [hgd]; exact h3
   ·exact hs.2 j (by omega)
  by_cases hi0 : i = 0
  ·subst hi0
   obtain ⟨r, r1, r2⟩ := next () ⟨fun j hj h0 => by omega, more⟩
   exact ⟨r, Ev.bind nm (Ev.no (by simp [h3]) (Ev.no (by simp) r1)), r2⟩
  ·have hw1 : IntKind.wrap .i64 ((i : Int) - 1) = ((i - 1 : Nat) : Int) := by rw [w64 (by omega) (by omega)]; omega
   simp only [hw1, Int.toNat_natCast]
   by_cases l1 : lessS (w.1.getD (i - 1) []) x = true
   ·obtain ⟨r, r1, r2⟩ := next () ⟨fun j hj h0 => by
     by_cases e : j = i
     ·subst e; rw [hgd]; exact l1
     ·exact hs.1 j (by omega) h0, more⟩
    exact ⟨r, Ev.bind nm (Ev.no (by simp [h3]) (Ev.yes (by simp; omega) (Ev.yes (by omega) (Ev.no (fun h => by rw [l1] at h; cases h) r1)))), r2⟩
   ·exact ⟨(8, ()), Ev.bind nm (Ev.no (by simp [h3]) (Ev.yes (by simp; omega) (Ev.yes (by omega) (Ev.yes (by simpa using l1) (Ev.now _))))), fun h => by cases h⟩
end Go.Proofs.YtadhpgecilhgnaaDoor.Pure

-- YtadhpgecilhgnaaDoorE3
set_option linter.unusedVariables false
set_option linter.unusedSimpArgs false
namespace Go.Proofs.YtadhpgecilhgnaaDoor.Pure
open Go Go.Proofs.YtadhpgecilhgnaaDoor.A

abbrev S := List UInt8
def lk {β : Type} : List (S × β) → S → Option β
 | [], _ => none
 | p :: m, k => if p.1 = k then some p.2 else lk m k
section
variable {σ : Ty}
theorem eqS {x y : S} : eqV .str x y = true ↔ x = y := eqV_iff (τ := .str) rfl
theorem get_lk (m : List (S × σ.den)) (k : S) (z : σ.den) : mapGet .str σ k m z = (lk m k).getD z := by
 induction m with
 | nil => rfl
 | cons p m ih =>
  rw [mapGet, lk]
  by_cases h : p.1 = k
  ·rw [if_pos h, if_pos (eqS.2 h)]; rfl
  ·rw [if_neg h, if_neg (fun e => h (eqS.1 e)), ih]
theorem lk_put (m : List (S × σ.den)) (k : S) (v : σ.den) (j : S) : lk (mapPut .str σ k v m) j = if k = j then some v else lk m j := by
 induction m with
 | nil => simp [mapPut, lk]
 | cons p m ih =>
  rw [mapPut]
  by_cases h : p.1 = k
  ·rw [if_pos (eqS.2 h), lk, lk]
   by_cases hj : k = j
   ·rw [if_pos hj, if_pos hj]
   ·rw [if_neg hj, if_neg hj, if_neg (fun e => hj (h ▸ e))]
  ·rw [if_neg (fun e => h (eqS.1 e)), lk, lk, ih]
   by_cases hp : p.1 = j
   ·rw [if_pos hp, if_neg (fun e => h (hp.trans e.symm)), if_pos hp]
   ·rw [if_neg hp, if_neg hp]
end
end Go.Proofs.YtadhpgecilhgnaaDoor.Pure

-- YtadhpgecilhgnaaDoorE4
set_option linter.unusedVariables false
set_option linter.unusedSimpArgs false
namespace Go.Proofs.YtadhpgecilhgnaaDoor.Pure
open Go Go.Proofs.YtadhpgecilhgnaaDoor.A

def gdP (c : Nat) (i : Nat) : Prop := (97 ≤ c ∧ c ≤ 122) ∨ (i ≠ 0 ∧ (c = 45 ∨ c = 95 ∨ (48 ≤ c ∧ c ≤ 57)))
instance (c i : Nat) : Decidable (gdP c i) := by unfold gdP; infer_instance
def ag : List UInt8 → Nat → Bool
 | [], _ => true
 | x :: xs, i => decide (gdP x.toNat i) && ag xs (i + 1)
theorem mname_loop (s : List UInt8) (hs : s.length ≤ 140737488351232) : Ev (fun k => monitor_IsName.c1 k s (s.length : Int) 0) (ag s 0, ()) := by
 have h := Ev.rng (σ := Unit) (0 : UInt8) s (by omega) (g := fun k _ i => monitor_IsName.c1 k s (s.length : Int) i) (fun k _ i => monitor_IsName.c1_eq _ _ _ _)
  (fun _ _ => True) (fun xs i _ => (ag xs i, ())) (fun _ _ => Ev.is rfl) (fun i x xs _ hi hx hd hget hw _ next => by
   simp only [Int.toNat_natCast, hget, hw, decide_eq_true_eq, Bool.not_eq_true', decide_eq_false_iff_not]
   have F : ¬ gdP x.toNat i → Ev (fun _ : Nat => some (false, ())) (ag (x :: xs) i, ()) := fun h => Ev.is (by rw [ag, decide_eq_false h]; rfl)
   have T : gdP x.toNat i → Ev (fun k => monitor_IsName.c1 k s (s.length : Int) ((i : Int) + 1)) (ag (x :: xs) i, ()) := fun h => by
    rw [ag, decide_eq_true h]; exact next () trivial
   unfold gdP at F T
   refine Ev.split (fun h1 => Ev.split (fun h2 => F (by omega)) (fun h2 => Ev.split (fun h3 => Ev.split (fun h4 => Ev.split (fun h5 => F (by omega)) (fun h5 => Ev.split (fun h6 => F (by omega)) (fun h6 => T (by omega)))) (fun h4 => T (by omega))) (fun h3 => T (by omega)))) (fun h1 => Ev.split (fun h2 => Ev.split (fun h3 => F (by omega)) (fun h3 => Ev.split (fun h4 => Ev.split (fun h5 => Ev.split (fun h6 => F (by omega)) (fun h6 => Ev.split (fun h7 => F (by omega)) (fun h7 => T (by omega)))) (fun h5 => T (by omega))) (fun h4 => T (by omega)))) (fun h2 => T (by omega)))) 0 () (by omega) trivial
 exact h
theorem rname_loop (s : List UInt8) (hs : s.length ≤ 140737488351232) : Ev (fun k => perigeeref8_IsName.c0 k s 0) (ag s 0 && decide (1 ≤ (s.length : Int) ∧ (s.length : Int) ≤ 40), ()) := by
 have wi : ∀ (k : Nat) (n a b : Int), perigeeref8_within.f k n a b = some (decide (a ≤ n ∧ n ≤ b), ()) := fun k n a b => by
  rw [perigeeref8_within.f_eq]
  by_cases h1 : a ≤ n <;> simp [h1]
 have h := Ev.rng (σ := Unit) (0 : UInt8) s (by omega) (g := fun k _ i => perigeeref8_IsName.c0 k s i) (fun k _ i => perigeeref8_IsName.c0_eq _ _ _)
  (fun _ _ => True) (fun xs i _ => (ag xs i && decide (1 ≤ (s.length : Int) ∧ (s.length : Int) ≤ 40), ())) (fun _ _ => by simp only [wi, Option.bind_some]; exact Ev.is rfl) (fun i x xs _ hi hx hd hget hw _ next => by
   simp only [Int.toNat_natCast, hget, hw, decide_eq_true_eq, Bool.not_eq_true', decide_eq_false_iff_not]
   have F : ¬ gdP x.toNat i → Ev (fun _ : Nat => some (false, ())) (ag (x :: xs) i && decide (1 ≤ (s.length : Int) ∧ (s.length : Int) ≤ 40), ()) := fun h => Ev.is (by rw [ag, decide_eq_false h]; rfl)
   have T : gdP x.toNat i → Ev (fun k => perigeeref8_IsName.c0 k s ((i : Int) + 1)) (ag (x :: xs) i && decide (1 ≤ (s.length : Int) ∧ (s.length : Int) ≤ 40), ()) := fun h => by
    rw [ag, decide_eq_true h]; exact next () trivial
   unfold gdP at F T
   refine Ev.split (fun h1 => Ev.split (fun h2 => Ev.split (fun h3 => F (by omega)) (fun h3 => Ev.split (fun h4 => Ev.split (fun h5 => Ev.split (fun h6 => Ev.split (fun h7 => F (by omega)) (fun h7 => T (by omega))) (fun h6 => F (by omega))) (fun h5 => T (by omega))) (fun h4 => T (by omega)))) (fun h2 => T (by omega))) (fun h1 => Ev.split (fun h2 => F (by omega)) (fun h2 => Ev.split (fun h3 => Ev.split (fun h4 => Ev.split (fun h5 => Ev.split (fun h6 => F (by omega)) (fun h6 => T (by omega))) (fun h5 => F (by omega))) (fun h4 => T (by omega))) (fun h3 => T (by omega))))) 0 () (by omega) trivial
 exact h
theorem rname_ev (s : List UInt8) (hs : s.length ≤ 140737488351232) : Ev (fun k => perigeeref8_IsName.f k s) (isNm s, ()) := by
 have r := rname_loop s hs
 have m := mname_loop s hs
 obtain ⟨nv, _⟩ := name_ev s hs
 have key : Ev (fun k => monitor_IsName.f k s) (ag s 0 && decide (1 ≤ (s.length : Int) ∧ (s.length : Int) ≤ 40), ()) := by
  refine Ev.eq (fun k => monitor_IsName.f_eq _ _) ?_
  simp only [decide_eq_true_eq]
  refine Ev.split (fun h => ?_) (fun h => Ev.split (fun h2 => ?_) (fun h2 => Ev.step (fun k => monitor_IsName.c0_eq _ _) ?_))
  ·subst h
   exact Ev.is (by simp)
  ·exact Ev.is (by rw [show decide (1 ≤ (s.length : Int) ∧ (s.length : Int) ≤ 40) = false from decide_eq_false (by omega), Bool.and_false])
  ·have : 0 < s.length := List.length_pos_iff.2 h
   rw [show decide (1 ≤ (s.length : Int) ∧ (s.length : Int) ≤ 40) = true from decide_eq_true (by omega), Bool.and_true]
   exact m
 have e := nv.unique key
 simp only [Prod.mk.injEq, and_true] at e
 rw [e]
 exact Ev.eq (fun k => perigeeref8_IsName.f_eq _ _) r
theorem rhas_ev (l : List S) (v : S) (hl : l.length ≤ 4611686018427387904) : Ev (fun k => perigeeref8_has.f k l v) (decide (v ∈ l), ()) := by
 have h := Ev.rng (σ := Unit) ([] : S) l hl (g := fun k _ i => perigeeref8_has.c0 k l v i) (fun k _ i => perigeeref8_has.c0_eq _ _ _ _)
  (fun _ _ => True) (fun xs i _ => (decide (v ∈ xs), ())) (fun _ _ => Ev.is (by simp)) (fun i x xs _ hi hx hd hget hw _ next => by
   simp only [Int.toNat_natCast, hget, hw, decide_eq_true_eq]
   refine Ev.split (fun h => Ev.is (by simp [h])) (fun h => ?_)
   rw [show decide (v ∈ x :: xs) = decide (v ∈ xs) from decide_eq_decide.2 (by simp [Ne.symm h])]
   exact next () trivial) 0 () (by omega) trivial
 exact Ev.eq (fun k => perigeeref8_has.f_eq _ _ _) h
theorem rrule_ev (w : DFWatch) (v : S) (hl : w.2.2.2.length ≤ 4611686018427387904) : ∃ r : Int × Unit, Ev (fun k => perigeeref8_ruleOf.f k w v) r ∧ (r.1 < 0 ↔ ∀ x ∈ w.2.2.2, x.1 ≠ v) := by
 have := Ev.rngR (σ := Unit) (Ty.dflt YFWatchRule) w.2.2.2 hl (g := fun k _ i => perigeeref8_ruleOf.c0 k v w.1 w.2.1 w.2.2.1 w.2.2.2 i) (fun k _ i => perigeeref8_ruleOf.c0_eq _ _ _ _ _ _ _)
  (fun i _ => ∀ x ∈ w.2.2.2.take i, x.1 ≠ v) (fun r => r.1 < 0 ↔ ∀ x ∈ w.2.2.2, x.1 ≠ v) (fun _ hs => ⟨(-1, ()), Ev.now _, by rw [List.take_length] at hs; exact ⟨fun _ => hs, fun _ => by simp⟩⟩) (fun i x _ hi hc hget hgd hw hs next => ?_) 0 () (by omega) (fun x hx => by simp at hx)
 ·obtain ⟨r, r1, r2⟩ := this
  exact ⟨r, Ev.eq (fun k => perigeeref8_ruleOf.f_eq _ _ _) r1, r2⟩
 ·simp only [Int.toNat_natCast, hgd, hw]
  by_cases h : x.1 = v
  ·exact ⟨((i : Int), ()), Ev.yes (decide_eq_true h) (Ev.now _), ⟨fun h => by have h : (i : Int) < 0 := h; omega, fun hh => absurd h (hh x hc)⟩⟩
  ·obtain ⟨r, r1, r2⟩ := next () (fun y hy => by
    rw [List.take_add_one, hget] at hy
    rcases List.mem_append.1 hy with hy | hy
    ·exact hs y hy
    ·simp at hy; subst hy; exact h)
   exact ⟨r, Ev.no (fun e => h (of_decide_eq_true e)) r1, r2⟩

def Chk (g h rest : Nat → Option (Int × Unit)) : Prop := ∃ c : Int, Ev g (c, ()) ∧ ((c ≠ 0 ∧ Ev h (c, ())) ∨ (c = 0 ∧ ∀ r, Ev rest r → Ev h r))
section
variable {g g' h h' rest : Nat → Option (Int × Unit)}
theorem Chk.l (k : ∀ r, Ev g' r → Ev g r) (c : Chk g' h rest) : Chk g h rest := let ⟨c, c1, c2⟩ := c; ⟨c, k _ c1, c2⟩
theorem Chk.r (k : ∀ r, Ev h' r → Ev h r) (c : Chk g h' rest) : Chk g h rest := let ⟨c, c1, c2⟩ := c; ⟨c, c1, c2.imp (fun ⟨a, b⟩ => ⟨a, k _ b⟩) (fun ⟨a, b⟩ => ⟨a, fun r e => k _ (b r e)⟩)⟩
theorem Chk.bad {c : Int} (h0 : c ≠ 0) (e1 : Ev g (c, ())) (e2 : Ev h (c, ())) : Chk g h rest := ⟨c, e1, .inl ⟨h0, e2⟩⟩
theorem Chk.ok (e1 : Ev g (0, ())) (e2 : ∀ r, Ev rest r → Ev h r) : Chk g h rest := ⟨0, e1, .inr ⟨rfl, e2⟩⟩
theorem Chk.loop {g h : Nat → Int → Option (Int × Unit)} (n : Nat) (step : ∀ i : Nat, i < n → Chk (fun k => g k ((i : Int) + 1)) (fun k => h k ((i : Int) + 1)) rest → Chk (fun k => g k i) (fun k => h k i) rest)
 (fin : Chk (fun k => g k n) (fun k => h k n) rest) : Chk (fun k => g k 0) (fun k => h k 0) rest := by
 have loop : ∀ (d i : Nat), i + d = n → Chk (fun k => g k i) (fun k => h k i) rest := by
  intro d
  induction d with
  | zero =>
   intro i hi
   obtain rfl : i = n := by omega
   exact fin
  | succ d ih =>
   intro i hi
   have := ih (i + 1) (by omega)
   rw [show ((i + 1 : Nat) : Int) = (i : Int) + 1 by omega] at this
   exact step i (by omega) this
 exact loop n 0 (by omega)
end
end Go.Proofs.YtadhpgecilhgnaaDoor.Pure

-- YtadhpgecilhgnaaDoorE5
set_option linter.unusedVariables false
set_option linter.unusedSimpArgs false
namespace Go.Proofs.YtadhpgecilhgnaaDoor.Pure
open Go Go.Proofs.YtadhpgecilhgnaaDoor.A

theorem wpred {i : Nat} (h : i ≠ 0) (hi : i < 4611686018427387904) : IntKind.wrap .i64 ((i : Int) - 1) = ((i - 1 : Nat) : Int) := by rw [w64 (by omega) (by omega)]; omega
theorem modes_chk (w : DFWatch) (h0 : okT YFWatch w) (ml : w.1.length ≤ 50) {g h rest : Nat → Option (Int × Unit)}
 (hg : Chk g h rest)
 (eg : ∀ k, monitor_checkModes.c0 (k + 1) w.1 w.2.1 w.2.2.1 w.2.2.2 w.1 (w.1.length : Int) (w.1.length : Int) = g k) (eh : ∀ k, perigeeref8_CheckWatch.c0 (k + 1) w.1 w.2.1 w.2.2.1 w.2.2.2 (w.1.length : Int) = h k) :
 Chk (fun k => monitor_checkModes.c0 k w.1 w.2.1 w.2.2.1 w.2.2.2 w.1 (w.1.length : Int) 0) (fun k => perigeeref8_CheckWatch.c0 k w.1 w.2.1 w.2.2.1 w.2.2.2 0) rest := by
 refine Chk.loop (g := fun k i => monitor_checkModes.c0 k w.1 w.2.1 w.2.2.1 w.2.2.2 w.1 (w.1.length : Int) i) (h := fun k i => perigeeref8_CheckWatch.c0 k w.1 w.2.1 w.2.2.1 w.2.2.2 i) w.1.length (fun i hi next => ?_) (Chk.l (fun r e => Ev.step eg e) (Chk.r (fun r e => Ev.step eh e) hg))
 have hx := h0.1.2.2 _ (getD_mem (z := []) hi)
 have hw : IntKind.wrap .i64 ((i : Int) + 1) = (i : Int) + 1 := w64 (by omega) (by omega)
 generalize hcc : w.1.getD i [] = x at hx
 obtain ⟨n1, _⟩ := name_ev _ hx
 have n2 := rname_ev _ hx
 by_cases a1 : isNm x = true
 case neg =>
  refine Chk.bad (c := 5) (by omega) (Ev.step (fun k => monitor_checkModes.c0_eq _ _ _ _ _ _ _ _) ?_) (Ev.step (fun k => perigeeref8_CheckWatch.c0_eq _ _ _ _ _ _) ?_)
  ·simp only [Int.toNat_natCast, hcc]
   exact Ev.yes (by simp; omega) (Ev.yes (by omega) (Ev.bind n1 (Ev.yes (by simpa using a1) (Ev.now _))))
  ·simp only [Int.toNat_natCast, hcc]
   exact Ev.yes (by simp; omega) (Ev.yes (by omega) (Ev.bind n2 (Ev.yes (by simpa using a1) (Ev.now _))))
 by_cases i0 : i = 0
 ·subst i0
  refine Chk.l (fun r e => Ev.step (fun k => monitor_checkModes.c0_eq _ _ _ _ _ _ _ _) ?_) (Chk.r (fun r e => Ev.step (fun k => perigeeref8_CheckWatch.c0_eq _ _ _ _ _ _) ?_) next)
  ·simp only [Int.toNat_natCast, hcc, hw]
   exact Ev.yes (by simp; omega) (Ev.yes (by omega) (Ev.bind n1 (Ev.no (by simp [a1]) (Ev.no (by simp) e))))
  ·simp only [Int.toNat_natCast, hcc, hw]
   exact Ev.yes (by simp; omega) (Ev.yes (by omega) (Ev.bind n2 (Ev.no (by simp [a1]) (Ev.no (by simp) e))))
 have hp := wpred i0 (by omega)
 by_cases l1 : lessS (w.1.getD (i - 1) []) x = true
 ·refine Chk.l (fun r e => Ev.step (fun k => monitor_checkModes.c0_eq _ _ _ _ _ _ _ _) ?_) (Chk.r (fun r e => Ev.step (fun k => perigeeref8_CheckWatch.c0_eq _ _ _ _ _ _) ?_) next)
  ·simp only [hw, hp, Int.toNat_natCast, hcc]
   exact Ev.yes (by simp; omega) (Ev.yes (by omega) (Ev.bind n1 (Ev.no (by simp [a1]) (Ev.yes (by simp; omega) (Ev.yes (by omega) (Ev.no (fun h => by rw [l1] at h; cases h) e))))))
  ·simp only [hw, hp, Int.toNat_natCast, hcc]
   exact Ev.yes (by simp; omega) (Ev.yes (by omega) (Ev.bind n2 (Ev.no (by simp [a1]) (Ev.yes (by simp; omega) (Ev.yes (by omega) (Ev.yes (by omega) (Ev.no (fun h => by rw [l1] at h; cases h) e)))))))
 ·refine Chk.bad (c := 8) (by omega) (Ev.step (fun k => monitor_checkModes.c0_eq _ _ _ _ _ _ _ _) ?_) (Ev.step (fun k => perigeeref8_CheckWatch.c0_eq _ _ _ _ _ _) ?_)
  ·simp only [hp, Int.toNat_natCast, hcc]
   exact Ev.yes (by simp; omega) (Ev.yes (by omega) (Ev.bind n1 (Ev.no (by simp [a1]) (Ev.yes (by simp; omega) (Ev.yes (by omega) (Ev.yes (by simpa using l1) (Ev.now _)))))))
  ·simp only [hp, Int.toNat_natCast, hcc]
   exact Ev.yes (by simp; omega) (Ev.yes (by omega) (Ev.bind n2 (Ev.no (by simp [a1]) (Ev.yes (by simp; omega) (Ev.yes (by omega) (Ev.yes (by omega) (Ev.yes (by simpa using l1) (Ev.now _))))))))
theorem changes_chk (w : DFWatch) (h0 : okT YFWatch w) (ml : w.1.length ≤ 50) (cl : w.2.1.length ≤ 500) {g h rest : Nat → Option (Int × Unit)}
 (hg : Chk g h rest)
 (eg : ∀ k, monitor_checkModes.c1 (k + 1) w.1 w.2.1 w.2.2.1 w.2.2.2 w.2.1 (w.2.1.length : Int) (w.2.1.length : Int) = g k) (eh : ∀ k, perigeeref8_CheckWatch.c1 (k + 1) w.1 w.2.1 w.2.2.1 w.2.2.2 (w.2.1.length : Int) = h k) :
 Chk (fun k => monitor_checkModes.c1 k w.1 w.2.1 w.2.2.1 w.2.2.2 w.2.1 (w.2.1.length : Int) 0) (fun k => perigeeref8_CheckWatch.c1 k w.1 w.2.1 w.2.2.1 w.2.2.2 0) rest := by
 refine Chk.loop (g := fun k i => monitor_checkModes.c1 k w.1 w.2.1 w.2.2.1 w.2.2.2 w.2.1 (w.2.1.length : Int) i) (h := fun k i => perigeeref8_CheckWatch.c1 k w.1 w.2.1 w.2.2.1 w.2.2.2 i) w.2.1.length (fun i hi next => ?_) (Chk.l (fun r e => Ev.step eg e) (Chk.r (fun r e => Ev.step eh e) hg))
 have hc := h0.2.1.2.2 _ (getD_mem (z := Ty.dflt YModeChange) hi)
 have hw : IntKind.wrap .i64 ((i : Int) + 1) = (i : Int) + 1 := w64 (by omega) (by omega)
 -- the reference's one change
 have rc : ∀ {c : Int}, Ev (fun k => perigeeref8_checkChange.f k w (i : Int)) (c, ()) → c ≠ 0 → Ev (fun k => perigeeref8_CheckWatch.c1 k w.1 w.2.1 w.2.2.1 w.2.2.2 (i : Int)) (c, ()) := fun {c} e hc => by
  refine Ev.step (fun k => perigeeref8_CheckWatch.c1_eq _ _ _ _ _ _) ?_
  exact Ev.yes (by simp; omega) (Ev.bind e (Ev.yes (by simpa using hc) (Ev.now _)))
 have rok : Ev (fun k => perigeeref8_checkChange.f k w (i : Int)) (0, ()) → ∀ r, Ev (fun k => perigeeref8_CheckWatch.c1 k w.1 w.2.1 w.2.2.1 w.2.2.2 ((i : Int) + 1)) r → Ev (fun k => perigeeref8_CheckWatch.c1 k w.1 w.2.1 w.2.2.1 w.2.2.2 (i : Int)) r := fun e r hr => by
  refine Ev.step (fun k => perigeeref8_CheckWatch.c1_eq _ _ _ _ _ _) ?_
  rw [hw]
  exact Ev.yes (by simp; omega) (Ev.bind e (Ev.no (by simp) hr))
 generalize hcc : w.2.1.getD i (Ty.dflt YModeChange) = c at hc
 obtain ⟨n1, _⟩ := name_ev c.2.1 hc.2.1
 have n2 := rname_ev c.2.1 hc.2.1
 have c1 := contains_ev w.1 c.1 (by omega)
 have c2 := contains_ev w.1 c.2.2 (by omega)
 have d1 := rhas_ev w.1 c.1 (by omega)
 have d2 := rhas_ev w.1 c.2.2 (by omega)
 by_cases a1 : c.1 ∈ w.1
 case neg =>
  refine Chk.bad (c := 9) (by omega) (Ev.step (fun k => monitor_checkModes.c1_eq _ _ _ _ _ _ _ _) ?_) (rc (Ev.eq (fun k => perigeeref8_checkChange.f_eq _ _ _) ?_) (by omega))
  ·simp only [Int.toNat_natCast, hcc]
   exact Ev.yes (by simp; omega) (Ev.yes (by omega) (Ev.bind c1 (Ev.yes (by simp [a1]) (Ev.now _))))
  ·simp only [Int.toNat_natCast, hcc]
   exact Ev.yes (by omega) (Ev.bind d1 (Ev.yes (by simp [a1]) (Ev.now _)))
 by_cases a2 : c.2.2 ∈ w.1
 case neg =>
  refine Chk.bad (c := 9) (by omega) (Ev.step (fun k => monitor_checkModes.c1_eq _ _ _ _ _ _ _ _) ?_) (rc (Ev.eq (fun k => perigeeref8_checkChange.f_eq _ _ _) ?_) (by omega))
  ·simp only [Int.toNat_natCast, hcc]
   exact Ev.yes (by simp; omega) (Ev.yes (by omega) (Ev.bind c1 (Ev.no (by simp [a1]) (Ev.bind c2 (Ev.yes (by simp [a2]) (Ev.now _))))))
  ·simp only [Int.toNat_natCast, hcc]
   exact Ev.yes (by omega) (Ev.bind d1 (Ev.no (by simp [a1]) (Ev.bind d2 (Ev.yes (by simp [a2]) (Ev.now _)))))
 have gl : ∀ r, Ev (fun k => monitor_checkModes.c2 k w.1 w.2.1 w.2.2.1 w.2.2.2 (i : Int) c.1 c.2.1 c.2.2 w.2.1 (w.2.1.length : Int) (i : Int)) r → Ev (fun k => monitor_checkModes.c1 k w.1 w.2.1 w.2.2.1 w.2.2.2 w.2.1 (w.2.1.length : Int) (i : Int)) r := fun r e => by
  refine Ev.step (fun k => monitor_checkModes.c1_eq _ _ _ _ _ _ _ _) ?_
  simp only [Int.toNat_natCast, hcc]
  exact Ev.yes (by simp; omega) (Ev.yes (by omega) (Ev.bind c1 (Ev.no (by simp [a1]) (Ev.bind c2 (Ev.no (by simp [a2]) e)))))
 have gr : ∀ r, Ev (fun k => perigeeref8_checkChange.c0 k (i : Int) w.1 w.2.1 w.2.2.1 w.2.2.2 c.1 c.2.1 c.2.2) r → Ev (fun k => perigeeref8_checkChange.f k w (i : Int)) r := fun r e => by
  refine Ev.eq (fun k => perigeeref8_checkChange.f_eq _ _ _) ?_
  simp only [Int.toNat_natCast, hcc]
  exact Ev.yes (by omega) (Ev.bind d1 (Ev.no (by simp [a1]) (Ev.bind d2 (Ev.no (by simp [a2]) e))))
 by_cases a3 : isNm c.2.1 = true
 case neg =>
  refine Chk.bad (c := 5) (by omega) (gl _ (Ev.step (fun k => monitor_checkModes.c2_eq _ _ _ _ _ _ _ _ _ _ _ _) ?_)) (rc (gr _ (Ev.step (fun k => perigeeref8_checkChange.c0_eq _ _ _ _ _ _ _ _ _) ?_)) (by omega))
  ·exact Ev.bind n1 (Ev.yes (by simpa using a3) (Ev.now _))
  ·exact Ev.bind n2 (Ev.yes (by simpa using a3) (Ev.now _))
 by_cases i0 : i = 0
 ·subst i0
  refine Chk.l (fun r e => gl _ (Ev.step (fun k => monitor_checkModes.c2_eq _ _ _ _ _ _ _ _ _ _ _ _) ?_)) (Chk.r (rok (gr _ (Ev.step (fun k => perigeeref8_checkChange.c0_eq _ _ _ _ _ _ _ _ _) ?_))) next)
  ·rw [hw]
   exact Ev.bind n1 (Ev.no (by simp [a3]) (Ev.no (by simp) e))
  ·exact Ev.bind n2 (Ev.no (by simp [a3]) (Ev.no (by simp) (Ev.now _)))
 have hp := wpred i0 (by omega)
 have gl2 : ∀ r, Ev (fun k => if (lessS c.1 (w.2.1.getD (i - 1) (Ty.dflt YModeChange)).1) = true then some (8, ()) else if (decide (c.1 = (w.2.1.getD (i - 1) (Ty.dflt YModeChange)).1)) = true then (if (!(lessS (w.2.1.getD (i - 1) (Ty.dflt YModeChange)).2.1 c.2.1)) = true then some (8, ()) else monitor_checkModes.c1 k w.1 w.2.1 w.2.2.1 w.2.2.2 w.2.1 (w.2.1.length : Int) ((i : Int) + 1)) else monitor_checkModes.c1 k w.1 w.2.1 w.2.2.1 w.2.2.2 w.2.1 (w.2.1.length : Int) ((i : Int) + 1)) r → Ev (fun k => monitor_checkModes.c1 k w.1 w.2.1 w.2.2.1 w.2.2.2 w.2.1 (w.2.1.length : Int) (i : Int)) r := fun r e => by
  refine gl _ (Ev.step (fun k => monitor_checkModes.c2_eq _ _ _ _ _ _ _ _ _ _ _ _) ?_)
  refine Ev.bind n1 (Ev.no (by simp [a3]) (Ev.yes (by simp; omega) ?_))
  simp only [hp, hw, Int.toNat_natCast]
  exact Ev.yes (by omega) e
 have gr2 : ∀ r, Ev (fun k => if (lessS c.1 (w.2.1.getD (i - 1) (Ty.dflt YModeChange)).1) = true then some (8, ()) else if (decide (c.1 = (w.2.1.getD (i - 1) (Ty.dflt YModeChange)).1)) = true then (if (!(lessS (w.2.1.getD (i - 1) (Ty.dflt YModeChange)).2.1 c.2.1)) = true then some (8, ()) else some (0, ())) else some (0, ())) r → Ev (fun k => perigeeref8_checkChange.f k w (i : Int)) r := fun r e => by
  refine gr _ (Ev.step (fun k => perigeeref8_checkChange.c0_eq _ _ _ _ _ _ _ _ _) ?_)
  refine Ev.bind n2 (Ev.no (by simp [a3]) (Ev.yes (by simp; omega) ?_))
  simp only [hp, hw, Int.toNat_natCast]
  exact Ev.yes (by omega) e
 by_cases l1 : lessS c.1 (w.2.1.getD (i - 1) (Ty.dflt YModeChange)).1 = true
 ·exact Chk.bad (c := 8) (by omega) (gl2 _ (Ev.yes l1 (Ev.now _))) (rc (gr2 _ (Ev.yes l1 (Ev.now _))) (by omega))
 by_cases l2 : c.1 = (w.2.1.getD (i - 1) (Ty.dflt YModeChange)).1
 ·by_cases l3 : lessS (w.2.1.getD (i - 1) (Ty.dflt YModeChange)).2.1 c.2.1 = true
  ·exact Chk.l (fun r e => gl2 _ (Ev.no l1 (Ev.yes (decide_eq_true l2) (Ev.no (fun h => by rw [l3] at h; cases h) e)))) (Chk.r (rok (gr2 _ (Ev.no l1 (Ev.yes (decide_eq_true l2) (Ev.no (fun h => by rw [l3] at h; cases h) (Ev.now _)))))) next)
  ·exact Chk.bad (c := 8) (by omega) (gl2 _ (Ev.no l1 (Ev.yes (decide_eq_true l2) (Ev.yes (by simpa using l3) (Ev.now _))))) (rc (gr2 _ (Ev.no l1 (Ev.yes (decide_eq_true l2) (Ev.yes (by simpa using l3) (Ev.now _))))) (by omega))
 ·exact Chk.l (fun r e => gl2 _ (Ev.no l1 (Ev.no (fun h => l2 (of_decide_eq_true h)) e))) (Chk.r (rok (gr2 _ (Ev.no l1 (Ev.no (fun h => l2 (of_decide_eq_true h)) (Ev.now _))))) next)
end Go.Proofs.YtadhpgecilhgnaaDoor.Pure

-- YtadhpgecilhgnaaDoorE6
set_option linter.unusedVariables false
set_option linter.unusedSimpArgs false
namespace Go.Proofs.YtadhpgecilhgnaaDoor.Pure
open Go Go.Proofs.YtadhpgecilhgnaaDoor.A

theorem Chk.loopS {σ : Type} {rest : Nat → Option (Int × Unit)} {g : Nat → σ → Int → Option (Int × Unit)} {h : Nat → Int → Option (Int × Unit)} (n : Nat) (Inv : Nat → σ → Prop)
 (step : ∀ (i : Nat) (s : σ), i < n → Inv i s → (∀ s', Inv (i + 1) s' → Chk (fun k => g k s' ((i : Int) + 1)) (fun k => h k ((i : Int) + 1)) rest) → Chk (fun k => g k s i) (fun k => h k i) rest)
 (fin : ∀ s, Inv n s → Chk (fun k => g k s n) (fun k => h k n) rest) (s : σ) (h0 : Inv 0 s) : Chk (fun k => g k s 0) (fun k => h k 0) rest := by
 have loop : ∀ (d i : Nat) (s : σ), i + d = n → Inv i s → Chk (fun k => g k s i) (fun k => h k i) rest := by
  intro d
  induction d with
  | zero =>
   intro i s hi hs
   obtain rfl : i = n := by omega
   exact fin s hs
  | succ d ih =>
   intro i s hi hs
   refine step i s (by omega) hs fun s' hs' => ?_
   have := ih (i + 1) s' (by omega) hs'
   rw [show ((i + 1 : Nat) : Int) = (i : Int) + 1 by omega] at this
   exact this
 exact loop n 0 s (by omega) h0
theorem rwithin (k : Nat) (n a b : Int) : perigeeref8_within.f k n a b = some (decide (a ≤ n ∧ n ≤ b), ()) := by
 rw [perigeeref8_within.f_eq]
 by_cases h1 : a ≤ n <;> simp [h1]
noncomputable def ordR (w : DFWatch) (i : Nat) : Int := if 0 < i ∧ lessS (w.2.2.2.getD (i - 1) (Ty.dflt YFWatchRule)).1 (w.2.2.2.getD i (Ty.dflt YFWatchRule)).1 = false then 8 else 0
theorem rule_chk (w : DFWatch) (ml : w.1.length ≤ 50) (rl : w.2.2.2.length ≤ 200) {i : Nat} (hi : i < w.2.2.2.length) (hx : okT YFWatchRule (w.2.2.2.getD i (Ty.dflt YFWatchRule))) :
 Chk (fun k => monitor_checkRule.f k w (w.2.2.2.getD i (Ty.dflt YFWatchRule))) (fun k => perigeeref8_checkRule.f k w (i : Int)) (fun _ => some (ordR w i, ())) := by
 unfold ordR
 generalize hxx : w.2.2.2.getD i (Ty.dflt YFWatchRule) = x at hx
 have gr : ∀ r, Ev (fun k => (perigeeref8_IsName.f k x.1).bind fun r1 => if (!r1.1) = true then some (5, ()) else (perigeeref8_IsName.f k x.2.1).bind fun r2 => if (!r2.1) = true then some (5, ()) else perigeeref8_checkRule.c0 k (i : Int) w.1 w.2.1 w.2.2.1 w.2.2.2 x.1 x.2.1 x.2.2.1 x.2.2.2.1 x.2.2.2.2) r → Ev (fun k => perigeeref8_checkRule.f k w (i : Int)) r := fun r e => by
  refine Ev.eq (fun k => perigeeref8_checkRule.f_eq _ _ _) ?_
  simp only [Int.toNat_natCast, hxx]
  exact Ev.yes (by omega) e
 refine Chk.l (fun r e => Ev.eq (fun k => monitor_checkRule.f_eq _ _ _) e) (Chk.r gr ?_)
 obtain ⟨n1, _⟩ := name_ev x.1 hx.1
 obtain ⟨n2, _⟩ := name_ev x.2.1 hx.2.1
 have m1 := rname_ev x.1 hx.1
 have m2 := rname_ev x.2.1 hx.2.1
 by_cases a1 : isNm x.1 = true
 case neg => exact Chk.bad (c := 5) (by omega) (Ev.bind n1 (Ev.yes (by simpa using a1) (Ev.now _))) (Ev.bind m1 (Ev.yes (by simpa using a1) (Ev.now _)))
 by_cases a2 : isNm x.2.1 = true
 case neg => exact Chk.bad (c := 5) (by omega) (Ev.bind n1 (Ev.no (by simp [a1]) (Ev.bind n2 (Ev.yes (by simpa using a2) (Ev.now _))))) (Ev.bind m1 (Ev.no (by simp [a1]) (Ev.bind m2 (Ev.yes (by simpa using a2) (Ev.now _)))))
 refine Chk.l (fun r e => Ev.bind n1 (Ev.no (by simp [a1]) (Ev.bind n2 (Ev.no (by simp [a2]) e)))) (Chk.r (fun r e => Ev.bind m1 (Ev.no (by simp [a1]) (Ev.bind m2 (Ev.no (by simp [a2]) e)))) ?_)
 suffices tail : Chk (fun k => monitor_checkRule.c1 k x.1 x.2.1 x.2.2.1 x.2.2.2.1 x.2.2.2.2) (fun k => perigeeref8_checkRule.c1 k (i : Int) w.1 w.2.1 w.2.2.1 w.2.2.2 x.1 x.2.1 x.2.2.1 x.2.2.2.1 x.2.2.2.2) (fun _ => some (if 0 < i ∧ lessS (w.2.2.2.getD (i - 1) (Ty.dflt YFWatchRule)).1 x.1 = false then 8 else 0, ())) by
  refine Chk.l (fun r e => Ev.step (fun k => monitor_checkRule.c0_eq _ _ _ _ _ _ _ _ _ _) e) (Chk.r (fun r e => Ev.step (fun k => perigeeref8_checkRule.c0_eq _ _ _ _ _ _ _ _ _ _ _) e) ?_)
  by_cases a3 : x.2.2.1 = []
  ·exact Chk.l (fun r e => Ev.no (by simp [a3]) e) (Chk.r (fun r e => Ev.no (by simp [a3]) e) tail)
  by_cases a4 : x.2.2.1 ∈ w.1
  ·exact Chk.l (fun r e => Ev.yes (by simpa using a3) (Ev.bind (contains_ev _ _ (by omega)) (Ev.no (by simp [a4]) e))) (Chk.r (fun r e => Ev.yes (by simpa using a3) (Ev.bind (rhas_ev _ _ (by omega)) (Ev.no (by simp [a4]) e))) tail)
  ·exact Chk.bad (c := 9) (by omega) (Ev.yes (by simpa using a3) (Ev.bind (contains_ev _ _ (by omega)) (Ev.yes (by simp [a4]) (Ev.now _)))) (Ev.yes (by simpa using a3) (Ev.bind (rhas_ev _ _ (by omega)) (Ev.yes (by simp [a4]) (Ev.now _))))
 refine Chk.l (fun r e => Ev.step (fun k => monitor_checkRule.c1_eq _ _ _ _ _ _) e) (Chk.r (fun r e => Ev.step (fun k => perigeeref8_checkRule.c1_eq _ _ _ _ _ _ _ _ _ _ _) e) ?_)
 by_cases al : 10 < x.2.2.2.2.length
 ·exact Chk.bad (c := 2) (by omega) (Ev.yes (decide_eq_true (by omega)) (Ev.now _)) (Ev.yes (decide_eq_true (by omega)) (Ev.now _))
 refine Chk.l (fun r e => Ev.no (fun h => al (by have := of_decide_eq_true h; omega)) e) (Chk.r (fun r e => Ev.no (fun h => al (by have := of_decide_eq_true h; omega)) e) ?_)
 refine Chk.loop (g := fun k j => monitor_checkRule.c2 k x.2.2.2.2 (x.2.2.2.2.length : Int) j) (h := fun k j => perigeeref8_checkRule.c2 k (i : Int) w.1 w.2.1 w.2.2.1 w.2.2.2 x.1 x.2.1 x.2.2.1 x.2.2.2.1 x.2.2.2.2 j) x.2.2.2.2.length (fun j hj next => ?_) ?_
 ·have hy := hx.2.2.2.2.2.2 _ (getD_mem (z := Ty.dflt YAct) hj)
  have hw : IntKind.wrap .i64 ((j : Int) + 1) = (j : Int) + 1 := w64 (by omega) (by omega)
  generalize hyy : x.2.2.2.2.getD j (Ty.dflt YAct) = y at hy
  have gl : ∀ r, Ev (fun k => if (!decide (1 ≤ y.1 ∧ y.1 ≤ 4)) = true then some (4, ()) else (monitor_IsName.f k y.2.1).bind fun r5 => if (!r5.1) = true then some (5, ()) else if y.2.2 = true then (if (!(decide (y.1 = 4))) = true then some (3, ()) else monitor_checkRule.c2 k x.2.2.2.2 (x.2.2.2.2.length : Int) ((j : Int) + 1)) else monitor_checkRule.c2 k x.2.2.2.2 (x.2.2.2.2.length : Int) ((j : Int) + 1)) r → Ev (fun k => monitor_checkRule.c2 k x.2.2.2.2 (x.2.2.2.2.length : Int) (j : Int)) r := fun r e => by
   refine Ev.step (fun k => monitor_checkRule.c2_eq _ _ _ _) ?_
   simp only [Int.toNat_natCast, hyy, hw, in_ev, Option.bind_some]
   exact Ev.yes (by simp; omega) (Ev.yes (by omega) e)
  have gr : ∀ r, Ev (fun k => if (!decide (1 ≤ y.1 ∧ y.1 ≤ 4)) = true then some (4, ()) else (perigeeref8_IsName.f k y.2.1).bind fun r5 => if (!r5.1) = true then some (5, ()) else if y.2.2 = true then (if (!(decide (y.1 = 4))) = true then some (3, ()) else perigeeref8_checkRule.c2 k (i : Int) w.1 w.2.1 w.2.2.1 w.2.2.2 x.1 x.2.1 x.2.2.1 x.2.2.2.1 x.2.2.2.2 ((j : Int) + 1)) else perigeeref8_checkRule.c2 k (i : Int) w.1 w.2.1 w.2.2.1 w.2.2.2 x.1 x.2.1 x.2.2.1 x.2.2.2.1 x.2.2.2.2 ((j : Int) + 1)) r → Ev (fun k => perigeeref8_checkRule.c2 k (i : Int) w.1 w.2.1 w.2.2.1 w.2.2.2 x.1 x.2.1 x.2.2.1 x.2.2.2.1 x.2.2.2.2 (j : Int)) r := fun r e => by
   refine Ev.step (fun k => perigeeref8_checkRule.c2_eq _ _ _ _ _ _ _ _ _ _ _ _) ?_
   simp only [Int.toNat_natCast, hyy, hw, rwithin, Option.bind_some]
   exact Ev.yes (by simp; omega) (Ev.yes (by omega) e)
  refine Chk.l gl (Chk.r gr ?_)
  obtain ⟨n3, _⟩ := name_ev y.2.1 hy.2.1
  have m3 := rname_ev y.2.1 hy.2.1
  by_cases k1 : (1 ≤ y.1 ∧ y.1 ≤ 4)
  case neg => exact Chk.bad (c := 4) (by omega) (Ev.yes (by rw [decide_eq_false k1]; rfl) (Ev.now _)) (Ev.yes (by rw [decide_eq_false k1]; rfl) (Ev.now _))
  refine Chk.l (fun r e => Ev.no (by rw [decide_eq_true k1]; simp) e) (Chk.r (fun r e => Ev.no (by rw [decide_eq_true k1]; simp) e) ?_)
  by_cases k2 : isNm y.2.1 = true
  case neg => exact Chk.bad (c := 5) (by omega) (Ev.bind n3 (Ev.yes (by simpa using k2) (Ev.now _))) (Ev.bind m3 (Ev.yes (by simpa using k2) (Ev.now _)))
  refine Chk.l (fun r e => Ev.bind n3 (Ev.no (by simp [k2]) e)) (Chk.r (fun r e => Ev.bind m3 (Ev.no (by simp [k2]) e)) ?_)
  by_cases k3 : y.2.2 = true
  case neg => exact Chk.l (fun r e => Ev.no k3 e) (Chk.r (fun r e => Ev.no k3 e) next)
  refine Chk.l (fun r e => Ev.yes k3 e) (Chk.r (fun r e => Ev.yes k3 e) ?_)
  by_cases k4 : y.1 = 4
  ·exact Chk.l (fun r e => Ev.no (by simp [k4]) e) (Chk.r (fun r e => Ev.no (by simp [k4]) e) next)
  ·exact Chk.bad (c := 3) (by omega) (Ev.yes (by simpa using k4) (Ev.now _)) (Ev.yes (by simpa using k4) (Ev.now _))
 ·refine Chk.ok (Ev.step (fun k => monitor_checkRule.c2_eq _ _ _ _) (Ev.no (by simp) (Ev.now _))) fun r e => Ev.step (fun k => perigeeref8_checkRule.c2_eq _ _ _ _ _ _ _ _ _ _ _ _) (Ev.no (by simp) ?_)
  by_cases i0 : i = 0
  ·subst i0
   exact Ev.no (by simp) (by simpa using e)
  ·simp only [wpred i0 (by omega), Int.toNat_natCast]
   by_cases l1 : lessS (w.2.2.2.getD (i - 1) (Ty.dflt YFWatchRule)).1 x.1 = true
   ·refine Ev.yes (by simp; omega) (Ev.yes (by omega) (Ev.no (fun h => by rw [l1] at h; cases h) ?_))
    rw [if_neg (fun h => by rw [l1] at h; exact absurd h.2 (by simp))] at e
    exact e
   ·have l1 : lessS (w.2.2.2.getD (i - 1) (Ty.dflt YFWatchRule)).1 x.1 = false := by rw [← Bool.not_eq_true]; exact l1
    refine Ev.yes (by simp; omega) (Ev.yes (by omega) (Ev.yes (by rw [l1]; rfl) ?_))
    rw [if_pos ⟨by omega, l1⟩] at e
    exact e
theorem acts_chk (w : DFWatch) (rl : w.2.2.2.length ≤ 200) (h0 : okT YFWatch w) (m : List (S × Bool)) (hm : ∀ v : S, (lk m v).getD false = true ↔ ∃ x ∈ w.2.2.2, x.1 = v) :
 Chk (fun k => monitor_CheckWatch.c1 k m w.2.2.2 (w.2.2.2.length : Int) 0) (fun k => perigeeref8_CheckWatch.c3 k w.1 w.2.1 w.2.2.1 w.2.2.2 0) (fun _ => some (0, ())) := by
 refine Chk.loop (g := fun k i => monitor_CheckWatch.c1 k m w.2.2.2 (w.2.2.2.length : Int) i) (h := fun k i => perigeeref8_CheckWatch.c3 k w.1 w.2.1 w.2.2.1 w.2.2.2 i) w.2.2.2.length (fun i hi next => ?_) ?_
 ·have hx := h0.2.2.2.2.2 _ (getD_mem (z := Ty.dflt YFWatchRule) hi)
  have hw : IntKind.wrap .i64 ((i : Int) + 1) = (i : Int) + 1 := w64 (by omega) (by omega)
  generalize hxx : w.2.2.2.getD i (Ty.dflt YFWatchRule) = x at hx
  have al := hx.2.2.2.2.1
  have gl : ∀ r, Ev (fun k => monitor_CheckWatch.c2 k m w.2.2.2 (w.2.2.2.length : Int) (i : Int) x.2.2.2.2 (x.2.2.2.2.length : Int) 0) r → Ev (fun k => monitor_CheckWatch.c1 k m w.2.2.2 (w.2.2.2.length : Int) (i : Int)) r := fun r e => by
   refine Ev.step (fun k => monitor_CheckWatch.c1_eq _ _ _ _ _) ?_
   simp only [Int.toNat_natCast, hxx]
   exact Ev.yes (by simp; omega) (Ev.yes (by omega) e)
  have gr : ∀ r, Ev (fun k => perigeeref8_CheckWatch.c4 k w.1 w.2.1 w.2.2.1 w.2.2.2 (i : Int) 0) r → Ev (fun k => perigeeref8_CheckWatch.c3 k w.1 w.2.1 w.2.2.1 w.2.2.2 (i : Int)) r := fun r e => by
   refine Ev.step (fun k => perigeeref8_CheckWatch.c3_eq _ _ _ _ _ _) ?_
   exact Ev.yes (by simp; omega) e
  refine Chk.l gl (Chk.r gr ?_)
  refine Chk.loop (g := fun k j => monitor_CheckWatch.c2 k m w.2.2.2 (w.2.2.2.length : Int) (i : Int) x.2.2.2.2 (x.2.2.2.2.length : Int) j) (h := fun k j => perigeeref8_CheckWatch.c4 k w.1 w.2.1 w.2.2.1 w.2.2.2 (i : Int) j) x.2.2.2.2.length (fun j hj nexty => ?_) ?_
  ·have hwj : IntKind.wrap .i64 ((j : Int) + 1) = (j : Int) + 1 := w64 (by omega) (by omega)
   obtain ⟨y, hyy⟩ : ∃ y, x.2.2.2.2.getD j (Ty.dflt YAct) = y := ⟨_, rfl⟩
   have gl : ∀ r, Ev (fun k => if (decide (y.1 = 2)) = true then (if (!(mapGet .str .bool y.2.1 m false)) = true then some (9, ()) else monitor_CheckWatch.c2 k m w.2.2.2 (w.2.2.2.length : Int) (i : Int) x.2.2.2.2 (x.2.2.2.2.length : Int) ((j : Int) + 1)) else if (decide (y.1 = 3)) = true then (if (!(mapGet .str .bool y.2.1 m false)) = true then some (9, ()) else monitor_CheckWatch.c2 k m w.2.2.2 (w.2.2.2.length : Int) (i : Int) x.2.2.2.2 (x.2.2.2.2.length : Int) ((j : Int) + 1)) else monitor_CheckWatch.c2 k m w.2.2.2 (w.2.2.2.length : Int) (i : Int) x.2.2.2.2 (x.2.2.2.2.length : Int) ((j : Int) + 1)) r → Ev (fun k => monitor_CheckWatch.c2 k m w.2.2.2 (w.2.2.2.length : Int) (i : Int) x.2.2.2.2 (x.2.2.2.2.length : Int) (j : Int)) r := fun r e => by
    refine Ev.step (fun k => monitor_CheckWatch.c2_eq _ _ _ _ _ _ _ _) ?_
    simp only [Int.toNat_natCast, hyy, hwj]
    exact Ev.yes (by simp; omega) (Ev.yes (by omega) e)
   obtain ⟨q, q1, q2⟩ := rrule_ev w y.2.1 (by omega)
   have gr : ∀ r, Ev (fun k => if (decide (y.1 = 2)) = true then (if (decide (q.1 < 0)) = true then some (9, ()) else perigeeref8_CheckWatch.c4 k w.1 w.2.1 w.2.2.1 w.2.2.2 (i : Int) ((j : Int) + 1)) else if (decide (y.1 = 3)) = true then (if (decide (q.1 < 0)) = true then some (9, ()) else perigeeref8_CheckWatch.c4 k w.1 w.2.1 w.2.2.1 w.2.2.2 (i : Int) ((j : Int) + 1)) else perigeeref8_CheckWatch.c4 k w.1 w.2.1 w.2.2.1 w.2.2.2 (i : Int) ((j : Int) + 1)) r → Ev (fun k => perigeeref8_CheckWatch.c4 k w.1 w.2.1 w.2.2.1 w.2.2.2 (i : Int) (j : Int)) r := fun r e => by
    refine Ev.step (fun k => perigeeref8_CheckWatch.c4_eq _ _ _ _ _ _ _) ?_
    simp only [Int.toNat_natCast, hxx, hyy, hwj]
    refine Ev.yes (by omega) (Ev.yes (by simp; omega) (Ev.yes (by omega) (Ev.yes (by omega) ?_)))
    by_cases k1 : y.1 = 2
    ·simp only [k1] at e ⊢
     exact Ev.yes (by simp) (Ev.bind q1 (by simpa using e))
    ·have d1 : decide (y.1 = 2) = false := decide_eq_false k1
     simp only [d1] at e ⊢
     refine Ev.no (by simp) ?_
     have e : Ev (fun k => if (decide (y.1 = 3)) = true then (if (decide (q.1 < 0)) = true then some (9, ()) else perigeeref8_CheckWatch.c4 k w.1 w.2.1 w.2.2.1 w.2.2.2 (i : Int) ((j : Int) + 1)) else perigeeref8_CheckWatch.c4 k w.1 w.2.1 w.2.2.1 w.2.2.2 (i : Int) ((j : Int) + 1)) r := by simpa using e
     by_cases k2 : y.1 = 3
     ·have d2 : decide (y.1 = 3) = true := decide_eq_true k2
      simp only [d2, if_true] at e ⊢
      exact Ev.bind q1 e
     ·have d2 : decide (y.1 = 3) = false := decide_eq_false k2
      simp only [d2] at e ⊢
      simpa using e
   have hq : (mapGet .str .bool y.2.1 m false = true) ↔ ¬ q.1 < 0 := by
    rw [get_lk (σ := .bool), hm, q2]
    constructor
    ·rintro ⟨x, hx, e⟩ h; exact h x hx e
    ·intro h
     apply Classical.byContradiction
     intro hn
     exact h fun x hx e => hn ⟨x, hx, e⟩
   refine Chk.l gl (Chk.r gr ?_)
   have tail : Chk (fun k => if (!(mapGet .str .bool y.2.1 m false)) = true then some (9, ()) else monitor_CheckWatch.c2 k m w.2.2.2 (w.2.2.2.length : Int) (i : Int) x.2.2.2.2 (x.2.2.2.2.length : Int) ((j : Int) + 1)) (fun k => if (decide (q.1 < 0)) = true then some (9, ()) else perigeeref8_CheckWatch.c4 k w.1 w.2.1 w.2.2.1 w.2.2.2 (i : Int) ((j : Int) + 1)) (fun _ => some (0, ())) := by
    by_cases h : q.1 < 0
    ·have : mapGet .str .bool y.2.1 m false = false := by rw [← Bool.not_eq_true, hq]; exact fun e => e h
     exact Chk.bad (c := 9) (by omega) (Ev.yes (by rw [this]; rfl) (Ev.now _)) (Ev.yes (decide_eq_true h) (Ev.now _))
    ·have : mapGet .str .bool y.2.1 m false = true := hq.2 h
     exact Chk.l (fun r e => Ev.no (by rw [this]; simp) e) (Chk.r (fun r e => Ev.no (fun e => h (of_decide_eq_true e)) e) nexty)
   by_cases k1 : y.1 = 2
   ·exact Chk.l (fun r e => Ev.yes (decide_eq_true k1) e) (Chk.r (fun r e => Ev.yes (decide_eq_true k1) e) tail)
   by_cases k2 : y.1 = 3
   ·exact Chk.l (fun r e => Ev.no (fun e => k1 (of_decide_eq_true e)) (Ev.yes (decide_eq_true k2) e)) (Chk.r (fun r e => Ev.no (fun e => k1 (of_decide_eq_true e)) (Ev.yes (decide_eq_true k2) e)) tail)
   ·exact Chk.l (fun r e => Ev.no (fun e => k1 (of_decide_eq_true e)) (Ev.no (fun e => k2 (of_decide_eq_true e)) e)) (Chk.r (fun r e => Ev.no (fun e => k1 (of_decide_eq_true e)) (Ev.no (fun e => k2 (of_decide_eq_true e)) e)) nexty)
  ·refine Chk.l (fun r e => Ev.step (fun k => monitor_CheckWatch.c2_eq _ _ _ _ _ _ _ _) (Ev.no (by simp) ?_)) (Chk.r (fun r e => Ev.step (fun k => perigeeref8_CheckWatch.c4_eq _ _ _ _ _ _ _) ?_) next)
   ·rw [hw]; exact e
   ·simp only [Int.toNat_natCast, hxx, hw]
    exact Ev.yes (by omega) (Ev.no (by simp) e)
 ·exact Chk.ok (Ev.step (fun k => monitor_CheckWatch.c1_eq _ _ _ _ _) (Ev.no (by simp) (Ev.now _))) fun r e => Ev.step (fun k => perigeeref8_CheckWatch.c3_eq _ _ _ _ _ _) (Ev.no (by simp) e)
theorem rules_chk (w : DFWatch) (ml : w.1.length ≤ 50) (rl : w.2.2.2.length ≤ 200) (h0 : okT YFWatch w) :
 Chk (fun k => monitor_CheckWatch.c0 k w.1 w.2.1 w.2.2.1 w.2.2.2 [] w.2.2.2 (w.2.2.2.length : Int) 0) (fun k => perigeeref8_CheckWatch.c2 k w.1 w.2.1 w.2.2.1 w.2.2.2 0) (fun _ => some (0, ())) := by
 refine Chk.loopS (σ := List (S × Bool)) (g := fun k m i => monitor_CheckWatch.c0 k w.1 w.2.1 w.2.2.1 w.2.2.2 m w.2.2.2 (w.2.2.2.length : Int) i) (h := fun k i => perigeeref8_CheckWatch.c2 k w.1 w.2.1 w.2.2.1 w.2.2.2 i) w.2.2.2.length
  (fun i m => ∀ v : S, (lk m v).getD false = true ↔ ∃ x ∈ w.2.2.2.take i, x.1 = v) (fun i m hi hm next => ?_) (fun m hm => ?_) [] (fun v => by simp [lk])
 ·have hx := h0.2.2.2.2.2 _ (getD_mem (z := Ty.dflt YFWatchRule) hi)
  have hw : IntKind.wrap .i64 ((i : Int) + 1) = (i : Int) + 1 := w64 (by omega) (by omega)
  obtain ⟨c, c1, c2⟩ := rule_chk w ml rl hi hx
  rcases c2 with ⟨c3, c4⟩ | ⟨c3, c4⟩
  ·refine Chk.bad c3 (Ev.step (fun k => monitor_CheckWatch.c0_eq _ _ _ _ _ _ _ _ _) ?_) (Ev.step (fun k => perigeeref8_CheckWatch.c2_eq _ _ _ _ _ _) ?_)
   ·simp only [Int.toNat_natCast]
    exact Ev.yes (by simp; omega) (Ev.yes (by omega) (Ev.bind c1 (Ev.yes (by simpa using c3) (Ev.now _))))
   ·exact Ev.yes (by simp; omega) (Ev.bind c4 (Ev.yes (by simpa using c3) (Ev.now _)))
  ·subst c3
   have c4 := c4 _ (Ev.now _)
   have nxt := next (mapPut .str .bool (w.2.2.2.getD i (Ty.dflt YFWatchRule)).1 true m) (fun v => by
    rw [lk_put (σ := .bool), List.take_add_one, List.getElem?_eq_getElem hi, getD_nat _ _ _ hi]
    split
    ·rename_i e
     simp only [Option.getD_some, true_iff]
     exact ⟨_, List.mem_append_right _ (by simp), e⟩
    ·rename_i e
     rw [hm]
     constructor
     ·rintro ⟨x, hx, h⟩; exact ⟨x, List.mem_append_left _ hx, h⟩
     ·rintro ⟨x, hx, h⟩
      rcases List.mem_append.1 hx with hx | hx
      ·exact ⟨x, hx, h⟩
      ·simp at hx; subst hx; exact absurd h e)
   have ord : ordR w i = 8 ∨ ordR w i = 0 := by unfold ordR; split <;> simp
   by_cases i0 : i = 0
   ·subst i0
    have o0 : ordR w 0 = 0 := by unfold ordR; rw [if_neg (by simp)]
    rw [o0] at c4
    refine Chk.l (fun r e => Ev.step (fun k => monitor_CheckWatch.c0_eq _ _ _ _ _ _ _ _ _) ?_) (Chk.r (fun r e => Ev.step (fun k => perigeeref8_CheckWatch.c2_eq _ _ _ _ _ _) ?_) nxt)
    ·simp only [Int.toNat_natCast, hw]
     exact Ev.yes (by simp; omega) (Ev.yes (by omega) (Ev.bind c1 (Ev.no (by simp) (Ev.no (by simp) e))))
    ·rw [hw]
     exact Ev.yes (by simp; omega) (Ev.bind c4 (Ev.no (by simp) e))
   ·have hp := wpred i0 (by omega)
    by_cases l1 : lessS (w.2.2.2.getD (i - 1) (Ty.dflt YFWatchRule)).1 (w.2.2.2.getD i (Ty.dflt YFWatchRule)).1 = true
    ·have o0 : ordR w i = 0 := by unfold ordR; rw [if_neg (fun h => by rw [l1] at h; exact absurd h.2 (by simp))]
     rw [o0] at c4
     refine Chk.l (fun r e => Ev.step (fun k => monitor_CheckWatch.c0_eq _ _ _ _ _ _ _ _ _) ?_) (Chk.r (fun r e => Ev.step (fun k => perigeeref8_CheckWatch.c2_eq _ _ _ _ _ _) ?_) nxt)
     ·simp only [hw, hp, Int.toNat_natCast]
      exact Ev.yes (by simp; omega) (Ev.yes (by omega) (Ev.bind c1 (Ev.no (by simp) (Ev.yes (by simp; omega) (Ev.yes (by omega) (Ev.no (fun h => by rw [l1] at h; cases h) e))))))
     ·rw [hw]
      exact Ev.yes (by simp; omega) (Ev.bind c4 (Ev.no (by simp) e))
    ·have l1 : lessS (w.2.2.2.getD (i - 1) (Ty.dflt YFWatchRule)).1 (w.2.2.2.getD i (Ty.dflt YFWatchRule)).1 = false := by rw [← Bool.not_eq_true]; exact l1
     have o0 : ordR w i = 8 := by unfold ordR; rw [if_pos ⟨by omega, l1⟩]
     rw [o0] at c4
     refine Chk.bad (c := 8) (by omega) (Ev.step (fun k => monitor_CheckWatch.c0_eq _ _ _ _ _ _ _ _ _) ?_) (Ev.step (fun k => perigeeref8_CheckWatch.c2_eq _ _ _ _ _ _) ?_)
     ·simp only [hp, Int.toNat_natCast]
      exact Ev.yes (by simp; omega) (Ev.yes (by omega) (Ev.bind c1 (Ev.no (by simp) (Ev.yes (by simp; omega) (Ev.yes (by omega) (Ev.yes (by rw [l1]; rfl) (Ev.now _)))))))
     ·exact Ev.yes (by simp; omega) (Ev.bind c4 (Ev.yes (by simp) (Ev.now _)))
 ·rw [List.take_length] at hm
  exact Chk.l (fun r e => Ev.step (fun k => monitor_CheckWatch.c0_eq _ _ _ _ _ _ _ _ _) (Ev.no (by simp) e)) (Chk.r (fun r e => Ev.step (fun k => perigeeref8_CheckWatch.c2_eq _ _ _ _ _ _) (Ev.no (by simp) e)) (acts_chk w rl h0 m hm))
theorem watch_twin (w : DFWatch) (h0 : okT YFWatch w) : ∃ c : Int, Ev (fun k => monitor_CheckWatch.f k w) (c, ()) ∧ Ev (fun k => perigeeref8_CheckWatch.f k w) (c, ()) := by
 have first : Chk (fun k => monitor_checkModes.f k w) (fun k => perigeeref8_CheckWatch.f k w) (fun k => if (decide (200 < (w.2.2.2.length : Int))) = true then some (2, ()) else perigeeref8_CheckWatch.c2 k w.1 w.2.1 w.2.2.1 w.2.2.2 0) := by
  refine Chk.l (fun r e => Ev.eq (fun k => monitor_checkModes.f_eq _ _) e) (Chk.r (fun r e => Ev.eq (fun k => perigeeref8_CheckWatch.f_eq _ _) e) ?_)
  by_cases m0 : (w.1.length : Int) = 0
  ·exact Chk.bad (c := 9) (by omega) (Ev.yes (decide_eq_true m0) (Ev.now _)) (Ev.yes (decide_eq_true m0) (Ev.now _))
  refine Chk.l (fun r e => Ev.no (fun h => m0 (of_decide_eq_true h)) e) (Chk.r (fun r e => Ev.no (fun h => m0 (of_decide_eq_true h)) e) ?_)
  by_cases m1 : 50 < (w.1.length : Int)
  ·exact Chk.bad (c := 2) (by omega) (Ev.yes (decide_eq_true m1) (Ev.now _)) (Ev.yes (decide_eq_true m1) (Ev.now _))
  refine Chk.l (fun r e => Ev.no (fun h => m1 (of_decide_eq_true h)) e) (Chk.r (fun r e => Ev.no (fun h => m1 (of_decide_eq_true h)) e) ?_)
  refine modes_chk w h0 (by omega) (g := fun k => if (decide (500 < (w.2.1.length : Int))) = true then some (2, ()) else monitor_checkModes.c1 k w.1 w.2.1 w.2.2.1 w.2.2.2 w.2.1 (w.2.1.length : Int) 0) (h := fun k => if (decide (500 < (w.2.1.length : Int))) = true then some (2, ()) else perigeeref8_CheckWatch.c1 k w.1 w.2.1 w.2.2.1 w.2.2.2 0) ?_ (fun k => by rw [monitor_checkModes.c0_eq, if_neg (by simp)]) (fun k => by rw [perigeeref8_CheckWatch.c0_eq, if_neg (by simp)])
  by_cases m2 : 500 < (w.2.1.length : Int)
  ·exact Chk.bad (c := 2) (by omega) (Ev.yes (decide_eq_true m2) (Ev.now _)) (Ev.yes (decide_eq_true m2) (Ev.now _))
  refine Chk.l (fun r e => Ev.no (fun h => m2 (of_decide_eq_true h)) e) (Chk.r (fun r e => Ev.no (fun h => m2 (of_decide_eq_true h)) e) ?_)
  refine changes_chk w h0 (by omega) (by omega) (g := fun k => (slices_Contains_string.f k w.1 w.2.2.1).bind fun r4 => if (!r4.1) = true then some (9, ()) else some (0, ())) (h := fun k => (perigeeref8_has.f k w.1 w.2.2.1).bind fun r3 => if (!r3.1) = true then some (9, ()) else if (decide (200 < (w.2.2.2.length : Int))) = true then some (2, ()) else perigeeref8_CheckWatch.c2 k w.1 w.2.1 w.2.2.1 w.2.2.2 0) ?_ (fun k => by rw [monitor_checkModes.c1_eq, if_neg (by simp)]) (fun k => by rw [perigeeref8_CheckWatch.c1_eq, if_neg (by simp)])
  by_cases m3 : w.2.2.1 ∈ w.1
  ·exact Chk.ok (Ev.bind (contains_ev _ _ (by omega)) (Ev.no (by simp [m3]) (Ev.now _))) fun r e => Ev.bind (rhas_ev _ _ (by omega)) (Ev.no (by simp [m3]) e)
  ·exact Chk.bad (c := 9) (by omega) (Ev.bind (contains_ev _ _ (by omega)) (Ev.yes (by simp [m3]) (Ev.now _))) (Ev.bind (rhas_ev _ _ (by omega)) (Ev.yes (by simp [m3]) (Ev.now _)))
 obtain ⟨c, c1, c2⟩ := first
 rcases c2 with ⟨c3, c4⟩ | ⟨c3, c4⟩
 ·exact ⟨c, Ev.eq (fun k => monitor_CheckWatch.f_eq _ _) (Ev.bind c1 (Ev.yes (by simpa using c3) (Ev.now _))), c4⟩
 subst c3
 obtain ⟨q, q1, q2⟩ := modes_ev w h0
 have e := q1.unique c1
 have ok := q2 (by rw [e])
 by_cases m4 : 200 < (w.2.2.2.length : Int)
 ·exact ⟨2, Ev.eq (fun k => monitor_CheckWatch.f_eq _ _) (Ev.bind c1 (Ev.no (by simp) (Ev.yes (decide_eq_true m4) (Ev.now _)))), c4 _ (Ev.yes (decide_eq_true m4) (Ev.now _))⟩
 obtain ⟨d, d1, d2⟩ := rules_chk w ok.ml (by omega) h0
 refine ⟨d, Ev.eq (fun k => monitor_CheckWatch.f_eq _ _) (Ev.bind c1 (Ev.no (by simp) (Ev.no (fun h => m4 (of_decide_eq_true h)) d1))), c4 _ (Ev.no (fun h => m4 (of_decide_eq_true h)) ?_)⟩
 rcases d2 with ⟨_, d3⟩ | ⟨d3, d4⟩
 ·exact d3
 ·subst d3; exact d4 _ (Ev.now _)
end Go.Proofs.YtadhpgecilhgnaaDoor.Pure

-- YtadhpgecilhgnaaDoorP1
set_option linter.unusedVariables false
set_option linter.unusedSimpArgs false
namespace Go.Proofs.YtadhpgecilhgnaaDoor.Pure
open Go Go.Proofs.YtadhpgecilhgnaaDoor.A

def splitB (c : UInt8) : S → List S
 | [] => [[]]
 | b :: l => if b = c then [] :: splitB c l else match splitB c l with | [] => [[b]] | x :: xs => (b :: x) :: xs
theorem splitB_none {c : UInt8} : ∀ {l : S}, c ∉ l → splitB c l = [l]
 | [], _ => rfl
 | b :: l, h => by
  simp only [List.mem_cons, not_or] at h
  rw [splitB, if_neg (Ne.symm h.1), splitB_none h.2]
theorem splitB_at {c : UInt8} : ∀ {a b : S}, c ∉ a → splitB c (a ++ c :: b) = a :: splitB c b
 | [], b, _ => by rw [List.nil_append, splitB, if_pos rfl]
 | x :: a, b, h => by
  simp only [List.mem_cons, not_or] at h
  rw [List.cons_append, splitB, if_neg (Ne.symm h.1), splitB_at h.2]
theorem split_first {c : UInt8} : ∀ {l : S}, c ∈ l → ∃ a b, l = a ++ c :: b ∧ c ∉ a
 | x :: l, h => by
  by_cases hx : c = x
  ·subst hx; exact ⟨[], l, rfl, by simp⟩
  ·obtain ⟨a, b, e, h2⟩ := split_first ((List.mem_cons.1 h).resolve_left hx)
   exact ⟨x :: a, b, by rw [e]; rfl, by simp [hx, h2]⟩
theorem idx_at {c : UInt8} : ∀ {a b : S}, c ∉ a → Lib.indexByte (a ++ c :: b) c = a.length
 | [], b, _ => by simp [Lib.indexByte]
 | x :: a, b, h => by
  simp only [List.mem_cons, not_or] at h
  have ih := idx_at (b := b) h.2
  rw [List.cons_append, Lib.indexByte, if_neg (by simpa using Ne.symm h.1), ih, if_neg (by simp)]
  simp
theorem idx_none {c : UInt8} : ∀ {a : S}, c ∉ a → Lib.indexByte a c = -1
 | [], _ => rfl
 | x :: a, h => by
  simp only [List.mem_cons, not_or] at h
  rw [Lib.indexByte, if_neg (by simpa using Ne.symm h.1), idx_none h.2]
  rfl
theorem index_ev {s : S} {c : UInt8} (hs : s.length ≤ 4611686018427387904) (k : Nat) : strings_Index.f k s [c] = some (Lib.indexByte s c, ()) := by
 simp only [strings_Index.f, if_pos hs]
theorem take_set_last {α : Type} : ∀ (l : List α) (i : Nat) (x : α), i < l.length → (l.set i x).take (i + 1) = l.take i ++ [x]
 | [], i, x, h => by simp at h
 | a :: l, 0, x, _ => by simp
 | a :: l, i + 1, x, h => by
  simp only [List.length_cons] at h
  rw [List.set_cons_succ, List.take_succ_cons, take_set_last l i x (by omega), List.take_succ_cons]; rfl
theorem count_first {c : UInt8} {a b : S} (h : c ∉ a) : (a ++ c :: b).count c = b.count c + 1 := by
 rw [List.count_append, List.count_eq_zero_of_not_mem h, List.count_cons_self]; omega
theorem count_fev {s : S} {c : UInt8} (hs : s.length ≤ 4611686018427387904) (k : Nat) : strings_Count.f k s [c] = some ((s.count c : Int), ()) := by
 simp only [strings_Count.f, if_pos hs]
 rfl
theorem genSplit_loop (c : UInt8) : ∀ (d : Nat) (rest : S) (t9 : List S) (i : Nat), rest.length ≤ d → rest.length ≤ 1099511627776 → i + rest.count c + 1 ≤ t9.length → t9.length ≤ 1099511627776 →
 Ev (fun k => strings_genSplit.c1 k rest [c] 0 ((i + rest.count c : Nat) : Int) t9 (i : Int)) (t9.take i ++ splitB c rest, ()) := by
 intro d
 induction d with
 | zero =>
  intro rest t9 i h0 hr ht ht2
  have : rest = [] := List.eq_nil_of_length_eq_zero (by omega)
  subst this
  have hw : IntKind.wrap .i64 ((i : Int) + 1) = ((i + 1 : Nat) : Int) := by rw [w64 (by omega) (by omega)]; omega
  refine Ev.step (fun k => strings_genSplit.c1_eq _ _ _ _ _ _ _) (Ev.no (by simp) ?_)
  simp only [List.count_nil, Nat.add_zero] at ht
  refine Ev.yes ⟨by omega, by omega⟩ (Ev.yes (by rw [hw, List.length_set]; omega) (Ev.is ?_))
  rw [hw]
  simp only [Int.toNat_natCast, splitB]
  rw [take_set_last _ _ _ (by omega)]
 | succ d ih =>
  intro rest t9 i h0 hr ht ht2
  have hw : IntKind.wrap .i64 ((i : Int) + 1) = ((i + 1 : Nat) : Int) := by rw [w64 (by omega) (by omega)]; omega
  by_cases hc : c ∈ rest
  ·obtain ⟨a, b, rfl, ha⟩ := split_first hc
   have hcount := count_first (b := b) ha
   rw [hcount] at ht ⊢
   simp only [List.length_append, List.length_cons] at h0 hr
   have hi := idx_at (b := b) ha
   refine Ev.step (fun k => strings_genSplit.c1_eq _ _ _ _ _ _ _) (Ev.yes (decide_eq_true (by omega)) ?_)
   refine Ev.bind (Ev.some (index_ev (by simp; omega) 0)) ?_
   simp only [hi]
   have w1 : IntKind.wrap .i64 ((a.length : Int) + 0) = (a.length : Int) := by rw [w64 (by omega) (by omega)]; omega
   have w2 : IntKind.wrap .i64 ((a.length : Int) + (([c] : S).length : Int)) = ((a.length + 1 : Nat) : Int) := by rw [w64 (by simp; omega) (by simp; omega)]; simp
   refine Ev.no (by simp) (Ev.yes ⟨by omega, by rw [w1]; omega, by rw [w1, List.length_append]; omega⟩ (Ev.yes ⟨by omega, by omega⟩ (Ev.yes ⟨by rw [w2]; omega, by rw [w2]; simp; omega, Int.le_refl _⟩ ?_)))
   rw [w1, w2, hw]
   simp only [Int.toNat_natCast, List.take_length, List.drop_zero]
   have e1 : (a ++ c :: b).drop (a.length + 1) = b := by rw [← List.drop_drop, List.drop_left]; rfl
   have e2 : (a ++ c :: b).take a.length = a := List.take_left
   rw [e1, e2, splitB_at ha]
   have := ih b (t9.set i a) (i + 1) (by omega) (by omega) (by rw [List.length_set]; omega) (by rw [List.length_set]; omega)
   rw [take_set_last _ _ _ (by omega), List.append_assoc] at this
   rw [show i + (List.count c b + 1) = i + 1 + List.count c b by omega]
   exact this
  ·have h0c := List.count_eq_zero_of_not_mem hc
   rw [h0c] at ht ⊢
   refine Ev.step (fun k => strings_genSplit.c1_eq _ _ _ _ _ _ _) (Ev.no (by simp) ?_)
   refine Ev.yes ⟨by omega, by omega⟩ (Ev.yes (by rw [hw, List.length_set]; omega) (Ev.is ?_))
   rw [hw]
   simp only [Int.toNat_natCast]
   rw [take_set_last _ _ _ (by omega), splitB_none hc]
theorem split_ev (s : S) (c : UInt8) (hs : s.length ≤ 200000) : Ev (fun k => strings_Split.f k s [c]) (splitB c s, ()) := by
 refine Ev.eq (fun k => strings_Split.f_eq _ _ _) (Ev.bind (a := (splitB c s, ())) ?_ (Ev.now _))
 have hcl : s.count c ≤ s.length := List.count_le_length
 refine Ev.eq (fun k => strings_genSplit.f_eq _ _ _ _ _) (Ev.no (by simp) (Ev.no (by simp) (Ev.yes (by simp) ?_)))
 refine Ev.bind (a := ((s.count c : Int), ())) (Ev.some (count_fev (by omega) 0)) ?_
 have w1 : IntKind.wrap .i64 ((s.count c : Int) + 1) = ((s.count c + 1 : Nat) : Int) := by rw [w64 (by omega) (by omega)]; omega
 have w2 : IntKind.wrap .i64 ((s.length : Int) + 1) = ((s.length + 1 : Nat) : Int) := by rw [w64 (by omega) (by omega)]; omega
 have w3 : mnI ((s.count c + 1 : Nat) : Int) ((s.length + 1 : Nat) : Int) = ((s.count c + 1 : Nat) : Int) := by unfold mnI; rw [if_neg (by omega)]
 have w4 : IntKind.wrap .i64 (((s.count c + 1 : Nat) : Int) - 1) = ((0 + s.count c : Nat) : Int) := by rw [w64 (by omega) (by omega)]; omega
 rw [w1]
 refine Ev.step (fun k => strings_genSplit.c0_eq _ _ _ _ _) ?_
 simp only [w2, w3, w4]
 refine Ev.yes ⟨by omega, Int.le_refl _, by omega⟩ ?_
 have := genSplit_loop c s.length s (List.replicate (s.count c + 1) []) 0 (Nat.le_refl _) (by omega) (by simp) (by simp; omega)
 simpa using this
end Go.Proofs.YtadhpgecilhgnaaDoor.Pure

-- YtadhpgecilhgnaaDoorP2
set_option linter.unusedVariables false
set_option linter.unusedSimpArgs false
namespace Go.Proofs.YtadhpgecilhgnaaDoor.Pure
open Go Go.Proofs.YtadhpgecilhgnaaDoor.A

def okB (b : UInt8) : Bool := decide (33 ≤ b.toNat) && decide (b.toNat ≤ 126)
def okW (x : S) : Bool := !x.isEmpty && x.all okB
def wordsR (s : S) : List S × Bool × Unit := if (splitB 32 s).all okW = true then (splitB 32 s, true, ()) else ([], false, ())
theorem splitB_len (c : UInt8) : ∀ s : S, (splitB c s).length ≤ s.length + 1 ∧ ∀ x ∈ splitB c s, x.length ≤ s.length
 | [] => by simp [splitB]
 | b :: l => by
  obtain ⟨h1, h2⟩ := splitB_len c l
  rw [splitB]
  split
  ·refine ⟨by simp; omega, fun x hx => ?_⟩
   rcases List.mem_cons.1 hx with rfl | hx
   ·simp
   ·have := h2 x hx; simp; omega
  ·split
   ·rename_i e; simp
   ·rename_i y ys e
    rw [e] at h1 h2
    refine ⟨by simp at h1 ⊢; omega, fun x hx => ?_⟩
    rcases List.mem_cons.1 hx with rfl | hx
    ·have := h2 y (by simp); simp; omega
    ·have := h2 x (by simp [hx]); simp; omega
theorem bytes_loop (l : List S) (x : S) (t10 : List S) (t11 t12 : Int) (hx : x.length ≤ 200000) {r : List S × Bool × Unit} (h : Ev (fun k => monitor_words.c0 k l t10 t11 (IntKind.wrap .i64 (t12 + 1))) r) :
 Ev (fun k => monitor_words.c1 k l x t10 t11 t12 (x.length : Int) 0) (if x.all okB = true then r else ([], false, ())) := by
 have := Ev.rng (σ := Unit) (0 : UInt8) x (by omega) (g := fun k _ i => monitor_words.c1 k l x t10 t11 t12 (x.length : Int) i) (fun k _ i => monitor_words.c1_eq _ _ _ _ _ _ _ _)
  (fun _ _ => True) (fun xs _ _ => if xs.all okB = true then r else ([], false, ())) (fun _ _ => by simpa using h) (fun i b xs _ hi hb hd hgd hw _ next => ?_) 0 () (by omega) trivial
 ·simpa using this
 ·simp only [Int.toNat_natCast, hgd, hw]
  by_cases h1 : (b.toNat : Int) < 33
  ·have : okB b = false := by simp [okB]; omega
   exact Ev.cast (a := ([], false, ())) (by simp [this]) (Ev.yes (decide_eq_true h1) (Ev.now _))
  ·refine Ev.no (by simpa using h1) (Ev.yes ⟨by omega, by omega⟩ ?_)
   by_cases h2 : 126 < (b.toNat : Int)
   ·have : okB b = false := by simp [okB]; omega
    exact Ev.cast (a := ([], false, ())) (by simp [this]) (Ev.yes (decide_eq_true h2) (Ev.now _))
   ·have : okB b = true := by simp [okB]; omega
    exact Ev.cast (by simp [this]) (Ev.no (by simpa using h2) (next () trivial))
theorem words_ev (s : S) (hs : s.length ≤ 200000) : Ev (fun k => monitor_words.f k s) (wordsR s) := by
 obtain ⟨l1, l2⟩ := splitB_len 32 s
 refine Ev.eq (fun k => monitor_words.f_eq _ _) (Ev.bind (split_ev s 32 hs) ?_)
 have := Ev.rng (σ := Unit) ([] : S) (splitB 32 s) (by omega) (g := fun k _ i => monitor_words.c0 k (splitB 32 s) (splitB 32 s) ((splitB 32 s).length : Int) i) (fun k _ i => monitor_words.c0_eq _ _ _ _ _)
  (fun _ _ => True) (fun xs _ _ => if xs.all okW = true then (splitB 32 s, true, ()) else ([], false, ())) (fun _ _ => by simpa using Ev.now _) (fun i x xs _ hi hx hd hgd hw _ next => ?_) 0 () (by omega) trivial
 ·simpa [wordsR] using this
 ·simp only [Int.toNat_natCast, hgd]
  by_cases h1 : x = []
  ·subst h1
   exact Ev.cast (a := ([], false, ())) (by simp [okW]) (Ev.yes (by simp) (Ev.now _))
  ·refine Ev.no (by simpa using h1) ?_
   have hlen := l2 x hx
   have hb := bytes_loop (splitB 32 s) x (splitB 32 s) ((splitB 32 s).length : Int) (i : Int) (by omega) (by rw [hw]; exact next () trivial)
   refine Ev.cast ?_ hb
   have hok : okW x = x.all okB := by
    unfold okW
    cases x with
    | nil => exact absurd rfl h1
    | cons _ _ => rfl
   simp only [List.all_cons, hok]
   cases x.all okB <;> simp
end Go.Proofs.YtadhpgecilhgnaaDoor.Pure

-- YtadhpgecilhgnaaDoorP3
set_option linter.unusedVariables false
set_option linter.unusedSimpArgs false
namespace Go.Proofs.YtadhpgecilhgnaaDoor.Pure
open Go Go.Proofs.YtadhpgecilhgnaaDoor.A

def sMode : S := [109, 111, 100, 101]
def sChange : S := [99, 104, 97, 110, 103, 101]
def sBegin : S := [98, 101, 103, 105, 110]
def sRule : S := [114, 117, 108, 101]
def sOnce : S := [111, 110, 99, 101]
def sAlways : S := [97, 108, 119, 97, 121, 115]
def sStar : S := [42]
def sRaise : S := [114, 97, 105, 115, 101]
def sOn : S := [111, 110]
def sOff : S := [111, 102, 102]
def sSwOn : S := [115, 119, 105, 116, 99, 104, 45, 111, 110]
def sSwOff : S := [115, 119, 105, 116, 99, 104, 45, 111, 102, 102]
def actM (v nm : S) : Option DAct :=
 if v = sRaise then some (1, nm, false) else if v = sOn then some (2, nm, false) else if v = sOff then some (3, nm, false) else if v = sSwOn then some (4, nm, false) else if v = sSwOff then some (4, nm, true) else none
def addA (R : List DWatchRule) (a : DAct) : List DWatchRule :=
 let x := R.getD (R.length - 1) (Ty.dflt YWatchRule)
 R.set (R.length - 1) (x.1, x.2.1, x.2.2.1, x.2.2.2.1, x.2.2.2.2 ++ [a])
def stepM (w : DWatch) (b : Bool) (l : List S) : Option (DWatch × Bool) :=
 if l.length = 2 then
  (if l.getD 0 [] = sMode then (if b = false ∧ w.2.1 = [] then some ((w.1 ++ [l.getD 1 []], w.2.1, w.2.2.1, w.2.2.2), b) else none)
  else if l.getD 0 [] = sBegin then (if b = false then some ((w.1, w.2.1, l.getD 1 [], w.2.2.2), true) else none)
  else if w.2.2.2 = [] then none else match actM (l.getD 0 []) (l.getD 1 []) with
   | some a => some ((w.1, w.2.1, w.2.2.1, addA w.2.2.2 a), b)
   | none => none)
 else if l.length = 4 then
  (if l.getD 0 [] = sChange ∧ b = false then some ((w.1, w.2.1 ++ [(l.getD 1 [], l.getD 2 [], l.getD 3 [])], w.2.2.1, w.2.2.2), b) else none)
 else if l.length = 5 then
  (if l.getD 0 [] = sRule ∧ b = true ∧ (l.getD 4 [] = sOnce ∨ l.getD 4 [] = sAlways) then
   some ((w.1, w.2.1, w.2.2.1, w.2.2.2 ++ [(l.getD 1 [], l.getD 2 [], if l.getD 3 [] = sStar then [] else l.getD 3 [], decide (l.getD 4 [] = sOnce), [])]), b) else none)
 else none
def lineM (w : DWatch) (b : Bool) (s : S) : Option (DWatch × Bool) := if (splitB 32 s).all okW = true then stepM w b (splitB 32 s) else none
structure Small (w : DWatch) : Prop where
 m : w.1.length ≤ 200000
 c : w.2.1.length ≤ 200000
 r : w.2.2.2.length ≤ 200000
 a : ∀ x ∈ w.2.2.2, x.2.2.2.2.length ≤ 200000
def Says {α : Type} (o : Option α) (ok : Bool) (P : α → Prop) : Prop := (ok = true ∧ ∃ x, o = some x ∧ P x) ∨ (ok = false ∧ o = none)
theorem act_ev (v nm : S) (k : Nat) : monitor_actOf.f k v nm = some (match actM v nm with | some a => (a, true, ()) | none => ((0, [], false), false, ())) := by
 rw [monitor_actOf.f_eq]
 simp only [decide_eq_true_eq]
 by_cases h1 : v = [114, 97, 105, 115, 101]
 ·have hm : actM v nm = some (1, nm, false) := if_pos h1
  rw [hm]
  simp only [if_pos h1]
 by_cases h2 : v = [111, 110]
 ·have hm : actM v nm = some (2, nm, false) := (if_neg h1).trans (if_pos h2)
  rw [hm]
  simp only [if_neg h1, if_pos h2]
 by_cases h3 : v = [111, 102, 102]
 ·have hm : actM v nm = some (3, nm, false) := (if_neg h1).trans ((if_neg h2).trans (if_pos h3))
  rw [hm]
  simp only [if_neg h1, if_neg h2, if_pos h3]
 by_cases h4 : v = [115, 119, 105, 116, 99, 104, 45, 111, 110]
 ·have hm : actM v nm = some (4, nm, false) := (if_neg h1).trans ((if_neg h2).trans ((if_neg h3).trans (if_pos h4)))
  rw [hm]
  simp only [if_neg h1, if_neg h2, if_neg h3, if_pos h4]
 by_cases h5 : v = [115, 119, 105, 116, 99, 104, 45, 111, 102, 102]
 ·have hm : actM v nm = some (4, nm, true) := (if_neg h1).trans ((if_neg h2).trans ((if_neg h3).trans ((if_neg h4).trans (if_pos h5))))
  rw [hm]
  simp only [if_neg h1, if_neg h2, if_neg h3, if_neg h4, if_pos h5]
 ·have hm : actM v nm = none := (if_neg h1).trans ((if_neg h2).trans ((if_neg h3).trans ((if_neg h4).trans (if_neg h5))))
  rw [hm]
  simp only [if_neg h1, if_neg h2, if_neg h3, if_neg h4, if_neg h5]
theorem ract_ev (v nm : S) : Ev (fun k => perigeeref8_actOf.f k v nm) (match actM v nm with | some a => (a, true, ()) | none => ((0, nm, false), false, ())) := by
 have c0 : ∀ (x : Int) (y : Bool) (r : DAct × Bool × Unit), ((x, nm, y), decide (0 < x), ()) = r → Ev (fun k => perigeeref8_actOf.c0 k 0 [] false x nm y) r := fun x y r h => by
  subst h; exact Ev.step (fun k => perigeeref8_actOf.c0_eq _ _ _ _ _ _ _) (Ev.now _)
 refine Ev.eq (fun k => perigeeref8_actOf.f_eq _ _ _) ?_
 simp only [decide_eq_true_eq]
 by_cases h1 : v = [114, 97, 105, 115, 101]
 ·have hm : actM v nm = some (1, nm, false) := if_pos h1
  rw [hm]
  simp only [if_pos h1]
  exact c0 _ _ _ rfl
 by_cases h2 : v = [111, 110]
 ·have hm : actM v nm = some (2, nm, false) := (if_neg h1).trans (if_pos h2)
  rw [hm]
  simp only [if_neg h1, if_pos h2]
  exact c0 _ _ _ rfl
 by_cases h3 : v = [111, 102, 102]
 ·have hm : actM v nm = some (3, nm, false) := (if_neg h1).trans ((if_neg h2).trans (if_pos h3))
  rw [hm]
  simp only [if_neg h1, if_neg h2, if_pos h3]
  exact c0 _ _ _ rfl
 by_cases h4 : v = [115, 119, 105, 116, 99, 104, 45, 111, 110]
 ·have hm : actM v nm = some (4, nm, false) := (if_neg h1).trans ((if_neg h2).trans ((if_neg h3).trans (if_pos h4)))
  rw [hm]
  simp only [if_neg h1, if_neg h2, if_neg h3, if_pos h4]
  exact c0 _ _ _ rfl
 by_cases h5 : v = [115, 119, 105, 116, 99, 104, 45, 111, 102, 102]
 ·have hm : actM v nm = some (4, nm, true) := (if_neg h1).trans ((if_neg h2).trans ((if_neg h3).trans ((if_neg h4).trans (if_pos h5))))
  rw [hm]
  simp only [if_neg h1, if_neg h2, if_neg h3, if_neg h4, if_pos h5]
  exact c0 _ _ _ rfl
 ·have hm : actM v nm = none := (if_neg h1).trans ((if_neg h2).trans ((if_neg h3).trans ((if_neg h4).trans (if_neg h5))))
  rw [hm]
  simp only [if_neg h1, if_neg h2, if_neg h3, if_neg h4, if_neg h5]
  exact c0 _ _ _ rfl
def TakeSays (g : Nat → Option (Bool × Dreader × Unit)) (o : Option (DWatch × Bool)) : Prop := ∃ ok st, Ev g (ok, st, ()) ∧ Says o ok fun x => st = x
theorem TakeSays.step {g f : Nat → Option (Bool × Dreader × Unit)} {o : Option (DWatch × Bool)} (h : ∀ k, g (k + 1) = f k) (t : TakeSays f o) : TakeSays g o := let ⟨ok, st, e, p⟩ := t; ⟨ok, st, Ev.step h e, p⟩
theorem TakeSays.yes {c : Prop} {hd : Decidable c} {g f : Nat → Option (Bool × Dreader × Unit)} {o : Option (DWatch × Bool)} (h : c) (t : TakeSays g o) : TakeSays (fun k => if c then g k else f k) o := let ⟨ok, st, e, p⟩ := t; ⟨ok, st, Ev.yes h e, p⟩
theorem TakeSays.no {c : Prop} {hd : Decidable c} {g f : Nat → Option (Bool × Dreader × Unit)} {o : Option (DWatch × Bool)} (h : ¬ c) (t : TakeSays f o) : TakeSays (fun k => if c then g k else f k) o := let ⟨ok, st, e, p⟩ := t; ⟨ok, st, Ev.no h e, p⟩
theorem TakeSays.bad {st : Dreader} {o : Option (DWatch × Bool)} (h : o = none) : TakeSays (fun _ => some (false, st, ())) o := ⟨false, st, Ev.now _, .inr ⟨rfl, h⟩⟩
theorem TakeSays.good {st : Dreader} {o : Option (DWatch × Bool)} (h : o = some st) : TakeSays (fun _ => some (true, st, ())) o := ⟨true, st, Ev.now _, .inl ⟨rfl, st, h, rfl⟩⟩
theorem TakeSays.is {b : Bool} {st : Dreader} {o : Option (DWatch × Bool)} (h : b = true → o = some st) (h' : b = false → o = none) : TakeSays (fun _ => some (b, st, ())) o := by
 cases b with
 | true => exact .good (h rfl)
 | false => exact .bad (h' rfl)
end Go.Proofs.YtadhpgecilhgnaaDoor.Pure

-- YtadhpgecilhgnaaDoorP4
set_option linter.unusedVariables false
set_option linter.unusedSimpArgs false
namespace Go.Proofs.YtadhpgecilhgnaaDoor.Pure
open Go Go.Proofs.YtadhpgecilhgnaaDoor.A

theorem TakeSays.eq {g f : Nat → Option (Bool × Dreader × Unit)} {o : Option (DWatch × Bool)} (h : ∀ k, g k = f k) (t : TakeSays f o) : TakeSays g o := let ⟨ok, st, e, p⟩ := t; ⟨ok, st, Ev.eq h e, p⟩
theorem TakeSays.bind {α : Type} {g : Nat → Option α} {f : Nat → α → Option (Bool × Dreader × Unit)} {a : α} {o : Option (DWatch × Bool)} (e : Ev g a) (t : TakeSays (fun n => f n a) o) : TakeSays (fun n => (g n).bind (f n)) o := let ⟨ok, st, e', p⟩ := t; ⟨ok, st, Ev.bind e e', p⟩
theorem dn {p : Prop} {hd : Decidable p} (h : ¬ p) : ¬ (decide p = true) := fun h' => h (of_decide_eq_true h')
section
variable {m : List S} {c : List DModeChange} {md : S} {R : List DWatchRule} {b : Bool} {l : List S}
theorem take5 (sm : Small (m, c, md, R)) (n1 : ¬ (l.length = 2 ∧ l.getD 0 [] = sMode)) (n2 : ¬ (l.length = 4 ∧ l.getD 0 [] = sChange)) (n3 : ¬ (l.length = 2 ∧ l.getD 0 [] = sBegin)) (n4 : ¬ (l.length = 5 ∧ l.getD 0 [] = sRule)) {t : Bool} (ht : t = true ↔ l.length = 2 ∧ R ≠ []) :
 TakeSays (fun k => monitor_reader_take.c5 k m c md R b l t) (stepM (m, c, md, R) b l) := by
 refine .step (fun k => monitor_reader_take.c5_eq _ _ _ _ _ _ _ _) ?_
 cases t with
 | false =>
  refine .no (by simp) (.bad ?_)
  have hn : ¬ (l.length = 2 ∧ R ≠ []) := fun h => by have := ht.2 h; cases this
  unfold stepM
  by_cases h2 : l.length = 2
  ·have hR : R = [] := Classical.byContradiction fun h => hn ⟨h2, h⟩
   rw [if_pos h2, if_neg (fun h => n1 ⟨h2, h⟩), if_neg (fun h => n3 ⟨h2, h⟩), if_pos hR]
  ·rw [if_neg h2]
   by_cases h4 : l.length = 4
   ·rw [if_pos h4, if_neg (fun h => n2 ⟨h4, h.1⟩)]
   ·rw [if_neg h4]
    by_cases h5 : l.length = 5
    ·rw [if_pos h5, if_neg (fun h => n4 ⟨h5, h.1⟩)]
    ·rw [if_neg h5]
 | true =>
  obtain ⟨h2, hR⟩ := ht.1 rfl
  have hpos : 0 < R.length := List.length_pos_iff.2 hR
  have hr := sm.r
  simp only at hr
  have hw : IntKind.wrap .i64 ((R.length : Int) - 1) = ((R.length - 1 : Nat) : Int) := by rw [w64 (by omega) (by omega)]; omega
  refine .yes rfl (.yes ⟨by omega, by omega⟩ (.yes ⟨by omega, by omega⟩ (.bind (Ev.some (act_ev _ _ 0)) ?_)))
  simp only [hw, Int.toNat_natCast]
  have hla : (R.getD (R.length - 1) (Ty.dflt YWatchRule)).2.2.2.2.length ≤ 200000 := sm.a _ (by
   rw [getD_nat _ _ _ (by omega)]
   exact List.getElem_mem _)
  refine .yes ⟨by omega, by omega⟩ (.yes (by omega) ?_)
  have hst : stepM (m, c, md, R) b l = match actM (l.getD 0 []) (l.getD 1 []) with | some a => some ((m, c, md, addA R a), b) | none => none := by
   unfold stepM
   rw [if_pos h2, if_neg (fun h => n1 ⟨h2, h⟩), if_neg (fun h => n3 ⟨h2, h⟩), if_neg hR]
   all_goals (cases actM (l.getD 0 []) (l.getD 1 []) <;> rfl)
  cases ha : actM (l.getD 0 []) (l.getD 1 []) with
  | some a =>
   rw [ha] at hst
   exact .good hst
  | none =>
   rw [ha] at hst
   exact .bad hst
theorem take3 (sm : Small (m, c, md, R)) (n1 : ¬ (l.length = 2 ∧ l.getD 0 [] = sMode)) (n2 : ¬ (l.length = 4 ∧ l.getD 0 [] = sChange)) (n3 : ¬ (l.length = 2 ∧ l.getD 0 [] = sBegin)) {t : Bool} (ht : t = true ↔ l.length = 5 ∧ l.getD 0 [] = sRule) :
 TakeSays (fun k => monitor_reader_take.c3 k m c md R b l t) (stepM (m, c, md, R) b l) := by
 refine .step (fun k => monitor_reader_take.c3_eq _ _ _ _ _ _ _ _) ?_
 have hr := sm.r
 simp only at hr
 cases t with
 | false =>
  have n4 : ¬ (l.length = 5 ∧ l.getD 0 [] = sRule) := fun h => by have := ht.2 h; cases this
  refine .no (by simp) ?_
  by_cases h2 : l.length = 2
  ·refine .yes (decide_eq_true (by omega)) (take5 sm n1 n2 n3 n4 ?_)
   rw [decide_eq_true_iff]
   constructor
   ·exact fun h => ⟨h2, fun e => by rw [e] at h; simp at h⟩
   ·exact fun h => by have := List.length_pos_iff.2 h.2; omega
  ·exact .no (by simp; omega) (take5 sm n1 n2 n3 n4 ⟨fun h => (by cases h), fun h => absurd h.1 h2⟩)
 | true =>
  obtain ⟨h5, h0⟩ := ht.1 rfl
  refine .yes rfl (.yes ⟨by omega, by omega⟩ (.yes ⟨by omega, by omega⟩ (.yes ⟨by omega, by omega⟩ (.yes ⟨by omega, by omega⟩ ?_))))
  have hst : stepM (m, c, md, R) b l = if b = true ∧ (l.getD 4 [] = sOnce ∨ l.getD 4 [] = sAlways) then some ((m, c, md, R ++ [(l.getD 1 [], l.getD 2 [], if l.getD 3 [] = sStar then [] else l.getD 3 [], decide (l.getD 4 [] = sOnce), [])]), b) else none := by
   unfold stepM
   rw [if_neg (by omega), if_neg (by omega), if_pos h5]
   by_cases hb : b = true ∧ (l.getD 4 [] = sOnce ∨ l.getD 4 [] = sAlways)
   ·rw [if_pos ⟨h0, hb⟩, if_pos hb]
   ·rw [if_neg (fun h => hb h.2), if_neg hb]
  rw [hst]
  have tail : ∀ x : S, (if l.getD 3 [] = sStar then [] else l.getD 3 []) = x → TakeSays (fun k => monitor_reader_take.c4 k m c md R b l (l.getD 1 []) (l.getD 2 []) x (decide (l.getD 4 [] = sOnce)))
   (if b = true ∧ (l.getD 4 [] = sOnce ∨ l.getD 4 [] = sAlways) then some ((m, c, md, R ++ [(l.getD 1 [], l.getD 2 [], if l.getD 3 [] = sStar then [] else l.getD 3 [], decide (l.getD 4 [] = sOnce), [])]), b) else none) := by
   intro x hx
   rw [hx]
   refine .step (fun k => monitor_reader_take.c4_eq _ _ _ _ _ _ _ _ _ _ _) (.yes (by omega) ?_)
   cases b with
   | false => exact .no (by simp) (.bad (if_neg (by simp)))
   | true =>
    refine .yes rfl (.yes ⟨by omega, by omega⟩ ?_)
    by_cases h1 : l.getD 4 [] = sOnce
    ·exact .yes (decide_eq_true h1) (.good (if_pos ⟨rfl, .inl h1⟩))
    ·refine .no (dn h1) (.yes ⟨by omega, by omega⟩ (.is (fun h => ?_) (fun h => ?_)))
     ·exact if_pos ⟨rfl, .inr (of_decide_eq_true h)⟩
     ·exact if_neg fun h' => h'.2.elim h1 (of_decide_eq_false h)
  by_cases h3 : l.getD 3 [] = sStar
  ·exact .yes (decide_eq_true h3) (tail [] (if_pos h3))
  ·exact .no (dn h3) (tail _ (if_neg h3))
end
end Go.Proofs.YtadhpgecilhgnaaDoor.Pure

-- YtadhpgecilhgnaaDoorP5
set_option linter.unusedVariables false
set_option linter.unusedSimpArgs false
namespace Go.Proofs.YtadhpgecilhgnaaDoor.Pure
open Go Go.Proofs.YtadhpgecilhgnaaDoor.A
section
variable {m : List S} {c : List DModeChange} {md : S} {R : List DWatchRule} {b : Bool} {l : List S}
theorem take2 (sm : Small (m, c, md, R)) (n1 : ¬ (l.length = 2 ∧ l.getD 0 [] = sMode)) (n2 : ¬ (l.length = 4 ∧ l.getD 0 [] = sChange)) {t : Bool} (ht : t = true ↔ l.length = 2 ∧ l.getD 0 [] = sBegin) :
 TakeSays (fun k => monitor_reader_take.c2 k m c md R b l t) (stepM (m, c, md, R) b l) := by
 refine .step (fun k => monitor_reader_take.c2_eq _ _ _ _ _ _ _ _) ?_
 cases t with
 | false =>
  have n3 : ¬ (l.length = 2 ∧ l.getD 0 [] = sBegin) := fun h => by have := ht.2 h; cases this
  refine .no (by simp) ?_
  by_cases h5 : l.length = 5
  ·exact .yes (decide_eq_true (by omega)) (.yes ⟨by omega, by omega⟩ (take3 sm n1 n2 n3 ⟨fun h => ⟨h5, of_decide_eq_true h⟩, fun h => decide_eq_true h.2⟩))
  ·exact .no (dn (by omega)) (take3 sm n1 n2 n3 ⟨fun h => (by cases h), fun h => absurd h.1 h5⟩)
 | true =>
  obtain ⟨h2, h0⟩ := ht.1 rfl
  have hne : ¬ l.getD 0 [] = sMode := fun h => n1 ⟨h2, h⟩
  refine .yes rfl (.yes ⟨by omega, by omega⟩ ?_)
  have hst : stepM (m, c, md, R) b l = if b = false then some ((m, c, l.getD 1 [], R), true) else none := by
   unfold stepM
   rw [if_pos h2, if_neg hne, if_pos h0]
  rw [hst]
  exact .is (fun h => if_pos (by simpa using h)) (fun h => if_neg (by simpa using h))
theorem take1 (sm : Small (m, c, md, R)) (n1 : ¬ (l.length = 2 ∧ l.getD 0 [] = sMode)) {t : Bool} (ht : t = true ↔ l.length = 4 ∧ l.getD 0 [] = sChange) :
 TakeSays (fun k => monitor_reader_take.c1 k m c md R b l t) (stepM (m, c, md, R) b l) := by
 refine .step (fun k => monitor_reader_take.c1_eq _ _ _ _ _ _ _ _) ?_
 have hc := sm.c
 simp only at hc
 cases t with
 | false =>
  have n2 : ¬ (l.length = 4 ∧ l.getD 0 [] = sChange) := fun h => by have := ht.2 h; cases this
  refine .no (by simp) ?_
  by_cases h2 : l.length = 2
  ·exact .yes (decide_eq_true (by omega)) (.yes ⟨by omega, by omega⟩ (take2 sm n1 n2 ⟨fun h => ⟨h2, of_decide_eq_true h⟩, fun h => decide_eq_true h.2⟩))
  ·exact .no (dn (by omega)) (take2 sm n1 n2 ⟨fun h => (by cases h), fun h => absurd h.1 h2⟩)
 | true =>
  obtain ⟨h4, h0⟩ := ht.1 rfl
  refine .yes rfl (.yes ⟨by omega, by omega⟩ (.yes ⟨by omega, by omega⟩ (.yes ⟨by omega, by omega⟩ (.yes (by omega) ?_))))
  have hst : stepM (m, c, md, R) b l = if b = false then some ((m, c ++ [(l.getD 1 [], l.getD 2 [], l.getD 3 [])], md, R), b) else none := by
   unfold stepM
   rw [if_neg (by omega), if_pos h4]
   by_cases hb : b = false
   ·rw [if_pos ⟨h0, hb⟩, if_pos hb]
   ·rw [if_neg (fun h => hb h.2), if_neg hb]
  rw [hst]
  exact .is (fun h => if_pos (by simpa using h)) (fun h => if_neg (by simpa using h))
theorem take0 (sm : Small (m, c, md, R)) {t : Bool} (ht : t = true ↔ l.length = 2 ∧ l.getD 0 [] = sMode) :
 TakeSays (fun k => monitor_reader_take.c0 k m c md R b l t) (stepM (m, c, md, R) b l) := by
 refine .step (fun k => monitor_reader_take.c0_eq _ _ _ _ _ _ _ _) ?_
 have hc := sm.m
 simp only at hc
 cases t with
 | false =>
  have n1 : ¬ (l.length = 2 ∧ l.getD 0 [] = sMode) := fun h => by have := ht.2 h; cases this
  refine .no (by simp) ?_
  by_cases h4 : l.length = 4
  ·exact .yes (decide_eq_true (by omega)) (.yes ⟨by omega, by omega⟩ (take1 sm n1 ⟨fun h => ⟨h4, of_decide_eq_true h⟩, fun h => decide_eq_true h.2⟩))
  ·exact .no (dn (by omega)) (take1 sm n1 ⟨fun h => (by cases h), fun h => absurd h.1 h4⟩)
 | true =>
  obtain ⟨h2, h0⟩ := ht.1 rfl
  refine .yes rfl (.yes ⟨by omega, by omega⟩ (.yes (by omega) ?_))
  have hst : stepM (m, c, md, R) b l = if b = false ∧ c = [] then some ((m ++ [l.getD 1 []], c, md, R), b) else none := by
   unfold stepM
   rw [if_pos h2, if_pos h0]
  rw [hst]
  cases b with
  | false =>
   refine .yes rfl (.is (fun h => ?_) (fun h => ?_))
   ·have h := of_decide_eq_true h
    exact if_pos ⟨rfl, List.eq_nil_of_length_eq_zero (by omega)⟩
   ·have h := of_decide_eq_false h
    exact if_neg fun h' => h (by rw [h'.2]; rfl)
  | true => exact .no (by simp) (.bad (if_neg (by simp)))
end
theorem take_ev (w : DWatch) (b : Bool) (s : S) (hs : s.length ≤ 200000) (sm : Small w) : TakeSays (fun k => monitor_reader_take.f k (w, b) s) (lineM w b s) := by
 obtain ⟨m, c, md, R⟩ := w
 have hw := words_ev s hs
 refine .eq (fun k => monitor_reader_take.f_eq _ _ _) (.bind hw ?_)
 unfold wordsR lineM
 by_cases hok : (splitB 32 s).all okW = true
 ·rw [if_pos hok, if_pos hok]
  refine .no (by simp) ?_
  by_cases h2 : (splitB 32 s).length = 2
  ·exact .yes (decide_eq_true (by simp only; omega)) (.yes ⟨by omega, by simp only; omega⟩ (take0 sm ⟨fun h => ⟨h2, of_decide_eq_true h⟩, fun h => decide_eq_true h.2⟩))
  ·exact .no (dn (by simp only; omega)) (take0 sm ⟨fun h => (by cases h), fun h => absurd h.1 h2⟩)
 ·rw [if_neg hok, if_neg hok]
  exact .yes (by simp) (.bad rfl)
end Go.Proofs.YtadhpgecilhgnaaDoor.Pure

-- YtadhpgecilhgnaaDoorP6
set_option linter.unusedVariables false
set_option linter.unusedSimpArgs false
namespace Go.Proofs.YtadhpgecilhgnaaDoor.Pure
open Go Go.Proofs.YtadhpgecilhgnaaDoor.A

def LineSays (g : Nat → Option (Bool × DWatch × Unit)) (o : Option (DWatch × Bool)) : Prop := ∃ ok st, Ev g (ok, st, ()) ∧ Says o ok fun x => st = x.1
section
variable {g f : Nat → Option (Bool × DWatch × Unit)} {o : Option (DWatch × Bool)}
theorem LineSays.step (h : ∀ k, g (k + 1) = f k) (t : LineSays f o) : LineSays g o := let ⟨ok, st, e, p⟩ := t; ⟨ok, st, Ev.step h e, p⟩
theorem LineSays.yes {c : Prop} {hd : Decidable c} (h : c) (t : LineSays g o) : LineSays (fun k => if c then g k else f k) o := let ⟨ok, st, e, p⟩ := t; ⟨ok, st, Ev.yes h e, p⟩
theorem LineSays.no {c : Prop} {hd : Decidable c} (h : ¬ c) (t : LineSays f o) : LineSays (fun k => if c then g k else f k) o := let ⟨ok, st, e, p⟩ := t; ⟨ok, st, Ev.no h e, p⟩
theorem LineSays.bad {st : DWatch} (h : o = none) : LineSays (fun _ => some (false, st, ())) o := ⟨false, st, Ev.now _, .inr ⟨rfl, h⟩⟩
theorem LineSays.good {st : DWatch} {b : Bool} (h : o = some (st, b)) : LineSays (fun _ => some (true, st, ())) o := ⟨true, st, Ev.now _, .inl ⟨rfl, _, h, rfl⟩⟩
theorem LineSays.eq (h : ∀ k, g k = f k) (t : LineSays f o) : LineSays g o := let ⟨ok, st, e, p⟩ := t; ⟨ok, st, Ev.eq h e, p⟩
theorem LineSays.bind {α : Type} {g : Nat → Option α} {f : Nat → α → Option (Bool × DWatch × Unit)} {a : α} (e : Ev g a) (t : LineSays (fun n => f n a) o) : LineSays (fun n => (g n).bind (f n)) o := let ⟨ok, st, e', p⟩ := t; ⟨ok, st, Ev.bind e e', p⟩
end
section
variable {m : List S} {c : List DModeChange} {md : S} {R : List DWatchRule} {b : Bool} {l : List S}
theorem line5 (hl : 1 ≤ l.length) (sm : Small (m, c, md, R)) (n1 : ¬ (l.length = 2 ∧ l.getD 0 [] = sMode ∧ b = false ∧ c = [])) (n2 : ¬ (l.length = 4 ∧ l.getD 0 [] = sChange ∧ b = false)) (n3 : ¬ (l.length = 2 ∧ l.getD 0 [] = sBegin ∧ b = false))
 (n4 : ¬ (l.length = 5 ∧ l.getD 0 [] = sRule ∧ b = true ∧ (l.getD 4 [] = sOnce ∨ l.getD 4 [] = sAlways))) {t : Bool} (ht : t = true ↔ l.length ≠ 2 ∨ R = []) :
 LineSays (fun k => perigeeref8_line.c5 k m c md R l t) (stepM (m, c, md, R) b l) := by
 refine .step (fun k => perigeeref8_line.c5_eq _ _ _ _ _ _ _) ?_
 have h2n : l.length = 2 → stepM (m, c, md, R) b l = if R = [] then none else match actM (l.getD 0 []) (l.getD 1 []) with | some a => some ((m, c, md, addA R a), b) | none => none := by
  intro h2
  unfold stepM
  rw [if_pos h2]
  by_cases h0 : l.getD 0 [] = sMode
  ·rw [if_pos h0, if_neg (fun h => n1 ⟨h2, h0, h.1, h.2⟩), h0]
   by_cases hR : R = []
   ·rw [if_pos hR]
   ·rw [if_neg hR]; rfl
  ·rw [if_neg h0]
   by_cases h1 : l.getD 0 [] = sBegin
   ·rw [if_pos h1, if_neg (fun h => n3 ⟨h2, h1, h⟩), h1]
    by_cases hR : R = []
    ·rw [if_pos hR]
    ·rw [if_neg hR]; rfl
   ·refine (if_neg h1).trans ?_
    by_cases hR : R = []
    ·simp only [if_pos hR]
    ·simp only [if_neg hR]
     all_goals (cases actM (l.getD 0 []) (l.getD 1 []) <;> rfl)
 cases t with
 | true =>
  refine .yes rfl (.bad ?_)
  by_cases h2 : l.length = 2
  ·rw [h2n h2, if_pos ((ht.1 rfl).resolve_left (fun h => h h2))]
  ·unfold stepM
   rw [if_neg h2]
   by_cases h4 : l.length = 4
   ·rw [if_pos h4, if_neg (fun h => n2 ⟨h4, h⟩)]
   ·rw [if_neg h4]
    by_cases h5 : l.length = 5
    ·rw [if_pos h5, if_neg (fun h => n4 ⟨h5, h⟩)]
    ·rw [if_neg h5]
 | false =>
  have h2 : l.length = 2 := Classical.byContradiction fun h => by have := ht.2 (.inl h); cases this
  have hR : ¬ R = [] := fun h => by have := ht.2 (.inr h); cases this
  rw [h2n h2, if_neg hR]
  have hpos : 0 < R.length := List.length_pos_iff.2 hR
  have hr := sm.r
  simp only at hr
  have hw : IntKind.wrap .i64 ((R.length : Int) - 1) = ((R.length - 1 : Nat) : Int) := by rw [w64 (by omega) (by omega)]; omega
  have hla : (R.getD (R.length - 1) (Ty.dflt YWatchRule)).2.2.2.2.length ≤ 200000 := sm.a _ (by
   rw [getD_nat _ _ _ (by omega)]
   exact List.getElem_mem _)
  refine .no (by simp) (.yes ⟨by omega, by omega⟩ (.yes ⟨by omega, by omega⟩ (.bind (ract_ev _ _) ?_)))
  cases ha : actM (l.getD 0 []) (l.getD 1 []) with
  | some a =>
   refine .step (fun k => perigeeref8_line.c6_eq _ _ _ _ _ _ _ _ _) (.no (by simp) ?_)
   simp only [hw, Int.toNat_natCast]
   exact .yes ⟨by omega, by omega⟩ (.yes (by omega) (.good rfl))
  | none => exact .step (fun k => perigeeref8_line.c6_eq _ _ _ _ _ _ _ _ _) (.yes rfl (.bad rfl))
theorem line3 (hl : 1 ≤ l.length) (sm : Small (m, c, md, R)) (n1 : ¬ (l.length = 2 ∧ l.getD 0 [] = sMode ∧ b = false ∧ c = [])) (n2 : ¬ (l.length = 4 ∧ l.getD 0 [] = sChange ∧ b = false)) (n3 : ¬ (l.length = 2 ∧ l.getD 0 [] = sBegin ∧ b = false))
 {t : Bool} (ht : t = true ↔ l.length = 5 ∧ l.getD 0 [] = sRule ∧ b = true ∧ (l.getD 4 [] = sOnce ∨ l.getD 4 [] = sAlways)) :
 LineSays (fun k => perigeeref8_line.c3 k m c md R l t) (stepM (m, c, md, R) b l) := by
 refine .step (fun k => perigeeref8_line.c3_eq _ _ _ _ _ _ _) ?_
 have hr := sm.r
 simp only at hr
 cases t with
 | false =>
  have n4 : ¬ (l.length = 5 ∧ l.getD 0 [] = sRule ∧ b = true ∧ (l.getD 4 [] = sOnce ∨ l.getD 4 [] = sAlways)) := fun h => by have := ht.2 h; cases this
  refine .no (by simp) ?_
  by_cases h2 : l.length = 2
  ·refine .no (by simp; omega) (line5 hl sm n1 n2 n3 n4 ⟨fun h => .inr ?_, fun h => decide_eq_true ?_⟩)
   ·have h := of_decide_eq_true h
    exact List.eq_nil_of_length_eq_zero (by omega)
   ·rcases h with h | h
    ·exact absurd h2 h
    ·rw [h]; rfl
  ·exact .yes (by simp; omega) (line5 hl sm n1 n2 n3 n4 ⟨fun _ => .inl h2, fun _ => rfl⟩)
 | true =>
  obtain ⟨h5, h0⟩ := ht.1 rfl
  have hst : stepM (m, c, md, R) b l = some ((m, c, md, R ++ [(l.getD 1 [], l.getD 2 [], if l.getD 3 [] = sStar then [] else l.getD 3 [], decide (l.getD 4 [] = sOnce), [])]), b) := by
   unfold stepM
   rw [if_neg (by omega), if_neg (by omega), if_pos h5, if_pos h0]
  rw [hst]
  have tail : ∀ x : S, (if l.getD 3 [] = sStar then [] else l.getD 3 []) = x → LineSays (fun k => perigeeref8_line.c4 k m c md R l x) (some ((m, c, md, R ++ [(l.getD 1 [], l.getD 2 [], if l.getD 3 [] = sStar then [] else l.getD 3 [], decide (l.getD 4 [] = sOnce), [])]), b)) := by
   intro x hx
   rw [hx]
   exact .step (fun k => perigeeref8_line.c4_eq _ _ _ _ _ _ _) (.yes ⟨by omega, by omega⟩ (.yes ⟨by omega, by omega⟩ (.yes ⟨by omega, by omega⟩ (.yes (by omega) (.good rfl)))))
  refine .yes rfl (.yes ⟨by omega, by omega⟩ ?_)
  by_cases h3 : l.getD 3 [] = sStar
  ·exact .yes (decide_eq_true h3) (tail [] (if_pos h3))
  ·exact .no (dn h3) (tail _ (if_neg h3))
end
end Go.Proofs.YtadhpgecilhgnaaDoor.Pure

-- YtadhpgecilhgnaaDoorP7
set_option linter.unusedVariables false
set_option linter.unusedSimpArgs false
namespace Go.Proofs.YtadhpgecilhgnaaDoor.Pure
open Go Go.Proofs.YtadhpgecilhgnaaDoor.A

section
variable {m : List S} {c : List DModeChange} {md : S} {R : List DWatchRule} {b : Bool} {l : List S}
theorem line2 (hl : 1 ≤ l.length) (sm : Small (m, c, md, R)) (n1 : ¬ (l.length = 2 ∧ l.getD 0 [] = sMode ∧ b = false ∧ c = [])) (n2 : ¬ (l.length = 4 ∧ l.getD 0 [] = sChange ∧ b = false))
 {t : Bool} (ht : t = true ↔ l.length = 2 ∧ l.getD 0 [] = sBegin ∧ b = false) :
 ∃ st, LineSays (fun k => perigeeref8_line.c2 k m c md R b l t) st ∧ st = stepM (m, c, md, R) b l := by
 refine ⟨_, ?_, rfl⟩
 refine .step (fun k => perigeeref8_line.c2_eq _ _ _ _ _ _ _ _) ?_
 cases t with
 | true =>
  obtain ⟨h2, h0, hb⟩ := ht.1 rfl
  have hne : ¬ l.getD 0 [] = sMode := fun h => by rw [h] at h0; cases h0
  have hst : stepM (m, c, md, R) b l = some ((m, c, l.getD 1 [], R), true) := by
   unfold stepM
   rw [if_pos h2, if_neg hne, if_pos h0, if_pos hb]
  rw [hst]
  exact .yes rfl (.yes ⟨by omega, by omega⟩ (.good rfl))
 | false =>
  have n3 : ¬ (l.length = 2 ∧ l.getD 0 [] = sBegin ∧ b = false) := fun h => by have := ht.2 h; cases this
  refine .no (by simp) (.yes ⟨by omega, by omega⟩ ?_)
  by_cases h0 : l.getD 0 [] = sRule
  ·refine .yes (decide_eq_true h0) ?_
   by_cases h5 : l.length = 5
   ·refine .yes (decide_eq_true (by omega)) ?_
    cases b with
    | true =>
     refine .yes rfl (.yes ⟨by omega, by omega⟩ ?_)
     by_cases ho : l.getD 4 [] = sOnce
     ·exact .yes (decide_eq_true ho) (line3 hl sm n1 n2 n3 ⟨fun _ => ⟨h5, h0, rfl, .inl ho⟩, fun _ => rfl⟩)
     ·exact .no (dn ho) (.yes ⟨by omega, by omega⟩ (line3 hl sm n1 n2 n3 ⟨fun h => ⟨h5, h0, rfl, .inr (of_decide_eq_true h)⟩, fun h => decide_eq_true (h.2.2.2.resolve_left ho)⟩))
    | false => exact .no (by simp) (line3 hl sm n1 n2 n3 ⟨fun h => (by cases h), fun h => (by cases h.2.2.1)⟩)
   ·exact .no (dn (by omega)) (line3 hl sm n1 n2 n3 ⟨fun h => (by cases h), fun h => absurd h.1 h5⟩)
  ·exact .no (dn h0) (line3 hl sm n1 n2 n3 ⟨fun h => (by cases h), fun h => absurd h.2.1 h0⟩)
theorem line2' (hl : 1 ≤ l.length) (sm : Small (m, c, md, R)) (n1 : ¬ (l.length = 2 ∧ l.getD 0 [] = sMode ∧ b = false ∧ c = [])) (n2 : ¬ (l.length = 4 ∧ l.getD 0 [] = sChange ∧ b = false))
 {t : Bool} (ht : t = true ↔ l.length = 2 ∧ l.getD 0 [] = sBegin ∧ b = false) :
 LineSays (fun k => perigeeref8_line.c2 k m c md R b l t) (stepM (m, c, md, R) b l) := by
 obtain ⟨st, h, e⟩ := line2 hl sm n1 n2 ht
 rw [← e]; exact h
theorem line1 (hl : 1 ≤ l.length) (sm : Small (m, c, md, R)) (n1 : ¬ (l.length = 2 ∧ l.getD 0 [] = sMode ∧ b = false ∧ c = []))
 {t : Bool} (ht : t = true ↔ l.length = 4 ∧ l.getD 0 [] = sChange ∧ b = false) :
 LineSays (fun k => perigeeref8_line.c1 k m c md R b l t) (stepM (m, c, md, R) b l) := by
 refine .step (fun k => perigeeref8_line.c1_eq _ _ _ _ _ _ _ _) ?_
 have hc := sm.c
 simp only at hc
 cases t with
 | true =>
  obtain ⟨h4, h0, hb⟩ := ht.1 rfl
  have hst : stepM (m, c, md, R) b l = some ((m, c ++ [(l.getD 1 [], l.getD 2 [], l.getD 3 [])], md, R), b) := by
   unfold stepM
   rw [if_neg (by omega), if_pos h4, if_pos ⟨h0, hb⟩]
  rw [hst]
  exact .yes rfl (.yes ⟨by omega, by omega⟩ (.yes ⟨by omega, by omega⟩ (.yes ⟨by omega, by omega⟩ (.yes (by omega) (.good rfl)))))
 | false =>
  have n2 : ¬ (l.length = 4 ∧ l.getD 0 [] = sChange ∧ b = false) := fun h => by have := ht.2 h; cases this
  refine .no (by simp) (.yes ⟨by omega, by omega⟩ ?_)
  by_cases h0 : l.getD 0 [] = sBegin
  ·refine .yes (decide_eq_true h0) ?_
   by_cases h2 : l.length = 2
   ·exact .yes (decide_eq_true (by omega)) (line2' hl sm n1 n2 ⟨fun h => ⟨h2, h0, by simpa using h⟩, fun h => by rw [h.2.2]; rfl⟩)
   ·exact .no (dn (by omega)) (line2' hl sm n1 n2 ⟨fun h => (by cases h), fun h => absurd h.1 h2⟩)
  ·exact .no (dn h0) (line2' hl sm n1 n2 ⟨fun h => (by cases h), fun h => absurd h.2.1 h0⟩)
theorem line0 (hl : 1 ≤ l.length) (sm : Small (m, c, md, R)) {t : Bool} (ht : t = true ↔ l.length = 2 ∧ l.getD 0 [] = sMode ∧ b = false ∧ c = []) :
 LineSays (fun k => perigeeref8_line.c0 k m c md R b l t) (stepM (m, c, md, R) b l) := by
 refine .step (fun k => perigeeref8_line.c0_eq _ _ _ _ _ _ _ _) ?_
 have hc := sm.m
 simp only at hc
 cases t with
 | true =>
  obtain ⟨h2, h0, hb, he⟩ := ht.1 rfl
  have hst : stepM (m, c, md, R) b l = some ((m ++ [l.getD 1 []], c, md, R), b) := by
   unfold stepM
   rw [if_pos h2, if_pos h0, if_pos ⟨hb, he⟩]
  rw [hst]
  exact .yes rfl (.yes ⟨by omega, by omega⟩ (.yes (by omega) (.good rfl)))
 | false =>
  have n1 : ¬ (l.length = 2 ∧ l.getD 0 [] = sMode ∧ b = false ∧ c = []) := fun h => by have := ht.2 h; cases this
  refine .no (by simp) (.yes ⟨by omega, by omega⟩ ?_)
  by_cases h0 : l.getD 0 [] = sChange
  ·refine .yes (decide_eq_true h0) ?_
   by_cases h4 : l.length = 4
   ·exact .yes (decide_eq_true (by omega)) (line1 hl sm n1 ⟨fun h => ⟨h4, h0, by simpa using h⟩, fun h => by rw [h.2.2]; rfl⟩)
   ·exact .no (dn (by omega)) (line1 hl sm n1 ⟨fun h => (by cases h), fun h => absurd h.1 h4⟩)
  ·exact .no (dn h0) (line1 hl sm n1 ⟨fun h => (by cases h), fun h => absurd h.2.1 h0⟩)
end
theorem splitB_pos (c : UInt8) : ∀ s : S, 1 ≤ (splitB c s).length := by
 intro s
 cases s with
 | nil => simp [splitB]
 | cons x s => unfold splitB; (repeat' split) <;> simp
end Go.Proofs.YtadhpgecilhgnaaDoor.Pure

-- YtadhpgecilhgnaaDoorP8
set_option linter.unusedVariables false
set_option linter.unusedSimpArgs false
namespace Go.Proofs.YtadhpgecilhgnaaDoor.Pure
open Go Go.Proofs.YtadhpgecilhgnaaDoor.A

def readM : List S → Nat → DWatch → Bool → Except Nat (DWatch × Bool)
 | [], n, w, b => .ok (w, b)
 | x :: l, n, w, b => if l = [] then (if x = [] then .ok (w, b) else .error n) else match lineM w b x with
  | none => .error n
  | some y => readM l (n + 1) y.1 y.2
structure SmallK (K : Nat) (w : DWatch) : Prop where
 m : w.1.length ≤ K
 c : w.2.1.length ≤ K
 r : w.2.2.2.length ≤ K
 a : ∀ x ∈ w.2.2.2, x.2.2.2.2.length ≤ K
theorem SmallK.small {K : Nat} {w : DWatch} (h : SmallK K w) (hK : K ≤ 200000) : Small w :=
 ⟨Nat.le_trans h.m hK, Nat.le_trans h.c hK, Nat.le_trans h.r hK, fun x hx => Nat.le_trans (h.a x hx) hK⟩
theorem SmallK.addA {K : Nat} {R : List DWatchRule} (h : ∀ x ∈ R, x.2.2.2.2.length ≤ K) (a : DAct) : ∀ x ∈ addA R a, x.2.2.2.2.length ≤ K + 1 := by
 intro x hx
 unfold Pure.addA at hx
 by_cases hR : R = []
 ·subst hR; simp at hx
 ·have hpos : 0 < R.length := List.length_pos_iff.2 hR
  rcases List.mem_or_eq_of_mem_set hx with h' | h'
  ·exact Nat.le_succ_of_le (h x h')
  ·subst h'
   have := h (R.getD (R.length - 1) (Ty.dflt YWatchRule)) (by rw [getD_nat _ _ _ (by omega)]; exact List.getElem_mem _)
   simp only [List.length_append, List.length_cons, List.length_nil]
   omega
theorem SmallK.step {K : Nat} {w : DWatch} {b : Bool} {l : List S} {y : DWatch × Bool} (h : SmallK K w) (e : stepM w b l = some y) : SmallK (K + 1) y.1 := by
 obtain ⟨hm, hc, hr, ha⟩ := h
 have ha' : ∀ x ∈ w.2.2.2, x.2.2.2.2.length ≤ K + 1 := fun x hx => Nat.le_succ_of_le (ha x hx)
 unfold stepM at e
 split at e
 ·split at e
  ·split at e
   ·cases e; exact ⟨by simp; omega, by simp only; omega, by simp only; omega, ha'⟩
   ·cases e
  ·split at e
   ·split at e
    ·cases e; exact ⟨by simp only; omega, by simp only; omega, by simp only; omega, ha'⟩
    ·cases e
   ·split at e
    ·cases e
    ·split at e
     ·cases e; exact ⟨by simp only; omega, by simp only; omega, by simp only [Pure.addA, List.length_set]; omega, SmallK.addA ha _⟩
     ·cases e
 ·split at e
  ·split at e
   ·cases e; exact ⟨by simp only; omega, by simp; omega, by simp only; omega, ha'⟩
   ·cases e
  ·split at e
   ·split at e
    ·cases e
     refine ⟨by simp only; omega, by simp only; omega, by simp; omega, fun x hx => ?_⟩
     rcases List.mem_append.1 hx with h | h
     ·exact ha' x h
     ·rcases List.mem_singleton.1 h with rfl
      simp
    ·cases e
   ·cases e
theorem SmallK.line {K : Nat} {w : DWatch} {b : Bool} {s : S} {y : DWatch × Bool} (h : SmallK K w) (e : lineM w b s = some y) : SmallK (K + 1) y.1 := by
 unfold lineM at e
 split at e
 ·exact h.step e
 ·cases e
end Go.Proofs.YtadhpgecilhgnaaDoor.Pure

-- YtadhpgecilhgnaaDoorP9
set_option linter.unusedVariables false
set_option linter.unusedSimpArgs false
namespace Go.Proofs.YtadhpgecilhgnaaDoor.Pure
open Go Go.Proofs.YtadhpgecilhgnaaDoor.A

def RunSays (o : Except Nat (DWatch × Bool)) (r : Int × Dreader × Unit) : Prop := match o with
 | .error n => r.1 = (n : Int)
 | .ok x => r = (0, x, ())
theorem splitB_ne (c : UInt8) (s : S) : splitB c s ≠ [] := fun h => by have := splitB_pos c s; rw [h] at this; simp at this
theorem lines_loop : ∀ (d : Nat) (s : S) (w : DWatch) (b : Bool) (K n : Nat), s.length ≤ d → s.length + K ≤ 200000 → SmallK K w → n + s.length ≤ 200001 →
 ∃ r, Ev (fun k => kit_Lines.c0 k s w.1 w.2.1 w.2.2.1 w.2.2.2 b (n : Int)) r ∧ RunSays (readM (splitB 10 s) n w b) r := by
 intro d
 induction d with
 | zero =>
  intro s w b K n h0 hK hw hn
  have : s = [] := List.eq_nil_of_length_eq_zero (by omega)
  subst this
  exact ⟨_, .step (fun k => kit_Lines.c0_eq _ _ _ _ _ _ _ _) (.no (by simp) (Ev.now _)), rfl⟩
 | succ d ih =>
  intro s w b K n h0 hK hw hn
  by_cases hs : s = []
  ·subst hs
   exact ⟨_, .step (fun k => kit_Lines.c0_eq _ _ _ _ _ _ _ _) (.no (by simp) (Ev.now _)), rfl⟩
  have hi : ∀ k, strings_IndexByte.f k s 10 = some (Lib.indexByte s 10, ()) := fun k => by
   simp only [strings_IndexByte.f]
   rw [if_pos (by omega)]; rfl
  by_cases hm : (10 : UInt8) ∈ s
  ·obtain ⟨a, t, e, ha⟩ := split_first hm
   have hx : Lib.indexByte s 10 = (a.length : Int) := by rw [e]; exact idx_at ha
   have hl : s.length = a.length + (t.length + 1) := by rw [e]; simp
   have hsp : splitB 10 s = a :: splitB 10 t := by rw [e]; exact splitB_at ha
   have hw64 : IntKind.wrap .i64 ((a.length : Int) + 1) = ((a.length + 1 : Nat) : Int) := by rw [w64 (by omega) (by omega)]; omega
   have hta : (s.take (a.length : Int).toNat).drop 0 = a := by
    rw [Int.toNat_natCast, e, List.drop_zero]; simp
   have hdr : (s.take s.length).drop ((a.length + 1 : Nat) : Int).toNat = t := by
    rw [Int.toNat_natCast, List.take_length, e, List.drop_append]; simp
   obtain ⟨ok, st, ev, sy⟩ := take_ev w b a (by omega) (hw.small (by omega))
   have hwb : ((w.1, (w.2.1, (w.2.2.1, w.2.2.2))), b) = (w, b) := rfl
   have go : ∀ r, Ev (fun k => if (!ok) = true then some ((n : Int), (st, ())) else
    (if (0 : Int) ≤ (IntKind.wrap .i64 ((a.length : Int) + 1)) ∧ ((IntKind.wrap .i64 ((a.length : Int) + 1)) : Int) ≤ (s.length : Int) ∧ ((s.length : Int) : Int) ≤ (s.length : Int) then
     kit_Lines.c0 k ((s.take s.length).drop (IntKind.wrap .i64 ((a.length : Int) + 1)).toNat) st.1.1 st.1.2.1 st.1.2.2.1 st.1.2.2.2 st.2 (IntKind.wrap .i64 ((n : Int) + 1)) else none)) r →
    Ev (fun k => kit_Lines.c0 k s w.1 w.2.1 w.2.2.1 w.2.2.2 b (n : Int)) r := by
    intro r h
    refine .step (fun k => kit_Lines.c0_eq _ _ _ _ _ _ _ _) (.yes (by simp [hs]) (.bind (.eq hi (Ev.now _)) ?_))
    simp only [hx]
    refine .no (dn (by omega)) (.yes ⟨by omega, by omega, by omega⟩ ?_)
    rw [hta]
    exact .bind ev h
   rw [hsp]
   unfold readM
   rw [if_neg (splitB_ne _ _)]
   rcases sy with ⟨h1, x, h2, h3⟩ | ⟨h1, h2⟩
   ·rw [h2]
    subst h1 h3
    have hk := hw.line h2
    obtain ⟨r, er, sr⟩ := ih t st.1 st.2 (K + 1) (n + 1) (by omega) (by omega) hk (by omega)
    refine ⟨r, go r (.no (by simp) ?_), sr⟩
    rw [hw64]
    refine .yes ⟨by omega, by omega, by omega⟩ ?_
    rw [hdr, w64 (by omega) (by omega)]
    exact er
   ·rw [h2]
    subst h1
    exact ⟨_, go _ (.yes (by simp) (Ev.now _)), rfl⟩
  ·have hx : Lib.indexByte s 10 = -1 := idx_none hm
   rw [splitB_none hm]
   unfold readM
   rw [if_pos rfl, if_neg hs]
   refine ⟨((n : Int), (((w.1, (w.2.1, (w.2.2.1, w.2.2.2))), b), ())), .step (fun k => kit_Lines.c0_eq _ _ _ _ _ _ _ _) (.yes (by simp [hs]) (.bind (.eq hi (Ev.now _)) ?_)), rfl⟩
   simp only [hx]
   exact .yes (by simp) (Ev.now _)
end Go.Proofs.YtadhpgecilhgnaaDoor.Pure

-- YtadhpgecilhgnaaDoorP10
set_option linter.unusedVariables false
set_option linter.unusedSimpArgs false
namespace Go.Proofs.YtadhpgecilhgnaaDoor.Pure
open Go Go.Proofs.YtadhpgecilhgnaaDoor.A

end Go.Proofs.YtadhpgecilhgnaaDoor.Pure

-- YtadhpgecilhgnaaDoorP11
set_option linter.unusedVariables false
set_option linter.unusedSimpArgs false
namespace Go.Proofs.YtadhpgecilhgnaaDoor.Pure
open Go Go.Proofs.YtadhpgecilhgnaaDoor.A

abbrev noW : DFWatch := ([], ([], ([], [])))
def thaw (w : DWatch) : DFWatch := (w.1, (w.2.1, (w.2.2.1, List.map (Ty.conv YWatchRule) w.2.2.2)))
end Go.Proofs.YtadhpgecilhgnaaDoor.Pure

-- YtadhpgecilhgnaaDoorP12
set_option linter.unusedVariables false
set_option linter.unusedSimpArgs false
namespace Go.Proofs.YtadhpgecilhgnaaDoor.Pure
open Go Go.Proofs.YtadhpgecilhgnaaDoor.A

def FitA (a : DAct) : Prop := 0 ≤ a.1 ∧ a.1 ≤ 4 ∧ a.2.1.length ≤ 200000
def FitR (x : DWatchRule) : Prop := x.1.length ≤ 200000 ∧ x.2.1.length ≤ 200000 ∧ x.2.2.1.length ≤ 200000 ∧ ∀ a ∈ x.2.2.2.2, FitA a
def FitC (x : DModeChange) : Prop := x.1.length ≤ 200000 ∧ x.2.1.length ≤ 200000 ∧ x.2.2.length ≤ 200000
structure Fit (w : DWatch) : Prop where
 m : ∀ x ∈ w.1, x.length ≤ 200000
 c : ∀ x ∈ w.2.1, FitC x
 d : w.2.2.1.length ≤ 200000
 r : ∀ x ∈ w.2.2.2, FitR x
theorem actM_fit {v nm : S} {a : DAct} (h : nm.length ≤ 200000) (e : actM v nm = some a) : FitA a := by
 unfold actM at e
 (repeat' split at e) <;> first | (cases e; refine ⟨?_, ?_, h⟩ <;> simp only <;> omega) | cases e
theorem mem_app {α : Type} {P : α → Prop} {l : List α} {y : α} (h : ∀ x ∈ l, P x) (hy : P y) : ∀ x ∈ l ++ [y], P x := by
 intro x hx
 rcases List.mem_append.1 hx with h' | h'
 ·exact h x h'
 ·rcases List.mem_singleton.1 h' with rfl
  exact hy
theorem Fit.step {w : DWatch} {b : Bool} {l : List S} {y : DWatch × Bool} (hl : ∀ i, (l.getD i []).length ≤ 200000) (h : Fit w) (e : stepM w b l = some y) : Fit y.1 := by
 obtain ⟨hm, hc, hd, hr⟩ := h
 unfold stepM at e
 split at e
 ·split at e
  ·split at e
   ·cases e; exact ⟨mem_app hm (hl 1), hc, hd, hr⟩
   ·cases e
  ·split at e
   ·split at e
    ·cases e; exact ⟨hm, hc, hl 1, hr⟩
    ·cases e
   ·split at e
    ·cases e
    ·rename_i hR
     split at e
     ·rename_i a ea
      cases e
      refine ⟨hm, hc, hd, fun x hx => ?_⟩
      have hpos : 0 < w.2.2.2.length := List.length_pos_iff.2 hR
      unfold addA at hx
      rcases List.mem_or_eq_of_mem_set hx with h' | h'
      ·exact hr x h'
      ·subst h'
       have hz := hr (w.2.2.2.getD (w.2.2.2.length - 1) (Ty.dflt YWatchRule)) (by rw [getD_nat _ _ _ (by omega)]; exact List.getElem_mem _)
       exact ⟨hz.1, hz.2.1, hz.2.2.1, mem_app hz.2.2.2 (actM_fit (hl 1) ea)⟩
     ·cases e
 ·split at e
  ·split at e
   ·cases e; exact ⟨hm, mem_app hc ⟨hl 1, hl 2, hl 3⟩, hd, hr⟩
   ·cases e
  ·split at e
   ·split at e
    ·cases e
     refine ⟨hm, hc, hd, mem_app hr ⟨hl 1, hl 2, ?_, fun a ha => by cases ha⟩⟩
     simp only
     split
     ·simp
     ·exact hl 3
    ·cases e
   ·cases e
theorem splitB_getD (c : UInt8) (s : S) (hs : s.length ≤ 200000) (i : Nat) : ((splitB c s).getD i []).length ≤ 200000 := by
 by_cases hi : i < (splitB c s).length
 ·rw [getD_nat _ _ _ hi]
  exact Nat.le_trans ((splitB_len c s).2 _ (List.getElem_mem hi)) hs
 ·rw [List.getD_eq_getElem?_getD, List.getElem?_eq_none (by omega)]
  simp
theorem Fit.line {w : DWatch} {b : Bool} {s : S} {y : DWatch × Bool} (hs : s.length ≤ 200000) (h : Fit w) (e : lineM w b s = some y) : Fit y.1 := by
 unfold lineM at e
 split at e
 ·exact h.step (splitB_getD 32 s hs) e
 ·cases e
theorem readM_fit : ∀ (l : List S) (n : Nat) (w : DWatch) (b : Bool) (K : Nat) (y : DWatch × Bool), (∀ x ∈ l, x.length ≤ 200000) → Fit w → SmallK K w → readM l n w b = .ok y → Fit y.1 ∧ SmallK (K + l.length) y.1
 | [], n, w, b, K, y, hl, hf, hk, e => by
  cases e; exact ⟨hf, hk⟩
 | x :: l, n, w, b, K, y, hl, hf, hk, e => by
  unfold readM at e
  split at e
  ·split at e
   ·cases e
    exact ⟨hf, ⟨Nat.le_add_right_of_le hk.m, Nat.le_add_right_of_le hk.c, Nat.le_add_right_of_le hk.r, fun x hx => Nat.le_add_right_of_le (hk.a x hx)⟩⟩
   ·cases e
  ·split at e
   ·cases e
   ·rename_i z ez
    have := readM_fit l (n + 1) z.1 z.2 (K + 1) y (fun x hx => hl x (List.mem_cons_of_mem _ hx)) (hf.line (hl x (List.mem_cons_self ..)) ez) (hk.line ez) e
    refine ⟨this.1, ?_⟩
    have hq : K + 1 + l.length = K + (x :: l).length := by simp only [List.length_cons]; omega
    rw [← hq]; exact this.2
end Go.Proofs.YtadhpgecilhgnaaDoor.Pure

-- YtadhpgecilhgnaaDoorP13
set_option linter.unusedVariables false
set_option linter.unusedSimpArgs false
namespace Go.Proofs.YtadhpgecilhgnaaDoor.Pure
open Go Go.Proofs.YtadhpgecilhgnaaDoor.A

theorem map_same {α : Type} {f : α → α} (h : ∀ x, f x = x) : ∀ l : List α, List.map f l = l
 | [] => rfl
 | x :: l => by rw [List.map_cons, h x, map_same h l]
theorem act_conv (a : DAct) : Ty.conv YAct a = a := rfl
theorem rule_conv (x : DWatchRule) : Ty.conv YWatchRule x = x := by
 obtain ⟨a, b, c, d, l⟩ := x
 show (a, b, c, d, List.map (Ty.conv YAct) l) = (a, b, c, d, l)
 have : List.map (Ty.conv YAct) l = l := map_same act_conv l
 exact congrArg (fun q : List DAct => (a, b, c, d, q)) this
theorem thaw_eq (w : DWatch) : thaw w = w := by
 have : List.map (Ty.conv YWatchRule) w.2.2.2 = w.2.2.2 := map_same rule_conv w.2.2.2
 exact congrArg (fun q : List DFWatchRule => ((w.1, (w.2.1, (w.2.2.1, q))) : DFWatch)) this
theorem okT_sl {e : Ty} {xs : List e.den} (hl : xs.length ≤ 200001) (he : e.low ≤ 1000) (h : ∀ x ∈ xs, okT e x) : okT (.sl e) xs :=
 ⟨by omega, Nat.le_trans (Nat.mul_le_mul hl he) (by decide), h⟩
theorem Fit.ok {w : DWatch} (h : Fit w) (s : SmallK 200001 w) : okT YFWatch w := by
 refine ⟨okT_sl s.m (by decide) fun x hx => ?_, okT_sl s.c (by decide) fun x hx => ?_, ?_, okT_sl s.r (by decide) fun x hx => ?_⟩
 ·exact Nat.le_trans (h.m x hx) (by decide)
 ·have := h.c x hx
  exact ⟨Nat.le_trans this.1 (by decide), Nat.le_trans this.2.1 (by decide), Nat.le_trans this.2.2 (by decide)⟩
 ·exact Nat.le_trans h.d (by decide)
 ·have := h.r x hx
  refine ⟨Nat.le_trans this.1 (by decide), Nat.le_trans this.2.1 (by decide), Nat.le_trans this.2.2.1 (by decide), trivial, okT_sl (s.a x hx) (by decide) fun a ha => ?_⟩
  have hf := this.2.2.2 a ha
  refine ⟨⟨?_, ?_⟩, Nat.le_trans hf.2.2 (by decide), trivial⟩
  ·exact Int.le_trans (by decide) hf.1
  ·exact Int.le_trans hf.2.1 (by decide)
def emptyW : DWatch := ([], ([], ([], [])))
end Go.Proofs.YtadhpgecilhgnaaDoor.Pure

-- YtadhpgecilhgnaaDoorP14
set_option linter.unusedVariables false
set_option linter.unusedSimpArgs false
namespace Go.Proofs.YtadhpgecilhgnaaDoor.Pure
open Go Go.Proofs.YtadhpgecilhgnaaDoor.A

theorem up {α : Type} {g : Nat → Int → Option α} {r : α} (n : Nat) (step : ∀ i, i < n → Ev (fun k => g k ((i + 1 : Nat) : Int)) r → Ev (fun k => g k (i : Int)) r) (fin : Ev (fun k => g k (n : Int)) r) : Ev (fun k => g k 0) r := by
 have : ∀ d i, n - i ≤ d → i ≤ n → Ev (fun k => g k (i : Int)) r := by
  intro d
  induction d with
  | zero =>
   intro i h1 h2
   obtain rfl : i = n := by omega
   exact fin
  | succ d ih =>
   intro i h1 h2
   by_cases h : i < n
   ·exact step i h (ih (i + 1) (by omega) (by omega))
   ·obtain rfl : i = n := by omega
    exact fin
 exact this n 0 (by omega) (by omega)
theorem same_ev (w : DFWatch) (hm : w.1.length ≤ 200001) (hc : w.2.1.length ≤ 200001) (hr : w.2.2.2.length ≤ 200001) (ha : ∀ x ∈ w.2.2.2, x.2.2.2.2.length ≤ 200001) :
 Ev (fun k => perigeeref8_SameWatch.f k w w) (true, ()) := by
 have e1 : ∀ x, eqV YModeChange x x = true := fun x => (eqV_iff rfl).2 rfl
 have e2 : ∀ x, eqV YAct x x = true := fun x => (eqV_iff rfl).2 rfl
 refine .eq (fun k => perigeeref8_SameWatch.f_eq _ _ _) (.no (by simp) (.no (by simp) (.no (by simp) (.no (by simp) (.step (fun k => perigeeref8_SameWatch.c0_eq _ _ _ _ _ _ _ _ _) ?_)))))
 refine up (g := fun k i => perigeeref8_SameWatch.c1 k w.1 w.2.1 w.2.2.1 w.2.2.2 w.1 w.2.1 w.2.2.1 w.2.2.2 i) w.1.length (fun i hi h => ?_) ?_
 ·refine .step (fun k => perigeeref8_SameWatch.c1_eq _ _ _ _ _ _ _ _ _ _) (.yes (decide_eq_true (by omega)) (.yes ⟨by omega, by omega⟩ (.yes ⟨by omega, by omega⟩ (.no (by simp) ?_))))
  rw [w64 (by omega) (by omega)]
  exact h
 refine .step (fun k => perigeeref8_SameWatch.c1_eq _ _ _ _ _ _ _ _ _ _) (.no (dn (by omega)) ?_)
 refine up (g := fun k i => perigeeref8_SameWatch.c2 k w.1 w.2.1 w.2.2.1 w.2.2.2 w.1 w.2.1 w.2.2.1 w.2.2.2 i) w.2.1.length (fun i hi h => ?_) ?_
 ·refine .step (fun k => perigeeref8_SameWatch.c2_eq _ _ _ _ _ _ _ _ _ _) (.yes (decide_eq_true (by omega)) (.yes ⟨by omega, by omega⟩ (.yes ⟨by omega, by omega⟩ (.no (by rw [e1]; simp) ?_))))
  rw [w64 (by omega) (by omega)]
  exact h
 refine .step (fun k => perigeeref8_SameWatch.c2_eq _ _ _ _ _ _ _ _ _ _) (.no (dn (by omega)) ?_)
 refine up (g := fun k i => perigeeref8_SameWatch.c3 k w.1 w.2.1 w.2.2.1 w.2.2.2 w.1 w.2.1 w.2.2.1 w.2.2.2 i) w.2.2.2.length (fun i hi h => ?_) ?_
 ·have hx := ha (w.2.2.2.getD (i : Int).toNat (Ty.dflt YFWatchRule)) (by rw [Int.toNat_natCast, getD_nat _ _ _ hi]; exact List.getElem_mem _)
  refine .step (fun k => perigeeref8_SameWatch.c3_eq _ _ _ _ _ _ _ _ _ _) (.yes (decide_eq_true (by omega)) (.yes ⟨by omega, by omega⟩ (.yes ⟨by omega, by omega⟩ (.no (by simp) (.no (by simp) (.no (by simp) (.no (by simp) (.no (by simp) ?_))))))))
  refine .step (fun k => perigeeref8_SameWatch.c4_eq _ _ _ _ _ _ _ _ _ _ _ _ _ _ _ _ _ _ _ _) ?_
  generalize w.2.2.2.getD (i : Int).toNat (Ty.dflt YFWatchRule) = x at hx ⊢
  refine up (g := fun k j => perigeeref8_SameWatch.c5 k w.1 w.2.1 w.2.2.1 w.2.2.2 w.1 w.2.1 w.2.2.1 w.2.2.2 i x.1 x.2.1 x.2.2.1 x.2.2.2.1 x.2.2.2.2 x.1 x.2.1 x.2.2.1 x.2.2.2.1 x.2.2.2.2 j) x.2.2.2.2.length (fun j hj h' => ?_) ?_
  ·refine .step (fun k => perigeeref8_SameWatch.c5_eq _ _ _ _ _ _ _ _ _ _ _ _ _ _ _ _ _ _ _ _ _) (.yes (decide_eq_true (by omega)) (.yes ⟨by omega, by omega⟩ (.yes ⟨by omega, by omega⟩ (.no (by rw [e2]; simp) ?_))))
   rw [w64 (by omega) (by omega)]
   exact h'
  ·refine .step (fun k => perigeeref8_SameWatch.c5_eq _ _ _ _ _ _ _ _ _ _ _ _ _ _ _ _ _ _ _ _ _) (.no (dn (by omega)) ?_)
   rw [w64 (by omega) (by omega)]
   exact h
 exact .step (fun k => perigeeref8_SameWatch.c3_eq _ _ _ _ _ _ _ _ _ _) (.no (dn (by omega)) (Ev.now _))
end Go.Proofs.YtadhpgecilhgnaaDoor.Pure

-- YtadhpgecilhgnaaDoorP15
set_option linter.unusedVariables false
set_option linter.unusedSimpArgs false
namespace Go.Proofs.YtadhpgecilhgnaaDoor.Pure
open Go Go.Proofs.YtadhpgecilhgnaaDoor.A

def joinB : List S → S
 | [] => []
 | x :: l => if l = [] then x else x ++ 32 :: joinB l
def lnB (l : List S) : S := joinB l ++ [10]
def verbM (a : DAct) : S := if a.1 = 1 then sRaise else if a.1 = 2 then sOn else if a.1 = 3 then sOff else if a.2.2 = true then sSwOff else sSwOn
def actsT : List DAct → S
 | [] => []
 | a :: l => lnB [verbM a, a.2.1] ++ actsT l
def ruleT (x : DFWatchRule) : S := lnB [sRule, x.1, x.2.1, if x.2.2.1 = [] then sStar else x.2.2.1, if x.2.2.2.1 = true then sOnce else sAlways] ++ actsT x.2.2.2.2
def rulesT : List DFWatchRule → S
 | [] => []
 | x :: l => ruleT x ++ rulesT l
def modesT : List S → S
 | [] => []
 | x :: l => lnB [sMode, x] ++ modesT l
def changesT : List DModeChange → S
 | [] => []
 | x :: l => lnB [sChange, x.1, x.2.1, x.2.2] ++ changesT l
def textM (w : DFWatch) : S := modesT w.1 ++ (changesT w.2.1 ++ (lnB [sBegin, w.2.2.1] ++ rulesT w.2.2.2))
theorem splitB_join : ∀ (l : List S), l ≠ [] → (∀ x ∈ l, (32 : UInt8) ∉ x) → splitB 32 (joinB l) = l
 | [], h, _ => absurd rfl h
 | [x], _, h => by
  show splitB 32 x = [x]
  exact splitB_none (h x (List.mem_singleton.2 rfl))
 | x :: y :: l, _, h => by
  show splitB 32 (x ++ 32 :: joinB (y :: l)) = x :: y :: l
  rw [splitB_at (h x (List.mem_cons_self ..)), splitB_join (y :: l) (by simp) (fun z hz => h z (List.mem_cons_of_mem _ hz))]
theorem act_verb {a : DAct} (h1 : 1 ≤ a.1) (h4 : a.1 ≤ 4) (hf : a.1 ≠ 4 → a.2.2 = false) : actM (verbM a) a.2.1 = some a := by
 obtain ⟨k, nm, off⟩ := a
 simp only at h1 h4 hf
 have hk : k = 1 ∨ k = 2 ∨ k = 3 ∨ k = 4 := by omega
 rcases hk with rfl | rfl | rfl | rfl
 ·rw [hf (by decide)]; rfl
 ·rw [hf (by decide)]; rfl
 ·rw [hf (by decide)]; rfl
 ·cases off <;> rfl
end Go.Proofs.YtadhpgecilhgnaaDoor.Pure

-- YtadhpgecilhgnaaDoorP16
set_option linter.unusedVariables false
set_option linter.unusedSimpArgs false
namespace Go.Proofs.YtadhpgecilhgnaaDoor.Pure
open Go Go.Proofs.YtadhpgecilhgnaaDoor.A

def ActOk (y : DAct) : Prop := (1 ≤ y.1 ∧ y.1 ≤ 4) ∧ isNm y.2.1 = true ∧ (y.1 ≠ 4 → y.2.2 = false)
structure RuleOk (w : DFWatch) (x : DFWatchRule) : Prop where
 n1 : isNm x.1 = true
 n2 : isNm x.2.1 = true
 md : x.2.2.1 = [] ∨ x.2.2.1 ∈ w.1
 al : x.2.2.2.2.length ≤ 10
 ac : ∀ j, j < x.2.2.2.2.length → ActOk (x.2.2.2.2.getD j (Ty.dflt YAct))
theorem rule_ok (w : DFWatch) (x : DFWatchRule) (hl : w.1.length ≤ 50) (hx : okT YFWatchRule x) : ∃ r : Int × Unit, Ev (fun k => monitor_checkRule.f k w x) r ∧ (r.1 = 0 → RuleOk w x) := by
 have tail : ∃ r : Int × Unit, Ev (fun k => monitor_checkRule.c1 k x.1 x.2.1 x.2.2.1 x.2.2.2.1 x.2.2.2.2) r ∧ (r.1 = 0 → x.2.2.2.2.length ≤ 10 ∧ ∀ j, j < x.2.2.2.2.length → ActOk (x.2.2.2.2.getD j (Ty.dflt YAct))) := by
  by_cases al : 10 < x.2.2.2.2.length
  ·refine ⟨(2, ()), Ev.step (fun k => monitor_checkRule.c1_eq _ _ _ _ _ _) ?_, fun h => by cases h⟩
   exact Ev.yes (decide_eq_true (by omega)) (Ev.now _)
  have := Ev.rngR (σ := Unit) (Ty.dflt YAct) x.2.2.2.2 (by omega) (g := fun k _ i => monitor_checkRule.c2 k x.2.2.2.2 (x.2.2.2.2.length : Int) i) (fun k _ i => monitor_checkRule.c2_eq _ _ _ _)
   (fun i _ => ∀ j, j < i → j < x.2.2.2.2.length → ActOk (x.2.2.2.2.getD j (Ty.dflt YAct))) (fun r => r.1 = 0 → ∀ j, j < x.2.2.2.2.length → ActOk (x.2.2.2.2.getD j (Ty.dflt YAct))) (fun _ hs => ⟨_, Ev.now _, fun _ j hj => hs j hj hj⟩) (fun i y _ hi hc hget hgd hw hs next => ?_) 0 () (by omega) (fun j hj => by omega)
  ·obtain ⟨r, r1, r2⟩ := this
   refine ⟨r, Ev.step (fun k => monitor_checkRule.c1_eq _ _ _ _ _ _) ?_, fun h => ⟨by omega, r2 h⟩⟩
   exact Ev.no (fun h => al (by have := of_decide_eq_true h; omega)) r1
  ·simp only [Int.toNat_natCast, hgd, hw, in_ev, Option.bind_some]
   obtain ⟨nm, _⟩ := name_ev y.2.1 ((hx.2.2.2.2.2.2 y hc).2.1)
   by_cases k1 : (1 ≤ y.1 ∧ y.1 ≤ 4)
   case neg => exact ⟨(4, ()), Ev.yes (by simp only [decide_eq_false k1]; rfl) (Ev.now _), fun h => by cases h⟩
   by_cases h3 : isNm y.2.1 = true
   case neg => exact ⟨(5, ()), Ev.no (by simp only [decide_eq_true k1]; simp) (Ev.bind nm (Ev.yes (by simpa using h3) (Ev.now _))), fun h => by cases h⟩
   have more : (y.1 ≠ 4 → y.2.2 = false) → ∀ j, j < i + 1 → j < x.2.2.2.2.length → ActOk (x.2.2.2.2.getD j (Ty.dflt YAct)) := fun hf j hj hjl => by
    by_cases e : j = i
    ·subst e; rw [hgd]; exact ⟨k1, h3, hf⟩
    ·exact hs j (by omega) hjl
   by_cases h4 : y.2.2 = true
   case neg =>
    obtain ⟨r, r1, r2⟩ := next () (more fun _ => by simpa using h4)
    exact ⟨r, Ev.no (by simp only [decide_eq_true k1]; simp) (Ev.bind nm (Ev.no (by simp [h3]) (Ev.no h4 r1))), r2⟩
   by_cases h5 : y.1 = 4
   ·obtain ⟨r, r1, r2⟩ := next () (more fun h => absurd h5 h)
    exact ⟨r, Ev.no (by simp only [decide_eq_true k1]; simp) (Ev.bind nm (Ev.no (by simp [h3]) (Ev.yes h4 (Ev.no (by simp [h5]) r1)))), r2⟩
   ·exact ⟨(3, ()), Ev.no (by simp only [decide_eq_true k1]; simp) (Ev.bind nm (Ev.no (by simp [h3]) (Ev.yes h4 (Ev.yes (by simpa using h5) (Ev.now _))))), fun h => by cases h⟩
 obtain ⟨r, r1, r2⟩ := tail
 obtain ⟨n1, _⟩ := name_ev x.1 hx.1
 obtain ⟨n2, _⟩ := name_ev x.2.1 hx.2.1
 by_cases a1 : isNm x.1 = true
 case neg =>
  refine ⟨(5, ()), Ev.eq (fun k => monitor_checkRule.f_eq _ _ _) ?_, fun h => by cases h⟩
  exact Ev.bind n1 (Ev.yes (by simpa using a1) (Ev.now _))
 by_cases a2 : isNm x.2.1 = true
 case neg =>
  refine ⟨(5, ()), Ev.eq (fun k => monitor_checkRule.f_eq _ _ _) ?_, fun h => by cases h⟩
  exact Ev.bind n1 (Ev.no (by simp [a1]) (Ev.bind n2 (Ev.yes (by simpa using a2) (Ev.now _))))
 have go : ∀ {r}, Ev (fun k => monitor_checkRule.c0 k w.1 w.2.1 w.2.2.1 w.2.2.2 x.1 x.2.1 x.2.2.1 x.2.2.2.1 x.2.2.2.2) r → Ev (fun k => monitor_checkRule.f k w x) r := fun {r} h => by
  refine Ev.eq (fun k => monitor_checkRule.f_eq _ _ _) ?_
  exact Ev.bind n1 (Ev.no (by simp [a1]) (Ev.bind n2 (Ev.no (by simp [a2]) h)))
 by_cases a3 : x.2.2.1 = []
 ·refine ⟨r, go (Ev.step (fun k => monitor_checkRule.c0_eq _ _ _ _ _ _ _ _ _ _) ?_), fun h => ⟨a1, a2, .inl a3, (r2 h).1, (r2 h).2⟩⟩
  exact Ev.no (by simp [a3]) r1
 by_cases a4 : x.2.2.1 ∈ w.1
 ·refine ⟨r, go (Ev.step (fun k => monitor_checkRule.c0_eq _ _ _ _ _ _ _ _ _ _) ?_), fun h => ⟨a1, a2, .inr a4, (r2 h).1, (r2 h).2⟩⟩
  exact Ev.yes (by simpa using a3) (Ev.bind (contains_ev _ _ (by omega)) (Ev.no (by simp [a4]) r1))
 ·refine ⟨(9, ()), go (Ev.step (fun k => monitor_checkRule.c0_eq _ _ _ _ _ _ _ _ _ _) ?_), fun h => by cases h⟩
  exact Ev.yes (by simpa using a3) (Ev.bind (contains_ev _ _ (by omega)) (Ev.yes (by simp [a4]) (Ev.now _)))
end Go.Proofs.YtadhpgecilhgnaaDoor.Pure

-- YtadhpgecilhgnaaDoorP17
set_option linter.unusedVariables false
set_option linter.unusedSimpArgs false
namespace Go.Proofs.YtadhpgecilhgnaaDoor.Pure
open Go Go.Proofs.YtadhpgecilhgnaaDoor.A

def NmB (b : UInt8) : Prop := b.toNat = 45 ∨ b.toNat = 95 ∨ (48 ≤ b.toNat ∧ b.toNat ≤ 57) ∨ (97 ≤ b.toNat ∧ b.toNat ≤ 122)
theorem name_all (s : S) : ∃ r : Bool × Unit, Ev (fun k => monitor_IsName.f k s) r ∧ (r.1 = true → ∀ b ∈ s, NmB b) := by
 by_cases h0 : s = []
 ·exact ⟨(false, ()), Ev.eq (fun k => by rw [monitor_IsName.f_eq]) (Ev.yes (by simpa using h0) (Ev.now _)), fun h => by cases h⟩
 by_cases h1 : 40 < (s.length : Int)
 ·exact ⟨(false, ()), Ev.eq (fun k => by rw [monitor_IsName.f_eq]) (Ev.no (by simpa using h0) (Ev.yes (by simpa using h1) (Ev.now _))), fun h => by cases h⟩
 have h := Ev.rngR (σ := Unit) (0 : UInt8) s (by omega) (g := fun k _ i => monitor_IsName.c1 k s (s.length : Int) i) (fun k _ i => monitor_IsName.c1_eq _ _ _ _)
  (fun i _ => ∀ b ∈ s.take i, NmB b) (fun r : Bool × Unit => r.1 = true → ∀ b ∈ s, NmB b) (fun _ hs => ⟨_, Ev.now _, fun _ => by rw [List.take_length] at hs; exact hs⟩) (fun i x _ hi hx hg hget hw hs next => by
   simp only [Int.toNat_natCast, hget, hw]
   have sp : ∀ {c : Prop} {hd : Decidable c} {g f : Nat → Option (Bool × Unit)}, (c → ∃ r, Ev g r ∧ (r.1 = true → ∀ b ∈ s, NmB b)) → (¬ c → ∃ r, Ev f r ∧ (r.1 = true → ∀ b ∈ s, NmB b)) → ∃ r, Ev (fun k => if c then g k else f k) r ∧ (r.1 = true → ∀ b ∈ s, NmB b) := fun {c hd g f} y n => by
    by_cases h : c
    ·obtain ⟨r, r1, r2⟩ := y h
     exact ⟨r, Ev.yes h r1, r2⟩
    ·obtain ⟨r, r1, r2⟩ := n h
     exact ⟨r, Ev.no h r1, r2⟩
   have F : ∃ r : Bool × Unit, Ev (fun _ : Nat => some (false, ())) r ∧ (r.1 = true → ∀ b ∈ s, NmB b) := ⟨_, Ev.now _, fun h => by cases h⟩
   have N : NmB x → ∃ r : Bool × Unit, Ev (fun k => monitor_IsName.c1 k s (s.length : Int) ((i : Int) + 1)) r ∧ (r.1 = true → ∀ b ∈ s, NmB b) := fun hb => next () (fun b hb' => by
    rw [List.take_add_one, hg] at hb'
    rcases List.mem_append.1 hb' with h | h
    ·exact hs b h
    ·simp at h; subst h; exact hb)
   have dig : ∃ r : Bool × Unit, Ev (fun k => if decide (i = (0 : Int)) = true then some (false, ()) else if (!(decide ((x.toNat : Int) = 45))) = true then (if (!(decide ((x.toNat : Int) = 95))) = true then (if (decide ((x.toNat : Int) < 48)) = true then some (false, ()) else (if (decide (57 < (x.toNat : Int))) = true then some (false, ()) else monitor_IsName.c1 k s (s.length : Int) ((i : Int) + 1))) else monitor_IsName.c1 k s (s.length : Int) ((i : Int) + 1)) else monitor_IsName.c1 k s (s.length : Int) ((i : Int) + 1)) r ∧ (r.1 = true → ∀ b ∈ s, NmB b) :=
    sp (fun _ => F) fun _ => sp (fun a => sp (fun b => sp (fun _ => F) fun c => sp (fun _ => F) fun d => N (by simp at *; unfold NmB; omega)) fun b => N (by simp at *; unfold NmB; omega)) fun a => N (by simp at *; unfold NmB; omega)
   exact sp (fun _ => dig) fun a => sp (fun _ => dig) fun b => N (by simp at *; unfold NmB; omega)) 0 () (by omega) (fun b hb => by simp at hb)
 obtain ⟨r, r1, r2⟩ := h
 exact ⟨r, Ev.eq (fun k => by rw [monitor_IsName.f_eq]) (Ev.no (by simpa using h0) (Ev.no (by simpa using h1) (Ev.step (fun k => monitor_IsName.c0_eq _ _) (show Ev (fun k => monitor_IsName.c1 k s (s.length : Int) 0) r from r1)))), r2⟩
theorem isNm_ev {s : S} (h : isNm s = true) : Ev (fun k => monitor_IsName.f k s) (true, ()) := by
 unfold isNm at h
 split at h
 ·assumption
 ·cases h
theorem nm_bytes {s : S} (h : isNm s = true) : ∀ b ∈ s, NmB b := by
 obtain ⟨r, r1, r2⟩ := name_all s
 have := r1.unique (isNm_ev h)
 subst this
 exact r2 rfl
theorem nm_len {s : S} (h : isNm s = true) : s.length ≤ 40 := by
 have e := isNm_ev h
 by_cases h0 : s = []
 ·subst h0; simp
 by_cases h1 : 40 < (s.length : Int)
 ·have := e.unique (Ev.eq (fun k => by rw [monitor_IsName.f_eq]) (Ev.no (by simpa using h0) (Ev.yes (by simpa using h1) (Ev.now _))))
  cases this
 ·omega
theorem nm_okW {s : S} (h : isNm s = true) : okW s = true := by
 have hb := nm_bytes h
 have hn := nm_ne h
 unfold okW
 have h1 : s.isEmpty = false := by cases s with
  | nil => exact absurd rfl hn
  | cons _ _ => rfl
 have h2 : s.all okB = true := List.all_eq_true.2 fun b hb' => by
  have := hb b hb'
  unfold NmB at this
  unfold okB
  simp
  omega
 rw [h1, h2]
 rfl
theorem okW_no {s : S} (h : okW s = true) {c : UInt8} (hc : c.toNat < 33) : c ∉ s := by
 intro hm
 unfold okW at h
 simp only [Bool.and_eq_true] at h
 have := List.all_eq_true.1 h.2 c hm
 unfold okB at this
 simp at this
 omega
theorem okW_ne {s : S} (h : okW s = true) : s ≠ [] := by
 intro e
 subst e
 cases h
theorem nm_star {s : S} (h : isNm s = true) : s ≠ sStar := by
 intro e
 subst e
 have := nm_bytes h 42 (by simp [sStar])
 unfold NmB at this
 simp at this
structure WOk (w : DFWatch) : Prop where
 ml : w.1.length ≤ 50
 cl : w.2.1.length ≤ 500
 rl : w.2.2.2.length ≤ 200
 m : ∀ x ∈ w.1, isNm x = true
 c : ∀ c ∈ w.2.1, c.1 ∈ w.1 ∧ c.2.2 ∈ w.1 ∧ isNm c.2.1 = true
 d : w.2.2.1 ∈ w.1
 r : ∀ x ∈ w.2.2.2, RuleOk w x
theorem rules_tail (w : DFWatch) (rl : ¬ 200 < w.2.2.2.length) (h0 : okT YFWatch w) (m : List (List UInt8 × Bool)) : ∃ r : Int × Unit, Ev (fun k => monitor_CheckWatch.c1 k m w.2.2.2 (w.2.2.2.length : Int) 0) r ∧ True := by
 refine Ev.rngR (σ := Unit) (Ty.dflt YFWatchRule) w.2.2.2 (by omega) (g := fun k _ i => monitor_CheckWatch.c1 k m w.2.2.2 (w.2.2.2.length : Int) i) (fun k _ i => monitor_CheckWatch.c1_eq _ _ _ _ _)
  (fun i _ => True) (fun r => True) (fun _ hs => ⟨_, Ev.now _, trivial⟩) (fun i x _ hi hc hget hgd hw hs next => ?_) 0 () (by omega) trivial
 simp only [Int.toNat_natCast, hgd, hw]
 have hx := h0.2.2.2.2.2 x hc
 have hl := hx.2.2.2.2.1
 exact Ev.rngR (σ := Unit) (Ty.dflt YAct) x.2.2.2.2 (by omega) (g := fun k _ j => monitor_CheckWatch.c2 k m w.2.2.2 (w.2.2.2.length : Int) (i : Int) x.2.2.2.2 (x.2.2.2.2.length : Int) j) (fun k _ j => monitor_CheckWatch.c2_eq _ _ _ _ _ _ _ _)
  (fun i _ => True) (fun r => True) (fun _ hs => by rw [hw]; exact next () trivial) (fun j y _ hj hcy hgety hgdy hwy hsy nexty => by
   simp only [Int.toNat_natCast, hgdy, hwy]
   obtain ⟨r, r1, _⟩ := nexty () trivial
   by_cases k1 : y.1 = 2
   ·by_cases k2 : mapGet .str .bool y.2.1 m false = true
    ·exact ⟨r, Ev.yes (decide_eq_true k1) (Ev.no (by simp [k2]) r1), trivial⟩
    ·exact ⟨(9, ()), Ev.yes (decide_eq_true k1) (Ev.yes (by simpa using k2) (Ev.now _)), trivial⟩
   ·by_cases k3 : y.1 = 3
    ·by_cases k2 : mapGet .str .bool y.2.1 m false = true
     ·exact ⟨r, Ev.no (by simpa using k1) (Ev.yes (decide_eq_true k3) (Ev.no (by simp [k2]) r1)), trivial⟩
     ·exact ⟨(9, ()), Ev.no (by simpa using k1) (Ev.yes (decide_eq_true k3) (Ev.yes (by simpa using k2) (Ev.now _))), trivial⟩
    ·exact ⟨r, Ev.no (by simpa using k1) (Ev.no (by simpa using k3) r1), trivial⟩) 0 () (by omega) trivial
theorem watch_ok (w : DFWatch) (h0 : okT YFWatch w) (h : Ev (fun k => monitor_CheckWatch.f k w) (0, ())) : WOk w := by
 obtain ⟨r, r1, r2⟩ := modes_ev w h0
 by_cases hr : r.1 = 0
 case neg =>
  have := h.unique (Ev.eq (fun k => monitor_CheckWatch.f_eq _ _) (Ev.bind r1 (Ev.yes (by simpa using hr) (Ev.now _))))
  exact absurd (congrArg Prod.fst this).symm hr
 have ok := r2 hr
 by_cases rl : 200 < w.2.2.2.length
 ·have := h.unique (Ev.eq (fun k => monitor_CheckWatch.f_eq _ _) (Ev.bind r1 (Ev.no (by simp [hr]) (Ev.yes (decide_eq_true (by omega)) (Ev.now _)))))
  cases this
 have rules : ∃ r : Int × Unit, Ev (fun k => monitor_CheckWatch.c0 k w.1 w.2.1 w.2.2.1 w.2.2.2 [] w.2.2.2 (w.2.2.2.length : Int) 0) r ∧ (r.1 = 0 → ∀ x ∈ w.2.2.2, RuleOk w x) := by
  refine Ev.rngR (σ := List (List UInt8 × Bool)) (Ty.dflt YFWatchRule) w.2.2.2 (by omega) (g := fun k m i => monitor_CheckWatch.c0 k w.1 w.2.1 w.2.2.1 w.2.2.2 m w.2.2.2 (w.2.2.2.length : Int) i) (fun k _ i => monitor_CheckWatch.c0_eq _ _ _ _ _ _ _ _ _)
   (fun i m => ∀ x ∈ w.2.2.2.take i, RuleOk w x) (fun r => r.1 = 0 → ∀ x ∈ w.2.2.2, RuleOk w x) (fun m hs => ?_) (fun i x m hi hc hg hget hw hs next => ?_) 0 [] (by omega) (fun x hx => by simp at hx)
  ·rw [List.take_length] at hs
   obtain ⟨c, c1, c2⟩ := rules_tail w rl h0 m
   exact ⟨c, c1, fun _ => hs⟩
  ·simp only [Int.toNat_natCast, hget, hw]
   have hx := h0.2.2.2.2.2 x hc
   obtain ⟨q, q1, q2⟩ := rule_ok w x ok.ml hx
   by_cases c1 : q.1 = 0
   case neg => exact ⟨(q.1, ()), Ev.bind q1 (Ev.yes (by simpa using c1) (Ev.now _)), fun h => absurd h c1⟩
   obtain ⟨r, r1, r2⟩ := next (mapPut .str .bool x.1 true m) (fun y hy => by
    rw [List.take_add_one, hg] at hy
    rcases List.mem_append.1 hy with hy | hy
    ·exact hs y hy
    ·simp at hy; subst hy; exact q2 c1)
   by_cases hi0 : i = 0
   ·subst hi0
    exact ⟨r, Ev.bind q1 (Ev.no (by simp [c1]) (Ev.no (by simp) r1)), r2⟩
   ·have hw1 : IntKind.wrap .i64 ((i : Int) - 1) = ((i - 1 : Nat) : Int) := by rw [w64 (by omega) (by omega)]; omega
    simp only [hw1, Int.toNat_natCast]
    by_cases l1 : lessS (w.2.2.2.getD (i - 1) (Ty.dflt YFWatchRule)).1 x.1 = true
    ·exact ⟨r, Ev.bind q1 (Ev.no (by simp [c1]) (Ev.yes (by simp; omega) (Ev.yes (by omega) (Ev.no (fun h => by rw [l1] at h; cases h) r1)))), r2⟩
    ·exact ⟨(8, ()), Ev.bind q1 (Ev.no (by simp [c1]) (Ev.yes (by simp; omega) (Ev.yes (by omega) (Ev.yes (by simpa using l1) (Ev.now _))))), fun h => by cases h⟩
 obtain ⟨s, s1, s2⟩ := rules
 have := h.unique (Ev.eq (fun k => monitor_CheckWatch.f_eq _ _) (Ev.bind r1 (Ev.no (by simp [hr]) (Ev.no (fun h => rl (by have := of_decide_eq_true h; omega)) s1))))
 have hs : s.1 = 0 := (congrArg Prod.fst this).symm
 refine ⟨ok.ml, ok.cl, by omega, fun x hx => ?_, fun c hc => ⟨(ok.ch c hc).1, (ok.ch c hc).2, ok.en c hc⟩, ok.md, s2 hs⟩
 obtain ⟨j, hj, rfl⟩ := List.getElem_of_mem hx
 have := ok.mn j hj
 rw [getD_nat _ _ _ hj] at this
 exact this
end Go.Proofs.YtadhpgecilhgnaaDoor.Pure

-- YtadhpgecilhgnaaDoorP18
set_option linter.unusedVariables false
set_option linter.unusedSimpArgs false
namespace Go.Proofs.YtadhpgecilhgnaaDoor.Pure
open Go Go.Proofs.YtadhpgecilhgnaaDoor.A

theorem ln2 (a b : S) : lnB [a, b] = (a ++ 32 :: b) ++ [10] := rfl
theorem ln4 (a b c d : S) : lnB [a, b, c, d] = (a ++ 32 :: (b ++ 32 :: (c ++ 32 :: d))) ++ [10] := rfl
theorem ln5 (a b c d e : S) : lnB [a, b, c, d, e] = (a ++ 32 :: (b ++ 32 :: (c ++ 32 :: (d ++ 32 :: e)))) ++ [10] := rfl
theorem modesT_app : ∀ a b : List S, modesT (a ++ b) = modesT a ++ modesT b
 | [], b => rfl
 | x :: a, b => by rw [List.cons_append, modesT, modesT, modesT_app a b, List.append_assoc]
theorem changesT_app : ∀ a b : List DModeChange, changesT (a ++ b) = changesT a ++ changesT b
 | [], b => rfl
 | x :: a, b => by rw [List.cons_append, changesT, changesT, changesT_app a b, List.append_assoc]
theorem actsT_app : ∀ a b : List DAct, actsT (a ++ b) = actsT a ++ actsT b
 | [], b => rfl
 | x :: a, b => by rw [List.cons_append, actsT, actsT, actsT_app a b, List.append_assoc]
theorem rulesT_app : ∀ a b : List DFWatchRule, rulesT (a ++ b) = rulesT a ++ rulesT b
 | [], b => rfl
 | x :: a, b => by rw [List.cons_append, rulesT, rulesT, rulesT_app a b, List.append_assoc]
theorem take_next {α : Type} {l : List α} {i : Nat} (z : α) (h : i < l.length) : l.take (i + 1) = l.take i ++ [l.getD i z] := by
 rw [List.take_add_one, List.getElem?_eq_getElem h, getD_nat _ _ _ h]
 rfl
theorem verbM_len (a : DAct) : (verbM a).length ≤ 10 := by
 unfold verbM
 (repeat' split) <;> decide
theorem modesT_len : ∀ l : List S, (∀ x ∈ l, x.length ≤ 40) → (modesT l).length ≤ 300 * l.length
 | [], _ => Nat.zero_le _
 | x :: l, h => by
  have h1 := modesT_len l fun y hy => h y (List.mem_cons_of_mem _ hy)
  have h2 := h x (List.mem_cons_self ..)
  rw [modesT, ln2]
  simp [sMode]
  omega
structure ChLen (c : DModeChange) : Prop where
 a : c.1.length ≤ 40
 b : c.2.1.length ≤ 40
 c : c.2.2.length ≤ 40
theorem changesT_len : ∀ l : List DModeChange, (∀ x ∈ l, ChLen x) → (changesT l).length ≤ 300 * l.length
 | [], _ => Nat.zero_le _
 | x :: l, h => by
  have h1 := changesT_len l fun y hy => h y (List.mem_cons_of_mem _ hy)
  obtain ⟨h2, h3, h4⟩ := h x (List.mem_cons_self ..)
  rw [changesT, ln4]
  simp [sChange]
  omega
theorem actsT_len : ∀ l : List DAct, (∀ x ∈ l, x.2.1.length ≤ 40) → (actsT l).length ≤ 300 * l.length
 | [], _ => Nat.zero_le _
 | x :: l, h => by
  have h1 := actsT_len l fun y hy => h y (List.mem_cons_of_mem _ hy)
  have h2 := h x (List.mem_cons_self ..)
  have h3 := verbM_len x
  rw [actsT, ln2]
  simp
  omega
structure RuLen (x : DFWatchRule) : Prop where
 a : x.1.length ≤ 40
 b : x.2.1.length ≤ 40
 c : x.2.2.1.length ≤ 40
 l : x.2.2.2.2.length ≤ 10
 d : ∀ a ∈ x.2.2.2.2, a.2.1.length ≤ 40
def modeW (x : DFWatchRule) : S := if x.2.2.1 = [] then sStar else x.2.2.1
def kindW (x : DFWatchRule) : S := if x.2.2.2.1 = true then sOnce else sAlways
theorem modeW_len {x : DFWatchRule} (h : RuLen x) : (modeW x).length ≤ 40 := by
 unfold modeW
 split
 ·decide
 ·exact h.c
theorem kindW_len (x : DFWatchRule) : (kindW x).length ≤ 10 := by
 unfold kindW
 split <;> decide
def headW (x : DFWatchRule) : S := lnB [sRule, x.1, x.2.1, modeW x, kindW x]
theorem headW_len {x : DFWatchRule} (h : RuLen x) : (headW x).length ≤ 300 := by
 obtain ⟨h1, h2, h3, h4, h5⟩ := h
 have h6 := modeW_len ⟨h1, h2, h3, h4, h5⟩
 have h7 := kindW_len x
 unfold headW
 rw [ln5]
 simp [sRule]
 omega
theorem ruleT_len {x : DFWatchRule} (h : RuLen x) : (ruleT x).length ≤ 3300 := by
 have h1 := headW_len h
 have h2 := actsT_len _ h.d
 have h3 := h.l
 show (headW x ++ actsT x.2.2.2.2).length ≤ 3300
 rw [List.length_append]
 omega
theorem rulesT_len : ∀ l : List DFWatchRule, (∀ x ∈ l, RuLen x) → (rulesT l).length ≤ 3300 * l.length
 | [], _ => Nat.zero_le _
 | x :: l, h => by
  have h1 := rulesT_len l fun y hy => h y (List.mem_cons_of_mem _ hy)
  have h2 := ruleT_len (h x (List.mem_cons_self ..))
  rw [rulesT]
  simp
  omega
theorem WOk.ch {w : DFWatch} (h : WOk w) : ∀ x ∈ w.2.1, ChLen x := fun x hx =>
 ⟨nm_len (h.m _ (h.c x hx).1), nm_len (h.c x hx).2.2, nm_len (h.m _ (h.c x hx).2.1)⟩
theorem WOk.mo {w : DFWatch} (h : WOk w) : ∀ x ∈ w.1, x.length ≤ 40 := fun x hx => nm_len (h.m x hx)
theorem RuleOk.acts {w : DFWatch} {x : DFWatchRule} (h : RuleOk w x) : ∀ a ∈ x.2.2.2.2, ActOk a := fun a ha => by
 obtain ⟨j, hj, rfl⟩ := List.getElem_of_mem ha
 have := h.ac j hj
 rw [getD_nat _ _ _ hj] at this
 exact this
theorem WOk.ru {w : DFWatch} (h : WOk w) : ∀ x ∈ w.2.2.2, RuLen x := fun x hx => by
 have r := h.r x hx
 refine ⟨nm_len r.n1, nm_len r.n2, ?_, r.al, fun a ha => nm_len (r.acts a ha).2.1⟩
 rcases r.md with e | e
 ·rw [e]; exact Nat.zero_le _
 ·exact h.mo _ e
def preT (w : DFWatch) : S := modesT w.1 ++ changesT w.2.1 ++ lnB [sBegin, w.2.2.1]
theorem textM_pre (w : DFWatch) : textM w = preT w ++ rulesT w.2.2.2 := by unfold textM preT; simp [List.append_assoc]
theorem preT_len {w : DFWatch} (h : WOk w) : (preT w).length ≤ 200000 := by
 have h1 := modesT_len _ h.mo
 have h2 := changesT_len _ h.ch
 have h3 := h.mo _ h.d
 have h4 := h.ml
 have h5 := h.cl
 unfold preT
 rw [ln2]
 simp [sBegin]
 omega
theorem textM_len {w : DFWatch} (h : WOk w) : (textM w).length ≤ 1000000 := by
 have h1 := preT_len h
 have h2 := rulesT_len _ h.ru
 have h3 := h.rl
 rw [textM_pre, List.length_append]
 omega
theorem take_all {α : Type} {P : α → Prop} {l : List α} (h : ∀ x ∈ l, P x) (i : Nat) : ∀ x ∈ l.take i, P x := fun x hx => h x (List.mem_of_mem_take hx)
theorem join_eq : ∀ l : List S, Lib.join l [32] = joinB l
 | [] => rfl
 | [x] => Lib.join_one x _
 | x :: y :: l => by
  have h := join_eq (y :: l)
  rw [Lib.join_cons] at h
  rw [Lib.join_cons]
  show x ++ Lib.joinTail [32] (y :: l) = x ++ 32 :: joinB (y :: l)
  rw [← h]
  rfl
theorem line_ev2 (b : S) (l : List S) (h : (joinB l).length ≤ 1000) (hl : l.length ≤ 1000) (hb : b.length ≤ 1000000000) : Ev (fun k => monitor_Text_1.f k b l) (b ++ lnB l) := by
 refine Ev.eq (fun k => ?_) (Ev.now _)
 rw [monitor_Text_1.f_eq]
 have h1 : strings_Join.f k l [32] = some (joinB l, ()) := by
  unfold strings_Join.f
  rw [join_eq, if_pos ⟨by omega, by omega⟩]
 have h2 : wsF b (joinB l) = some (b ++ joinB l) := if_pos (by omega)
 have h3 : wbF (b ++ joinB l) 10 = some ((b ++ joinB l) ++ [10]) := if_pos ⟨by rw [List.length_append]; omega, by omega, by omega⟩
 rw [h1, Option.bind_some, h2, Option.bind_some, h3, Option.bind_some]
 show some ((b ++ joinB l) ++ [10]) = some (b ++ (joinB l ++ [10]))
 rw [List.append_assoc]
theorem joinB_lt (l : List S) : (joinB l).length ≤ (lnB l).length := by unfold lnB; simp
end Go.Proofs.YtadhpgecilhgnaaDoor.Pure

-- YtadhpgecilhgnaaDoorP19
set_option linter.unusedVariables false
set_option linter.unusedSimpArgs false
namespace Go.Proofs.YtadhpgecilhgnaaDoor.Pure
open Go Go.Proofs.YtadhpgecilhgnaaDoor.A

def textR (w : DFWatch) : S × Int × Unit := if 200000 < (textM w).length then ([], (2, ())) else (textM w, (0, ()))
theorem modesT_next {l : List S} {i : Nat} (h : i < l.length) : modesT (l.take (i + 1)) = modesT (l.take i) ++ lnB [sMode, l.getD i []] := by
 rw [take_next [] h, modesT_app]
 show _ ++ (_ ++ []) = _
 rw [List.append_nil]
theorem changesT_next {l : List DModeChange} {i : Nat} (h : i < l.length) : changesT (l.take (i + 1)) = changesT (l.take i) ++ lnB [sChange, (l.getD i (Ty.dflt YModeChange)).1, (l.getD i (Ty.dflt YModeChange)).2.1, (l.getD i (Ty.dflt YModeChange)).2.2] := by
 rw [take_next (Ty.dflt YModeChange) h, changesT_app]
 show _ ++ (_ ++ []) = _
 rw [List.append_nil]
theorem actsT_next {l : List DAct} {i : Nat} (h : i < l.length) : actsT (l.take (i + 1)) = actsT (l.take i) ++ lnB [verbM (l.getD i (Ty.dflt YAct)), (l.getD i (Ty.dflt YAct)).2.1] := by
 rw [take_next (Ty.dflt YAct) h, actsT_app]
 show _ ++ (_ ++ []) = _
 rw [List.append_nil]
theorem rulesT_next {l : List DFWatchRule} {i : Nat} (h : i < l.length) : rulesT (l.take (i + 1)) = rulesT (l.take i) ++ (headW (l.getD i (Ty.dflt YFWatchRule)) ++ actsT (l.getD i (Ty.dflt YFWatchRule)).2.2.2.2) := by
 rw [take_next (Ty.dflt YFWatchRule) h, rulesT_app]
 show _ ++ ((_ ++ _) ++ []) = _
 rw [List.append_nil]
 rfl
theorem verb_ev (a : DAct) (k : Nat) : monitor_verb.f k a = some (verbM a, ()) := by
 rw [monitor_verb.f_eq]
 unfold verbM
 simp only [decide_eq_true_eq]
 (repeat' split) <;> rfl
theorem inv_mode {x : S} (h : x.length ≤ 40) : (joinB [sMode, x]).length ≤ 1000 := by
 have : (joinB [sMode, x]).length ≤ (lnB [sMode, x]).length := joinB_lt _
 rw [ln2] at this
 simp [sMode] at this
 simp only [sMode]
 omega
theorem mrule_ev {L : List DFWatchRule} {x : DFWatchRule} {p : S} {i : Nat} {r : S × Int × Unit} (hx : RuLen x) (hpl : p.length ≤ 1000000) (hrl : L.length ≤ 200) (hi : i < L.length) (next : Ev (fun k => monitor_Text.c2 k (p ++ (headW x ++ actsT x.2.2.2.2)) L (L.length : Int) ((i + 1 : Nat) : Int)) r) :
 Ev (fun k => if (decide ((x.2.2.1 : List UInt8) = [])) = true then monitor_Text.c3 k p x.1 x.2.1 x.2.2.1 x.2.2.2.1 x.2.2.2.2 [42] [97, 108, 119, 97, 121, 115] L (L.length : Int) (i : Int) else monitor_Text.c3 k p x.1 x.2.1 x.2.2.1 x.2.2.2.1 x.2.2.2.2 x.2.2.1 [97, 108, 119, 97, 121, 115] L (L.length : Int) (i : Int)) r := by
 rw [← List.append_assoc] at next
 -- the acts
 have acts : Ev (fun k => monitor_Text.c5 k (p ++ headW x) L (L.length : Int) (i : Int) x.2.2.2.2 (x.2.2.2.2.length : Int) 0) r := by
  have hh := headW_len hx
  have hal := hx.l
  rw [← List.append_nil (p ++ headW x)]
  refine up (g := fun k j => monitor_Text.c5 k (p ++ headW x ++ actsT (x.2.2.2.2.take j.toNat)) L (L.length : Int) (i : Int) x.2.2.2.2 (x.2.2.2.2.length : Int) j) x.2.2.2.2.length (fun j hj nextj => ?_) ?_
  ·have hb := actsT_len _ (take_all hx.d j)
   have ht : (x.2.2.2.2.take j).length ≤ x.2.2.2.2.length := List.length_take_le' ..
   have hy := hx.d _ (getD_mem (z := Ty.dflt YAct) hj)
   simp only [Int.toNat_natCast] at nextj ⊢
   rw [actsT_next hj, ← List.append_assoc] at nextj
   refine .step (fun k => monitor_Text.c5_eq _ _ _ _ _ _ _ _) (.yes (decide_eq_true (by omega)) (.yes ⟨by omega, by omega⟩ ?_))
   simp only [Int.toNat_natCast]
   rw [w64 (by omega) (by omega)]
   generalize x.2.2.2.2.getD j (Ty.dflt YAct) = a at hy nextj ⊢
   have hv := verbM_len a
   refine .bind (.eq (verb_ev a) (Ev.now _)) (.bind (line_ev2 _ [verbM a, a.2.1] ?_ (by simp) (by simp only [List.length_append]; omega)) nextj)
   refine Nat.le_trans (joinB_lt _) ?_
   rw [ln2]
   simp
   omega
  ·simp only [Int.toNat_natCast, List.take_length]
   refine .step (fun k => monitor_Text.c5_eq _ _ _ _ _ _ _ _) (.no (dn (by omega)) ?_)
   rw [w64 (by omega) (by omega)]
   exact next
 have head : ∀ m kd : S, m = modeW x → kd = kindW x → Ev (fun k => monitor_Text.c4 k p x.1 x.2.1 x.2.2.1 x.2.2.2.1 x.2.2.2.2 m kd L (L.length : Int) (i : Int)) r := by
  rintro m kd rfl rfl
  refine .step (fun k => monitor_Text.c4_eq _ _ _ _ _ _ _ _ _ _ _ _) (.bind (line_ev2 _ [sRule, x.1, x.2.1, modeW x, kindW x] ?_ (by simp) (by omega)) acts)
  exact Nat.le_trans (joinB_lt _) (Nat.le_trans (headW_len hx) (by decide))
 have kinds : ∀ m : S, m = modeW x → Ev (fun k => monitor_Text.c3 k p x.1 x.2.1 x.2.2.1 x.2.2.2.1 x.2.2.2.2 m [97, 108, 119, 97, 121, 115] L (L.length : Int) (i : Int)) r := fun m hm => by
  refine .step (fun k => monitor_Text.c3_eq _ _ _ _ _ _ _ _ _ _ _ _) ?_
  by_cases ho : x.2.2.2.1 = true
  ·exact .yes ho (head _ _ hm (by unfold kindW; rw [if_pos ho]; rfl))
  ·exact .no ho (head _ _ hm (by unfold kindW; rw [if_neg ho]; rfl))
 by_cases hmd : x.2.2.1 = []
 ·exact .yes (decide_eq_true hmd) (kinds _ (by unfold modeW; rw [if_pos hmd]; rfl))
 ·exact .no (by simpa using hmd) (kinds _ (by unfold modeW; rw [if_neg hmd]))
theorem mtext_ev (w : DFWatch) (h : WOk w) (hc : Ev (fun k => monitor_CheckWatch.f k w) (0, ())) : Ev (fun k => monitor_Text.f k w) (textR w) := by
 refine .eq (fun k => monitor_Text.f_eq _ _) (.bind hc (.no (by simp) ?_))
 -- modes
 refine up (g := fun k i => monitor_Text.c0 k w.1 w.2.1 w.2.2.1 w.2.2.2 (modesT (w.1.take i.toNat)) w.1 (w.1.length : Int) i) w.1.length (fun i hi next => ?_) ?_
 ·have hb := modesT_len _ (take_all h.mo i)
  have hl := h.ml
  have hx := h.mo _ (getD_mem (z := []) hi)
  have ht : (w.1.take i).length ≤ w.1.length := List.length_take_le' ..
  simp only [Int.toNat_natCast] at next ⊢
  rw [modesT_next hi] at next
  refine .step (fun k => monitor_Text.c0_eq _ _ _ _ _ _ _ _ _) (.yes (decide_eq_true (by omega)) (.yes ⟨by omega, by omega⟩ ?_))
  simp only [Int.toNat_natCast]
  rw [w64 (by omega) (by omega)]
  exact .bind (line_ev2 _ [sMode, w.1.getD i []] (inv_mode hx) (by simp) (by omega)) next
 simp only [Int.toNat_natCast, List.take_length]
 refine .step (fun k => monitor_Text.c0_eq _ _ _ _ _ _ _ _ _) (.no (dn (by omega)) ?_)
 -- changes
 have hm := modesT_len _ h.mo
 rw [← List.append_nil (modesT w.1)]
 refine up (g := fun k i => monitor_Text.c1 k w.1 w.2.1 w.2.2.1 w.2.2.2 (modesT w.1 ++ changesT (w.2.1.take i.toNat)) w.2.1 (w.2.1.length : Int) i) w.2.1.length (fun i hi next => ?_) ?_
 ·have hb := changesT_len _ (take_all h.ch i)
  have hl := h.ml
  have hl2 := h.cl
  obtain ⟨x1, x2, x3⟩ := h.ch _ (getD_mem (z := Ty.dflt YModeChange) hi)
  have ht : (w.2.1.take i).length ≤ w.2.1.length := List.length_take_le' ..
  simp only [Int.toNat_natCast] at next ⊢
  rw [changesT_next hi, ← List.append_assoc] at next
  refine .step (fun k => monitor_Text.c1_eq _ _ _ _ _ _ _ _ _) (.yes (decide_eq_true (by omega)) (.yes ⟨by omega, by omega⟩ ?_))
  simp only [Int.toNat_natCast]
  rw [w64 (by omega) (by omega)]
  generalize w.2.1.getD i (Ty.dflt YModeChange) = x at x1 x2 x3 next ⊢
  refine .bind (line_ev2 _ [sChange, x.1, x.2.1, x.2.2] ?_ (by simp) (by rw [List.length_append]; omega)) next
  refine Nat.le_trans (joinB_lt _) ?_
  rw [ln4]
  simp [sChange]
  omega
 simp only [Int.toNat_natCast, List.take_length]
 refine .step (fun k => monitor_Text.c1_eq _ _ _ _ _ _ _ _ _) (.no (dn (by omega)) ?_)
 have hch := changesT_len _ h.ch
 have hml := h.ml
 have hcl := h.cl
 have hd := h.mo _ h.d
 refine .bind (line_ev2 _ [sBegin, w.2.2.1] ?_ (by simp) (by rw [List.length_append]; omega)) ?_
 ·refine Nat.le_trans (joinB_lt _) ?_
  rw [ln2]
  simp [sBegin]
  omega
 have hp := preT_len h
 show Ev (fun k => monitor_Text.c2 k (preT w) w.2.2.2 (w.2.2.2.length : Int) 0) (textR w)
 have hrl := h.rl
 rw [← List.append_nil (preT w)]
 refine up (g := fun k i => monitor_Text.c2 k (preT w ++ rulesT (w.2.2.2.take i.toNat)) w.2.2.2 (w.2.2.2.length : Int) i) w.2.2.2.length (fun i hi next => ?_) ?_
 ·have hb := rulesT_len _ (take_all h.ru i)
  have hx := h.ru _ (getD_mem (z := Ty.dflt YFWatchRule) hi)
  have ht : (w.2.2.2.take i).length ≤ w.2.2.2.length := List.length_take_le' ..
  simp only [Int.toNat_natCast] at next ⊢
  rw [rulesT_next hi, ← List.append_assoc] at next
  refine .step (fun k => monitor_Text.c2_eq _ _ _ _ _) (.yes (decide_eq_true (by omega)) (.yes ⟨by omega, by omega⟩ ?_))
  simp only [Int.toNat_natCast]
  exact mrule_ev hx (by rw [List.length_append]; omega) (by omega) (by omega) next
 simp only [Int.toNat_natCast, List.take_length]
 rw [← textM_pre]
 have htl := textM_len h
 have hne : textM w ≠ [] := by
  rw [textM_pre]
  unfold preT
  rw [ln2]
  simp
 refine .step (fun k => monitor_Text.c2_eq _ _ _ _ _) (.no (dn (by omega)) ?_)
 refine .bind (.eq (fun k => show lnF (textM w) = some (textM w) from if_pos (by omega)) (Ev.now _)) ?_
 unfold textR
 by_cases hL : 200000 < (textM w).length
 ·rw [if_pos hL]
  exact .yes (decide_eq_true (by omega)) (Ev.now _)
 ·rw [if_neg hL]
  exact .no (dn (by omega)) (.bind (.eq (fun k => show stF (textM w) = some (textM w) from if_pos ⟨hne, by omega⟩) (Ev.now _)) (Ev.now _))
end Go.Proofs.YtadhpgecilhgnaaDoor.Pure

-- YtadhpgecilhgnaaDoorP20
set_option linter.unusedVariables false
set_option linter.unusedSimpArgs false
namespace Go.Proofs.YtadhpgecilhgnaaDoor.Pure
open Go Go.Proofs.YtadhpgecilhgnaaDoor.A

theorem rmode_eq (x : S) : ([109, 111, 100, 101, 32] ++ x) ++ [10] = lnB [sMode, x] := rfl
theorem rbegin_eq (x : S) : ([98, 101, 103, 105, 110, 32] ++ x) ++ [10] = lnB [sBegin, x] := rfl
theorem rchange_eq (a b c : S) : ((((([99, 104, 97, 110, 103, 101, 32] ++ a) ++ [32]) ++ b) ++ [32]) ++ c) ++ [10] = lnB [sChange, a, b, c] := by
 rw [ln4]
 simp [sChange]
theorem rrule_eq (a b c d : S) : ((((((([114, 117, 108, 101, 32] ++ a) ++ [32]) ++ b) ++ [32]) ++ c) ++ [32]) ++ d) ++ [10] = lnB [sRule, a, b, c, d] := by
 rw [ln5]
 simp [sRule]
theorem ract_eq (a b : S) : ((a ++ [32]) ++ b) ++ [10] = lnB [a, b] := by
 rw [ln2]
 simp
theorem rverb_ev (a : DAct) (k : Nat) : perigeeref8_actWord.f k a = some (verbM a, ()) := by
 rw [perigeeref8_actWord.f_eq]
 unfold verbM
 simp only [decide_eq_true_eq]
 (repeat' split) <;> rfl
theorem rrule2_ev {w : DFWatch} {x : DFWatchRule} {p : S} {i : Nat} {r : S × Int × Unit} (hx : RuLen x) (hpl : p.length ≤ 1000000) (hrl : w.2.2.2.length ≤ 200) (hi : i < w.2.2.2.length) (next : Ev (fun k => perigeeref8_Text.c2 k w.1 w.2.1 w.2.2.1 w.2.2.2 (p ++ (headW x ++ actsT x.2.2.2.2)) ((i + 1 : Nat) : Int)) r) :
 Ev (fun k => if (decide ((x.2.2.1 : List UInt8) = [])) = true then perigeeref8_Text.c3 k w.1 w.2.1 w.2.2.1 w.2.2.2 p (i : Int) x.1 x.2.1 x.2.2.1 x.2.2.2.1 x.2.2.2.2 [42] [97, 108, 119, 97, 121, 115] else perigeeref8_Text.c3 k w.1 w.2.1 w.2.2.1 w.2.2.2 p (i : Int) x.1 x.2.1 x.2.2.1 x.2.2.2.1 x.2.2.2.2 x.2.2.1 [97, 108, 119, 97, 121, 115]) r := by
 rw [← List.append_assoc] at next
 -- the acts
 have acts : Ev (fun k => perigeeref8_Text.c5 k w.1 w.2.1 w.2.2.1 w.2.2.2 (p ++ headW x) (i : Int) x.1 x.2.1 x.2.2.1 x.2.2.2.1 x.2.2.2.2 0) r := by
  have hh := headW_len hx
  have hal := hx.l
  rw [← List.append_nil (p ++ headW x)]
  refine up (g := fun k j => perigeeref8_Text.c5 k w.1 w.2.1 w.2.2.1 w.2.2.2 (p ++ headW x ++ actsT (x.2.2.2.2.take j.toNat)) (i : Int) x.1 x.2.1 x.2.2.1 x.2.2.2.1 x.2.2.2.2 j) x.2.2.2.2.length (fun j hj nextj => ?_) ?_
  ·have hb := actsT_len _ (take_all hx.d j)
   have ht : (x.2.2.2.2.take j).length ≤ x.2.2.2.2.length := List.length_take_le' ..
   have hy := hx.d _ (getD_mem (z := Ty.dflt YAct) hj)
   simp only [Int.toNat_natCast] at nextj ⊢
   rw [actsT_next hj, ← List.append_assoc] at nextj
   refine .step (fun k => perigeeref8_Text.c5_eq _ _ _ _ _ _ _ _ _ _ _ _ _) (.yes (decide_eq_true (by omega)) (.yes ⟨by omega, by omega⟩ ?_))
   simp only [Int.toNat_natCast]
   rw [w64 (by omega) (by omega)]
   generalize x.2.2.2.2.getD j (Ty.dflt YAct) = a at hy nextj ⊢
   have hv := verbM_len a
   have hq : (p ++ headW x ++ actsT (x.2.2.2.2.take j)).length ≤ 2000000 := by simp only [List.length_append]; omega
   generalize p ++ headW x ++ actsT (x.2.2.2.2.take j) = q at nextj hq ⊢
   refine .bind (.eq (rverb_ev a) (Ev.now _)) (.yes (by simp only; omega) (.yes ⟨by omega, by omega⟩ (.yes ?_ (.yes ?_ (.yes ?_ ?_)))))
   ·simp; omega
   ·simp; omega
   ·simp; omega
   ·simp only [ract_eq]
    exact nextj
  ·simp only [Int.toNat_natCast, List.take_length]
   refine .step (fun k => perigeeref8_Text.c5_eq _ _ _ _ _ _ _ _ _ _ _ _ _) (.no (dn (by omega)) ?_)
   rw [w64 (by omega) (by omega)]
   exact next
 obtain ⟨x1, x2, x3, x4, x5⟩ := id hx
 have head : ∀ m kd : S, m = modeW x → kd = kindW x → Ev (fun k => perigeeref8_Text.c4 k w.1 w.2.1 w.2.2.1 w.2.2.2 p (i : Int) x.1 x.2.1 x.2.2.1 x.2.2.2.1 x.2.2.2.2 m kd) r := by
  intro m kd hm hk
  have y1 := modeW_len hx
  have y2 := kindW_len x
  rw [← hm] at y1
  rw [← hk] at y2
  have e : lnB [sRule, x.1, x.2.1, m, kd] = headW x := by rw [hm, hk]; rfl
  refine .step (fun k => perigeeref8_Text.c4_eq _ _ _ _ _ _ _ _ _ _ _ _ _ _) (.yes (by omega) (.yes (by simp; omega) (.yes (by simp; omega) (.yes (by simp; omega) (.yes (by simp; omega) (.yes (by simp; omega) (.yes (by simp; omega) (.yes (by simp; omega) (.yes (by simp; omega) ?_)))))))))
  simp only [rrule_eq, e]
  exact acts
 have kinds : ∀ m : S, m = modeW x → Ev (fun k => perigeeref8_Text.c3 k w.1 w.2.1 w.2.2.1 w.2.2.2 p (i : Int) x.1 x.2.1 x.2.2.1 x.2.2.2.1 x.2.2.2.2 m [97, 108, 119, 97, 121, 115]) r := fun m hm => by
  refine .step (fun k => perigeeref8_Text.c3_eq _ _ _ _ _ _ _ _ _ _ _ _ _ _) ?_
  by_cases ho : x.2.2.2.1 = true
  ·exact .yes ho (head _ _ hm (by unfold kindW; rw [if_pos ho]; rfl))
  ·exact .no ho (head _ _ hm (by unfold kindW; rw [if_neg ho]; rfl))
 by_cases hmd : x.2.2.1 = []
 ·exact .yes (decide_eq_true hmd) (kinds _ (by unfold modeW; rw [if_pos hmd]; rfl))
 ·exact .no (by simpa using hmd) (kinds _ (by unfold modeW; rw [if_neg hmd]))
theorem rtext_ev (w : DFWatch) (h : WOk w) (hc : Ev (fun k => perigeeref8_CheckWatch.f k w) (0, ())) : Ev (fun k => perigeeref8_Text.f k w) (textR w) := by
 refine .eq (fun k => perigeeref8_Text.f_eq _ _) (.bind hc (.no (by simp) ?_))
 -- modes
 refine up (g := fun k i => perigeeref8_Text.c0 k w.1 w.2.1 w.2.2.1 w.2.2.2 (modesT (w.1.take i.toNat)) i) w.1.length (fun i hi next => ?_) ?_
 ·have hb := modesT_len _ (take_all h.mo i)
  have hl := h.ml
  have hx := h.mo _ (getD_mem (z := []) hi)
  have ht : (w.1.take i).length ≤ w.1.length := List.length_take_le' ..
  simp only [Int.toNat_natCast] at next ⊢
  rw [modesT_next hi] at next
  refine .step (fun k => perigeeref8_Text.c0_eq _ _ _ _ _ _ _) (.yes (decide_eq_true (by omega)) (.yes ⟨by omega, by omega⟩ ?_))
  simp only [Int.toNat_natCast]
  rw [w64 (by omega) (by omega)]
  generalize w.1.getD i [] = x at hx next ⊢
  refine .yes (by omega) (.yes (by simp; omega) (.yes (by simp; omega) ?_))
  simp only [rmode_eq]
  exact next
 simp only [Int.toNat_natCast, List.take_length]
 refine .step (fun k => perigeeref8_Text.c0_eq _ _ _ _ _ _ _) (.no (dn (by omega)) ?_)
 -- changes
 have hm := modesT_len _ h.mo
 rw [← List.append_nil (modesT w.1)]
 refine up (g := fun k i => perigeeref8_Text.c1 k w.1 w.2.1 w.2.2.1 w.2.2.2 (modesT w.1 ++ changesT (w.2.1.take i.toNat)) i) w.2.1.length (fun i hi next => ?_) ?_
 ·have hb := changesT_len _ (take_all h.ch i)
  have hl := h.ml
  have hl2 := h.cl
  obtain ⟨x1, x2, x3⟩ := h.ch _ (getD_mem (z := Ty.dflt YModeChange) hi)
  have ht : (w.2.1.take i).length ≤ w.2.1.length := List.length_take_le' ..
  simp only [Int.toNat_natCast] at next ⊢
  rw [changesT_next hi, ← List.append_assoc] at next
  refine .step (fun k => perigeeref8_Text.c1_eq _ _ _ _ _ _ _) (.yes (decide_eq_true (by omega)) (.yes ⟨by omega, by omega⟩ ?_))
  simp only [Int.toNat_natCast]
  rw [w64 (by omega) (by omega)]
  generalize w.2.1.getD i (Ty.dflt YModeChange) = x at x1 x2 x3 next ⊢
  refine .yes (by omega) (.yes (by simp; omega) (.yes (by simp; omega) (.yes (by simp; omega) (.yes (by simp; omega) (.yes (by simp; omega) (.yes (by simp; omega) ?_))))))
  simp only [rchange_eq]
  exact next
 simp only [Int.toNat_natCast, List.take_length]
 refine .step (fun k => perigeeref8_Text.c1_eq _ _ _ _ _ _ _) (.no (dn (by omega)) ?_)
 have hch := changesT_len _ h.ch
 have hml := h.ml
 have hcl := h.cl
 have hd := h.mo _ h.d
 refine .yes (by omega) (.yes (by simp; omega) (.yes (by simp; omega) ?_))
 simp only [rbegin_eq]
 have hp := preT_len h
 show Ev (fun k => perigeeref8_Text.c2 k w.1 w.2.1 w.2.2.1 w.2.2.2 (preT w) 0) (textR w)
 have hrl := h.rl
 rw [← List.append_nil (preT w)]
 refine up (g := fun k i => perigeeref8_Text.c2 k w.1 w.2.1 w.2.2.1 w.2.2.2 (preT w ++ rulesT (w.2.2.2.take i.toNat)) i) w.2.2.2.length (fun i hi next => ?_) ?_
 ·have hb := rulesT_len _ (take_all h.ru i)
  have hx := h.ru _ (getD_mem (z := Ty.dflt YFWatchRule) hi)
  have ht : (w.2.2.2.take i).length ≤ w.2.2.2.length := List.length_take_le' ..
  simp only [Int.toNat_natCast] at next ⊢
  rw [rulesT_next hi, ← List.append_assoc] at next
  refine .step (fun k => perigeeref8_Text.c2_eq _ _ _ _ _ _ _) (.yes (decide_eq_true (by omega)) (.yes ⟨by omega, by omega⟩ ?_))
  simp only [Int.toNat_natCast]
  exact rrule2_ev hx (by rw [List.length_append]; omega) (by omega) (by omega) next
 simp only [Int.toNat_natCast, List.take_length]
 rw [← textM_pre]
 have htl := textM_len h
 refine .step (fun k => perigeeref8_Text.c2_eq _ _ _ _ _ _ _) (.no (dn (by omega)) ?_)
 unfold textR
 by_cases hL : 200000 < (textM w).length
 ·rw [if_pos hL]
  exact .yes (decide_eq_true (by omega)) (Ev.now _)
 ·rw [if_neg hL]
  exact .no (dn (by omega)) (Ev.now _)
theorem text_twin (w : DFWatch) (h0 : okT YFWatch w) : ∃ r : S × Int × Unit, Ev (fun k => monitor_Text.f k w) r ∧ Ev (fun k => perigeeref8_Text.f k w) r ∧ (r.2.1 = 0 → Ev (fun k => monitor_CheckWatch.f k w) (0, ()) ∧ WOk w ∧ r.1 = textM w ∧ (textM w).length ≤ 200000) := by
 obtain ⟨c, c1, c2⟩ := watch_twin w h0
 by_cases hc : c = 0
 ·subst hc
  have ok := watch_ok w h0 c1
  refine ⟨textR w, mtext_ev w ok c1, rtext_ev w ok c2, fun h => ⟨c1, ok, ?_⟩⟩
  unfold textR at h ⊢
  by_cases hL : 200000 < (textM w).length
  ·rw [if_pos hL] at h; cases h
  ·rw [if_neg hL]; exact ⟨rfl, by omega⟩
 ·refine ⟨([], (c, ())), .eq (fun k => monitor_Text.f_eq _ _) (.bind c1 (.yes (by simpa using hc) (Ev.now _))), .eq (fun k => perigeeref8_Text.f_eq _ _) (.bind c2 (.yes (by simpa using hc) (Ev.now _))), fun h => absurd h hc⟩
end Go.Proofs.YtadhpgecilhgnaaDoor.Pure

-- YtadhpgecilhgnaaDoorP21
set_option linter.unusedVariables false
set_option linter.unusedSimpArgs false
namespace Go.Proofs.YtadhpgecilhgnaaDoor.Pure
open Go Go.Proofs.YtadhpgecilhgnaaDoor.A

theorem mread_front (t : S) (hl : ¬ 200000 < (t.length : Int)) : ∃ q : Int × Dreader × Unit, RunSays (readM (splitB 10 t) 1 emptyW false) q ∧ ∀ r, Ev (fun k => if (decide (q.1 = 0)) = true then
 (if (!q.2.1.2) = true then ((strings_Count.f k t [10]).bind fun rr2 => monitor_Read.c0 k [] [] [] [] q.2.1.1.1 q.2.1.1.2.1 q.2.1.1.2.2.1 q.2.1.1.2.2.2 q.2.1.2 (IntKind.wrap .i64 (rr2.1 + 1)))
  else monitor_Read.c0 k [] [] [] [] q.2.1.1.1 q.2.1.1.2.1 q.2.1.1.2.2.1 q.2.1.1.2.2.2 q.2.1.2 q.1)
 else monitor_Read.c0 k [] [] [] [] q.2.1.1.1 q.2.1.1.2.1 q.2.1.1.2.2.1 q.2.1.1.2.2.2 q.2.1.2 q.1) r → Ev (fun k => monitor_Read.f k t) r := by
 have hs0 : SmallK 0 emptyW := ⟨Nat.le_refl _, Nat.le_refl _, Nat.le_refl _, fun x hx => by cases hx⟩
 obtain ⟨q, hq, sq⟩ := lines_loop t.length t emptyW false 0 1 (Nat.le_refl _) (by omega) hs0 (by omega)
 exact ⟨q, sq, fun r h => .eq (fun k => monitor_Read.f_eq _ _) (.no (dn hl) (.bind (.eq (fun k => kit_Lines.f_eq _ _ _) hq) h))⟩
theorem readM_pos : ∀ (l : List S) (n : Nat) (w : DWatch) (b : Bool) (e : Nat), readM l n w b = .error e → n ≤ e := by
 intro l
 induction l with
 | nil => intro n w b e h; cases h
 | cons x l ih =>
  intro n w b e h
  unfold readM at h
  split at h
  ·split at h <;> cases h
   exact Nat.le_refl _
  ·split at h
   ·cases h; exact Nat.le_refl _
   ·have := ih _ _ _ _ h; omega
theorem mread_bad (a b c d) (e : Bool) (n : Nat) (hn : 1 ≤ n) : Ev (fun k => monitor_Read.c0 k [] [] [] [] a b c d e (n : Int)) (noW, ((n : Int), (10, ()))) :=
 .step (fun k => monitor_Read.c0_eq _ _ _ _ _ _ _ _ _ _ _) (.yes (decide_eq_true (by omega)) (Ev.now _))
theorem mread_ok {t : S} {w : DFWatch} (hl : t.length ≤ 200000) (hm : readM (splitB 10 t) 1 emptyW false = .ok (w, true)) (hc : Ev (fun k => monitor_CheckWatch.f k w) (0, ())) : Ev (fun k => monitor_Read.f k t) (w, (0, (0, ()))) := by
 obtain ⟨q, sq, front⟩ := mread_front t (by omega)
 rw [hm] at sq
 have sq : q = (0, (w, true), ()) := sq
 subst sq
 refine front _ (.yes rfl (.no (by simp) (.step (fun k => monitor_Read.c0_eq _ _ _ _ _ _ _ _ _ _ _) (.no (by simp) (.bind (a := (0, ())) ?_ (.no (by simp) ?_))))))
 ·exact Ev.eq (fun k => congrArg (monitor_CheckWatch.f k) (thaw_eq w)) hc
 ·exact Ev.is (congrArg (fun z : DFWatch => ((z, (0, (0, ()))) : DFWatch × Int × Int × Unit)) (thaw_eq w))
theorem mread (t : S) : ∃ r : DFWatch × Int × Int × Unit, Ev (fun k => monitor_Read.f k t) r ∧ ((r.2.2.1 ≠ 0 ∧ r.1 = noW) ∨
 (t.length ≤ 200000 ∧ readM (splitB 10 t) 1 emptyW false = .ok (r.1, true) ∧ Ev (fun k => monitor_CheckWatch.f k r.1) (0, ()) ∧ okT YFWatch r.1 ∧ SmallK 200001 r.1 ∧ r.2.2.1 = 0)) := by
 by_cases hl : 200000 < (t.length : Int)
 ·exact ⟨_, .eq (fun k => monitor_Read.f_eq _ _) (.yes (decide_eq_true hl) (Ev.now _)), .inl ⟨by simp, rfl⟩⟩
 obtain ⟨q, sq, front⟩ := mread_front t hl
 have hcl : t.count 10 ≤ t.length := List.count_le_length
 cases hm : readM (splitB 10 t) 1 emptyW false with
 | error e =>
  rw [hm] at sq
  have he := readM_pos _ _ _ _ _ hm
  have sq : q.1 = (e : Int) := sq
  refine ⟨(noW, ((e : Int), (10, ()))), front _ (.no (dn (by omega)) ?_), .inl ⟨by simp, rfl⟩⟩
  rw [sq]
  exact mread_bad _ _ _ _ _ e he
 | ok x =>
  rw [hm] at sq
  have sq : q = (0, x, ()) := sq
  subst sq
  by_cases hx : x.2 = false
  ·refine ⟨(noW, (((0 + 1 + t.count 10 : Nat) : Int), (10, ()))), front _ (.yes rfl (.yes (by simp only [hx]; rfl) (.bind (.eq (fun k => count_fev (by omega) k) (Ev.now _)) ?_))), .inl ⟨by simp, rfl⟩⟩
   simp only
   rw [w64 (by omega) (by omega), show ((t.count 10 : Nat) : Int) + 1 = ((0 + 1 + t.count 10 : Nat) : Int) by omega]
   exact mread_bad _ _ _ _ _ _ (by omega)
  ·have hs0 : SmallK 0 emptyW := ⟨Nat.le_refl _, Nat.le_refl _, Nat.le_refl _, fun x hx => by cases hx⟩
   have hf0 : Fit emptyW := ⟨fun x hx => (by cases hx), fun x hx => (by cases hx), Nat.zero_le _, fun x hx => (by cases hx)⟩
   have hfit := readM_fit (splitB 10 t) 1 emptyW false 0 x (fun z hz => Nat.le_trans ((splitB_len 10 t).2 z hz) (by omega)) hf0 hs0 hm
   have hsm : SmallK 200001 x.1 := by
    have hk := hfit.2
    have hle : 0 + (splitB 10 t).length ≤ 200001 := by have := (splitB_len 10 t).1; omega
    exact ⟨Nat.le_trans hk.m hle, Nat.le_trans hk.c hle, Nat.le_trans hk.r hle, fun y hy => Nat.le_trans (hk.a y hy) hle⟩
   have hok : okT YFWatch x.1 := hfit.1.ok hsm
   obtain ⟨c, c1, _⟩ := watch_twin x.1 hok
   have hxt : x.2 = true := by simpa using hx
   have he : x = (x.1, true) := by rw [← hxt]
   by_cases hc : c = 0
   ·subst hc
    exact ⟨(x.1, (0, (0, ()))), mread_ok (by omega) (by rw [hm, ← he]) c1, .inr ⟨by omega, by rw [← he], c1, hok, hsm, rfl⟩⟩
   ·refine ⟨(noW, (0, (c, ()))), front _ (.yes rfl (.no (by simp [hxt]) (.step (fun k => monitor_Read.c0_eq _ _ _ _ _ _ _ _ _ _ _) (.no (by simp) (.bind (a := (c, ())) ?_ (.yes (by simp [hc]) (Ev.now _))))))), .inl ⟨hc, rfl⟩⟩
    exact Ev.eq (fun k => congrArg (monitor_CheckWatch.f k) (thaw_eq x.1)) c1
end Go.Proofs.YtadhpgecilhgnaaDoor.Pure

-- YtadhpgecilhgnaaDoorP22
set_option linter.unusedVariables false
set_option linter.unusedSimpArgs false
namespace Go.Proofs.YtadhpgecilhgnaaDoor.Pure
open Go Go.Proofs.YtadhpgecilhgnaaDoor.A

def jn (c : UInt8) : List S → S
 | [] => []
 | x :: l => if l = [] then x else x ++ c :: jn c l
def flatL : List S → S
 | [] => []
 | x :: l => (x ++ [10]) ++ flatL l
theorem jn_cons (c : UInt8) (x : S) {l : List S} (h : l ≠ []) : jn c (x :: l) = x ++ c :: jn c l := if_neg h
theorem joinB_jn : ∀ l : List S, joinB l = jn 32 l
 | [] => rfl
 | x :: l => by
  unfold joinB jn
  rw [joinB_jn l]
theorem jn_split (c : UInt8) : ∀ s : S, jn c (splitB c s) = s
 | [] => rfl
 | b :: l => by
  have ih := jn_split c l
  have hn := splitB_ne c l
  rw [splitB]
  split
  ·rename_i h
   rw [jn_cons _ _ hn, ih, h]
   rfl
  ·cases e : splitB c l with
   | nil => exact absurd e hn
   | cons y ys =>
    rw [e] at ih
    simp only
    by_cases hy : ys = []
    ·subst hy
     have ih : y = l := ih
     rw [ih]
     rfl
    ·rw [jn_cons _ _ hy] at ih ⊢
     rw [List.cons_append, ih]
theorem jn_flat : ∀ L : List S, jn 10 (L ++ [[]]) = flatL L
 | [] => rfl
 | x :: L => by
  rw [List.cons_append, jn_cons _ _ (by simp), jn_flat L]
  show x ++ 10 :: flatL L = (x ++ [10]) ++ flatL L
  simp
theorem actM_verb {v nm : S} {a : DAct} (e : actM v nm = some a) : verbM a = v ∧ a.2.1 = nm := by
 unfold actM at e
 split at e
 ·rename_i h; cases e; exact ⟨h.symm, rfl⟩
 split at e
 ·rename_i h; cases e; exact ⟨h.symm, rfl⟩
 split at e
 ·rename_i h; cases e; exact ⟨h.symm, rfl⟩
 split at e
 ·rename_i h; cases e; exact ⟨h.symm, rfl⟩
 split at e
 ·rename_i h; cases e; exact ⟨h.symm, rfl⟩
 ·cases e
theorem addA_snoc (R : List DWatchRule) (x : DWatchRule) (a : DAct) : addA (R ++ [x]) a = R ++ [(x.1, x.2.1, x.2.2.1, x.2.2.2.1, x.2.2.2.2 ++ [a])] := by
 have hl : (R ++ [x]).length - 1 = R.length := by simp
 have hg : (R ++ [x]).getD R.length (Ty.dflt YWatchRule) = x := by
  rw [List.getD_eq_getElem?_getD, List.getElem?_append_right (Nat.le_refl _), Nat.sub_self]
  rfl
 unfold addA
 simp only
 rw [hl, hg, List.set_append_right _ _ (Nat.le_refl _), Nat.sub_self]
 rfl
def stT (w : DFWatch) (b : Bool) : S := modesT w.1 ++ (changesT w.2.1 ++ ((if b = true then lnB [sBegin, w.2.2.1] else []) ++ rulesT w.2.2.2))
def BInv (w : DWatch) (b : Bool) : Prop := b = false → w.2.2.2 = []
theorem two {α : Type} {l : List α} (h : l.length = 2) : ∃ a b, l = [a, b] := by
 match l, h with
 | [a, b], _ => exact ⟨a, b, rfl⟩
theorem four {α : Type} {l : List α} (h : l.length = 4) : ∃ a b c d, l = [a, b, c, d] := by
 match l, h with
 | [a, b, c, d], _ => exact ⟨a, b, c, d, rfl⟩
theorem five {α : Type} {l : List α} (h : l.length = 5) : ∃ a b c d e, l = [a, b, c, d, e] := by
 match l, h with
 | [a, b, c, d, e], _ => exact ⟨a, b, c, d, e, rfl⟩
theorem stepM_text {w : DWatch} {b : Bool} {l : List S} {y : DWatch × Bool} (hw : l.all okW = true) (hi : BInv w b) (e : stepM w b l = some y) : stT y.1 y.2 = stT w b ++ lnB l ∧ BInv y.1 y.2 := by
 obtain ⟨M, C, D, R⟩ := w
 have hok : ∀ x ∈ l, okW x = true := List.all_eq_true.1 hw
 unfold stepM at e
 split at e
 ·rename_i h2
  obtain ⟨u, v, rfl⟩ := two h2
  simp only [List.getD_cons_zero, List.getD_cons_succ] at e
  split at e
  ·rename_i hu
   subst hu
   split at e
   ·rename_i hb
    obtain ⟨rfl, hC⟩ := hb
    have hC : C = [] := hC
    subst hC
    have hR : R = [] := hi rfl
    subst hR
    cases e
    refine ⟨?_, hi⟩
    show modesT (M ++ [v]) ++ ([] ++ ([] ++ [])) = (modesT M ++ ([] ++ ([] ++ []))) ++ lnB [sMode, v]
    rw [modesT_app]
    simp [modesT]
   ·cases e
  ·split at e
   ·rename_i hu
    subst hu
    split at e
    ·rename_i hb
     subst hb
     have hR : R = [] := hi rfl
     subst hR
     cases e
     refine ⟨?_, fun h => by cases h⟩
     show modesT M ++ (changesT C ++ (lnB [sBegin, v] ++ [])) = (modesT M ++ (changesT C ++ ([] ++ []))) ++ lnB [sBegin, v]
     simp
    ·cases e
   ·split at e
    ·cases e
    ·rename_i hR
     have hR : R ≠ [] := hR
     split at e
     ·rename_i a ha
      obtain ⟨h1, h2⟩ := actM_verb ha
      cases e
      obtain ⟨R', x, rfl⟩ : ∃ R' x, R = R' ++ [x] := ⟨R.dropLast, R.getLast hR, (List.dropLast_concat_getLast hR).symm⟩
      have hbt : b = true := by
       cases b with
       | true => rfl
       | false => exact absurd (hi rfl) hR
      subst hbt
      refine ⟨?_, fun h => by cases h⟩
      show modesT M ++ (changesT C ++ (lnB [sBegin, D] ++ rulesT (addA (R' ++ [x]) a))) = (modesT M ++ (changesT C ++ (lnB [sBegin, D] ++ rulesT (R' ++ [x])))) ++ lnB [u, v]
      rw [addA_snoc, rulesT_app, rulesT_app]
      show modesT M ++ (changesT C ++ (lnB [sBegin, D] ++ (rulesT R' ++ ((headW x ++ actsT (x.2.2.2.2 ++ [a])) ++ [])))) = (modesT M ++ (changesT C ++ (lnB [sBegin, D] ++ (rulesT R' ++ ((headW x ++ actsT x.2.2.2.2) ++ []))))) ++ lnB [u, v]
      rw [actsT_app, ← h1, ← h2]
      simp [actsT]
     ·cases e
 ·split at e
  ·rename_i h4
   obtain ⟨u, v, z, t, rfl⟩ := four h4
   simp only [List.getD_cons_zero, List.getD_cons_succ] at e
   split at e
   ·rename_i hb
    obtain ⟨rfl, rfl⟩ := hb
    have hR : R = [] := hi rfl
    subst hR
    cases e
    refine ⟨?_, hi⟩
    show modesT M ++ (changesT (C ++ [(v, z, t)]) ++ ([] ++ [])) = (modesT M ++ (changesT C ++ ([] ++ []))) ++ lnB [sChange, v, z, t]
    rw [changesT_app]
    simp [changesT]
   ·cases e
  ·split at e
   ·rename_i h5
    obtain ⟨u, v, z, t, s, rfl⟩ := five h5
    simp only [List.getD_cons_zero, List.getD_cons_succ] at e
    split at e
    ·rename_i hb
     obtain ⟨rfl, rfl, hs⟩ := hb
     cases e
     refine ⟨?_, fun h => by cases h⟩
     show modesT M ++ (changesT C ++ (lnB [sBegin, D] ++ rulesT (R ++ [(v, z, if t = sStar then [] else t, decide (s = sOnce), [])]))) = (modesT M ++ (changesT C ++ (lnB [sBegin, D] ++ rulesT R))) ++ lnB [sRule, v, z, t, s]
     have ht : okW t = true := hok t (by simp)
     have k1 : modeW (v, z, if t = sStar then [] else t, decide (s = sOnce), []) = t := by
      unfold modeW
      by_cases h : t = sStar
      ·simp only [if_pos h]; exact h.symm
      ·simp only [if_neg h]; exact if_neg (okW_ne ht)
     have k2 : kindW (v, z, if t = sStar then [] else t, decide (s = sOnce), []) = s := by
      unfold kindW
      rcases hs with h | h
      ·simp only [h]; rfl
      ·subst h; rfl
     rw [rulesT_app]
     show modesT M ++ (changesT C ++ (lnB [sBegin, D] ++ (rulesT R ++ ((lnB [sRule, v, z, modeW (v, z, if t = sStar then [] else t, decide (s = sOnce), []), kindW (v, z, if t = sStar then [] else t, decide (s = sOnce), [])] ++ []) ++ [])))) = _
     rw [k1, k2]
     simp
    ·cases e
   ·cases e
theorem lineM_text {w : DWatch} {b : Bool} {s : S} {y : DWatch × Bool} (hi : BInv w b) (e : lineM w b s = some y) : stT y.1 y.2 = stT w b ++ (s ++ [10]) ∧ BInv y.1 y.2 := by
 unfold lineM at e
 split at e
 ·rename_i h
  have := stepM_text h hi e
  unfold lnB at this
  rw [joinB_jn, jn_split] at this
  exact this
 ·cases e
theorem readM_text : ∀ (l : List S) (n : Nat) (w : DWatch) (b : Bool) (y : DWatch × Bool), l ≠ [] → BInv w b → readM l n w b = .ok y → ∃ L, l = L ++ [[]] ∧ stT y.1 y.2 = stT w b ++ flatL L := by
 intro l
 induction l with
 | nil => intro n w b y h; exact absurd rfl h
 | cons x l ih =>
  intro n w b y _ hi e
  unfold readM at e
  split at e
  ·rename_i hl
   subst hl
   split at e
   ·rename_i hx
    subst hx
    cases e
    exact ⟨[], rfl, (List.append_nil _).symm⟩
   ·cases e
  ·rename_i hl
   split at e
   ·cases e
   ·rename_i z hz
    obtain ⟨h1, h2⟩ := lineM_text hi hz
    obtain ⟨L, rfl, h3⟩ := ih _ _ _ _ hl h2 e
    refine ⟨x :: L, rfl, ?_⟩
    rw [h3, h1]
    show _ = stT w b ++ ((x ++ [10]) ++ flatL L)
    simp [List.append_assoc]
theorem read_text {t : S} {w : DFWatch} (h : readM (splitB 10 t) 1 emptyW false = .ok (w, true)) : textM w = t := by
 obtain ⟨L, h1, h2⟩ := readM_text _ _ _ _ _ (splitB_ne 10 t) (fun _ => rfl) h
 have h3 := jn_split 10 t
 rw [h1, jn_flat] at h3
 rw [h3] at h2
 exact h2
end Go.Proofs.YtadhpgecilhgnaaDoor.Pure

-- YtadhpgecilhgnaaDoorP23
set_option linter.unusedVariables false
set_option linter.unusedSimpArgs false
namespace Go.Proofs.YtadhpgecilhgnaaDoor.Pure
open Go Go.Proofs.YtadhpgecilhgnaaDoor.A

def run : List S → DWatch → Bool → Option (DWatch × Bool)
 | [], w, b => some (w, b)
 | x :: l, w, b => match lineM w b x with
  | none => none
  | some y => run l y.1 y.2
theorem run_app {l : List S} : ∀ {k : List S} {w : DWatch} {b : Bool} {y : DWatch × Bool}, run k w b = some y → run (k ++ l) w b = run l y.1 y.2
 | [], w, b, y, h => by cases h; rfl
 | x :: k, w, b, y, h => by
  have h : (match lineM w b x with | none => none | some y => run k y.1 y.2) = some y := h
  show (match lineM w b x with | none => none | some y => run (k ++ l) y.1 y.2) = _
  cases e : lineM w b x with
  | none => rw [e] at h; cases h
  | some z =>
   rw [e] at h
   exact run_app (k := k) h
theorem run_one {x : S} {l : List S} {w : DWatch} {b : Bool} {y : DWatch × Bool} (h : lineM w b x = some y) : run (x :: l) w b = run l y.1 y.2 := by
 show (match lineM w b x with | none => none | some y => run l y.1 y.2) = _
 rw [h]
theorem run_read : ∀ (L : List S) (n : Nat) (w : DWatch) (b : Bool) (y : DWatch × Bool), run L w b = some y → readM (L ++ [[]]) n w b = .ok y
 | [], n, w, b, y, h => by cases h; rfl
 | x :: L, n, w, b, y, h => by
  unfold run at h
  rw [List.cons_append]
  unfold readM
  rw [if_neg (by simp)]
  cases e : lineM w b x with
  | none => rw [e] at h; cases h
  | some z =>
   rw [e] at h
   exact run_read L (n + 1) z.1 z.2 y h
theorem lineM_words {w : DWatch} {b : Bool} {l : List S} (hn : l ≠ []) (h : ∀ x ∈ l, okW x = true) : lineM w b (joinB l) = stepM w b l := by
 have hs : splitB 32 (joinB l) = l := splitB_join l hn fun x hx => okW_no (h x hx) (by decide)
 unfold lineM
 rw [hs, if_pos (List.all_eq_true.2 h)]
theorem joinB_no {l : List S} (h : ∀ x ∈ l, okW x = true) : (10 : UInt8) ∉ joinB l := by
 induction l with
 | nil => exact fun h => by cases h
 | cons x l ih =>
  have h1 := okW_no (h x (List.mem_cons_self ..)) (c := 10) (by decide)
  have h2 := ih fun y hy => h y (List.mem_cons_of_mem _ hy)
  unfold joinB
  split
  ·exact h1
  ·intro hm
   rcases List.mem_append.1 hm with hm | hm
   ·exact h1 hm
   ·rcases List.mem_cons.1 hm with hm | hm
    ·cases hm
    ·exact h2 hm
theorem flatL_app : ∀ a b : List S, flatL (a ++ b) = flatL a ++ flatL b
 | [], b => rfl
 | x :: a, b => by
  rw [List.cons_append]
  show (x ++ [10]) ++ flatL (a ++ b) = ((x ++ [10]) ++ flatL a) ++ flatL b
  rw [flatL_app a b]
  simp only [List.append_assoc]
theorem split_flat : ∀ L : List S, (∀ x ∈ L, (10 : UInt8) ∉ x) → splitB 10 (flatL L) = L ++ [[]]
 | [], _ => rfl
 | x :: L, h => by
  have e : flatL (x :: L) = x ++ 10 :: flatL L := by
   show (x ++ [10]) ++ flatL L = _
   simp
  rw [e, splitB_at (h x (List.mem_cons_self ..)), split_flat L fun y hy => h y (List.mem_cons_of_mem _ hy)]
  rfl
def modeL (x : S) : List S := [sMode, x]
def changeL (x : DModeChange) : List S := [sChange, x.1, x.2.1, x.2.2]
def actL (a : DAct) : List S := [verbM a, a.2.1]
def headL (x : DFWatchRule) : List S := [sRule, x.1, x.2.1, modeW x, kindW x]
def ruleL (x : DFWatchRule) : List (List S) := headL x :: x.2.2.2.2.map actL
def rulesL : List DFWatchRule → List (List S)
 | [] => []
 | x :: l => ruleL x ++ rulesL l
def watchL (w : DFWatch) : List (List S) := w.1.map modeL ++ (w.2.1.map changeL ++ ([sBegin, w.2.2.1] :: rulesL w.2.2.2))
def txt (l : List (List S)) : S := flatL (l.map joinB)
theorem txt_app (a b : List (List S)) : txt (a ++ b) = txt a ++ txt b := by
 unfold txt
 rw [List.map_append, flatL_app]
theorem modesT_txt : ∀ l : List S, modesT l = txt (l.map modeL)
 | [] => rfl
 | x :: l => by rw [modesT, modesT_txt l]; rfl
theorem changesT_txt : ∀ l : List DModeChange, changesT l = txt (l.map changeL)
 | [] => rfl
 | x :: l => by rw [changesT, changesT_txt l]; rfl
theorem actsT_txt : ∀ l : List DAct, actsT l = txt (l.map actL)
 | [] => rfl
 | x :: l => by rw [actsT, actsT_txt l]; rfl
theorem ruleT_txt (x : DFWatchRule) : ruleT x = txt (ruleL x) := by
 show headW x ++ actsT x.2.2.2.2 = _
 rw [actsT_txt]
 rfl
theorem rulesT_txt : ∀ l : List DFWatchRule, rulesT l = txt (rulesL l)
 | [] => rfl
 | x :: l => by
  show ruleT x ++ rulesT l = txt (ruleL x ++ rulesL l)
  rw [txt_app, ruleT_txt, rulesT_txt l]
theorem textM_txt (w : DFWatch) : textM w = txt (watchL w) := by
 unfold watchL
 rw [txt_app, txt_app, ← modesT_txt, ← changesT_txt]
 show modesT w.1 ++ (changesT w.2.1 ++ (lnB [sBegin, w.2.2.1] ++ rulesT w.2.2.2)) = modesT w.1 ++ (changesT w.2.1 ++ (lnB [sBegin, w.2.2.1] ++ txt (rulesL w.2.2.2)))
 rw [rulesT_txt]
def WordsOk (l : List S) : Prop := l ≠ [] ∧ ∀ x ∈ l, okW x = true
theorem WordsOk.two {a b : S} (ha : okW a = true) (hb : okW b = true) : WordsOk [a, b] := ⟨by simp, fun x hx => by simp at hx; rcases hx with rfl | rfl <;> assumption⟩
theorem verbM_ok (a : DAct) : okW (verbM a) = true := by
 unfold verbM
 (repeat' split) <;> decide
theorem kindW_ok (x : DFWatchRule) : okW (kindW x) = true := by
 unfold kindW
 split <;> decide
theorem RuleOk.mode {w : DFWatch} {x : DFWatchRule} (hw : WOk w) (h : RuleOk w x) : okW (modeW x) = true ∧ (if modeW x = sStar then [] else modeW x) = x.2.2.1 := by
 unfold modeW
 rcases h.md with e | e
 ·rw [if_pos e, if_pos rfl]
  exact ⟨by decide, e.symm⟩
 ·have hn := hw.m _ e
  rw [if_neg (nm_ne hn), if_neg (nm_star hn)]
  exact ⟨nm_okW hn, rfl⟩
theorem modeL_ok {w : DFWatch} (hw : WOk w) : ∀ l ∈ w.1.map modeL, WordsOk l := fun l hl => by
 obtain ⟨x, hx, rfl⟩ := List.mem_map.1 hl
 exact .two (by decide) (nm_okW (hw.m x hx))
theorem changeL_ok {w : DFWatch} (hw : WOk w) : ∀ l ∈ w.2.1.map changeL, WordsOk l := fun l hl => by
 obtain ⟨x, hx, rfl⟩ := List.mem_map.1 hl
 obtain ⟨h1, h2, h3⟩ := hw.c x hx
 refine ⟨by simp [changeL], fun y hy => ?_⟩
 simp only [changeL, List.mem_cons, List.not_mem_nil, or_false] at hy
 rcases hy with rfl | rfl | rfl | rfl
 ·decide
 ·exact nm_okW (hw.m _ h1)
 ·exact nm_okW h3
 ·exact nm_okW (hw.m _ h2)
theorem headL_ok {w : DFWatch} {x : DFWatchRule} (hw : WOk w) (h : RuleOk w x) : WordsOk (headL x) := by
 refine ⟨by simp [headL], fun y hy => ?_⟩
 simp only [headL, List.mem_cons, List.not_mem_nil, or_false] at hy
 rcases hy with rfl | rfl | rfl | rfl | rfl
 ·decide
 ·exact nm_okW h.n1
 ·exact nm_okW h.n2
 ·exact (h.mode hw).1
 ·exact kindW_ok x
theorem ruleL_ok {w : DFWatch} {x : DFWatchRule} (hw : WOk w) (h : RuleOk w x) : ∀ l ∈ ruleL x, WordsOk l := fun l hl => by
 rcases List.mem_cons.1 hl with rfl | hl
 ·exact headL_ok hw h
 ·obtain ⟨a, ha, rfl⟩ := List.mem_map.1 hl
  exact .two (verbM_ok a) (nm_okW (h.acts a ha).2.1)
theorem rulesL_ok {w : DFWatch} (hw : WOk w) : ∀ R : List DFWatchRule, (∀ x ∈ R, RuleOk w x) → ∀ l ∈ rulesL R, WordsOk l
 | [], _, l, hl => by cases hl
 | x :: R, h, l, hl => by
  rcases List.mem_append.1 hl with hl | hl
  ·exact ruleL_ok hw (h x (List.mem_cons_self ..)) l hl
  ·exact rulesL_ok hw R (fun y hy => h y (List.mem_cons_of_mem _ hy)) l hl
theorem watchL_ok {w : DFWatch} (hw : WOk w) : ∀ l ∈ watchL w, WordsOk l := fun l hl => by
 rcases List.mem_append.1 hl with hl | hl
 ·exact modeL_ok hw l hl
 rcases List.mem_append.1 hl with hl | hl
 ·exact changeL_ok hw l hl
 rcases List.mem_cons.1 hl with rfl | hl
 ·exact .two (by decide) (nm_okW (hw.m _ hw.d))
 ·exact rulesL_ok hw _ hw.r l hl
theorem run_words {l : List S} {L : List (List S)} {w : DWatch} {b : Bool} {y : DWatch × Bool} (hl : WordsOk l) (h : stepM w b l = some y) : run ((l :: L).map joinB) w b = run (L.map joinB) y.1 y.2 :=
 run_one (by rw [lineM_words hl.1 hl.2, h])
theorem run_modes : ∀ (l M : List S) (D : S) (R : List DWatchRule), (∀ x ∈ l.map modeL, WordsOk x) → run ((l.map modeL).map joinB) (M, [], D, R) false = some ((M ++ l, [], D, R), false)
 | [], M, D, R, _ => by rw [List.append_nil]; rfl
 | x :: l, M, D, R, h => by
  rw [List.map_cons, run_words (y := ((M ++ [x], [], D, R), false)) (h _ (List.mem_cons_self ..)) rfl, run_modes l _ _ _ fun y hy => h y (List.mem_cons_of_mem _ hy), List.append_assoc]
  rfl
theorem run_changes : ∀ (l : List DModeChange) (M : List S) (C : List DModeChange) (D : S) (R : List DWatchRule), (∀ x ∈ l.map changeL, WordsOk x) → run ((l.map changeL).map joinB) (M, C, D, R) false = some ((M, C ++ l, D, R), false)
 | [], M, C, D, R, _ => by rw [List.append_nil]; rfl
 | x :: l, M, C, D, R, h => by
  rw [List.map_cons, run_words (y := ((M, C ++ [x], D, R), false)) (h _ (List.mem_cons_self ..)) rfl, run_changes l _ _ _ _ fun y hy => h y (List.mem_cons_of_mem _ hy), List.append_assoc]
  rfl
theorem step_act {w : DWatch} {b : Bool} {a : DAct} (hR : w.2.2.2 ≠ []) (h : ActOk a) : stepM w b (actL a) = some ((w.1, w.2.1, w.2.2.1, addA w.2.2.2 a), b) := by
 have hv : actM (verbM a) a.2.1 = some a := act_verb h.1.1 h.1.2 h.2.2
 have n1 : verbM a ≠ sMode := by unfold verbM; (repeat' split) <;> decide
 have n2 : verbM a ≠ sBegin := by unfold verbM; (repeat' split) <;> decide
 show (if verbM a = sMode then _ else if verbM a = sBegin then _ else if w.2.2.2 = [] then none else match actM (verbM a) a.2.1 with | some a => some ((w.1, w.2.1, w.2.2.1, addA w.2.2.2 a), b) | none => none) = _
 rw [if_neg n1, if_neg n2, if_neg hR, hv]
theorem run_acts : ∀ (l : List DAct) (M : List S) (C : List DModeChange) (D : S) (R : List DWatchRule) (x : DWatchRule), (∀ y ∈ l.map actL, WordsOk y) → (∀ a ∈ l, ActOk a) →
 run ((l.map actL).map joinB) (M, C, D, R ++ [x]) true = some ((M, C, D, R ++ [(x.1, x.2.1, x.2.2.1, x.2.2.2.1, x.2.2.2.2 ++ l)]), true)
 | [], M, C, D, R, x, _, _ => by rw [List.append_nil]; rfl
 | a :: l, M, C, D, R, x, h, ha => by
  rw [List.map_cons, run_words (h _ (List.mem_cons_self ..)) (step_act (w := (M, C, D, R ++ [x])) (by simp) (ha a (List.mem_cons_self ..)))]
  show run _ (M, C, D, addA (R ++ [x]) a) true = _
  rw [addA_snoc, run_acts l _ _ _ _ _ (fun y hy => h y (List.mem_cons_of_mem _ hy)) (fun y hy => ha y (List.mem_cons_of_mem _ hy))]
  simp
theorem kindW_once (x : DFWatchRule) : decide (kindW x = sOnce) = x.2.2.2.1 ∧ (kindW x = sOnce ∨ kindW x = sAlways) := by
 unfold kindW
 cases x.2.2.2.1
 ·exact ⟨by decide, .inr rfl⟩
 ·exact ⟨by decide, .inl rfl⟩
theorem run_rule {w : DFWatch} {x : DFWatchRule} (hw : WOk w) (h : RuleOk w x) (M : List S) (C : List DModeChange) (D : S) (R : List DWatchRule) : run ((ruleL x).map joinB) (M, C, D, R) true = some ((M, C, D, R ++ [x]), true) := by
 have hs : stepM (M, C, D, R) true (headL x) = some ((M, C, D, R ++ [(x.1, x.2.1, x.2.2.1, x.2.2.2.1, [])]), true) := by
  show (if sRule = sRule ∧ true = true ∧ (kindW x = sOnce ∨ kindW x = sAlways) then some ((M, C, D, R ++ [(x.1, x.2.1, if modeW x = sStar then [] else modeW x, decide (kindW x = sOnce), [])]), true) else none) = _
  rw [if_pos ⟨rfl, rfl, (kindW_once x).2⟩, (kindW_once x).1, (h.mode hw).2]
 unfold ruleL
 rw [run_words (headL_ok hw h) hs]
 show run ((x.2.2.2.2.map actL).map joinB) (M, C, D, R ++ [(x.1, x.2.1, x.2.2.1, x.2.2.2.1, [])]) true = _
 rw [run_acts _ _ _ _ _ _ (fun y hy => ruleL_ok hw h y (List.mem_cons_of_mem _ hy)) h.acts]
 rfl
theorem run_rules {w : DFWatch} (hw : WOk w) (M : List S) (C : List DModeChange) (D : S) : ∀ (l : List DFWatchRule) (R : List DWatchRule), (∀ x ∈ l, RuleOk w x) → run ((rulesL l).map joinB) (M, C, D, R) true = some ((M, C, D, R ++ l), true)
 | [], R, _ => by rw [List.append_nil]; rfl
 | x :: l, R, h => by
  show run ((ruleL x ++ rulesL l).map joinB) (M, C, D, R) true = _
  rw [List.map_append, run_app (run_rule hw (h x (List.mem_cons_self ..)) M C D R)]
  show run _ (M, C, D, R ++ [x]) true = _
  rw [run_rules hw M C D l _ fun y hy => h y (List.mem_cons_of_mem _ hy), List.append_assoc]
  rfl
theorem run_watch {w : DFWatch} (hw : WOk w) : run ((watchL w).map joinB) emptyW false = some (w, true) := by
 have h1 := run_modes w.1 [] [] [] (modeL_ok hw)
 have h2 := run_changes w.2.1 w.1 [] [] [] (changeL_ok hw)
 have h3 := run_rules hw w.1 w.2.1 w.2.2.1 w.2.2.2 [] hw.r
 unfold watchL
 rw [List.map_append, run_app (w := emptyW) h1, List.map_append]
 show run _ (w.1, [], [], []) false = _
 rw [run_app h2]
 show run _ (w.1, w.2.1, [], []) false = _
 rw [run_words (y := ((w.1, w.2.1, w.2.2.1, []), true)) (.two (by decide) (nm_okW (hw.m _ hw.d))) rfl]
 exact h3
theorem read_watch {w : DFWatch} (hw : WOk w) : readM (splitB 10 (textM w)) 1 emptyW false = .ok (w, true) := by
 rw [textM_txt]
 unfold txt
 rw [split_flat _ fun x hx => by
  obtain ⟨l, hl, rfl⟩ := List.mem_map.1 hx
  exact joinB_no (watchL_ok hw l hl).2]
 exact run_read _ _ _ _ _ (run_watch hw)
end Go.Proofs.YtadhpgecilhgnaaDoor.Pure

-- YtadhpgecilhgnaaDoorPureWatchesTextsComeBack
set_option linter.unusedVariables false
namespace Go.Proofs.YtadhpgecilhgnaaDoor.Pure
open Go Go.Proofs.YtadhpgecilhgnaaDoor.A

theorem WatchesTextsComeBack (w : DFWatch) (t : S) (h0 : okT YFWatch w) (h1 : okT .str t) : ∃ n, perigeelaw8_WatchesTextsComeBack.f n w t = some (true, ()) := by
 -- what is read
 have back : Ev (fun k => perigeelaw8_WatchesTextsComeBack.c0 k t) (true, ()) := by
  obtain ⟨r, r1, r2⟩ := mread t
  refine Ev.step (fun k => perigeelaw8_WatchesTextsComeBack.c0_eq _ _) (Ev.bind r1 ?_)
  rcases r2 with ⟨c1, c2⟩ | ⟨hl, hm, hc, hk, hs, c1⟩
  ·refine Ev.yes (by simpa using c1) (Ev.yes (by rw [c2]; rfl) (Ev.bind awake_ev (Ev.now _)))
  ·have ok := watch_ok r.1 hk hc
   have ht := read_text hm
   have he := mtext_ev r.1 ok hc
   have hR : textR r.1 = (t, (0, ())) := by
    unfold textR
    rw [ht, if_neg (by omega)]
   rw [hR] at he
   exact Ev.no (by simp [c1]) (Ev.bind he (Ev.yes rfl (Ev.yes (by simp) (Ev.bind awake_ev (Ev.now _)))))
 obtain ⟨r, a1, _, a3⟩ := text_twin w h0
 refine Ev.rounds (Ev.eq (fun k => perigeelaw8_WatchesTextsComeBack.f_eq _ _ _) (Ev.bind a1 ?_))
 by_cases hr : r.2.1 = 0
 case neg => exact Ev.no (by simpa using hr) back
 obtain ⟨hc, ok, e1, e2⟩ := a3 hr
 refine Ev.yes (decide_eq_true hr) ?_
 rw [e1]
 have hrd := mread_ok e2 (read_watch ok) hc
 have hsame := same_ev w (Nat.le_trans ok.ml (by decide)) (Nat.le_trans ok.cl (by decide)) (Nat.le_trans ok.rl (by decide)) (fun x hx => Nat.le_trans (ok.r x hx).al (by decide))
 exact Ev.bind hrd (Ev.no (by simp) (Ev.no (by simp) (Ev.bind hsame (Ev.no (by simp) back))))
end Go.Proofs.YtadhpgecilhgnaaDoor.Pure
