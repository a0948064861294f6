/- Raw is as specified, with all errors; no condition. -/
import Derived.Below
import Derived.Carry
import Derived.ChangeOld
import Derived.KernelRfl
import Derived.Laws.Strings
import Derived.OpenShut
import Derived.ProofKit
import Derived.ShutString
import Derived.SizedLaws
import Derived.Test.YtcefbdknoelacaaRows
import Derived.WalkKit
import Derived.Test.YtcefbdknoelacaaCTelemetryRawMatchesSpec2
-- YtcefbdknoelacaaPk
set_option linter.unusedVariables false
set_option linter.unusedSimpArgs false
namespace Go.Proofs.Ytcefbdknoelacaa.Pure
open Go Go.Proofs.Ytcefbdknoelacaa.A

def Ev {α : Type} (g : Nat → Option α) (r : α) : Prop := ∃ k, ∀ n, k ≤ n → g n = some r
theorem Ev.now {α : Type} (r : α) : Ev (fun _ => some r) r := ⟨0, fun _ _ => rfl⟩
theorem Ev.rounds {α : Type} {g : Nat → Option α} {r : α} (h : Ev g r) : ∃ k, g k = some r := let ⟨K, h⟩ := h; ⟨K, h K (Nat.le_refl _)⟩
theorem Ev.bind {α β : Type} {g : Nat → Option α} {f : Nat → α → Option β} {a : α} {r : β} (h : Ev g a) (k : Ev (fun n => f n a) r) : Ev (fun n => (g n).bind (f n)) r := by
 obtain ⟨K, h⟩ := h
 obtain ⟨K', k⟩ := k
 refine ⟨max K K', fun n hn => ?_⟩
 simp only [h n (by omega), Option.bind_some]
 exact k n (by omega)
theorem Ev.step {α : Type} {g f : Nat → Option α} {r : α} (h : ∀ k, g (k + 1) = f k) (k : Ev f r) : Ev g r := by
 obtain ⟨K, k⟩ := k
 refine ⟨K + 1, fun n hn => ?_⟩
 obtain ⟨m, rfl⟩ : ∃ m, n = m + 1 := ⟨n - 1, by omega⟩
 rw [h]
 exact k m (by omega)
theorem Ev.eq {α : Type} {g f : Nat → Option α} {r : α} (h : ∀ k, g k = f k) (k : Ev f r) : Ev g r := by
 obtain ⟨K, k⟩ := k
 exact ⟨K, fun n hn => (h n).trans (k n hn)⟩
theorem less_total : ∀ a b : List UInt8, (Op.bytesLess a b || a == b) = !Op.bytesLess b a := by
 intro a
 induction a with
 | nil => intro b; cases b <;> simp [Op.bytesLess]
 | cons x a ih =>
  intro b
  cases b with
  | nil => simp [Op.bytesLess]
  | cons y b =>
   have := ih b
   have e1 : Op.bytesLess (x :: a) (y :: b) = (decide (x < y) || (x == y && Op.bytesLess a b)) := by rw [Op.bytesLess]
   have e2 : Op.bytesLess (y :: b) (x :: a) = (decide (y < x) || (y == x && Op.bytesLess b a)) := by rw [Op.bytesLess]
   rw [e1, e2]
   rcases Nat.lt_trichotomy x.toNat y.toNat with h | h | h
   ·have h1 : x < y := UInt8.lt_iff_toNat_lt.2 h
    have h2 : ¬ y < x := fun h' => by have := UInt8.lt_iff_toNat_lt.1 h'; omega
    have h3 : ¬ y = x := fun h' => by subst h'; omega
    simp [h1, h2, h3]
   ·have h3 : x = y := UInt8.toNat_inj.1 h
    subst h3
    have h2 : ¬ x < x := fun h' => by have := UInt8.lt_iff_toNat_lt.1 h'; omega
    simpa [h2] using this
   ·have h1 : y < x := UInt8.lt_iff_toNat_lt.2 h
    have h2 : ¬ x < y := fun h' => by have := UInt8.lt_iff_toNat_lt.1 h'; omega
    have h3 : ¬ x = y := fun h' => by subst h'; omega
    simp [h1, h2, h3]

theorem w64 {x : Int} (h : -9223372036854775808 ≤ x) (h' : x ≤ 9223372036854775807) : IntKind.wrap .i64 x = x := by
 have e1 : (2 : Int) ^ 64 = 18446744073709551616 := rfl
 have e2 : (2 : Int) ^ (64 - 1) = 9223372036854775808 := rfl
 simp only [IntKind.wrap, IntKind.bits, IntKind.signed, e1, e2, Bool.true_and, decide_eq_true_eq]
 by_cases hh : x % 18446744073709551616 ≥ 9223372036854775808
 ·rw [if_pos hh]; omega
 ·rw [if_neg hh]; omega
theorem Ev.yes {α : Type} {c : Prop} {hd : Decidable c} {g g' : Nat → Option α} {r : α} (h : c) (e : Ev g r) : Ev (fun k => if c then g k else g' k) r := by
 simp only [if_pos h]; exact e
theorem Ev.no {α : Type} {c : Prop} {hd : Decidable c} {g g' : Nat → Option α} {r : α} (h : ¬ c) (e : Ev g' r) : Ev (fun k => if c then g k else g' k) r := by
 simp only [if_neg h]; exact e
theorem Ev.unique {α : Type} {g : Nat → Option α} {r s : α} (h : Ev g r) (h' : Ev g s) : r = s := by
 obtain ⟨K, h⟩ := h
 obtain ⟨K', h'⟩ := h'
 have h1 := h (max K K') (by omega)
 have h2 := h' (max K K') (by omega)
 rw [h1] at h2
 injection h2
theorem Ev.some {α : Type} {o : Option α} {r : α} (h : o = some r) : Ev (fun _ => o) r := by subst h; exact Ev.now _

theorem mul_bd {x y A B : Int} (hx : -A ≤ x) (hx' : x ≤ A) (hy : -B ≤ y) (hy' : y ≤ B) : -(A * B) ≤ x * y ∧ x * y ≤ A * B := by
 have hA : 0 ≤ A := by omega
 have hB : 0 ≤ B := by omega
 have h1 : x.natAbs ≤ A.natAbs := by omega
 have h2 : y.natAbs ≤ B.natAbs := by omega
 have h3 : (x * y).natAbs ≤ (A * B).natAbs := by rw [Int.natAbs_mul, Int.natAbs_mul]; exact Nat.mul_le_mul h1 h2
 have h4 : 0 ≤ A * B := Int.mul_nonneg hA hB
 omega

theorem getD_nat {α : Type} (z : α) (l : List α) (i : Nat) (h : i < l.length) : l.getD i z = l[i] := by
 simp [List.getD_eq_getElem?_getD, List.getElem?_eq_getElem h]
theorem getD_mem {α : Type} {z : α} {l : List α} {i : Nat} (h : i < l.length) : l.getD i z ∈ l := by
 rw [getD_nat z l i h]; exact List.getElem_mem h

theorem bl_cons (x y : UInt8) (a b : List UInt8) : Op.bytesLess (x :: a) (y :: b) = (decide (x < y) || (x == y && Op.bytesLess a b)) := by rw [Op.bytesLess]
theorem less_irrefl (a : List UInt8) : Op.bytesLess a a = false := by
 have := less_total a a
 cases h : Op.bytesLess a a with
 | false => rfl
 | true => rw [h] at this; simp at this
theorem less_ne {a b : List UInt8} (h : Op.bytesLess a b = true) : a ≠ b := by
 intro e
 subst e
 rw [less_irrefl] at h
 cases h
theorem less_tri {a b : List UInt8} (h1 : ¬ Op.bytesLess a b = true) (h2 : a ≠ b) : Op.bytesLess b a = true := by
 have := less_total a b
 rw [show Op.bytesLess a b = false by simpa using h1, show (a == b) = false by simpa using h2] at this
 simpa using this.symm
theorem less_trans : ∀ {a b c : List UInt8}, Op.bytesLess a b = true → Op.bytesLess b c = true → Op.bytesLess a c = true := by
 intro a
 induction a with
 | nil =>
  intro b c h1 h2
  cases b with
  | nil => simp [Op.bytesLess] at h1
  | cons y b =>
   cases c with
   | nil => simp [Op.bytesLess] at h2
   | cons z c => simp [Op.bytesLess]
 | cons x a ih =>
  intro b c h1 h2
  cases b with
  | nil => simp [Op.bytesLess] at h1
  | cons y b =>
   cases c with
   | nil => simp [Op.bytesLess] at h2
   | cons z c =>
    rw [bl_cons] at h1 h2 ⊢
    simp only [Bool.or_eq_true, Bool.and_eq_true, decide_eq_true_eq, beq_iff_eq] at h1 h2 ⊢
    rcases h1 with h1 | ⟨rfl, h1⟩
    ·rcases h2 with h2 | ⟨rfl, h2⟩
     ·left
      have := UInt8.lt_iff_toNat_lt.1 h1
      have := UInt8.lt_iff_toNat_lt.1 h2
      exact UInt8.lt_iff_toNat_lt.2 (by omega)
     ·exact .inl h1
    ·rcases h2 with h2 | ⟨rfl, h2⟩
     ·exact .inl h2
     ·exact .inr ⟨rfl, ih h1 h2⟩
def Twin {α β : Type} (g : Nat → Option α) (g' : Nat → Option β) (R : α → β → Prop) : Prop := ∃ a b, Ev g a ∧ Ev g' b ∧ R a b
section
variable {α β γ δ : Type} {R : α → β → Prop}
theorem Twin.of {g : Nat → Option α} {g' : Nat → Option β} {a : α} {b : β} (h : Ev g a) (h' : Ev g' b) (r : R a b) : Twin g g' R := ⟨a, b, h, h', r⟩
theorem Twin.now {a : α} {b : β} (r : R a b) : Twin (fun _ => some a) (fun _ => some b) R := ⟨a, b, Ev.now _, Ev.now _, r⟩
theorem Twin.mono {g : Nat → Option α} {g' : Nat → Option β} {S : α → β → Prop} (h : Twin g g' S) (k : ∀ a b, S a b → R a b) : Twin g g' R := by
 obtain ⟨a, b, h1, h2, h3⟩ := h
 exact ⟨a, b, h1, h2, k a b h3⟩
theorem Twin.stepL {g f : Nat → Option α} {g' : Nat → Option β} (h : ∀ k, g (k + 1) = f k) (t : Twin f g' R) : Twin g g' R := by
 obtain ⟨a, b, h1, h2, h3⟩ := t
 exact ⟨a, b, Ev.step h h1, h2, h3⟩
theorem Twin.stepR {g : Nat → Option α} {g' f : Nat → Option β} (h : ∀ k, g' (k + 1) = f k) (t : Twin g f R) : Twin g g' R := by
 obtain ⟨a, b, h1, h2, h3⟩ := t
 exact ⟨a, b, h1, Ev.step h h2, h3⟩
theorem Twin.ifL {c : Prop} {hd : Decidable c} {g f : Nat → Option α} {g' : Nat → Option β} (y : c → Twin g g' R) (n : ¬ c → Twin f g' R) : Twin (fun k => if c then g k else f k) g' R := by
 by_cases h : c
 ·simp only [if_pos h]; exact y h
 ·simp only [if_neg h]; exact n h
theorem Twin.ifR {c : Prop} {hd : Decidable c} {g : Nat → Option α} {g' f : Nat → Option β} (y : c → Twin g g' R) (n : ¬ c → Twin g f R) : Twin g (fun k => if c then g' k else f k) R := by
 by_cases h : c
 ·simp only [if_pos h]; exact y h
 ·simp only [if_neg h]; exact n h
theorem Twin.bind {g : Nat → Option γ} {g' : Nat → Option δ} {S : γ → δ → Prop} {f : Nat → γ → Option α} {f' : Nat → δ → Option β} (t : Twin g g' S) (k : ∀ a b, S a b → Twin (fun n => f n a) (fun n => f' n b) R) :
 Twin (fun n => (g n).bind (f n)) (fun n => (g' n).bind (f' n)) R := by
 obtain ⟨a, b, h1, h2, h3⟩ := t
 obtain ⟨a', b', h1', h2', h3'⟩ := k a b h3
 exact ⟨a', b', Ev.bind h1 h1', Ev.bind h2 h2', h3'⟩
theorem Twin.bindL {g : Nat → Option γ} {f : Nat → γ → Option α} {g' : Nat → Option β} {a : γ} (h : Ev g a) (t : Twin (fun n => f n a) g' R) : Twin (fun n => (g n).bind (f n)) g' R := by
 obtain ⟨a', b', h1', h2', h3'⟩ := t
 exact ⟨a', b', Ev.bind h h1', h2', h3'⟩
theorem Twin.bindR {g : Nat → Option γ} {f : Nat → γ → Option β} {g' : Nat → Option α} {a : γ} (h : Ev g a) (t : Twin g' (fun n => f n a) R) : Twin g' (fun n => (g n).bind (f n)) R := by
 obtain ⟨a', b', h1', h2', h3'⟩ := t
 exact ⟨a', b', h1', Ev.bind h h2', h3'⟩
theorem Twin.right {g : Nat → Option α} {g' : Nat → Option β} (t : Twin g g' R) : ∃ b, Ev g' b := by
 obtain ⟨a, b, h1, h2, h3⟩ := t
 exact ⟨b, h2⟩
theorem Ev.split {c : Prop} {hd : Decidable c} {g f : Nat → Option α} {r : α} (y : c → Ev g r) (n : ¬ c → Ev f r) : Ev (fun k => if c then g k else f k) r := by
 by_cases h : c
 ·simp only [if_pos h]; exact y h
 ·simp only [if_neg h]; exact n h
theorem Ev.is {v r : α} (h : v = r) : Ev (fun _ => Option.some v) r := by subst h; exact Ev.now _
end
theorem Twin.yesL {α β : Type} {R : α → β → Prop} {c : Prop} {hd : Decidable c} {g f : Nat → Option α} {g' : Nat → Option β} (h : c) (y : Twin g g' R) : Twin (fun k => if c then g k else f k) g' R := Twin.ifL (fun _ => y) (fun n => absurd h n)
theorem Twin.noL {α β : Type} {R : α → β → Prop} {c : Prop} {hd : Decidable c} {g f : Nat → Option α} {g' : Nat → Option β} (h : ¬ c) (y : Twin f g' R) : Twin (fun k => if c then g k else f k) g' R := Twin.ifL (fun n => absurd n h) (fun _ => y)
theorem Twin.yesR {α β : Type} {R : α → β → Prop} {c : Prop} {hd : Decidable c} {g : Nat → Option α} {g' f : Nat → Option β} (h : c) (y : Twin g g' R) : Twin g (fun k => if c then g' k else f k) R := Twin.ifR (fun _ => y) (fun n => absurd h n)
theorem Twin.noR {α β : Type} {R : α → β → Prop} {c : Prop} {hd : Decidable c} {g : Nat → Option α} {g' f : Nat → Option β} (h : ¬ c) (y : Twin g f R) : Twin g (fun k => if c then g' k else f k) R := Twin.ifR (fun n => absurd n h) (fun _ => y)

end Go.Proofs.Ytcefbdknoelacaa.Pure

-- YtcefbdknoelacaaQ1
set_option linter.unusedVariables false
set_option linter.unusedSimpArgs false
namespace Go.Proofs.Ytcefbdknoelacaa.Pure
open Go Go.Proofs.Ytcefbdknoelacaa.A

theorem in_ev (n : Nat) (a l h : Int) : kit_In.f n a l h = some (decide (l ≤ a ∧ a ≤ h), ()) := by
 rw [kit_In.f_eq]
 by_cases h1 : l ≤ a <;> simp [h1]
theorem within_ev (n : Nat) (a l h : Int) : perigeeref7_within.f n a l h = some (decide (l ≤ a ∧ a ≤ h), ()) := by
 rw [perigeeref7_within.f_eq]
 by_cases h1 : l ≤ a <;> simp [h1]

theorem word_loop (s : List UInt8) (hs : s.length ≤ 140737488351232) : ∀ (d i : Nat), i + d = s.length → (i = 0 → 97 ≤ ((s.getD 0 0).toNat : Int) ∧ ((s.getD 0 0).toNat : Int) ≤ 122) →
 Twin (fun k => telemetry_Word.c1 k s (s.length : Int) i) (fun k => perigeeref7_IsWord.c1 k s (s.length : Int) i) (fun a b => a = b) := by
 intro d
 induction d with
 | zero =>
  intro i hi h0
  refine Twin.stepL (fun k => by rw [telemetry_Word.c1_eq]) (Twin.stepR (fun k => by rw [perigeeref7_IsWord.c1_eq]) ?_)
  simp only [decide_eq_true_eq]
  repeat' (first | (exfalso; omega) | (refine Twin.ifL (fun h_ => ?_) (fun h_ => ?_)) | (refine Twin.ifR (fun h_ => ?_) (fun h_ => ?_)))
  exact Twin.now rfl
 | succ d ih =>
  intro i hi h0
  have next := ih (i + 1) (by omega) (by omega)
  refine Twin.stepL (fun k => by rw [telemetry_Word.c1_eq]) (Twin.stepR (fun k => by rw [perigeeref7_IsWord.c1_eq]) ?_)
  rw [w64 (x := (i : Int) + 1) (by omega) (by omega)]
  have h1 : (i : Int) = 0 → 97 ≤ ((s.getD ((i : Int)).toNat 0).toNat : Int) ∧ ((s.getD ((i : Int)).toNat 0).toNat : Int) ≤ 122 := by
   intro h
   rw [h]
   exact h0 (by omega)
  generalize ((s.getD ((i : Int)).toNat 0).toNat : Int) = c at h1
  simp only [decide_eq_true_eq, Bool.not_eq_true', decide_eq_false_iff_not]
  repeat' (first | (exfalso; omega) | (refine Twin.ifL (fun h_ => ?_) (fun h_ => ?_)) | (refine Twin.ifR (fun h_ => ?_) (fun h_ => ?_)))
  all_goals first | exact next | exact Twin.now rfl
theorem word_ev (s : List UInt8) (hs : s.length ≤ 140737488351232) : ∃ b, Ev (fun k => telemetry_Word.f k s) (b, ()) ∧ Ev (fun k => perigeeref7_IsWord.f k s) (b, ()) := by
 have : Twin (fun k => telemetry_Word.f k s) (fun k => perigeeref7_IsWord.f k s) (fun a b => a = b) := by
  have e : (s = []) ↔ s.length = 0 := by cases s <;> simp
  simp only [telemetry_Word.f_eq, perigeeref7_IsWord.f_eq, within_ev, Option.bind_some, decide_eq_true_eq, Bool.not_eq_true', decide_eq_false_iff_not, e]
  repeat' (first | (exfalso; omega) | (refine Twin.ifL (fun h_ => ?_) (fun h_ => ?_)) | (refine Twin.ifR (fun h_ => ?_) (fun h_ => ?_)))
  all_goals (try refine Twin.stepL (fun k => by rw [telemetry_Word.c0_eq]) ?_)
  all_goals (try refine Twin.stepR (fun k => by rw [perigeeref7_IsWord.c0_eq]) ?_)
  all_goals first | exact Twin.now rfl | exact word_loop s hs s.length 0 (by omega) (fun _ => by omega) | skip
  all_goals (try (refine Twin.stepL (fun k => by rw [telemetry_Word.c1_eq]) ?_; simp only [decide_eq_true_eq, Bool.not_eq_true', decide_eq_false_iff_not, Int.toNat_zero]; (repeat' (first | (exfalso; omega) | (refine Twin.ifL (fun h_ => ?_) (fun h_ => ?_))))))
  all_goals first | exact Twin.now rfl | exact absurd trivial ‹¬True›
 obtain ⟨a, b, h1, h2, rfl⟩ := this
 exact ⟨a.1, h1, h2⟩

theorem shl_one : ∀ n : Nat, n ≤ 24 → shlI .i64 1 (n : Int) = ((2 ^ n : Nat) : Int) := by
 intro n hn
 have : ∀ m : Fin 25, shlI .i64 1 ((m.val : Nat) : Int) = ((2 ^ m.val : Nat) : Int) := by decide +kernel
 exact this ⟨n, by omega⟩
theorem shl_neg : ∀ n : Nat, n ≤ 24 → shlI .i64 (-1) (n : Int) = -((2 ^ n : Nat) : Int) := by
 intro n hn
 have : ∀ m : Fin 25, shlI .i64 (-1) ((m.val : Nat) : Int) = -((2 ^ m.val : Nat) : Int) := by decide +kernel
 exact this ⟨n, by omega⟩
abbrev Par := DParameter
def lo (p : Par) : Int := if p.2.2.1 = true then -((2 ^ (p.2.1 - 1).toNat : Nat) : Int) else 0
def hi (p : Par) : Int := if p.2.2.1 = true then ((2 ^ (p.2.1 - 1).toNat : Nat) : Int) - 1 else ((2 ^ p.2.1.toNat : Nat) : Int) - 1
theorem pow_bd : ∀ n : Nat, n ≤ 24 → 1 ≤ 2 ^ n ∧ 2 ^ n ≤ 16777216 := by decide +kernel
theorem span_ev (k : Nat) (p : Par) (h : 1 ≤ p.2.1 ∧ p.2.1 ≤ 24) : telemetry_span.f k p = some (lo p, hi p, ()) := by
 obtain ⟨n, hn⟩ : ∃ n : Nat, p.2.1 = (n : Int) + 1 := ⟨(p.2.1 - 1).toNat, by omega⟩
 have b1 := pow_bd n (by omega)
 have b2 := pow_bd (n + 1) (by omega)
 rw [telemetry_span.f_eq]
 unfold lo hi
 rw [hn, w64 (x := (n : Int) + 1 - 1) (by omega) (by omega), show (n : Int) + 1 - 1 = n by omega, shl_neg n (by omega), shl_one n (by omega), show ((n : Int) + 1) = ((n + 1 : Nat) : Int) by omega, shl_one (n + 1) (by omega)]
 rw [w64 (by omega) (by omega), w64 (by omega) (by omega)]
 simp only [Int.toNat_natCast]
 by_cases hb : p.2.2.1 = true
 ·simp [hb]
 ·simp [hb]
  omega
theorem ends_ev (k : Nat) (p : Par) (h : 1 ≤ p.2.1 ∧ p.2.1 ≤ 24) : perigeeref7_ends.f k p = some (lo p, hi p, ()) := by
 rw [← span_ev k p h, perigeeref7_ends.f_eq, telemetry_span.f_eq]
theorem isRaw_ev (k : Nat) (p : Par) (h : 1 ≤ p.2.1 ∧ p.2.1 ≤ 24) (n : Int) : perigeeref7_isRaw.f k p n = some (decide (lo p ≤ n ∧ n ≤ hi p), ()) := by
 rw [perigeeref7_isRaw.f_eq, ends_ev k p h]
 simp only [Option.bind_some, within_ev]
theorem span_bd (p : Par) (h : 1 ≤ p.2.1 ∧ p.2.1 ≤ 24) : -16777216 ≤ lo p ∧ hi p ≤ 16777216 := by
 have b1 := pow_bd (p.2.1 - 1).toNat (by omega)
 have b2 := pow_bd p.2.1.toNat (by omega)
 unfold lo hi
 constructor
 ·split <;> omega
 ·split <;> omega



def Dots (p : Par) (i : Nat) : Prop := ∀ j : Nat, i ≤ j → j < p.2.2.2.1.length → (lo p ≤ (p.2.2.2.1.getD j (Ty.dflt YShare)).1 ∧ (p.2.2.2.1.getD j (Ty.dflt YShare)).1 ≤ hi p) ∧ (-1000000000 ≤ (p.2.2.2.1.getD j (Ty.dflt YShare)).2 ∧ (p.2.2.2.1.getD j (Ty.dflt YShare)).2 ≤ 1000000000) ∧ (0 < j → (p.2.2.2.1.getD ((j : Int) - 1).toNat (Ty.dflt YShare)).1 < (p.2.2.2.1.getD j (Ty.dflt YShare)).1)
theorem dots_loop (p : Par) (hb : 1 ≤ p.2.1 ∧ p.2.1 ≤ 24) (hl : p.2.2.2.1.length ≤ 50) (s : Int)
 (hs : Ev (fun k => if 50 < (p.2.2.2.2.length : Int) then some (2, ()) else perigeeref7_checkPoints.c1 k p.1 p.2.1 p.2.2.1 p.2.2.2.1 p.2.2.2.2 p.2.2.2.2 (p.2.2.2.2.length : Int) 0) (s, ())) : ∀ (d i : Nat), i + d = p.2.2.2.1.length →
 Twin (fun k => telemetry_checkDots.c0 k p.1 p.2.1 p.2.2.1 p.2.2.2.1 p.2.2.2.2 (lo p) (hi p) p.2.2.2.1 (p.2.2.2.1.length : Int) i) (fun k => perigeeref7_checkPoints.c0 k p.1 p.2.1 p.2.2.1 p.2.2.2.1 p.2.2.2.2 p.2.2.2.1 (p.2.2.2.1.length : Int) i)
  (fun a b => b.1 = (if a.1 = 0 then s else a.1) ∧ (a.1 = 0 → Dots p i)) := by
 intro d
 induction d with
 | zero =>
  intro i hij
  refine Twin.stepL (fun k => by rw [telemetry_checkDots.c0_eq]) (Twin.stepR (fun k => by rw [perigeeref7_checkPoints.c0_eq]) ?_)
  simp only [decide_eq_true_eq]
  refine Twin.noL (by omega) (Twin.noR (by omega) ?_)
  exact ⟨(0, ()), (s, ()), Ev.now _, hs, rfl, fun _ j h1 h2 => by omega⟩
 | succ d ih =>
  intro i hij
  have next := ih (i + 1) (by omega)
  refine Twin.stepL (fun k => by rw [telemetry_checkDots.c0_eq]) (Twin.stepR (fun k => by rw [perigeeref7_checkPoints.c0_eq]) ?_)
  have hraw : ∀ k n, perigeeref7_isRaw.f k (p.1, (p.2.1, (p.2.2.1, (p.2.2.2.1, p.2.2.2.2)))) n = some (decide (lo p ≤ n ∧ n ≤ hi p), ()) := fun k n => isRaw_ev k p hb n
  rw [w64 (x := (i : Int) - 1) (by omega) (by omega), w64 (x := (i : Int) + 1) (by omega) (by omega)]
  simp only [in_ev, hraw, within_ev, Option.bind_some, decide_eq_true_eq, Bool.not_eq_true', decide_eq_false_iff_not, Int.toNat_natCast]
  have fin : (lo p ≤ (p.2.2.2.1.getD i (Ty.dflt YShare)).1 ∧ (p.2.2.2.1.getD i (Ty.dflt YShare)).1 ≤ hi p) → (-1000000000 ≤ (p.2.2.2.1.getD i (Ty.dflt YShare)).2 ∧ (p.2.2.2.1.getD i (Ty.dflt YShare)).2 ≤ 1000000000) → (0 < i → (p.2.2.2.1.getD ((i : Int) - 1).toNat (Ty.dflt YShare)).1 < (p.2.2.2.1.getD i (Ty.dflt YShare)).1) →
   Twin (fun k => telemetry_checkDots.c0 k p.1 p.2.1 p.2.2.1 p.2.2.2.1 p.2.2.2.2 (lo p) (hi p) p.2.2.2.1 (p.2.2.2.1.length : Int) ((i : Int) + 1)) (fun k => perigeeref7_checkPoints.c0 k p.1 p.2.1 p.2.2.1 p.2.2.2.1 p.2.2.2.2 p.2.2.2.1 (p.2.2.2.1.length : Int) ((i : Int) + 1))
    (fun a b => b.1 = (if a.1 = 0 then s else a.1) ∧ (a.1 = 0 → Dots p i)) := by
   intro g1 g2 hlt
   refine Twin.mono next fun a b ⟨h1, h2⟩ => ⟨h1, fun ha j h3 h4 => ?_⟩
   rcases Nat.lt_or_ge i j with h5 | h5
   ·exact h2 ha j h5 h4
   ·obtain rfl : j = i := by omega
    exact ⟨g1, g2, hlt⟩
  repeat' (first | (exfalso; omega) | (refine Twin.ifL (fun h_ => ?_) (fun h_ => ?_)) | (refine Twin.ifR (fun h_ => ?_) (fun h_ => ?_)))
  all_goals first | exact Twin.now ⟨rfl, fun h => absurd h (by decide)⟩ | exact fin (by omega) (by omega) (fun _ => by omega)
theorem dots_ev (p : Par) (hb : 1 ≤ p.2.1 ∧ p.2.1 ≤ 24) (s : Int)
 (hs : Ev (fun k => if 50 < (p.2.2.2.2.length : Int) then some (2, ()) else perigeeref7_checkPoints.c1 k p.1 p.2.1 p.2.2.1 p.2.2.2.1 p.2.2.2.2 p.2.2.2.2 (p.2.2.2.2.length : Int) 0) (s, ())) :
 Twin (fun k => telemetry_checkDots.f k p) (fun k => perigeeref7_checkPoints.f k p) (fun a b => b.1 = (if a.1 = 0 then s else a.1) ∧ (a.1 = 0 → Dots p 0 ∧ p.2.2.2.1.length ≤ 50 ∧ p.2.2.2.1.length ≠ 1)) := by
 simp only [telemetry_checkDots.f_eq, perigeeref7_checkPoints.f_eq, span_ev _ p hb, Option.bind_some, decide_eq_true_eq]
 repeat' (first | (exfalso; omega) | (refine Twin.ifL (fun h_ => ?_) (fun h_ => ?_)) | (refine Twin.ifR (fun h_ => ?_) (fun h_ => ?_)))
 ·exact Twin.now ⟨rfl, fun h => absurd h (by decide)⟩
 ·exact Twin.now ⟨rfl, fun h => absurd h (by decide)⟩
 ·exact Twin.mono (dots_loop p hb (by omega) s hs p.2.2.2.1.length 0 (by omega)) fun a b ⟨h1, h2⟩ => ⟨h1, fun h => ⟨h2 h, by omega, by omega⟩⟩

theorem words_loop (p : Par) (hb : 1 ≤ p.2.1 ∧ p.2.1 ≤ 24) (hl : p.2.2.2.2.length ≤ 50) (hn : ∀ z ∈ p.2.2.2.2, z.2.length ≤ 140737488351232) : ∀ (d i : Nat), i + d = p.2.2.2.2.length →
 Twin (fun k => telemetry_checkWords.c0 k p.1 p.2.1 p.2.2.1 p.2.2.2.1 p.2.2.2.2 (lo p) (hi p) p.2.2.2.2 (p.2.2.2.2.length : Int) i) (fun k => perigeeref7_checkPoints.c1 k p.1 p.2.1 p.2.2.1 p.2.2.2.1 p.2.2.2.2 p.2.2.2.2 (p.2.2.2.2.length : Int) i) (fun a b => a = b) := by
 intro d
 induction d with
 | zero =>
  intro i hij
  refine Twin.stepL (fun k => by rw [telemetry_checkWords.c0_eq]) (Twin.stepR (fun k => by rw [perigeeref7_checkPoints.c1_eq]) ?_)
  simp only [decide_eq_true_eq]
  refine Twin.noL (by omega) (Twin.noR (by omega) ?_)
  exact Twin.now rfl
 | succ d ih =>
  intro i hij
  have next := ih (i + 1) (by omega)
  refine Twin.stepL (fun k => by rw [telemetry_checkWords.c0_eq]) (Twin.stepR (fun k => by rw [perigeeref7_checkPoints.c1_eq]) ?_)
  have hraw : ∀ k n, perigeeref7_isRaw.f k (p.1, (p.2.1, (p.2.2.1, (p.2.2.2.1, p.2.2.2.2)))) n = some (decide (lo p ≤ n ∧ n ≤ hi p), ()) := fun k n => isRaw_ev k p hb n
  have h1 : ((i : Nat) : Int) < (p.2.2.2.2.length : Int) := by omega
  rw [w64 (x := (i : Int) - 1) (by omega) (by omega), w64 (x := (i : Int) + 1) (by omega) (by omega)]
  simp only [in_ev, hraw, within_ev, Option.bind_some, decide_eq_true_eq, Bool.not_eq_true', decide_eq_false_iff_not, Int.toNat_natCast]
  simp only [if_pos h1, if_pos (show (0 : Int) ≤ (i : Int) ∧ (i : Int) < (p.2.2.2.2.length : Int) by omega)]
  obtain ⟨b, e1, e2⟩ := word_ev (p.2.2.2.2.getD i (Ty.dflt YDue)).2 (hn _ (getD_mem (by omega)))
  refine Twin.ifL (fun h2 => Twin.yesR h2 (Twin.now rfl)) (fun h2 => Twin.noR h2 ?_)
  refine Twin.bindL e1 (Twin.bindR e2 ?_)
  refine Twin.ifL (fun h3 => Twin.yesR h3 (Twin.now rfl)) (fun h3 => Twin.noR h3 ?_)
  repeat' (first | (exfalso; omega) | (refine Twin.ifL (fun h_ => ?_) (fun h_ => ?_)) | (refine Twin.ifR (fun h_ => ?_) (fun h_ => ?_)))
  all_goals first | exact Twin.now rfl | exact next
theorem words_ev (p : Par) (hb : 1 ≤ p.2.1 ∧ p.2.1 ≤ 24) (hn : ∀ z ∈ p.2.2.2.2, z.2.length ≤ 140737488351232) :
 ∃ s, Ev (fun k => telemetry_checkWords.f k p) (s, ()) ∧ Ev (fun k => if 50 < (p.2.2.2.2.length : Int) then some (2, ()) else perigeeref7_checkPoints.c1 k p.1 p.2.1 p.2.2.1 p.2.2.2.1 p.2.2.2.2 p.2.2.2.2 (p.2.2.2.2.length : Int) 0) (s, ()) ∧ (s = 0 → p.2.2.2.2.length ≤ 50) := by
 have : Twin (fun k => telemetry_checkWords.f k p) (fun k => if 50 < (p.2.2.2.2.length : Int) then some (2, ()) else perigeeref7_checkPoints.c1 k p.1 p.2.1 p.2.2.1 p.2.2.2.1 p.2.2.2.2 p.2.2.2.2 (p.2.2.2.2.length : Int) 0) (fun a b => a = b ∧ (a.1 = 0 → p.2.2.2.2.length ≤ 50)) := by
  simp only [telemetry_checkWords.f_eq, span_ev _ p hb, Option.bind_some, decide_eq_true_eq]
  repeat' (first | (exfalso; omega) | (refine Twin.ifL (fun h_ => ?_) (fun h_ => ?_)) | (refine Twin.ifR (fun h_ => ?_) (fun h_ => ?_)))
  ·exact Twin.now ⟨rfl, fun h => absurd h (by decide)⟩
  ·exact Twin.mono (words_loop p hb (by omega) hn p.2.2.2.2.length 0 (by omega)) fun a b h => ⟨h, fun _ => by omega⟩
 obtain ⟨a, b, h1, h2, rfl, h3⟩ := this
 exact ⟨a.1, h1, h2, h3⟩

theorem first_ev (a b : Int) : Ev (fun k => kit_First.f k [a, b]) (if a = 0 then b else a, ()) := by
 refine Ev.eq (fun k => by rw [kit_First.f_eq]) ?_
 refine Ev.step (fun k => by rw [kit_First.c0_eq]) ?_
 simp only [decide_eq_true_eq, Bool.not_eq_true', decide_eq_false_iff_not, List.length_cons, List.length_nil]
 rw [show ([a, b] : List Int).getD (0 : Int).toNat 0 = a from rfl, show IntKind.wrap .i64 (0 + 1) = 1 from w64 (by omega) (by omega)]
 refine Ev.yes (by omega) (Ev.yes (by omega) (Ev.split (fun h => ?_) (fun h => ?_)))
 ·rw [if_neg h]
  exact Ev.now _
 ·have h : a = 0 := by simpa using h
  rw [if_pos h]
  refine Ev.step (fun k => by rw [kit_First.c0_eq]) ?_
  simp only [decide_eq_true_eq, Bool.not_eq_true', decide_eq_false_iff_not, List.length_cons, List.length_nil]
  rw [show ([a, b] : List Int).getD (1 : Int).toNat 0 = b from rfl, show IntKind.wrap .i64 (1 + 1) = 2 from w64 (by omega) (by omega)]
  refine Ev.yes (by omega) (Ev.yes (by omega) (Ev.split (fun h => Ev.now _) (fun h => ?_)))
  have h : b = 0 := by simpa using h
  refine Ev.step (fun k => by rw [kit_First.c0_eq]) ?_
  simp only [decide_eq_true_eq]
  refine Ev.no (by simp) ?_
  rw [h]
  exact Ev.now _

def Fit (p : Par) : Prop := (1 ≤ p.2.1 ∧ p.2.1 ≤ 24) ∧ Dots p 0 ∧ p.2.2.2.1.length ≤ 50 ∧ p.2.2.2.1.length ≠ 1 ∧ p.2.2.2.2.length ≤ 50
def Fits (l : List DParameter) (i : Nat) : Prop := ∀ j : Nat, i ≤ j → j < l.length → Fit (l.getD j (Ty.dflt YParameter)) ∧ (0 < j → lessS (l.getD ((j : Int) - 1).toNat (Ty.dflt YParameter)).1 (l.getD j (Ty.dflt YParameter)).1 = true)
theorem params_loop (l : List DParameter) (hl : l.length ≤ 500) (hn : ∀ z ∈ l, okT YParameter z) : ∀ (d i : Nat), i + d = l.length →
 Twin (fun k => telemetry_CheckParameters.c0 k l l (l.length : Int) i) (fun k => perigeeref7_CheckParameters.c0 k l l (l.length : Int) i) (fun a b => a = b ∧ (a.1 = 0 → Fits l i)) := by
 intro d
 induction d with
 | zero =>
  intro i hij
  refine Twin.stepL (fun k => by rw [telemetry_CheckParameters.c0_eq]) (Twin.stepR (fun k => by rw [perigeeref7_CheckParameters.c0_eq]) ?_)
  simp only [decide_eq_true_eq]
  refine Twin.noL (by omega) (Twin.noR (by omega) ?_)
  exact Twin.now ⟨rfl, fun _ j h1 h2 => by omega⟩
 | succ d ih =>
  intro i hij
  have next := ih (i + 1) (by omega)
  refine Twin.stepL (fun k => by rw [telemetry_CheckParameters.c0_eq]) (Twin.stepR (fun k => by rw [perigeeref7_CheckParameters.c0_eq]) ?_)
  have h1 : ((i : Nat) : Int) < (l.length : Int) := by omega
  have hp : okT YParameter (l.getD i (Ty.dflt YParameter)) := hn _ (getD_mem (by omega))
  rw [w64 (x := (i : Int) - 1) (by omega) (by omega), w64 (x := (i : Int) + 1) (by omega) (by omega)]
  simp only [in_ev, within_ev, Option.bind_some, decide_eq_true_eq, Bool.not_eq_true', decide_eq_false_iff_not, Int.toNat_natCast]
  simp only [if_pos h1, if_pos (show (0 : Int) ≤ (i : Int) ∧ (i : Int) < (l.length : Int) by omega)]
  obtain ⟨b, e1, e2⟩ := word_ev (l.getD i (Ty.dflt YParameter)).1 hp.1
  refine Twin.bindL e1 (Twin.bindR e2 ?_)
  refine Twin.ifL (fun h3 => Twin.yesR h3 (Twin.now ⟨rfl, fun h => absurd h (by decide)⟩)) (fun h3 => Twin.noR h3 ?_)
  refine Twin.ifL (fun h4 => Twin.yesR h4 (Twin.now ⟨rfl, fun h => absurd h (by decide)⟩)) (fun h4 => Twin.noR h4 ?_)
  have h4 : 1 ≤ (l.getD i (Ty.dflt YParameter)).2.1 ∧ (l.getD i (Ty.dflt YParameter)).2.1 ≤ 24 := by simpa using h4
  obtain ⟨s, w1, w2, w3⟩ := words_ev (l.getD i (Ty.dflt YParameter)) h4 (fun z hz => (hp.2.2.2.2.2.2 z hz).2)
  obtain ⟨a, c, d1, d2, d4, d3⟩ := dots_ev (l.getD i (Ty.dflt YParameter)) h4 s w2
  refine Twin.bindL d1 (Twin.bindL w1 (Twin.bindL (first_ev a.1 s) (Twin.bindR d2 ?_)))
  rw [d4]
  refine Twin.ifL (fun h5 => Twin.yesR h5 (Twin.now ⟨rfl, fun h => absurd h h5⟩)) (fun h5 => Twin.noR h5 ?_)
  have h5 : (if a.1 = 0 then s else a.1) = 0 := by simpa using h5
  have ha : a.1 = 0 := by
   by_cases h : a.1 = 0
   ·exact h
   ·rw [if_neg h] at h5; exact absurd h5 h
  rw [if_pos ha] at h5
  have fit : Fit (l.getD i (Ty.dflt YParameter)) := ⟨h4, (d3 ha).1, (d3 ha).2.1, (d3 ha).2.2, w3 h5⟩
  have fin : (0 < i → lessS (l.getD ((i : Int) - 1).toNat (Ty.dflt YParameter)).1 (l.getD i (Ty.dflt YParameter)).1 = true) → Twin (fun k => telemetry_CheckParameters.c0 k l l (l.length : Int) ((i : Int) + 1)) (fun k => perigeeref7_CheckParameters.c0 k l l (l.length : Int) ((i : Int) + 1)) (fun a b => a = b ∧ (a.1 = 0 → Fits l i)) := by
   intro hlt
   refine Twin.mono next fun a b ⟨h1, h2⟩ => ⟨h1, fun ha j h3 h4 => ?_⟩
   rcases Nat.lt_or_ge i j with h5 | h5
   ·exact h2 ha j h5 h4
   ·obtain rfl : j = i := by omega
    exact ⟨fit, hlt⟩
  refine Twin.ifL (fun h6 => Twin.yesR h6 ?_) (fun h6 => Twin.noR h6 (fin fun h => absurd h (by omega)))
  refine Twin.yesL (by omega) (Twin.yesR (by omega) ?_)
  refine Twin.ifL (fun h7 => Twin.yesR h7 (Twin.now ⟨rfl, fun h => absurd h (by decide)⟩)) (fun h7 => Twin.noR h7 (fin fun _ => by simpa using h7))
theorem params_ev (l : List DParameter) (h : okT (.sl YParameter) l) : ∃ c, Ev (fun k => telemetry_CheckParameters.f k l) (c, ()) ∧ Ev (fun k => perigeeref7_CheckParameters.f k l) (c, ()) ∧ (c = 0 → l.length ≤ 500 ∧ Fits l 0) := by
 have : Twin (fun k => telemetry_CheckParameters.f k l) (fun k => perigeeref7_CheckParameters.f k l) (fun a b => a = b ∧ (a.1 = 0 → l.length ≤ 500 ∧ Fits l 0)) := by
  simp only [telemetry_CheckParameters.f_eq, perigeeref7_CheckParameters.f_eq, decide_eq_true_eq]
  repeat' (first | (exfalso; omega) | (refine Twin.ifL (fun h_ => ?_) (fun h_ => ?_)) | (refine Twin.ifR (fun h_ => ?_) (fun h_ => ?_)))
  ·exact Twin.now ⟨rfl, fun h => absurd h (by decide)⟩
  ·exact Twin.mono (params_loop l (by omega) h.2.2 l.length 0 (by omega)) fun a b ⟨h1, h2⟩ => ⟨h1, fun h => ⟨by omega, h2 h⟩⟩
 obtain ⟨a, b, h1, h2, rfl, h3⟩ := this
 exact ⟨a.1, h1, h2, h3⟩
end Go.Proofs.Ytcefbdknoelacaa.Pure

-- YtcefbdknoelacaaQ2
set_option linter.unusedVariables false
set_option linter.unusedSimpArgs false
namespace Go.Proofs.Ytcefbdknoelacaa.Pure
open Go Go.Proofs.Ytcefbdknoelacaa.A

theorem u64_in {x : Int} (h : 0 ≤ x) (h' : x < 18446744073709551616) : IntKind.wrap .u64 x = x := by
 have e1 : (2 : Int) ^ 64 = 18446744073709551616 := rfl
 simp only [IntKind.wrap, IntKind.bits, IntKind.signed, e1, Bool.false_and]
 simp
 omega
theorem shr_half (x : Int) : shrI .u64 x 1 = x / 2 := by
 unfold shrI
 exact Int.fdiv_eq_ediv_of_nonneg _ (by decide)

abbrev nameOf (l : List DParameter) (j : Nat) : List UInt8 := (l.getD j (Ty.dflt YParameter)).1
theorem sorted {l : List DParameter} (h : Fits l 0) : ∀ (b a : Nat), a < b → b < l.length → lessS (nameOf l a) (nameOf l b) = true := by
 intro b
 induction b with
 | zero => intro a h1; omega
 | succ b ih =>
  intro a h1 h2
  have h3 := (h (b + 1) (by omega) h2).2 (by omega)
  rw [show (((b + 1 : Nat) : Int) - 1).toNat = b by omega] at h3
  rcases Nat.lt_or_ge a b with h4 | h4
  ·exact less_trans (ih a h4 (by omega)) h3
  ·obtain rfl : a = b := by omega
   exact h3
structure Place (l : List DParameter) (t : List UInt8) (p : Nat) : Prop where
 le : p ≤ l.length
 low : ∀ j, j < p → lessS (nameOf l j) t = true
 high : ∀ j, p ≤ j → j < l.length → ¬ lessS (nameOf l j) t = true
theorem search_loop (l : List DParameter) (hl : l.length ≤ 500) (hf : Fits l 0) (t : List UInt8) : ∀ (d i j : Nat), j = i + d → j ≤ l.length → (∀ m, m < i → lessS (nameOf l m) t = true) → (∀ m, j ≤ m → m < l.length → ¬ lessS (nameOf l m) t = true) →
 ∃ p, Place l t p ∧ Ev (fun k => slices_BinarySearchFunc_string.c0 k l t (l.length : Int) i j) ((p : Int), decide (p < l.length ∧ nameOf l p = t), ()) := by
 intro d
 induction d using Nat.strongRecOn with
 | _ d ih =>
  intro i j hj hjl hlow hhigh
  rcases Nat.eq_zero_or_pos d with h0 | h0
  ·subst h0
   have hij : j = i := by omega
   subst hij
   refine ⟨j, ⟨hjl, hlow, hhigh⟩, ?_⟩
   refine Ev.step (fun k => by rw [slices_BinarySearchFunc_string.c0_eq]) ?_
   simp only [decide_eq_true_eq, telemetry_parameter_1.f_eq, Option.bind_some]
   refine Ev.no (by omega) ?_
   by_cases h1 : (j : Int) < (l.length : Int)
   ·refine Ev.yes h1 (Ev.yes (by omega) (Ev.is ?_))
    rw [Int.toNat_natCast]
    have h2 := hhigh j (Nat.le_refl _) (by omega)
    unfold cmpS
    rw [if_neg h2]
    show ((j : Int), decide _, ()) = ((j : Int), decide (j < l.length ∧ (l.getD j (Ty.dflt YParameter)).1 = t), ())
    by_cases h4 : (l.getD j (Ty.dflt YParameter)).1 = t
    ·rw [h4, show lessS t t = false from less_irrefl t, decide_eq_true (p := j < l.length ∧ t = t) ⟨by omega, rfl⟩]
     rfl
    ·have h6 : lessS t (l.getD j (Ty.dflt YParameter)).1 = true := less_tri h2 h4
     rw [if_pos h6]
     rw [decide_eq_false (p := j < l.length ∧ (l.getD j (Ty.dflt YParameter)).1 = t) (fun h => h4 h.2)]
     rfl
   ·refine Ev.no h1 (Ev.is ?_)
    rw [decide_eq_false (p := j < l.length ∧ nameOf l j = t) (by omega)]
  ·have hm : ∃ m : Nat, IntKind.wrap .i64 (shrI .u64 (IntKind.wrap .u64 (IntKind.wrap .i64 ((i : Int) + (j : Int)))) 1) = (m : Int) ∧ m = (i + j) / 2 := by
    refine ⟨(i + j) / 2, ?_, rfl⟩
    rw [w64 (x := (i : Int) + (j : Int)) (by omega) (by omega), u64_in (by omega) (by omega), shr_half, w64 (by omega) (by omega)]
    omega
   obtain ⟨m, hm, hm2⟩ := hm
   have hmi : i ≤ m ∧ m < j := by omega
   rcases Classical.em (lessS (nameOf l m) t = true) with h1 | h1
   ·obtain ⟨p, hp, hev⟩ := ih (j - (m + 1)) (by omega) (m + 1) j (by omega) hjl (fun a ha => by
     rcases Nat.lt_or_ge a m with h2 | h2
     ·exact less_trans (sorted hf m a h2 (by omega)) h1
     ·obtain rfl : a = m := by omega
      exact h1) hhigh
    refine ⟨p, hp, ?_⟩
    refine Ev.step (fun k => by rw [slices_BinarySearchFunc_string.c0_eq]) ?_
    rw [hm, w64 (x := (m : Int) + 1) (by omega) (by omega)]
    simp only [decide_eq_true_eq, telemetry_parameter_1.f_eq, Option.bind_some, Int.toNat_natCast, cmpS]
    refine Ev.yes (by omega) (Ev.yes (by omega) (Ev.yes ?_ hev))
    rw [if_pos h1]; decide
   ·obtain ⟨p, hp, hev⟩ := ih (m - i) (by omega) i m (by omega) (by omega) hlow (fun a ha hb => by
     rcases Nat.lt_or_ge m a with h2 | h2
     ·intro h3
      exact h1 (less_trans (sorted hf a m h2 hb) h3)
     ·obtain rfl : a = m := by omega
      exact h1)
    refine ⟨p, hp, ?_⟩
    refine Ev.step (fun k => by rw [slices_BinarySearchFunc_string.c0_eq]) ?_
    rw [hm]
    simp only [decide_eq_true_eq, telemetry_parameter_1.f_eq, Option.bind_some, Int.toNat_natCast, cmpS]
    refine Ev.yes (by omega) (Ev.yes (by omega) (Ev.no ?_ hev))
    rw [if_neg h1]; split <;> omega

def findP (l : List DParameter) (t : List UInt8) : Option DParameter := l.find? fun p => decide (p.1 = t)
def fnd : Option DParameter → DParameter × Bool × Unit
 | some p => (p, true, ())
 | none => (([], (0, (false, ([], [])))), false, ())
theorem findP_some {l : List DParameter} {t : List UInt8} {p : DParameter} (h : findP l t = some p) : p ∈ l ∧ p.1 = t :=
 ⟨List.mem_of_find?_eq_some h, by simpa using List.find?_some h⟩
theorem findP_none {l : List DParameter} {t : List UInt8} (h : findP l t = none) : ∀ p ∈ l, p.1 ≠ t := by
 intro p hp e
 have := List.find?_eq_none.1 h p hp
 simp [e] at this
theorem inj_name {l : List DParameter} (hf : Fits l 0) {p q : DParameter} (hp : p ∈ l) (hq : q ∈ l) (h : p.1 = q.1) : p = q := by
 obtain ⟨i, hi, rfl⟩ := List.getElem_of_mem hp
 obtain ⟨j, hj, rfl⟩ := List.getElem_of_mem hq
 have no : ∀ a b : Nat, (ha : a < l.length) → (hb : b < l.length) → a < b → l[a].1 ≠ l[b].1 := by
  intro a b ha hb hab
  have := sorted hf b a hab hb
  unfold nameOf at this
  rw [getD_nat _ _ _ ha, getD_nat _ _ _ hb] at this
  exact less_ne this
 rcases Nat.lt_trichotomy i j with h1 | h1 | h1
 ·exact absurd h (no i j hi hj h1)
 ·subst h1; rfl
 ·exact absurd h.symm (no j i hj hi h1)
theorem findP_of {l : List DParameter} (hf : Fits l 0) {p : DParameter} (hp : p ∈ l) : findP l p.1 = some p := by
 cases h : findP l p.1 with
 | none => exact absurd rfl (findP_none h p hp)
 | some q => obtain ⟨h1, h2⟩ := findP_some h; rw [inj_name hf h1 hp h2]
theorem mem_fit {l : List DParameter} (hf : Fits l 0) {p : DParameter} (hp : p ∈ l) : Fit p := by
 obtain ⟨i, hi, rfl⟩ := List.getElem_of_mem hp
 have := (hf i (by omega) hi).1
 rw [getD_nat _ _ _ hi] at this
 exact this
theorem parameter_ev (l : List DParameter) (hl : l.length ≤ 500) (hf : Fits l 0) (t : List UInt8) : Ev (fun k => telemetry_parameter.f k l t) (fnd (findP l t)) := by
 obtain ⟨p, hp, hev⟩ := search_loop l hl hf t l.length 0 l.length (by omega) (by omega) (fun m h => by omega) (fun m h h' => by omega)
 refine Ev.eq (fun k => by rw [telemetry_parameter.f_eq, slices_BinarySearchFunc_string.f_eq]) ?_
 refine Ev.bind hev ?_
 by_cases h : p < l.length ∧ nameOf l p = t
 ·have : findP l t = some (l.getD p (Ty.dflt YParameter)) := by
   rw [← h.2]; exact findP_of hf (getD_mem h.1)
  rw [this]
  simp only [decide_eq_true h]
  refine Ev.no (by simp) (Ev.yes (by omega) ?_)
  rw [Int.toNat_natCast]
  exact Ev.now _
 ·have : findP l t = none := by
   cases e : findP l t with
   | none => rfl
   | some q =>
    exfalso
    obtain ⟨h1, h2⟩ := findP_some e
    obtain ⟨i, hi, rfl⟩ := List.getElem_of_mem h1
    have e1 : nameOf l i = t := by unfold nameOf; rw [getD_nat _ _ _ hi]; exact h2
    rcases Nat.lt_trichotomy i p with h3 | h3 | h3
    ·exact less_ne (hp.low i h3) e1
    ·subst h3; exact h ⟨hi, e1⟩
    ·have := sorted hf i p h3 hi
     rw [e1] at this
     exact hp.high p (Nat.le_refl _) (by omega) this
  rw [this]
  simp only [decide_eq_false h]
  exact Ev.yes (by simp) (Ev.now _)
theorem find_ev (l : List DParameter) (hl : l.length ≤ 4611686018427387904) (t : List UInt8) : Ev (fun k => perigeeref7_find.f k l t) (fnd (findP l t)) := by
 have loop : ∀ (d i : Nat), i + d = l.length → Ev (fun k => perigeeref7_find.c0 k t [] 0 false [] [] l (l.length : Int) i) (fnd (findP (l.drop i) t)) := by
  intro d
  induction d with
  | zero =>
   intro i hi
   refine Ev.step (fun k => by rw [perigeeref7_find.c0_eq]) ?_
   simp only [decide_eq_true_eq]
   refine Ev.no (by omega) ?_
   rw [List.drop_of_length_le (by omega)]
   exact Ev.now _
  | succ d ih =>
   intro i hi
   have next := ih (i + 1) (by omega)
   refine Ev.step (fun k => by rw [perigeeref7_find.c0_eq]) ?_
   rw [w64 (x := (i : Int) + 1) (by omega) (by omega), List.drop_eq_getElem_cons (show i < l.length by omega)]
   simp only [decide_eq_true_eq, Int.toNat_natCast, getD_nat (Ty.dflt YParameter) l i (by omega)]
   refine Ev.yes (by omega) (Ev.yes (by omega) (Ev.split (fun h => ?_) (fun h => ?_)))
   ·unfold findP
    rw [List.find?_cons_of_pos (by simpa using h)]
    exact Ev.now _
   ·unfold findP
    rw [List.find?_cons_of_neg (by simpa using h)]
    exact next
 refine Ev.eq (fun k => by rw [perigeeref7_find.f_eq]) ?_
 exact loop l.length 0 (by omega)

end Go.Proofs.Ytcefbdknoelacaa.Pure

-- YtcefbdknoelacaaBt
set_option linter.unusedVariables false
set_option linter.unusedSimpArgs false
namespace Go.Proofs.Ytcefbdknoelacaa.Pure
open Go Go.Proofs.Ytcefbdknoelacaa.A

theorem and_bit (x : Int) : bitsOp .i64 .and x 1 = x % 2 := by
 have e0 : (BitVec.ofInt 64 x &&& BitVec.ofInt 64 1).toNat = (x % 2).toNat := by
  have e1 : (BitVec.ofInt 64 1).toNat = 1 := by decide
  rw [BitVec.toNat_and, e1, Nat.and_one_is_mod, BitVec.toNat_ofInt]
  have : ((2 ^ 64 : Nat) : Int) = 18446744073709551616 := rfl
  rw [this]
  omega
 show IntKind.wrap .i64 ((BitVec.ofInt 64 x &&& BitVec.ofInt 64 1).toNat : Nat) = x % 2
 rw [e0, w64 (by omega) (by omega)]
 omega
theorem shr64 (x : Int) (k : Nat) (hk : k ≤ 64) : shrI .i64 x (k : Int) = x / 2 ^ k := by
 unfold shrI
 rw [Int.toNat_natCast, show IntKind.bits .i64 = 64 from rfl, Nat.min_eq_left hk]
 exact Int.fdiv_eq_ediv_of_nonneg _ (by have : (0 : Int) < 2 ^ k := Int.pow_pos (by omega); omega)
def bitAt (b : List Int) (i : Nat) : Bool := (b.getD (i / 8) 0).toNat.testBit (7 - i % 8)
def Bytes (b : List Int) : Prop := ∀ x ∈ b, 0 ≤ x ∧ x < 256
theorem Bytes.at {b : List Int} (h : Bytes b) (i : Nat) : 0 ≤ b.getD i 0 ∧ b.getD i 0 < 256 := by
 rcases Nat.lt_or_ge i b.length with hi | hi
 ·exact h _ (getD_mem hi)
 ·rw [List.getD_eq_getElem?_getD, List.getElem?_eq_none hi]; simp
theorem bytes_ext {b c : List Int} (hb : Bytes b) (hc : Bytes c) (hl : b.length = c.length) (h : ∀ i, i < 8 * b.length → bitAt b i = bitAt c i) : b = c := by
 refine List.ext_getElem hl fun j h1 h2 => ?_
 have b1 := hb.at j
 have c1 := hc.at j
 have e1 : b.getD j 0 = b[j] := getD_nat 0 b j h1
 have e2 : c.getD j 0 = c[j] := getD_nat 0 c j h2
 have : (b.getD j 0).toNat = (c.getD j 0).toNat := by
  refine Nat.eq_of_testBit_eq fun t => ?_
  rcases Nat.lt_or_ge t 8 with ht | ht
  ·have := h (8 * j + (7 - t)) (by omega)
   unfold bitAt at this
   rw [show (8 * j + (7 - t)) / 8 = j by omega, show 7 - (8 * j + (7 - t)) % 8 = t by omega] at this
   exact this
  ·have p : (256 : Nat) ≤ 2 ^ t := Nat.pow_le_pow_right (n := 2) (by omega) ht
   rw [Nat.testBit_lt_two_pow (by omega), Nat.testBit_lt_two_pow (by omega)]
 omega
structure Pack (b : List Int) (L : List Bool) : Prop where
 by_ : Bytes b
 len : b.length = (L.length + 7) / 8
 bit : ∀ i, bitAt b i = L.getD i false
theorem Pack.unique {b c : List Int} {L : List Bool} (h : Pack b L) (h' : Pack c L) : b = c :=
 bytes_ext h.by_ h'.by_ (h.len.trans h'.len.symm) fun i _ => (h.bit i).trans (h'.bit i).symm
theorem Pack.nil : Pack [] [] := ⟨fun x h => by simp at h, rfl, fun i => by simp [bitAt]⟩
def putAt (b : List Int) (i : Nat) (x : Nat) : List Int := b.set (i / 8) ((((b.getD (i / 8) 0).toNat ||| (x <<< (7 - i % 8))) : Nat) : Int)
theorem one_shl_testBit (k t : Nat) : (1 <<< k).testBit t = decide (k = t) := by
 rw [Nat.one_shiftLeft]; exact Nat.testBit_two_pow
theorem bitAt_put {b : List Int} (hb : Bytes b) (i : Nat) (hi : i < 8 * b.length) (x : Nat) (hx : x ≤ 1) (j : Nat) : bitAt (putAt b i x) j = (bitAt b j || (decide (j = i) && decide (x = 1))) := by
 unfold bitAt putAt
 rw [List.getD_eq_getElem?_getD, List.getElem?_set]
 by_cases h1 : i / 8 = j / 8
 ·rw [if_pos h1, if_pos (by omega)]
  simp only [Option.getD_some, Int.toNat_natCast, Nat.testBit_or, ← h1]
  congr 1
  rcases (show x = 0 ∨ x = 1 by omega) with rfl | rfl
  ·simp
  ·rw [one_shl_testBit]
   simp only [decide_true, Bool.and_true]
   exact decide_eq_decide.2 ⟨fun h => by omega, fun h => by omega⟩
 ·rw [if_neg h1, ← List.getD_eq_getElem?_getD]
  have : ¬ j = i := fun h => h1 (by rw [h])
  simp [this]
theorem bytes_put {b : List Int} (hb : Bytes b) (i : Nat) (x : Nat) (hx : x ≤ 1) : Bytes (putAt b i x) := by
 intro y hy
 unfold putAt at hy
 rcases List.mem_or_eq_of_mem_set hy with h | h
 ·exact hb y h
 ·have := hb.at (i / 8)
  have h1 : (b.getD (i / 8) 0).toNat ||| (x <<< (7 - i % 8)) < 2 ^ 8 := by
   refine Nat.or_lt_two_pow (by omega) ?_
   rw [Nat.shiftLeft_eq]
   have : 2 ^ (7 - i % 8) ≤ 2 ^ 7 := Nat.pow_le_pow_right (by omega) (by omega)
   have : x * 2 ^ (7 - i % 8) ≤ 1 * 2 ^ (7 - i % 8) := Nat.mul_le_mul_right _ hx
   omega
  rw [h]
  omega
theorem putAt_length (b : List Int) (i x : Nat) : (putAt b i x).length = b.length := by simp [putAt]
theorem Pack.push {b : List Int} {L : List Bool} (h : Pack b L) (x : Nat) (hx : x ≤ 1) : Pack (putAt (if L.length % 8 = 0 then b ++ [0] else b) L.length x) (L ++ [decide (x = 1)]) := by
 have hb2 : Bytes (if L.length % 8 = 0 then b ++ [0] else b) := by
  split
  ·intro y hy
   rcases List.mem_append.1 hy with hy | hy
   ·exact h.by_ y hy
   ·simp at hy; omega
  ·exact h.by_
 have hl2 : (if L.length % 8 = 0 then b ++ [0] else b).length = (L.length + 8) / 8 := by
  have := h.len
  split
  ·simp only [List.length_append, List.length_cons, List.length_nil]; omega
  ·omega
 have hbit : ∀ j, bitAt (if L.length % 8 = 0 then b ++ [0] else b) j = bitAt b j := by
  intro j
  split
  ·unfold bitAt
   congr 2
   rw [List.getD_eq_getElem?_getD, List.getD_eq_getElem?_getD]
   rcases Nat.lt_trichotomy (j / 8) b.length with h1 | h1 | h1
   ·rw [List.getElem?_append_left h1]
   ·rw [List.getElem?_append_right (by omega), h1, Nat.sub_self, List.getElem?_eq_none (Nat.le_refl _)]; rfl
   ·rw [List.getElem?_eq_none (by simp; omega), List.getElem?_eq_none (by omega)]
  ·rfl
 refine ⟨bytes_put hb2 _ x hx, ?_, fun i => ?_⟩
 ·rw [putAt_length, hl2, List.length_append, List.length_cons, List.length_nil]
 ·rw [bitAt_put hb2 _ (by rw [hl2]; omega) x hx, hbit, h.bit]
  rw [List.getD_eq_getElem?_getD, List.getD_eq_getElem?_getD, List.getElem?_append]
  rcases Nat.lt_trichotomy i L.length with h1 | h1 | h1
  ·rw [if_pos h1]
   have : ¬ i = L.length := by omega
   simp [this]
  ·subst h1
   simp
  ·rw [if_neg (by omega), List.getElem?_eq_none (by omega), List.getElem?_eq_none (by simp; omega)]
   have : ¬ i = L.length := by omega
   simp [this]

end Go.Proofs.Ytcefbdknoelacaa.Pure

-- YtcefbdknoelacaaQ3
set_option linter.unusedVariables false
set_option linter.unusedSimpArgs false
namespace Go.Proofs.Ytcefbdknoelacaa.Pure
open Go Go.Proofs.Ytcefbdknoelacaa.A

theorem toNat_succ (m : Nat) : ((m : Int) + 1).toNat = m + 1 := by omega
theorem gcd_tmod (a b : Int) : Int.gcd b (Int.tmod a b) = Int.gcd a b := by
 show Nat.gcd b.natAbs (Int.tmod a b).natAbs = Nat.gcd a.natAbs b.natAbs
 rw [Int.natAbs_tmod, Nat.gcd_comm, ← Nat.gcd_rec, Nat.gcd_comm]
theorem tmod_lt (a b : Int) (h : b ≠ 0) : (Int.tmod a b).natAbs < b.natAbs := by
 rw [Int.natAbs_tmod]
 exact Nat.mod_lt _ (by omega)
theorem gcdT_ev : ∀ (n : Nat) (a b : Int), b.natAbs = n → 0 ≤ a → 0 ≤ b → Ev (fun k => kit_Gcd.f k a b) ((Int.gcd a b : Int), ()) := by
 intro n
 induction n using Nat.strongRecOn with
 | _ n ih =>
  intro a b hn ha hb
  simp only [kit_Gcd.f_eq] at ih ⊢
  refine Ev.step (fun k => by rw [kit_Gcd.c0_eq]) ?_
  simp only [decide_eq_true_eq]
  by_cases h : 0 < b
  ·refine Ev.yes h (Ev.yes (by omega) ?_)
   have := ih (Int.tmod a b).natAbs (by have := tmod_lt a b (by omega); omega) b (Int.tmod a b) rfl hb (Int.tmod_nonneg _ ha)
   rw [gcd_tmod] at this
   exact this
  ·obtain rfl : b = 0 := by omega
   refine Ev.no (by omega) (Ev.is ?_)
   rw [Int.gcd_zero_right, show ((a.natAbs : Nat) : Int) = a by omega]
theorem gcdR_ev : ∀ (n : Nat) (a b : Int), b.natAbs = n → a.natAbs ≤ 9223372036854775807 → b.natAbs ≤ 9223372036854775807 → Ev (fun k => perigeeref7_gcd.f k a b) ((Int.gcd a b : Int), ()) := by
 intro n
 induction n using Nat.strongRecOn with
 | _ n ih =>
  intro a b hn ha hb
  simp only [perigeeref7_gcd.f_eq] at ih ⊢
  refine Ev.step (fun k => by rw [perigeeref7_gcd.c0_eq]) ?_
  simp only [Bool.not_eq_true', decide_eq_false_iff_not]
  by_cases h : b = 0
  ·subst h
   refine Ev.no (fun h => h rfl) (Ev.is ?_)
   rw [Int.gcd_zero_right, w64 (by omega) (by omega), show mxI a (0 - a) = ((a.natAbs : Nat) : Int) by unfold mxI; split <;> omega]
  ·refine Ev.yes h (Ev.yes h ?_)
   have h1 := tmod_lt a b h
   have := ih (Int.tmod a b).natAbs (by omega) b (Int.tmod a b) rfl hb (by omega)
   rw [gcd_tmod] at this
   exact this
theorem tdiv_bd (a b : Int) : (Int.tdiv a b).natAbs ≤ a.natAbs := by
 rw [Int.natAbs_tdiv]
 exact Nat.div_le_self _ _
abbrev R (p : DParameter) (j : Nat) : Int := (p.2.2.2.1.getD j (Ty.dflt YShare)).1
abbrev V (p : DParameter) (j : Nat) : Int := (p.2.2.2.1.getD j (Ty.dflt YShare)).2
def den (p : DParameter) (j : Nat) : Int := R p (j + 1) - R p j
theorem R_bd {p : DParameter} (h : Fit p) (j : Nat) (hj : j < p.2.2.2.1.length) : -16777216 ≤ R p j ∧ R p j ≤ 16777216 := by
 have h1 := (h.2.1 j (by omega) hj).1
 have h2 := span_bd p h.1
 have h3 : R p j = (p.2.2.2.1.getD j (Ty.dflt YShare)).1 := rfl
 omega
theorem V_bd {p : DParameter} (h : Fit p) (j : Nat) (hj : j < p.2.2.2.1.length) : -1000000000 ≤ V p j ∧ V p j ≤ 1000000000 := (h.2.1 j (by omega) hj).2.1
theorem R_up {p : DParameter} (h : Fit p) (j : Nat) (hj : j + 1 < p.2.2.2.1.length) : R p j < R p (j + 1) := by
 have h1 := (h.2.1 (j + 1) (by omega) hj).2.2 (by omega)
 rw [show (((j + 1 : Nat) : Int) - 1).toNat = j by omega] at h1
 exact h1

abbrev PV (P : List DShare) (j : Nat) : Int := (P.getD j (Ty.dflt YShare)).2
def Dir (P : List DShare) (s : Int) : Prop := (s = 1 ∨ s = -1) ∧ 2 ≤ P.length ∧ ∀ j : Nat, j + 1 < P.length → s * PV P j < s * PV P (j + 1)
def DirRes (P : List DShare) (a b : Int × Unit) : Prop := a.1 = b.1 ∧ (a.1 ≠ 0 → Dir P a.1)
theorem side_loop (P : List DShare) (hl : P.length ≤ 50) (h2 : 2 ≤ P.length) : ∀ (d i : Nat) (up dn : Bool), 1 ≤ i → i + d = P.length → (up = true → ∀ j : Nat, j + 1 < i → PV P j < PV P (j + 1)) → (dn = true → ∀ j : Nat, j + 1 < i → PV P (j + 1) < PV P j) →
 Twin (fun k => telemetry_side.c0 k P up dn i) (fun k => perigeeref7_direction.c0 k P up dn i) (DirRes P) := by
 intro d
 induction d with
 | zero =>
  intro i up dn hi hij hu hd
  refine Twin.stepL (fun k => by rw [telemetry_side.c0_eq]) (Twin.stepR (fun k => by rw [perigeeref7_direction.c0_eq]) ?_)
  simp only [decide_eq_true_eq]
  refine Twin.noL (by omega) (Twin.noL (by omega) (Twin.noR (by omega) ?_))
  cases up with
  | true =>
   refine Twin.yesL rfl (Twin.yesR rfl (Twin.now ⟨rfl, fun _ => ⟨.inl rfl, h2, fun j hj => ?_⟩⟩))
   have := hu rfl j (by omega)
   omega
  | false =>
   refine Twin.noL (by simp) (Twin.noR (by simp) ?_)
   cases dn with
   | true =>
    refine Twin.yesL rfl (Twin.yesR rfl (Twin.now ⟨rfl, fun _ => ⟨.inr rfl, h2, fun j hj => ?_⟩⟩))
    have := hd rfl j (by omega)
    omega
   | false => exact Twin.noL (by simp) (Twin.noR (by simp) (Twin.now ⟨rfl, fun h => absurd rfl h⟩))
 | succ d ih =>
  intro i up dn hi hij hu hd
  refine Twin.stepL (fun k => by rw [telemetry_side.c0_eq]) (Twin.stepR (fun k => by rw [perigeeref7_direction.c0_eq]) ?_)
  obtain ⟨m, rfl⟩ : ∃ m, i = m + 1 := ⟨i - 1, by omega⟩
  rw [w64 (x := ((m + 1 : Nat) : Int) + 1) (by omega) (by omega), w64 (x := ((m + 1 : Nat) : Int) - 1) (by omega) (by omega), show ((m + 1 : Nat) : Int) - 1 = (m : Int) by omega]
  have next := fun up dn => ih (m + 1 + 1) up dn (by omega) (by omega)
  rw [show (((m + 1 + 1 : Nat)) : Int) = ((m + 1 : Nat) : Int) + 1 by omega] at next
  simp only [Int.toNat_natCast]
  have hu' : up = true → decide ((P.getD m (Ty.dflt YShare)).2 < (P.getD (m + 1) (Ty.dflt YShare)).2) = true → ∀ j : Nat, j + 1 < m + 1 + 1 → PV P j < PV P (j + 1) := by
   intro h h' j hj
   rcases Nat.lt_or_ge (j + 1) (m + 1) with h3 | h3
   ·exact hu h j h3
   ·obtain rfl : j = m := by omega
    exact of_decide_eq_true h'
  have hd' : dn = true → decide ((P.getD (m + 1) (Ty.dflt YShare)).2 < (P.getD m (Ty.dflt YShare)).2) = true → ∀ j : Nat, j + 1 < m + 1 + 1 → PV P (j + 1) < PV P j := by
   intro h h' j hj
   rcases Nat.lt_or_ge (j + 1) (m + 1) with h3 | h3
   ·exact hd h j h3
   ·obtain rfl : j = m := by omega
    exact of_decide_eq_true h'
  refine Twin.yesL (by simp; omega) (Twin.yesR (by simp; omega) ?_)
  cases up with
  | true =>
   refine Twin.yesL rfl (Twin.yesR rfl (Twin.yesL (by omega) (Twin.yesR (by omega) (Twin.yesL (by omega) (Twin.yesR (by omega) ?_)))))
   cases dn with
   | true => exact Twin.yesL rfl (Twin.yesR rfl (Twin.yesL (by omega) (Twin.yesR (by omega) (Twin.yesL (by omega) (Twin.yesR (by omega) (next _ _ (hu' rfl) (hd' rfl)))))))
   | false => exact Twin.noL (by simp) (Twin.noR (by simp) (next _ _ (hu' rfl) (fun h => absurd h (by simp))))
  | false =>
   refine Twin.noL (by simp) (Twin.noR (by simp) ?_)
   cases dn with
   | true => exact Twin.yesL rfl (Twin.yesR rfl (Twin.yesL (by omega) (Twin.yesR (by omega) (Twin.yesL (by omega) (Twin.yesR (by omega) (next _ _ (fun h => absurd h (by simp)) (hd' rfl)))))))
   | false => exact Twin.noL (by simp) (Twin.noR (by simp) (next _ _ (fun h => absurd h (by simp)) (fun h => absurd h (by simp))))
theorem side_ev (P : List DShare) (hl : P.length ≤ 50) : ∃ s, Ev (fun k => telemetry_side.f k P) (s, ()) ∧ Ev (fun k => perigeeref7_direction.f k P) (s, ()) ∧ (s ≠ 0 → Dir P s) := by
 have : Twin (fun k => telemetry_side.f k P) (fun k => perigeeref7_direction.f k P) (DirRes P) := by
  simp only [telemetry_side.f_eq, perigeeref7_direction.f_eq]
  rcases Nat.lt_or_ge P.length 2 with h | h
  ·rw [decide_eq_false (p := 1 < (P.length : Int)) (by omega)]
   refine Twin.stepL (fun k => by rw [telemetry_side.c0_eq]) (Twin.stepR (fun k => by rw [perigeeref7_direction.c0_eq]) ?_)
   simp only [decide_eq_true_eq]
   exact Twin.noL (by omega) (Twin.noR (by omega) (Twin.yesL (by omega) (Twin.noR (by simp) (Twin.noR (by simp) (Twin.now ⟨rfl, fun h => absurd rfl h⟩)))))
  ·rw [decide_eq_true (p := 1 < (P.length : Int)) (by omega)]
   exact side_loop P hl h (P.length - 1) 1 true true (by omega) (by omega) (fun _ j hj => by omega) (fun _ j hj => by omega)
 obtain ⟨a, b, h1, h2, h3, h4⟩ := this
 exact ⟨a.1, h1, by rw [show (a.1, ()) = b from Prod.ext h3 rfl]; exact h2, h4⟩

theorem floor_tdiv (a b : Int) (hb : 0 < b) : (Int.tmod a b < 0 → Int.tdiv a b - 1 = a / b) ∧ (¬ Int.tmod a b < 0 → Int.tdiv a b = a / b) := by
 have h1 := Int.tmod_add_mul_tdiv a b
 have h2 : (Int.tmod a b).natAbs < b.natAbs := tmod_lt a b (by omega)
 constructor
 ·intro h
  have e : Int.tmod a b + b + b * (Int.tdiv a b - 1) = a := by rw [Int.mul_sub]; omega
  exact ((Int.ediv_emod_unique (r := Int.tmod a b + b) hb).2 ⟨e, by omega, by omega⟩).1.symm
 ·intro h
  exact ((Int.ediv_emod_unique hb).2 ⟨h1, by omega, by omega⟩).1.symm
theorem down_ev (k : Nat) (a b : Int) (hb : 0 < b) (ha : a.natAbs ≤ 9223372036854775800) : kit_Down.f k a b = some (a / b, ()) := by
 have h1 := floor_tdiv a b hb
 have h2 := tdiv_bd a b
 rw [kit_Down.f_eq, if_pos (by omega), if_pos (by omega), w64 (x := Int.tdiv a b) (by omega) (by omega), w64 (x := Int.tdiv a b - 1) (by omega) (by omega)]
 simp only [decide_eq_true_eq]
 by_cases h : Int.tmod a b < 0
 ·rw [if_pos h, h1.1 h]
 ·rw [if_neg h, h1.2 h]
theorem floorDiv_ev (k : Nat) (a b : Int) (hb : 0 < b) (ha : a.natAbs ≤ 9223372036854775800) : perigeeref7_floorDiv.f k a b = some (a / b, ()) := by
 rw [← down_ev k a b hb ha, perigeeref7_floorDiv.f_eq, kit_Down.f_eq]
theorem ediv_bd (a b : Int) (hb : 0 < b) : (a / b).natAbs ≤ a.natAbs := by
 have h1 := floor_tdiv a b hb
 have h2 := tdiv_bd a b
 have h4 := Int.tmod_add_mul_tdiv a b
 by_cases h : Int.tmod a b < 0
 ·have h3 := h1.1 h
  have h5 := Int.mul_ediv_add_emod a b
  have h6 := Int.emod_nonneg a (show b ≠ 0 by omega)
  have h7 : a < 0 := by
   rcases Int.lt_or_le a 0 with h | h8
   ·exact h
   ·have := Int.tmod_nonneg b h8
    omega
  have h8 : -1 * -a ≤ a / b := by
   have : a / 1 ≤ a / b ∨ True := .inr trivial
   have e : a ≤ b * (a / b) + (b - 1) := by have := Int.emod_lt_of_pos a hb; omega
   rcases Int.lt_or_le (a / b) a with h9 | h9
   ·have : b * (a / b) ≤ 1 * (a / b) := Int.mul_le_mul_of_nonpos_right (by omega) (by omega)
    have : b * (a / b) ≤ b * (a - 1) := Int.mul_le_mul_of_nonneg_left (by omega) (by omega)
    have : b * (a - 1) ≤ b * (-1) + b * a := by rw [← Int.mul_add]; exact Int.mul_le_mul_of_nonneg_left (by omega) (by omega)
    have : b * a ≤ 1 * a := Int.mul_le_mul_of_nonpos_right (by omega) (by omega)
    omega
   ·omega
  have h9 : a / b ≤ 0 := by
   have : a / b < 0 := Int.ediv_neg_of_neg_of_pos h7 hb
   omega
  omega
 ·rw [← h1.2 h]; omega
theorem up_ev (k : Nat) (a b : Int) (hb : 0 < b) (ha : a.natAbs ≤ 9223372036854775800) : kit_Up.f k a b = some (-((-a) / b), ()) := by
 rw [kit_Up.f_eq]
 have h := ediv_bd (-a) b hb
 rw [w64 (x := 0 - a) (by omega) (by omega), Int.zero_sub, down_ev k (-a) b hb (by omega)]
 simp only [Option.bind_some]
 rw [w64 (by omega) (by omega), Int.zero_sub]
def Near (n c r : Int) : Prop := c * (2 * r - 1) < 2 * n ∧ 2 * n ≤ c * (2 * r + 1)
theorem near_unique {n c r r' : Int} (hc : 0 < c) (h : Near n c r) (h' : Near n c r') : r = r' := by
 have one : ∀ {a b : Int}, Near n c a → Near n c b → ¬ a < b := by
  intro a b ha hb hab
  have h1 := ha.2
  have h2 := hb.1
  have : c * (2 * a + 1) ≤ c * (2 * b - 1) := Int.mul_le_mul_of_nonneg_left (by omega) (by omega)
  omega
 have a := one h h'
 have b := one h' h
 omega
theorem near_up (n c : Int) (hc : 0 < c) : Near n c (-((-(2 * n - c)) / (2 * c))) := by
 have h1 := Int.mul_ediv_add_emod (-(2 * n - c)) (2 * c)
 have h2 := Int.emod_nonneg (-(2 * n - c)) (show 2 * c ≠ 0 by omega)
 have h3 := Int.emod_lt_of_pos (-(2 * n - c)) (show 0 < 2 * c by omega)
 generalize (-(2 * n - c)) / (2 * c) = q at h1 ⊢
 generalize (-(2 * n - c)) % (2 * c) = m at h1 h2 h3
 unfold Near
 have e1 : c * (2 * -q - 1) = -(2 * c * q) - c := by
  rw [Int.mul_sub, Int.mul_one, show c * (2 * -q) = -(2 * c * q) by rw [Int.mul_neg, Int.mul_neg, Int.mul_comm c, Int.mul_assoc, Int.mul_comm q c, ← Int.mul_assoc]]
 have e2 : c * (2 * -q + 1) = -(2 * c * q) + c := by
  rw [Int.mul_add, Int.mul_one, show c * (2 * -q) = -(2 * c * q) by rw [Int.mul_neg, Int.mul_neg, Int.mul_comm c, Int.mul_assoc, Int.mul_comm q c, ← Int.mul_assoc]]
 rw [e1, e2]
 omega

theorem bit_ev (x : Nat) (i : Nat) (hx : x < 33554432) (hi : i ≤ 25) : bitsOp .i64 .and (shrI .i64 (x : Int) (i : Int)) 1 = ((x / 2 ^ i % 2 : Nat) : Int) := by
 rw [shr64 _ _ (by omega), and_bit]
 rw [show ((2 : Int) ^ i) = ((2 ^ i : Nat) : Int) by rw [Int.natCast_pow]; rfl]
 omega
theorem least_loop (a c t : Int) (D : Nat) (hD : D < 33554432) (ha : 0 ≤ a ∧ a < c) (hc : c ≤ 1000000000000) : ∀ (i : Nat) (q r : Int), i ≤ 26 → 0 ≤ r → r < c → 0 ≤ q → 2 * a * ((D / 2 ^ i : Nat) : Int) = q * c + r →
 Ev (fun k => perigeeref7_atLeast.c0 k a D c t q r ((i : Int) - 1)) (decide (t * c < 2 * a * (D : Int)), ()) := by
 intro i
 induction i with
 | zero =>
  intro q r hi hr hr' hq e
  rw [Nat.pow_zero, Nat.div_one] at e
  rw [e]
  refine Ev.step (fun k => by rw [perigeeref7_atLeast.c0_eq]) ?_
  simp only [decide_eq_true_eq]
  refine Ev.no (by omega) ?_
  have lt : t < q → t * c < q * c + r := by
   intro h
   have : (t + 1) * c ≤ q * c := Int.mul_le_mul_of_nonneg_right (by omega) (by omega)
   rw [Int.add_mul, Int.one_mul] at this
   omega
  have ge : q < t → ¬ t * c < q * c + r := by
   intro h
   have : (q + 1) * c ≤ t * c := Int.mul_le_mul_of_nonneg_right (by omega) (by omega)
   rw [Int.add_mul, Int.one_mul] at this
   omega
  refine Ev.split (fun h => ?_) (fun h => Ev.split (fun h' => ?_) (fun h' => ?_))
  ·rw [decide_eq_true (lt h)]
   exact Ev.now _
  ·rw [h', show decide (t * c < t * c + r) = decide (0 < r) from decide_eq_decide.2 (by omega)]
   exact Ev.now _
  ·rw [decide_eq_false (ge (by omega))]
   exact Ev.now _
 | succ i ih =>
  intro q r hi hr hr' hq e
  have hDi : D / 2 ^ (i + 1) = D / 2 ^ i / 2 := by rw [Nat.pow_succ, Nat.div_div_eq_div_mul]
  have hle : D / 2 ^ i ≤ D := Nat.div_le_self _ _
  generalize hP : D / 2 ^ i = P at hDi hle
  rw [hDi] at e
  have hq2 : q ≤ 2 * 33554432 := by
   have h1 : 2 * a * ((P / 2 : Nat) : Int) ≤ (2 * c) * ((P / 2 : Nat) : Int) := Int.mul_le_mul_of_nonneg_right (by omega) (by omega)
   have h2 : (2 * c) * ((P / 2 : Nat) : Int) ≤ (2 * c) * 33554432 := Int.mul_le_mul_of_nonneg_left (by omega) (by omega)
   have h3 : q * c ≤ (2 * 33554432) * c := by omega
   exact Int.le_of_mul_le_mul_right h3 (by omega)
  refine Ev.step (fun k => by rw [perigeeref7_atLeast.c0_eq]) ?_
  simp only [decide_eq_true_eq]
  rw [show ((i + 1 : Nat) : Int) - 1 = (i : Int) by omega]
  have hb := bit_ev D i hD (by omega)
  rw [hP] at hb
  rw [hb, w64 (x := (i : Int) - 1) (by omega) (by omega), w64 (x := 2 * q) (by omega) (by omega), w64 (x := 2 * r) (by omega) (by omega), w64 (x := 2 * a) (by omega) (by omega), w64 (x := 2 * r + 2 * a) (by omega) (by omega)]
  have go : ∀ n : Int, 0 ≤ n → n < 4 * c → 2 * a * (P : Int) = (2 * q) * c + n → Ev (fun k => perigeeref7_atLeast.c0 k a D c t (IntKind.wrap .i64 (2 * q + IntKind.wrap .i64 (Int.tdiv n c))) (Int.tmod n c) ((i : Int) - 1)) (decide (t * c < 2 * a * (D : Int)), ()) := by
   intro n h0 hn4 hn
   have e1 : Int.tdiv n c = n / c := Int.tdiv_eq_ediv_of_nonneg h0
   have e2 : Int.tmod n c = n % c := Int.tmod_eq_emod_of_nonneg h0
   have h1 := Int.mul_ediv_add_emod n c
   have h2 := Int.emod_nonneg n (show c ≠ 0 by omega)
   have h3 := Int.emod_lt_of_pos n (show 0 < c by omega)
   have h4 : 0 ≤ n / c := Int.ediv_nonneg h0 (by omega)
   have h5 : n / c < 4 := Int.ediv_lt_of_lt_mul (by omega) (by omega)
   rw [e1, e2, w64 (x := n / c) (by omega) (by omega), w64 (x := 2 * q + n / c) (by omega) (by omega)]
   refine ih _ _ (by omega) h2 h3 (by omega) ?_
   rw [hP, hn, Int.add_mul, Int.mul_comm (n / c) c]
   omega
  have hPe : (P : Int) = 2 * ((P / 2 : Nat) : Int) + ((P % 2 : Nat) : Int) := by omega
  have base : 2 * a * (P : Int) = (2 * q) * c + 2 * r + 2 * a * ((P % 2 : Nat) : Int) := by
   rw [hPe, Int.mul_add, ← Int.mul_assoc, Int.mul_comm (2 * a) 2, Int.mul_assoc, e, Int.mul_add, ← Int.mul_assoc]
  refine Ev.yes (by omega) (Ev.yes (by omega) (Ev.split (fun h => ?_) (fun h => ?_)))
  ·rw [h, Int.mul_one] at base
   exact Ev.yes (by omega) (Ev.yes (by omega) (go _ (by omega) (by omega) (by omega)))
  ·rw [show ((P % 2 : Nat) : Int) = 0 by omega, Int.mul_zero] at base
   exact Ev.yes (by omega) (Ev.yes (by omega) (go _ (by omega) (by omega) (by omega)))
theorem least_ev (a c t : Int) (D : Nat) (hD : D < 33554432) (ha : 0 ≤ a ∧ a < c) (hc : c ≤ 1000000000000) : Ev (fun k => perigeeref7_atLeast.f k a D c t) (decide (t * c < 2 * a * (D : Int)), ()) := by
 refine Ev.eq (fun k => by rw [perigeeref7_atLeast.f_eq]) ?_
 refine least_loop a c t D hD ha hc 26 0 0 (by omega) (by omega) (by omega) (by omega) ?_
 rw [show D / 2 ^ 26 = 0 from Nat.div_eq_of_lt (by omega)]
 simp
theorem nearest_loop (a c : Int) (D : Nat) (hD : D < 33554432) (ha : 0 ≤ a ∧ a < c) (hc : c ≤ 1000000000000) : ∀ (d l h : Nat), h = l + d → h ≤ D → (0 < l → c * (2 * (l : Int) - 1) < 2 * a * (D : Int)) → (h < D → 2 * a * (D : Int) ≤ c * (2 * (h : Int) + 1)) →
 ∃ m : Nat, m ≤ D ∧ (0 < m → c * (2 * (m : Int) - 1) < 2 * a * (D : Int)) ∧ (m < D → 2 * a * (D : Int) ≤ c * (2 * (m : Int) + 1)) ∧ Ev (fun k => perigeeref7_nearest.c0 k a D c l h) ((m : Int), ()) := by
 intro d
 induction d using Nat.strongRecOn with
 | _ d ih =>
  intro l h hh hhD h1 h2
  rcases Nat.eq_zero_or_pos d with h0 | h0
  ·obtain rfl : h = l := by omega
   refine ⟨h, hhD, h1, h2, ?_⟩
   refine Ev.step (fun k => by rw [perigeeref7_nearest.c0_eq]) ?_
   simp only [decide_eq_true_eq]
   exact Ev.no (by omega) (Ev.now _)
  ·obtain ⟨m, hm⟩ : ∃ m : Nat, m = (l + h + 1) / 2 := ⟨_, rfl⟩
   have em : IntKind.wrap .i64 (Int.tdiv (IntKind.wrap .i64 ((IntKind.wrap .i64 ((l : Int) + (h : Int))) + 1)) 2) = (m : Int) := by
    rw [w64 (x := (l : Int) + (h : Int)) (by omega) (by omega), w64 (x := (l : Int) + (h : Int) + 1) (by omega) (by omega), Int.tdiv_eq_ediv_of_nonneg (by omega), w64 (by omega) (by omega)]
    omega
   have lev := least_ev a c (2 * (m : Int) - 1) D hD ha hc
   rw [Int.mul_comm (2 * (m : Int) - 1) c] at lev
   by_cases ht : c * (2 * (m : Int) - 1) < 2 * a * (D : Int)
   ·obtain ⟨r, r1, r2, r3, r4⟩ := ih (h - m) (by omega) m h (by omega) hhD (fun _ => ht) h2
    refine ⟨r, r1, r2, r3, ?_⟩
    refine Ev.step (fun k => by rw [perigeeref7_nearest.c0_eq]) ?_
    simp only [decide_eq_true_eq]
    rw [em, w64 (x := 2 * (m : Int)) (by omega) (by omega), w64 (x := 2 * (m : Int) - 1) (by omega) (by omega)]
    refine Ev.yes (by omega) (Ev.bind lev (Ev.yes (by simpa using ht) r4))
   ·obtain ⟨r, r1, r2, r3, r4⟩ := ih (m - 1 - l) (by omega) l (m - 1) (by omega) (by omega) h1 (fun _ => by
     rw [show 2 * ((m - 1 : Nat) : Int) + 1 = 2 * (m : Int) - 1 by omega]
     omega)
    refine ⟨r, r1, r2, r3, ?_⟩
    refine Ev.step (fun k => by rw [perigeeref7_nearest.c0_eq]) ?_
    simp only [decide_eq_true_eq]
    rw [em, w64 (x := 2 * (m : Int)) (by omega) (by omega), w64 (x := 2 * (m : Int) - 1) (by omega) (by omega), w64 (x := (m : Int) - 1) (by omega) (by omega)]
    rw [show ((m - 1 : Nat) : Int) = (m : Int) - 1 by omega] at r4
    refine Ev.yes (by omega) (Ev.bind lev (Ev.no (by simpa using ht) r4))
theorem nearest_ev (a c : Int) (D : Nat) (hD : D < 33554432) (hD0 : 0 < D) (ha : 0 ≤ a ∧ a < c) (hc : c ≤ 1000000000000) : ∃ r : Int, 0 ≤ r ∧ r ≤ D ∧ Near (a * (D : Int)) c r ∧ Ev (fun k => perigeeref7_nearest.f k a D c) (r, ()) := by
 obtain ⟨m, h1, h2, h3, h4⟩ := nearest_loop a c D hD ha hc D 0 D (by omega) (by omega) (fun h => by omega) (fun h => by omega)
 refine ⟨m, by omega, by omega, ⟨?_, ?_⟩, Ev.eq (fun k => by rw [perigeeref7_nearest.f_eq]; rfl) h4⟩
 ·rw [← Int.mul_assoc]
  rcases Nat.eq_zero_or_pos m with h0 | h0
  ·subst h0
   have : 0 ≤ 2 * a * (D : Int) := Int.mul_nonneg (by omega) (by omega)
   rw [show c * (2 * ((0 : Nat) : Int) - 1) = -c by simp]
   omega
  ·exact h2 h0
 ·rw [← Int.mul_assoc]
  rcases Nat.lt_or_ge m D with h0 | h0
  ·exact h3 h0
  ·obtain rfl : m = D := by omega
   have : 2 * a * (m : Int) ≤ 2 * c * (m : Int) := Int.mul_le_mul_of_nonneg_right (by omega) (by omega)
   have e : c * (2 * (m : Int) + 1) = 2 * c * (m : Int) + c := by rw [Int.mul_add, Int.mul_one, ← Int.mul_assoc, Int.mul_comm c 2]
   rw [e]
   omega

def AA (p : DParameter) (s n d : Int) (m : Nat) : Int := s * (n - V p m * d)
def CC (p : DParameter) (s d : Int) (m : Nat) : Int := s * (V p (m + 1) - V p m) * d
def clamp (p : DParameter) (x : Int) : Int := mnI (hi p) (mxI (lo p) x)
theorem lo_hi (p : DParameter) (h : 1 ≤ p.2.1 ∧ p.2.1 ≤ 24) : lo p ≤ hi p ∧ hi p - lo p ≤ 16777215 := by
 have b1 := pow_bd (p.2.1 - 1).toNat (by omega)
 have b2 := pow_bd p.2.1.toNat (by omega)
 have e : 2 ^ p.2.1.toNat = 2 * 2 ^ (p.2.1 - 1).toNat := by
  rw [show p.2.1.toNat = (p.2.1 - 1).toNat + 1 by omega, Nat.pow_succ]; omega
 unfold lo hi
 split <;> omega
theorem clamp_ref (p : DParameter) (h : 1 ≤ p.2.1 ∧ p.2.1 ≤ 24) (x : Int) : mxI (lo p) (mnI (hi p) x) = clamp p x := by
 have := (lo_hi p h).1
 unfold clamp mxI mnI
 repeat' split
 all_goals omega
structure Ask (p : DParameter) (s n d : Int) : Prop where
 fit : Fit p
 dir : Dir p.2.2.2.1 s
 d0 : 1 ≤ d
 d1 : d ≤ 100
 n0 : -1000000000 * d ≤ n
 n1 : n ≤ 1000000000 * d
theorem Ask.vd {p : DParameter} {s n d : Int} (h : Ask p s n d) (m : Nat) (hm : m < p.2.2.2.1.length) : -100000000000 ≤ V p m * d ∧ V p m * d ≤ 100000000000 := by
 have v := V_bd h.fit m hm
 have := h.d0
 have := h.d1
 have a := mul_bd (x := V p m) (y := d) (A := 1000000000) (B := 100) (by omega) (by omega) (by omega) (by omega)
 omega
theorem sgn {s : Int} (h : s = 1 ∨ s = -1) (x : Int) : s * x = x ∨ s * x = -x := by
 rcases h with rfl | rfl <;> omega
theorem Ask.bd {p : DParameter} {s n d : Int} (h : Ask p s n d) (m : Nat) (hm : m + 1 < p.2.2.2.1.length) :
 (-200000000000 ≤ AA p s n d m ∧ AA p s n d m ≤ 200000000000) ∧ (0 < CC p s d m ∧ CC p s d m ≤ 200000000000) ∧ (0 < den p m ∧ den p m ≤ 16777215) ∧ (-3400000000000000000 ≤ AA p s n d m * den p m ∧ AA p s n d m * den p m ≤ 3400000000000000000) := by
 have v0 := V_bd h.fit m (by omega)
 have v1 := V_bd h.fit (m + 1) hm
 have w0 := h.vd m (by omega)
 have d0 := h.d0
 have d1 := h.d1
 have n0 := h.n0
 have n1 := h.n1
 have up := R_up h.fit m hm
 have r0 := (h.fit.2.1 m (by omega) (by omega)).1
 have r1 := (h.fit.2.1 (m + 1) (by omega) hm).1
 have lh := (lo_hi p h.fit.1).2
 have hA : -200000000000 ≤ AA p s n d m ∧ AA p s n d m ≤ 200000000000 := by
  unfold AA
  rcases sgn h.dir.1 (n - V p m * d) with e | e <;> omega
 have hD : 0 < den p m ∧ den p m ≤ 16777215 := by
  have e1 : R p m = (p.2.2.2.1.getD m (Ty.dflt YShare)).1 := rfl
  have e2 : R p (m + 1) = (p.2.2.2.1.getD (m + 1) (Ty.dflt YShare)).1 := rfl
  unfold den
  omega
 have hC : 0 < CC p s d m ∧ CC p s d m ≤ 200000000000 := by
  have inc := h.dir.2.2 m hm
  have e1 : PV p.2.2.2.1 m = V p m := rfl
  have e2 : PV p.2.2.2.1 (m + 1) = V p (m + 1) := rfl
  rw [e1, e2] at inc
  have pos : 0 < s * (V p (m + 1) - V p m) := by rw [Int.mul_sub]; omega
  have le : s * (V p (m + 1) - V p m) ≤ 2000000000 := by rcases sgn h.dir.1 (V p (m + 1) - V p m) with e | e <;> omega
  have a := mul_bd (x := s * (V p (m + 1) - V p m)) (y := d) (A := 2000000000) (B := 100) (by omega) (by omega) (by omega) (by omega)
  have b := Int.mul_pos pos (show 0 < d by omega)
  unfold CC
  omega
 have a := mul_bd (x := AA p s n d m) (y := den p m) (A := 200000000000) (B := 16777215) (by omega) (by omega) (by omega) (by omega)
 exact ⟨hA, hC, hD, by omega⟩
theorem Ask.words {p : DParameter} {s n d : Int} (h : Ask p s n d) (m : Nat) (hm : m + 1 < p.2.2.2.1.length) (_ : True) :
 IntKind.wrap .i64 (s * (IntKind.wrap .i64 (n - (IntKind.wrap .i64 (((p.2.2.2.1.getD m (Ty.dflt YShare)).2) * d))))) = AA p s n d m ∧ IntKind.wrap .i64 ((IntKind.wrap .i64 (s * (IntKind.wrap .i64 (((p.2.2.2.1.getD (m + 1) (Ty.dflt YShare)).2) - ((p.2.2.2.1.getD m (Ty.dflt YShare)).2))))) * d) = CC p s d m ∧ IntKind.wrap .i64 (((p.2.2.2.1.getD (m + 1) (Ty.dflt YShare)).1) - ((p.2.2.2.1.getD m (Ty.dflt YShare)).1)) = den p m := by
 have bd := h.bd m hm
 have v0 := V_bd h.fit m (by omega)
 have v1 := V_bd h.fit (m + 1) hm
 have w0 := h.vd m (by omega)
 have d0 := h.d0
 have d1 := h.d1
 have n0 := h.n0
 have n1 := h.n1
 have e3 : den p m = (p.2.2.2.1.getD (m + 1) (Ty.dflt YShare)).1 - (p.2.2.2.1.getD m (Ty.dflt YShare)).1 := rfl
 have le : -2000000000 ≤ s * (V p (m + 1) - V p m) ∧ s * (V p (m + 1) - V p m) ≤ 2000000000 := by rcases sgn h.dir.1 (V p (m + 1) - V p m) with e | e <;> omega
 rw [w64 (x := V p m * d) (by omega) (by omega), w64 (x := n - V p m * d) (by omega) (by omega), w64 (x := V p (m + 1) - V p m) (by omega) (by omega), w64 (x := s * (V p (m + 1) - V p m)) (by omega) (by omega)]
 rw [← e3, w64 (x := den p m) (by omega) (by omega)]
 have bA := bd.1
 have bC := bd.2.1
 unfold AA at bA
 unfold CC at bC
 rw [w64 (by omega) (by omega), w64 (by omega) (by omega)]
 exact ⟨rfl, rfl, rfl⟩
theorem tele_raw {p : DParameter} {s n d : Int} (h : Ask p s n d) (m : Nat) (hm : m + 1 < p.2.2.2.1.length) :
 ∃ r, Near (AA p s n d m * den p m) (CC p s d m) r ∧ Ev (fun k => telemetry_Raw.c2 k n d p.1 p.2.1 p.2.2.1 p.2.2.2.1 p.2.2.2.2 s m) (clamp p (R p m + r), true, 0, ()) := by
 have hl := h.fit.2.2.1
 have bd := h.bd m hm
 obtain ⟨e1, e2, e3⟩ := h.words m hm trivial
 have r0 := R_bd h.fit m (by omega)
 refine ⟨_, near_up (AA p s n d m * den p m) (CC p s d m) (by omega), ?_⟩
 refine Ev.step (fun k => by rw [telemetry_Raw.c2_eq]) ?_
 rw [w64 (x := (m : Int) + 1) (by omega) (by omega)]
 simp only [Int.toNat_natCast, toNat_succ]
 rw [e1, e2, e3, w64 (x := AA p s n d m * den p m) (by omega) (by omega), w64 (x := 2 * (AA p s n d m * den p m)) (by omega) (by omega), w64 (x := 2 * CC p s d m) (by omega) (by omega), w64 (x := 2 * (AA p s n d m * den p m) - CC p s d m) (by omega) (by omega)]
 have sp : ∀ k, telemetry_span.f k (p.1, (p.2.1, (p.2.2.1, (p.2.2.2.1, p.2.2.2.2)))) = some (lo p, hi p, ()) := fun k => span_ev k p h.fit.1
 simp only [sp, Option.bind_some]
 have bq := ediv_bd (-(2 * (AA p s n d m * den p m) - CC p s d m)) (2 * CC p s d m) (by omega)
 have upk : ∀ k, kit_Up.f k (2 * (AA p s n d m * den p m) - CC p s d m) (2 * CC p s d m) = some (-(-(2 * (AA p s n d m * den p m) - CC p s d m) / (2 * CC p s d m)), ()) := fun k => up_ev k _ _ (by omega) (by omega)
 simp only [upk, Option.bind_some]
 have w : IntKind.wrap .i64 ((p.2.2.2.1.getD m (Ty.dflt YShare)).1 + -(-(2 * (AA p s n d m * den p m) - CC p s d m) / (2 * CC p s d m))) = R p m + -(-(2 * (AA p s n d m * den p m) - CC p s d m) / (2 * CC p s d m)) := w64 (by have e : R p m = (p.2.2.2.1.getD m (Ty.dflt YShare)).1 := rfl; omega) (by have e : R p m = (p.2.2.2.1.getD m (Ty.dflt YShare)).1 := rfl; omega)
 rw [w]
 exact Ev.yes (by omega) (Ev.yes (by omega) (Ev.now _))
theorem ref_raw {p : DParameter} {s n d : Int} (h : Ask p s n d) (m : Nat) (hm : m + 1 < p.2.2.2.1.length) :
 ∃ r, Near (AA p s n d m * den p m) (CC p s d m) r ∧ Ev (fun k => perigeeref7_Raw.c3 k n d p.1 p.2.1 p.2.2.1 p.2.2.2.1 p.2.2.2.2 s ((m : Int) + 1)) (clamp p (R p m + r), true, 0, ()) := by
 have hl := h.fit.2.2.1
 have bd := h.bd m hm
 obtain ⟨e1, e2, e3⟩ := h.words m hm trivial
 have r0 := R_bd h.fit m (by omega)
 have eA := Int.mul_ediv_add_emod (AA p s n d m) (CC p s d m)
 have eA0 := Int.emod_nonneg (AA p s n d m) (show CC p s d m ≠ 0 by omega)
 have eA1 := Int.emod_lt_of_pos (AA p s n d m) (show 0 < CC p s d m by omega)
 have bw := ediv_bd (AA p s n d m) (CC p s d m) (by omega)
 obtain ⟨D, hD⟩ : ∃ D : Nat, den p m = (D : Int) := ⟨(den p m).toNat, by omega⟩
 obtain ⟨t, t0, t1, t2, t3⟩ := nearest_ev (AA p s n d m % CC p s d m) (CC p s d m) D (by omega) (by omega) ⟨eA0, eA1⟩ (by omega)
 have bwD := mul_bd (x := AA p s n d m / CC p s d m) (y := den p m) (A := 200000000000) (B := 16777215) (by omega) (by omega) (by omega) (by omega)
 refine ⟨AA p s n d m / CC p s d m * den p m + t, ?_, ?_⟩
 ·rw [← hD] at t2
  generalize AA p s n d m / CC p s d m = w at eA
  generalize AA p s n d m % CC p s d m = v at eA t2
  generalize CC p s d m = c at eA t2
  generalize den p m = D' at t2
  unfold Near at t2 ⊢
  have f1 : AA p s n d m * D' = c * (w * D') + v * D' := by rw [← eA, Int.add_mul, Int.mul_assoc]
  have f2 : c * (2 * (w * D' + t) - 1) = 2 * (c * (w * D')) + c * (2 * t - 1) := by
   rw [show 2 * (w * D' + t) - 1 = 2 * (w * D') + (2 * t - 1) by omega, Int.mul_add, show c * (2 * (w * D')) = 2 * (c * (w * D')) by rw [← Int.mul_assoc, Int.mul_comm c 2, Int.mul_assoc]]
  have f3 : c * (2 * (w * D' + t) + 1) = 2 * (c * (w * D')) + c * (2 * t + 1) := by
   rw [show 2 * (w * D' + t) + 1 = 2 * (w * D') + (2 * t + 1) by omega, Int.mul_add, show c * (2 * (w * D')) = 2 * (c * (w * D')) by rw [← Int.mul_assoc, Int.mul_comm c 2, Int.mul_assoc]]
  rw [f1, f2, f3]
  omega
 ·refine Ev.step (fun k => by rw [perigeeref7_Raw.c3_eq]) ?_
  rw [w64 (x := (m : Int) + 1 - 1) (by omega) (by omega), show (m : Int) + 1 - 1 = m by omega]
  simp only [Int.toNat_natCast, toNat_succ]
  have fl : ∀ k, perigeeref7_floorDiv.f k (AA p s n d m) (CC p s d m) = some (AA p s n d m / CC p s d m, ()) := fun k => floorDiv_ev k _ _ (by omega) (by omega)
  rw [e1, e2, e3]
  simp only [fl, Option.bind_some]
  have bm : AA p s n d m / CC p s d m * CC p s d m = AA p s n d m - AA p s n d m % CC p s d m := by rw [Int.mul_comm]; omega
  rw [bm, w64 (x := AA p s n d m - AA p s n d m % CC p s d m) (by omega) (by omega), show AA p s n d m - (AA p s n d m - AA p s n d m % CC p s d m) = AA p s n d m % CC p s d m by omega, w64 (x := AA p s n d m % CC p s d m) (by omega) (by omega)]
  rw [hD] at bwD ⊢
  have sp : ∀ k, perigeeref7_ends.f k (p.1, (p.2.1, (p.2.2.1, (p.2.2.2.1, p.2.2.2.2)))) = some (lo p, hi p, ()) := fun k => ends_ev k p h.fit.1
  simp only [sp, Option.bind_some]
  have w : IntKind.wrap .i64 (IntKind.wrap .i64 ((p.2.2.2.1.getD m (Ty.dflt YShare)).1 + IntKind.wrap .i64 (AA p s n d m / CC p s d m * (D : Int))) + t) = R p m + (AA p s n d m / CC p s d m * (D : Int) + t) := by
   rw [w64 (x := AA p s n d m / CC p s d m * (D : Int)) (by omega) (by omega), w64 (x := R p m + AA p s n d m / CC p s d m * (D : Int)) (by omega) (by omega), w64 (by omega) (by omega)]
   omega
  refine Ev.yes (by omega) (Ev.yes (by omega) (Ev.bind t3 (Ev.is ?_)))
  rw [w, clamp_ref p h.fit.1]

def RawAt (p : DParameter) (s n d : Int) (m : Nat) (x : Int) : Prop := m + 1 < p.2.2.2.1.length ∧ (0 < m → s * V p m * d < s * n) ∧ (m + 2 < p.2.2.2.1.length → s * n ≤ s * V p (m + 1) * d) ∧ ∃ r, Near (AA p s n d m * den p m) (CC p s d m) r ∧ x = clamp p (R p m + r)
theorem Ask.cond {p : DParameter} {s n d : Int} (h : Ask p s n d) (m : Nat) (hm : m < p.2.2.2.1.length) : IntKind.wrap .i64 ((IntKind.wrap .i64 (s * ((p.2.2.2.1.getD m (Ty.dflt YShare)).2))) * d) = s * V p m * d ∧ IntKind.wrap .i64 (s * n) = s * n := by
 have v0 := V_bd h.fit m (by omega)
 have w0 := h.vd m (by omega)
 have n0 := h.n0
 have n1 := h.n1
 have d1 := h.d1
 have d0 := h.d0
 have a1 : IntKind.wrap .i64 (s * V p m) = s * V p m := by rcases sgn h.dir.1 (V p m) with e | e <;> exact w64 (by omega) (by omega)
 have a2 : IntKind.wrap .i64 (s * n) = s * n := by rcases sgn h.dir.1 n with e | e <;> exact w64 (by omega) (by omega)
 refine ⟨?_, a2⟩
 rw [a1, Int.mul_assoc]
 rcases sgn h.dir.1 (V p m * d) with e | e <;> exact w64 (by omega) (by omega)
theorem raw_seg {p : DParameter} {s n d : Int} (h : Ask p s n d) : ∀ (e j : Nat), j + 2 + e = p.2.2.2.1.length → (0 < j → s * V p j * d < s * n) →
 ∃ m x, RawAt p s n d m x ∧ Ev (fun k => telemetry_Raw.c1 k n d p.1 p.2.1 p.2.2.1 p.2.2.2.1 p.2.2.2.2 s j) (x, true, 0, ()) ∧ Ev (fun k => perigeeref7_Raw.c2 k n d p.1 p.2.1 p.2.2.1 p.2.2.2.1 p.2.2.2.2 s ((j : Int) + 1)) (x, true, 0, ()) := by
 have hl := h.fit.2.2.1
 intro e
 induction e with
 | zero =>
  intro j hj h0
  obtain ⟨r, a1, a2⟩ := tele_raw h j (by omega)
  obtain ⟨r', b1, b2⟩ := ref_raw h j (by omega)
  obtain rfl := near_unique (h.bd j (by omega)).2.1.1 a1 b1
  refine ⟨j, _, ⟨by omega, h0, fun h => by omega, r, a1, rfl⟩, ?_, ?_⟩
  ·refine Ev.step (fun k => by rw [telemetry_Raw.c1_eq]) ?_
   simp only [decide_eq_true_eq]
   rw [w64 (x := (j : Int) + 2) (by omega) (by omega)]
   exact Ev.no (by omega) a2
  ·refine Ev.step (fun k => by rw [perigeeref7_Raw.c2_eq]) ?_
   simp only [decide_eq_true_eq]
   rw [w64 (x := (p.2.2.2.1.length : Int) - 1) (by omega) (by omega)]
   exact Ev.no (by omega) b2
 | succ e ih =>
  intro j hj h0
  obtain ⟨c1, c2⟩ := h.cond (j + 1) (by omega)
  have sT : ∀ r, s * V p (j + 1) * d ≤ s * n → Ev (fun k => telemetry_Raw.c1 k n d p.1 p.2.1 p.2.2.1 p.2.2.2.1 p.2.2.2.2 s ((j + 1 : Nat) : Int)) r → Ev (fun k => telemetry_Raw.c1 k n d p.1 p.2.1 p.2.2.1 p.2.2.2.1 p.2.2.2.2 s j) r := by
   intro r h1 h2
   refine Ev.step (fun k => by rw [telemetry_Raw.c1_eq]) ?_
   simp only [decide_eq_true_eq]
   rw [w64 (x := (j : Int) + 2) (by omega) (by omega), w64 (x := (j : Int) + 1) (by omega) (by omega), toNat_succ, c1, c2]
   exact Ev.yes (by omega) (Ev.yes (by omega) (Ev.yes h1 h2))
  have sR : s * n ≤ s * V p (j + 1) * d → ∀ r, Ev (fun k => perigeeref7_Raw.c3 k n d p.1 p.2.1 p.2.2.1 p.2.2.2.1 p.2.2.2.2 s ((j : Int) + 1)) r → Ev (fun k => perigeeref7_Raw.c2 k n d p.1 p.2.1 p.2.2.1 p.2.2.2.1 p.2.2.2.2 s ((j : Int) + 1)) r := by
   intro h1 r h2
   refine Ev.step (fun k => by rw [perigeeref7_Raw.c2_eq]) ?_
   simp only [decide_eq_true_eq]
   rw [w64 (x := (p.2.2.2.1.length : Int) - 1) (by omega) (by omega), toNat_succ, c1, c2]
   exact Ev.yes (by omega) (Ev.yes (by omega) (Ev.no (by omega) h2))
  obtain ⟨r', b1, b2⟩ := ref_raw h j (by omega)
  rcases Int.lt_trichotomy (s * n) (s * V p (j + 1) * d) with h1 | h1 | h1
  ·obtain ⟨r, a1, a2⟩ := tele_raw h j (by omega)
   obtain rfl := near_unique (h.bd j (by omega)).2.1.1 a1 b1
   refine ⟨j, _, ⟨by omega, h0, fun _ => by omega, r, a1, rfl⟩, ?_, sR (by omega) _ b2⟩
   refine Ev.step (fun k => by rw [telemetry_Raw.c1_eq]) ?_
   simp only [decide_eq_true_eq]
   rw [w64 (x := (j : Int) + 2) (by omega) (by omega), w64 (x := (j : Int) + 1) (by omega) (by omega), toNat_succ, c1, c2]
   exact Ev.yes (by omega) (Ev.yes (by omega) (Ev.no (by omega) a2))
  ·refine ⟨j, _, ⟨by omega, h0, fun _ => by omega, r', b1, rfl⟩, sT _ (by omega) ?_, sR (by omega) _ b2⟩
   obtain ⟨r, a1, a2⟩ := tele_raw h (j + 1) (by omega)
   have z : AA p s n d (j + 1) = 0 := by unfold AA; rw [Int.mul_sub, ← Int.mul_assoc]; omega
   have bd1 := h.bd (j + 1) (by omega)
   have bd0 := h.bd j (by omega)
   have r0 : r = 0 := by
    refine near_unique bd1.2.1.1 a1 ?_
    rw [z, Int.zero_mul]
    unfold Near
    constructor <;> omega
   have aj : AA p s n d j = CC p s d j := by
    unfold AA CC
    rw [Int.mul_sub, h1, Int.mul_sub, Int.sub_mul, ← Int.mul_assoc]
   have rD : r' = den p j := by
    refine near_unique bd0.2.1.1 b1 ?_
    rw [aj]
    unfold Near
    have q1 : CC p s d j * (2 * den p j - 1) = 2 * (CC p s d j * den p j) - CC p s d j := by rw [Int.mul_sub, Int.mul_one, ← Int.mul_assoc, Int.mul_comm (CC p s d j) 2, Int.mul_assoc]
    have q2 : CC p s d j * (2 * den p j + 1) = 2 * (CC p s d j * den p j) + CC p s d j := by rw [Int.mul_add, Int.mul_one, ← Int.mul_assoc, Int.mul_comm (CC p s d j) 2, Int.mul_assoc]
    rw [q1, q2]
    omega
   have same : R p j + r' = R p (j + 1) + r := by rw [rD, r0]; unfold den; omega
   rw [same]
   refine Ev.step (fun k => by rw [telemetry_Raw.c1_eq]) ?_
   simp only [decide_eq_true_eq]
   rw [w64 (x := ((j + 1 : Nat) : Int) + 2) (by omega) (by omega), w64 (x := ((j + 1 : Nat) : Int) + 1) (by omega) (by omega)]
   refine Ev.split (fun h2 => ?_) (fun _ => a2)
   obtain ⟨c3, _⟩ := h.cond (j + 1 + 1) (by omega)
   rw [toNat_succ, c3, c2]
   refine Ev.yes (by omega) (Ev.no ?_ a2)
   have cc := bd1.2.1.1
   unfold CC at cc
   rw [Int.mul_sub, Int.sub_mul] at cc
   omega
  ·obtain ⟨m, x, m1, m2, m3⟩ := ih (j + 1) (by omega) (fun _ => h1)
   refine ⟨m, x, m1, sT _ (by omega) m2, ?_⟩
   refine Ev.step (fun k => by rw [perigeeref7_Raw.c2_eq]) ?_
   simp only [decide_eq_true_eq]
   rw [w64 (x := (p.2.2.2.1.length : Int) - 1) (by omega) (by omega), w64 (x := (j : Int) + 1 + 1) (by omega) (by omega), toNat_succ, c1, c2]
   exact Ev.yes (by omega) (Ev.yes (by omega) (Ev.yes h1 m3))

theorem lowest_ev (v : DShare) (hd : 0 < v.2) (hd' : v.2 ≤ 9223372036854775807) : Ev (fun k => telemetry_lowest.f k v) (decide (Int.gcd v.1 v.2 = 1), ()) := by
 have b := tmod_lt v.1 v.2 (by omega)
 have e : ∀ g : Int, g = (Int.gcd v.1 v.2 : Int) → decide (g = 1) = decide (Int.gcd v.1 v.2 = 1) := by
  intro g hg
  rw [hg]
  exact decide_eq_decide.2 (by omega)
 refine Ev.eq (fun k => by rw [telemetry_lowest.f_eq]) ?_
 simp only [decide_eq_true_eq]
 refine Ev.yes (by omega) (Ev.split (fun h => ?_) (fun h => ?_))
 ·rw [w64 (by omega) (by omega)]
  refine Ev.bind (gcdT_ev _ v.2 _ rfl (by omega) (by omega)) (Ev.is ?_)
  rw [e]
  rw [Int.zero_sub, Int.gcd_neg, gcd_tmod]
 ·refine Ev.bind (gcdT_ev _ v.2 _ rfl (by omega) (by omega)) (Ev.is ?_)
  rw [e]
  rw [gcd_tmod]
theorem raw_ev (l : List DParameter) (h : okT (.sl YParameter) l) (t : List UInt8) (v : DShare) (hd : v.2 ≤ 9223372036854775807) : ∃ x f c, Ev (fun k => telemetry_Raw.f k l t v) (x, f, c, ()) ∧ Ev (fun k => perigeeref7_Raw.f k l t v) (x, f, c, ()) ∧
 (Ev (fun k => telemetry_CheckParameters.f k l) (0, ()) → ∀ p, findP l t = some p → 0 < v.2 → Int.gcd v.1 v.2 = 1 → (c = 0 ∨ c = 1) ∧ (f = true → ∃ s m, Ask p s v.1 v.2 ∧ RawAt p s v.1 v.2 m x)) := by
 obtain ⟨c, c1, c2, c3⟩ := params_ev l h
 simp only [telemetry_Raw.f_eq, perigeeref7_Raw.f_eq, Bool.not_eq_true', decide_eq_false_iff_not, decide_eq_true_eq]
 by_cases hc : c = 0
 ·subst hc
  obtain ⟨hl, hf⟩ := c3 rfl
  have ep := parameter_ev l hl hf t
  have fp := find_ev l (by omega) t
  cases hq : findP l t with
  | some p =>
   rw [hq] at ep fp
   have fit := mem_fit hf (findP_some hq).1
   by_cases hd0 : v.2 ≤ 0
   ·refine ⟨0, false, 3, ?_, ?_, fun _ _ _ h => by omega⟩
    ·exact Ev.bind c1 (Ev.no (fun h => h rfl) (Ev.bind ep (Ev.no (by simp [fnd]) (Ev.yes hd0 (Ev.now _)))))
    ·exact Ev.bind c2 (Ev.no (fun h => h rfl) (Ev.bind fp (Ev.no (by simp [fnd]) (Ev.yes hd0 (Ev.now _)))))
   ·have lo1 := lowest_ev v (by omega) hd
    have hb := tmod_lt v.1 v.2 (by omega)
    have lo2 := gcdR_ev _ (Int.tmod v.1 v.2) v.2 rfl (by omega) (by omega)
    rw [Int.gcd_comm, gcd_tmod] at lo2
    by_cases hg : Int.gcd v.1 v.2 = 1
    ·rw [decide_eq_true hg] at lo1
     rw [hg] at lo2
     -- the ways behind the checks
     have ways : ∃ x f c, (c = 0 ∨ c = 1) ∧ (f = true → ∃ s m, Ask p s v.1 v.2 ∧ RawAt p s v.1 v.2 m x) ∧
      Ev (fun k => if 100 < v.2 then some (0, (false, (1, ()))) else ((kit_In.f k v.1 (IntKind.wrap .i64 ((-1000000000) * v.2)) (IntKind.wrap .i64 (1000000000 * v.2))).bind fun r4 => if r4.1 = false then some (0, (false, (1, ()))) else telemetry_Raw.c0 k v.1 v.2 p.1 p.2.1 p.2.2.1 p.2.2.2.1 p.2.2.2.2)) (x, f, c, ()) ∧
      Ev (fun k => perigeeref7_Raw.c0 k v.1 v.2 p.1 p.2.1 p.2.2.1 p.2.2.2.1 p.2.2.2.2) (x, f, c, ()) := by
      by_cases hd1 : 100 < v.2
      ·refine ⟨0, false, 1, .inr rfl, fun h => absurd h (by simp), ?_, ?_⟩
       ·exact Ev.yes hd1 (Ev.now _)
       ·refine Ev.step (fun k => by rw [perigeeref7_Raw.c0_eq]) ?_
        simp only [decide_eq_true_eq]
        exact Ev.yes hd1 (Ev.now _)
      ·by_cases hr : -1000000000 * v.2 ≤ v.1 ∧ v.1 ≤ 1000000000 * v.2
       ·obtain ⟨s, s1, s2, s3⟩ := side_ev p.2.2.2.1 fit.2.2.1
        have sR : ∀ r, Ev (fun k => perigeeref7_Raw.c1 k v.1 v.2 p.1 p.2.1 p.2.2.1 p.2.2.2.1 p.2.2.2.2) r → Ev (fun k => perigeeref7_Raw.c0 k v.1 v.2 p.1 p.2.1 p.2.2.1 p.2.2.2.1 p.2.2.2.2) r := by
         intro r hr'
         refine Ev.step (fun k => by rw [perigeeref7_Raw.c0_eq]) ?_
         simp only [decide_eq_true_eq, within_ev, Option.bind_some]
         refine Ev.no hd1 (Ev.no ?_ hr')
         rw [w64 (by omega) (by omega), w64 (by omega) (by omega), decide_eq_true hr]
         simp
        have sT : ∀ r, Ev (fun k => telemetry_Raw.c0 k v.1 v.2 p.1 p.2.1 p.2.2.1 p.2.2.2.1 p.2.2.2.2) r → Ev (fun k => if 100 < v.2 then some (0, (false, (1, ()))) else ((kit_In.f k v.1 (IntKind.wrap .i64 ((-1000000000) * v.2)) (IntKind.wrap .i64 (1000000000 * v.2))).bind fun r4 => if r4.1 = false then some (0, (false, (1, ()))) else telemetry_Raw.c0 k v.1 v.2 p.1 p.2.1 p.2.2.1 p.2.2.2.1 p.2.2.2.2)) r := by
         intro r hr'
         simp only [in_ev, Option.bind_some]
         refine Ev.no hd1 (Ev.no ?_ hr')
         rw [w64 (by omega) (by omega), w64 (by omega) (by omega), decide_eq_true hr]
         simp
        by_cases hs : s = 0
        ·refine ⟨0, false, 0, .inl rfl, fun h => absurd h (by simp), sT _ ?_, sR _ ?_⟩
         ·refine Ev.step (fun k => by rw [telemetry_Raw.c0_eq]) (Ev.bind s1 ?_)
          exact Ev.yes (by simpa using hs) (Ev.now _)
         ·refine Ev.step (fun k => by rw [perigeeref7_Raw.c1_eq]) (Ev.bind s2 ?_)
          exact Ev.yes (by simpa using hs) (Ev.now _)
        ·have ask : Ask p s v.1 v.2 := ⟨fit, s3 hs, by omega, by omega, hr.1, hr.2⟩
         have h2 := ask.dir.2.1
         obtain ⟨m, x, m1, m2, m3⟩ := raw_seg ask (p.2.2.2.1.length - 2) 0 (by omega) (fun h => by omega)
         refine ⟨x, true, 0, .inl rfl, fun _ => ⟨s, m, ask, m1⟩, sT _ ?_, sR _ ?_⟩
         ·refine Ev.step (fun k => by rw [telemetry_Raw.c0_eq]) (Ev.bind s1 ?_)
          exact Ev.no (by simpa using hs) m2
         ·refine Ev.step (fun k => by rw [perigeeref7_Raw.c1_eq]) (Ev.bind s2 ?_)
          exact Ev.no (by simpa using hs) m3
       ·refine ⟨0, false, 1, .inr rfl, fun h => absurd h (by simp), ?_, ?_⟩
        ·simp only [in_ev, Option.bind_some]
         refine Ev.no hd1 (Ev.yes ?_ (Ev.now _))
         rw [w64 (by omega) (by omega), w64 (by omega) (by omega), decide_eq_false hr]
        ·refine Ev.step (fun k => by rw [perigeeref7_Raw.c0_eq]) ?_
         simp only [decide_eq_true_eq, within_ev, Option.bind_some]
         refine Ev.no hd1 (Ev.yes ?_ (Ev.now _))
         rw [w64 (by omega) (by omega), w64 (by omega) (by omega), decide_eq_false hr]
         rfl
     obtain ⟨x, f, c, q1, q2, q3, q4⟩ := ways
     refine ⟨x, f, c, ?_, ?_, ?_⟩
     ·exact Ev.bind c1 (Ev.no (fun h => h rfl) (Ev.bind ep (Ev.no (by simp [fnd]) (Ev.no hd0 (Ev.bind lo1 (Ev.no (by simp) q3))))))
     ·exact Ev.bind c2 (Ev.no (fun h => h rfl) (Ev.bind fp (Ev.no (by simp [fnd]) (Ev.no hd0 (Ev.yes (by omega) (Ev.bind lo2 (Ev.no (by simp) q4)))))))
     ·intro _ p' a1 a2 a3
      cases a1
      exact ⟨q1, q2⟩
    ·rw [decide_eq_false hg] at lo1
     refine ⟨0, false, 3, ?_, ?_, fun _ _ _ _ h => absurd h hg⟩
     ·exact Ev.bind c1 (Ev.no (fun h => h rfl) (Ev.bind ep (Ev.no (by simp [fnd]) (Ev.no hd0 (Ev.bind lo1 (Ev.yes rfl (Ev.now _)))))))
     ·exact Ev.bind c2 (Ev.no (fun h => h rfl) (Ev.bind fp (Ev.no (by simp [fnd]) (Ev.no hd0 (Ev.yes (by omega) (Ev.bind lo2 (Ev.yes (by simp; omega) (Ev.now _))))))))
  | none =>
   rw [hq] at ep fp
   refine ⟨0, false, 9, ?_, ?_, fun _ p a1 => by cases a1⟩
   ·exact Ev.bind c1 (Ev.no (fun h => h rfl) (Ev.bind ep (Ev.yes rfl (Ev.now _))))
   ·exact Ev.bind c2 (Ev.no (fun h => h rfl) (Ev.bind fp (Ev.yes rfl (Ev.now _))))
 ·exact ⟨0, false, c, Ev.bind c1 (Ev.yes hc (Ev.now _)), Ev.bind c2 (Ev.yes hc (Ev.now _)), fun h => absurd (congrArg Prod.fst (Ev.unique c1 h)) hc⟩
end Go.Proofs.Ytcefbdknoelacaa.Pure

-- YtcefbdknoelacaaAw
namespace Go.Proofs.Ytcefbdknoelacaa.Pure
open Go Go.Proofs.Ytcefbdknoelacaa.A
theorem awake_at (k : Nat) : perigeelaw7_awake.f (k + 40) = some (true, ()) := by kernel_rfl
theorem awake_ev : Ev (fun k => perigeelaw7_awake.f k) (true, ()) := ⟨40, fun n hn => by
 obtain ⟨k, rfl⟩ : ∃ k, n = k + 40 := ⟨n - 40, by omega⟩
 exact awake_at k⟩
end Go.Proofs.Ytcefbdknoelacaa.Pure

-- YtcefbdknoelacaaPureTelemetryRawMatchesSpec
set_option linter.unusedVariables false
namespace Go.Proofs.Ytcefbdknoelacaa.Pure
open Go Go.Proofs.Ytcefbdknoelacaa.A

theorem TelemetryRawMatchesSpec (l : List DParameter) (t : List UInt8) (v : DShare) (h0 : okT (.sl YParameter) l) (h1 : okT .str t) (h2 : okT YShare v) : ∃ n, perigeelaw7_TelemetryRawMatchesSpec.f n l t v = some (true, ()) := by
 refine Ev.rounds (g := fun k => perigeelaw7_TelemetryRawMatchesSpec.f k l t v) ?_
 simp only [perigeelaw7_TelemetryRawMatchesSpec.f_eq, decide_eq_true_eq]
 obtain ⟨x, f, c, e1, e2, _⟩ := raw_ev l h0 t v h2.2.2
 exact Ev.bind e1 (Ev.bind e2 (Ev.yes rfl (Ev.yes rfl (Ev.yes rfl (Ev.bind awake_ev (Ev.now _))))))
end Go.Proofs.Ytcefbdknoelacaa.Pure

-- YtcefbdknoelacaaRTelemetryRawMatchesSpec
namespace Go.Proofs.Ytcefbdknoelacaa.telemetryRawMatchesSpec
open Go.ChangeShapes Go.WideShapes Go.ChangeAt Go.RowKit Go.Proofs.Ytcefbdknoelacaa.A
set_option linter.unusedVariables false
theorem own : ownKnob Try.prog.godebug = none := by kernel_rfl
theorem laidOut : laidOutB Try.prog = true := by kernel_rfl
set_option maxRecDepth 100000 in
theorem lifted (os : Os) (started : os.Started) (H : Type) (enc : TypeId × Value → H) :
 ReturnsInHanded {} Try.checked os 4 .any (Rows.telemetryRawMatchesSpecSpec.pre6 enc Try.prog Try.f4 Rows.telemetryRawMatchesSpecRow.domain false) (Rows.telemetryRawMatchesSpecSpec.post enc Try.prog Try.f4 false true false false) := by
 refine returnsInHanded_of_change_sized (C := Try.checked) own started (by kernel_rfl) Try.func4
  (ChangeSpec.witness6 (enc := enc) (C := Try.checked) false ⟨#[], #[.slice none 0 0, .string ByteArray.empty, .agg #[.int .i64 0, .int .i64 0]], []⟩ 8 (by kernel_rfl) (by kernel_rfl) (by kernel_rfl) (by kernel_rfl)) ?_
 intro W base args ds gs before hval0 hW hcnd hsz0 _
 have hsz : (DataW.weightsEach Try.prog (Try.f4.params.toList ++ Rows.telemetryRawMatchesSpecSpec.plain.varTypes Try.prog) (ds ++ gs)).all (· ≤ reachBytes) = true := hsz0
 have hval : ∀ (j : Nat) t v, Try.f4.params[j]? = some t → args[j]? = some v → Value.okWide Try.prog W .any base t v := hval0
 have hW' := hW
 obtain ⟨p, q, hA0, hV, rfl, hfz, hnd⟩ := hW
 have hA : DataW.TrodAll enc Try.prog W 0 (fun _ => true) true Try.f4.params.toList args.toList ds p := hA0
 rw [Try.params4] at hA hval hsz
 obtain ⟨v0, vs0, d0, ds0, p0, q0, hargs, rfl, rfl, h0, r0⟩ := trodAll_cons hA
 obtain ⟨v1, vs1, d1, ds1, p1, q1, rfl, rfl, rfl, h1, r1⟩ := trodAll_cons r0
 obtain ⟨v2, vs2, d2, ds2, p2, q2, rfl, rfl, rfl, h2, r2⟩ := trodAll_cons r1
 obtain ⟨rfl, rfl, rfl⟩ := trodAll_nil r2
 obtain rfl : args = #[v0, v1, v2] := by cases args; simp_all
 obtain ⟨rfl, rfl⟩ := trodVars_none hV
 have k0 := h0
 have lt0 : ∀ x ∈ p0, x.block < W.heap.size := by obtain ⟨m, hm⟩ := k0; exact DataW.trod_lt m _ _ _ hm
 obtain ⟨x0, y0, o0⟩ := arg_open (Z := fun b => b < W.heap.size) (fun _ h => h) (τ := (.sl YParameter)) (t := 22) (j := 0) (by kernel_rfl) hsz rfl rfl (hval 0 22 v0 rfl rfl) h0
 have k1 := h1
 have lt1 : ∀ x ∈ p1, x.block < W.heap.size := by obtain ⟨m, hm⟩ := k1; exact DataW.trod_lt m _ _ _ hm
 obtain ⟨x1, y1, o1⟩ := arg_open (Z := fun b => b < W.heap.size) (fun _ h => h) (τ := .str) (t := 9) (j := 1) (by kernel_rfl) hsz rfl rfl (hval 1 9 v1 rfl rfl) h1
 have k2 := h2
 have lt2 : ∀ x ∈ p2, x.block < W.heap.size := by obtain ⟨m, hm⟩ := k2; exact DataW.trod_lt m _ _ _ hm
 obtain ⟨x2, y2, o2⟩ := arg_open (Z := fun b => b < W.heap.size) (fun _ h => h) (τ := YShare) (t := 24) (j := 2) (by kernel_rfl) hsz rfl rfl (hval 2 24 v2 rfl rfl) h2
 clear hA0 hval0 hsz0 hsz
 obtain ⟨n, hn⟩ := Pure.TelemetryRawMatchesSpec x0 x1 x2 o0 o1 o2
 refine ((perigeelaw7_TelemetryRawMatchesSpec.ok n).ok (fun b => b < W.heap.size) W (x0, (x1, (x2, ()))) [v0, v1, v2] [] (true, ()) (fun _ h => h) ⟨v0, [v1, v2], [], [], rfl, rfl, y0, ⟨v1, [v2], [], [], rfl, rfl, y1, ⟨v2, [], [], [], rfl, rfl, y2, ⟨rfl, rfl⟩⟩⟩⟩ (by simp) (by simp) hn).mono fun e W' ⟨v, Z', us, Fr, Fi, he, p⟩ => ?_
 obtain ⟨hv, bel⟩ := law_end p (τs := []) rfl (b := true) (fun h => h)
 subst he
 subst hv
 exact ⟨_, rfl, _, _, _, [], _, [], hW', trodAll_mk1 (shut_bool Try.underlying4 _), (trodAll_cons_mk (Below.trod laidOut (by kernel_rfl) (of_decide_eq_true (by kernel_rfl)) k0 bel lt0) (trodAll_cons_mk (Below.trod laidOut (by kernel_rfl) (of_decide_eq_true (by kernel_rfl)) k1 bel lt1) (trodAll_cons_mk (Below.trod laidOut (by kernel_rfl) (of_decide_eq_true (by kernel_rfl)) k2 bel lt2) trodAll_mk0))), rfl, bel.frame _, fun h => by cases h⟩
end Go.Proofs.Ytcefbdknoelacaa.telemetryRawMatchesSpec
