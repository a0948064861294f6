/- Loops and Never of the program say what those of the reference say, with all errors. -/
import Derived.Test.YtadhpgecilhgnaaCWatchesLoopsMatchSpec3
-- YtadhpgecilhgnaaLp
set_option linter.unusedVariables false
set_option linter.unusedSimpArgs false
namespace Go.Proofs.Ytadhpgecilhgnaa.Pure
open Go Go.Proofs.Ytadhpgecilhgnaa.A

theorem Ev.rng {α β σ : Type} (z : α) (l : List α) (hl : l.length ≤ 4611686018427387904) {g : Nat → σ → Int → Option β} {B : Nat → σ → Int → Option β} {E : Nat → σ → Option β}
 (hg : ∀ k s i, g (k + 1) s i = if decide (i < (l.length : Int)) = true then (if (0 : Int) ≤ i ∧ i < (l.length : Int) then B k s i else none) else E k s)
 (Inv : Nat → σ → Prop) (spec : List α → Nat → σ → β)
 (hfin : ∀ s, Inv l.length s → Ev (fun k => E k s) (spec [] l.length s))
 (hstep : ∀ (i : Nat) (x : α) (xs : List α) (s : σ), i < l.length → x ∈ l → l.drop i = x :: xs → l.getD i z = x → IntKind.wrap .i64 ((i : Int) + 1) = (i : Int) + 1 → Inv i s →
  (∀ s', Inv (i + 1) s' → Ev (fun k => g k s' ((i : Int) + 1)) (spec xs (i + 1) s')) → Ev (fun k => B k s i) (spec (x :: xs) i s)) :
 ∀ (i : Nat) (s : σ), i ≤ l.length → Inv i s → Ev (fun k => g k s i) (spec (l.drop i) i s) := by
 have loop : ∀ (d i : Nat) (s : σ), i + d = l.length → Inv i s → Ev (fun k => g k s i) (spec (l.drop i) i s) := by
  intro d
  induction d with
  | zero =>
   intro i s hi hs
   have : i = l.length := by omega
   subst this
   refine Ev.step (fun k => hg k s _) ?_
   refine Ev.no (by simp) ?_
   rw [List.drop_length]
   exact hfin s hs
  | succ d ih =>
   intro i s hi hs
   refine Ev.step (fun k => hg k s _) ?_
   refine Ev.yes (by simp; omega) (Ev.yes (by omega) ?_)
   rw [List.drop_eq_getElem_cons (show i < l.length by omega)]
   refine hstep i _ _ s (by omega) (List.getElem_mem _) (List.drop_eq_getElem_cons (by omega)) (getD_nat z l i (by omega)) (w64 (by omega) (by omega)) hs fun s' hs' => ?_
   have := ih (i + 1) s' (by omega) hs'
   rw [show ((i + 1 : Nat) : Int) = (i : Int) + 1 by omega] at this
   exact this
 exact fun i s hi hs => loop (l.length - i) i s (by omega) hs
theorem Ev.rngR {α β σ : Type} (z : α) (l : List α) (hl : l.length ≤ 4611686018427387904) {g : Nat → σ → Int → Option β} {B : Nat → σ → Int → Option β} {E : Nat → σ → Option β}
 (hg : ∀ k s i, g (k + 1) s i = if decide (i < (l.length : Int)) = true then (if (0 : Int) ≤ i ∧ i < (l.length : Int) then B k s i else none) else E k s)
 (Inv : Nat → σ → Prop) (Q : β → Prop)
 (hfin : ∀ s, Inv l.length s → ∃ r, Ev (fun k => E k s) r ∧ Q r)
 (hstep : ∀ (i : Nat) (x : α) (s : σ), i < l.length → x ∈ l → l[i]? = Option.some x → l.getD i z = x → IntKind.wrap .i64 ((i : Int) + 1) = (i : Int) + 1 → Inv i s →
  (∀ s', Inv (i + 1) s' → ∃ r, Ev (fun k => g k s' ((i : Int) + 1)) r ∧ Q r) → ∃ r, Ev (fun k => B k s i) r ∧ Q r) :
 ∀ (i : Nat) (s : σ), i ≤ l.length → Inv i s → ∃ r, Ev (fun k => g k s i) r ∧ Q r := by
 have loop : ∀ (d i : Nat) (s : σ), i + d = l.length → Inv i s → ∃ r, Ev (fun k => g k s i) r ∧ Q r := by
  intro d
  induction d with
  | zero =>
   intro i s hi hs
   have : i = l.length := by omega
   subst this
   obtain ⟨r, h1, h2⟩ := hfin s hs
   exact ⟨r, Ev.step (fun k => hg k s _) (Ev.no (by simp) h1), h2⟩
  | succ d ih =>
   intro i s hi hs
   have hs' := hstep i l[i] s (by omega) (List.getElem_mem _) (List.getElem?_eq_getElem (by omega)) (getD_nat z l i (by omega)) (w64 (by omega) (by omega)) hs fun s' hs' => by
    have := ih (i + 1) s' (by omega) hs'
    rw [show ((i + 1 : Nat) : Int) = (i : Int) + 1 by omega] at this
    exact this
   obtain ⟨r, h1, h2⟩ := hs'
   exact ⟨r, Ev.step (fun k => hg k s _) (Ev.yes (by simp; omega) (Ev.yes (by omega) h1)), h2⟩
 exact fun i s hi hs => loop (l.length - i) i s (by omega) hs
theorem Ev.cast {α : Type} {g : Nat → Option α} {a b : α} (h : a = b) (e : Ev g a) : Ev g b := h ▸ e

theorem eqV_iff : ∀ {τ : Ty}, τ.eqB = true → ∀ {x y : τ.den}, eqV τ x y = true ↔ x = y := by
 intro τ
 induction τ with
 | pair a b iha ihb =>
  intro h x y
  simp only [Ty.eqB, Bool.and_eq_true] at h
  simp only [eqV, Bool.and_eq_true, iha h.1, ihb h.2]
  exact ⟨fun h => Prod.ext h.1 h.2, fun h => by rw [h]; exact ⟨rfl, rfl⟩⟩
 | bool => intro _ x y; exact decide_eq_true_iff
 | int k => intro _ x y; exact decide_eq_true_iff
 | str => intro _ x y; exact decide_eq_true_iff
 | fmap k e _ _ => intro h; cases h
 | mapb k e _ _ => intro h; cases h
 | nsl e _ => intro h; simp [Ty.eqB] at h
 | unit => intro h; simp [Ty.eqB] at h
 | sl e _ => intro h; simp [Ty.eqB] at h
 | vec e _ => intro h; simp [Ty.eqB] at h
 | map k e _ _ => intro h; simp [Ty.eqB] at h
 | fnv f => intro h; simp [Ty.eqB] at h
 | nil => intro h; simp [Ty.eqB] at h
 | ptr e _ => intro h; simp [Ty.eqB] at h
theorem eq_loop {α : Type} (z : α) {e : α → α → Bool} (he : ∀ x y, e x y = true ↔ x = y) (a b : List α) (hl : a.length ≤ 4611686018427387904) (hab : a.length = b.length) {g : Nat → Int → Option (Bool × Unit)}
 (hg : ∀ k i, g (k + 1) i = if decide (i < (a.length : Int)) = true then (if (0 : Int) ≤ i ∧ i < (a.length : Int) then (if (0 : Int) ≤ i ∧ i < (b.length : Int) then (if (!(e (a.getD i.toNat z) (b.getD i.toNat z))) = true then some (false, ()) else g k (IntKind.wrap .i64 (i + 1))) else none) else none) else some (true, ())) :
 ∃ r, Ev (fun k => g k 0) (r, ()) ∧ (r = true ↔ a = b) := by
 classical
 have := Ev.rng (σ := Unit) z a hl (g := fun k _ i => g k i) (fun k s i => hg k i) (fun i _ => True)
  (fun r i _ => (decide (∀ j : Nat, i ≤ j → j < a.length → a.getD j z = b.getD j z), ())) (fun _ _ => Ev.is (by
   rw [decide_eq_true]
   intro j h1 h2; omega)) (fun i x xs _ hi hx _ hget hw _ next => by
   simp only [Int.toNat_natCast, hget, hw, Bool.not_eq_true']
   refine Ev.yes (by omega) (Ev.split (fun h => ?_) (fun h => ?_))
   ·refine Ev.is ?_
    rw [decide_eq_false]
    intro hh
    have := hh i (Nat.le_refl _) hi
    rw [hget] at this
    rw [(he _ _).2 this] at h
    cases h
   ·refine Ev.cast ?_ (next () trivial)
    have h : x = b.getD i z := (he _ _).1 (by simpa using h)
    refine congrArg (fun b => (b, ())) (decide_eq_decide.2 ⟨fun hh j h1 h2 => ?_, fun hh j h1 h2 => hh j (by omega) h2⟩)
    rcases Nat.lt_or_ge i j with h3 | h3
    ·exact hh j h3 h2
    ·obtain rfl : j = i := by omega
     rw [hget]; exact h) 0 () (by omega) trivial
 refine ⟨_, this, ?_⟩
 rw [decide_eq_true_iff]
 refine ⟨fun h => List.ext_getElem hab fun j h1 h2 => ?_, fun h => by rw [h]; exact fun _ _ _ => rfl⟩
 have := h j (by omega) h1
 rw [getD_nat z a j h1, getD_nat z b j h2] at this
 exact this
theorem idx_loop {α : Type} [DecidableEq α] (z : α) (v : α) {e : α → Bool} (he : ∀ x, e x = true ↔ v = x) (l : List α) (hl : l.length ≤ 4611686018427387904) {g : Nat → Int → Option (Int × Unit)}
 (hg : ∀ k i, g (k + 1) i = if decide (i < (l.length : Int)) = true then (if (0 : Int) ≤ i ∧ i < (l.length : Int) then (if e (l.getD i.toNat z) = true then some (i, ()) else g k (IntKind.wrap .i64 (i + 1))) else none) else some (-1, ())) :
 ∃ n, Ev (fun k => g k 0) (n, ()) ∧ (0 ≤ n ↔ v ∈ l) := by
 have h := Ev.rng (σ := Unit) z l hl (g := fun k _ i => g k i) (fun k s i => hg k i)
  (fun _ _ => True) (fun r i _ => (if v ∈ r then ((i + r.idxOf v : Nat) : Int) else -1, ())) (fun _ _ => Ev.is (by simp)) (fun i x xs s hi hx _ hget hw _ next => by
   simp only [Int.toNat_natCast, hget, hw]
   refine Ev.split (fun h => ?_) (fun h => ?_)
   ·have h := (he _).1 h
    subst h
    refine Ev.is ?_
    simp
   ·refine Ev.cast ?_ (next () trivial)
    have h' : ¬ v = x := fun e => h ((he _).2 e)
    have h'' : ¬ x = v := fun e => h' e.symm
    by_cases hm : v ∈ xs
    ·rw [if_pos hm, if_pos (by simp [hm]), List.idxOf_cons, show (x == v) = false by simpa using h'']
     simp only [cond_false]
     congr 1; omega
    ·rw [if_neg hm, if_neg (by simp [hm, h'])]) 0 () (by omega) trivial
 refine ⟨_, h, ?_⟩
 simp only [List.drop_zero]
 split <;> rename_i hm
 ·exact ⟨fun _ => hm, fun _ => by omega⟩
 ·exact ⟨fun h => by omega, fun h => absurd h hm⟩
end Go.Proofs.Ytadhpgecilhgnaa.Pure

-- YtadhpgecilhgnaaQ1
set_option linter.unusedVariables false
set_option linter.unusedSimpArgs false
namespace Go.Proofs.Ytadhpgecilhgnaa.Pure
open Go Go.Proofs.Ytadhpgecilhgnaa.A

theorem in_ev (n : Nat) (a l h : Int) : kit_In.f n a l h = some (decide (l ≤ a ∧ a ≤ h), ()) := by
 rw [kit_In.f_eq]
 by_cases h1 : l ≤ a <;> simp [h1]
theorem name_ex (s : List UInt8) (hs : s.length ≤ 140737488351232) : ∃ b, Ev (fun k => monitor_IsName.f k s) (b, ()) ∧ (b = true → s.length ≤ 40) := by
 by_cases h0 : s = []
 ·exact ⟨false, Ev.eq (fun k => by rw [monitor_IsName.f_eq]) (Ev.yes (by simpa using h0) (Ev.now _)), fun h => by cases h⟩
 by_cases h1 : 40 < (s.length : Int)
 ·exact ⟨false, Ev.eq (fun k => by rw [monitor_IsName.f_eq]) (Ev.no (by simpa using h0) (Ev.yes (by simpa using h1) (Ev.now _))), fun h => by cases h⟩
 have h := Ev.rngR (σ := Unit) (0 : UInt8) s (by omega) (g := fun k _ i => monitor_IsName.c1 k s (s.length : Int) i) (fun k _ i => monitor_IsName.c1_eq _ _ _ _)
  (fun _ _ => True) (fun r : Bool × Unit => True) (fun _ _ => ⟨_, Ev.now _, trivial⟩) (fun i x _ hi hx _ hget hw _ next => by
   simp only [Int.toNat_natCast, hget, hw]
   obtain ⟨r, n1, _⟩ := next () trivial
   have key : ∀ {g : Nat → Option (Bool × Unit)}, (Ev g (false, ()) ∨ Ev g r) → ∃ r, Ev g r ∧ True := fun h => h.elim (fun h => ⟨_, h, trivial⟩) (fun h => ⟨_, h, trivial⟩)
   have sp : ∀ {c : Prop} {hd : Decidable c} {g f : Nat → Option (Bool × Unit)}, (Ev g (false, ()) ∨ Ev g r) → (Ev f (false, ()) ∨ Ev f r) → (Ev (fun k => if c then g k else f k) (false, ()) ∨ Ev (fun k => if c then g k else f k) r) := fun {c hd g f} y n => by
    by_cases h : c
    ·exact y.imp (fun y => Ev.yes h y) (fun y => Ev.yes h y)
    ·exact n.imp (fun n => Ev.no h n) (fun n => Ev.no h n)
   have F : Ev (fun _ : Nat => some (false, ())) (false, ()) ∨ Ev (fun _ : Nat => some (false, ())) r := .inl (Ev.now _)
   have N : Ev (fun k => monitor_IsName.c1 k s (s.length : Int) ((i : Int) + 1)) (false, ()) ∨ Ev (fun k => monitor_IsName.c1 k s (s.length : Int) ((i : Int) + 1)) r := .inr n1
   exact key (sp (sp F (sp (sp (sp F (sp F N)) N) N)) (sp (sp F (sp (sp (sp F (sp F N)) N) N)) N))) 0 () (by omega) trivial
 obtain ⟨⟨b, u⟩, h2, _⟩ := h
 have h2 : Ev (fun k => monitor_IsName.c1 k s (s.length : Int) 0) (b, u) := h2
 exact ⟨b, Ev.eq (fun k => by rw [monitor_IsName.f_eq]) (Ev.no (by simpa using h0) (Ev.no (by simpa using h1) (Ev.step (fun k => by rw [monitor_IsName.c0_eq]) h2))), fun _ => by omega⟩
open Classical in
noncomputable def isNm (s : List UInt8) : Bool := if Ev (fun k => monitor_IsName.f k s) (true, ()) then true else false
theorem name_ev (s : List UInt8) (hs : s.length ≤ 140737488351232) : Ev (fun k => monitor_IsName.f k s) (isNm s, ()) ∧ (isNm s = true → s.length ≤ 40) := by
 obtain ⟨b, h1, h2⟩ := name_ex s hs
 have : isNm s = b := by
  unfold isNm
  cases b with
  | true => rw [if_pos h1]
  | false =>
   rw [if_neg]
   intro h
   have := h.unique h1
   simp at this
 rw [this]
 exact ⟨h1, h2⟩

theorem awake_at (k : Nat) : perigeelaw8_awake.f (k + 40) = some (true, ()) := by kernel_rfl
theorem awake_ev : Ev (fun k => perigeelaw8_awake.f k) (true, ()) := ⟨40, fun n hn => by
 obtain ⟨k, rfl⟩ : ∃ k, n = k + 40 := ⟨n - 40, by omega⟩
 exact awake_at k⟩

theorem nm_ne {s : List UInt8} (h : isNm s = true) : s ≠ [] := by
 intro e
 subst e
 have h1 : Ev (fun k => monitor_IsName.f k []) (false, ()) := Ev.eq (fun k => monitor_IsName.f_eq _ _) (Ev.yes (by simp) (Ev.now _))
 have h2 := (name_ev [] (by simp)).1.unique h1
 rw [h] at h2
 cases h2
theorem contains_ev (s : List (List UInt8)) (v : List UInt8) (hl : s.length ≤ 4611686018427387904) : Ev (fun k => slices_Contains_string.f k s v) (decide (v ∈ s), ()) := by
 obtain ⟨n, h1, h2⟩ := idx_loop ([] : List UInt8) v (e := fun x => decide (v = x)) (fun x => by simp) s hl (g := fun k i => slices_Index_string.c0 k s v (s.length : Int) i) (fun k i => slices_Index_string.c0_eq _ _ _ _ _)
 refine Ev.eq (fun k => by rw [slices_Contains_string.f_eq]) (Ev.bind (Ev.eq (fun k => by rw [slices_Index_string.f_eq]) h1) (Ev.is ?_))
 rw [decide_eq_decide.2 h2]
def befC (b c : DModeChange) : Prop := lessS c.1 b.1 = false ∧ (c.1 = b.1 → lessS b.2.1 c.2.1 = true)
structure ModesOk (w : DWatch) : Prop where
 m0 : 1 ≤ w.1.length
 ml : w.1.length ≤ 50
 cl : w.2.1.length ≤ 500
 ch : ∀ c ∈ w.2.1, c.1 ∈ w.1 ∧ c.2.2 ∈ w.1
 od : ∀ j, j < w.2.1.length → 0 < j → befC (w.2.1.getD (j - 1) (Ty.dflt YModeChange)) (w.2.1.getD j (Ty.dflt YModeChange))
 md : w.2.2.1 ∈ w.1
 en : ∀ c ∈ w.2.1, c.2.1 ≠ []
 mo : ∀ j, j < w.1.length → 0 < j → lessS (w.1.getD (j - 1) []) (w.1.getD j []) = true
theorem changes_ev (w : DWatch) (h0 : okT YWatch w) (m0 : 1 ≤ w.1.length) (ml : w.1.length ≤ 50) (cl : w.2.1.length ≤ 500) (mo : ∀ j, j < w.1.length → 0 < j → lessS (w.1.getD (j - 1) []) (w.1.getD j []) = true) : ∃ r : Int × Unit, Ev (fun k => monitor_checkModes.c1 k w.1 w.2.1 w.2.2.1 w.2.2.2 w.2.1 (w.2.1.length : Int) 0) r ∧ (r.1 = 0 → ModesOk w) := by
 have hm := contains_ev w.1
 refine Ev.rngR (σ := Unit) (Ty.dflt YModeChange) w.2.1 (by omega) (g := fun k _ i => monitor_checkModes.c1 k w.1 w.2.1 w.2.2.1 w.2.2.2 w.2.1 (w.2.1.length : Int) i) (fun k _ i => monitor_checkModes.c1_eq _ _ _ _ _ _ _ _)
  (fun i _ => ∀ j, j < i → j < w.2.1.length → ((w.2.1.getD j (Ty.dflt YModeChange)).1 ∈ w.1 ∧ (w.2.1.getD j (Ty.dflt YModeChange)).2.2 ∈ w.1 ∧ (w.2.1.getD j (Ty.dflt YModeChange)).2.1 ≠ []) ∧ (0 < j → befC (w.2.1.getD (j - 1) (Ty.dflt YModeChange)) (w.2.1.getD j (Ty.dflt YModeChange))))
  (fun r => r.1 = 0 → ModesOk w) (fun _ hs => ?_) (fun i c _ hi hc hget hgd hw hs next => ?_) 0 () (by omega) (fun j hj => by omega)
 ·by_cases h : w.2.2.1 ∈ w.1
  ·refine ⟨_, Ev.bind (hm _ (by omega)) (Ev.no (by simp [h]) (Ev.now _)), fun _ => ⟨m0, ml, cl, fun c hc => ?_, fun j hj hj0 => (hs j hj hj).2 hj0, h, fun c hc => ?_, mo⟩⟩
   obtain ⟨j, hj, rfl⟩ := List.getElem_of_mem hc
   have := (hs j hj hj).1
   rw [getD_nat _ _ _ hj] at this
   exact ⟨this.1, this.2.1⟩
   obtain ⟨j, hj, rfl⟩ := List.getElem_of_mem hc
   have := (hs j hj hj).1
   rw [getD_nat _ _ _ hj] at this
   exact this.2.2
  ·exact ⟨_, Ev.bind (hm _ (by omega)) (Ev.yes (by simp [h]) (Ev.now _)), fun h => by cases h⟩
 ·simp only [Int.toNat_natCast, hgd, hw]
  have hce := (h0.2.1.2.2 c hc).2.1
  by_cases h1 : c.1 ∈ w.1
  case neg => exact ⟨_, Ev.bind (hm _ (by omega)) (Ev.yes (by simp [h1]) (Ev.now _)), fun h => by cases h⟩
  by_cases h2 : c.2.2 ∈ w.1
  case neg => exact ⟨_, Ev.bind (hm _ (by omega)) (Ev.no (by simp [h1]) (Ev.bind (hm _ (by omega)) (Ev.yes (by simp [h2]) (Ev.now _)))), fun h => by cases h⟩
  have pre : ∀ {r : Int × Unit}, Ev (fun k => monitor_checkModes.c2 k w.1 w.2.1 w.2.2.1 w.2.2.2 (i : Int) c.1 c.2.1 c.2.2 w.2.1 (w.2.1.length : Int) (i : Int)) r → Ev (fun k => (slices_Contains_string.f k w.1 c.1).bind fun r2 => if (!r2.1) = true then some (9, ()) else (slices_Contains_string.f k w.1 c.2.2).bind fun r3 => if (!r3.1) = true then some (9, ()) else monitor_checkModes.c2 k w.1 w.2.1 w.2.2.1 w.2.2.2 (i : Int) c.1 c.2.1 c.2.2 w.2.1 (w.2.1.length : Int) (i : Int)) r := fun h =>
   Ev.bind (hm _ (by omega)) (Ev.no (by simp [h1]) (Ev.bind (hm _ (by omega)) (Ev.no (by simp [h2]) h)))
  obtain ⟨nm, _⟩ := name_ev c.2.1 hce
  by_cases h3 : isNm c.2.1 = true
  case neg =>
   refine ⟨(5, ()), pre (Ev.step (fun k => monitor_checkModes.c2_eq _ _ _ _ _ _ _ _ _ _ _ _) ?_), fun h => by cases h⟩
   exact Ev.bind nm (Ev.yes (by simpa using h3) (Ev.now _))
  have key : (0 < i → befC (w.2.1.getD (i - 1) (Ty.dflt YModeChange)) c) → ∃ r, Ev (fun k => monitor_checkModes.c1 k w.1 w.2.1 w.2.2.1 w.2.2.2 w.2.1 (w.2.1.length : Int) ((i : Int) + 1)) r ∧ (r.1 = 0 → ModesOk w) := fun hb => next () fun j hj hjl => by
   by_cases e : j = i
   ·subst e
    rw [hgd]
    exact ⟨⟨h1, h2, nm_ne h3⟩, hb⟩
   ·exact hs j (by omega) hjl
  by_cases hi0 : i = 0
  ·subst hi0
   obtain ⟨r, r1, r2⟩ := key (fun h => by omega)
   refine ⟨r, pre (Ev.step (fun k => monitor_checkModes.c2_eq _ _ _ _ _ _ _ _ _ _ _ _) ?_), r2⟩
   refine Ev.bind nm (Ev.no (by simp [h3]) (Ev.no (by simp) ?_))
   rw [hw]; exact r1
  ·have hw1 : IntKind.wrap .i64 ((i : Int) - 1) = ((i - 1 : Nat) : Int) := by rw [w64 (by omega) (by omega)]; omega
   have pre2 : ∀ {r : Int × Unit}, Ev (fun k => if (lessS c.1 (w.2.1.getD (i - 1) (Ty.dflt YModeChange)).1) = true then some (8, ()) else if (decide (c.1 = (w.2.1.getD (i - 1) (Ty.dflt YModeChange)).1)) = true then (if (!(lessS (w.2.1.getD (i - 1) (Ty.dflt YModeChange)).2.1 c.2.1)) = true then some (8, ()) else monitor_checkModes.c1 k w.1 w.2.1 w.2.2.1 w.2.2.2 w.2.1 (w.2.1.length : Int) ((i : Int) + 1)) else monitor_checkModes.c1 k w.1 w.2.1 w.2.2.1 w.2.2.2 w.2.1 (w.2.1.length : Int) ((i : Int) + 1)) r →
    Ev (fun k => monitor_checkModes.c2 k w.1 w.2.1 w.2.2.1 w.2.2.2 (i : Int) c.1 c.2.1 c.2.2 w.2.1 (w.2.1.length : Int) (i : Int)) r := fun {r} h => by
    refine Ev.step (fun k => monitor_checkModes.c2_eq _ _ _ _ _ _ _ _ _ _ _ _) ?_
    refine Ev.bind nm (Ev.no (by simp [h3]) (Ev.yes (by simp; omega) ?_))
    simp only [hw1, hw, Int.toNat_natCast]
    exact Ev.yes (by omega) h
   by_cases l1 : lessS c.1 (w.2.1.getD (i - 1) (Ty.dflt YModeChange)).1 = true
   ·exact ⟨(8, ()), pre (pre2 (Ev.yes l1 (Ev.now _))), fun h => by cases h⟩
   have l1' : lessS c.1 (w.2.1.getD (i - 1) (Ty.dflt YModeChange)).1 = false := by simpa using l1
   by_cases l2 : c.1 = (w.2.1.getD (i - 1) (Ty.dflt YModeChange)).1
   ·by_cases l3 : lessS (w.2.1.getD (i - 1) (Ty.dflt YModeChange)).2.1 c.2.1 = true
    ·obtain ⟨r, r1, r2⟩ := key (fun _ => ⟨l1', fun _ => l3⟩)
     exact ⟨r, pre (pre2 (Ev.no l1 (Ev.yes (decide_eq_true l2) (Ev.no (fun h => by rw [l3] at h; cases h) r1)))), r2⟩
    ·exact ⟨(8, ()), pre (pre2 (Ev.no l1 (Ev.yes (decide_eq_true l2) (Ev.yes (by simpa using l3) (Ev.now _))))), fun h => by cases h⟩
   ·obtain ⟨r, r1, r2⟩ := key (fun _ => ⟨l1', fun h => absurd h l2⟩)
    exact ⟨r, pre (pre2 (Ev.no l1 (Ev.no (fun h => l2 (of_decide_eq_true h)) r1))), r2⟩
end Go.Proofs.Ytadhpgecilhgnaa.Pure

-- YtadhpgecilhgnaaQ2
set_option linter.unusedVariables false
set_option linter.unusedSimpArgs false
namespace Go.Proofs.Ytadhpgecilhgnaa.Pure
open Go Go.Proofs.Ytadhpgecilhgnaa.A

theorem modes_ev (w : DWatch) (h0 : okT YWatch w) : ∃ r : Int × Unit, Ev (fun k => monitor_checkModes.f k w) r ∧ (r.1 = 0 → ModesOk w) := by
 have hm := contains_ev w.1
 by_cases m0 : w.1.length = 0
 ·refine ⟨(9, ()), Ev.eq (fun k => monitor_checkModes.f_eq _ _) ?_, fun h => by cases h⟩
  exact Ev.yes (by simp [m0]) (Ev.now _)
 by_cases ml : 50 < w.1.length
 ·refine ⟨(2, ()), Ev.eq (fun k => monitor_checkModes.f_eq _ _) ?_, fun h => by cases h⟩
  exact Ev.no (fun h => m0 (by have := of_decide_eq_true h; omega)) (Ev.yes (decide_eq_true (by omega)) (Ev.now _))
 have start : ∀ {r}, Ev (fun k => monitor_checkModes.c0 k w.1 w.2.1 w.2.2.1 w.2.2.2 w.1 (w.1.length : Int) 0) r → Ev (fun k => monitor_checkModes.f k w) r := fun {r} h => by
  refine Ev.eq (fun k => monitor_checkModes.f_eq _ _) ?_
  exact Ev.no (fun h => m0 (by have := of_decide_eq_true h; omega)) (Ev.no (fun h => ml (by have := of_decide_eq_true h; omega)) h)
 have := Ev.rngR (σ := Unit) ([] : List UInt8) w.1 (by omega) (g := fun k _ i => monitor_checkModes.c0 k w.1 w.2.1 w.2.2.1 w.2.2.2 w.1 (w.1.length : Int) i) (fun k _ i => monitor_checkModes.c0_eq _ _ _ _ _ _ _ _)
  (fun i _ => ∀ j, j < i → 0 < j → lessS (w.1.getD (j - 1) []) (w.1.getD j []) = true) (fun r => r.1 = 0 → ModesOk w) (fun _ hs => ?_) (fun i x _ hi hc hget hgd hw hs next => ?_) 0 () (by omega) (fun j hj => by omega)
 ·obtain ⟨r, r1, r2⟩ := this
  exact ⟨r, start r1, r2⟩
 ·by_cases cl : 500 < w.2.1.length
  ·exact ⟨(2, ()), Ev.yes (decide_eq_true (by omega)) (Ev.now _), fun h => by cases h⟩
  ·obtain ⟨r, r1, r2⟩ := changes_ev w h0 (by omega) (by omega) (by omega) hs
   exact ⟨r, Ev.no (fun h => cl (by have := of_decide_eq_true h; omega)) r1, r2⟩
 ·simp only [Int.toNat_natCast, hgd, hw]
  obtain ⟨nm, _⟩ := name_ev x (h0.1.2.2 x hc)
  by_cases h3 : isNm x = true
  case neg => exact ⟨(5, ()), Ev.bind nm (Ev.yes (by simpa using h3) (Ev.now _)), fun h => by cases h⟩
  by_cases hi0 : i = 0
  ·subst hi0
   obtain ⟨r, r1, r2⟩ := next () (fun j hj h0 => by omega)
   exact ⟨r, Ev.bind nm (Ev.no (by simp [h3]) (Ev.no (by simp) r1)), r2⟩
  ·have hw1 : IntKind.wrap .i64 ((i : Int) - 1) = ((i - 1 : Nat) : Int) := by rw [w64 (by omega) (by omega)]; omega
   simp only [hw1, Int.toNat_natCast]
   by_cases l1 : lessS (w.1.getD (i - 1) []) x = true
   ·obtain ⟨r, r1, r2⟩ := next () (fun j hj h0 => by
     by_cases e : j = i
     ·subst e; rw [hgd]; exact l1
     ·exact hs j (by omega) h0)
    exact ⟨r, Ev.bind nm (Ev.no (by simp [h3]) (Ev.yes (by simp; omega) (Ev.yes (by omega) (Ev.no (fun h => by rw [l1] at h; cases h) r1)))), r2⟩
   ·exact ⟨(8, ()), Ev.bind nm (Ev.no (by simp [h3]) (Ev.yes (by simp; omega) (Ev.yes (by omega) (Ev.yes (by simpa using l1) (Ev.now _))))), fun h => by cases h⟩
end Go.Proofs.Ytadhpgecilhgnaa.Pure

-- YtadhpgecilhgnaaQ3
set_option linter.unusedVariables false
set_option linter.unusedSimpArgs false
namespace Go.Proofs.Ytadhpgecilhgnaa.Pure
open Go Go.Proofs.Ytadhpgecilhgnaa.A

abbrev S := List UInt8
def lk {β : Type} : List (S × β) → S → Option β
 | [], _ => none
 | p :: m, k => if p.1 = k then some p.2 else lk m k
section
variable {σ : Ty}
theorem eqS {x y : S} : eqV .str x y = true ↔ x = y := eqV_iff (τ := .str) rfl
theorem get_lk (m : List (S × σ.den)) (k : S) (z : σ.den) : mapGet .str σ k m z = (lk m k).getD z := by
 induction m with
 | nil => rfl
 | cons p m ih =>
  rw [mapGet, lk]
  by_cases h : p.1 = k
  ·rw [if_pos h, if_pos (eqS.2 h)]; rfl
  ·rw [if_neg h, if_neg (fun e => h (eqS.1 e)), ih]
theorem lk_put (m : List (S × σ.den)) (k : S) (v : σ.den) (j : S) : lk (mapPut .str σ k v m) j = if k = j then some v else lk m j := by
 induction m with
 | nil => simp [mapPut, lk]
 | cons p m ih =>
  rw [mapPut]
  by_cases h : p.1 = k
  ·rw [if_pos (eqS.2 h), lk, lk]
   by_cases hj : k = j
   ·rw [if_pos hj, if_pos hj]
   ·rw [if_neg hj, if_neg hj, if_neg (fun e => hj (h ▸ e))]
  ·rw [if_neg (fun e => h (eqS.1 e)), lk, lk, ih]
   by_cases hp : p.1 = j
   ·rw [if_pos hp, if_neg (fun e => h (hp.trans e.symm)), if_pos hp]
   ·rw [if_neg hp, if_neg hp]
end
theorem nodup_len {α : Type} [DecidableEq α] : ∀ {l m : List α}, l.Nodup → (∀ x ∈ l, x ∈ m) → l.length ≤ m.length
 | [], m, _, _ => by simp
 | x :: l, m, h, hs => by
  rw [List.nodup_cons] at h
  have hx := hs x (by simp)
  have := nodup_len (l := l) (m := m.erase x) h.2 fun y hy => (List.mem_erase_of_ne (by rintro rfl; exact h.1 hy)).2 (hs y (by simp [hy]))
  rw [List.length_erase_of_mem hx] at this
  have := List.length_pos_of_mem hx
  simp only [List.length_cons]; omega

def Wi (C : List DModeChange) (fr : S) : Nat → S → Prop
 | 0, y => y = fr
 | n + 1, y => Wi C fr n y ∨ ∃ c ∈ C, Wi C fr n c.1 ∧ c.2.2 = y
theorem Wi.mono {C : List DModeChange} {fr y : S} {n m : Nat} (h : n ≤ m) (hw : Wi C fr n y) : Wi C fr m y := by
 induction m with
 | zero =>
  obtain rfl : n = 0 := by omega
  exact hw
 | succ m ih =>
  by_cases e : n = m + 1
  ·subst e; exact hw
  ·exact .inl (ih (by omega))
def wk (C : List DModeChange) (m e : S) : S := match C.find? fun c => decide (c.1 = m ∧ c.2.1 = e) with | some c => c.2.2 | none => m
end Go.Proofs.Ytadhpgecilhgnaa.Pure

-- YtadhpgecilhgnaaQ13
set_option linter.unusedVariables false
set_option linter.unusedSimpArgs false
namespace Go.Proofs.Ytadhpgecilhgnaa.Pure
open Go Go.Proofs.Ytadhpgecilhgnaa.A

abbrev rul (w : DWatch) (i : Nat) : DWatchRule := w.2.2.2.getD i (Ty.dflt YWatchRule)
def ActsOk (x : DWatchRule) : Prop := x.2.2.2.2.length ≤ 10 ∧ ∀ a ∈ x.2.2.2.2, a.1 = 1 → a.2.2 = false
structure RulesOk (w : DWatch) : Prop where
 rl : w.2.2.2.length ≤ 200
 ac : ∀ i, i < w.2.2.2.length → ActsOk (rul w i)
 od : ∀ j, j < w.2.2.2.length → 0 < j → lessS (rul w (j - 1)).1 (rul w j).1 = true
theorem rule_acts (w : DWatch) (x : DWatchRule) (hl : w.1.length ≤ 50) (hx : okT YWatchRule x) : ∃ r : Int × Unit, Ev (fun k => monitor_checkRule.f k w x) r ∧ (r.1 = 0 → ActsOk x) := by
 have tail : ∃ r : Int × Unit, Ev (fun k => monitor_checkRule.c1 k x.1 x.2.1 x.2.2.1 x.2.2.2.1 x.2.2.2.2) r ∧ (r.1 = 0 → ActsOk x) := by
  by_cases al : 10 < x.2.2.2.2.length
  ·refine ⟨(2, ()), Ev.step (fun k => monitor_checkRule.c1_eq _ _ _ _ _ _) ?_, fun h => by cases h⟩
   exact Ev.yes (decide_eq_true (by omega)) (Ev.now _)
  have := Ev.rngR (σ := Unit) (Ty.dflt YAct) x.2.2.2.2 (by omega) (g := fun k _ i => monitor_checkRule.c2 k x.2.2.2.2 (x.2.2.2.2.length : Int) i) (fun k _ i => monitor_checkRule.c2_eq _ _ _ _)
   (fun i _ => ∀ a ∈ x.2.2.2.2.take i, a.1 = 1 → a.2.2 = false) (fun r => r.1 = 0 → ActsOk x) (fun _ hs => ⟨(0, ()), Ev.now _, fun _ => ⟨by omega, by rw [List.take_length] at hs; exact hs⟩⟩) (fun i y _ hi hc hget hgd hw hs next => ?_) 0 () (by omega) (fun a ha => by simp at ha)
  ·obtain ⟨r, r1, r2⟩ := this
   refine ⟨r, Ev.step (fun k => monitor_checkRule.c1_eq _ _ _ _ _ _) ?_, r2⟩
   exact Ev.no (fun h => al (by have := of_decide_eq_true h; omega)) r1
  ·simp only [Int.toNat_natCast, hgd, hw, in_ev, Option.bind_some]
   obtain ⟨nm, _⟩ := name_ev y.2.1 ((hx.2.2.2.2.2.2 y hc).2.1)
   have nx : (y.1 = 1 → y.2.2 = false) → ∃ r : Int × Unit, Ev (fun k => monitor_checkRule.c2 k x.2.2.2.2 (x.2.2.2.2.length : Int) ((i : Int) + 1)) r ∧ (r.1 = 0 → ActsOk x) := fun h => next () fun a ha => by
    rw [List.take_add_one, hget] at ha
    rcases List.mem_append.1 ha with ha | ha
    ·exact hs a ha
    ·simp at ha; subst ha; exact h
   by_cases k1 : (1 ≤ y.1 ∧ y.1 ≤ 4)
   case neg => exact ⟨(4, ()), Ev.yes (by simp only [decide_eq_false k1]; rfl) (Ev.now _), fun h => by cases h⟩
   by_cases h3 : isNm y.2.1 = true
   case neg => exact ⟨(5, ()), Ev.no (by simp only [decide_eq_true k1]; simp) (Ev.bind nm (Ev.yes (by simpa using h3) (Ev.now _))), fun h => by cases h⟩
   by_cases h4 : y.2.2 = true
   case neg =>
    obtain ⟨r, r1, r2⟩ := nx (fun _ => by simpa using h4)
    exact ⟨r, Ev.no (by simp only [decide_eq_true k1]; simp) (Ev.bind nm (Ev.no (by simp [h3]) (Ev.no h4 r1))), r2⟩
   by_cases h5 : y.1 = 4
   ·obtain ⟨r, r1, r2⟩ := nx (fun h => by have e : (1 : Int) = 4 := h.symm.trans h5; omega)
    exact ⟨r, Ev.no (by simp only [decide_eq_true k1]; simp) (Ev.bind nm (Ev.no (by simp [h3]) (Ev.yes h4 (Ev.no (by simp [h5]) r1)))), r2⟩
   ·exact ⟨(3, ()), Ev.no (by simp only [decide_eq_true k1]; simp) (Ev.bind nm (Ev.no (by simp [h3]) (Ev.yes h4 (Ev.yes (by simpa using h5) (Ev.now _))))), fun h => by cases h⟩
 obtain ⟨r, r1, r2⟩ := tail
 obtain ⟨n1, _⟩ := name_ev x.1 hx.1
 obtain ⟨n2, _⟩ := name_ev x.2.1 hx.2.1
 by_cases a1 : isNm x.1 = true
 case neg =>
  refine ⟨(5, ()), Ev.eq (fun k => monitor_checkRule.f_eq _ _ _) ?_, fun h => by cases h⟩
  exact Ev.bind n1 (Ev.yes (by simpa using a1) (Ev.now _))
 by_cases a2 : isNm x.2.1 = true
 case neg =>
  refine ⟨(5, ()), Ev.eq (fun k => monitor_checkRule.f_eq _ _ _) ?_, fun h => by cases h⟩
  exact Ev.bind n1 (Ev.no (by simp [a1]) (Ev.bind n2 (Ev.yes (by simpa using a2) (Ev.now _))))
 have go : ∀ {r}, Ev (fun k => monitor_checkRule.c0 k w.1 w.2.1 w.2.2.1 w.2.2.2 x.1 x.2.1 x.2.2.1 x.2.2.2.1 x.2.2.2.2) r → Ev (fun k => monitor_checkRule.f k w x) r := fun {r} h => by
  refine Ev.eq (fun k => monitor_checkRule.f_eq _ _ _) ?_
  exact Ev.bind n1 (Ev.no (by simp [a1]) (Ev.bind n2 (Ev.no (by simp [a2]) h)))
 by_cases a3 : x.2.2.1 = []
 ·refine ⟨r, go (Ev.step (fun k => monitor_checkRule.c0_eq _ _ _ _ _ _ _ _ _ _) ?_), r2⟩
  exact Ev.no (by simp [a3]) r1
 by_cases a4 : x.2.2.1 ∈ w.1
 ·refine ⟨r, go (Ev.step (fun k => monitor_checkRule.c0_eq _ _ _ _ _ _ _ _ _ _) ?_), r2⟩
  exact Ev.yes (by simpa using a3) (Ev.bind (contains_ev _ _ (by omega)) (Ev.no (by simp [a4]) r1))
 ·refine ⟨(9, ()), go (Ev.step (fun k => monitor_checkRule.c0_eq _ _ _ _ _ _ _ _ _ _) ?_), fun h => by cases h⟩
  exact Ev.yes (by simpa using a3) (Ev.bind (contains_ev _ _ (by omega)) (Ev.yes (by simp [a4]) (Ev.now _)))
theorem watch_rules (w : DWatch) (h0 : okT YWatch w) {c : Int} (hc : Ev (fun k => monitor_CheckWatch.f k w) (c, ())) (c0 : c = 0) : RulesOk w := by
 subst c0
 obtain ⟨r, r1, r2⟩ := modes_ev w h0
 have rl : w.2.2.2.length ≤ 200 ∧ r.1 = 0 := by
  by_cases hr : r.1 = 0
  case neg =>
   have : Ev (fun k => monitor_CheckWatch.f k w) (r.1, ()) := Ev.eq (fun k => monitor_CheckWatch.f_eq _ _) (Ev.bind r1 (Ev.yes (by simpa using hr) (Ev.now _)))
   have e := hc.unique this
   simp only [Prod.mk.injEq, and_true] at e
   exact absurd e.symm hr
  refine ⟨?_, hr⟩
  apply Classical.byContradiction
  intro hn
  have : Ev (fun k => monitor_CheckWatch.f k w) (2, ()) := Ev.eq (fun k => monitor_CheckWatch.f_eq _ _) (Ev.bind r1 (Ev.no (by simp [hr]) (Ev.yes (decide_eq_true (by omega)) (Ev.now _))))
  have e := hc.unique this
  simp at e
 obtain ⟨rl, hr⟩ := rl
 have ok := r2 hr
 suffices h : ∃ s : Int × Unit, Ev (fun k => monitor_CheckWatch.c0 k w.1 w.2.1 w.2.2.1 w.2.2.2 [] w.2.2.2 (w.2.2.2.length : Int) 0) s ∧ (s.1 = 0 → RulesOk w) by
  obtain ⟨s, s1, s2⟩ := h
  have : Ev (fun k => monitor_CheckWatch.f k w) s := Ev.eq (fun k => monitor_CheckWatch.f_eq _ _) (Ev.bind r1 (Ev.no (by simp [hr]) (Ev.no (fun h => by have := of_decide_eq_true h; omega) s1)))
  have e := hc.unique this
  exact s2 (by rw [← e])
 have acts : ∀ (m : List (List UInt8 × Bool)), ∃ r : Int × Unit, Ev (fun k => monitor_CheckWatch.c1 k m w.2.2.2 (w.2.2.2.length : Int) 0) r := fun m => by
  have := Ev.rngR (σ := Unit) (Ty.dflt YWatchRule) w.2.2.2 (by omega) (g := fun k _ i => monitor_CheckWatch.c1 k m w.2.2.2 (w.2.2.2.length : Int) i) (fun k _ i => monitor_CheckWatch.c1_eq _ _ _ _ _)
   (fun i _ => True) (fun r => True) (fun _ hs => ⟨_, Ev.now _, trivial⟩) (fun i x _ hi hc hget hgd hw hs next => ?_) 0 () (by omega) trivial
  ·obtain ⟨r, r1, _⟩ := this
   exact ⟨r, r1⟩
  ·simp only [Int.toNat_natCast, hgd, hw]
   have hx := h0.2.2.2.2.2 x hc
   have hl := hx.2.2.2.2.1
   exact Ev.rngR (σ := Unit) (Ty.dflt YAct) x.2.2.2.2 (by omega) (g := fun k _ j => monitor_CheckWatch.c2 k m w.2.2.2 (w.2.2.2.length : Int) (i : Int) x.2.2.2.2 (x.2.2.2.2.length : Int) j) (fun k _ j => monitor_CheckWatch.c2_eq _ _ _ _ _ _ _ _)
    (fun i _ => True) (fun r => True) (fun _ hs => by rw [hw]; exact next () trivial) (fun j y _ hj hcy hgety hgdy hwy hsy nexty => by
     simp only [Int.toNat_natCast, hgdy, hwy]
     obtain ⟨r, r1, _⟩ := nexty () trivial
     by_cases k1 : y.1 = 2
     ·by_cases k2 : mapGet .str .bool y.2.1 m false = true
      ·exact ⟨r, Ev.yes (decide_eq_true k1) (Ev.no (by simp [k2]) r1), trivial⟩
      ·exact ⟨(9, ()), Ev.yes (decide_eq_true k1) (Ev.yes (by simpa using k2) (Ev.now _)), trivial⟩
     ·by_cases k3 : y.1 = 3
      ·by_cases k2 : mapGet .str .bool y.2.1 m false = true
       ·exact ⟨r, Ev.no (by simpa using k1) (Ev.yes (decide_eq_true k3) (Ev.no (by simp [k2]) r1)), trivial⟩
       ·exact ⟨(9, ()), Ev.no (by simpa using k1) (Ev.yes (decide_eq_true k3) (Ev.yes (by simpa using k2) (Ev.now _))), trivial⟩
      ·exact ⟨r, Ev.no (by simpa using k1) (Ev.no (by simpa using k3) r1), trivial⟩) 0 () (by omega) trivial
 have := Ev.rngR (σ := List (List UInt8 × Bool)) (Ty.dflt YWatchRule) w.2.2.2 (by omega) (g := fun k m i => monitor_CheckWatch.c0 k w.1 w.2.1 w.2.2.1 w.2.2.2 m w.2.2.2 (w.2.2.2.length : Int) i) (fun k _ i => monitor_CheckWatch.c0_eq _ _ _ _ _ _ _ _ _)
  (fun i _ => ∀ j, j < i → ActsOk (rul w j) ∧ (0 < j → lessS (rul w (j - 1)).1 (rul w j).1 = true)) (fun r => r.1 = 0 → RulesOk w) (fun m hs => by
   obtain ⟨r, r1⟩ := acts m
   exact ⟨r, r1, fun _ => ⟨rl, fun i hi => (hs i hi).1, fun j hj h0 => (hs j hj).2 h0⟩⟩) (fun i x m hi hc hget hgd hw hs next => ?_) 0 [] (by omega) (fun j hj => by omega)
 ·exact this
 ·simp only [Int.toNat_natCast, hgd, hw]
  have hx := h0.2.2.2.2.2 x hc
  obtain ⟨q, q1, q2⟩ := rule_acts w x ok.ml hx
  by_cases c1 : q.1 = 0
  case neg => exact ⟨(q.1, ()), Ev.bind q1 (Ev.yes (by simpa using c1) (Ev.now _)), fun h => absurd h c1⟩
  have nx : (0 < i → lessS (rul w (i - 1)).1 x.1 = true) → ∃ r : Int × Unit, Ev (fun k => monitor_CheckWatch.c0 k w.1 w.2.1 w.2.2.1 w.2.2.2 (mapPut .str .bool x.1 true m) w.2.2.2 (w.2.2.2.length : Int) ((i : Int) + 1)) r ∧ (r.1 = 0 → RulesOk w) := fun h => next _ fun j hj => by
   by_cases e : j = i
   ·subst e
    unfold rul at h ⊢
    rw [hgd]
    exact ⟨q2 c1, h⟩
   ·exact hs j (by omega)
  by_cases hi0 : i = 0
  ·subst hi0
   obtain ⟨r, r1, r2⟩ := nx (fun h => by omega)
   exact ⟨r, Ev.bind q1 (Ev.no (by simp [c1]) (Ev.no (by simp) r1)), r2⟩
  ·have hw1 : IntKind.wrap .i64 ((i : Int) - 1) = ((i - 1 : Nat) : Int) := by rw [w64 (by omega) (by omega)]; omega
   simp only [hw1, Int.toNat_natCast]
   by_cases l1 : lessS (w.2.2.2.getD (i - 1) (Ty.dflt YWatchRule)).1 x.1 = true
   ·obtain ⟨r, r1, r2⟩ := nx (fun _ => l1)
    exact ⟨r, Ev.bind q1 (Ev.no (by simp [c1]) (Ev.yes (by simp; omega) (Ev.yes (by omega) (Ev.no (fun h => by rw [l1] at h; cases h) r1)))), r2⟩
   ·exact ⟨(8, ()), Ev.bind q1 (Ev.no (by simp [c1]) (Ev.yes (by simp; omega) (Ev.yes (by omega) (Ev.yes (by simpa using l1) (Ev.now _))))), fun h => by cases h⟩

def Rai (x : DWatchRule) (e : S) : Prop := ∃ a ∈ x.2.2.2.2, a.1 = 1 ∧ a.2.1 = e
theorem raises_ev (x : DWatchRule) (e : S) (hl : x.2.2.2.2.length ≤ 10) : ∃ b : Bool, Ev (fun k => monitor_raises.f k x e) (b, ()) ∧ (b = true ↔ Rai x e) := by
 have := Ev.rngR (σ := Unit) (Ty.dflt YAct) x.2.2.2.2 (by omega) (g := fun k _ i => monitor_raises.c0 k e x.2.2.2.2 (x.2.2.2.2.length : Int) i) (fun k _ i => monitor_raises.c0_eq _ _ _ _ _)
  (fun i _ => ∀ a ∈ x.2.2.2.2.take i, ¬ (a.1 = 1 ∧ a.2.1 = e)) (fun r => r.1 = true ↔ Rai x e) (fun _ hs => ⟨(false, ()), Ev.now _, by
   rw [List.take_length] at hs
   exact ⟨fun h => (by cases h), fun ⟨a, ha, h⟩ => absurd h (hs a ha)⟩⟩) (fun i y _ hi hc hget hgd hw hs next => ?_) 0 () (by omega) (fun a ha => by simp at ha)
 ·obtain ⟨⟨b, u⟩, r1, r2⟩ := this
  exact ⟨b, Ev.eq (fun k => monitor_raises.f_eq _ _ _) r1, r2⟩
 ·simp only [Int.toNat_natCast, hgd, hw]
  have nx : ¬ (y.1 = 1 ∧ y.2.1 = e) → ∃ r : Bool × Unit, Ev (fun k => monitor_raises.c0 k e x.2.2.2.2 (x.2.2.2.2.length : Int) ((i : Int) + 1)) r ∧ (r.1 = true ↔ Rai x e) := fun h => next () fun a ha => by
   rw [List.take_add_one, hget] at ha
   rcases List.mem_append.1 ha with ha | ha
   ·exact hs a ha
   ·simp at ha; subst ha; exact h
  by_cases h1 : y.1 = 1
  ·by_cases h2 : y.2.1 = e
   ·exact ⟨(true, ()), Ev.yes (decide_eq_true h1) (Ev.yes (decide_eq_true h2) (Ev.now _)), ⟨fun _ => ⟨y, hc, h1, h2⟩, fun _ => rfl⟩⟩
   ·obtain ⟨r, r1, r2⟩ := nx fun h => h2 h.2
    exact ⟨r, Ev.yes (decide_eq_true h1) (Ev.no (fun h => h2 (of_decide_eq_true h)) r1), r2⟩
  ·obtain ⟨r, r1, r2⟩ := nx fun h => h1 h.1
   exact ⟨r, Ev.no (fun h => h1 (of_decide_eq_true h)) r1, r2⟩
end Go.Proofs.Ytadhpgecilhgnaa.Pure

-- YtadhpgecilhgnaaQ14
set_option linter.unusedVariables false
set_option linter.unusedSimpArgs false
namespace Go.Proofs.Ytadhpgecilhgnaa.Pure
open Go Go.Proofs.Ytadhpgecilhgnaa.A

def lkZ {β : Type} : List (Int × β) → Int → Option β
 | [], _ => none
 | p :: m, k => if p.1 = k then some p.2 else lkZ m k
section
variable {σ : Ty}
theorem eqZ {x y : Int} : eqV (.int .i64) x y = true ↔ x = y := eqV_iff (τ := .int .i64) rfl
theorem has_lkZ (m : List (Int × σ.den)) (k : Int) : mapHas (.int .i64) σ k m = (lkZ m k).isSome := by
 induction m with
 | nil => rfl
 | cons p m ih =>
  simp only [mapHas, List.any_cons] at ih ⊢
  rw [lkZ]
  by_cases h : p.1 = k
  ·rw [if_pos h, (eqZ (x := p.1) (y := k)).2 h]; rfl
  ·rw [if_neg h, ih]
   have : eqV (.int .i64) p.1 k = false := by rw [← Bool.not_eq_true]; exact fun e => h (eqZ.1 e)
   rw [this]; rfl
theorem get_lkZ (m : List (Int × σ.den)) (k : Int) (z : σ.den) : mapGet (.int .i64) σ k m z = (lkZ m k).getD z := by
 induction m with
 | nil => rfl
 | cons p m ih =>
  rw [mapGet, lkZ]
  by_cases h : p.1 = k
  ·rw [if_pos h, if_pos (eqZ.2 h)]; rfl
  ·rw [if_neg h, if_neg (fun e => h (eqZ.1 e)), ih]
theorem lkZ_put (m : List (Int × σ.den)) (k : Int) (v : σ.den) (j : Int) : lkZ (mapPut (.int .i64) σ k v m) j = if k = j then some v else lkZ m j := by
 induction m with
 | nil => simp [mapPut, lkZ]
 | cons p m ih =>
  rw [mapPut]
  by_cases h : p.1 = k
  ·rw [if_pos (eqZ.2 h), lkZ, lkZ]
   by_cases hj : k = j
   ·rw [if_pos hj, if_pos hj]
   ·rw [if_neg hj, if_neg hj, if_neg (fun e => hj (h ▸ e))]
  ·rw [if_neg (fun e => h (eqZ.1 e)), lkZ, lkZ, ih]
   by_cases hp : p.1 = j
   ·rw [if_pos hp, if_neg (fun e => h (hp.trans e.symm)), if_pos hp]
   ·rw [if_neg hp, if_neg hp]
end
theorem getD_appl {α : Type} {z v : α} {l : List α} {i : Nat} (h : i < l.length) : (l ++ [v]).getD i z = l.getD i z := by
 rw [List.getD_eq_getElem?_getD, List.getElem?_append_left h, ← List.getD_eq_getElem?_getD]
theorem getD_appr {α : Type} {z v : α} {l : List α} : (l ++ [v]).getD l.length z = v := by
 rw [List.getD_eq_getElem?_getD, List.getElem?_append_right (Nat.le_refl _), Nat.sub_self]; rfl
abbrev Bk := List (Int × List Int)
abbrev Fz := List (Int × Int)
structure NxL (nx : List (List Int)) : Prop where
 len : nx.length ≤ 200
 row : ∀ i : Nat, i < nx.length → (nx.getD i []).length ≤ 200 ∧ ∀ v ∈ nx.getD i [], 0 ≤ v ∧ v < nx.length
def Ed (nx : List (List Int)) (i v : Int) : Prop := v ∈ nx.getD i.toNat []
section
variable {nx : List (List Int)} {f : Nat}
def BkOk (nx : List (List Int)) (f : Nat) (b : Bk) : Prop := ∀ k i, i ∈ (lkZ b k).getD [] → (f : Int) ≤ i ∧ i < nx.length ∧ Ed nx i k ∧ (f : Int) ≤ k
structure FarOk (nx : List (List Int)) (f : Nat) (far : Fz) : Prop where
 w : ∀ i d, lkZ far i = some d → ((f : Int) ≤ i ∧ i < nx.length) ∧ (1 ≤ d ∧ d ≤ 300) ∧ ∃ k, Ed nx i k ∧ (f : Int) ≤ k ∧ ((d = 1 ∧ k = f) ∨ (2 ≤ d ∧ lkZ far k = some (d - 1)))
def RingOk (nx : List (List Int)) (f : Nat) (r : List Int) : Prop :=
 r = [] ∨ (r.length ≤ 400 ∧ 1 ≤ r.length ∧ r.getD 0 0 = f ∧ (∀ j, j + 1 < r.length → Ed nx (r.getD j 0) (r.getD (j + 1) 0)) ∧ Ed nx (r.getD (r.length - 1) 0) f ∧ ∀ v ∈ r, (f : Int) ≤ v ∧ v < nx.length)
theorem ring_out (hN : NxL nx) {far : Fz} (hF : FarOk nx f far) {D : Int} (hD : lkZ far f = some D) : ∀ (d : Nat) (at_ : Int) (out : List Int), (f : Int) ≤ at_ → at_ < nx.length →
 (1 ≤ out.length ∧ out.getD 0 0 = f ∧ (∀ j, j + 1 < out.length → Ed nx (out.getD j 0) (out.getD (j + 1) 0)) ∧ out.getD (out.length - 1) 0 = at_ ∧ ∀ v ∈ out, (f : Int) ≤ v ∧ v < nx.length) →
 (∃ k, Ed nx at_ k ∧ (f : Int) ≤ k ∧ ((d = 0 ∧ k = f) ∨ (1 ≤ d ∧ lkZ far k = some (d : Int)))) → (d : Int) < D → out.length + d ≤ 400 →
 ∃ r : List Int, Ev (fun k => monitor_ring.c4 k nx f far out at_ (d : Int)) (r, ()) ∧ RingOk nx f r := by
 have hl := hN.len
 intro d
 induction d with
 | zero =>
  intro at_ out h1 h2 ⟨o1, o2, o3, o4, o5⟩ ⟨k, k1, k2, k3⟩ _ ho
  have hk : k = f := by rcases k3 with ⟨_, k3⟩ | ⟨k3, _⟩ <;> first | exact k3 | omega
  subst hk
  refine ⟨out, Ev.step (fun k => monitor_ring.c4_eq _ _ _ _ _ _ _) (Ev.no (by simp) (Ev.yes ?_ (Ev.now _))), .inr ⟨by omega, o1, o2, o3, by rw [o4]; exact k1, o5⟩⟩
  cases out with
  | nil => simp at o1
  | cons _ _ => rfl
 | succ d ih =>
  intro at_ out h1 h2 ⟨o1, o2, o3, o4, o5⟩ ⟨k0, k1, k2, k3⟩ hlt ho
  have hk : lkZ far k0 = some ((d + 1 : Nat) : Int) := by rcases k3 with ⟨k3, _⟩ | ⟨_, k3⟩ <;> first | exact k3 | omega
  have hne : (f : Int) < k0 := by
   rcases Int.lt_or_eq_of_le k2 with h | h
   ·exact h
   ·rw [← h, hD] at hk
    have := Option.some.inj hk
    omega
  have hrow := hN.row at_.toNat (by omega)
  have hw : IntKind.wrap .i64 (((d + 1 : Nat) : Int) - 1) = (d : Int) := by rw [w64 (by omega) (by omega)]; omega
  have h := Ev.rngR (σ := Unit) (0 : Int) (nx.getD at_.toNat []) (by omega) (g := fun k _ j => monitor_ring.c6 k nx f far out at_ ((d + 1 : Nat) : Int) (nx.getD at_.toNat []) ((nx.getD at_.toNat []).length : Int) j) (fun k _ j => monitor_ring.c6_eq _ _ _ _ _ _ _ _ _ _)
   (fun j _ => ∀ v ∈ (nx.getD at_.toNat []).take j, ¬ (lkZ far v = some ((d + 1 : Nat) : Int) ∧ (f : Int) < v)) (fun r => RingOk nx f r.1) (fun _ hs => ?_) (fun j v _ hj hv hget hgd hwj hs next => ?_) 0 () (by omega) (fun v hv => by simp at hv)
  ·obtain ⟨⟨r, u⟩, r1, r2⟩ := h
   refine ⟨r, Ev.step (fun k => monitor_ring.c4_eq _ _ _ _ _ _ _) (Ev.yes (decide_eq_true (by omega)) (Ev.yes (by omega) r1)), r2⟩
  ·rw [List.take_length] at hs
   exact absurd ⟨hk, hne⟩ (hs k0 k1)
  ·simp only [Int.toNat_natCast, hgd, hwj]
   rw [has_lkZ (σ := .int .i64), get_lkZ (σ := .int .i64)]
   have nxt : ¬ (lkZ far v = some ((d + 1 : Nat) : Int) ∧ (f : Int) < v) → ∃ r : List Int × Unit, Ev (fun k => monitor_ring.c6 k nx f far out at_ ((d + 1 : Nat) : Int) (nx.getD at_.toNat []) ((nx.getD at_.toNat []).length : Int) ((j : Int) + 1)) r ∧ RingOk nx f r.1 := fun h => next () fun u hu => by
    rw [List.take_add_one, hget] at hu
    rcases List.mem_append.1 hu with hu | hu
    ·exact hs u hu
    ·simp at hu; subst hu; exact h
   cases hx : lkZ far v with
   | none =>
    obtain ⟨r, r1, r2⟩ := nxt fun h => by rw [hx] at h; cases h.1
    exact ⟨r, Ev.no (by simp) r1, r2⟩
   | some e =>
    simp only [Option.getD_some]
    by_cases h3 : e = ((d + 1 : Nat) : Int)
    case neg =>
     obtain ⟨r, r1, r2⟩ := nxt fun h => by rw [hx] at h; exact h3 (Option.some.inj h.1)
     exact ⟨r, Ev.yes rfl (Ev.no (fun h => h3 (of_decide_eq_true h)) r1), r2⟩
    subst h3
    by_cases h4 : (f : Int) < v
    case neg =>
     obtain ⟨r, r1, r2⟩ := nxt fun h => h4 h.2
     exact ⟨r, Ev.yes rfl (Ev.yes (decide_eq_true rfl) (Ev.no (fun h => h4 (of_decide_eq_true h)) r1)), r2⟩
    obtain ⟨⟨q1, q2⟩, q3, k', q4, q5, q6⟩ := hF.w v _ hx
    obtain ⟨r, r1, r2⟩ := ih v (out ++ [v]) q1 q2 ⟨by simp, by rw [getD_appl (by omega)]; exact o2, fun i hi => by
     simp only [List.length_append, List.length_cons, List.length_nil] at hi
     by_cases e : i + 1 = out.length
     ·rw [getD_appl (by omega), e, getD_appr, show i = out.length - 1 by omega, o4]
      exact hv
     ·rw [getD_appl (by omega), getD_appl (by omega)]
      exact o3 i (by omega), by
     rw [List.length_append]
     exact getD_appr, fun u hu => by
     rcases List.mem_append.1 hu with hu | hu
     ·exact o5 u hu
     ·simp at hu; subst hu; exact ⟨q1, q2⟩⟩ ⟨k', q4, q5, by
     rcases q6 with ⟨e, q6⟩ | ⟨e, q6⟩
     ·exact .inl ⟨by omega, q6⟩
     ·exact .inr ⟨by omega, by rw [q6]; congr 1; omega⟩⟩ (by omega) (by simp; omega)
    refine ⟨(r, ()), Ev.yes rfl (Ev.yes (decide_eq_true rfl) (Ev.yes (decide_eq_true h4) (Ev.yes (by omega) ?_))), r2⟩
    rw [hw]
    exact r1
theorem ring_end (hN : NxL nx) {far : Fz} (hF : FarOk nx f far) {b : Bk} {lvl : Int} : ∃ r : List Int, Ev (fun k => monitor_ring.c2 k nx f b far [] lvl) (r, ()) ∧ RingOk nx f r := by
 cases hx : lkZ far f with
 | none =>
  refine ⟨[], Ev.step (fun k => monitor_ring.c2_eq _ _ _ _ _ _ _) (Ev.no (by simp) ?_), .inl rfl⟩
  rw [has_lkZ (σ := .int .i64), hx]
  exact Ev.yes (by simp) (Ev.now _)
 | some D =>
  obtain ⟨⟨q1, q2⟩, q3, k, q4, q5, q6⟩ := hF.w _ _ hx
  obtain ⟨r, r1, r2⟩ := ring_out hN hF hx (D - 1).toNat f [(f : Int)] q1 q2 ⟨by simp, by simp, fun j hj => by simp at hj, by simp, fun v hv => by simp at hv; subst hv; exact ⟨q1, q2⟩⟩ ⟨k, q4, q5, by
   rcases q6 with ⟨e, q6⟩ | ⟨e, q6⟩
   ·exact .inl ⟨by omega, q6⟩
   ·exact .inr ⟨by omega, by rw [q6]; congr 1; omega⟩⟩ (by omega) (by simp; omega)
  refine ⟨r, Ev.step (fun k => monitor_ring.c2_eq _ _ _ _ _ _ _) (Ev.no (by simp) ?_), r2⟩
  rw [has_lkZ (σ := .int .i64), get_lkZ (σ := .int .i64), hx]
  refine Ev.no (by simp) ?_
  rw [show IntKind.wrap .i64 ((some D).getD 0 - 1) = ((D - 1).toNat : Int) from by
   simp only [Option.getD_some]
   rw [w64 (by omega) (by omega)]; omega]
  exact r1
end
end Go.Proofs.Ytadhpgecilhgnaa.Pure

-- YtadhpgecilhgnaaQo
set_option linter.unusedVariables false
set_option linter.unusedSimpArgs false
namespace Go.Proofs.Ytadhpgecilhgnaa.Pure
open Go Go.Proofs.Ytadhpgecilhgnaa.A

def lxl : List S → List S → Prop
 | [], [] => False
 | [], _ :: _ => True
 | _ :: _, [] => False
 | x :: a, y :: b => lessS x y = true ∨ (x = y ∧ lxl a b)
def cl : List S → List S → Int
 | [], [] => 0
 | [], _ :: _ => -1
 | _ :: _, [] => 1
 | x :: a, y :: b => if lessS x y = true then -1 else if lessS y x = true then 1 else cl a b
def Pt (C : List DModeChange) : S → List S → S → Prop
 | x, [], y => x = y
 | x, e :: l, y => ∃ c ∈ C, c.1 = x ∧ c.2.1 = e ∧ Pt C c.2.2 l y
variable {C : List DModeChange}
end Go.Proofs.Ytadhpgecilhgnaa.Pure

-- YtadhpgecilhgnaaQ4
set_option linter.unusedVariables false
set_option linter.unusedSimpArgs false
namespace Go.Proofs.Ytadhpgecilhgnaa.Pure
open Go Go.Proofs.Ytadhpgecilhgnaa.A

theorem Ev.agreeL {α β : Type} {l : List β} (hl : l ≠ []) {K : Nat → β → List β → Option α} {r : α} (h : ∀ (i : Nat) (x : β), l[i]? = Option.some x → Ev (fun k => K k x (l.eraseIdx i)) r) : Ev (fun k => Go.Proofs.Ytadhpgecilhgnaa.A.agreeL l (K k)) r := by
 have bound : ∀ b : Nat, ∃ N, ∀ i, i < b → ∀ x, l[i]? = Option.some x → ∀ n, N ≤ n → K n x (l.eraseIdx i) = Option.some r := by
  intro b
  induction b with
  | zero => exact ⟨0, fun i hi => by omega⟩
  | succ b ih =>
   obtain ⟨N, hN⟩ := ih
   cases hb : l[b]? with
   | none =>
    refine ⟨N, fun i hi x hx n hn => ?_⟩
    by_cases e : i = b
    ·subst e; rw [hb] at hx; cases hx
    ·exact hN i (by omega) x hx n hn
   | some y =>
    obtain ⟨M, hM⟩ := h b y hb
    refine ⟨max N M, fun i hi x hx n hn => ?_⟩
    by_cases e : i = b
    ·subst e; rw [hb] at hx; cases hx; exact hM n (by omega)
    ·exact hN i (by omega) x hx n (by omega)
 obtain ⟨N, hN⟩ := bound l.length
 refine ⟨N, fun n hn => ?_⟩
 have all : ∀ (i : Nat) (x : β), l[i]? = Option.some x → K n x (l.eraseIdx i) = Option.some r := fun i x hx => hN i (List.getElem?_eq_some_iff.1 hx).1 x hx n hn
 show Go.Proofs.Ytadhpgecilhgnaa.A.agreeL l (K n) = _
 unfold Go.Proofs.Ytadhpgecilhgnaa.A.agreeL
 have e : ∃ r, ∀ (i : Nat) (x : β), l[i]? = Option.some x → K n x (l.eraseIdx i) = Option.some r := ⟨r, all⟩
 rw [dif_pos e]
 obtain ⟨x, xs, rfl⟩ := List.exists_cons_of_ne_nil hl
 have h1 := Classical.choose_spec e 0 x rfl
 rw [all 0 x rfl] at h1
 exact h1.symm

abbrev Mp := List (S × List S)
section
variable {C : List DModeChange} {B : S → Option (List S)} {M : List S}
end
section
variable {C : List DModeChange} {B : S → Option (List S)} {to md : S} {ms : List S} {rl : List DWatchRule} {best : Mp}
end
end Go.Proofs.Ytadhpgecilhgnaa.Pure

-- YtadhpgecilhgnaaQ5
set_option linter.unusedVariables false
set_option linter.unusedSimpArgs false
namespace Go.Proofs.Ytadhpgecilhgnaa.Pure
open Go Go.Proofs.Ytadhpgecilhgnaa.A

def WayOk (C : List DModeChange) (fr to : S) (r : List S × Bool × Int × Unit) : Prop :=
 r.2.2.1 = 0 ∧ ((r.2.1 = true ∧ (∃ n, Wi C fr n to) ∧ (∀ k, k < r.1.length → ¬ Wi C fr k to) ∧ r.1.foldl (wk C) fr = to ∧ r.1.length ≤ 1000 ∧ Pt C fr r.1 to ∧ ∀ l, l.length = r.1.length → Pt C fr l to → ¬ lxl l r.1) ∨ (r.2.1 = false ∧ r.1 = [] ∧ ∀ k, ¬ Wi C fr k to))
theorem filter_less {α : Type} {p q : α → Bool} : ∀ {l : List α}, (∀ x ∈ l, q x = true → p x = true) → (∃ x ∈ l, p x = true ∧ q x = false) → (l.filter q).length < (l.filter p).length
 | [], _, h => by obtain ⟨x, hx, _⟩ := h; cases hx
 | y :: l, h1, h2 => by
  have mono : (l.filter q).length ≤ (l.filter p).length := by
   clear h2
   induction l with
   | nil => simp
   | cons z l ih =>
    have ih := ih fun x hx => h1 x (by simp at hx ⊢; rcases hx with h | h <;> simp [h])
    have hz := h1 z (by simp)
    by_cases a : q z = true
    ·rw [List.filter_cons_of_pos a, List.filter_cons_of_pos (hz a)]; simp; omega
    ·rw [List.filter_cons_of_neg a]
     by_cases b : p z = true
     ·rw [List.filter_cons_of_pos b]; simp; omega
     ·rw [List.filter_cons_of_neg b]; omega
  by_cases hy : p y = true ∧ q y = false
  ·rw [List.filter_cons_of_pos hy.1, List.filter_cons_of_neg (by simp [hy.2])]
   simp; omega
  ·have ih := filter_less (l := l) (fun x hx => h1 x (by simp [hx])) (by
    obtain ⟨x, hx, e⟩ := h2
    rcases List.mem_cons.1 hx with rfl | hx
    ·exact absurd e hy
    ·exact ⟨x, hx, e⟩)
   by_cases a : q y = true
   ·rw [List.filter_cons_of_pos a, List.filter_cons_of_pos (h1 y (by simp) a)]; simp; omega
   ·rw [List.filter_cons_of_neg a]
    by_cases b : p y = true
    ·rw [List.filter_cons_of_pos b]; simp; omega
    ·rw [List.filter_cons_of_neg b]; omega
section
variable {C : List DModeChange} {fr to md : S} {ms : List S} {rl : List DWatchRule}
end
end Go.Proofs.Ytadhpgecilhgnaa.Pure

-- YtadhpgecilhgnaaQ15
set_option linter.unusedVariables false
set_option linter.unusedSimpArgs false
namespace Go.Proofs.Ytadhpgecilhgnaa.Pure
open Go Go.Proofs.Ytadhpgecilhgnaa.A
section
variable {nx : List (List Int)} {f : Nat}
def mz (nx : List (List Int)) (far : Fz) : Nat := ((List.range nx.length).filter fun (i : Nat) => (lkZ far (i : Int)).isNone).length
theorem mz_put {far : Fz} {i : Int} (h0 : 0 ≤ i) (h1 : i < nx.length) (hn : lkZ far i = none) (v : Int) : mz nx (mapPut (.int .i64) (.int .i64) i v far) < mz nx far := by
 unfold mz
 refine filter_less (fun x _ hx => ?_) ⟨i.toNat, by rw [List.mem_range]; omega, ?_, ?_⟩
 ·rw [lkZ_put (σ := .int .i64)] at hx
  split at hx
  ·cases hx
  ·exact hx
 ·rw [show ((i.toNat : Nat) : Int) = i by omega, hn]; rfl
 ·rw [show ((i.toNat : Nat) : Int) = i by omega, lkZ_put (σ := .int .i64), if_pos rfl]; rfl
structure Lev (nx : List (List Int)) (f : Nat) (far : Fz) (now more : List Int) (lvl : Int) (M : Nat) : Prop where
 fo : FarOk nx f far
 nw : ∀ k ∈ now, (f : Int) ≤ k ∧ ((lvl = 1 ∧ k = f) ∨ (2 ≤ lvl ∧ lkZ far k = some (lvl - 1)))
 mo : ∀ i ∈ more, (f : Int) ≤ i ∧ lkZ far i = some lvl
 me : mz nx far + more.length ≤ M
theorem far_put (hN : NxL nx) {far : Fz} {now more : List Int} {lvl : Int} {M : Nat} (h : Lev nx f far now more lvl M) (hl : 1 ≤ lvl ∧ lvl ≤ 300) {k i : Int} (hk : k ∈ now) (hi : (f : Int) ≤ i ∧ i < nx.length ∧ Ed nx i k) (hn : lkZ far i = none) :
 Lev nx f (mapPut (.int .i64) (.int .i64) i lvl far) now (more ++ [i]) lvl M := by
 have old : ∀ {j d}, lkZ far j = some d → lkZ (mapPut (.int .i64) (.int .i64) i lvl far) j = some d := fun {j d} hj => by
  rw [lkZ_put (σ := .int .i64), if_neg (fun e => by rw [e, hj] at hn; cases hn)]; exact hj
 have nw' : ∀ k ∈ now, (f : Int) ≤ k ∧ ((lvl = 1 ∧ k = f) ∨ (2 ≤ lvl ∧ lkZ (mapPut (.int .i64) (.int .i64) i lvl far) k = some (lvl - 1))) := fun k hk => by
  obtain ⟨a, b⟩ := h.nw k hk
  exact ⟨a, b.imp_right fun ⟨c, d⟩ => ⟨c, old d⟩⟩
 refine ⟨⟨fun j d hj => ?_⟩, nw', fun j hj => ?_, ?_⟩
 ·rw [lkZ_put (σ := .int .i64)] at hj
  split at hj
  ·rename_i e
   cases hj
   subst e
   obtain ⟨a, b⟩ := nw' k hk
   exact ⟨⟨hi.1, hi.2.1⟩, hl, k, hi.2.2, a, b⟩
  ·obtain ⟨a, b, k', c, d', e⟩ := h.fo.w j d hj
   exact ⟨a, b, k', c, d', e.imp_right fun ⟨p, q⟩ => ⟨p, old q⟩⟩
 ·rcases List.mem_append.1 hj with hj | hj
  ·obtain ⟨a, b⟩ := h.mo j hj
   exact ⟨a, old b⟩
  ·simp at hj
   subst hj
   exact ⟨hi.1, by rw [lkZ_put (σ := .int .i64), if_pos rfl]⟩
 ·have := mz_put (nx := nx) (by omega) hi.2.1 hn lvl
  have := h.me
  simp only [List.length_append, List.length_cons, List.length_nil]
  omega
theorem ring_levels (hN : NxL nx) {b : Bk} (hb : BkOk nx f b) (hbl : ∀ k, ((lkZ b k).getD []).length ≤ 1000000) : ∀ (d : Nat) (far : Fz) (now : List Int) (lvl : Int), FarOk nx f far → (∀ k ∈ now, (f : Int) ≤ k ∧ ((lvl = 1 ∧ k = f) ∨ (2 ≤ lvl ∧ lkZ far k = some (lvl - 1)))) →
 1 ≤ lvl → lvl + mz nx far ≤ 300 → now.length ≤ 300 → mz nx far ≤ d → ∃ r : List Int, Ev (fun k => monitor_ring.c2 k nx f b far now lvl) (r, ()) ∧ RingOk nx f r := by
 intro d
 induction d with
 | zero =>
  intro far now lvl hF hn h1 h2 h3 h4
  by_cases h0 : now = []
  ·subst h0; exact ring_end hN hF
  have hpos := List.length_pos_iff.2 h0
  have := Ev.rngR (σ := Fz × List Int) (0 : Int) now (by omega) (g := fun k s i => monitor_ring.c3 k nx f b s.1 lvl s.2 now (now.length : Int) i) (fun k s i => monitor_ring.c3_eq _ _ _ _ _ _ _ _ _ _)
   (fun i s => Lev nx f s.1 now s.2 lvl (mz nx far)) (fun r => RingOk nx f r.1) (fun s hs => ?_) (fun i k s hi hk hget hgd hw hs next => ?_) 0 (far, []) (by omega) ⟨hF, hn, fun i hi => (by cases hi), by simp⟩
  ·obtain ⟨⟨r, u⟩, r1, r2⟩ := this
   exact ⟨r, Ev.step (fun k => monitor_ring.c2_eq _ _ _ _ _ _ _) (Ev.yes (decide_eq_true (by omega)) r1), r2⟩
  ·obtain ⟨s1, s2⟩ := s
   have me := hs.me
   simp only at me hs
   have : s2 = [] := List.eq_nil_of_length_eq_zero (by omega)
   subst this
   obtain ⟨r, r1, r2⟩ := ring_end hN hs.fo (b := b) (lvl := IntKind.wrap .i64 (lvl + 1))
   exact ⟨(r, ()), r1, r2⟩
  ·obtain ⟨s1, s2⟩ := s
   simp only [Int.toNat_natCast, hgd, hw]
   rw [get_lkZ (σ := .sl (.int .i64))]
   exact Ev.rngR (σ := Fz × List Int) (0 : Int) ((lkZ b k).getD []) (by have := hbl k; omega) (g := fun n s j => monitor_ring.c5 n nx f b s.1 lvl s.2 now (now.length : Int) (i : Int) ((lkZ b k).getD []) (((lkZ b k).getD []).length : Int) j) (fun n s j => monitor_ring.c5_eq _ _ _ _ _ _ _ _ _ _ _ _ _)
    (fun j s => Lev nx f s.1 now s.2 lvl (mz nx far)) (fun r => RingOk nx f r.1) (fun s hs => by rw [hw]; exact next s hs) (fun j v s hj hv hgetv hgdv hwj hs nextj => by
     simp only [Int.toNat_natCast, hgdv, hwj]
     rw [has_lkZ (σ := .int .i64)]
     cases hx : lkZ s.1 v with
     | some e =>
      obtain ⟨r, r1, r2⟩ := nextj s hs
      exact ⟨r, Ev.no (by simp) r1, r2⟩
     | none =>
      obtain ⟨q1, q2, q3, q4⟩ := hb k v hv
      have l2 := far_put hN hs ⟨h1, by omega⟩ hk ⟨q1, q2, q3⟩ hx
      obtain ⟨r, r1, r2⟩ := nextj (mapPut (.int .i64) (.int .i64) v lvl s.1, s.2 ++ [v]) l2
      have := hs.me
      exact ⟨r, Ev.yes (by simp) (Ev.yes (by omega) r1), r2⟩) 0 (s1, s2) (by omega) hs
 | succ d ih =>
  intro far now lvl hF hn h1 h2 h3 h4
  by_cases h0 : now = []
  ·subst h0; exact ring_end hN hF
  have hpos := List.length_pos_iff.2 h0
  have := Ev.rngR (σ := Fz × List Int) (0 : Int) now (by omega) (g := fun k s i => monitor_ring.c3 k nx f b s.1 lvl s.2 now (now.length : Int) i) (fun k s i => monitor_ring.c3_eq _ _ _ _ _ _ _ _ _ _)
   (fun i s => Lev nx f s.1 now s.2 lvl (mz nx far)) (fun r => RingOk nx f r.1) (fun s hs => ?_) (fun i k s hi hk hget hgd hw hs next => ?_) 0 (far, []) (by omega) ⟨hF, hn, fun i hi => (by cases hi), by simp⟩
  ·obtain ⟨⟨r, u⟩, r1, r2⟩ := this
   exact ⟨r, Ev.step (fun k => monitor_ring.c2_eq _ _ _ _ _ _ _) (Ev.yes (decide_eq_true (by omega)) r1), r2⟩
  ·obtain ⟨s1, s2⟩ := s
   have me := hs.me
   simp only at me hs
   have hwl : IntKind.wrap .i64 (lvl + 1) = lvl + 1 := w64 (by omega) (by omega)
   by_cases e : s2 = []
   ·subst e
    obtain ⟨r, r1, r2⟩ := ring_end hN hs.fo (b := b) (lvl := IntKind.wrap .i64 (lvl + 1))
    exact ⟨(r, ()), r1, r2⟩
   ·have := List.length_pos_iff.2 e
    obtain ⟨r, r1, r2⟩ := ih s1 s2 (lvl + 1) hs.fo (fun k hk => by
     obtain ⟨a, c⟩ := hs.mo k hk
     exact ⟨a, .inr ⟨by omega, by rw [c]; congr 1; omega⟩⟩) (by omega) (by omega) (by omega) (by omega)
    refine ⟨(r, ()), ?_, r2⟩
    rw [hwl]
    exact r1
  ·obtain ⟨s1, s2⟩ := s
   simp only [Int.toNat_natCast, hgd, hw]
   rw [get_lkZ (σ := .sl (.int .i64))]
   exact Ev.rngR (σ := Fz × List Int) (0 : Int) ((lkZ b k).getD []) (by have := hbl k; omega) (g := fun n s j => monitor_ring.c5 n nx f b s.1 lvl s.2 now (now.length : Int) (i : Int) ((lkZ b k).getD []) (((lkZ b k).getD []).length : Int) j) (fun n s j => monitor_ring.c5_eq _ _ _ _ _ _ _ _ _ _ _ _ _)
    (fun j s => Lev nx f s.1 now s.2 lvl (mz nx far)) (fun r => RingOk nx f r.1) (fun s hs => by rw [hw]; exact next s hs) (fun j v s hj hv hgetv hgdv hwj hs nextj => by
     simp only [Int.toNat_natCast, hgdv, hwj]
     rw [has_lkZ (σ := .int .i64)]
     cases hx : lkZ s.1 v with
     | some e =>
      obtain ⟨r, r1, r2⟩ := nextj s hs
      exact ⟨r, Ev.no (by simp) r1, r2⟩
     | none =>
      obtain ⟨q1, q2, q3, q4⟩ := hb k v hv
      have l2 := far_put hN hs ⟨h1, by omega⟩ hk ⟨q1, q2, q3⟩ hx
      obtain ⟨r, r1, r2⟩ := nextj (mapPut (.int .i64) (.int .i64) v lvl s.1, s.2 ++ [v]) l2
      have := hs.me
      exact ⟨r, Ev.yes (by simp) (Ev.yes (by omega) r1), r2⟩) 0 (s1, s2) (by omega) hs
theorem ring_ev (hN : NxL nx) (hf : f ≤ nx.length) : ∃ r : List Int × Unit, Ev (fun k => monitor_ring.f k nx f) r ∧ RingOk nx f r.1 := by
 have hl := hN.len
 have := Ev.rngR (σ := Bk) ([] : List Int) nx (by omega) (g := fun k s i => monitor_ring.c0 k nx f s i) (fun k s i => monitor_ring.c0_eq _ _ _ _ _)
  (fun i s => f ≤ i ∧ BkOk nx f s ∧ ∀ k, ((lkZ s k).getD []).length ≤ i * 1000) (fun r => RingOk nx f r.1) (fun s hs => ?_) (fun i row s hi hc hget hgd hw hs next => ?_) f [] hf ⟨Nat.le_refl _, fun k i hi => (by simp [lkZ] at hi), fun k => by simp [lkZ]⟩
 ·obtain ⟨r, r1, r2⟩ := this
  exact ⟨r, Ev.eq (fun k => monitor_ring.f_eq _ _ _) r1, r2⟩
 ·obtain ⟨r, r1, r2⟩ := ring_levels (f := f) hN hs.2.1 (fun k => Nat.le_trans (hs.2.2 k) (by omega)) (mz nx []) [] [(f : Int)] 1 ⟨fun i d h => (by cases h)⟩ (fun k hk => by simp at hk; subst hk; exact ⟨by omega, .inl ⟨rfl, rfl⟩⟩) (by omega) (by
   have : mz nx [] ≤ nx.length := Nat.le_trans (List.length_filter_le _ _) (by simp)
   omega) (by simp) (Nat.le_refl _)
  exact ⟨(r, ()), r1, r2⟩
 ·simp only [Int.toNat_natCast, hgd]
  have hrow := hN.row i hi
  rw [hgd] at hrow
  have hed : ∀ v ∈ row, Ed nx (i : Int) v := fun v hv => by unfold Ed; rw [Int.toNat_natCast, hgd]; exact hv
  exact Ev.rngR (σ := Bk) (0 : Int) row (by omega) (g := fun k s j => monitor_ring.c1 k nx f s (i : Int) row (row.length : Int) j) (fun k s j => monitor_ring.c1_eq _ _ _ _ _ _ _ _)
   (fun j s => f ≤ i ∧ BkOk nx f s ∧ ∀ k, ((lkZ s k).getD []).length ≤ i * 1000 + j) (fun r => RingOk nx f r.1) (fun s hs => by
    rw [hw]
    exact next s ⟨by omega, hs.2.1, fun k => by have := hs.2.2 k; omega⟩) (fun j v s hj hv hgetv hgdv hwj hs nextj => by
    simp only [Int.toNat_natCast, hgdv, hwj]
    obtain ⟨hfi, hs1, hs2⟩ := hs
    by_cases h1 : (f : Int) ≤ v
    ·rw [get_lkZ (σ := .vec (.int .i64))]
     obtain ⟨r, r1, r2⟩ := nextj (mapPut (.int .i64) (.vec (.int .i64)) v ((lkZ s v).getD [] ++ [(i : Int)]) s) ⟨hfi, fun k u hu => by
      rw [lkZ_put (σ := .vec (.int .i64))] at hu
      split at hu
      ·rename_i e
       subst e
       simp only [Option.getD_some] at hu
       rcases List.mem_append.1 hu with hu | hu
       ·exact hs1 v u hu
       ·simp at hu
        subst hu
        exact ⟨by omega, by omega, hed v hv, h1⟩
      ·exact hs1 k u hu, fun k => by
      rw [lkZ_put (σ := .vec (.int .i64))]
      split
      ·have := hs2 v
       simp only [Option.getD_some, List.length_append, List.length_cons, List.length_nil]
       omega
      ·have := hs2 k; omega⟩
     have := hs2 v
     exact ⟨r, Ev.yes (decide_eq_true h1) (Ev.yes (by omega) (Ev.yes (eqZ.2 rfl) r1)), r2⟩
    ·obtain ⟨r, r1, r2⟩ := nextj s ⟨hfi, hs1, fun k => by have := hs2 k; omega⟩
     exact ⟨r, Ev.no (fun h => h1 (of_decide_eq_true h)) r1, r2⟩) 0 s (by omega) ⟨hs.1, hs.2.1, fun k => Nat.le_trans (hs.2.2 k) (Nat.le_add_right _ _)⟩
end
end Go.Proofs.Ytadhpgecilhgnaa.Pure

-- YtadhpgecilhgnaaQ16
set_option linter.unusedVariables false
set_option linter.unusedSimpArgs false
namespace Go.Proofs.Ytadhpgecilhgnaa.Pure
open Go Go.Proofs.Ytadhpgecilhgnaa.A

theorem setsOff_ev {w : DWatch} (ok : RulesOk w) {i k : Nat} (hi : i < w.2.2.2.length) (hk : k < w.2.2.2.length) : ∃ b : Bool, Ev (fun n => perigeeref8_setsOff.f n w i k) (b, ()) ∧ (b = true ↔ Rai (rul w i) (rul w k).2.1) := by
 have rl := ok.rl
 have al := (ok.ac i hi).1
 have loop : ∀ (d j : Nat), j + d = (rul w i).2.2.2.2.length → (∀ a ∈ (rul w i).2.2.2.2.take j, ¬ (a.1 = 1 ∧ a.2.1 = (rul w k).2.1)) → ∃ b : Bool, Ev (fun n => perigeeref8_setsOff.c0 n i k w.1 w.2.1 w.2.2.1 w.2.2.2 (j : Int)) (b, ()) ∧ (b = true ↔ Rai (rul w i) (rul w k).2.1) := by
  intro d
  induction d with
  | zero =>
   intro j hj hs
   rw [List.take_of_length_le (by omega)] at hs
   refine ⟨false, Ev.step (fun n => perigeeref8_setsOff.c0_eq _ _ _ _ _ _ _ _) ?_, fun h => (by cases h), fun ⟨a, ha, h⟩ => absurd h (hs a ha)⟩
   simp only [Int.toNat_natCast]
   exact Ev.yes (by omega) (Ev.no (fun h => by have h := of_decide_eq_true h; unfold rul at hj; omega) (Ev.now _))
  | succ d ih =>
   intro j hj hs
   have hjl : j < (rul w i).2.2.2.2.length := by omega
   have hw : IntKind.wrap .i64 ((j : Int) + 1) = ((j + 1 : Nat) : Int) := by rw [w64 (by omega) (by omega)]; omega
   obtain ⟨y, hy⟩ : ∃ y, (rul w i).2.2.2.2.getD j (Ty.dflt YAct) = y := ⟨_, rfl⟩
   have hym : y ∈ (rul w i).2.2.2.2 := hy ▸ getD_mem hjl
   have hyg : (rul w i).2.2.2.2[j]? = some y := by rw [← hy, getD_nat _ _ _ hjl, List.getElem?_eq_getElem hjl]
   have go : ∀ {r}, Ev (fun n => if (decide (y.1 = 1)) = true then (if (0 : Int) ≤ (k : Int) ∧ (k : Int) < (w.2.2.2.length : Int) then (if (decide (y.2.1 = (rul w k).2.1)) = true then some (true, ()) else perigeeref8_setsOff.c0 n i k w.1 w.2.1 w.2.2.1 w.2.2.2 ((j + 1 : Nat) : Int)) else none) else perigeeref8_setsOff.c0 n i k w.1 w.2.1 w.2.2.1 w.2.2.2 ((j + 1 : Nat) : Int)) r → Ev (fun n => perigeeref8_setsOff.c0 n i k w.1 w.2.1 w.2.2.1 w.2.2.2 (j : Int)) r := fun {r} e => by
    refine Ev.step (fun n => perigeeref8_setsOff.c0_eq _ _ _ _ _ _ _ _) ?_
    simp only [Int.toNat_natCast, hw]
    have hy' : (w.2.2.2.getD i (Ty.dflt YWatchRule)).2.2.2.2.getD j (Ty.dflt YAct) = y := hy
    have hjl' : j < (w.2.2.2.getD i (Ty.dflt YWatchRule)).2.2.2.2.length := hjl
    simp only [hy']
    exact Ev.yes (by omega) (Ev.yes (decide_eq_true (by omega)) (Ev.yes (by omega) (Ev.yes (by omega) e)))
   have nx : ¬ (y.1 = 1 ∧ y.2.1 = (rul w k).2.1) → ∃ b : Bool, Ev (fun n => perigeeref8_setsOff.c0 n i k w.1 w.2.1 w.2.2.1 w.2.2.2 ((j + 1 : Nat) : Int)) (b, ()) ∧ (b = true ↔ Rai (rul w i) (rul w k).2.1) := fun h => ih (j + 1) (by omega) fun a ha => by
    rw [List.take_add_one, hyg] at ha
    rcases List.mem_append.1 ha with ha | ha
    ·exact hs a ha
    ·simp at ha; subst ha; exact h
   by_cases h1 : y.1 = 1
   ·by_cases h2 : y.2.1 = (rul w k).2.1
    ·exact ⟨true, go (Ev.yes (decide_eq_true h1) (Ev.yes (by omega) (Ev.yes (decide_eq_true h2) (Ev.now _)))), fun _ => ⟨y, hym, h1, h2⟩, fun _ => rfl⟩
    ·obtain ⟨b, b1, b2⟩ := nx fun h => h2 h.2
     exact ⟨b, go (Ev.yes (decide_eq_true h1) (Ev.yes (by omega) (Ev.no (fun h => h2 (of_decide_eq_true h)) b1))), b2⟩
   ·obtain ⟨b, b1, b2⟩ := nx fun h => h1 h.1
    exact ⟨b, go (Ev.no (fun h => h1 (of_decide_eq_true h)) b1), b2⟩
 obtain ⟨b, b1, b2⟩ := loop (rul w i).2.2.2.2.length 0 (by omega) (fun a ha => by simp at ha)
 exact ⟨b, Ev.eq (fun n => perigeeref8_setsOff.f_eq _ _ _ _) b1, b2⟩
end Go.Proofs.Ytadhpgecilhgnaa.Pure

-- YtadhpgecilhgnaaQ17
set_option linter.unusedVariables false
set_option linter.unusedSimpArgs false
namespace Go.Proofs.Ytadhpgecilhgnaa.Pure
open Go Go.Proofs.Ytadhpgecilhgnaa.A

open Classical in
noncomputable def rowOf (w : DWatch) (i : Nat) : List Int := ((List.range w.2.2.2.length).filter fun k => decide (Rai (rul w i) (rul w k).2.1)).map fun (k : Nat) => (k : Int)
open Classical in
theorem sets_is (w : DWatch) (ok : RulesOk w) : Ev (fun k => monitor_sets.f k w) ((List.range w.2.2.2.length).map (rowOf w), ()) := by
 have rl := ok.rl
 have h := Ev.rng (σ := List (List Int)) (Ty.dflt YWatchRule) w.2.2.2 (by omega) (g := fun k s i => monitor_sets.c0 k w.1 w.2.1 w.2.2.1 w.2.2.2 s w.2.2.2 (w.2.2.2.length : Int) i) (fun k s i => monitor_sets.c0_eq _ _ _ _ _ _ _ _ _)
  (fun i s => s = (List.range i).map (rowOf w)) (fun _ _ _ => ((List.range w.2.2.2.length).map (rowOf w), ())) (fun s hs => by rw [hs]; exact Ev.now _) (fun i x xs s hi hc hd hget hw hs next => by
   simp only [Int.toNat_natCast, hget]
   have hx : rul w i = x := hget
   have ha := (ok.ac i hi).1
   rw [hx] at ha
   have h := Ev.rng (σ := List Int) (Ty.dflt YWatchRule) w.2.2.2 (by omega) (g := fun k l j => monitor_sets.c1 k w.1 w.2.1 w.2.2.1 w.2.2.2 s x.1 x.2.1 x.2.2.1 x.2.2.2.1 x.2.2.2.2 l w.2.2.2 (w.2.2.2.length : Int) (i : Int) w.2.2.2 (w.2.2.2.length : Int) j) (fun k l j => monitor_sets.c1_eq _ _ _ _ _ _ _ _ _ _ _ _ _ _ _ _ _ _)
    (fun j l => l = ((List.range j).filter fun k => decide (Rai (rul w i) (rul w k).2.1)).map fun (k : Nat) => (k : Int)) (fun _ _ _ => ((List.range w.2.2.2.length).map (rowOf w), ())) (fun l hl => by
     have hsl : s.length = i := by rw [hs]; simp
     rw [hw]
     refine Ev.yes (by omega) (next _ ?_)
     rw [List.range_succ, List.map_append, ← hs, hl]
     rfl) (fun j y ys l hj hcy hdy hgdy hwy hl nexty => by
     simp only [Int.toNat_natCast, hgdy, hwy]
     have hy : rul w j = y := hgdy
     obtain ⟨b, b1, b2⟩ := raises_ev x y.2.1 ha
     have b1 : Ev (fun k => monitor_raises.f k (x.1, (x.2.1, (x.2.2.1, (x.2.2.2.1, x.2.2.2.2)))) y.2.1) (b, ()) := b1
     have hll : l.length ≤ 200 := by
      rw [hl, List.length_map]
      exact Nat.le_trans (List.length_filter_le _ _) (by simp; omega)
     have e : Rai (rul w i) (rul w j).2.1 ↔ b = true := by rw [hx, hy]; exact b2.symm
     cases b with
     | true =>
      refine Ev.bind b1 (Ev.yes rfl (Ev.yes (by omega) (nexty _ ?_)))
      rw [List.range_succ, List.filter_append, List.map_append, ← hl, List.filter_cons_of_pos (by simpa using e.2 rfl)]; rfl
     | false =>
      refine Ev.bind b1 (Ev.no (by simp) (nexty _ ?_))
      have hne : ¬ Rai (rul w i) (rul w j).2.1 := fun h => by have := e.1 h; cases this
      rw [List.range_succ, List.filter_append, List.map_append, ← hl, List.filter_cons_of_neg (by simpa using hne)]; simp) 0 [] (by omega) (by rfl)
   exact h) 0 [] (by omega) (by rfl)
 exact Ev.eq (fun k => monitor_sets.f_eq _ _) h
open Classical in
theorem mem_rowOf {w : DWatch} {i : Nat} {v : Int} : v ∈ rowOf w i ↔ ∃ k : Nat, v = k ∧ k < w.2.2.2.length ∧ Rai (rul w i) (rul w k).2.1 := by
 unfold rowOf
 rw [List.mem_map]
 constructor
 ·rintro ⟨k, hk, e⟩
  rw [List.mem_filter, List.mem_range] at hk
  exact ⟨k, e.symm, hk.1, of_decide_eq_true hk.2⟩
 ·rintro ⟨k, e, h1, h2⟩
  exact ⟨k, List.mem_filter.2 ⟨List.mem_range.2 h1, decide_eq_true h2⟩, e.symm⟩
theorem rowOf_sorted (w : DWatch) (i : Nat) : (rowOf w i).Pairwise (· < ·) := by
 unfold rowOf
 rw [List.pairwise_map]
 refine (List.Pairwise.sublist List.filter_sublist ?_).imp fun h => Int.ofNat_lt.2 h
 exact List.pairwise_lt_range
end Go.Proofs.Ytadhpgecilhgnaa.Pure

-- YtadhpgecilhgnaaQ18
set_option linter.unusedVariables false
set_option linter.unusedSimpArgs false
namespace Go.Proofs.Ytadhpgecilhgnaa.Pure
open Go Go.Proofs.Ytadhpgecilhgnaa.A

abbrev nR (w : DWatch) : Nat := w.2.2.2.length
def Eg (w : DWatch) (i k : Nat) : Prop := Rai (rul w i) (rul w k).2.1
def Rn (w : DWatch) (f : Nat) : Nat → Nat → Prop
 | 0, i => i = f
 | d + 1, i => f ≤ i ∧ i < nR w ∧ ∃ k, f ≤ k ∧ k < nR w ∧ Eg w i k ∧ Rn w f d k
def Mn (w : DWatch) (f d k : Nat) : Prop := Rn w f d k ∧ ∀ e, 1 ≤ e → e < d → ¬ Rn w f e k
def Cand (w : DWatch) (f at_ left k : Nat) : Prop := f < k ∧ k < nR w ∧ Eg w at_ k ∧ Mn w f left k
inductive Gl (w : DWatch) (f : Nat) : Nat → Nat → List Int → Prop
 | nil (a : Nat) : Gl w f a 0 []
 | cons {a left k : Nat} {l : List Int} (h1 : Cand w f a (left + 1) k) (h2 : ∀ j, Cand w f a (left + 1) j → k ≤ j) (h3 : Gl w f k left l) : Gl w f a (left + 1) ((k : Int) :: l)
def RingIs (w : DWatch) (f : Nat) (r : List Int) : Prop :=
 (r = [] ∧ ∀ d, 1 ≤ d → ¬ Rn w f d f) ∨ ∃ D l, Mn w f (D + 1) f ∧ r = (f : Int) :: l ∧ Gl w f f D l
theorem Gl.uniq {w : DWatch} {f : Nat} : ∀ {d a : Nat} {l l' : List Int}, Gl w f a d l → Gl w f a d l' → l = l'
 | 0, a, _, _, .nil _, .nil _ => rfl
 | d + 1, a, _, _, .cons (k := k) h1 h2 h3, .cons (k := k') g1 g2 g3 => by
  have e : k = k' := Nat.le_antisymm (h2 k' g1) (g2 k h1)
  subst e
  rw [Gl.uniq h3 g3]
theorem RingIs.uniq {w : DWatch} {f : Nat} {r r' : List Int} (h : RingIs w f r) (h' : RingIs w f r') : r = r' := by
 rcases h with ⟨e, h⟩ | ⟨D, l, m, e, g⟩ <;> rcases h' with ⟨e', h'⟩ | ⟨D', l', m', e', g'⟩
 ·rw [e, e']
 ·exact absurd m'.1 (h _ (by omega))
 ·exact absurd m.1 (h' _ (by omega))
 ·have hD : D = D' := by
   rcases Nat.lt_trichotomy D D' with h | h | h
   ·exact absurd m.1 (m'.2 _ (by omega) (by omega))
   ·exact h
   ·exact absurd m'.1 (m.2 _ (by omega) (by omega))
  subst hD
  rw [e, e', g.uniq g']
theorem Gl.len {w : DWatch} {f : Nat} : ∀ {d a : Nat} {l : List Int}, Gl w f a d l → l.length = d
 | 0, _, _, .nil _ => rfl
 | d + 1, _, _, .cons _ _ h => by simp [Gl.len h]
end Go.Proofs.Ytadhpgecilhgnaa.Pure

-- YtadhpgecilhgnaaQ19
set_option linter.unusedVariables false
set_option linter.unusedSimpArgs false
namespace Go.Proofs.Ytadhpgecilhgnaa.Pure
open Go Go.Proofs.Ytadhpgecilhgnaa.A

abbrev dv (ds : List Int) (i : Nat) : Int := ds.getD i 0
abbrev zs (Q : List Nat) : List Int := Q.map fun (k : Nat) => (k : Int)
theorem dv_set {ds : List Int} {x y : Nat} (hx : x < ds.length) (v : Int) : dv (ds.set x v) y = if x = y then v else dv ds y := by
 unfold dv
 rw [List.getD_eq_getElem?_getD, List.getD_eq_getElem?_getD, List.getElem?_set]
 by_cases e : x = y
 ·subst e
  rw [if_pos rfl, if_pos rfl, if_pos hx]; rfl
 ·rw [if_neg e, if_neg e]
structure BA (w : DWatch) (f : Nat) (ds : List Int) (Q : List Nat) (t : Nat) : Prop where
 len : ds.length = nR w
 q0 : f ∈ Q ∧ dv ds f = 0
 q1 : ∀ x ∈ Q, f ≤ x ∧ x < nR w ∧ ∃ d : Nat, dv ds x = d ∧ Rn w f d x
 q2 : ∀ x, f ≤ x → x < nR w → 0 ≤ dv ds x → x ∈ Q
 q3 : Q.Pairwise fun a b => dv ds a ≤ dv ds b
 q4 : ∀ h, Q[t]? = some h → ∀ x ∈ Q, dv ds x ≤ dv ds h + 1
 q5 : ∀ z ∈ Q.take t, ∀ x, f ≤ x → x < nR w → Eg w x z → 0 ≤ dv ds x ∧ dv ds x ≤ dv ds z + 1
 q7 : Q.Nodup
 q8 : ∀ x ∈ Q, dv ds x + 1 ≤ Q.length
structure AwayOk (w : DWatch) (f : Nat) (ds : List Int) : Prop where
 len : ds.length = nR w
 zero : dv ds f = 0
 pos : ∀ x, f ≤ x → x < nR w → 0 ≤ dv ds x → dv ds x ≤ 200 ∧ ∃ d : Nat, dv ds x = d ∧ Rn w f d x
 min : ∀ (d x : Nat), f ≤ x → x < nR w → Rn w f d x → 0 ≤ dv ds x ∧ dv ds x ≤ d
theorem ba_len {w : DWatch} {f : Nat} {ds : List Int} {Q : List Nat} {t : Nat} (rl : nR w ≤ 200) (h : BA w f ds Q t) : Q.length ≤ 200 := by
 have := nodup_len (m := List.range (nR w)) h.q7 fun y hy => List.mem_range.2 (h.q1 y hy).2.1
 rw [List.length_range] at this
 omega
theorem ba_done {w : DWatch} {f : Nat} {ds : List Int} {Q : List Nat} {t : Nat} (rl : nR w ≤ 200) (h : BA w f ds Q t) (ht : Q.length ≤ t) : AwayOk w f ds := by
 have all : Q.take t = Q := List.take_of_length_le ht
 refine ⟨h.len, h.q0.2, fun x hf hx h0 => ?_, ?_⟩
 ·have hq := h.q2 x hf hx h0
  have h1 := h.q8 x hq
  have h2 := ba_len rl h
  exact ⟨by omega, (h.q1 x hq).2.2⟩
 ·intro d
  induction d with
  | zero =>
   intro x _ _ hp
   have hp : x = f := hp
   subst hp
   rw [h.q0.2]; simp
  | succ d ih =>
   intro x hf hx ⟨_, _, k, k1, k2, k3, k4⟩
   obtain ⟨a1, a2⟩ := ih k k1 k2 k4
   have hq := h.q2 k k1 k2 a1
   obtain ⟨b1, b2⟩ := h.q5 k (by rw [all]; exact hq) x hf hx k3
   exact ⟨b1, by omega⟩
theorem ba_add {w : DWatch} {f : Nat} {ds : List Int} {Q : List Nat} {t : Nat} {hd x : Nat} (h : BA w f ds Q t) (ht : Q[t]? = some hd) (hx : f ≤ x ∧ x < nR w) (hn : dv ds x < 0) (he : Eg w x hd) : BA w f (ds.set x (dv ds hd + 1)) (Q ++ [x]) t ∧ (∀ y ∈ Q, dv (ds.set x (dv ds hd + 1)) y = dv ds y) ∧ dv (ds.set x (dv ds hd + 1)) x = dv ds hd + 1 := by
 have hts : t < Q.length := (List.getElem?_eq_some_iff.1 ht).1
 have hdQ : hd ∈ Q := List.mem_of_getElem? ht
 have nq : x ∉ Q := fun hq => by obtain ⟨_, _, d, e, _⟩ := h.q1 x hq; omega
 have set : ∀ y, dv (ds.set x (dv ds hd + 1)) y = if x = y then dv ds hd + 1 else dv ds y := fun y => dv_set (by rw [h.len]; exact hx.2) _
 have old : ∀ y ∈ Q, dv (ds.set x (dv ds hd + 1)) y = dv ds y := fun y hy => by rw [set, if_neg (fun e => nq (by rw [e]; exact hy))]
 have new : dv (ds.set x (dv ds hd + 1)) x = dv ds hd + 1 := by rw [set, if_pos rfl]
 obtain ⟨hd1, hd2, d0, hd3, hd4⟩ := h.q1 hd hdQ
 refine ⟨⟨by rw [List.length_set]; exact h.len, ⟨List.mem_append_left _ h.q0.1, by rw [old _ h.q0.1]; exact h.q0.2⟩, fun y hy => ?_, fun y hy1 hy2 hy0 => ?_, ?_, fun h' hh' y hy => ?_, fun z hz y hy1 hy2 e1 => ?_, ?_, fun y hy => ?_⟩, old, new⟩
 ·rcases List.mem_append.1 hy with hy | hy
  ·rw [old y hy]; exact h.q1 y hy
  ·simp at hy
   subst hy
   rw [new]
   exact ⟨hx.1, hx.2, d0 + 1, by omega, hx.1, hx.2, hd, hd1, hd2, he, hd4⟩
 ·rw [set] at hy0
  split at hy0
  ·rename_i e
   exact List.mem_append_right _ (by simp [e])
  ·exact List.mem_append_left _ (h.q2 y hy1 hy2 hy0)
 ·rw [List.pairwise_append]
  refine ⟨?_, by simp, fun a ha b hb => ?_⟩
  ·refine List.Pairwise.imp_of_mem (fun {a b} ha hb hab => ?_) h.q3
   rw [old a ha, old b hb]; exact hab
  ·simp at hb
   subst hb
   rw [old a ha, new]
   exact h.q4 hd ht a ha
 ·have e : h' = hd := by
   rw [List.getElem?_append_left hts, ht] at hh'
   cases hh'; rfl
  subst e
  rw [old h' hdQ]
  rcases List.mem_append.1 hy with hy | hy
  ·rw [old y hy]; exact h.q4 h' ht y hy
  ·simp at hy
   subst hy
   rw [new]; omega
 ·rw [List.take_append_of_le_length (by omega)] at hz
  have hzQ := List.mem_of_mem_take hz
  obtain ⟨k1, k2⟩ := h.q5 z hz y hy1 hy2 e1
  have : x ≠ y := fun e => by rw [← e] at k1; omega
  rw [set, if_neg this, old z hzQ]
  exact ⟨k1, k2⟩
 ·rw [List.nodup_append]
  refine ⟨h.q7, by simp, fun a ha b hb => ?_⟩
  simp at hb
  subst hb
  exact fun e => nq (e ▸ ha)
 ·rw [List.length_append]
  simp only [List.length_cons, List.length_nil]
  rcases List.mem_append.1 hy with hy | hy
  ·rw [old y hy]; have := h.q8 y hy; omega
  ·simp at hy
   subst hy
   rw [new]
   have := h.q8 hd hdQ
   omega
end Go.Proofs.Ytadhpgecilhgnaa.Pure

-- YtadhpgecilhgnaaQ20
set_option linter.unusedVariables false
set_option linter.unusedSimpArgs false
namespace Go.Proofs.Ytadhpgecilhgnaa.Pure
open Go Go.Proofs.Ytadhpgecilhgnaa.A
section
variable {w : DWatch} {f : Nat}
theorem zs_get {Q : List Nat} {t hd : Nat} (h : Q[t]? = some hd) : (zs Q).getD t 0 = (hd : Int) := by
 rw [List.getD_eq_getElem?_getD, List.getElem?_map, h]; rfl
theorem ba_next {ds : List Int} {Q : List Nat} {t hd : Nat} (h : BA w f ds Q t) (ht : Q[t]? = some hd) (hall : ∀ x, f ≤ x → x < nR w → Eg w x hd → 0 ≤ dv ds x ∧ dv ds x ≤ dv ds hd + 1) : BA w f ds Q (t + 1) := by
 have hts : t < Q.length := (List.getElem?_eq_some_iff.1 ht).1
 refine ⟨h.len, h.q0, h.q1, h.q2, h.q3, fun h' hh' x hx => ?_, fun z hz x h1 h2 e => ?_, h.q7, h.q8⟩
 ·have k1 := h.q4 hd ht x hx
  have k2 := (List.pairwise_iff_getElem.1 h.q3) t (t + 1) hts (List.getElem?_eq_some_iff.1 hh').1 (by omega)
  rw [(List.getElem?_eq_some_iff.1 ht).2, (List.getElem?_eq_some_iff.1 hh').2] at k2
  omega
 ·rw [List.take_add_one, ht] at hz
  rcases List.mem_append.1 hz with hz | hz
  ·exact h.q5 z hz x h1 h2 e
  ·simp at hz
   subst hz
   exact hall x h1 h2 e
theorem away_loop (ok : RulesOk w) : ∀ (d t : Nat) (ds : List Int) (Q : List Nat), BA w f ds Q t → t + d = 201 →
 ∃ r : List Int × Unit, Ev (fun k => perigeeref8_away.c1 k (f : Int) w.1 w.2.1 w.2.2.1 w.2.2.2 ds (zs Q) (t : Int)) r ∧ AwayOk w f r.1 := by
 have rl := ok.rl
 have hnR : nR w = w.2.2.2.length := rfl
 intro d
 induction d with
 | zero =>
  intro t ds Q h ht
  have h2 := ba_len rl h
  refine ⟨(ds, ()), Ev.step (fun k => perigeeref8_away.c1_eq _ _ _ _ _ _ _ _ _) (Ev.no (by simp; omega) (Ev.now _)), ba_done rl h (by omega)⟩
 | succ d ih =>
  intro t ds Q h ht
  have h2 := ba_len rl h
  by_cases hq : t < Q.length
  case neg => exact ⟨(ds, ()), Ev.step (fun k => perigeeref8_away.c1_eq _ _ _ _ _ _ _ _ _) (Ev.no (by simp; omega) (Ev.now _)), ba_done rl h (by omega)⟩
  obtain ⟨hd, hhd⟩ : ∃ hd, Q[t]? = some hd := ⟨_, List.getElem?_eq_getElem hq⟩
  have hwt : IntKind.wrap .i64 ((t : Int) + 1) = ((t + 1 : Nat) : Int) := by rw [w64 (by omega) (by omega)]; omega
  have inner : ∀ (e i : Nat) (ds : List Int) (Q : List Nat), i + e = nR w ∨ (nR w ≤ i ∧ e = 0) → BA w f ds Q t → Q[t]? = some hd → (∀ x, f ≤ x → x < nR w → x < i → Eg w x hd → 0 ≤ dv ds x ∧ dv ds x ≤ dv ds hd + 1) → i ≤ 400 →
   f ≤ i → ∃ r : List Int × Unit, Ev (fun k => perigeeref8_away.c2 k (f : Int) w.1 w.2.1 w.2.2.1 w.2.2.2 ds (zs Q) (t : Int) (i : Int)) r ∧ AwayOk w f r.1 := by
   intro e
   induction e with
   | zero =>
    intro i ds Q hi hb hQ hs _ _
    obtain ⟨r, r1, r2⟩ := ih (t + 1) ds Q (ba_next hb hQ fun x h1 h2 e => hs x h1 h2 (by omega) e) (by omega)
    refine ⟨r, Ev.step (fun k => perigeeref8_away.c2_eq _ _ _ _ _ _ _ _ _ _) (Ev.no (fun h => by have := of_decide_eq_true h; omega) ?_), r2⟩
    rw [hwt]
    exact r1
   | succ e ihe =>
    intro i ds Q hi hb hQ hs hi4 hfi
    have hin : i < nR w := by omega
    have hts : t < Q.length := (List.getElem?_eq_some_iff.1 hQ).1
    have hdQ : hd ∈ Q := List.mem_of_getElem? hQ
    obtain ⟨q1, q2, d0, q3, q4⟩ := hb.q1 hd hdQ
    have hwi : IntKind.wrap .i64 ((i : Int) + 1) = ((i + 1 : Nat) : Int) := by rw [w64 (by omega) (by omega)]; omega
    have hzl : (zs Q).length = Q.length := List.length_map _
    have hQl := ba_len rl hb
    have hgh := zs_get hQ
    have step : ∀ {ds' : List Int} {Q' : List Nat}, BA w f ds' Q' t → Q'[t]? = some hd → (∀ x, f ≤ x → x < nR w → x < i + 1 → Eg w x hd → 0 ≤ dv ds' x ∧ dv ds' x ≤ dv ds' hd + 1) → ∃ r : List Int × Unit, Ev (fun k => perigeeref8_away.c2 k (f : Int) w.1 w.2.1 w.2.2.1 w.2.2.2 ds' (zs Q') (t : Int) ((i + 1 : Nat) : Int)) r ∧ AwayOk w f r.1 := fun h1 h2 h3 => ihe (i + 1) _ _ (by omega) h1 h2 h3 (by have := rl; omega) (by omega)
    by_cases h3 : dv ds i < 0
    case neg =>
     obtain ⟨r, r1, r2⟩ := step hb hQ fun x h1 h2 h4 e => by
      by_cases e' : x = i
      ·subst e'
       exact ⟨by omega, hb.q4 hd hQ x (hb.q2 x h1 h2 (by omega))⟩
      ·exact hs x h1 h2 (by omega) e
     refine ⟨r, Ev.step (fun k => perigeeref8_away.c2_eq _ _ _ _ _ _ _ _ _ _) (Ev.yes (decide_eq_true (by omega)) (Ev.yes (by rw [hb.len]; omega) (Ev.no (fun h => h3 (of_decide_eq_true h)) ?_))), r2⟩
     rw [hwi]
     exact r1
    obtain ⟨b, b1, b2⟩ := setsOff_ev ok hin q2
    have go : ∀ {r}, Ev (fun k => if b = true then perigeeref8_away.c2 k (f : Int) w.1 w.2.1 w.2.2.1 w.2.2.2 (ds.set i (dv ds hd + 1)) (zs (Q ++ [i])) (t : Int) ((i + 1 : Nat) : Int) else perigeeref8_away.c2 k (f : Int) w.1 w.2.1 w.2.2.1 w.2.2.2 ds (zs Q) (t : Int) ((i + 1 : Nat) : Int)) r → Ev (fun k => perigeeref8_away.c2 k (f : Int) w.1 w.2.1 w.2.2.1 w.2.2.2 ds (zs Q) (t : Int) (i : Int)) r := fun {r} e => by
     refine Ev.step (fun k => perigeeref8_away.c2_eq _ _ _ _ _ _ _ _ _ _) (Ev.yes (decide_eq_true (by omega)) (Ev.yes (by rw [hb.len]; omega) (Ev.yes (decide_eq_true h3) (Ev.yes (by omega) ?_))))
     simp only [Int.toNat_natCast, hgh, hwi]
     refine Ev.bind b1 ?_
     cases b with
     | true =>
      simp only [if_true] at e ⊢
      refine Ev.yes (by omega) (Ev.yes (by rw [hb.len]; omega) (Ev.yes (by rw [hb.len]; omega) (Ev.yes (by omega) ?_)))
      have hwd : IntKind.wrap .i64 (ds.getD hd 0 + 1) = dv ds hd + 1 := w64 (by have : dv ds hd = d0 := q3; have := hb.q8 hd hdQ; unfold dv at *; omega) (by have := hb.q8 hd hdQ; unfold dv at *; omega)
      rw [hwd]
      have ez : zs Q ++ [(i : Int)] = zs (Q ++ [i]) := by simp [zs]
      rw [ez]
      exact e
     | false => simpa using e
    cases b with
    | true =>
     obtain ⟨n1, n2, n3⟩ := ba_add hb hQ ⟨hfi, hin⟩ h3 (b2.1 rfl)
     obtain ⟨r, r1, r2⟩ := step n1 (by rw [List.getElem?_append_left hts]; exact hQ) fun x h1 h2 h4 e => by
      by_cases e' : x = i
      ·subst e'
       rw [n3, n2 hd hdQ]
       exact ⟨by omega, by omega⟩
      ·obtain ⟨k1, k2⟩ := hs x h1 h2 (by omega) e
       rw [n2 x (hb.q2 x h1 h2 k1), n2 hd hdQ]
       exact ⟨k1, k2⟩
     exact ⟨r, go (by simpa using r1), r2⟩
    | false =>
     obtain ⟨r, r1, r2⟩ := step hb hQ fun x h1 h2 h4 e => by
      by_cases e' : x = i
      ·subst e'
       have := b2.2 e
       cases this
      ·exact hs x h1 h2 (by omega) e
     exact ⟨r, go (by simpa using r1), r2⟩
  have hfn : f ≤ nR w := by
   obtain ⟨a, b, _⟩ := h.q1 f h.q0.1
   omega
  obtain ⟨r, r1, r2⟩ := inner (nR w - f) f ds Q (by omega) h hhd (fun x h1 h2 h3 => by omega) (by omega) (Nat.le_refl _)
  exact ⟨r, Ev.step (fun k => perigeeref8_away.c1_eq _ _ _ _ _ _ _ _ _) (Ev.yes (decide_eq_true (by rw [show (zs Q).length = Q.length from List.length_map _]; omega)) r1), r2⟩
theorem away_ev (ok : RulesOk w) (hf : f < nR w) : ∃ r : List Int × Unit, Ev (fun k => perigeeref8_away.f k w f f) r ∧ AwayOk w f r.1 := by
 have rl := ok.rl
 have hnR : nR w = w.2.2.2.length := rfl
 have dm : ∀ y, y < nR w → dv ((List.replicate (nR w) (-1)).set f 0) y = if f = y then 0 else -1 := fun y hy => by
  rw [dv_set (by simpa using hf)]
  split
  ·rfl
  ·unfold dv
   rw [List.getD_eq_getElem?_getD, List.getElem?_replicate, if_pos hy]; rfl
 have ba : BA w f ((List.replicate (nR w) (-1)).set f 0) [f] 0 := by
  refine ⟨by simp, ⟨by simp, by rw [dm f hf, if_pos rfl]⟩, fun x hx => ?_, fun x _ hx h0 => ?_, by simp, fun h hh x hx => ?_, fun z hz => by simp at hz, by simp, fun x hx => ?_⟩
  ·simp at hx; subst hx
   rw [dm x hf, if_pos rfl]
   exact ⟨Nat.le_refl _, hf, 0, rfl, rfl⟩
  ·rw [dm x hx] at h0
   split at h0
   ·rename_i e; simp [e]
   ·omega
  ·simp at hh hx
   subst hh; subst hx; omega
  ·simp at hx; subst hx
   rw [dm x hf, if_pos rfl]; simp
 obtain ⟨r, r1, r2⟩ := away_loop ok 201 0 _ [f] ba (by omega)
 refine ⟨r, Ev.eq (fun k => perigeeref8_away.f_eq _ _ _ _) (Ev.yes (by omega) ?_), r2⟩
 have fill : ∀ (d i : Nat), i + d = nR w → Ev (fun k => perigeeref8_away.c0 k (f : Int) (f : Int) w.1 w.2.1 w.2.2.1 w.2.2.2 (List.replicate i (-1) ++ List.replicate d 0) (i : Int)) r := by
  intro d
  induction d with
  | zero =>
   intro i hi
   refine Ev.step (fun k => perigeeref8_away.c0_eq _ _ _ _ _ _ _ _ _) (Ev.no (by simp) (Ev.yes (by simp; omega) ?_))
   simp only [Int.toNat_natCast, List.replicate_zero, List.append_nil]
   obtain rfl : i = nR w := by omega
   exact r1
  | succ d ih =>
   intro i hi
   refine Ev.step (fun k => perigeeref8_away.c0_eq _ _ _ _ _ _ _ _ _) (Ev.yes (by simp; omega) (Ev.yes (by simp; omega) ?_))
   have e : (List.replicate i (-1 : Int) ++ List.replicate (d + 1) 0).set ((i : Int).toNat) (-1) = List.replicate (i + 1) (-1) ++ List.replicate d 0 := by
    rw [Int.toNat_natCast, List.set_append_right _ _ (by simp), List.length_replicate, Nat.sub_self, List.replicate_succ, List.set_cons_zero, List.replicate_succ', List.append_assoc]
    rfl
   rw [e, w64 (by omega) (by omega)]
   have := ih (i + 1) (by omega)
   rw [show ((i + 1 : Nat) : Int) = (i : Int) + 1 by omega] at this
   exact this
 have := fill (nR w) 0 (by omega)
 simp only [List.replicate_zero, List.nil_append] at this
 simpa using this
end
end Go.Proofs.Ytadhpgecilhgnaa.Pure

-- YtadhpgecilhgnaaQ21
set_option linter.unusedVariables false
set_option linter.unusedSimpArgs false
namespace Go.Proofs.Ytadhpgecilhgnaa.Pure
open Go Go.Proofs.Ytadhpgecilhgnaa.A
section
variable {w : DWatch} {f : Nat} {ds : List Int}
theorem dv_mn (D : AwayOk w f ds) {x d : Nat} (h1 : f < x) (h2 : x < nR w) : dv ds x = d ↔ Mn w f d x := by
 constructor
 ·intro h
  obtain ⟨_, d', e, hd⟩ := D.pos x (by omega) h2 (by omega)
  have : d' = d := by omega
  subst this
  exact ⟨hd, fun e he hlt hr => by have := (D.min e x (by omega) h2 hr).2; omega⟩
 ·intro ⟨h, hm⟩
  obtain ⟨k1, k2⟩ := D.min d x (by omega) h2 h
  obtain ⟨_, d', e, hd⟩ := D.pos x (by omega) h2 k1
  rcases Nat.lt_or_ge d' d with hlt | hge
  ·by_cases h0 : d' = 0
   ·subst h0
    have : x = f := hd
    omega
   ·exact absurd hd (hm d' (by omega) hlt)
  ·omega
theorem ringOf2 (ok : RulesOk w) (D : AwayOk w f ds) {a k0 : Nat} (hfa : f ≤ a) (ha : a < nR w) (hk : f ≤ k0 ∧ k0 < nR w) (hE : Eg w a k0) (hd : dv ds k0 = dv ds a - 1) (hmin : ∀ j, f ≤ j → j < k0 → ¬ (dv ds j = dv ds a - 1 ∧ Eg w a j)) {out : List Int} {r : List Int × Unit}
 (fin : Ev (fun n => perigeeref8_ringOf.c1 n (f : Int) w.1 w.2.1 w.2.2.1 w.2.2.2 ds out (k0 : Int)) r) (hda : 1 ≤ dv ds a ∧ dv ds a ≤ 200) :
 Ev (fun n => perigeeref8_ringOf.c2 n (f : Int) w.1 w.2.1 w.2.2.1 w.2.2.2 ds out (a : Int) (-1) (f : Int)) r := by
 have rl := ok.rl
 have hnR : nR w = w.2.2.2.length := rfl
 have wd : IntKind.wrap .i64 (dv ds a - 1) = dv ds a - 1 := w64 (by omega) (by omega)
 have loop : ∀ (e i : Nat) (c : Int), i + e = nR w → f ≤ i → (c = (k0 : Int) ∧ k0 < i ∨ c = -1 ∧ i ≤ k0) → Ev (fun n => perigeeref8_ringOf.c2 n (f : Int) w.1 w.2.1 w.2.2.1 w.2.2.2 ds out (a : Int) c (i : Int)) r := by
  intro e
  induction e with
  | zero =>
   intro i c hi hfi hc
   refine Ev.step (fun n => perigeeref8_ringOf.c2_eq _ _ _ _ _ _ _ _ _ _ _) (Ev.no (by simp; omega) ?_)
   rcases hc with ⟨e, _⟩ | ⟨_, h⟩
   ·rw [e]; exact fin
   ·omega
  | succ e ih =>
   intro i c hi hfi hc
   have hwi : IntKind.wrap .i64 ((i : Int) + 1) = ((i + 1 : Nat) : Int) := by rw [w64 (by omega) (by omega)]; omega
   obtain ⟨b, b1, b2⟩ := setsOff_ev ok (i := a) (k := i) ha (by omega)
   refine Ev.step (fun n => perigeeref8_ringOf.c2_eq _ _ _ _ _ _ _ _ _ _ _) (Ev.yes (decide_eq_true (by omega)) (Ev.yes (by rw [D.len]; omega) (Ev.yes (by rw [D.len]; omega) ?_)))
   simp only [Int.toNat_natCast, hwi]
   have e1 : IntKind.wrap .i64 (ds.getD a 0 - 1) = dv ds a - 1 := wd
   by_cases h1 : dv ds i = dv ds a - 1
   ·have h1' : ds.getD i 0 = IntKind.wrap .i64 (ds.getD a 0 - 1) := by rw [e1]; exact h1
    refine Ev.yes (decide_eq_true h1') (Ev.bind b1 ?_)
    by_cases hb : b = true
    ·refine Ev.yes hb ?_
     have hEi := b2.1 hb
     by_cases hik : i = k0
     ·subst hik
      rcases hc with ⟨_, h⟩ | ⟨h, _⟩
      ·omega
      ·subst h
       exact Ev.yes (by simp) (ih (i + 1) _ (by omega) (by omega) (.inl ⟨rfl, by omega⟩))
     ·rcases hc with ⟨h, h'⟩ | ⟨h, h'⟩
      ·subst h
       exact Ev.no (by simp) (ih (i + 1) _ (by omega) (by omega) (.inl ⟨rfl, by omega⟩))
      ·exact absurd ⟨h1, hEi⟩ (hmin i hfi (by omega))
    ·refine Ev.no hb (ih (i + 1) c (by omega) (by omega) ?_)
     rcases hc with ⟨h, h'⟩ | ⟨h, h'⟩
     ·exact .inl ⟨h, by omega⟩
     ·refine .inr ⟨h, ?_⟩
      rcases Nat.lt_or_ge i k0 with h2 | h2
      ·omega
      ·have : i = k0 := by omega
       subst this
       exact absurd (b2.2 hE) hb
   ·refine Ev.no (fun h => h1 ?_) (ih (i + 1) c (by omega) (by omega) ?_)
    ·have h' : ds.getD i 0 = IntKind.wrap .i64 (ds.getD a 0 - 1) := of_decide_eq_true h
     rw [e1] at h'
     exact h'
    ·rcases hc with ⟨h, h'⟩ | ⟨h, h'⟩
     ·exact .inl ⟨h, by omega⟩
     ·refine .inr ⟨h, ?_⟩
      rcases Nat.lt_or_ge i k0 with h2 | h2
      ·omega
      ·have : i = k0 := by omega
       subst this
       exact absurd hd h1
 exact loop (nR w - f) f (-1) (by omega) (Nat.le_refl _) (.inr ⟨rfl, hk.1⟩)
theorem least_of {p : Nat → Prop} {k : Nat} (h : p k) : ∃ m, p m ∧ ∀ j, p j → m ≤ j := by
 have : ∀ (n k : Nat), k ≤ n → p k → ∃ m, p m ∧ ∀ j, p j → m ≤ j := by
  intro n
  induction n with
  | zero =>
   intro k hk h
   exact ⟨k, h, fun j _ => by omega⟩
  | succ n ih =>
   intro k hk h
   by_cases e : ∃ j, j < k ∧ p j
   ·obtain ⟨j, j1, j2⟩ := e
    exact ih j (by omega) j2
   ·refine ⟨k, h, fun j hj => ?_⟩
    rcases Nat.lt_or_ge j k with h1 | h1
    ·exact absurd ⟨j, h1, hj⟩ e
    ·exact h1
 exact this k k (Nat.le_refl _) h
theorem ringOf1 (ok : RulesOk w) (D : AwayOk w f ds) (hfn : f < nR w) : ∀ (d a : Nat) (out : List Int), f < a → a < nR w → dv ds a = ((d + 1 : Nat) : Int) → out.length + d ≤ 1000 →
 ∃ l : List Int, Gl w f a d l ∧ Ev (fun n => perigeeref8_ringOf.c1 n (f : Int) w.1 w.2.1 w.2.2.1 w.2.2.2 ds out (a : Int)) (out ++ (a : Int) :: l, ()) := by
 have rl := ok.rl
 have hnR : nR w = w.2.2.2.length := rfl
 intro d
 induction d with
 | zero =>
  intro a out hfa ha hd ho
  obtain ⟨⟨_, _, k, k1, k2, k3, k4⟩, _⟩ := (dv_mn D (d := 1) hfa ha).1 hd
  have k4 : k = f := k4
  subst k4
  refine ⟨[], .nil a, Ev.step (fun n => perigeeref8_ringOf.c1_eq _ _ _ _ _ _ _ _ _) (Ev.yes (by simp; omega) (Ev.yes (by omega) ?_))⟩
  refine ringOf2 ok D (by omega) ha (k0 := k) ⟨Nat.le_refl _, hfn⟩ k3 (by rw [D.zero, hd]; omega) (fun j h1 h2 => by omega) ?_ (by omega)
  exact Ev.step (fun n => perigeeref8_ringOf.c1_eq _ _ _ _ _ _ _ _ _) (Ev.no (by simp) (Ev.now _))
 | succ d ih =>
  intro a out hfa ha hd ho
  obtain ⟨⟨_, _, k, k1, k2, k3, k4⟩, k5⟩ := (dv_mn D (d := d + 2) hfa ha).1 hd
  have cand : ∀ j, Cand w f a (d + 1) j ↔ (f ≤ j ∧ j < nR w ∧ dv ds j = dv ds a - 1 ∧ Eg w a j) := fun j => by
   constructor
   ·rintro ⟨h1, h2, h3, h4⟩
    have := (dv_mn D h1 h2).2 h4
    exact ⟨by omega, h2, by omega, h3⟩
   ·rintro ⟨h1, h2, h3, h4⟩
    have hj : f < j := by
     rcases Nat.lt_or_ge f j with h | h
     ·exact h
     ·have : j = f := by omega
      subst this
      rw [D.zero] at h3
      omega
    exact ⟨hj, h2, h4, (dv_mn D (d := d + 1) hj h2).1 (by omega)⟩
  have hk : Cand w f a (d + 1) k := by
   obtain ⟨m1, m2⟩ := D.min (d + 1) k k1 k2 k4
   obtain ⟨_, d', e, hd'⟩ := D.pos k k1 k2 m1
   refine (cand k).2 ⟨k1, k2, ?_, k3⟩
   rcases Nat.lt_or_ge d' (d + 1) with h | h
   ·exact absurd ⟨by omega, ha, k, k1, k2, k3, hd'⟩ (k5 (d' + 1) (by omega) (by omega))
   ·omega
  obtain ⟨m, hm, hl⟩ := least_of (p := fun j => Cand w f a (d + 1) j) hk
  obtain ⟨c1, c2, c3, c4⟩ := (cand m).1 hm
  obtain ⟨l, l1, l2⟩ := ih m (out ++ [(a : Int)]) hm.1 c2 (by omega) (by simp; omega)
  refine ⟨(m : Int) :: l, .cons hm hl l1, Ev.step (fun n => perigeeref8_ringOf.c1_eq _ _ _ _ _ _ _ _ _) (Ev.yes (by simp; omega) (Ev.yes (by omega) ?_))⟩
  refine ringOf2 ok D (by omega) ha (k0 := m) ⟨c1, c2⟩ c4 c3 (fun j h1 h2 h3 => ?_) ?_ (by have := (D.pos a (by omega) ha (by omega)).1; omega)
  ·have := hl j ((cand j).2 ⟨h1, by omega, h3⟩)
   omega
  ·rw [show out ++ (a : Int) :: (m : Int) :: l = (out ++ [(a : Int)]) ++ (m : Int) :: l by simp]
   exact l2
end
end Go.Proofs.Ytadhpgecilhgnaa.Pure

-- YtadhpgecilhgnaaQ22
set_option linter.unusedVariables false
set_option linter.unusedSimpArgs false
namespace Go.Proofs.Ytadhpgecilhgnaa.Pure
open Go Go.Proofs.Ytadhpgecilhgnaa.A
section
variable {w : DWatch} {f : Nat} {ds : List Int}
def Bst (w : DWatch) (f : Nat) (ds : List Int) (i : Nat) (c : Int) : Prop :=
 (c = -1 ∧ ∀ j, f ≤ j → j < i → Eg w f j → dv ds j < 0) ∨
 ∃ m : Nat, c = m ∧ f ≤ m ∧ m < i ∧ Eg w f m ∧ 0 ≤ dv ds m ∧ ∀ j, f ≤ j → j < i → Eg w f j → 0 ≤ dv ds j → dv ds m ≤ dv ds j ∧ (j < m → dv ds m < dv ds j)
theorem ringOf_done (ok : RulesOk w) (D : AwayOk w f ds) (hfn : f < nR w) {c : Int} (h : Bst w f ds (nR w) c) : ∃ r : List Int × Unit, Ev (fun n => if (decide (c < 0)) = true then some ([], ()) else perigeeref8_ringOf.c1 n (f : Int) w.1 w.2.1 w.2.2.1 w.2.2.2 ds [(f : Int)] c) r ∧ RingIs w f r.1 := by
 have rl := ok.rl
 have hnR : nR w = w.2.2.2.length := rfl
 rcases h with ⟨e, h⟩ | ⟨m, e, h1, h2, h3, h4, h5⟩
 ·subst e
  refine ⟨([], ()), Ev.yes (by simp) (Ev.now _), .inl ⟨rfl, fun d hd hr => ?_⟩⟩
  obtain ⟨d, rfl⟩ : ∃ e, d = e + 1 := ⟨d - 1, by omega⟩
  obtain ⟨_, _, k, k1, k2, k3, k4⟩ := hr
  have := h k k1 k2 k3
  have := (D.min d k k1 k2 k4).1
  omega
 ·subst e
  obtain ⟨_, d, d1, d2⟩ := D.pos m h1 h2 h4
  have mn : Mn w f (d + 1) f := by
   refine ⟨⟨Nat.le_refl _, hfn, m, h1, h2, h3, d2⟩, fun e he hlt hr => ?_⟩
   obtain ⟨e, rfl⟩ : ∃ x, e = x + 1 := ⟨e - 1, by omega⟩
   obtain ⟨_, _, k, k1, k2, k3, k4⟩ := hr
   obtain ⟨a1, a2⟩ := D.min e k k1 k2 k4
   have := (h5 k k1 k2 k3 a1).1
   omega
  by_cases hm : m = f
  ·subst hm
   have hd0 : d = 0 := by have := D.zero; omega
   subst hd0
   refine ⟨([(m : Int)], ()), Ev.no (by simp) (Ev.step (fun n => perigeeref8_ringOf.c1_eq _ _ _ _ _ _ _ _ _) (Ev.no (by simp) (Ev.now _))), .inr ⟨0, [], mn, rfl, .nil _⟩⟩
  ·have hfm : f < m := by omega
   have hd0 : d ≠ 0 := fun e => by
    subst e
    exact hm d2
   obtain ⟨d, rfl⟩ : ∃ e, d = e + 1 := ⟨d - 1, by omega⟩
   have hb := (D.pos m h1 h2 h4).1
   obtain ⟨l, l1, l2⟩ := ringOf1 ok D hfn d m [(f : Int)] hfm h2 d1 (by simp; omega)
   refine ⟨([(f : Int)] ++ (m : Int) :: l, ()), Ev.no (by simp) l2, .inr ⟨d + 1, (m : Int) :: l, mn, rfl, .cons ⟨hfm, h2, h3, (dv_mn D hfm h2).1 d1⟩ (fun j hj => ?_) l1⟩⟩
   obtain ⟨j1, j2, j3, j4⟩ := hj
   have hdj := (dv_mn D j1 j2).2 j4
   rcases Nat.lt_or_ge j m with hlt | hge
   ·have := (h5 j (by omega) j2 j3 (by omega)).2 hlt
    omega
   ·exact hge
theorem ringOf_ev (ok : RulesOk w) (hfn : f < nR w) : ∃ r : List Int × Unit, Ev (fun n => perigeeref8_ringOf.f n w f) r ∧ RingIs w f r.1 := by
 have rl := ok.rl
 have hnR : nR w = w.2.2.2.length := rfl
 obtain ⟨⟨ds, u⟩, a1, D⟩ := away_ev ok hfn
 have D : AwayOk w f ds := D
 have loop : ∀ (e i : Nat) (c : Int), i + e = nR w → f ≤ i → Bst w f ds i c → ∃ r : List Int × Unit, Ev (fun n => perigeeref8_ringOf.c0 n (f : Int) w.1 w.2.1 w.2.2.1 w.2.2.2 ds c (i : Int)) r ∧ RingIs w f r.1 := by
  intro e
  induction e with
  | zero =>
   intro i c hi hfi hb
   obtain rfl : i = nR w := by omega
   obtain ⟨r, r1, r2⟩ := ringOf_done ok D hfn hb
   exact ⟨r, Ev.step (fun n => perigeeref8_ringOf.c0_eq _ _ _ _ _ _ _ _ _) (Ev.no (by simp) r1), r2⟩
  | succ e ih =>
   intro i c hi hfi hb
   have hwi : IntKind.wrap .i64 ((i : Int) + 1) = ((i + 1 : Nat) : Int) := by rw [w64 (by omega) (by omega)]; omega
   have go : ∀ {r}, Ev (fun n => if (decide (0 ≤ dv ds i)) = true then ((perigeeref8_setsOff.f n w (f : Int) (i : Int)).bind fun r2 => if r2.1 = true then (if (decide (c < 0)) = true then perigeeref8_ringOf.c0 n (f : Int) w.1 w.2.1 w.2.2.1 w.2.2.2 ds (i : Int) ((i + 1 : Nat) : Int) else (if (0 : Int) ≤ (i : Int) ∧ (i : Int) < (ds.length : Int) then (if (0 : Int) ≤ c ∧ c < (ds.length : Int) then (if (decide (dv ds i < ds.getD c.toNat 0)) = true then perigeeref8_ringOf.c0 n (f : Int) w.1 w.2.1 w.2.2.1 w.2.2.2 ds (i : Int) ((i + 1 : Nat) : Int) else perigeeref8_ringOf.c0 n (f : Int) w.1 w.2.1 w.2.2.1 w.2.2.2 ds c ((i + 1 : Nat) : Int)) else none) else none)) else perigeeref8_ringOf.c0 n (f : Int) w.1 w.2.1 w.2.2.1 w.2.2.2 ds c ((i + 1 : Nat) : Int)) else perigeeref8_ringOf.c0 n (f : Int) w.1 w.2.1 w.2.2.1 w.2.2.2 ds c ((i + 1 : Nat) : Int)) r → Ev (fun n => perigeeref8_ringOf.c0 n (f : Int) w.1 w.2.1 w.2.2.1 w.2.2.2 ds c (i : Int)) r := fun {r} e => by
    refine Ev.step (fun n => perigeeref8_ringOf.c0_eq _ _ _ _ _ _ _ _ _) (Ev.yes (decide_eq_true (by omega)) (Ev.yes (by rw [D.len]; omega) ?_))
    rw [hwi]
    exact e
   have keep : (Eg w f i → dv ds i < 0 ∨ ∃ m : Nat, c = m ∧ dv ds m ≤ dv ds i) → Bst w f ds (i + 1) c := fun h => by
    rcases hb with ⟨e, hb⟩ | ⟨m, e, h1, h2, h3, h4, h5⟩
    ·refine .inl ⟨e, fun j j1 j2 j3 => ?_⟩
     by_cases ej : j = i
     ·subst ej
      rcases h j3 with h | ⟨m, h, _⟩
      ·exact h
      ·omega
     ·exact hb j j1 (by omega) j3
    ·refine .inr ⟨m, e, h1, by omega, h3, h4, fun j j1 j2 j3 j4 => ?_⟩
     by_cases ej : j = i
     ·subst ej
      rcases h j3 with h | ⟨m', h, h'⟩
      ·omega
      ·have : m' = m := by omega
       subst this
       exact ⟨h', fun hlt => by omega⟩
     ·exact h5 j j1 (by omega) j3 j4
   by_cases h0 : 0 ≤ dv ds i
   case neg =>
    obtain ⟨r, r1, r2⟩ := ih (i + 1) c (by omega) (by omega) (keep fun _ => .inl (by omega))
    exact ⟨r, go (Ev.no (fun h => h0 (of_decide_eq_true h)) r1), r2⟩
   obtain ⟨b, b1, b2⟩ := setsOff_ev ok (i := f) (k := i) hfn (by omega)
   by_cases hbt : b = true
   case neg =>
    obtain ⟨r, r1, r2⟩ := ih (i + 1) c (by omega) (by omega) (keep fun h => absurd (b2.2 h) hbt)
    exact ⟨r, go (Ev.yes (decide_eq_true h0) (Ev.bind b1 (Ev.no hbt r1))), r2⟩
   have hE := b2.1 hbt
   rcases hb with ⟨e1, hb⟩ | ⟨m, e1, h1, h2, h3, h4, h5⟩
   ·subst e1
    obtain ⟨r, r1, r2⟩ := ih (i + 1) (i : Int) (by omega) (by omega) (.inr ⟨i, rfl, hfi, by omega, hE, h0, fun j j1 j2 j3 j4 => by
     by_cases ej : j = i
     ·subst ej; exact ⟨Int.le_refl _, fun h => by omega⟩
     ·have := hb j j1 (by omega) j3
      omega⟩)
    exact ⟨r, go (Ev.yes (decide_eq_true h0) (Ev.bind b1 (Ev.yes hbt (Ev.yes (by simp) r1)))), r2⟩
   ·subst e1
    by_cases hlt : dv ds i < dv ds m
    ·obtain ⟨r, r1, r2⟩ := ih (i + 1) (i : Int) (by omega) (by omega) (.inr ⟨i, rfl, hfi, by omega, hE, h0, fun j j1 j2 j3 j4 => by
      by_cases ej : j = i
      ·subst ej; exact ⟨Int.le_refl _, fun h => by omega⟩
      ·have := (h5 j j1 (by omega) j3 j4).1
       exact ⟨by omega, fun _ => by omega⟩⟩)
     refine ⟨r, go (Ev.yes (decide_eq_true h0) (Ev.bind b1 (Ev.yes hbt (Ev.no (by simp) (Ev.yes (by rw [D.len]; omega) (Ev.yes (by rw [D.len]; omega) (Ev.yes (decide_eq_true ?_) r1))))))), r2⟩
     exact hlt
    ·obtain ⟨r, r1, r2⟩ := ih (i + 1) (m : Int) (by omega) (by omega) (keep fun _ => .inr ⟨m, rfl, by omega⟩)
     refine ⟨r, go (Ev.yes (decide_eq_true h0) (Ev.bind b1 (Ev.yes hbt (Ev.no (by simp) (Ev.yes (by rw [D.len]; omega) (Ev.yes (by rw [D.len]; omega) (Ev.no (fun h => hlt ?_) r1))))))), r2⟩
     exact of_decide_eq_true h
 obtain ⟨r, r1, r2⟩ := loop (nR w - f) f (-1) (by omega) (Nat.le_refl _) (.inl ⟨rfl, fun j h1 h2 => by omega⟩)
 exact ⟨r, Ev.eq (fun n => perigeeref8_ringOf.f_eq _ _ _) (Ev.bind a1 r1), r2⟩
end
end Go.Proofs.Ytadhpgecilhgnaa.Pure

-- YtadhpgecilhgnaaQ23
set_option linter.unusedVariables false
set_option linter.unusedSimpArgs false
namespace Go.Proofs.Ytadhpgecilhgnaa.Pure
open Go Go.Proofs.Ytadhpgecilhgnaa.A
noncomputable abbrev nxOf (w : DWatch) : List (List Int) := (List.range (nR w)).map (rowOf w)
section
variable {w : DWatch} {f : Nat}
theorem nx_get {i : Nat} (hi : i < nR w) : (nxOf w).getD i [] = rowOf w i := by
 rw [List.getD_eq_getElem?_getD, List.getElem?_map, List.getElem?_range hi]; rfl
theorem nx_len : (nxOf w).length = nR w := by simp
theorem row_len (rl : nR w ≤ 200) (i : Nat) : (rowOf w i).length ≤ 200 := by
 unfold rowOf
 rw [List.length_map]
 exact Nat.le_trans (List.length_filter_le _ _) (by rw [List.length_range]; exact rl)
def FarEx (w : DWatch) (f : Nat) (far : Fz) (lvl : Nat) : Prop := ∀ i d, lkZ far i = some d ↔ ∃ i' d' : Nat, i = i' ∧ d = d' ∧ 1 ≤ d' ∧ d' < lvl ∧ Mn w f d' i'
theorem rn_rng {d i : Nat} (h : Rn w f (d + 1) i) : f ≤ i ∧ i < nR w := ⟨h.1, h.2.1⟩
theorem cand_of {a d : Nat} (ha : f ≤ a ∧ a < nR w) (h : Mn w f (d + 2) a) : ∃ k, Cand w f a (d + 1) k := by
 obtain ⟨⟨_, _, k, k1, k2, k3, k4⟩, hm⟩ := h
 refine ⟨k, ?_, k2, k3, k4, fun e he hlt hr => hm (e + 1) (by omega) (by omega) ⟨ha.1, ha.2, k, k1, k2, k3, hr⟩⟩
 rcases Nat.lt_or_ge f k with hh | hh
 ·exact hh
 ·have : k = f := by omega
  subst this
  exact absurd ⟨ha.1, ha.2, k, k1, k2, k3, rfl⟩ (hm 1 (by omega) (by omega))
theorem pring_out (ok : RulesOk w) {far : Fz} {lvl : Nat} (hF : FarEx w f far lvl) : ∀ (d a : Nat) (out : List Int), f ≤ a ∧ a < nR w → Mn w f (d + 1) a → d + 1 < lvl → out.length + d ≤ 1000 → out ≠ [] →
 ∃ l : List Int, Gl w f a d l ∧ Ev (fun n => monitor_ring.c4 n (nxOf w) f far out a (d : Int)) (out ++ l, ()) := by
 have rl := ok.rl
 have hnR : nR w = w.2.2.2.length := rfl
 have hnl := nx_len (w := w)
 intro d
 induction d with
 | zero =>
  intro a out ha hm hl ho hne
  refine ⟨[], .nil a, Ev.step (fun n => monitor_ring.c4_eq _ _ _ _ _ _ _) (Ev.no (by simp) (Ev.yes ?_ (by rw [List.append_nil]; exact Ev.now _)))⟩
  cases out with
  | nil => exact absurd rfl hne
  | cons _ _ => rfl
 | succ d ih =>
  intro a out ha hm hl ho hne
  obtain ⟨k, hk⟩ := cand_of ha hm
  obtain ⟨m, hmc, hml⟩ := least_of (p := fun j => Cand w f a (d + 1) j) hk
  have hrl := row_len (w := w) rl a
  have hwd : IntKind.wrap .i64 (((d + 1 : Nat) : Int) - 1) = (d : Int) := by rw [w64 (by omega) (by omega)]; omega
  obtain ⟨l, l1, l2⟩ := ih m (out ++ [(m : Int)]) ⟨by have := hmc.1; omega, hmc.2.1⟩ hmc.2.2.2 (by omega) (by simp; omega) (by simp)
  have isC : ∀ v ∈ rowOf w a, (lkZ far v = some ((d + 1 : Nat) : Int) ∧ (f : Int) < v) ↔ ∃ j : Nat, v = j ∧ Cand w f a (d + 1) j := fun v hv => by
   obtain ⟨j, e, j1, j2⟩ := mem_rowOf.1 hv
   subst e
   constructor
   ·rintro ⟨h1, h2⟩
    obtain ⟨i', d', e1, e2, _, _, h3⟩ := (hF _ _).1 h1
    have e1 : j = i' := by omega
    have e2 : d + 1 = d' := by omega
    subst e1; subst e2
    exact ⟨j, rfl, by omega, j1, j2, h3⟩
   ·rintro ⟨j', e, c1, c2, c3, c4⟩
    have e : j = j' := by omega
    subst e
    exact ⟨(hF _ _).2 ⟨j, d + 1, rfl, rfl, by omega, by omega, c4⟩, by omega⟩
  have hmr : (m : Int) ∈ rowOf w a := mem_rowOf.2 ⟨m, rfl, hmc.2.1, hmc.2.2.1⟩
  have h := Ev.rng (σ := Unit) (0 : Int) (rowOf w a) (by omega) (g := fun n _ j => monitor_ring.c6 n (nxOf w) f far out a ((d + 1 : Nat) : Int) (rowOf w a) ((rowOf w a).length : Int) j) (fun n _ j => monitor_ring.c6_eq _ _ _ _ _ _ _ _ _ _)
   (fun j _ => ∀ v ∈ (rowOf w a).take j, ¬ (lkZ far v = some ((d + 1 : Nat) : Int) ∧ (f : Int) < v)) (fun _ _ _ => (out ++ (m : Int) :: l, ())) (fun _ hs => by
    rw [List.take_length] at hs
    exact absurd ((isC _ hmr).2 ⟨m, rfl, hmc⟩) (hs _ hmr)) (fun j v vs _ hj hv hdv hgd hwj hs next => by
    simp only [Int.toNat_natCast, hgd, hwj]
    rw [has_lkZ (σ := .int .i64), get_lkZ (σ := .int .i64)]
    have hvj : (rowOf w a)[j]? = some v := by
     have := congrArg (fun l => l[0]?) hdv
     simpa using this
    have nxt : ¬ (lkZ far v = some ((d + 1 : Nat) : Int) ∧ (f : Int) < v) → Ev (fun n => monitor_ring.c6 n (nxOf w) f far out a ((d + 1 : Nat) : Int) (rowOf w a) ((rowOf w a).length : Int) ((j : Int) + 1)) (out ++ (m : Int) :: l, ()) := fun h => next () fun u hu => by
     rw [List.take_add_one, hvj] at hu
     rcases List.mem_append.1 hu with hu | hu
     ·exact hs u hu
     ·simp at hu; subst hu; exact h
    cases hx : lkZ far v with
    | none => exact Ev.no (by simp) (nxt fun h => by rw [hx] at h; cases h.1)
    | some e =>
     simp only [Option.getD_some]
     by_cases h3 : e = ((d + 1 : Nat) : Int)
     case neg => exact Ev.yes rfl (Ev.no (fun h => h3 (of_decide_eq_true h)) (nxt fun h => by rw [hx] at h; exact h3 (Option.some.inj h.1)))
     subst h3
     by_cases h4 : (f : Int) < v
     case neg => exact Ev.yes rfl (Ev.yes (decide_eq_true rfl) (Ev.no (fun h => h4 (of_decide_eq_true h)) (nxt fun h => h4 h.2)))
     obtain ⟨j', e1, e2⟩ := (isC v hv).1 ⟨hx, h4⟩
     -- it is the first one
     have hm2 := hml j' e2
     have hvm : v = m := by
      obtain ⟨p, hp, hpe⟩ := List.getElem_of_mem hmr
      rcases Nat.lt_trichotomy p j with h | h | h
      ·have : (m : Int) ∈ (rowOf w a).take j := by
        rw [← hpe]
        exact List.mem_take_iff_getElem.2 ⟨p, by omega, rfl⟩
       exact absurd ((isC _ hmr).2 ⟨m, rfl, hmc⟩) (hs _ this)
      ·subst h
       rw [List.getElem?_eq_getElem hp] at hvj
       rw [← hpe]
       exact (Option.some.inj hvj).symm
      ·have := (List.pairwise_iff_getElem.1 (rowOf_sorted w a)) j p hj hp h
       rw [hpe, (List.getElem?_eq_some_iff.1 hvj).2] at this
       omega
     subst hvm
     refine Ev.yes rfl (Ev.yes (decide_eq_true rfl) (Ev.yes (decide_eq_true h4) (Ev.yes (by omega) ?_)))
     rw [hwd, show out ++ (m : Int) :: l = (out ++ [(m : Int)]) ++ l by simp]
     exact l2) 0 () (by omega) (fun v hv => by simp at hv)
  refine ⟨(m : Int) :: l, .cons hmc hml l1, Ev.step (fun n => monitor_ring.c4_eq _ _ _ _ _ _ _) (Ev.yes (decide_eq_true (by omega)) (Ev.yes (by rw [hnl]; omega) ?_))⟩
  rw [Int.toNat_natCast, nx_get ha.2]
  exact h
end
end Go.Proofs.Ytadhpgecilhgnaa.Pure

-- YtadhpgecilhgnaaQ24
set_option linter.unusedVariables false
set_option linter.unusedSimpArgs false
namespace Go.Proofs.Ytadhpgecilhgnaa.Pure
open Go Go.Proofs.Ytadhpgecilhgnaa.A
section
variable {w : DWatch} {f : Nat}
theorem mn_next {a d : Nat} (h : Mn w f (d + 2) a) : ∃ k, f ≤ k ∧ k < nR w ∧ Eg w a k ∧ Mn w f (d + 1) k := by
 obtain ⟨k, h1, h2, h3, h4⟩ := cand_of (rn_rng h.1) h
 exact ⟨k, by omega, h2, h3, h4⟩
theorem mn_down {d : Nat} : ∀ {e a : Nat}, Mn w f (d + e + 1) a → ∃ k, Mn w f (d + 1) k
 | 0, a, h => ⟨a, h⟩
 | e + 1, a, h => by
  obtain ⟨k, _, _, _, hk⟩ := mn_next (d := d + e) h
  exact mn_down (e := e) hk
theorem mn_of_rn {d i : Nat} (h1 : 1 ≤ d) (h : Rn w f d i) : ∃ e, 1 ≤ e ∧ e ≤ d ∧ Mn w f e i := by
 obtain ⟨m, hm, hl⟩ := least_of (p := fun e => 1 ≤ e ∧ Rn w f e i) ⟨h1, h⟩
 exact ⟨m, hm.1, hl d ⟨h1, h⟩, hm.2, fun e he hlt hr => by have := hl e ⟨he, hr⟩; omega⟩
theorem pring_end (ok : RulesOk w) (hf : f < nR w) {far : Fz} {lvl : Nat} (hF : FarEx w f far lvl) (hl : lvl ≤ 900) (done : ∀ d, lvl ≤ d → ∀ i, ¬ Mn w f d i) {b : Bk} {lv : Int} : ∃ r : List Int × Unit, Ev (fun n => monitor_ring.c2 n (nxOf w) f b far [] lv) r ∧ RingIs w f r.1 := by
 cases hx : lkZ far f with
 | none =>
  refine ⟨([], ()), Ev.step (fun n => monitor_ring.c2_eq _ _ _ _ _ _ _) (Ev.no (by simp) ?_), .inl ⟨rfl, fun d hd hr => ?_⟩⟩
  ·rw [has_lkZ (σ := .int .i64), hx]
   exact Ev.yes (by simp) (Ev.now _)
  ·obtain ⟨e, e1, e2, e3⟩ := mn_of_rn hd hr
   rcases Nat.lt_or_ge e lvl with h | h
   ·have := (hF f e).2 ⟨f, e, rfl, rfl, e1, h, e3⟩
    rw [hx] at this
    cases this
   ·exact done e h f e3
 | some D =>
  obtain ⟨i', d', e1, e2, e3, e4, e5⟩ := (hF _ _).1 hx
  have e1 : f = i' := by omega
  subst e1
  subst e2
  obtain ⟨d, rfl⟩ : ∃ e, d' = e + 1 := ⟨d' - 1, by omega⟩
  obtain ⟨l, l1, l2⟩ := pring_out ok hF d f [(f : Int)] ⟨Nat.le_refl _, hf⟩ e5 e4 (by simp; omega) (by simp)
  refine ⟨([(f : Int)] ++ l, ()), Ev.step (fun n => monitor_ring.c2_eq _ _ _ _ _ _ _) (Ev.no (by simp) ?_), .inr ⟨d, l, e5, rfl, l1⟩⟩
  rw [has_lkZ (σ := .int .i64), get_lkZ (σ := .int .i64), hx]
  refine Ev.no (by simp) ?_
  rw [show IntKind.wrap .i64 ((some ((d + 1 : Nat) : Int)).getD 0 - 1) = (d : Int) from by
   simp only [Option.getD_some]
   rw [w64 (by omega) (by omega)]; omega]
  exact l2
end
end Go.Proofs.Ytadhpgecilhgnaa.Pure

-- YtadhpgecilhgnaaQ25
set_option linter.unusedVariables false
set_option linter.unusedSimpArgs false
namespace Go.Proofs.Ytadhpgecilhgnaa.Pure
open Go Go.Proofs.Ytadhpgecilhgnaa.A
section
variable {w : DWatch} {f : Nat}
def BkEx (w : DWatch) (f : Nat) (b : Bk) : Prop := ∀ k v, v ∈ (lkZ b k).getD [] ↔ ∃ i' k' : Nat, v = i' ∧ k = k' ∧ f ≤ i' ∧ i' < nR w ∧ f ≤ k' ∧ k' < nR w ∧ Eg w i' k'
def NowEx (w : DWatch) (f lvl : Nat) (now : List Int) : Prop := ∀ k, k ∈ now ↔ ∃ k' : Nat, k = k' ∧ ((lvl = 1 ∧ k' = f) ∨ (2 ≤ lvl ∧ Mn w f (lvl - 1) k'))
structure PL (w : DWatch) (f lvl : Nat) (far far' : Fz) (more : List Int) (M : Nat) : Prop where
 o : ∀ i d, lkZ far' i = some d ↔ (lkZ far i = some d ∨ (d = (lvl : Int) ∧ i ∈ more))
 m : ∀ i ∈ more, lkZ far i = none ∧ ∃ i' : Nat, i = i' ∧ Mn w f lvl i'
 me : mz (nxOf w) far' + more.length ≤ M
theorem pl_add {lvl : Nat} {far far' : Fz} {more : List Int} {M : Nat} (h : PL w f lvl far far' more M) {i : Nat} (hn : lkZ far' i = none) (hi : i < nR w) (hm : Mn w f lvl i) : PL w f lvl far (mapPut (.int .i64) (.int .i64) (i : Int) (lvl : Int) far') (more ++ [(i : Int)]) M := by
 refine ⟨fun j d => ?_, fun j hj => ?_, ?_⟩
 ·rw [lkZ_put (σ := .int .i64)]
  by_cases e : (i : Int) = j
  ·subst e
   rw [if_pos rfl]
   constructor
   ·intro h1
    exact .inr ⟨(Option.some.inj h1).symm, List.mem_append_right _ (by simp)⟩
   ·rintro (h1 | ⟨h1, _⟩)
    ·have := (h.o _ _).2 (.inl h1)
     rw [hn] at this
     cases this
    ·rw [h1]
  ·rw [if_neg e, h.o]
   constructor
   ·rintro (h1 | ⟨h1, h2⟩)
    ·exact .inl h1
    ·exact .inr ⟨h1, List.mem_append_left _ h2⟩
   ·rintro (h1 | ⟨h1, h2⟩)
    ·exact .inl h1
    ·rcases List.mem_append.1 h2 with h2 | h2
     ·exact .inr ⟨h1, h2⟩
     ·simp at h2
      exact absurd h2.symm e
 ·rcases List.mem_append.1 hj with hj | hj
  ·exact h.m j hj
  ·simp at hj
   subst hj
   refine ⟨?_, i, rfl, hm⟩
   cases hx : lkZ far (i : Int) with
   | none => rfl
   | some d =>
    have := (h.o _ _).2 (.inl hx)
    rw [hn] at this
    cases this
 ·have := mz_put (nx := nxOf w) (far := far') (i := (i : Int)) (by omega) (by rw [nx_len]; omega) hn (lvl : Int)
  have := h.me
  simp only [List.length_append, List.length_cons, List.length_nil]
  omega
theorem pl_found {lvl : Nat} {far far' : Fz} {more : List Int} {M : Nat} (hF : FarEx w f far lvl) (h1 : 1 ≤ lvl) (h : PL w f lvl far far' more M) {k i : Nat} (hk : (lvl = 1 ∧ k = f) ∨ (2 ≤ lvl ∧ Mn w f (lvl - 1) k)) (hi : f ≤ i ∧ i < nR w) (hk2 : f ≤ k ∧ k < nR w) (hE : Eg w i k) (hn : lkZ far' i = none) : Mn w f lvl i := by
 have hr : Rn w f lvl i := by
  rcases hk with ⟨e, hk⟩ | ⟨e, hk⟩
  ·subst e; subst hk
   exact ⟨hi.1, hi.2, k, hk2.1, hk2.2, hE, rfl⟩
  ·obtain ⟨l, rfl⟩ : ∃ l, lvl = l + 1 := ⟨lvl - 1, by omega⟩
   exact ⟨hi.1, hi.2, k, hk2.1, hk2.2, hE, hk.1⟩
 obtain ⟨e, e1, e2, e3⟩ := mn_of_rn h1 hr
 rcases Nat.lt_or_ge e lvl with h2 | h2
 ·have := (h.o i e).2 (.inl ((hF i e).2 ⟨i, e, rfl, rfl, e1, h2, e3⟩))
  rw [hn] at this
  cases this
 ·have : e = lvl := by omega
  subst this
  exact e3
theorem pl_end {lvl : Nat} {far far' : Fz} {more now : List Int} {M : Nat} {b : Bk} (hb : BkEx w f b) (hf : f < nR w) (hF : FarEx w f far lvl) (h1 : 1 ≤ lvl) (hN : NowEx w f lvl now) (h : PL w f lvl far far' more M) (hall : ∀ k ∈ now, ∀ v ∈ (lkZ b k).getD [], (lkZ far' v).isSome = true) : FarEx w f far' (lvl + 1) ∧ NowEx w f (lvl + 1) more := by
 have comp : ∀ i : Nat, Mn w f lvl i → (i : Int) ∈ more := fun i hi => by
  obtain ⟨l, rfl⟩ : ∃ l, lvl = l + 1 := ⟨lvl - 1, by omega⟩
  obtain ⟨i1, i2⟩ := rn_rng hi.1
  obtain ⟨k, hk1, hk2, hk3, hkn⟩ : ∃ k : Nat, f ≤ k ∧ k < nR w ∧ Eg w i k ∧ (k : Int) ∈ now := by
   by_cases hl : l = 0
   ·subst hl
    obtain ⟨_, _, k, k1, k2, k3, k4⟩ := hi.1
    exact ⟨k, k1, k2, k3, (hN k).2 ⟨k, rfl, .inl ⟨rfl, k4⟩⟩⟩
   ·obtain ⟨l, rfl⟩ : ∃ m, l = m + 1 := ⟨l - 1, by omega⟩
    obtain ⟨k, k1, k2, k3, k4⟩ := mn_next hi
    exact ⟨k, k1, k2, k3, (hN k).2 ⟨k, rfl, .inr ⟨by omega, k4⟩⟩⟩
  have hs := hall k hkn i ((hb k i).2 ⟨i, k, rfl, rfl, i1, i2, hk1, hk2, hk3⟩)
  cases hx : lkZ far' (i : Int) with
  | none => rw [hx] at hs; cases hs
  | some d =>
   rcases (h.o _ _).1 hx with h2 | ⟨_, h2⟩
   ·obtain ⟨i', d', e1, e2, e3, e4, e5⟩ := (hF _ _).1 h2
    have e1 : i = i' := by omega
    subst e1
    exact absurd e5.1 (hi.2 d' e3 e4)
   ·exact h2
 refine ⟨fun i d => ?_, fun k => ?_⟩
 ·rw [h.o, hF]
  constructor
  ·rintro (⟨i', d', e1, e2, e3, e4, e5⟩ | ⟨e1, e2⟩)
   ·exact ⟨i', d', e1, e2, e3, by omega, e5⟩
   ·obtain ⟨_, i', e3, e4⟩ := h.m i e2
    exact ⟨i', lvl, e3, e1, h1, by omega, e4⟩
  ·rintro ⟨i', d', e1, e2, e3, e4, e5⟩
   rcases Nat.lt_or_ge d' lvl with hlt | hge
   ·exact .inl ⟨i', d', e1, e2, e3, hlt, e5⟩
   ·have : d' = lvl := by omega
    subst this
    exact .inr ⟨e2, by rw [e1]; exact comp i' e5⟩
 ·constructor
  ·intro hk
   obtain ⟨_, i', e3, e4⟩ := h.m k hk
   exact ⟨i', e3, .inr ⟨by omega, by simpa using e4⟩⟩
  ·rintro ⟨k', e, ⟨h2, _⟩ | ⟨_, h2⟩⟩
   ·omega
   ·rw [e]
    exact comp k' (by simpa using h2)
end
end Go.Proofs.Ytadhpgecilhgnaa.Pure

-- YtadhpgecilhgnaaQ26
set_option linter.unusedVariables false
set_option linter.unusedSimpArgs false
namespace Go.Proofs.Ytadhpgecilhgnaa.Pure
open Go Go.Proofs.Ytadhpgecilhgnaa.A
section
variable {w : DWatch} {f : Nat}
theorem done_of {lvl : Nat} (h1 : 1 ≤ lvl) (hN : NowEx w f lvl []) : ∀ d, lvl ≤ d → ∀ i, ¬ Mn w f d i := fun d hd i hm => by
 obtain ⟨l, rfl⟩ : ∃ l, lvl = l + 1 := ⟨lvl - 1, by omega⟩
 by_cases hl : l = 0
 ·subst hl
  have := (hN f).2 ⟨f, rfl, .inl ⟨rfl, rfl⟩⟩
  cases this
 ·obtain ⟨l, rfl⟩ : ∃ m, l = m + 1 := ⟨l - 1, by omega⟩
  obtain ⟨e, rfl⟩ : ∃ e, d = l + e + 1 := ⟨d - l - 1, by omega⟩
  obtain ⟨k, hk⟩ := mn_down hm
  have := (hN k).2 ⟨k, rfl, .inr ⟨by omega, by simpa using hk⟩⟩
  cases this
theorem pring_levels (ok : RulesOk w) (hf : f < nR w) {b : Bk} (hb : BkEx w f b) (hbl : ∀ k, ((lkZ b k).getD []).length ≤ 1000000) : ∀ (d : Nat) (far : Fz) (now : List Int) (lvl : Nat), FarEx w f far lvl → NowEx w f lvl now → 1 ≤ lvl → (now ≠ [] → lvl + mz (nxOf w) far ≤ 300) → lvl ≤ 900 → now.length ≤ 300 →
 (now = [] ∨ mz (nxOf w) far + 1 ≤ d) → ∃ r : List Int × Unit, Ev (fun n => monitor_ring.c2 n (nxOf w) f b far now (lvl : Int)) r ∧ RingIs w f r.1 := by
 intro d
 induction d with
 | zero =>
  intro far now lvl hF hN h1 _ h9 _ hd
  have : now = [] := by rcases hd with h | h; exact h; omega
  subst this
  exact pring_end ok hf hF h9 (done_of h1 hN)
 | succ d ih =>
  intro far now lvl hF hN h1 h2 h9 h3 hd
  by_cases h0 : now = []
  ·subst h0
   exact pring_end ok hf hF h9 (done_of h1 hN)
  have h2 := h2 h0
  have hpos := List.length_pos_iff.2 h0
  have nowk : ∀ k ∈ now, ∃ k' : Nat, k = k' ∧ (f ≤ k' ∧ k' < nR w) ∧ ((lvl = 1 ∧ k' = f) ∨ (2 ≤ lvl ∧ Mn w f (lvl - 1) k')) := fun k hk => by
   obtain ⟨k', e, h⟩ := (hN k).1 hk
   refine ⟨k', e, ?_, h⟩
   rcases h with ⟨_, h⟩ | ⟨hl, h⟩
   ·subst h; exact ⟨Nat.le_refl _, hf⟩
   ·obtain ⟨l, rfl⟩ : ∃ l, lvl = l + 2 := ⟨lvl - 2, by omega⟩
    exact rn_rng (d := l) (by simpa using h.1)
  have := Ev.rngR (σ := Fz × List Int) (0 : Int) now (by omega) (g := fun k s i => monitor_ring.c3 k (nxOf w) f b s.1 (lvl : Int) s.2 now (now.length : Int) i) (fun k s i => monitor_ring.c3_eq _ _ _ _ _ _ _ _ _ _)
   (fun i s => PL w f lvl far s.1 s.2 (mz (nxOf w) far) ∧ ∀ k ∈ now.take i, ∀ v ∈ (lkZ b k).getD [], (lkZ s.1 v).isSome = true) (fun r => RingIs w f r.1) (fun s hs => ?_) (fun i k s hi hk hget hgd hw hs next => ?_) 0 (far, []) (by omega) ⟨⟨fun i d => ⟨fun h => .inl h, fun h => h.elim id (fun h => by cases h.2)⟩, fun i hi => (by cases hi), by simp⟩, fun k hk => by simp at hk⟩
  ·obtain ⟨r, r1, r2⟩ := this
   exact ⟨r, Ev.step (fun k => monitor_ring.c2_eq _ _ _ _ _ _ _) (Ev.yes (decide_eq_true (by omega)) r1), r2⟩
  ·obtain ⟨s1, s2⟩ := s
   obtain ⟨p, all⟩ := hs
   rw [List.take_length] at all
   simp only at p all
   obtain ⟨e1, e2⟩ := pl_end hb hf hF h1 hN p all
   have me := p.me
   have hwl : IntKind.wrap .i64 ((lvl : Int) + 1) = ((lvl + 1 : Nat) : Int) := by rw [w64 (by omega) (by omega)]; omega
   obtain ⟨r, r1, r2⟩ := ih s1 s2 (lvl + 1) e1 e2 (by omega) (fun hne => by have := List.length_pos_iff.2 hne; omega) (by omega) (by omega) (by
    by_cases e : s2 = []
    ·exact .inl e
    ·have := List.length_pos_iff.2 e
     have : mz (nxOf w) far + 1 ≤ d + 1 := hd.resolve_left h0
     exact .inr (by omega))
   refine ⟨r, ?_, r2⟩
   rw [hwl]
   exact r1
  ·obtain ⟨s1, s2⟩ := s
   obtain ⟨p, all⟩ := hs
   simp only at p all
   simp only [Int.toNat_natCast, hgd, hw]
   rw [get_lkZ (σ := .sl (.int .i64))]
   have ht : now.take (i + 1) = now.take i ++ [k] := by rw [List.take_add_one, hget]; rfl
   obtain ⟨k', ek, hkr, hkl⟩ := nowk k hk
   exact Ev.rngR (σ := Fz × List Int) (0 : Int) ((lkZ b k).getD []) (by have := hbl k; omega) (g := fun n s j => monitor_ring.c5 n (nxOf w) f b s.1 (lvl : Int) s.2 now (now.length : Int) (i : Int) ((lkZ b k).getD []) (((lkZ b k).getD []).length : Int) j) (fun n s j => monitor_ring.c5_eq _ _ _ _ _ _ _ _ _ _ _ _ _)
    (fun j s => PL w f lvl far s.1 s.2 (mz (nxOf w) far) ∧ (∀ k ∈ now.take i, ∀ v ∈ (lkZ b k).getD [], (lkZ s.1 v).isSome = true) ∧ ∀ v ∈ ((lkZ b k).getD []).take j, (lkZ s.1 v).isSome = true) (fun r => RingIs w f r.1) (fun s hs => by
     rw [hw]
     refine next s ⟨hs.1, fun q hq => ?_⟩
     rw [ht] at hq
     rcases List.mem_append.1 hq with hq | hq
     ·exact hs.2.1 q hq
     ·simp at hq
      subst hq
      have := hs.2.2
      rw [List.take_length] at this
      exact this) (fun j v s hj hv hgetv hgdv hwj hs nextj => by
     simp only [Int.toNat_natCast, hgdv, hwj]
     rw [has_lkZ (σ := .int .i64)]
     have htv : ((lkZ b k).getD []).take (j + 1) = ((lkZ b k).getD []).take j ++ [v] := by rw [List.take_add_one, hgetv]; rfl
     obtain ⟨q1, q2, q3⟩ := hs
     cases hx : lkZ s.1 v with
     | some e =>
      obtain ⟨r, r1, r2⟩ := nextj s ⟨q1, q2, fun u hu => by
       rw [htv] at hu
       rcases List.mem_append.1 hu with hu | hu
       ·exact q3 u hu
       ·simp at hu; subst hu; rw [hx]; rfl⟩
      exact ⟨r, Ev.no (by simp) r1, r2⟩
     | none =>
      obtain ⟨i', k2, e1, e2, b1, b2, b3, b4, b5⟩ := (hb k v).1 hv
      have e3 : k' = k2 := by omega
      subst e3
      subst e1
      have fm := pl_found hF h1 q1 hkl ⟨b1, b2⟩ ⟨b3, b4⟩ b5 hx
      have mono : ∀ {u}, (lkZ s.1 u).isSome = true → (lkZ (mapPut (.int .i64) (.int .i64) (i' : Int) (lvl : Int) s.1) u).isSome = true := fun {u} hu => by
       rw [lkZ_put (σ := .int .i64)]
       split
       ·rfl
       ·exact hu
      obtain ⟨r, r1, r2⟩ := nextj (mapPut (.int .i64) (.int .i64) (i' : Int) (lvl : Int) s.1, s.2 ++ [(i' : Int)]) ⟨pl_add q1 hx b2 fm, fun q hq u hu => mono (q2 q hq u hu), fun u hu => by
       rw [htv] at hu
       rcases List.mem_append.1 hu with hu | hu
       ·exact mono (q3 u hu)
       ·simp at hu; subst hu
        show (lkZ (mapPut (.int .i64) (.int .i64) (i' : Int) (lvl : Int) s.1) (i' : Int)).isSome = true
        rw [lkZ_put (σ := .int .i64), if_pos rfl]; rfl⟩
      have := q1.me
      exact ⟨r, Ev.yes (by simp) (Ev.yes (by omega) r1), r2⟩) 0 (s1, s2) (by omega) ⟨p, all, fun v hv => by simp at hv⟩
end
end Go.Proofs.Ytadhpgecilhgnaa.Pure

-- YtadhpgecilhgnaaQ27
set_option linter.unusedVariables false
set_option linter.unusedSimpArgs false
namespace Go.Proofs.Ytadhpgecilhgnaa.Pure
open Go Go.Proofs.Ytadhpgecilhgnaa.A
section
variable {w : DWatch} {f : Nat}
def BkUp (w : DWatch) (f i : Nat) (l : List Int) (b : Bk) : Prop := ∀ k v, v ∈ (lkZ b k).getD [] ↔ ∃ i' k' : Nat, v = i' ∧ k = k' ∧ f ≤ i' ∧ i' < nR w ∧ f ≤ k' ∧ k' < nR w ∧ Eg w i' k' ∧ (i' < i ∨ (i' = i ∧ k ∈ l))
theorem ring_is (ok : RulesOk w) (hf : f < nR w) : ∃ r : List Int × Unit, Ev (fun n => monitor_ring.f n (nxOf w) f) r ∧ RingIs w f r.1 := by
 have rl := ok.rl
 have hnR : nR w = w.2.2.2.length := rfl
 have hnl := nx_len (w := w)
 have := Ev.rngR (σ := Bk) ([] : List Int) (nxOf w) (by omega) (g := fun n s i => monitor_ring.c0 n (nxOf w) f s i) (fun n s i => monitor_ring.c0_eq _ _ _ _ _)
  (fun i s => f ≤ i ∧ BkUp w f i [] s ∧ ∀ k, ((lkZ s k).getD []).length ≤ i * 1000) (fun r => RingIs w f r.1) (fun s hs => ?_) (fun i row s hi hc hget hgd hw hs next => ?_) f [] (by omega) ⟨Nat.le_refl _, fun k v => ⟨fun h => (by simp [lkZ] at h), fun ⟨i', k', e1, e2, h1, h2, h3, h4, h5, h6⟩ => by
   rcases h6 with h6 | ⟨_, h6⟩
   ·omega
   ·cases h6⟩, fun k => by simp [lkZ]⟩
 ·obtain ⟨r, r1, r2⟩ := this
  exact ⟨r, Ev.eq (fun n => monitor_ring.f_eq _ _ _) r1, r2⟩
 ·have hb : BkEx w f s := fun k v => by
   rw [hs.2.1 k v]
   constructor
   ·rintro ⟨i', k', e1, e2, h1, h2, h3, h4, h5, _⟩
    exact ⟨i', k', e1, e2, h1, h2, h3, h4, h5⟩
   ·rintro ⟨i', k', e1, e2, h1, h2, h3, h4, h5⟩
    exact ⟨i', k', e1, e2, h1, h2, h3, h4, h5, .inl (by omega)⟩
  have hm : mz (nxOf w) [] ≤ 200 := Nat.le_trans (List.length_filter_le _ _) (by rw [List.length_range]; omega)
  exact pring_levels ok hf hb (fun k => Nat.le_trans (hs.2.2 k) (by omega)) (mz (nxOf w) [] + 1) [] [(f : Int)] 1 (fun i d => ⟨fun h => (by cases h), fun ⟨i', d', _, _, h1, h2, _⟩ => by omega⟩) (fun k => ⟨fun h => by simp at h; exact ⟨f, h, .inl ⟨rfl, rfl⟩⟩, fun ⟨k', e, h⟩ => by
   rcases h with ⟨_, h⟩ | ⟨h, _⟩
   ·rw [e, h]; simp
   ·omega⟩) (by omega) (fun _ => by omega) (by omega) (by simp) (.inr (Nat.le_refl _))
 ·have hin : i < nR w := by omega
  rw [nx_get hin] at hgd
  subst hgd
  simp only [Int.toNat_natCast]
  rw [nx_get hin]
  have hrl := row_len (w := w) rl i
  exact Ev.rngR (σ := Bk) (0 : Int) (rowOf w i) (by omega) (g := fun n s j => monitor_ring.c1 n (nxOf w) f s (i : Int) (rowOf w i) ((rowOf w i).length : Int) j) (fun n s j => monitor_ring.c1_eq _ _ _ _ _ _ _ _)
   (fun j s => BkUp w f i ((rowOf w i).take j) s ∧ ∀ k, ((lkZ s k).getD []).length ≤ i * 1000 + j) (fun r => RingIs w f r.1) (fun s' hs' => by
    rw [hw]
    refine next s' ⟨by have := hs.1; omega, fun k v => ?_, fun k => by have := hs'.2 k; omega⟩
    rw [hs'.1 k v, List.take_length]
    constructor
    ·rintro ⟨i', k', e1, e2, h1, h2, h3, h4, h5, h6⟩
     exact ⟨i', k', e1, e2, h1, h2, h3, h4, h5, .inl (by rcases h6 with h6 | ⟨h6, _⟩ <;> omega)⟩
    ·rintro ⟨i', k', e1, e2, h1, h2, h3, h4, h5, h6⟩
     refine ⟨i', k', e1, e2, h1, h2, h3, h4, h5, ?_⟩
     rcases h6 with h6 | ⟨_, h6⟩
     ·rcases Nat.lt_or_ge i' i with h | h
      ·exact .inl h
      ·have : i' = i := by omega
       subst this
       exact .inr ⟨rfl, mem_rowOf.2 ⟨k', e2, h4, h5⟩⟩
     ·cases h6) (fun j v s' hj hv hgetv hgdv hwj hs' nextj => by
    simp only [Int.toNat_natCast, hgdv, hwj]
    obtain ⟨p1, p2⟩ := hs'
    have hfi := hs.1
    obtain ⟨k0, e0, hk0, hE⟩ := mem_rowOf.1 hv
    subst e0
    have htv : (rowOf w i).take (j + 1) = (rowOf w i).take j ++ [(k0 : Int)] := by rw [List.take_add_one, hgetv]; rfl
    by_cases h1 : (f : Int) ≤ (k0 : Int)
    ·rw [get_lkZ (σ := .vec (.int .i64))]
     obtain ⟨r, r1, r2⟩ := nextj (mapPut (.int .i64) (.vec (.int .i64)) (k0 : Int) ((lkZ s' (k0 : Int)).getD [] ++ [(i : Int)]) s') ⟨fun k u => by
      rw [lkZ_put (σ := .vec (.int .i64)), htv]
      by_cases e : (k0 : Int) = k
      ·subst e
       rw [if_pos rfl]
       simp only [Option.getD_some, List.mem_append, List.mem_singleton]
       rw [p1]
       constructor
       ·rintro (⟨i', k', e1, e2, h1, h2, h3, h4, h5, h6⟩ | e)
        ·exact ⟨i', k', e1, e2, h1, h2, h3, h4, h5, h6.imp_right fun ⟨a, c⟩ => ⟨a, .inl c⟩⟩
        ·exact ⟨i, k0, e, rfl, hfi, hin, by omega, hk0, hE, .inr ⟨rfl, .inr trivial⟩⟩
       ·rintro ⟨i', k', e1, e2, h1, h2, h3, h4, h5, h6⟩
        rcases h6 with h6 | ⟨h6, h7 | h7⟩
        ·exact .inl ⟨i', k', e1, e2, h1, h2, h3, h4, h5, .inl h6⟩
        ·exact .inl ⟨i', k', e1, e2, h1, h2, h3, h4, h5, .inr ⟨h6, h7⟩⟩
        ·exact .inr (by rw [e1, h6])
      ·rw [if_neg e, p1]
       constructor
       ·rintro ⟨i', k', e1, e2, h1, h2, h3, h4, h5, h6⟩
        exact ⟨i', k', e1, e2, h1, h2, h3, h4, h5, h6.imp_right fun ⟨a, c⟩ => ⟨a, List.mem_append_left _ c⟩⟩
       ·rintro ⟨i', k', e1, e2, h1, h2, h3, h4, h5, h6⟩
        refine ⟨i', k', e1, e2, h1, h2, h3, h4, h5, h6.imp_right fun ⟨a, c⟩ => ⟨a, ?_⟩⟩
        rcases List.mem_append.1 c with c | c
        ·exact c
        ·simp at c
         exact absurd c.symm e, fun k => by
      rw [lkZ_put (σ := .vec (.int .i64))]
      split
      ·have := p2 (k0 : Int)
       simp only [Option.getD_some, List.length_append, List.length_cons, List.length_nil]
       omega
      ·have := p2 k; omega⟩
     have := p2 (k0 : Int)
     exact ⟨r, Ev.yes (decide_eq_true h1) (Ev.yes (by omega) (Ev.yes (eqZ.2 rfl) r1)), r2⟩
    ·obtain ⟨r, r1, r2⟩ := nextj s' ⟨fun k u => by
      rw [p1, htv]
      constructor
      ·rintro ⟨i', k', e1, e2, h1, h2, h3, h4, h5, h6⟩
       exact ⟨i', k', e1, e2, h1, h2, h3, h4, h5, h6.imp_right fun ⟨a, c⟩ => ⟨a, List.mem_append_left _ c⟩⟩
      ·rintro ⟨i', k', e1, e2, h1', h2, h3, h4, h5, h6⟩
       refine ⟨i', k', e1, e2, h1', h2, h3, h4, h5, h6.imp_right fun ⟨a, c⟩ => ⟨a, ?_⟩⟩
       rcases List.mem_append.1 c with c | c
       ·exact c
       ·simp at c
        omega, fun k => by have := p2 k; omega⟩
     exact ⟨r, Ev.no (fun h => h1 (of_decide_eq_true h)) r1, r2⟩) 0 s (by omega) ⟨by rw [List.take_zero]; exact hs.2.1, fun k => Nat.le_trans (hs.2.2 k) (Nat.le_add_right _ _)⟩
theorem rings_agree (ok : RulesOk w) (hf : f < nR w) : ∃ r : List Int × Unit, Ev (fun n => monitor_ring.f n (nxOf w) f) r ∧ Ev (fun n => perigeeref8_ringOf.f n w f) r ∧ RingIs w f r.1 := by
 obtain ⟨⟨r, u⟩, r1, r2⟩ := ring_is ok hf
 obtain ⟨⟨s, v⟩, s1, s2⟩ := ringOf_ev ok hf
 have e : s = r := s2.uniq r2
 subst e
 exact ⟨(s, ()), r1, s1, r2⟩
end
end Go.Proofs.Ytadhpgecilhgnaa.Pure

-- YtadhpgecilhgnaaQ6
set_option linter.unusedVariables false
set_option linter.unusedSimpArgs false
namespace Go.Proofs.Ytadhpgecilhgnaa.Pure
open Go Go.Proofs.Ytadhpgecilhgnaa.A

abbrev Fr := List (S × Int)
end Go.Proofs.Ytadhpgecilhgnaa.Pure

-- YtadhpgecilhgnaaQ7
set_option linter.unusedVariables false
set_option linter.unusedSimpArgs false
namespace Go.Proofs.Ytadhpgecilhgnaa.Pure
open Go Go.Proofs.Ytadhpgecilhgnaa.A

def gdP (c : Nat) (i : Nat) : Prop := (97 ≤ c ∧ c ≤ 122) ∨ (i ≠ 0 ∧ (c = 45 ∨ c = 95 ∨ (48 ≤ c ∧ c ≤ 57)))
instance (c i : Nat) : Decidable (gdP c i) := by unfold gdP; infer_instance
def ag : List UInt8 → Nat → Bool
 | [], _ => true
 | x :: xs, i => decide (gdP x.toNat i) && ag xs (i + 1)
theorem mname_loop (s : List UInt8) (hs : s.length ≤ 140737488351232) : Ev (fun k => monitor_IsName.c1 k s (s.length : Int) 0) (ag s 0, ()) := by
 have h := Ev.rng (σ := Unit) (0 : UInt8) s (by omega) (g := fun k _ i => monitor_IsName.c1 k s (s.length : Int) i) (fun k _ i => monitor_IsName.c1_eq _ _ _ _)
  (fun _ _ => True) (fun xs i _ => (ag xs i, ())) (fun _ _ => Ev.is rfl) (fun i x xs _ hi hx hd hget hw _ next => by
   simp only [Int.toNat_natCast, hget, hw, decide_eq_true_eq, Bool.not_eq_true', decide_eq_false_iff_not]
   have F : ¬ gdP x.toNat i → Ev (fun _ : Nat => some (false, ())) (ag (x :: xs) i, ()) := fun h => Ev.is (by rw [ag, decide_eq_false h]; rfl)
   have T : gdP x.toNat i → Ev (fun k => monitor_IsName.c1 k s (s.length : Int) ((i : Int) + 1)) (ag (x :: xs) i, ()) := fun h => by
    rw [ag, decide_eq_true h]; exact next () trivial
   unfold gdP at F T
   refine Ev.split (fun h1 => Ev.split (fun h2 => F (by omega)) (fun h2 => Ev.split (fun h3 => Ev.split (fun h4 => Ev.split (fun h5 => F (by omega)) (fun h5 => Ev.split (fun h6 => F (by omega)) (fun h6 => T (by omega)))) (fun h4 => T (by omega))) (fun h3 => T (by omega)))) (fun h1 => Ev.split (fun h2 => Ev.split (fun h3 => F (by omega)) (fun h3 => Ev.split (fun h4 => Ev.split (fun h5 => Ev.split (fun h6 => F (by omega)) (fun h6 => Ev.split (fun h7 => F (by omega)) (fun h7 => T (by omega)))) (fun h5 => T (by omega))) (fun h4 => T (by omega)))) (fun h2 => T (by omega)))) 0 () (by omega) trivial
 exact h
theorem rname_loop (s : List UInt8) (hs : s.length ≤ 140737488351232) : Ev (fun k => perigeeref8_IsName.c0 k s 0) (ag s 0 && decide (1 ≤ (s.length : Int) ∧ (s.length : Int) ≤ 40), ()) := by
 have wi : ∀ (k : Nat) (n a b : Int), perigeeref8_within.f k n a b = some (decide (a ≤ n ∧ n ≤ b), ()) := fun k n a b => by
  rw [perigeeref8_within.f_eq]
  by_cases h1 : a ≤ n <;> simp [h1]
 have h := Ev.rng (σ := Unit) (0 : UInt8) s (by omega) (g := fun k _ i => perigeeref8_IsName.c0 k s i) (fun k _ i => perigeeref8_IsName.c0_eq _ _ _)
  (fun _ _ => True) (fun xs i _ => (ag xs i && decide (1 ≤ (s.length : Int) ∧ (s.length : Int) ≤ 40), ())) (fun _ _ => by simp only [wi, Option.bind_some]; exact Ev.is rfl) (fun i x xs _ hi hx hd hget hw _ next => by
   simp only [Int.toNat_natCast, hget, hw, decide_eq_true_eq, Bool.not_eq_true', decide_eq_false_iff_not]
   have F : ¬ gdP x.toNat i → Ev (fun _ : Nat => some (false, ())) (ag (x :: xs) i && decide (1 ≤ (s.length : Int) ∧ (s.length : Int) ≤ 40), ()) := fun h => Ev.is (by rw [ag, decide_eq_false h]; rfl)
   have T : gdP x.toNat i → Ev (fun k => perigeeref8_IsName.c0 k s ((i : Int) + 1)) (ag (x :: xs) i && decide (1 ≤ (s.length : Int) ∧ (s.length : Int) ≤ 40), ()) := fun h => by
    rw [ag, decide_eq_true h]; exact next () trivial
   unfold gdP at F T
   refine Ev.split (fun h1 => Ev.split (fun h2 => Ev.split (fun h3 => F (by omega)) (fun h3 => Ev.split (fun h4 => Ev.split (fun h5 => Ev.split (fun h6 => Ev.split (fun h7 => F (by omega)) (fun h7 => T (by omega))) (fun h6 => F (by omega))) (fun h5 => T (by omega))) (fun h4 => T (by omega)))) (fun h2 => T (by omega))) (fun h1 => Ev.split (fun h2 => F (by omega)) (fun h2 => Ev.split (fun h3 => Ev.split (fun h4 => Ev.split (fun h5 => Ev.split (fun h6 => F (by omega)) (fun h6 => T (by omega))) (fun h5 => F (by omega))) (fun h4 => T (by omega))) (fun h3 => T (by omega))))) 0 () (by omega) trivial
 exact h
theorem rname_ev (s : List UInt8) (hs : s.length ≤ 140737488351232) : Ev (fun k => perigeeref8_IsName.f k s) (isNm s, ()) := by
 have r := rname_loop s hs
 have m := mname_loop s hs
 obtain ⟨nv, _⟩ := name_ev s hs
 have key : Ev (fun k => monitor_IsName.f k s) (ag s 0 && decide (1 ≤ (s.length : Int) ∧ (s.length : Int) ≤ 40), ()) := by
  refine Ev.eq (fun k => monitor_IsName.f_eq _ _) ?_
  simp only [decide_eq_true_eq]
  refine Ev.split (fun h => ?_) (fun h => Ev.split (fun h2 => ?_) (fun h2 => Ev.step (fun k => monitor_IsName.c0_eq _ _) ?_))
  ·subst h
   exact Ev.is (by simp)
  ·exact Ev.is (by rw [show decide (1 ≤ (s.length : Int) ∧ (s.length : Int) ≤ 40) = false from decide_eq_false (by omega), Bool.and_false])
  ·have : 0 < s.length := List.length_pos_iff.2 h
   rw [show decide (1 ≤ (s.length : Int) ∧ (s.length : Int) ≤ 40) = true from decide_eq_true (by omega), Bool.and_true]
   exact m
 have e := nv.unique key
 simp only [Prod.mk.injEq, and_true] at e
 rw [e]
 exact Ev.eq (fun k => perigeeref8_IsName.f_eq _ _) r
theorem rhas_ev (l : List S) (v : S) (hl : l.length ≤ 4611686018427387904) : Ev (fun k => perigeeref8_has.f k l v) (decide (v ∈ l), ()) := by
 have h := Ev.rng (σ := Unit) ([] : S) l hl (g := fun k _ i => perigeeref8_has.c0 k l v i) (fun k _ i => perigeeref8_has.c0_eq _ _ _ _)
  (fun _ _ => True) (fun xs i _ => (decide (v ∈ xs), ())) (fun _ _ => Ev.is (by simp)) (fun i x xs _ hi hx hd hget hw _ next => by
   simp only [Int.toNat_natCast, hget, hw, decide_eq_true_eq]
   refine Ev.split (fun h => Ev.is (by simp [h])) (fun h => ?_)
   rw [show decide (v ∈ x :: xs) = decide (v ∈ xs) from decide_eq_decide.2 (by simp [Ne.symm h])]
   exact next () trivial) 0 () (by omega) trivial
 exact Ev.eq (fun k => perigeeref8_has.f_eq _ _ _) h
theorem rrule_ev (w : DWatch) (v : S) (hl : w.2.2.2.length ≤ 4611686018427387904) : ∃ r : Int × Unit, Ev (fun k => perigeeref8_ruleOf.f k w v) r ∧ (r.1 < 0 ↔ ∀ x ∈ w.2.2.2, x.1 ≠ v) := by
 have := Ev.rngR (σ := Unit) (Ty.dflt YWatchRule) w.2.2.2 hl (g := fun k _ i => perigeeref8_ruleOf.c0 k v w.1 w.2.1 w.2.2.1 w.2.2.2 i) (fun k _ i => perigeeref8_ruleOf.c0_eq _ _ _ _ _ _ _)
  (fun i _ => ∀ x ∈ w.2.2.2.take i, x.1 ≠ v) (fun r => r.1 < 0 ↔ ∀ x ∈ w.2.2.2, x.1 ≠ v) (fun _ hs => ⟨(-1, ()), Ev.now _, by rw [List.take_length] at hs; exact ⟨fun _ => hs, fun _ => by simp⟩⟩) (fun i x _ hi hc hget hgd hw hs next => ?_) 0 () (by omega) (fun x hx => by simp at hx)
 ·obtain ⟨r, r1, r2⟩ := this
  exact ⟨r, Ev.eq (fun k => perigeeref8_ruleOf.f_eq _ _ _) r1, r2⟩
 ·simp only [Int.toNat_natCast, hgd, hw]
  by_cases h : x.1 = v
  ·exact ⟨((i : Int), ()), Ev.yes (decide_eq_true h) (Ev.now _), ⟨fun h => by have h : (i : Int) < 0 := h; omega, fun hh => absurd h (hh x hc)⟩⟩
  ·obtain ⟨r, r1, r2⟩ := next () (fun y hy => by
    rw [List.take_add_one, hget] at hy
    rcases List.mem_append.1 hy with hy | hy
    ·exact hs y hy
    ·simp at hy; subst hy; exact h)
   exact ⟨r, Ev.no (fun e => h (of_decide_eq_true e)) r1, r2⟩

def Chk (g h rest : Nat → Option (Int × Unit)) : Prop := ∃ c : Int, Ev g (c, ()) ∧ ((c ≠ 0 ∧ Ev h (c, ())) ∨ (c = 0 ∧ ∀ r, Ev rest r → Ev h r))
section
variable {g g' h h' rest : Nat → Option (Int × Unit)}
theorem Chk.l (k : ∀ r, Ev g' r → Ev g r) (c : Chk g' h rest) : Chk g h rest := let ⟨c, c1, c2⟩ := c; ⟨c, k _ c1, c2⟩
theorem Chk.r (k : ∀ r, Ev h' r → Ev h r) (c : Chk g h' rest) : Chk g h rest := let ⟨c, c1, c2⟩ := c; ⟨c, c1, c2.imp (fun ⟨a, b⟩ => ⟨a, k _ b⟩) (fun ⟨a, b⟩ => ⟨a, fun r e => k _ (b r e)⟩)⟩
theorem Chk.bad {c : Int} (h0 : c ≠ 0) (e1 : Ev g (c, ())) (e2 : Ev h (c, ())) : Chk g h rest := ⟨c, e1, .inl ⟨h0, e2⟩⟩
theorem Chk.ok (e1 : Ev g (0, ())) (e2 : ∀ r, Ev rest r → Ev h r) : Chk g h rest := ⟨0, e1, .inr ⟨rfl, e2⟩⟩
theorem Chk.loop {g h : Nat → Int → Option (Int × Unit)} (n : Nat) (step : ∀ i : Nat, i < n → Chk (fun k => g k ((i : Int) + 1)) (fun k => h k ((i : Int) + 1)) rest → Chk (fun k => g k i) (fun k => h k i) rest)
 (fin : Chk (fun k => g k n) (fun k => h k n) rest) : Chk (fun k => g k 0) (fun k => h k 0) rest := by
 have loop : ∀ (d i : Nat), i + d = n → Chk (fun k => g k i) (fun k => h k i) rest := by
  intro d
  induction d with
  | zero =>
   intro i hi
   obtain rfl : i = n := by omega
   exact fin
  | succ d ih =>
   intro i hi
   have := ih (i + 1) (by omega)
   rw [show ((i + 1 : Nat) : Int) = (i : Int) + 1 by omega] at this
   exact step i (by omega) this
 exact loop n 0 (by omega)
end
end Go.Proofs.Ytadhpgecilhgnaa.Pure

-- YtadhpgecilhgnaaQ8
set_option linter.unusedVariables false
set_option linter.unusedSimpArgs false
namespace Go.Proofs.Ytadhpgecilhgnaa.Pure
open Go Go.Proofs.Ytadhpgecilhgnaa.A

theorem wpred {i : Nat} (h : i ≠ 0) (hi : i < 4611686018427387904) : IntKind.wrap .i64 ((i : Int) - 1) = ((i - 1 : Nat) : Int) := by rw [w64 (by omega) (by omega)]; omega
theorem modes_chk (w : DWatch) (h0 : okT YWatch w) (ml : w.1.length ≤ 50) {g h rest : Nat → Option (Int × Unit)}
 (hg : Chk g h rest)
 (eg : ∀ k, monitor_checkModes.c0 (k + 1) w.1 w.2.1 w.2.2.1 w.2.2.2 w.1 (w.1.length : Int) (w.1.length : Int) = g k) (eh : ∀ k, perigeeref8_CheckWatch.c0 (k + 1) w.1 w.2.1 w.2.2.1 w.2.2.2 (w.1.length : Int) = h k) :
 Chk (fun k => monitor_checkModes.c0 k w.1 w.2.1 w.2.2.1 w.2.2.2 w.1 (w.1.length : Int) 0) (fun k => perigeeref8_CheckWatch.c0 k w.1 w.2.1 w.2.2.1 w.2.2.2 0) rest := by
 refine Chk.loop (g := fun k i => monitor_checkModes.c0 k w.1 w.2.1 w.2.2.1 w.2.2.2 w.1 (w.1.length : Int) i) (h := fun k i => perigeeref8_CheckWatch.c0 k w.1 w.2.1 w.2.2.1 w.2.2.2 i) w.1.length (fun i hi next => ?_) (Chk.l (fun r e => Ev.step eg e) (Chk.r (fun r e => Ev.step eh e) hg))
 have hx := h0.1.2.2 _ (getD_mem (z := []) hi)
 have hw : IntKind.wrap .i64 ((i : Int) + 1) = (i : Int) + 1 := w64 (by omega) (by omega)
 generalize hcc : w.1.getD i [] = x at hx
 obtain ⟨n1, _⟩ := name_ev _ hx
 have n2 := rname_ev _ hx
 by_cases a1 : isNm x = true
 case neg =>
  refine Chk.bad (c := 5) (by omega) (Ev.step (fun k => monitor_checkModes.c0_eq _ _ _ _ _ _ _ _) ?_) (Ev.step (fun k => perigeeref8_CheckWatch.c0_eq _ _ _ _ _ _) ?_)
  ·simp only [Int.toNat_natCast, hcc]
   exact Ev.yes (by simp; omega) (Ev.yes (by omega) (Ev.bind n1 (Ev.yes (by simpa using a1) (Ev.now _))))
  ·simp only [Int.toNat_natCast, hcc]
   exact Ev.yes (by simp; omega) (Ev.yes (by omega) (Ev.bind n2 (Ev.yes (by simpa using a1) (Ev.now _))))
 by_cases i0 : i = 0
 ·subst i0
  refine Chk.l (fun r e => Ev.step (fun k => monitor_checkModes.c0_eq _ _ _ _ _ _ _ _) ?_) (Chk.r (fun r e => Ev.step (fun k => perigeeref8_CheckWatch.c0_eq _ _ _ _ _ _) ?_) next)
  ·simp only [Int.toNat_natCast, hcc, hw]
   exact Ev.yes (by simp; omega) (Ev.yes (by omega) (Ev.bind n1 (Ev.no (by simp [a1]) (Ev.no (by simp) e))))
  ·simp only [Int.toNat_natCast, hcc, hw]
   exact Ev.yes (by simp; omega) (Ev.yes (by omega) (Ev.bind n2 (Ev.no (by simp [a1]) (Ev.no (by simp) e))))
 have hp := wpred i0 (by omega)
 by_cases l1 : lessS (w.1.getD (i - 1) []) x = true
 ·refine Chk.l (fun r e => Ev.step (fun k => monitor_checkModes.c0_eq _ _ _ _ _ _ _ _) ?_) (Chk.r (fun r e => Ev.step (fun k => perigeeref8_CheckWatch.c0_eq _ _ _ _ _ _) ?_) next)
  ·simp only [hw, hp, Int.toNat_natCast, hcc]
   exact Ev.yes (by simp; omega) (Ev.yes (by omega) (Ev.bind n1 (Ev.no (by simp [a1]) (Ev.yes (by simp; omega) (Ev.yes (by omega) (Ev.no (fun h => by rw [l1] at h; cases h) e))))))
  ·simp only [hw, hp, Int.toNat_natCast, hcc]
   exact Ev.yes (by simp; omega) (Ev.yes (by omega) (Ev.bind n2 (Ev.no (by simp [a1]) (Ev.yes (by simp; omega) (Ev.yes (by omega) (Ev.yes (by omega) (Ev.no (fun h => by rw [l1] at h; cases h) e)))))))
 ·refine Chk.bad (c := 8) (by omega) (Ev.step (fun k => monitor_checkModes.c0_eq _ _ _ _ _ _ _ _) ?_) (Ev.step (fun k => perigeeref8_CheckWatch.c0_eq _ _ _ _ _ _) ?_)
  ·simp only [hp, Int.toNat_natCast, hcc]
   exact Ev.yes (by simp; omega) (Ev.yes (by omega) (Ev.bind n1 (Ev.no (by simp [a1]) (Ev.yes (by simp; omega) (Ev.yes (by omega) (Ev.yes (by simpa using l1) (Ev.now _)))))))
  ·simp only [hp, Int.toNat_natCast, hcc]
   exact Ev.yes (by simp; omega) (Ev.yes (by omega) (Ev.bind n2 (Ev.no (by simp [a1]) (Ev.yes (by simp; omega) (Ev.yes (by omega) (Ev.yes (by omega) (Ev.yes (by simpa using l1) (Ev.now _))))))))
theorem changes_chk (w : DWatch) (h0 : okT YWatch w) (ml : w.1.length ≤ 50) (cl : w.2.1.length ≤ 500) {g h rest : Nat → Option (Int × Unit)}
 (hg : Chk g h rest)
 (eg : ∀ k, monitor_checkModes.c1 (k + 1) w.1 w.2.1 w.2.2.1 w.2.2.2 w.2.1 (w.2.1.length : Int) (w.2.1.length : Int) = g k) (eh : ∀ k, perigeeref8_CheckWatch.c1 (k + 1) w.1 w.2.1 w.2.2.1 w.2.2.2 (w.2.1.length : Int) = h k) :
 Chk (fun k => monitor_checkModes.c1 k w.1 w.2.1 w.2.2.1 w.2.2.2 w.2.1 (w.2.1.length : Int) 0) (fun k => perigeeref8_CheckWatch.c1 k w.1 w.2.1 w.2.2.1 w.2.2.2 0) rest := by
 refine Chk.loop (g := fun k i => monitor_checkModes.c1 k w.1 w.2.1 w.2.2.1 w.2.2.2 w.2.1 (w.2.1.length : Int) i) (h := fun k i => perigeeref8_CheckWatch.c1 k w.1 w.2.1 w.2.2.1 w.2.2.2 i) w.2.1.length (fun i hi next => ?_) (Chk.l (fun r e => Ev.step eg e) (Chk.r (fun r e => Ev.step eh e) hg))
 have hc := h0.2.1.2.2 _ (getD_mem (z := Ty.dflt YModeChange) hi)
 have hw : IntKind.wrap .i64 ((i : Int) + 1) = (i : Int) + 1 := w64 (by omega) (by omega)
 -- the reference's one change
 have rc : ∀ {c : Int}, Ev (fun k => perigeeref8_checkChange.f k w (i : Int)) (c, ()) → c ≠ 0 → Ev (fun k => perigeeref8_CheckWatch.c1 k w.1 w.2.1 w.2.2.1 w.2.2.2 (i : Int)) (c, ()) := fun {c} e hc => by
  refine Ev.step (fun k => perigeeref8_CheckWatch.c1_eq _ _ _ _ _ _) ?_
  exact Ev.yes (by simp; omega) (Ev.bind e (Ev.yes (by simpa using hc) (Ev.now _)))
 have rok : Ev (fun k => perigeeref8_checkChange.f k w (i : Int)) (0, ()) → ∀ r, Ev (fun k => perigeeref8_CheckWatch.c1 k w.1 w.2.1 w.2.2.1 w.2.2.2 ((i : Int) + 1)) r → Ev (fun k => perigeeref8_CheckWatch.c1 k w.1 w.2.1 w.2.2.1 w.2.2.2 (i : Int)) r := fun e r hr => by
  refine Ev.step (fun k => perigeeref8_CheckWatch.c1_eq _ _ _ _ _ _) ?_
  rw [hw]
  exact Ev.yes (by simp; omega) (Ev.bind e (Ev.no (by simp) hr))
 generalize hcc : w.2.1.getD i (Ty.dflt YModeChange) = c at hc
 obtain ⟨n1, _⟩ := name_ev c.2.1 hc.2.1
 have n2 := rname_ev c.2.1 hc.2.1
 have c1 := contains_ev w.1 c.1 (by omega)
 have c2 := contains_ev w.1 c.2.2 (by omega)
 have d1 := rhas_ev w.1 c.1 (by omega)
 have d2 := rhas_ev w.1 c.2.2 (by omega)
 by_cases a1 : c.1 ∈ w.1
 case neg =>
  refine Chk.bad (c := 9) (by omega) (Ev.step (fun k => monitor_checkModes.c1_eq _ _ _ _ _ _ _ _) ?_) (rc (Ev.eq (fun k => perigeeref8_checkChange.f_eq _ _ _) ?_) (by omega))
  ·simp only [Int.toNat_natCast, hcc]
   exact Ev.yes (by simp; omega) (Ev.yes (by omega) (Ev.bind c1 (Ev.yes (by simp [a1]) (Ev.now _))))
  ·simp only [Int.toNat_natCast, hcc]
   exact Ev.yes (by omega) (Ev.bind d1 (Ev.yes (by simp [a1]) (Ev.now _)))
 by_cases a2 : c.2.2 ∈ w.1
 case neg =>
  refine Chk.bad (c := 9) (by omega) (Ev.step (fun k => monitor_checkModes.c1_eq _ _ _ _ _ _ _ _) ?_) (rc (Ev.eq (fun k => perigeeref8_checkChange.f_eq _ _ _) ?_) (by omega))
  ·simp only [Int.toNat_natCast, hcc]
   exact Ev.yes (by simp; omega) (Ev.yes (by omega) (Ev.bind c1 (Ev.no (by simp [a1]) (Ev.bind c2 (Ev.yes (by simp [a2]) (Ev.now _))))))
  ·simp only [Int.toNat_natCast, hcc]
   exact Ev.yes (by omega) (Ev.bind d1 (Ev.no (by simp [a1]) (Ev.bind d2 (Ev.yes (by simp [a2]) (Ev.now _)))))
 have gl : ∀ r, Ev (fun k => monitor_checkModes.c2 k w.1 w.2.1 w.2.2.1 w.2.2.2 (i : Int) c.1 c.2.1 c.2.2 w.2.1 (w.2.1.length : Int) (i : Int)) r → Ev (fun k => monitor_checkModes.c1 k w.1 w.2.1 w.2.2.1 w.2.2.2 w.2.1 (w.2.1.length : Int) (i : Int)) r := fun r e => by
  refine Ev.step (fun k => monitor_checkModes.c1_eq _ _ _ _ _ _ _ _) ?_
  simp only [Int.toNat_natCast, hcc]
  exact Ev.yes (by simp; omega) (Ev.yes (by omega) (Ev.bind c1 (Ev.no (by simp [a1]) (Ev.bind c2 (Ev.no (by simp [a2]) e)))))
 have gr : ∀ r, Ev (fun k => perigeeref8_checkChange.c0 k (i : Int) w.1 w.2.1 w.2.2.1 w.2.2.2 c.1 c.2.1 c.2.2) r → Ev (fun k => perigeeref8_checkChange.f k w (i : Int)) r := fun r e => by
  refine Ev.eq (fun k => perigeeref8_checkChange.f_eq _ _ _) ?_
  simp only [Int.toNat_natCast, hcc]
  exact Ev.yes (by omega) (Ev.bind d1 (Ev.no (by simp [a1]) (Ev.bind d2 (Ev.no (by simp [a2]) e))))
 by_cases a3 : isNm c.2.1 = true
 case neg =>
  refine Chk.bad (c := 5) (by omega) (gl _ (Ev.step (fun k => monitor_checkModes.c2_eq _ _ _ _ _ _ _ _ _ _ _ _) ?_)) (rc (gr _ (Ev.step (fun k => perigeeref8_checkChange.c0_eq _ _ _ _ _ _ _ _ _) ?_)) (by omega))
  ·exact Ev.bind n1 (Ev.yes (by simpa using a3) (Ev.now _))
  ·exact Ev.bind n2 (Ev.yes (by simpa using a3) (Ev.now _))
 by_cases i0 : i = 0
 ·subst i0
  refine Chk.l (fun r e => gl _ (Ev.step (fun k => monitor_checkModes.c2_eq _ _ _ _ _ _ _ _ _ _ _ _) ?_)) (Chk.r (rok (gr _ (Ev.step (fun k => perigeeref8_checkChange.c0_eq _ _ _ _ _ _ _ _ _) ?_))) next)
  ·rw [hw]
   exact Ev.bind n1 (Ev.no (by simp [a3]) (Ev.no (by simp) e))
  ·exact Ev.bind n2 (Ev.no (by simp [a3]) (Ev.no (by simp) (Ev.now _)))
 have hp := wpred i0 (by omega)
 have gl2 : ∀ r, Ev (fun k => if (lessS c.1 (w.2.1.getD (i - 1) (Ty.dflt YModeChange)).1) = true then some (8, ()) else if (decide (c.1 = (w.2.1.getD (i - 1) (Ty.dflt YModeChange)).1)) = true then (if (!(lessS (w.2.1.getD (i - 1) (Ty.dflt YModeChange)).2.1 c.2.1)) = true then some (8, ()) else monitor_checkModes.c1 k w.1 w.2.1 w.2.2.1 w.2.2.2 w.2.1 (w.2.1.length : Int) ((i : Int) + 1)) else monitor_checkModes.c1 k w.1 w.2.1 w.2.2.1 w.2.2.2 w.2.1 (w.2.1.length : Int) ((i : Int) + 1)) r → Ev (fun k => monitor_checkModes.c1 k w.1 w.2.1 w.2.2.1 w.2.2.2 w.2.1 (w.2.1.length : Int) (i : Int)) r := fun r e => by
  refine gl _ (Ev.step (fun k => monitor_checkModes.c2_eq _ _ _ _ _ _ _ _ _ _ _ _) ?_)
  refine Ev.bind n1 (Ev.no (by simp [a3]) (Ev.yes (by simp; omega) ?_))
  simp only [hp, hw, Int.toNat_natCast]
  exact Ev.yes (by omega) e
 have gr2 : ∀ r, Ev (fun k => if (lessS c.1 (w.2.1.getD (i - 1) (Ty.dflt YModeChange)).1) = true then some (8, ()) else if (decide (c.1 = (w.2.1.getD (i - 1) (Ty.dflt YModeChange)).1)) = true then (if (!(lessS (w.2.1.getD (i - 1) (Ty.dflt YModeChange)).2.1 c.2.1)) = true then some (8, ()) else some (0, ())) else some (0, ())) r → Ev (fun k => perigeeref8_checkChange.f k w (i : Int)) r := fun r e => by
  refine gr _ (Ev.step (fun k => perigeeref8_checkChange.c0_eq _ _ _ _ _ _ _ _ _) ?_)
  refine Ev.bind n2 (Ev.no (by simp [a3]) (Ev.yes (by simp; omega) ?_))
  simp only [hp, hw, Int.toNat_natCast]
  exact Ev.yes (by omega) e
 by_cases l1 : lessS c.1 (w.2.1.getD (i - 1) (Ty.dflt YModeChange)).1 = true
 ·exact Chk.bad (c := 8) (by omega) (gl2 _ (Ev.yes l1 (Ev.now _))) (rc (gr2 _ (Ev.yes l1 (Ev.now _))) (by omega))
 by_cases l2 : c.1 = (w.2.1.getD (i - 1) (Ty.dflt YModeChange)).1
 ·by_cases l3 : lessS (w.2.1.getD (i - 1) (Ty.dflt YModeChange)).2.1 c.2.1 = true
  ·exact Chk.l (fun r e => gl2 _ (Ev.no l1 (Ev.yes (decide_eq_true l2) (Ev.no (fun h => by rw [l3] at h; cases h) e)))) (Chk.r (rok (gr2 _ (Ev.no l1 (Ev.yes (decide_eq_true l2) (Ev.no (fun h => by rw [l3] at h; cases h) (Ev.now _)))))) next)
  ·exact Chk.bad (c := 8) (by omega) (gl2 _ (Ev.no l1 (Ev.yes (decide_eq_true l2) (Ev.yes (by simpa using l3) (Ev.now _))))) (rc (gr2 _ (Ev.no l1 (Ev.yes (decide_eq_true l2) (Ev.yes (by simpa using l3) (Ev.now _))))) (by omega))
 ·exact Chk.l (fun r e => gl2 _ (Ev.no l1 (Ev.no (fun h => l2 (of_decide_eq_true h)) e))) (Chk.r (rok (gr2 _ (Ev.no l1 (Ev.no (fun h => l2 (of_decide_eq_true h)) (Ev.now _))))) next)
end Go.Proofs.Ytadhpgecilhgnaa.Pure

-- YtadhpgecilhgnaaQ9
set_option linter.unusedVariables false
set_option linter.unusedSimpArgs false
namespace Go.Proofs.Ytadhpgecilhgnaa.Pure
open Go Go.Proofs.Ytadhpgecilhgnaa.A

theorem Chk.loopS {σ : Type} {rest : Nat → Option (Int × Unit)} {g : Nat → σ → Int → Option (Int × Unit)} {h : Nat → Int → Option (Int × Unit)} (n : Nat) (Inv : Nat → σ → Prop)
 (step : ∀ (i : Nat) (s : σ), i < n → Inv i s → (∀ s', Inv (i + 1) s' → Chk (fun k => g k s' ((i : Int) + 1)) (fun k => h k ((i : Int) + 1)) rest) → Chk (fun k => g k s i) (fun k => h k i) rest)
 (fin : ∀ s, Inv n s → Chk (fun k => g k s n) (fun k => h k n) rest) (s : σ) (h0 : Inv 0 s) : Chk (fun k => g k s 0) (fun k => h k 0) rest := by
 have loop : ∀ (d i : Nat) (s : σ), i + d = n → Inv i s → Chk (fun k => g k s i) (fun k => h k i) rest := by
  intro d
  induction d with
  | zero =>
   intro i s hi hs
   obtain rfl : i = n := by omega
   exact fin s hs
  | succ d ih =>
   intro i s hi hs
   refine step i s (by omega) hs fun s' hs' => ?_
   have := ih (i + 1) s' (by omega) hs'
   rw [show ((i + 1 : Nat) : Int) = (i : Int) + 1 by omega] at this
   exact this
 exact loop n 0 s (by omega) h0
theorem rwithin (k : Nat) (n a b : Int) : perigeeref8_within.f k n a b = some (decide (a ≤ n ∧ n ≤ b), ()) := by
 rw [perigeeref8_within.f_eq]
 by_cases h1 : a ≤ n <;> simp [h1]
noncomputable def ordR (w : DWatch) (i : Nat) : Int := if 0 < i ∧ lessS (w.2.2.2.getD (i - 1) (Ty.dflt YWatchRule)).1 (w.2.2.2.getD i (Ty.dflt YWatchRule)).1 = false then 8 else 0
theorem rule_chk (w : DWatch) (ml : w.1.length ≤ 50) (rl : w.2.2.2.length ≤ 200) {i : Nat} (hi : i < w.2.2.2.length) (hx : okT YWatchRule (w.2.2.2.getD i (Ty.dflt YWatchRule))) :
 Chk (fun k => monitor_checkRule.f k w (w.2.2.2.getD i (Ty.dflt YWatchRule))) (fun k => perigeeref8_checkRule.f k w (i : Int)) (fun _ => some (ordR w i, ())) := by
 unfold ordR
 generalize hxx : w.2.2.2.getD i (Ty.dflt YWatchRule) = x at hx
 have gr : ∀ r, Ev (fun k => (perigeeref8_IsName.f k x.1).bind fun r1 => if (!r1.1) = true then some (5, ()) else (perigeeref8_IsName.f k x.2.1).bind fun r2 => if (!r2.1) = true then some (5, ()) else perigeeref8_checkRule.c0 k (i : Int) w.1 w.2.1 w.2.2.1 w.2.2.2 x.1 x.2.1 x.2.2.1 x.2.2.2.1 x.2.2.2.2) r → Ev (fun k => perigeeref8_checkRule.f k w (i : Int)) r := fun r e => by
  refine Ev.eq (fun k => perigeeref8_checkRule.f_eq _ _ _) ?_
  simp only [Int.toNat_natCast, hxx]
  exact Ev.yes (by omega) e
 refine Chk.l (fun r e => Ev.eq (fun k => monitor_checkRule.f_eq _ _ _) e) (Chk.r gr ?_)
 obtain ⟨n1, _⟩ := name_ev x.1 hx.1
 obtain ⟨n2, _⟩ := name_ev x.2.1 hx.2.1
 have m1 := rname_ev x.1 hx.1
 have m2 := rname_ev x.2.1 hx.2.1
 by_cases a1 : isNm x.1 = true
 case neg => exact Chk.bad (c := 5) (by omega) (Ev.bind n1 (Ev.yes (by simpa using a1) (Ev.now _))) (Ev.bind m1 (Ev.yes (by simpa using a1) (Ev.now _)))
 by_cases a2 : isNm x.2.1 = true
 case neg => exact Chk.bad (c := 5) (by omega) (Ev.bind n1 (Ev.no (by simp [a1]) (Ev.bind n2 (Ev.yes (by simpa using a2) (Ev.now _))))) (Ev.bind m1 (Ev.no (by simp [a1]) (Ev.bind m2 (Ev.yes (by simpa using a2) (Ev.now _)))))
 refine Chk.l (fun r e => Ev.bind n1 (Ev.no (by simp [a1]) (Ev.bind n2 (Ev.no (by simp [a2]) e)))) (Chk.r (fun r e => Ev.bind m1 (Ev.no (by simp [a1]) (Ev.bind m2 (Ev.no (by simp [a2]) e)))) ?_)
 suffices tail : Chk (fun k => monitor_checkRule.c1 k x.1 x.2.1 x.2.2.1 x.2.2.2.1 x.2.2.2.2) (fun k => perigeeref8_checkRule.c1 k (i : Int) w.1 w.2.1 w.2.2.1 w.2.2.2 x.1 x.2.1 x.2.2.1 x.2.2.2.1 x.2.2.2.2) (fun _ => some (if 0 < i ∧ lessS (w.2.2.2.getD (i - 1) (Ty.dflt YWatchRule)).1 x.1 = false then 8 else 0, ())) by
  refine Chk.l (fun r e => Ev.step (fun k => monitor_checkRule.c0_eq _ _ _ _ _ _ _ _ _ _) e) (Chk.r (fun r e => Ev.step (fun k => perigeeref8_checkRule.c0_eq _ _ _ _ _ _ _ _ _ _ _) e) ?_)
  by_cases a3 : x.2.2.1 = []
  ·exact Chk.l (fun r e => Ev.no (by simp [a3]) e) (Chk.r (fun r e => Ev.no (by simp [a3]) e) tail)
  by_cases a4 : x.2.2.1 ∈ w.1
  ·exact Chk.l (fun r e => Ev.yes (by simpa using a3) (Ev.bind (contains_ev _ _ (by omega)) (Ev.no (by simp [a4]) e))) (Chk.r (fun r e => Ev.yes (by simpa using a3) (Ev.bind (rhas_ev _ _ (by omega)) (Ev.no (by simp [a4]) e))) tail)
  ·exact Chk.bad (c := 9) (by omega) (Ev.yes (by simpa using a3) (Ev.bind (contains_ev _ _ (by omega)) (Ev.yes (by simp [a4]) (Ev.now _)))) (Ev.yes (by simpa using a3) (Ev.bind (rhas_ev _ _ (by omega)) (Ev.yes (by simp [a4]) (Ev.now _))))
 refine Chk.l (fun r e => Ev.step (fun k => monitor_checkRule.c1_eq _ _ _ _ _ _) e) (Chk.r (fun r e => Ev.step (fun k => perigeeref8_checkRule.c1_eq _ _ _ _ _ _ _ _ _ _ _) e) ?_)
 by_cases al : 10 < x.2.2.2.2.length
 ·exact Chk.bad (c := 2) (by omega) (Ev.yes (decide_eq_true (by omega)) (Ev.now _)) (Ev.yes (decide_eq_true (by omega)) (Ev.now _))
 refine Chk.l (fun r e => Ev.no (fun h => al (by have := of_decide_eq_true h; omega)) e) (Chk.r (fun r e => Ev.no (fun h => al (by have := of_decide_eq_true h; omega)) e) ?_)
 refine Chk.loop (g := fun k j => monitor_checkRule.c2 k x.2.2.2.2 (x.2.2.2.2.length : Int) j) (h := fun k j => perigeeref8_checkRule.c2 k (i : Int) w.1 w.2.1 w.2.2.1 w.2.2.2 x.1 x.2.1 x.2.2.1 x.2.2.2.1 x.2.2.2.2 j) x.2.2.2.2.length (fun j hj next => ?_) ?_
 ·have hy := hx.2.2.2.2.2.2 _ (getD_mem (z := Ty.dflt YAct) hj)
  have hw : IntKind.wrap .i64 ((j : Int) + 1) = (j : Int) + 1 := w64 (by omega) (by omega)
  generalize hyy : x.2.2.2.2.getD j (Ty.dflt YAct) = y at hy
  have gl : ∀ r, Ev (fun k => if (!decide (1 ≤ y.1 ∧ y.1 ≤ 4)) = true then some (4, ()) else (monitor_IsName.f k y.2.1).bind fun r5 => if (!r5.1) = true then some (5, ()) else if y.2.2 = true then (if (!(decide (y.1 = 4))) = true then some (3, ()) else monitor_checkRule.c2 k x.2.2.2.2 (x.2.2.2.2.length : Int) ((j : Int) + 1)) else monitor_checkRule.c2 k x.2.2.2.2 (x.2.2.2.2.length : Int) ((j : Int) + 1)) r → Ev (fun k => monitor_checkRule.c2 k x.2.2.2.2 (x.2.2.2.2.length : Int) (j : Int)) r := fun r e => by
   refine Ev.step (fun k => monitor_checkRule.c2_eq _ _ _ _) ?_
   simp only [Int.toNat_natCast, hyy, hw, in_ev, Option.bind_some]
   exact Ev.yes (by simp; omega) (Ev.yes (by omega) e)
  have gr : ∀ r, Ev (fun k => if (!decide (1 ≤ y.1 ∧ y.1 ≤ 4)) = true then some (4, ()) else (perigeeref8_IsName.f k y.2.1).bind fun r5 => if (!r5.1) = true then some (5, ()) else if y.2.2 = true then (if (!(decide (y.1 = 4))) = true then some (3, ()) else perigeeref8_checkRule.c2 k (i : Int) w.1 w.2.1 w.2.2.1 w.2.2.2 x.1 x.2.1 x.2.2.1 x.2.2.2.1 x.2.2.2.2 ((j : Int) + 1)) else perigeeref8_checkRule.c2 k (i : Int) w.1 w.2.1 w.2.2.1 w.2.2.2 x.1 x.2.1 x.2.2.1 x.2.2.2.1 x.2.2.2.2 ((j : Int) + 1)) r → Ev (fun k => perigeeref8_checkRule.c2 k (i : Int) w.1 w.2.1 w.2.2.1 w.2.2.2 x.1 x.2.1 x.2.2.1 x.2.2.2.1 x.2.2.2.2 (j : Int)) r := fun r e => by
   refine Ev.step (fun k => perigeeref8_checkRule.c2_eq _ _ _ _ _ _ _ _ _ _ _ _) ?_
   simp only [Int.toNat_natCast, hyy, hw, rwithin, Option.bind_some]
   exact Ev.yes (by simp; omega) (Ev.yes (by omega) e)
  refine Chk.l gl (Chk.r gr ?_)
  obtain ⟨n3, _⟩ := name_ev y.2.1 hy.2.1
  have m3 := rname_ev y.2.1 hy.2.1
  by_cases k1 : (1 ≤ y.1 ∧ y.1 ≤ 4)
  case neg => exact Chk.bad (c := 4) (by omega) (Ev.yes (by rw [decide_eq_false k1]; rfl) (Ev.now _)) (Ev.yes (by rw [decide_eq_false k1]; rfl) (Ev.now _))
  refine Chk.l (fun r e => Ev.no (by rw [decide_eq_true k1]; simp) e) (Chk.r (fun r e => Ev.no (by rw [decide_eq_true k1]; simp) e) ?_)
  by_cases k2 : isNm y.2.1 = true
  case neg => exact Chk.bad (c := 5) (by omega) (Ev.bind n3 (Ev.yes (by simpa using k2) (Ev.now _))) (Ev.bind m3 (Ev.yes (by simpa using k2) (Ev.now _)))
  refine Chk.l (fun r e => Ev.bind n3 (Ev.no (by simp [k2]) e)) (Chk.r (fun r e => Ev.bind m3 (Ev.no (by simp [k2]) e)) ?_)
  by_cases k3 : y.2.2 = true
  case neg => exact Chk.l (fun r e => Ev.no k3 e) (Chk.r (fun r e => Ev.no k3 e) next)
  refine Chk.l (fun r e => Ev.yes k3 e) (Chk.r (fun r e => Ev.yes k3 e) ?_)
  by_cases k4 : y.1 = 4
  ·exact Chk.l (fun r e => Ev.no (by simp [k4]) e) (Chk.r (fun r e => Ev.no (by simp [k4]) e) next)
  ·exact Chk.bad (c := 3) (by omega) (Ev.yes (by simpa using k4) (Ev.now _)) (Ev.yes (by simpa using k4) (Ev.now _))
 ·refine Chk.ok (Ev.step (fun k => monitor_checkRule.c2_eq _ _ _ _) (Ev.no (by simp) (Ev.now _))) fun r e => Ev.step (fun k => perigeeref8_checkRule.c2_eq _ _ _ _ _ _ _ _ _ _ _ _) (Ev.no (by simp) ?_)
  by_cases i0 : i = 0
  ·subst i0
   exact Ev.no (by simp) (by simpa using e)
  ·simp only [wpred i0 (by omega), Int.toNat_natCast]
   by_cases l1 : lessS (w.2.2.2.getD (i - 1) (Ty.dflt YWatchRule)).1 x.1 = true
   ·refine Ev.yes (by simp; omega) (Ev.yes (by omega) (Ev.no (fun h => by rw [l1] at h; cases h) ?_))
    rw [if_neg (fun h => by rw [l1] at h; exact absurd h.2 (by simp))] at e
    exact e
   ·have l1 : lessS (w.2.2.2.getD (i - 1) (Ty.dflt YWatchRule)).1 x.1 = false := by rw [← Bool.not_eq_true]; exact l1
    refine Ev.yes (by simp; omega) (Ev.yes (by omega) (Ev.yes (by rw [l1]; rfl) ?_))
    rw [if_pos ⟨by omega, l1⟩] at e
    exact e
theorem acts_chk (w : DWatch) (rl : w.2.2.2.length ≤ 200) (h0 : okT YWatch w) (m : List (S × Bool)) (hm : ∀ v : S, (lk m v).getD false = true ↔ ∃ x ∈ w.2.2.2, x.1 = v) :
 Chk (fun k => monitor_CheckWatch.c1 k m w.2.2.2 (w.2.2.2.length : Int) 0) (fun k => perigeeref8_CheckWatch.c3 k w.1 w.2.1 w.2.2.1 w.2.2.2 0) (fun _ => some (0, ())) := by
 refine Chk.loop (g := fun k i => monitor_CheckWatch.c1 k m w.2.2.2 (w.2.2.2.length : Int) i) (h := fun k i => perigeeref8_CheckWatch.c3 k w.1 w.2.1 w.2.2.1 w.2.2.2 i) w.2.2.2.length (fun i hi next => ?_) ?_
 ·have hx := h0.2.2.2.2.2 _ (getD_mem (z := Ty.dflt YWatchRule) hi)
  have hw : IntKind.wrap .i64 ((i : Int) + 1) = (i : Int) + 1 := w64 (by omega) (by omega)
  generalize hxx : w.2.2.2.getD i (Ty.dflt YWatchRule) = x at hx
  have al := hx.2.2.2.2.1
  have gl : ∀ r, Ev (fun k => monitor_CheckWatch.c2 k m w.2.2.2 (w.2.2.2.length : Int) (i : Int) x.2.2.2.2 (x.2.2.2.2.length : Int) 0) r → Ev (fun k => monitor_CheckWatch.c1 k m w.2.2.2 (w.2.2.2.length : Int) (i : Int)) r := fun r e => by
   refine Ev.step (fun k => monitor_CheckWatch.c1_eq _ _ _ _ _) ?_
   simp only [Int.toNat_natCast, hxx]
   exact Ev.yes (by simp; omega) (Ev.yes (by omega) e)
  have gr : ∀ r, Ev (fun k => perigeeref8_CheckWatch.c4 k w.1 w.2.1 w.2.2.1 w.2.2.2 (i : Int) 0) r → Ev (fun k => perigeeref8_CheckWatch.c3 k w.1 w.2.1 w.2.2.1 w.2.2.2 (i : Int)) r := fun r e => by
   refine Ev.step (fun k => perigeeref8_CheckWatch.c3_eq _ _ _ _ _ _) ?_
   exact Ev.yes (by simp; omega) e
  refine Chk.l gl (Chk.r gr ?_)
  refine Chk.loop (g := fun k j => monitor_CheckWatch.c2 k m w.2.2.2 (w.2.2.2.length : Int) (i : Int) x.2.2.2.2 (x.2.2.2.2.length : Int) j) (h := fun k j => perigeeref8_CheckWatch.c4 k w.1 w.2.1 w.2.2.1 w.2.2.2 (i : Int) j) x.2.2.2.2.length (fun j hj nexty => ?_) ?_
  ·have hwj : IntKind.wrap .i64 ((j : Int) + 1) = (j : Int) + 1 := w64 (by omega) (by omega)
   obtain ⟨y, hyy⟩ : ∃ y, x.2.2.2.2.getD j (Ty.dflt YAct) = y := ⟨_, rfl⟩
   have gl : ∀ r, Ev (fun k => if (decide (y.1 = 2)) = true then (if (!(mapGet .str .bool y.2.1 m false)) = true then some (9, ()) else monitor_CheckWatch.c2 k m w.2.2.2 (w.2.2.2.length : Int) (i : Int) x.2.2.2.2 (x.2.2.2.2.length : Int) ((j : Int) + 1)) else if (decide (y.1 = 3)) = true then (if (!(mapGet .str .bool y.2.1 m false)) = true then some (9, ()) else monitor_CheckWatch.c2 k m w.2.2.2 (w.2.2.2.length : Int) (i : Int) x.2.2.2.2 (x.2.2.2.2.length : Int) ((j : Int) + 1)) else monitor_CheckWatch.c2 k m w.2.2.2 (w.2.2.2.length : Int) (i : Int) x.2.2.2.2 (x.2.2.2.2.length : Int) ((j : Int) + 1)) r → Ev (fun k => monitor_CheckWatch.c2 k m w.2.2.2 (w.2.2.2.length : Int) (i : Int) x.2.2.2.2 (x.2.2.2.2.length : Int) (j : Int)) r := fun r e => by
    refine Ev.step (fun k => monitor_CheckWatch.c2_eq _ _ _ _ _ _ _ _) ?_
    simp only [Int.toNat_natCast, hyy, hwj]
    exact Ev.yes (by simp; omega) (Ev.yes (by omega) e)
   obtain ⟨q, q1, q2⟩ := rrule_ev w y.2.1 (by omega)
   have gr : ∀ r, Ev (fun k => if (decide (y.1 = 2)) = true then (if (decide (q.1 < 0)) = true then some (9, ()) else perigeeref8_CheckWatch.c4 k w.1 w.2.1 w.2.2.1 w.2.2.2 (i : Int) ((j : Int) + 1)) else if (decide (y.1 = 3)) = true then (if (decide (q.1 < 0)) = true then some (9, ()) else perigeeref8_CheckWatch.c4 k w.1 w.2.1 w.2.2.1 w.2.2.2 (i : Int) ((j : Int) + 1)) else perigeeref8_CheckWatch.c4 k w.1 w.2.1 w.2.2.1 w.2.2.2 (i : Int) ((j : Int) + 1)) r → Ev (fun k => perigeeref8_CheckWatch.c4 k w.1 w.2.1 w.2.2.1 w.2.2.2 (i : Int) (j : Int)) r := fun r e => by
    refine Ev.step (fun k => perigeeref8_CheckWatch.c4_eq _ _ _ _ _ _ _) ?_
    simp only [Int.toNat_natCast, hxx, hyy, hwj]
    refine Ev.yes (by omega) (Ev.yes (by simp; omega) (Ev.yes (by omega) (Ev.yes (by omega) ?_)))
    by_cases k1 : y.1 = 2
    ·simp only [k1] at e ⊢
     exact Ev.yes (by simp) (Ev.bind q1 (by simpa using e))
    ·have d1 : decide (y.1 = 2) = false := decide_eq_false k1
     simp only [d1] at e ⊢
     refine Ev.no (by simp) ?_
     have e : Ev (fun k => if (decide (y.1 = 3)) = true then (if (decide (q.1 < 0)) = true then some (9, ()) else perigeeref8_CheckWatch.c4 k w.1 w.2.1 w.2.2.1 w.2.2.2 (i : Int) ((j : Int) + 1)) else perigeeref8_CheckWatch.c4 k w.1 w.2.1 w.2.2.1 w.2.2.2 (i : Int) ((j : Int) + 1)) r := by simpa using e
     by_cases k2 : y.1 = 3
     ·have d2 : decide (y.1 = 3) = true := decide_eq_true k2
      simp only [d2, if_true] at e ⊢
      exact Ev.bind q1 e
     ·have d2 : decide (y.1 = 3) = false := decide_eq_false k2
      simp only [d2] at e ⊢
      simpa using e
   have hq : (mapGet .str .bool y.2.1 m false = true) ↔ ¬ q.1 < 0 := by
    rw [get_lk (σ := .bool), hm, q2]
    constructor
    ·rintro ⟨x, hx, e⟩ h; exact h x hx e
    ·intro h
     apply Classical.byContradiction
     intro hn
     exact h fun x hx e => hn ⟨x, hx, e⟩
   refine Chk.l gl (Chk.r gr ?_)
   have tail : Chk (fun k => if (!(mapGet .str .bool y.2.1 m false)) = true then some (9, ()) else monitor_CheckWatch.c2 k m w.2.2.2 (w.2.2.2.length : Int) (i : Int) x.2.2.2.2 (x.2.2.2.2.length : Int) ((j : Int) + 1)) (fun k => if (decide (q.1 < 0)) = true then some (9, ()) else perigeeref8_CheckWatch.c4 k w.1 w.2.1 w.2.2.1 w.2.2.2 (i : Int) ((j : Int) + 1)) (fun _ => some (0, ())) := by
    by_cases h : q.1 < 0
    ·have : mapGet .str .bool y.2.1 m false = false := by rw [← Bool.not_eq_true, hq]; exact fun e => e h
     exact Chk.bad (c := 9) (by omega) (Ev.yes (by rw [this]; rfl) (Ev.now _)) (Ev.yes (decide_eq_true h) (Ev.now _))
    ·have : mapGet .str .bool y.2.1 m false = true := hq.2 h
     exact Chk.l (fun r e => Ev.no (by rw [this]; simp) e) (Chk.r (fun r e => Ev.no (fun e => h (of_decide_eq_true e)) e) nexty)
   by_cases k1 : y.1 = 2
   ·exact Chk.l (fun r e => Ev.yes (decide_eq_true k1) e) (Chk.r (fun r e => Ev.yes (decide_eq_true k1) e) tail)
   by_cases k2 : y.1 = 3
   ·exact Chk.l (fun r e => Ev.no (fun e => k1 (of_decide_eq_true e)) (Ev.yes (decide_eq_true k2) e)) (Chk.r (fun r e => Ev.no (fun e => k1 (of_decide_eq_true e)) (Ev.yes (decide_eq_true k2) e)) tail)
   ·exact Chk.l (fun r e => Ev.no (fun e => k1 (of_decide_eq_true e)) (Ev.no (fun e => k2 (of_decide_eq_true e)) e)) (Chk.r (fun r e => Ev.no (fun e => k1 (of_decide_eq_true e)) (Ev.no (fun e => k2 (of_decide_eq_true e)) e)) nexty)
  ·refine Chk.l (fun r e => Ev.step (fun k => monitor_CheckWatch.c2_eq _ _ _ _ _ _ _ _) (Ev.no (by simp) ?_)) (Chk.r (fun r e => Ev.step (fun k => perigeeref8_CheckWatch.c4_eq _ _ _ _ _ _ _) ?_) next)
   ·rw [hw]; exact e
   ·simp only [Int.toNat_natCast, hxx, hw]
    exact Ev.yes (by omega) (Ev.no (by simp) e)
 ·exact Chk.ok (Ev.step (fun k => monitor_CheckWatch.c1_eq _ _ _ _ _) (Ev.no (by simp) (Ev.now _))) fun r e => Ev.step (fun k => perigeeref8_CheckWatch.c3_eq _ _ _ _ _ _) (Ev.no (by simp) e)
theorem rules_chk (w : DWatch) (ml : w.1.length ≤ 50) (rl : w.2.2.2.length ≤ 200) (h0 : okT YWatch w) :
 Chk (fun k => monitor_CheckWatch.c0 k w.1 w.2.1 w.2.2.1 w.2.2.2 [] w.2.2.2 (w.2.2.2.length : Int) 0) (fun k => perigeeref8_CheckWatch.c2 k w.1 w.2.1 w.2.2.1 w.2.2.2 0) (fun _ => some (0, ())) := by
 refine Chk.loopS (σ := List (S × Bool)) (g := fun k m i => monitor_CheckWatch.c0 k w.1 w.2.1 w.2.2.1 w.2.2.2 m w.2.2.2 (w.2.2.2.length : Int) i) (h := fun k i => perigeeref8_CheckWatch.c2 k w.1 w.2.1 w.2.2.1 w.2.2.2 i) w.2.2.2.length
  (fun i m => ∀ v : S, (lk m v).getD false = true ↔ ∃ x ∈ w.2.2.2.take i, x.1 = v) (fun i m hi hm next => ?_) (fun m hm => ?_) [] (fun v => by simp [lk])
 ·have hx := h0.2.2.2.2.2 _ (getD_mem (z := Ty.dflt YWatchRule) hi)
  have hw : IntKind.wrap .i64 ((i : Int) + 1) = (i : Int) + 1 := w64 (by omega) (by omega)
  obtain ⟨c, c1, c2⟩ := rule_chk w ml rl hi hx
  rcases c2 with ⟨c3, c4⟩ | ⟨c3, c4⟩
  ·refine Chk.bad c3 (Ev.step (fun k => monitor_CheckWatch.c0_eq _ _ _ _ _ _ _ _ _) ?_) (Ev.step (fun k => perigeeref8_CheckWatch.c2_eq _ _ _ _ _ _) ?_)
   ·simp only [Int.toNat_natCast]
    exact Ev.yes (by simp; omega) (Ev.yes (by omega) (Ev.bind c1 (Ev.yes (by simpa using c3) (Ev.now _))))
   ·exact Ev.yes (by simp; omega) (Ev.bind c4 (Ev.yes (by simpa using c3) (Ev.now _)))
  ·subst c3
   have c4 := c4 _ (Ev.now _)
   have nxt := next (mapPut .str .bool (w.2.2.2.getD i (Ty.dflt YWatchRule)).1 true m) (fun v => by
    rw [lk_put (σ := .bool), List.take_add_one, List.getElem?_eq_getElem hi, getD_nat _ _ _ hi]
    split
    ·rename_i e
     simp only [Option.getD_some, true_iff]
     exact ⟨_, List.mem_append_right _ (by simp), e⟩
    ·rename_i e
     rw [hm]
     constructor
     ·rintro ⟨x, hx, h⟩; exact ⟨x, List.mem_append_left _ hx, h⟩
     ·rintro ⟨x, hx, h⟩
      rcases List.mem_append.1 hx with hx | hx
      ·exact ⟨x, hx, h⟩
      ·simp at hx; subst hx; exact absurd h e)
   have ord : ordR w i = 8 ∨ ordR w i = 0 := by unfold ordR; split <;> simp
   by_cases i0 : i = 0
   ·subst i0
    have o0 : ordR w 0 = 0 := by unfold ordR; rw [if_neg (by simp)]
    rw [o0] at c4
    refine Chk.l (fun r e => Ev.step (fun k => monitor_CheckWatch.c0_eq _ _ _ _ _ _ _ _ _) ?_) (Chk.r (fun r e => Ev.step (fun k => perigeeref8_CheckWatch.c2_eq _ _ _ _ _ _) ?_) nxt)
    ·simp only [Int.toNat_natCast, hw]
     exact Ev.yes (by simp; omega) (Ev.yes (by omega) (Ev.bind c1 (Ev.no (by simp) (Ev.no (by simp) e))))
    ·rw [hw]
     exact Ev.yes (by simp; omega) (Ev.bind c4 (Ev.no (by simp) e))
   ·have hp := wpred i0 (by omega)
    by_cases l1 : lessS (w.2.2.2.getD (i - 1) (Ty.dflt YWatchRule)).1 (w.2.2.2.getD i (Ty.dflt YWatchRule)).1 = true
    ·have o0 : ordR w i = 0 := by unfold ordR; rw [if_neg (fun h => by rw [l1] at h; exact absurd h.2 (by simp))]
     rw [o0] at c4
     refine Chk.l (fun r e => Ev.step (fun k => monitor_CheckWatch.c0_eq _ _ _ _ _ _ _ _ _) ?_) (Chk.r (fun r e => Ev.step (fun k => perigeeref8_CheckWatch.c2_eq _ _ _ _ _ _) ?_) nxt)
     ·simp only [hw, hp, Int.toNat_natCast]
      exact Ev.yes (by simp; omega) (Ev.yes (by omega) (Ev.bind c1 (Ev.no (by simp) (Ev.yes (by simp; omega) (Ev.yes (by omega) (Ev.no (fun h => by rw [l1] at h; cases h) e))))))
     ·rw [hw]
      exact Ev.yes (by simp; omega) (Ev.bind c4 (Ev.no (by simp) e))
    ·have l1 : lessS (w.2.2.2.getD (i - 1) (Ty.dflt YWatchRule)).1 (w.2.2.2.getD i (Ty.dflt YWatchRule)).1 = false := by rw [← Bool.not_eq_true]; exact l1
     have o0 : ordR w i = 8 := by unfold ordR; rw [if_pos ⟨by omega, l1⟩]
     rw [o0] at c4
     refine Chk.bad (c := 8) (by omega) (Ev.step (fun k => monitor_CheckWatch.c0_eq _ _ _ _ _ _ _ _ _) ?_) (Ev.step (fun k => perigeeref8_CheckWatch.c2_eq _ _ _ _ _ _) ?_)
     ·simp only [hp, Int.toNat_natCast]
      exact Ev.yes (by simp; omega) (Ev.yes (by omega) (Ev.bind c1 (Ev.no (by simp) (Ev.yes (by simp; omega) (Ev.yes (by omega) (Ev.yes (by rw [l1]; rfl) (Ev.now _)))))))
     ·exact Ev.yes (by simp; omega) (Ev.bind c4 (Ev.yes (by simp) (Ev.now _)))
 ·rw [List.take_length] at hm
  exact Chk.l (fun r e => Ev.step (fun k => monitor_CheckWatch.c0_eq _ _ _ _ _ _ _ _ _) (Ev.no (by simp) e)) (Chk.r (fun r e => Ev.step (fun k => perigeeref8_CheckWatch.c2_eq _ _ _ _ _ _) (Ev.no (by simp) e)) (acts_chk w rl h0 m hm))
theorem watch_twin (w : DWatch) (h0 : okT YWatch w) : ∃ c : Int, Ev (fun k => monitor_CheckWatch.f k w) (c, ()) ∧ Ev (fun k => perigeeref8_CheckWatch.f k w) (c, ()) := by
 have first : Chk (fun k => monitor_checkModes.f k w) (fun k => perigeeref8_CheckWatch.f k w) (fun k => if (decide (200 < (w.2.2.2.length : Int))) = true then some (2, ()) else perigeeref8_CheckWatch.c2 k w.1 w.2.1 w.2.2.1 w.2.2.2 0) := by
  refine Chk.l (fun r e => Ev.eq (fun k => monitor_checkModes.f_eq _ _) e) (Chk.r (fun r e => Ev.eq (fun k => perigeeref8_CheckWatch.f_eq _ _) e) ?_)
  by_cases m0 : (w.1.length : Int) = 0
  ·exact Chk.bad (c := 9) (by omega) (Ev.yes (decide_eq_true m0) (Ev.now _)) (Ev.yes (decide_eq_true m0) (Ev.now _))
  refine Chk.l (fun r e => Ev.no (fun h => m0 (of_decide_eq_true h)) e) (Chk.r (fun r e => Ev.no (fun h => m0 (of_decide_eq_true h)) e) ?_)
  by_cases m1 : 50 < (w.1.length : Int)
  ·exact Chk.bad (c := 2) (by omega) (Ev.yes (decide_eq_true m1) (Ev.now _)) (Ev.yes (decide_eq_true m1) (Ev.now _))
  refine Chk.l (fun r e => Ev.no (fun h => m1 (of_decide_eq_true h)) e) (Chk.r (fun r e => Ev.no (fun h => m1 (of_decide_eq_true h)) e) ?_)
  refine modes_chk w h0 (by omega) (g := fun k => if (decide (500 < (w.2.1.length : Int))) = true then some (2, ()) else monitor_checkModes.c1 k w.1 w.2.1 w.2.2.1 w.2.2.2 w.2.1 (w.2.1.length : Int) 0) (h := fun k => if (decide (500 < (w.2.1.length : Int))) = true then some (2, ()) else perigeeref8_CheckWatch.c1 k w.1 w.2.1 w.2.2.1 w.2.2.2 0) ?_ (fun k => by rw [monitor_checkModes.c0_eq, if_neg (by simp)]) (fun k => by rw [perigeeref8_CheckWatch.c0_eq, if_neg (by simp)])
  by_cases m2 : 500 < (w.2.1.length : Int)
  ·exact Chk.bad (c := 2) (by omega) (Ev.yes (decide_eq_true m2) (Ev.now _)) (Ev.yes (decide_eq_true m2) (Ev.now _))
  refine Chk.l (fun r e => Ev.no (fun h => m2 (of_decide_eq_true h)) e) (Chk.r (fun r e => Ev.no (fun h => m2 (of_decide_eq_true h)) e) ?_)
  refine changes_chk w h0 (by omega) (by omega) (g := fun k => (slices_Contains_string.f k w.1 w.2.2.1).bind fun r4 => if (!r4.1) = true then some (9, ()) else some (0, ())) (h := fun k => (perigeeref8_has.f k w.1 w.2.2.1).bind fun r3 => if (!r3.1) = true then some (9, ()) else if (decide (200 < (w.2.2.2.length : Int))) = true then some (2, ()) else perigeeref8_CheckWatch.c2 k w.1 w.2.1 w.2.2.1 w.2.2.2 0) ?_ (fun k => by rw [monitor_checkModes.c1_eq, if_neg (by simp)]) (fun k => by rw [perigeeref8_CheckWatch.c1_eq, if_neg (by simp)])
  by_cases m3 : w.2.2.1 ∈ w.1
  ·exact Chk.ok (Ev.bind (contains_ev _ _ (by omega)) (Ev.no (by simp [m3]) (Ev.now _))) fun r e => Ev.bind (rhas_ev _ _ (by omega)) (Ev.no (by simp [m3]) e)
  ·exact Chk.bad (c := 9) (by omega) (Ev.bind (contains_ev _ _ (by omega)) (Ev.yes (by simp [m3]) (Ev.now _))) (Ev.bind (rhas_ev _ _ (by omega)) (Ev.yes (by simp [m3]) (Ev.now _)))
 obtain ⟨c, c1, c2⟩ := first
 rcases c2 with ⟨c3, c4⟩ | ⟨c3, c4⟩
 ·exact ⟨c, Ev.eq (fun k => monitor_CheckWatch.f_eq _ _) (Ev.bind c1 (Ev.yes (by simpa using c3) (Ev.now _))), c4⟩
 subst c3
 obtain ⟨q, q1, q2⟩ := modes_ev w h0
 have e := q1.unique c1
 have ok := q2 (by rw [e])
 by_cases m4 : 200 < (w.2.2.2.length : Int)
 ·exact ⟨2, Ev.eq (fun k => monitor_CheckWatch.f_eq _ _) (Ev.bind c1 (Ev.no (by simp) (Ev.yes (decide_eq_true m4) (Ev.now _)))), c4 _ (Ev.yes (decide_eq_true m4) (Ev.now _))⟩
 obtain ⟨d, d1, d2⟩ := rules_chk w ok.ml (by omega) h0
 refine ⟨d, Ev.eq (fun k => monitor_CheckWatch.f_eq _ _) (Ev.bind c1 (Ev.no (by simp) (Ev.no (fun h => m4 (of_decide_eq_true h)) d1))), c4 _ (Ev.no (fun h => m4 (of_decide_eq_true h)) ?_)⟩
 rcases d2 with ⟨_, d3⟩ | ⟨d3, d4⟩
 ·exact d3
 ·subst d3; exact d4 _ (Ev.now _)
end Go.Proofs.Ytadhpgecilhgnaa.Pure

-- YtadhpgecilhgnaaQ28
set_option linter.unusedVariables false
set_option linter.unusedSimpArgs false
namespace Go.Proofs.Ytadhpgecilhgnaa.Pure
open Go Go.Proofs.Ytadhpgecilhgnaa.A
section
variable {w : DWatch}
def nmZ (w : DWatch) (v : Int) : S := (rul w v.toNat).1
def keepB (best r : List Int) : List Int := if r = [] then best else if best = [] then r else if r.length < best.length then r else best
def Good (w : DWatch) (l : List Int) : Prop := l.length ≤ 400 ∧ ∀ v ∈ l, 0 ≤ v ∧ v < nR w
theorem nxl_nx (ok : RulesOk w) : NxL (nxOf w) := by
 have rl := ok.rl
 have hnR : nR w = w.2.2.2.length := rfl
 refine ⟨by rw [nx_len]; omega, fun i hi => ?_⟩
 rw [nx_len] at hi
 rw [nx_get hi]
 refine ⟨row_len rl i, fun v hv => ?_⟩
 obtain ⟨k, e, h, _⟩ := mem_rowOf.1 hv
 rw [nx_len]
 omega
theorem rings_good (ok : RulesOk w) {f : Nat} (hf : f < nR w) : ∃ r : List Int, Good w r ∧ Ev (fun n => monitor_ring.f n (nxOf w) f) (r, ()) ∧ Ev (fun n => perigeeref8_ringOf.f n w f) (r, ()) := by
 obtain ⟨⟨r, u⟩, r1, r2, _⟩ := rings_agree ok hf
 obtain ⟨⟨s, v⟩, s1, s2⟩ := ring_ev (f := f) (nxl_nx ok) (by rw [nx_len]; omega)
 have e := r1.unique s1
 simp only [Prod.mk.injEq, and_true] at e
 subst e
 refine ⟨r, ?_, r1, r2⟩
 rcases s2 with e | ⟨e1, _, _, _, _, e2⟩
 ·have e : r = [] := e
  subst e
  exact ⟨by simp, fun v hv => (by cases hv)⟩
 ·exact ⟨e1, fun v hv => by have := e2 v hv; rw [nx_len] at this; omega⟩
theorem keep_good {a b : List Int} (ha : Good w a) (hb : Good w b) : Good w (keepB a b) := by
 unfold keepB
 split
 ·exact ha
 ·split
  ·exact hb
  ·split
   ·exact hb
   ·exact ha
theorem loops_end (ok : RulesOk w) {best : List Int} (hb : Good w best) :
 Ev (fun k => monitor_Loops.c1 k w.1 w.2.1 w.2.2.1 w.2.2.2 best [] best (best.length : Int) 0) (best.map (nmZ w), ((!(List.isEmpty best)), (0, ()))) ∧
 Ev (fun k => perigeeref8_Loops.c1 k w.1 w.2.1 w.2.2.1 w.2.2.2 best [] 0) (best.map (nmZ w), ((decide (0 < ((best.map (nmZ w)).length : Int))), (0, ()))) := by
 have hl := hb.1
 have take : ∀ (i : Nat) (v : Int) (vs : List Int) (s : List S), best.drop i = v :: vs → s = (best.take i).map (nmZ w) → s ++ [nmZ w v] = (best.take (i + 1)).map (nmZ w) := fun i v vs s hd hs => by
  rw [List.take_add_one, List.map_append, ← hs]
  have : best[i]? = some v := by
   have := congrArg (fun l => l[0]?) hd
   simpa using this
  rw [this]; rfl
 constructor
 ·exact Ev.rng (σ := List S) (0 : Int) best (by omega) (g := fun k s i => monitor_Loops.c1 k w.1 w.2.1 w.2.2.1 w.2.2.2 best s best (best.length : Int) i) (fun k s i => monitor_Loops.c1_eq _ _ _ _ _ _ _ _ _ _)
   (fun i s => s = (best.take i).map (nmZ w)) (fun _ _ _ => (best.map (nmZ w), ((!(List.isEmpty best)), (0, ())))) (fun s hs => by
    rw [hs, List.take_length]; exact Ev.now _) (fun i v vs s hi hv hd hget hw hs next => by
    simp only [Int.toNat_natCast, hget, hw]
    have hsl : s.length ≤ 400 := by rw [hs, List.length_map]; exact Nat.le_trans (List.length_take_le _ _) (by omega)
    exact Ev.yes (hb.2 v hv) (Ev.yes (by omega) (next _ (take i v vs s hd hs)))) 0 [] (by omega) (by rfl)
 ·exact Ev.rng (σ := List S) (0 : Int) best (by omega) (g := fun k s i => perigeeref8_Loops.c1 k w.1 w.2.1 w.2.2.1 w.2.2.2 best s i) (fun k s i => perigeeref8_Loops.c1_eq _ _ _ _ _ _ _ _)
   (fun i s => s = (best.take i).map (nmZ w)) (fun _ _ _ => (best.map (nmZ w), ((decide (0 < ((best.map (nmZ w)).length : Int))), (0, ())))) (fun s hs => by
    rw [hs, List.take_length]; exact Ev.now _) (fun i v vs s hi hv hd hget hw hs next => by
    simp only [Int.toNat_natCast, hget, hw]
    have hsl : s.length ≤ 400 := by rw [hs, List.length_map]; exact Nat.le_trans (List.length_take_le _ _) (by omega)
    exact Ev.yes (hb.2 v hv) (Ev.yes (by omega) (next _ (take i v vs s hd hs)))) 0 [] (by omega) (by rfl)
theorem loops_both (ok : RulesOk w) : ∀ (d i : Nat) (best : List Int), i + d = nR w → Good w best → ∃ b : List Int, Good w b ∧
 Ev (fun k => monitor_Loops.c0 k w.1 w.2.1 w.2.2.1 w.2.2.2 (nxOf w) best (w.2.2.2.length : Int) (i : Int)) (b.map (nmZ w), ((!(List.isEmpty b)), (0, ()))) ∧
 Ev (fun k => perigeeref8_Loops.c0 k w.1 w.2.1 w.2.2.1 w.2.2.2 best (i : Int)) (b.map (nmZ w), ((decide (0 < ((b.map (nmZ w)).length : Int))), (0, ()))) := by
 have rl := ok.rl
 have hnR : nR w = w.2.2.2.length := rfl
 intro d
 induction d with
 | zero =>
  intro i best hi hb
  obtain ⟨e1, e2⟩ := loops_end ok hb
  exact ⟨best, hb, Ev.step (fun k => monitor_Loops.c0_eq _ _ _ _ _ _ _ _ _) (Ev.no (by simp; omega) e1), Ev.step (fun k => perigeeref8_Loops.c0_eq _ _ _ _ _ _ _) (Ev.no (by simp; omega) e2)⟩
 | succ d ih =>
  intro i best hi hb
  have hwi : IntKind.wrap .i64 ((i : Int) + 1) = ((i + 1 : Nat) : Int) := by rw [w64 (by omega) (by omega)]; omega
  obtain ⟨r, r0, r1, r2⟩ := rings_good ok (f := i) (by omega)
  obtain ⟨b, b0, b1, b2⟩ := ih (i + 1) (keepB best r) (by omega) (keep_good hb r0)
  refine ⟨b, b0, Ev.step (fun k => monitor_Loops.c0_eq _ _ _ _ _ _ _ _ _) (Ev.yes (decide_eq_true (by omega)) (Ev.bind r1 ?_)), Ev.step (fun k => perigeeref8_Loops.c0_eq _ _ _ _ _ _ _) (Ev.yes (decide_eq_true (by omega)) (Ev.bind r2 ?_))⟩
  ·rw [hwi]
   unfold keepB at b1
   cases r with
   | nil => exact Ev.no (by simp) b1
   | cons x xs =>
    cases best with
    | nil => exact Ev.yes rfl (Ev.yes rfl b1)
    | cons y ys =>
     rw [if_neg (by simp), if_neg (by simp)] at b1
     refine Ev.yes rfl (Ev.no (by simp) ?_)
     by_cases h : (x :: xs).length < (y :: ys).length
     ·rw [if_pos h] at b1
      have h2 : ((x :: xs).length : Int) < ((y :: ys).length : Int) := by omega
      exact Ev.yes (decide_eq_true h2) b1
     ·rw [if_neg h] at b1
      have h2 : ¬ ((x :: xs).length : Int) < ((y :: ys).length : Int) := by omega
      exact Ev.no (fun h' => h2 (of_decide_eq_true h')) b1
  ·rw [hwi]
   unfold keepB at b2
   cases r with
   | nil => exact Ev.no (by simp) b2
   | cons x xs =>
    cases best with
    | nil => exact Ev.yes (decide_eq_true (by simp)) (Ev.yes rfl b2)
    | cons y ys =>
     rw [if_neg (by simp), if_neg (by simp)] at b2
     refine Ev.yes (decide_eq_true (by simp only [List.length_cons]; omega)) (Ev.no (fun h => by have := of_decide_eq_true h; simp only [List.length_cons] at this; omega) ?_)
     by_cases h : (x :: xs).length < (y :: ys).length
     ·rw [if_pos h] at b2
      have h2 : ((x :: xs).length : Int) < ((y :: ys).length : Int) := by omega
      exact Ev.yes (decide_eq_true h2) b2
     ·rw [if_neg h] at b2
      have h2 : ¬ ((x :: xs).length : Int) < ((y :: ys).length : Int) := by omega
      exact Ev.no (fun h' => h2 (of_decide_eq_true h')) b2
end
end Go.Proofs.Ytadhpgecilhgnaa.Pure

-- YtadhpgecilhgnaaQ29
set_option linter.unusedVariables false
set_option linter.unusedSimpArgs false
namespace Go.Proofs.Ytadhpgecilhgnaa.Pure
open Go Go.Proofs.Ytadhpgecilhgnaa.A
theorem loops_agree {w : DWatch} {c : Int} (h0 : okT YWatch w) (h1 : Ev (fun k => monitor_CheckWatch.f k w) (c, ())) (h2 : Ev (fun k => perigeeref8_CheckWatch.f k w) (c, ())) :
 ∃ r : List S × Bool × Int × Unit, r.1.length ≤ 400 ∧ Ev (fun k => monitor_Loops.f k w) r ∧ Ev (fun k => perigeeref8_Loops.f k w) r := by
 by_cases c0 : c = 0
 case neg => exact ⟨([], (false, (c, ()))), by simp, Ev.eq (fun k => monitor_Loops.f_eq _ _) (Ev.bind h1 (Ev.yes (by simpa using c0) (Ev.now _))), Ev.eq (fun k => perigeeref8_Loops.f_eq _ _) (Ev.bind h2 (Ev.yes (by simpa using c0) (Ev.now _)))⟩
 have ok := watch_rules w h0 h1 c0
 obtain ⟨b, b0, b1, b2⟩ := loops_both ok (nR w) 0 [] (by omega) ⟨by simp, fun v hv => (by cases hv)⟩
 have e : (decide (0 < ((b.map (nmZ w)).length : Int))) = (!(List.isEmpty b)) := by
  cases b with
  | nil => rfl
  | cons _ _ => exact decide_eq_true (by simp only [List.map_cons, List.length_cons]; omega)
 rw [e] at b2
 refine ⟨_, ?_, Ev.eq (fun k => monitor_Loops.f_eq _ _) (Ev.bind h1 (Ev.no (by simp [c0]) (Ev.bind (sets_is w ok) b1))), Ev.eq (fun k => perigeeref8_Loops.f_eq _ _) (Ev.bind h2 (Ev.no (by simp [c0]) b2))⟩
 rw [List.length_map]; exact b0.1
end Go.Proofs.Ytadhpgecilhgnaa.Pure

-- YtadhpgecilhgnaaQ30
set_option linter.unusedVariables false
set_option linter.unusedSimpArgs false
namespace Go.Proofs.Ytadhpgecilhgnaa.Pure
open Go Go.Proofs.Ytadhpgecilhgnaa.A
inductive CanE (w : DWatch) (l : List S) : S → Prop
 | ev {e : S} (h : e ∈ l) : CanE w l e
 | rs {i : Nat} {a : DAct} (hi : i < nR w) (h : CanE w l (rul w i).2.1) (ha : a ∈ (rul w i).2.2.2.2) (h1 : a.1 = 1) : CanE w l a.2.1
theorem CanE.closed {w : DWatch} {l : List S} {p : S → Prop} (h0 : ∀ e ∈ l, p e) (h1 : ∀ i, i < nR w → p (rul w i).2.1 → ∀ a ∈ (rul w i).2.2.2.2, a.1 = 1 → p a.2.1) {e : S} (h : CanE w l e) : p e := by
 induction h with
 | ev h => exact h0 _ h
 | rs hi _ ha h1' ih => exact h1 _ hi ih _ ha h1'
end Go.Proofs.Ytadhpgecilhgnaa.Pure

-- YtadhpgecilhgnaaQ31
set_option linter.unusedVariables false
set_option linter.unusedSimpArgs false
namespace Go.Proofs.Ytadhpgecilhgnaa.Pure
open Go Go.Proofs.Ytadhpgecilhgnaa.A
theorem never_events {w : DWatch} (l : List S) (hl : l.length ≤ 200) (ho : ∀ e ∈ l, e.length ≤ 140737488351232) (rl : w.2.2.2.length ≤ 200) :
 (∃ c : Int, Ev (fun k => monitor_Never.c0 k l w.1 w.2.1 w.2.2.1 w.2.2.2 [] l (l.length : Int) 0) ([], (c, ())) ∧ Ev (fun k => perigeeref8_Never.c0 k l w.1 w.2.1 w.2.2.1 w.2.2.2 0) ([], (c, ()))) ∨
 (∃ m : List (S × Bool), (∀ e, (lk m e).getD false = true ↔ e ∈ l) ∧ (∀ r, Ev (fun k => monitor_Never.c1 k w.1 w.2.1 w.2.2.1 w.2.2.2 m (List.replicate w.2.2.2.length false) true) r → Ev (fun k => monitor_Never.c0 k l w.1 w.2.1 w.2.2.1 w.2.2.2 [] l (l.length : Int) 0) r) ∧
  ∀ r, Ev (fun k => perigeeref8_Never.c1 k w.1 w.2.1 w.2.2.1 w.2.2.2 l (List.replicate w.2.2.2.length false) 0) r → Ev (fun k => perigeeref8_Never.c0 k l w.1 w.2.1 w.2.2.1 w.2.2.2 0) r) := by
 have loop : ∀ (d i : Nat) (m : List (S × Bool)), i + d = l.length → (∀ e, (lk m e).getD false = true ↔ e ∈ l.take i) →
  (∃ c : Int, Ev (fun k => monitor_Never.c0 k l w.1 w.2.1 w.2.2.1 w.2.2.2 m l (l.length : Int) (i : Int)) ([], (c, ())) ∧ Ev (fun k => perigeeref8_Never.c0 k l w.1 w.2.1 w.2.2.1 w.2.2.2 (i : Int)) ([], (c, ()))) ∨
  (∃ m' : List (S × Bool), (∀ e, (lk m' e).getD false = true ↔ e ∈ l) ∧ (∀ r, Ev (fun k => monitor_Never.c1 k w.1 w.2.1 w.2.2.1 w.2.2.2 m' (List.replicate w.2.2.2.length false) true) r → Ev (fun k => monitor_Never.c0 k l w.1 w.2.1 w.2.2.1 w.2.2.2 m l (l.length : Int) (i : Int)) r) ∧
   ∀ r, Ev (fun k => perigeeref8_Never.c1 k w.1 w.2.1 w.2.2.1 w.2.2.2 l (List.replicate w.2.2.2.length false) 0) r → Ev (fun k => perigeeref8_Never.c0 k l w.1 w.2.1 w.2.2.1 w.2.2.2 (i : Int)) r) := by
  intro d
  induction d with
  | zero =>
   intro i m hi hm
   rw [List.take_of_length_le (by omega)] at hm
   refine .inr ⟨m, hm, fun r e => Ev.step (fun k => monitor_Never.c0_eq _ _ _ _ _ _ _ _ _ _) (Ev.no (by simp; omega) (Ev.yes (by omega) (by rw [Int.toNat_natCast]; exact e))), fun r e => Ev.step (fun k => perigeeref8_Never.c0_eq _ _ _ _ _ _ _) (Ev.no (by simp; omega) (Ev.yes (by omega) (Ev.yes (by omega) (by rw [Int.toNat_natCast]; exact e))))⟩
  | succ d ih =>
   intro i m hi hm
   have hil : i < l.length := by omega
   have hw : IntKind.wrap .i64 ((i : Int) + 1) = ((i + 1 : Nat) : Int) := by rw [w64 (by omega) (by omega)]; omega
   have hx := ho _ (getD_mem (z := []) hil)
   have hg : l[i]? = some (l.getD i []) := by rw [getD_nat _ _ _ hil, List.getElem?_eq_getElem hil]
   generalize hcc : l.getD i [] = x at hx hg
   obtain ⟨n1, _⟩ := name_ev x hx
   have n2 := rname_ev x hx
   by_cases a1 : isNm x = true
   case neg =>
    refine .inl ⟨5, Ev.step (fun k => monitor_Never.c0_eq _ _ _ _ _ _ _ _ _ _) ?_, Ev.step (fun k => perigeeref8_Never.c0_eq _ _ _ _ _ _ _) ?_⟩
    ·simp only [Int.toNat_natCast, hcc]
     exact Ev.yes (decide_eq_true (by omega)) (Ev.yes (by omega) (Ev.bind n1 (Ev.yes (by simpa using a1) (Ev.now _))))
    ·simp only [Int.toNat_natCast, hcc]
     exact Ev.yes (decide_eq_true (by omega)) (Ev.yes (by omega) (Ev.bind n2 (Ev.yes (by simpa using a1) (Ev.now _))))
   have nxt := ih (i + 1) (mapPut .str .bool x true m) (by omega) (fun e => by
    rw [lk_put (σ := .bool), List.take_add_one, hg]
    split
    ·rename_i h
     subst h
     simp
    ·rename_i h
     rw [hm]
     simp [Ne.symm h])
   by_cases i0 : i = 0
   ·subst i0
    refine nxt.imp (fun ⟨c, c1, c2⟩ => ⟨c, Ev.step (fun k => monitor_Never.c0_eq _ _ _ _ _ _ _ _ _ _) ?_, Ev.step (fun k => perigeeref8_Never.c0_eq _ _ _ _ _ _ _) ?_⟩) (fun ⟨m', m1, m2, m3⟩ => ⟨m', m1, fun r e => Ev.step (fun k => monitor_Never.c0_eq _ _ _ _ _ _ _ _ _ _) ?_, fun r e => Ev.step (fun k => perigeeref8_Never.c0_eq _ _ _ _ _ _ _) ?_⟩)
    all_goals simp only [Int.toNat_natCast, hcc, hw]
    ·exact Ev.yes (decide_eq_true (by omega)) (Ev.yes (by omega) (Ev.bind n1 (Ev.no (by simp [a1]) (Ev.no (by simp) c1))))
    ·exact Ev.yes (decide_eq_true (by omega)) (Ev.yes (by omega) (Ev.bind n2 (Ev.no (by simp [a1]) (Ev.no (by simp) c2))))
    ·exact Ev.yes (decide_eq_true (by omega)) (Ev.yes (by omega) (Ev.bind n1 (Ev.no (by simp [a1]) (Ev.no (by simp) (m2 r e)))))
    ·exact Ev.yes (decide_eq_true (by omega)) (Ev.yes (by omega) (Ev.bind n2 (Ev.no (by simp [a1]) (Ev.no (by simp) (m3 r e)))))
   have hp := wpred i0 (by omega)
   by_cases l1 : lessS (l.getD (i - 1) []) x = true
   ·refine nxt.imp (fun ⟨c, c1, c2⟩ => ⟨c, Ev.step (fun k => monitor_Never.c0_eq _ _ _ _ _ _ _ _ _ _) ?_, Ev.step (fun k => perigeeref8_Never.c0_eq _ _ _ _ _ _ _) ?_⟩) (fun ⟨m', m1, m2, m3⟩ => ⟨m', m1, fun r e => Ev.step (fun k => monitor_Never.c0_eq _ _ _ _ _ _ _ _ _ _) ?_, fun r e => Ev.step (fun k => perigeeref8_Never.c0_eq _ _ _ _ _ _ _) ?_⟩)
    all_goals simp only [Int.toNat_natCast, hcc, hw, hp]
    ·exact Ev.yes (decide_eq_true (by omega)) (Ev.yes (by omega) (Ev.bind n1 (Ev.no (by simp [a1]) (Ev.yes (decide_eq_true (by omega)) (Ev.yes (by omega) (Ev.no (fun h => by rw [l1] at h; cases h) c1))))))
    ·exact Ev.yes (decide_eq_true (by omega)) (Ev.yes (by omega) (Ev.bind n2 (Ev.no (by simp [a1]) (Ev.yes (decide_eq_true (by omega)) (Ev.yes (by omega) (Ev.yes (by omega) (Ev.no (fun h => by rw [l1] at h; cases h) c2)))))))
    ·exact Ev.yes (decide_eq_true (by omega)) (Ev.yes (by omega) (Ev.bind n1 (Ev.no (by simp [a1]) (Ev.yes (decide_eq_true (by omega)) (Ev.yes (by omega) (Ev.no (fun h => by rw [l1] at h; cases h) (m2 r e)))))))
    ·exact Ev.yes (decide_eq_true (by omega)) (Ev.yes (by omega) (Ev.bind n2 (Ev.no (by simp [a1]) (Ev.yes (decide_eq_true (by omega)) (Ev.yes (by omega) (Ev.yes (by omega) (Ev.no (fun h => by rw [l1] at h; cases h) (m3 r e))))))))
   ·refine .inl ⟨8, Ev.step (fun k => monitor_Never.c0_eq _ _ _ _ _ _ _ _ _ _) ?_, Ev.step (fun k => perigeeref8_Never.c0_eq _ _ _ _ _ _ _) ?_⟩
    all_goals simp only [Int.toNat_natCast, hcc, hp]
    ·exact Ev.yes (decide_eq_true (by omega)) (Ev.yes (by omega) (Ev.bind n1 (Ev.no (by simp [a1]) (Ev.yes (decide_eq_true (by omega)) (Ev.yes (by omega) (Ev.yes (by simpa using l1) (Ev.now _)))))))
    ·exact Ev.yes (decide_eq_true (by omega)) (Ev.yes (by omega) (Ev.bind n2 (Ev.no (by simp [a1]) (Ev.yes (decide_eq_true (by omega)) (Ev.yes (by omega) (Ev.yes (by omega) (Ev.yes (by simpa using l1) (Ev.now _))))))))
 exact loop l.length 0 [] (by omega) (fun e => by simp [lk])
end Go.Proofs.Ytadhpgecilhgnaa.Pure

-- YtadhpgecilhgnaaQ32
set_option linter.unusedVariables false
set_option linter.unusedSimpArgs false
namespace Go.Proofs.Ytadhpgecilhgnaa.Pure
open Go Go.Proofs.Ytadhpgecilhgnaa.A
section
variable {w : DWatch} {l : List S}
abbrev canM (m : List (S × Bool)) (e : S) : Prop := (lk m e).getD false = true
structure NI (w : DWatch) (l : List S) (m : List (S × Bool)) (fi : List Bool) : Prop where
 len : fi.length = nR w
 a : ∀ e, canM m e → CanE w l e
 b : ∀ e ∈ l, canM m e
 c : ∀ i, i < nR w → fi.getD i false = true → canM m (rul w i).2.1 ∧ ∀ x ∈ (rul w i).2.2.2.2, x.1 = 1 → canM m x.2.1
open Classical in
noncomputable def nevers (w : DWatch) (l : List S) : List S := ((List.range (nR w)).filter fun i => decide (¬ CanE w l (rul w i).2.1)).map fun i => (rul w i).1
theorem ni_done {m : List (S × Bool)} {fi : List Bool} (h : NI w l m fi) (hc : ∀ i, i < nR w → fi.getD i false = true ∨ ¬ canM m (rul w i).2.1) {i : Nat} (hi : i < nR w) : fi.getD i false = true ↔ CanE w l (rul w i).2.1 := by
 have all : ∀ e, CanE w l e → canM m e := fun e he => he.closed (p := canM m) h.b fun j hj hp x hx h1 => by
  rcases hc j hj with h2 | h2
  ·exact (h.c j hj h2).2 x hx h1
  ·exact absurd hp h2
 constructor
 ·intro h1
  exact h.a _ (h.c i hi h1).1
 ·intro h1
  rcases hc i hi with h2 | h2
  ·exact h2
  ·exact absurd (all _ h1) h2
def unf (w : DWatch) (fi : List Bool) : Nat := ((List.range (nR w)).filter fun i => !(fi.getD i false)).length
theorem getB_set {fi : List Bool} {i j : Nat} (hi : i < fi.length) : (fi.set i true).getD j false = if i = j then true else fi.getD j false := by
 rw [List.getD_eq_getElem?_getD, List.getD_eq_getElem?_getD, List.getElem?_set]
 by_cases e : i = j
 ·subst e
  rw [if_pos rfl, if_pos rfl, if_pos hi]; rfl
 ·rw [if_neg e, if_neg e]
theorem unf_set {fi : List Bool} {i : Nat} (hl : fi.length = nR w) (hi : i < nR w) (hn : fi.getD i false = false) : unf w (fi.set i true) < unf w fi := by
 unfold unf
 refine filter_less (fun j _ hj => ?_) ⟨i, List.mem_range.2 hi, by rw [hn]; rfl, by rw [getB_set (by omega), if_pos rfl]; rfl⟩
 rw [getB_set (by omega)] at hj
 split at hj
 ·cases hj
 ·exact hj
open Classical in
theorem mnever_end (ok : RulesOk w) {m : List (S × Bool)} {fi : List Bool} (h : NI w l m fi) (hc : ∀ i, i < nR w → fi.getD i false = true ∨ ¬ canM m (rul w i).2.1) : Ev (fun k => monitor_Never.c3 k fi [] w.2.2.2 (w.2.2.2.length : Int) 0) (nevers w l, (0, ())) := by
 have rl := ok.rl
 have hnR : nR w = w.2.2.2.length := rfl
 have h := Ev.rng (σ := List S) (Ty.dflt YWatchRule) w.2.2.2 (by omega) (g := fun k s i => monitor_Never.c3 k fi s w.2.2.2 (w.2.2.2.length : Int) i) (fun k s i => monitor_Never.c3_eq _ _ _ _ _ _)
  (fun i s => s = ((List.range i).filter fun j => decide (¬ CanE w l (rul w j).2.1)).map fun j => (rul w j).1) (fun _ _ _ => (nevers w l, (0, ()))) (fun s hs => by rw [hs]; exact Ev.now _) (fun i x xs s hi hx hd hget hw hs next => by
   simp only [Int.toNat_natCast, hget, hw]
   have hsl : s.length ≤ 200 := by
    rw [hs, List.length_map]
    exact Nat.le_trans (List.length_filter_le _ _) (by rw [List.length_range]; omega)
   have key := ni_done h hc (i := i) (by omega)
   have hxi : rul w i = x := hget
   refine Ev.yes (by rw [h.len]; omega) ?_
   cases hf : fi.getD i false with
   | true =>
    have hcn := key.1 hf
    refine Ev.no (by simp) (next s ?_)
    rw [List.range_succ, List.filter_append, List.map_append, ← hs, List.filter_cons_of_neg (by simpa using hcn)]; simp
   | false =>
    have hcn : ¬ CanE w l (rul w i).2.1 := fun h' => by rw [key.2 h'] at hf; cases hf
    refine Ev.yes rfl (Ev.yes (by omega) (next _ ?_))
    rw [List.range_succ, List.filter_append, List.map_append, ← hs, List.filter_cons_of_pos (by simpa using hcn), ← hxi]; rfl) 0 [] (by omega) (by rfl)
 exact h
end
end Go.Proofs.Ytadhpgecilhgnaa.Pure

-- YtadhpgecilhgnaaQ33
set_option linter.unusedVariables false
set_option linter.unusedSimpArgs false
namespace Go.Proofs.Ytadhpgecilhgnaa.Pure
open Go Go.Proofs.Ytadhpgecilhgnaa.A
section
variable {w : DWatch} {l : List S}
theorem ni_fire {m m' : List (S × Bool)} {fi : List Bool} {i : Nat} (h : NI w l m fi) (hi : i < nR w) (hc : canM m (rul w i).2.1) (hm : ∀ e, canM m' e ↔ (canM m e ∨ ∃ a ∈ (rul w i).2.2.2.2, a.1 = 1 ∧ a.2.1 = e)) : NI w l m' (fi.set i true) := by
 refine ⟨by rw [List.length_set]; exact h.len, fun e he => ?_, fun e he => (hm e).2 (.inl (h.b e he)), fun j hj hf => ?_⟩
 ·rcases (hm e).1 he with h1 | ⟨a, a1, a2, a3⟩
  ·exact h.a e h1
  ·rw [← a3]
   exact .rs hi (h.a _ hc) a1 a2
 ·rw [getB_set (by rw [h.len]; exact hi)] at hf
  by_cases e : i = j
  ·subst e
   exact ⟨(hm _).2 (.inl hc), fun x hx h1 => (hm _).2 (.inr ⟨x, hx, h1, rfl⟩)⟩
  ·rw [if_neg e] at hf
   obtain ⟨c1, c2⟩ := h.c j hj hf
   exact ⟨(hm _).2 (.inl c1), fun x hx h1 => (hm _).2 (.inl (c2 x hx h1))⟩
theorem mnever_acts (ok : RulesOk w) {fi : List Bool} {i : Nat} (hi : i < nR w) {r : List S × Int × Unit} (m : List (S × Bool))
 (fin : ∀ m', (∀ e, canM m' e ↔ (canM m e ∨ ∃ a ∈ (rul w i).2.2.2.2, a.1 = 1 ∧ a.2.1 = e)) → Ev (fun k => monitor_Never.c2 k w.1 w.2.1 w.2.2.1 w.2.2.2 m' fi true w.2.2.2 (w.2.2.2.length : Int) (IntKind.wrap .i64 ((i : Int) + 1))) r) :
 Ev (fun k => monitor_Never.c5 k w.1 w.2.1 w.2.2.1 w.2.2.2 m fi true w.2.2.2 (w.2.2.2.length : Int) (i : Int) (rul w i).2.2.2.2 ((rul w i).2.2.2.2.length : Int) 0) r := by
 have al := (ok.ac i hi).1
 have h := Ev.rng (σ := List (S × Bool)) (Ty.dflt YAct) (rul w i).2.2.2.2 (by omega) (g := fun k s j => monitor_Never.c5 k w.1 w.2.1 w.2.2.1 w.2.2.2 s fi true w.2.2.2 (w.2.2.2.length : Int) (i : Int) (rul w i).2.2.2.2 ((rul w i).2.2.2.2.length : Int) j) (fun k s j => monitor_Never.c5_eq _ _ _ _ _ _ _ _ _ _ _ _ _ _)
  (fun j s => ∀ e, canM s e ↔ (canM m e ∨ ∃ a ∈ (rul w i).2.2.2.2.take j, a.1 = 1 ∧ a.2.1 = e)) (fun _ _ _ => r) (fun s hs => by
   rw [List.take_length] at hs
   exact fin s hs) (fun j a rest s hj ha hd hget hw hs next => by
   simp only [Int.toNat_natCast, hget, hw]
   have hja : (rul w i).2.2.2.2[j]? = some a := by
    have := congrArg (fun l => l[0]?) hd
    simpa using this
   have ht : (rul w i).2.2.2.2.take (j + 1) = (rul w i).2.2.2.2.take j ++ [a] := by rw [List.take_add_one, hja]; rfl
   by_cases h1 : a.1 = 1
   ·refine Ev.yes (decide_eq_true h1) (next _ fun e => ?_)
    unfold canM at hs ⊢
    rw [lk_put (σ := .bool), ht]
    by_cases h2 : a.2.1 = e
    ·rw [if_pos h2]
     simp only [Option.getD_some, true_iff]
     exact .inr ⟨a, List.mem_append_right _ (by simp), h1, h2⟩
    ·rw [if_neg h2, hs]
     refine or_congr Iff.rfl ⟨fun ⟨b, b1, b2⟩ => ⟨b, List.mem_append_left _ b1, b2⟩, fun ⟨b, b1, b2, b3⟩ => ?_⟩
     rcases List.mem_append.1 b1 with b1 | b1
     ·exact ⟨b, b1, b2, b3⟩
     ·simp at b1
      subst b1
      exact absurd b3 h2
   ·refine Ev.no (fun h => h1 (of_decide_eq_true h)) (next _ fun e => ?_)
    rw [hs, ht]
    refine or_congr Iff.rfl ⟨fun ⟨b, b1, b2⟩ => ⟨b, List.mem_append_left _ b1, b2⟩, fun ⟨b, b1, b2, b3⟩ => ?_⟩
    rcases List.mem_append.1 b1 with b1 | b1
    ·exact ⟨b, b1, b2, b3⟩
    ·simp at b1
     subst b1
     exact absurd b2 h1) 0 m (by omega) (fun e => by simp)
 exact h
theorem mnever_pass (ok : RulesOk w) : ∀ (d : Nat) (m : List (S × Bool)) (fi : List Bool), NI w l m fi → unf w fi ≤ d → Ev (fun k => monitor_Never.c1 k w.1 w.2.1 w.2.2.1 w.2.2.2 m fi true) (nevers w l, (0, ())) := by
 have rl := ok.rl
 have hnR : nR w = w.2.2.2.length := rfl
 have body : ∀ (m : List (S × Bool)) (fi : List Bool), NI w l m fi → (∀ m' fi', NI w l m' fi' → unf w fi' < unf w fi → Ev (fun k => monitor_Never.c1 k w.1 w.2.1 w.2.2.1 w.2.2.2 m' fi' true) (nevers w l, (0, ()))) → Ev (fun k => monitor_Never.c1 k w.1 w.2.1 w.2.2.1 w.2.2.2 m fi true) (nevers w l, (0, ())) := fun m fi h ih => by
  refine Ev.step (fun k => monitor_Never.c1_eq _ _ _ _ _ _ _ _) (Ev.yes rfl ?_)
  have hh := Ev.rng (σ := List (S × Bool) × List Bool × Bool) (Ty.dflt YWatchRule) w.2.2.2 (by omega) (g := fun k s i => monitor_Never.c2 k w.1 w.2.1 w.2.2.1 w.2.2.2 s.1 s.2.1 s.2.2 w.2.2.2 (w.2.2.2.length : Int) i) (fun k s i => monitor_Never.c2_eq _ _ _ _ _ _ _ _ _ _ _)
   (fun i s => NI w l s.1 s.2.1 ∧ (s.2.2 = true → unf w s.2.1 < unf w fi) ∧ (s.2.2 = false → s.1 = m ∧ s.2.1 = fi ∧ ∀ j, j < i → fi.getD j false = true ∨ ¬ canM m (rul w j).2.1) ∧ unf w s.2.1 ≤ unf w fi) (fun _ _ _ => (nevers w l, (0, ()))) (fun s hs => ?_) (fun i x xs s hi hx hd hget hw hs next => ?_) 0 (m, (fi, false)) (by omega) ⟨h, fun e => (by cases e), fun _ => ⟨rfl, rfl, fun j hj => by omega⟩, Nat.le_refl _⟩
  ·exact hh
  ·obtain ⟨s1, s2, s3⟩ := s
   obtain ⟨h1, h2, h3, _⟩ := hs
   cases s3 with
   | true => exact ih s1 s2 h1 (h2 rfl)
   | false =>
    obtain ⟨e1, e2, e3⟩ := h3 rfl
    simp only at e1 e2
    subst e1; subst e2
    refine Ev.step (fun k => monitor_Never.c1_eq _ _ _ _ _ _ _ _) (Ev.no (by simp) ?_)
    exact mnever_end ok h1 e3
  ·obtain ⟨s1, s2, s3⟩ := s
   obtain ⟨h1, h2, h3, h4⟩ := hs
   simp only at h1 h2 h3 h4
   simp only [Int.toNat_natCast, hget]
   have hxi : rul w i = x := hget
   refine Ev.yes (by rw [h1.len]; omega) ?_
   rw [get_lk (σ := .bool)]
   have skip : (s3 = false → fi.getD i false = true ∨ ¬ canM m (rul w i).2.1) → Ev (fun k => monitor_Never.c2 k w.1 w.2.1 w.2.2.1 w.2.2.2 s1 s2 s3 w.2.2.2 (w.2.2.2.length : Int) ((i : Int) + 1)) (nevers w l, (0, ())) := fun hk => next (s1, (s2, s3)) ⟨h1, h2, fun e => by
    obtain ⟨a, b, c⟩ := h3 e
    refine ⟨a, b, fun j hj => ?_⟩
    by_cases ej : j = i
    ·subst ej; exact hk e
    ·exact c j (by omega), h4⟩
   cases hf : s2.getD i false with
   | true =>
    refine Ev.yes rfl ?_
    rw [hw]
    exact skip fun e => by
     obtain ⟨_, b, _⟩ := h3 e
     rw [← b]; exact .inl hf
   | false =>
    refine Ev.no (by simp) ?_
    by_cases hc : (lk s1 x.2.1).getD false = true
    case neg =>
     refine Ev.yes (by simpa using hc) ?_
     rw [hw]
     exact skip fun e => by
      obtain ⟨a, _, _⟩ := h3 e
      rw [← a, hxi]; exact .inr hc
    refine Ev.no (by simp [hc]) (Ev.step (fun k => monitor_Never.c4_eq _ _ _ _ _ _ _ _ _ _ _ _ _ _ _ _) (Ev.yes (by rw [h1.len]; omega) ?_))
    rw [Int.toNat_natCast, ← hxi]
    refine mnever_acts ok (by omega) s1 fun m' hm' => ?_
    rw [hw]
    refine next (m', (s2.set i true, true)) ⟨ni_fire h1 (by omega) (by rw [hxi]; exact hc) hm', fun _ => ?_, fun e => (by cases e), ?_⟩
    ·have := unf_set (w := w) h1.len (show i < nR w by omega) hf
     show unf w (s2.set i true) < unf w fi
     omega
    ·have := unf_set (w := w) h1.len (show i < nR w by omega) hf
     show unf w (s2.set i true) ≤ unf w fi
     omega
 intro d
 induction d with
 | zero => exact fun m fi h hd => body m fi h fun m' fi' h' hlt => by omega
 | succ d ih => exact fun m fi h hd => body m fi h fun m' fi' h' hlt => ih m' fi' h' (by omega)
end
end Go.Proofs.Ytadhpgecilhgnaa.Pure

-- YtadhpgecilhgnaaQ34
set_option linter.unusedVariables false
set_option linter.unusedSimpArgs false
namespace Go.Proofs.Ytadhpgecilhgnaa.Pure
open Go Go.Proofs.Ytadhpgecilhgnaa.A
section
variable {w : DWatch} {l : List S}
structure QI (w : DWatch) (l Q : List S) (fi : List Bool) (t : Nat) : Prop where
 len : fi.length = nR w
 a : ∀ e ∈ Q, CanE w l e
 b : ∀ e ∈ l, e ∈ Q
 c : ∀ i, i < nR w → fi.getD i false = true → (rul w i).2.1 ∈ Q ∧ ∀ x ∈ (rul w i).2.2.2.2, x.1 = 1 → x.2.1 ∈ Q
 d : ∀ e ∈ Q.take t, ∀ i, i < nR w → (rul w i).2.1 = e → fi.getD i false = true
 s : Q.length + unf w fi * 10 ≤ 2200
theorem qi_done {Q : List S} {fi : List Bool} {t : Nat} (h : QI w l Q fi t) (ht : Q.length ≤ t) {i : Nat} (hi : i < nR w) : fi.getD i false = true ↔ CanE w l (rul w i).2.1 := by
 have hd := h.d
 rw [List.take_of_length_le ht] at hd
 have all : ∀ e, CanE w l e → e ∈ Q := fun e he => he.closed (p := fun e => e ∈ Q) h.b fun j hj hp x hx h1 => (h.c j hj (hd _ hp j hj rfl)).2 x hx h1
 exact ⟨fun h1 => h.a _ (h.c i hi h1).1, fun h1 => hd _ (all _ h1) i hi rfl⟩
open Classical in
theorem rnever_end (ok : RulesOk w) {fi : List Bool} (hl : fi.length = nR w) (hc : ∀ i, i < nR w → (fi.getD i false = true ↔ CanE w l (rul w i).2.1)) : Ev (fun k => perigeeref8_Never.c3 k w.1 w.2.1 w.2.2.1 w.2.2.2 fi [] 0) (nevers w l, (0, ())) := by
 have rl := ok.rl
 have hnR : nR w = w.2.2.2.length := rfl
 have h := Ev.rng (σ := List S) false fi (by omega) (g := fun k s i => perigeeref8_Never.c3 k w.1 w.2.1 w.2.2.1 w.2.2.2 fi s i) (fun k s i => perigeeref8_Never.c3_eq _ _ _ _ _ _ _ _)
  (fun i s => s = ((List.range i).filter fun j => decide (¬ CanE w l (rul w j).2.1)).map fun j => (rul w j).1) (fun _ _ _ => (nevers w l, (0, ()))) (fun s hs => by rw [hs, hl]; exact Ev.now _) (fun i x xs s hi hx hd hget hw hs next => by
   simp only [Int.toNat_natCast, hget, hw]
   have hsl : s.length ≤ 200 := by
    rw [hs, List.length_map]
    exact Nat.le_trans (List.length_filter_le _ _) (by rw [List.length_range]; omega)
   have key := hc i (by omega)
   rw [hget] at key
   cases x with
   | true =>
    have hcn := key.1 rfl
    refine Ev.no (by simp) (next s ?_)
    rw [List.range_succ, List.filter_append, List.map_append, ← hs, List.filter_cons_of_neg (by simpa using hcn)]; simp
   | false =>
    have hcn : ¬ CanE w l (rul w i).2.1 := fun h' => by have := key.2 h'; cases this
    refine Ev.yes rfl (Ev.yes (by omega) (Ev.yes (by omega) (next _ ?_)))
    rw [List.range_succ, List.filter_append, List.map_append, ← hs, List.filter_cons_of_pos (by simpa using hcn)]; rfl) 0 [] (by omega) (by rfl)
 exact h
theorem rnever_acts (ok : RulesOk w) {fi : List Bool} {i t : Nat} (hi : i < nR w) {r : List S × Int × Unit} {Q0 : List S} (hq : Q0.length ≤ 5000)
 (fin : ∀ Q', (∀ x, x ∈ Q' ↔ (x ∈ Q0 ∨ ∃ a ∈ (rul w i).2.2.2.2, a.1 = 1 ∧ a.2.1 = x)) → Q'.length ≤ Q0.length + 10 → (∃ s, Q' = Q0 ++ s) → Ev (fun k => perigeeref8_Never.c2 k w.1 w.2.1 w.2.2.1 w.2.2.2 Q' fi (t : Int) (IntKind.wrap .i64 ((i : Int) + 1))) r) :
 ∀ (d j : Nat) (Q : List S), j + d = (rul w i).2.2.2.2.length → (∀ x, x ∈ Q ↔ (x ∈ Q0 ∨ ∃ a ∈ (rul w i).2.2.2.2.take j, a.1 = 1 ∧ a.2.1 = x)) → Q.length ≤ Q0.length + j → (∃ s, Q = Q0 ++ s) →
  Ev (fun k => perigeeref8_Never.c5 k w.1 w.2.1 w.2.2.1 w.2.2.2 Q fi (t : Int) (i : Int) (j : Int)) r := by
 have al := (ok.ac i hi).1
 have hnR : nR w = w.2.2.2.length := rfl
 intro d
 induction d with
 | zero =>
  intro j Q hj hm hl hs
  rw [List.take_of_length_le (by omega)] at hm
  refine Ev.step (fun k => perigeeref8_Never.c5_eq _ _ _ _ _ _ _ _ _ _) (Ev.yes (by omega) ?_)
  simp only [Int.toNat_natCast]
  refine Ev.no (fun h => ?_) (fin Q hm (by omega) hs)
  have h : decide ((j : Int) < ((rul w i).2.2.2.2.length : Int)) = true := h
  have := of_decide_eq_true h
  omega
 | succ d ih =>
  intro j Q hj hm hl hs
  have hjl : j < (rul w i).2.2.2.2.length := by omega
  have hw : IntKind.wrap .i64 ((j : Int) + 1) = ((j + 1 : Nat) : Int) := by rw [w64 (by omega) (by omega)]; omega
  have hget : (rul w i).2.2.2.2[j]? = some ((rul w i).2.2.2.2.getD j (Ty.dflt YAct)) := by rw [getD_nat _ _ _ hjl, List.getElem?_eq_getElem hjl]
  generalize hcc : (rul w i).2.2.2.2.getD j (Ty.dflt YAct) = a at hget
  have ht : (rul w i).2.2.2.2.take (j + 1) = (rul w i).2.2.2.2.take j ++ [a] := by rw [List.take_add_one, hget]; rfl
  have hcc' : (w.2.2.2.getD i (Ty.dflt YWatchRule)).2.2.2.2.getD j (Ty.dflt YAct) = a := hcc
  refine Ev.step (fun k => perigeeref8_Never.c5_eq _ _ _ _ _ _ _ _ _ _) (Ev.yes (by omega) ?_)
  simp only [Int.toNat_natCast, hcc', hw]
  have hjl' : j < (w.2.2.2.getD i (Ty.dflt YWatchRule)).2.2.2.2.length := hjl
  refine Ev.yes (decide_eq_true (by omega)) (Ev.yes (by omega) (Ev.yes (by omega) ?_))
  by_cases h1 : a.1 = 1
  ·refine Ev.yes (decide_eq_true h1) (Ev.bind (rhas_ev Q a.2.1 (by omega)) ?_)
   by_cases h2 : a.2.1 ∈ Q
   ·refine Ev.no (by simp [h2]) (ih (j + 1) Q (by omega) (fun x => ?_) (by omega) hs)
    rw [hm, ht]
    refine ⟨fun h => h.imp_right fun ⟨b, b1, b2⟩ => ⟨b, List.mem_append_left _ b1, b2⟩, fun h => ?_⟩
    rcases h with h | ⟨b, b1, b2, b3⟩
    ·exact .inl h
    ·rcases List.mem_append.1 b1 with b1 | b1
     ·exact .inr ⟨b, b1, b2, b3⟩
     ·simp at b1
      subst b1; subst b3
      exact (hm _).1 h2
   ·refine Ev.yes (by simp [h2]) (Ev.yes (by omega) (ih (j + 1) _ (by omega) (fun x => ?_) (by simp; omega) ?_))
    ·rw [List.mem_append, hm, ht]
     constructor
     ·rintro ((h | ⟨b, b1, b2⟩) | h)
      ·exact .inl h
      ·exact .inr ⟨b, List.mem_append_left _ b1, b2⟩
      ·simp at h
       exact .inr ⟨a, List.mem_append_right _ (by simp), h1, h.symm⟩
     ·rintro (h | ⟨b, b1, b2, b3⟩)
      ·exact .inl (.inl h)
      ·rcases List.mem_append.1 b1 with b1 | b1
       ·exact .inl (.inr ⟨b, b1, b2, b3⟩)
       ·simp at b1
        subst b1; subst b3
        exact .inr (by simp)
    ·obtain ⟨s, rfl⟩ := hs
     exact ⟨s ++ [a.2.1], by rw [List.append_assoc]⟩
  ·refine Ev.no (fun h => h1 (of_decide_eq_true h)) (ih (j + 1) Q (by omega) (fun x => ?_) (by omega) hs)
   rw [hm, ht]
   refine or_congr Iff.rfl ⟨fun ⟨b, b1, b2⟩ => ⟨b, List.mem_append_left _ b1, b2⟩, fun ⟨b, b1, b2, b3⟩ => ?_⟩
   rcases List.mem_append.1 b1 with b1 | b1
   ·exact ⟨b, b1, b2, b3⟩
   ·simp at b1
    subst b1
    exact absurd b2 h1
theorem rnever_rules (ok : RulesOk w) {t : Nat} {e : S} {r : List S × Int × Unit} (next : ∀ (fi' : List Bool) (Q' : List S), QI w l Q' fi' (t + 1) → Ev (fun k => perigeeref8_Never.c1 k w.1 w.2.1 w.2.2.1 w.2.2.2 Q' fi' ((t + 1 : Nat) : Int)) r) (ht : t ≤ 5000) :
 ∀ (d i : Nat) (fi : List Bool) (Q : List S), i + d = nR w → QI w l Q fi t → Q[t]? = some e → (∀ j, j < i → (rul w j).2.1 = e → fi.getD j false = true) →
  Ev (fun k => perigeeref8_Never.c2 k w.1 w.2.1 w.2.2.1 w.2.2.2 Q fi (t : Int) (i : Int)) r := by
 have rl := ok.rl
 have hnR : nR w = w.2.2.2.length := rfl
 intro d
 induction d with
 | zero =>
  intro i fi Q hi h he hj
  refine Ev.step (fun k => perigeeref8_Never.c2_eq _ _ _ _ _ _ _ _ _) (Ev.no (by simp; omega) ?_)
  rw [w64 (by omega) (by omega), show (t : Int) + 1 = ((t + 1 : Nat) : Int) by omega]
  refine next fi Q ⟨h.len, h.a, h.b, h.c, fun x hx j hjn hjx => ?_, h.s⟩
  rw [List.take_add_one, he] at hx
  rcases List.mem_append.1 hx with hx | hx
  ·exact h.d x hx j hjn hjx
  ·simp at hx
   subst hx
   exact hj j (by omega) hjx
 | succ d ih =>
  intro i fi Q hi h he hj
  have hil : i < nR w := by omega
  have htq : t < Q.length := (List.getElem?_eq_some_iff.1 he).1
  have hge : Q.getD t [] = e := by rw [List.getD_eq_getElem?_getD, he]; rfl
  have hw : IntKind.wrap .i64 ((i : Int) + 1) = ((i + 1 : Nat) : Int) := by rw [w64 (by omega) (by omega)]; omega
  refine Ev.step (fun k => perigeeref8_Never.c2_eq _ _ _ _ _ _ _ _ _) (Ev.yes (decide_eq_true (by omega)) (Ev.yes (by rw [h.len]; omega) ?_))
  simp only [Int.toNat_natCast, hge]
  cases hf : fi.getD i false with
  | true =>
   refine Ev.yes rfl ?_
   rw [hw]
   exact ih (i + 1) fi Q (by omega) h he fun j hj1 hj2 => by
    by_cases ej : j = i
    ·subst ej; exact hf
    ·exact hj j (by omega) hj2
  | false =>
   refine Ev.no (by simp) (Ev.yes (by omega) (Ev.yes (by omega) ?_))
   by_cases hc : (rul w i).2.1 = e
   case neg =>
    refine Ev.yes (by simpa using hc) ?_
    rw [hw]
    exact ih (i + 1) fi Q (by omega) h he fun j hj1 hj2 => by
     by_cases ej : j = i
     ·subst ej; exact absurd hj2 hc
     ·exact hj j (by omega) hj2
   refine Ev.no (by simpa using hc) (Ev.step (fun k => perigeeref8_Never.c4_eq _ _ _ _ _ _ _ _ _) (Ev.yes (by rw [h.len]; omega) ?_))
   rw [Int.toNat_natCast]
   have hs := h.s
   have hu := unf_set (w := w) h.len hil hf
   have hcQ : (rul w i).2.1 ∈ Q := by rw [hc]; exact List.mem_of_getElem? he
   refine rnever_acts ok (fi := fi.set i true) (t := t) hil (Q0 := Q) (by omega) (fun Q' hm hl hs' => ?_) _ 0 Q (Nat.zero_add _) (fun x => by simp) (by omega) ⟨[], by simp⟩
   rw [hw]
   obtain ⟨s, rfl⟩ := hs'
   refine ih (i + 1) (fi.set i true) (Q ++ s) (by omega) ⟨by rw [List.length_set]; exact h.len, fun x hx => ?_, fun x hx => List.mem_append_left _ (h.b x hx), fun j hjn hjf => ?_, fun x hx j hjn hjx => ?_, ?_⟩ (by rw [List.getElem?_append_left htq]; exact he) (fun j hj1 hj2 => ?_)
   ·rcases (hm x).1 hx with h1 | ⟨a, a1, a2, a3⟩
    ·exact h.a x h1
    ·rw [← a3]
     exact .rs hil (h.a _ hcQ) a1 a2
   ·rw [getB_set (by rw [h.len]; exact hil)] at hjf
    by_cases ej : i = j
    ·subst ej
     exact ⟨List.mem_append_left _ hcQ, fun x hx h1 => (hm _).2 (.inr ⟨x, hx, h1, rfl⟩)⟩
    ·rw [if_neg ej] at hjf
     obtain ⟨c1, c2⟩ := h.c j hjn hjf
     exact ⟨List.mem_append_left _ c1, fun x hx h1 => List.mem_append_left _ (c2 x hx h1)⟩
   ·rw [List.take_append_of_le_length (by omega)] at hx
    rw [getB_set (by rw [h.len]; exact hil)]
    split
    ·rfl
    ·exact h.d x hx j hjn hjx
   ·have : unf w (fi.set i true) * 10 + 10 ≤ unf w fi * 10 := by omega
    omega
   ·rw [getB_set (by rw [h.len]; exact hil)]
    split
    ·rfl
    ·exact hj j (by omega) hj2
theorem rnever_loop (ok : RulesOk w) : ∀ (d t : Nat) (fi : List Bool) (Q : List S), QI w l Q fi t → t + d = 2201 → Ev (fun k => perigeeref8_Never.c1 k w.1 w.2.1 w.2.2.1 w.2.2.2 Q fi (t : Int)) (nevers w l, (0, ())) := by
 intro d
 induction d with
 | zero =>
  intro t fi Q h ht
  have hs := h.s
  refine Ev.step (fun k => perigeeref8_Never.c1_eq _ _ _ _ _ _ _ _) (Ev.no (by simp; omega) ?_)
  exact rnever_end ok h.len fun i hi => qi_done h (by omega) hi
 | succ d ih =>
  intro t fi Q h ht
  by_cases hq : t < Q.length
  case neg =>
   refine Ev.step (fun k => perigeeref8_Never.c1_eq _ _ _ _ _ _ _ _) (Ev.no (by simp; omega) ?_)
   exact rnever_end ok h.len fun i hi => qi_done h (by omega) hi
  refine Ev.step (fun k => perigeeref8_Never.c1_eq _ _ _ _ _ _ _ _) (Ev.yes (decide_eq_true (by omega)) ?_)
  exact rnever_rules ok (fun fi' Q' h' => ih (t + 1) fi' Q' h' (by omega)) (by omega) (nR w) 0 fi Q (by omega) h (List.getElem?_eq_getElem hq) fun j hj => by omega
theorem unf_init (ok : RulesOk w) : unf w (List.replicate w.2.2.2.length false) ≤ 200 := by
 have rl := ok.rl
 have hnR : nR w = w.2.2.2.length := rfl
 unfold unf
 refine Nat.le_trans (List.length_filter_le _ _) ?_
 rw [List.length_range]; omega
theorem repB (n i : Nat) : (List.replicate n false).getD i false = false := by
 rw [List.getD_eq_getElem?_getD, List.getElem?_replicate]
 split <;> rfl
theorem rnever_start (ok : RulesOk w) (hl : l.length ≤ 200) : Ev (fun k => perigeeref8_Never.c1 k w.1 w.2.1 w.2.2.1 w.2.2.2 l (List.replicate w.2.2.2.length false) 0) (nevers w l, (0, ())) := by
 have hu := unf_init ok
 exact rnever_loop ok 2201 0 _ _ ⟨by rw [List.length_replicate], fun e he => .ev he, fun e he => he, fun i hi hf => by rw [repB] at hf; (cases hf), fun e he => by simp at he, by omega⟩ rfl
theorem mnever_start (ok : RulesOk w) {m : List (S × Bool)} (hm : ∀ e, (lk m e).getD false = true ↔ e ∈ l) : Ev (fun k => monitor_Never.c1 k w.1 w.2.1 w.2.2.1 w.2.2.2 m (List.replicate w.2.2.2.length false) true) (nevers w l, (0, ())) :=
 mnever_pass ok _ m _ ⟨by rw [List.length_replicate], fun e he => .ev ((hm e).1 he), fun e he => (hm e).2 he, fun i hi hf => by rw [repB] at hf; (cases hf)⟩ (Nat.le_refl _)
open Classical in
theorem never_agree {w : DWatch} {c : Int} (l : List S) (ho : ∀ e ∈ l, e.length ≤ 140737488351232) (h0 : okT YWatch w) (h1 : Ev (fun k => monitor_CheckWatch.f k w) (c, ())) (h2 : Ev (fun k => perigeeref8_CheckWatch.f k w) (c, ())) :
 ∃ r : List S × Int × Unit, r.1.length ≤ 200 ∧ Ev (fun k => monitor_Never.f k w l) r ∧ Ev (fun k => perigeeref8_Never.f k w l) r := by
 by_cases c0 : c = 0
 case neg => exact ⟨([], (c, ())), by simp, Ev.eq (fun k => monitor_Never.f_eq _ _ _) (Ev.bind h1 (Ev.yes (by simpa using c0) (Ev.now _))), Ev.eq (fun k => perigeeref8_Never.f_eq _ _ _) (Ev.bind h2 (Ev.yes (by simpa using c0) (Ev.now _)))⟩
 have ok := watch_rules w h0 h1 c0
 by_cases hl : 200 < l.length
 ·exact ⟨([], (2, ())), by simp, Ev.eq (fun k => monitor_Never.f_eq _ _ _) (Ev.bind h1 (Ev.no (by simp [c0]) (Ev.yes (decide_eq_true (by omega)) (Ev.now _)))), Ev.eq (fun k => perigeeref8_Never.f_eq _ _ _) (Ev.bind h2 (Ev.no (by simp [c0]) (Ev.yes (decide_eq_true (by omega)) (Ev.now _))))⟩
 have a1 : ∀ r, Ev (fun k => monitor_Never.c0 k l w.1 w.2.1 w.2.2.1 w.2.2.2 [] l (l.length : Int) 0) r → Ev (fun k => monitor_Never.f k w l) r := fun r h => Ev.eq (fun k => monitor_Never.f_eq _ _ _) (Ev.bind h1 (Ev.no (by simp [c0]) (Ev.no (by simp; omega) h)))
 have a2 : ∀ r, Ev (fun k => perigeeref8_Never.c0 k l w.1 w.2.1 w.2.2.1 w.2.2.2 0) r → Ev (fun k => perigeeref8_Never.f k w l) r := fun r h => Ev.eq (fun k => perigeeref8_Never.f_eq _ _ _) (Ev.bind h2 (Ev.no (by simp [c0]) (Ev.no (by simp; omega) h)))
 rcases never_events (w := w) l (by omega) ho ok.rl with ⟨c', c1, c2⟩ | ⟨m, m1, m2, m3⟩
 ·exact ⟨([], (c', ())), by simp, a1 _ c1, a2 _ c2⟩
 ·refine ⟨(nevers w l, (0, ())), ?_, a1 _ (m2 _ (mnever_start ok m1)), a2 _ (m3 _ (rnever_start ok (by omega)))⟩
  have rl := ok.rl
  have hnR : nR w = w.2.2.2.length := rfl
  show (nevers w l).length ≤ 200
  unfold nevers
  rw [List.length_map]
  exact Nat.le_trans (List.length_filter_le _ _) (by rw [List.length_range]; omega)
end
end Go.Proofs.Ytadhpgecilhgnaa.Pure

-- YtadhpgecilhgnaaQ10
set_option linter.unusedVariables false
set_option linter.unusedSimpArgs false
namespace Go.Proofs.Ytadhpgecilhgnaa.Pure
open Go Go.Proofs.Ytadhpgecilhgnaa.A

section
variable {w : DWatch} {to : S}
end
end Go.Proofs.Ytadhpgecilhgnaa.Pure

-- YtadhpgecilhgnaaQ11
set_option linter.unusedVariables false
set_option linter.unusedSimpArgs false
namespace Go.Proofs.Ytadhpgecilhgnaa.Pure
open Go Go.Proofs.Ytadhpgecilhgnaa.A

section
variable {w : DWatch} {to : S} {ds : List Int}
end
abbrev lt1 (a b : S) : Prop := lessS a b = true
theorem equal_ev (a : List S) (hl : a.length ≤ 4611686018427387904) : Ev (fun k => slices_Equal_string.f k a a) (true, ()) := by
 obtain ⟨r, r1, r2⟩ := eq_loop ([] : S) (e := fun x y => decide (x = y)) (fun x y => by simp) a a hl rfl (g := fun k i => slices_Equal_string.c0 k a a (a.length : Int) i) (fun k i => slices_Equal_string.c0_eq _ _ _ _ _)
 have : r = true := r2.2 rfl
 subst this
 exact Ev.eq (fun k => slices_Equal_string.f_eq _ _ _) (Ev.no (by simp) r1)
end Go.Proofs.Ytadhpgecilhgnaa.Pure

-- YtadhpgecilhgnaaQ12
set_option linter.unusedVariables false
set_option linter.unusedSimpArgs false
namespace Go.Proofs.Ytadhpgecilhgnaa.Pure
open Go Go.Proofs.Ytadhpgecilhgnaa.A

section
variable {w : DWatch} {fr : S}
end
end Go.Proofs.Ytadhpgecilhgnaa.Pure

-- YtadhpgecilhgnaaPureWatchesLoopsMatchSpec
set_option linter.unusedVariables false
set_option linter.unusedSimpArgs false
namespace Go.Proofs.Ytadhpgecilhgnaa.Pure
open Go Go.Proofs.Ytadhpgecilhgnaa.A
theorem WatchesLoopsMatchSpec (w : DWatch) (l : List S) (h0 : okT YWatch w) (h1 : okT (.sl .str) l) : ∃ n, perigeelaw8_WatchesLoopsMatchSpec.f n w l = some (true, ()) := by
 refine Ev.rounds (g := fun k => perigeelaw8_WatchesLoopsMatchSpec.f k w l) ?_
 obtain ⟨c, q1, q2⟩ := watch_twin w h0
 obtain ⟨r, r0, r1, r2⟩ := loops_agree h0 q1 q2
 obtain ⟨s, s0, s1, s2⟩ := never_agree l (fun e he => h1.2.2 e he) h0 q1 q2
 exact Ev.eq (fun k => perigeelaw8_WatchesLoopsMatchSpec.f_eq _ _ _) (Ev.bind r1 (Ev.bind r2 (Ev.bind s1 (Ev.bind s2 (Ev.bind (equal_ev r.1 (by omega)) (Ev.yes rfl (Ev.yes (by simp) (Ev.yes (by simp) (Ev.bind (equal_ev s.1 (by omega)) (Ev.yes rfl (Ev.yes (by simp) (Ev.bind awake_ev (Ev.now _)))))))))))))
end Go.Proofs.Ytadhpgecilhgnaa.Pure
