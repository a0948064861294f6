/- Load, Fastest and Oldest are as the reference says them, with all errors, for all parameters, layouts, regular sendings, lengths, rates and names. -/
import Derived.KernelRfl
import Derived.Test.YtcefbdknoelacaaCTelemetryLoadMatchesSpec3
-- YtcefbdknoelacaaQ12
set_option linter.unusedVariables false
set_option linter.unusedSimpArgs false
namespace Go.Proofs.Ytcefbdknoelacaa.Pure
open Go Go.Proofs.Ytcefbdknoelacaa.A

def gcdI (a b : Int) : Int := ((Int.gcd a b : Nat) : Int)
theorem gcdI_ok {a b : Int} (ha : 0 ≤ a) (hb : 0 < b) : 1 ≤ gcdI a b ∧ gcdI a b ∣ a ∧ gcdI a b ∣ b := by
 unfold gcdI
 have h : 0 < Int.gcd a b := Int.gcd_pos_of_ne_zero_right a (by omega)
 exact ⟨by omega, Int.gcd_dvd_left .., Int.gcd_dvd_right ..⟩
theorem gcdT (a b : Int) (ha : 0 ≤ a) (hb : 0 ≤ b) : Ev (fun k => kit_Gcd.f k a b) (gcdI a b, ()) := gcdT_ev _ a b rfl ha hb
theorem gcdR (a b : Int) (ha : 0 ≤ a) (hb : 0 ≤ b) (ha2 : a ≤ 1000000000000) (hb2 : b ≤ 1000000000000) : Ev (fun k => perigeeref7_gcd.f k a b) (gcdI a b, ()) := gcdR_ev _ a b rfl (by omega) (by omega)

def lcm1 (L e : Int) : Int := L / gcdI L e * e
def cyc : Int → List DRegular → Option Int
 | L, [] => some L
 | L, r :: s => if 1000000 < lcm1 L r.2.1 then none else cyc (lcm1 L r.2.1) s
def many (L : Int) : List DRegular → Int
 | [] => 0
 | r :: s => L / r.2.1 + many L s
theorem lcm1_ok {L e : Int} (h1 : 1 ≤ L) (he : 1 ≤ e) : 1 ≤ lcm1 L e ∧ lcm1 L e % L = 0 ∧ lcm1 L e % e = 0 ∧ L / gcdI L e ≤ L ∧ 1 ≤ L / gcdI L e := by
 obtain ⟨g1, ⟨x, g2⟩, ⟨y, g3⟩⟩ := gcdI_ok (a := L) (b := e) (by omega) (by omega)
 unfold lcm1
 generalize gcdI L e = g at *
 have hx : L / g = x := by rw [g2]; exact Int.mul_ediv_cancel_left _ (by omega)
 have x1 : 1 ≤ x := by
  apply Classical.byContradiction
  intro hn
  have : g * x ≤ 0 := Int.mul_nonpos_of_nonneg_of_nonpos (by omega) (by omega)
  omega
 have y1 : 1 ≤ y := by
  apply Classical.byContradiction
  intro hn
  have : g * y ≤ 0 := Int.mul_nonpos_of_nonneg_of_nonpos (by omega) (by omega)
  omega
 rw [hx]
 refine ⟨?_, ?_, Int.mul_emod_left _ _, ?_, x1⟩
 ·have := Int.mul_pos (show 0 < x by omega) (show 0 < e by omega)
  omega
 ·have : x * e = L * y := by
   have e1 : x * e = x * (g * y) := congrArg (fun z => x * z) g3
   rw [e1, ← Int.mul_assoc, Int.mul_comm x g, ← g2]
  rw [this]; exact Int.mul_emod_right _ _
 ·have := Int.mul_le_mul_of_nonneg_right g1 (show 0 ≤ x by omega)
  omega
theorem cyc_ok : ∀ {s : List DRegular} {L M : Int}, (∀ r ∈ s, RegOk r) → 1 ≤ L → L ≤ 1000000 → cyc L s = some M → 1 ≤ M ∧ M ≤ 1000000 ∧ M % L = 0 ∧ ∀ r ∈ s, M % r.2.1 = 0
 | [], L, M, _, h1, h2, h => by cases h; exact ⟨h1, h2, Int.emod_self, fun _ h => by cases h⟩
 | r :: s, L, M, hr, h1, h2, h => by
  have ro := (hr r (by simp)).1
  obtain ⟨a1, a2, a3, _, _⟩ := lcm1_ok h1 ro.1
  rw [cyc] at h
  split at h
  ·cases h
  ·obtain ⟨b1, b2, b3, b4⟩ := cyc_ok (s := s) (fun x hx => hr x (by simp [hx])) a1 (by omega) h
   have d1 : lcm1 L r.2.1 ∣ M := Int.dvd_of_emod_eq_zero b3
   refine ⟨b1, b2, Int.emod_eq_zero_of_dvd (Int.dvd_trans (Int.dvd_of_emod_eq_zero a2) d1), fun x hx => ?_⟩
   rcases List.mem_cons.1 hx with rfl | hx
   ·exact Int.emod_eq_zero_of_dvd (Int.dvd_trans (Int.dvd_of_emod_eq_zero a3) d1)
   ·exact b4 x hx
def cycR (s : List DRegular) : Int × Int × Unit := match cyc 1 s with
 | none => (0, 16, ())
 | some L => if 20000 < many L s then (0, 2, ()) else (L, 0, ())
theorem cycleT_ev (s : List DRegular) (hs : s.length ≤ 50) (hr : ∀ r ∈ s, RegOk r) : Ev (fun k => telemetry_cycle.f k s) (cycR s) := by
 refine Ev.eq (fun k => by rw [telemetry_cycle.f_eq]) ?_
 have tail : ∀ L, 1 ≤ L → L ≤ 1000000 → Ev (fun k => telemetry_cycle.c1 k L 0 s (s.length : Int) 0) (if 20000 < many L s then (0, 2, ()) else (L, 0, ())) := fun L l1 l2 => by
  have h := Ev.rng (σ := Int) (Ty.dflt YRegular) s (by omega) (g := fun k c i => telemetry_cycle.c1 k L c s (s.length : Int) i) (fun k c i => telemetry_cycle.c1_eq _ _ _ _ _ _)
   (fun i c => 0 ≤ c ∧ c ≤ 1000000 * i ∧ c + many L (s.drop i) = many L s) (fun r i c => if 20000 < many L s then (0, 2, ()) else (L, 0, ())) (fun c hc => by
    obtain ⟨c0, c1, c2⟩ := hc
    rw [List.drop_length, many] at c2
    simp only [decide_eq_true_eq]
    rw [show c = many L s by omega]
    exact Ev.split (fun h => by rw [if_pos h]; exact Ev.now _) (fun h => by rw [if_neg h]; exact Ev.now _)) (fun i x xs c hi hx hd hget hw hc next => by
    obtain ⟨c0, c1, c2⟩ := hc
    have ro := (hr x hx).1
    have a := Int.ediv_nonneg (show 0 ≤ L by omega) (show (0 : Int) ≤ x.2.1 by omega)
    have b := Int.ediv_le_self x.2.1 (show 0 ≤ L by omega)
    have hd2 : s.drop (i + 1) = xs := by rw [← List.drop_drop, hd]; rfl
    rw [hd, many] at c2
    simp only [Int.toNat_natCast, hget, hw]
    rw [Int.tdiv_eq_ediv_of_nonneg (by omega), w64 (x := L / x.2.1) (by omega) (by omega), w64 (x := c + L / x.2.1) (by omega) (by omega)]
    exact Ev.yes (by omega) (next (c + L / x.2.1) ⟨by omega, by omega, by rw [hd2]; omega⟩)) 0 0 (by omega) ⟨by omega, by omega, by simp⟩
  exact h
 have h := Ev.rng (σ := Int) (Ty.dflt YRegular) s (by omega) (g := fun k L i => telemetry_cycle.c0 k s L s (s.length : Int) i) (fun k L i => telemetry_cycle.c0_eq _ _ _ _ _ _)
  (fun i L => 1 ≤ L ∧ L ≤ 1000000 ∧ cyc L (s.drop i) = cyc 1 s) (fun r i L => cycR s) (fun L hL => by
   obtain ⟨l1, l2, l3⟩ := hL
   rw [List.drop_length, cyc] at l3
   unfold cycR
   rw [← l3]
   exact tail L l1 l2) (fun i x xs L hi hx hd hget hw hL next => by
   obtain ⟨l1, l2, l3⟩ := hL
   have ro := (hr x hx).1
   obtain ⟨a1, a2, a3, a4, a5⟩ := lcm1_ok l1 ro.1
   obtain ⟨g1, _⟩ := gcdI_ok (a := L) (b := x.2.1) (by omega) (by omega)
   have bd : L / gcdI L x.2.1 * x.2.1 ≤ 1000000 * 100000 := Int.mul_le_mul (by omega) ro.2 (by omega) (by omega)
   have hd2 : s.drop (i + 1) = xs := by rw [← List.drop_drop, hd]; rfl
   rw [hd, cyc] at l3
   simp only [Int.toNat_natCast, hget, hw, decide_eq_true_eq]
   refine Ev.bind (gcdT L x.2.1 (by omega) (by omega)) (Ev.yes (by simp only; omega) ?_)
   simp only
   unfold lcm1 at a1 l3
   rw [Int.tdiv_eq_ediv_of_nonneg (by omega), w64 (x := L / gcdI L x.2.1) (by omega) (by omega), w64 (x := L / gcdI L x.2.1 * x.2.1) (by omega) (by omega)]
   refine Ev.split (fun h => ?_) (fun h => ?_)
   ·rw [if_pos h] at l3
    unfold cycR
    rw [← l3]
    exact Ev.now _
   ·rw [if_neg h] at l3
    exact next _ ⟨by omega, by omega, by rw [hd2]; exact l3⟩) 0 1 (by omega) ⟨by omega, by omega, by simp⟩
 exact h
theorem cycleR_ev (s : List DRegular) (hs : s.length ≤ 50) (hr : ∀ r ∈ s, RegOk r) : Ev (fun k => perigeeref7_checkCycle.f k s) (cycR s) := by
 refine Ev.eq (fun k => by rw [perigeeref7_checkCycle.f_eq]) ?_
 have first : Ev (fun k => perigeeref7_cycle.f k s) ((cyc 1 s).getD 0, ()) := by
  refine Ev.eq (fun k => by rw [perigeeref7_cycle.f_eq]) ?_
  have h := Ev.rng (σ := Int) (Ty.dflt YRegular) s (by omega) (g := fun k L i => perigeeref7_cycle.c0 k L s (s.length : Int) i) (fun k L i => perigeeref7_cycle.c0_eq _ _ _ _ _)
   (fun i L => 1 ≤ L ∧ L ≤ 1000000 ∧ cyc L (s.drop i) = cyc 1 s) (fun r i L => ((cyc 1 s).getD 0, ())) (fun L hL => by
    obtain ⟨l1, l2, l3⟩ := hL
    rw [List.drop_length, cyc] at l3
    rw [← l3]
    exact Ev.now _) (fun i x xs L hi hx hd hget hw hL next => by
    obtain ⟨l1, l2, l3⟩ := hL
    have ro := (hr x hx).1
    obtain ⟨a1, a2, a3, a4, a5⟩ := lcm1_ok l1 ro.1
    obtain ⟨g1, _⟩ := gcdI_ok (a := L) (b := x.2.1) (by omega) (by omega)
    have bd : L / gcdI L x.2.1 * x.2.1 ≤ 1000000 * 100000 := Int.mul_le_mul (by omega) ro.2 (by omega) (by omega)
    have hd2 : s.drop (i + 1) = xs := by rw [← List.drop_drop, hd]; rfl
    rw [hd, cyc] at l3
    simp only [Int.toNat_natCast, hget, hw, decide_eq_true_eq]
    refine Ev.bind (gcdR L x.2.1 (by omega) (by omega) (by omega) (by omega)) (Ev.yes (by simp only; omega) ?_)
    simp only
    unfold lcm1 at a1 l3
    rw [Int.tdiv_eq_ediv_of_nonneg (by omega), w64 (x := L / gcdI L x.2.1) (by omega) (by omega), w64 (x := L / gcdI L x.2.1 * x.2.1) (by omega) (by omega)]
    refine Ev.split (fun h => ?_) (fun h => ?_)
    ·rw [if_pos h] at l3
     rw [← l3]
     exact Ev.now _
    ·rw [if_neg h] at l3
     exact next _ ⟨by omega, by omega, by rw [hd2]; exact l3⟩) 0 1 (by omega) ⟨by omega, by omega, by simp⟩
  exact h
 refine Ev.bind first ?_
 simp only [decide_eq_true_eq]
 unfold cycR
 cases hc : cyc 1 s with
 | none => exact Ev.yes rfl (Ev.now _)
 | some L =>
  obtain ⟨l1, l2, _⟩ := cyc_ok hr (by omega) (by omega) hc
  simp only [Option.getD_some]
  refine Ev.no (by omega) ?_
  have h := Ev.rng (σ := Int) (Ty.dflt YRegular) s (by omega) (g := fun k c i => perigeeref7_checkCycle.c0 k L c s (s.length : Int) i) (fun k c i => perigeeref7_checkCycle.c0_eq _ _ _ _ _ _)
   (fun i c => 0 ≤ c ∧ c ≤ 1000000 * i ∧ c + many L (s.drop i) = many L s) (fun r i c => if 20000 < many L s then (0, 2, ()) else (L, 0, ())) (fun c hc => by
    obtain ⟨c0, c1, c2⟩ := hc
    rw [List.drop_length, many] at c2
    simp only [decide_eq_true_eq]
    rw [show c = many L s by omega]
    exact Ev.split (fun h => by rw [if_pos h]; exact Ev.now _) (fun h => by rw [if_neg h]; exact Ev.now _)) (fun i x xs c hi hx hd hget hw hc next => by
    obtain ⟨c0, c1, c2⟩ := hc
    have ro := (hr x hx).1
    have a := Int.ediv_nonneg (show 0 ≤ L by omega) (show (0 : Int) ≤ x.2.1 by omega)
    have b := Int.ediv_le_self x.2.1 (show 0 ≤ L by omega)
    have hd2 : s.drop (i + 1) = xs := by rw [← List.drop_drop, hd]; rfl
    rw [hd, many] at c2
    simp only [Int.toNat_natCast, hget, hw]
    rw [Int.tdiv_eq_ediv_of_nonneg (by omega), w64 (x := L / x.2.1) (by omega) (by omega), w64 (x := c + L / x.2.1) (by omega) (by omega)]
    exact Ev.yes (by omega) (next (c + L / x.2.1) ⟨by omega, by omega, by rw [hd2]; omega⟩)) 0 0 (by omega) ⟨by omega, by omega, by simp⟩
  exact h
end Go.Proofs.Ytcefbdknoelacaa.Pure

-- YtcefbdknoelacaaQ13
set_option linter.unusedVariables false
set_option linter.unusedSimpArgs false
namespace Go.Proofs.Ytcefbdknoelacaa.Pure
open Go Go.Proofs.Ytcefbdknoelacaa.A
section
variable (c : DRegular → Int)
def cost : List DRegular → Int → Int
 | [], _ => 0
 | r :: s, t => (if hit r t = true then c r else 0) + cost s t
def W (s : List DRegular) : Int → Nat → Int
 | _, 0 => 0
 | t, n + 1 => cost c s t + W s (t + 1) n
def wc : List DRegular → Int → Int → Int
 | [], _, _ => 0
 | r :: s, a, b => cnt r a b * c r + wc s a b
def total : List DRegular → Int → Int
 | [], _ => 0
 | r :: s, L => L / r.2.1 * c r + total s L
end
section
variable {c : DRegular → Int} {s : List DRegular}
theorem W_split : ∀ (n m : Nat) (t : Int), W c s t (n + m) = W c s t n + W c s (t + n) m
 | 0, m, t => by simp [W]
 | n + 1, m, t => by
  rw [show n + 1 + m = (n + m) + 1 by omega, W, W, W_split n m (t + 1), show t + 1 + (n : Int) = t + ((n + 1 : Nat) : Int) by omega]
  omega
theorem cost_pos (hc : ∀ r ∈ s, 0 ≤ c r) (t : Int) : 0 ≤ cost c s t := by
 induction s with
 | nil => exact Int.le_refl _
 | cons r s ih =>
  have h1 := hc r (by simp)
  have h2 := ih (fun x hx => hc x (by simp [hx]))
  simp only [cost]
  split <;> omega
theorem W_pos (hc : ∀ r ∈ s, 0 ≤ c r) : ∀ (n : Nat) (t : Int), 0 ≤ W c s t n
 | 0, _ => Int.le_refl _
 | n + 1, t => by
  have h1 := cost_pos hc t
  have h2 := W_pos hc n (t + 1)
  rw [W]; omega
theorem W_mono (hc : ∀ r ∈ s, 0 ≤ c r) (t : Int) {n m : Nat} (h : n ≤ m) : W c s t n ≤ W c s t m := by
 have := W_split (c := c) (s := s) n (m - n) t
 rw [show n + (m - n) = m by omega] at this
 have := W_pos (c := c) (s := s) hc (m - n) (t + n)
 omega
theorem cost_none {t : Int} (h : ∀ r ∈ s, hit r t = false) : cost c s t = 0 := by
 induction s with
 | nil => rfl
 | cons r s ih =>
  simp only [cost]
  rw [h r (by simp), ih (fun x hx => h x (by simp [hx]))]; rfl
theorem W_none : ∀ {n : Nat} {t : Int}, (∀ u, t ≤ u → u < t + n → ∀ r ∈ s, hit r u = false) → W c s t n = 0
 | 0, _, _ => rfl
 | n + 1, t, h => by
  rw [W, cost_none (h t (by omega) (by omega)), W_none (fun u h1 h2 => h u (by omega) (by omega))]; rfl
theorem W_cons (r : DRegular) : ∀ (n : Nat) (t : Int), W c (r :: s) t n = W c [r] t n + W c s t n
 | 0, _ => rfl
 | n + 1, t => by simp only [W, cost, W_cons r n (t + 1)]; omega
theorem W_one (r : DRegular) : ∀ (n : Nat) (t : Int), W c [r] t n = ((upto [r] t n).length : Int) * c r
 | 0, _ => by simp [W, upto]
 | n + 1, t => by
  rw [W, W_one r n (t + 1), upto, List.length_append, at_one, Int.natCast_add, Int.add_mul]
  congr 1
  simp only [cost]
  cases hit r t <;> simp
theorem W_wc : ∀ {s : List DRegular}, (∀ r ∈ s, RegOk r) → ∀ (a b : Int), W c s a (b - a).toNat = wc c s a b
 | [], _, a, b => by rw [W_none (fun _ _ _ r hr => by cases hr)]; rfl
 | r :: s, h, a, b => by rw [W_cons, W_one, cnt_len (h r (by simp)), W_wc (s := s) (fun x hx => h x (by simp [hx]))]; rfl
theorem hit_per {r : DRegular} (h : RegOk r) {L t : Int} (hL : 0 ≤ L) (hd : L % r.2.1 = 0) (ht : 0 ≤ t) : hit r (t + L) = hit r t := by
 obtain ⟨⟨h1, h2⟩, h3, h4⟩ := h
 unfold hit
 have e : (t + L - r.2.2) % r.2.1 = (t - r.2.2) % r.2.1 := by
  obtain ⟨q, hq⟩ := Int.dvd_of_emod_eq_zero hd
  rw [show t + L - r.2.2 = (t - r.2.2) + r.2.1 * q by omega, Int.add_mul_emod_self_left]
 rw [e]
 congr 1
 apply propext
 constructor
 ·rintro ⟨g1, g2⟩
  refine ⟨?_, g2⟩
  apply Classical.byContradiction
  intro hn
  have e2 := Int.add_mul_emod_self_left (t - r.2.2) r.2.1 1
  rw [Int.emod_eq_of_lt (show 0 ≤ t - r.2.2 + r.2.1 * 1 by omega) (by omega)] at e2
  omega
 ·rintro ⟨g1, g2⟩
  exact ⟨by omega, g2⟩
theorem cost_per {L : Int} (hL : 0 ≤ L) (hr : ∀ r ∈ s, RegOk r ∧ L % r.2.1 = 0) {t : Int} (ht : 0 ≤ t) : cost c s (t + L) = cost c s t := by
 induction s with
 | nil => rfl
 | cons r s ih =>
  simp only [cost]
  rw [hit_per (hr r (by simp)).1 hL (hr r (by simp)).2 ht, ih (fun x hx => hr x (by simp [hx]))]
theorem W_per {L : Int} (hL : 0 ≤ L) (hr : ∀ r ∈ s, RegOk r ∧ L % r.2.1 = 0) : ∀ (n : Nat) {t : Int}, 0 ≤ t → W c s (t + L) n = W c s t n
 | 0, _, _ => rfl
 | n + 1, t, ht => by
  rw [W, W, cost_per hL hr ht, show t + L + 1 = (t + 1) + L by omega, W_per hL hr n (by omega)]
theorem total_is {L : Int} (hL : 1 ≤ L) : ∀ {s : List DRegular}, (∀ r ∈ s, RegOk r ∧ L % r.2.1 = 0) → wc c s 0 L = total c s L
 | [], _ => rfl
 | r :: s, h => by
  obtain ⟨⟨⟨h1, h2⟩, h3, h4⟩, hd⟩ := h r (by simp)
  have e : cnt r 0 L = L / r.2.1 := by
   obtain ⟨q, hq⟩ := Int.dvd_of_emod_eq_zero hd
   have q1 : 1 ≤ q := by
    apply Classical.byContradiction
    intro hn
    have : r.2.1 * q ≤ 0 := Int.mul_nonpos_of_nonneg_of_nonpos (by omega) (by omega)
    omega
   have le : r.2.1 * 1 ≤ r.2.1 * q := Int.mul_le_mul_of_nonneg_left q1 (by omega)
   have hnx : nx r 0 = r.2.2 := by unfold nx; rw [if_pos h3]
   unfold cnt
   rw [hnx, if_pos (by omega), show L / r.2.1 = q by rw [hq]; exact Int.mul_ediv_cancel_left _ (by omega)]
   have : (L - 1 - r.2.2) / r.2.1 = q - 1 := by
    refine ((Int.ediv_emod_unique (a := L - 1 - r.2.2) (b := r.2.1) (r := r.2.1 - 1 - r.2.2) (q := q - 1) (by omega)).2 ⟨?_, by omega, by omega⟩).1
    rw [Int.mul_sub]; omega
   omega
  rw [wc, total, e, total_is hL (s := s) (fun x hx => h x (by simp [hx]))]
theorem W_round {L : Int} (hL : 1 ≤ L) (hr : ∀ r ∈ s, RegOk r ∧ L % r.2.1 = 0) : ∀ (t : Nat), W c s (t : Int) L.toNat = total c s L
 | 0 => by
  have := W_wc (c := c) (s := s) (fun r h => (hr r h).1) 0 L
  rw [Int.sub_zero, total_is hL hr] at this
  exact this
 | t + 1 => by
  obtain ⟨n, hn⟩ : ∃ n, L.toNat = n + 1 := ⟨L.toNat - 1, by omega⟩
  have h1 := W_round hL hr t
  have h2 := W_split (c := c) (s := s) n 1 ((t : Int) + 1)
  rw [hn, W] at h1
  have h3 : W c s ((t : Int) + 1 + (n : Int)) 1 = cost c s (t : Int) := by
   rw [W, W, show (t : Int) + 1 + (n : Int) = (t : Int) + L by omega, cost_per (by omega) hr (by omega)]
   omega
  rw [hn, show ((t + 1 : Nat) : Int) = (t : Int) + 1 by omega, h2, h3]
  omega
theorem W_rounds {L : Int} (hL : 1 ≤ L) (hr : ∀ r ∈ s, RegOk r ∧ L % r.2.1 = 0) (k : Nat) : ∀ (q : Nat) (m : Nat), W c s (k : Int) (q * L.toNat + m) = q * total c s L + W c s (k : Int) m
 | 0, m => by simp
 | q + 1, m => by
  rw [show (q + 1) * L.toNat + m = L.toNat + (q * L.toNat + m) by rw [Nat.succ_mul]; omega, W_split, W_round hL hr k, show (k : Int) + (L.toNat : Int) = (k : Int) + L by omega, W_per (by omega) hr _ (by omega), W_rounds hL hr k q m]
  rw [show ((q + 1 : Nat) : Int) = (q : Int) + 1 by omega, Int.add_mul]
  omega
end
structure LoadIs (c : DRegular → Int) (s : List DRegular) (L ms v : Int) : Prop where
 pos : 0 ≤ v
 le : ∀ k : Nat, (k : Int) < L → (∃ r ∈ s, hit r k = true) → W c s k ms.toNat ≤ v
 is : v = 0 ∨ ∃ k : Nat, (k : Int) < L ∧ (∃ r ∈ s, hit r k = true) ∧ v = W c s k ms.toNat
theorem LoadIs.unique {c : DRegular → Int} {s : List DRegular} {L ms v u : Int} (h : LoadIs c s L ms v) (g : LoadIs c s L ms u) : v = u := by
 have key : ∀ {v u : Int}, LoadIs c s L ms v → LoadIs c s L ms u → v ≤ u := fun h g => by
  rcases h.is with e | ⟨k, k1, k2, k3⟩
  ·have := g.pos; omega
  ·have := g.le k k1 k2; omega
 have := key h g
 have := key g h
 omega
end Go.Proofs.Ytcefbdknoelacaa.Pure

-- YtcefbdknoelacaaQ14
set_option linter.unusedVariables false
set_option linter.unusedSimpArgs false
namespace Go.Proofs.Ytcefbdknoelacaa.Pure
open Go Go.Proofs.Ytcefbdknoelacaa.A

def sz (p : List DParameter) (l : List DLayout) (r : DRegular) : Int := match findL l r.1 with
 | some x => (bsum (ps p x) + 7) / 8
 | none => 0
theorem sz_bd {p : List DParameter} {l : List DLayout} (a : AllOk p l) (r : DRegular) : 0 ≤ sz p l r ∧ sz p l r ≤ 601 := by
 unfold sz
 split
 ·rename_i x hx
  have k := a.ps (findL_some hx).1
  have b := bsum_bd k.2
  have := k.1
  omega
 ·omega
theorem sizeT_ev {p : List DParameter} {l : List DLayout} {s : List DRegular} (h : PlanOk p l s) {r : DRegular} (hr : r ∈ s) : Ev (fun k => telemetry_sizeOf.f k p l r.1) (sz p l r, ()) := by
 obtain ⟨x, hx⟩ := h.lay r hr
 have a := h.all
 have hl := a.hl
 have k := a.ps (findL_some hx).1
 have b := bsum_bd k.2
 have := k.1
 refine Ev.eq (fun k => by rw [telemetry_sizeOf.f_eq]) (Ev.bind (layout_ev l (by omega) r.1) ?_)
 rw [hx]
 refine Ev.bind (bitsOfT_ev p a.hp a.hf x (a.ok x (findL_some hx).1)) (Ev.is ?_)
 unfold sz
 rw [hx]
 simp only
 rw [w64 (x := bsum (ps p x) + 7) (by omega) (by omega), Int.tdiv_eq_ediv_of_nonneg (by omega), w64 (by omega) (by omega)]
theorem sizeR_ev {p : List DParameter} {l : List DLayout} {s : List DRegular} (h : PlanOk p l s) {r : DRegular} (hr : r ∈ s) : Ev (fun k => perigeeref7_bytesOf.f k p l r.1) (sz p l r, ()) := by
 obtain ⟨x, hx⟩ := h.lay r hr
 have a := h.all
 have hl := a.hl
 have hp := a.hp
 have k := a.ps (findL_some hx).1
 have b := bsum_bd k.2
 have := k.1
 have po := partsOf_ev p (by omega) l (by omega) (fun x hx => by have := (a.ok x hx).2.1; omega) r.1
 rw [hx] at po
 refine Ev.eq (fun k => by rw [perigeeref7_bytesOf.f_eq]) (Ev.bind po ?_)
 refine Ev.bind (bitsOfR_ev (ps p x) k) (Ev.is ?_)
 unfold sz
 rw [hx]
 simp only
 rw [w64 (x := bsum (ps p x) + 7) (by omega) (by omega), Int.tdiv_eq_ediv_of_nonneg (by omega), w64 (by omega) (by omega)]

def tms (L : Int) (r : DRegular) : List Int := (upto [r] 0 L.toNat).map (·.1)
theorem upto_iff (r : DRegular) : ∀ (n : Nat) (t k : Int), k ∈ (upto [r] t n).map (·.1) ↔ t ≤ k ∧ k < t + n ∧ hit r k = true
 | 0, t, k => by simp [upto]; omega
 | n + 1, t, k => by
  rw [upto, List.map_append, List.mem_append, upto_iff r n (t + 1) k, at_one]
  by_cases ht : hit r t = true
  ·rw [if_pos ht]
   simp only [List.map_cons, List.map_nil, List.mem_singleton]
   constructor
   ·rintro (rfl | ⟨h1, h2, h3⟩)
    ·exact ⟨by omega, by omega, ht⟩
    ·exact ⟨by omega, by omega, h3⟩
   ·rintro ⟨h1, h2, h3⟩
    by_cases e : k = t
    ·exact .inl e
    ·exact .inr ⟨by omega, by omega, h3⟩
  ·rw [if_neg ht]
   simp only [List.map_nil, List.not_mem_nil, false_or]
   constructor
   ·rintro ⟨h1, h2, h3⟩
    exact ⟨by omega, by omega, h3⟩
   ·rintro ⟨h1, h2, h3⟩
    refine ⟨?_, by omega, h3⟩
    by_cases e : k = t
    ·subst e; exact absurd h3 ht
    ·omega
theorem tms_mem {L : Int} (hL : 0 ≤ L) {r : DRegular} {k : Int} : k ∈ tms L r ↔ 0 ≤ k ∧ k < L ∧ hit r k = true := by
 unfold tms
 rw [upto_iff]
 constructor
 ·rintro ⟨h1, h2, h3⟩; exact ⟨h1, by omega, h3⟩
 ·rintro ⟨h1, h2, h3⟩; exact ⟨h1, by omega, h3⟩
theorem cnt_full {L : Int} (hL : 1 ≤ L) {r : DRegular} (h : RegOk r ∧ L % r.2.1 = 0) : cnt r 0 L = L / r.2.1 := by
 have := total_is (c := fun _ => 1) hL (s := [r]) (fun x hx => by simp at hx; subst hx; exact h)
 simpa [wc, total] using this
theorem tms_len {L : Int} (hL : 1 ≤ L) {r : DRegular} (h : RegOk r ∧ L % r.2.1 = 0) : ((tms L r).length : Int) = L / r.2.1 := by
 unfold tms
 rw [List.length_map]
 have := cnt_len h.1 0 L
 rw [Int.sub_zero] at this
 rw [this, cnt_full hL h]
def allT (L : Int) (s : List DRegular) : List Int := s.flatMap (tms L)
theorem allT_len {L : Int} (hL : 1 ≤ L) : ∀ {s : List DRegular}, (∀ r ∈ s, RegOk r ∧ L % r.2.1 = 0) → ((allT L s).length : Int) = many L s
 | [], _ => rfl
 | r :: s, h => by
  have := allT_len hL (s := s) (fun x hx => h x (by simp [hx]))
  unfold allT at this ⊢
  rw [List.flatMap_cons, List.length_append, Int.natCast_add, this, tms_len hL (h r (by simp))]; rfl
theorem allT_mem {L : Int} (hL : 0 ≤ L) {s : List DRegular} {k : Int} : k ∈ allT L s ↔ 0 ≤ k ∧ k < L ∧ ∃ r ∈ s, hit r k = true := by
 unfold allT
 rw [List.mem_flatMap]
 constructor
 ·rintro ⟨r, h1, h2⟩
  obtain ⟨a, b, c⟩ := (tms_mem hL).1 h2
  exact ⟨a, b, r, h1, c⟩
 ·rintro ⟨a, b, r, h1, c⟩
  exact ⟨r, h1, (tms_mem hL).2 ⟨a, b, c⟩⟩
theorem allT_snoc (L : Int) (s : List DRegular) (r : DRegular) : allT L (s ++ [r]) = allT L s ++ tms L r := by
 unfold allT; rw [List.flatMap_append, List.flatMap_cons, List.flatMap_nil, List.append_nil]
theorem many_append (L : Int) : ∀ (s r : List DRegular), many L (s ++ r) = many L s + many L r
 | [], _ => by simp [many]
 | x :: s, r => by simp only [List.cons_append, many, many_append L s r]; omega

structure Cyc (s : List DRegular) (L : Int) : Prop where
 is : cyc 1 s = some L
 few : many L s ≤ 20000
 pos : 1 ≤ L
 big : L ≤ 1000000
 all : ∀ r ∈ s, RegOk r ∧ L % r.2.1 = 0
theorem cyc_of {s : List DRegular} (hr : ∀ r ∈ s, RegOk r) (h : (cycR s).2.1 = 0) : Cyc s (cycR s).1 := by
 unfold cycR at h ⊢
 cases hc : cyc 1 s with
 | none => rw [hc] at h; simp at h
 | some L =>
  rw [hc] at h
  simp only at h ⊢
  by_cases hm : 20000 < many L s
  ·rw [if_pos hm] at h; simp at h
  ·rw [if_neg hm]
   obtain ⟨l1, l2, _, l4⟩ := cyc_ok hr (by omega) (by omega) hc
   exact ⟨hc, by simp only; omega, l1, l2, fun r h => ⟨hr r h, l4 r h⟩⟩
theorem many_pos {L : Int} (hL : 1 ≤ L) {s : List DRegular} (h : ∀ r ∈ s, RegOk r ∧ L % r.2.1 = 0) : 0 ≤ many L s := by
 have := allT_len hL h; omega
theorem tms_from {r : DRegular} (h : RegOk r) (L : Int) : tms L r = (upto [r] r.2.2 (L - r.2.2).toNat).map (·.1) := by
 unfold tms
 have := one_first h 0 L
 rw [Int.sub_zero, show nx r 0 = r.2.2 by unfold nx; rw [if_pos h.2.1]] at this
 rw [this]
theorem hit_first {r : DRegular} (h : RegOk r) : hit r r.2.2 = true := by
 have := (nx_ok h 0).2.1
 rwa [show nx r 0 = r.2.2 by unfold nx; rw [if_pos h.2.1]] at this
def LoadR (p : List DParameter) (l : List DLayout) (s : List DRegular) (c ms : Int) (r : Int × Int × Unit) : Prop :=
 if ¬ c = 0 then r = (0, c, ()) else if ¬ (1 ≤ ms ∧ ms ≤ 100000) then r = (0, 1, ()) else if ¬ (cycR s).2.1 = 0 then r = (0, (cycR s).2.1, ()) else r.2.1 = 0 ∧ LoadIs (sz p l) s (cycR s).1 ms r.1
theorem LoadR.unique {p : List DParameter} {l : List DLayout} {s : List DRegular} {c ms : Int} {r q : Int × Int × Unit} (h : LoadR p l s c ms r) (g : LoadR p l s c ms q) : r = q := by
 unfold LoadR at h g
 split at h
 ·rename_i h1; rw [if_pos h1] at g; rw [h, g]
 ·rename_i h1
  rw [if_neg h1] at g
  split at h
  ·rename_i h2; rw [if_pos h2] at g; rw [h, g]
  ·rename_i h2
   rw [if_neg h2] at g
   split at h
   ·rename_i h3; rw [if_pos h3] at g; rw [h, g]
   ·rename_i h3
    rw [if_neg h3] at g
    exact Prod.ext (h.2.unique g.2) (Prod.ext (h.1.trans g.1.symm) rfl)
theorem refTimes_ev (p : List DParameter) (l : List DLayout) (s : List DRegular) (ms L : Int) (hs : s.length ≤ 50) (hC : Cyc s L) {r : Int × Int × Unit} (next : Ev (fun k => perigeeref7_Load.c2 k p l s ms 0 (allT L s) ((allT L s).length : Int) 0) r) :
 Ev (fun k => perigeeref7_Load.c0 k p l s ms L [] s (s.length : Int) 0) r := by
 have big := hC.big
 have few := hC.few
 have h := Ev.rng (σ := List Int) (Ty.dflt YRegular) s (by omega) (g := fun k T i => perigeeref7_Load.c0 k p l s ms L T s (s.length : Int) i) (fun k T i => perigeeref7_Load.c0_eq _ _ _ _ _ _ _ _ _ _)
  (fun i T => T = allT L (s.take i)) (fun _ _ _ => r) (fun T hT => by
   rw [List.take_length] at hT
   rw [hT]; exact next) (fun i x xs T hi hx hd hget hw hT nxt => by
   simp only [Int.toNat_natCast, hget, hw]
   have ro := hC.all x hx
   have ht : s.take (i + 1) = s.take i ++ [x] := by
    rw [List.take_add_one]
    have : s[i]? = some x := by
     have := congrArg (fun l => l[0]?) hd
     simpa using this
    rw [this]; rfl
   have room : (T.length : Int) + (tms L x).length ≤ 20000 := by
    have e1 := many_append L (s.take (i + 1)) (s.drop (i + 1))
    rw [List.take_append_drop] at e1
    have e2 := allT_len hC.pos (s := s.take (i + 1)) (fun r hr => hC.all r (List.mem_of_mem_take hr))
    rw [ht, allT_snoc, List.length_append, ← ht] at e2
    have e3 := many_pos hC.pos (s := s.drop (i + 1)) (fun r hr => hC.all r (List.mem_of_mem_drop hr))
    rw [hT]; omega
   have own : ∀ (d : Nat) (t : Int) (w : List Int), hit x t = true → 0 ≤ t → t ≤ 2000000 → (L - t).toNat = d → w ++ (upto [x] t (L - t).toNat).map (·.1) = T ++ tms L x → Ev (fun k => perigeeref7_Load.c1 k p l s ms L w x.1 x.2.1 x.2.2 t s (s.length : Int) i) r := by
    intro d
    induction d using Nat.strongRecOn with
    | _ d ihd =>
     intro t w ht0 ht1 ht2 hd' hw'
     have a1 := ro.1.1
     refine Ev.step (fun k => by rw [perigeeref7_Load.c1_eq]) ?_
     simp only [decide_eq_true_eq]
     refine Ev.split (fun h => ?_) (fun h => ?_)
     ·have wl := congrArg List.length hw'
      rw [List.length_append, List.length_append] at wl
      rw [w64 (x := t + x.2.1) (by omega) (by omega)]
      refine Ev.yes (by omega) (ihd (L - (t + x.2.1)).toNat (by omega) (t + x.2.1) _ (hit_next ro.1 ht0).1 (by omega) (by omega) rfl ?_)
      rw [← hw', one_step ro.1 ht0 h, List.append_assoc]; rfl
     ·rw [show (L - t).toNat = 0 by omega, upto, List.map_nil, List.append_nil] at hw'
      rw [hw]
      exact nxt w (by rw [hw', hT, ht, allT_snoc])
   have f := ro.1.2
   have a1 := ro.1.1
   exact own _ x.2.2 T (hit_first ro.1) f.1 (by omega) rfl (by rw [tms_from ro.1])) 0 [] (by omega) (by simp [allT])
 exact h
theorem refStart_ev (p : List DParameter) (l : List DLayout) (s : List DRegular) (ms L : Int) (hP : PlanOk p l s) (hC : Cyc s L) (m1 : 1 ≤ ms) (m2 : ms ≤ 100000) (T : List Int) (v a : Int) (j : Int) (a0 : 0 ≤ a) (a1 : a < L) {r : Int × Int × Unit}
 (next : Ev (fun k => perigeeref7_Load.c2 k p l s ms (mxI v (W (sz p l) s a ms.toNat)) T (T.length : Int) (IntKind.wrap .i64 (j + 1))) r) :
 Ev (fun k => perigeeref7_Load.c3 k p l s ms v a 0 T (T.length : Int) j s (s.length : Int) 0) r := by
 have big := hC.big
 have hs := hP.len
 have e := W_wc (c := sz p l) (s := s) (fun r hr => (hC.all r hr).1) a (a + ms)
 rw [show (a + ms - a).toNat = ms.toNat by omega] at e
 rw [e] at next
 have h := Ev.rng (σ := Int) (Ty.dflt YRegular) s (by omega) (g := fun k c i => perigeeref7_Load.c3 k p l s ms v a c T (T.length : Int) j s (s.length : Int) i) (fun k c i => perigeeref7_Load.c3_eq _ _ _ _ _ _ _ _ _ _ _ _ _ _)
  (fun i c => 0 ≤ c ∧ c ≤ 700000000000000 * i ∧ c + wc (sz p l) (s.drop i) a (a + ms) = wc (sz p l) s a (a + ms)) (fun _ _ _ => r) (fun c hc => by
   obtain ⟨c0, c1, c2⟩ := hc
   rw [List.drop_length, wc] at c2
   rw [show c = wc (sz p l) s a (a + ms) by omega]
   exact next) (fun i x xs c hi hx hd hget hw hc nxt => by
   obtain ⟨c0, c1, c2⟩ := hc
   have ro := (hC.all x hx).1
   obtain ⟨n1, n2, n3, n4, n5⟩ := nx_ok ro a
   have q1 := ro.1
   have bd := cnt_bd ro (t := a) (to := a + ms) a0 (by omega)
   have sb := sz_bd hP.all x
   have prod : 0 ≤ cnt x a (a + ms) * sz p l x ∧ cnt x a (a + ms) * sz p l x ≤ 1000000000001 * 601 := ⟨Int.mul_nonneg bd.1 sb.1, Int.mul_le_mul bd.2 sb.2 sb.1 (by omega)⟩
   have hd2 : s.drop (i + 1) = xs := by rw [← List.drop_drop, hd]; rfl
   rw [hd, wc] at c2
   simp only [Int.toNat_natCast, hget, hw, decide_eq_true_eq, firstR_ev _ _ ro a a0 (by omega), Option.bind_some]
   rw [w64 (x := a + ms) (by omega) (by omega)]
   refine Ev.split (fun h => ?_) (fun h => ?_)
   ·refine Ev.yes (by omega) (Ev.bind (sizeR_ev hP hx) ?_)
    have e : IntKind.wrap .i64 (c + IntKind.wrap .i64 (IntKind.wrap .i64 (IntKind.wrap .i64 (Int.tdiv (IntKind.wrap .i64 (IntKind.wrap .i64 (a + ms - nx x a) - 1)) x.2.1) + 1) * sz p l x)) = c + cnt x a (a + ms) * sz p l x := by
     unfold cnt at bd prod ⊢
     rw [if_pos h] at bd prod ⊢
     rw [w64 (x := a + ms - nx x a) (by omega) (by omega), w64 (x := a + ms - nx x a - 1) (by omega) (by omega), Int.tdiv_eq_ediv_of_nonneg (by omega), show a + ms - nx x a - 1 = a + ms - 1 - nx x a by omega, w64 (x := (a + ms - 1 - nx x a) / x.2.1) (by omega) (by omega), w64 (x := (a + ms - 1 - nx x a) / x.2.1 + 1) (by omega) (by omega), w64 (x := ((a + ms - 1 - nx x a) / x.2.1 + 1) * sz p l x) (by omega) (by omega), w64 (by omega) (by omega)]
    simp only
    rw [e]
    exact nxt (c + cnt x a (a + ms) * sz p l x) ⟨by omega, by omega, by rw [hd2]; omega⟩
   ·have e : cnt x a (a + ms) = 0 := by unfold cnt; rw [if_neg h]
    rw [e] at c2
    exact nxt c ⟨by omega, by omega, by rw [hd2]; omega⟩) 0 0 (by omega) ⟨by omega, by omega, by simp⟩
 exact h
theorem refMax_ev (p : List DParameter) (l : List DLayout) (s : List DRegular) (ms L : Int) (hP : PlanOk p l s) (hC : Cyc s L) (m1 : 1 ≤ ms) (m2 : ms ≤ 100000) : ∃ v, Ev (fun k => perigeeref7_Load.c2 k p l s ms 0 (allT L s) ((allT L s).length : Int) 0) (v, 0, ()) ∧ LoadIs (sz p l) s L ms v := by
 have len := allT_len hC.pos hC.all
 have few := hC.few
 have cp : ∀ r ∈ s, 0 ≤ sz p l r := fun r _ => (sz_bd hP.all r).1
 have h := Ev.rngR (σ := Int) (0 : Int) (allT L s) (by omega) (g := fun k v i => perigeeref7_Load.c2 k p l s ms v (allT L s) ((allT L s).length : Int) i) (fun k v i => perigeeref7_Load.c2_eq _ _ _ _ _ _ _ _ _)
  (fun i v => 0 ≤ v ∧ (∀ k ∈ (allT L s).take i, W (sz p l) s k ms.toNat ≤ v) ∧ (v = 0 ∨ ∃ k ∈ (allT L s).take i, v = W (sz p l) s k ms.toNat)) (fun r => r.2.1 = 0 ∧ LoadIs (sz p l) s L ms r.1) (fun v hv => by
   obtain ⟨v0, v1, v2⟩ := hv
   rw [List.take_length] at v1 v2
   refine ⟨(v, 0, ()), Ev.now _, rfl, v0, fun k k1 k2 => v1 k ((allT_mem (by have := hC.pos; omega)).2 ⟨by omega, k1, k2⟩), ?_⟩
   rcases v2 with e | ⟨k, k1, k2⟩
   ·exact .inl e
   ·obtain ⟨q1, q2, q3⟩ := (allT_mem (by have := hC.pos; omega)).1 k1
    obtain ⟨n, rfl⟩ := Int.eq_ofNat_of_zero_le q1
    exact .inr ⟨n, q2, q3, k2⟩) (fun i x v hi hx hget? hget hw hv nxt => by
   obtain ⟨v0, v1, v2⟩ := hv
   obtain ⟨q1, q2, q3⟩ := (allT_mem (L := L) (s := s) (k := x) (by have := hC.pos; omega)).1 hx
   have ht : (allT L s).take (i + 1) = (allT L s).take i ++ [x] := by rw [List.take_add_one, hget?]; rfl
   have wp := W_pos (c := sz p l) (s := s) cp ms.toNat x
   have mx : v ≤ mxI v (W (sz p l) s x ms.toNat) ∧ W (sz p l) s x ms.toNat ≤ mxI v (W (sz p l) s x ms.toNat) ∧ (mxI v (W (sz p l) s x ms.toNat) = v ∨ mxI v (W (sz p l) s x ms.toNat) = W (sz p l) s x ms.toNat) := by
    unfold mxI; split <;> omega
   obtain ⟨r, r1, r2⟩ := nxt (mxI v (W (sz p l) s x ms.toNat)) ⟨by omega, fun k hk => by
    rw [ht, List.mem_append] at hk
    rcases hk with hk | hk
    ·have := v1 k hk; omega
    ·simp at hk; subst hk; exact mx.2.1, by
    rw [ht]
    rcases mx.2.2 with e | e
    ·rw [e]
     rcases v2 with e2 | ⟨k, k1, k2⟩
     ·exact .inl e2
     ·exact .inr ⟨k, by simp [k1], k2⟩
    ·exact .inr ⟨x, by simp, e⟩⟩
   refine ⟨r, ?_, r2⟩
   simp only [Int.toNat_natCast, hget]
   refine refStart_ev p l s ms L hP hC m1 m2 (allT L s) v x i q1 q2 ?_
   rw [hw]; exact r1) 0 0 (by omega) ⟨by omega, by simp, .inl rfl⟩
 obtain ⟨⟨v, e, u⟩, h1, h2, h3⟩ := h
 have h2 : e = 0 := h2
 subst h2
 exact ⟨v, h1, h3⟩
theorem loadR_ev (p : List DParameter) (l : List DLayout) (s : List DRegular) (c : Int) (h : Ev (fun k => perigeeref7_CheckPlan.f k p l s) (c, ())) (ok : c = 0 → PlanOk p l s) (ms : Int) : ∃ r, Ev (fun k => perigeeref7_Load.f k p l s ms) r ∧ LoadR p l s c ms r := by
 by_cases hc : c = 0
 ·have hP := ok hc
  subst hc
  by_cases hm : 1 ≤ ms ∧ ms ≤ 100000
  ·by_cases hy : (cycR s).2.1 = 0
   ·have hC := cyc_of hP.reg hy
    obtain ⟨v, v1, v2⟩ := refMax_ev p l s ms _ hP hC hm.1 hm.2
    refine ⟨(v, 0, ()), ?_, by unfold LoadR; rw [if_neg (by simp), if_neg (by simp [hm]), if_neg (by simp [hy])]; exact ⟨rfl, v2⟩⟩
    refine Ev.eq (fun k => by rw [perigeeref7_Load.f_eq]) (Ev.bind h ?_)
    refine Ev.no (by simp) ?_
    simp only [within_ev, Option.bind_some]
    exact Ev.no (by simp [hm]) (Ev.bind (cycleR_ev s hP.len hP.reg) (Ev.no (by simp [hy]) (refTimes_ev p l s ms _ hP.len hC v1)))
   ·refine ⟨(0, (cycR s).2.1, ()), ?_, by unfold LoadR; rw [if_neg (by simp), if_neg (by simp [hm]), if_pos hy]⟩
    refine Ev.eq (fun k => by rw [perigeeref7_Load.f_eq]) (Ev.bind h ?_)
    refine Ev.no (by simp) ?_
    simp only [within_ev, Option.bind_some]
    exact Ev.no (by simp [hm]) (Ev.bind (cycleR_ev s hP.len hP.reg) (Ev.yes (by simp [hy]) (Ev.now _)))
  ·refine ⟨(0, 1, ()), ?_, by unfold LoadR; rw [if_neg (by simp), if_pos hm]⟩
   refine Ev.eq (fun k => by rw [perigeeref7_Load.f_eq]) (Ev.bind h ?_)
   refine Ev.no (by simp) ?_
   simp only [within_ev, Option.bind_some]
   exact Ev.yes (by rw [decide_eq_false hm]; rfl) (Ev.now _)
 ·refine ⟨(0, c, ()), ?_, by unfold LoadR; rw [if_pos hc]⟩
  refine Ev.eq (fun k => by rw [perigeeref7_Load.f_eq]) (Ev.bind h ?_)
  exact Ev.yes (by simpa using hc) (Ev.now _)
end Go.Proofs.Ytcefbdknoelacaa.Pure

-- YtcefbdknoelacaaQ15
set_option linter.unusedVariables false
set_option linter.unusedSimpArgs false
namespace Go.Proofs.Ytcefbdknoelacaa.Pure
open Go Go.Proofs.Ytcefbdknoelacaa.A

theorem Ev.agreeL {α β : Type} {l : List β} (hl : l ≠ []) {K : Nat → β → List β → Option α} {r : α} (h : ∀ (i : Nat) (x : β), l[i]? = Option.some x → Ev (fun k => K k x (l.eraseIdx i)) r) : Ev (fun k => Go.Proofs.Ytcefbdknoelacaa.A.agreeL l (K k)) r := by
 have bound : ∀ b : Nat, ∃ N, ∀ i, i < b → ∀ x, l[i]? = Option.some x → ∀ n, N ≤ n → K n x (l.eraseIdx i) = Option.some r := by
  intro b
  induction b with
  | zero => exact ⟨0, fun i hi => by omega⟩
  | succ b ih =>
   obtain ⟨N, hN⟩ := ih
   cases hb : l[b]? with
   | none =>
    refine ⟨N, fun i hi x hx n hn => ?_⟩
    by_cases e : i = b
    ·subst e; rw [hb] at hx; cases hx
    ·exact hN i (by omega) x hx n hn
   | some y =>
    obtain ⟨M, hM⟩ := h b y hb
    refine ⟨max N M, fun i hi x hx n hn => ?_⟩
    by_cases e : i = b
    ·subst e; rw [hb] at hx; cases hx; exact hM n (by omega)
    ·exact hN i (by omega) x hx n (by omega)
 obtain ⟨N, hN⟩ := bound l.length
 refine ⟨N, fun n hn => ?_⟩
 have all : ∀ (i : Nat) (x : β), l[i]? = Option.some x → K n x (l.eraseIdx i) = Option.some r := fun i x hx => hN i (List.getElem?_eq_some_iff.1 hx).1 x hx n hn
 show Go.Proofs.Ytcefbdknoelacaa.A.agreeL l (K n) = _
 unfold Go.Proofs.Ytcefbdknoelacaa.A.agreeL
 have e : ∃ r, ∀ (i : Nat) (x : β), l[i]? = Option.some x → K n x (l.eraseIdx i) = Option.some r := ⟨r, all⟩
 rw [dif_pos e]
 obtain ⟨x, xs, rfl⟩ := List.exists_cons_of_ne_nil hl
 have h1 := Classical.choose_spec e 0 x rfl
 rw [all 0 x rfl] at h1
 exact h1.symm

theorem sorted_eq : ∀ {a b : List Int}, a.Pairwise (· ≤ ·) → b.Pairwise (· ≤ ·) → a.Perm b → a = b
 | [], b, _, _, h => by have := h.length_eq; cases b with | nil => rfl | cons _ _ => simp at this
 | x :: a, [], _, _, h => by have := h.length_eq; simp at this
 | x :: a, y :: b, h1, h2, h => by
  rw [List.pairwise_cons] at h1 h2
  have xy : x = y := by
   have m1 : x ∈ y :: b := h.subset (by simp)
   have m2 : y ∈ x :: a := h.symm.subset (by simp)
   have : y ≤ x := by rcases List.mem_cons.1 m1 with e | e; (omega); exact h2.1 x e
   have : x ≤ y := by rcases List.mem_cons.1 m2 with e | e; (omega); exact h1.1 y e
   omega
  subst xy
  rw [sorted_eq h1.2 h2.2 (List.perm_cons x |>.1 h)]
theorem sortI_ok (a : List Int) : (sortI a).Perm a ∧ (sortI a).Pairwise (· ≤ ·) := by
 refine ⟨List.mergeSort_perm _ _, ?_⟩
 have := List.pairwise_mergeSort (le := fun x y : Int => decide (x ≤ y)) (fun a b c h1 h2 => by simp at *; omega) (fun a b => by simp; omega) a
 exact this.imp fun h => by simpa using h
theorem sortI_perm {a b : List Int} (h : a.Perm b) : sortI a = sortI b :=
 sorted_eq (sortI_ok a).2 (sortI_ok b).2 ((sortI_ok a).1.trans (h.trans (sortI_ok b).1.symm))
theorem perm_erase {α : Type} : ∀ {l : List α} {i : Nat} {x : α}, l[i]? = some x → l.Perm (x :: l.eraseIdx i)
 | [], _, _, h => by simp at h
 | y :: l, 0, x, h => by simp at h; subst h; exact List.Perm.refl _
 | y :: l, i + 1, x, h => by
  simp at h
  rw [List.eraseIdx_cons_succ]
  exact ((perm_erase h).cons y).trans (List.Perm.swap x y _)

abbrev mg (k : Int) (m : List (Int × Int)) : Int := mapGet (.int .i64) (.int .i64) k m (0 : Int)
abbrev mp (k v : Int) (m : List (Int × Int)) : List (Int × Int) := mapPut (.int .i64) (.int .i64) k v m
theorem mg_mp (k t v : Int) : ∀ m : List (Int × Int), mg k (mp t v m) = if k = t then v else mg k m
 | [] => by
  by_cases h : k = t
  ·subst h; simp [mg, mp, mapPut, mapGet, eqV]
  ·simp [mg, mp, mapPut, mapGet, eqV, h, Ne.symm h]
 | (a, b) :: m => by
  have ih := mg_mp k t v m
  by_cases h : a = t
  ·subst h
   by_cases h2 : k = a
   ·subst h2; simp [mg, mp, mapPut, mapGet, eqV]
   ·simp [mg, mp, mapPut, mapGet, eqV, h2, Ne.symm h2]
  ·by_cases h2 : a = k
   ·subst h2
    simp [mg, mp, mapPut, mapGet, eqV, h]
   ·simp only [mg, mp, mapPut, mapGet, eqV, h, h2, decide_false, Bool.false_eq_true, if_false] at ih ⊢
    exact ih
theorem keys_mp (t v : Int) : ∀ m : List (Int × Int), (mp t v m).map (·.1) = if t ∈ m.map (·.1) then m.map (·.1) else m.map (·.1) ++ [t]
 | [] => by simp [mp, mapPut]
 | (a, b) :: m => by
  have ih := keys_mp t v m
  by_cases h : a = t
  ·subst h; simp [mp, mapPut, eqV]
  ·simp only [mp, mapPut, eqV, h, decide_false, Bool.false_eq_true, if_false, List.map_cons, List.mem_cons, Ne.symm h, false_or] at ih ⊢
   rw [ih]
   split <;> simp
def evSum (k : Int) : List (Int × Int) → Int
 | [] => 0
 | e :: E => (if e.1 = k then e.2 else 0) + evSum k E
def evAll : List (Int × Int) → Int
 | [] => 0
 | e :: E => e.2 + evAll E
theorem evSum_append (k : Int) : ∀ (E F : List (Int × Int)), evSum k (E ++ F) = evSum k E + evSum k F
 | [], F => by simp [evSum]
 | e :: E, F => by simp only [List.cons_append, evSum, evSum_append k E F]; omega
theorem evAll_append : ∀ (E F : List (Int × Int)), evAll (E ++ F) = evAll E + evAll F
 | [], F => by simp [evAll]
 | e :: E, F => by simp only [List.cons_append, evAll, evAll_append E F]; omega
theorem ev_bd {b : Int} : ∀ {E : List (Int × Int)}, (∀ e ∈ E, 0 ≤ e.2 ∧ e.2 ≤ b) → ∀ k, 0 ≤ evSum k E ∧ evSum k E ≤ evAll E ∧ evAll E ≤ b * E.length
 | [], _, k => by simp [evSum, evAll]
 | e :: E, h, k => by
  have h1 := h e (by simp)
  obtain ⟨a, c, d⟩ := ev_bd (E := E) (fun x hx => h x (by simp [hx])) k
  simp only [evSum, evAll, List.length_cons]
  rw [show ((E.length + 1 : Nat) : Int) = (E.length : Int) + 1 by omega, Int.mul_add]
  split <;> omega
structure MapIs (m : List (Int × Int)) (E : List (Int × Int)) : Prop where
 get : ∀ k, mg k m = evSum k E
 nd : (m.map (·.1)).Nodup
 ks : ∀ k, k ∈ m.map (·.1) ↔ k ∈ E.map (·.1)
theorem MapIs.put {m E : List (Int × Int)} (h : MapIs m E) (t w : Int) : MapIs (mp t (mg t m + w) m) (E ++ [(t, w)]) := by
 refine ⟨fun k => ?_, ?_, fun k => ?_⟩
 ·rw [mg_mp, evSum_append, h.get t]
  by_cases e : k = t
  ·subst e; simp [evSum]
  ·rw [if_neg e, h.get k]; simp [evSum, Ne.symm e]
 ·rw [keys_mp]
  split
  ·exact h.nd
  ·rename_i hn
   rw [List.nodup_append]
   exact ⟨h.nd, by simp, fun a ha b hb e => by simp at hb; subst hb; subst e; exact hn ha⟩
 ·rw [keys_mp, List.map_append, List.mem_append, ← h.ks k]
  split
  ·rename_i ht
   constructor
   ·exact .inl
   ·rintro (h1 | h1)
    ·exact h1
    ·simp at h1; subst h1; exact ht
  ·rw [List.mem_append]; simp
def evs (c : DRegular → Int) (L : Int) (s : List DRegular) : List (Int × Int) := s.flatMap fun r => (tms L r).map fun t => (t, c r)
theorem evs_snoc (c : DRegular → Int) (L : Int) (s : List DRegular) (r : DRegular) : evs c L (s ++ [r]) = evs c L s ++ (tms L r).map fun t => (t, c r) := by
 unfold evs; rw [List.flatMap_append, List.flatMap_cons, List.flatMap_nil, List.append_nil]
theorem evs_times (c : DRegular → Int) (L : Int) : ∀ s : List DRegular, (evs c L s).map (·.1) = allT L s
 | [] => rfl
 | r :: s => by
  have := evs_times c L s
  unfold evs allT at *
  rw [List.flatMap_cons, List.flatMap_cons, List.map_append, this, List.map_map]
  congr 1
  exact List.map_id _
theorem evSum_none {k w : Int} : ∀ {T : List Int}, k ∉ T → evSum k (T.map fun t => (t, w)) = 0
 | [], _ => rfl
 | t :: T, h => by
  simp only [List.mem_cons, not_or] at h
  simp only [List.map_cons, evSum]
  rw [if_neg (Ne.symm h.1), evSum_none h.2]; rfl
theorem evSum_one (r : DRegular) (w : Int) : ∀ (n : Nat) (t k : Int), t ≤ k → k < t + n → evSum k (((upto [r] t n).map (·.1)).map fun t => (t, w)) = if hit r k = true then w else 0
 | 0, t, k, h1, h2 => by omega
 | n + 1, t, k, h1, h2 => by
  rw [upto, List.map_append, List.map_append, evSum_append, at_one]
  by_cases e : k = t
  ·subst e
   have : evSum k (((upto [r] (k + 1) n).map (·.1)).map fun t => (t, w)) = 0 := evSum_none fun h => by have := (upto_iff r n (k + 1) k).1 h; omega
   rw [this]
   cases hit r k <;> simp [evSum]
  ·rw [evSum_one r w n (t + 1) k (by omega) (by omega)]
   cases hit r t <;> simp [evSum, Ne.symm e]
theorem evSum_evs (c : DRegular → Int) {L : Int} {k : Int} (k0 : 0 ≤ k) (k1 : k < L) : ∀ s : List DRegular, evSum k (evs c L s) = cost c s k
 | [] => rfl
 | r :: s => by
  have := evSum_evs c k0 k1 s
  unfold evs at *
  rw [List.flatMap_cons, evSum_append, this, cost]
  congr 1
  exact evSum_one r (c r) L.toNat 0 k k0 (by omega)
theorem evAll_map (w : Int) : ∀ T : List Int, evAll (T.map fun t => (t, w)) = T.length * w
 | [] => by simp [evAll]
 | t :: T => by simp only [List.map_cons, evAll, evAll_map w T, List.length_cons]; rw [show ((T.length + 1 : Nat) : Int) = T.length + 1 by omega, Int.add_mul]; omega
theorem evAll_evs (c : DRegular → Int) {L : Int} (hL : 1 ≤ L) : ∀ {s : List DRegular}, (∀ r ∈ s, RegOk r ∧ L % r.2.1 = 0) → evAll (evs c L s) = total c s L
 | [], _ => rfl
 | r :: s, h => by
  have := evAll_evs c hL (s := s) (fun x hx => h x (by simp [hx]))
  unfold evs at *
  rw [List.flatMap_cons, evAll_append, this, evAll_map, tms_len hL (h r (by simp))]; rfl
end Go.Proofs.Ytcefbdknoelacaa.Pure

-- YtcefbdknoelacaaQ16
set_option linter.unusedVariables false
set_option linter.unusedSimpArgs false
namespace Go.Proofs.Ytcefbdknoelacaa.Pure
open Go Go.Proofs.Ytcefbdknoelacaa.A

theorem evs_ok {p : List DParameter} {l : List DLayout} (a : AllOk p l) (L : Int) (s : List DRegular) : ∀ e ∈ evs (sz p l) L s, 0 ≤ e.2 ∧ e.2 ≤ 601 := by
 intro e he
 obtain ⟨r, _, h⟩ := List.mem_flatMap.1 he
 obtain ⟨t, _, rfl⟩ := List.mem_map.1 h
 exact sz_bd a r
theorem evs_len (c : DRegular → Int) (L : Int) (s : List DRegular) : (evs c L s).length = (allT L s).length := by
 rw [← evs_times c L s, List.length_map]
theorem prgTimes_ev (p : List DParameter) (l : List DLayout) (s : List DRegular) (ms L : Int) (hP : PlanOk p l s) (hC : Cyc s L) {r : Int × Int × Unit}
 (next : ∀ m, MapIs m (evs (sz p l) L s) → Ev (fun k => telemetry_Load.c2 k ms L m (total (sz p l) s L) [] none m) r) :
 Ev (fun k => telemetry_Load.c0 k p l ms L [] 0 s (s.length : Int) 0) r := by
 have big := hC.big
 have few := hC.few
 have hs := hP.len
 have h := Ev.rng (σ := List (Int × Int) × Int) (Ty.dflt YRegular) s (by omega) (g := fun k S i => telemetry_Load.c0 k p l ms L S.1 S.2 s (s.length : Int) i) (fun k S i => telemetry_Load.c0_eq _ _ _ _ _ _ _ _ _ _)
  (fun i S => MapIs S.1 (evs (sz p l) L (s.take i)) ∧ S.2 = evAll (evs (sz p l) L (s.take i))) (fun _ _ _ => r) (fun S hS => by
   obtain ⟨h1, h2⟩ := hS
   rw [List.take_length] at h1 h2
   rw [h2, evAll_evs (sz p l) hC.pos hC.all]
   exact next _ h1) (fun i x xs S hi hx hd hget hw hS nxt => by
   simp only [Int.toNat_natCast, hget, hw]
   have ro := hC.all x hx
   have ht : s.take (i + 1) = s.take i ++ [x] := by
    rw [List.take_add_one]
    have : s[i]? = some x := by
     have := congrArg (fun l => l[0]?) hd
     simpa using this
    rw [this]; rfl
   have room : ((evs (sz p l) L (s.take i)).length : Int) + (tms L x).length ≤ 20000 := by
    have e1 := many_append L (s.take (i + 1)) (s.drop (i + 1))
    rw [List.take_append_drop] at e1
    have e2 := allT_len hC.pos (s := s.take (i + 1)) (fun r hr => hC.all r (List.mem_of_mem_take hr))
    rw [ht, allT_snoc, List.length_append, ← ht] at e2
    have e3 := many_pos hC.pos (s := s.drop (i + 1)) (fun r hr => hC.all r (List.mem_of_mem_drop hr))
    rw [evs_len]; omega
   have sb := sz_bd hP.all x
   refine Ev.bind (sizeT_ev hP hx) ?_
   simp only
   have own : ∀ (d : Nat) (t : Int) (w : List Int) (m : List (Int × Int)) (v : Int), hit x t = true → 0 ≤ t → t ≤ 2000000 → (L - t).toNat = d → w ++ (upto [x] t (L - t).toNat).map (·.1) = tms L x → MapIs m (evs (sz p l) L (s.take i) ++ w.map fun t => (t, sz p l x)) → v = evAll (evs (sz p l) L (s.take i) ++ w.map fun t => (t, sz p l x)) →
    Ev (fun k => telemetry_Load.c1 k p l ms L m v x.1 x.2.1 x.2.2 (sz p l x) t s (s.length : Int) i) r := by
    intro d
    induction d using Nat.strongRecOn with
    | _ d ihd =>
     intro t w m v ht0 ht1 ht2 hd' hw' hm hv
     have a1 := ro.1.1
     refine Ev.step (fun k => by rw [telemetry_Load.c1_eq]) ?_
     simp only [decide_eq_true_eq]
     refine Ev.split (fun h => ?_) (fun h => ?_)
     ·have wl := congrArg List.length hw'
      rw [List.length_append] at wl
      have bd := ev_bd (b := 601) (E := evs (sz p l) L (s.take i) ++ w.map fun t => (t, sz p l x)) (fun e he => by
       rcases List.mem_append.1 he with he | he
       ·exact evs_ok hP.all L _ e he
       ·obtain ⟨t, _, rfl⟩ := List.mem_map.1 he
        exact sb) t
      rw [← hm.get t, List.length_append, List.length_map] at bd
      have hsplit : w.map (fun t => (t, sz p l x)) ++ [(t, sz p l x)] = (w ++ [t]).map fun t => (t, sz p l x) := by simp
      have hm2 := hm.put t (sz p l x)
      rw [List.append_assoc, hsplit] at hm2
      have hv2 : v + sz p l x = evAll (evs (sz p l) L (s.take i) ++ (w ++ [t]).map fun t => (t, sz p l x)) := by
       rw [← hsplit, ← List.append_assoc, evAll_append, ← hv]; simp [evAll]
      rw [w64 (x := t + x.2.1) (by omega) (by omega), w64 (x := mg t m + sz p l x) (by omega) (by omega), w64 (x := v + sz p l x) (by omega) (by omega)]
      refine ihd (L - (t + x.2.1)).toNat (by omega) (t + x.2.1) (w ++ [t]) _ _ (hit_next ro.1 ht0).1 (by omega) (by omega) rfl ?_ hm2 hv2
      rw [← hw', one_step ro.1 ht0 h, List.append_assoc]; rfl
     ·rw [show (L - t).toNat = 0 by omega, upto, List.map_nil, List.append_nil] at hw'
      rw [hw]
      exact nxt (m, v) ⟨by rw [ht, evs_snoc, ← hw']; exact hm, by rw [ht, evs_snoc, ← hw']; exact hv⟩
   have f := ro.1.2
   have a1 := ro.1.1
   exact own _ x.2.2 [] S.1 S.2 (hit_first ro.1) f.1 (by omega) rfl (by rw [tms_from ro.1]; rfl) (by simpa using hS.1) (by simpa using hS.2)) 0 ([], 0) (by omega) ⟨⟨fun k => rfl, by simp, by simp [evs]⟩, rfl⟩
 exact h
theorem range_ev {ms L tot : Int} (hL : 1 ≤ L) {m : List (Int × Int)} {keys : List Int} (hk : keys.length ≤ 1000000) {r : Int × Int × Unit} (next : Ev (fun k => telemetry_Load.c3 k ms L m tot (sortI keys) 0 (Int.tmod ms L) 0 0 ((sortI keys).length : Int) 0) r) :
 ∀ (n : Nat) (done : List Int) (cur : Option DShare) (rest : List (Int × Int)), rest.length = n → (done ++ rest.map (·.1)).Perm keys → Ev (fun k => telemetry_Load.c2 k ms L m tot done cur rest) r := by
 intro n
 induction n with
 | zero =>
  intro done cur rest hn hp
  obtain rfl : rest = [] := List.eq_nil_of_length_eq_zero hn
  refine Ev.step (fun k => by rw [telemetry_Load.c2_eq]) ?_
  refine Ev.yes (by rfl) (Ev.yes (by omega) ?_)
  rw [List.map_nil, List.append_nil] at hp
  rw [sortI_perm hp]
  exact next
 | succ n ih =>
  intro done cur rest hn hp
  refine Ev.step (fun k => by rw [telemetry_Load.c2_eq]) ?_
  refine Ev.no (by omega) ?_
  refine Ev.agreeL (by intro e; subst e; simp at hn) fun i x hx => ?_
  have hi := (List.getElem?_eq_some_iff.1 hx).1
  have len := hp.length_eq
  rw [List.length_append, List.length_map] at len
  refine Ev.yes (by omega) (ih _ _ _ (by rw [List.length_eraseIdx]; split <;> omega) ?_)
  have := (perm_erase hx).map (·.1)
  rw [List.append_assoc]
  exact (this.symm.append_left done).trans hp
end Go.Proofs.Ytcefbdknoelacaa.Pure

-- YtcefbdknoelacaaQ17
set_option linter.unusedVariables false
set_option linter.unusedSimpArgs false
namespace Go.Proofs.Ytcefbdknoelacaa.Pure
open Go Go.Proofs.Ytcefbdknoelacaa.A

structure Enum (s : List DRegular) (X : List Int) (M : Int) : Prop where
 up : X.Pairwise (· < ·)
 mem : ∀ u, u ∈ X ↔ 0 ≤ u ∧ u < M ∧ ∃ r ∈ s, hit r u = true
theorem Enum.lt {s : List DRegular} {X : List Int} {M : Int} (h : Enum s X M) {i j : Nat} (hij : i < j) (hj : j < X.length) : X.getD i 0 < X.getD j 0 := by
 have := List.pairwise_iff_getElem.1 h.up i j (by omega) hj hij
 rw [getD_nat 0 X i (by omega), getD_nat 0 X j hj]
 exact this
theorem Enum.le {s : List DRegular} {X : List Int} {M : Int} (h : Enum s X M) {i j : Nat} (hij : i ≤ j) (hj : j < X.length) : X.getD i 0 ≤ X.getD j 0 := by
 rcases Nat.lt_or_ge i j with h1 | h1
 ·exact Int.le_of_lt (h.lt h1 hj)
 ·rw [show i = j by omega]; exact Int.le_refl _
theorem Enum.at {s : List DRegular} {X : List Int} {M : Int} (h : Enum s X M) {i : Nat} (hi : i < X.length) : 0 ≤ X.getD i 0 ∧ X.getD i 0 < M ∧ ∃ r ∈ s, hit r (X.getD i 0) = true := (h.mem _).1 (getD_mem hi)
theorem Enum.gap {s : List DRegular} {X : List Int} {M : Int} (h : Enum s X M) {j : Nat} (hj : j + 1 < X.length) {u : Int} (h1 : X.getD j 0 < u) (h2 : u < X.getD (j + 1) 0) : ∀ r ∈ s, hit r u = false := by
 intro r hr
 cases hh : hit r u with
 | false => rfl
 | true =>
  have a := h.at (i := j) (by omega)
  have b := h.at hj
  have m := (h.mem u).2 ⟨by omega, by omega, r, hr, hh⟩
  obtain ⟨p, hp, e⟩ := List.mem_iff_getElem.1 m
  rw [← getD_nat 0 X p hp] at e
  rcases Nat.lt_or_ge j p with q | q
  ·have := h.le (i := j + 1) (j := p) (by omega) hp; omega
  ·have := h.le (i := p) (j := j) q (by omega); omega
section
variable {c : DRegular → Int} {s : List DRegular} {X : List Int} {M : Int}
theorem W_next (h : Enum s X M) {a : Int} {j : Nat} (hj : j + 1 < X.length) (ha : a ≤ X.getD j 0) : W c s a (X.getD (j + 1) 0 - a).toNat = W c s a (X.getD j 0 - a).toNat + cost c s (X.getD j 0) := by
 have lt := h.lt (i := j) (j := j + 1) (by omega) hj
 have e1 := W_split (c := c) (s := s) (X.getD j 0 - a).toNat (1 + (X.getD (j + 1) 0 - X.getD j 0 - 1).toNat) a
 have e2 := W_split (c := c) (s := s) 1 (X.getD (j + 1) 0 - X.getD j 0 - 1).toNat (X.getD j 0)
 have e3 : W c s (X.getD j 0 + ((1 : Nat) : Int)) (X.getD (j + 1) 0 - X.getD j 0 - 1).toNat = 0 := W_none fun u h1 h2 => h.gap hj (by omega) (by omega)
 rw [show a + ((X.getD j 0 - a).toNat : Int) = X.getD j 0 by omega, e2, e3] at e1
 rw [show (X.getD (j + 1) 0 - a).toNat = (X.getD j 0 - a).toNat + (1 + (X.getD (j + 1) 0 - X.getD j 0 - 1).toNat) by omega, e1, W, W]
 omega
theorem W_first (h : Enum s X M) {i : Nat} (hi : i + 1 < X.length) {b : Int} (hb : X.getD (i + 1) 0 ≤ b) : W c s (X.getD i 0) (b - X.getD i 0).toNat = cost c s (X.getD i 0) + W c s (X.getD (i + 1) 0) (b - X.getD (i + 1) 0).toNat := by
 have lt := h.lt (i := i) (j := i + 1) (by omega) hi
 have e1 := W_split (c := c) (s := s) (X.getD (i + 1) 0 - X.getD i 0).toNat (b - X.getD (i + 1) 0).toNat (X.getD i 0)
 have e2 := W_next (c := c) h (a := X.getD i 0) hi (Int.le_refl _)
 rw [show (X.getD i 0 - X.getD i 0).toNat = 0 by omega, W] at e2
 rw [show X.getD i 0 + ((X.getD (i + 1) 0 - X.getD i 0).toNat : Int) = X.getD (i + 1) 0 by omega, e2] at e1
 rw [show (b - X.getD i 0).toNat = (X.getD (i + 1) 0 - X.getD i 0).toNat + (b - X.getD (i + 1) 0).toNat by omega, e1]
 omega
theorem W_stop (h : Enum s X M) {a e : Int} {j : Nat} (hj : j + 1 < X.length) (ha : a ≤ X.getD j 0) (h1 : X.getD j 0 < e) (h2 : e ≤ X.getD (j + 1) 0) : W c s a (X.getD (j + 1) 0 - a).toNat = W c s a (e - a).toNat := by
 have e1 := W_split (c := c) (s := s) (e - a).toNat (X.getD (j + 1) 0 - e).toNat a
 have e3 : W c s e (X.getD (j + 1) 0 - e).toNat = 0 := W_none fun u g1 g2 => h.gap hj (by omega) (by omega)
 rw [show a + ((e - a).toNat : Int) = e by omega, e3] at e1
 rw [show (X.getD (j + 1) 0 - a).toNat = (e - a).toNat + (X.getD (j + 1) 0 - e).toNat by omega, e1]
 omega
end
theorem enum_two {s : List DRegular} {L : Int} (hL : 1 ≤ L) (hr : ∀ r ∈ s, RegOk r ∧ L % r.2.1 = 0) {K : List Int} (h : Enum s K L) : Enum s (K ++ K.map (· + L)) (L + L) := by
 refine ⟨?_, fun u => ?_⟩
 ·rw [List.pairwise_append]
  refine ⟨h.up, ?_, fun a ha b hb => ?_⟩
  ·rw [List.pairwise_map]; exact h.up.imp fun h => by omega
  ·obtain ⟨x, hx, rfl⟩ := List.mem_map.1 hb
   have := (h.mem a).1 ha
   have := (h.mem x).1 hx
   omega
 ·rw [List.mem_append, h.mem u, List.mem_map]
  constructor
  ·rintro (⟨h1, h2, h3⟩ | ⟨x, hx, rfl⟩)
   ·exact ⟨h1, by omega, h3⟩
   ·obtain ⟨h1, h2, r, h3, h4⟩ := (h.mem x).1 hx
    exact ⟨by omega, by omega, r, h3, by rw [hit_per (hr r h3).1 (by omega) (hr r h3).2 h1]; exact h4⟩
  ·rintro ⟨h1, h2, r, h3, h4⟩
   rcases Int.lt_or_le u L with h5 | h5
   ·exact .inl ⟨h1, h5, r, h3, h4⟩
   ·refine .inr ⟨u - L, (h.mem _).2 ⟨by omega, by omega, r, h3, ?_⟩, by omega⟩
    rw [← hit_per (hr r h3).1 (by omega) (hr r h3).2 (by omega), show u - L + L = u by omega]; exact h4
theorem two_lo {K : List Int} {L : Int} {j : Nat} (h : j < K.length) : (K ++ K.map (· + L)).getD j 0 = K.getD j 0 := by
 rw [List.getD_eq_getElem?_getD, List.getElem?_append_left h, List.getD_eq_getElem?_getD]
theorem two_hi {K : List Int} {L : Int} {j : Nat} (h : j < K.length) : (K ++ K.map (· + L)).getD (K.length + j) 0 = K.getD j 0 + L := by
 rw [List.getD_eq_getElem?_getD, List.getElem?_append_right (by omega), show K.length + j - K.length = j by omega, List.getElem?_map, List.getD_eq_getElem?_getD, List.getElem?_eq_getElem h]; rfl
end Go.Proofs.Ytcefbdknoelacaa.Pure

-- YtcefbdknoelacaaQ18
set_option linter.unusedVariables false
set_option linter.unusedSimpArgs false
namespace Go.Proofs.Ytcefbdknoelacaa.Pure
open Go Go.Proofs.Ytcefbdknoelacaa.A

structure Win (c : DRegular → Int) (s : List DRegular) (L rest : Int) (m : List (Int × Int)) (K : List Int) : Prop where
 pos : 1 ≤ L
 big : L ≤ 1000000
 all : ∀ r ∈ s, RegOk r ∧ L % r.2.1 = 0
 cp : ∀ r ∈ s, 0 ≤ c r
 tot : total c s L ≤ 1000000000
 en : Enum s K L
 mm : ∀ k, 0 ≤ k → k < L → mg k m = cost c s k
 r0 : 0 ≤ rest
 r1 : rest < L
 len : K.length ≤ 1000000
abbrev kk (K : List Int) (L : Int) (j : Nat) : Int := (K ++ K.map (· + L)).getD j 0
section
variable {c : DRegular → Int} {s : List DRegular} {L rest : Int} {m : List (Int × Int)} {K : List Int}
theorem Win.two (w : Win c s L rest m K) : Enum s (K ++ K.map (· + L)) (L + L) := enum_two w.pos w.all w.en
theorem Win.at_ (w : Win c s L rest m K) {j : Nat} (hj : j < K.length + K.length) : K.getD (j % K.length) 0 + ((j / K.length : Nat) : Int) * L = kk K L j ∧ mg (K.getD (j % K.length) 0) m = cost c s (kk K L j) ∧ 0 ≤ K.getD (j % K.length) 0 ∧ K.getD (j % K.length) 0 < L ∧ j / K.length ≤ 1 := by
 have hn : 0 < K.length := by omega
 rcases Nat.lt_or_ge j K.length with h | h
 ·rw [Nat.mod_eq_of_lt h, Nat.div_eq_of_lt h]
  obtain ⟨a1, a2, _⟩ := w.en.at h
  refine ⟨?_, ?_, a1, a2, by omega⟩
  ·show _ = (K ++ K.map (· + L)).getD j 0
   rw [two_lo h]; simp
  ·show _ = cost c s ((K ++ K.map (· + L)).getD j 0)
   rw [two_lo h]; exact w.mm _ a1 a2
 ·have e1 : j % K.length = j - K.length := by rw [Nat.mod_eq_sub_mod h, Nat.mod_eq_of_lt (by omega)]
  have e2 : j / K.length = 1 := by
   have := Nat.div_add_mod j K.length
   rw [e1] at this
   have h2 : K.length * (j / K.length) = K.length * 1 := by omega
   exact Nat.eq_of_mul_eq_mul_left hn h2
  have hj2 : j - K.length < K.length := by omega
  obtain ⟨a1, a2, _⟩ := w.en.at hj2
  have e3 : kk K L j = K.getD (j - K.length) 0 + L := by
   have := two_hi (K := K) (L := L) hj2
   rwa [show K.length + (j - K.length) = j by omega] at this
  rw [e1, e2, e3]
  refine ⟨by simp, ?_, a1, a2, by omega⟩
  rw [w.mm _ a1 a2, cost_per (by have := w.pos; omega) w.all a1]
theorem Win.bd (w : Win c s L rest m K) {i j : Nat} (hi : i < K.length) (hij : i ≤ j) (hj : j ≤ i + K.length) : kk K L i ≤ kk K L j ∧ kk K L j ≤ kk K L i + L ∧ 0 ≤ W c s (kk K L i) (kk K L j - kk K L i).toNat ∧ W c s (kk K L i) (kk K L j - kk K L i).toNat ≤ total c s L ∧ 0 ≤ kk K L i ∧ kk K L i < L := by
 have len : (K ++ K.map (· + L)).length = K.length + K.length := by simp
 obtain ⟨a1, a2, _⟩ := w.en.at hi
 have ei : kk K L i = K.getD i 0 := two_lo hi
 have et : kk K L (i + K.length) = kk K L i + L := by
  have := two_hi (K := K) (L := L) hi
  rw [Nat.add_comm] at this
  rw [ei]; exact this
 have h1 := w.two.le (i := i) (j := j) hij (by omega)
 have h2 := w.two.le (i := j) (j := i + K.length) hj (by omega)
 have h3 : kk K L i ≤ kk K L j := h1
 have h4 : kk K L j ≤ kk K L (i + K.length) := h2
 have mono := W_mono (c := c) (s := s) w.cp (kk K L i) (n := (kk K L j - kk K L i).toNat) (m := L.toNat) (by omega)
 have rd := W_round (c := c) w.pos w.all (kk K L i).toNat
 rw [show (((kk K L i).toNat : Nat) : Int) = kk K L i by omega] at rd
 exact ⟨h3, by omega, W_pos w.cp _ _, by omega, by omega, by omega⟩

theorem win_ev (w : Win c s L rest m K) {ms tot best : Int} {i : Nat} (hi : i < K.length) {r : Int × Int × Unit}
 (next : ∀ (j' : Nat) (s' : Int), i + 1 ≤ j' → j' ≤ i + 1 + K.length → (i + 1 < K.length → s' = W c s (kk K L (i + 1)) (kk K L j' - kk K L (i + 1)).toNat) → (j' = i + 1 ∨ (i + 1 < j' ∧ kk K L (j' - 1) < kk K L i + rest)) →
  Ev (fun k => telemetry_Load.c3 k ms L m tot K (mxI best (W c s (kk K L i) rest.toNat)) rest (j' : Int) s' (K.length : Int) ((i : Int) + 1)) r) :
 ∀ (d j : Nat) (v : Int), i + K.length - j = d → i ≤ j → j ≤ i + K.length → v = W c s (kk K L i) (kk K L j - kk K L i).toNat → (j = i ∨ (i < j ∧ kk K L (j - 1) < kk K L i + rest)) →
  Ev (fun k => telemetry_Load.c4 k ms L m tot K best rest (j : Int) v (i : Int) (kk K L i) (K.length : Int) (i : Int)) r := by
 have len : (K ++ K.map (· + L)).length = K.length + K.length := by simp
 have klen := w.len
 have p1 := w.pos
 have p2 := w.big
 have r0 := w.r0
 have r1 := w.r1
 have tt := w.tot
 have hi2 : i < K.length + K.length := by omega
 have ea : kk K L i = K.getD i 0 := two_lo hi
 obtain ⟨ka, kb, _⟩ := w.en.at hi
 have b0 := w.bd hi (Nat.le_refl i) (by omega)
 have ct : 0 ≤ cost c s (kk K L i) ∧ cost c s (kk K L i) ≤ total c s L := by
  have q := w.bd hi (show i ≤ i + 1 by omega) (by omega)
  have f := W_next (c := c) w.two (a := kk K L i) (j := i) (by omega) (Int.le_refl _)
  have f : W c s (kk K L i) (kk K L (i + 1) - kk K L i).toNat = W c s (kk K L i) (kk K L i - kk K L i).toNat + cost c s (kk K L i) := f
  rw [show (kk K L i - kk K L i).toNat = 0 by omega, W] at f
  omega
 have mga : mapGet (.int .i64) (.int .i64) (kk K L i) m (0 : Int) = cost c s (kk K L i) := w.mm _ (by omega) (by omega)
 have wi : IntKind.wrap .i64 ((i : Int) + 1) = (i : Int) + 1 := w64 (by omega) (by omega)
 -- the window is full
 have stop : ∀ (j : Nat) (v : Int), i ≤ j → j ≤ i + K.length → v = W c s (kk K L i) (kk K L j - kk K L i).toNat → (j = i ∨ (i < j ∧ kk K L (j - 1) < kk K L i + rest)) → kk K L i + rest ≤ kk K L j →
  Ev (fun k => if (i : Int) < (j : Int) then
   telemetry_Load.c3 k ms L m tot K (mxI best v) rest (j : Int) (IntKind.wrap .i64 (v - mapGet (.int .i64) (.int .i64) (kk K L i) m (0 : Int))) (K.length : Int) (IntKind.wrap .i64 ((i : Int) + 1))
  else telemetry_Load.c3 k ms L m tot K (mxI best v) rest (IntKind.wrap .i64 ((i : Int) + 1)) v (K.length : Int) (IntKind.wrap .i64 ((i : Int) + 1))) r := by
  intro j v hij hj hv hlast hstop
  have bj := w.bd hi hij hj
  rw [wi, mga]
  rcases hlast with rfl | ⟨hlt, hl⟩
  ·have e0 : rest = 0 := by omega
   rw [show (kk K L j - kk K L j).toNat = 0 by omega, W] at hv
   subst e0
   subst hv
   have := next (j + 1) 0 (by omega) (by omega) (fun _ => by rw [show (kk K L (j + 1) - kk K L (j + 1)).toNat = 0 by omega, W]) (.inl rfl)
   rw [show (0 : Int).toNat = 0 from rfl, W, show ((j + 1 : Nat) : Int) = (j : Int) + 1 by omega] at this
   exact Ev.no (by omega) this
  ·have lo : kk K L i ≤ kk K L (j - 1) := w.two.le (i := i) (j := j - 1) (by omega) (by omega)
   have e := W_stop (c := c) w.two (a := kk K L i) (e := kk K L i + rest) (j := j - 1) (by omega) lo hl (by rw [show j - 1 + 1 = j by omega]; exact hstop)
   rw [show j - 1 + 1 = j by omega, show kk K L i + rest - kk K L i = rest by omega] at e
   have e : W c s (kk K L i) (kk K L j - kk K L i).toNat = W c s (kk K L i) rest.toNat := e
   have := next j (v - cost c s (kk K L i)) (by omega) (by omega) (fun hn => by
    have le : kk K L (i + 1) ≤ kk K L j := w.two.le (i := i + 1) (j := j) (by omega) (by omega)
    have f := W_first (c := c) w.two (i := i) (by omega) (b := kk K L j) le
    have f : W c s (kk K L i) (kk K L j - kk K L i).toNat = cost c s (kk K L i) + W c s (kk K L (i + 1)) (kk K L j - kk K L (i + 1)).toNat := f
    omega) (by by_cases h : j = i + 1; (exact .inl h); exact .inr ⟨by omega, hl⟩)
   rw [← e, ← hv] at this
   rw [w64 (by omega) (by omega)]
   exact Ev.yes (by omega) this
 intro d
 induction d with
 | zero =>
  intro j v hd hij hj hv hlast
  have ej : j = i + K.length := by omega
  have et : kk K L j = kk K L i + L := by
   have := two_hi (K := K) (L := L) hi
   rw [ej, Nat.add_comm i, ea]; exact this
  refine Ev.step (fun k => by rw [telemetry_Load.c4_eq]) ?_
  simp only [decide_eq_true_eq]
  rw [w64 (x := (i : Int) + (K.length : Int)) (by omega) (by omega)]
  exact Ev.no (by omega) (stop j v hij hj hv hlast (by omega))
 | succ d ih =>
  intro j v hd hij hj hv hlast
  have hj2 : j < i + K.length := by omega
  obtain ⟨q1, q2, q3, q4, q5⟩ := w.at_ (j := j) (by omega)
  have bj := w.bd hi hij hj
  have bj2 := w.bd hi (show i ≤ j + 1 by omega) (by omega)
  have tm : Int.tmod (j : Int) (K.length : Int) = ((j % K.length : Nat) : Int) := by rw [Int.tmod_eq_emod_of_nonneg (by omega)]; exact (Int.natCast_emod ..).symm
  have td : Int.tdiv (j : Int) (K.length : Int) = ((j / K.length : Nat) : Int) := by rw [Int.tdiv_eq_ediv_of_nonneg (by omega)]; exact (Int.natCast_ediv ..).symm
  have ml := Nat.mod_lt j (show 0 < K.length by omega)
  generalize j % K.length = jm at *
  generalize j / K.length = jd at *
  have mul : 0 ≤ (jd : Int) * L ∧ (jd : Int) * L ≤ L := by
   rcases (show jd = 0 ∨ jd = 1 by omega) with h | h <;> rw [h] <;> simp <;> omega
  have f := W_next (c := c) w.two (a := kk K L i) (j := j) (by omega) bj.1
  have f : W c s (kk K L i) (kk K L (j + 1) - kk K L i).toNat = W c s (kk K L i) (kk K L j - kk K L i).toNat + cost c s (kk K L j) := f
  refine Ev.step (fun k => by rw [telemetry_Load.c4_eq]) ?_
  simp only [decide_eq_true_eq, tm, td, Int.toNat_natCast]
  rw [w64 (x := (i : Int) + (K.length : Int)) (by omega) (by omega), w64 (x := (jd : Int)) (by omega) (by omega), w64 (x := (jd : Int) * L) (by omega) (by omega), q1, w64 (x := kk K L j) (by omega) (by omega), w64 (x := kk K L i + rest) (by omega) (by omega), w64 (x := (j : Int) + 1) (by omega) (by omega)]
  refine Ev.yes (by omega) (Ev.yes (by omega) (Ev.yes (by omega) (Ev.yes (by omega) ?_)))
  refine Ev.split (fun h => ?_) (fun h => stop j v hij hj hv hlast (by omega))
  refine Ev.yes (by omega) (Ev.yes (by omega) ?_)
  have q2' : mapGet (.int .i64) (.int .i64) (K.getD jm 0) m (0 : Int) = cost c s (kk K L j) := q2
  rw [q2', w64 (x := v + cost c s (kk K L j)) (by omega) (by omega)]
  have := ih (j + 1) (v + cost c s (kk K L j)) (by omega) (by omega) (by omega) (by omega) (.inr ⟨by omega, by rw [show j + 1 - 1 = j by omega]; exact h⟩)
  rw [show ((j + 1 : Nat) : Int) = (j : Int) + 1 by omega] at this
  exact this
end
end Go.Proofs.Ytcefbdknoelacaa.Pure

-- YtcefbdknoelacaaQ19
set_option linter.unusedVariables false
set_option linter.unusedSimpArgs false
namespace Go.Proofs.Ytcefbdknoelacaa.Pure
open Go Go.Proofs.Ytcefbdknoelacaa.A

def slide (c : DRegular → Int) (s : List DRegular) (rest : Int) : Int → List Int → Int
 | b, [] => b
 | b, a :: l => slide c s rest (mxI b (W c s a rest.toNat)) l
theorem mx_ok (b x : Int) : b ≤ mxI b x ∧ x ≤ mxI b x ∧ (mxI b x = b ∨ mxI b x = x) := by unfold mxI; split <;> omega
theorem slide_ok {c : DRegular → Int} {s : List DRegular} {rest : Int} : ∀ (l : List Int) (b : Int), b ≤ slide c s rest b l ∧ (∀ a ∈ l, W c s a rest.toNat ≤ slide c s rest b l) ∧ (slide c s rest b l = b ∨ ∃ a ∈ l, slide c s rest b l = W c s a rest.toNat)
 | [], b => ⟨Int.le_refl _, (fun a h => by cases h), Or.inl rfl⟩
 | x :: l, b => by
  obtain ⟨m1, m2, m3⟩ := mx_ok b (W c s x rest.toNat)
  obtain ⟨h1, h2, h3⟩ := slide_ok (c := c) (s := s) (rest := rest) l (mxI b (W c s x rest.toNat))
  refine ⟨Int.le_trans m1 h1, fun a ha => ?_, ?_⟩
  ·rcases List.mem_cons.1 ha with rfl | ha
   ·exact Int.le_trans m2 h1
   ·exact h2 a ha
  ·rcases h3 with h3 | ⟨a, h4, h5⟩
   ·rw [slide, h3]
    rcases m3 with e | e
    ·exact .inl e
    ·exact .inr ⟨x, by simp, e⟩
   ·exact .inr ⟨a, by simp [h4], h5⟩
section
variable {c : DRegular → Int} {s : List DRegular} {L rest : Int} {m : List (Int × Int)} {K : List Int}
theorem Win.rb (w : Win c s L rest m K) {a : Int} (h : 0 ≤ a) : 0 ≤ W c s a rest.toNat ∧ W c s a rest.toNat ≤ total c s L := by
 have r1 := w.r1
 have mono := W_mono (c := c) (s := s) w.cp a (n := rest.toNat) (m := L.toNat) (by omega)
 have rd := W_round (c := c) w.pos w.all a.toNat
 rw [show ((a.toNat : Nat) : Int) = a by omega] at rd
 exact ⟨W_pos w.cp _ _, by omega⟩
theorem slide_ev (w : Win c s L rest m K) {ms : Int} (m0 : 0 ≤ ms) (m1 : ms ≤ 100000) : ∀ (d i j : Nat) (v best : Int), K.length - i = d → i ≤ K.length → i ≤ j → j ≤ i + K.length → (i < K.length → v = W c s (kk K L i) (kk K L j - kk K L i).toNat ∧ (j = i ∨ (i < j ∧ kk K L (j - 1) < kk K L i + rest))) → 0 ≤ best → best ≤ total c s L →
 Ev (fun k => telemetry_Load.c3 k ms L m (total c s L) K best rest (j : Int) v (K.length : Int) (i : Int)) (slide c s rest best (K.drop i) + ms / L * total c s L, 0, ()) := by
 have klen := w.len
 have p1 := w.pos
 have tt := w.tot
 intro d
 induction d with
 | zero =>
  intro i j v best hd hi hij hj hv b0 b1
  have q : 0 ≤ ms / L ∧ ms / L ≤ 100000 := ⟨Int.ediv_nonneg m0 (by omega), Int.le_trans (Int.ediv_le_self L m0) m1⟩
  have tp : 0 ≤ total c s L := by omega
  have pr : 0 ≤ ms / L * total c s L ∧ ms / L * total c s L ≤ 100000 * 1000000000 := ⟨Int.mul_nonneg q.1 tp, Int.mul_le_mul q.2 tt tp (by omega)⟩
  refine Ev.step (fun k => by rw [telemetry_Load.c3_eq]) ?_
  simp only [decide_eq_true_eq]
  refine Ev.no (by omega) (Ev.yes (by omega) (Ev.is ?_))
  rw [List.drop_of_length_le (by omega), slide, Int.tdiv_eq_ediv_of_nonneg m0, w64 (x := ms / L) (by omega) (by omega), w64 (x := ms / L * total c s L) (by omega) (by omega), w64 (by omega) (by omega)]
 | succ d ih =>
  intro i j v best hd hi hij hj hv b0 b1
  have hi2 : i < K.length := by omega
  have len : (K ++ K.map (· + L)).length = K.length + K.length := by simp
  obtain ⟨ka, kb, _⟩ := w.en.at hi2
  have ei : kk K L i = K.getD i 0 := two_lo hi2
  obtain ⟨hv1, hv2⟩ := hv hi2
  refine Ev.step (fun k => by rw [telemetry_Load.c3_eq]) ?_
  simp only [decide_eq_true_eq, Int.toNat_natCast]
  refine Ev.yes (by omega) (Ev.yes (by omega) ?_)
  rw [← ei]
  have rb := w.rb (a := kk K L i) (by omega)
  obtain ⟨x1, x2, x3⟩ := mx_ok best (W c s (kk K L i) rest.toNat)
  have hd2 : K.drop i = kk K L i :: K.drop (i + 1) := by rw [List.drop_eq_getElem_cons hi2, ei, getD_nat 0 K i hi2]
  rw [hd2, slide]
  refine win_ev w hi2 (fun j' s' h1 h2 h3 h4 => ?_) _ j v rfl hij hj hv1 hv2
  have := ih (i + 1) j' s' (mxI best (W c s (kk K L i) rest.toNat)) (by omega) (by omega) h1 (by omega) (fun hn => ⟨h3 hn, by
   rcases h4 with h4 | ⟨h5, h6⟩
   ·exact .inl h4
   ·have lt : kk K L i < kk K L (i + 1) := w.two.lt (i := i) (j := i + 1) (by omega) (by omega)
    exact .inr ⟨h5, by omega⟩⟩) (by omega) (by omega)
  rw [show ((i + 1 : Nat) : Int) = (i : Int) + 1 by omega] at this
  exact this
end
theorem keys_nodup_lt : ∀ {l : List Int}, l.Pairwise (· ≤ ·) → l.Nodup → l.Pairwise (· < ·)
 | [], _, _ => List.Pairwise.nil
 | x :: l, h, n => by
  rw [List.pairwise_cons] at h
  rw [List.nodup_cons] at n
  rw [List.pairwise_cons]
  exact ⟨fun y hy => by have := h.1 y hy; have : x ≠ y := fun e => n.1 (e ▸ hy); omega, keys_nodup_lt h.2 n.2⟩
theorem inc_len {L : Int} : ∀ {l : List Int} {a : Int}, l.Pairwise (· < ·) → (∀ u ∈ l, a ≤ u ∧ u < L) → a ≤ L → (l.length : Int) ≤ L - a
 | [], a, _, _, h => by simp; omega
 | x :: l, a, h, hb, hl => by
  rw [List.pairwise_cons] at h
  have hx := hb x (by simp)
  have := inc_len (L := L) (l := l) (a := x + 1) h.2 (fun u hu => ⟨by have := h.1 u hu; omega, (hb u (by simp [hu])).2⟩) (by omega)
  rw [List.length_cons]
  omega
theorem map_ex : ∀ (E F m : List (Int × Int)), MapIs m F → ∃ m', MapIs m' (F ++ E)
 | [], F, m, h => ⟨m, by simpa using h⟩
 | e :: E, F, m, h => by
  obtain ⟨m', h'⟩ := map_ex E (F ++ [(e.1, e.2)]) _ (h.put e.1 e.2)
  exact ⟨m', by simpa using h'⟩
theorem loadT_ev (p : List DParameter) (l : List DLayout) (s : List DRegular) (c : Int) (h : Ev (fun k => telemetry_CheckPlan.f k p l s) (c, ())) (ok : c = 0 → PlanOk p l s) (ms : Int) : ∃ r, Ev (fun k => telemetry_Load.f k p l s ms) r ∧ LoadR p l s c ms r := by
 have e0 : ∀ {r : Int × Int × Unit}, Ev (fun k => telemetry_Load.f k p l s ms) r ↔ Ev (fun k => telemetry_Load.f k p l s ms) r := Iff.rfl
 by_cases hc : c = 0
 ·have hP := ok hc
  subst hc
  by_cases hm : 1 ≤ ms ∧ ms ≤ 100000
  ·by_cases hy : (cycR s).2.1 = 0
   ·have hC := cyc_of hP.reg hy
    generalize hLe : (cycR s).1 = L at hC
    have len := allT_len hC.pos hC.all
    have few := hC.few
    have p1 := hC.pos
    have p2 := hC.big
    have cp : ∀ r ∈ s, 0 ≤ sz p l r := fun r _ => (sz_bd hP.all r).1
    have tb : 0 ≤ total (sz p l) s L ∧ total (sz p l) s L ≤ 1000000000 := by
     have b := ev_bd (b := 601) (E := evs (sz p l) L s) (evs_ok hP.all L s) 0
     rw [evAll_evs (sz p l) hC.pos hC.all, evs_len] at b
     omega
    have rm : ms % L < L ∧ 0 ≤ ms % L := ⟨Int.emod_lt_of_pos ms (by omega), Int.emod_nonneg ms (by omega)⟩
    -- the answer
    have en : ∀ m, MapIs m (evs (sz p l) L s) → Enum s (sortI (m.map (·.1))) L := fun m hm => by
     obtain ⟨q1, q2⟩ := sortI_ok (m.map (·.1))
     refine ⟨keys_nodup_lt q2 (q1.nodup_iff.2 hm.nd), fun u => ?_⟩
     rw [q1.mem_iff, hm.ks, evs_times, allT_mem (by omega)]
    have one : ∀ m m', MapIs m (evs (sz p l) L s) → MapIs m' (evs (sz p l) L s) → sortI (m.map (·.1)) = sortI (m'.map (·.1)) := fun m m' h1 h2 => by
     have a := en m h1
     have b := en m' h2
     refine sorted_eq (a.up.imp fun h => by omega) (b.up.imp fun h => by omega) ((List.perm_ext_iff_of_nodup ?_ ?_).2 fun u => by rw [a.mem, b.mem])
     ·exact (sortI_ok _).1.nodup_iff.2 h1.nd
     ·exact (sortI_ok _).1.nodup_iff.2 h2.nd
    obtain ⟨m0, h0⟩ := map_ex (evs (sz p l) L s) [] [] ⟨fun k => rfl, by simp, by simp⟩
    rw [List.nil_append] at h0
    have e0 := en m0 h0
    generalize hK : sortI (m0.map (·.1)) = K at e0
    have kl := inc_len (L := L) (a := 0) e0.up (fun u hu => by have := (e0.mem u).1 hu; omega) (by omega)
    refine ⟨(slide (sz p l) s (ms % L) 0 K + ms / L * total (sz p l) s L, 0, ()), ?_, ?_⟩
    ·refine Ev.eq (fun k => by rw [telemetry_Load.f_eq]) (Ev.bind h ?_)
     refine Ev.no (by simp) ?_
     simp only [in_ev, Option.bind_some]
     refine Ev.no (by simp [hm]) (Ev.bind (cycleT_ev s hP.len hP.reg) (Ev.no (by simp [hy]) ?_))
     rw [hLe]
     refine prgTimes_ev p l s ms L hP hC fun m hm2 => ?_
     have hKm : sortI (m.map (·.1)) = K := by rw [← hK]; exact one m m0 hm2 h0
     have ml : (m.map (·.1)).length ≤ 1000000 := by
      have := (sortI_ok (m.map (·.1))).1.length_eq
      rw [hKm] at this
      omega
     refine range_ev hC.pos (keys := m.map (·.1)) ml ?_ m.length [] none m rfl (List.Perm.refl _)
     rw [hKm, Int.tmod_eq_emod_of_nonneg (by omega)]
     have w : Win (sz p l) s L (ms % L) m K := ⟨p1, p2, hC.all, cp, tb.2, e0, fun k k0 k1 => (hm2.get k).trans (evSum_evs (sz p l) k0 k1 s), rm.2, rm.1, by omega⟩
     exact slide_ev w (by omega) hm.2 K.length 0 0 0 0 (by omega) (by omega) (by omega) (by omega) (fun _ => ⟨by rw [show (kk K L 0 - kk K L 0).toNat = 0 by omega]; rfl, .inl rfl⟩) (by omega) tb.1
    ·unfold LoadR
     rw [if_neg (by simp), if_neg (by simp [hm]), if_neg (by simp [hy]), hLe]
     refine ⟨rfl, ?_⟩
     obtain ⟨s1, s2, s3⟩ := slide_ok (c := sz p l) (s := s) (rest := ms % L) K 0
     have q : 0 ≤ ms / L := Int.ediv_nonneg (by omega) (by omega)
     have dm := Int.mul_ediv_add_emod ms L
     have span : ms.toNat = (ms / L).toNat * L.toNat + (ms % L).toNat := by
      have : ((ms.toNat : Nat) : Int) = (((ms / L).toNat * L.toNat + (ms % L).toNat : Nat) : Int) := by
       rw [Int.natCast_add, Int.natCast_mul, Int.toNat_of_nonneg q, Int.toNat_of_nonneg (show 0 ≤ L by omega), Int.toNat_of_nonneg rm.2, Int.toNat_of_nonneg (show 0 ≤ ms by omega), Int.mul_comm]
       exact dm.symm
      exact Int.ofNat.inj this
     have rounds : ∀ k : Nat, W (sz p l) s (k : Int) ms.toNat = ms / L * total (sz p l) s L + W (sz p l) s (k : Int) (ms % L).toNat := fun k => by
      rw [span, W_rounds p1 hC.all k, Int.toNat_of_nonneg q]
     have prod : 0 ≤ ms / L * total (sz p l) s L := Int.mul_nonneg q tb.1
     refine ⟨by simp only; omega, fun k k1 k2 => ?_, ?_⟩
     ·have := s2 k ((e0.mem _).2 ⟨by omega, k1, k2⟩)
      rw [rounds]; simp only; omega
     ·have use : ∀ a ∈ K, slide (sz p l) s (ms % L) 0 K = W (sz p l) s a (ms % L).toNat → ∃ k : Nat, (k : Int) < L ∧ (∃ r ∈ s, hit r k = true) ∧ slide (sz p l) s (ms % L) 0 K + ms / L * total (sz p l) s L = W (sz p l) s k ms.toNat := fun a ha he => by
       obtain ⟨a1, a2, a3⟩ := (e0.mem a).1 ha
       obtain ⟨n, rfl⟩ := Int.eq_ofNat_of_zero_le a1
       exact ⟨n, a2, a3, by rw [rounds, he]; omega⟩
      rcases s3 with s3 | ⟨a, a1, a2⟩
      ·cases hK2 : K with
       | nil =>
        have sn : s = [] := by
         cases hs : s with
         | nil => rfl
         | cons r s' =>
          have ro := (hC.all r (by rw [hs]; simp))
          obtain ⟨q', hq⟩ := Int.dvd_of_emod_eq_zero ro.2
          have rr := ro.1
          obtain ⟨⟨r1, r2⟩, r3, r4⟩ := rr
          have q1 : 1 ≤ q' := by
           apply Classical.byContradiction
           intro hn
           have : r.2.1 * q' ≤ 0 := Int.mul_nonpos_of_nonneg_of_nonpos (by omega) (by omega)
           omega
          have le : r.2.1 * 1 ≤ r.2.1 * q' := Int.mul_le_mul_of_nonneg_left q1 (by omega)
          have := (e0.mem r.2.2).2 ⟨r3, by omega, r, by rw [hs]; simp, hit_first ro.1⟩
          rw [hK2] at this; cases this
        refine .inl ?_
        rw [← hK2]
        simp only
        rw [s3, sn]
        simp [total]
       | cons a K' =>
        have ha : a ∈ K := by rw [hK2]; simp
        obtain ⟨a1, a2, _⟩ := (e0.mem a).1 ha
        have wa := s2 a ha
        have wp := W_pos (c := sz p l) (s := s) cp (ms % L).toNat a
        rw [← hK2]
        exact .inr (use a ha (by omega))
      ·exact .inr (use a a1 a2)
   ·refine ⟨(0, (cycR s).2.1, ()), ?_, by unfold LoadR; rw [if_neg (by simp), if_neg (by simp [hm]), if_pos hy]⟩
    refine Ev.eq (fun k => by rw [telemetry_Load.f_eq]) (Ev.bind h ?_)
    refine Ev.no (by simp) ?_
    simp only [in_ev, Option.bind_some]
    exact Ev.no (by simp [hm]) (Ev.bind (cycleT_ev s hP.len hP.reg) (Ev.yes (by simp [hy]) (Ev.now _)))
  ·refine ⟨(0, 1, ()), ?_, by unfold LoadR; rw [if_neg (by simp), if_pos hm]⟩
   refine Ev.eq (fun k => by rw [telemetry_Load.f_eq]) (Ev.bind h ?_)
   refine Ev.no (by simp) ?_
   simp only [in_ev, Option.bind_some]
   exact Ev.yes (by rw [decide_eq_false hm]; rfl) (Ev.now _)
 ·refine ⟨(0, c, ()), ?_, by unfold LoadR; rw [if_pos hc]⟩
  refine Ev.eq (fun k => by rw [telemetry_Load.f_eq]) (Ev.bind h ?_)
  exact Ev.yes (by simpa using hc) (Ev.now _)
end Go.Proofs.Ytcefbdknoelacaa.Pure

-- YtcefbdknoelacaaQ20
set_option linter.unusedVariables false
set_option linter.unusedSimpArgs false
namespace Go.Proofs.Ytcefbdknoelacaa.Pure
open Go Go.Proofs.Ytcefbdknoelacaa.A
def szs (p : List DParameter) (l : List DLayout) : List DRegular → Int
 | [] => 0
 | r :: s => sz p l r + szs p l s
theorem szs_bd {p : List DParameter} {l : List DLayout} (a : AllOk p l) : ∀ s : List DRegular, 0 ≤ szs p l s ∧ szs p l s ≤ 601 * s.length
 | [] => by simp [szs]
 | r :: s => by
  have h1 := sz_bd a r
  have h2 := szs_bd a s
  simp only [szs, List.length_cons]
  omega
def ups (e : Int) : Int := -((-1000) / e)
theorem ups_ok {e : Int} (h : 1 ≤ e) : ups e = 999 / e + 1 ∧ 1 ≤ ups e ∧ ups e ≤ 1000 := by
 unfold ups
 obtain ⟨q, q1, q2, q3, q4, q5⟩ := ceil_ok (d := 1000) (e := e) (by omega) (by omega)
 rw [q1]
 have h1 : 999 / e + 1 = q := by
  rw [← q2, show (1000 : Int) + e - 1 = 999 + 1 * e by omega, Int.add_mul_ediv_right _ _ (by omega)]
 refine ⟨h1.symm, by omega, ?_⟩
 have := Int.ediv_le_self e (show (0 : Int) ≤ 999 by omega)
 omega
def fast (n rate : Int) : Nat → Int → Int × Bool × Int × Unit
 | 0, _ => (0, false, 0, ())
 | d + 1, e => if n * ups e ≤ rate then (e, true, 0, ()) else fast n rate d (e + 1)
theorem fastT_ev (n rate : Int) (n0 : 0 ≤ n) (n1 : n ≤ 1000000) : ∀ (d : Nat) (e : Int), 1 ≤ e → e + d = 100001 → Ev (fun k => telemetry_Fastest.c1 k rate n e) (fast n rate d e)
 | 0, e, h1, h2 => by
  refine Ev.step (fun k => by rw [telemetry_Fastest.c1_eq]) ?_
  exact Ev.no (by simp; omega) (Ev.now _)
 | d + 1, e, h1, h2 => by
  obtain ⟨u1, u2, u3⟩ := ups_ok h1
  have pr : 0 ≤ n * ups e ∧ n * ups e ≤ 1000000 * 1000 := ⟨Int.mul_nonneg n0 (by omega), Int.mul_le_mul n1 u3 (by omega) (by omega)⟩
  have up : Ev (fun k => kit_Up.f k 1000 e) (ups e, ()) := ⟨0, fun k _ => up_ev k 1000 e (by omega) (by decide)⟩
  refine Ev.step (fun k => by rw [telemetry_Fastest.c1_eq]) ?_
  refine Ev.yes (by simp; omega) (Ev.bind up ?_)
  simp only [decide_eq_true_eq]
  rw [w64 (x := n * ups e) (by omega) (by omega), w64 (x := e + 1) (by omega) (by omega), fast]
  refine Ev.split (fun h => by rw [if_pos h]; exact Ev.now _) (fun h => by rw [if_neg h]; exact fastT_ev n rate n0 n1 d (e + 1) (by omega) (by omega))
theorem fastR_ev (n rate : Int) (n0 : 0 ≤ n) (n1 : n ≤ 1000000) : ∀ (d : Nat) (e : Int), 1 ≤ e → e + d = 100001 → Ev (fun k => perigeeref7_Fastest.c1 k rate n e) (fast n rate d e)
 | 0, e, h1, h2 => by
  refine Ev.step (fun k => by rw [perigeeref7_Fastest.c1_eq]) ?_
  exact Ev.no (by simp; omega) (Ev.now _)
 | d + 1, e, h1, h2 => by
  obtain ⟨u1, u2, u3⟩ := ups_ok h1
  have pr : 0 ≤ ups e * n ∧ ups e * n ≤ 1000 * 1000000 := ⟨Int.mul_nonneg (by omega) n0, Int.mul_le_mul u3 n1 n0 (by omega)⟩
  have q0 : 0 ≤ 999 / e := Int.ediv_nonneg (by omega) (by omega)
  refine Ev.step (fun k => by rw [perigeeref7_Fastest.c1_eq]) ?_
  refine Ev.yes (by simp; omega) (Ev.yes (by omega) ?_)
  simp only [decide_eq_true_eq]
  rw [Int.tdiv_eq_ediv_of_nonneg (by omega), w64 (x := 999 / e) (by omega) (by omega), w64 (x := 999 / e + 1) (by omega) (by omega), ← u1, w64 (x := ups e * n) (by omega) (by omega), w64 (x := e + 1) (by omega) (by omega), fast, Int.mul_comm (ups e) n]
  refine Ev.split (fun h => by rw [if_pos h]; exact Ev.now _) (fun h => by rw [if_neg h]; exact fastR_ev n rate n0 n1 d (e + 1) (by omega) (by omega))
def FastR (p : List DParameter) (l : List DLayout) (s : List DRegular) (c rate : Int) : Int × Bool × Int × Unit :=
 if ¬ c = 0 then (0, false, c, ()) else if ¬ (0 ≤ rate ∧ rate ≤ 1000000) then (0, false, 1, ()) else fast (szs p l s) rate 100000 1
theorem fastestT_ev (p : List DParameter) (l : List DLayout) (s : List DRegular) (c : Int) (h : Ev (fun k => telemetry_CheckPlan.f k p l s) (c, ())) (ok : c = 0 → PlanOk p l s) (rate : Int) : Ev (fun k => telemetry_Fastest.f k p l s rate) (FastR p l s c rate) := by
 refine Ev.eq (fun k => by rw [telemetry_Fastest.f_eq]) (Ev.bind h ?_)
 simp only [Bool.not_eq_true', decide_eq_false_iff_not, in_ev, Option.bind_some]
 unfold FastR
 refine Ev.split (fun h => by rw [if_pos h]; exact Ev.now _) (fun h => ?_)
 rw [if_neg h]
 refine Ev.split (fun h => by rw [if_pos h]; exact Ev.now _) (fun h2 => ?_)
 rw [if_neg h2]
 have hP := ok (by omega)
 have hs := hP.len
 have sb := szs_bd hP.all s
 have g := Ev.rng (σ := Int) (Ty.dflt YRegular) s (by omega) (g := fun k c i => telemetry_Fastest.c0 k p l rate c s (s.length : Int) i) (fun k c i => telemetry_Fastest.c0_eq _ _ _ _ _ _ _ _)
  (fun i c => 0 ≤ c ∧ c ≤ 601 * i ∧ c + szs p l (s.drop i) = szs p l s) (fun _ _ _ => fast (szs p l s) rate 100000 1) (fun c hc => by
   obtain ⟨q0, q1, q2⟩ := hc
   rw [List.drop_length, szs] at q2
   rw [show c = szs p l s by omega]
   exact fastT_ev _ rate sb.1 (by omega) 100000 1 (by omega) (by omega)) (fun i x xs c hi hx hd hget hw hc nxt => by
   obtain ⟨q0, q1, q2⟩ := hc
   have b := sz_bd hP.all x
   have hd2 : s.drop (i + 1) = xs := by rw [← List.drop_drop, hd]; rfl
   rw [hd, szs] at q2
   simp only [Int.toNat_natCast, hget, hw]
   refine Ev.bind (sizeT_ev hP hx) ?_
   simp only
   rw [w64 (x := c + sz p l x) (by omega) (by omega)]
   exact nxt (c + sz p l x) ⟨by omega, by omega, by rw [hd2]; omega⟩) 0 0 (by omega) ⟨by omega, by omega, by simp⟩
 exact g
theorem fastestR_ev (p : List DParameter) (l : List DLayout) (s : List DRegular) (c : Int) (h : Ev (fun k => perigeeref7_CheckPlan.f k p l s) (c, ())) (ok : c = 0 → PlanOk p l s) (rate : Int) : Ev (fun k => perigeeref7_Fastest.f k p l s rate) (FastR p l s c rate) := by
 refine Ev.eq (fun k => by rw [perigeeref7_Fastest.f_eq]) (Ev.bind h ?_)
 simp only [Bool.not_eq_true', decide_eq_false_iff_not, within_ev, Option.bind_some]
 unfold FastR
 refine Ev.split (fun h => by rw [if_pos h]; exact Ev.now _) (fun h => ?_)
 rw [if_neg h]
 refine Ev.split (fun h => by rw [if_pos h]; exact Ev.now _) (fun h2 => ?_)
 rw [if_neg h2]
 have hP := ok (by omega)
 have hs := hP.len
 have sb := szs_bd hP.all s
 have g := Ev.rng (σ := Int) (Ty.dflt YRegular) s (by omega) (g := fun k c i => perigeeref7_Fastest.c0 k p l rate c s (s.length : Int) i) (fun k c i => perigeeref7_Fastest.c0_eq _ _ _ _ _ _ _ _)
  (fun i c => 0 ≤ c ∧ c ≤ 601 * i ∧ c + szs p l (s.drop i) = szs p l s) (fun _ _ _ => fast (szs p l s) rate 100000 1) (fun c hc => by
   obtain ⟨q0, q1, q2⟩ := hc
   rw [List.drop_length, szs] at q2
   rw [show c = szs p l s by omega]
   exact fastR_ev _ rate sb.1 (by omega) 100000 1 (by omega) (by omega)) (fun i x xs c hi hx hd hget hw hc nxt => by
   obtain ⟨q0, q1, q2⟩ := hc
   have b := sz_bd hP.all x
   have hd2 : s.drop (i + 1) = xs := by rw [← List.drop_drop, hd]; rfl
   rw [hd, szs] at q2
   simp only [Int.toNat_natCast, hget, hw]
   refine Ev.bind (sizeR_ev hP hx) ?_
   simp only
   rw [w64 (x := c + sz p l x) (by omega) (by omega)]
   exact nxt (c + sz p l x) ⟨by omega, by omega, by rw [hd2]; omega⟩) 0 0 (by omega) ⟨by omega, by omega, by simp⟩
 exact g
end Go.Proofs.Ytcefbdknoelacaa.Pure

-- YtcefbdknoelacaaQ21
set_option linter.unusedVariables false
set_option linter.unusedSimpArgs false
namespace Go.Proofs.Ytcefbdknoelacaa.Pure
open Go Go.Proofs.Ytcefbdknoelacaa.A

def gap : Int → List Int → Int
 | b, [] => b
 | b, [_] => b
 | b, x :: y :: l => gap (mxI b (y - x)) (y :: l)
theorem mxI_le {a b : Int} (h : b ≤ a) : mxI a b = a := by unfold mxI; split <;> omega
theorem gap_snoc : ∀ (l : List Int) (b y x : Int), gap b (l ++ [y, x]) = mxI (gap b (l ++ [y])) (x - y)
 | [], b, y, x => rfl
 | [a], b, y, x => by simp only [List.cons_append, List.nil_append, gap]
 | a :: c :: l, b, y, x => by
  have := gap_snoc (c :: l) (mxI b (c - a)) y x
  simp only [List.cons_append, gap] at this ⊢
  exact this
theorem gap_pos : ∀ (l : List Int) (b : Int), b ≤ gap b l
 | [], b => Int.le_refl _
 | [_], b => Int.le_refl _
 | x :: y :: l, b => by
  have h1 := gap_pos (y :: l) (mxI b (y - x))
  have h2 : b ≤ mxI b (y - x) := by unfold mxI; split <;> omega
  rw [gap]; omega
theorem last_snoc (l : List Int) : l = [] ∨ ∃ l' x, l = l' ++ [x] := by
 rcases List.eq_nil_or_concat l with h | ⟨l', x, h⟩
 ·exact .inl h
 ·exact .inr ⟨l', x, by simpa using h⟩
theorem compact_snoc (zs : List Int) (x : Int) : compactI (zs ++ [x]) = compactI zs ++ (if zs.getLast? = some x then [] else [x]) := by
 unfold compactI Go.Lib.compact
 rw [List.length_append, List.length_singleton, Go.Lib.compactUpTo_succ]
 have get : ∀ j, j < zs.length → ((zs ++ [x]).toArray)[j]! = (zs.toArray)[j]! := fun j hj => by
  rw [getElem!_pos _ _ (by simp; omega), getElem!_pos _ _ (by simpa using hj)]
  simp [List.getElem_append_left hj]
 congr 1
 ·unfold Go.Lib.compactUpTo
  have hf : (List.range zs.length).filter (Go.Lib.keeps (zs ++ [x]).toArray) = (List.range zs.length).filter (Go.Lib.keeps zs.toArray) := by
   refine List.filter_congr fun j hj => ?_
   have hj := List.mem_range.1 hj
   unfold Go.Lib.keeps
   rw [get j hj, get (j - 1) (by omega)]
  rw [hf]
  refine List.map_congr_left fun j hj => ?_
  exact get j (List.mem_range.1 (List.mem_filter.1 hj).1)
 ·have e1 : ((zs ++ [x]).toArray)[zs.length]! = x := by
   rw [getElem!_pos _ _ (by simp)]; simp
  rw [e1]
  unfold Go.Lib.keeps
  rw [e1]
  rcases last_snoc zs with rfl | ⟨l, y, rfl⟩
  ·simp
  ·have e2 : ((l ++ [y] ++ [x]).toArray)[(l ++ [y]).length - 1]! = y := by
    rw [getElem!_pos _ _ (by simp)]; simp
   rw [e2]
   simp only [List.length_append, List.length_singleton, List.getLast?_concat, Option.some.injEq]
   by_cases h : y = x
   ·subst h; simp
   ·have : x ≠ y := fun e => h e.symm
    simp [h, this]
theorem compact_ok : ∀ (n : Nat) (zs : List Int), zs.length = n → (compactI zs).getLast? = zs.getLast? ∧ (compactI zs).head? = zs.head? ∧ ∀ b, 0 ≤ b → gap b (compactI zs) = gap b zs
 | 0, zs, h => by
  have := List.eq_nil_of_length_eq_zero h
  subst this
  exact ⟨rfl, rfl, fun _ _ => rfl⟩
 | n + 1, zs, h => by
  rcases last_snoc zs with rfl | ⟨l, x, rfl⟩
  ·simp at h
  ·simp at h
   obtain ⟨h1, h2, h3⟩ := compact_ok n l h
   rw [compact_snoc]
   rcases last_snoc l with rfl | ⟨l', y, rfl⟩
   ·exact ⟨rfl, rfl, fun _ _ => rfl⟩
   ·rw [List.getLast?_concat] at h1
    have ne : compactI (l' ++ [y]) ≠ [] := fun e => by rw [e] at h1; cases h1
    rcases last_snoc (compactI (l' ++ [y])) with e | ⟨c, y', e⟩
    ·exact absurd e ne
    ·rw [e, List.getLast?_concat] at h1
     cases h1
     rw [List.getLast?_concat]
     by_cases hx : y = x
     ·subst hx
      rw [if_pos rfl, List.append_nil]
      refine ⟨by rw [e, List.getLast?_concat, List.getLast?_concat], ?_, fun b hb => ?_⟩
      ·rw [h2]; cases l' <;> rfl
      ·rw [h3 b hb, List.append_assoc, List.singleton_append, gap_snoc, Int.sub_self]
       exact (mxI_le (by have := gap_pos (l' ++ [y]) b; omega)).symm
     ·rw [if_neg (by simpa using hx)]
      refine ⟨by rw [List.getLast?_concat, List.getLast?_concat], ?_, fun b hb => ?_⟩
      ·rw [e] at h2 ⊢
       cases c <;> cases l' <;> simp_all
      ·have h3 := h3 b hb
       rw [e] at h3 ⊢
       rw [List.append_assoc, List.singleton_append, gap_snoc, List.append_assoc, List.singleton_append, gap_snoc, h3]
end Go.Proofs.Ytcefbdknoelacaa.Pure

-- YtcefbdknoelacaaQ22
set_option linter.unusedVariables false
set_option linter.unusedSimpArgs false
namespace Go.Proofs.Ytcefbdknoelacaa.Pure
open Go Go.Proofs.Ytcefbdknoelacaa.A

theorem compact_sub : ∀ (n : Nat) (zs : List Int), zs.length = n → (compactI zs).length ≤ zs.length ∧ ∀ t ∈ compactI zs, t ∈ zs
 | 0, zs, h => by
  have := List.eq_nil_of_length_eq_zero h
  subst this
  exact ⟨Nat.le_refl _, fun _ h => h⟩
 | n + 1, zs, h => by
  rcases last_snoc zs with rfl | ⟨l, x, rfl⟩
  ·simp at h
  ·simp at h
   obtain ⟨h1, h2⟩ := compact_sub n l h
   rw [compact_snoc]
   split
   ·refine ⟨by simp; omega, fun t ht => ?_⟩
    rw [List.append_nil] at ht
    simp [h2 t ht]
   ·refine ⟨by simp; omega, fun t ht => ?_⟩
    rcases List.mem_append.1 ht with ht | ht
    ·simp [h2 t ht]
    ·simp only [List.mem_singleton] at ht; simp [ht]
theorem gap_loop (T : List Int) (hT : ∀ t ∈ T, 0 ≤ t ∧ t ≤ 2000000) (hl : T.length ≤ 1000000) {g : Nat → Int → Int → Option (Int × Bool × Int × Unit)}
 (hg : ∀ k v i, g (k + 1) v i = (if decide (i < (T.length : Int)) = true then (if (0 : Int) ≤ i ∧ i < (T.length : Int) then (if (0 : Int) ≤ (IntKind.wrap .i64 (i - 1)) ∧ (IntKind.wrap .i64 (i - 1)) < (T.length : Int) then g k (mxI v (IntKind.wrap .i64 ((T.getD i.toNat 0) - (T.getD (IntKind.wrap .i64 (i - 1)).toNat 0)))) (IntKind.wrap .i64 (i + 1)) else none) else none) else some (v, (true, (0, ()))))) :
 ∀ (d i : Nat) (v : Int), i + 1 + d = T.length → Ev (fun k => g k v ((i : Int) + 1)) (gap v (T.drop i), true, 0, ())
 | 0, i, v, hd => by
  refine Ev.step (fun k => hg k v _) (Ev.no (by simp; omega) (Ev.is ?_))
  rw [List.drop_eq_getElem_cons (show i < T.length by omega), List.drop_eq_nil_of_le (by omega)]
  rfl
 | d + 1, i, v, hd => by
  refine Ev.step (fun k => hg k v _) (Ev.yes (by simp; omega) (Ev.yes (by omega) ?_))
  rw [show (i : Int) + 1 - 1 = (i : Int) by omega, w64 (x := (i : Int)) (by omega) (by omega), w64 (x := (i : Int) + 1 + 1) (by omega) (by omega)]
  refine Ev.yes (by omega) ?_
  have e1 : T.getD ((i : Int) + 1).toNat 0 = T[i + 1] := getD_nat 0 T (i + 1) (by omega)
  have e2 : T.getD ((i : Int)).toNat 0 = T[i] := getD_nat 0 T i (by omega)
  have m1 := hT _ (List.getElem_mem (show i + 1 < T.length by omega))
  have m2 := hT _ (List.getElem_mem (show i < T.length by omega))
  rw [e1, e2, w64 (x := T[i + 1] - T[i]) (by omega) (by omega)]
  have := gap_loop T hT hl hg d (i + 1) (mxI v (T[i + 1] - T[i])) (by omega)
  rw [List.drop_eq_getElem_cons (show i < T.length by omega), List.drop_eq_getElem_cons (show i + 1 < T.length by omega), gap]
  rw [List.drop_eq_getElem_cons (show i + 1 < T.length by omega)] at this
  exact this
def gaps (L : Int) (T : List Int) : Int := gap (T.head?.getD 0 + L - T.getLast?.getD 0) T
theorem gaps_compact {L : Int} {T : List Int} (hT : ∀ t ∈ T, 0 ≤ t ∧ t < L) (h : T ≠ []) : gaps L (compactI T) = gaps L T := by
 obtain ⟨h1, h2, h3⟩ := compact_ok _ T rfl
 unfold gaps
 rw [h1, h2]
 refine h3 _ ?_
 rcases last_snoc T with rfl | ⟨l, x, rfl⟩
 ·exact absurd rfl h
 ·have := hT x (by simp)
  rw [List.getLast?_concat]
  cases l with
  | nil => simp; omega
  | cons y l =>
   have := hT y (by simp)
   simp; omega
theorem gaps_ends {L : Int} {T : List Int} (hl : T.length ≤ 1000000) (h : T ≠ []) (hT : ∀ t ∈ T, 0 ≤ t ∧ t < L) (hL : L ≤ 1000000) :
 (IntKind.wrap .i64 ((IntKind.wrap .i64 ((T.getD 0 0) + L)) - (T.getD (IntKind.wrap .i64 ((T.length : Int) - 1)).toNat 0))) = T.head?.getD 0 + L - T.getLast?.getD 0 := by
 have hp : 0 < T.length := List.length_pos_iff.2 h
 rw [w64 (x := (T.length : Int) - 1) (by omega) (by omega), show ((T.length : Int) - 1).toNat = T.length - 1 by omega]
 have e1 : T.getD 0 0 = T.head?.getD 0 := by rw [List.getD_eq_getElem?_getD, List.head?_eq_getElem?]
 have e2 : T.getD (T.length - 1) 0 = T.getLast?.getD 0 := by rw [List.getD_eq_getElem?_getD, List.getLast?_eq_getElem?]
 have m1 : 0 ≤ T.getD 0 0 ∧ T.getD 0 0 < L := hT _ (getD_mem hp)
 have m2 : 0 ≤ T.getD (T.length - 1) 0 ∧ T.getD (T.length - 1) 0 < L := hT _ (getD_mem (by omega))
 rw [w64 (x := T.getD 0 0 + L) (by omega) (by omega), w64 (by omega) (by omega), e1, e2]

def tells (l : List DLayout) (t : List UInt8) (r : DRegular) : Bool := match findL l r.1 with
 | some x => decide (t ∈ x.2)
 | none => false
theorem find_ps {p : List DParameter} {l : List DLayout} (a : AllOk p l) {x : DLayout} (hx : x ∈ l) (t : List UInt8) : (fnd (findP (ps p x) t)).2.1 = decide (t ∈ x.2) := by
 obtain ⟨_, _, h⟩ := a.ok x hx
 by_cases ht : t ∈ x.2
 ·rw [decide_eq_true ht]
  cases hf : findP (ps p x) t with
  | some y => rfl
  | none =>
   have h1 := findP_none hf (prm p t) (List.mem_map.2 ⟨t, ht, rfl⟩)
   exact absurd (prm_ok (h t ht)).2.2 h1
 ·rw [decide_eq_false ht]
  cases hf : findP (ps p x) t with
  | none => rfl
  | some y =>
   obtain ⟨h1, h2⟩ := findP_some hf
   obtain ⟨s, s1, rfl⟩ := List.mem_map.1 h1
   rw [(prm_ok (h s s1)).2.2] at h2
   exact absurd (h2 ▸ s1) ht
def own (l : List DLayout) (t : List UInt8) (s : List DRegular) : List DRegular := s.filter (tells l t)
theorem own_take {l : List DLayout} {t : List UInt8} {s : List DRegular} {i : Nat} {x : DRegular} {xs : List DRegular} (h : s.drop i = x :: xs) : own l t (s.take (i + 1)) = own l t (s.take i) ++ (if tells l t x = true then [x] else []) := by
 have : s.take (i + 1) = s.take i ++ [x] := by
  rw [List.take_add_one]
  have : s[i]? = some x := by
   have := congrArg (fun l => l[0]?) h
   simpa using this
  rw [this]; rfl
 unfold own
 rw [this, List.filter_append]
 congr 1
 cases h2 : tells l t x <;> simp [h2]
def OldR (p : List DParameter) (l : List DLayout) (s : List DRegular) (c : Int) (t : List UInt8) : Int × Bool × Int × Unit :=
 if ¬ c = 0 then (0, false, c, ()) else if (fnd (findP p t)).2.1 = false then (0, false, 9, ()) else if ¬ (cycR (own l t s)).2.1 = 0 then (0, false, (cycR (own l t s)).2.1, ()) else if own l t s = [] then (0, false, 0, ()) else (gaps (cycR (own l t s)).1 (sortI (allT (cycR (own l t s)).1 (own l t s))), true, 0, ())
theorem sorted_facts {s : List DRegular} {L : Int} (hC : Cyc s L) (hs : s ≠ []) : (sortI (allT L s)) ≠ [] ∧ (sortI (allT L s)).length ≤ 20000 ∧ ∀ t ∈ sortI (allT L s), 0 ≤ t ∧ t < L := by
 have len := allT_len hC.pos hC.all
 have few := hC.few
 have pos := hC.pos
 have pm := (sortI_ok (allT L s)).1
 refine ⟨fun e => ?_, by rw [pm.length_eq]; omega, fun t ht => ?_⟩
 ·rw [e] at pm
  have h0 := pm.length_eq
  obtain ⟨r, s', rfl⟩ := List.exists_cons_of_ne_nil hs
  have := hC.all r (by simp)
  obtain ⟨⟨w1, w2⟩, w3, w4⟩ := this.1
  have h1 : r.2.2 ∈ allT L (r :: s') := by
   refine (allT_mem (by omega)).2 ⟨this.1.2.1, ?_, r, by simp, hit_first this.1⟩
   obtain ⟨q, hq⟩ := Int.dvd_of_emod_eq_zero this.2
   have q1 : 1 ≤ q := by
    apply Classical.byContradiction
    intro hn
    have := Int.mul_nonpos_of_nonneg_of_nonpos (show (0 : Int) ≤ r.2.1 by omega) (show q ≤ 0 by omega)
    omega
   have := Int.mul_le_mul_of_nonneg_left q1 (show (0 : Int) ≤ r.2.1 by omega)
   omega
  have := List.length_pos_of_mem h1
  simp at h0
  omega
 ·have := (allT_mem (show 0 ≤ L by omega)).1 (pm.subset ht)
  exact ⟨this.1, this.2.1⟩
theorem oldTimes_ev (s : List DRegular) (L : Int) (hs : s.length ≤ 50) (hC : Cyc s L) (hne : s ≠ []) :
 Ev (fun k => telemetry_Oldest.c2 k L [] s (s.length : Int) 0) (gaps L (sortI (allT L s)), true, 0, ()) := by
 have big := hC.big
 have few := hC.few
 have h := Ev.rng (σ := List Int) (Ty.dflt YRegular) s (by omega) (g := fun k T i => telemetry_Oldest.c2 k L T s (s.length : Int) i) (fun k T i => telemetry_Oldest.c2_eq _ _ _ _ _ _)
  (fun i T => T = allT L (s.take i)) (fun _ _ _ => (gaps L (sortI (allT L s)), true, 0, ())) (fun T hT => by
   rw [List.take_length] at hT
   rw [hT]
   obtain ⟨q1, q2, q3⟩ := sorted_facts hC hne
   have hp := List.length_pos_iff.2 q1
   rw [gaps_ends (by omega) q1 q3 big, w64 (x := ((sortI (allT L s)).length : Int) - 1) (by omega) (by omega)]
   refine Ev.yes (by omega) (Ev.yes (by omega) ?_)
   have := gap_loop (sortI (allT L s)) (fun t ht => by have := q3 t ht; omega) (by omega) (g := fun k v i => telemetry_Oldest.c4 k (sortI (allT L s)) v i) (fun k v i => telemetry_Oldest.c4_eq _ _ _ _) _ 0 ((sortI (allT L s)).head?.getD 0 + L - (sortI (allT L s)).getLast?.getD 0) (show 0 + 1 + ((sortI (allT L s)).length - 1) = _ by omega)
   exact this) (fun i x xs T hi hx hd hget hw hT nxt => by
   simp only [Int.toNat_natCast, hget, hw]
   have ro := hC.all x hx
   have ht : s.take (i + 1) = s.take i ++ [x] := by
    rw [List.take_add_one]
    have : s[i]? = some x := by
     have := congrArg (fun l => l[0]?) hd
     simpa using this
    rw [this]; rfl
   have room : (T.length : Int) + (tms L x).length ≤ 20000 := by
    have e1 := many_append L (s.take (i + 1)) (s.drop (i + 1))
    rw [List.take_append_drop] at e1
    have e2 := allT_len hC.pos (s := s.take (i + 1)) (fun r hr => hC.all r (List.mem_of_mem_take hr))
    rw [ht, allT_snoc, List.length_append, ← ht] at e2
    have e3 := many_pos hC.pos (s := s.drop (i + 1)) (fun r hr => hC.all r (List.mem_of_mem_drop hr))
    rw [hT]; omega
   have own : ∀ (d : Nat) (t : Int) (w : List Int), hit x t = true → 0 ≤ t → t ≤ 2000000 → (L - t).toNat = d → w ++ (upto [x] t (L - t).toNat).map (·.1) = T ++ tms L x → Ev (fun k => telemetry_Oldest.c3 k L w x.1 x.2.1 x.2.2 t s (s.length : Int) i) (gaps L (sortI (allT L s)), true, 0, ()) := by
    intro d
    induction d using Nat.strongRecOn with
    | _ d ihd =>
     intro t w ht0 ht1 ht2 hd' hw'
     have a1 := ro.1.1
     refine Ev.step (fun k => by rw [telemetry_Oldest.c3_eq]) ?_
     simp only [decide_eq_true_eq]
     refine Ev.split (fun h => ?_) (fun h => ?_)
     ·have wl := congrArg List.length hw'
      rw [List.length_append, List.length_append] at wl
      rw [w64 (x := t + x.2.1) (by omega) (by omega)]
      refine Ev.yes (by omega) (ihd (L - (t + x.2.1)).toNat (by omega) (t + x.2.1) _ (hit_next ro.1 ht0).1 (by omega) (by omega) rfl ?_)
      rw [← hw', one_step ro.1 ht0 h, List.append_assoc]; rfl
     ·rw [show (L - t).toNat = 0 by omega, upto, List.map_nil, List.append_nil] at hw'
      rw [hw]
      exact nxt w (by rw [hw', hT, ht, allT_snoc])
   have f := ro.1.2
   have a1 := ro.1.1
   exact own _ x.2.2 T (hit_first ro.1) f.1 (by omega) rfl (by rw [tms_from ro.1])) 0 [] (by omega) (by simp [allT])
 exact h
theorem oldTimesR_ev (s : List DRegular) (L : Int) (hs : s.length ≤ 50) (hC : Cyc s L) (hne : s ≠ []) :
 Ev (fun k => perigeeref7_Oldest.c1 k L [] s (s.length : Int) 0) (gaps L (sortI (allT L s)), true, 0, ()) := by
 have big := hC.big
 have few := hC.few
 have pos := hC.pos
 have h := Ev.rng (σ := List Int) (Ty.dflt YRegular) s (by omega) (g := fun k T i => perigeeref7_Oldest.c1 k L T s (s.length : Int) i) (fun k T i => perigeeref7_Oldest.c1_eq _ _ _ _ _ _)
  (fun i T => T = allT L (s.take i)) (fun _ _ _ => (gaps L (sortI (allT L s)), true, 0, ())) (fun T hT => by
   rw [List.take_length] at hT
   rw [hT]
   obtain ⟨q1, q2, q3⟩ := sorted_facts hC hne
   obtain ⟨k1, k2⟩ := compact_sub _ (sortI (allT L s)) rfl
   obtain ⟨k3, _, _⟩ := compact_ok _ (sortI (allT L s)) rfl
   have q1' : compactI (sortI (allT L s)) ≠ [] := fun e => by
    rw [e] at k3
    rcases last_snoc (sortI (allT L s)) with e2 | ⟨l, x, e2⟩
    ·exact q1 e2
    ·rw [e2, List.getLast?_concat] at k3; cases k3
   have q3' : ∀ t ∈ compactI (sortI (allT L s)), 0 ≤ t ∧ t < L := fun t ht => q3 t (k2 t ht)
   rw [← gaps_compact q3 q1]
   generalize compactI (sortI (allT L s)) = Y at *
   have hp := List.length_pos_iff.2 q1'
   rw [gaps_ends (by omega) q1' q3' big, w64 (x := (Y.length : Int) - 1) (by omega) (by omega)]
   refine Ev.yes (by omega) (Ev.yes (by omega) ?_)
   have := gap_loop Y (fun t ht => by have := q3' t ht; omega) (by omega) (g := fun k v i => perigeeref7_Oldest.c3 k Y v i) (fun k v i => perigeeref7_Oldest.c3_eq _ _ _ _) _ 0 (Y.head?.getD 0 + L - Y.getLast?.getD 0) (show 0 + 1 + (Y.length - 1) = _ by omega)
   exact this) (fun i x xs T hi hx hd hget hw hT nxt => by
   simp only [Int.toNat_natCast, hget, hw]
   have ro := hC.all x hx
   have ht : s.take (i + 1) = s.take i ++ [x] := by
    rw [List.take_add_one]
    have : s[i]? = some x := by
     have := congrArg (fun l => l[0]?) hd
     simpa using this
    rw [this]; rfl
   have room : (T.length : Int) + (tms L x).length ≤ 20000 := by
    have e1 := many_append L (s.take (i + 1)) (s.drop (i + 1))
    rw [List.take_append_drop] at e1
    have e2 := allT_len hC.pos (s := s.take (i + 1)) (fun r hr => hC.all r (List.mem_of_mem_take hr))
    rw [ht, allT_snoc, List.length_append, ← ht] at e2
    have e3 := many_pos hC.pos (s := s.drop (i + 1)) (fun r hr => hC.all r (List.mem_of_mem_drop hr))
    rw [hT]; omega
   have f := ro.1.2
   have a1 := ro.1.1
   have a2 := ro.1.2.1
   have a3 := ro.1.2.2
   obtain ⟨q, hq⟩ := Int.dvd_of_emod_eq_zero ro.2
   -- the moments are those below L
   have own : ∀ (d : Nat) (t : Int) (w : List Int) (j : Int), hit x t = true → t = x.2.2 + x.2.1 * j → 0 ≤ t → t ≤ 2000000 → (L - t).toNat = d → w ++ (upto [x] t (L - t).toNat).map (·.1) = T ++ tms L x → Ev (fun k => perigeeref7_Oldest.c2 k L w x.1 x.2.1 x.2.2 t s (s.length : Int) i) (gaps L (sortI (allT L s)), true, 0, ()) := by
    intro d
    induction d using Nat.strongRecOn with
    | _ d ihd =>
     intro t w j ht0 hj ht1 ht2 hd' hw'
     refine Ev.step (fun k => by rw [perigeeref7_Oldest.c2_eq]) ?_
     simp only [decide_eq_true_eq]
     rw [w64 (x := L + x.2.2) (by omega) (by omega)]
     refine Ev.split (fun h => ?_) (fun h => ?_)
     ·have lt : t < L := by
       have j1 : j < q := by
        apply Classical.byContradiction
        intro hn
        have := Int.mul_le_mul_of_nonneg_left (show q ≤ j by omega) (show (0 : Int) ≤ x.2.1 by omega)
        omega
       have := Int.mul_le_mul_of_nonneg_left (show j + 1 ≤ q by omega) (show (0 : Int) ≤ x.2.1 by omega)
       rw [Int.mul_add] at this
       omega
      have wl := congrArg List.length hw'
      rw [List.length_append, List.length_append] at wl
      rw [w64 (x := t + x.2.1) (by omega) (by omega), Int.tmod_eq_emod_of_nonneg ht1, Int.emod_eq_of_lt ht1 lt]
      refine Ev.yes (by omega) (Ev.yes (by omega) (ihd (L - (t + x.2.1)).toNat (by omega) (t + x.2.1) _ (j + 1) (hit_next ro.1 ht0).1 (by rw [Int.mul_add]; omega) (by omega) (by omega) rfl ?_))
      rw [← hw', one_step ro.1 ht0 lt, List.append_assoc]; rfl
     ·rw [show (L - t).toNat = 0 by omega, upto, List.map_nil, List.append_nil] at hw'
      rw [hw]
      exact nxt w (by rw [hw', hT, ht, allT_snoc])
   exact own _ x.2.2 T 0 (hit_first ro.1) (by simp) f.1 (by omega) rfl (by rw [tms_from ro.1])) 0 [] (by omega) (by simp [allT])
 exact h
theorem own_sub {l : List DLayout} {t : List UInt8} {s : List DRegular} (hs : s.length ≤ 50) (hr : ∀ r ∈ s, RegOk r) : (own l t s).length ≤ 50 ∧ ∀ r ∈ own l t s, RegOk r :=
 ⟨Nat.le_trans (List.length_filter_le _ _) hs, fun r hr' => hr r (List.mem_filter.1 hr').1⟩
theorem oldestT_ev (p : List DParameter) (l : List DLayout) (s : List DRegular) (c : Int) (h : Ev (fun k => telemetry_CheckPlan.f k p l s) (c, ())) (ok : c = 0 → PlanOk p l s) (t : List UInt8) : Ev (fun k => telemetry_Oldest.f k p l s t) (OldR p l s c t) := by
 refine Ev.eq (fun k => by rw [telemetry_Oldest.f_eq]) (Ev.bind h ?_)
 simp only [Bool.not_eq_true', decide_eq_false_iff_not]
 unfold OldR
 refine Ev.split (fun h => by rw [if_pos h]; exact Ev.now _) (fun h => ?_)
 rw [if_neg h]
 have hP := ok (by omega)
 have a := hP.all
 have hs := hP.len
 have hl := a.hl
 obtain ⟨o1, o2⟩ := own_sub (l := l) (t := t) hs hP.reg
 refine Ev.bind (parameter_ev p a.hp a.hf t) ?_
 refine Ev.split (fun h => by rw [if_pos h]; exact Ev.now _) (fun h2 => ?_)
 rw [if_neg h2]
 have g := Ev.rng (σ := List DRegular) (Ty.dflt YRegular) s (by omega) (g := fun k T i => telemetry_Oldest.c0 k l t T s (s.length : Int) i) (fun k T i => telemetry_Oldest.c0_eq _ _ _ _ _ _ _)
  (fun i T => T = own l t (s.take i)) (fun _ _ _ => (if ¬ (cycR (own l t s)).2.1 = 0 then (0, false, (cycR (own l t s)).2.1, ()) else if own l t s = [] then (0, false, 0, ()) else (gaps (cycR (own l t s)).1 (sortI (allT (cycR (own l t s)).1 (own l t s))), true, 0, ()))) (fun T hT => by
   rw [List.take_length] at hT
   rw [hT]
   refine Ev.bind (cycleT_ev _ o1 o2) ?_
   simp only [Bool.not_eq_true', decide_eq_false_iff_not, decide_eq_true_eq]
   refine Ev.split (fun h => by rw [if_pos h]; exact Ev.now _) (fun h3 => ?_)
   rw [if_neg h3]
   refine Ev.split (fun h => ?_) (fun h4 => ?_)
   ·have e : own l t s = [] := List.eq_nil_of_length_eq_zero (by omega)
    rw [if_pos e]
    rw [show (cycR (own l t s)).2.1 = 0 by omega]
    exact Ev.now _
   ·have e : own l t s ≠ [] := fun e => h4 (by rw [e]; rfl)
    rw [if_neg e]
    refine Ev.step (fun k => by rw [telemetry_Oldest.c1_eq]) ?_
    exact oldTimes_ev _ _ o1 (cyc_of o2 (by omega)) e) (fun i x xs T hi hx hd hget hw hT nxt => by
   simp only [Int.toNat_natCast, hget, hw]
   obtain ⟨y, hy⟩ := hP.lay x hx
   refine Ev.bind (layout_ev l (by omega) x.1) ?_
   rw [hy]
   have ly := (a.ok y (findL_some hy).1).2.1
   refine Ev.bind (contains_str y.2 (by omega) t) ?_
   simp only [decide_eq_true_eq]
   have ot := own_take (l := l) (t := t) hd
   have te : tells l t x = decide (t ∈ y.2) := by unfold tells; rw [hy]
   rw [te] at ot
   have tl : T.length ≤ 50 := by
    rw [hT]
    refine Nat.le_trans (List.length_filter_le _ _) ?_
    rw [List.length_take]; omega
   refine Ev.split (fun h => ?_) (fun h => ?_)
   ·rw [decide_eq_true h, if_pos rfl] at ot
    exact Ev.yes (by omega) (nxt _ (by rw [ot, hT]))
   ·rw [decide_eq_false h, if_neg (by simp), List.append_nil] at ot
    exact nxt _ (by rw [ot, hT])) 0 [] (by omega) (by simp [own])
 exact g
theorem oldestR_ev (p : List DParameter) (l : List DLayout) (s : List DRegular) (c : Int) (h : Ev (fun k => perigeeref7_CheckPlan.f k p l s) (c, ())) (ok : c = 0 → PlanOk p l s) (t : List UInt8) : Ev (fun k => perigeeref7_Oldest.f k p l s t) (OldR p l s c t) := by
 refine Ev.eq (fun k => by rw [perigeeref7_Oldest.f_eq]) (Ev.bind h ?_)
 simp only [Bool.not_eq_true', decide_eq_false_iff_not]
 unfold OldR
 refine Ev.split (fun h => by rw [if_pos h]; exact Ev.now _) (fun h => ?_)
 rw [if_neg h]
 have hP := ok (by omega)
 have a := hP.all
 have hs := hP.len
 have hl := a.hl
 have hp := a.hp
 obtain ⟨o1, o2⟩ := own_sub (l := l) (t := t) hs hP.reg
 refine Ev.bind (find_ev p (by omega) t) ?_
 refine Ev.split (fun h => by rw [if_pos h]; exact Ev.now _) (fun h2 => ?_)
 rw [if_neg h2]
 have g := Ev.rng (σ := List DRegular) (Ty.dflt YRegular) s (by omega) (g := fun k T i => perigeeref7_Oldest.c0 k p l t T s (s.length : Int) i) (fun k T i => perigeeref7_Oldest.c0_eq _ _ _ _ _ _ _ _)
  (fun i T => T = own l t (s.take i)) (fun _ _ _ => (if ¬ (cycR (own l t s)).2.1 = 0 then (0, false, (cycR (own l t s)).2.1, ()) else if own l t s = [] then (0, false, 0, ()) else (gaps (cycR (own l t s)).1 (sortI (allT (cycR (own l t s)).1 (own l t s))), true, 0, ()))) (fun T hT => by
   rw [List.take_length] at hT
   rw [hT]
   simp only [decide_eq_true_eq]
   refine Ev.split (fun h => ?_) (fun h4 => ?_)
   ·have e : own l t s = [] := List.eq_nil_of_length_eq_zero (by omega)
    rw [e]
    exact Ev.is (by decide)
   ·have e : own l t s ≠ [] := fun e => h4 (by rw [e]; rfl)
    refine Ev.bind (cycleR_ev _ o1 o2) ?_
    simp only [Bool.not_eq_true', decide_eq_false_iff_not]
    refine Ev.split (fun h => by rw [if_pos h]; exact Ev.now _) (fun h3 => ?_)
    rw [if_neg h3, if_neg e]
    exact oldTimesR_ev _ _ o1 (cyc_of o2 (by omega)) e) (fun i x xs T hi hx hd hget hw hT nxt => by
   simp only [Int.toNat_natCast, hget, hw]
   obtain ⟨y, hy⟩ := hP.lay x hx
   have po := partsOf_ev p (by omega) l (by omega) (fun x hx => by have := (a.ok x hx).2.1; omega) x.1
   rw [hy] at po
   refine Ev.bind po ?_
   have k := (a.ps (findL_some hy).1).1
   refine Ev.bind (find_ev (ps p y) (by omega) t) ?_
   rw [find_ps a (findL_some hy).1 t]
   simp only [decide_eq_true_eq]
   have ot := own_take (l := l) (t := t) hd
   have te : tells l t x = decide (t ∈ y.2) := by unfold tells; rw [hy]
   rw [te] at ot
   have tl : T.length ≤ 50 := by
    rw [hT]
    refine Nat.le_trans (List.length_filter_le _ _) ?_
    rw [List.length_take]; omega
   refine Ev.split (fun h => ?_) (fun h => ?_)
   ·rw [decide_eq_true h, if_pos rfl] at ot
    exact Ev.yes (by omega) (nxt _ (by rw [ot, hT]))
   ·rw [decide_eq_false h, if_neg (by simp), List.append_nil] at ot
    exact nxt _ (by rw [ot, hT])) 0 [] (by omega) (by simp [own])
 exact g
end Go.Proofs.Ytcefbdknoelacaa.Pure

-- YtcefbdknoelacaaAw
namespace Go.Proofs.Ytcefbdknoelacaa.Pure
open Go Go.Proofs.Ytcefbdknoelacaa.A
theorem awake_at (k : Nat) : perigeelaw7_awake.f (k + 40) = some (true, ()) := by kernel_rfl
theorem awake_ev : Ev (fun k => perigeelaw7_awake.f k) (true, ()) := ⟨40, fun n hn => by
 obtain ⟨k, rfl⟩ : ∃ k, n = k + 40 := ⟨n - 40, by omega⟩
 exact awake_at k⟩
end Go.Proofs.Ytcefbdknoelacaa.Pure

-- YtcefbdknoelacaaPureTelemetryLoadMatchesSpec
set_option linter.unusedVariables false
set_option linter.unusedSimpArgs false
namespace Go.Proofs.Ytcefbdknoelacaa.Pure
open Go Go.Proofs.Ytcefbdknoelacaa.A
theorem TelemetryLoadMatchesSpec (p : List DParameter) (l : List DLayout) (s : List DRegular) (ms rate : Int) (t : List UInt8) (h0 : okT (.sl YParameter) p) (h1 : okT (.sl YLayout) l) (h2 : okT (.sl YRegular) s) (h3 : okT (.int .i64) ms) (h4 : okT (.int .i64) rate) (h5 : okT .str t) :
 ∃ n, perigeelaw7_TelemetryLoadMatchesSpec.f n p l s ms rate t = some (true, ()) := by
 refine Ev.rounds (g := fun k => perigeelaw7_TelemetryLoadMatchesSpec.f k p l s ms rate t) ?_
 obtain ⟨c, c1, c2, ok⟩ := plans_ev p l s h0 h1 (by have := h2.1; omega)
 obtain ⟨r, r1, r2⟩ := loadT_ev p l s c c1 ok ms
 obtain ⟨q, q1, q2⟩ := loadR_ev p l s c c2 ok ms
 obtain rfl := r2.unique q2
 refine Ev.eq (fun k => by rw [perigeelaw7_TelemetryLoadMatchesSpec.f_eq]) ?_
 refine Ev.bind r1 (Ev.bind q1 ?_)
 refine Ev.no (by simp) (Ev.no (by simp) ?_)
 refine Ev.step (fun k => by rw [perigeelaw7_TelemetryLoadMatchesSpec.c0_eq]) ?_
 refine Ev.bind (fastestT_ev p l s c c1 ok rate) (Ev.bind (fastestR_ev p l s c c2 ok rate) ?_)
 refine Ev.no (by simp) (Ev.no (by simp) (Ev.no (by simp) ?_))
 refine Ev.step (fun k => by rw [perigeelaw7_TelemetryLoadMatchesSpec.c1_eq]) ?_
 refine Ev.bind (oldestT_ev p l s c c1 ok t) (Ev.bind (oldestR_ev p l s c c2 ok t) ?_)
 refine Ev.yes (by simp) (Ev.yes (by simp) (Ev.yes (by simp) ?_))
 exact Ev.bind awake_ev (Ev.now _)
end Go.Proofs.Ytcefbdknoelacaa.Pure
