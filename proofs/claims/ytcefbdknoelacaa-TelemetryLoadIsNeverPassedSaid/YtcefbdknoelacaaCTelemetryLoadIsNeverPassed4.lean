/- What is sent in a span is never more than the load that is told for spans of its length (Load, Sent, Bits), at all parameters, layouts, regular sendings, lengths and moments. -/
import Derived.KernelRfl
import Derived.Test.YtcefbdknoelacaaCTelemetryLoadIsNeverPassed3
-- YtcefbdknoelacaaQ17
set_option linter.unusedVariables false
set_option linter.unusedSimpArgs false
namespace Go.Proofs.Ytcefbdknoelacaa.Pure
open Go Go.Proofs.Ytcefbdknoelacaa.A

structure Enum (s : List DRegular) (X : List Int) (M : Int) : Prop where
 up : X.Pairwise (· < ·)
 mem : ∀ u, u ∈ X ↔ 0 ≤ u ∧ u < M ∧ ∃ r ∈ s, hit r u = true
theorem Enum.lt {s : List DRegular} {X : List Int} {M : Int} (h : Enum s X M) {i j : Nat} (hij : i < j) (hj : j < X.length) : X.getD i 0 < X.getD j 0 := by
 have := List.pairwise_iff_getElem.1 h.up i j (by omega) hj hij
 rw [getD_nat 0 X i (by omega), getD_nat 0 X j hj]
 exact this
theorem Enum.le {s : List DRegular} {X : List Int} {M : Int} (h : Enum s X M) {i j : Nat} (hij : i ≤ j) (hj : j < X.length) : X.getD i 0 ≤ X.getD j 0 := by
 rcases Nat.lt_or_ge i j with h1 | h1
 ·exact Int.le_of_lt (h.lt h1 hj)
 ·rw [show i = j by omega]; exact Int.le_refl _
theorem Enum.at {s : List DRegular} {X : List Int} {M : Int} (h : Enum s X M) {i : Nat} (hi : i < X.length) : 0 ≤ X.getD i 0 ∧ X.getD i 0 < M ∧ ∃ r ∈ s, hit r (X.getD i 0) = true := (h.mem _).1 (getD_mem hi)
theorem Enum.gap {s : List DRegular} {X : List Int} {M : Int} (h : Enum s X M) {j : Nat} (hj : j + 1 < X.length) {u : Int} (h1 : X.getD j 0 < u) (h2 : u < X.getD (j + 1) 0) : ∀ r ∈ s, hit r u = false := by
 intro r hr
 cases hh : hit r u with
 | false => rfl
 | true =>
  have a := h.at (i := j) (by omega)
  have b := h.at hj
  have m := (h.mem u).2 ⟨by omega, by omega, r, hr, hh⟩
  obtain ⟨p, hp, e⟩ := List.mem_iff_getElem.1 m
  rw [← getD_nat 0 X p hp] at e
  rcases Nat.lt_or_ge j p with q | q
  ·have := h.le (i := j + 1) (j := p) (by omega) hp; omega
  ·have := h.le (i := p) (j := j) q (by omega); omega
section
variable {c : DRegular → Int} {s : List DRegular} {X : List Int} {M : Int}
theorem W_next (h : Enum s X M) {a : Int} {j : Nat} (hj : j + 1 < X.length) (ha : a ≤ X.getD j 0) : W c s a (X.getD (j + 1) 0 - a).toNat = W c s a (X.getD j 0 - a).toNat + cost c s (X.getD j 0) := by
 have lt := h.lt (i := j) (j := j + 1) (by omega) hj
 have e1 := W_split (c := c) (s := s) (X.getD j 0 - a).toNat (1 + (X.getD (j + 1) 0 - X.getD j 0 - 1).toNat) a
 have e2 := W_split (c := c) (s := s) 1 (X.getD (j + 1) 0 - X.getD j 0 - 1).toNat (X.getD j 0)
 have e3 : W c s (X.getD j 0 + ((1 : Nat) : Int)) (X.getD (j + 1) 0 - X.getD j 0 - 1).toNat = 0 := W_none fun u h1 h2 => h.gap hj (by omega) (by omega)
 rw [show a + ((X.getD j 0 - a).toNat : Int) = X.getD j 0 by omega, e2, e3] at e1
 rw [show (X.getD (j + 1) 0 - a).toNat = (X.getD j 0 - a).toNat + (1 + (X.getD (j + 1) 0 - X.getD j 0 - 1).toNat) by omega, e1, W, W]
 omega
theorem W_first (h : Enum s X M) {i : Nat} (hi : i + 1 < X.length) {b : Int} (hb : X.getD (i + 1) 0 ≤ b) : W c s (X.getD i 0) (b - X.getD i 0).toNat = cost c s (X.getD i 0) + W c s (X.getD (i + 1) 0) (b - X.getD (i + 1) 0).toNat := by
 have lt := h.lt (i := i) (j := i + 1) (by omega) hi
 have e1 := W_split (c := c) (s := s) (X.getD (i + 1) 0 - X.getD i 0).toNat (b - X.getD (i + 1) 0).toNat (X.getD i 0)
 have e2 := W_next (c := c) h (a := X.getD i 0) hi (Int.le_refl _)
 rw [show (X.getD i 0 - X.getD i 0).toNat = 0 by omega, W] at e2
 rw [show X.getD i 0 + ((X.getD (i + 1) 0 - X.getD i 0).toNat : Int) = X.getD (i + 1) 0 by omega, e2] at e1
 rw [show (b - X.getD i 0).toNat = (X.getD (i + 1) 0 - X.getD i 0).toNat + (b - X.getD (i + 1) 0).toNat by omega, e1]
 omega
theorem W_stop (h : Enum s X M) {a e : Int} {j : Nat} (hj : j + 1 < X.length) (ha : a ≤ X.getD j 0) (h1 : X.getD j 0 < e) (h2 : e ≤ X.getD (j + 1) 0) : W c s a (X.getD (j + 1) 0 - a).toNat = W c s a (e - a).toNat := by
 have e1 := W_split (c := c) (s := s) (e - a).toNat (X.getD (j + 1) 0 - e).toNat a
 have e3 : W c s e (X.getD (j + 1) 0 - e).toNat = 0 := W_none fun u g1 g2 => h.gap hj (by omega) (by omega)
 rw [show a + ((e - a).toNat : Int) = e by omega, e3] at e1
 rw [show (X.getD (j + 1) 0 - a).toNat = (e - a).toNat + (X.getD (j + 1) 0 - e).toNat by omega, e1]
 omega
end
theorem enum_two {s : List DRegular} {L : Int} (hL : 1 ≤ L) (hr : ∀ r ∈ s, RegOk r ∧ L % r.2.1 = 0) {K : List Int} (h : Enum s K L) : Enum s (K ++ K.map (· + L)) (L + L) := by
 refine ⟨?_, fun u => ?_⟩
 ·rw [List.pairwise_append]
  refine ⟨h.up, ?_, fun a ha b hb => ?_⟩
  ·rw [List.pairwise_map]; exact h.up.imp fun h => by omega
  ·obtain ⟨x, hx, rfl⟩ := List.mem_map.1 hb
   have := (h.mem a).1 ha
   have := (h.mem x).1 hx
   omega
 ·rw [List.mem_append, h.mem u, List.mem_map]
  constructor
  ·rintro (⟨h1, h2, h3⟩ | ⟨x, hx, rfl⟩)
   ·exact ⟨h1, by omega, h3⟩
   ·obtain ⟨h1, h2, r, h3, h4⟩ := (h.mem x).1 hx
    exact ⟨by omega, by omega, r, h3, by rw [hit_per (hr r h3).1 (by omega) (hr r h3).2 h1]; exact h4⟩
  ·rintro ⟨h1, h2, r, h3, h4⟩
   rcases Int.lt_or_le u L with h5 | h5
   ·exact .inl ⟨h1, h5, r, h3, h4⟩
   ·refine .inr ⟨u - L, (h.mem _).2 ⟨by omega, by omega, r, h3, ?_⟩, by omega⟩
    rw [← hit_per (hr r h3).1 (by omega) (hr r h3).2 (by omega), show u - L + L = u by omega]; exact h4
theorem two_lo {K : List Int} {L : Int} {j : Nat} (h : j < K.length) : (K ++ K.map (· + L)).getD j 0 = K.getD j 0 := by
 rw [List.getD_eq_getElem?_getD, List.getElem?_append_left h, List.getD_eq_getElem?_getD]
theorem two_hi {K : List Int} {L : Int} {j : Nat} (h : j < K.length) : (K ++ K.map (· + L)).getD (K.length + j) 0 = K.getD j 0 + L := by
 rw [List.getD_eq_getElem?_getD, List.getElem?_append_right (by omega), show K.length + j - K.length = j by omega, List.getElem?_map, List.getD_eq_getElem?_getD, List.getElem?_eq_getElem h]; rfl
end Go.Proofs.Ytcefbdknoelacaa.Pure

-- YtcefbdknoelacaaQ18
set_option linter.unusedVariables false
set_option linter.unusedSimpArgs false
namespace Go.Proofs.Ytcefbdknoelacaa.Pure
open Go Go.Proofs.Ytcefbdknoelacaa.A

structure Win (c : DRegular → Int) (s : List DRegular) (L rest : Int) (m : List (Int × Int)) (K : List Int) : Prop where
 pos : 1 ≤ L
 big : L ≤ 1000000
 all : ∀ r ∈ s, RegOk r ∧ L % r.2.1 = 0
 cp : ∀ r ∈ s, 0 ≤ c r
 tot : total c s L ≤ 1000000000
 en : Enum s K L
 mm : ∀ k, 0 ≤ k → k < L → mg k m = cost c s k
 r0 : 0 ≤ rest
 r1 : rest < L
 len : K.length ≤ 1000000
abbrev kk (K : List Int) (L : Int) (j : Nat) : Int := (K ++ K.map (· + L)).getD j 0
section
variable {c : DRegular → Int} {s : List DRegular} {L rest : Int} {m : List (Int × Int)} {K : List Int}
theorem Win.two (w : Win c s L rest m K) : Enum s (K ++ K.map (· + L)) (L + L) := enum_two w.pos w.all w.en
theorem Win.at_ (w : Win c s L rest m K) {j : Nat} (hj : j < K.length + K.length) : K.getD (j % K.length) 0 + ((j / K.length : Nat) : Int) * L = kk K L j ∧ mg (K.getD (j % K.length) 0) m = cost c s (kk K L j) ∧ 0 ≤ K.getD (j % K.length) 0 ∧ K.getD (j % K.length) 0 < L ∧ j / K.length ≤ 1 := by
 have hn : 0 < K.length := by omega
 rcases Nat.lt_or_ge j K.length with h | h
 ·rw [Nat.mod_eq_of_lt h, Nat.div_eq_of_lt h]
  obtain ⟨a1, a2, _⟩ := w.en.at h
  refine ⟨?_, ?_, a1, a2, by omega⟩
  ·show _ = (K ++ K.map (· + L)).getD j 0
   rw [two_lo h]; simp
  ·show _ = cost c s ((K ++ K.map (· + L)).getD j 0)
   rw [two_lo h]; exact w.mm _ a1 a2
 ·have e1 : j % K.length = j - K.length := by rw [Nat.mod_eq_sub_mod h, Nat.mod_eq_of_lt (by omega)]
  have e2 : j / K.length = 1 := by
   have := Nat.div_add_mod j K.length
   rw [e1] at this
   have h2 : K.length * (j / K.length) = K.length * 1 := by omega
   exact Nat.eq_of_mul_eq_mul_left hn h2
  have hj2 : j - K.length < K.length := by omega
  obtain ⟨a1, a2, _⟩ := w.en.at hj2
  have e3 : kk K L j = K.getD (j - K.length) 0 + L := by
   have := two_hi (K := K) (L := L) hj2
   rwa [show K.length + (j - K.length) = j by omega] at this
  rw [e1, e2, e3]
  refine ⟨by simp, ?_, a1, a2, by omega⟩
  rw [w.mm _ a1 a2, cost_per (by have := w.pos; omega) w.all a1]
theorem Win.bd (w : Win c s L rest m K) {i j : Nat} (hi : i < K.length) (hij : i ≤ j) (hj : j ≤ i + K.length) : kk K L i ≤ kk K L j ∧ kk K L j ≤ kk K L i + L ∧ 0 ≤ W c s (kk K L i) (kk K L j - kk K L i).toNat ∧ W c s (kk K L i) (kk K L j - kk K L i).toNat ≤ total c s L ∧ 0 ≤ kk K L i ∧ kk K L i < L := by
 have len : (K ++ K.map (· + L)).length = K.length + K.length := by simp
 obtain ⟨a1, a2, _⟩ := w.en.at hi
 have ei : kk K L i = K.getD i 0 := two_lo hi
 have et : kk K L (i + K.length) = kk K L i + L := by
  have := two_hi (K := K) (L := L) hi
  rw [Nat.add_comm] at this
  rw [ei]; exact this
 have h1 := w.two.le (i := i) (j := j) hij (by omega)
 have h2 := w.two.le (i := j) (j := i + K.length) hj (by omega)
 have h3 : kk K L i ≤ kk K L j := h1
 have h4 : kk K L j ≤ kk K L (i + K.length) := h2
 have mono := W_mono (c := c) (s := s) w.cp (kk K L i) (n := (kk K L j - kk K L i).toNat) (m := L.toNat) (by omega)
 have rd := W_round (c := c) w.pos w.all (kk K L i).toNat
 rw [show (((kk K L i).toNat : Nat) : Int) = kk K L i by omega] at rd
 exact ⟨h3, by omega, W_pos w.cp _ _, by omega, by omega, by omega⟩

theorem win_ev (w : Win c s L rest m K) {ms tot best : Int} {i : Nat} (hi : i < K.length) {r : Int × Int × Unit}
 (next : ∀ (j' : Nat) (s' : Int), i + 1 ≤ j' → j' ≤ i + 1 + K.length → (i + 1 < K.length → s' = W c s (kk K L (i + 1)) (kk K L j' - kk K L (i + 1)).toNat) → (j' = i + 1 ∨ (i + 1 < j' ∧ kk K L (j' - 1) < kk K L i + rest)) →
  Ev (fun k => telemetry_Load.c3 k ms L m tot K (mxI best (W c s (kk K L i) rest.toNat)) rest (j' : Int) s' (K.length : Int) ((i : Int) + 1)) r) :
 ∀ (d j : Nat) (v : Int), i + K.length - j = d → i ≤ j → j ≤ i + K.length → v = W c s (kk K L i) (kk K L j - kk K L i).toNat → (j = i ∨ (i < j ∧ kk K L (j - 1) < kk K L i + rest)) →
  Ev (fun k => telemetry_Load.c4 k ms L m tot K best rest (j : Int) v (i : Int) (kk K L i) (K.length : Int) (i : Int)) r := by
 have len : (K ++ K.map (· + L)).length = K.length + K.length := by simp
 have klen := w.len
 have p1 := w.pos
 have p2 := w.big
 have r0 := w.r0
 have r1 := w.r1
 have tt := w.tot
 have hi2 : i < K.length + K.length := by omega
 have ea : kk K L i = K.getD i 0 := two_lo hi
 obtain ⟨ka, kb, _⟩ := w.en.at hi
 have b0 := w.bd hi (Nat.le_refl i) (by omega)
 have ct : 0 ≤ cost c s (kk K L i) ∧ cost c s (kk K L i) ≤ total c s L := by
  have q := w.bd hi (show i ≤ i + 1 by omega) (by omega)
  have f := W_next (c := c) w.two (a := kk K L i) (j := i) (by omega) (Int.le_refl _)
  have f : W c s (kk K L i) (kk K L (i + 1) - kk K L i).toNat = W c s (kk K L i) (kk K L i - kk K L i).toNat + cost c s (kk K L i) := f
  rw [show (kk K L i - kk K L i).toNat = 0 by omega, W] at f
  omega
 have mga : mapGet (.int .i64) (.int .i64) (kk K L i) m (0 : Int) = cost c s (kk K L i) := w.mm _ (by omega) (by omega)
 have wi : IntKind.wrap .i64 ((i : Int) + 1) = (i : Int) + 1 := w64 (by omega) (by omega)
 -- the window is full
 have stop : ∀ (j : Nat) (v : Int), i ≤ j → j ≤ i + K.length → v = W c s (kk K L i) (kk K L j - kk K L i).toNat → (j = i ∨ (i < j ∧ kk K L (j - 1) < kk K L i + rest)) → kk K L i + rest ≤ kk K L j →
  Ev (fun k => if (i : Int) < (j : Int) then
   telemetry_Load.c3 k ms L m tot K (mxI best v) rest (j : Int) (IntKind.wrap .i64 (v - mapGet (.int .i64) (.int .i64) (kk K L i) m (0 : Int))) (K.length : Int) (IntKind.wrap .i64 ((i : Int) + 1))
  else telemetry_Load.c3 k ms L m tot K (mxI best v) rest (IntKind.wrap .i64 ((i : Int) + 1)) v (K.length : Int) (IntKind.wrap .i64 ((i : Int) + 1))) r := by
  intro j v hij hj hv hlast hstop
  have bj := w.bd hi hij hj
  rw [wi, mga]
  rcases hlast with rfl | ⟨hlt, hl⟩
  ·have e0 : rest = 0 := by omega
   rw [show (kk K L j - kk K L j).toNat = 0 by omega, W] at hv
   subst e0
   subst hv
   have := next (j + 1) 0 (by omega) (by omega) (fun _ => by rw [show (kk K L (j + 1) - kk K L (j + 1)).toNat = 0 by omega, W]) (.inl rfl)
   rw [show (0 : Int).toNat = 0 from rfl, W, show ((j + 1 : Nat) : Int) = (j : Int) + 1 by omega] at this
   exact Ev.no (by omega) this
  ·have lo : kk K L i ≤ kk K L (j - 1) := w.two.le (i := i) (j := j - 1) (by omega) (by omega)
   have e := W_stop (c := c) w.two (a := kk K L i) (e := kk K L i + rest) (j := j - 1) (by omega) lo hl (by rw [show j - 1 + 1 = j by omega]; exact hstop)
   rw [show j - 1 + 1 = j by omega, show kk K L i + rest - kk K L i = rest by omega] at e
   have e : W c s (kk K L i) (kk K L j - kk K L i).toNat = W c s (kk K L i) rest.toNat := e
   have := next j (v - cost c s (kk K L i)) (by omega) (by omega) (fun hn => by
    have le : kk K L (i + 1) ≤ kk K L j := w.two.le (i := i + 1) (j := j) (by omega) (by omega)
    have f := W_first (c := c) w.two (i := i) (by omega) (b := kk K L j) le
    have f : W c s (kk K L i) (kk K L j - kk K L i).toNat = cost c s (kk K L i) + W c s (kk K L (i + 1)) (kk K L j - kk K L (i + 1)).toNat := f
    omega) (by by_cases h : j = i + 1; (exact .inl h); exact .inr ⟨by omega, hl⟩)
   rw [← e, ← hv] at this
   rw [w64 (by omega) (by omega)]
   exact Ev.yes (by omega) this
 intro d
 induction d with
 | zero =>
  intro j v hd hij hj hv hlast
  have ej : j = i + K.length := by omega
  have et : kk K L j = kk K L i + L := by
   have := two_hi (K := K) (L := L) hi
   rw [ej, Nat.add_comm i, ea]; exact this
  refine Ev.step (fun k => by rw [telemetry_Load.c4_eq]) ?_
  simp only [decide_eq_true_eq]
  rw [w64 (x := (i : Int) + (K.length : Int)) (by omega) (by omega)]
  exact Ev.no (by omega) (stop j v hij hj hv hlast (by omega))
 | succ d ih =>
  intro j v hd hij hj hv hlast
  have hj2 : j < i + K.length := by omega
  obtain ⟨q1, q2, q3, q4, q5⟩ := w.at_ (j := j) (by omega)
  have bj := w.bd hi hij hj
  have bj2 := w.bd hi (show i ≤ j + 1 by omega) (by omega)
  have tm : Int.tmod (j : Int) (K.length : Int) = ((j % K.length : Nat) : Int) := by rw [Int.tmod_eq_emod_of_nonneg (by omega)]; exact (Int.natCast_emod ..).symm
  have td : Int.tdiv (j : Int) (K.length : Int) = ((j / K.length : Nat) : Int) := by rw [Int.tdiv_eq_ediv_of_nonneg (by omega)]; exact (Int.natCast_ediv ..).symm
  have ml := Nat.mod_lt j (show 0 < K.length by omega)
  generalize j % K.length = jm at *
  generalize j / K.length = jd at *
  have mul : 0 ≤ (jd : Int) * L ∧ (jd : Int) * L ≤ L := by
   rcases (show jd = 0 ∨ jd = 1 by omega) with h | h <;> rw [h] <;> simp <;> omega
  have f := W_next (c := c) w.two (a := kk K L i) (j := j) (by omega) bj.1
  have f : W c s (kk K L i) (kk K L (j + 1) - kk K L i).toNat = W c s (kk K L i) (kk K L j - kk K L i).toNat + cost c s (kk K L j) := f
  refine Ev.step (fun k => by rw [telemetry_Load.c4_eq]) ?_
  simp only [decide_eq_true_eq, tm, td, Int.toNat_natCast]
  rw [w64 (x := (i : Int) + (K.length : Int)) (by omega) (by omega), w64 (x := (jd : Int)) (by omega) (by omega), w64 (x := (jd : Int) * L) (by omega) (by omega), q1, w64 (x := kk K L j) (by omega) (by omega), w64 (x := kk K L i + rest) (by omega) (by omega), w64 (x := (j : Int) + 1) (by omega) (by omega)]
  refine Ev.yes (by omega) (Ev.yes (by omega) (Ev.yes (by omega) (Ev.yes (by omega) ?_)))
  refine Ev.split (fun h => ?_) (fun h => stop j v hij hj hv hlast (by omega))
  refine Ev.yes (by omega) (Ev.yes (by omega) ?_)
  have q2' : mapGet (.int .i64) (.int .i64) (K.getD jm 0) m (0 : Int) = cost c s (kk K L j) := q2
  rw [q2', w64 (x := v + cost c s (kk K L j)) (by omega) (by omega)]
  have := ih (j + 1) (v + cost c s (kk K L j)) (by omega) (by omega) (by omega) (by omega) (.inr ⟨by omega, by rw [show j + 1 - 1 = j by omega]; exact h⟩)
  rw [show ((j + 1 : Nat) : Int) = (j : Int) + 1 by omega] at this
  exact this
end
end Go.Proofs.Ytcefbdknoelacaa.Pure

-- YtcefbdknoelacaaQ19
set_option linter.unusedVariables false
set_option linter.unusedSimpArgs false
namespace Go.Proofs.Ytcefbdknoelacaa.Pure
open Go Go.Proofs.Ytcefbdknoelacaa.A

def slide (c : DRegular → Int) (s : List DRegular) (rest : Int) : Int → List Int → Int
 | b, [] => b
 | b, a :: l => slide c s rest (mxI b (W c s a rest.toNat)) l
theorem mx_ok (b x : Int) : b ≤ mxI b x ∧ x ≤ mxI b x ∧ (mxI b x = b ∨ mxI b x = x) := by unfold mxI; split <;> omega
theorem slide_ok {c : DRegular → Int} {s : List DRegular} {rest : Int} : ∀ (l : List Int) (b : Int), b ≤ slide c s rest b l ∧ (∀ a ∈ l, W c s a rest.toNat ≤ slide c s rest b l) ∧ (slide c s rest b l = b ∨ ∃ a ∈ l, slide c s rest b l = W c s a rest.toNat)
 | [], b => ⟨Int.le_refl _, (fun a h => by cases h), Or.inl rfl⟩
 | x :: l, b => by
  obtain ⟨m1, m2, m3⟩ := mx_ok b (W c s x rest.toNat)
  obtain ⟨h1, h2, h3⟩ := slide_ok (c := c) (s := s) (rest := rest) l (mxI b (W c s x rest.toNat))
  refine ⟨Int.le_trans m1 h1, fun a ha => ?_, ?_⟩
  ·rcases List.mem_cons.1 ha with rfl | ha
   ·exact Int.le_trans m2 h1
   ·exact h2 a ha
  ·rcases h3 with h3 | ⟨a, h4, h5⟩
   ·rw [slide, h3]
    rcases m3 with e | e
    ·exact .inl e
    ·exact .inr ⟨x, by simp, e⟩
   ·exact .inr ⟨a, by simp [h4], h5⟩
section
variable {c : DRegular → Int} {s : List DRegular} {L rest : Int} {m : List (Int × Int)} {K : List Int}
theorem Win.rb (w : Win c s L rest m K) {a : Int} (h : 0 ≤ a) : 0 ≤ W c s a rest.toNat ∧ W c s a rest.toNat ≤ total c s L := by
 have r1 := w.r1
 have mono := W_mono (c := c) (s := s) w.cp a (n := rest.toNat) (m := L.toNat) (by omega)
 have rd := W_round (c := c) w.pos w.all a.toNat
 rw [show ((a.toNat : Nat) : Int) = a by omega] at rd
 exact ⟨W_pos w.cp _ _, by omega⟩
theorem slide_ev (w : Win c s L rest m K) {ms : Int} (m0 : 0 ≤ ms) (m1 : ms ≤ 100000) : ∀ (d i j : Nat) (v best : Int), K.length - i = d → i ≤ K.length → i ≤ j → j ≤ i + K.length → (i < K.length → v = W c s (kk K L i) (kk K L j - kk K L i).toNat ∧ (j = i ∨ (i < j ∧ kk K L (j - 1) < kk K L i + rest))) → 0 ≤ best → best ≤ total c s L →
 Ev (fun k => telemetry_Load.c3 k ms L m (total c s L) K best rest (j : Int) v (K.length : Int) (i : Int)) (slide c s rest best (K.drop i) + ms / L * total c s L, 0, ()) := by
 have klen := w.len
 have p1 := w.pos
 have tt := w.tot
 intro d
 induction d with
 | zero =>
  intro i j v best hd hi hij hj hv b0 b1
  have q : 0 ≤ ms / L ∧ ms / L ≤ 100000 := ⟨Int.ediv_nonneg m0 (by omega), Int.le_trans (Int.ediv_le_self L m0) m1⟩
  have tp : 0 ≤ total c s L := by omega
  have pr : 0 ≤ ms / L * total c s L ∧ ms / L * total c s L ≤ 100000 * 1000000000 := ⟨Int.mul_nonneg q.1 tp, Int.mul_le_mul q.2 tt tp (by omega)⟩
  refine Ev.step (fun k => by rw [telemetry_Load.c3_eq]) ?_
  simp only [decide_eq_true_eq]
  refine Ev.no (by omega) (Ev.yes (by omega) (Ev.is ?_))
  rw [List.drop_of_length_le (by omega), slide, Int.tdiv_eq_ediv_of_nonneg m0, w64 (x := ms / L) (by omega) (by omega), w64 (x := ms / L * total c s L) (by omega) (by omega), w64 (by omega) (by omega)]
 | succ d ih =>
  intro i j v best hd hi hij hj hv b0 b1
  have hi2 : i < K.length := by omega
  have len : (K ++ K.map (· + L)).length = K.length + K.length := by simp
  obtain ⟨ka, kb, _⟩ := w.en.at hi2
  have ei : kk K L i = K.getD i 0 := two_lo hi2
  obtain ⟨hv1, hv2⟩ := hv hi2
  refine Ev.step (fun k => by rw [telemetry_Load.c3_eq]) ?_
  simp only [decide_eq_true_eq, Int.toNat_natCast]
  refine Ev.yes (by omega) (Ev.yes (by omega) ?_)
  rw [← ei]
  have rb := w.rb (a := kk K L i) (by omega)
  obtain ⟨x1, x2, x3⟩ := mx_ok best (W c s (kk K L i) rest.toNat)
  have hd2 : K.drop i = kk K L i :: K.drop (i + 1) := by rw [List.drop_eq_getElem_cons hi2, ei, getD_nat 0 K i hi2]
  rw [hd2, slide]
  refine win_ev w hi2 (fun j' s' h1 h2 h3 h4 => ?_) _ j v rfl hij hj hv1 hv2
  have := ih (i + 1) j' s' (mxI best (W c s (kk K L i) rest.toNat)) (by omega) (by omega) h1 (by omega) (fun hn => ⟨h3 hn, by
   rcases h4 with h4 | ⟨h5, h6⟩
   ·exact .inl h4
   ·have lt : kk K L i < kk K L (i + 1) := w.two.lt (i := i) (j := i + 1) (by omega) (by omega)
    exact .inr ⟨h5, by omega⟩⟩) (by omega) (by omega)
  rw [show ((i + 1 : Nat) : Int) = (i : Int) + 1 by omega] at this
  exact this
end
theorem keys_nodup_lt : ∀ {l : List Int}, l.Pairwise (· ≤ ·) → l.Nodup → l.Pairwise (· < ·)
 | [], _, _ => List.Pairwise.nil
 | x :: l, h, n => by
  rw [List.pairwise_cons] at h
  rw [List.nodup_cons] at n
  rw [List.pairwise_cons]
  exact ⟨fun y hy => by have := h.1 y hy; have : x ≠ y := fun e => n.1 (e ▸ hy); omega, keys_nodup_lt h.2 n.2⟩
theorem inc_len {L : Int} : ∀ {l : List Int} {a : Int}, l.Pairwise (· < ·) → (∀ u ∈ l, a ≤ u ∧ u < L) → a ≤ L → (l.length : Int) ≤ L - a
 | [], a, _, _, h => by simp; omega
 | x :: l, a, h, hb, hl => by
  rw [List.pairwise_cons] at h
  have hx := hb x (by simp)
  have := inc_len (L := L) (l := l) (a := x + 1) h.2 (fun u hu => ⟨by have := h.1 u hu; omega, (hb u (by simp [hu])).2⟩) (by omega)
  rw [List.length_cons]
  omega
theorem map_ex : ∀ (E F m : List (Int × Int)), MapIs m F → ∃ m', MapIs m' (F ++ E)
 | [], F, m, h => ⟨m, by simpa using h⟩
 | e :: E, F, m, h => by
  obtain ⟨m', h'⟩ := map_ex E (F ++ [(e.1, e.2)]) _ (h.put e.1 e.2)
  exact ⟨m', by simpa using h'⟩
theorem loadT_ev (p : List DParameter) (l : List DLayout) (s : List DRegular) (c : Int) (h : Ev (fun k => telemetry_CheckPlan.f k p l s) (c, ())) (ok : c = 0 → PlanOk p l s) (ms : Int) : ∃ r, Ev (fun k => telemetry_Load.f k p l s ms) r ∧ LoadR p l s c ms r := by
 have e0 : ∀ {r : Int × Int × Unit}, Ev (fun k => telemetry_Load.f k p l s ms) r ↔ Ev (fun k => telemetry_Load.f k p l s ms) r := Iff.rfl
 by_cases hc : c = 0
 ·have hP := ok hc
  subst hc
  by_cases hm : 1 ≤ ms ∧ ms ≤ 100000
  ·by_cases hy : (cycR s).2.1 = 0
   ·have hC := cyc_of hP.reg hy
    generalize hLe : (cycR s).1 = L at hC
    have len := allT_len hC.pos hC.all
    have few := hC.few
    have p1 := hC.pos
    have p2 := hC.big
    have cp : ∀ r ∈ s, 0 ≤ sz p l r := fun r _ => (sz_bd hP.all r).1
    have tb : 0 ≤ total (sz p l) s L ∧ total (sz p l) s L ≤ 1000000000 := by
     have b := ev_bd (b := 601) (E := evs (sz p l) L s) (evs_ok hP.all L s) 0
     rw [evAll_evs (sz p l) hC.pos hC.all, evs_len] at b
     omega
    have rm : ms % L < L ∧ 0 ≤ ms % L := ⟨Int.emod_lt_of_pos ms (by omega), Int.emod_nonneg ms (by omega)⟩
    -- the answer
    have en : ∀ m, MapIs m (evs (sz p l) L s) → Enum s (sortI (m.map (·.1))) L := fun m hm => by
     obtain ⟨q1, q2⟩ := sortI_ok (m.map (·.1))
     refine ⟨keys_nodup_lt q2 (q1.nodup_iff.2 hm.nd), fun u => ?_⟩
     rw [q1.mem_iff, hm.ks, evs_times, allT_mem (by omega)]
    have one : ∀ m m', MapIs m (evs (sz p l) L s) → MapIs m' (evs (sz p l) L s) → sortI (m.map (·.1)) = sortI (m'.map (·.1)) := fun m m' h1 h2 => by
     have a := en m h1
     have b := en m' h2
     refine sorted_eq (a.up.imp fun h => by omega) (b.up.imp fun h => by omega) ((List.perm_ext_iff_of_nodup ?_ ?_).2 fun u => by rw [a.mem, b.mem])
     ·exact (sortI_ok _).1.nodup_iff.2 h1.nd
     ·exact (sortI_ok _).1.nodup_iff.2 h2.nd
    obtain ⟨m0, h0⟩ := map_ex (evs (sz p l) L s) [] [] ⟨fun k => rfl, by simp, by simp⟩
    rw [List.nil_append] at h0
    have e0 := en m0 h0
    generalize hK : sortI (m0.map (·.1)) = K at e0
    have kl := inc_len (L := L) (a := 0) e0.up (fun u hu => by have := (e0.mem u).1 hu; omega) (by omega)
    refine ⟨(slide (sz p l) s (ms % L) 0 K + ms / L * total (sz p l) s L, 0, ()), ?_, ?_⟩
    ·refine Ev.eq (fun k => by rw [telemetry_Load.f_eq]) (Ev.bind h ?_)
     refine Ev.no (by simp) ?_
     simp only [in_ev, Option.bind_some]
     refine Ev.no (by simp [hm]) (Ev.bind (cycleT_ev s hP.len hP.reg) (Ev.no (by simp [hy]) ?_))
     rw [hLe]
     refine prgTimes_ev p l s ms L hP hC fun m hm2 => ?_
     have hKm : sortI (m.map (·.1)) = K := by rw [← hK]; exact one m m0 hm2 h0
     have ml : (m.map (·.1)).length ≤ 1000000 := by
      have := (sortI_ok (m.map (·.1))).1.length_eq
      rw [hKm] at this
      omega
     refine range_ev hC.pos (keys := m.map (·.1)) ml ?_ m.length [] none m rfl (List.Perm.refl _)
     rw [hKm, Int.tmod_eq_emod_of_nonneg (by omega)]
     have w : Win (sz p l) s L (ms % L) m K := ⟨p1, p2, hC.all, cp, tb.2, e0, fun k k0 k1 => (hm2.get k).trans (evSum_evs (sz p l) k0 k1 s), rm.2, rm.1, by omega⟩
     exact slide_ev w (by omega) hm.2 K.length 0 0 0 0 (by omega) (by omega) (by omega) (by omega) (fun _ => ⟨by rw [show (kk K L 0 - kk K L 0).toNat = 0 by omega]; rfl, .inl rfl⟩) (by omega) tb.1
    ·unfold LoadR
     rw [if_neg (by simp), if_neg (by simp [hm]), if_neg (by simp [hy]), hLe]
     refine ⟨rfl, ?_⟩
     obtain ⟨s1, s2, s3⟩ := slide_ok (c := sz p l) (s := s) (rest := ms % L) K 0
     have q : 0 ≤ ms / L := Int.ediv_nonneg (by omega) (by omega)
     have dm := Int.mul_ediv_add_emod ms L
     have span : ms.toNat = (ms / L).toNat * L.toNat + (ms % L).toNat := by
      have : ((ms.toNat : Nat) : Int) = (((ms / L).toNat * L.toNat + (ms % L).toNat : Nat) : Int) := by
       rw [Int.natCast_add, Int.natCast_mul, Int.toNat_of_nonneg q, Int.toNat_of_nonneg (show 0 ≤ L by omega), Int.toNat_of_nonneg rm.2, Int.toNat_of_nonneg (show 0 ≤ ms by omega), Int.mul_comm]
       exact dm.symm
      exact Int.ofNat.inj this
     have rounds : ∀ k : Nat, W (sz p l) s (k : Int) ms.toNat = ms / L * total (sz p l) s L + W (sz p l) s (k : Int) (ms % L).toNat := fun k => by
      rw [span, W_rounds p1 hC.all k, Int.toNat_of_nonneg q]
     have prod : 0 ≤ ms / L * total (sz p l) s L := Int.mul_nonneg q tb.1
     refine ⟨by simp only; omega, fun k k1 k2 => ?_, ?_⟩
     ·have := s2 k ((e0.mem _).2 ⟨by omega, k1, k2⟩)
      rw [rounds]; simp only; omega
     ·have use : ∀ a ∈ K, slide (sz p l) s (ms % L) 0 K = W (sz p l) s a (ms % L).toNat → ∃ k : Nat, (k : Int) < L ∧ (∃ r ∈ s, hit r k = true) ∧ slide (sz p l) s (ms % L) 0 K + ms / L * total (sz p l) s L = W (sz p l) s k ms.toNat := fun a ha he => by
       obtain ⟨a1, a2, a3⟩ := (e0.mem a).1 ha
       obtain ⟨n, rfl⟩ := Int.eq_ofNat_of_zero_le a1
       exact ⟨n, a2, a3, by rw [rounds, he]; omega⟩
      rcases s3 with s3 | ⟨a, a1, a2⟩
      ·cases hK2 : K with
       | nil =>
        have sn : s = [] := by
         cases hs : s with
         | nil => rfl
         | cons r s' =>
          have ro := (hC.all r (by rw [hs]; simp))
          obtain ⟨q', hq⟩ := Int.dvd_of_emod_eq_zero ro.2
          have rr := ro.1
          obtain ⟨⟨r1, r2⟩, r3, r4⟩ := rr
          have q1 : 1 ≤ q' := by
           apply Classical.byContradiction
           intro hn
           have : r.2.1 * q' ≤ 0 := Int.mul_nonpos_of_nonneg_of_nonpos (by omega) (by omega)
           omega
          have le : r.2.1 * 1 ≤ r.2.1 * q' := Int.mul_le_mul_of_nonneg_left q1 (by omega)
          have := (e0.mem r.2.2).2 ⟨r3, by omega, r, by rw [hs]; simp, hit_first ro.1⟩
          rw [hK2] at this; cases this
        refine .inl ?_
        rw [← hK2]
        simp only
        rw [s3, sn]
        simp [total]
       | cons a K' =>
        have ha : a ∈ K := by rw [hK2]; simp
        obtain ⟨a1, a2, _⟩ := (e0.mem a).1 ha
        have wa := s2 a ha
        have wp := W_pos (c := sz p l) (s := s) cp (ms % L).toNat a
        rw [← hK2]
        exact .inr (use a ha (by omega))
      ·exact .inr (use a a1 a2)
   ·refine ⟨(0, (cycR s).2.1, ()), ?_, by unfold LoadR; rw [if_neg (by simp), if_neg (by simp [hm]), if_pos hy]⟩
    refine Ev.eq (fun k => by rw [telemetry_Load.f_eq]) (Ev.bind h ?_)
    refine Ev.no (by simp) ?_
    simp only [in_ev, Option.bind_some]
    exact Ev.no (by simp [hm]) (Ev.bind (cycleT_ev s hP.len hP.reg) (Ev.yes (by simp [hy]) (Ev.now _)))
  ·refine ⟨(0, 1, ()), ?_, by unfold LoadR; rw [if_neg (by simp), if_pos hm]⟩
   refine Ev.eq (fun k => by rw [telemetry_Load.f_eq]) (Ev.bind h ?_)
   refine Ev.no (by simp) ?_
   simp only [in_ev, Option.bind_some]
   exact Ev.yes (by rw [decide_eq_false hm]; rfl) (Ev.now _)
 ·refine ⟨(0, c, ()), ?_, by unfold LoadR; rw [if_pos hc]⟩
  refine Ev.eq (fun k => by rw [telemetry_Load.f_eq]) (Ev.bind h ?_)
  exact Ev.yes (by simpa using hc) (Ev.now _)
end Go.Proofs.Ytcefbdknoelacaa.Pure

-- YtcefbdknoelacaaAw
namespace Go.Proofs.Ytcefbdknoelacaa.Pure
open Go Go.Proofs.Ytcefbdknoelacaa.A
theorem awake_at (k : Nat) : perigeelaw7_awake.f (k + 40) = some (true, ()) := by kernel_rfl
theorem awake_ev : Ev (fun k => perigeelaw7_awake.f k) (true, ()) := ⟨40, fun n hn => by
 obtain ⟨k, rfl⟩ : ∃ k, n = k + 40 := ⟨n - 40, by omega⟩
 exact awake_at k⟩
end Go.Proofs.Ytcefbdknoelacaa.Pure

-- YtcefbdknoelacaaPureTelemetryLoadIsNeverPassed
set_option linter.unusedVariables false
set_option linter.unusedSimpArgs false
namespace Go.Proofs.Ytcefbdknoelacaa.Pure
open Go Go.Proofs.Ytcefbdknoelacaa.A
theorem LoadR.zero {p : List DParameter} {l : List DLayout} {s : List DRegular} {c ms : Int} {r : Int × Int × Unit} (h : LoadR p l s c ms r) (hr : ¬ r.2.1 = 0) : r.1 = 0 := by
 unfold LoadR at h
 split at h
 ·rw [h]
 ·split at h
  ·rw [h]
  ·split at h
   ·rw [h]
   ·exact absurd h.1 hr
theorem LoadR.good {p : List DParameter} {l : List DLayout} {s : List DRegular} {c ms : Int} {r : Int × Int × Unit} (h : LoadR p l s c ms r) (hr : r.2.1 = 0) : c = 0 ∧ (1 ≤ ms ∧ ms ≤ 100000) ∧ (cycR s).2.1 = 0 ∧ LoadIs (sz p l) s (cycR s).1 ms r.1 := by
 unfold LoadR at h
 split at h
 ·rename_i h1; rw [h] at hr; exact absurd hr h1
 ·split at h
  ·rw [h] at hr; simp at hr
  ·split at h
   ·rename_i h3; rw [h] at hr; exact absurd hr h3
   ·rename_i h1 h2 h3
    exact ⟨by omega, by omega, by omega, h.2⟩
theorem W_le {c : DRegular → Int} {s : List DRegular} {L ms v : Int} (hL : 1 ≤ L) (hr : ∀ r ∈ s, RegOk r ∧ L % r.2.1 = 0) (hc : ∀ r ∈ s, 0 ≤ c r) (h : LoadIs c s L ms v) : ∀ (n : Nat) (a : Int), 0 ≤ a → n ≤ ms.toNat → W c s a n ≤ v
 | 0, a, _, _ => h.pos
 | n + 1, a, a0, hn => by
  by_cases hh : ∃ r ∈ s, hit r a = true
  ·have e := Int.emod_emod_of_dvd a (Int.dvd_refl L)
   have m1 := Int.emod_lt_of_pos a (show 0 < L by omega)
   have m0 := Int.emod_nonneg a (show L ≠ 0 by omega)
   have dm := Int.mul_ediv_add_emod a L
   have q0 : 0 ≤ a / L := Int.ediv_nonneg a0 (by omega)
   have per : ∀ (q : Nat) (k : Int) (n : Nat), 0 ≤ k → W c s (k + q * L) n = W c s k n ∧ ((∃ r ∈ s, hit r (k + q * L) = true) → ∃ r ∈ s, hit r k = true) := by
    intro q
    induction q with
    | zero => intro k n _; simp
    | succ q ih =>
     intro k n hk
     have qL : 0 ≤ (q : Int) * L := Int.mul_nonneg (by omega) (by omega)
     rw [show k + ((q + 1 : Nat) : Int) * L = (k + q * L) + L by rw [show ((q + 1 : Nat) : Int) = (q : Int) + 1 by omega, Int.add_mul]; omega]
     refine ⟨by rw [W_per (by omega) hr n (by omega)]; exact (ih k n hk).1, fun ⟨r, r1, r2⟩ => (ih k n hk).2 ⟨r, r1, ?_⟩⟩
     rw [hit_per (hr r r1).1 (by omega) (hr r r1).2 (by omega)] at r2
     exact r2
   obtain ⟨w1, w2⟩ := per (a / L).toNat (a % L) (n + 1) m0
   have ea : a % L + ((a / L).toNat : Int) * L = a := by rw [Int.toNat_of_nonneg q0, Int.mul_comm]; omega
   rw [ea] at w1 w2
   have := h.le (a % L).toNat (by omega) (by rw [Int.toNat_of_nonneg m0]; exact w2 hh)
   rw [Int.toNat_of_nonneg m0] at this
   have mono := W_mono (c := c) (s := s) hc (a % L) hn
   omega
  ·rw [W, cost_none (fun r hr' => by cases e : hit r a with | false => rfl | true => exact absurd ⟨r, hr', e⟩ hh)]
   have := W_le hL hr hc h n (a + 1) (by omega) (by omega)
   omega
abbrev szn (p : List DParameter) (l : List DLayout) (t : List UInt8) : Int := sz p l (t, (0, 0))
def dsum (p : List DParameter) (l : List DLayout) : List DDue → Int
 | [] => 0
 | d :: D => szn p l d.2 + dsum p l D
theorem dsum_append (p : List DParameter) (l : List DLayout) : ∀ D E, dsum p l (D ++ E) = dsum p l D + dsum p l E
 | [], E => by simp [dsum]
 | d :: D, E => by simp only [List.cons_append, dsum, dsum_append p l D E]; omega
theorem dsum_at (p : List DParameter) (l : List DLayout) (t : Int) : ∀ s : List DRegular, dsum p l (at_ s t) = cost (sz p l) s t
 | [] => rfl
 | r :: s => by
  rw [cost]
  by_cases h : hit r t = true
  ·rw [at_pos h, dsum, dsum_at p l t s, if_pos h]; rfl
  ·rw [at_neg h, dsum_at p l t s, if_neg h]; omega
theorem dsum_upto (p : List DParameter) (l : List DLayout) (s : List DRegular) : ∀ (n : Nat) (t : Int), dsum p l (upto s t n) = W (sz p l) s t n
 | 0, _ => rfl
 | n + 1, t => by rw [upto, dsum_append, dsum_at, dsum_upto p l s n (t + 1)]; rfl
theorem upto_name {s : List DRegular} : ∀ {n : Nat} {t : Int} {d : DDue}, d ∈ upto s t n → ∃ r ∈ s, d.2 = r.1
 | 0, _, _, h => by simp [upto] at h
 | n + 1, t, d, h => by
  rw [upto, List.mem_append] at h
  rcases h with h | h
  ·obtain ⟨r, hr, rfl⟩ := List.mem_map.1 h
   exact ⟨r, (List.mem_filter.1 hr).1, rfl⟩
  ·exact upto_name h
theorem bits_ev {p : List DParameter} {l : List DLayout} {s : List DRegular} (hP : PlanOk p l s) (h : Ev (fun k => telemetry_CheckLayouts.f k p l) (0, ())) {r : DRegular} (hr : r ∈ s) : ∃ b : Int, 0 ≤ b ∧ b ≤ 4800 ∧ (b + 7) / 8 = szn p l r.1 ∧ Ev (fun k => telemetry_Bits.f k p l r.1) (b, 0, ()) := by
 obtain ⟨x, hx⟩ := hP.lay r hr
 have a := hP.all
 have hl := a.hl
 have k := a.ps (findL_some hx).1
 have b := bsum_bd k.2
 have := k.1
 refine ⟨bsum (ps p x), by omega, by omega, ?_, ?_⟩
 ·show _ = sz p l (r.1, (0, 0))
  unfold sz; rw [hx]
 ·have f := found_ev p l 0 h (by omega) r.1
  rw [if_pos rfl, hx] at f
  refine Ev.eq (fun k => by rw [telemetry_Bits.f_eq]) (Ev.bind f ?_)
  refine Ev.no (by simp) (Ev.bind (bitsOfT_ev p a.hp a.hf x (a.ok x (findL_some hx).1)) (Ev.now _))
theorem TelemetryLoadIsNeverPassed (p : List DParameter) (l : List DLayout) (s : List DRegular) (ms a : Int) (h0 : okT (.sl YParameter) p) (h1 : okT (.sl YLayout) l) (h2 : okT (.sl YRegular) s) (h3 : okT (.int .i64) ms) (h4 : okT (.int .i64) a) :
 ∃ n, perigeelaw7_TelemetryLoadIsNeverPassed.f n p l s ms a = some (true, ()) := by
 refine Ev.rounds (g := fun k => perigeelaw7_TelemetryLoadIsNeverPassed.f k p l s ms a) ?_
 obtain ⟨c, c1, c2, ok⟩ := plans_ev p l s h0 h1 (by have := h2.1; omega)
 obtain ⟨r, r1, r2⟩ := loadT_ev p l s c c1 ok ms
 refine Ev.eq (fun k => by rw [perigeelaw7_TelemetryLoadIsNeverPassed.f_eq]) (Ev.bind r1 ?_)
 by_cases hr : r.2.1 = 0
 ·obtain ⟨hc, hm, hy, v⟩ := r2.good hr
  subst hc
  have hP := ok rfl
  have hC := cyc_of hP.reg hy
  refine Ev.no (by simp [hr]) (Ev.bind (sent_evT p l s 0 c1 ok a (IntKind.wrap .i64 (a + ms))) ?_)
  by_cases hs : (sent 0 s a (IntKind.wrap .i64 (a + ms))).2.1 = 0
  ·refine Ev.no (by simp [hs]) ?_
   have key : (0 ≤ a ∧ a ≤ 1000000000000) ∧ sent 0 s a (IntKind.wrap .i64 (a + ms)) = (upto s a ms.toNat, 0, ()) := by
    unfold sent sentR at hs ⊢
    rw [if_neg (by omega)] at hs ⊢
    by_cases ha : 0 ≤ a ∧ a ≤ 1000000000000
    ·rw [if_neg (by omega)] at hs ⊢
     rw [w64 (x := a + ms) (by omega) (by omega)] at hs ⊢
     by_cases hb : 0 ≤ a + ms ∧ a + ms ≤ 1000000000000
     ·rw [if_neg (by omega)] at hs ⊢
      by_cases hn : 20000 < cnts s a (a + ms)
      ·rw [if_pos hn] at hs; simp at hs
      ·rw [if_neg hn]
       exact ⟨ha, by rw [show (a + ms - a).toNat = ms.toNat by omega]⟩
     ·rw [if_pos hb] at hs; simp at hs
    ·rw [if_pos ha] at hs; simp at hs
   obtain ⟨ha, e⟩ := key
   have sl := sent_len (p := p) (l := l) (s := s) (c := 0) ok a (IntKind.wrap .i64 (a + ms))
   rw [e] at sl ⊢
   simp only at sl ⊢
   have lay : Ev (fun k => telemetry_CheckLayouts.f k p l) (0, ()) := by
    obtain ⟨d, d1, _, _⟩ := layoutsOk p l h0 h1
    by_cases hd : d = 0
    ·subst hd; exact d1
    ·have : Ev (fun k => telemetry_CheckPlan.f k p l s) (d, ()) := by
      refine Ev.eq (fun k => by rw [telemetry_CheckPlan.f_eq]) (Ev.bind d1 ?_)
      exact Ev.yes (by simpa using hd) (Ev.now _)
     have := this.unique c1
     simp at this; exact absurd this hd
   have small : W (sz p l) s a ms.toNat ≤ r.1 := W_le hC.pos hC.all (fun r _ => (sz_bd hP.all r).1) v ms.toNat a ha.1 (Nat.le_refl _)
   have h := Ev.rng (σ := Int) (Ty.dflt YDue) (upto s a ms.toNat) (by omega) (g := fun k c i => perigeelaw7_TelemetryLoadIsNeverPassed.c0 k p l r.1 c (upto s a ms.toNat) ((upto s a ms.toNat).length : Int) i) (fun k c i => perigeelaw7_TelemetryLoadIsNeverPassed.c0_eq _ _ _ _ _ _ _ _)
    (fun i c => 0 ≤ c ∧ c ≤ 700 * i ∧ c + dsum p l ((upto s a ms.toNat).drop i) = W (sz p l) s a ms.toNat) (fun _ _ _ => (true, ())) (fun c hc => by
     obtain ⟨q0, q1, q2⟩ := hc
     rw [List.drop_length, dsum] at q2
     simp only [decide_eq_true_eq]
     exact Ev.yes (by omega) (Ev.bind awake_ev (Ev.now _))) (fun i x xs c hi hx hd hget hw hc nxt => by
     obtain ⟨q0, q1, q2⟩ := hc
     obtain ⟨rg, g1, g2⟩ := upto_name hx
     obtain ⟨b, b0, b1, b2, b3⟩ := bits_ev hP lay g1
     have hd2 : (upto s a ms.toNat).drop (i + 1) = xs := by rw [← List.drop_drop, hd]; rfl
     rw [hd, dsum, g2, ← b2] at q2
     simp only [Int.toNat_natCast, hget, hw]
     rw [g2]
     refine Ev.bind b3 (Ev.no (by simp) ?_)
     simp only
     rw [w64 (x := b + 7) (by omega) (by omega), Int.tdiv_eq_ediv_of_nonneg (by omega), w64 (x := (b + 7) / 8) (by omega) (by omega), w64 (x := c + (b + 7) / 8) (by omega) (by omega)]
     exact nxt (c + (b + 7) / 8) ⟨by omega, by omega, by rw [hd2]; omega⟩) 0 0 (by omega) ⟨by omega, by omega, by rw [List.drop_zero, dsum_upto]; omega⟩
   exact h
  ·exact Ev.yes (by simp [hs]) (Ev.bind awake_ev (Ev.now _))
 ·exact Ev.yes (by simp [hr]) (Ev.yes (by simp [r2.zero hr]) (Ev.bind awake_ev (Ev.now _)))
end Go.Proofs.Ytcefbdknoelacaa.Pure
