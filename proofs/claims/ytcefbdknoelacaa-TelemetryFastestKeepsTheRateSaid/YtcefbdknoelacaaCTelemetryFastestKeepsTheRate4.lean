/- With the time that Fastest says no more is sent in 1000 milliseconds than the rate, and with one less there is, for all parameters, layouts, regular sendings and rates. -/
import Derived.Test.YtcefbdknoelacaaCTelemetryFastestKeepsTheRate3
-- YtcefbdknoelacaaPureTelemetryFastestKeepsTheRate
set_option linter.unusedVariables false
set_option linter.unusedSimpArgs false
namespace Go.Proofs.Ytcefbdknoelacaa.Pure
open Go Go.Proofs.Ytcefbdknoelacaa.A
theorem fast_ok (n rate : Int) : ∀ (d : Nat) (e : Int), 1 ≤ e → e + d = 100001 → (∀ u, 1 ≤ u → u < e → rate < n * ups u) →
 (fast n rate d e).2.2.1 = 0 ∧ ((fast n rate d e).2.1 = false → (fast n rate d e).1 = 0) ∧ ((fast n rate d e).2.1 = true → 1 ≤ (fast n rate d e).1 ∧ (fast n rate d e).1 ≤ 100000 ∧ n * ups (fast n rate d e).1 ≤ rate ∧ ∀ u, 1 ≤ u → u < (fast n rate d e).1 → rate < n * ups u)
 | 0, e, _, _, _ => ⟨rfl, fun _ => rfl, fun h => by cases h⟩
 | d + 1, e, h1, h2, h3 => by
  rw [fast]
  by_cases h : n * ups e ≤ rate
  ·rw [if_pos h]
   exact ⟨rfl, fun h => (by cases h), fun _ => ⟨h1, by show e ≤ 100000; omega, h, h3⟩⟩
  ·rw [if_neg h]
   refine fast_ok n rate d (e + 1) (by omega) (by omega) fun u u1 u2 => ?_
   by_cases hu : u = e
   ·subst hu; omega
   ·exact h3 u u1 (by omega)
def same (e : Int) (r : DRegular) : DRegular := (r.1, (e, 0))
theorem hit_same {e k : Int} (r : DRegular) (k0 : 0 ≤ k) (k1 : k < e) : hit (same e r) k = decide (k = 0) := by
 show decide (0 ≤ k ∧ (k - 0) % e = 0) = _
 rw [Int.sub_zero, Int.emod_eq_of_lt k0 k1]
 congr 1
 exact propext ⟨fun h => h.2, fun h => ⟨by omega, h⟩⟩
theorem wc_same {p : List DParameter} {l : List DLayout} {e : Int} (h : 1 ≤ e) : ∀ s : List DRegular, wc (sz p l) (s.map (same e)) 0 1000 = szs p l s * ups e
 | [] => by simp [wc, szs]
 | r :: s => by
  have ih := wc_same (p := p) (l := l) h s
  have hn : nx (same e r) 0 = 0 := by unfold nx same; rw [if_pos (by simp)]
  have hc : cnt (same e r) 0 1000 = ups e := by
   unfold cnt
   rw [hn, if_pos (by omega), (ups_ok h).1]
   rfl
  have hs : sz p l (same e r) = sz p l r := rfl
  rw [List.map_cons, wc, szs, ih, hc, hs, Int.add_mul, Int.mul_comm (ups e)]
theorem cyc_same {e : Int} (h : 1 ≤ e) (h2 : e ≤ 1000000) : ∀ (s : List DRegular), cyc e (s.map (same e)) = some e
 | [] => rfl
 | r :: s => by
  have : lcm1 e (same e r).2.1 = e := by
   show e / gcdI e e * e = e
   have hg : gcdI e e = e := by
    unfold gcdI
    rw [Int.gcd_self]; omega
   rw [hg, Int.ediv_self (by omega), Int.one_mul]
  rw [List.map_cons, cyc, this, if_neg (by omega)]
  exact cyc_same h h2 s
theorem cyc_first {e : Int} (h : 1 ≤ e) (h2 : e ≤ 1000000) (r : DRegular) (s : List DRegular) : cyc 1 ((r :: s).map (same e)) = some e := by
 have : lcm1 1 (same e r).2.1 = e := by
  show 1 / gcdI 1 e * e = e
  have hg : gcdI 1 e = 1 := by
   unfold gcdI
   rw [Int.one_gcd]; rfl
  rw [hg]; simp
 rw [List.map_cons, cyc, this, if_neg (by omega)]
 exact cyc_same h h2 s
theorem load_same {p : List DParameter} {l : List DLayout} {s : List DRegular} {e v : Int} (a : AllOk p l) (h : 1 ≤ e) (h2 : e ≤ 100000) (hr : ∀ r ∈ s.map (same e), RegOk r) (hy : (cycR (s.map (same e))).2.1 = 0) (hv : LoadIs (sz p l) (s.map (same e)) (cycR (s.map (same e))).1 1000 v) : v = szs p l s * ups e := by
 cases s with
 | nil =>
  rcases hv.is with e0 | ⟨k, _, ⟨r, hr, _⟩, _⟩
  ·rw [e0, szs, Int.zero_mul]
  ·cases hr
 | cons r s =>
  have hL : (cycR ((r :: s).map (same e))).1 = e := by
   have hC := cyc_of hr hy
   have := hC.is
   rw [cyc_first h (by omega)] at this
   injection this with this
   exact this.symm
  rw [hL] at hv
  have cp : ∀ x ∈ (r :: s).map (same e), 0 ≤ sz p l x := fun x _ => (sz_bd a x).1
  have hw : W (sz p l) ((r :: s).map (same e)) ((0 : Nat) : Int) (1000 : Int).toNat = szs p l (r :: s) * ups e := by
   have := W_wc (c := sz p l) (s := (r :: s).map (same e)) hr 0 1000
   rw [Int.sub_zero, wc_same h] at this
   exact this
  have le := hv.le 0 (by omega) ⟨same e r, by simp, by rw [hit_same r (by omega) (by omega)]; rfl⟩
  rw [hw] at le
  rcases hv.is with e0 | ⟨k, k1, ⟨x, hx, hk⟩, e0⟩
  ·have := W_pos (c := sz p l) (s := (r :: s).map (same e)) cp (1000 : Int).toNat ((0 : Nat) : Int)
   omega
  ·obtain ⟨y, _, rfl⟩ := List.mem_map.1 hx
   rw [hit_same y (by omega) k1] at hk
   have : k = 0 := by simpa using hk
   subst this
   rw [e0, hw]
theorem LoadR.good {p : List DParameter} {l : List DLayout} {s : List DRegular} {c ms : Int} {r : Int × Int × Unit} (h : LoadR p l s c ms r) (hr : r.2.1 = 0) : c = 0 ∧ (1 ≤ ms ∧ ms ≤ 100000) ∧ (cycR s).2.1 = 0 ∧ LoadIs (sz p l) s (cycR s).1 ms r.1 := by
 unfold LoadR at h
 split at h
 ·rename_i h1; rw [h] at hr; exact absurd hr h1
 ·split at h
  ·rw [h] at hr; simp at hr
  ·split at h
   ·rename_i h3; rw [h] at hr; exact absurd hr h3
   ·rename_i h1 h2 h3
    exact ⟨by omega, by omega, by omega, h.2⟩
theorem time_ev (p : List DParameter) (l : List DLayout) (s : List DRegular) (h0 : okT (.sl YParameter) p) (h1 : okT (.sl YLayout) l) (a : AllOk p l) (hs : s.length ≤ 50) (rate n e : Int) (e1 : 1 ≤ e) (e2 : e ≤ 100000) (i : Int)
 (hd : (szs p l s * ups e ≤ rate) ↔ e = n) (next : Ev (fun k => perigeelaw7_TelemetryFastestKeepsTheRate.c1 k p l s rate n [n, IntKind.wrap .i64 (n - 1)] 2 (IntKind.wrap .i64 (i + 1))) (true, ())) :
 Ev (fun k => perigeelaw7_TelemetryFastestKeepsTheRate.c2 k p l s rate n e [] [n, IntKind.wrap .i64 (n - 1)] 2 i s (s.length : Int) 0) (true, ()) := by
 have g := Ev.rng (σ := List DRegular) (Ty.dflt YRegular) s (by omega) (g := fun k T j => perigeelaw7_TelemetryFastestKeepsTheRate.c2 k p l s rate n e T [n, IntKind.wrap .i64 (n - 1)] 2 i s (s.length : Int) j) (fun k T j => perigeelaw7_TelemetryFastestKeepsTheRate.c2_eq _ _ _ _ _ _ _ _ _ _ _ _ _ _)
  (fun j T => T.length ≤ j ∧ (T.length = j → T = (s.take j).map (same e))) (fun _ _ _ => (true, ())) (fun T hT => by
   obtain ⟨t1, t2⟩ := hT
   simp only [decide_eq_true_eq]
   refine Ev.split (fun h => Ev.bind awake_ev (Ev.now _)) (fun h => ?_)
   have hT := t2 (by omega)
   rw [List.take_length] at hT
   subst hT
   obtain ⟨c, c1, _, ok⟩ := plans_ev p l (s.map (same e)) h0 h1 (by rw [List.length_map]; omega)
   obtain ⟨r, r1, r2⟩ := loadT_ev p l (s.map (same e)) c c1 ok 1000
   refine Ev.bind r1 ?_
   refine Ev.split (fun h => ?_) (fun _ => next)
   obtain ⟨g1, g2, g3, g4⟩ := r2.good h
   have hv := load_same a e1 e2 (ok g1).reg g3 g4
   rw [hv]
   refine Ev.no ?_ next
   by_cases hh : e = n
   ·have := hd.2 hh
    simp [hh] at this ⊢
    exact this
   ·have : ¬ szs p l s * ups e ≤ rate := fun h => hh (hd.1 h)
    simp [hh, this]) (fun j x xs T hj hx hdr hget hw hT nxt => by
   obtain ⟨t1, t2⟩ := hT
   simp only [Int.toNat_natCast, hget, hw]
   have ht : s.take (j + 1) = s.take j ++ [x] := by
    rw [List.take_add_one]
    have : s[j]? = some x := by
     have := congrArg (fun l => l[0]?) hdr
     simpa using this
    rw [this]; rfl
   refine Ev.bind (contains_reg T (by omega) _) ?_
   refine Ev.split (fun h => Ev.yes (by omega) (nxt _ ⟨by simp; omega, fun h2 => ?_⟩)) (fun h => nxt T ⟨by omega, fun h2 => by omega⟩)
   rw [List.length_append, List.length_singleton] at h2
   rw [t2 (by omega), ht, List.map_append]
   rfl) 0 [] (by omega) ⟨by simp, fun _ => rfl⟩
 exact g
theorem TelemetryFastestKeepsTheRate (p : List DParameter) (l : List DLayout) (s : List DRegular) (rate : Int) (h0 : okT (.sl YParameter) p) (h1 : okT (.sl YLayout) l) (h2 : okT (.sl YRegular) s) (h3 : okT (.int .i64) rate) :
 ∃ n, perigeelaw7_TelemetryFastestKeepsTheRate.f n p l s rate = some (true, ()) := by
 refine Ev.rounds (g := fun k => perigeelaw7_TelemetryFastestKeepsTheRate.f k p l s rate) ?_
 obtain ⟨c, c1, c2, ok⟩ := plans_ev p l s h0 h1 (by have := h2.1; omega)
 refine Ev.eq (fun k => by rw [perigeelaw7_TelemetryFastestKeepsTheRate.f_eq]) (Ev.bind (fastestT_ev p l s c c1 ok rate) ?_)
 unfold FastR
 by_cases hc : c = 0
 ·rw [if_neg (by omega)]
  have hP := ok hc
  have hs := hP.len
  by_cases hr : 0 ≤ rate ∧ rate ≤ 1000000
  ·rw [if_neg (by omega)]
   obtain ⟨f1, f2, f3⟩ := fast_ok (szs p l s) rate 100000 1 (by omega) (by omega) (fun u u1 u2 => by omega)
   generalize fast (szs p l s) rate 100000 1 = F at *
   obtain ⟨n, okn, f, u⟩ := F
   simp only at f1 f2 f3
   subst f1
   refine Ev.no (by simp) ?_
   cases okn with
   | false =>
    refine Ev.yes (by simp) (Ev.yes (by simpa using f2 rfl) (Ev.bind awake_ev (Ev.now _)))
   | true =>
    obtain ⟨n1, n2, n3, n4⟩ := f3 rfl
    refine Ev.no (by simp) (Ev.step (fun k => by rw [perigeelaw7_TelemetryFastestKeepsTheRate.c0_eq]) ?_)
    have w1 : IntKind.wrap .i64 (0 + 1) = 1 := w64 (by omega) (by omega)
    have w2 : IntKind.wrap .i64 (1 + 1) = 2 := w64 (by omega) (by omega)
    have last : Ev (fun k => perigeelaw7_TelemetryFastestKeepsTheRate.c1 k p l s rate n [n, IntKind.wrap .i64 (n - 1)] 2 2) (true, ()) := by
     refine Ev.step (fun k => by rw [perigeelaw7_TelemetryFastestKeepsTheRate.c1_eq]) (Ev.no (by simp) (Ev.bind awake_ev (Ev.now _)))
    have second : Ev (fun k => perigeelaw7_TelemetryFastestKeepsTheRate.c1 k p l s rate n [n, IntKind.wrap .i64 (n - 1)] 2 1) (true, ()) := by
     refine Ev.step (fun k => by rw [perigeelaw7_TelemetryFastestKeepsTheRate.c1_eq]) (Ev.yes (by simp) (Ev.yes (by simp) ?_))
     have e : ([n, IntKind.wrap .i64 (n - 1)] : List Int).getD (1 : Int).toNat 0 = n - 1 := by
      show IntKind.wrap .i64 (n - 1) = n - 1
      exact w64 (by omega) (by omega)
     rw [e, w2]
     simp only [decide_eq_true_eq]
     refine Ev.split (fun h => last) (fun h => ?_)
     refine time_ev p l s h0 h1 hP.all hs rate n (n - 1) (by omega) (by omega) 1 ?_ (by rw [w2]; exact last)
     have := n4 (n - 1) (by omega) (by omega)
     constructor
     ·intro h; omega
     ·intro h; omega
    refine Ev.step (fun k => by rw [perigeelaw7_TelemetryFastestKeepsTheRate.c1_eq]) (Ev.yes (by simp) (Ev.yes (by simp) ?_))
    have e : ([n, IntKind.wrap .i64 (n - 1)] : List Int).getD (0 : Int).toNat 0 = n := rfl
    rw [e, w1]
    refine Ev.no (by simp; omega) ?_
    refine time_ev p l s h0 h1 hP.all hs rate n n n1 n2 0 ⟨fun _ => rfl, fun _ => n3⟩ (by rw [w1]; exact second)
  ·rw [if_pos hr]
   exact Ev.yes (by simp) (Ev.yes (by simp) (Ev.bind awake_ev (Ev.now _)))
 ·rw [if_pos hc]
  exact Ev.yes (by simpa using hc) (Ev.yes (by simp) (Ev.bind awake_ev (Ev.now _)))
end Go.Proofs.Ytcefbdknoelacaa.Pure
