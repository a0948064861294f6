/- Follow, States and Longest of the program answer as the reference's do, with all errors. -/
import Derived.Test.YtodnfnnfjnnhmaaCLimitsFollowMatchSpec4
-- YtodnfnnfjnnhmaaQ10
set_option linter.unusedVariables false
set_option linter.unusedSimpArgs false
namespace Go.Proofs.Ytodnfnnfjnnhmaa.Pure
open Go Go.Proofs.Ytodnfnnfjnnhmaa.A

theorem tr_is (x : DLimit) (vs : List Int) : tr x vs = (x, (nowOf x vs, (vs.map (st x), vs.map (far x)))) := by
 obtain ⟨t1, t2, t3, t4⟩ := tr_facts x _ vs rfl
 unfold nowOf
 generalize tr x vs = f at *
 obtain ⟨a, b, c, d⟩ := f
 simp only at t1 t2 t3
 rw [t1, t2, t3]
theorem mstep_ev (x : DLimit) (hx : LimOk x) (vs : List Int) (v : Int) (hv : -1000000000 ≤ v ∧ v ≤ 1000000000) (hl : vs.length ≤ 100000) :
 Ev (fun k => monitor_follower_step.f k (x, (nowOf x vs, (vs.map (st x), vs.map (far x)))) v) ((x, (nowOf x (vs ++ [v]), ((vs ++ [v]).map (st x), (vs ++ [v]).map (far x)))), ()) := by
 have h := step_ev (tr x vs) v (by rw [tr_is]; exact hx) hv (by rw [tr_is]; simpa using hl) (by rw [tr_is]; simpa using hl)
 rw [← tr_snoc, tr_is, tr_is] at h
 exact h
structure J (now t most frm last best frmR : Int) (ok any : Bool) : Prop where
 no : any = false → most = -1 ∧ frm = -1 ∧ last = -1
 b : best = mxI most 0
 o : ok = decide (0 ≤ most)
 m : -1 ≤ most ∧ most ≤ 1000000000000
 f : any = true → 0 ≤ frmR ∧ frmR ≤ last
 l : -1 ≤ last ∧ last ≤ 1000000000000
 s : any = true → now = t → frm = frmR
 ns : any = true → now ≠ t → frm = -1
section
variable {x : DLimit} {s : List DSample} {t : Int}
theorem longest_loop (hx : LimOk x) (hS : SamsOk s) : ∀ (d i : Nat) (most frm last best frmR lastR : Int) (ok any : Bool), i + d = s.length → J (nowOf x (vals x.1 (s.take i))) t most frm last best frmR ok any → (any = true → lastR = last) → (∀ z ∈ s.take i, z.1 ≤ 1000000000000) → (∀ z ∈ s.drop i, last ≤ z.1) →
 ∃ r, Ev (fun k => monitor_longest.c0 k t x.1 x.2.1 x.2.2.1 x.2.2.2.1 x.2.2.2.2.1 x.2.2.2.2.2.1 x.2.2.2.2.2.2.1 x.2.2.2.2.2.2.2 x.1 x.2.1 x.2.2.1 x.2.2.2.1 x.2.2.2.2.1 x.2.2.2.2.2.1 x.2.2.2.2.2.2.1 x.2.2.2.2.2.2.2 (nowOf x (vals x.1 (s.take i))) ((vals x.1 (s.take i)).map (st x)) ((vals x.1 (s.take i)).map (far x)) most frm last s (s.length : Int) i) r ∧ Ev (fun k => perigeeref8_longestOf.c0 k s t x.1 x.2.1 x.2.2.1 x.2.2.2.1 x.2.2.2.2.1 x.2.2.2.2.2.1 x.2.2.2.2.2.2.1 x.2.2.2.2.2.2.2 x.1 x.2.1 x.2.2.1 x.2.2.2.1 x.2.2.2.2.1 x.2.2.2.2.2.1 x.2.2.2.2.2.2.1 x.2.2.2.2.2.2.2 (vals x.1 (s.take i)) (nowOf x (vals x.1 (s.take i))) best ok frmR lastR any i) r := by
 have hsl := hS.1
 intro d
 induction d with
 | zero =>
  intro i most frm last best frmR lastR ok any hi j hla hp hq
  obtain ⟨j1, j2, j3, j4, j5, j6, j7, j8⟩ := j
  obtain rfl : i = s.length := by omega
  rw [List.take_length] at *
  cases any with
  | false =>
   obtain ⟨rfl, rfl, rfl⟩ := j1 rfl
   subst j2; subst j3
   exact ⟨_, Ev.step (fun k => monitor_longest.c0_eq _ _ _ _ _ _ _ _ _ _ _ _ _ _ _ _ _ _ _ _ _ _ _ _ _ _ _) (Ev.no (by simp) (Ev.no (by simp) (Ev.now _))), Ev.step (fun k => perigeeref8_longestOf.c0_eq _ _ _ _ _ _ _ _ _ _ _ _ _ _ _ _ _ _ _ _ _ _ _ _ _ _ _) (Ev.no (by simp) (Ev.no (by simp) (Ev.now _)))⟩
  | true =>
   obtain ⟨f1, f2⟩ := j5 rfl
   obtain rfl := hla rfl
   by_cases hn : nowOf x (vals x.1 s) = t
   ·obtain rfl := j7 rfl hn
    refine ⟨_, Ev.step (fun k => monitor_longest.c0_eq _ _ _ _ _ _ _ _ _ _ _ _ _ _ _ _ _ _ _ _ _ _ _ _ _ _ _) (Ev.no (by simp) (Ev.yes (by simpa using f1) (Ev.now _))), Ev.step (fun k => perigeeref8_longestOf.c0_eq _ _ _ _ _ _ _ _ _ _ _ _ _ _ _ _ _ _ _ _ _ _ _ _ _ _ _) (Ev.no (by simp) (Ev.yes rfl (Ev.yes (by simpa using hn) (Ev.is ?_))))⟩
    rw [w64 (by omega) (by omega), j2]
    have h1 : mxI (mxI most 0) (lastR - frm) = mxI (mxI most (lastR - frm)) 0 := by unfold mxI; (repeat' split) <;> omega
    have h2 : 0 ≤ mxI most (lastR - frm) := by unfold mxI; split <;> omega
    rw [h1, decide_eq_true h2]
   ·obtain rfl := j8 rfl hn
    subst j2; subst j3
    exact ⟨_, Ev.step (fun k => monitor_longest.c0_eq _ _ _ _ _ _ _ _ _ _ _ _ _ _ _ _ _ _ _ _ _ _ _ _ _ _ _) (Ev.no (by simp) (Ev.no (by simp) (Ev.now _))), Ev.step (fun k => perigeeref8_longestOf.c0_eq _ _ _ _ _ _ _ _ _ _ _ _ _ _ _ _ _ _ _ _ _ _ _ _ _ _ _) (Ev.no (by simp) (Ev.yes rfl (Ev.no (by simpa using hn) (Ev.now _))))⟩
 | succ d ih =>
  intro i most frm last best frmR lastR ok any hi j hla hp hq
  obtain ⟨y, hy⟩ : ∃ y, s[i]? = some y := ⟨s[i], List.getElem?_eq_getElem (by omega)⟩
  have hym : y ∈ s := List.mem_of_getElem? hy
  have sok := hS.2.1 y hym
  have hat := sok.at_
  have hgi : s.getD i (Ty.dflt YSample) = y := by rw [List.getD_eq_getElem?_getD, hy]; rfl
  have hw : IntKind.wrap .i64 ((i : Int) + 1) = ((i + 1 : Nat) : Int) := by rw [w64 (by omega) (by omega)]; omega
  have hdr := drop_cons hy
  have hp2 : ∀ z ∈ s.take (i + 1), z.1 ≤ 1000000000000 := fun z hz => (hS.2.1 z (List.mem_of_mem_take hz)).at_.2
  have hly : last ≤ y.1 := hq y (by rw [hdr]; simp)
  have hq2 : ∀ z ∈ s.drop (i + 1), y.1 ≤ z.1 := fun z hz => by
   have hp := hS.2.2
   rw [← List.take_append_drop i s, hdr, List.pairwise_append] at hp
   have := (List.pairwise_cons.1 hp.2.1).1 z hz
   unfold bef at this
   rcases this with h | ⟨h, _⟩ <;> omega
  have tk2 : s.take (i + 1) = s.take i ++ [y] := take_snoc hy
  by_cases he : y.2.1 = x.1
  case neg =>
   have hv : vals x.1 (s.take (i + 1)) = vals x.1 (s.take i) := by rw [tk2]; exact vals_other he
   obtain ⟨r, r1, r2⟩ := ih (i + 1) most frm last best frmR lastR ok any (by omega) (by rw [hv]; exact j) hla hp2 (fun z hz => Int.le_trans hly (hq2 z hz))
   rw [hv] at r1 r2
   refine ⟨r, Ev.step (fun k => monitor_longest.c0_eq _ _ _ _ _ _ _ _ _ _ _ _ _ _ _ _ _ _ _ _ _ _ _ _ _ _ _) (Ev.yes (by simp; omega) (Ev.yes (by omega) ?_)), Ev.step (fun k => perigeeref8_longestOf.c0_eq _ _ _ _ _ _ _ _ _ _ _ _ _ _ _ _ _ _ _ _ _ _ _ _ _ _ _) (Ev.yes (by simp; omega) (Ev.yes (by omega) ?_))⟩
   ·rw [Int.toNat_natCast, hgi, hw]
    exact Ev.yes (by simpa using he) r1
   ·rw [Int.toNat_natCast, hgi, hw]
    exact Ev.yes (by simpa using he) r2
  have hv : vals x.1 (s.take (i + 1)) = vals x.1 (s.take i) ++ [y.2.2] := by rw [tk2, vals_snoc, if_pos he]
  have vl := vals_len x.1 (s.take i)
  rw [List.length_take] at vl
  have ms := mstep_ev x hx (vals x.1 (s.take i)) y.2.2 sok.v (by omega)
  have tk := take_ev x hx (vals x.1 (s.take i)) y.2.2 (fun u hu => by
   rw [← hv] at hu
   exact vals_rng (s := s.take (i + 1)) (fun z hz => hS.2.1 z (List.mem_of_mem_take hz)) x.1 u hu) (by omega)
  rw [← hv] at ms tk
  -- the reference goes on
  have rgo : ∀ {best' frm' : Int} {ok' : Bool} {r : Int × Bool × Unit}, (any = false → best' = best ∧ ok' = ok ∧ frm' = y.1) → (any = true → nowOf x (vals x.1 (s.take (i + 1))) = nowOf x (vals x.1 (s.take i)) → best' = best ∧ ok' = ok ∧ frm' = frmR) →
   (any = true → nowOf x (vals x.1 (s.take (i + 1))) ≠ nowOf x (vals x.1 (s.take i)) → frm' = y.1 ∧ (nowOf x (vals x.1 (s.take i)) = t → best' = mxI best (IntKind.wrap .i64 (y.1 - frmR)) ∧ ok' = true) ∧ (nowOf x (vals x.1 (s.take i)) ≠ t → best' = best ∧ ok' = ok)) →
   Ev (fun k => perigeeref8_longestOf.c0 k s t x.1 x.2.1 x.2.2.1 x.2.2.2.1 x.2.2.2.2.1 x.2.2.2.2.2.1 x.2.2.2.2.2.2.1 x.2.2.2.2.2.2.2 x.1 x.2.1 x.2.2.1 x.2.2.2.1 x.2.2.2.2.1 x.2.2.2.2.2.1 x.2.2.2.2.2.2.1 x.2.2.2.2.2.2.2 (vals x.1 (s.take (i + 1))) (nowOf x (vals x.1 (s.take (i + 1)))) best' ok' frm' y.1 true ((i + 1 : Nat) : Int)) r → Ev (fun k => perigeeref8_longestOf.c0 k s t x.1 x.2.1 x.2.2.1 x.2.2.2.1 x.2.2.2.2.1 x.2.2.2.2.2.1 x.2.2.2.2.2.2.1 x.2.2.2.2.2.2.2 x.1 x.2.1 x.2.2.1 x.2.2.2.1 x.2.2.2.2.1 x.2.2.2.2.2.1 x.2.2.2.2.2.2.1 x.2.2.2.2.2.2.2 (vals x.1 (s.take i)) (nowOf x (vals x.1 (s.take i))) best ok frmR lastR any i) r := fun {best' frm' ok' r} a1 a2 a3 e => by
   refine Ev.step (fun k => perigeeref8_longestOf.c0_eq _ _ _ _ _ _ _ _ _ _ _ _ _ _ _ _ _ _ _ _ _ _ _ _ _ _ _) (Ev.yes (by simp; omega) (Ev.yes (by omega) ?_))
   rw [Int.toNat_natCast, hgi]
   refine Ev.no (by simpa using he) ?_
   cases any with
   | false =>
    obtain ⟨rfl, rfl, rfl⟩ := a1 rfl
    refine Ev.yes rfl (Ev.yes (by omega) (Ev.step (fun k => perigeeref8_longestOf.c1_eq _ _ _ _ _ _ _ _ _ _ _ _ _ _ _ _ _ _ _ _ _ _ _ _ _ _ _) (Ev.yes (by omega) (Ev.yes (by omega) ?_))))
    rw [Int.toNat_natCast, hgi, hw]
    refine Ev.bind tk (Ev.split (fun _ => Ev.split (fun _ => Ev.no (by simp) e) (fun _ => e)) (fun _ => e))
   | true =>
    refine Ev.no (by simp) (Ev.step (fun k => perigeeref8_longestOf.c1_eq _ _ _ _ _ _ _ _ _ _ _ _ _ _ _ _ _ _ _ _ _ _ _ _ _ _ _) (Ev.yes (by omega) (Ev.yes (by omega) ?_)))
    rw [Int.toNat_natCast, hgi, hw]
    refine Ev.bind tk ?_
    by_cases hc : nowOf x (vals x.1 (s.take (i + 1))) = nowOf x (vals x.1 (s.take i))
    ·obtain ⟨rfl, rfl, rfl⟩ := a2 rfl hc
     exact Ev.no (by simp [hc]) e
    ·obtain ⟨rfl, b1, b2⟩ := a3 rfl hc
     refine Ev.yes (by simp [hc]) ?_
     by_cases hn : nowOf x (vals x.1 (s.take i)) = t
     ·obtain ⟨rfl, rfl⟩ := b1 hn
      exact Ev.yes (by simpa using hn) (Ev.yes rfl e)
     ·obtain ⟨rfl, rfl⟩ := b2 hn
      exact Ev.no (by simpa using hn) e
  -- the program goes on
  have pgo : ∀ {most' frm' : Int} {r : Int × Bool × Unit}, (0 ≤ frm → nowOf x (vals x.1 (s.take (i + 1))) ≠ t → most' = mxI most (IntKind.wrap .i64 (y.1 - frm)) ∧ frm' = -1) → (0 ≤ frm → nowOf x (vals x.1 (s.take (i + 1))) = t → most' = most ∧ frm' = frm) →
   (frm < 0 → nowOf x (vals x.1 (s.take (i + 1))) ≠ t → most' = most ∧ frm' = frm) → (frm < 0 → nowOf x (vals x.1 (s.take (i + 1))) = t → (last < 0 ∨ nowOf x (vals x.1 (s.take i)) ≠ t) ∧ most' = most ∧ frm' = y.1) →
   Ev (fun k => monitor_longest.c0 k t x.1 x.2.1 x.2.2.1 x.2.2.2.1 x.2.2.2.2.1 x.2.2.2.2.2.1 x.2.2.2.2.2.2.1 x.2.2.2.2.2.2.2 x.1 x.2.1 x.2.2.1 x.2.2.2.1 x.2.2.2.2.1 x.2.2.2.2.2.1 x.2.2.2.2.2.2.1 x.2.2.2.2.2.2.2 (nowOf x (vals x.1 (s.take (i + 1)))) ((vals x.1 (s.take (i + 1))).map (st x)) ((vals x.1 (s.take (i + 1))).map (far x)) most' frm' y.1 s (s.length : Int) ((i + 1 : Nat) : Int)) r → Ev (fun k => monitor_longest.c0 k t x.1 x.2.1 x.2.2.1 x.2.2.2.1 x.2.2.2.2.1 x.2.2.2.2.2.1 x.2.2.2.2.2.2.1 x.2.2.2.2.2.2.2 x.1 x.2.1 x.2.2.1 x.2.2.2.1 x.2.2.2.2.1 x.2.2.2.2.2.1 x.2.2.2.2.2.2.1 x.2.2.2.2.2.2.2 (nowOf x (vals x.1 (s.take i))) ((vals x.1 (s.take i)).map (st x)) ((vals x.1 (s.take i)).map (far x)) most frm last s (s.length : Int) i) r := fun {most' frm' r} a1 a2 a3 a4 e => by
   have e1 : Ev (fun k => monitor_longest.c1 k t x.1 x.2.1 x.2.2.1 x.2.2.2.1 x.2.2.2.2.1 x.2.2.2.2.2.1 x.2.2.2.2.2.2.1 x.2.2.2.2.2.2.2 x.1 x.2.1 x.2.2.1 x.2.2.2.1 x.2.2.2.2.1 x.2.2.2.2.2.1 x.2.2.2.2.2.2.1 x.2.2.2.2.2.2.2 (nowOf x (vals x.1 (s.take (i + 1)))) ((vals x.1 (s.take (i + 1))).map (st x)) ((vals x.1 (s.take (i + 1))).map (far x)) most' frm' y.1 y.2.1 y.2.2 s (s.length : Int) i) r := by
    refine Ev.step (fun k => monitor_longest.c1_eq _ _ _ _ _ _ _ _ _ _ _ _ _ _ _ _ _ _ _ _ _ _ _ _ _ _ _ _ _) ?_
    rw [hw]; exact e
   refine Ev.step (fun k => monitor_longest.c0_eq _ _ _ _ _ _ _ _ _ _ _ _ _ _ _ _ _ _ _ _ _ _ _ _ _ _ _) (Ev.yes (by simp; omega) (Ev.yes (by omega) ?_))
   rw [Int.toNat_natCast, hgi]
   refine Ev.no (by simpa using he) (Ev.bind ms ?_)
   simp only [decide_eq_true_eq, Bool.not_eq_true', decide_eq_false_iff_not]
   refine Ev.split (fun h0 => Ev.split (fun h1 => ?_) (fun h1 => Ev.no (by omega) ?_)) (fun h0 => Ev.yes (by omega) (Ev.split (fun h1 => ?_) (fun h1 => ?_)))
   ·obtain ⟨rfl, rfl⟩ := a1 h0 h1; exact e1
   ·obtain ⟨rfl, rfl⟩ := a2 h0 (Classical.byContradiction h1); exact e1
   ·obtain ⟨h2, rfl, rfl⟩ := a4 (by omega) h1
    exact Ev.split (fun _ => e1) (fun h3 => Ev.split (fun _ => e1) (fun h4 => absurd h2 (fun h => h.elim h3 (fun h => h4 h))))
   ·obtain ⟨rfl, rfl⟩ := a3 (by omega) h1; exact e1
  -- what is new
  obtain ⟨j1, j2, j3, j4, j5, j6, j7, j8⟩ := j
  have fin : ∀ (most' frm' best' frmR' : Int) (ok' : Bool), J (nowOf x (vals x.1 (s.take (i + 1)))) t most' frm' y.1 best' frmR' ok' true → ∃ r, Ev (fun k => monitor_longest.c0 k t x.1 x.2.1 x.2.2.1 x.2.2.2.1 x.2.2.2.2.1 x.2.2.2.2.2.1 x.2.2.2.2.2.2.1 x.2.2.2.2.2.2.2 x.1 x.2.1 x.2.2.1 x.2.2.2.1 x.2.2.2.2.1 x.2.2.2.2.2.1 x.2.2.2.2.2.2.1 x.2.2.2.2.2.2.2 (nowOf x (vals x.1 (s.take (i + 1)))) ((vals x.1 (s.take (i + 1))).map (st x)) ((vals x.1 (s.take (i + 1))).map (far x)) most' frm' y.1 s (s.length : Int) ((i + 1 : Nat) : Int)) r ∧ Ev (fun k => perigeeref8_longestOf.c0 k s t x.1 x.2.1 x.2.2.1 x.2.2.2.1 x.2.2.2.2.1 x.2.2.2.2.2.1 x.2.2.2.2.2.2.1 x.2.2.2.2.2.2.2 x.1 x.2.1 x.2.2.1 x.2.2.2.1 x.2.2.2.2.1 x.2.2.2.2.2.1 x.2.2.2.2.2.2.1 x.2.2.2.2.2.2.2 (vals x.1 (s.take (i + 1))) (nowOf x (vals x.1 (s.take (i + 1)))) best' ok' frmR' y.1 true ((i + 1 : Nat) : Int)) r := fun most' frm' best' frmR' ok' j' =>
   ih (i + 1) most' frm' y.1 best' frmR' y.1 ok' true (by omega) j' (fun _ => rfl) hp2 hq2
  cases any with
  | false =>
   obtain ⟨rfl, rfl, rfl⟩ := j1 rfl
   by_cases hn' : nowOf x (vals x.1 (s.take (i + 1))) = t
   ·obtain ⟨r, r1, r2⟩ := fin (-1) y.1 best y.1 ok ⟨fun h => (by cases h), j2, j3, by omega, fun _ => by omega, by omega, fun _ _ => rfl, fun _ h => absurd hn' h⟩
    exact ⟨r, pgo (fun h => absurd h (by omega)) (fun h => absurd h (by omega)) (fun _ h => absurd hn' h) (fun _ _ => ⟨.inl (by omega), rfl, rfl⟩) r1, rgo (fun _ => ⟨rfl, rfl, rfl⟩) (fun h => by cases h) (fun h => by cases h) r2⟩
   ·obtain ⟨r, r1, r2⟩ := fin (-1) (-1) best y.1 ok ⟨fun h => (by cases h), j2, j3, by omega, fun _ => by omega, by omega, fun _ h => absurd h hn', fun _ _ => rfl⟩
    exact ⟨r, pgo (fun h => absurd h (by omega)) (fun h => absurd h (by omega)) (fun _ _ => ⟨rfl, rfl⟩) (fun _ h => absurd h hn') r1, rgo (fun _ => ⟨rfl, rfl, rfl⟩) (fun h => by cases h) (fun h => by cases h) r2⟩
  | true =>
   obtain ⟨f1, f2⟩ := j5 rfl
   by_cases hn : nowOf x (vals x.1 (s.take i)) = t
   ·obtain rfl := j7 rfl hn
    have hwr : IntKind.wrap .i64 (y.1 - frm) = y.1 - frm := w64 (by omega) (by omega)
    by_cases hn' : nowOf x (vals x.1 (s.take (i + 1))) = t
    ·obtain ⟨r, r1, r2⟩ := fin most frm best frm ok ⟨fun h => (by cases h), j2, j3, j4, fun _ => by omega, by omega, fun _ _ => rfl, fun _ h => absurd hn' h⟩
     exact ⟨r, pgo (fun _ h => absurd hn' h) (fun _ _ => ⟨rfl, rfl⟩) (fun h => absurd h (by omega)) (fun h => absurd h (by omega)) r1, rgo (fun h => by cases h) (fun _ _ => ⟨rfl, rfl, rfl⟩) (fun _ h => absurd (hn'.trans hn.symm) h) r2⟩
    ·have hb : mxI best (IntKind.wrap .i64 (y.1 - frm)) = mxI (mxI most (IntKind.wrap .i64 (y.1 - frm))) 0 := by
      rw [hwr, j2]; unfold mxI; (repeat' split) <;> omega
     have h2 : 0 ≤ mxI most (IntKind.wrap .i64 (y.1 - frm)) := by rw [hwr]; unfold mxI; split <;> omega
     have h3 : mxI most (IntKind.wrap .i64 (y.1 - frm)) ≤ 1000000000000 := by rw [hwr]; unfold mxI; split <;> omega
     obtain ⟨r, r1, r2⟩ := fin (mxI most (IntKind.wrap .i64 (y.1 - frm))) (-1) (mxI best (IntKind.wrap .i64 (y.1 - frm))) y.1 true ⟨fun h => (by cases h), hb, (decide_eq_true h2).symm, by omega, fun _ => by omega, by omega, fun _ h => absurd h hn', fun _ _ => rfl⟩
     exact ⟨r, pgo (fun _ _ => ⟨rfl, rfl⟩) (fun _ h => absurd h hn') (fun h => absurd h (by omega)) (fun h => absurd h (by omega)) r1, rgo (fun h => by cases h) (fun _ h => absurd (h.trans hn) hn') (fun _ _ => ⟨rfl, fun _ => ⟨rfl, rfl⟩, fun h => absurd hn h⟩) r2⟩
   ·obtain rfl := j8 rfl hn
    by_cases hn' : nowOf x (vals x.1 (s.take (i + 1))) = t
    ·obtain ⟨r, r1, r2⟩ := fin most y.1 best y.1 ok ⟨fun h => (by cases h), j2, j3, j4, fun _ => by omega, by omega, fun _ _ => rfl, fun _ h => absurd hn' h⟩
     exact ⟨r, pgo (fun h => absurd h (by omega)) (fun h => absurd h (by omega)) (fun _ h => absurd hn' h) (fun _ _ => ⟨.inr hn, rfl, rfl⟩) r1, rgo (fun h => by cases h) (fun _ h => absurd (h.symm.trans hn') hn) (fun _ _ => ⟨rfl, fun h => absurd h hn, fun _ => ⟨rfl, rfl⟩⟩) r2⟩
    ·by_cases hc : nowOf x (vals x.1 (s.take (i + 1))) = nowOf x (vals x.1 (s.take i))
     ·obtain ⟨r, r1, r2⟩ := fin most (-1) best frmR ok ⟨fun h => (by cases h), j2, j3, j4, fun _ => by omega, by omega, fun _ h => absurd h hn', fun _ _ => rfl⟩
      exact ⟨r, pgo (fun h => absurd h (by omega)) (fun h => absurd h (by omega)) (fun _ _ => ⟨rfl, rfl⟩) (fun _ h => absurd h hn') r1, rgo (fun h => by cases h) (fun _ _ => ⟨rfl, rfl, rfl⟩) (fun _ h => absurd hc h) r2⟩
     ·obtain ⟨r, r1, r2⟩ := fin most (-1) best y.1 ok ⟨fun h => (by cases h), j2, j3, j4, fun _ => by omega, by omega, fun _ h => absurd h hn', fun _ _ => rfl⟩
      exact ⟨r, pgo (fun h => absurd h (by omega)) (fun h => absurd h (by omega)) (fun _ _ => ⟨rfl, rfl⟩) (fun _ h => absurd h hn') r1, rgo (fun h => by cases h) (fun _ h => absurd h hc) (fun _ _ => ⟨rfl, fun h => absurd h hn, fun _ => ⟨rfl, rfl⟩⟩) r2⟩
theorem longest_twin (hx : LimOk x) (hS : SamsOk s) : ∃ r : Int × Bool × Unit, Ev (fun k => monitor_longest.f k x s t) r ∧ Ev (fun k => perigeeref8_longestOf.f k x s t) r := by
 obtain ⟨r, r1, r2⟩ := longest_loop (t := t) hx hS s.length 0 (-1) (-1) (-1) 0 0 0 false false (by omega) ⟨fun _ => ⟨rfl, rfl, rfl⟩, by unfold mxI; simp, rfl, by omega, fun h => (by cases h), by omega, fun h => by (cases h), fun h => (by cases h)⟩ (fun h => by cases h) (by simp) (fun z hz => by have := (hS.2.1 z (by simpa using hz)).at_; omega)
 exact ⟨r, Ev.eq (fun k => monitor_longest.f_eq _ _ _ _) r1, Ev.eq (fun k => perigeeref8_longestOf.f_eq _ _ _ _) r2⟩
end
end Go.Proofs.Ytodnfnnfjnnhmaa.Pure

-- YtodnfnnfjnnhmaaQ11
set_option linter.unusedVariables false
set_option linter.unusedSimpArgs false
namespace Go.Proofs.Ytodnfnnfjnnhmaa.Pure
open Go Go.Proofs.Ytodnfnnfjnnhmaa.A

theorem clone_ev (k : Nat) (x : List UInt8) (h : x.length ≤ 281474976710656) : strings_Clone.f k x = some (x, ()) := by
 rw [strings_Clone.f_eq]
 unfold stringslite_Clone.f
 rw [if_pos h]; rfl
theorem longest_all {l : List DLimit} {s : List DSample} {t : Int} (hn : ∀ x ∈ l, x.1.length ≤ 140737488351232) (hL : LimsOk l) (hS : SamsOk s) : ∀ (d i : Nat) (name : List UInt8) (most : Int) (ok : Bool), i + d = l.length →
 ∃ r, Ev (fun k => monitor_Longest.c0 k s t name most ok l (l.length : Int) i) r ∧ Ev (fun k => perigeeref8_Longest.c0 k l s t name most ok i) r := by
 have hll := hL.1
 intro d
 induction d with
 | zero =>
  intro i name most ok hi
  exact ⟨_, Ev.step (fun k => monitor_Longest.c0_eq _ _ _ _ _ _ _ _ _) (Ev.no (by simp; omega) (Ev.now _)), Ev.step (fun k => perigeeref8_Longest.c0_eq _ _ _ _ _ _ _ _) (Ev.no (by simp; omega) (Ev.now _))⟩
 | succ d ih =>
  intro i name most ok hi
  obtain ⟨x, hx⟩ : ∃ x, l[i]? = some x := ⟨l[i], List.getElem?_eq_getElem (by omega)⟩
  have hxm : x ∈ l := List.mem_of_getElem? hx
  have hgi : l.getD i (Ty.dflt YLimit) = x := by rw [List.getD_eq_getElem?_getD, hx]; rfl
  have hw : IntKind.wrap .i64 ((i : Int) + 1) = ((i + 1 : Nat) : Int) := by rw [w64 (by omega) (by omega)]; omega
  obtain ⟨⟨n, b, u⟩, r1, r2⟩ := longest_twin (t := t) (lims_all hL x hxm) hS
  have cl : ∀ k, strings_Clone.f k x.1 = some (x.1, ()) := fun k => clone_ev k x.1 (by have := hn x hxm; omega)
  have go : ∀ {name' : List UInt8} {most' : Int} {ok' : Bool}, (b = false → name' = name ∧ most' = most ∧ ok' = ok) → (b = true → (ok = false ∨ most < n) → name' = x.1 ∧ most' = n ∧ ok' = true) → (b = true → ok = true → ¬ most < n → name' = name ∧ most' = most ∧ ok' = ok) →
   ∃ r, Ev (fun k => monitor_Longest.c0 k s t name most ok l (l.length : Int) i) r ∧ Ev (fun k => perigeeref8_Longest.c0 k l s t name most ok i) r := fun {name' most' ok'} a1 a2 a3 => by
   obtain ⟨r, e1, e2⟩ := ih (i + 1) name' most' ok' (by omega)
   refine ⟨r, Ev.step (fun k => monitor_Longest.c0_eq _ _ _ _ _ _ _ _ _) (Ev.yes (by simp; omega) (Ev.yes (by omega) ?_)), Ev.step (fun k => perigeeref8_Longest.c0_eq _ _ _ _ _ _ _ _) (Ev.yes (by simp; omega) (Ev.yes (by omega) ?_))⟩
   ·rw [Int.toNat_natCast, hgi, hw]
    refine Ev.bind r1 ?_
    simp only [cl, Option.bind_some]
    cases b with
    | false => obtain ⟨rfl, rfl, rfl⟩ := a1 rfl; exact Ev.no (by simp) e1
    | true =>
     refine Ev.yes rfl ?_
     cases ok with
     | false => obtain ⟨rfl, rfl, rfl⟩ := a2 rfl (.inl rfl); exact Ev.yes rfl e1
     | true =>
      refine Ev.no (by simp) ?_
      by_cases h : most < n
      ·obtain ⟨rfl, rfl, rfl⟩ := a2 rfl (.inr h); exact Ev.yes (by simpa using h) e1
      ·obtain ⟨rfl, rfl, rfl⟩ := a3 rfl rfl h; exact Ev.no (by simpa using h) e1
   ·rw [Int.toNat_natCast, hgi, hw]
    refine Ev.bind r2 ?_
    cases b with
    | false => obtain ⟨rfl, rfl, rfl⟩ := a1 rfl; exact Ev.no (by simp) e2
    | true =>
     refine Ev.yes rfl ?_
     cases ok with
     | false => obtain ⟨rfl, rfl, rfl⟩ := a2 rfl (.inl rfl); exact Ev.yes rfl (Ev.yes (by omega) e2)
     | true =>
      refine Ev.no (by simp) ?_
      by_cases h : most < n
      ·obtain ⟨rfl, rfl, rfl⟩ := a2 rfl (.inr h); exact Ev.yes (by simpa using h) (Ev.yes (by omega) e2)
      ·obtain ⟨rfl, rfl, rfl⟩ := a3 rfl rfl h; exact Ev.no (by simpa using h) e2
  cases b with
  | false => exact go (name' := name) (most' := most) (ok' := ok) (fun _ => ⟨rfl, rfl, rfl⟩) (fun h => by cases h) (fun h => by cases h)
  | true =>
   by_cases h : ok = false ∨ most < n
   ·exact go (name' := x.1) (most' := n) (ok' := true) (fun h => by cases h) (fun _ _ => ⟨rfl, rfl, rfl⟩) (fun _ h1 h2 => absurd h (fun h => h.elim (fun h => by rw [h1] at h; cases h) h2))
   ·exact go (name' := name) (most' := most) (ok' := ok) (fun h => by cases h) (fun _ h1 => absurd h1 h) (fun _ _ _ => ⟨rfl, rfl, rfl⟩)
theorem Longest_twin {l : List DLimit} {s : List DSample} {t : Int} (hn : ∀ x ∈ l, x.1.length ≤ 140737488351232) (hs : ∀ x ∈ s, x.2.1.length ≤ 140737488351232) : ∃ r, Ev (fun k => monitor_Longest.f k l s t) r ∧ Ev (fun k => perigeeref8_Longest.f k l s t) r := by
 by_cases h : bothc l s = 0
 case neg =>
  refine ⟨([], 0, false, bothc l s, ()), Ev.eq (fun k => monitor_Longest.f_eq _ _ _ _) (Ev.bind (mlimits_ev l hn) (Ev.bind (msamples_ev s hs) (Ev.bind (first_ev [lfc l, sfc s] (by simp)) ?_))), Ev.eq (fun k => perigeeref8_Longest.f_eq _ _ _ _) (Ev.bind (checkBoth_ev l s hn hs) (Ev.yes (by simpa using h) (Ev.now _)))⟩
  rw [firstN_both]
  exact Ev.yes (by simpa using h) (Ev.now _)
 obtain ⟨hL, hS⟩ := (bothc_zero hn hs).1 h
 have pre : ∀ {r}, Ev (fun k => if (!decide (0 ≤ t ∧ t ≤ 2)) = true then some ([], (0, (false, (4, ())))) else monitor_Longest.c0 k s t [] 0 false l (l.length : Int) 0) r → Ev (fun k => monitor_Longest.f k l s t) r := fun {r} e => by
  refine Ev.eq (fun k => monitor_Longest.f_eq _ _ _ _) (Ev.bind (mlimits_ev l hn) (Ev.bind (msamples_ev s hs) (Ev.bind (first_ev [lfc l, sfc s] (by simp)) ?_)))
  rw [firstN_both]
  simp only [in_ev, Option.bind_some]
  exact Ev.no (by simp [h]) e
 have pre2 : ∀ {r}, Ev (fun k => if (!decide (0 ≤ t ∧ t ≤ 2)) = true then some ([], (0, (false, (4, ())))) else perigeeref8_Longest.c0 k l s t [] 0 false 0) r → Ev (fun k => perigeeref8_Longest.f k l s t) r := fun {r} e => by
  refine Ev.eq (fun k => perigeeref8_Longest.f_eq _ _ _ _) (Ev.bind (checkBoth_ev l s hn hs) ?_)
  simp only [within_ev, Option.bind_some]
  exact Ev.no (by simp [h]) e
 by_cases ht : 0 ≤ t ∧ t ≤ 2
 ·obtain ⟨r, r1, r2⟩ := longest_all (t := t) hn hL hS l.length 0 [] 0 false (by omega)
  exact ⟨r, pre (Ev.no (by simp [ht]) r1), pre2 (Ev.no (by simp [ht]) r2)⟩
 ·exact ⟨_, pre (Ev.yes (by rw [decide_eq_false ht]; rfl) (Ev.now _)), pre2 (Ev.yes (by rw [decide_eq_false ht]; rfl) (Ev.now _))⟩
end Go.Proofs.Ytodnfnnfjnnhmaa.Pure

-- YtodnfnnfjnnhmaaPureLimitsFollowMatchSpec
set_option linter.unusedVariables false
set_option linter.unusedSimpArgs false
namespace Go.Proofs.Ytodnfnnfjnnhmaa.Pure
open Go Go.Proofs.Ytodnfnnfjnnhmaa.A
theorem equal_events (a : List DEvent) (ha : a.length ≤ 4611686018427387904) : Ev (fun k => slices_Equal_apiEvent.f k a a) (true, ()) := by
 obtain ⟨r, h1, h2⟩ := eq_loop (Ty.dflt YEvent) (e := eqV YEvent) (fun x y => eqV_iff (τ := YEvent) rfl) a a ha rfl (g := fun k i => slices_Equal_apiEvent.c0 k a a (a.length : Int) i) (fun k i => slices_Equal_apiEvent.c0_eq _ _ _ _ _)
 have hr : r = true := h2.2 rfl
 subst hr
 exact Ev.eq (fun k => by rw [slices_Equal_apiEvent.f_eq]) (Ev.no (by simp) h1)
theorem equal_ints (a : List Int) (ha : a.length ≤ 4611686018427387904) : Ev (fun k => slices_Equal_int.f k a a) (true, ()) := by
 obtain ⟨r, h1, h2⟩ := eq_loop (0 : Int) (e := fun x y => decide (x = y)) (fun x y => by simp) a a ha rfl (g := fun k i => slices_Equal_int.c0 k a a (a.length : Int) i) (fun k i => slices_Equal_int.c0_eq _ _ _ _ _)
 have hr : r = true := h2.2 rfl
 subst hr
 exact Ev.eq (fun k => by rw [slices_Equal_int.f_eq]) (Ev.no (by simp) h1)
theorem LimitsFollowMatchSpec (l : List DLimit) (s : List DSample) (at_ state : Int) (h0 : okT (.sl YLimit) l) (h1 : okT (.sl YSample) s) (h2 : okT (.int .i64) at_) (h3 : okT (.int .i64) state) : ∃ n, perigeelaw8_LimitsFollowMatchSpec.f n l s at_ state = some (true, ()) := by
 refine Ev.rounds (g := fun k => perigeelaw8_LimitsFollowMatchSpec.f k l s at_ state) ?_
 have hn : ∀ z ∈ l, z.1.length ≤ 140737488351232 := fun z hz => (h0.2.2 z hz).1
 have hs : ∀ z ∈ s, z.2.1.length ≤ 140737488351232 := fun z hz => (h1.2.2 z hz).2.1
 have a1 := mfollow_ev l s hn hs
 have a2 := rfollow_ev hn hs
 have b1 := mstates_ev l s at_ hn hs
 have b2 := rstates_ev at_ hn hs
 obtain ⟨⟨n, m, c, f, u⟩, c1, c2⟩ := Longest_twin (t := state) hn hs
 generalize ha : (if bothc l s = 0 then (evs l s, (0 : Int), ()) else ([], bothc l s, ())) = A at a1 a2
 have hal : A.1.length ≤ 4611686018427387904 := by
  rw [← ha]
  split
  ·have := evP_len l s []
   have := h1.1
   show (evs l s).length ≤ _
   unfold evs
   omega
  ·simp
 generalize hb : (if bothc l s = 0 then (if 0 ≤ at_ ∧ at_ ≤ 1000000000000 then (l.map fun x => nowOf x (vals x.1 (upTo at_ s)), (0 : Int), ()) else ([], 1, ())) else ([], bothc l s, ())) = B at b1 b2
 have hbl : B.1.length ≤ 4611686018427387904 := by
  rw [← hb]
  split
  ·split
   ·have := h0.1
    show (l.map _).length ≤ _
    rw [List.length_map]
    omega
   ·simp
  ·simp
 obtain ⟨A1, A2, ⟨⟩⟩ := A
 obtain ⟨B1, B2, ⟨⟩⟩ := B
 refine Ev.eq (fun k => perigeelaw8_LimitsFollowMatchSpec.f_eq _ _ _ _ _) (Ev.bind a1 (Ev.bind a2 (Ev.bind (equal_events A1 hal) (Ev.no (by simp) (Ev.no (by simp) (Ev.step (fun k => perigeelaw8_LimitsFollowMatchSpec.c0_eq _ _ _ _ _) ?_))))))
 refine Ev.bind b1 (Ev.bind b2 (Ev.bind (equal_ints B1 hbl) (Ev.no (by simp) (Ev.no (by simp) (Ev.bind c1 (Ev.bind c2 ?_))))))
 exact Ev.yes (by simp) (Ev.yes (by simp) (Ev.yes (by simp) (Ev.yes (by simp) (Ev.bind awake_ev (Ev.now _)))))
end Go.Proofs.Ytodnfnnfjnnhmaa.Pure
