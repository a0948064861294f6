/- With the time that Fastest says no more is sent in 1000 milliseconds than the rate, and with one less there is, for all parameters, layouts, regular sendings and rates. -/
import Derived.Below
import Derived.ChangeArms
import Derived.ChangeSlices
import Derived.DataElems
import Derived.DataReads
import Derived.Ground.Names2Prog
import Derived.KernelRfl
import Derived.Laws.Strings
import Derived.Lib.SlicesCompact
import Derived.Shelf.Slices.Cells
import Derived.Shelf.Slices.CompactI
import Derived.Shelf.Slices.In.SortNone
import Derived.Shelf.Small.Strs
import Derived.Shelf.Sort.Plain
import Derived.Shelf.Spec.SlicesGrow
import Derived.SizedLaws
import Derived.Sort.Grow
import Derived.Test.YtcefbdknoelacaaChecked
import Derived.Test.YtcefbdknoelacaaProg
import Derived.WideShapes
import Derived.Test.YtcefbdknoelacaaCTelemetryFastestKeepsTheRate2
-- YtcefbdknoelacaaFn2
set_option linter.unusedVariables false
set_option linter.unusedSimpArgs false
namespace Go.Proofs.Ytcefbdknoelacaa.A
open Go
section
variable {P : Program} {B : Base} {m m' m0 : Md} {H H' : Hp} {w w' : World} {o : Oper} {a : Act} {E : Env} {tab : Nat → Option TI} {T : Nat → Option FunE} {L : List Nat} {Z1 Zf : Nat → Prop}

theorem args_ok (hh : HOk B m H w) (hz : ∀ b, m.Z b → Z1 b) : ∀ {ps : List (Bool × Ty)} {as_ : List AV} {vs : List Value} {xs : (ps.foldr (fun p t => Ty.pair p.2 t) .unit).den}, argsIn (only H L) ps as_ = some xs → All2 (AVRep m w H) as_ vs →
 (∀ id ∈ rdIds ps as_, (H id).Live → ∀ b ∈ m.ft id, Z1 b) → ArgsRep Z1 w ps xs vs ((argOwns ps as_).flatMap m.ft) ∧ ∀ id ∈ argOwns ps as_, (H id).Live
 | [], [], vs, xs, _, hv, _ => by
  have : vs = [] := by cases vs with | nil => rfl | cons _ _ => exact hv.elim
  subst this
  exact ⟨⟨rfl, rfl⟩, by simp [argOwns]⟩
 | [], _ :: _, _, _, h, _, _ => by cases h
 | _ :: _, [], _, _, h, _, _ => by cases h
 | p :: ps, a :: as_, [], _, _, hv, _ => hv.elim
 | p :: ps, a :: as_, v :: vs, xs, h, hv, hr => by
  simp only [argsIn] at h
  split at h
  ·rename_i x xs' hx hxs
   cases h
   obtain ⟨g1, g2⟩ := args_ok hh hz hxs hv.2 fun id hid => hr id (by simp [rdIds, hid])
   have hr1 : ∀ id ∈ argRd p.1 p.2 a, (H id).Live → ∀ b ∈ m.ft id, Z1 b := fun id hid => hr id (by simp [rdIds, hid])
   have key : ArgRep Z1 w p.1 p.2 x v ((ownArg p.1 p.2 a).flatMap m.ft) ∧ ∀ id ∈ ownArg p.1 p.2 a, (H id).Live := by
    obtain ⟨io, τ⟩ := p
    simp only at hx hr1 ⊢
    unfold argIn at hx
    split at hx
    ·rename_i id _
     split at hx
     ·rename_i g ls hc
      have hc := live_of_only hc
      have hL : (H id).Live := by rw [hc]; trivial
      have hcr := hh.cr id
      rw [hc] at hcr
      obtain ⟨b, el, cs, F', k1, k2, k3, k4⟩ := hcr
      obtain ⟨b', k5, k6⟩ := (AVRep.one hv.1).2 _ _ hc
      rw [k1] at k5; cases k5
      refine ⟨⟨b, el, cs, F', k6, by simp [ownArg, k2], k3, Rep.frame (fun _ _ => rfl) hz (fun _ _ => rfl) (asmAllO hx k4)⟩, by simp [ownArg, hL]⟩
     ·cases hx
    ·rename_i g ls
     exact ownIn_ok only_sub hh hz hx hv.1 hr1
    ·cases hx
   refine ⟨⟨v, vs, _, _, rfl, ?_, key.1, g1⟩, fun id hid => ?_⟩
   ·simp [argOwns, List.flatMap_append]
   ·simp only [argOwns, List.mem_append] at hid
    exact hid.elim (key.2 id) (g2 id)
  ·cases h

structure Upd where
 id : Nat
 ob : Obj
 hd : Value
 F : List Nat
def Md.sets (m : Md) (Z : Nat → Prop) (us : List Upd) : Md :=
 { Z := Z, hd := fun k => (match us.find? (fun u => u.id == k) with | some u => u.hd | none => m.hd k), ft := fun k => (match us.find? (fun u => u.id == k) with | some u => u.F | none => m.ft k) }
theorem find_upd : ∀ {us : List Upd}, (us.map (·.id)).Nodup → ∀ {u : Upd}, u ∈ us → us.find? (fun v => v.id == u.id) = some u
 | v :: us, hn, u, hu => by
  simp only [List.map_cons, List.nodup_cons] at hn
  rcases List.mem_cons.1 hu with rfl | hu
  ·simp
  ·have : v.id ≠ u.id := fun e => hn.1 (e ▸ List.mem_map.2 ⟨u, hu, rfl⟩)
   rw [List.find?_cons_of_neg (by simpa using this)]
   exact find_upd hn.2 hu
theorem sets_in {us : List Upd} (hn : (us.map (·.id)).Nodup) {u : Upd} (hu : u ∈ us) : (m.sets Z1 us).hd u.id = u.hd ∧ (m.sets Z1 us).ft u.id = u.F := by
 simp only [Md.sets, find_upd hn hu, and_self]
theorem sets_out {us : List Upd} {k : Nat} (hk : k ∉ us.map (·.id)) : (m.sets Z1 us).hd k = m.hd k ∧ (m.sets Z1 us).ft k = m.ft k := by
 have : us.find? (fun u => u.id == k) = none := by
  rw [List.find?_eq_none]
  intro u hu he
  exact hk (List.mem_map.2 ⟨u, hu, by simpa using he⟩)
 simp only [Md.sets, this, and_self]

theorem flatB_rep {Z Z' : Nat → Prop} {w w' : World} : ∀ {τ : Ty} {x : τ.den} {cs : List Value} {F : List Nat}, τ.flatB = true → Rep Z w τ x cs F → Rep Z' w' τ x cs F := by
 intro τ
 induction τ with
 | pair a b iha ihb =>
  intro x cs F hf ⟨c1, c2, F1, F2, h1, h2, h3, h4⟩
  simp only [Ty.flatB, Bool.and_eq_true] at hf
  exact ⟨c1, c2, F1, F2, h1, h2, iha hf.1 h3, ihb hf.2 h4⟩
 | sl e _ => intro x cs F hf; cases hf
 | vec e _ => intro x cs F hf; cases hf
 | map k e _ _ => intro x cs F hf; cases hf
 | fmap k e _ _ => intro x cs F hf; cases hf
 | unit => intro x cs F _ h; exact h
 | bool => intro x cs F _ h; exact h
 | int k => intro x cs F _ h; exact h
 | str => intro x cs F _ h; exact h
 | fnv f => intro x cs F _ h; exact h
 | nil => intro x cs F _ h; exact h
 | ptr e _ => intro x cs F hf; cases hf
theorem ResL.flat {Z Z' : Nat → Prop} {w w' : World} : ∀ {outs : List Ty} {x : (outs.foldr Ty.pair .unit).den} {us : List Value} {F : List Nat}, outs.all Ty.flatB = true → ResL Z w outs x us F → ResL Z' w' outs x us F
 | [], _, _, _, _, h => h
 | τ :: outs, x, us, F, hf, ⟨v, vs', F1, F2, h1, h2, ⟨cs, h3, h4⟩, h5⟩ => by
  rw [List.all_cons, Bool.and_eq_true] at hf
  exact ⟨v, vs', F1, F2, h1, h2, ⟨cs, h3, flatB_rep hf.1 h4⟩, ResL.flat hf.2 h5⟩
theorem IoRep.flat {Z Z' : Nat → Prop} {w : World} : ∀ {ps : List (Bool × Ty)} {x : (((ps.filter (·.1)).map (·.2)).foldr Ty.pair .unit).den} {vs : List Value} {F : List Nat}, (ps.all fun p => !p.1 || p.2.flatB) = true → IoRep Z w ps x vs F → IoRep Z' w ps x vs F
 | [], _, _, _, _, h => h
 | (false, _) :: ps, x, vs, F, hf, h => by
  rw [List.all_cons, Bool.and_eq_true] at hf
  exact IoRep.flat (ps := ps) hf.2 h
 | (true, τ) :: ps, x, vs, F, hf, ⟨b, el, cs, F1, F2, h1, h2, h3, h4, h5⟩ => by
  rw [List.all_cons, Bool.and_eq_true] at hf
  exact ⟨b, el, cs, F1, F2, h1, h2, h3, flatB_rep (by simpa using hf.1) h4, IoRep.flat (ps := ps) hf.2 h5⟩

theorem res_ok {d : Nat} : ∀ {j : Nat} {outs : List Ty} {x : (outs.foldr Ty.pair .unit).den} {us : List Value} {F : List Nat}, (outs.all fun τ => τ.pure || τ.vecP) = true → ResL Zf w outs x us F →
 ∃ ups : List Upd, ups.map (·.id) = resIds d j outs ∧ ups.map (fun u => (u.id, Cell.live u.ob)) = (resAll d j outs x).2 ∧ ups.flatMap (·.F) = F ∧ (∀ u ∈ ups, ORep Zf w u.ob u.hd u.F) ∧
  ∀ (m' : Md) (H' : Hp), m'.Z = Zf → (∀ u ∈ ups, m'.hd u.id = u.hd ∧ H' u.id = .live u.ob) → All2 (PRep m' w H') (resAll d j outs x).1 us
 | _, [], _, _, _, _, ⟨h1, h2⟩ => by subst h1; subst h2; exact ⟨[], rfl, rfl, rfl, by simp, fun _ _ _ _ => trivial⟩
 | j, τ :: outs, x, us, F, hp, ⟨v, vs', F1, F2, h1, h2, ⟨cs, h3, h4⟩, h5⟩ => by
  rw [List.all_cons, Bool.and_eq_true] at hp
  subst h1; subst h2
  obtain ⟨ups, k1, k2, k3, k4, k5⟩ := res_ok (d := d) (j := j + 1) hp.2 h5
  have plain : τ.pure = true → resLeaves (d + 100000 * j) τ x.1 = ((!τ.one, flat τ x.1), []) → resIds d j (τ :: outs) = resIds d (j + 1) outs → ∃ ups : List Upd, ups.map (·.id) = resIds d j (τ :: outs) ∧ ups.map (fun u => (u.id, Cell.live u.ob)) = (resAll d j (τ :: outs) x).2 ∧ ups.flatMap (·.F) = F1 ++ F2 ∧ (∀ u ∈ ups, ORep Zf w u.ob u.hd u.F) ∧
   ∀ (m' : Md) (H' : Hp), m'.Z = Zf → (∀ u ∈ ups, m'.hd u.id = u.hd ∧ H' u.id = .live u.ob) → All2 (PRep m' w H') (resAll d j (τ :: outs) x).1 (v :: vs') := by
   intro hpu hl hi
   have hF1 := h4.pure hpu
   subst hF1
   refine ⟨ups, by rw [hi]; exact k1, ?_, by simpa using k3, k4, fun m' H' e1 e2 => ?_⟩
   ·simp only [resAll, hl, List.nil_append]; exact k2
   ·simp only [resAll, hl]
    refine ⟨⟨cs, h3, flat_all2 (m := m') (H := H') (by rw [e1]; exact h4)⟩, k5 m' H' e1 e2⟩
  cases τ with
  | vec e =>
   have h3 : cs = [v] := h3
   subst h3
   refine ⟨⟨d + 100000 * j, .row e x.1, v, F1⟩ :: ups, by simp [resIds, k1], ?_, by simp [k3], ?_, fun m' H' e1 e2 => ?_⟩
   ·simp only [resAll, resLeaves, List.map_cons, List.singleton_append, k2]
   ·intro u hu
    rcases List.mem_cons.1 hu with rfl | hu
    ·exact h4
    ·exact k4 u hu
   ·obtain ⟨q1, q2⟩ := e2 _ (List.mem_cons_self ..)
    simp only at q1 q2
    simp only [resAll, resLeaves]
    refine ⟨⟨[v], rfl, ⟨by rw [q2]; simp, fun _ _ _ => q1.symm, fun _ _ _ => q1.symm⟩, trivial⟩, k5 m' H' e1 fun u hu => e2 u (by simp [hu])⟩
  | pair a b => exact plain (by simpa [Ty.vecP] using hp.1) rfl rfl
  | unit => exact plain rfl rfl rfl
  | bool => exact plain rfl rfl rfl
  | int k => exact plain rfl rfl rfl
  | str => exact plain rfl rfl rfl
  | sl e => exact plain (by simpa [Ty.vecP] using hp.1) rfl rfl
  | map k e => simp [Ty.pure, Ty.vecP] at hp
  | fnv f => exact plain rfl rfl rfl
  | nil => exact plain rfl rfl rfl
  | fmap k e => exact plain rfl rfl rfl
  | ptr e => simp [Ty.pure, Ty.vecP] at hp

theorem io_ok (hh : HOk B m H w) : ∀ {ps : List (Bool × Ty)} {as_ : List AV} {vs : List Value} {xs : (ps.foldr (fun p t => Ty.pair p.2 t) .unit).den} {x : (((ps.filter (·.1)).map (·.2)).foldr Ty.pair .unit).den} {F : List Nat},
 argsIn (only H L) ps as_ = some xs → All2 (AVRep m w H) as_ vs → IoRep Zf w' ps x vs F →
 (outsOf (only H L) ps as_ x).map (·.1) = argOwns ps as_ ∧ ∃ us : List Upd, (∀ u ∈ us, (u.id, Cell.live u.ob) ∈ outsOf (only H L) ps as_ x) ∧ (∀ p ∈ outsOf (only H L) ps as_ x, p.2 = .dead ∨ ∃ u ∈ us, p = (u.id, .live u.ob)) ∧
  us.flatMap (·.F) = F ∧ (∀ u ∈ us, ORep Zf w' u.ob u.hd u.F ∧ u.hd = m.hd u.id ∧ ∃ g ls ls', H u.id = .live (.cells g ls) ∧ u.ob = .cells (g + 1) ls') ∧ (us.map (·.id)).Sublist (argOwns ps as_)
 | [], [], vs, xs, x, F, _, _, hF => by
  have hF : F = [] := hF
  subst hF
  exact ⟨rfl, [], by simp, by simp [outsOf], rfl, by simp, by simp [argOwns]⟩
 | [], _ :: _, _, _, _, _, h, _, _ => by cases h
 | _ :: _, [], _, _, _, _, h, _, _ => by cases h
 | p :: ps, a :: as_, [], _, _, _, _, hv, _ => hv.elim
 | (false, τ) :: ps, a :: as_, v :: vs, xs, x, F, h, hv, hi => by
  simp only [argsIn] at h
  split at h
  ·rename_i y xs' hy hxs
   obtain ⟨g1, us, g2, g3, g4, g5, g6⟩ := io_ok hh hxs hv.2 (show IoRep Zf w' ps x vs F from hi)
   refine ⟨?_, us, fun u hu => ?_, fun q hq => ?_, g4, g5, ?_⟩
   ·simp only [outsOf, argOwns, List.map_append, g1]
    congr 1
    rw [List.map_map]
    exact List.map_id _
   ·simp only [outsOf]; exact List.mem_append_right _ (g2 u hu)
   ·simp only [outsOf, List.mem_append] at hq
    rcases hq with hq | hq
    ·obtain ⟨i, _, rfl⟩ := List.mem_map.1 hq
     exact .inl rfl
    ·exact g3 q hq
   ·simp only [argOwns]
    exact g6.trans (List.sublist_append_right _ _)
  ·cases h
 | (true, τ) :: ps, a :: as_, v :: vs, xs, x, F, h, hv, ⟨b, el, cs, F1, F2, h1, h2, h3, h4, h5⟩ => by
  simp only [argsIn] at h
  split at h
  ·rename_i y xs' hy hxs
   obtain ⟨g1, us, g2, g3, g4, g5, g6⟩ := io_ok hh hxs hv.2 (show IoRep Zf w' ps x.2 vs F2 from h5)
   simp only at hy
   unfold argIn at hy
   split at hy
   ·rename_i id _
    split at hy
    ·rename_i g ls hc
     have hce := hc
     have hc := live_of_only hc
     have hcr := hh.cr id
     rw [hc] at hcr
     obtain ⟨b', el', cs', F', k1, k2, k3, k4⟩ := hcr
     obtain ⟨b'', k5, k6⟩ := (AVRep.one hv.1).2 _ _ hc
     rw [k1] at k5; cases k5
     simp only [List.head?_cons, Option.some.injEq] at h1
     rw [k6] at h1; cases h1
     have hver : verOf (only H L id) = g := by rw [hce]; rfl
     refine ⟨?_, ⟨id, .cells (g + 1) (flat τ x.1), m.hd id, b :: F1⟩ :: us, fun u hu => ?_, fun q hq => ?_, ?_, fun u hu => ?_, ?_⟩
     ·simp only [outsOf, argOwns, ownArg, List.map_cons, g1, List.singleton_append]
     ·rcases List.mem_cons.1 hu with rfl | hu
      ·simp only [outsOf, hver]; exact List.mem_cons_self ..
      ·simp only [outsOf]; exact List.mem_cons_of_mem _ (g2 u hu)
     ·simp only [outsOf, hver] at hq
      rcases List.mem_cons.1 hq with rfl | hq
      ·exact .inr ⟨_, List.mem_cons_self .., rfl⟩
      ·exact (g3 q hq).imp_right fun ⟨u, u1, u2⟩ => ⟨u, List.mem_cons_of_mem _ u1, u2⟩
     ·simp [g4, h2]
     ·rcases List.mem_cons.1 hu with rfl | hu
      ·exact ⟨⟨b, el, cs, F1, k1, rfl, h3, flat_ok h4⟩, rfl, g, ls, _, hc, rfl⟩
      ·exact g5 u hu
     ·simp only [argOwns, ownArg, List.map_cons, List.singleton_append]
      exact g6.cons_cons _
    ·cases hy
   ·contradiction
   ·cases hy
  ·cases h
end
end Go.Proofs.Ytcefbdknoelacaa.A

-- YtcefbdknoelacaaFn3
set_option linter.unusedVariables false
set_option linter.unusedSimpArgs false
namespace Go.Proofs.Ytcefbdknoelacaa.A
open Go
section
variable {P : Program} {B : Base} {m m' m0 : Md} {H H' : Hp} {w w' : World} {o : Oper} {a : Act} {E : Env} {tab : Nat → Option TI} {T : Nat → Option FunE} {L : List Nat} {Z1 Zf : Nat → Prop}

theorem keys_one : ∀ {l : List (Nat × Cell)}, (l.map (·.1)).Nodup → ∀ {p q : Nat × Cell}, p ∈ l → q ∈ l → p.1 = q.1 → p = q
 | x :: l, hn, p, q, hp, hq, e => by
  simp only [List.map_cons, List.nodup_cons] at hn
  rcases List.mem_cons.1 hp with e1 | hp' <;> rcases List.mem_cons.1 hq with e2 | hq'
  ·rw [e1, e2]
  ·subst e1; exact absurd (List.mem_map.2 ⟨q, hq', e.symm⟩) hn.1
  ·subst e2; exact absurd (List.mem_map.2 ⟨p, hp', e⟩) hn.1
  ·exact keys_one hn.2 hp' hq' e
theorem putH_get : ∀ {ups : List (Nat × Cell)} {H : Hp} {k : Nat} {c : Cell}, (∀ p ∈ ups, p.1 = k → p.2 = c) → (∃ p ∈ ups, p.1 = k) → putH H ups k = c
 | [], _, _, _, _, ⟨_, h, _⟩ => by cases h
 | p :: ups, H, k, c, h, hx => by
  rw [putH]
  by_cases hk : ∃ q ∈ ups, q.1 = k
  ·exact putH_get (fun q hq => h q (by simp [hq])) hk
  ·rw [putH_notin (fun hm => hk (by obtain ⟨q, q1, q2⟩ := List.mem_map.1 hm; exact ⟨q, q1, q2⟩))]
   obtain ⟨q, q1, q2⟩ := hx
   rcases List.mem_cons.1 q1 with rfl | q1
   ·rw [← q2, upd_same]; exact h q (by simp) q2
   ·exact absurd ⟨q, q1, q2⟩ hk
theorem freeze_mem : ∀ {l : List Nat} {p : Nat × Cell}, p ∈ freezeUps H l → p.1 ∈ l ∧ Fz (H p.1) p.2
 | [], _, h => by simp [freezeUps] at h
 | id :: l, p, h => by
  unfold freezeUps at h
  split at h
  ·rename_i e xs hx
   rcases List.mem_cons.1 h with rfl | h
   ·exact ⟨by simp, .inl ⟨e, xs, hx, rfl⟩⟩
   ·obtain ⟨h1, h2⟩ := freeze_mem h
    exact ⟨by simp [h1], h2⟩
  ·rename_i k e mm hx
   rcases List.mem_cons.1 h with rfl | h
   ·exact ⟨by simp, .inr ⟨k, e, mm, hx, rfl⟩⟩
   ·obtain ⟨h1, h2⟩ := freeze_mem h
    exact ⟨by simp [h1], h2⟩
  ·obtain ⟨h1, h2⟩ := freeze_mem h
   exact ⟨by simp [h1], h2⟩
theorem freeze_of : ∀ {l : List Nat} {r : Nat} {c : Cell}, r ∈ l → Fz (H r) c → (r, c) ∈ freezeUps H l
 | id :: l, r, c, h, hx => by
  unfold freezeUps
  rcases List.mem_cons.1 h with rfl | h
  ·rcases hx with ⟨e, xs, h1, rfl⟩ | ⟨k, e, mm, h1, rfl⟩ <;> rw [h1] <;> exact List.mem_cons_self ..
  ·split
   ·exact List.mem_cons_of_mem _ (freeze_of h hx)
   ·exact List.mem_cons_of_mem _ (freeze_of h hx)
   ·exact freeze_of h hx
theorem rowish_live {c : Cell} (h : rowish c = true) (hl : c.Live) : ∃ c', Fz c c' := by
 cases c with
 | live ob =>
  cases ob with
  | row e xs => exact ⟨_, .inl ⟨e, xs, rfl, rfl⟩⟩
  | mapo k e mm => exact ⟨_, .inr ⟨k, e, mm, rfl, rfl⟩⟩
  | _ => cases h
 | _ => exact hl.elim
theorem flatMap_nodup {us : List Upd} (h : (us.flatMap (·.F)).Nodup) {u : Upd} (hu : u ∈ us) : u.F.Nodup := by
 induction us with
 | nil => cases hu
 | cons x us ih =>
  rw [List.flatMap_cons, List.nodup_append] at h
  rcases List.mem_cons.1 hu with rfl | hu
  ·exact h.1
  ·exact ih h.2.1 hu
theorem flatMap_disj {us : List Upd} (h : (us.flatMap (·.F)).Nodup) {u v : Upd} (hu : u ∈ us) (hv : v ∈ us) (hne : u ≠ v) {b : Nat} (hb : b ∈ u.F) : b ∉ v.F := by
 induction us with
 | nil => cases hu
 | cons x us ih =>
  rw [List.flatMap_cons, List.nodup_append] at h
  intro hbv
  rcases List.mem_cons.1 hu with e1 | hu' <;> rcases List.mem_cons.1 hv with e2 | hv'
  ·exact hne (e1.trans e2.symm)
  ·subst e1; exact h.2.2 b hb b (List.mem_flatMap.2 ⟨v, hv', hbv⟩) rfl
  ·subst e2; exact h.2.2 b hbv b (List.mem_flatMap.2 ⟨u, hu', hb⟩) rfl
  ·exact ih h.2.1 hu' hv' hbv
theorem avOf_ok {ps : List (Bool × List LV)} {us : List Value} (h : All2 (PRep m w H) ps us) : AVRep m w H (avOf ps) (tupOf us) := by
 match ps, us, h with
 | [], [], _ => exact ⟨[], rfl, trivial⟩
 | [(g, ls)], [u], h => exact h.1
 | p :: q :: ps, u :: v :: us, h =>
  have : avOf (p :: q :: ps) = .tup (p :: q :: ps) := by
   obtain ⟨g, ls⟩ := p; rfl
  rw [this]
  exact ⟨u :: v :: us, rfl, h⟩

theorem wCallF_ok {F : FunE} {f : FuncId} (hF : FunOk P f F) (hh : HOk B m H w) {as_ : List AV} {vs : List Value} (hv : All2 (AVRep m w H) as_ vs) (ex : (execOp a.eval o).run P w = .ok (.enter f vs.toArray) w) : WayOk P B m H w o a (wCallF F o.dst as_) := by
 intro Q hQ
 unfold wCallF at hQ
 simp only at hQ
 generalize hlends : (!(F.outs.all Ty.flatB && (F.ins.all fun p => !p.1 || p.2.flatB))) = lends at hQ
 generalize hrows : rdIds F.ins as_ = rows at hQ
 generalize howns : argOwns F.ins as_ = owns at hQ
 generalize hnews : resIds (o.dst.getD 99999) 0 F.outs = news at hQ
 generalize hLL : ((if lends = true then [] else rows) ++ (owns ++ news ++ if lends = true then rows else [])) = LL at hQ
 have hLo : ∀ i ∈ owns, i ∈ LL := fun i hi => by rw [← hLL]; simp [hi]
 have hLn : ∀ i ∈ news, i ∈ LL := fun i hi => by rw [← hLL]; simp [hi]
 have hLr : ∀ i ∈ rows, i ∈ LL := fun i hi => by rw [← hLL]; cases lends <;> simp [hi]
 split at hQ
 ·rename_i hc
  simp only [Bool.and_eq_true] at hc
  obtain ⟨⟨⟨⟨⟨c1, c2⟩, c3⟩, c4⟩, c5⟩, c6⟩ := hc
  have c1 := nodupN_iff.1 c1
  have c2 : ∀ i ∈ owns, i ∉ rows := fun i hi => by
   have := List.all_eq_true.1 c2 i hi
   exact memN_false.1 (by simpa using this)
  have c3 : ∀ i ∈ news, H i = .absent := fun i hi => absent_of (List.all_eq_true.1 c3 i hi) (hLn i hi)
  split at hQ
  ·rename_i xs hxs
   obtain ⟨r, hr, hQ⟩ := hQ
   have hQ : Q _ := hQ
   let Z1 : Nat → Prop := fun b => m.Z b ∨ ∃ id ∈ rows, (H id).Live ∧ b ∈ m.ft id
   obtain ⟨g1, g2⟩ := args_ok (Z1 := Z1) hh (fun b hb => .inl hb) hxs hv (fun id hid hl b hb => .inr ⟨id, by rw [← hrows]; exact hid, hl, hb⟩)
   rw [howns] at g1 g2
   have hnd := List.nodup_append.1 c1
   have hFs : ∀ b ∈ owns.flatMap m.ft, ¬ Z1 b ∧ b < w.heap.size := fun b hb => by
    obtain ⟨i, i1, i2, i3⟩ := ft_blk hb g2
    obtain ⟨n1, n2, _⟩ := hh.nz i i2 b i3
    refine ⟨fun hz => hz.elim n1 fun ⟨j, j1, j2, j3⟩ => ?_, n2⟩
    exact hh.sp i j (fun e => c2 i i1 (e ▸ j1)) i2 j2 b i3 j3
   have hZ1l : ∀ b, Z1 b → b < w.heap.size := fun b hb => hb.elim (hh.zl b) fun ⟨j, j1, j2, j3⟩ => (hh.nz j j2 b j3).2.1
   have call := hF Z1 w xs vs _ r hZ1l g1 (ft_nodup hh hnd.1 g2) hFs hr
   refine ⟨_, _, hQ, ?_⟩
   unfold OpOk
   rw [ex]
   refine call.mono fun e w' ⟨v, Z', us, Fr, Fi, he, p⟩ => ⟨v, he, ?_⟩
   let Zf : Nat → Prop := if lends = true then Z' else m.Z
   have hlz : lends = true → Zf = Z' := fun h => if_pos h
   have hnz : lends = false → Zf = m.Z := fun h => if_neg (by simp [h])
   have hfl : lends = false → F.outs.all Ty.flatB = true ∧ (F.ins.all fun p => !p.1 || p.2.flatB) = true := fun h => by
    rw [h] at hlends; simpa using hlends
   have hres : ResL Zf w' F.outs (splitRes F.outs _ r).1 us Fr := by
    cases hl : lends with
    | true => rw [hlz hl]; exact p.res
    | false => exact ResL.flat (hfl hl).1 p.res
   have hio : IoRep Zf w' F.ins (splitRes F.outs _ r).2 vs Fi := by
    cases hl : lends with
    | true => rw [hlz hl]; exact p.io
    | false => exact IoRep.flat (hfl hl).2 p.io
   have hZZ : ∀ b, Zf b → Z' b := fun b hb => by
    cases hl : lends with
    | true => rw [hlz hl] at hb; exact hb
    | false => rw [hnz hl] at hb; exact p.zs b (.inl hb)
   have hmZ : ∀ b, m.Z b → Zf b := fun b hb => by
    cases hl : lends with
    | true => rw [hlz hl]; exact p.zs b (.inl hb)
    | false => rw [hnz hl]; exact hb
   obtain ⟨ur, r1, r2, r3, r4, r5⟩ := res_ok (d := o.dst.getD 99999) (j := 0) c5 hres
   rw [hnews] at r1
   obtain ⟨o1, ui, o2, o3, o4, o5, o6⟩ := io_ok (Zf := Zf) hh hxs hv hio
   rw [howns] at o1 o6
   have hkp := p.kp
   have hold : ∀ b, b < w.heap.size → b ∉ owns.flatMap m.ft → w'.heap[b]? = w.heap[b]? := hkp.block
   have hui : ∀ u ∈ ui, u.id ∈ owns := fun u hu => o6.subset (List.mem_map.2 ⟨u, hu, rfl⟩)
   have hur : ∀ u ∈ ur, u.id ∈ news := fun u hu => by rw [← r1]; exact List.mem_map.2 ⟨u, hu, rfl⟩
   have hids : ((ui ++ ur).map (·.id)).Nodup := by
    rw [List.map_append, r1, List.nodup_append]
    exact ⟨hnd.1.sublist o6, hnd.2.1, fun x hx y hy => hnd.2.2 x (o6.subset hx) y hy⟩
   -- the objects behind the call
   generalize hO : outsOf (only H LL) F.ins as_ (splitRes F.outs _ r).2 = O at *
   generalize hN : (resAll (o.dst.getD 99999) 0 F.outs (splitRes F.outs _ r).1).2 = N at *
   generalize hFZ : (if lends = true then freezeUps (only H LL) rows else []) = FZ at *
   have hNk : N.map (·.1) = news := by rw [← r2, List.map_map, ← r1]; rfl
   have hFm : ∀ q ∈ FZ, q.1 ∈ rows ∧ Fz (H q.1) q.2 ∧ lends = true ∧ rowish (H q.1) = true := fun q hq => by
    rw [← hFZ] at hq
    split at hq
    ·rename_i hl
     obtain ⟨h1, h2⟩ := freeze_mem hq
     rw [only_eq (memN_iff.2 (hLr _ h1))] at h2
     rw [hl] at c6
     simp only [Bool.not_true, Bool.false_or] at c6
     have := List.all_eq_true.1 c6 q.1 h1
     rw [only_eq (memN_iff.2 (hLr _ h1))] at this
     exact ⟨h1, h2, hl, this⟩
    ·cases hq
   have hFo : ∀ i ∈ FZ.map (·.1), i ∈ rows := fun i hi => by
    obtain ⟨q, hq, rfl⟩ := List.mem_map.1 hi
    exact (hFm q hq).1
   have hOk : ∀ q ∈ O, q.1 ∈ owns := fun q hq => by rw [← o1]; exact List.mem_map.2 ⟨q, hq, rfl⟩
   have hNm : ∀ q ∈ N, q.1 ∈ news := fun q hq => by rw [← hNk]; exact List.mem_map.2 ⟨q, hq, rfl⟩
   have hnr : ∀ i ∈ news, i ∉ FZ.map (·.1) := fun i hi hf => by
    obtain ⟨q, hq, rfl⟩ := List.mem_map.1 hf
    have h2 := (hFm q hq).2.1.live
    rw [c3 _ hi] at h2; exact h2
   have hno : ∀ i ∈ news, i ∉ owns := fun i hi ho => hnd.2.2 i ho i hi rfl
   -- look-ups
   have hU : ∀ u ∈ ui ++ ur, putH H (O ++ N ++ FZ) u.id = .live u.ob := fun u hu => by
    rcases List.mem_append.1 hu with hu | hu
    ·have hid := hui u hu
     refine putH_get (fun q hq hqe => ?_) ⟨(u.id, .live u.ob), by simp [o2 u hu], rfl⟩
     simp only [List.mem_append] at hq
     rcases hq with (hq | hq) | hq
     ·rw [keys_one (by rw [o1]; exact hnd.1) hq (o2 u hu) hqe]
     ·exact absurd hid (hqe ▸ hno _ (hNm q hq))
     ·exact absurd (hFo _ (List.mem_map.2 ⟨q, hq, rfl⟩)) (hqe ▸ c2 _ hid)
    ·have hid := hur u hu
     have hin : (u.id, Cell.live u.ob) ∈ N := by rw [← r2]; exact List.mem_map.2 ⟨u, hu, rfl⟩
     refine putH_get (fun q hq hqe => ?_) ⟨(u.id, .live u.ob), by simp [hin], rfl⟩
     simp only [List.mem_append] at hq
     rcases hq with (hq | hq) | hq
     ·exact absurd (hOk q hq) (hqe ▸ hno _ hid)
     ·rw [keys_one (by rw [hNk]; exact hnd.2.1) hq hin hqe]
     ·exact absurd (List.mem_map.2 ⟨q, hq, rfl⟩) (hqe ▸ hnr _ hid)
   have hch : ∀ k ∈ owns ++ news ++ FZ.map (·.1), (∃ u ∈ ui ++ ur, u.id = k) ∨ (k ∈ owns ∧ putH H (O ++ N ++ FZ) k = .dead) ∨ (k ∈ rows ∧ k ∉ (ui ++ ur).map (·.id) ∧ Fz (H k) (putH H (O ++ N ++ FZ) k) ∧ lends = true ∧ rowish (H k) = true) := fun k hk => by
    simp only [List.mem_append] at hk
    rcases hk with (hk | hk) | hk
    ·rw [← o1] at hk
     obtain ⟨q, hq, rfl⟩ := List.mem_map.1 hk
     rcases o3 q hq with hd | ⟨u, u1, u2⟩
     ·refine .inr (.inl ⟨hOk q hq, putH_get (fun q' hq' hqe => ?_) ⟨q, by simp [hq], rfl⟩⟩)
      simp only [List.mem_append] at hq'
      rcases hq' with (hq' | hq') | hq'
      ·rw [keys_one (by rw [o1]; exact hnd.1) hq' hq hqe]; exact hd
      ·exact absurd (hOk q hq) (hqe ▸ hno _ (hNm q' hq'))
      ·exact absurd (hFo _ (List.mem_map.2 ⟨q', hq', rfl⟩)) (hqe ▸ c2 _ (hOk q hq))
     ·exact .inl ⟨u, by simp [u1], by rw [u2]⟩
    ·rw [← r1] at hk
     obtain ⟨u, hu, rfl⟩ := List.mem_map.1 hk
     exact .inl ⟨u, by simp [hu], rfl⟩
    ·obtain ⟨q, hq, rfl⟩ := List.mem_map.1 hk
     obtain ⟨h1, h2, h4, h5⟩ := hFm q hq
     have hput : putH H (O ++ N ++ FZ) q.1 = q.2 := by
      refine putH_get (fun q' hq' hqe => ?_) ⟨q, by simp [hq], rfl⟩
      simp only [List.mem_append] at hq'
      rcases hq' with (hq' | hq') | hq'
      ·exact absurd h1 (hqe ▸ c2 _ (hOk q' hq'))
      ·exact absurd hk (hqe ▸ hnr _ (hNm q' hq'))
      ·obtain ⟨_, h2', _⟩ := hFm q' hq'
       rw [hqe] at h2'
       exact h2'.one h2
     refine .inr (.inr ⟨h1, fun hm => ?_, by rw [hput]; exact h2, h4, h5⟩)
     obtain ⟨u, hu, he⟩ := List.mem_map.1 hm
     rcases List.mem_append.1 hu with hu | hu
     ·exact c2 _ (hui u hu) (by rw [he]; exact h1)
     ·exact hnr _ (hur u hu) (by rw [he]; exact hk)
   have hsub : ∀ u ∈ ui ++ ur, u.id ∈ owns ++ news ++ FZ.map (·.1) := fun u hu => by
    rcases List.mem_append.1 hu with hu | hu
    ·simp [hui u hu]
    ·simp [hur u hu]
   have hFsB : ∀ b ∈ owns.flatMap m.ft, Blk m H (owns ++ news ++ FZ.map (·.1)) b := fun b hb => by
    obtain ⟨i, i1, i2, i3⟩ := ft_blk hb g2
    exact ⟨i, by simp [i1], i2, i3⟩
   have hUF : (ui ++ ur).flatMap (·.F) = Fi ++ Fr := by rw [List.flatMap_append, o4, r3]
   have hUO : ∀ u ∈ ui ++ ur, ORep Zf w' u.ob u.hd u.F := fun u hu => by
    rcases List.mem_append.1 hu with hu | hu
    ·exact (o5 u hu).1
    ·exact r4 u hu
   have hUk : ∀ u ∈ ui ++ ur, ∀ b ∈ u.F, ¬ Zf b ∧ (Blk m H (owns ++ news ++ FZ.map (·.1)) b ∨ (w.heap.size ≤ b ∧ b < w'.heap.size)) := fun u hu b hb => by
    have hbF : b ∈ Fi ++ Fr := by rw [← hUF]; exact List.mem_flatMap.2 ⟨u, hu, hb⟩
    obtain ⟨n1, n2, n3⟩ := p.nz b hbF
    refine ⟨fun hz => n1 (hZZ b hz), ?_⟩
    by_cases hlt : b < w.heap.size
    ·exact .inl (hFsB b (n3 hlt))
    ·exact .inr ⟨by omega, n2⟩
   have hndF : ((ui ++ ur).flatMap (·.F)).Nodup := by rw [hUF]; exact p.nd
   have ch : Change B m H w (owns ++ news ++ FZ.map (·.1)) (m.sets Zf (ui ++ ur)) (putH H (O ++ N ++ FZ)) w' := by
    refine ⟨⟨hkp.os, hkp.tape, hkp.output, hkp.size, fun k hk => ?_, fun b hb hnB => hold b hb fun hF => hnB (hFsB b hF), hmZ, fun b hb => ?_, fun k hk => ?_, fun k hk hl b hb => ?_, fun k hk hl => ?_, fun i hi j hj hij hli hlj b hb hb' => ?_⟩, fun k hk hab => ?_⟩
    ·refine ⟨putH_notin fun hm => hk ?_, sets_out fun hm => hk ?_⟩
     ·rw [List.map_append, List.map_append, o1, hNk] at hm; exact hm
     ·obtain ⟨u, hu, rfl⟩ := List.mem_map.1 hm
      exact hsub u hu
    ·have hb : Zf b := hb
     cases hl : lends with
     | false => rw [hnz hl] at hb; exact .inl hb
     | true =>
      rw [hlz hl] at hb
      by_cases hlt : b < w.heap.size
      ·rcases p.zi b hb hlt with (hz | ⟨i, i1, i2, i3⟩) | hz
       ·exact .inl hz
       ·refine .inr (.inl ⟨⟨i, ?_, i2, i3⟩, hlt⟩)
        rw [hl] at c6
        simp only [Bool.not_true, Bool.false_or] at c6
        have hrw := List.all_eq_true.1 c6 i i1
        rw [only_eq (memN_iff.2 (hLr i i1))] at hrw
        obtain ⟨c', hc'⟩ := rowish_live hrw i2
        have := freeze_of (H := only H LL) i1 (by rw [only_eq (memN_iff.2 (hLr i i1))]; exact hc')
        have hin : (i, c') ∈ FZ := by rw [← hFZ, if_pos hl]; exact this
        simp only [List.mem_append]
        exact .inr (List.mem_map.2 ⟨_, hin, rfl⟩)
       ·exact .inr (.inl ⟨hFsB b hz, hlt⟩)
      ·exact .inr (.inr ⟨by omega, p.zl b hb⟩)
    ·rcases hch k hk with ⟨u, hu, rfl⟩ | ⟨_, hd⟩ | ⟨h1, h2, h3, h5, h6⟩
     ·rw [hU u hu]
      obtain ⟨e1, e2⟩ := sets_in (m := m) (Z1 := Zf) hids hu
      simp only [CRep]
      rw [e1, e2]
      exact hUO u hu
     ·rw [hd]; trivial
     ·have hL := h3.live
      have hfz : ∀ b ∈ m.ft k, b < w.heap.size ∧ b ∉ owns.flatMap m.ft := fun b hb => by
       refine ⟨(hh.nz k hL b hb).2.1, fun hF => (hFs b hF).1 (.inr ⟨k, h1, hL, hb⟩)⟩
      refine h3.rep hh h6 (fun b hb => hold b (hh.zl b hb) fun hF => (hFs b hF).1 (.inl hb)) hmZ (fun b hb => hold b (hfz b hb).1 (hfz b hb).2) (fun b hb => ?_) (sets_out (m := m) (Z1 := Zf) h2).1
      show Zf b
      rw [hlz h5]
      exact p.zs b (.inr ⟨k, h1, hL, hb⟩)
    ·rcases hch k hk with ⟨u, hu, rfl⟩ | ⟨_, hd⟩ | ⟨h1, h2, h3, h5, h6⟩
     ·rw [(sets_in (m := m) (Z1 := Zf) hids hu).2] at hb
      exact hUk u hu b hb
     ·rw [hd] at hl; exact hl.elim
     ·exact absurd hl h3.dead
    ·rcases hch k hk with ⟨u, hu, rfl⟩ | ⟨_, hd⟩ | ⟨h1, h2, h3, h5, h6⟩
     ·rw [(sets_in (m := m) (Z1 := Zf) hids hu).2]
      exact flatMap_nodup hndF hu
     ·rw [hd] at hl; exact hl.elim
     ·exact absurd hl h3.dead
    ·rcases hch i hi with ⟨u, hu, rfl⟩ | ⟨_, hd⟩ | ⟨h1, h2, h3, h5, h6⟩
     ·rcases hch j hj with ⟨u', hu', rfl⟩ | ⟨_, hd⟩ | ⟨h1, h2, h3, h5, h6⟩
      ·rw [(sets_in (m := m) (Z1 := Zf) hids hu).2] at hb
       rw [(sets_in (m := m) (Z1 := Zf) hids hu').2] at hb'
       exact flatMap_disj hndF hu hu' (fun e => hij (by rw [e])) hb hb'
      ·rw [hd] at hlj; exact hlj.elim
      ·exact absurd hlj h3.dead
     ·rw [hd] at hli; exact hli.elim
     ·exact absurd hli h3.dead
    ·rcases hch k hk with ⟨u, hu, rfl⟩ | ⟨_, hd⟩ | ⟨h1, h2, h3, h5, h6⟩
     ·have hu' := hu
      rcases List.mem_append.1 hu with hu | hu
      ·obtain ⟨q1, q2, g, ls, ls', q3, q4⟩ := o5 u hu
       have := hU u hu'
       rw [q4] at this
       exact EvoAt.cells_ q3 this (Nat.lt_succ_self _) (by rw [(sets_in (m := m) (Z1 := Zf) hids hu').1]; exact q2)
      ·exact absurd (c3 _ (hur u hu)) hab
     ·exact EvoAt.dead hd
     ·exact h3.evo rfl (sets_out (m := m) (Z1 := Zf) h2).1
   refine ⟨_, hh.change ch, hh.evo ch, ?_⟩
   rw [p.v]
   refine avOf_ok (r5 _ _ rfl fun u hu => ⟨(sets_in (m := m) (Z1 := Zf) hids (u := u) (by simp [hu])).1, hU u (by simp [hu])⟩)
  ·exact hQ.elim
 ·exact hQ.elim
end
end Go.Proofs.Ytcefbdknoelacaa.A

-- YtcefbdknoelacaaFn4
set_option linter.unusedVariables false
set_option linter.unusedSimpArgs false
namespace Go.Proofs.Ytcefbdknoelacaa.A
open Go
section
variable {P : Program} {B : Base} {m m' m0 : Md} {H H' : Hp} {w w' : World} {o : Oper} {a : Act} {E : Env} {tab : Nat → Option TI} {N : Nat}

structure PInv (B : Base) (Z : Nat → Prop) (w : World) (vals : Nat → Value) (t0 : Nat) (m : Md) (es : List (Nat × AV)) (hs : List (Nat × Cell)) (F : List Nat) : Prop where
 h : HOk B m (ofL .absent hs) w
 z : m.Z = Z
 t : ∀ k, AVRep m w (ofL .absent hs) (ofL .junk es k) (vals k)
 own : ∀ k, (ofL .absent hs k).Live → ∀ b ∈ m.ft k, b ∈ F
 ks : ∀ k ∈ hs.map (·.1), ∃ t, t0 ≤ t ∧ k = headId t
theorem pinv_put {m : Md} {H : Hp} {es : List (Nat × AV)} {vals : Nat → Value} (h : ∀ t, AVRep m w H (ofL .junk es t) (vals t)) {t0 : Nat} {v : AV} (hv : AVRep m w H v (vals t0)) (t : Nat) : AVRep m w H (ofL .junk ((t0, v) :: es) t) (vals t) := by
 rw [ofL_cons]
 by_cases ht : t = t0
 ·subst ht; rw [upd_same]; exact hv
 ·rw [upd_other _ _ ht]; exact h t
theorem par_plain {t : Nat} {τ : Ty} {x : τ.den} (h : τ.vecP = false) (hp : τ.pure = true) : parAV t false τ x = (.val (!τ.one) (flat τ x), []) := by
 cases τ <;> first | rfl | cases hp
theorem pars_ok {Z : Nat → Prop} (h0 : ∀ m : Md, m.Z = Z → HOk B m (fun _ => .absent) w) {vals : Nat → Value} : ∀ {ps : List (Bool × Ty)} {t : Nat} {x : (ps.foldr (fun p t => Ty.pair p.2 t) .unit).den} {vs : List Value} {F : List Nat},
 ArgsRep Z w ps x vs F → F.Nodup → (∀ b ∈ F, ¬ Z b ∧ b < w.heap.size ∧ (b < B.w.heap.size → b ∈ B.F)) → (ps.all fun p => p.1 || p.2.pure || p.2.vecP) = true → (∀ (i : Nat) (v : Value), vs[i]? = some v → vals (t + i) = v) →
 ∃ m, PInv B Z w vals t m (pars t ps x).1 (pars t ps x).2 F
 | [], t, x, vs, F, _, _, _, _, _ => ⟨{ Z := Z, hd := fun _ => undef, ft := fun _ => [] }, h0 _ rfl, rfl, fun _ => trivial, fun _ h => h.elim, by simp [pars]⟩
 | (io, τ) :: ps, t, x, vs, F, ⟨v, vs', F1, F2, h1, h2, h3, h4⟩, hn, hF, hk, hv => by
  subst h1; subst h2
  rw [List.all_cons, Bool.and_eq_true] at hk
  rw [List.nodup_append] at hn
  obtain ⟨m, K⟩ := pars_ok h0 (t := t + 1) h4 hn.2.1 (fun b hb => hF b (by simp [hb])) hk.2 (fun i v hi => by have := hv (i + 1) v (by simpa using hi); rwa [show t + (i + 1) = t + 1 + i by omega] at this)
  have hval : vals t = v := hv 0 v (by simp)
  have hfresh : ofL .absent (pars (t + 1) ps x.2).2 (headId t) = .absent := ofL_absent _ fun hm => by
   obtain ⟨t', h1, h2⟩ := K.ks _ hm
   have := headId_inj h2
   omega
  -- an object under this place's name
  have obj : ∀ {ob : Obj} {hdr : Value} {av : AV}, ORep Z w ob hdr F1 → parAV t io τ x.1 = (av, [(headId t, .live ob)]) → (∀ (m1 : Md) (H1 : Hp), m1.hd (headId t) = hdr → H1 (headId t) = .live ob → AVRep m1 w H1 av (vals t)) → ∃ m, PInv B Z w vals t m (pars t ((io, τ) :: ps) x).1 (pars t ((io, τ) :: ps) x).2 (F1 ++ F2) := by
   intro ob hdr av hr hp hav
   obtain ⟨q1, q2⟩ := K.h.add hfresh (by rw [K.z]; exact hr) hn.1 (fun b hb => by rw [K.z]; exact hF b (by simp [hb])) (fun j hj b hb hb' => hn.2.2 b hb' b (K.own j hj b hb) rfl)
   refine ⟨m.set (headId t) hdr F1, ?_⟩
   simp only [pars, hp, List.singleton_append]
   refine ⟨q1, K.z, pinv_put (fun k => (K.t k).evo q2) (hav _ _ (by simp only [Md.set]; rw [upd_same]) (upd_same _ _ _)), fun k hk b hb => ?_, fun k hk => ?_⟩
   ·by_cases hk0 : k = headId t
    ·subst hk0
     simp only [Md.set] at hb
     rw [upd_same] at hb
     simp [hb]
    ·rw [ofL_cons, upd_other _ _ hk0] at hk
     simp only [Md.set] at hb
     rw [upd_other _ _ hk0] at hb
     simp [K.own k hk b hb]
   ·simp only [List.map_cons, List.mem_cons] at hk
    rcases hk with rfl | hk
    ·exact ⟨t, Nat.le_refl _, rfl⟩
    ·obtain ⟨t', h1, h2⟩ := K.ks k hk
     exact ⟨t', by omega, h2⟩
  cases io with
  | true =>
   obtain ⟨b, el, cs, F', e1, e2, e3, e4⟩ := h3
   refine obj (ob := .cells 0 (flat τ x.1)) (hdr := .pointer (some ⟨b, 0, none⟩)) ⟨b, el, cs, F', rfl, e2, e3, flat_ok e4⟩ rfl fun m1 H1 h1 h2 => one_val ⟨by rw [h2]; simp, fun _ _ _ => ⟨b, h1, by rw [hval, e1]⟩⟩
  | false =>
   obtain ⟨cs, e1, e2⟩ := h3
   have hk1 : (τ.pure || τ.vecP) = true := by simpa using hk.1
   by_cases hve : τ.vecP = true
   ·cases τ with
    | vec e =>
     have e1 : cs = [v] := e1
     subst e1
     exact obj (ob := .row e x.1) (hdr := v) e2 rfl fun m1 H1 h1 h2 => one_val ⟨by rw [h2]; simp, fun _ _ _ => by rw [hval, h1], fun _ _ _ => by rw [hval, h1]⟩
    | _ => cases hve
   ·have hve : τ.vecP = false := by simpa using hve
    rw [hve, Bool.or_false] at hk1
    have hF1 := e2.pure hk1
    subst hF1
    refine ⟨m, ?_⟩
    simp only [pars, par_plain hve hk1, List.nil_append]
    refine ⟨K.h, K.z, pinv_put K.t ⟨cs, by rw [hval]; exact e1, flat_all2 (by rw [K.z]; exact e2)⟩, K.own, fun k hk => ?_⟩
    obtain ⟨t', h1, h2⟩ := K.ks k hk
    exact ⟨t', by omega, h2⟩

def resRun (tmps : Array Value) : ResultVar → Sem Value
 | .tmp t => pure (tmps.getD t undef)
 | .cell a t => do loadVar t (← asAddr (tmps.getD a undef))
theorem resVal_ok (hT : TabOk P tab) (s : St B m E H a w) {rv : ResultVar} {p : Bool × List LV} (h : resVal tab H E rv = some p) : ∃ u, (resRun a.tmps rv).run P w = .ok u w ∧ PRep m w H p u := by
 cases rv with
 | tmp t =>
  simp only [resVal] at h
  split at h
  ·rename_i g ls he
   cases h
   have := s.t t
   rw [he] at this
   exact ⟨_, by simp [resRun], this⟩
  ·cases h
 | cell ad t =>
  simp only [resVal] at h
  split at h
  ·rename_i i id hi he
   split at h
   ·rename_i g ls hx
    split at h
    ·rename_i hl
     cases h
     have hl := Nat.eq_of_beq_eq_true hl
     have ht := s.t ad
     rw [he] at ht
     obtain ⟨b, q1, q2⟩ := ht.one.2 _ _ hx
     have hc := s.h.cr id
     rw [hx] at hc
     obtain ⟨b', el, cs, F', k1, k2, k3, k4⟩ := hc
     rw [k1] at q1; cases q1
     have hcell : ∀ (j : Nat) (u : Value), cs[j]? = some u → w.cell? ⟨b, 0 + j, none⟩ = some u := fun j u hu => by
      simp only [World.cell?, k3]
      simpa using hu
     have hls := outLeaves_ok (m := m) (w := w) hx k1 0 k4 (fun j l hj => by simpa using hj) hcell
     have hlen : cs.length = i.ty.cells := by rw [k4.len (sz := 1) ol1_len, Nat.mul_one, hl]
     obtain ⟨v, r1, r2⟩ := load_ok (P := P) (w := w) hT hi (b := b) (p := 0) hlen hcell
     refine ⟨v, ?_, cs, r2, hls⟩
     simp only [resRun, q2, asAddr, Sem.run_bind, Sem.run_pure, Result.andThen_ok]
     simpa [Instr.loadAt, Instr.sureAddr] using r1
    ·cases h
   ·cases h
  ·cases h
theorem resVals_ok (hT : TabOk P tab) (s : St B m E H a w) : ∀ {rvs : List ResultVar} {rs : List (Bool × List LV)}, resVals tab H E rvs = some rs → ∃ us, (rvs.mapM (resRun a.tmps)).run P w = .ok us w ∧ All2 (PRep m w H) rs us
 | [], _, h => by cases h; exact ⟨[], by simp, trivial⟩
 | rv :: rvs, rs, h => by
  simp only [resVals] at h
  split at h
  ·rename_i p ps h1 h2
   cases h
   obtain ⟨u, u1, u2⟩ := resVal_ok hT s h1
   obtain ⟨us, v1, v2⟩ := resVals_ok hT s h2
   refine ⟨u :: us, ?_, u2, v2⟩
   simp [List.mapM_cons, u1, v1]
  ·cases h
theorem results_run {fn : Func} {us : List Value} (h : (fn.results.toList.mapM (resRun a.tmps)).run P w = .ok us w) : (results fn a.tmps).run P w = .ok (tupOf us) w := by
 have e : results fn a.tmps = (do let vs ← fn.results.mapM (resRun a.tmps); pure (if h : vs.size = 1 then vs[0] else .tuple vs)) := by
  unfold results
  congr 1
 rw [e, Array.mapM_eq_mapM_toList]
 simp only [Sem.run_bind, map_eq_pure_bind, h, Result.andThen_ok, Sem.run_pure]
 congr 1
 match us with
 | [] => rfl
 | [u] => rfl
 | u :: v :: us => simp [tupOf]
theorem resIn_ok {Zf : Nat → Prop} (hh : HOk B m H w) (hz : ∀ b, m.Z b → Zf b) : ∀ {outs : List Ty} {rs : List (Bool × List LV)} {us : List Value} {x : (outs.foldr Ty.pair .unit).den}, resIn H outs rs = some x → All2 (PRep m w H) rs us →
 (∀ id ∈ resRds outs rs, (H id).Live → ∀ b ∈ m.ft id, Zf b) → ResL Zf w outs x us ((resOwns outs rs).flatMap m.ft) ∧ ∀ id ∈ resOwns outs rs, (H id).Live
 | [], [], us, x, _, hv, _ => by
  have : us = [] := by cases us with | nil => rfl | cons _ _ => exact hv.elim
  subst this
  exact ⟨⟨rfl, rfl⟩, by simp [resOwns]⟩
 | [], _ :: _, _, _, h, _, _ => by cases h
 | _ :: _, [], _, _, h, _, _ => by cases h
 | τ :: outs, p :: rs, [], _, _, hv, _ => hv.elim
 | τ :: outs, p :: rs, u :: us, x, h, hv, hr => by
  simp only [resIn] at h
  split at h
  ·rename_i y ys hy hys
   cases h
   obtain ⟨g1, g2⟩ := resIn_ok hh hz hys hv.2 fun id hid => hr id (by simp [resRds, hid])
   obtain ⟨k1, k2⟩ := ownIn_ok (Sub.refl H) hh hz hy hv.1 fun id hid => hr id (by simp [resRds, hid])
   refine ⟨⟨u, us, _, _, rfl, ?_, k1, g1⟩, fun id hid => ?_⟩
   ·simp [resOwns, List.flatMap_append]
   ·simp only [resOwns, List.mem_append] at hid
    exact hid.elim (k2 id) (g2 id)
  ·cases h
theorem splitRes_join : ∀ {outs more : List Ty} {x : (outs.foldr Ty.pair .unit).den} {y : (more.foldr Ty.pair .unit).den}, splitRes outs more (joinRes outs more x y) = (x, y)
 | [], _, _, _ => rfl
 | τ :: outs, more, x, y => by
  simp only [joinRes, splitRes, splitRes_join]
  rfl

theorem io_end {Zf : Nat → Prop} (s : St B m E H a w) (hz : ∀ b, m.Z b → Zf b) {fv : Nat → Value} : ∀ {ps : List (Bool × Ty)} {t : Nat} {ids : List Nat} {x : (((ps.filter (·.1)).map (·.2)).foldr Ty.pair .unit).den} {vs : List Value},
 ioIdsOf E (iosOf t ps) = some ids → ioOut H ((ps.filter (·.1)).map (·.2)) ids = some x → (∀ i ∈ iosOf t ps, a.tmps.getD i undef = fv i) → (∀ i, i < ps.length → vs[i]? = some (fv (t + i))) →
 IoRep Zf w ps x vs (ids.flatMap m.ft) ∧ ∀ id ∈ ids, (H id).Live
 | [], t, ids, x, vs, h1, h2, _, _ => by
  cases h1
  exact ⟨rfl, by simp⟩
 | (false, τ) :: ps, t, ids, x, vs, h1, h2, h3, h4 => by
  refine io_end (ps := ps) (t := t + 1) s hz h1 h2 h3 fun i hi => ?_
  have := h4 (i + 1) (by simp; omega)
  rw [List.getElem?_tail, this]
  congr 2; omega
 | (true, τ) :: ps, t, ids, x, vs, h1, h2, h3, h4 => by
  simp only [iosOf, ioIdsOf] at h1
  split at h1
  ·rename_i id ids' he hi
   cases h1
   have h2 : ioOut H (τ :: ((ps.filter (·.1)).map (·.2))) (id :: ids') = some x := h2
   simp only [ioOut] at h2
   split at h2
   ·rename_i g ls y hx hy
    split at h2
    ·rename_i z hz'
     cases h2
     obtain ⟨g1, g2⟩ := io_end (ps := ps) (t := t + 1) (vs := vs.tail) s hz hi hy (fun i hi => h3 i (by simp [iosOf, hi])) (fun i hi => by
      have := h4 (i + 1) (by simp; omega)
      rw [List.getElem?_tail, this]
      congr 2; omega)
     have ht := s.t t
     rw [he, h3 t (by simp [iosOf])] at ht
     obtain ⟨b, e1, e2⟩ := ht.one.2 _ _ hx
     have hL : (H id).Live := by rw [hx]; trivial
     have hc := s.h.cr id
     rw [hx] at hc
     obtain ⟨b', el, cs, F', k1, k2, k3, k4⟩ := hc
     rw [k1] at e1; cases e1
     have hv0 := h4 0 (by simp)
     refine ⟨⟨b, el, cs, F', _, ?_, ?_, k3, Rep.frame (fun _ _ => rfl) hz (fun _ _ => rfl) (asmAllO hz' k4), g1⟩, fun i hi => ?_⟩
     ·rw [List.head?_eq_getElem?, hv0, Nat.add_zero, e2]
     ·rw [List.flatMap_cons, k2]
     ·rcases List.mem_cons.1 hi with rfl | hi
      ·exact hL
      ·exact g2 i hi
    ·cases h2
   ·cases h2
  ·cases h1

theorem fin_ok (hT : TabOk P tab) {fn : Func} {F : FunE} {Z : Nat → Prop} {w0 : World} {Fs : List Nat} {vs : List Value} (hB : B = { w := w0, F := Fs, Z := Z, fx := iosOf 0 F.ins, fv := fun i => vs.getD i undef }) (hlen : vs.length = F.ins.length) {r : ((F.outs ++ (F.ins.filter (·.1)).map (·.2)).foldr Ty.pair .unit).den} :
 KonOk P B N r (bodyPost P fn fun e w' => ∃ v Z' us Fr Fi, e = .returned v ∧ Post Z w0 Fs F vs r v w' Z' us Fr Fi) (finOf tab F.outs ((F.ins.filter (·.1)).map (·.2)) fn.results.toList (iosOf 0 F.ins)) := by
 subst hB
 intro x E H a w ⟨m, s, hN, hf⟩ h
 have key : finOf tab F.outs ((F.ins.filter (·.1)).map (·.2)) fn.results.toList (iosOf 0 F.ins) .normal E H = some r → a.defers = [] ∧ ∃ v, (results fn a.tmps).run P w = .ok v w ∧ ∃ v' Z' us Fr Fi, Ending.returned v = .returned v' ∧ Post Z w0 Fs F vs r v' w Z' us Fr Fi := by
  intro h
  refine ⟨s.d, ?_⟩
  simp only [finOf] at h
  split at h
  ·rename_i rs ios hrs hios
   split at h
   ·rename_i xa xb hxa hxb
    split at h
    ·rename_i hck
     cases h
     simp only [Bool.and_eq_true] at hck
     obtain ⟨c1, c2⟩ := hck
     have c1 := nodupN_iff.1 c1
     have c2 : ∀ i ∈ resRds F.outs rs, i ∉ resOwns F.outs rs ++ ios := fun i hi => by
      have := List.all_eq_true.1 c2 i hi
      exact memN_false.1 (by simpa using this)
     obtain ⟨us, u1, u2⟩ := resVals_ok hT s hrs
     let Zf : Nat → Prop := fun b => m.Z b ∨ ∃ id ∈ resRds F.outs rs, (H id).Live ∧ b ∈ m.ft id
     obtain ⟨r1, r2⟩ := resIn_ok (Zf := Zf) s.h (fun b hb => .inl hb) hxa u2 (fun id hid hl b hb => .inr ⟨id, hid, hl, hb⟩)
     obtain ⟨i1, i2⟩ := io_end (Zf := Zf) (fv := fun i => vs.getD i undef) (ps := F.ins) (t := 0) (vs := vs) s (fun b hb => .inl hb) hios hxb (fun i hi => hf i hi) (fun i hi => by
      rw [Nat.zero_add, List.getD_eq_getElem?_getD, List.getElem?_eq_getElem (by omega)]; rfl)
     have hlive : ∀ id ∈ ios ++ resOwns F.outs rs, (H id).Live := fun id hid => (List.mem_append.1 hid).elim (i2 id) (r2 id)
     have hnd : (ios ++ resOwns F.outs rs).Nodup := by
      rw [List.nodup_append] at c1 ⊢
      exact ⟨c1.2.1, c1.1, fun x hx y hy e => c1.2.2 y hy x hx e.symm⟩
     refine ⟨_, results_run u1, _, Zf, us, (resOwns F.outs rs).flatMap m.ft, ios.flatMap m.ft, rfl, s.h.kp, fun b hb => .inl (s.h.zs b hb), fun b hb => ?_, fun b hb hlt => ?_, ?_, rfl, ?_, ?_, fun b hb => ?_⟩
     ·exact hb.elim (s.h.zl b) fun ⟨i, _, h2, h3⟩ => (s.h.nz i h2 b h3).2.1
     ·exact hb.elim (fun hb => s.h.zi b hb hlt) fun ⟨i, _, h2, h3⟩ => .inr ((s.h.nz i h2 b h3).2.2 hlt)
     ·rw [splitRes_join]; exact r1
     ·rw [splitRes_join]; exact i1
     ·rw [← List.flatMap_append]; exact ft_nodup s.h hnd hlive
     ·rw [← List.flatMap_append] at hb
      obtain ⟨i, h1, h2, h3⟩ := ft_blk hb hlive
      obtain ⟨n1, n2, n3⟩ := s.h.nz i h2 b h3
      refine ⟨fun hz => hz.elim n1 fun ⟨j, j1, j2, j3⟩ => ?_, n2, n3⟩
      have hij : i ≠ j := fun e => c2 j j1 (by rw [← e]; rw [List.mem_append] at h1 ⊢; exact h1.symm)
      exact s.h.sp i j hij h2 j2 b h3 j3
    ·cases h
   ·cases h
  ·cases h
 cases x with
 | normal => exact key h
 | ret => exact key h
 | _ => cases h

theorem ArgsRep.len {Z : Nat → Prop} {w : World} : ∀ {ps : List (Bool × Ty)} {x : (ps.foldr (fun p t => Ty.pair p.2 t) .unit).den} {vs : List Value} {F : List Nat}, ArgsRep Z w ps x vs F → vs.length = ps.length
 | [], _, _, _, h => by rw [h.1]; rfl
 | _ :: _, _, _, _, ⟨v, vs', F1, F2, h1, h2, h3, h4⟩ => by rw [h1, List.length_cons, h4.len]; rfl

def fnOkB (fn : Func) (ins : List (Bool × Ty)) : Bool :=
 codeOkB fn.ntmps (iosOf 0 ins) (bodyOf fn) && fn.body.isSome && Nat.ble ins.length fn.ntmps && ins.all fun p => p.1 || p.2.pure || p.2.vecP
theorem fnE_ok (hm : P.follows .mixedOrders = true) (hT : TabOk P tab) {f : FuncId} {fn : Func} (hf : P.funcs[f]? = some fn) {T : Nat → Nat → Option FunE} {ann : Nat → Option (List Keep)} {ins : List (Bool × Ty)} {outs : List Ty} {n : Nat} (hW : ∀ k, k ≤ n → WaysOk P tab (T k)) (hk : fnOkB fn ins = true) : FunOk P f (fnE tab T ann fn ins outs n) := by
 intro Z w xs vs Fs r hZ hA hn hFs hr
 simp only [fnOkB, Bool.and_eq_true] at hk
 obtain ⟨⟨⟨k1, k2⟩, k3⟩, k4⟩ := hk
 have k3 := Nat.le_of_ble_eq_true k3
 obtain ⟨c, hc⟩ := Option.isSome_iff_exists.1 k2
 have hbody : bodyOf fn = c := by unfold bodyOf; rw [hc]; rfl
 have hlen : vs.length = ins.length := hA.len
 let B : Base := { w := w, F := Fs, Z := Z, fx := iosOf 0 ins, fv := fun i => vs.getD i undef }
 have h0 : ∀ m : Md, m.Z = Z → HOk B m (fun _ => .absent) w := fun m hmz => ⟨fun b hb => hZ b (by rw [← hmz]; exact hb), fun b hb => (by rw [hmz]; exact hb), fun b hb _ => .inl (by rw [hmz] at hb; exact hb), fun _ => trivial, fun _ h => h.elim, fun _ _ _ h => h.elim, fun _ h => h.elim, Kept.refl _ _⟩
 have htm : ∀ k, ((vs.toArray ++ Array.replicate (fn.ntmps - vs.toArray.size) undef).getD k undef) = vs.getD k undef := fun k => by
  rw [Array.getD_eq_getD_getElem?, List.getD_eq_getElem?_getD, Array.getElem?_append]
  simp only [List.size_toArray]
  by_cases hk : k < vs.length
  ·rw [if_pos hk]; simp
  ·rw [if_neg hk, List.getElem?_eq_none (by omega)]
   simp only [Array.getElem?_replicate]
   split <;> rfl
 obtain ⟨m, K⟩ := pars_ok (B := B) (Z := Z) (w := w) h0 (vals := fun k => vs.getD k undef) (t := 0) hA hn (fun b hb => ⟨(hFs b hb).1, (hFs b hb).2, fun _ => hb⟩) k4 (fun i v hi => by simp [List.getD_eq_getElem?_getD, hi])
 refine calls_of_wp hf hc ?_
 have s : SE B fn.ntmps (ofL .junk (pars 0 ins xs).1) (ofL .absent (pars 0 ins xs).2) { tmps := vs.toArray ++ Array.replicate (fn.ntmps - vs.toArray.size) undef, defers := [] } w := by
  refine ⟨m, ⟨K.h, fun t => ?_, rfl⟩, ?_, fun i _ => htm i⟩
  ·rw [htm]; exact K.t t
  ·simp only [Array.size_append, List.size_toArray, Array.size_replicate]; omega
 have hfin := fin_ok (P := P) (B := B) (N := fn.ntmps) hT (fn := fn) (F := fnE tab T ann fn ins outs n) (Z := Z) (w0 := w) (Fs := Fs) (vs := vs) rfl hlen (r := r)
 have hL := runN_ok (P := P) (B := B) (N := fn.ntmps) (r := r) hm (T := T) (ann := ann) hfin n (fun k hk => hW k (by omega))
 have hcl := clos_ok (ann := ann) hm (hW n (Nat.le_refl _)) hL hfin [] rfl
 have := runS_ok hm (hW n (Nat.le_refl _)) hL (bodyOf fn) [] _ _ _ _ _ k1 rfl hcl s hr
 rw [hbody] at this
 exact this
theorem FunOk.spec {f : FuncId} {F : Nat → FunE} {ins : List (Bool × Ty)} {outs : List Ty} {g : (ins.foldr (fun p t => Ty.pair p.2 t) .unit).den → Option ((outs ++ (ins.filter (·.1)).map (·.2)).foldr Ty.pair .unit).den} (hF : ∀ n, FunOk P f (F n)) (hi : ∀ n, (F n).ins = ins) (ho : ∀ n, (F n).outs = outs) : True := trivial
end
end Go.Proofs.Ytcefbdknoelacaa.A

-- YtcefbdknoelacaaFn5
set_option linter.unusedVariables false
set_option linter.unusedSimpArgs false
namespace Go.Proofs.Ytcefbdknoelacaa.A
open Go
def RowOk (P : Program) (f : FuncId) (e : Ty) (g : List e.den → Option (List e.den)) : Prop := ∀ (Z : Nat → Prop) (w : World) (xs ys : List e.den) (v : Value) (F : List Nat),
 (∀ b, Z b → b < w.heap.size) → Rep Z w (.vec e) xs [v] F → F.Nodup → (∀ b ∈ F, ¬ Z b ∧ b < w.heap.size) → g xs = some ys →
 Calls P f #[v] w fun ex w' => ex = .returned (.tuple #[]) ∧ Kept F w w' ∧ ys.length = xs.length ∧ Rep Z w' (.vec e) ys [v] F
structure FunC (P : Program) (f : FuncId) (F : FunE) : Prop where
 ok' : F.row = none → FunOk P f F
 ro : ∀ e g, F.row = some ⟨e, g⟩ → RowOk P f e g
 en : ∃ fn, P.funcs[f]? = some fn ∧ (fn.name == "runtime.NumGoroutine") = false ∧ fn.body.isNone = false
def TOk (P : Program) (T : Nat → Option FunE) : Prop := ∀ f F, T f = some F → FunC P f F
section
variable {P : Program} {B : Base} {m m' m0 : Md} {H H' : Hp} {w w' : World} {o : Oper} {a : Act} {E : Env} {tab : Nat → Option TI} {T : Nat → Option FunE} {N : Nat}

theorem wCallRow_ok {e : Ty} {g : List e.den → Option (List e.den)} {f : FuncId} (hF : RowOk P f e g) (hh : HOk B m H w) {as_ : List AV} {vs : List Value} (hv : All2 (AVRep m w H) as_ vs) (ex : (execOp a.eval o).run P w = .ok (.enter f vs.toArray) w) : WayOk P B m H w o a (wCallRow e g as_) := by
 unfold wCallRow
 split
 ·rename_i id
  match vs, hv with
  | [v], hv =>
   intro Q hQ
   simp only at hQ
   split at hQ
   ·rename_i e' xs hx
    split at hQ
    ·rename_i xs' hc
     obtain ⟨he, hxs⟩ := castTo_eq hc
     cases he
     have hxs : xs = xs' := hxs
     subst hxs
     obtain ⟨ys, hy, hQ⟩ := hQ
     have hQ : Q _ := hQ
     have hx := live_of_only hx
     have hL : (H id).Live := by rw [hx]; trivial
     have hcr := hh.cr id
     rw [hx] at hcr
     have hvd := hv.1.one.2.1 _ _ hx
     subst hvd
     refine ⟨_, _, hQ, ?_⟩
     unfold OpOk
     rw [ex]
     refine (hF m.Z w xs ys _ _ hh.zl hcr (hh.nd id hL) (fun b hb => ⟨(hh.nz id hL b hb).1, (hh.nz id hL b hb).2.1⟩) hy).mono fun e' w' ⟨h1, h2, h3, h4⟩ => ⟨_, h1, ?_⟩
     have hput := putH_cons H id (.live (.row e ys)) [] (by simp)
     have ch : Change B m H w (id :: []) (m.set id (m.hd id) (m.ft id)) (putH H ((id, .live (.row e ys)) :: deads [])) w' :=
      Change.one (w' := w') (ob := .row e ys) hh (by simp) (by simp) h2.os h2.tape h2.output h2.size (fun b hb hnB => h2.block b hb fun hbF => hnB ⟨id, by simp, hL, hbF⟩) h4 (fun z hz => ⟨(hh.nz id hL z hz).1, .inl ⟨id, by simp, hL, hz⟩⟩) (hh.nd id hL) (fun _ => EvoAt.row_ hx hput h3.symm (by simp only [Md.set]; rw [upd_same]))
     exact ⟨_, hh.change ch, hh.evo ch, ⟨[], rfl, trivial⟩⟩
    ·exact hQ.elim
   ·exact hQ.elim
 ·exact WayOk.fail

theorem enter_exec {c : Call} (ho : o.op = .call c) {x : Operand} (hc : c.callee = .value x) {f : FuncId} (hx : a.eval x = .func (.func f) #[] #[]) (hen : ∃ fn, P.funcs[f]? = some fn ∧ (fn.name == "runtime.NumGoroutine") = false ∧ fn.body.isNone = false) :
 (execOp a.eval o).run P w = .ok (.enter f (c.args.map a.eval)) w := by
 obtain ⟨fn, h1, h2, h3⟩ := hen
 simp only [execOp, ho, resolve, hc, hx]
 have h2 : ¬ fn.name = "runtime.NumGoroutine" := by simpa using h2
 have h3 : ¬ fn.body = none := fun hh => by rw [hh] at h3; cases h3
 simp [Deferred.ofValue, invoke, callFunc, h1, h2, h3]
theorem all2_args (s : St B m E H a w) : ∀ {xs : List Operand}, (∀ x ∈ xs, opndOkB x = true) → All2 (AVRep m w H) (xs.map (evalO E)) (xs.map a.eval)
 | [], _ => trivial
 | x :: xs, h => ⟨evalO_ok s (h x (by simp)), all2_args s fun y hy => h y (by simp [hy])⟩
theorem wCall_ok (hT : TabOk P tab) (hC : TOk P T) (s : St B m E H a w) {c : Call} (ho : o.op = .call c) (hx : ∀ x ∈ c.operands, opndOkB x = true) :
 WayOk P B m H w o a (wCall tab T o.dst c (c.args.toList.map (evalO E)) (match c.callee with | .value f => some (evalO E f) | _ => none)) := by
 have hargs := all2_args s (xs := c.args.toList) fun x h => hx x (by simp [Call.operands]; exact .inr (by simpa using h))
 have hmap : (c.args.map a.eval).toList = c.args.toList.map a.eval := by simp
 have hmap' : c.args.map a.eval = (c.args.toList.map a.eval).toArray := by rw [← hmap]
 unfold wCall
 cases hc : c.callee with
 | invoke r n => exact WayOk.fail
 | value x =>
  simp only
  split
  ·rename_i f u he
   split
   ·rename_i F hF
    have hfc := hC f F (by simpa using hF)
    simp only [Option.some.injEq] at he
    have hev := evalO_ok s (hx x (by simp [Call.operands, hc]))
    rw [he] at hev
    have hfv : a.eval x = .func (.func f) #[] #[] := by
     have := hev.one
     obtain ⟨h1, _⟩ := (this : [a.eval x] = [.func (.func f) #[] #[]] ∧ _)
     simpa using h1
    split
    ·rename_i q hq
     exact wCallRow_ok (hfc.ro _ _ hq) s.h hargs (by rw [enter_exec ho hc hfv hfc.en, hmap'])
    ·rename_i hq
     exact wCallF_ok (hfc.ok' hq) s.h hargs (by rw [enter_exec ho hc hfv hfc.en, hmap'])
   ·exact WayOk.fail
  ·exact WayOk.fail
 | builtin b =>
  cases b <;> simp only <;> try exact WayOk.fail
  case len =>
   split
   ·rename_i x hxs hsz
    have hsz := Nat.eq_of_beq_eq_true hsz
    match hc1 : c.args.toList, hxs, hargs with
    | [y], hxs, hargs =>
     simp only [List.map_cons, List.map_nil, List.cons.injEq, and_true] at hxs
     subst hxs
     rw [hc1] at hmap'
     have h1 := hargs.1
     refine wLen_ok hT s.h h1 fun n hn => exec_call_builtin ho hc ?_
     have hts : c.argTypes = #[c.argTypes.getD 0 0] := by
      apply Array.ext
      ·simpa using hsz
      ·intro i h1 h2
       have : i = 0 := by omega
       subst this
       simp [Array.getD, h1]
     generalize c.argTypes.getD 0 0 = t at hts hn
     rw [hts]
     simp only [builtin, hmap', List.map_cons, List.map_nil]
     rw [show ([a.eval y] : List Value).toArray = #[a.eval y] from rfl]
     simp only [Sem.run_bind, hn, Result.andThen_ok, Sem.run_pure]
   ·exact WayOk.fail
  case append =>
   split
   ·rename_i x y hxs
    match hc1 : c.args.toList, hxs, hargs with
    | [x1, y1], hxs, hargs =>
     simp only [List.map_cons, List.map_nil, List.cons.injEq, and_true] at hxs
     obtain ⟨rfl, rfl⟩ := hxs
     rw [hc1] at hmap'
     refine wAppend_ok hT s.h hargs.1 hargs.2.1 fun v w' hv => ?_
     simp only [execOp, ho, resolve, hc]
     simp only [Sem.run_bind, Sem.run_pure, Result.andThen_ok, invoke, builtin, hmap', List.map_cons, List.map_nil]
     rw [show ([a.eval x1, a.eval y1] : List Value).toArray = #[a.eval x1, a.eval y1] from rfl, hv]
     rfl
   ·exact WayOk.fail
  case max =>
   refine wMinMax_ok s.h hargs (fun x y => by unfold mxI; split <;> simp) max2_run fun x rest u hl hu => exec_call_builtin ho hc ?_
   simp only [builtin, Builtin.max_, hmap, hl, Sem.run_bind, hu, Result.andThen_ok, Sem.run_pure]
  case min =>
   refine wMinMax_ok s.h hargs (fun x y => by unfold mnI; split <;> simp) min2_run fun x rest u hl hu => exec_call_builtin ho hc ?_
   simp only [builtin, Builtin.min_, hmap, hl, Sem.run_bind, hu, Result.andThen_ok, Sem.run_pure]

theorem wayD_ok (hT : TabOk P tab) (B : Base) (m : Md) (H : Hp) (w : World) (a : Act) (E : Env) (o : Oper) (t : DT (AV × List (Nat × Cell))) (hx : o.op.operands.toList.all opndOkB = true) (s : St B m E H a w) (h : wayD tab E H o = some t) : WayDOk P B m H w o a t := by
 have hx : ∀ x ∈ o.op.operands, opndOkB x = true := fun x h => List.all_eq_true.1 hx x (by simpa using h)
 unfold wayD at h
 split at h
 ·cases h
 ·split at h
  ·rename_i ho
   exact nilWay_ok hT s.h (.inl ⟨rfl, ho⟩) (evalO_ok s (hx _ (by rw [ho]; simp [Op.operands]))) h
  ·rename_i ho
   exact nilWay_ok hT s.h (.inr ⟨rfl, ho⟩) (evalO_ok s (hx _ (by rw [ho]; simp [Op.operands]))) h
  ·rename_i ho
   exact nextWay_ok s.h ho (evalO_ok s (hx _ (by rw [ho]; simp [Op.operands]))) h
  ·cases h
theorem way_ok (hT : TabOk P tab) (hC : TOk P T) : WaysOk P tab T := by
 refine ⟨fun B m H w a E o hx s => ?_, wayD_ok hT⟩
 have hx : ∀ x ∈ o.op.operands, opndOkB x = true := fun x h => List.all_eq_true.1 hx x (by simpa using h)
 unfold way
 cases ho : o.op <;> (try simp only [ho, Op.operands] at hx) <;> (try simp only) <;> try exact WayOk.fail
 case move x => exact WayOk.val s.h (by simp only [execOp, ho, Sem.run_pure]) (evalO_ok s (hx x (by simp)))
 case assign x => exact WayOk.val s.h (by simp only [execOp, ho, Sem.run_pure]) (evalO_ok s (hx x (by simp)))
 case pick c x y => exact wPick_ok s.h ho (evalO_ok s (hx c (by simp))) (evalO_ok s (hx x (by simp))) (evalO_ok s (hx y (by simp)))
 case nilCheck x => exact wNilCheck_ok s.h ho (evalO_ok s (hx x (by simp)))
 case alloc t =>
  split
  ·rename_i i hi
   obtain ⟨inf, z, k1, k2, k3, k4, k5, k6⟩ := (hT t i hi).info
   refine wBox_ok (t := t) (v := .agg z.cells) s.h ⟨z.cells.toList, by simp [IsV], k6.mono fun _ _ h => h.l⟩ fun cs ⟨g, ls, h1, h2⟩ h3 => ?_
   cases h1
   have : z.cells = cs.toArray := by simpa [IsV] using h2
   rw [← this]
   exact alloc_exec ho k1 k4
  ·exact WayOk.fail
 case box t x =>
  refine wBox_ok (t := t) s.h (evalO_ok s (hx x (by simp))) fun cs ⟨g, ls, h1, h2⟩ h3 => box_exec ho (isV_cells h2 h3)
 case build t ps => exact wBuild_ok hT s.h ho (all2_parts s fun p hp => hx p.2 (by simp; exact ⟨p.1, by simpa using hp⟩))
 case buildSlice t n ps => exact wBuildSliceF_ok hT s.h ho (all2_parts s fun p hp => hx p.2 (by simp; exact ⟨p.1, by simpa using hp⟩))
 case load t x => exact wLoad_ok hT s.h ho (evalO_ok s (hx x (by simp)))
 case store t x y => exact wStore_ok hT s.h ho (evalO_ok s (hx x (by simp))) (evalO_ok s (hx y (by simp)))
 case binOp op t x y yt => exact wBin_ok hT s.h ho (evalO_ok s (hx x (by simp))) (evalO_ok s (hx y (by simp)))
 case unOp op t x => exact wUn_ok s.h ho (evalO_ok s (hx x (by simp)))
 case convert t d x => exact wConvert_ok hT s.h ho (evalO_ok s (hx x (by simp)))
 case makeSlice t x y => exact wMakeSlice_ok hT s.h ho (evalO_ok s (hx x (by simp))) (evalO_ok s (hx y (by simp)))
 case slice t x lo hi mx =>
  cases mx with
  | some _ => exact WayOk.fail
  | none => exact wSlice_ok hT s.h ho (evalO_ok s (hx x (by simp))) (optRep_map s fun y hy => hx y (by simp [hy])) (optRep_map s fun y hy => hx y (by simp [hy]))
 case fieldAddr t x f => exact wFieldAddr_ok hT s.h ho (evalO_ok s (hx x (by simp)))
 case field t x f => exact wField_ok hT s.h ho (evalO_ok s (hx x (by simp)))
 case indexAddr t x i => exact wIndexAddr_ok hT s.h ho (evalO_ok s (hx x (by simp))) (evalO_ok s (hx i (by simp)))
 case index t x i => exact wIndex_ok hT s.h ho (evalO_ok s (hx x (by simp))) (evalO_ok s (hx i (by simp)))
 case extract x n => exact wExtract_ok s.h ho (evalO_ok s (hx x (by simp)))
 case call c => exact wCall_ok hT hC s ho hx
 case makeMap t r =>
  cases r with
  | some _ => exact WayOk.fail
  | none => exact wMakeMap_ok hT s.h ho
 case insert t x k y => exact wMapUpdateF_ok hT s.h (.inr ho) (evalO_ok s (hx x (by simp))) (evalO_ok s (hx k (by simp))) (evalO_ok s (hx y (by simp)))
 case mapUpdate t x k y => exact wMapUpdateF_ok hT s.h (.inl ho) (evalO_ok s (hx x (by simp))) (evalO_ok s (hx k (by simp))) (evalO_ok s (hx y (by simp)))
 case range t x => exact wRange_ok hT s.h ho (evalO_ok s (hx x (by simp)))
 case entry x => exact wEntry_ok s.h ho (evalO_ok s (hx x (by simp)))
 case lookup t x k ok => exact wLookup_ok hT s.h ho (evalO_ok s (hx x (by simp))) (evalO_ok s (hx k (by simp)))
end
end Go.Proofs.Ytcefbdknoelacaa.A

-- YtcefbdknoelacaaOpn
set_option linter.unusedVariables false
set_option linter.unusedSimpArgs false
namespace Go.Proofs.Ytcefbdknoelacaa.A
open Go

def Ty.low : Ty → Nat
 | .bool => 1
 | .int k => k.bits / 8
 | .str => 16
 | .sl _ => 24
 | .pair a b => a.low + b.low
 | _ => 0
def okT : (τ : Ty) → τ.den → Prop
 | .int k, n => k.min ≤ n ∧ n ≤ k.max
 | .str, s => s.length ≤ 140737488351232
 | .sl e, xs => xs.length ≤ 140737488351232 ∧ xs.length * e.low ≤ 140737488351232 ∧ ∀ x ∈ xs, okT e x
 | .pair a b, x => okT a x.1 ∧ okT b x.2
 | _, _ => True
def fitB (P : Program) : Nat → Ty → Nat ⊕ (List Go.Field × Nat) → Bool
 | 0, _, _ => false
 | n + 1, τ, .inl t => (match P.underlying t, τ with
  | some .bool, .bool => true
  | some (.int k'), .int k => decide (k' = k)
  | some .string, .str => true
  | some (.slice et), .sl e => fitB P n e (.inl et) && Nat.beq (P.cellsOf et) e.cells && Nat.ble 1 e.cells && Nat.ble e.low (P.bytesOf et) && Nat.ble 1 (P.bytesOf et)
  | some (.struct fs), τ => Nat.beq (P.cellsOf t) τ.cells && fitB P n τ (.inr (fs.toList, 0))
  | _, _ => false)
 | n + 1, τ, .inr ([f], off) => Nat.beq f.offset off && fitB P n τ (.inl f.type) && Nat.beq (P.cellsOf f.type) τ.cells
 | n + 1, .pair a b, .inr (f :: g :: fs, off) => Nat.beq f.offset off && fitB P n a (.inl f.type) && Nat.beq (P.cellsOf f.type) a.cells && fitB P n b (.inr (g :: fs, off + a.cells))
 | _, _, _ => false

section
variable {P : Program} {w : World} {Z : Nat → Prop}
theorem list_of {α : Type} (p : Nat → α → Prop) : ∀ n : Nat, (∀ i, i < n → ∃ y, p i y) → ∃ l : List α, l.length = n ∧ ∀ i y, l[i]? = some y → p i y := by
 intro n
 induction n with
 | zero => intro _; exact ⟨[], rfl, fun i y h => by simp at h⟩
 | succ n ih =>
  intro h
  obtain ⟨l, hl, hp⟩ := ih (fun i hi => h i (by omega))
  obtain ⟨y, hy⟩ := h n (by omega)
  refine ⟨l ++ [y], by simp [hl], fun i z hz => ?_⟩
  by_cases hi : i < l.length
  ·exact hp i z (by rwa [List.getElem?_append_left hi] at hz)
  ·rw [List.getElem?_append_right (by omega)] at hz
   have hi2 : i - l.length < 1 := by
    rcases Nat.lt_or_ge (i - l.length) 1 with h | h
    ·exact h
    ·rw [List.getElem?_eq_none (by simpa using h)] at hz
     cases hz
   have e : i = n := by omega
   subst e
   rw [hl] at hz
   simp at hz
   subst hz
   exact hy
theorem weightsAll_mem {H : Type} {P : Program} {e : TypeId} {d : DataW H} : ∀ {l : List (DataW H)}, d ∈ l → ∀ n ∈ d.weights P e, n ∈ DataW.weightsAll P e l := by
 intro l
 induction l with
 | nil => intro h; cases h
 | cons a l ih =>
  intro h n hn
  rw [DataW.weightsAll, List.mem_append]
  rcases List.mem_cons.1 h with rfl | h
  ·exact .inl hn
  ·exact .inr (ih h n hn)
theorem int_wf {k : IntKind} {n : Int} (h : (Lit.int k n).wf = true) : k.min ≤ n ∧ n ≤ k.max := by
 simpa [Lit.wf] using h
theorem repL_of {e : Ty} {b o : Nat} : ∀ (l : List e.den) (k : Nat), (∀ (i : Nat) (y : e.den), l[i]? = some y → ∃ c, Rep Z w e y c [] ∧ ∀ (j : Nat) (u : Value), c[j]? = some u → w.cell? ⟨b, o + ((k + i) * e.cells + j), none⟩ = some u) →
 ∃ c, RepL (fun x c F => Rep Z w e x c F) l c [] ∧ ∀ (j : Nat) (u : Value), c[j]? = some u → w.cell? ⟨b, o + (k * e.cells + j), none⟩ = some u
 | [], k, _ => ⟨[], ⟨rfl, rfl⟩, by simp⟩
 | y :: l, k, h => by
  obtain ⟨c, h1, h2⟩ := h 0 y rfl
  obtain ⟨cs, g1, g2⟩ := repL_of l (k + 1) fun i z hz => by
   have := h (i + 1) z (by simpa using hz)
   rwa [show k + (i + 1) = k + 1 + i by omega] at this
  refine ⟨c ++ cs, ⟨c, cs, [], [], rfl, rfl, h1, g1⟩, fun j u hu => ?_⟩
  have hl := h1.len
  rw [List.getElem?_append] at hu
  split at hu
  ·exact h2 j u hu
  ·rename_i hj
   have := g2 _ u hu
   rwa [show o + ((k + 1) * e.cells + (j - c.length)) = o + (k * e.cells + j) by rw [Nat.succ_mul]; omega] at this

theorem fit_ok (hZ : ∀ b, b < w.heap.size → Z b) {H : Type} {enc : TypeId × Value → H} : ∀ (n : Nat) (τ : Ty) (q : Nat ⊕ (List Go.Field × Nat)), fitB P n τ q = true → match q with
 | .inl t => ∀ {fuel : Nat} {cs : List Value} {x : DataW H × List MemPlace}, DataW.trod enc P w 0 (fun _ => true) true fuel t cs = some x → (∀ n ∈ x.1.weights P t, n ≤ reachBytes) → ∃ y, Rep Z w τ y cs [] ∧ okT τ y
 | .inr (fs, off) => ∀ {fuel : Nat} {cs : List Value} {xs : List (DataW H × List MemPlace)}, xs.length = fs.length → cs.length = off + τ.cells →
  (∀ (i : Nat) (f : Go.Field), fs[i]? = some f → DataW.trod enc P w 0 (fun _ => true) true fuel f.type ((cs.drop f.offset).take (P.cellsOf f.type)) = xs[i]?) →
  (∀ m ∈ DataW.weightsEach P (fs.map (·.type)) (xs.map (·.1)), m ≤ reachBytes) → ∃ y, Rep Z w τ y (cs.drop off) [] ∧ okT τ y := by
 intro n
 induction n with
 | zero => intro τ q h; cases h
 | succ n ih =>
  intro τ q h
  cases q with
  | inl t =>
   intro fuel cs x hx hw
   simp only [fitB] at h
   split at h
   ·rename_i hu
    obtain ⟨b, rfl, _⟩ := DataW.trod_bool hu hx
    exact ⟨b, ⟨rfl, rfl⟩, trivial⟩
   ·rename_i k' k hu
    have hk : k' = k := by simpa using h
    subst hk
    obtain ⟨m, rfl, _, hm⟩ := DataW.trod_int hu hx
    exact ⟨m, ⟨rfl, rfl, int_wf hm⟩, int_wf hm⟩
   ·rename_i hu
    obtain ⟨s, rfl, rfl, hs⟩ := DataW.trod_string hu hx
    have := hw s.data.toList.length (by simp [DataW.weights])
    have hl : s.data.toList.length ≤ 140737488351232 := by simpa [reachBytes] using this
    exact ⟨s.data.toList, ⟨rfl, rfl, by unfold big; omega⟩, hl⟩
   ·rename_i et e hu
    simp only [Bool.and_eq_true] at h
    obtain ⟨⟨⟨⟨h1, h2⟩, h3⟩, h4⟩, h5⟩ := h
    have h2 := Nat.eq_of_beq_eq_true h2
    have h3 := Nat.le_of_ble_eq_true h3
    have h4 := Nat.le_of_ble_eq_true h4
    have h5 := Nat.le_of_ble_eq_true h5
    rcases DataW.trod_slice hu hx with ⟨rfl, rfl⟩ | ⟨a, len, cap, elems, rest, m, _, rfl, rfl, hb, hl, hm, hlen, hel, hsp, _⟩
    ·exact ⟨[], ⟨rfl, by simp, none, 0, rfl, by simp, .inl rfl⟩, by simp, by simp, by simp⟩
    ·have each : ∀ i, i < len → ∃ y, (∃ c, Rep Z w e y c [] ∧ ∀ (j : Nat) (u : Value), c[j]? = some u → w.cell? (a.add (i * e.cells + j)) = some u) ∧ okT e y := by
      intro i hi
      have h1' := hel i hi
      have hi2 : i < elems.length := by omega
      rw [List.getElem?_eq_getElem hi2, Option.bind_eq_some_iff] at h1'
      obtain ⟨c, hcs, hc2⟩ := h1'
      obtain ⟨_, hcl, hcc⟩ := World.cells?_some hcs
      obtain ⟨y, hy, ho⟩ := ih e (.inl et) h1 hc2 (fun m hm => hw m (by
       rw [DataW.weights]
       simp only [hu, List.mem_cons, List.mem_append]
       exact .inr (.inl (weightsAll_mem (List.mem_map_of_mem (f := Prod.fst) (List.getElem_mem hi2)) m hm))))
      refine ⟨y, ⟨c, hy, fun j u hu' => ?_⟩, ho⟩
      have hj : j < P.cellsOf et := by
       rcases Nat.lt_or_ge j c.length with h | h
       ·omega
       ·rw [List.getElem?_eq_none h] at hu'
        cases hu'
      have := hcc j hj
      rw [hu', Go.Addr.add_add, h2] at this
      exact this
     obtain ⟨l, hll, hp⟩ := list_of _ len each
     have hlb : len * P.bytesOf et ≤ 140737488351232 := by
      have h1 : ((elems.map (·.1)).length + (rest.map (·.1)).length) * P.bytesOf et ≤ reachBytes := hw _ (by
       rw [DataW.weights]
       simp only [hu]
       exact List.mem_cons_self)
      have h2 : len * P.bytesOf et ≤ ((elems.map (·.1)).length + (rest.map (·.1)).length) * P.bytesOf et := Nat.mul_le_mul_right _ (by simp; omega)
      simpa [reachBytes] using Nat.le_trans h2 h1
     have hl1 : len ≤ 140737488351232 := Nat.le_trans (by simpa using Nat.mul_le_mul_left len h5) hlb
     have hl2 : len * e.low ≤ 140737488351232 := Nat.le_trans (Nat.mul_le_mul_left len h4) hlb
     refine ⟨l, ⟨rfl, by unfold big; omega, some a, cap, by rw [hll], by omega, ?_⟩, by omega, by rw [hll]; exact hl2, fun x hx => ?_⟩
     ·by_cases hl0 : l = []
      ·exact .inl hl0
      ·right
       have h0 : 0 < l.length := List.length_pos_iff.2 hl0
       -- the first cell
       obtain ⟨⟨c, hc1, hc2⟩, _⟩ := hp 0 _ (List.getElem?_eq_getElem h0)
       have hc0 : 0 < c.length := by rw [hc1.len]; omega
       have hcell := hc2 0 _ (List.getElem?_eq_getElem hc0)
       rw [show a.add (0 * e.cells + 0) = a by simp [Go.Addr.add]] at hcell
       have hadd : a.spot = none ∧ a.block < w.heap.size := by
        obtain ⟨bb, oo, ss⟩ := a
        simp only [World.cell?] at hcell
        cases ss with
        | none =>
         refine ⟨rfl, ?_⟩
         cases hh : w.heap[bb]? with
         | none => rw [hh] at hcell; cases hcell
         | some ob => exact (Array.getElem?_eq_some_iff.1 hh).1
        | some s =>
         split at hcell
         ·simp at hcell
         ·cases hcell
       obtain ⟨bb, oo, ss⟩ := a
       obtain ⟨hs, hbb⟩ := hadd
       simp only at hs hbb
       subst hs
       obtain ⟨cc, g1, g2⟩ := repL_of (Z := Z) (w := w) (b := bb) (o := oo) l 0 fun i y hy => by
        obtain ⟨⟨c, k1, k2⟩, _⟩ := hp i y hy
        exact ⟨c, k1, fun j u hu => by have := k2 j u hu; rw [aad] at this; rwa [Nat.zero_add]⟩
       exact ⟨bb, oo, cc, rfl, hZ bb hbb, g1, fun j u hu => by have := g2 j u hu; rwa [Nat.zero_mul, Nat.zero_add] at this⟩
     ·obtain ⟨i, hi⟩ := List.getElem?_of_mem hx
      exact (hp i x hi).2
   ·rename_i fs hu
    simp only [Bool.and_eq_true] at h
    have hc := Nat.eq_of_beq_eq_true h.1
    obtain ⟨xs, m, _, rfl, hcl, hxl, hf⟩ := DataW.trod_struct hu hx
    have := ih _ (.inr (fs.toList, 0)) h.2 (fuel := m) (cs := cs) (xs := xs) (by simpa using hxl) (by rw [hcl, hc]; simp) (fun i f hi => hf i f (by simpa using hi)) (fun m hm => hw m (by
     rw [DataW.weights]
     simp only [hu]
     exact hm))
    simpa using this
   ·cases h
  | inr p =>
   obtain ⟨fs, off⟩ := p
   intro fuel cs xs hxs hcs hf hw
   match fs, hxs, hf, hw, h with
   | [], _, _, _, h => simp [fitB] at h
   | [f], hxs, hf, hw, h =>
    simp only [fitB, Bool.and_eq_true] at h
    obtain ⟨⟨h1, h2⟩, h3⟩ := h
    have h1 := Nat.eq_of_beq_eq_true h1
    have h3 := Nat.eq_of_beq_eq_true h3
    obtain ⟨x, rfl⟩ : ∃ x, xs = [x] := by
     match xs, hxs with
     | [x], _ => exact ⟨x, rfl⟩
    have hx := hf 0 f rfl
    rw [h1, List.take_of_length_le (by simp; omega)] at hx
    exact ih τ (.inl f.type) h2 hx (fun m hm => hw m (by simpa [DataW.weightsEach] using hm))
   | f :: g :: fs, hxs, hf, hw, h =>
    cases τ <;> try (simp [fitB] at h; done)
    rename_i a b _
    simp only [fitB, Bool.and_eq_true] at h
    obtain ⟨⟨⟨h1, h2⟩, h3⟩, h4⟩ := h
    have h1 := Nat.eq_of_beq_eq_true h1
    have h3 := Nat.eq_of_beq_eq_true h3
    match xs, hxs with
    | x :: xs, hxs =>
     have hx := hf 0 f rfl
     rw [h1] at hx
     obtain ⟨y, hy, hoy⟩ := ih a (.inl f.type) h2 (x := x) hx (fun m hm => hw m (by simp [DataW.weightsEach]; exact .inl hm))
     obtain ⟨z, hz, hoz⟩ := ih b (.inr (g :: fs, off + a.cells)) h4 (fuel := fuel) (cs := cs) (xs := xs) (by simpa using hxs) (by rw [hcs]; simp only [Ty.cells]; omega) (fun i f' hi => by have := hf (i + 1) f' (by simpa using hi); simpa using this) (fun m hm => hw m (by
      simp only [List.map_cons, DataW.weightsEach, List.mem_append]
      simp only [List.map_cons, DataW.weightsEach, List.mem_append] at hm
      exact .inr hm))
     refine ⟨(y, z), ⟨_, _, [], [], ?_, rfl, hy, hz⟩, hoy, hoz⟩
     rw [h3, ← List.drop_drop, List.take_append_drop]
theorem weights_of {H : Type} {P : Program} {t : TypeId} {x : DataW H} : ∀ {ts : List TypeId} {ds : List (DataW H)} {j : Nat}, (DataW.weightsEach P ts ds).all (· ≤ reachBytes) = true → ts[j]? = some t → ds[j]? = some x → ∀ n ∈ x.weights P t, n ≤ reachBytes := by
 intro ts
 induction ts with
 | nil => intro ds j _ h; simp at h
 | cons a ts ih =>
  intro ds j hw ht hd n hn
  match ds with
  | [] => simp at hd
  | d :: ds =>
   rw [DataW.weightsEach, List.all_append, Bool.and_eq_true] at hw
   cases j with
   | zero =>
    simp at ht hd
    subst ht; subst hd
    simpa using List.all_eq_true.1 hw.1 n hn
   | succ j => exact ih hw.2 (by simpa using ht) (by simpa using hd) n hn
def argFitB (P : Program) (τ : Ty) (t : Nat) : Bool := fitB P 60 τ (.inl t) && (match P.underlying t with | some (.struct _) => !τ.one | _ => τ.one)
theorem arg_open (hZ : ∀ b, b < w.heap.size → Z b) {H : Type} {enc : TypeId × Value → H} {τ : Ty} {t : Nat} (hfit : argFitB P τ t = true) {r : Reach} {base : Nat} {v : Value} {x : DataW H} {ps : List MemPlace} {ts : List TypeId} {ds : List (DataW H)} {j : Nat}
 (hsz : (DataW.weightsEach P ts ds).all (· ≤ reachBytes) = true) (hj : ts[j]? = some t) (hd : ds[j]? = some x) (hv : Value.okWide P w r base t v) (h : DataW.Trod enc P w 0 (fun _ => true) true t v x ps) :
 ∃ y, ArgRep Z w false τ y v [] ∧ okT τ y := by
 unfold argFitB at hfit
 rw [Bool.and_eq_true] at hfit
 obtain ⟨fuel, hf⟩ := h
 have hwt : ∀ n ∈ x.weights P t, n ≤ reachBytes := weights_of hsz hj hd
 obtain ⟨y, hy, ho⟩ := fit_ok (P := P) hZ 60 τ (.inl t) hfit.1 hf hwt
 refine ⟨y, ⟨v.cells.toList, ?_, hy⟩, ho⟩
 have h2 := hfit.2
 have h1 : fitB P (59 + 1) τ (.inl t) = true := hfit.1
 unfold fitB at h1
 split at h1
 ·rename_i hu
  rw [hu] at h2
  obtain ⟨c, rfl⟩ := WideShapes.okWide_bool hu hv
  rw [show (!Ty.bool.one) = false from rfl]; rfl
 ·rename_i k' k hu
  obtain ⟨c, rfl⟩ := WideShapes.okWide_int hu hv
  rfl
 ·rename_i hu
  obtain ⟨c, rfl⟩ := WideShapes.okWide_string hu hv
  rfl
 ·rename_i et e hu
  obtain ⟨a, len, cap, rfl⟩ := WideShapes.okWide_slice hu hv
  rfl
 ·rename_i fs hu
  rw [hu] at h2
  obtain ⟨cs, rfl, _⟩ := WideShapes.okWide_struct hu hv
  simp only at h2
  rw [h2]
  simp [IsV, Value.cells]
 ·cases h1
end
end Go.Proofs.Ytcefbdknoelacaa.A

-- YtcefbdknoelacaaTb
set_option linter.unusedVariables false
set_option linter.unusedSimpArgs false
namespace Go.Proofs.Ytcefbdknoelacaa.A
open Go
def zrepB : LV → Value → Bool
 | .v .bool b, .bool c => b == c
 | .v (.int k) n, .int k' m => decide (k' = k) && decide (m = n) && decide (k.min ≤ n) && decide (n ≤ k.max)
 | .v .str l, .string s => decide (s.data.toList = l) && decide (l.length ≤ big)
 | .nils, .slice none 0 0 => true
 | .nilm, .map none => true
 | .nilp, .pointer none => true
 | .junk, _ => true
 | _, _ => false
def zrepsB : List LV → List Value → Bool
 | [], [] => true
 | l :: ls, c :: cs => zrepB l c && zrepsB ls cs
 | _, _ => false
def aggB : Value → Bool
 | .agg _ => true
 | .tuple _ => false
 | _ => false
def oneFitsB (P : Program) (t : Nat) : Ty → Bool
 | .int k => (match P.underlying t with | some (.int k') => decide (k' = k) | _ => false)
 | .bool => (match P.underlying t with | some .bool => true | _ => false)
 | .str => (match P.underlying t with | some .string => true | _ => false)
 | _ => false
def eqFB (P : Program) : Nat → List Go.Field → Ty → Bool
 | _, [], _ => false
 | off, [f], τ => decide (f.name ≠ "_") && Nat.beq f.offset off && oneFitsB P f.type τ
 | off, f :: g :: fs, .pair a b => decide (f.name ≠ "_") && Nat.beq f.offset off && oneFitsB P f.type a && eqFB P (off + 1) (g :: fs) b
 | _, _, _ => false
def descFitsB (i : TI) (d : TypeDesc) : Bool :=
 match i.ty, d with
 | .int k, .int k' => decide (k' = k)
 | .int _, _ => false
 | .bool, .bool => true
 | .bool, _ => false
 | .str, .string => true
 | .str, _ => false
 | .sl _, .slice e => Nat.beq e i.elem
 | .sl _, _ => false
 | .map _ _, .map k e => Nat.beq k i.key && Nat.beq e i.elem
 | .map _ _, _ => false
 | _, _ => true
def fieldsB : List Go.Field → List (Nat × Nat) → Bool
 | [], [] => true
 | f :: fs, p :: ps => Nat.beq f.offset p.1 && Nat.beq f.type p.2 && fieldsB fs ps
 | _, _ => false
def rowOkB (P : Program) (t : Nat) (i : TI) : Bool :=
 (match P.info? t with
  | some inf => Nat.beq inf.size i.ty.cells && Nat.beq inf.bytes i.bytes && (match inf.zero with | some z => (aggB z == i.agg) && zrepsB i.zero z.cells.toList && (i.agg || (match z with | .tuple _ => false | _ => true)) | none => false)
  | none => false) &&
 (i.agg || i.ty.one) && Nat.beq i.zero.length i.ty.cells && Nat.ble i.bytes 128 &&
 (match i.agg with
  | true => (match P.underlying t with
   | some (.struct fs) => (fs.toList.mapM (fun f => (P.info? f.type).map fun i => (f.offset, i.size))).isSome && (!i.ty.eqB || (eqFB P 0 fs.toList i.ty && !(P.eqGuardType P.depth t))) && !(P.stoodInHeld t) && fieldsB fs.toList i.fields
   | _ => false)
  | false => (match P.underlying t with | some d => plainDesc d && descFitsB i d | none => false))
section
variable {P : Program}
theorem zrep_of : ∀ {l : LV} {c : Value}, zrepB l c = true → ZRep l c := by
 intro l c h
 unfold zrepB at h
 split at h
 ·rename_i b c
  have : b = c := by simpa using h
  subst this
  rfl
 ·simp only [Bool.and_eq_true, decide_eq_true_eq] at h
  obtain ⟨⟨⟨rfl, rfl⟩, h3⟩, h4⟩ := h
  exact ⟨rfl, h3, h4⟩
 ·rename_i l s
  simp only [Bool.and_eq_true, decide_eq_true_eq] at h
  obtain ⟨h1, h2⟩ := h
  subst h1
  exact ⟨rfl, h2⟩
 ·rfl
 ·rfl
 ·rfl
 ·trivial
 ·cases h
theorem zreps_of : ∀ {ls : List LV} {cs : List Value}, zrepsB ls cs = true → All2 ZRep ls cs
 | [], [], _ => trivial
 | l :: ls, c :: cs, h => by
  simp only [zrepsB, Bool.and_eq_true] at h
  exact ⟨zrep_of h.1, zreps_of h.2⟩
 | [], _ :: _, h => by cases h
 | _ :: _, [], h => by cases h
theorem oneFits_of {t : Nat} {τ : Ty} (h : oneFitsB P t τ = true) : oneFits P t τ := by
 cases τ <;> try (cases h; done)
 all_goals
  simp only [oneFitsB] at h
  split at h
 ·rename_i hu; exact hu
 ·cases h
 ·rename_i k' hu
  have h := of_decide_eq_true h
  subst h
  exact hu
 ·cases h
 ·rename_i hu; exact hu
 ·cases h
theorem eqF_of : ∀ {fs : List Go.Field} {off : Nat} {τ : Ty}, eqFB P off fs τ = true → EqF P off fs τ
 | [], off, τ, h => by simp [eqFB] at h
 | [f], off, τ, h => by
  simp only [eqFB, Bool.and_eq_true, decide_eq_true_eq] at h
  obtain ⟨⟨h1, h2⟩, h3⟩ := h
  cases τ <;> exact ⟨h1, Nat.eq_of_beq_eq_true h2, oneFits_of h3⟩
 | f :: g :: fs, off, τ, h => by
  cases τ <;> try (simp [eqFB] at h; done)
  simp only [eqFB, Bool.and_eq_true, decide_eq_true_eq] at h
  obtain ⟨⟨⟨h1, h2⟩, h3⟩, h4⟩ := h
  exact ⟨h1, Nat.eq_of_beq_eq_true h2, oneFits_of h3, eqF_of h4⟩
theorem descFits_of {i : TI} {d : TypeDesc} (h : descFitsB i d = true) : descFits i d := by
 unfold descFitsB at h
 unfold descFits
 generalize i.ty = τ at h ⊢
 cases τ <;> cases d <;> first
  | exact False.elim (Bool.false_ne_true h)
  | exact trivial
  | exact rfl
  | exact congrArg TypeDesc.int (of_decide_eq_true h)
  | exact congrArg TypeDesc.slice (Nat.eq_of_beq_eq_true h)
  | exact (by
   have h := (Bool.and_eq_true _ _).mp h
   exact congr (congrArg TypeDesc.map (Nat.eq_of_beq_eq_true h.1)) (Nat.eq_of_beq_eq_true h.2))
theorem fields_of : ∀ {fs : List Go.Field} {ps : List (Nat × Nat)}, fieldsB fs ps = true → fs.length = ps.length ∧ ∀ (f o ft : Nat), ps[f]? = some (o, ft) → ∃ fd : Go.Field, fs[f]? = some fd ∧ fd.offset = o ∧ fd.type = ft
 | [], [], _ => ⟨rfl, by simp⟩
 | f :: fs, p :: ps, h => by
  simp only [fieldsB, Bool.and_eq_true] at h
  obtain ⟨⟨h1, h2⟩, h3⟩ := h
  obtain ⟨g1, g2⟩ := fields_of h3
  refine ⟨by simp [g1], fun k o ft hk => ?_⟩
  cases k with
  | zero =>
   simp only [List.getElem?_cons_zero, Option.some.injEq] at hk
   subst hk
   exact ⟨f, rfl, Nat.eq_of_beq_eq_true h1, Nat.eq_of_beq_eq_true h2⟩
  | succ k => simpa using g2 k o ft (by simpa using hk)
 | [], _ :: _, h => by cases h
 | _ :: _, [], h => by cases h
theorem rowOk_of {t : Nat} {i : TI} (h : rowOkB P t i = true) : TyOk P t i := by
 unfold rowOkB at h
 simp only [Bool.and_eq_true] at h
 obtain ⟨⟨⟨⟨h1, h2⟩, h3⟩, h4⟩, h5⟩ := h
 have hagg : i.agg = true → ∃ fs : Array Go.Field, P.underlying t = some (.struct fs) ∧ (fs.toList.mapM (fun f => (P.info? f.type).map fun i => (f.offset, i.size))).isSome = true ∧ (!i.ty.eqB || (eqFB P 0 fs.toList i.ty && !(P.eqGuardType P.depth t))) = true ∧ P.stoodInHeld t = false ∧ fieldsB fs.toList i.fields = true := fun ha => by
  rw [ha] at h5
  simp only at h5
  split at h5
  ·rename_i fs hu
   simp only [Bool.and_eq_true, Bool.not_eq_true'] at h5
   obtain ⟨⟨⟨a1, a2⟩, a3⟩, a4⟩ := h5
   exact ⟨fs, hu, a1, a2, a3, a4⟩
  ·cases h5
 refine ⟨?_, fun ha => ?_, Nat.eq_of_beq_eq_true h3, Nat.le_of_ble_eq_true h4, fun ha => ?_, fun ha he => ?_, fun ha he => ?_, ?_⟩
 ·split at h1
  ·rename_i inf hi
   simp only [Bool.and_eq_true] at h1
   obtain ⟨⟨g1, g2⟩, g3⟩ := h1
   split at g3
   ·rename_i z hz
    simp only [Bool.and_eq_true] at g3
    obtain ⟨⟨k1, k2⟩, k3⟩ := g3
    refine ⟨inf, z, hi, Nat.eq_of_beq_eq_true g1, Nat.eq_of_beq_eq_true g2, hz, ?_, zreps_of k2⟩
    have k1 : aggB z = i.agg := by simpa using k1
    rw [← k1]
    cases z <;> first | rfl | simp [aggB, IsV, Value.cells]
   ·cases g3
  ·cases h1
 ·rw [ha] at h2; simpa using h2
 ·obtain ⟨fs, a1, a2, _⟩ := hagg ha
  obtain ⟨pl, hp⟩ := Option.isSome_iff_exists.1 a2
  exact ⟨fs, pl, a1, hp⟩
 ·obtain ⟨fs, a1, _, a3, _⟩ := hagg ha
  rw [he] at a3
  simp only [Bool.not_true, Bool.false_or, Bool.and_eq_true] at a3
  exact ⟨fs, a1, eqF_of a3.1⟩
 ·obtain ⟨fs, a1, _, a3, _⟩ := hagg ha
  rw [he] at a3
  simp only [Bool.not_true, Bool.false_or, Bool.and_eq_true] at a3
  simpa using a3.2
 ·cases ha : i.agg with
  | true =>
   obtain ⟨fs, a1, _, _, a4, a5⟩ := hagg ha
   obtain ⟨f1, f2⟩ := fields_of a5
   exact ⟨fs, a1, a4, fun f o ft hf => by obtain ⟨fd, q1, q2⟩ := f2 f o ft hf; exact ⟨fd, by simpa using q1, q2⟩, by simpa using f1⟩
  | false =>
   rw [ha] at h5
   simp only at h5
   split at h5
   ·rename_i d hu
    simp only [Bool.and_eq_true] at h5
    exact ⟨d, hu, h5.1, descFits_of h5.2⟩
   ·cases h5
def tabOkB (P : Program) (l : List (Nat × Option TI)) : Bool := l.all fun p => match p.2 with | some i => rowOkB P p.1 i | none => true
theorem tabOk_of {l : List (Nat × Option TI)} (h : tabOkB P l = true) : TabOk P (ofL none l) := by
 intro t i hi
 induction l with
 | nil => cases hi
 | cons p l ih =>
  unfold tabOkB at h
  rw [List.all_cons, Bool.and_eq_true] at h
  obtain ⟨k, x⟩ := p
  rw [ofL_cons] at hi
  by_cases hk : t = k
  ·subst hk
   rw [upd_same] at hi
   subst hi
   exact rowOk_of h.1
  ·rw [upd_other _ _ hk] at hi
   exact ih h.2 hi
end
end Go.Proofs.Ytcefbdknoelacaa.A

-- YtcefbdknoelacaaLw
set_option linter.unusedVariables false
set_option linter.unusedSimpArgs false
namespace Go.Proofs.Ytcefbdknoelacaa.A
open Go
section
variable {P : Program} {tab : Nat → Option TI}
theorem TOk.nil : TOk P (ofL none []) := fun _ _ h => by cases h
theorem TOk.cons {f : Nat} {F : FunE} {l : List (Nat × Option FunE)} (h : FunC P f F) (hl : TOk P (ofL none l)) : TOk P (ofL none ((f, some F) :: l)) := by
 intro g G hg
 rw [ofL_cons] at hg
 by_cases e : g = f
 ·subst e
  rw [upd_same] at hg
  cases hg
  exact h
 ·rw [upd_other _ _ e] at hg
  exact hl g G hg
theorem funC_of (hm : P.follows .mixedOrders = true) (hT : TabOk P tab) {f : FuncId} {fn : Func} (hf : P.funcs[f]? = some fn) {T : Nat → Nat → Option FunE} {ann : Nat → Option (List Keep)} {ins : List (Bool × Ty)} {outs : List Ty} {n : Nat} (hC : ∀ k, TOk P (T k)) (hk : fnOkB fn ins = true) (hn : (fn.name == "runtime.NumGoroutine") = false) : FunC P f (fnE tab T ann fn ins outs n) := by
 refine ⟨fun _ => fnE_ok hm hT hf (fun k _ => way_ok hT (hC k)) hk, fun _ _ h => (by cases h), fn, hf, hn, ?_⟩
 simp only [fnOkB, Bool.and_eq_true] at hk
 have := hk.1.1.2
 cases hb : fn.body with
 | none => rw [hb] at this; cases this
 | some _ => rfl
theorem FunC.spec {f : FuncId} {ins : List (Bool × Ty)} {outs : List Ty} {F : Nat → (ins.foldr (fun p t => Ty.pair p.2 t) .unit).den → Option ((outs ++ (ins.filter (·.1)).map (·.2)).foldr Ty.pair .unit).den} {g : (ins.foldr (fun p t => Ty.pair p.2 t) .unit).den → Option ((outs ++ (ins.filter (·.1)).map (·.2)).foldr Ty.pair .unit).den}
 (hF : ∀ n, FunC P f { ins := ins, outs := outs, f := F n }) (h : ∀ x r, g x = some r → ∃ n, F n x = some r) : FunC P f { ins := ins, outs := outs, f := g } := by
 refine ⟨fun _ Z w xs vs Fs r h1 h2 h3 h4 h5 => ?_, fun _ _ h => (by cases h), (hF 0).en⟩
 obtain ⟨n, hn⟩ := h xs r h5
 exact ((hF n).ok' rfl Z w xs vs Fs r h1 h2 h3 h4 hn).mono fun e w' ⟨v, Z', us, Fr, Fi, he, p⟩ => ⟨v, Z', us, Fr, Fi, he, ⟨p.kp, p.zs, p.zl, p.zi, p.res, p.v, p.io, p.nd, p.nz⟩⟩
theorem law_end {Z : Nat → Prop} {w w' : World} {F : FunE} {vs us : List Value} {v : Value} {Z' : Nat → Prop} {Fr Fi : List Nat} {r : ((F.outs ++ (F.ins.filter (·.1)).map (·.2)).foldr Ty.pair .unit).den} (p : Post Z w [] F vs r v w' Z' us Fr Fi) {τs : List Ty} (ho : F.outs = [.bool]) {b : Bool} (hb : ResL Z' w' F.outs (splitRes F.outs _ r).1 us Fr → ResL Z' w' [.bool] (b, ()) us Fr) :
 v = .bool b ∧ RowKit.Below w.heap.size w w' := by
 refine ⟨?_, p.kp.os, p.kp.tape, p.kp.output, p.kp.size, fun k hk => p.kp.block k hk (by simp)⟩
 obtain ⟨u, us', F1, F2, e1, e2, ⟨cs, e3, e4⟩, e5, e6⟩ := hb p.res
 have e3 : cs = [u] := e3
 subst e3
 obtain ⟨e7, _⟩ := e4
 rw [p.v, e1, e5]
 simpa [tupOf] using e7
end
end Go.Proofs.Ytcefbdknoelacaa.A

-- YtcefbdknoelacaaShelf
namespace Go.Proofs
open Go.Shelf
def Try.lays106_ren : Go.Shelf.Ren := ⟨fun | 106 => 110 | 213 => 121 | 265 => 134 | n => n, fun | 9 => 9 | 3 => 3 | n => n, fun | n => n⟩
theorem Try.lays106 : Go.Proofs.Lays.n106 Try.prog Try.lays106_ren := {
 mixed := by kernel_rfl
 f106 := Try.func110.trans (congrArg some (by kernel_rfl))
 f213 := Try.func121.trans (congrArg some (by kernel_rfl))
 f265 := Try.func134.trans (congrArg some (by kernel_rfl))
 t3 := Try.underlying3
 a3 := Try.isAgg3
 z3 := Try.sizeOf3
 v3 := Try.zeroValue3
 t9 := Try.underlying9
 a9 := Try.isAgg9
 z9 := Try.sizeOf9
 v9 := Try.zeroValue9 }
open Go.RowKit in
theorem Try.strings_Compare (a b : ByteArray) (w : World) :
 Calls Try.prog 110 #[.string a, .string b] w fun e w' => e = .returned (.int .i64 (Lib.compareBytes a.data.toList b.data.toList)) ∧ w' = w := Any.strings_Compare Try.lays106 a b w
def Try.lays189_ren : Go.Shelf.Ren := ⟨fun | 189 => 104 | 125 => 119 | 257 => 118 | 128 => 132 | 129 => 133 | 294 => 123 | 295 => 124 | 296 => 125 | 297 => 126 | 298 => 127 | 299 => 128 | 216 => 129 | 300 => 130 | 301 => 131 | 328 => 135 | 329 => 136 | 330 => 137 | 331 => 138 | 332 => 139 | 215 => 140 | 343 => 141 | n => n, fun | 28 => 75 | 3 => 3 | 46 => 102 | 0 => 0 | 51 => 166 | 53 => 168 | 4 => 4 | 183 => 159 | 182 => 158 | 131 => 142 | 5 => 5 | 9 => 9 | 218 => 169 | 222 => 173 | 228 => 175 | 229 => 85 | n => n, fun | n => n⟩
theorem Try.lays189 : Go.Proofs.Lays.n189 Try.prog Try.lays189_ren := {
 mixed := by kernel_rfl
 f125 := Try.func119.trans (congrArg some (by kernel_rfl))
 f128 := Try.func132.trans (congrArg some (by kernel_rfl))
 f129 := Try.func133.trans (congrArg some (by kernel_rfl))
 f189 := Try.func104.trans (congrArg some (by kernel_rfl))
 f215 := Try.func140.trans (congrArg some (by kernel_rfl))
 f216 := Try.func129.trans (congrArg some (by kernel_rfl))
 f257 := Try.func118.trans (congrArg some (by kernel_rfl))
 f294 := Try.func123.trans (congrArg some (by kernel_rfl))
 f295 := Try.func124.trans (congrArg some (by kernel_rfl))
 f296 := Try.func125.trans (congrArg some (by kernel_rfl))
 f297 := Try.func126.trans (congrArg some (by kernel_rfl))
 f298 := Try.func127.trans (congrArg some (by kernel_rfl))
 f299 := Try.func128.trans (congrArg some (by kernel_rfl))
 f300 := Try.func130.trans (congrArg some (by kernel_rfl))
 f301 := Try.func131.trans (congrArg some (by kernel_rfl))
 f328 := Try.func135.trans (congrArg some (by kernel_rfl))
 f329 := Try.func136.trans (congrArg some (by kernel_rfl))
 f330 := Try.func137.trans (congrArg some (by kernel_rfl))
 f331 := Try.func138.trans (congrArg some (by kernel_rfl))
 f332 := Try.func139.trans (congrArg some (by kernel_rfl))
 f343 := Try.func141.trans (congrArg some (by kernel_rfl))
 t0 := Try.underlying0
 a0 := Try.isAgg0
 z0 := Try.sizeOf0
 v0 := Try.zeroValue0
 t3 := Try.underlying3
 a3 := Try.isAgg3
 z3 := Try.sizeOf3
 v3 := Try.zeroValue3
 t4 := Try.underlying4
 a4 := Try.isAgg4
 z4 := Try.sizeOf4
 v4 := Try.zeroValue4
 t5 := Try.underlying5
 a5 := Try.isAgg5
 z5 := Try.sizeOf5
 v5 := Try.zeroValue5
 t9 := Try.underlying9
 a9 := Try.isAgg9
 z9 := Try.sizeOf9
 v9 := Try.zeroValue9
 t28 := Try.underlying75
 a28 := Try.isAgg75
 z28 := Try.sizeOf75
 v28 := Try.zeroValue75
 t46 := Try.underlying102
 a46 := Try.isAgg102
 z46 := Try.sizeOf102
 v46 := Try.zeroValue102
 t51 := Try.underlying166
 a51 := Try.isAgg166
 z51 := Try.sizeOf166
 v51 := Try.zeroValue166
 t53 := Try.underlying168
 a53 := Try.isAgg168
 z53 := Try.sizeOf168
 v53 := Try.zeroValue168
 t131 := Try.underlying142
 a131 := Try.isAgg142
 z131 := Try.sizeOf142
 v131 := Try.zeroValue142
 t182 := Try.underlying158
 a182 := Try.isAgg158
 z182 := Try.sizeOf158
 v182 := Try.zeroValue158
 t183 := Try.underlying159
 a183 := Try.isAgg159
 z183 := Try.sizeOf159
 v183 := Try.zeroValue159
 t218 := Try.underlying169
 a218 := Try.isAgg169
 z218 := Try.sizeOf169
 v218 := Try.zeroValue169
 t222 := Try.underlying173
 a222 := Try.isAgg173
 z222 := Try.sizeOf173
 v222 := Try.zeroValue173
 t228 := Try.underlying175
 a228 := Try.isAgg175
 z228 := Try.sizeOf175
 v228 := Try.zeroValue175
 t229 := Try.underlying85
 a229 := Try.isAgg85
 z229 := Try.sizeOf85
 v229 := Try.zeroValue85 }
open Go.Sort Go.RowKit in
theorem Try.slices_Sort_int (blk off cap : Nat) (zs : List Int) (w : World) (hH : Holds (Value.int .i64) w blk off zs.toArray) (hblk : blk < w.heap.size) (hsz : zs.length < 4611686018427387904) :
 Calls Try.prog 104 #[.slice (some ⟨blk, off, none⟩) zs.length cap] w fun e w' =>
  e = .returned (.tuple #[]) ∧ ∃ n os, w' = grow (putRow (Value.int .i64) (Sort.ahead w n) blk off (zs.mergeSort fun x y => decide (x ≤ y)).toArray) os := Any.slices_Sort_int Try.lays189 blk off cap zs w hH hblk hsz
open Go.RowKit Go.Sort in
theorem Try.slices_Sort_int_none (p : Option Addr) (cap : Nat) (w : World) :
 Calls Try.prog 104 #[.slice p 0 cap] w fun e w' => e = .returned (.tuple #[]) ∧ w' = w := Any.slices_Sort_int_none Try.lays189 p cap w
end Go.Proofs

-- YtcefbdknoelacaaSh
set_option linter.unusedVariables false
set_option linter.unusedSimpArgs false
namespace Go.Proofs.Ytcefbdknoelacaa.A
open Go Go.Sort
section
variable {P : Program} {w w' : World} {Z : Nat → Prop}

theorem ints_rep {k : IntKind} : ∀ {xs : List Int} {c : List Value} {F : List Nat}, RepL (fun (x : Int) c F => Rep Z w (.int k) x c F) xs c F ↔ (c = xs.map (Value.int k) ∧ F = [] ∧ ∀ x ∈ xs, k.min ≤ x ∧ x ≤ k.max)
 | [], c, F => ⟨fun h => ⟨h.1, h.2, by simp⟩, fun h => ⟨h.1, h.2.1⟩⟩
 | x :: xs, c, F => by
  constructor
  ·rintro ⟨c1, c2, F1, F2, rfl, rfl, ⟨h1, h2, h3⟩, h4⟩
   obtain ⟨q1, q2, q3⟩ := ints_rep.1 h4
   subst h1; subst h2; subst q1; subst q2
   refine ⟨rfl, rfl, fun y hy => ?_⟩
   rcases List.mem_cons.1 hy with rfl | hy
   ·exact h3
   ·exact q3 y hy
  ·rintro ⟨rfl, rfl, h⟩
   exact ⟨[_], _, [], [], rfl, rfl, ⟨rfl, rfl, h x (by simp)⟩, ints_rep.2 ⟨rfl, rfl, fun y hy => h y (by simp [hy])⟩⟩
theorem ints_vec {k : IntKind} {xs : List Int} {v : Value} {F : List Nat} (h : Rep Z w (.vec (.int k)) xs [v] F) :
 xs.length ≤ 1099511627776 ∧ (∀ x ∈ xs, k.min ≤ x ∧ x ≤ k.max) ∧ ((xs = [] ∧ F = [] ∧ v = .slice none 0 0) ∨ ∃ b o cap blk el, v = .slice (some ⟨b, o, none⟩) xs.length cap ∧ xs.length ≤ cap ∧ F = [b] ∧ w.heap[b]? = some (.cells blk el (0, 0)) ∧ o + cap ≤ blk.size ∧ ∀ (j : Nat) (x : Int), xs[j]? = some x → blk[o + j]? = some (.int k x)) := by
 obtain ⟨h1, a, cap, c, F1, F2, h2, h3, h4, h5, h6⟩ := h
 obtain ⟨q1, q2, q3⟩ := ints_rep.1 h5
 subst q1; subst q2
 refine ⟨h1, q3, ?_⟩
 rcases h6 with ⟨rfl, rfl, h7, rfl⟩ | ⟨b, o, blk, el, rfl, h7, h8, h9, rfl⟩
 ·have : xs = [] := List.eq_nil_of_length_eq_zero h7
  subst this
  exact .inl ⟨rfl, h4, by simpa using h2⟩
 ·refine .inr ⟨b, o, cap, blk, el, by simpa using h2, h3, by simpa using h4, h7, by simpa [Ty.cells] using h8, fun j x hx => h9 j _ (by simp [hx])⟩
theorem ints_mk {k : IntKind} {xs : List Int} {b o cap : Nat} {blk : Array Value} {el : TypeId} (h1 : xs.length ≤ 1099511627776) (h2 : ∀ x ∈ xs, k.min ≤ x ∧ x ≤ k.max) (h3 : xs.length ≤ cap) (h4 : w.heap[b]? = some (.cells blk el (0, 0))) (h5 : o + cap ≤ blk.size) (h6 : ∀ (j : Nat) (x : Int), xs[j]? = some x → blk[o + j]? = some (.int k x)) :
 Rep Z w (.vec (.int k)) xs [.slice (some ⟨b, o, none⟩) xs.length cap] [b] := by
 refine ⟨h1, _, cap, _, [b], [], rfl, h3, rfl, ints_rep.2 ⟨rfl, rfl, h2⟩, .inr ⟨b, o, blk, el, rfl, h4, by simpa [Ty.cells] using h5, fun j u hu => ?_, rfl⟩⟩
 rw [List.getElem?_map] at hu
 cases hx : xs[j]? with
 | none => rw [hx] at hu; cases hu
 | some x => rw [hx] at hu; cases hu; exact h6 j x hx
theorem holds_of {k : IntKind} {xs : List Int} {b o : Nat} {blk : Array Value} {el : TypeId} (h : w.heap[b]? = some (.cells blk el (0, 0))) (hb : ∀ (j : Nat) (x : Int), xs[j]? = some x → blk[o + j]? = some (.int k x)) : Holds (Value.int k) w b o xs.toArray := by
 intro j hj
 have hj : j < xs.length := by simpa using hj
 refine ⟨?_, ?_⟩
 ·simp only [World.cell?, h]
  rw [hb j xs[j] (by simp [hj])]
  simp [hj]
 ·simp only [World.frozen?, h]
  simp
theorem put_row {k : IntKind} {xs : List Int} {b o : Nat} {blk : Array Value} {el : TypeId} (h : w.heap[b]? = some (.cells blk el (0, 0))) (ho : o + xs.length ≤ blk.size) :
 ∃ blk', (putRow (Value.int k) w b o xs.toArray).heap[b]? = some (.cells blk' el (0, 0)) ∧ blk'.size = blk.size ∧ (∀ (j : Nat) (x : Int), xs[j]? = some x → blk'[o + j]? = some (.int k x)) ∧ ∀ z, z ≠ b → (putRow (Value.int k) w b o xs.toArray).heap[z]? = w.heap[z]? := by
 refine ⟨putCells (Value.int k) o xs.toArray blk, ?_, by simp [putCells], fun j x hx => ?_, fun z hz => ?_⟩
 ·simp [putRow, mapBlock, Array.getElem?_modify, h, onCells]
 ·have hj := (List.getElem?_eq_some_iff.1 hx).1
  simp only [putCells, Array.getElem?_mapIdx]
  rw [Array.getElem?_eq_getElem (by omega)]
  simp only [Option.map_some, List.size_toArray]
  rw [if_pos (by omega), show o + j - o = j by omega]
  have := (List.getElem?_eq_some_iff.1 hx).2
  simp [hj, this]
 ·simp [putRow, mapBlock, Array.getElem?_modify, Ne.symm hz]

def sortI' (xs : List Int) : List Int := xs.mergeSort fun x y => decide (x ≤ y)
theorem rowOk_sort {f : FuncId} (h : ∀ (blk off cap : Nat) (zs : List Int) (w : World), Holds (Value.int .i64) w blk off zs.toArray → blk < w.heap.size → zs.length < 4611686018427387904 →
 Calls P f #[.slice (some ⟨blk, off, none⟩) zs.length cap] w fun e w' => e = .returned (.tuple #[]) ∧ ∃ n os, w' = Go.Sort.grow (putRow (Value.int .i64) (Sort.ahead w n) blk off (sortI' zs).toArray) os)
 (h0 : ∀ (p : Option Addr) (cap : Nat) (w : World), Calls P f #[.slice p 0 cap] w fun e w' => e = .returned (.tuple #[]) ∧ w' = w) : RowOk P f (.int .i64) (fun xs => some (sortI' xs)) := by
 intro Z w xs ys v F hZ hr hn hF hy
 cases hy
 have hl : (sortI' xs).length = xs.length := List.length_mergeSort _
 obtain ⟨q1, q2, ⟨rfl, rfl, rfl⟩ | ⟨b, o, cap, blk, el, rfl, q3, rfl, q5, q6, q7⟩⟩ := ints_vec hr
 ·refine (h0 none 0 w).mono ?_
  rintro e w' ⟨rfl, rfl⟩
  exact ⟨rfl, Kept.refl _ _, hl, by simpa [sortI'] using hr⟩
 ·have hb := (hF b (by simp)).2
  refine (h b o cap xs w (holds_of q5 q7) hb (by omega)).mono ?_
  rintro e w' ⟨rfl, n, os, rfl⟩
  obtain ⟨blk', p1, p2, p3, p4⟩ := put_row (k := .i64) (w := Sort.ahead w n) (xs := sortI' xs) (o := o) q5 (by rw [hl]; omega)
  have hsz : (putRow (Value.int .i64) (Sort.ahead w n) b o (sortI' xs).toArray).heap.size = w.heap.size := size_putRow _ _ _ _ _
  have get : ∀ z, z < w.heap.size → (Go.Sort.grow (putRow (Value.int .i64) (Sort.ahead w n) b o (sortI' xs).toArray) os).heap[z]? = (putRow (Value.int .i64) (Sort.ahead w n) b o (sortI' xs).toArray).heap[z]? := fun z hz => by
   simp only [Go.Sort.grow]
   rw [Array.getElem?_append, if_pos (by rw [hsz]; exact hz)]
  refine ⟨rfl, ⟨rfl, rfl, rfl, by simp only [Go.Sort.grow, Array.size_append]; omega, fun z hz hzF => ?_⟩, hl, ?_⟩
  ·rw [get z hz, p4 z (by simpa using hzF)]; rfl
  ·rw [← hl]
   exact ints_mk (by rw [hl]; exact q1) (fun x hx => q2 x (List.mem_mergeSort.1 hx)) (by rw [hl]; exact q3) (by rw [get b hb]; exact p1) (by rw [p2]; exact q6) p3

end
end Go.Proofs.Ytcefbdknoelacaa.A

-- YtcefbdknoelacaaK
set_option linter.unusedVariables false
set_option maxRecDepth 100000
namespace Go.Proofs.Ytcefbdknoelacaa.A
open Go
theorem follows : Try.prog.follows .mixedOrders = true := by kernel_rfl
theorem tab_ok : TabOk Try.prog tab := tabOk_of (by kernel_rfl)
theorem compare_less : ∀ a b : List UInt8, Lib.compareBytes a b = if Op.bytesLess a b = true then -1 else if Op.bytesLess b a = true then 1 else 0 := by
 intro a
 induction a with
 | nil => intro b; cases b <;> simp [Lib.compareBytes, Op.bytesLess]
 | cons x a ih =>
  intro b
  cases b with
  | nil => simp [Lib.compareBytes, Op.bytesLess]
  | cons y b =>
   have e1 : Op.bytesLess (x :: a) (y :: b) = (decide (x < y) || (x == y && Op.bytesLess a b)) := by rw [Op.bytesLess]
   have e2 : Op.bytesLess (y :: b) (x :: a) = (decide (y < x) || (y == x && Op.bytesLess b a)) := by rw [Op.bytesLess]
   rw [Lib.compareBytes, e1, e2]
   rcases Nat.lt_trichotomy x.toNat y.toNat with h | h | h
   ·have h1 : x < y := UInt8.lt_iff_toNat_lt.2 h
    simp [h1]
   ·have h3 : x = y := UInt8.toNat_inj.1 h
    subst h3
    have h2 : ¬ x < x := fun h' => by have := UInt8.lt_iff_toNat_lt.1 h'; omega
    simpa [h2] using ih b
   ·have h1 : y < x := UInt8.lt_iff_toNat_lt.2 h
    have h2 : ¬ x < y := fun h' => by have := UInt8.lt_iff_toNat_lt.1 h'; omega
    have h3 : ¬ x = y := fun h' => by subst h'; omega
    simp [h1, h2, h3]
theorem cmpS_range (a b : List UInt8) : IntKind.i64.min ≤ cmpS a b ∧ cmpS a b ≤ IntKind.i64.max := by
 have h1 : IntKind.i64.min = -9223372036854775808 := rfl
 have h2 : IntKind.i64.max = 9223372036854775807 := rfl
 rw [h1, h2]
 unfold cmpS
 split
 ·omega
 ·split <;> omega
theorem strings_Compare.ok (n : Nat) : FunC Try.prog 110 (strings_Compare.E n) := by
 refine ⟨fun _ Z w xs vs Fs r hZ hA hn hF hr => ?_, fun _ _ h => (by have h2 : (none : Option ((e : Ty) × (List e.den → Option (List e.den)))) = some _ := h; cases h2), Try.f110, Try.func110, by kernel_rfl, by kernel_rfl⟩
 obtain ⟨v0, vs0, F0, G0, rfl, rfl, ⟨c0, i0, q0⟩, v1, vs1, F1, G1, rfl, rfl, ⟨c1, i1, q1⟩, rfl, rfl⟩ := hA
 have i0 : c0 = [v0] := i0
 have i1 : c1 = [v1] := i1
 subst i0; subst i1
 obtain ⟨q0, rfl, l0⟩ := q0
 obtain ⟨q1, rfl, l1⟩ := q1
 simp only [List.cons.injEq, and_true] at q0 q1
 subst q0; subst q1
 have hr : some (cmpS xs.1 xs.2.1, ()) = some r := hr
 cases hr
 refine (Try.strings_Compare ⟨⟨xs.1⟩⟩ ⟨⟨xs.2.1⟩⟩ w).mono ?_
 rintro e w' ⟨rfl, rfl⟩
 refine ⟨_, Z, [.int .i64 (cmpS xs.1 xs.2.1)], [], [], rfl, Kept.refl _ _, fun _ h => h, hZ, fun _ h _ => .inl h, ?_, ?_, ?_, by simp, by simp⟩
 ·exact ⟨_, [], [], [], rfl, rfl, ⟨[_], rfl, rfl, rfl, cmpS_range _ _⟩, rfl, rfl⟩
 ·rw [compare_less]
  rfl
 ·rfl

theorem telemetry_parameter_1.ok (n : Nat) : FunC Try.prog 109 (telemetry_parameter_1.E n) := funC_of follows tab_ok Try.func109 (T := telemetry_parameter_1.T) (ann := telemetry_parameter_1.ann) (ins := telemetry_parameter_1.ins) (outs := telemetry_parameter_1.outs) (n := n) (fun k => TOk.cons (strings_Compare.ok k) (TOk.nil)) (by kernel_rfl) (by kernel_rfl)
theorem kit_In.ok (n : Nat) : FunC Try.prog 55 (kit_In.E n) := funC_of follows tab_ok Try.func55 (T := kit_In.T) (ann := kit_In.ann) (ins := kit_In.ins) (outs := kit_In.outs) (n := n) (fun k => TOk.nil) (by kernel_rfl) (by kernel_rfl)
theorem telemetry_Word.ok (n : Nat) : FunC Try.prog 60 (telemetry_Word.E n) := funC_of follows tab_ok Try.func60 (T := telemetry_Word.T) (ann := telemetry_Word.ann) (ins := telemetry_Word.ins) (outs := telemetry_Word.outs) (n := n) (fun k => TOk.nil) (by kernel_rfl) (by kernel_rfl)
theorem kit_First.ok (n : Nat) : FunC Try.prog 61 (kit_First.E n) := funC_of follows tab_ok Try.func61 (T := kit_First.T) (ann := kit_First.ann) (ins := kit_First.ins) (outs := kit_First.outs) (n := n) (fun k => TOk.nil) (by kernel_rfl) (by kernel_rfl)
theorem telemetry_span.ok (n : Nat) : FunC Try.prog 54 (telemetry_span.E n) := funC_of follows tab_ok Try.func54 (T := telemetry_span.T) (ann := telemetry_span.ann) (ins := telemetry_span.ins) (outs := telemetry_span.outs) (n := n) (fun k => TOk.nil) (by kernel_rfl) (by kernel_rfl)
theorem telemetry_checkDots.ok (n : Nat) : FunC Try.prog 62 (telemetry_checkDots.E n) := funC_of follows tab_ok Try.func62 (T := telemetry_checkDots.T) (ann := telemetry_checkDots.ann) (ins := telemetry_checkDots.ins) (outs := telemetry_checkDots.outs) (n := n) (fun k => TOk.cons (telemetry_span.ok k) (TOk.cons (kit_In.ok k) (TOk.nil))) (by kernel_rfl) (by kernel_rfl)
theorem telemetry_checkWords.ok (n : Nat) : FunC Try.prog 63 (telemetry_checkWords.E n) := funC_of follows tab_ok Try.func63 (T := telemetry_checkWords.T) (ann := telemetry_checkWords.ann) (ins := telemetry_checkWords.ins) (outs := telemetry_checkWords.outs) (n := n) (fun k => TOk.cons (telemetry_span.ok k) (TOk.cons (kit_In.ok k) (TOk.cons (telemetry_Word.ok k) (TOk.nil)))) (by kernel_rfl) (by kernel_rfl)
theorem telemetry_CheckParameters.ok (n : Nat) : FunC Try.prog 18 (telemetry_CheckParameters.E n) := funC_of follows tab_ok Try.func18 (T := telemetry_CheckParameters.T) (ann := telemetry_CheckParameters.ann) (ins := telemetry_CheckParameters.ins) (outs := telemetry_CheckParameters.outs) (n := n) (fun k => TOk.cons (kit_In.ok k) (TOk.cons (telemetry_Word.ok k) (TOk.cons (kit_First.ok k) (TOk.cons (telemetry_checkDots.ok k) (TOk.cons (telemetry_checkWords.ok k) (TOk.nil)))))) (by kernel_rfl) (by kernel_rfl)
theorem slices_BinarySearchFunc_string.ok (n : Nat) : FunC Try.prog 108 (slices_BinarySearchFunc_string.E n) := funC_of follows tab_ok Try.func108 (T := slices_BinarySearchFunc_string.T) (ann := slices_BinarySearchFunc_string.ann) (ins := slices_BinarySearchFunc_string.ins) (outs := slices_BinarySearchFunc_string.outs) (n := n) (fun k => TOk.cons (telemetry_parameter_1.ok k) (TOk.nil)) (by kernel_rfl) (by kernel_rfl)
theorem telemetry_parameter.ok (n : Nat) : FunC Try.prog 53 (telemetry_parameter.E n) := funC_of follows tab_ok Try.func53 (T := telemetry_parameter.T) (ann := telemetry_parameter.ann) (ins := telemetry_parameter.ins) (outs := telemetry_parameter.outs) (n := n) (fun k => TOk.cons (slices_BinarySearchFunc_string.ok k) (TOk.nil)) (by kernel_rfl) (by kernel_rfl)
theorem kit_Gcd.ok (n : Nat) : FunC Try.prog 111 (kit_Gcd.E n) := funC_of follows tab_ok Try.func111 (T := kit_Gcd.T) (ann := kit_Gcd.ann) (ins := kit_Gcd.ins) (outs := kit_Gcd.outs) (n := n) (fun k => TOk.nil) (by kernel_rfl) (by kernel_rfl)
theorem slices_Equal_byte.ok (n : Nat) : FunC Try.prog 34 (slices_Equal_byte.E n) := funC_of follows tab_ok Try.func34 (T := slices_Equal_byte.T) (ann := slices_Equal_byte.ann) (ins := slices_Equal_byte.ins) (outs := slices_Equal_byte.outs) (n := n) (fun k => TOk.nil) (by kernel_rfl) (by kernel_rfl)
theorem telemetry_groups.ok (n : Nat) : FunC Try.prog 122 (telemetry_groups.E n) := funC_of follows tab_ok Try.func122 (T := telemetry_groups.T) (ann := telemetry_groups.ann) (ins := telemetry_groups.ins) (outs := telemetry_groups.outs) (n := n) (fun k => TOk.nil) (by kernel_rfl) (by kernel_rfl)
theorem telemetry_squeezed.ok (n : Nat) : FunC Try.prog 112 (telemetry_squeezed.E n) := funC_of follows tab_ok Try.func112 (T := telemetry_squeezed.T) (ann := telemetry_squeezed.ann) (ins := telemetry_squeezed.ins) (outs := telemetry_squeezed.outs) (n := n) (fun k => TOk.cons (telemetry_groups.ok k) (TOk.nil)) (by kernel_rfl) (by kernel_rfl)
theorem telemetry_Squeezed.ok (n : Nat) : FunC Try.prog 67 (telemetry_Squeezed.E n) := funC_of follows tab_ok Try.func67 (T := telemetry_Squeezed.T) (ann := telemetry_Squeezed.ann) (ins := telemetry_Squeezed.ins) (outs := telemetry_Squeezed.outs) (n := n) (fun k => TOk.cons (kit_In.ok k) (TOk.cons (telemetry_squeezed.ok k) (TOk.nil))) (by kernel_rfl) (by kernel_rfl)
theorem perigeelaw7_awake.ok (n : Nat) : FunC Try.prog 20 (perigeelaw7_awake.E n) := funC_of follows tab_ok Try.func20 (T := perigeelaw7_awake.T) (ann := perigeelaw7_awake.ann) (ins := perigeelaw7_awake.ins) (outs := perigeelaw7_awake.outs) (n := n) (fun k => TOk.cons (slices_Equal_byte.ok k) (TOk.cons (telemetry_Squeezed.ok k) (TOk.nil))) (by kernel_rfl) (by kernel_rfl)
theorem kit_Down.ok (n : Nat) : FunC Try.prog 113 (kit_Down.E n) := funC_of follows tab_ok Try.func113 (T := kit_Down.T) (ann := kit_Down.ann) (ins := kit_Down.ins) (outs := kit_Down.outs) (n := n) (fun k => TOk.nil) (by kernel_rfl) (by kernel_rfl)
theorem kit_Up.ok (n : Nat) : FunC Try.prog 70 (kit_Up.E n) := funC_of follows tab_ok Try.func70 (T := kit_Up.T) (ann := kit_Up.ann) (ins := kit_Up.ins) (outs := kit_Up.outs) (n := n) (fun k => TOk.cons (kit_Down.ok k) (TOk.nil)) (by kernel_rfl) (by kernel_rfl)
theorem telemetry_checkParts.ok (n : Nat) : FunC Try.prog 92 (telemetry_checkParts.E n) := funC_of follows tab_ok Try.func92 (T := telemetry_checkParts.T) (ann := telemetry_checkParts.ann) (ins := telemetry_checkParts.ins) (outs := telemetry_checkParts.outs) (n := n) (fun k => TOk.cons (telemetry_parameter.ok k) (TOk.nil)) (by kernel_rfl) (by kernel_rfl)
theorem telemetry_CheckLayouts.ok (n : Nat) : FunC Try.prog 38 (telemetry_CheckLayouts.E n) := funC_of follows tab_ok Try.func38 (T := telemetry_CheckLayouts.T) (ann := telemetry_CheckLayouts.ann) (ins := telemetry_CheckLayouts.ins) (outs := telemetry_CheckLayouts.outs) (n := n) (fun k => TOk.cons (telemetry_CheckParameters.ok k) (TOk.cons (telemetry_Word.ok k) (TOk.cons (telemetry_checkParts.ok k) (TOk.nil)))) (by kernel_rfl) (by kernel_rfl)
theorem telemetry_layout.ok (n : Nat) : FunC Try.prog 83 (telemetry_layout.E n) := funC_of follows tab_ok Try.func83 (T := telemetry_layout.T) (ann := telemetry_layout.ann) (ins := telemetry_layout.ins) (outs := telemetry_layout.outs) (n := n) (fun k => TOk.nil) (by kernel_rfl) (by kernel_rfl)
theorem slices_Index_apiRegular.ok (n : Nat) : FunC Try.prog 102 (slices_Index_apiRegular.E n) := funC_of follows tab_ok Try.func102 (T := slices_Index_apiRegular.T) (ann := slices_Index_apiRegular.ann) (ins := slices_Index_apiRegular.ins) (outs := slices_Index_apiRegular.outs) (n := n) (fun k => TOk.nil) (by kernel_rfl) (by kernel_rfl)
theorem slices_Contains_apiRegular.ok (n : Nat) : FunC Try.prog 47 (slices_Contains_apiRegular.E n) := funC_of follows tab_ok Try.func47 (T := slices_Contains_apiRegular.T) (ann := slices_Contains_apiRegular.ann) (ins := slices_Contains_apiRegular.ins) (outs := slices_Contains_apiRegular.outs) (n := n) (fun k => TOk.cons (slices_Index_apiRegular.ok k) (TOk.nil)) (by kernel_rfl) (by kernel_rfl)
theorem telemetry_CheckPlan.ok (n : Nat) : FunC Try.prog 29 (telemetry_CheckPlan.E n) := funC_of follows tab_ok Try.func29 (T := telemetry_CheckPlan.T) (ann := telemetry_CheckPlan.ann) (ins := telemetry_CheckPlan.ins) (outs := telemetry_CheckPlan.outs) (n := n) (fun k => TOk.cons (telemetry_CheckLayouts.ok k) (TOk.cons (slices_Contains_apiRegular.ok k) (TOk.cons (kit_In.ok k) (TOk.cons (telemetry_layout.ok k) (TOk.nil))))) (by kernel_rfl) (by kernel_rfl)
theorem telemetry_bitsOf.ok (n : Nat) : FunC Try.prog 85 (telemetry_bitsOf.E n) := funC_of follows tab_ok Try.func85 (T := telemetry_bitsOf.T) (ann := telemetry_bitsOf.ann) (ins := telemetry_bitsOf.ins) (outs := telemetry_bitsOf.outs) (n := n) (fun k => TOk.cons (telemetry_parameter.ok k) (TOk.nil)) (by kernel_rfl) (by kernel_rfl)
theorem telemetry_sizeOf.ok (n : Nat) : FunC Try.prog 101 (telemetry_sizeOf.E n) := funC_of follows tab_ok Try.func101 (T := telemetry_sizeOf.T) (ann := telemetry_sizeOf.ann) (ins := telemetry_sizeOf.ins) (outs := telemetry_sizeOf.outs) (n := n) (fun k => TOk.cons (telemetry_layout.ok k) (TOk.cons (telemetry_bitsOf.ok k) (TOk.nil))) (by kernel_rfl) (by kernel_rfl)
theorem telemetry_Fastest.ok (n : Nat) : FunC Try.prog 46 (telemetry_Fastest.E n) := funC_of follows tab_ok Try.func46 (T := telemetry_Fastest.T) (ann := telemetry_Fastest.ann) (ins := telemetry_Fastest.ins) (outs := telemetry_Fastest.outs) (n := n) (fun k => TOk.cons (telemetry_CheckPlan.ok k) (TOk.cons (kit_In.ok k) (TOk.cons (kit_Up.ok k) (TOk.cons (telemetry_sizeOf.ok k) (TOk.nil))))) (by kernel_rfl) (by kernel_rfl)
theorem telemetry_cycle.ok (n : Nat) : FunC Try.prog 103 (telemetry_cycle.E n) := funC_of follows tab_ok Try.func103 (T := telemetry_cycle.T) (ann := telemetry_cycle.ann) (ins := telemetry_cycle.ins) (outs := telemetry_cycle.outs) (n := n) (fun k => TOk.cons (kit_Gcd.ok k) (TOk.nil)) (by kernel_rfl) (by kernel_rfl)
theorem slices_Sort_int.ok (n : Nat) : FunC Try.prog 104 (slices_Sort_int.E n) := by
 refine ⟨fun h => (by have h2 : (some ⟨.int .i64, fun xs => some (sortI xs)⟩ : Option ((e : Ty) × (List e.den → Option (List e.den)))) = none := h; cases h2), fun e g h => ?_, Try.f104, Try.func104, by kernel_rfl, by kernel_rfl⟩
 cases h
 exact rowOk_sort (fun blk off cap zs w h1 h2 h3 => Try.slices_Sort_int blk off cap zs w h1 h2 h3) fun p cap w => Try.slices_Sort_int_none p cap w

theorem telemetry_Load.ok (n : Nat) : FunC Try.prog 48 (telemetry_Load.E n) := funC_of follows tab_ok Try.func48 (T := telemetry_Load.T) (ann := telemetry_Load.ann) (ins := telemetry_Load.ins) (outs := telemetry_Load.outs) (n := n) (fun k => TOk.cons (telemetry_CheckPlan.ok k) (TOk.cons (kit_In.ok k) (TOk.cons (telemetry_sizeOf.ok k) (TOk.cons (telemetry_cycle.ok k) (TOk.cons (slices_Sort_int.ok k) (TOk.nil)))))) (by kernel_rfl) (by kernel_rfl)
theorem perigeelaw7_TelemetryFastestKeepsTheRate.ok (n : Nat) : FunC Try.prog 13 (perigeelaw7_TelemetryFastestKeepsTheRate.E n) := funC_of follows tab_ok Try.func13 (T := perigeelaw7_TelemetryFastestKeepsTheRate.T) (ann := perigeelaw7_TelemetryFastestKeepsTheRate.ann) (ins := perigeelaw7_TelemetryFastestKeepsTheRate.ins) (outs := perigeelaw7_TelemetryFastestKeepsTheRate.outs) (n := n) (fun k => TOk.cons (perigeelaw7_awake.ok k) (TOk.cons (telemetry_Fastest.ok k) (TOk.cons (slices_Contains_apiRegular.ok k) (TOk.cons (telemetry_Load.ok k) (TOk.nil))))) (by kernel_rfl) (by kernel_rfl)
end Go.Proofs.Ytcefbdknoelacaa.A

-- YtcefbdknoelacaaPk
set_option linter.unusedVariables false
set_option linter.unusedSimpArgs false
namespace Go.Proofs.Ytcefbdknoelacaa.Pure
open Go Go.Proofs.Ytcefbdknoelacaa.A

def Ev {α : Type} (g : Nat → Option α) (r : α) : Prop := ∃ k, ∀ n, k ≤ n → g n = some r
theorem Ev.now {α : Type} (r : α) : Ev (fun _ => some r) r := ⟨0, fun _ _ => rfl⟩
theorem Ev.rounds {α : Type} {g : Nat → Option α} {r : α} (h : Ev g r) : ∃ k, g k = some r := let ⟨K, h⟩ := h; ⟨K, h K (Nat.le_refl _)⟩
theorem Ev.bind {α β : Type} {g : Nat → Option α} {f : Nat → α → Option β} {a : α} {r : β} (h : Ev g a) (k : Ev (fun n => f n a) r) : Ev (fun n => (g n).bind (f n)) r := by
 obtain ⟨K, h⟩ := h
 obtain ⟨K', k⟩ := k
 refine ⟨max K K', fun n hn => ?_⟩
 simp only [h n (by omega), Option.bind_some]
 exact k n (by omega)
theorem Ev.step {α : Type} {g f : Nat → Option α} {r : α} (h : ∀ k, g (k + 1) = f k) (k : Ev f r) : Ev g r := by
 obtain ⟨K, k⟩ := k
 refine ⟨K + 1, fun n hn => ?_⟩
 obtain ⟨m, rfl⟩ : ∃ m, n = m + 1 := ⟨n - 1, by omega⟩
 rw [h]
 exact k m (by omega)
theorem Ev.eq {α : Type} {g f : Nat → Option α} {r : α} (h : ∀ k, g k = f k) (k : Ev f r) : Ev g r := by
 obtain ⟨K, k⟩ := k
 exact ⟨K, fun n hn => (h n).trans (k n hn)⟩
theorem less_total : ∀ a b : List UInt8, (Op.bytesLess a b || a == b) = !Op.bytesLess b a := by
 intro a
 induction a with
 | nil => intro b; cases b <;> simp [Op.bytesLess]
 | cons x a ih =>
  intro b
  cases b with
  | nil => simp [Op.bytesLess]
  | cons y b =>
   have := ih b
   have e1 : Op.bytesLess (x :: a) (y :: b) = (decide (x < y) || (x == y && Op.bytesLess a b)) := by rw [Op.bytesLess]
   have e2 : Op.bytesLess (y :: b) (x :: a) = (decide (y < x) || (y == x && Op.bytesLess b a)) := by rw [Op.bytesLess]
   rw [e1, e2]
   rcases Nat.lt_trichotomy x.toNat y.toNat with h | h | h
   ·have h1 : x < y := UInt8.lt_iff_toNat_lt.2 h
    have h2 : ¬ y < x := fun h' => by have := UInt8.lt_iff_toNat_lt.1 h'; omega
    have h3 : ¬ y = x := fun h' => by subst h'; omega
    simp [h1, h2, h3]
   ·have h3 : x = y := UInt8.toNat_inj.1 h
    subst h3
    have h2 : ¬ x < x := fun h' => by have := UInt8.lt_iff_toNat_lt.1 h'; omega
    simpa [h2] using this
   ·have h1 : y < x := UInt8.lt_iff_toNat_lt.2 h
    have h2 : ¬ x < y := fun h' => by have := UInt8.lt_iff_toNat_lt.1 h'; omega
    have h3 : ¬ x = y := fun h' => by subst h'; omega
    simp [h1, h2, h3]

theorem w64 {x : Int} (h : -9223372036854775808 ≤ x) (h' : x ≤ 9223372036854775807) : IntKind.wrap .i64 x = x := by
 have e1 : (2 : Int) ^ 64 = 18446744073709551616 := rfl
 have e2 : (2 : Int) ^ (64 - 1) = 9223372036854775808 := rfl
 simp only [IntKind.wrap, IntKind.bits, IntKind.signed, e1, e2, Bool.true_and, decide_eq_true_eq]
 by_cases hh : x % 18446744073709551616 ≥ 9223372036854775808
 ·rw [if_pos hh]; omega
 ·rw [if_neg hh]; omega
theorem Ev.yes {α : Type} {c : Prop} {hd : Decidable c} {g g' : Nat → Option α} {r : α} (h : c) (e : Ev g r) : Ev (fun k => if c then g k else g' k) r := by
 simp only [if_pos h]; exact e
theorem Ev.no {α : Type} {c : Prop} {hd : Decidable c} {g g' : Nat → Option α} {r : α} (h : ¬ c) (e : Ev g' r) : Ev (fun k => if c then g k else g' k) r := by
 simp only [if_neg h]; exact e
theorem Ev.some {α : Type} {o : Option α} {r : α} (h : o = some r) : Ev (fun _ => o) r := by subst h; exact Ev.now _

theorem mul_bd {x y A B : Int} (hx : -A ≤ x) (hx' : x ≤ A) (hy : -B ≤ y) (hy' : y ≤ B) : -(A * B) ≤ x * y ∧ x * y ≤ A * B := by
 have hA : 0 ≤ A := by omega
 have hB : 0 ≤ B := by omega
 have h1 : x.natAbs ≤ A.natAbs := by omega
 have h2 : y.natAbs ≤ B.natAbs := by omega
 have h3 : (x * y).natAbs ≤ (A * B).natAbs := by rw [Int.natAbs_mul, Int.natAbs_mul]; exact Nat.mul_le_mul h1 h2
 have h4 : 0 ≤ A * B := Int.mul_nonneg hA hB
 omega

theorem getD_nat {α : Type} (z : α) (l : List α) (i : Nat) (h : i < l.length) : l.getD i z = l[i] := by
 simp [List.getD_eq_getElem?_getD, List.getElem?_eq_getElem h]
theorem getD_mem {α : Type} {z : α} {l : List α} {i : Nat} (h : i < l.length) : l.getD i z ∈ l := by
 rw [getD_nat z l i h]; exact List.getElem_mem h

theorem bl_cons (x y : UInt8) (a b : List UInt8) : Op.bytesLess (x :: a) (y :: b) = (decide (x < y) || (x == y && Op.bytesLess a b)) := by rw [Op.bytesLess]
theorem less_irrefl (a : List UInt8) : Op.bytesLess a a = false := by
 have := less_total a a
 cases h : Op.bytesLess a a with
 | false => rfl
 | true => rw [h] at this; simp at this
theorem less_ne {a b : List UInt8} (h : Op.bytesLess a b = true) : a ≠ b := by
 intro e
 subst e
 rw [less_irrefl] at h
 cases h
theorem less_tri {a b : List UInt8} (h1 : ¬ Op.bytesLess a b = true) (h2 : a ≠ b) : Op.bytesLess b a = true := by
 have := less_total a b
 rw [show Op.bytesLess a b = false by simpa using h1, show (a == b) = false by simpa using h2] at this
 simpa using this.symm
theorem less_trans : ∀ {a b c : List UInt8}, Op.bytesLess a b = true → Op.bytesLess b c = true → Op.bytesLess a c = true := by
 intro a
 induction a with
 | nil =>
  intro b c h1 h2
  cases b with
  | nil => simp [Op.bytesLess] at h1
  | cons y b =>
   cases c with
   | nil => simp [Op.bytesLess] at h2
   | cons z c => simp [Op.bytesLess]
 | cons x a ih =>
  intro b c h1 h2
  cases b with
  | nil => simp [Op.bytesLess] at h1
  | cons y b =>
   cases c with
   | nil => simp [Op.bytesLess] at h2
   | cons z c =>
    rw [bl_cons] at h1 h2 ⊢
    simp only [Bool.or_eq_true, Bool.and_eq_true, decide_eq_true_eq, beq_iff_eq] at h1 h2 ⊢
    rcases h1 with h1 | ⟨rfl, h1⟩
    ·rcases h2 with h2 | ⟨rfl, h2⟩
     ·left
      have := UInt8.lt_iff_toNat_lt.1 h1
      have := UInt8.lt_iff_toNat_lt.1 h2
      exact UInt8.lt_iff_toNat_lt.2 (by omega)
     ·exact .inl h1
    ·rcases h2 with h2 | ⟨rfl, h2⟩
     ·exact .inl h2
     ·exact .inr ⟨rfl, ih h1 h2⟩
def Twin {α β : Type} (g : Nat → Option α) (g' : Nat → Option β) (R : α → β → Prop) : Prop := ∃ a b, Ev g a ∧ Ev g' b ∧ R a b
section
variable {α β γ δ : Type} {R : α → β → Prop}
theorem Twin.of {g : Nat → Option α} {g' : Nat → Option β} {a : α} {b : β} (h : Ev g a) (h' : Ev g' b) (r : R a b) : Twin g g' R := ⟨a, b, h, h', r⟩
theorem Twin.now {a : α} {b : β} (r : R a b) : Twin (fun _ => some a) (fun _ => some b) R := ⟨a, b, Ev.now _, Ev.now _, r⟩
theorem Twin.mono {g : Nat → Option α} {g' : Nat → Option β} {S : α → β → Prop} (h : Twin g g' S) (k : ∀ a b, S a b → R a b) : Twin g g' R := by
 obtain ⟨a, b, h1, h2, h3⟩ := h
 exact ⟨a, b, h1, h2, k a b h3⟩
theorem Twin.stepL {g f : Nat → Option α} {g' : Nat → Option β} (h : ∀ k, g (k + 1) = f k) (t : Twin f g' R) : Twin g g' R := by
 obtain ⟨a, b, h1, h2, h3⟩ := t
 exact ⟨a, b, Ev.step h h1, h2, h3⟩
theorem Twin.stepR {g : Nat → Option α} {g' f : Nat → Option β} (h : ∀ k, g' (k + 1) = f k) (t : Twin g f R) : Twin g g' R := by
 obtain ⟨a, b, h1, h2, h3⟩ := t
 exact ⟨a, b, h1, Ev.step h h2, h3⟩
theorem Twin.ifL {c : Prop} {hd : Decidable c} {g f : Nat → Option α} {g' : Nat → Option β} (y : c → Twin g g' R) (n : ¬ c → Twin f g' R) : Twin (fun k => if c then g k else f k) g' R := by
 by_cases h : c
 ·simp only [if_pos h]; exact y h
 ·simp only [if_neg h]; exact n h
theorem Twin.ifR {c : Prop} {hd : Decidable c} {g : Nat → Option α} {g' f : Nat → Option β} (y : c → Twin g g' R) (n : ¬ c → Twin g f R) : Twin g (fun k => if c then g' k else f k) R := by
 by_cases h : c
 ·simp only [if_pos h]; exact y h
 ·simp only [if_neg h]; exact n h
theorem Twin.bind {g : Nat → Option γ} {g' : Nat → Option δ} {S : γ → δ → Prop} {f : Nat → γ → Option α} {f' : Nat → δ → Option β} (t : Twin g g' S) (k : ∀ a b, S a b → Twin (fun n => f n a) (fun n => f' n b) R) :
 Twin (fun n => (g n).bind (f n)) (fun n => (g' n).bind (f' n)) R := by
 obtain ⟨a, b, h1, h2, h3⟩ := t
 obtain ⟨a', b', h1', h2', h3'⟩ := k a b h3
 exact ⟨a', b', Ev.bind h1 h1', Ev.bind h2 h2', h3'⟩
theorem Twin.bindL {g : Nat → Option γ} {f : Nat → γ → Option α} {g' : Nat → Option β} {a : γ} (h : Ev g a) (t : Twin (fun n => f n a) g' R) : Twin (fun n => (g n).bind (f n)) g' R := by
 obtain ⟨a', b', h1', h2', h3'⟩ := t
 exact ⟨a', b', Ev.bind h h1', h2', h3'⟩
theorem Twin.bindR {g : Nat → Option γ} {f : Nat → γ → Option β} {g' : Nat → Option α} {a : γ} (h : Ev g a) (t : Twin g' (fun n => f n a) R) : Twin g' (fun n => (g n).bind (f n)) R := by
 obtain ⟨a', b', h1', h2', h3'⟩ := t
 exact ⟨a', b', h1', Ev.bind h h2', h3'⟩
theorem Twin.right {g : Nat → Option α} {g' : Nat → Option β} (t : Twin g g' R) : ∃ b, Ev g' b := by
 obtain ⟨a, b, h1, h2, h3⟩ := t
 exact ⟨b, h2⟩
theorem Ev.split {c : Prop} {hd : Decidable c} {g f : Nat → Option α} {r : α} (y : c → Ev g r) (n : ¬ c → Ev f r) : Ev (fun k => if c then g k else f k) r := by
 by_cases h : c
 ·simp only [if_pos h]; exact y h
 ·simp only [if_neg h]; exact n h
theorem Ev.is {v r : α} (h : v = r) : Ev (fun _ => Option.some v) r := by subst h; exact Ev.now _
end
theorem Twin.yesL {α β : Type} {R : α → β → Prop} {c : Prop} {hd : Decidable c} {g f : Nat → Option α} {g' : Nat → Option β} (h : c) (y : Twin g g' R) : Twin (fun k => if c then g k else f k) g' R := Twin.ifL (fun _ => y) (fun n => absurd h n)
theorem Twin.noL {α β : Type} {R : α → β → Prop} {c : Prop} {hd : Decidable c} {g f : Nat → Option α} {g' : Nat → Option β} (h : ¬ c) (y : Twin f g' R) : Twin (fun k => if c then g k else f k) g' R := Twin.ifL (fun n => absurd n h) (fun _ => y)
theorem Twin.yesR {α β : Type} {R : α → β → Prop} {c : Prop} {hd : Decidable c} {g : Nat → Option α} {g' f : Nat → Option β} (h : c) (y : Twin g g' R) : Twin g (fun k => if c then g' k else f k) R := Twin.ifR (fun _ => y) (fun n => absurd h n)
theorem Twin.noR {α β : Type} {R : α → β → Prop} {c : Prop} {hd : Decidable c} {g : Nat → Option α} {g' f : Nat → Option β} (h : ¬ c) (y : Twin g f R) : Twin g (fun k => if c then g' k else f k) R := Twin.ifR (fun n => absurd n h) (fun _ => y)

end Go.Proofs.Ytcefbdknoelacaa.Pure

-- YtcefbdknoelacaaQ1
set_option linter.unusedVariables false
set_option linter.unusedSimpArgs false
namespace Go.Proofs.Ytcefbdknoelacaa.Pure
open Go Go.Proofs.Ytcefbdknoelacaa.A

theorem in_ev (n : Nat) (a l h : Int) : kit_In.f n a l h = some (decide (l ≤ a ∧ a ≤ h), ()) := by
 rw [kit_In.f_eq]
 by_cases h1 : l ≤ a <;> simp [h1]
theorem within_ev (n : Nat) (a l h : Int) : perigeeref7_within.f n a l h = some (decide (l ≤ a ∧ a ≤ h), ()) := by
 rw [perigeeref7_within.f_eq]
 by_cases h1 : l ≤ a <;> simp [h1]

theorem word_loop (s : List UInt8) (hs : s.length ≤ 140737488351232) : ∀ (d i : Nat), i + d = s.length → (i = 0 → 97 ≤ ((s.getD 0 0).toNat : Int) ∧ ((s.getD 0 0).toNat : Int) ≤ 122) →
 Twin (fun k => telemetry_Word.c1 k s (s.length : Int) i) (fun k => perigeeref7_IsWord.c1 k s (s.length : Int) i) (fun a b => a = b) := by
 intro d
 induction d with
 | zero =>
  intro i hi h0
  refine Twin.stepL (fun k => by rw [telemetry_Word.c1_eq]) (Twin.stepR (fun k => by rw [perigeeref7_IsWord.c1_eq]) ?_)
  simp only [decide_eq_true_eq]
  repeat' (first | (exfalso; omega) | (refine Twin.ifL (fun h_ => ?_) (fun h_ => ?_)) | (refine Twin.ifR (fun h_ => ?_) (fun h_ => ?_)))
  exact Twin.now rfl
 | succ d ih =>
  intro i hi h0
  have next := ih (i + 1) (by omega) (by omega)
  refine Twin.stepL (fun k => by rw [telemetry_Word.c1_eq]) (Twin.stepR (fun k => by rw [perigeeref7_IsWord.c1_eq]) ?_)
  rw [w64 (x := (i : Int) + 1) (by omega) (by omega)]
  have h1 : (i : Int) = 0 → 97 ≤ ((s.getD ((i : Int)).toNat 0).toNat : Int) ∧ ((s.getD ((i : Int)).toNat 0).toNat : Int) ≤ 122 := by
   intro h
   rw [h]
   exact h0 (by omega)
  generalize ((s.getD ((i : Int)).toNat 0).toNat : Int) = c at h1
  simp only [decide_eq_true_eq, Bool.not_eq_true', decide_eq_false_iff_not]
  repeat' (first | (exfalso; omega) | (refine Twin.ifL (fun h_ => ?_) (fun h_ => ?_)) | (refine Twin.ifR (fun h_ => ?_) (fun h_ => ?_)))
  all_goals first | exact next | exact Twin.now rfl
theorem word_ev (s : List UInt8) (hs : s.length ≤ 140737488351232) : ∃ b, Ev (fun k => telemetry_Word.f k s) (b, ()) ∧ Ev (fun k => perigeeref7_IsWord.f k s) (b, ()) := by
 have : Twin (fun k => telemetry_Word.f k s) (fun k => perigeeref7_IsWord.f k s) (fun a b => a = b) := by
  have e : (s = []) ↔ s.length = 0 := by cases s <;> simp
  simp only [telemetry_Word.f_eq, perigeeref7_IsWord.f_eq, within_ev, Option.bind_some, decide_eq_true_eq, Bool.not_eq_true', decide_eq_false_iff_not, e]
  repeat' (first | (exfalso; omega) | (refine Twin.ifL (fun h_ => ?_) (fun h_ => ?_)) | (refine Twin.ifR (fun h_ => ?_) (fun h_ => ?_)))
  all_goals (try refine Twin.stepL (fun k => by rw [telemetry_Word.c0_eq]) ?_)
  all_goals (try refine Twin.stepR (fun k => by rw [perigeeref7_IsWord.c0_eq]) ?_)
  all_goals first | exact Twin.now rfl | exact word_loop s hs s.length 0 (by omega) (fun _ => by omega) | skip
  all_goals (try (refine Twin.stepL (fun k => by rw [telemetry_Word.c1_eq]) ?_; simp only [decide_eq_true_eq, Bool.not_eq_true', decide_eq_false_iff_not, Int.toNat_zero]; (repeat' (first | (exfalso; omega) | (refine Twin.ifL (fun h_ => ?_) (fun h_ => ?_))))))
  all_goals first | exact Twin.now rfl | exact absurd trivial ‹¬True›
 obtain ⟨a, b, h1, h2, rfl⟩ := this
 exact ⟨a.1, h1, h2⟩

theorem shl_one : ∀ n : Nat, n ≤ 24 → shlI .i64 1 (n : Int) = ((2 ^ n : Nat) : Int) := by
 intro n hn
 have : ∀ m : Fin 25, shlI .i64 1 ((m.val : Nat) : Int) = ((2 ^ m.val : Nat) : Int) := by decide +kernel
 exact this ⟨n, by omega⟩
theorem shl_neg : ∀ n : Nat, n ≤ 24 → shlI .i64 (-1) (n : Int) = -((2 ^ n : Nat) : Int) := by
 intro n hn
 have : ∀ m : Fin 25, shlI .i64 (-1) ((m.val : Nat) : Int) = -((2 ^ m.val : Nat) : Int) := by decide +kernel
 exact this ⟨n, by omega⟩
abbrev Par := DParameter
def lo (p : Par) : Int := if p.2.2.1 = true then -((2 ^ (p.2.1 - 1).toNat : Nat) : Int) else 0
def hi (p : Par) : Int := if p.2.2.1 = true then ((2 ^ (p.2.1 - 1).toNat : Nat) : Int) - 1 else ((2 ^ p.2.1.toNat : Nat) : Int) - 1
theorem pow_bd : ∀ n : Nat, n ≤ 24 → 1 ≤ 2 ^ n ∧ 2 ^ n ≤ 16777216 := by decide +kernel
theorem span_ev (k : Nat) (p : Par) (h : 1 ≤ p.2.1 ∧ p.2.1 ≤ 24) : telemetry_span.f k p = some (lo p, hi p, ()) := by
 obtain ⟨n, hn⟩ : ∃ n : Nat, p.2.1 = (n : Int) + 1 := ⟨(p.2.1 - 1).toNat, by omega⟩
 have b1 := pow_bd n (by omega)
 have b2 := pow_bd (n + 1) (by omega)
 rw [telemetry_span.f_eq]
 unfold lo hi
 rw [hn, w64 (x := (n : Int) + 1 - 1) (by omega) (by omega), show (n : Int) + 1 - 1 = n by omega, shl_neg n (by omega), shl_one n (by omega), show ((n : Int) + 1) = ((n + 1 : Nat) : Int) by omega, shl_one (n + 1) (by omega)]
 rw [w64 (by omega) (by omega), w64 (by omega) (by omega)]
 simp only [Int.toNat_natCast]
 by_cases hb : p.2.2.1 = true
 ·simp [hb]
 ·simp [hb]
  omega
theorem ends_ev (k : Nat) (p : Par) (h : 1 ≤ p.2.1 ∧ p.2.1 ≤ 24) : perigeeref7_ends.f k p = some (lo p, hi p, ()) := by
 rw [← span_ev k p h, perigeeref7_ends.f_eq, telemetry_span.f_eq]
theorem isRaw_ev (k : Nat) (p : Par) (h : 1 ≤ p.2.1 ∧ p.2.1 ≤ 24) (n : Int) : perigeeref7_isRaw.f k p n = some (decide (lo p ≤ n ∧ n ≤ hi p), ()) := by
 rw [perigeeref7_isRaw.f_eq, ends_ev k p h]
 simp only [Option.bind_some, within_ev]
def Dots (p : Par) (i : Nat) : Prop := ∀ j : Nat, i ≤ j → j < p.2.2.2.1.length → (lo p ≤ (p.2.2.2.1.getD j (Ty.dflt YShare)).1 ∧ (p.2.2.2.1.getD j (Ty.dflt YShare)).1 ≤ hi p) ∧ (-1000000000 ≤ (p.2.2.2.1.getD j (Ty.dflt YShare)).2 ∧ (p.2.2.2.1.getD j (Ty.dflt YShare)).2 ≤ 1000000000) ∧ (0 < j → (p.2.2.2.1.getD ((j : Int) - 1).toNat (Ty.dflt YShare)).1 < (p.2.2.2.1.getD j (Ty.dflt YShare)).1)
theorem dots_loop (p : Par) (hb : 1 ≤ p.2.1 ∧ p.2.1 ≤ 24) (hl : p.2.2.2.1.length ≤ 50) (s : Int)
 (hs : Ev (fun k => if 50 < (p.2.2.2.2.length : Int) then some (2, ()) else perigeeref7_checkPoints.c1 k p.1 p.2.1 p.2.2.1 p.2.2.2.1 p.2.2.2.2 p.2.2.2.2 (p.2.2.2.2.length : Int) 0) (s, ())) : ∀ (d i : Nat), i + d = p.2.2.2.1.length →
 Twin (fun k => telemetry_checkDots.c0 k p.1 p.2.1 p.2.2.1 p.2.2.2.1 p.2.2.2.2 (lo p) (hi p) p.2.2.2.1 (p.2.2.2.1.length : Int) i) (fun k => perigeeref7_checkPoints.c0 k p.1 p.2.1 p.2.2.1 p.2.2.2.1 p.2.2.2.2 p.2.2.2.1 (p.2.2.2.1.length : Int) i)
  (fun a b => b.1 = (if a.1 = 0 then s else a.1) ∧ (a.1 = 0 → Dots p i)) := by
 intro d
 induction d with
 | zero =>
  intro i hij
  refine Twin.stepL (fun k => by rw [telemetry_checkDots.c0_eq]) (Twin.stepR (fun k => by rw [perigeeref7_checkPoints.c0_eq]) ?_)
  simp only [decide_eq_true_eq]
  refine Twin.noL (by omega) (Twin.noR (by omega) ?_)
  exact ⟨(0, ()), (s, ()), Ev.now _, hs, rfl, fun _ j h1 h2 => by omega⟩
 | succ d ih =>
  intro i hij
  have next := ih (i + 1) (by omega)
  refine Twin.stepL (fun k => by rw [telemetry_checkDots.c0_eq]) (Twin.stepR (fun k => by rw [perigeeref7_checkPoints.c0_eq]) ?_)
  have hraw : ∀ k n, perigeeref7_isRaw.f k (p.1, (p.2.1, (p.2.2.1, (p.2.2.2.1, p.2.2.2.2)))) n = some (decide (lo p ≤ n ∧ n ≤ hi p), ()) := fun k n => isRaw_ev k p hb n
  rw [w64 (x := (i : Int) - 1) (by omega) (by omega), w64 (x := (i : Int) + 1) (by omega) (by omega)]
  simp only [in_ev, hraw, within_ev, Option.bind_some, decide_eq_true_eq, Bool.not_eq_true', decide_eq_false_iff_not, Int.toNat_natCast]
  have fin : (lo p ≤ (p.2.2.2.1.getD i (Ty.dflt YShare)).1 ∧ (p.2.2.2.1.getD i (Ty.dflt YShare)).1 ≤ hi p) → (-1000000000 ≤ (p.2.2.2.1.getD i (Ty.dflt YShare)).2 ∧ (p.2.2.2.1.getD i (Ty.dflt YShare)).2 ≤ 1000000000) → (0 < i → (p.2.2.2.1.getD ((i : Int) - 1).toNat (Ty.dflt YShare)).1 < (p.2.2.2.1.getD i (Ty.dflt YShare)).1) →
   Twin (fun k => telemetry_checkDots.c0 k p.1 p.2.1 p.2.2.1 p.2.2.2.1 p.2.2.2.2 (lo p) (hi p) p.2.2.2.1 (p.2.2.2.1.length : Int) ((i : Int) + 1)) (fun k => perigeeref7_checkPoints.c0 k p.1 p.2.1 p.2.2.1 p.2.2.2.1 p.2.2.2.2 p.2.2.2.1 (p.2.2.2.1.length : Int) ((i : Int) + 1))
    (fun a b => b.1 = (if a.1 = 0 then s else a.1) ∧ (a.1 = 0 → Dots p i)) := by
   intro g1 g2 hlt
   refine Twin.mono next fun a b ⟨h1, h2⟩ => ⟨h1, fun ha j h3 h4 => ?_⟩
   rcases Nat.lt_or_ge i j with h5 | h5
   ·exact h2 ha j h5 h4
   ·obtain rfl : j = i := by omega
    exact ⟨g1, g2, hlt⟩
  repeat' (first | (exfalso; omega) | (refine Twin.ifL (fun h_ => ?_) (fun h_ => ?_)) | (refine Twin.ifR (fun h_ => ?_) (fun h_ => ?_)))
  all_goals first | exact Twin.now ⟨rfl, fun h => absurd h (by decide)⟩ | exact fin (by omega) (by omega) (fun _ => by omega)
theorem dots_ev (p : Par) (hb : 1 ≤ p.2.1 ∧ p.2.1 ≤ 24) (s : Int)
 (hs : Ev (fun k => if 50 < (p.2.2.2.2.length : Int) then some (2, ()) else perigeeref7_checkPoints.c1 k p.1 p.2.1 p.2.2.1 p.2.2.2.1 p.2.2.2.2 p.2.2.2.2 (p.2.2.2.2.length : Int) 0) (s, ())) :
 Twin (fun k => telemetry_checkDots.f k p) (fun k => perigeeref7_checkPoints.f k p) (fun a b => b.1 = (if a.1 = 0 then s else a.1) ∧ (a.1 = 0 → Dots p 0 ∧ p.2.2.2.1.length ≤ 50 ∧ p.2.2.2.1.length ≠ 1)) := by
 simp only [telemetry_checkDots.f_eq, perigeeref7_checkPoints.f_eq, span_ev _ p hb, Option.bind_some, decide_eq_true_eq]
 repeat' (first | (exfalso; omega) | (refine Twin.ifL (fun h_ => ?_) (fun h_ => ?_)) | (refine Twin.ifR (fun h_ => ?_) (fun h_ => ?_)))
 ·exact Twin.now ⟨rfl, fun h => absurd h (by decide)⟩
 ·exact Twin.now ⟨rfl, fun h => absurd h (by decide)⟩
 ·exact Twin.mono (dots_loop p hb (by omega) s hs p.2.2.2.1.length 0 (by omega)) fun a b ⟨h1, h2⟩ => ⟨h1, fun h => ⟨h2 h, by omega, by omega⟩⟩

theorem words_loop (p : Par) (hb : 1 ≤ p.2.1 ∧ p.2.1 ≤ 24) (hl : p.2.2.2.2.length ≤ 50) (hn : ∀ z ∈ p.2.2.2.2, z.2.length ≤ 140737488351232) : ∀ (d i : Nat), i + d = p.2.2.2.2.length →
 Twin (fun k => telemetry_checkWords.c0 k p.1 p.2.1 p.2.2.1 p.2.2.2.1 p.2.2.2.2 (lo p) (hi p) p.2.2.2.2 (p.2.2.2.2.length : Int) i) (fun k => perigeeref7_checkPoints.c1 k p.1 p.2.1 p.2.2.1 p.2.2.2.1 p.2.2.2.2 p.2.2.2.2 (p.2.2.2.2.length : Int) i) (fun a b => a = b) := by
 intro d
 induction d with
 | zero =>
  intro i hij
  refine Twin.stepL (fun k => by rw [telemetry_checkWords.c0_eq]) (Twin.stepR (fun k => by rw [perigeeref7_checkPoints.c1_eq]) ?_)
  simp only [decide_eq_true_eq]
  refine Twin.noL (by omega) (Twin.noR (by omega) ?_)
  exact Twin.now rfl
 | succ d ih =>
  intro i hij
  have next := ih (i + 1) (by omega)
  refine Twin.stepL (fun k => by rw [telemetry_checkWords.c0_eq]) (Twin.stepR (fun k => by rw [perigeeref7_checkPoints.c1_eq]) ?_)
  have hraw : ∀ k n, perigeeref7_isRaw.f k (p.1, (p.2.1, (p.2.2.1, (p.2.2.2.1, p.2.2.2.2)))) n = some (decide (lo p ≤ n ∧ n ≤ hi p), ()) := fun k n => isRaw_ev k p hb n
  have h1 : ((i : Nat) : Int) < (p.2.2.2.2.length : Int) := by omega
  rw [w64 (x := (i : Int) - 1) (by omega) (by omega), w64 (x := (i : Int) + 1) (by omega) (by omega)]
  simp only [in_ev, hraw, within_ev, Option.bind_some, decide_eq_true_eq, Bool.not_eq_true', decide_eq_false_iff_not, Int.toNat_natCast]
  simp only [if_pos h1, if_pos (show (0 : Int) ≤ (i : Int) ∧ (i : Int) < (p.2.2.2.2.length : Int) by omega)]
  obtain ⟨b, e1, e2⟩ := word_ev (p.2.2.2.2.getD i (Ty.dflt YDue)).2 (hn _ (getD_mem (by omega)))
  refine Twin.ifL (fun h2 => Twin.yesR h2 (Twin.now rfl)) (fun h2 => Twin.noR h2 ?_)
  refine Twin.bindL e1 (Twin.bindR e2 ?_)
  refine Twin.ifL (fun h3 => Twin.yesR h3 (Twin.now rfl)) (fun h3 => Twin.noR h3 ?_)
  repeat' (first | (exfalso; omega) | (refine Twin.ifL (fun h_ => ?_) (fun h_ => ?_)) | (refine Twin.ifR (fun h_ => ?_) (fun h_ => ?_)))
  all_goals first | exact Twin.now rfl | exact next
theorem words_ev (p : Par) (hb : 1 ≤ p.2.1 ∧ p.2.1 ≤ 24) (hn : ∀ z ∈ p.2.2.2.2, z.2.length ≤ 140737488351232) :
 ∃ s, Ev (fun k => telemetry_checkWords.f k p) (s, ()) ∧ Ev (fun k => if 50 < (p.2.2.2.2.length : Int) then some (2, ()) else perigeeref7_checkPoints.c1 k p.1 p.2.1 p.2.2.1 p.2.2.2.1 p.2.2.2.2 p.2.2.2.2 (p.2.2.2.2.length : Int) 0) (s, ()) ∧ (s = 0 → p.2.2.2.2.length ≤ 50) := by
 have : Twin (fun k => telemetry_checkWords.f k p) (fun k => if 50 < (p.2.2.2.2.length : Int) then some (2, ()) else perigeeref7_checkPoints.c1 k p.1 p.2.1 p.2.2.1 p.2.2.2.1 p.2.2.2.2 p.2.2.2.2 (p.2.2.2.2.length : Int) 0) (fun a b => a = b ∧ (a.1 = 0 → p.2.2.2.2.length ≤ 50)) := by
  simp only [telemetry_checkWords.f_eq, span_ev _ p hb, Option.bind_some, decide_eq_true_eq]
  repeat' (first | (exfalso; omega) | (refine Twin.ifL (fun h_ => ?_) (fun h_ => ?_)) | (refine Twin.ifR (fun h_ => ?_) (fun h_ => ?_)))
  ·exact Twin.now ⟨rfl, fun h => absurd h (by decide)⟩
  ·exact Twin.mono (words_loop p hb (by omega) hn p.2.2.2.2.length 0 (by omega)) fun a b h => ⟨h, fun _ => by omega⟩
 obtain ⟨a, b, h1, h2, rfl, h3⟩ := this
 exact ⟨a.1, h1, h2, h3⟩

theorem first_ev (a b : Int) : Ev (fun k => kit_First.f k [a, b]) (if a = 0 then b else a, ()) := by
 refine Ev.eq (fun k => by rw [kit_First.f_eq]) ?_
 refine Ev.step (fun k => by rw [kit_First.c0_eq]) ?_
 simp only [decide_eq_true_eq, Bool.not_eq_true', decide_eq_false_iff_not, List.length_cons, List.length_nil]
 rw [show ([a, b] : List Int).getD (0 : Int).toNat 0 = a from rfl, show IntKind.wrap .i64 (0 + 1) = 1 from w64 (by omega) (by omega)]
 refine Ev.yes (by omega) (Ev.yes (by omega) (Ev.split (fun h => ?_) (fun h => ?_)))
 ·rw [if_neg h]
  exact Ev.now _
 ·have h : a = 0 := by simpa using h
  rw [if_pos h]
  refine Ev.step (fun k => by rw [kit_First.c0_eq]) ?_
  simp only [decide_eq_true_eq, Bool.not_eq_true', decide_eq_false_iff_not, List.length_cons, List.length_nil]
  rw [show ([a, b] : List Int).getD (1 : Int).toNat 0 = b from rfl, show IntKind.wrap .i64 (1 + 1) = 2 from w64 (by omega) (by omega)]
  refine Ev.yes (by omega) (Ev.yes (by omega) (Ev.split (fun h => Ev.now _) (fun h => ?_)))
  have h : b = 0 := by simpa using h
  refine Ev.step (fun k => by rw [kit_First.c0_eq]) ?_
  simp only [decide_eq_true_eq]
  refine Ev.no (by simp) ?_
  rw [h]
  exact Ev.now _

def Fit (p : Par) : Prop := (1 ≤ p.2.1 ∧ p.2.1 ≤ 24) ∧ Dots p 0 ∧ p.2.2.2.1.length ≤ 50 ∧ p.2.2.2.1.length ≠ 1 ∧ p.2.2.2.2.length ≤ 50
def Fits (l : List DParameter) (i : Nat) : Prop := ∀ j : Nat, i ≤ j → j < l.length → Fit (l.getD j (Ty.dflt YParameter)) ∧ (0 < j → lessS (l.getD ((j : Int) - 1).toNat (Ty.dflt YParameter)).1 (l.getD j (Ty.dflt YParameter)).1 = true)
theorem params_loop (l : List DParameter) (hl : l.length ≤ 500) (hn : ∀ z ∈ l, okT YParameter z) : ∀ (d i : Nat), i + d = l.length →
 Twin (fun k => telemetry_CheckParameters.c0 k l l (l.length : Int) i) (fun k => perigeeref7_CheckParameters.c0 k l l (l.length : Int) i) (fun a b => a = b ∧ (a.1 = 0 → Fits l i)) := by
 intro d
 induction d with
 | zero =>
  intro i hij
  refine Twin.stepL (fun k => by rw [telemetry_CheckParameters.c0_eq]) (Twin.stepR (fun k => by rw [perigeeref7_CheckParameters.c0_eq]) ?_)
  simp only [decide_eq_true_eq]
  refine Twin.noL (by omega) (Twin.noR (by omega) ?_)
  exact Twin.now ⟨rfl, fun _ j h1 h2 => by omega⟩
 | succ d ih =>
  intro i hij
  have next := ih (i + 1) (by omega)
  refine Twin.stepL (fun k => by rw [telemetry_CheckParameters.c0_eq]) (Twin.stepR (fun k => by rw [perigeeref7_CheckParameters.c0_eq]) ?_)
  have h1 : ((i : Nat) : Int) < (l.length : Int) := by omega
  have hp : okT YParameter (l.getD i (Ty.dflt YParameter)) := hn _ (getD_mem (by omega))
  rw [w64 (x := (i : Int) - 1) (by omega) (by omega), w64 (x := (i : Int) + 1) (by omega) (by omega)]
  simp only [in_ev, within_ev, Option.bind_some, decide_eq_true_eq, Bool.not_eq_true', decide_eq_false_iff_not, Int.toNat_natCast]
  simp only [if_pos h1, if_pos (show (0 : Int) ≤ (i : Int) ∧ (i : Int) < (l.length : Int) by omega)]
  obtain ⟨b, e1, e2⟩ := word_ev (l.getD i (Ty.dflt YParameter)).1 hp.1
  refine Twin.bindL e1 (Twin.bindR e2 ?_)
  refine Twin.ifL (fun h3 => Twin.yesR h3 (Twin.now ⟨rfl, fun h => absurd h (by decide)⟩)) (fun h3 => Twin.noR h3 ?_)
  refine Twin.ifL (fun h4 => Twin.yesR h4 (Twin.now ⟨rfl, fun h => absurd h (by decide)⟩)) (fun h4 => Twin.noR h4 ?_)
  have h4 : 1 ≤ (l.getD i (Ty.dflt YParameter)).2.1 ∧ (l.getD i (Ty.dflt YParameter)).2.1 ≤ 24 := by simpa using h4
  obtain ⟨s, w1, w2, w3⟩ := words_ev (l.getD i (Ty.dflt YParameter)) h4 (fun z hz => (hp.2.2.2.2.2.2 z hz).2)
  obtain ⟨a, c, d1, d2, d4, d3⟩ := dots_ev (l.getD i (Ty.dflt YParameter)) h4 s w2
  refine Twin.bindL d1 (Twin.bindL w1 (Twin.bindL (first_ev a.1 s) (Twin.bindR d2 ?_)))
  rw [d4]
  refine Twin.ifL (fun h5 => Twin.yesR h5 (Twin.now ⟨rfl, fun h => absurd h h5⟩)) (fun h5 => Twin.noR h5 ?_)
  have h5 : (if a.1 = 0 then s else a.1) = 0 := by simpa using h5
  have ha : a.1 = 0 := by
   by_cases h : a.1 = 0
   ·exact h
   ·rw [if_neg h] at h5; exact absurd h5 h
  rw [if_pos ha] at h5
  have fit : Fit (l.getD i (Ty.dflt YParameter)) := ⟨h4, (d3 ha).1, (d3 ha).2.1, (d3 ha).2.2, w3 h5⟩
  have fin : (0 < i → lessS (l.getD ((i : Int) - 1).toNat (Ty.dflt YParameter)).1 (l.getD i (Ty.dflt YParameter)).1 = true) → Twin (fun k => telemetry_CheckParameters.c0 k l l (l.length : Int) ((i : Int) + 1)) (fun k => perigeeref7_CheckParameters.c0 k l l (l.length : Int) ((i : Int) + 1)) (fun a b => a = b ∧ (a.1 = 0 → Fits l i)) := by
   intro hlt
   refine Twin.mono next fun a b ⟨h1, h2⟩ => ⟨h1, fun ha j h3 h4 => ?_⟩
   rcases Nat.lt_or_ge i j with h5 | h5
   ·exact h2 ha j h5 h4
   ·obtain rfl : j = i := by omega
    exact ⟨fit, hlt⟩
  refine Twin.ifL (fun h6 => Twin.yesR h6 ?_) (fun h6 => Twin.noR h6 (fin fun h => absurd h (by omega)))
  refine Twin.yesL (by omega) (Twin.yesR (by omega) ?_)
  refine Twin.ifL (fun h7 => Twin.yesR h7 (Twin.now ⟨rfl, fun h => absurd h (by decide)⟩)) (fun h7 => Twin.noR h7 (fin fun _ => by simpa using h7))
theorem params_ev (l : List DParameter) (h : okT (.sl YParameter) l) : ∃ c, Ev (fun k => telemetry_CheckParameters.f k l) (c, ()) ∧ Ev (fun k => perigeeref7_CheckParameters.f k l) (c, ()) ∧ (c = 0 → l.length ≤ 500 ∧ Fits l 0) := by
 have : Twin (fun k => telemetry_CheckParameters.f k l) (fun k => perigeeref7_CheckParameters.f k l) (fun a b => a = b ∧ (a.1 = 0 → l.length ≤ 500 ∧ Fits l 0)) := by
  simp only [telemetry_CheckParameters.f_eq, perigeeref7_CheckParameters.f_eq, decide_eq_true_eq]
  repeat' (first | (exfalso; omega) | (refine Twin.ifL (fun h_ => ?_) (fun h_ => ?_)) | (refine Twin.ifR (fun h_ => ?_) (fun h_ => ?_)))
  ·exact Twin.now ⟨rfl, fun h => absurd h (by decide)⟩
  ·exact Twin.mono (params_loop l (by omega) h.2.2 l.length 0 (by omega)) fun a b ⟨h1, h2⟩ => ⟨h1, fun h => ⟨by omega, h2 h⟩⟩
 obtain ⟨a, b, h1, h2, rfl, h3⟩ := this
 exact ⟨a.1, h1, h2, h3⟩
end Go.Proofs.Ytcefbdknoelacaa.Pure

-- YtcefbdknoelacaaQ2
set_option linter.unusedVariables false
set_option linter.unusedSimpArgs false
namespace Go.Proofs.Ytcefbdknoelacaa.Pure
open Go Go.Proofs.Ytcefbdknoelacaa.A

theorem u64_in {x : Int} (h : 0 ≤ x) (h' : x < 18446744073709551616) : IntKind.wrap .u64 x = x := by
 have e1 : (2 : Int) ^ 64 = 18446744073709551616 := rfl
 simp only [IntKind.wrap, IntKind.bits, IntKind.signed, e1, Bool.false_and]
 simp
 omega
theorem shr_half (x : Int) : shrI .u64 x 1 = x / 2 := by
 unfold shrI
 exact Int.fdiv_eq_ediv_of_nonneg _ (by decide)

abbrev nameOf (l : List DParameter) (j : Nat) : List UInt8 := (l.getD j (Ty.dflt YParameter)).1
theorem sorted {l : List DParameter} (h : Fits l 0) : ∀ (b a : Nat), a < b → b < l.length → lessS (nameOf l a) (nameOf l b) = true := by
 intro b
 induction b with
 | zero => intro a h1; omega
 | succ b ih =>
  intro a h1 h2
  have h3 := (h (b + 1) (by omega) h2).2 (by omega)
  rw [show (((b + 1 : Nat) : Int) - 1).toNat = b by omega] at h3
  rcases Nat.lt_or_ge a b with h4 | h4
  ·exact less_trans (ih a h4 (by omega)) h3
  ·obtain rfl : a = b := by omega
   exact h3
structure Place (l : List DParameter) (t : List UInt8) (p : Nat) : Prop where
 le : p ≤ l.length
 low : ∀ j, j < p → lessS (nameOf l j) t = true
 high : ∀ j, p ≤ j → j < l.length → ¬ lessS (nameOf l j) t = true
theorem search_loop (l : List DParameter) (hl : l.length ≤ 500) (hf : Fits l 0) (t : List UInt8) : ∀ (d i j : Nat), j = i + d → j ≤ l.length → (∀ m, m < i → lessS (nameOf l m) t = true) → (∀ m, j ≤ m → m < l.length → ¬ lessS (nameOf l m) t = true) →
 ∃ p, Place l t p ∧ Ev (fun k => slices_BinarySearchFunc_string.c0 k l t (l.length : Int) i j) ((p : Int), decide (p < l.length ∧ nameOf l p = t), ()) := by
 intro d
 induction d using Nat.strongRecOn with
 | _ d ih =>
  intro i j hj hjl hlow hhigh
  rcases Nat.eq_zero_or_pos d with h0 | h0
  ·subst h0
   have hij : j = i := by omega
   subst hij
   refine ⟨j, ⟨hjl, hlow, hhigh⟩, ?_⟩
   refine Ev.step (fun k => by rw [slices_BinarySearchFunc_string.c0_eq]) ?_
   simp only [decide_eq_true_eq, telemetry_parameter_1.f_eq, Option.bind_some]
   refine Ev.no (by omega) ?_
   by_cases h1 : (j : Int) < (l.length : Int)
   ·refine Ev.yes h1 (Ev.yes (by omega) (Ev.is ?_))
    rw [Int.toNat_natCast]
    have h2 := hhigh j (Nat.le_refl _) (by omega)
    unfold cmpS
    rw [if_neg h2]
    show ((j : Int), decide _, ()) = ((j : Int), decide (j < l.length ∧ (l.getD j (Ty.dflt YParameter)).1 = t), ())
    by_cases h4 : (l.getD j (Ty.dflt YParameter)).1 = t
    ·rw [h4, show lessS t t = false from less_irrefl t, decide_eq_true (p := j < l.length ∧ t = t) ⟨by omega, rfl⟩]
     rfl
    ·have h6 : lessS t (l.getD j (Ty.dflt YParameter)).1 = true := less_tri h2 h4
     rw [if_pos h6]
     rw [decide_eq_false (p := j < l.length ∧ (l.getD j (Ty.dflt YParameter)).1 = t) (fun h => h4 h.2)]
     rfl
   ·refine Ev.no h1 (Ev.is ?_)
    rw [decide_eq_false (p := j < l.length ∧ nameOf l j = t) (by omega)]
  ·have hm : ∃ m : Nat, IntKind.wrap .i64 (shrI .u64 (IntKind.wrap .u64 (IntKind.wrap .i64 ((i : Int) + (j : Int)))) 1) = (m : Int) ∧ m = (i + j) / 2 := by
    refine ⟨(i + j) / 2, ?_, rfl⟩
    rw [w64 (x := (i : Int) + (j : Int)) (by omega) (by omega), u64_in (by omega) (by omega), shr_half, w64 (by omega) (by omega)]
    omega
   obtain ⟨m, hm, hm2⟩ := hm
   have hmi : i ≤ m ∧ m < j := by omega
   rcases Classical.em (lessS (nameOf l m) t = true) with h1 | h1
   ·obtain ⟨p, hp, hev⟩ := ih (j - (m + 1)) (by omega) (m + 1) j (by omega) hjl (fun a ha => by
     rcases Nat.lt_or_ge a m with h2 | h2
     ·exact less_trans (sorted hf m a h2 (by omega)) h1
     ·obtain rfl : a = m := by omega
      exact h1) hhigh
    refine ⟨p, hp, ?_⟩
    refine Ev.step (fun k => by rw [slices_BinarySearchFunc_string.c0_eq]) ?_
    rw [hm, w64 (x := (m : Int) + 1) (by omega) (by omega)]
    simp only [decide_eq_true_eq, telemetry_parameter_1.f_eq, Option.bind_some, Int.toNat_natCast, cmpS]
    refine Ev.yes (by omega) (Ev.yes (by omega) (Ev.yes ?_ hev))
    rw [if_pos h1]; decide
   ·obtain ⟨p, hp, hev⟩ := ih (m - i) (by omega) i m (by omega) (by omega) hlow (fun a ha hb => by
     rcases Nat.lt_or_ge m a with h2 | h2
     ·intro h3
      exact h1 (less_trans (sorted hf a m h2 hb) h3)
     ·obtain rfl : a = m := by omega
      exact h1)
    refine ⟨p, hp, ?_⟩
    refine Ev.step (fun k => by rw [slices_BinarySearchFunc_string.c0_eq]) ?_
    rw [hm]
    simp only [decide_eq_true_eq, telemetry_parameter_1.f_eq, Option.bind_some, Int.toNat_natCast, cmpS]
    refine Ev.yes (by omega) (Ev.yes (by omega) (Ev.no ?_ hev))
    rw [if_neg h1]; split <;> omega

def findP (l : List DParameter) (t : List UInt8) : Option DParameter := l.find? fun p => decide (p.1 = t)
def fnd : Option DParameter → DParameter × Bool × Unit
 | some p => (p, true, ())
 | none => (([], (0, (false, ([], [])))), false, ())
theorem findP_some {l : List DParameter} {t : List UInt8} {p : DParameter} (h : findP l t = some p) : p ∈ l ∧ p.1 = t :=
 ⟨List.mem_of_find?_eq_some h, by simpa using List.find?_some h⟩
theorem findP_none {l : List DParameter} {t : List UInt8} (h : findP l t = none) : ∀ p ∈ l, p.1 ≠ t := by
 intro p hp e
 have := List.find?_eq_none.1 h p hp
 simp [e] at this
theorem inj_name {l : List DParameter} (hf : Fits l 0) {p q : DParameter} (hp : p ∈ l) (hq : q ∈ l) (h : p.1 = q.1) : p = q := by
 obtain ⟨i, hi, rfl⟩ := List.getElem_of_mem hp
 obtain ⟨j, hj, rfl⟩ := List.getElem_of_mem hq
 have no : ∀ a b : Nat, (ha : a < l.length) → (hb : b < l.length) → a < b → l[a].1 ≠ l[b].1 := by
  intro a b ha hb hab
  have := sorted hf b a hab hb
  unfold nameOf at this
  rw [getD_nat _ _ _ ha, getD_nat _ _ _ hb] at this
  exact less_ne this
 rcases Nat.lt_trichotomy i j with h1 | h1 | h1
 ·exact absurd h (no i j hi hj h1)
 ·subst h1; rfl
 ·exact absurd h.symm (no j i hj hi h1)
theorem findP_of {l : List DParameter} (hf : Fits l 0) {p : DParameter} (hp : p ∈ l) : findP l p.1 = some p := by
 cases h : findP l p.1 with
 | none => exact absurd rfl (findP_none h p hp)
 | some q => obtain ⟨h1, h2⟩ := findP_some h; rw [inj_name hf h1 hp h2]
theorem mem_fit {l : List DParameter} (hf : Fits l 0) {p : DParameter} (hp : p ∈ l) : Fit p := by
 obtain ⟨i, hi, rfl⟩ := List.getElem_of_mem hp
 have := (hf i (by omega) hi).1
 rw [getD_nat _ _ _ hi] at this
 exact this
theorem parameter_ev (l : List DParameter) (hl : l.length ≤ 500) (hf : Fits l 0) (t : List UInt8) : Ev (fun k => telemetry_parameter.f k l t) (fnd (findP l t)) := by
 obtain ⟨p, hp, hev⟩ := search_loop l hl hf t l.length 0 l.length (by omega) (by omega) (fun m h => by omega) (fun m h h' => by omega)
 refine Ev.eq (fun k => by rw [telemetry_parameter.f_eq, slices_BinarySearchFunc_string.f_eq]) ?_
 refine Ev.bind hev ?_
 by_cases h : p < l.length ∧ nameOf l p = t
 ·have : findP l t = some (l.getD p (Ty.dflt YParameter)) := by
   rw [← h.2]; exact findP_of hf (getD_mem h.1)
  rw [this]
  simp only [decide_eq_true h]
  refine Ev.no (by simp) (Ev.yes (by omega) ?_)
  rw [Int.toNat_natCast]
  exact Ev.now _
 ·have : findP l t = none := by
   cases e : findP l t with
   | none => rfl
   | some q =>
    exfalso
    obtain ⟨h1, h2⟩ := findP_some e
    obtain ⟨i, hi, rfl⟩ := List.getElem_of_mem h1
    have e1 : nameOf l i = t := by unfold nameOf; rw [getD_nat _ _ _ hi]; exact h2
    rcases Nat.lt_trichotomy i p with h3 | h3 | h3
    ·exact less_ne (hp.low i h3) e1
    ·subst h3; exact h ⟨hi, e1⟩
    ·have := sorted hf i p h3 hi
     rw [e1] at this
     exact hp.high p (Nat.le_refl _) (by omega) this
  rw [this]
  simp only [decide_eq_false h]
  exact Ev.yes (by simp) (Ev.now _)
theorem find_ev (l : List DParameter) (hl : l.length ≤ 4611686018427387904) (t : List UInt8) : Ev (fun k => perigeeref7_find.f k l t) (fnd (findP l t)) := by
 have loop : ∀ (d i : Nat), i + d = l.length → Ev (fun k => perigeeref7_find.c0 k t [] 0 false [] [] l (l.length : Int) i) (fnd (findP (l.drop i) t)) := by
  intro d
  induction d with
  | zero =>
   intro i hi
   refine Ev.step (fun k => by rw [perigeeref7_find.c0_eq]) ?_
   simp only [decide_eq_true_eq]
   refine Ev.no (by omega) ?_
   rw [List.drop_of_length_le (by omega)]
   exact Ev.now _
  | succ d ih =>
   intro i hi
   have next := ih (i + 1) (by omega)
   refine Ev.step (fun k => by rw [perigeeref7_find.c0_eq]) ?_
   rw [w64 (x := (i : Int) + 1) (by omega) (by omega), List.drop_eq_getElem_cons (show i < l.length by omega)]
   simp only [decide_eq_true_eq, Int.toNat_natCast, getD_nat (Ty.dflt YParameter) l i (by omega)]
   refine Ev.yes (by omega) (Ev.yes (by omega) (Ev.split (fun h => ?_) (fun h => ?_)))
   ·unfold findP
    rw [List.find?_cons_of_pos (by simpa using h)]
    exact Ev.now _
   ·unfold findP
    rw [List.find?_cons_of_neg (by simpa using h)]
    exact next
 refine Ev.eq (fun k => by rw [perigeeref7_find.f_eq]) ?_
 exact loop l.length 0 (by omega)

def findL (l : List DLayout) (t : List UInt8) : Option DLayout := l.find? fun p => decide (p.1 = t)
def fndL : Option DLayout → DLayout × Bool × Unit
 | some p => (p, true, ())
 | none => (([], []), false, ())
theorem layout_ev (l : List DLayout) (hl : l.length ≤ 4611686018427387904) (t : List UInt8) : Ev (fun k => telemetry_layout.f k l t) (fndL (findL l t)) := by
 have loop : ∀ (d i : Nat), i + d = l.length → Ev (fun k => telemetry_layout.c0 k t [] [] l (l.length : Int) i) (fndL (findL (l.drop i) t)) := by
  intro d
  induction d with
  | zero =>
   intro i hi
   refine Ev.step (fun k => by rw [telemetry_layout.c0_eq]) ?_
   simp only [decide_eq_true_eq]
   refine Ev.no (by omega) ?_
   rw [List.drop_of_length_le (by omega)]
   exact Ev.now _
  | succ d ih =>
   intro i hi
   have next := ih (i + 1) (by omega)
   refine Ev.step (fun k => by rw [telemetry_layout.c0_eq]) ?_
   rw [w64 (x := (i : Int) + 1) (by omega) (by omega), List.drop_eq_getElem_cons (show i < l.length by omega)]
   simp only [decide_eq_true_eq, Int.toNat_natCast, getD_nat (Ty.dflt YLayout) l i (by omega)]
   refine Ev.yes (by omega) (Ev.yes (by omega) (Ev.split (fun h => ?_) (fun h => ?_)))
   ·unfold findL
    rw [List.find?_cons_of_pos (by simpa using h)]
    exact Ev.now _
   ·unfold findL
    rw [List.find?_cons_of_neg (by simpa using h)]
    exact next
 refine Ev.eq (fun k => by rw [telemetry_layout.f_eq]) ?_
 exact loop l.length 0 (by omega)
theorem findL_some {l : List DLayout} {t : List UInt8} {p : DLayout} (h : findL l t = some p) : p ∈ l ∧ p.1 = t :=
 ⟨List.mem_of_find?_eq_some h, by simpa using List.find?_some h⟩
end Go.Proofs.Ytcefbdknoelacaa.Pure

-- YtcefbdknoelacaaBt
set_option linter.unusedVariables false
set_option linter.unusedSimpArgs false
namespace Go.Proofs.Ytcefbdknoelacaa.Pure
open Go Go.Proofs.Ytcefbdknoelacaa.A

def bitAt (b : List Int) (i : Nat) : Bool := (b.getD (i / 8) 0).toNat.testBit (7 - i % 8)
def Bytes (b : List Int) : Prop := ∀ x ∈ b, 0 ≤ x ∧ x < 256
theorem Bytes.at {b : List Int} (h : Bytes b) (i : Nat) : 0 ≤ b.getD i 0 ∧ b.getD i 0 < 256 := by
 rcases Nat.lt_or_ge i b.length with hi | hi
 ·exact h _ (getD_mem hi)
 ·rw [List.getD_eq_getElem?_getD, List.getElem?_eq_none hi]; simp
structure Pack (b : List Int) (L : List Bool) : Prop where
 by_ : Bytes b
 len : b.length = (L.length + 7) / 8
 bit : ∀ i, bitAt b i = L.getD i false
theorem Pack.nil : Pack [] [] := ⟨fun x h => by simp at h, rfl, fun i => by simp [bitAt]⟩
def putAt (b : List Int) (i : Nat) (x : Nat) : List Int := b.set (i / 8) ((((b.getD (i / 8) 0).toNat ||| (x <<< (7 - i % 8))) : Nat) : Int)
theorem one_shl_testBit (k t : Nat) : (1 <<< k).testBit t = decide (k = t) := by
 rw [Nat.one_shiftLeft]; exact Nat.testBit_two_pow
theorem bitAt_put {b : List Int} (hb : Bytes b) (i : Nat) (hi : i < 8 * b.length) (x : Nat) (hx : x ≤ 1) (j : Nat) : bitAt (putAt b i x) j = (bitAt b j || (decide (j = i) && decide (x = 1))) := by
 unfold bitAt putAt
 rw [List.getD_eq_getElem?_getD, List.getElem?_set]
 by_cases h1 : i / 8 = j / 8
 ·rw [if_pos h1, if_pos (by omega)]
  simp only [Option.getD_some, Int.toNat_natCast, Nat.testBit_or, ← h1]
  congr 1
  rcases (show x = 0 ∨ x = 1 by omega) with rfl | rfl
  ·simp
  ·rw [one_shl_testBit]
   simp only [decide_true, Bool.and_true]
   exact decide_eq_decide.2 ⟨fun h => by omega, fun h => by omega⟩
 ·rw [if_neg h1, ← List.getD_eq_getElem?_getD]
  have : ¬ j = i := fun h => h1 (by rw [h])
  simp [this]
theorem bytes_put {b : List Int} (hb : Bytes b) (i : Nat) (x : Nat) (hx : x ≤ 1) : Bytes (putAt b i x) := by
 intro y hy
 unfold putAt at hy
 rcases List.mem_or_eq_of_mem_set hy with h | h
 ·exact hb y h
 ·have := hb.at (i / 8)
  have h1 : (b.getD (i / 8) 0).toNat ||| (x <<< (7 - i % 8)) < 2 ^ 8 := by
   refine Nat.or_lt_two_pow (by omega) ?_
   rw [Nat.shiftLeft_eq]
   have : 2 ^ (7 - i % 8) ≤ 2 ^ 7 := Nat.pow_le_pow_right (by omega) (by omega)
   have : x * 2 ^ (7 - i % 8) ≤ 1 * 2 ^ (7 - i % 8) := Nat.mul_le_mul_right _ hx
   omega
  rw [h]
  omega
theorem putAt_length (b : List Int) (i x : Nat) : (putAt b i x).length = b.length := by simp [putAt]
theorem Pack.push {b : List Int} {L : List Bool} (h : Pack b L) (x : Nat) (hx : x ≤ 1) : Pack (putAt (if L.length % 8 = 0 then b ++ [0] else b) L.length x) (L ++ [decide (x = 1)]) := by
 have hb2 : Bytes (if L.length % 8 = 0 then b ++ [0] else b) := by
  split
  ·intro y hy
   rcases List.mem_append.1 hy with hy | hy
   ·exact h.by_ y hy
   ·simp at hy; omega
  ·exact h.by_
 have hl2 : (if L.length % 8 = 0 then b ++ [0] else b).length = (L.length + 8) / 8 := by
  have := h.len
  split
  ·simp only [List.length_append, List.length_cons, List.length_nil]; omega
  ·omega
 have hbit : ∀ j, bitAt (if L.length % 8 = 0 then b ++ [0] else b) j = bitAt b j := by
  intro j
  split
  ·unfold bitAt
   congr 2
   rw [List.getD_eq_getElem?_getD, List.getD_eq_getElem?_getD]
   rcases Nat.lt_trichotomy (j / 8) b.length with h1 | h1 | h1
   ·rw [List.getElem?_append_left h1]
   ·rw [List.getElem?_append_right (by omega), h1, Nat.sub_self, List.getElem?_eq_none (Nat.le_refl _)]; rfl
   ·rw [List.getElem?_eq_none (by simp; omega), List.getElem?_eq_none (by omega)]
  ·rfl
 refine ⟨bytes_put hb2 _ x hx, ?_, fun i => ?_⟩
 ·rw [putAt_length, hl2, List.length_append, List.length_cons, List.length_nil]
 ·rw [bitAt_put hb2 _ (by rw [hl2]; omega) x hx, hbit, h.bit]
  rw [List.getD_eq_getElem?_getD, List.getD_eq_getElem?_getD, List.getElem?_append]
  rcases Nat.lt_trichotomy i L.length with h1 | h1 | h1
  ·rw [if_pos h1]
   have : ¬ i = L.length := by omega
   simp [this]
  ·subst h1
   simp
  ·rw [if_neg (by omega), List.getElem?_eq_none (by omega), List.getElem?_eq_none (by simp; omega)]
   have : ¬ i = L.length := by omega
   simp [this]

end Go.Proofs.Ytcefbdknoelacaa.Pure

-- YtcefbdknoelacaaLp
set_option linter.unusedVariables false
set_option linter.unusedSimpArgs false
namespace Go.Proofs.Ytcefbdknoelacaa.Pure
open Go Go.Proofs.Ytcefbdknoelacaa.A

theorem Ev.rng {α β σ : Type} (z : α) (l : List α) (hl : l.length ≤ 4611686018427387904) {g : Nat → σ → Int → Option β} {B : Nat → σ → Int → Option β} {E : Nat → σ → Option β}
 (hg : ∀ k s i, g (k + 1) s i = if decide (i < (l.length : Int)) = true then (if (0 : Int) ≤ i ∧ i < (l.length : Int) then B k s i else none) else E k s)
 (Inv : Nat → σ → Prop) (spec : List α → Nat → σ → β)
 (hfin : ∀ s, Inv l.length s → Ev (fun k => E k s) (spec [] l.length s))
 (hstep : ∀ (i : Nat) (x : α) (xs : List α) (s : σ), i < l.length → x ∈ l → l.drop i = x :: xs → l.getD i z = x → IntKind.wrap .i64 ((i : Int) + 1) = (i : Int) + 1 → Inv i s →
  (∀ s', Inv (i + 1) s' → Ev (fun k => g k s' ((i : Int) + 1)) (spec xs (i + 1) s')) → Ev (fun k => B k s i) (spec (x :: xs) i s)) :
 ∀ (i : Nat) (s : σ), i ≤ l.length → Inv i s → Ev (fun k => g k s i) (spec (l.drop i) i s) := by
 have loop : ∀ (d i : Nat) (s : σ), i + d = l.length → Inv i s → Ev (fun k => g k s i) (spec (l.drop i) i s) := by
  intro d
  induction d with
  | zero =>
   intro i s hi hs
   have : i = l.length := by omega
   subst this
   refine Ev.step (fun k => hg k s _) ?_
   refine Ev.no (by simp) ?_
   rw [List.drop_length]
   exact hfin s hs
  | succ d ih =>
   intro i s hi hs
   refine Ev.step (fun k => hg k s _) ?_
   refine Ev.yes (by simp; omega) (Ev.yes (by omega) ?_)
   rw [List.drop_eq_getElem_cons (show i < l.length by omega)]
   refine hstep i _ _ s (by omega) (List.getElem_mem _) (List.drop_eq_getElem_cons (by omega)) (getD_nat z l i (by omega)) (w64 (by omega) (by omega)) hs fun s' hs' => ?_
   have := ih (i + 1) s' (by omega) hs'
   rw [show ((i + 1 : Nat) : Int) = (i : Int) + 1 by omega] at this
   exact this
 exact fun i s hi hs => loop (l.length - i) i s (by omega) hs
theorem Ev.cast {α : Type} {g : Nat → Option α} {a b : α} (h : a = b) (e : Ev g a) : Ev g b := h ▸ e

theorem eqV_iff : ∀ {τ : Ty}, τ.eqB = true → ∀ {x y : τ.den}, eqV τ x y = true ↔ x = y := by
 intro τ
 induction τ with
 | pair a b iha ihb =>
  intro h x y
  simp only [Ty.eqB, Bool.and_eq_true] at h
  simp only [eqV, Bool.and_eq_true, iha h.1, ihb h.2]
  exact ⟨fun h => Prod.ext h.1 h.2, fun h => by rw [h]; exact ⟨rfl, rfl⟩⟩
 | bool => intro _ x y; exact decide_eq_true_iff
 | int k => intro _ x y; exact decide_eq_true_iff
 | str => intro _ x y; exact decide_eq_true_iff
 | fmap k e _ _ => intro h; cases h
 | unit => intro h; simp [Ty.eqB] at h
 | sl e _ => intro h; simp [Ty.eqB] at h
 | vec e _ => intro h; simp [Ty.eqB] at h
 | map k e _ _ => intro h; simp [Ty.eqB] at h
 | fnv f => intro h; simp [Ty.eqB] at h
 | nil => intro h; simp [Ty.eqB] at h
 | ptr e _ => intro h; simp [Ty.eqB] at h
theorem idx_loop {α : Type} [DecidableEq α] (z : α) (v : α) {e : α → Bool} (he : ∀ x, e x = true ↔ v = x) (l : List α) (hl : l.length ≤ 4611686018427387904) {g : Nat → Int → Option (Int × Unit)}
 (hg : ∀ k i, g (k + 1) i = if decide (i < (l.length : Int)) = true then (if (0 : Int) ≤ i ∧ i < (l.length : Int) then (if e (l.getD i.toNat z) = true then some (i, ()) else g k (IntKind.wrap .i64 (i + 1))) else none) else some (-1, ())) :
 ∃ n, Ev (fun k => g k 0) (n, ()) ∧ (0 ≤ n ↔ v ∈ l) := by
 have h := Ev.rng (σ := Unit) z l hl (g := fun k _ i => g k i) (fun k s i => hg k i)
  (fun _ _ => True) (fun r i _ => (if v ∈ r then ((i + r.idxOf v : Nat) : Int) else -1, ())) (fun _ _ => Ev.is (by simp)) (fun i x xs s hi hx _ hget hw _ next => by
   simp only [Int.toNat_natCast, hget, hw]
   refine Ev.split (fun h => ?_) (fun h => ?_)
   ·have h := (he _).1 h
    subst h
    refine Ev.is ?_
    simp
   ·refine Ev.cast ?_ (next () trivial)
    have h' : ¬ v = x := fun e => h ((he _).2 e)
    have h'' : ¬ x = v := fun e => h' e.symm
    by_cases hm : v ∈ xs
    ·rw [if_pos hm, if_pos (by simp [hm]), List.idxOf_cons, show (x == v) = false by simpa using h'']
     simp only [cond_false]
     congr 1; omega
    ·rw [if_neg hm, if_neg (by simp [hm, h'])]) 0 () (by omega) trivial
 refine ⟨_, h, ?_⟩
 simp only [List.drop_zero]
 split <;> rename_i hm
 ·exact ⟨fun _ => hm, fun _ => by omega⟩
 ·exact ⟨fun h => by omega, fun h => absurd h hm⟩
end Go.Proofs.Ytcefbdknoelacaa.Pure

-- YtcefbdknoelacaaQ4
set_option linter.unusedVariables false
set_option linter.unusedSimpArgs false
namespace Go.Proofs.Ytcefbdknoelacaa.Pure
open Go Go.Proofs.Ytcefbdknoelacaa.A

theorem has_iff (s : List UInt8) : ∀ (m : List (List UInt8 × Bool)), (∀ p ∈ m, p.2 = true) → (mapGet .str .bool s m false = true ↔ s ∈ m.map (·.1))
 | [], _ => by simp [mapGet]
 | p :: m, h => by
  have ih := has_iff s m (fun q hq => h q (by simp [hq]))
  unfold mapGet
  by_cases e : p.1 = s
  ·have e2 : eqV .str p.1 s = true := decide_eq_true e
   rw [if_pos e2]
   simp [h p (by simp), e]
  ·have e2 : ¬ eqV .str p.1 s = true := fun hh => e (of_decide_eq_true hh)
   rw [if_neg e2, ih]
   have : ¬ s = p.1 := fun hh => e hh.symm
   simp [this]
theorem put_keys (s : List UInt8) : ∀ (m : List (List UInt8 × Bool)), (∀ p ∈ m, p.2 = true) → (∀ p ∈ mapPut .str .bool s true m, p.2 = true) ∧ (∀ t, t ∈ (mapPut .str .bool s true m).map (·.1) ↔ (t ∈ m.map (·.1) ∨ t = s))
 | [], _ => by simp [mapPut]
 | p :: m, h => by
  have ih := put_keys s m (fun q hq => h q (by simp [hq]))
  unfold mapPut
  by_cases e : p.1 = s
  ·have e2 : eqV .str p.1 s = true := decide_eq_true e
   rw [if_pos e2]
   refine ⟨fun q hq => ?_, fun t => ?_⟩
   ·rcases List.mem_cons.1 hq with rfl | hq
    ·rfl
    ·exact h q (by simp [hq])
   ·simp only [List.map_cons, List.mem_cons, e]
    exact ⟨fun h => h.elim .inr fun h => .inl (.inr h), fun h => h.elim (fun h => h) .inl⟩
  ·have e2 : ¬ eqV .str p.1 s = true := fun hh => e (of_decide_eq_true hh)
   rw [if_neg e2]
   refine ⟨fun q hq => ?_, fun t => ?_⟩
   ·rcases List.mem_cons.1 hq with rfl | hq
    ·exact h q (by simp)
    ·exact ih.1 q hq
   ·simp only [List.map_cons, List.mem_cons, ih.2 t]
    exact ⟨fun h => h.elim (fun h => .inl (.inl h)) fun h => h.elim (fun h => .inl (.inr h)) .inr, fun h => h.elim (fun h => h.elim .inl fun h => .inr (.inl h)) fun h => .inr (.inr h)⟩
def ckParts (p : List DParameter) : List (List UInt8) → List (List UInt8) → Int
 | [], _ => 0
 | s :: ss, seen => if findP p s = none then 9 else if s ∈ seen then 7 else ckParts p ss (seen ++ [s])
theorem ckParts_congr (p : List DParameter) : ∀ (ss a b : List (List UInt8)), (∀ t, t ∈ a ↔ t ∈ b) → ckParts p ss a = ckParts p ss b
 | [], _, _, _ => rfl
 | s :: ss, a, b, h => by
  unfold ckParts
  simp only [h s]
  rw [ckParts_congr p ss (a ++ [s]) (b ++ [s]) (fun t => by simp [h t])]
theorem ckParts_ok (p : List DParameter) : ∀ (ss a : List (List UInt8)), ckParts p ss a = 0 → (∀ s ∈ ss, ∃ y, findP p s = some y)
 | [], _, _ => by simp
 | s :: ss, a, h => by
  unfold ckParts at h
  by_cases h1 : findP p s = none
  ·rw [if_pos h1] at h; exact absurd h (by decide)
  ·rw [if_neg h1] at h
   by_cases h2 : s ∈ a
   ·rw [if_pos h2] at h; exact absurd h (by decide)
   ·rw [if_neg h2] at h
    have ih := ckParts_ok p ss _ h
    intro t ht
    rcases List.mem_cons.1 ht with rfl | ht
    ·cases e : findP p t with
     | none => exact absurd e h1
     | some y => exact ⟨y, rfl⟩
    ·exact ih t ht
theorem fnd_ok (o : Option DParameter) : ((fnd o).2.1 = false) = (o = none) := by cases o <;> simp [fnd]
theorem checkParts_ev (p : List DParameter) (hp : p.length ≤ 500) (hf : Fits p 0) (ss : List (List UInt8)) (hs : ss.length ≤ 4611686018427387904) :
 Ev (fun k => telemetry_checkParts.f k p ss) (if ss = [] then 9 else if 200 < ss.length then 2 else ckParts p ss [], ()) := by
 refine Ev.eq (fun k => by rw [telemetry_checkParts.f_eq]) ?_
 simp only [decide_eq_true_eq]
 refine Ev.split (fun h => ?_) (fun h => ?_)
 ·rw [if_pos (List.length_eq_zero_iff.1 (by omega))]; exact Ev.now _
 ·rw [if_neg (fun e => h (by rw [e]; rfl))]
  refine Ev.split (fun h2 => ?_) (fun h2 => ?_)
  ·rw [if_pos (by omega)]; exact Ev.now _
  ·rw [if_neg (by omega)]
   have := Ev.rng (σ := List (List UInt8 × Bool)) [] ss hs (g := fun k s i => telemetry_checkParts.c0 k p s ss (ss.length : Int) i) (fun k s i => telemetry_checkParts.c0_eq _ _ _ _ _ _)
    (fun _ m => ∀ q ∈ m, q.2 = true) (fun l _ m => (ckParts p l (m.map (·.1)), ())) (fun s _ => Ev.now _) (fun i x xs m hi hx _ hget hw hm next => by
     simp only [Int.toNat_natCast, hget, hw]
     refine Ev.bind (parameter_ev p hp hf x) ?_
     simp only [Bool.not_eq_true', fnd_ok]
     unfold ckParts
     refine Ev.split (fun h => ?_) (fun h => ?_)
     ·rw [if_pos h]; exact Ev.now _
     ·rw [if_neg h]
      refine Ev.split (fun h => ?_) (fun h => ?_)
      ·rw [if_pos ((has_iff x m hm).1 h)]; exact Ev.now _
      ·rw [if_neg (fun e => h ((has_iff x m hm).2 e))]
       have k := put_keys x m hm
       refine Ev.cast ?_ (next _ k.1)
       rw [ckParts_congr p xs _ (m.map (·.1) ++ [x]) (fun t => by rw [k.2 t]; simp)]) 0 [] (by omega) (by simp)
   exact this

theorem index_str (l : List (List UInt8)) (hl : l.length ≤ 4611686018427387904) (v : List UInt8) : ∃ n, Ev (fun k => slices_Index_string.f k l v) (n, ()) ∧ (0 ≤ n ↔ v ∈ l) := by
 have h := Ev.rng (σ := Unit) [] l hl (g := fun k s i => slices_Index_string.c0 k l v (l.length : Int) i) (fun k s i => slices_Index_string.c0_eq _ _ _ _ _)
  (fun _ _ => True) (fun r i _ => (if v ∈ r then ((i + r.idxOf v : Nat) : Int) else -1, ())) (fun _ _ => Ev.is (by simp)) (fun i x xs s hi hx _ hget hw _ next => by
   simp only [Int.toNat_natCast, hget, hw, decide_eq_true_eq]
   refine Ev.split (fun h => ?_) (fun h => ?_)
   ·subst h
    refine Ev.is ?_
    simp
   ·refine Ev.cast ?_ (next () trivial)
    have h' : ¬ x = v := fun e => h e.symm
    by_cases hm : v ∈ xs
    ·rw [if_pos hm, if_pos (by simp [hm]), List.idxOf_cons, show (x == v) = false by simpa using h']
     simp only [cond_false]
     congr 1; omega
    ·rw [if_neg hm, if_neg (by simp [hm, h])]) 0 () (by omega) trivial
 refine ⟨_, Ev.eq (fun k => by rw [slices_Index_string.f_eq]; rfl) h, ?_⟩
 simp only [List.drop_zero]
 split <;> rename_i hm
 ·exact ⟨fun _ => hm, fun _ => by omega⟩
 ·exact ⟨fun h => by omega, fun h => absurd h hm⟩
theorem contains_str (l : List (List UInt8)) (hl : l.length ≤ 4611686018427387904) (v : List UInt8) : Ev (fun k => slices_Contains_string.f k l v) (decide (v ∈ l), ()) := by
 obtain ⟨n, h1, h2⟩ := index_str l hl v
 refine Ev.eq (fun k => by rw [slices_Contains_string.f_eq]) (Ev.bind h1 (Ev.is ?_))
 simp only [h2]

def LOk (p : List DParameter) (x : DLayout) : Prop := x.2 ≠ [] ∧ x.2.length ≤ 200 ∧ ∀ s ∈ x.2, ∃ y, findP p s = some y
theorem refParts_loop (p : List DParameter) (hp : p.length ≤ 500) (hf : Fits p 0) (l : List DLayout) (ii : Int) (t7 : List UInt8) (ss : List (List UInt8)) (hs : ss.length ≤ 200) (l2 : List DLayout) (len t22 : Int) :
 ∀ (d i : Nat), i + d = ss.length → ∀ r, (ckParts p (ss.drop i) (ss.take i) = 0 → Ev (fun k => if 0 < ii then (if (0 : Int) ≤ IntKind.wrap .i64 (ii - 1) ∧ IntKind.wrap .i64 (ii - 1) < (l.length : Int) then (if (lessS (l.getD (IntKind.wrap .i64 (ii - 1)).toNat (Ty.dflt YLayout)).1 t7) = false then some (8, ()) else perigeeref7_CheckLayouts.c0 k p l l2 len (IntKind.wrap .i64 (t22 + 1))) else none) else perigeeref7_CheckLayouts.c0 k p l l2 len (IntKind.wrap .i64 (t22 + 1))) r) →
 (ckParts p (ss.drop i) (ss.take i) ≠ 0 → r = (ckParts p (ss.drop i) (ss.take i), ())) →
 Ev (fun k => perigeeref7_CheckLayouts.c1 k p l ii t7 ss l2 len t22 ss (ss.length : Int) i) r := by
 intro d
 induction d with
 | zero =>
  intro i hi r h0 h1
  refine Ev.step (fun k => by rw [perigeeref7_CheckLayouts.c1_eq]) ?_
  simp only [decide_eq_true_eq, Bool.not_eq_true']
  refine Ev.no (by omega) (h0 ?_)
  rw [List.drop_of_length_le (by omega)]
  rfl
 | succ d ih =>
  intro i hi r h0 h1
  have next := ih (i + 1) (by omega) r
  refine Ev.step (fun k => by rw [perigeeref7_CheckLayouts.c1_eq]) ?_
  have hd := List.drop_eq_getElem_cons (show i < ss.length by omega)
  have ht : ss.take (i + 1) = ss.take i ++ [ss[i]] := by rw [List.take_add_one, List.getElem?_eq_getElem (by omega)]; rfl
  rw [w64 (x := (i : Int) + 1) (by omega) (by omega)]
  simp only [decide_eq_true_eq, Bool.not_eq_true', Int.toNat_natCast, getD_nat [] ss i (by omega), List.drop_zero]
  refine Ev.yes (by omega) (Ev.yes (by omega) (Ev.bind (find_ev p (by omega) ss[i]) ?_))
  simp only [fnd_ok]
  rw [hd] at h0 h1
  unfold ckParts at h0 h1
  refine Ev.split (fun h => ?_) (fun h => ?_)
  ·rw [if_pos h] at h1
   rw [h1 (by decide)]
   exact Ev.now _
  ·rw [if_neg h] at h0 h1
   refine Ev.yes (by omega) (Ev.bind (contains_str _ (by simp; omega) _) ?_)
   simp only [decide_eq_true_eq]
   refine Ev.split (fun h => ?_) (fun h => ?_)
   ·rw [if_pos h] at h1
    rw [h1 (by decide)]
    exact Ev.now _
   ·rw [if_neg h] at h0 h1
    rw [ht] at next
    exact next h0 h1
theorem layouts_ev (p : List DParameter) (l : List DLayout) (h : okT (.sl YParameter) p) (h2 : okT (.sl YLayout) l) : ∃ c, Ev (fun k => telemetry_CheckLayouts.f k p l) (c, ()) ∧ Ev (fun k => perigeeref7_CheckLayouts.f k p l) (c, ()) ∧
 (c = 0 → (p.length ≤ 500 ∧ Fits p 0) ∧ l.length ≤ 100 ∧ ∀ x ∈ l, LOk p x) := by
 obtain ⟨c, c1, c2, c3⟩ := params_ev p h
 have : Twin (fun k => telemetry_CheckLayouts.f k p l) (fun k => perigeeref7_CheckLayouts.f k p l) (fun a b => a = b ∧ (a.1 = 0 → (p.length ≤ 500 ∧ Fits p 0) ∧ l.length ≤ 100 ∧ ∀ x ∈ l, LOk p x)) := by
  simp only [telemetry_CheckLayouts.f_eq, perigeeref7_CheckLayouts.f_eq, decide_eq_true_eq, Bool.not_eq_true', decide_eq_false_iff_not]
  refine Twin.bindL c1 (Twin.bindR c2 ?_)
  by_cases hc : c = 0
  ·subst hc
   obtain ⟨hp, hf⟩ := c3 rfl
   refine Twin.noL (fun h => h rfl) (Twin.noR (fun h => h rfl) ?_)
   refine Twin.ifL (fun h1 => Twin.yesR h1 (Twin.now ⟨rfl, fun h => absurd h (by decide)⟩)) (fun h1 => Twin.noR h1 ?_)
   have loop : ∀ (d i : Nat), i + d = l.length → Twin (fun k => telemetry_CheckLayouts.c0 k p l l (l.length : Int) i) (fun k => perigeeref7_CheckLayouts.c0 k p l l (l.length : Int) i) (fun a b => a = b ∧ (a.1 = 0 → ∀ x ∈ l.drop i, LOk p x)) := by
    intro d
    induction d with
    | zero =>
     intro i hi
     refine Twin.stepL (fun k => by rw [telemetry_CheckLayouts.c0_eq]) (Twin.stepR (fun k => by rw [perigeeref7_CheckLayouts.c0_eq]) ?_)
     simp only [decide_eq_true_eq]
     refine Twin.noL (by omega) (Twin.noR (by omega) (Twin.now ⟨rfl, fun _ x hx => ?_⟩))
     rw [List.drop_of_length_le (by omega)] at hx
     simp at hx
    | succ d ih =>
     intro i hi
     have next := ih (i + 1) (by omega)
     have hx : okT YLayout l[i] := h2.2.2 _ (List.getElem_mem _)
     have hs : l[i].2.length ≤ 140737488351232 := hx.2.1
     have hd := List.drop_eq_getElem_cons (show i < l.length by omega)
     refine Twin.stepL (fun k => by rw [telemetry_CheckLayouts.c0_eq]) (Twin.stepR (fun k => by rw [perigeeref7_CheckLayouts.c0_eq]) ?_)
     rw [w64 (x := (i : Int) + 1) (by omega) (by omega)]
     simp only [decide_eq_true_eq, Bool.not_eq_true', decide_eq_false_iff_not, Int.toNat_natCast, getD_nat (Ty.dflt YLayout) l i (by omega)]
     refine Twin.yesL (by omega) (Twin.yesR (by omega) (Twin.yesL (by omega) (Twin.yesR (by omega) ?_)))
     obtain ⟨b, e1, e2⟩ := word_ev l[i].1 hx.1
     refine Twin.bindL e1 (Twin.bindR e2 ?_)
     refine Twin.ifL (fun h3 => Twin.yesR h3 (Twin.now ⟨rfl, fun h => absurd h (by decide)⟩)) (fun h3 => Twin.noR h3 ?_)
     refine Twin.bindL (checkParts_ev p hp hf l[i].2 (by omega)) ?_
     by_cases g1 : l[i].2 = []
     ·rw [if_pos g1]
      exact Twin.yesL (show ¬ (9 : Int) = 0 by decide) (Twin.yesR (by rw [g1]; rfl) (Twin.now ⟨rfl, fun h => absurd h (by decide)⟩))
     ·have g1' : ¬ (l[i].2.length : Int) = 0 := fun e => g1 (List.length_eq_zero_iff.1 (by omega))
      rw [if_neg g1]
      refine Twin.noR g1' ?_
      by_cases g2 : 200 < l[i].2.length
      ·rw [if_pos g2]
       exact Twin.yesL (show ¬ (2 : Int) = 0 by decide) (Twin.yesR (by omega) (Twin.now ⟨rfl, fun h => absurd h (by decide)⟩))
      ·rw [if_neg g2]
       refine Twin.noR (by omega) ?_
       by_cases g3 : ckParts p l[i].2 [] = 0
       ·rw [g3]
        refine Twin.noL (fun h => h rfl) ?_
        have ok : LOk p l[i] := ⟨g1, by omega, ckParts_ok p _ _ g3⟩
        have fin : Twin (fun k => telemetry_CheckLayouts.c0 k p l l (l.length : Int) ((i : Int) + 1)) (fun k => perigeeref7_CheckLayouts.c0 k p l l (l.length : Int) ((i : Int) + 1)) (fun a b => a = b ∧ (a.1 = 0 → ∀ x ∈ l.drop i, LOk p x)) := by
         refine Twin.mono next fun a b ⟨h1, h2⟩ => ⟨h1, fun h x hx => ?_⟩
         rw [hd] at hx
         rcases List.mem_cons.1 hx with rfl | hx
         ·exact ok
         ·exact h2 h x hx
        have key : Twin (fun k => if 0 < (i : Int) then (if (0 : Int) ≤ IntKind.wrap .i64 ((i : Int) - 1) ∧ IntKind.wrap .i64 ((i : Int) - 1) < (l.length : Int) then (if lessS (l.getD (IntKind.wrap .i64 ((i : Int) - 1)).toNat (Ty.dflt YLayout)).1 l[i].1 = false then some (8, ()) else telemetry_CheckLayouts.c0 k p l l (l.length : Int) ((i : Int) + 1)) else none) else telemetry_CheckLayouts.c0 k p l l (l.length : Int) ((i : Int) + 1))
         (fun k => if 0 < (i : Int) then (if (0 : Int) ≤ IntKind.wrap .i64 ((i : Int) - 1) ∧ IntKind.wrap .i64 ((i : Int) - 1) < (l.length : Int) then (if lessS (l.getD (IntKind.wrap .i64 ((i : Int) - 1)).toNat (Ty.dflt YLayout)).1 l[i].1 = false then some (8, ()) else perigeeref7_CheckLayouts.c0 k p l l (l.length : Int) (IntKind.wrap .i64 ((i : Int) + 1))) else none) else perigeeref7_CheckLayouts.c0 k p l l (l.length : Int) (IntKind.wrap .i64 ((i : Int) + 1)))
         (fun a b => a = b ∧ (a.1 = 0 → ∀ x ∈ l.drop i, LOk p x)) := by
         rw [w64 (x := (i : Int) + 1) (by omega) (by omega), w64 (x := (i : Int) - 1) (by omega) (by omega)]
         refine Twin.ifL (fun h6 => Twin.yesR h6 (Twin.yesL (by omega) (Twin.yesR (by omega) ?_))) (fun h6 => Twin.noR h6 fin)
         exact Twin.ifL (fun h7 => Twin.yesR h7 (Twin.now ⟨rfl, fun h => absurd h (by decide)⟩)) (fun h7 => Twin.noR h7 fin)
        obtain ⟨a, b, k1, k2, k3⟩ := key
        exact ⟨a, b, k1, refParts_loop p hp hf l i l[i].1 l[i].2 (by omega) l l.length i l[i].2.length 0 (by omega) b (fun _ => k2) (fun h => absurd (by simpa using g3) h), k3⟩
       ·refine Twin.yesL g3 ⟨_, (ckParts p l[i].2 [], ()), Ev.now _, ?_, rfl, fun h => absurd h g3⟩
        exact refParts_loop p hp hf l i l[i].1 l[i].2 (by omega) l l.length i l[i].2.length 0 (by omega) _ (fun h => absurd (by simpa using h) g3) (fun _ => by simp)
   exact Twin.mono (loop l.length 0 (by omega)) fun a b ⟨h3, h4⟩ => ⟨h3, fun h => ⟨⟨hp, hf⟩, by omega, h4 h⟩⟩
  ·exact Twin.yesL hc (Twin.yesR hc (Twin.now ⟨rfl, fun h => absurd h hc⟩))
 obtain ⟨a, b, h1, h2, rfl, h3⟩ := this
 exact ⟨a.1, h1, h2, h3⟩
end Go.Proofs.Ytcefbdknoelacaa.Pure

-- YtcefbdknoelacaaQ5
set_option linter.unusedVariables false
set_option linter.unusedSimpArgs false
namespace Go.Proofs.Ytcefbdknoelacaa.Pure
open Go Go.Proofs.Ytcefbdknoelacaa.A

def prm (p : List DParameter) (s : List UInt8) : DParameter := (fnd (findP p s)).1
def ps (p : List DParameter) (x : DLayout) : List DParameter := x.2.map (prm p)
theorem prm_ok {p : List DParameter} {s : List UInt8} (h : ∃ y, findP p s = some y) : findP p s = some (prm p s) ∧ prm p s ∈ p ∧ (prm p s).1 = s := by
 obtain ⟨y, hy⟩ := h
 have e : prm p s = y := by unfold prm; rw [hy]; rfl
 rw [e]
 exact ⟨hy, findP_some hy⟩
theorem prm_ev {p : List DParameter} (hp : p.length ≤ 500) (hf : Fits p 0) {s : List UInt8} (h : ∃ y, findP p s = some y) : Ev (fun k => telemetry_parameter.f k p s) (prm p s, true, ()) := by
 have := parameter_ev p hp hf s
 rw [(prm_ok h).1] at this
 exact this
structure AllOk (p : List DParameter) (l : List DLayout) : Prop where
 hp : p.length ≤ 500
 hf : Fits p 0
 hl : l.length ≤ 100
 ok : ∀ x ∈ l, LOk p x
theorem AllOk.bits {p : List DParameter} {l : List DLayout} (h : AllOk p l) {s : List UInt8} (hs : ∃ y, findP p s = some y) : 1 ≤ (prm p s).2.1 ∧ (prm p s).2.1 ≤ 24 := (mem_fit h.hf (prm_ok hs).2.1).1
theorem layoutsOk (p : List DParameter) (l : List DLayout) (h : okT (.sl YParameter) p) (h2 : okT (.sl YLayout) l) : ∃ c, Ev (fun k => telemetry_CheckLayouts.f k p l) (c, ()) ∧ Ev (fun k => perigeeref7_CheckLayouts.f k p l) (c, ()) ∧ (c = 0 → AllOk p l) := by
 obtain ⟨c, h1, h2, h3⟩ := layouts_ev p l h h2
 exact ⟨c, h1, h2, fun h => ⟨(h3 h).1.1, (h3 h).1.2, (h3 h).2.1, (h3 h).2.2⟩⟩
theorem fndL_ok (o : Option DLayout) : ((fndL o).2.1 = false) = (o = none) := by cases o <;> simp [fndL]
theorem partsOf_ev (p : List DParameter) (hp : p.length ≤ 4611686018427387904) (l : List DLayout) (hl : l.length ≤ 4611686018427387904) (hs : ∀ x ∈ l, x.2.length ≤ 1099511627776) (t : List UInt8) :
 Ev (fun k => perigeeref7_partsOf.f k p l t) (match findL l t with | some x => (ps p x, true, ()) | none => ([], false, ())) := by
 refine Ev.eq (fun k => by rw [perigeeref7_partsOf.f_eq]) ?_
 have := Ev.rng (σ := Unit) (Ty.dflt YLayout) l hl (g := fun k s i => perigeeref7_partsOf.c0 k p t l (l.length : Int) i) (fun k s i => perigeeref7_partsOf.c0_eq _ _ _ _ _ _)
  (fun _ _ => True) (fun r _ _ => (match findL r t with | some x => (ps p x, true, ()) | none => ([], false, ()))) (fun _ _ => Ev.now _) (fun i x xs s hi hx _ hget hw _ next => by
   simp only [Int.toNat_natCast, hget, hw, decide_eq_true_eq, Bool.not_eq_true', decide_eq_false_iff_not]
   refine Ev.split (fun h => ?_) (fun h => ?_)
   ·refine Ev.cast ?_ (next () trivial)
    unfold findL
    rw [List.find?_cons_of_neg (by simpa using h)]
   ·have e : findL (x :: xs) t = some x := by
     unfold findL
     rw [List.find?_cons_of_pos (by simpa using h)]
    rw [e]
    have k := Ev.rng (σ := List DParameter) [] x.2 (by have := hs x hx; omega) (g := fun k s i => perigeeref7_partsOf.c1 k p s x.2 (x.2.length : Int) i) (fun k s i => perigeeref7_partsOf.c1_eq _ _ _ _ _ _)
     (fun i s => s.length = i) (fun r _ s => (s ++ r.map (prm p), true, ())) (fun s _ => Ev.is (by simp)) (fun i y ys s hi _ _ hget hw hs' next => by
      have hx2 := hs x hx
      simp only [Int.toNat_natCast, hget, hw]
      refine Ev.bind (find_ev p hp y) (Ev.yes (by omega) (Ev.cast ?_ (next _ (by simp [hs']))))
      simp only [List.map_cons, List.append_assoc, List.cons_append, List.nil_append]
      rfl) 0 [] (by omega) rfl
    exact k) 0 () (by omega) trivial
 exact this
def bsum : List DParameter → Int
 | [] => 0
 | y :: ys => y.2.1 + bsum ys
def POk (L : List DParameter) : Prop := L.length ≤ 200 ∧ ∀ y ∈ L, Fit y
theorem AllOk.ps {p : List DParameter} {l : List DLayout} (h : AllOk p l) {x : DLayout} (hx : x ∈ l) : POk (ps p x) := by
 have k := h.ok x hx
 refine ⟨by simp [Pure.ps]; exact k.2.1, fun y hy => ?_⟩
 obtain ⟨s, hs, rfl⟩ := List.mem_map.1 hy
 exact mem_fit h.hf (prm_ok (k.2.2 s hs)).2.1
theorem bsum_bd : ∀ {L : List DParameter}, (∀ y ∈ L, Fit y) → (L.length : Int) ≤ bsum L ∧ bsum L ≤ 24 * L.length
 | [], _ => by simp [bsum]
 | y :: ys, h => by
  have ih := bsum_bd (L := ys) (fun z hz => h z (by simp [hz]))
  have := (h y (by simp)).1
  simp only [bsum, List.length_cons]
  omega
theorem bitsOfT_ev (p : List DParameter) (hp : p.length ≤ 500) (hf : Fits p 0) (x : DLayout) (hx : LOk p x) : Ev (fun k => telemetry_bitsOf.f k p x) (bsum (ps p x), ()) := by
 refine Ev.eq (fun k => by rw [telemetry_bitsOf.f_eq]) ?_
 have h2 := hx.2.1
 have := Ev.rng (σ := Int) [] x.2 (by omega) (g := fun k s i => telemetry_bitsOf.c0 k p s x.2 (x.2.length : Int) i) (fun k s i => telemetry_bitsOf.c0_eq _ _ _ _ _ _)
  (fun i s => 0 ≤ s ∧ s ≤ 24 * i) (fun r _ s => (s + bsum (r.map (prm p)), ())) (fun s _ => Ev.is (by simp [bsum])) (fun i y ys s hi hy _ hget hw hs next => by
   simp only [Int.toNat_natCast, hget, hw]
   have fit := (mem_fit hf (prm_ok (hx.2.2 y hy)).2.1).1
   refine Ev.bind (prm_ev hp hf (hx.2.2 y hy)) ?_
   simp only
   rw [w64 (x := s + (prm p y).2.1) (by omega) (by omega)]
   refine Ev.cast ?_ (next _ (by omega))
   simp only [List.map_cons, bsum]
   rw [Int.add_assoc]) 0 0 (by omega) (by omega)
 simpa [ps] using this
def chk : List DParameter → List DReading → Int
 | [], [] => 0
 | y :: ys, v :: vs => if v.1 = y.1 then (if lo y ≤ v.2 ∧ v.2 ≤ hi y then chk ys vs else 1) else 3
 | _, _ => 3
def ROk : List DParameter → List DReading → Prop
 | [], [] => True
 | y :: ys, v :: vs => v.1 = y.1 ∧ (lo y ≤ v.2 ∧ v.2 ≤ hi y) ∧ ROk ys vs
 | _, _ => False
theorem ROk.len : ∀ {ys : List DParameter} {vs : List DReading}, ROk ys vs → vs.length = ys.length
 | [], [], _ => rfl
 | [], _ :: _, h => h.elim
 | _ :: _, [], h => h.elim
 | _ :: ys, _ :: vs, h => by simp [ROk.len h.2.2]
theorem ROk.drop : ∀ {ys : List DParameter} {vs : List DReading}, ROk ys vs → ∀ i, ROk (ys.drop i) (vs.drop i)
 | _, _, h, 0 => by simpa using h
 | [], [], _, i + 1 => by simp [ROk]
 | [], _ :: _, h, _ + 1 => h.elim
 | _ :: _, [], h, _ + 1 => h.elim
 | _ :: ys, _ :: vs, h, i + 1 => by simpa using ROk.drop h.2.2 i

end Go.Proofs.Ytcefbdknoelacaa.Pure

-- YtcefbdknoelacaaQ3
set_option linter.unusedVariables false
set_option linter.unusedSimpArgs false
namespace Go.Proofs.Ytcefbdknoelacaa.Pure
open Go Go.Proofs.Ytcefbdknoelacaa.A

theorem gcd_tmod (a b : Int) : Int.gcd b (Int.tmod a b) = Int.gcd a b := by
 show Nat.gcd b.natAbs (Int.tmod a b).natAbs = Nat.gcd a.natAbs b.natAbs
 rw [Int.natAbs_tmod, Nat.gcd_comm, ← Nat.gcd_rec, Nat.gcd_comm]
theorem tmod_lt (a b : Int) (h : b ≠ 0) : (Int.tmod a b).natAbs < b.natAbs := by
 rw [Int.natAbs_tmod]
 exact Nat.mod_lt _ (by omega)
theorem gcdT_ev : ∀ (n : Nat) (a b : Int), b.natAbs = n → 0 ≤ a → 0 ≤ b → Ev (fun k => kit_Gcd.f k a b) ((Int.gcd a b : Int), ()) := by
 intro n
 induction n using Nat.strongRecOn with
 | _ n ih =>
  intro a b hn ha hb
  simp only [kit_Gcd.f_eq] at ih ⊢
  refine Ev.step (fun k => by rw [kit_Gcd.c0_eq]) ?_
  simp only [decide_eq_true_eq]
  by_cases h : 0 < b
  ·refine Ev.yes h (Ev.yes (by omega) ?_)
   have := ih (Int.tmod a b).natAbs (by have := tmod_lt a b (by omega); omega) b (Int.tmod a b) rfl hb (Int.tmod_nonneg _ ha)
   rw [gcd_tmod] at this
   exact this
  ·obtain rfl : b = 0 := by omega
   refine Ev.no (by omega) (Ev.is ?_)
   rw [Int.gcd_zero_right, show ((a.natAbs : Nat) : Int) = a by omega]
theorem tdiv_bd (a b : Int) : (Int.tdiv a b).natAbs ≤ a.natAbs := by
 rw [Int.natAbs_tdiv]
 exact Nat.div_le_self _ _
abbrev R (p : DParameter) (j : Nat) : Int := (p.2.2.2.1.getD j (Ty.dflt YShare)).1
abbrev V (p : DParameter) (j : Nat) : Int := (p.2.2.2.1.getD j (Ty.dflt YShare)).2
def den (p : DParameter) (j : Nat) : Int := R p (j + 1) - R p j
theorem V_bd {p : DParameter} (h : Fit p) (j : Nat) (hj : j < p.2.2.2.1.length) : -1000000000 ≤ V p j ∧ V p j ≤ 1000000000 := (h.2.1 j (by omega) hj).2.1
theorem R_up {p : DParameter} (h : Fit p) (j : Nat) (hj : j + 1 < p.2.2.2.1.length) : R p j < R p (j + 1) := by
 have h1 := (h.2.1 (j + 1) (by omega) hj).2.2 (by omega)
 rw [show (((j + 1 : Nat) : Int) - 1).toNat = j by omega] at h1
 exact h1

abbrev PV (P : List DShare) (j : Nat) : Int := (P.getD j (Ty.dflt YShare)).2
def Dir (P : List DShare) (s : Int) : Prop := (s = 1 ∨ s = -1) ∧ 2 ≤ P.length ∧ ∀ j : Nat, j + 1 < P.length → s * PV P j < s * PV P (j + 1)
theorem floor_tdiv (a b : Int) (hb : 0 < b) : (Int.tmod a b < 0 → Int.tdiv a b - 1 = a / b) ∧ (¬ Int.tmod a b < 0 → Int.tdiv a b = a / b) := by
 have h1 := Int.tmod_add_mul_tdiv a b
 have h2 : (Int.tmod a b).natAbs < b.natAbs := tmod_lt a b (by omega)
 constructor
 ·intro h
  have e : Int.tmod a b + b + b * (Int.tdiv a b - 1) = a := by rw [Int.mul_sub]; omega
  exact ((Int.ediv_emod_unique (r := Int.tmod a b + b) hb).2 ⟨e, by omega, by omega⟩).1.symm
 ·intro h
  exact ((Int.ediv_emod_unique hb).2 ⟨h1, by omega, by omega⟩).1.symm
theorem down_ev (k : Nat) (a b : Int) (hb : 0 < b) (ha : a.natAbs ≤ 9223372036854775800) : kit_Down.f k a b = some (a / b, ()) := by
 have h1 := floor_tdiv a b hb
 have h2 := tdiv_bd a b
 rw [kit_Down.f_eq, if_pos (by omega), if_pos (by omega), w64 (x := Int.tdiv a b) (by omega) (by omega), w64 (x := Int.tdiv a b - 1) (by omega) (by omega)]
 simp only [decide_eq_true_eq]
 by_cases h : Int.tmod a b < 0
 ·rw [if_pos h, h1.1 h]
 ·rw [if_neg h, h1.2 h]
theorem ediv_bd (a b : Int) (hb : 0 < b) : (a / b).natAbs ≤ a.natAbs := by
 have h1 := floor_tdiv a b hb
 have h2 := tdiv_bd a b
 have h4 := Int.tmod_add_mul_tdiv a b
 by_cases h : Int.tmod a b < 0
 ·have h3 := h1.1 h
  have h5 := Int.mul_ediv_add_emod a b
  have h6 := Int.emod_nonneg a (show b ≠ 0 by omega)
  have h7 : a < 0 := by
   rcases Int.lt_or_le a 0 with h | h8
   ·exact h
   ·have := Int.tmod_nonneg b h8
    omega
  have h8 : -1 * -a ≤ a / b := by
   have : a / 1 ≤ a / b ∨ True := .inr trivial
   have e : a ≤ b * (a / b) + (b - 1) := by have := Int.emod_lt_of_pos a hb; omega
   rcases Int.lt_or_le (a / b) a with h9 | h9
   ·have : b * (a / b) ≤ 1 * (a / b) := Int.mul_le_mul_of_nonpos_right (by omega) (by omega)
    have : b * (a / b) ≤ b * (a - 1) := Int.mul_le_mul_of_nonneg_left (by omega) (by omega)
    have : b * (a - 1) ≤ b * (-1) + b * a := by rw [← Int.mul_add]; exact Int.mul_le_mul_of_nonneg_left (by omega) (by omega)
    have : b * a ≤ 1 * a := Int.mul_le_mul_of_nonpos_right (by omega) (by omega)
    omega
   ·omega
  have h9 : a / b ≤ 0 := by
   have : a / b < 0 := Int.ediv_neg_of_neg_of_pos h7 hb
   omega
  omega
 ·rw [← h1.2 h]; omega
theorem up_ev (k : Nat) (a b : Int) (hb : 0 < b) (ha : a.natAbs ≤ 9223372036854775800) : kit_Up.f k a b = some (-((-a) / b), ()) := by
 rw [kit_Up.f_eq]
 have h := ediv_bd (-a) b hb
 rw [w64 (x := 0 - a) (by omega) (by omega), Int.zero_sub, down_ev k (-a) b hb (by omega)]
 simp only [Option.bind_some]
 rw [w64 (by omega) (by omega), Int.zero_sub]
def AA (p : DParameter) (s n d : Int) (m : Nat) : Int := s * (n - V p m * d)
def CC (p : DParameter) (s d : Int) (m : Nat) : Int := s * (V p (m + 1) - V p m) * d
theorem lo_hi (p : DParameter) (h : 1 ≤ p.2.1 ∧ p.2.1 ≤ 24) : lo p ≤ hi p ∧ hi p - lo p ≤ 16777215 := by
 have b1 := pow_bd (p.2.1 - 1).toNat (by omega)
 have b2 := pow_bd p.2.1.toNat (by omega)
 have e : 2 ^ p.2.1.toNat = 2 * 2 ^ (p.2.1 - 1).toNat := by
  rw [show p.2.1.toNat = (p.2.1 - 1).toNat + 1 by omega, Nat.pow_succ]; omega
 unfold lo hi
 split <;> omega
structure Ask (p : DParameter) (s n d : Int) : Prop where
 fit : Fit p
 dir : Dir p.2.2.2.1 s
 d0 : 1 ≤ d
 d1 : d ≤ 100
 n0 : -1000000000 * d ≤ n
 n1 : n ≤ 1000000000 * d
theorem Ask.vd {p : DParameter} {s n d : Int} (h : Ask p s n d) (m : Nat) (hm : m < p.2.2.2.1.length) : -100000000000 ≤ V p m * d ∧ V p m * d ≤ 100000000000 := by
 have v := V_bd h.fit m hm
 have := h.d0
 have := h.d1
 have a := mul_bd (x := V p m) (y := d) (A := 1000000000) (B := 100) (by omega) (by omega) (by omega) (by omega)
 omega
theorem sgn {s : Int} (h : s = 1 ∨ s = -1) (x : Int) : s * x = x ∨ s * x = -x := by
 rcases h with rfl | rfl <;> omega
theorem Ask.bd {p : DParameter} {s n d : Int} (h : Ask p s n d) (m : Nat) (hm : m + 1 < p.2.2.2.1.length) :
 (-200000000000 ≤ AA p s n d m ∧ AA p s n d m ≤ 200000000000) ∧ (0 < CC p s d m ∧ CC p s d m ≤ 200000000000) ∧ (0 < den p m ∧ den p m ≤ 16777215) ∧ (-3400000000000000000 ≤ AA p s n d m * den p m ∧ AA p s n d m * den p m ≤ 3400000000000000000) := by
 have v0 := V_bd h.fit m (by omega)
 have v1 := V_bd h.fit (m + 1) hm
 have w0 := h.vd m (by omega)
 have d0 := h.d0
 have d1 := h.d1
 have n0 := h.n0
 have n1 := h.n1
 have up := R_up h.fit m hm
 have r0 := (h.fit.2.1 m (by omega) (by omega)).1
 have r1 := (h.fit.2.1 (m + 1) (by omega) hm).1
 have lh := (lo_hi p h.fit.1).2
 have hA : -200000000000 ≤ AA p s n d m ∧ AA p s n d m ≤ 200000000000 := by
  unfold AA
  rcases sgn h.dir.1 (n - V p m * d) with e | e <;> omega
 have hD : 0 < den p m ∧ den p m ≤ 16777215 := by
  have e1 : R p m = (p.2.2.2.1.getD m (Ty.dflt YShare)).1 := rfl
  have e2 : R p (m + 1) = (p.2.2.2.1.getD (m + 1) (Ty.dflt YShare)).1 := rfl
  unfold den
  omega
 have hC : 0 < CC p s d m ∧ CC p s d m ≤ 200000000000 := by
  have inc := h.dir.2.2 m hm
  have e1 : PV p.2.2.2.1 m = V p m := rfl
  have e2 : PV p.2.2.2.1 (m + 1) = V p (m + 1) := rfl
  rw [e1, e2] at inc
  have pos : 0 < s * (V p (m + 1) - V p m) := by rw [Int.mul_sub]; omega
  have le : s * (V p (m + 1) - V p m) ≤ 2000000000 := by rcases sgn h.dir.1 (V p (m + 1) - V p m) with e | e <;> omega
  have a := mul_bd (x := s * (V p (m + 1) - V p m)) (y := d) (A := 2000000000) (B := 100) (by omega) (by omega) (by omega) (by omega)
  have b := Int.mul_pos pos (show 0 < d by omega)
  unfold CC
  omega
 have a := mul_bd (x := AA p s n d m) (y := den p m) (A := 200000000000) (B := 16777215) (by omega) (by omega) (by omega) (by omega)
 exact ⟨hA, hC, hD, by omega⟩
theorem Ask.cond {p : DParameter} {s n d : Int} (h : Ask p s n d) (m : Nat) (hm : m < p.2.2.2.1.length) : IntKind.wrap .i64 ((IntKind.wrap .i64 (s * ((p.2.2.2.1.getD m (Ty.dflt YShare)).2))) * d) = s * V p m * d ∧ IntKind.wrap .i64 (s * n) = s * n := by
 have v0 := V_bd h.fit m (by omega)
 have w0 := h.vd m (by omega)
 have n0 := h.n0
 have n1 := h.n1
 have d1 := h.d1
 have d0 := h.d0
 have a1 : IntKind.wrap .i64 (s * V p m) = s * V p m := by rcases sgn h.dir.1 (V p m) with e | e <;> exact w64 (by omega) (by omega)
 have a2 : IntKind.wrap .i64 (s * n) = s * n := by rcases sgn h.dir.1 n with e | e <;> exact w64 (by omega) (by omega)
 refine ⟨?_, a2⟩
 rw [a1, Int.mul_assoc]
 rcases sgn h.dir.1 (V p m * d) with e | e <;> exact w64 (by omega) (by omega)
end Go.Proofs.Ytcefbdknoelacaa.Pure

-- YtcefbdknoelacaaQ10
set_option linter.unusedVariables false
set_option linter.unusedSimpArgs false
namespace Go.Proofs.Ytcefbdknoelacaa.Pure
open Go Go.Proofs.Ytcefbdknoelacaa.A

def hit (r : DRegular) (t : Int) : Bool := decide (r.2.2 ≤ t ∧ (t - r.2.2) % r.2.1 = 0)
def at_ (s : List DRegular) (t : Int) : List DDue := (s.filter fun r => hit r t).map fun r => (t, r.1)
def upto (s : List DRegular) : Int → Nat → List DDue
 | _, 0 => []
 | t, n + 1 => at_ s t ++ upto s (t + 1) n
def RegOk (r : DRegular) : Prop := (1 ≤ r.2.1 ∧ r.2.1 ≤ 100000) ∧ 0 ≤ r.2.2 ∧ r.2.2 ≤ r.2.1 - 1
theorem upto_split (s : List DRegular) : ∀ (n m : Nat) (t : Int), upto s t (n + m) = upto s t n ++ upto s (t + n) m
 | 0, m, t => by simp [upto]
 | n + 1, m, t => by
  rw [show n + 1 + m = (n + m) + 1 by omega, upto, upto, upto_split s n m (t + 1), List.append_assoc]
  rw [show t + 1 + (n : Int) = t + ((n + 1 : Nat) : Int) by omega]
theorem upto_none {s : List DRegular} : ∀ {n : Nat} {t : Int}, (∀ u, t ≤ u → u < t + n → at_ s u = []) → upto s t n = []
 | 0, _, _ => rfl
 | n + 1, t, h => by
  rw [upto, h t (by omega) (by omega), upto_none (fun u h1 h2 => h u (by omega) (by omega))]; rfl
def nx (r : DRegular) (t : Int) : Int := if t ≤ r.2.2 then r.2.2 else r.2.2 + -((-(t - r.2.2)) / r.2.1) * r.2.1
theorem ceil_ok {d e : Int} (he : 0 < e) (hd : 0 < d) : ∃ q, -((-d) / e) = q ∧ (d + e - 1) / e = q ∧ d ≤ q * e ∧ q * e < d + e ∧ 0 < q := by
 have h1 := Int.mul_ediv_add_emod (-d) e
 have h2 := Int.emod_nonneg (-d) (show e ≠ 0 by omega)
 have h3 := Int.emod_lt_of_pos (-d) he
 generalize hm : (-d) / e = m at h1
 generalize hr : (-d) % e = r at h1 h2 h3
 have e1 : (-m) * e = -(e * m) := by rw [Int.neg_mul, Int.mul_comm]
 refine ⟨-m, rfl, ?_, by omega, by omega, ?_⟩
 ·refine ((Int.ediv_emod_unique (a := d + e - 1) (b := e) (r := e - 1 - r) (q := -m) he).2 ⟨?_, by omega, by omega⟩).1
  have : e * -m = -(e * m) := by rw [Int.mul_neg]
  omega
 ·apply Classical.byContradiction
  intro hn
  have : -m * e ≤ 0 := Int.mul_nonpos_of_nonpos_of_nonneg (by omega) (by omega)
  omega
theorem nx_ok {r : DRegular} (h : RegOk r) (t : Int) : t ≤ nx r t ∧ hit r (nx r t) = true ∧ (∀ u, t ≤ u → u < nx r t → hit r u = false) ∧ nx r t ≤ (if t ≤ r.2.2 then 100000 else t + 100000) ∧ 0 ≤ nx r t := by
 obtain ⟨⟨h1, h2⟩, h3, h4⟩ := h
 unfold nx
 by_cases ht : t ≤ r.2.2
 ·rw [if_pos ht, if_pos ht]
  refine ⟨ht, decide_eq_true ⟨Int.le_refl _, by simp⟩, fun u hu hu2 => decide_eq_false (fun hh => by omega), by omega, h3⟩
 ·rw [if_neg ht, if_neg ht]
  obtain ⟨q, q1, q2, q3, q4, q5⟩ := ceil_ok (d := t - r.2.2) (e := r.2.1) (by omega) (by omega)
  rw [q1]
  refine ⟨by omega, decide_eq_true ⟨by omega, ?_⟩, fun u hu hu2 => decide_eq_false (fun hh => ?_), by omega, by omega⟩
  ·rw [show r.2.2 + q * r.2.1 - r.2.2 = q * r.2.1 by omega, Int.mul_emod_left]
  ·have g1 := Int.mul_ediv_add_emod (u - r.2.2) r.2.1
   rw [hh.2, Int.add_zero] at g1
   generalize (u - r.2.2) / r.2.1 = k at g1
   have : k < q := by
    apply Classical.byContradiction
    intro hn
    have : q * r.2.1 ≤ k * r.2.1 := Int.mul_le_mul_of_nonneg_right (by omega) (by omega)
    rw [Int.mul_comm k] at this
    omega
   have : k * r.2.1 ≤ (q - 1) * r.2.1 := Int.mul_le_mul_of_nonneg_right (by omega) (by omega)
   rw [Int.sub_mul, Int.one_mul, Int.mul_comm k] at this
   omega
theorem hit_next {r : DRegular} (h : RegOk r) {t : Int} (ht : hit r t = true) : hit r (t + r.2.1) = true ∧ ∀ u, t < u → u < t + r.2.1 → hit r u = false := by
 obtain ⟨⟨h1, h2⟩, h3, h4⟩ := h
 have ht := of_decide_eq_true ht
 refine ⟨decide_eq_true ⟨by omega, ?_⟩, fun u g1 g2 => decide_eq_false (fun hh => ?_)⟩
 ·rw [show t + r.2.1 - r.2.2 = (t - r.2.2) + r.2.1 by omega, Int.add_emod_right]; exact ht.2
 ·have e : (u - t) % r.2.1 = u - t := Int.emod_eq_of_lt (by omega) (by omega)
  have : (u - t) % r.2.1 = 0 := by
   rw [show u - t = (u - r.2.2) - (t - r.2.2) by omega, Int.sub_emod, hh.2, ht.2]; simp
  omega
def cnt (r : DRegular) (from_ to : Int) : Int := if nx r from_ < to then (to - 1 - nx r from_) / r.2.1 + 1 else 0
theorem upto_from {s : List DRegular} {t u : Int} {n : Nat} (h1 : t ≤ u) (h2 : u ≤ t + n) (h : ∀ v, t ≤ v → v < u → at_ s v = []) : upto s t n = upto s u (t + n - u).toNat := by
 have := upto_split s (u - t).toNat (t + n - u).toNat t
 rw [show (u - t).toNat + (t + n - u).toNat = n by omega, upto_none (n := (u - t).toNat) (fun v g1 g2 => h v g1 (by omega))] at this
 rw [this, show t + ((u - t).toNat : Int) = u by omega]; rfl
theorem at_one (r : DRegular) (t : Int) : at_ [r] t = if hit r t = true then [(t, r.1)] else [] := by
 unfold at_
 cases h : hit r t <;> simp [h]
theorem one_step {r : DRegular} (h : RegOk r) {t to : Int} (ht : hit r t = true) (hlt : t < to) : upto [r] t (to - t).toNat = (t, r.1) :: upto [r] (t + r.2.1) (to - (t + r.2.1)).toNat := by
 obtain ⟨g1, g2⟩ := hit_next h ht
 obtain ⟨n, hn⟩ : ∃ n, (to - t).toNat = n + 1 := ⟨(to - t).toNat - 1, by omega⟩
 rw [hn, upto, at_one, if_pos ht]
 have a1 := h.1.1
 rcases Int.lt_or_le (t + r.2.1) to with h1 | h1
 ·rw [upto_from (u := t + r.2.1) (t := t + 1) (n := n) (by omega) (by omega) (fun v q1 q2 => by rw [at_one, g2 v (by omega) q2]; rfl)]
  rw [show (t + 1 + (n : Int) - (t + r.2.1)).toNat = (to - (t + r.2.1)).toNat by omega]; rfl
 ·rw [upto_none (n := n) (fun v q1 q2 => by rw [at_one, g2 v (by omega) (by omega)]; rfl), show (to - (t + r.2.1)).toNat = 0 by omega]; rfl
theorem one_first {r : DRegular} (h : RegOk r) (t to : Int) : upto [r] t (to - t).toNat = upto [r] (nx r t) (to - nx r t).toNat := by
 obtain ⟨n1, n2, n3, n4, n5⟩ := nx_ok h t
 rcases Int.lt_or_le (nx r t) to with h1 | h1
 ·rw [upto_from (u := nx r t) (t := t) (n := (to - t).toNat) n1 (by omega) (fun v q1 q2 => by rw [at_one, n3 v q1 q2]; rfl)]
  congr 1
  omega
 ·rw [show (to - nx r t).toNat = 0 by omega, upto_none (fun v q1 q2 => by rw [at_one, n3 v q1 (by omega)]; rfl)]; rfl
theorem one_len {r : DRegular} (h : RegOk r) : ∀ (d : Nat) (t to : Int), hit r t = true → (to - t).toNat = d → ((upto [r] t (to - t).toNat).length : Int) = if t < to then (to - 1 - t) / r.2.1 + 1 else 0 := by
 intro d
 induction d using Nat.strongRecOn with
 | _ d ih =>
  intro t to ht hd
  have a1 := h.1.1
  by_cases hlt : t < to
  ·rw [one_step h ht hlt, if_pos hlt, List.length_cons]
   have := ih (to - (t + r.2.1)).toNat (by omega) (t + r.2.1) to (hit_next h ht).1 rfl
   rw [Int.natCast_add, this]
   by_cases h2 : t + r.2.1 < to
   ·rw [if_pos h2]
    have e : (to - 1 - t) / r.2.1 = (to - 1 - (t + r.2.1)) / r.2.1 + 1 := by
     rw [show to - 1 - t = (to - 1 - (t + r.2.1)) + 1 * r.2.1 by omega, Int.add_mul_ediv_right _ _ (by omega)]
    rw [e]; rfl
   ·rw [if_neg h2, Int.ediv_eq_zero_of_lt (by omega) (by omega)]; rfl
  ·rw [if_neg hlt, show (to - t).toNat = 0 by omega]; rfl
theorem cnt_len {r : DRegular} (h : RegOk r) (t to : Int) : ((upto [r] t (to - t).toNat).length : Int) = cnt r t to := by
 rw [one_first h, one_len h _ _ _ (nx_ok h t).2.1 rfl]; rfl
theorem contains_reg (l : List DRegular) (hl : l.length ≤ 4611686018427387904) (v : DRegular) : Ev (fun k => slices_Contains_apiRegular.f k l v) (decide (v ∈ l), ()) := by
 obtain ⟨n, h1, h2⟩ := idx_loop (Ty.dflt YRegular) v (e := fun x => eqV YRegular v x) (fun x => eqV_iff (τ := YRegular) rfl) l hl (g := fun k i => slices_Index_apiRegular.c0 k l v.1 v.2.1 v.2.2 (l.length : Int) i) (fun k i => slices_Index_apiRegular.c0_eq _ _ _ _ _ _ _)
 refine Ev.eq (fun k => by rw [slices_Contains_apiRegular.f_eq]) (Ev.bind (Ev.eq (fun k => by rw [slices_Index_apiRegular.f_eq]) h1) (Ev.is ?_))
 simp only [h2]
structure PlanOk (p : List DParameter) (l : List DLayout) (s : List DRegular) : Prop where
 all : AllOk p l
 len : s.length ≤ 50
 reg : ∀ r ∈ s, RegOk r
 lay : ∀ r ∈ s, ∃ x, findL l r.1 = some x
theorem plans_ev (p : List DParameter) (l : List DLayout) (s : List DRegular) (h0 : okT (.sl YParameter) p) (h1 : okT (.sl YLayout) l) (hs : s.length ≤ 4611686018427387904) :
 ∃ c, Ev (fun k => telemetry_CheckPlan.f k p l s) (c, ()) ∧ Ev (fun k => perigeeref7_CheckPlan.f k p l s) (c, ()) ∧ (c = 0 → PlanOk p l s) := by
 obtain ⟨c, c1, c2, ok⟩ := layoutsOk p l h0 h1
 have : Twin (fun k => telemetry_CheckPlan.f k p l s) (fun k => perigeeref7_CheckPlan.f k p l s) (fun a b => a = b ∧ (a.1 = 0 → PlanOk p l s)) := by
  simp only [telemetry_CheckPlan.f_eq, perigeeref7_CheckPlan.f_eq, decide_eq_true_eq, Bool.not_eq_true', decide_eq_false_iff_not]
  refine Twin.bindL c1 (Twin.bindR c2 ?_)
  by_cases hc : c = 0
  ·subst hc
   have a := ok rfl
   have hp := a.hp
   have hl := a.hl
   refine Twin.noL (fun h => h rfl) (Twin.noR (fun h => h rfl) ?_)
   refine Twin.ifL (fun h1 => Twin.yesR h1 (Twin.now ⟨rfl, fun h => absurd h (by decide)⟩)) (fun h1 => Twin.noR h1 ?_)
   have loop : ∀ (d i : Nat), i + d = s.length → Twin (fun k => telemetry_CheckPlan.c0 k l s s (s.length : Int) i) (fun k => perigeeref7_CheckPlan.c0 k p l s s (s.length : Int) i) (fun a b => a = b ∧ (a.1 = 0 → ∀ r ∈ s.drop i, RegOk r ∧ ∃ x, findL l r.1 = some x)) := by
    intro d
    induction d with
    | zero =>
     intro i hi
     refine Twin.stepL (fun k => by rw [telemetry_CheckPlan.c0_eq]) (Twin.stepR (fun k => by rw [perigeeref7_CheckPlan.c0_eq]) ?_)
     simp only [decide_eq_true_eq]
     refine Twin.noL (by omega) (Twin.noR (by omega) (Twin.now ⟨rfl, fun _ x hx => ?_⟩))
     rw [List.drop_of_length_le (by omega)] at hx
     simp at hx
    | succ d ih =>
     intro i hi
     have next := ih (i + 1) (by omega)
     have hd := List.drop_eq_getElem_cons (show i < s.length by omega)
     refine Twin.stepL (fun k => by rw [telemetry_CheckPlan.c0_eq]) (Twin.stepR (fun k => by rw [perigeeref7_CheckPlan.c0_eq]) ?_)
     rw [w64 (x := (i : Int) + 1) (by omega) (by omega)]
     simp only [decide_eq_true_eq, Bool.not_eq_true', decide_eq_false_iff_not, Int.toNat_natCast, getD_nat (Ty.dflt YRegular) s i (by omega), List.drop_zero]
     refine Twin.yesL (by omega) (Twin.yesR (by omega) (Twin.yesL (by omega) (Twin.yesR (by omega) ?_)))
     refine Twin.bindL (layout_ev l (by omega) s[i].1) (Twin.bindR (partsOf_ev p (by omega) l (by omega) (fun x hx => by have := (a.ok x hx).2.1; omega) s[i].1) ?_)
     simp only [fndL_ok]
     cases hf : findL l s[i].1 with
     | none => exact Twin.yesL rfl (Twin.yesR rfl (Twin.now ⟨rfl, fun h => absurd h (by decide)⟩))
     | some x =>
      refine Twin.noL (by simp) (Twin.noR (by simp) ?_)
      simp only [in_ev, within_ev, Option.bind_some, decide_eq_false_iff_not]
      refine Twin.ifL (fun h1 => Twin.yesR h1 (Twin.now ⟨rfl, fun h => absurd h (by decide)⟩)) (fun h1 => Twin.noR h1 ?_)
      rw [w64 (x := s[i].2.1 - 1) (by omega) (by omega)]
      refine Twin.ifL (fun h2 => Twin.yesR h2 (Twin.now ⟨rfl, fun h => absurd h (by decide)⟩)) (fun h2 => Twin.noR h2 ?_)
      refine Twin.yesL (by omega) (Twin.yesR (by omega) (Twin.bindL (contains_reg _ (by simp; omega) _) (Twin.bindR (contains_reg _ (by simp; omega) _) ?_)))
      refine Twin.ifL (fun h3 => Twin.yesR h3 (Twin.now ⟨rfl, fun h => absurd h (by decide)⟩)) (fun h3 => Twin.noR h3 ?_)
      refine Twin.mono next fun a b ⟨g1, g2⟩ => ⟨g1, fun h r hr => ?_⟩
      rw [hd] at hr
      rcases List.mem_cons.1 hr with rfl | hr
      ·exact ⟨⟨by omega, by omega⟩, x, hf⟩
      ·exact g2 h r hr
   exact Twin.mono (loop s.length 0 (by omega)) fun a' b' ⟨g1, g2⟩ => ⟨g1, fun h => ⟨a, by omega, fun r hr => (g2 h r hr).1, fun r hr => (g2 h r hr).2⟩⟩
  ·exact Twin.yesL hc (Twin.yesR hc (Twin.now ⟨rfl, fun h => absurd h hc⟩))
 obtain ⟨a, b, h1, h2, rfl, h3⟩ := this
 exact ⟨a.1, h1, h2, h3⟩

end Go.Proofs.Ytcefbdknoelacaa.Pure

-- YtcefbdknoelacaaQ12
set_option linter.unusedVariables false
set_option linter.unusedSimpArgs false
namespace Go.Proofs.Ytcefbdknoelacaa.Pure
open Go Go.Proofs.Ytcefbdknoelacaa.A

def gcdI (a b : Int) : Int := ((Int.gcd a b : Nat) : Int)
theorem gcdI_ok {a b : Int} (ha : 0 ≤ a) (hb : 0 < b) : 1 ≤ gcdI a b ∧ gcdI a b ∣ a ∧ gcdI a b ∣ b := by
 unfold gcdI
 have h : 0 < Int.gcd a b := Int.gcd_pos_of_ne_zero_right a (by omega)
 exact ⟨by omega, Int.gcd_dvd_left .., Int.gcd_dvd_right ..⟩
theorem gcdT (a b : Int) (ha : 0 ≤ a) (hb : 0 ≤ b) : Ev (fun k => kit_Gcd.f k a b) (gcdI a b, ()) := gcdT_ev _ a b rfl ha hb
def lcm1 (L e : Int) : Int := L / gcdI L e * e
def cyc : Int → List DRegular → Option Int
 | L, [] => some L
 | L, r :: s => if 1000000 < lcm1 L r.2.1 then none else cyc (lcm1 L r.2.1) s
def many (L : Int) : List DRegular → Int
 | [] => 0
 | r :: s => L / r.2.1 + many L s
theorem lcm1_ok {L e : Int} (h1 : 1 ≤ L) (he : 1 ≤ e) : 1 ≤ lcm1 L e ∧ lcm1 L e % L = 0 ∧ lcm1 L e % e = 0 ∧ L / gcdI L e ≤ L ∧ 1 ≤ L / gcdI L e := by
 obtain ⟨g1, ⟨x, g2⟩, ⟨y, g3⟩⟩ := gcdI_ok (a := L) (b := e) (by omega) (by omega)
 unfold lcm1
 generalize gcdI L e = g at *
 have hx : L / g = x := by rw [g2]; exact Int.mul_ediv_cancel_left _ (by omega)
 have x1 : 1 ≤ x := by
  apply Classical.byContradiction
  intro hn
  have : g * x ≤ 0 := Int.mul_nonpos_of_nonneg_of_nonpos (by omega) (by omega)
  omega
 have y1 : 1 ≤ y := by
  apply Classical.byContradiction
  intro hn
  have : g * y ≤ 0 := Int.mul_nonpos_of_nonneg_of_nonpos (by omega) (by omega)
  omega
 rw [hx]
 refine ⟨?_, ?_, Int.mul_emod_left _ _, ?_, x1⟩
 ·have := Int.mul_pos (show 0 < x by omega) (show 0 < e by omega)
  omega
 ·have : x * e = L * y := by
   have e1 : x * e = x * (g * y) := congrArg (fun z => x * z) g3
   rw [e1, ← Int.mul_assoc, Int.mul_comm x g, ← g2]
  rw [this]; exact Int.mul_emod_right _ _
 ·have := Int.mul_le_mul_of_nonneg_right g1 (show 0 ≤ x by omega)
  omega
theorem cyc_ok : ∀ {s : List DRegular} {L M : Int}, (∀ r ∈ s, RegOk r) → 1 ≤ L → L ≤ 1000000 → cyc L s = some M → 1 ≤ M ∧ M ≤ 1000000 ∧ M % L = 0 ∧ ∀ r ∈ s, M % r.2.1 = 0
 | [], L, M, _, h1, h2, h => by cases h; exact ⟨h1, h2, Int.emod_self, fun _ h => by cases h⟩
 | r :: s, L, M, hr, h1, h2, h => by
  have ro := (hr r (by simp)).1
  obtain ⟨a1, a2, a3, _, _⟩ := lcm1_ok h1 ro.1
  rw [cyc] at h
  split at h
  ·cases h
  ·obtain ⟨b1, b2, b3, b4⟩ := cyc_ok (s := s) (fun x hx => hr x (by simp [hx])) a1 (by omega) h
   have d1 : lcm1 L r.2.1 ∣ M := Int.dvd_of_emod_eq_zero b3
   refine ⟨b1, b2, Int.emod_eq_zero_of_dvd (Int.dvd_trans (Int.dvd_of_emod_eq_zero a2) d1), fun x hx => ?_⟩
   rcases List.mem_cons.1 hx with rfl | hx
   ·exact Int.emod_eq_zero_of_dvd (Int.dvd_trans (Int.dvd_of_emod_eq_zero a3) d1)
   ·exact b4 x hx
def cycR (s : List DRegular) : Int × Int × Unit := match cyc 1 s with
 | none => (0, 16, ())
 | some L => if 20000 < many L s then (0, 2, ()) else (L, 0, ())
theorem cycleT_ev (s : List DRegular) (hs : s.length ≤ 50) (hr : ∀ r ∈ s, RegOk r) : Ev (fun k => telemetry_cycle.f k s) (cycR s) := by
 refine Ev.eq (fun k => by rw [telemetry_cycle.f_eq]) ?_
 have tail : ∀ L, 1 ≤ L → L ≤ 1000000 → Ev (fun k => telemetry_cycle.c1 k L 0 s (s.length : Int) 0) (if 20000 < many L s then (0, 2, ()) else (L, 0, ())) := fun L l1 l2 => by
  have h := Ev.rng (σ := Int) (Ty.dflt YRegular) s (by omega) (g := fun k c i => telemetry_cycle.c1 k L c s (s.length : Int) i) (fun k c i => telemetry_cycle.c1_eq _ _ _ _ _ _)
   (fun i c => 0 ≤ c ∧ c ≤ 1000000 * i ∧ c + many L (s.drop i) = many L s) (fun r i c => if 20000 < many L s then (0, 2, ()) else (L, 0, ())) (fun c hc => by
    obtain ⟨c0, c1, c2⟩ := hc
    rw [List.drop_length, many] at c2
    simp only [decide_eq_true_eq]
    rw [show c = many L s by omega]
    exact Ev.split (fun h => by rw [if_pos h]; exact Ev.now _) (fun h => by rw [if_neg h]; exact Ev.now _)) (fun i x xs c hi hx hd hget hw hc next => by
    obtain ⟨c0, c1, c2⟩ := hc
    have ro := (hr x hx).1
    have a := Int.ediv_nonneg (show 0 ≤ L by omega) (show (0 : Int) ≤ x.2.1 by omega)
    have b := Int.ediv_le_self x.2.1 (show 0 ≤ L by omega)
    have hd2 : s.drop (i + 1) = xs := by rw [← List.drop_drop, hd]; rfl
    rw [hd, many] at c2
    simp only [Int.toNat_natCast, hget, hw]
    rw [Int.tdiv_eq_ediv_of_nonneg (by omega), w64 (x := L / x.2.1) (by omega) (by omega), w64 (x := c + L / x.2.1) (by omega) (by omega)]
    exact Ev.yes (by omega) (next (c + L / x.2.1) ⟨by omega, by omega, by rw [hd2]; omega⟩)) 0 0 (by omega) ⟨by omega, by omega, by simp⟩
  exact h
 have h := Ev.rng (σ := Int) (Ty.dflt YRegular) s (by omega) (g := fun k L i => telemetry_cycle.c0 k s L s (s.length : Int) i) (fun k L i => telemetry_cycle.c0_eq _ _ _ _ _ _)
  (fun i L => 1 ≤ L ∧ L ≤ 1000000 ∧ cyc L (s.drop i) = cyc 1 s) (fun r i L => cycR s) (fun L hL => by
   obtain ⟨l1, l2, l3⟩ := hL
   rw [List.drop_length, cyc] at l3
   unfold cycR
   rw [← l3]
   exact tail L l1 l2) (fun i x xs L hi hx hd hget hw hL next => by
   obtain ⟨l1, l2, l3⟩ := hL
   have ro := (hr x hx).1
   obtain ⟨a1, a2, a3, a4, a5⟩ := lcm1_ok l1 ro.1
   obtain ⟨g1, _⟩ := gcdI_ok (a := L) (b := x.2.1) (by omega) (by omega)
   have bd : L / gcdI L x.2.1 * x.2.1 ≤ 1000000 * 100000 := Int.mul_le_mul (by omega) ro.2 (by omega) (by omega)
   have hd2 : s.drop (i + 1) = xs := by rw [← List.drop_drop, hd]; rfl
   rw [hd, cyc] at l3
   simp only [Int.toNat_natCast, hget, hw, decide_eq_true_eq]
   refine Ev.bind (gcdT L x.2.1 (by omega) (by omega)) (Ev.yes (by simp only; omega) ?_)
   simp only
   unfold lcm1 at a1 l3
   rw [Int.tdiv_eq_ediv_of_nonneg (by omega), w64 (x := L / gcdI L x.2.1) (by omega) (by omega), w64 (x := L / gcdI L x.2.1 * x.2.1) (by omega) (by omega)]
   refine Ev.split (fun h => ?_) (fun h => ?_)
   ·rw [if_pos h] at l3
    unfold cycR
    rw [← l3]
    exact Ev.now _
   ·rw [if_neg h] at l3
    exact next _ ⟨by omega, by omega, by rw [hd2]; exact l3⟩) 0 1 (by omega) ⟨by omega, by omega, by simp⟩
 exact h
end Go.Proofs.Ytcefbdknoelacaa.Pure

-- YtcefbdknoelacaaQ13
set_option linter.unusedVariables false
set_option linter.unusedSimpArgs false
namespace Go.Proofs.Ytcefbdknoelacaa.Pure
open Go Go.Proofs.Ytcefbdknoelacaa.A
section
variable (c : DRegular → Int)
def cost : List DRegular → Int → Int
 | [], _ => 0
 | r :: s, t => (if hit r t = true then c r else 0) + cost s t
def W (s : List DRegular) : Int → Nat → Int
 | _, 0 => 0
 | t, n + 1 => cost c s t + W s (t + 1) n
def wc : List DRegular → Int → Int → Int
 | [], _, _ => 0
 | r :: s, a, b => cnt r a b * c r + wc s a b
def total : List DRegular → Int → Int
 | [], _ => 0
 | r :: s, L => L / r.2.1 * c r + total s L
end
section
variable {c : DRegular → Int} {s : List DRegular}
theorem W_split : ∀ (n m : Nat) (t : Int), W c s t (n + m) = W c s t n + W c s (t + n) m
 | 0, m, t => by simp [W]
 | n + 1, m, t => by
  rw [show n + 1 + m = (n + m) + 1 by omega, W, W, W_split n m (t + 1), show t + 1 + (n : Int) = t + ((n + 1 : Nat) : Int) by omega]
  omega
theorem cost_pos (hc : ∀ r ∈ s, 0 ≤ c r) (t : Int) : 0 ≤ cost c s t := by
 induction s with
 | nil => exact Int.le_refl _
 | cons r s ih =>
  have h1 := hc r (by simp)
  have h2 := ih (fun x hx => hc x (by simp [hx]))
  simp only [cost]
  split <;> omega
theorem W_pos (hc : ∀ r ∈ s, 0 ≤ c r) : ∀ (n : Nat) (t : Int), 0 ≤ W c s t n
 | 0, _ => Int.le_refl _
 | n + 1, t => by
  have h1 := cost_pos hc t
  have h2 := W_pos hc n (t + 1)
  rw [W]; omega
theorem W_mono (hc : ∀ r ∈ s, 0 ≤ c r) (t : Int) {n m : Nat} (h : n ≤ m) : W c s t n ≤ W c s t m := by
 have := W_split (c := c) (s := s) n (m - n) t
 rw [show n + (m - n) = m by omega] at this
 have := W_pos (c := c) (s := s) hc (m - n) (t + n)
 omega
theorem cost_none {t : Int} (h : ∀ r ∈ s, hit r t = false) : cost c s t = 0 := by
 induction s with
 | nil => rfl
 | cons r s ih =>
  simp only [cost]
  rw [h r (by simp), ih (fun x hx => h x (by simp [hx]))]; rfl
theorem W_none : ∀ {n : Nat} {t : Int}, (∀ u, t ≤ u → u < t + n → ∀ r ∈ s, hit r u = false) → W c s t n = 0
 | 0, _, _ => rfl
 | n + 1, t, h => by
  rw [W, cost_none (h t (by omega) (by omega)), W_none (fun u h1 h2 => h u (by omega) (by omega))]; rfl
theorem W_cons (r : DRegular) : ∀ (n : Nat) (t : Int), W c (r :: s) t n = W c [r] t n + W c s t n
 | 0, _ => rfl
 | n + 1, t => by simp only [W, cost, W_cons r n (t + 1)]; omega
theorem W_one (r : DRegular) : ∀ (n : Nat) (t : Int), W c [r] t n = ((upto [r] t n).length : Int) * c r
 | 0, _ => by simp [W, upto]
 | n + 1, t => by
  rw [W, W_one r n (t + 1), upto, List.length_append, at_one, Int.natCast_add, Int.add_mul]
  congr 1
  simp only [cost]
  cases hit r t <;> simp
theorem W_wc : ∀ {s : List DRegular}, (∀ r ∈ s, RegOk r) → ∀ (a b : Int), W c s a (b - a).toNat = wc c s a b
 | [], _, a, b => by rw [W_none (fun _ _ _ r hr => by cases hr)]; rfl
 | r :: s, h, a, b => by rw [W_cons, W_one, cnt_len (h r (by simp)), W_wc (s := s) (fun x hx => h x (by simp [hx]))]; rfl
theorem hit_per {r : DRegular} (h : RegOk r) {L t : Int} (hL : 0 ≤ L) (hd : L % r.2.1 = 0) (ht : 0 ≤ t) : hit r (t + L) = hit r t := by
 obtain ⟨⟨h1, h2⟩, h3, h4⟩ := h
 unfold hit
 have e : (t + L - r.2.2) % r.2.1 = (t - r.2.2) % r.2.1 := by
  obtain ⟨q, hq⟩ := Int.dvd_of_emod_eq_zero hd
  rw [show t + L - r.2.2 = (t - r.2.2) + r.2.1 * q by omega, Int.add_mul_emod_self_left]
 rw [e]
 congr 1
 apply propext
 constructor
 ·rintro ⟨g1, g2⟩
  refine ⟨?_, g2⟩
  apply Classical.byContradiction
  intro hn
  have e2 := Int.add_mul_emod_self_left (t - r.2.2) r.2.1 1
  rw [Int.emod_eq_of_lt (show 0 ≤ t - r.2.2 + r.2.1 * 1 by omega) (by omega)] at e2
  omega
 ·rintro ⟨g1, g2⟩
  exact ⟨by omega, g2⟩
theorem cost_per {L : Int} (hL : 0 ≤ L) (hr : ∀ r ∈ s, RegOk r ∧ L % r.2.1 = 0) {t : Int} (ht : 0 ≤ t) : cost c s (t + L) = cost c s t := by
 induction s with
 | nil => rfl
 | cons r s ih =>
  simp only [cost]
  rw [hit_per (hr r (by simp)).1 hL (hr r (by simp)).2 ht, ih (fun x hx => hr x (by simp [hx]))]
theorem W_per {L : Int} (hL : 0 ≤ L) (hr : ∀ r ∈ s, RegOk r ∧ L % r.2.1 = 0) : ∀ (n : Nat) {t : Int}, 0 ≤ t → W c s (t + L) n = W c s t n
 | 0, _, _ => rfl
 | n + 1, t, ht => by
  rw [W, W, cost_per hL hr ht, show t + L + 1 = (t + 1) + L by omega, W_per hL hr n (by omega)]
theorem total_is {L : Int} (hL : 1 ≤ L) : ∀ {s : List DRegular}, (∀ r ∈ s, RegOk r ∧ L % r.2.1 = 0) → wc c s 0 L = total c s L
 | [], _ => rfl
 | r :: s, h => by
  obtain ⟨⟨⟨h1, h2⟩, h3, h4⟩, hd⟩ := h r (by simp)
  have e : cnt r 0 L = L / r.2.1 := by
   obtain ⟨q, hq⟩ := Int.dvd_of_emod_eq_zero hd
   have q1 : 1 ≤ q := by
    apply Classical.byContradiction
    intro hn
    have : r.2.1 * q ≤ 0 := Int.mul_nonpos_of_nonneg_of_nonpos (by omega) (by omega)
    omega
   have le : r.2.1 * 1 ≤ r.2.1 * q := Int.mul_le_mul_of_nonneg_left q1 (by omega)
   have hnx : nx r 0 = r.2.2 := by unfold nx; rw [if_pos h3]
   unfold cnt
   rw [hnx, if_pos (by omega), show L / r.2.1 = q by rw [hq]; exact Int.mul_ediv_cancel_left _ (by omega)]
   have : (L - 1 - r.2.2) / r.2.1 = q - 1 := by
    refine ((Int.ediv_emod_unique (a := L - 1 - r.2.2) (b := r.2.1) (r := r.2.1 - 1 - r.2.2) (q := q - 1) (by omega)).2 ⟨?_, by omega, by omega⟩).1
    rw [Int.mul_sub]; omega
   omega
  rw [wc, total, e, total_is hL (s := s) (fun x hx => h x (by simp [hx]))]
theorem W_round {L : Int} (hL : 1 ≤ L) (hr : ∀ r ∈ s, RegOk r ∧ L % r.2.1 = 0) : ∀ (t : Nat), W c s (t : Int) L.toNat = total c s L
 | 0 => by
  have := W_wc (c := c) (s := s) (fun r h => (hr r h).1) 0 L
  rw [Int.sub_zero, total_is hL hr] at this
  exact this
 | t + 1 => by
  obtain ⟨n, hn⟩ : ∃ n, L.toNat = n + 1 := ⟨L.toNat - 1, by omega⟩
  have h1 := W_round hL hr t
  have h2 := W_split (c := c) (s := s) n 1 ((t : Int) + 1)
  rw [hn, W] at h1
  have h3 : W c s ((t : Int) + 1 + (n : Int)) 1 = cost c s (t : Int) := by
   rw [W, W, show (t : Int) + 1 + (n : Int) = (t : Int) + L by omega, cost_per (by omega) hr (by omega)]
   omega
  rw [hn, show ((t + 1 : Nat) : Int) = (t : Int) + 1 by omega, h2, h3]
  omega
theorem W_rounds {L : Int} (hL : 1 ≤ L) (hr : ∀ r ∈ s, RegOk r ∧ L % r.2.1 = 0) (k : Nat) : ∀ (q : Nat) (m : Nat), W c s (k : Int) (q * L.toNat + m) = q * total c s L + W c s (k : Int) m
 | 0, m => by simp
 | q + 1, m => by
  rw [show (q + 1) * L.toNat + m = L.toNat + (q * L.toNat + m) by rw [Nat.succ_mul]; omega, W_split, W_round hL hr k, show (k : Int) + (L.toNat : Int) = (k : Int) + L by omega, W_per (by omega) hr _ (by omega), W_rounds hL hr k q m]
  rw [show ((q + 1 : Nat) : Int) = (q : Int) + 1 by omega, Int.add_mul]
  omega
end
structure LoadIs (c : DRegular → Int) (s : List DRegular) (L ms v : Int) : Prop where
 pos : 0 ≤ v
 le : ∀ k : Nat, (k : Int) < L → (∃ r ∈ s, hit r k = true) → W c s k ms.toNat ≤ v
 is : v = 0 ∨ ∃ k : Nat, (k : Int) < L ∧ (∃ r ∈ s, hit r k = true) ∧ v = W c s k ms.toNat
end Go.Proofs.Ytcefbdknoelacaa.Pure

-- YtcefbdknoelacaaQ14
set_option linter.unusedVariables false
set_option linter.unusedSimpArgs false
namespace Go.Proofs.Ytcefbdknoelacaa.Pure
open Go Go.Proofs.Ytcefbdknoelacaa.A

def sz (p : List DParameter) (l : List DLayout) (r : DRegular) : Int := match findL l r.1 with
 | some x => (bsum (ps p x) + 7) / 8
 | none => 0
theorem sz_bd {p : List DParameter} {l : List DLayout} (a : AllOk p l) (r : DRegular) : 0 ≤ sz p l r ∧ sz p l r ≤ 601 := by
 unfold sz
 split
 ·rename_i x hx
  have k := a.ps (findL_some hx).1
  have b := bsum_bd k.2
  have := k.1
  omega
 ·omega
theorem sizeT_ev {p : List DParameter} {l : List DLayout} {s : List DRegular} (h : PlanOk p l s) {r : DRegular} (hr : r ∈ s) : Ev (fun k => telemetry_sizeOf.f k p l r.1) (sz p l r, ()) := by
 obtain ⟨x, hx⟩ := h.lay r hr
 have a := h.all
 have hl := a.hl
 have k := a.ps (findL_some hx).1
 have b := bsum_bd k.2
 have := k.1
 refine Ev.eq (fun k => by rw [telemetry_sizeOf.f_eq]) (Ev.bind (layout_ev l (by omega) r.1) ?_)
 rw [hx]
 refine Ev.bind (bitsOfT_ev p a.hp a.hf x (a.ok x (findL_some hx).1)) (Ev.is ?_)
 unfold sz
 rw [hx]
 simp only
 rw [w64 (x := bsum (ps p x) + 7) (by omega) (by omega), Int.tdiv_eq_ediv_of_nonneg (by omega), w64 (by omega) (by omega)]
def tms (L : Int) (r : DRegular) : List Int := (upto [r] 0 L.toNat).map (·.1)
theorem upto_iff (r : DRegular) : ∀ (n : Nat) (t k : Int), k ∈ (upto [r] t n).map (·.1) ↔ t ≤ k ∧ k < t + n ∧ hit r k = true
 | 0, t, k => by simp [upto]; omega
 | n + 1, t, k => by
  rw [upto, List.map_append, List.mem_append, upto_iff r n (t + 1) k, at_one]
  by_cases ht : hit r t = true
  ·rw [if_pos ht]
   simp only [List.map_cons, List.map_nil, List.mem_singleton]
   constructor
   ·rintro (rfl | ⟨h1, h2, h3⟩)
    ·exact ⟨by omega, by omega, ht⟩
    ·exact ⟨by omega, by omega, h3⟩
   ·rintro ⟨h1, h2, h3⟩
    by_cases e : k = t
    ·exact .inl e
    ·exact .inr ⟨by omega, by omega, h3⟩
  ·rw [if_neg ht]
   simp only [List.map_nil, List.not_mem_nil, false_or]
   constructor
   ·rintro ⟨h1, h2, h3⟩
    exact ⟨by omega, by omega, h3⟩
   ·rintro ⟨h1, h2, h3⟩
    refine ⟨?_, by omega, h3⟩
    by_cases e : k = t
    ·subst e; exact absurd h3 ht
    ·omega
theorem tms_mem {L : Int} (hL : 0 ≤ L) {r : DRegular} {k : Int} : k ∈ tms L r ↔ 0 ≤ k ∧ k < L ∧ hit r k = true := by
 unfold tms
 rw [upto_iff]
 constructor
 ·rintro ⟨h1, h2, h3⟩; exact ⟨h1, by omega, h3⟩
 ·rintro ⟨h1, h2, h3⟩; exact ⟨h1, by omega, h3⟩
theorem cnt_full {L : Int} (hL : 1 ≤ L) {r : DRegular} (h : RegOk r ∧ L % r.2.1 = 0) : cnt r 0 L = L / r.2.1 := by
 have := total_is (c := fun _ => 1) hL (s := [r]) (fun x hx => by simp at hx; subst hx; exact h)
 simpa [wc, total] using this
theorem tms_len {L : Int} (hL : 1 ≤ L) {r : DRegular} (h : RegOk r ∧ L % r.2.1 = 0) : ((tms L r).length : Int) = L / r.2.1 := by
 unfold tms
 rw [List.length_map]
 have := cnt_len h.1 0 L
 rw [Int.sub_zero] at this
 rw [this, cnt_full hL h]
def allT (L : Int) (s : List DRegular) : List Int := s.flatMap (tms L)
theorem allT_len {L : Int} (hL : 1 ≤ L) : ∀ {s : List DRegular}, (∀ r ∈ s, RegOk r ∧ L % r.2.1 = 0) → ((allT L s).length : Int) = many L s
 | [], _ => rfl
 | r :: s, h => by
  have := allT_len hL (s := s) (fun x hx => h x (by simp [hx]))
  unfold allT at this ⊢
  rw [List.flatMap_cons, List.length_append, Int.natCast_add, this, tms_len hL (h r (by simp))]; rfl
theorem allT_mem {L : Int} (hL : 0 ≤ L) {s : List DRegular} {k : Int} : k ∈ allT L s ↔ 0 ≤ k ∧ k < L ∧ ∃ r ∈ s, hit r k = true := by
 unfold allT
 rw [List.mem_flatMap]
 constructor
 ·rintro ⟨r, h1, h2⟩
  obtain ⟨a, b, c⟩ := (tms_mem hL).1 h2
  exact ⟨a, b, r, h1, c⟩
 ·rintro ⟨a, b, r, h1, c⟩
  exact ⟨r, h1, (tms_mem hL).2 ⟨a, b, c⟩⟩
theorem allT_snoc (L : Int) (s : List DRegular) (r : DRegular) : allT L (s ++ [r]) = allT L s ++ tms L r := by
 unfold allT; rw [List.flatMap_append, List.flatMap_cons, List.flatMap_nil, List.append_nil]
theorem many_append (L : Int) : ∀ (s r : List DRegular), many L (s ++ r) = many L s + many L r
 | [], _ => by simp [many]
 | x :: s, r => by simp only [List.cons_append, many, many_append L s r]; omega

structure Cyc (s : List DRegular) (L : Int) : Prop where
 is : cyc 1 s = some L
 few : many L s ≤ 20000
 pos : 1 ≤ L
 big : L ≤ 1000000
 all : ∀ r ∈ s, RegOk r ∧ L % r.2.1 = 0
theorem cyc_of {s : List DRegular} (hr : ∀ r ∈ s, RegOk r) (h : (cycR s).2.1 = 0) : Cyc s (cycR s).1 := by
 unfold cycR at h ⊢
 cases hc : cyc 1 s with
 | none => rw [hc] at h; simp at h
 | some L =>
  rw [hc] at h
  simp only at h ⊢
  by_cases hm : 20000 < many L s
  ·rw [if_pos hm] at h; simp at h
  ·rw [if_neg hm]
   obtain ⟨l1, l2, _, l4⟩ := cyc_ok hr (by omega) (by omega) hc
   exact ⟨hc, by simp only; omega, l1, l2, fun r h => ⟨hr r h, l4 r h⟩⟩
theorem many_pos {L : Int} (hL : 1 ≤ L) {s : List DRegular} (h : ∀ r ∈ s, RegOk r ∧ L % r.2.1 = 0) : 0 ≤ many L s := by
 have := allT_len hL h; omega
theorem tms_from {r : DRegular} (h : RegOk r) (L : Int) : tms L r = (upto [r] r.2.2 (L - r.2.2).toNat).map (·.1) := by
 unfold tms
 have := one_first h 0 L
 rw [Int.sub_zero, show nx r 0 = r.2.2 by unfold nx; rw [if_pos h.2.1]] at this
 rw [this]
theorem hit_first {r : DRegular} (h : RegOk r) : hit r r.2.2 = true := by
 have := (nx_ok h 0).2.1
 rwa [show nx r 0 = r.2.2 by unfold nx; rw [if_pos h.2.1]] at this
def LoadR (p : List DParameter) (l : List DLayout) (s : List DRegular) (c ms : Int) (r : Int × Int × Unit) : Prop :=
 if ¬ c = 0 then r = (0, c, ()) else if ¬ (1 ≤ ms ∧ ms ≤ 100000) then r = (0, 1, ()) else if ¬ (cycR s).2.1 = 0 then r = (0, (cycR s).2.1, ()) else r.2.1 = 0 ∧ LoadIs (sz p l) s (cycR s).1 ms r.1
end Go.Proofs.Ytcefbdknoelacaa.Pure

-- YtcefbdknoelacaaQ15
set_option linter.unusedVariables false
set_option linter.unusedSimpArgs false
namespace Go.Proofs.Ytcefbdknoelacaa.Pure
open Go Go.Proofs.Ytcefbdknoelacaa.A

theorem Ev.agreeL {α β : Type} {l : List β} (hl : l ≠ []) {K : Nat → β → List β → Option α} {r : α} (h : ∀ (i : Nat) (x : β), l[i]? = Option.some x → Ev (fun k => K k x (l.eraseIdx i)) r) : Ev (fun k => Go.Proofs.Ytcefbdknoelacaa.A.agreeL l (K k)) r := by
 have bound : ∀ b : Nat, ∃ N, ∀ i, i < b → ∀ x, l[i]? = Option.some x → ∀ n, N ≤ n → K n x (l.eraseIdx i) = Option.some r := by
  intro b
  induction b with
  | zero => exact ⟨0, fun i hi => by omega⟩
  | succ b ih =>
   obtain ⟨N, hN⟩ := ih
   cases hb : l[b]? with
   | none =>
    refine ⟨N, fun i hi x hx n hn => ?_⟩
    by_cases e : i = b
    ·subst e; rw [hb] at hx; cases hx
    ·exact hN i (by omega) x hx n hn
   | some y =>
    obtain ⟨M, hM⟩ := h b y hb
    refine ⟨max N M, fun i hi x hx n hn => ?_⟩
    by_cases e : i = b
    ·subst e; rw [hb] at hx; cases hx; exact hM n (by omega)
    ·exact hN i (by omega) x hx n (by omega)
 obtain ⟨N, hN⟩ := bound l.length
 refine ⟨N, fun n hn => ?_⟩
 have all : ∀ (i : Nat) (x : β), l[i]? = Option.some x → K n x (l.eraseIdx i) = Option.some r := fun i x hx => hN i (List.getElem?_eq_some_iff.1 hx).1 x hx n hn
 show Go.Proofs.Ytcefbdknoelacaa.A.agreeL l (K n) = _
 unfold Go.Proofs.Ytcefbdknoelacaa.A.agreeL
 have e : ∃ r, ∀ (i : Nat) (x : β), l[i]? = Option.some x → K n x (l.eraseIdx i) = Option.some r := ⟨r, all⟩
 rw [dif_pos e]
 obtain ⟨x, xs, rfl⟩ := List.exists_cons_of_ne_nil hl
 have h1 := Classical.choose_spec e 0 x rfl
 rw [all 0 x rfl] at h1
 exact h1.symm

theorem sorted_eq : ∀ {a b : List Int}, a.Pairwise (· ≤ ·) → b.Pairwise (· ≤ ·) → a.Perm b → a = b
 | [], b, _, _, h => by have := h.length_eq; cases b with | nil => rfl | cons _ _ => simp at this
 | x :: a, [], _, _, h => by have := h.length_eq; simp at this
 | x :: a, y :: b, h1, h2, h => by
  rw [List.pairwise_cons] at h1 h2
  have xy : x = y := by
   have m1 : x ∈ y :: b := h.subset (by simp)
   have m2 : y ∈ x :: a := h.symm.subset (by simp)
   have : y ≤ x := by rcases List.mem_cons.1 m1 with e | e; (omega); exact h2.1 x e
   have : x ≤ y := by rcases List.mem_cons.1 m2 with e | e; (omega); exact h1.1 y e
   omega
  subst xy
  rw [sorted_eq h1.2 h2.2 (List.perm_cons x |>.1 h)]
theorem sortI_ok (a : List Int) : (sortI a).Perm a ∧ (sortI a).Pairwise (· ≤ ·) := by
 refine ⟨List.mergeSort_perm _ _, ?_⟩
 have := List.pairwise_mergeSort (le := fun x y : Int => decide (x ≤ y)) (fun a b c h1 h2 => by simp at *; omega) (fun a b => by simp; omega) a
 exact this.imp fun h => by simpa using h
theorem sortI_perm {a b : List Int} (h : a.Perm b) : sortI a = sortI b :=
 sorted_eq (sortI_ok a).2 (sortI_ok b).2 ((sortI_ok a).1.trans (h.trans (sortI_ok b).1.symm))
theorem perm_erase {α : Type} : ∀ {l : List α} {i : Nat} {x : α}, l[i]? = some x → l.Perm (x :: l.eraseIdx i)
 | [], _, _, h => by simp at h
 | y :: l, 0, x, h => by simp at h; subst h; exact List.Perm.refl _
 | y :: l, i + 1, x, h => by
  simp at h
  rw [List.eraseIdx_cons_succ]
  exact ((perm_erase h).cons y).trans (List.Perm.swap x y _)

abbrev mg (k : Int) (m : List (Int × Int)) : Int := mapGet (.int .i64) (.int .i64) k m (0 : Int)
abbrev mp (k v : Int) (m : List (Int × Int)) : List (Int × Int) := mapPut (.int .i64) (.int .i64) k v m
theorem mg_mp (k t v : Int) : ∀ m : List (Int × Int), mg k (mp t v m) = if k = t then v else mg k m
 | [] => by
  by_cases h : k = t
  ·subst h; simp [mg, mp, mapPut, mapGet, eqV]
  ·simp [mg, mp, mapPut, mapGet, eqV, h, Ne.symm h]
 | (a, b) :: m => by
  have ih := mg_mp k t v m
  by_cases h : a = t
  ·subst h
   by_cases h2 : k = a
   ·subst h2; simp [mg, mp, mapPut, mapGet, eqV]
   ·simp [mg, mp, mapPut, mapGet, eqV, h2, Ne.symm h2]
  ·by_cases h2 : a = k
   ·subst h2
    simp [mg, mp, mapPut, mapGet, eqV, h]
   ·simp only [mg, mp, mapPut, mapGet, eqV, h, h2, decide_false, Bool.false_eq_true, if_false] at ih ⊢
    exact ih
theorem keys_mp (t v : Int) : ∀ m : List (Int × Int), (mp t v m).map (·.1) = if t ∈ m.map (·.1) then m.map (·.1) else m.map (·.1) ++ [t]
 | [] => by simp [mp, mapPut]
 | (a, b) :: m => by
  have ih := keys_mp t v m
  by_cases h : a = t
  ·subst h; simp [mp, mapPut, eqV]
  ·simp only [mp, mapPut, eqV, h, decide_false, Bool.false_eq_true, if_false, List.map_cons, List.mem_cons, Ne.symm h, false_or] at ih ⊢
   rw [ih]
   split <;> simp
def evSum (k : Int) : List (Int × Int) → Int
 | [] => 0
 | e :: E => (if e.1 = k then e.2 else 0) + evSum k E
def evAll : List (Int × Int) → Int
 | [] => 0
 | e :: E => e.2 + evAll E
theorem evSum_append (k : Int) : ∀ (E F : List (Int × Int)), evSum k (E ++ F) = evSum k E + evSum k F
 | [], F => by simp [evSum]
 | e :: E, F => by simp only [List.cons_append, evSum, evSum_append k E F]; omega
theorem evAll_append : ∀ (E F : List (Int × Int)), evAll (E ++ F) = evAll E + evAll F
 | [], F => by simp [evAll]
 | e :: E, F => by simp only [List.cons_append, evAll, evAll_append E F]; omega
theorem ev_bd {b : Int} : ∀ {E : List (Int × Int)}, (∀ e ∈ E, 0 ≤ e.2 ∧ e.2 ≤ b) → ∀ k, 0 ≤ evSum k E ∧ evSum k E ≤ evAll E ∧ evAll E ≤ b * E.length
 | [], _, k => by simp [evSum, evAll]
 | e :: E, h, k => by
  have h1 := h e (by simp)
  obtain ⟨a, c, d⟩ := ev_bd (E := E) (fun x hx => h x (by simp [hx])) k
  simp only [evSum, evAll, List.length_cons]
  rw [show ((E.length + 1 : Nat) : Int) = (E.length : Int) + 1 by omega, Int.mul_add]
  split <;> omega
structure MapIs (m : List (Int × Int)) (E : List (Int × Int)) : Prop where
 get : ∀ k, mg k m = evSum k E
 nd : (m.map (·.1)).Nodup
 ks : ∀ k, k ∈ m.map (·.1) ↔ k ∈ E.map (·.1)
theorem MapIs.put {m E : List (Int × Int)} (h : MapIs m E) (t w : Int) : MapIs (mp t (mg t m + w) m) (E ++ [(t, w)]) := by
 refine ⟨fun k => ?_, ?_, fun k => ?_⟩
 ·rw [mg_mp, evSum_append, h.get t]
  by_cases e : k = t
  ·subst e; simp [evSum]
  ·rw [if_neg e, h.get k]; simp [evSum, Ne.symm e]
 ·rw [keys_mp]
  split
  ·exact h.nd
  ·rename_i hn
   rw [List.nodup_append]
   exact ⟨h.nd, by simp, fun a ha b hb e => by simp at hb; subst hb; subst e; exact hn ha⟩
 ·rw [keys_mp, List.map_append, List.mem_append, ← h.ks k]
  split
  ·rename_i ht
   constructor
   ·exact .inl
   ·rintro (h1 | h1)
    ·exact h1
    ·simp at h1; subst h1; exact ht
  ·rw [List.mem_append]; simp
def evs (c : DRegular → Int) (L : Int) (s : List DRegular) : List (Int × Int) := s.flatMap fun r => (tms L r).map fun t => (t, c r)
theorem evs_snoc (c : DRegular → Int) (L : Int) (s : List DRegular) (r : DRegular) : evs c L (s ++ [r]) = evs c L s ++ (tms L r).map fun t => (t, c r) := by
 unfold evs; rw [List.flatMap_append, List.flatMap_cons, List.flatMap_nil, List.append_nil]
theorem evs_times (c : DRegular → Int) (L : Int) : ∀ s : List DRegular, (evs c L s).map (·.1) = allT L s
 | [] => rfl
 | r :: s => by
  have := evs_times c L s
  unfold evs allT at *
  rw [List.flatMap_cons, List.flatMap_cons, List.map_append, this, List.map_map]
  congr 1
  exact List.map_id _
theorem evSum_none {k w : Int} : ∀ {T : List Int}, k ∉ T → evSum k (T.map fun t => (t, w)) = 0
 | [], _ => rfl
 | t :: T, h => by
  simp only [List.mem_cons, not_or] at h
  simp only [List.map_cons, evSum]
  rw [if_neg (Ne.symm h.1), evSum_none h.2]; rfl
theorem evSum_one (r : DRegular) (w : Int) : ∀ (n : Nat) (t k : Int), t ≤ k → k < t + n → evSum k (((upto [r] t n).map (·.1)).map fun t => (t, w)) = if hit r k = true then w else 0
 | 0, t, k, h1, h2 => by omega
 | n + 1, t, k, h1, h2 => by
  rw [upto, List.map_append, List.map_append, evSum_append, at_one]
  by_cases e : k = t
  ·subst e
   have : evSum k (((upto [r] (k + 1) n).map (·.1)).map fun t => (t, w)) = 0 := evSum_none fun h => by have := (upto_iff r n (k + 1) k).1 h; omega
   rw [this]
   cases hit r k <;> simp [evSum]
  ·rw [evSum_one r w n (t + 1) k (by omega) (by omega)]
   cases hit r t <;> simp [evSum, Ne.symm e]
theorem evSum_evs (c : DRegular → Int) {L : Int} {k : Int} (k0 : 0 ≤ k) (k1 : k < L) : ∀ s : List DRegular, evSum k (evs c L s) = cost c s k
 | [] => rfl
 | r :: s => by
  have := evSum_evs c k0 k1 s
  unfold evs at *
  rw [List.flatMap_cons, evSum_append, this, cost]
  congr 1
  exact evSum_one r (c r) L.toNat 0 k k0 (by omega)
theorem evAll_map (w : Int) : ∀ T : List Int, evAll (T.map fun t => (t, w)) = T.length * w
 | [] => by simp [evAll]
 | t :: T => by simp only [List.map_cons, evAll, evAll_map w T, List.length_cons]; rw [show ((T.length + 1 : Nat) : Int) = T.length + 1 by omega, Int.add_mul]; omega
theorem evAll_evs (c : DRegular → Int) {L : Int} (hL : 1 ≤ L) : ∀ {s : List DRegular}, (∀ r ∈ s, RegOk r ∧ L % r.2.1 = 0) → evAll (evs c L s) = total c s L
 | [], _ => rfl
 | r :: s, h => by
  have := evAll_evs c hL (s := s) (fun x hx => h x (by simp [hx]))
  unfold evs at *
  rw [List.flatMap_cons, evAll_append, this, evAll_map, tms_len hL (h r (by simp))]; rfl
end Go.Proofs.Ytcefbdknoelacaa.Pure

-- YtcefbdknoelacaaQ16
set_option linter.unusedVariables false
set_option linter.unusedSimpArgs false
namespace Go.Proofs.Ytcefbdknoelacaa.Pure
open Go Go.Proofs.Ytcefbdknoelacaa.A

theorem evs_ok {p : List DParameter} {l : List DLayout} (a : AllOk p l) (L : Int) (s : List DRegular) : ∀ e ∈ evs (sz p l) L s, 0 ≤ e.2 ∧ e.2 ≤ 601 := by
 intro e he
 obtain ⟨r, _, h⟩ := List.mem_flatMap.1 he
 obtain ⟨t, _, rfl⟩ := List.mem_map.1 h
 exact sz_bd a r
theorem evs_len (c : DRegular → Int) (L : Int) (s : List DRegular) : (evs c L s).length = (allT L s).length := by
 rw [← evs_times c L s, List.length_map]
theorem prgTimes_ev (p : List DParameter) (l : List DLayout) (s : List DRegular) (ms L : Int) (hP : PlanOk p l s) (hC : Cyc s L) {r : Int × Int × Unit}
 (next : ∀ m, MapIs m (evs (sz p l) L s) → Ev (fun k => telemetry_Load.c2 k ms L m (total (sz p l) s L) [] none m) r) :
 Ev (fun k => telemetry_Load.c0 k p l ms L [] 0 s (s.length : Int) 0) r := by
 have big := hC.big
 have few := hC.few
 have hs := hP.len
 have h := Ev.rng (σ := List (Int × Int) × Int) (Ty.dflt YRegular) s (by omega) (g := fun k S i => telemetry_Load.c0 k p l ms L S.1 S.2 s (s.length : Int) i) (fun k S i => telemetry_Load.c0_eq _ _ _ _ _ _ _ _ _ _)
  (fun i S => MapIs S.1 (evs (sz p l) L (s.take i)) ∧ S.2 = evAll (evs (sz p l) L (s.take i))) (fun _ _ _ => r) (fun S hS => by
   obtain ⟨h1, h2⟩ := hS
   rw [List.take_length] at h1 h2
   rw [h2, evAll_evs (sz p l) hC.pos hC.all]
   exact next _ h1) (fun i x xs S hi hx hd hget hw hS nxt => by
   simp only [Int.toNat_natCast, hget, hw]
   have ro := hC.all x hx
   have ht : s.take (i + 1) = s.take i ++ [x] := by
    rw [List.take_add_one]
    have : s[i]? = some x := by
     have := congrArg (fun l => l[0]?) hd
     simpa using this
    rw [this]; rfl
   have room : ((evs (sz p l) L (s.take i)).length : Int) + (tms L x).length ≤ 20000 := by
    have e1 := many_append L (s.take (i + 1)) (s.drop (i + 1))
    rw [List.take_append_drop] at e1
    have e2 := allT_len hC.pos (s := s.take (i + 1)) (fun r hr => hC.all r (List.mem_of_mem_take hr))
    rw [ht, allT_snoc, List.length_append, ← ht] at e2
    have e3 := many_pos hC.pos (s := s.drop (i + 1)) (fun r hr => hC.all r (List.mem_of_mem_drop hr))
    rw [evs_len]; omega
   have sb := sz_bd hP.all x
   refine Ev.bind (sizeT_ev hP hx) ?_
   simp only
   have own : ∀ (d : Nat) (t : Int) (w : List Int) (m : List (Int × Int)) (v : Int), hit x t = true → 0 ≤ t → t ≤ 2000000 → (L - t).toNat = d → w ++ (upto [x] t (L - t).toNat).map (·.1) = tms L x → MapIs m (evs (sz p l) L (s.take i) ++ w.map fun t => (t, sz p l x)) → v = evAll (evs (sz p l) L (s.take i) ++ w.map fun t => (t, sz p l x)) →
    Ev (fun k => telemetry_Load.c1 k p l ms L m v x.1 x.2.1 x.2.2 (sz p l x) t s (s.length : Int) i) r := by
    intro d
    induction d using Nat.strongRecOn with
    | _ d ihd =>
     intro t w m v ht0 ht1 ht2 hd' hw' hm hv
     have a1 := ro.1.1
     refine Ev.step (fun k => by rw [telemetry_Load.c1_eq]) ?_
     simp only [decide_eq_true_eq]
     refine Ev.split (fun h => ?_) (fun h => ?_)
     ·have wl := congrArg List.length hw'
      rw [List.length_append] at wl
      have bd := ev_bd (b := 601) (E := evs (sz p l) L (s.take i) ++ w.map fun t => (t, sz p l x)) (fun e he => by
       rcases List.mem_append.1 he with he | he
       ·exact evs_ok hP.all L _ e he
       ·obtain ⟨t, _, rfl⟩ := List.mem_map.1 he
        exact sb) t
      rw [← hm.get t, List.length_append, List.length_map] at bd
      have hsplit : w.map (fun t => (t, sz p l x)) ++ [(t, sz p l x)] = (w ++ [t]).map fun t => (t, sz p l x) := by simp
      have hm2 := hm.put t (sz p l x)
      rw [List.append_assoc, hsplit] at hm2
      have hv2 : v + sz p l x = evAll (evs (sz p l) L (s.take i) ++ (w ++ [t]).map fun t => (t, sz p l x)) := by
       rw [← hsplit, ← List.append_assoc, evAll_append, ← hv]; simp [evAll]
      rw [w64 (x := t + x.2.1) (by omega) (by omega), w64 (x := mg t m + sz p l x) (by omega) (by omega), w64 (x := v + sz p l x) (by omega) (by omega)]
      refine ihd (L - (t + x.2.1)).toNat (by omega) (t + x.2.1) (w ++ [t]) _ _ (hit_next ro.1 ht0).1 (by omega) (by omega) rfl ?_ hm2 hv2
      rw [← hw', one_step ro.1 ht0 h, List.append_assoc]; rfl
     ·rw [show (L - t).toNat = 0 by omega, upto, List.map_nil, List.append_nil] at hw'
      rw [hw]
      exact nxt (m, v) ⟨by rw [ht, evs_snoc, ← hw']; exact hm, by rw [ht, evs_snoc, ← hw']; exact hv⟩
   have f := ro.1.2
   have a1 := ro.1.1
   exact own _ x.2.2 [] S.1 S.2 (hit_first ro.1) f.1 (by omega) rfl (by rw [tms_from ro.1]; rfl) (by simpa using hS.1) (by simpa using hS.2)) 0 ([], 0) (by omega) ⟨⟨fun k => rfl, by simp, by simp [evs]⟩, rfl⟩
 exact h
theorem range_ev {ms L tot : Int} (hL : 1 ≤ L) {m : List (Int × Int)} {keys : List Int} (hk : keys.length ≤ 1000000) {r : Int × Int × Unit} (next : Ev (fun k => telemetry_Load.c3 k ms L m tot (sortI keys) 0 (Int.tmod ms L) 0 0 ((sortI keys).length : Int) 0) r) :
 ∀ (n : Nat) (done : List Int) (cur : Option DShare) (rest : List (Int × Int)), rest.length = n → (done ++ rest.map (·.1)).Perm keys → Ev (fun k => telemetry_Load.c2 k ms L m tot done cur rest) r := by
 intro n
 induction n with
 | zero =>
  intro done cur rest hn hp
  obtain rfl : rest = [] := List.eq_nil_of_length_eq_zero hn
  refine Ev.step (fun k => by rw [telemetry_Load.c2_eq]) ?_
  refine Ev.yes (by rfl) (Ev.yes (by omega) ?_)
  rw [List.map_nil, List.append_nil] at hp
  rw [sortI_perm hp]
  exact next
 | succ n ih =>
  intro done cur rest hn hp
  refine Ev.step (fun k => by rw [telemetry_Load.c2_eq]) ?_
  refine Ev.no (by omega) ?_
  refine Ev.agreeL (by intro e; subst e; simp at hn) fun i x hx => ?_
  have hi := (List.getElem?_eq_some_iff.1 hx).1
  have len := hp.length_eq
  rw [List.length_append, List.length_map] at len
  refine Ev.yes (by omega) (ih _ _ _ (by rw [List.length_eraseIdx]; split <;> omega) ?_)
  have := (perm_erase hx).map (·.1)
  rw [List.append_assoc]
  exact (this.symm.append_left done).trans hp
end Go.Proofs.Ytcefbdknoelacaa.Pure

-- YtcefbdknoelacaaQ17
set_option linter.unusedVariables false
set_option linter.unusedSimpArgs false
namespace Go.Proofs.Ytcefbdknoelacaa.Pure
open Go Go.Proofs.Ytcefbdknoelacaa.A

structure Enum (s : List DRegular) (X : List Int) (M : Int) : Prop where
 up : X.Pairwise (· < ·)
 mem : ∀ u, u ∈ X ↔ 0 ≤ u ∧ u < M ∧ ∃ r ∈ s, hit r u = true
theorem Enum.lt {s : List DRegular} {X : List Int} {M : Int} (h : Enum s X M) {i j : Nat} (hij : i < j) (hj : j < X.length) : X.getD i 0 < X.getD j 0 := by
 have := List.pairwise_iff_getElem.1 h.up i j (by omega) hj hij
 rw [getD_nat 0 X i (by omega), getD_nat 0 X j hj]
 exact this
theorem Enum.le {s : List DRegular} {X : List Int} {M : Int} (h : Enum s X M) {i j : Nat} (hij : i ≤ j) (hj : j < X.length) : X.getD i 0 ≤ X.getD j 0 := by
 rcases Nat.lt_or_ge i j with h1 | h1
 ·exact Int.le_of_lt (h.lt h1 hj)
 ·rw [show i = j by omega]; exact Int.le_refl _
theorem Enum.at {s : List DRegular} {X : List Int} {M : Int} (h : Enum s X M) {i : Nat} (hi : i < X.length) : 0 ≤ X.getD i 0 ∧ X.getD i 0 < M ∧ ∃ r ∈ s, hit r (X.getD i 0) = true := (h.mem _).1 (getD_mem hi)
theorem Enum.gap {s : List DRegular} {X : List Int} {M : Int} (h : Enum s X M) {j : Nat} (hj : j + 1 < X.length) {u : Int} (h1 : X.getD j 0 < u) (h2 : u < X.getD (j + 1) 0) : ∀ r ∈ s, hit r u = false := by
 intro r hr
 cases hh : hit r u with
 | false => rfl
 | true =>
  have a := h.at (i := j) (by omega)
  have b := h.at hj
  have m := (h.mem u).2 ⟨by omega, by omega, r, hr, hh⟩
  obtain ⟨p, hp, e⟩ := List.mem_iff_getElem.1 m
  rw [← getD_nat 0 X p hp] at e
  rcases Nat.lt_or_ge j p with q | q
  ·have := h.le (i := j + 1) (j := p) (by omega) hp; omega
  ·have := h.le (i := p) (j := j) q (by omega); omega
section
variable {c : DRegular → Int} {s : List DRegular} {X : List Int} {M : Int}
theorem W_next (h : Enum s X M) {a : Int} {j : Nat} (hj : j + 1 < X.length) (ha : a ≤ X.getD j 0) : W c s a (X.getD (j + 1) 0 - a).toNat = W c s a (X.getD j 0 - a).toNat + cost c s (X.getD j 0) := by
 have lt := h.lt (i := j) (j := j + 1) (by omega) hj
 have e1 := W_split (c := c) (s := s) (X.getD j 0 - a).toNat (1 + (X.getD (j + 1) 0 - X.getD j 0 - 1).toNat) a
 have e2 := W_split (c := c) (s := s) 1 (X.getD (j + 1) 0 - X.getD j 0 - 1).toNat (X.getD j 0)
 have e3 : W c s (X.getD j 0 + ((1 : Nat) : Int)) (X.getD (j + 1) 0 - X.getD j 0 - 1).toNat = 0 := W_none fun u h1 h2 => h.gap hj (by omega) (by omega)
 rw [show a + ((X.getD j 0 - a).toNat : Int) = X.getD j 0 by omega, e2, e3] at e1
 rw [show (X.getD (j + 1) 0 - a).toNat = (X.getD j 0 - a).toNat + (1 + (X.getD (j + 1) 0 - X.getD j 0 - 1).toNat) by omega, e1, W, W]
 omega
theorem W_first (h : Enum s X M) {i : Nat} (hi : i + 1 < X.length) {b : Int} (hb : X.getD (i + 1) 0 ≤ b) : W c s (X.getD i 0) (b - X.getD i 0).toNat = cost c s (X.getD i 0) + W c s (X.getD (i + 1) 0) (b - X.getD (i + 1) 0).toNat := by
 have lt := h.lt (i := i) (j := i + 1) (by omega) hi
 have e1 := W_split (c := c) (s := s) (X.getD (i + 1) 0 - X.getD i 0).toNat (b - X.getD (i + 1) 0).toNat (X.getD i 0)
 have e2 := W_next (c := c) h (a := X.getD i 0) hi (Int.le_refl _)
 rw [show (X.getD i 0 - X.getD i 0).toNat = 0 by omega, W] at e2
 rw [show X.getD i 0 + ((X.getD (i + 1) 0 - X.getD i 0).toNat : Int) = X.getD (i + 1) 0 by omega, e2] at e1
 rw [show (b - X.getD i 0).toNat = (X.getD (i + 1) 0 - X.getD i 0).toNat + (b - X.getD (i + 1) 0).toNat by omega, e1]
 omega
theorem W_stop (h : Enum s X M) {a e : Int} {j : Nat} (hj : j + 1 < X.length) (ha : a ≤ X.getD j 0) (h1 : X.getD j 0 < e) (h2 : e ≤ X.getD (j + 1) 0) : W c s a (X.getD (j + 1) 0 - a).toNat = W c s a (e - a).toNat := by
 have e1 := W_split (c := c) (s := s) (e - a).toNat (X.getD (j + 1) 0 - e).toNat a
 have e3 : W c s e (X.getD (j + 1) 0 - e).toNat = 0 := W_none fun u g1 g2 => h.gap hj (by omega) (by omega)
 rw [show a + ((e - a).toNat : Int) = e by omega, e3] at e1
 rw [show (X.getD (j + 1) 0 - a).toNat = (e - a).toNat + (X.getD (j + 1) 0 - e).toNat by omega, e1]
 omega
end
theorem enum_two {s : List DRegular} {L : Int} (hL : 1 ≤ L) (hr : ∀ r ∈ s, RegOk r ∧ L % r.2.1 = 0) {K : List Int} (h : Enum s K L) : Enum s (K ++ K.map (· + L)) (L + L) := by
 refine ⟨?_, fun u => ?_⟩
 ·rw [List.pairwise_append]
  refine ⟨h.up, ?_, fun a ha b hb => ?_⟩
  ·rw [List.pairwise_map]; exact h.up.imp fun h => by omega
  ·obtain ⟨x, hx, rfl⟩ := List.mem_map.1 hb
   have := (h.mem a).1 ha
   have := (h.mem x).1 hx
   omega
 ·rw [List.mem_append, h.mem u, List.mem_map]
  constructor
  ·rintro (⟨h1, h2, h3⟩ | ⟨x, hx, rfl⟩)
   ·exact ⟨h1, by omega, h3⟩
   ·obtain ⟨h1, h2, r, h3, h4⟩ := (h.mem x).1 hx
    exact ⟨by omega, by omega, r, h3, by rw [hit_per (hr r h3).1 (by omega) (hr r h3).2 h1]; exact h4⟩
  ·rintro ⟨h1, h2, r, h3, h4⟩
   rcases Int.lt_or_le u L with h5 | h5
   ·exact .inl ⟨h1, h5, r, h3, h4⟩
   ·refine .inr ⟨u - L, (h.mem _).2 ⟨by omega, by omega, r, h3, ?_⟩, by omega⟩
    rw [← hit_per (hr r h3).1 (by omega) (hr r h3).2 (by omega), show u - L + L = u by omega]; exact h4
theorem two_lo {K : List Int} {L : Int} {j : Nat} (h : j < K.length) : (K ++ K.map (· + L)).getD j 0 = K.getD j 0 := by
 rw [List.getD_eq_getElem?_getD, List.getElem?_append_left h, List.getD_eq_getElem?_getD]
theorem two_hi {K : List Int} {L : Int} {j : Nat} (h : j < K.length) : (K ++ K.map (· + L)).getD (K.length + j) 0 = K.getD j 0 + L := by
 rw [List.getD_eq_getElem?_getD, List.getElem?_append_right (by omega), show K.length + j - K.length = j by omega, List.getElem?_map, List.getD_eq_getElem?_getD, List.getElem?_eq_getElem h]; rfl
end Go.Proofs.Ytcefbdknoelacaa.Pure

-- YtcefbdknoelacaaQ18
set_option linter.unusedVariables false
set_option linter.unusedSimpArgs false
namespace Go.Proofs.Ytcefbdknoelacaa.Pure
open Go Go.Proofs.Ytcefbdknoelacaa.A

structure Win (c : DRegular → Int) (s : List DRegular) (L rest : Int) (m : List (Int × Int)) (K : List Int) : Prop where
 pos : 1 ≤ L
 big : L ≤ 1000000
 all : ∀ r ∈ s, RegOk r ∧ L % r.2.1 = 0
 cp : ∀ r ∈ s, 0 ≤ c r
 tot : total c s L ≤ 1000000000
 en : Enum s K L
 mm : ∀ k, 0 ≤ k → k < L → mg k m = cost c s k
 r0 : 0 ≤ rest
 r1 : rest < L
 len : K.length ≤ 1000000
abbrev kk (K : List Int) (L : Int) (j : Nat) : Int := (K ++ K.map (· + L)).getD j 0
section
variable {c : DRegular → Int} {s : List DRegular} {L rest : Int} {m : List (Int × Int)} {K : List Int}
theorem Win.two (w : Win c s L rest m K) : Enum s (K ++ K.map (· + L)) (L + L) := enum_two w.pos w.all w.en
theorem Win.at_ (w : Win c s L rest m K) {j : Nat} (hj : j < K.length + K.length) : K.getD (j % K.length) 0 + ((j / K.length : Nat) : Int) * L = kk K L j ∧ mg (K.getD (j % K.length) 0) m = cost c s (kk K L j) ∧ 0 ≤ K.getD (j % K.length) 0 ∧ K.getD (j % K.length) 0 < L ∧ j / K.length ≤ 1 := by
 have hn : 0 < K.length := by omega
 rcases Nat.lt_or_ge j K.length with h | h
 ·rw [Nat.mod_eq_of_lt h, Nat.div_eq_of_lt h]
  obtain ⟨a1, a2, _⟩ := w.en.at h
  refine ⟨?_, ?_, a1, a2, by omega⟩
  ·show _ = (K ++ K.map (· + L)).getD j 0
   rw [two_lo h]; simp
  ·show _ = cost c s ((K ++ K.map (· + L)).getD j 0)
   rw [two_lo h]; exact w.mm _ a1 a2
 ·have e1 : j % K.length = j - K.length := by rw [Nat.mod_eq_sub_mod h, Nat.mod_eq_of_lt (by omega)]
  have e2 : j / K.length = 1 := by
   have := Nat.div_add_mod j K.length
   rw [e1] at this
   have h2 : K.length * (j / K.length) = K.length * 1 := by omega
   exact Nat.eq_of_mul_eq_mul_left hn h2
  have hj2 : j - K.length < K.length := by omega
  obtain ⟨a1, a2, _⟩ := w.en.at hj2
  have e3 : kk K L j = K.getD (j - K.length) 0 + L := by
   have := two_hi (K := K) (L := L) hj2
   rwa [show K.length + (j - K.length) = j by omega] at this
  rw [e1, e2, e3]
  refine ⟨by simp, ?_, a1, a2, by omega⟩
  rw [w.mm _ a1 a2, cost_per (by have := w.pos; omega) w.all a1]
theorem Win.bd (w : Win c s L rest m K) {i j : Nat} (hi : i < K.length) (hij : i ≤ j) (hj : j ≤ i + K.length) : kk K L i ≤ kk K L j ∧ kk K L j ≤ kk K L i + L ∧ 0 ≤ W c s (kk K L i) (kk K L j - kk K L i).toNat ∧ W c s (kk K L i) (kk K L j - kk K L i).toNat ≤ total c s L ∧ 0 ≤ kk K L i ∧ kk K L i < L := by
 have len : (K ++ K.map (· + L)).length = K.length + K.length := by simp
 obtain ⟨a1, a2, _⟩ := w.en.at hi
 have ei : kk K L i = K.getD i 0 := two_lo hi
 have et : kk K L (i + K.length) = kk K L i + L := by
  have := two_hi (K := K) (L := L) hi
  rw [Nat.add_comm] at this
  rw [ei]; exact this
 have h1 := w.two.le (i := i) (j := j) hij (by omega)
 have h2 := w.two.le (i := j) (j := i + K.length) hj (by omega)
 have h3 : kk K L i ≤ kk K L j := h1
 have h4 : kk K L j ≤ kk K L (i + K.length) := h2
 have mono := W_mono (c := c) (s := s) w.cp (kk K L i) (n := (kk K L j - kk K L i).toNat) (m := L.toNat) (by omega)
 have rd := W_round (c := c) w.pos w.all (kk K L i).toNat
 rw [show (((kk K L i).toNat : Nat) : Int) = kk K L i by omega] at rd
 exact ⟨h3, by omega, W_pos w.cp _ _, by omega, by omega, by omega⟩

theorem win_ev (w : Win c s L rest m K) {ms tot best : Int} {i : Nat} (hi : i < K.length) {r : Int × Int × Unit}
 (next : ∀ (j' : Nat) (s' : Int), i + 1 ≤ j' → j' ≤ i + 1 + K.length → (i + 1 < K.length → s' = W c s (kk K L (i + 1)) (kk K L j' - kk K L (i + 1)).toNat) → (j' = i + 1 ∨ (i + 1 < j' ∧ kk K L (j' - 1) < kk K L i + rest)) →
  Ev (fun k => telemetry_Load.c3 k ms L m tot K (mxI best (W c s (kk K L i) rest.toNat)) rest (j' : Int) s' (K.length : Int) ((i : Int) + 1)) r) :
 ∀ (d j : Nat) (v : Int), i + K.length - j = d → i ≤ j → j ≤ i + K.length → v = W c s (kk K L i) (kk K L j - kk K L i).toNat → (j = i ∨ (i < j ∧ kk K L (j - 1) < kk K L i + rest)) →
  Ev (fun k => telemetry_Load.c4 k ms L m tot K best rest (j : Int) v (i : Int) (kk K L i) (K.length : Int) (i : Int)) r := by
 have len : (K ++ K.map (· + L)).length = K.length + K.length := by simp
 have klen := w.len
 have p1 := w.pos
 have p2 := w.big
 have r0 := w.r0
 have r1 := w.r1
 have tt := w.tot
 have hi2 : i < K.length + K.length := by omega
 have ea : kk K L i = K.getD i 0 := two_lo hi
 obtain ⟨ka, kb, _⟩ := w.en.at hi
 have b0 := w.bd hi (Nat.le_refl i) (by omega)
 have ct : 0 ≤ cost c s (kk K L i) ∧ cost c s (kk K L i) ≤ total c s L := by
  have q := w.bd hi (show i ≤ i + 1 by omega) (by omega)
  have f := W_next (c := c) w.two (a := kk K L i) (j := i) (by omega) (Int.le_refl _)
  have f : W c s (kk K L i) (kk K L (i + 1) - kk K L i).toNat = W c s (kk K L i) (kk K L i - kk K L i).toNat + cost c s (kk K L i) := f
  rw [show (kk K L i - kk K L i).toNat = 0 by omega, W] at f
  omega
 have mga : mapGet (.int .i64) (.int .i64) (kk K L i) m (0 : Int) = cost c s (kk K L i) := w.mm _ (by omega) (by omega)
 have wi : IntKind.wrap .i64 ((i : Int) + 1) = (i : Int) + 1 := w64 (by omega) (by omega)
 -- the window is full
 have stop : ∀ (j : Nat) (v : Int), i ≤ j → j ≤ i + K.length → v = W c s (kk K L i) (kk K L j - kk K L i).toNat → (j = i ∨ (i < j ∧ kk K L (j - 1) < kk K L i + rest)) → kk K L i + rest ≤ kk K L j →
  Ev (fun k => if (i : Int) < (j : Int) then
   telemetry_Load.c3 k ms L m tot K (mxI best v) rest (j : Int) (IntKind.wrap .i64 (v - mapGet (.int .i64) (.int .i64) (kk K L i) m (0 : Int))) (K.length : Int) (IntKind.wrap .i64 ((i : Int) + 1))
  else telemetry_Load.c3 k ms L m tot K (mxI best v) rest (IntKind.wrap .i64 ((i : Int) + 1)) v (K.length : Int) (IntKind.wrap .i64 ((i : Int) + 1))) r := by
  intro j v hij hj hv hlast hstop
  have bj := w.bd hi hij hj
  rw [wi, mga]
  rcases hlast with rfl | ⟨hlt, hl⟩
  ·have e0 : rest = 0 := by omega
   rw [show (kk K L j - kk K L j).toNat = 0 by omega, W] at hv
   subst e0
   subst hv
   have := next (j + 1) 0 (by omega) (by omega) (fun _ => by rw [show (kk K L (j + 1) - kk K L (j + 1)).toNat = 0 by omega, W]) (.inl rfl)
   rw [show (0 : Int).toNat = 0 from rfl, W, show ((j + 1 : Nat) : Int) = (j : Int) + 1 by omega] at this
   exact Ev.no (by omega) this
  ·have lo : kk K L i ≤ kk K L (j - 1) := w.two.le (i := i) (j := j - 1) (by omega) (by omega)
   have e := W_stop (c := c) w.two (a := kk K L i) (e := kk K L i + rest) (j := j - 1) (by omega) lo hl (by rw [show j - 1 + 1 = j by omega]; exact hstop)
   rw [show j - 1 + 1 = j by omega, show kk K L i + rest - kk K L i = rest by omega] at e
   have e : W c s (kk K L i) (kk K L j - kk K L i).toNat = W c s (kk K L i) rest.toNat := e
   have := next j (v - cost c s (kk K L i)) (by omega) (by omega) (fun hn => by
    have le : kk K L (i + 1) ≤ kk K L j := w.two.le (i := i + 1) (j := j) (by omega) (by omega)
    have f := W_first (c := c) w.two (i := i) (by omega) (b := kk K L j) le
    have f : W c s (kk K L i) (kk K L j - kk K L i).toNat = cost c s (kk K L i) + W c s (kk K L (i + 1)) (kk K L j - kk K L (i + 1)).toNat := f
    omega) (by by_cases h : j = i + 1; (exact .inl h); exact .inr ⟨by omega, hl⟩)
   rw [← e, ← hv] at this
   rw [w64 (by omega) (by omega)]
   exact Ev.yes (by omega) this
 intro d
 induction d with
 | zero =>
  intro j v hd hij hj hv hlast
  have ej : j = i + K.length := by omega
  have et : kk K L j = kk K L i + L := by
   have := two_hi (K := K) (L := L) hi
   rw [ej, Nat.add_comm i, ea]; exact this
  refine Ev.step (fun k => by rw [telemetry_Load.c4_eq]) ?_
  simp only [decide_eq_true_eq]
  rw [w64 (x := (i : Int) + (K.length : Int)) (by omega) (by omega)]
  exact Ev.no (by omega) (stop j v hij hj hv hlast (by omega))
 | succ d ih =>
  intro j v hd hij hj hv hlast
  have hj2 : j < i + K.length := by omega
  obtain ⟨q1, q2, q3, q4, q5⟩ := w.at_ (j := j) (by omega)
  have bj := w.bd hi hij hj
  have bj2 := w.bd hi (show i ≤ j + 1 by omega) (by omega)
  have tm : Int.tmod (j : Int) (K.length : Int) = ((j % K.length : Nat) : Int) := by rw [Int.tmod_eq_emod_of_nonneg (by omega)]; exact (Int.natCast_emod ..).symm
  have td : Int.tdiv (j : Int) (K.length : Int) = ((j / K.length : Nat) : Int) := by rw [Int.tdiv_eq_ediv_of_nonneg (by omega)]; exact (Int.natCast_ediv ..).symm
  have ml := Nat.mod_lt j (show 0 < K.length by omega)
  generalize j % K.length = jm at *
  generalize j / K.length = jd at *
  have mul : 0 ≤ (jd : Int) * L ∧ (jd : Int) * L ≤ L := by
   rcases (show jd = 0 ∨ jd = 1 by omega) with h | h <;> rw [h] <;> simp <;> omega
  have f := W_next (c := c) w.two (a := kk K L i) (j := j) (by omega) bj.1
  have f : W c s (kk K L i) (kk K L (j + 1) - kk K L i).toNat = W c s (kk K L i) (kk K L j - kk K L i).toNat + cost c s (kk K L j) := f
  refine Ev.step (fun k => by rw [telemetry_Load.c4_eq]) ?_
  simp only [decide_eq_true_eq, tm, td, Int.toNat_natCast]
  rw [w64 (x := (i : Int) + (K.length : Int)) (by omega) (by omega), w64 (x := (jd : Int)) (by omega) (by omega), w64 (x := (jd : Int) * L) (by omega) (by omega), q1, w64 (x := kk K L j) (by omega) (by omega), w64 (x := kk K L i + rest) (by omega) (by omega), w64 (x := (j : Int) + 1) (by omega) (by omega)]
  refine Ev.yes (by omega) (Ev.yes (by omega) (Ev.yes (by omega) (Ev.yes (by omega) ?_)))
  refine Ev.split (fun h => ?_) (fun h => stop j v hij hj hv hlast (by omega))
  refine Ev.yes (by omega) (Ev.yes (by omega) ?_)
  have q2' : mapGet (.int .i64) (.int .i64) (K.getD jm 0) m (0 : Int) = cost c s (kk K L j) := q2
  rw [q2', w64 (x := v + cost c s (kk K L j)) (by omega) (by omega)]
  have := ih (j + 1) (v + cost c s (kk K L j)) (by omega) (by omega) (by omega) (by omega) (.inr ⟨by omega, by rw [show j + 1 - 1 = j by omega]; exact h⟩)
  rw [show ((j + 1 : Nat) : Int) = (j : Int) + 1 by omega] at this
  exact this
end
end Go.Proofs.Ytcefbdknoelacaa.Pure

-- YtcefbdknoelacaaQ19
set_option linter.unusedVariables false
set_option linter.unusedSimpArgs false
namespace Go.Proofs.Ytcefbdknoelacaa.Pure
open Go Go.Proofs.Ytcefbdknoelacaa.A

def slide (c : DRegular → Int) (s : List DRegular) (rest : Int) : Int → List Int → Int
 | b, [] => b
 | b, a :: l => slide c s rest (mxI b (W c s a rest.toNat)) l
theorem mx_ok (b x : Int) : b ≤ mxI b x ∧ x ≤ mxI b x ∧ (mxI b x = b ∨ mxI b x = x) := by unfold mxI; split <;> omega
theorem slide_ok {c : DRegular → Int} {s : List DRegular} {rest : Int} : ∀ (l : List Int) (b : Int), b ≤ slide c s rest b l ∧ (∀ a ∈ l, W c s a rest.toNat ≤ slide c s rest b l) ∧ (slide c s rest b l = b ∨ ∃ a ∈ l, slide c s rest b l = W c s a rest.toNat)
 | [], b => ⟨Int.le_refl _, (fun a h => by cases h), Or.inl rfl⟩
 | x :: l, b => by
  obtain ⟨m1, m2, m3⟩ := mx_ok b (W c s x rest.toNat)
  obtain ⟨h1, h2, h3⟩ := slide_ok (c := c) (s := s) (rest := rest) l (mxI b (W c s x rest.toNat))
  refine ⟨Int.le_trans m1 h1, fun a ha => ?_, ?_⟩
  ·rcases List.mem_cons.1 ha with rfl | ha
   ·exact Int.le_trans m2 h1
   ·exact h2 a ha
  ·rcases h3 with h3 | ⟨a, h4, h5⟩
   ·rw [slide, h3]
    rcases m3 with e | e
    ·exact .inl e
    ·exact .inr ⟨x, by simp, e⟩
   ·exact .inr ⟨a, by simp [h4], h5⟩
section
variable {c : DRegular → Int} {s : List DRegular} {L rest : Int} {m : List (Int × Int)} {K : List Int}
theorem Win.rb (w : Win c s L rest m K) {a : Int} (h : 0 ≤ a) : 0 ≤ W c s a rest.toNat ∧ W c s a rest.toNat ≤ total c s L := by
 have r1 := w.r1
 have mono := W_mono (c := c) (s := s) w.cp a (n := rest.toNat) (m := L.toNat) (by omega)
 have rd := W_round (c := c) w.pos w.all a.toNat
 rw [show ((a.toNat : Nat) : Int) = a by omega] at rd
 exact ⟨W_pos w.cp _ _, by omega⟩
theorem slide_ev (w : Win c s L rest m K) {ms : Int} (m0 : 0 ≤ ms) (m1 : ms ≤ 100000) : ∀ (d i j : Nat) (v best : Int), K.length - i = d → i ≤ K.length → i ≤ j → j ≤ i + K.length → (i < K.length → v = W c s (kk K L i) (kk K L j - kk K L i).toNat ∧ (j = i ∨ (i < j ∧ kk K L (j - 1) < kk K L i + rest))) → 0 ≤ best → best ≤ total c s L →
 Ev (fun k => telemetry_Load.c3 k ms L m (total c s L) K best rest (j : Int) v (K.length : Int) (i : Int)) (slide c s rest best (K.drop i) + ms / L * total c s L, 0, ()) := by
 have klen := w.len
 have p1 := w.pos
 have tt := w.tot
 intro d
 induction d with
 | zero =>
  intro i j v best hd hi hij hj hv b0 b1
  have q : 0 ≤ ms / L ∧ ms / L ≤ 100000 := ⟨Int.ediv_nonneg m0 (by omega), Int.le_trans (Int.ediv_le_self L m0) m1⟩
  have tp : 0 ≤ total c s L := by omega
  have pr : 0 ≤ ms / L * total c s L ∧ ms / L * total c s L ≤ 100000 * 1000000000 := ⟨Int.mul_nonneg q.1 tp, Int.mul_le_mul q.2 tt tp (by omega)⟩
  refine Ev.step (fun k => by rw [telemetry_Load.c3_eq]) ?_
  simp only [decide_eq_true_eq]
  refine Ev.no (by omega) (Ev.yes (by omega) (Ev.is ?_))
  rw [List.drop_of_length_le (by omega), slide, Int.tdiv_eq_ediv_of_nonneg m0, w64 (x := ms / L) (by omega) (by omega), w64 (x := ms / L * total c s L) (by omega) (by omega), w64 (by omega) (by omega)]
 | succ d ih =>
  intro i j v best hd hi hij hj hv b0 b1
  have hi2 : i < K.length := by omega
  have len : (K ++ K.map (· + L)).length = K.length + K.length := by simp
  obtain ⟨ka, kb, _⟩ := w.en.at hi2
  have ei : kk K L i = K.getD i 0 := two_lo hi2
  obtain ⟨hv1, hv2⟩ := hv hi2
  refine Ev.step (fun k => by rw [telemetry_Load.c3_eq]) ?_
  simp only [decide_eq_true_eq, Int.toNat_natCast]
  refine Ev.yes (by omega) (Ev.yes (by omega) ?_)
  rw [← ei]
  have rb := w.rb (a := kk K L i) (by omega)
  obtain ⟨x1, x2, x3⟩ := mx_ok best (W c s (kk K L i) rest.toNat)
  have hd2 : K.drop i = kk K L i :: K.drop (i + 1) := by rw [List.drop_eq_getElem_cons hi2, ei, getD_nat 0 K i hi2]
  rw [hd2, slide]
  refine win_ev w hi2 (fun j' s' h1 h2 h3 h4 => ?_) _ j v rfl hij hj hv1 hv2
  have := ih (i + 1) j' s' (mxI best (W c s (kk K L i) rest.toNat)) (by omega) (by omega) h1 (by omega) (fun hn => ⟨h3 hn, by
   rcases h4 with h4 | ⟨h5, h6⟩
   ·exact .inl h4
   ·have lt : kk K L i < kk K L (i + 1) := w.two.lt (i := i) (j := i + 1) (by omega) (by omega)
    exact .inr ⟨h5, by omega⟩⟩) (by omega) (by omega)
  rw [show ((i + 1 : Nat) : Int) = (i : Int) + 1 by omega] at this
  exact this
end
theorem keys_nodup_lt : ∀ {l : List Int}, l.Pairwise (· ≤ ·) → l.Nodup → l.Pairwise (· < ·)
 | [], _, _ => List.Pairwise.nil
 | x :: l, h, n => by
  rw [List.pairwise_cons] at h
  rw [List.nodup_cons] at n
  rw [List.pairwise_cons]
  exact ⟨fun y hy => by have := h.1 y hy; have : x ≠ y := fun e => n.1 (e ▸ hy); omega, keys_nodup_lt h.2 n.2⟩
theorem inc_len {L : Int} : ∀ {l : List Int} {a : Int}, l.Pairwise (· < ·) → (∀ u ∈ l, a ≤ u ∧ u < L) → a ≤ L → (l.length : Int) ≤ L - a
 | [], a, _, _, h => by simp; omega
 | x :: l, a, h, hb, hl => by
  rw [List.pairwise_cons] at h
  have hx := hb x (by simp)
  have := inc_len (L := L) (l := l) (a := x + 1) h.2 (fun u hu => ⟨by have := h.1 u hu; omega, (hb u (by simp [hu])).2⟩) (by omega)
  rw [List.length_cons]
  omega
theorem map_ex : ∀ (E F m : List (Int × Int)), MapIs m F → ∃ m', MapIs m' (F ++ E)
 | [], F, m, h => ⟨m, by simpa using h⟩
 | e :: E, F, m, h => by
  obtain ⟨m', h'⟩ := map_ex E (F ++ [(e.1, e.2)]) _ (h.put e.1 e.2)
  exact ⟨m', by simpa using h'⟩
theorem loadT_ev (p : List DParameter) (l : List DLayout) (s : List DRegular) (c : Int) (h : Ev (fun k => telemetry_CheckPlan.f k p l s) (c, ())) (ok : c = 0 → PlanOk p l s) (ms : Int) : ∃ r, Ev (fun k => telemetry_Load.f k p l s ms) r ∧ LoadR p l s c ms r := by
 have e0 : ∀ {r : Int × Int × Unit}, Ev (fun k => telemetry_Load.f k p l s ms) r ↔ Ev (fun k => telemetry_Load.f k p l s ms) r := Iff.rfl
 by_cases hc : c = 0
 ·have hP := ok hc
  subst hc
  by_cases hm : 1 ≤ ms ∧ ms ≤ 100000
  ·by_cases hy : (cycR s).2.1 = 0
   ·have hC := cyc_of hP.reg hy
    generalize hLe : (cycR s).1 = L at hC
    have len := allT_len hC.pos hC.all
    have few := hC.few
    have p1 := hC.pos
    have p2 := hC.big
    have cp : ∀ r ∈ s, 0 ≤ sz p l r := fun r _ => (sz_bd hP.all r).1
    have tb : 0 ≤ total (sz p l) s L ∧ total (sz p l) s L ≤ 1000000000 := by
     have b := ev_bd (b := 601) (E := evs (sz p l) L s) (evs_ok hP.all L s) 0
     rw [evAll_evs (sz p l) hC.pos hC.all, evs_len] at b
     omega
    have rm : ms % L < L ∧ 0 ≤ ms % L := ⟨Int.emod_lt_of_pos ms (by omega), Int.emod_nonneg ms (by omega)⟩
    -- the answer
    have en : ∀ m, MapIs m (evs (sz p l) L s) → Enum s (sortI (m.map (·.1))) L := fun m hm => by
     obtain ⟨q1, q2⟩ := sortI_ok (m.map (·.1))
     refine ⟨keys_nodup_lt q2 (q1.nodup_iff.2 hm.nd), fun u => ?_⟩
     rw [q1.mem_iff, hm.ks, evs_times, allT_mem (by omega)]
    have one : ∀ m m', MapIs m (evs (sz p l) L s) → MapIs m' (evs (sz p l) L s) → sortI (m.map (·.1)) = sortI (m'.map (·.1)) := fun m m' h1 h2 => by
     have a := en m h1
     have b := en m' h2
     refine sorted_eq (a.up.imp fun h => by omega) (b.up.imp fun h => by omega) ((List.perm_ext_iff_of_nodup ?_ ?_).2 fun u => by rw [a.mem, b.mem])
     ·exact (sortI_ok _).1.nodup_iff.2 h1.nd
     ·exact (sortI_ok _).1.nodup_iff.2 h2.nd
    obtain ⟨m0, h0⟩ := map_ex (evs (sz p l) L s) [] [] ⟨fun k => rfl, by simp, by simp⟩
    rw [List.nil_append] at h0
    have e0 := en m0 h0
    generalize hK : sortI (m0.map (·.1)) = K at e0
    have kl := inc_len (L := L) (a := 0) e0.up (fun u hu => by have := (e0.mem u).1 hu; omega) (by omega)
    refine ⟨(slide (sz p l) s (ms % L) 0 K + ms / L * total (sz p l) s L, 0, ()), ?_, ?_⟩
    ·refine Ev.eq (fun k => by rw [telemetry_Load.f_eq]) (Ev.bind h ?_)
     refine Ev.no (by simp) ?_
     simp only [in_ev, Option.bind_some]
     refine Ev.no (by simp [hm]) (Ev.bind (cycleT_ev s hP.len hP.reg) (Ev.no (by simp [hy]) ?_))
     rw [hLe]
     refine prgTimes_ev p l s ms L hP hC fun m hm2 => ?_
     have hKm : sortI (m.map (·.1)) = K := by rw [← hK]; exact one m m0 hm2 h0
     have ml : (m.map (·.1)).length ≤ 1000000 := by
      have := (sortI_ok (m.map (·.1))).1.length_eq
      rw [hKm] at this
      omega
     refine range_ev hC.pos (keys := m.map (·.1)) ml ?_ m.length [] none m rfl (List.Perm.refl _)
     rw [hKm, Int.tmod_eq_emod_of_nonneg (by omega)]
     have w : Win (sz p l) s L (ms % L) m K := ⟨p1, p2, hC.all, cp, tb.2, e0, fun k k0 k1 => (hm2.get k).trans (evSum_evs (sz p l) k0 k1 s), rm.2, rm.1, by omega⟩
     exact slide_ev w (by omega) hm.2 K.length 0 0 0 0 (by omega) (by omega) (by omega) (by omega) (fun _ => ⟨by rw [show (kk K L 0 - kk K L 0).toNat = 0 by omega]; rfl, .inl rfl⟩) (by omega) tb.1
    ·unfold LoadR
     rw [if_neg (by simp), if_neg (by simp [hm]), if_neg (by simp [hy]), hLe]
     refine ⟨rfl, ?_⟩
     obtain ⟨s1, s2, s3⟩ := slide_ok (c := sz p l) (s := s) (rest := ms % L) K 0
     have q : 0 ≤ ms / L := Int.ediv_nonneg (by omega) (by omega)
     have dm := Int.mul_ediv_add_emod ms L
     have span : ms.toNat = (ms / L).toNat * L.toNat + (ms % L).toNat := by
      have : ((ms.toNat : Nat) : Int) = (((ms / L).toNat * L.toNat + (ms % L).toNat : Nat) : Int) := by
       rw [Int.natCast_add, Int.natCast_mul, Int.toNat_of_nonneg q, Int.toNat_of_nonneg (show 0 ≤ L by omega), Int.toNat_of_nonneg rm.2, Int.toNat_of_nonneg (show 0 ≤ ms by omega), Int.mul_comm]
       exact dm.symm
      exact Int.ofNat.inj this
     have rounds : ∀ k : Nat, W (sz p l) s (k : Int) ms.toNat = ms / L * total (sz p l) s L + W (sz p l) s (k : Int) (ms % L).toNat := fun k => by
      rw [span, W_rounds p1 hC.all k, Int.toNat_of_nonneg q]
     have prod : 0 ≤ ms / L * total (sz p l) s L := Int.mul_nonneg q tb.1
     refine ⟨by simp only; omega, fun k k1 k2 => ?_, ?_⟩
     ·have := s2 k ((e0.mem _).2 ⟨by omega, k1, k2⟩)
      rw [rounds]; simp only; omega
     ·have use : ∀ a ∈ K, slide (sz p l) s (ms % L) 0 K = W (sz p l) s a (ms % L).toNat → ∃ k : Nat, (k : Int) < L ∧ (∃ r ∈ s, hit r k = true) ∧ slide (sz p l) s (ms % L) 0 K + ms / L * total (sz p l) s L = W (sz p l) s k ms.toNat := fun a ha he => by
       obtain ⟨a1, a2, a3⟩ := (e0.mem a).1 ha
       obtain ⟨n, rfl⟩ := Int.eq_ofNat_of_zero_le a1
       exact ⟨n, a2, a3, by rw [rounds, he]; omega⟩
      rcases s3 with s3 | ⟨a, a1, a2⟩
      ·cases hK2 : K with
       | nil =>
        have sn : s = [] := by
         cases hs : s with
         | nil => rfl
         | cons r s' =>
          have ro := (hC.all r (by rw [hs]; simp))
          obtain ⟨q', hq⟩ := Int.dvd_of_emod_eq_zero ro.2
          have rr := ro.1
          obtain ⟨⟨r1, r2⟩, r3, r4⟩ := rr
          have q1 : 1 ≤ q' := by
           apply Classical.byContradiction
           intro hn
           have : r.2.1 * q' ≤ 0 := Int.mul_nonpos_of_nonneg_of_nonpos (by omega) (by omega)
           omega
          have le : r.2.1 * 1 ≤ r.2.1 * q' := Int.mul_le_mul_of_nonneg_left q1 (by omega)
          have := (e0.mem r.2.2).2 ⟨r3, by omega, r, by rw [hs]; simp, hit_first ro.1⟩
          rw [hK2] at this; cases this
        refine .inl ?_
        rw [← hK2]
        simp only
        rw [s3, sn]
        simp [total]
       | cons a K' =>
        have ha : a ∈ K := by rw [hK2]; simp
        obtain ⟨a1, a2, _⟩ := (e0.mem a).1 ha
        have wa := s2 a ha
        have wp := W_pos (c := sz p l) (s := s) cp (ms % L).toNat a
        rw [← hK2]
        exact .inr (use a ha (by omega))
      ·exact .inr (use a a1 a2)
   ·refine ⟨(0, (cycR s).2.1, ()), ?_, by unfold LoadR; rw [if_neg (by simp), if_neg (by simp [hm]), if_pos hy]⟩
    refine Ev.eq (fun k => by rw [telemetry_Load.f_eq]) (Ev.bind h ?_)
    refine Ev.no (by simp) ?_
    simp only [in_ev, Option.bind_some]
    exact Ev.no (by simp [hm]) (Ev.bind (cycleT_ev s hP.len hP.reg) (Ev.yes (by simp [hy]) (Ev.now _)))
  ·refine ⟨(0, 1, ()), ?_, by unfold LoadR; rw [if_neg (by simp), if_pos hm]⟩
   refine Ev.eq (fun k => by rw [telemetry_Load.f_eq]) (Ev.bind h ?_)
   refine Ev.no (by simp) ?_
   simp only [in_ev, Option.bind_some]
   exact Ev.yes (by rw [decide_eq_false hm]; rfl) (Ev.now _)
 ·refine ⟨(0, c, ()), ?_, by unfold LoadR; rw [if_pos hc]⟩
  refine Ev.eq (fun k => by rw [telemetry_Load.f_eq]) (Ev.bind h ?_)
  exact Ev.yes (by simpa using hc) (Ev.now _)
end Go.Proofs.Ytcefbdknoelacaa.Pure

-- YtcefbdknoelacaaQ20
set_option linter.unusedVariables false
set_option linter.unusedSimpArgs false
namespace Go.Proofs.Ytcefbdknoelacaa.Pure
open Go Go.Proofs.Ytcefbdknoelacaa.A
def szs (p : List DParameter) (l : List DLayout) : List DRegular → Int
 | [] => 0
 | r :: s => sz p l r + szs p l s
theorem szs_bd {p : List DParameter} {l : List DLayout} (a : AllOk p l) : ∀ s : List DRegular, 0 ≤ szs p l s ∧ szs p l s ≤ 601 * s.length
 | [] => by simp [szs]
 | r :: s => by
  have h1 := sz_bd a r
  have h2 := szs_bd a s
  simp only [szs, List.length_cons]
  omega
def ups (e : Int) : Int := -((-1000) / e)
theorem ups_ok {e : Int} (h : 1 ≤ e) : ups e = 999 / e + 1 ∧ 1 ≤ ups e ∧ ups e ≤ 1000 := by
 unfold ups
 obtain ⟨q, q1, q2, q3, q4, q5⟩ := ceil_ok (d := 1000) (e := e) (by omega) (by omega)
 rw [q1]
 have h1 : 999 / e + 1 = q := by
  rw [← q2, show (1000 : Int) + e - 1 = 999 + 1 * e by omega, Int.add_mul_ediv_right _ _ (by omega)]
 refine ⟨h1.symm, by omega, ?_⟩
 have := Int.ediv_le_self e (show (0 : Int) ≤ 999 by omega)
 omega
def fast (n rate : Int) : Nat → Int → Int × Bool × Int × Unit
 | 0, _ => (0, false, 0, ())
 | d + 1, e => if n * ups e ≤ rate then (e, true, 0, ()) else fast n rate d (e + 1)
theorem fastT_ev (n rate : Int) (n0 : 0 ≤ n) (n1 : n ≤ 1000000) : ∀ (d : Nat) (e : Int), 1 ≤ e → e + d = 100001 → Ev (fun k => telemetry_Fastest.c1 k rate n e) (fast n rate d e)
 | 0, e, h1, h2 => by
  refine Ev.step (fun k => by rw [telemetry_Fastest.c1_eq]) ?_
  exact Ev.no (by simp; omega) (Ev.now _)
 | d + 1, e, h1, h2 => by
  obtain ⟨u1, u2, u3⟩ := ups_ok h1
  have pr : 0 ≤ n * ups e ∧ n * ups e ≤ 1000000 * 1000 := ⟨Int.mul_nonneg n0 (by omega), Int.mul_le_mul n1 u3 (by omega) (by omega)⟩
  have up : Ev (fun k => kit_Up.f k 1000 e) (ups e, ()) := ⟨0, fun k _ => up_ev k 1000 e (by omega) (by decide)⟩
  refine Ev.step (fun k => by rw [telemetry_Fastest.c1_eq]) ?_
  refine Ev.yes (by simp; omega) (Ev.bind up ?_)
  simp only [decide_eq_true_eq]
  rw [w64 (x := n * ups e) (by omega) (by omega), w64 (x := e + 1) (by omega) (by omega), fast]
  refine Ev.split (fun h => by rw [if_pos h]; exact Ev.now _) (fun h => by rw [if_neg h]; exact fastT_ev n rate n0 n1 d (e + 1) (by omega) (by omega))
def FastR (p : List DParameter) (l : List DLayout) (s : List DRegular) (c rate : Int) : Int × Bool × Int × Unit :=
 if ¬ c = 0 then (0, false, c, ()) else if ¬ (0 ≤ rate ∧ rate ≤ 1000000) then (0, false, 1, ()) else fast (szs p l s) rate 100000 1
theorem fastestT_ev (p : List DParameter) (l : List DLayout) (s : List DRegular) (c : Int) (h : Ev (fun k => telemetry_CheckPlan.f k p l s) (c, ())) (ok : c = 0 → PlanOk p l s) (rate : Int) : Ev (fun k => telemetry_Fastest.f k p l s rate) (FastR p l s c rate) := by
 refine Ev.eq (fun k => by rw [telemetry_Fastest.f_eq]) (Ev.bind h ?_)
 simp only [Bool.not_eq_true', decide_eq_false_iff_not, in_ev, Option.bind_some]
 unfold FastR
 refine Ev.split (fun h => by rw [if_pos h]; exact Ev.now _) (fun h => ?_)
 rw [if_neg h]
 refine Ev.split (fun h => by rw [if_pos h]; exact Ev.now _) (fun h2 => ?_)
 rw [if_neg h2]
 have hP := ok (by omega)
 have hs := hP.len
 have sb := szs_bd hP.all s
 have g := Ev.rng (σ := Int) (Ty.dflt YRegular) s (by omega) (g := fun k c i => telemetry_Fastest.c0 k p l rate c s (s.length : Int) i) (fun k c i => telemetry_Fastest.c0_eq _ _ _ _ _ _ _ _)
  (fun i c => 0 ≤ c ∧ c ≤ 601 * i ∧ c + szs p l (s.drop i) = szs p l s) (fun _ _ _ => fast (szs p l s) rate 100000 1) (fun c hc => by
   obtain ⟨q0, q1, q2⟩ := hc
   rw [List.drop_length, szs] at q2
   rw [show c = szs p l s by omega]
   exact fastT_ev _ rate sb.1 (by omega) 100000 1 (by omega) (by omega)) (fun i x xs c hi hx hd hget hw hc nxt => by
   obtain ⟨q0, q1, q2⟩ := hc
   have b := sz_bd hP.all x
   have hd2 : s.drop (i + 1) = xs := by rw [← List.drop_drop, hd]; rfl
   rw [hd, szs] at q2
   simp only [Int.toNat_natCast, hget, hw]
   refine Ev.bind (sizeT_ev hP hx) ?_
   simp only
   rw [w64 (x := c + sz p l x) (by omega) (by omega)]
   exact nxt (c + sz p l x) ⟨by omega, by omega, by rw [hd2]; omega⟩) 0 0 (by omega) ⟨by omega, by omega, by simp⟩
 exact g
end Go.Proofs.Ytcefbdknoelacaa.Pure

-- YtcefbdknoelacaaAw
namespace Go.Proofs.Ytcefbdknoelacaa.Pure
open Go Go.Proofs.Ytcefbdknoelacaa.A
theorem awake_at (k : Nat) : perigeelaw7_awake.f (k + 40) = some (true, ()) := by kernel_rfl
theorem awake_ev : Ev (fun k => perigeelaw7_awake.f k) (true, ()) := ⟨40, fun n hn => by
 obtain ⟨k, rfl⟩ : ∃ k, n = k + 40 := ⟨n - 40, by omega⟩
 exact awake_at k⟩
end Go.Proofs.Ytcefbdknoelacaa.Pure
