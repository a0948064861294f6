/- With Count and Clear 1 and Back 0 the state is that of the last value by itself, for all limits and values, of a bulk of 1048576 at most. -/
import Derived.Below
import Derived.ChangeArms
import Derived.ChangeSlices
import Derived.DataElems
import Derived.DataReads
import Derived.Laws.Strings
import Derived.SizedLaws
import Derived.Test.YtodnfnnfjnnhmaaChecked
import Derived.WideShapes
import Derived.Test.YtodnfnnfjnnhmaaCLimitsPlainFollowValues2
-- YtodnfnnfjnnhmaaFn3
set_option linter.unusedVariables false
set_option linter.unusedSimpArgs false
namespace Go.Proofs.Ytodnfnnfjnnhmaa.A
open Go
section
variable {P : Program} {B : Base} {m m' m0 : Md} {H H' : Hp} {w w' : World} {o : Oper} {a : Act} {E : Env} {tab : Nat → Option TI} {T : Nat → Option FunE} {L : List Nat} {Z1 Zf : Nat → Prop}

theorem keys_one : ∀ {l : List (Nat × Cell)}, (l.map (·.1)).Nodup → ∀ {p q : Nat × Cell}, p ∈ l → q ∈ l → p.1 = q.1 → p = q
 | x :: l, hn, p, q, hp, hq, e => by
  simp only [List.map_cons, List.nodup_cons] at hn
  rcases List.mem_cons.1 hp with e1 | hp' <;> rcases List.mem_cons.1 hq with e2 | hq'
  ·rw [e1, e2]
  ·subst e1; exact absurd (List.mem_map.2 ⟨q, hq', e.symm⟩) hn.1
  ·subst e2; exact absurd (List.mem_map.2 ⟨p, hp', e⟩) hn.1
  ·exact keys_one hn.2 hp' hq' e
theorem putH_get : ∀ {ups : List (Nat × Cell)} {H : Hp} {k : Nat} {c : Cell}, (∀ p ∈ ups, p.1 = k → p.2 = c) → (∃ p ∈ ups, p.1 = k) → putH H ups k = c
 | [], _, _, _, _, ⟨_, h, _⟩ => by cases h
 | p :: ups, H, k, c, h, hx => by
  rw [putH]
  by_cases hk : ∃ q ∈ ups, q.1 = k
  ·exact putH_get (fun q hq => h q (by simp [hq])) hk
  ·rw [putH_notin (fun hm => hk (by obtain ⟨q, q1, q2⟩ := List.mem_map.1 hm; exact ⟨q, q1, q2⟩))]
   obtain ⟨q, q1, q2⟩ := hx
   rcases List.mem_cons.1 q1 with rfl | q1
   ·rw [← q2, upd_same]; exact h q (by simp) q2
   ·exact absurd ⟨q, q1, q2⟩ hk
theorem freeze_mem : ∀ {l : List Nat} {p : Nat × Cell}, p ∈ freezeUps H l → p.1 ∈ l ∧ Fz (H p.1) p.2
 | [], _, h => by simp [freezeUps] at h
 | id :: l, p, h => by
  unfold freezeUps at h
  split at h
  ·rename_i e xs hx
   rcases List.mem_cons.1 h with rfl | h
   ·exact ⟨by simp, .inl ⟨e, xs, hx, rfl⟩⟩
   ·obtain ⟨h1, h2⟩ := freeze_mem h
    exact ⟨by simp [h1], h2⟩
  ·rename_i k e mm hx
   rcases List.mem_cons.1 h with rfl | h
   ·exact ⟨by simp, .inr ⟨k, e, mm, hx, rfl⟩⟩
   ·obtain ⟨h1, h2⟩ := freeze_mem h
    exact ⟨by simp [h1], h2⟩
  ·obtain ⟨h1, h2⟩ := freeze_mem h
   exact ⟨by simp [h1], h2⟩
theorem freeze_of : ∀ {l : List Nat} {r : Nat} {c : Cell}, r ∈ l → Fz (H r) c → (r, c) ∈ freezeUps H l
 | id :: l, r, c, h, hx => by
  unfold freezeUps
  rcases List.mem_cons.1 h with rfl | h
  ·rcases hx with ⟨e, xs, h1, rfl⟩ | ⟨k, e, mm, h1, rfl⟩ <;> rw [h1] <;> exact List.mem_cons_self ..
  ·split
   ·exact List.mem_cons_of_mem _ (freeze_of h hx)
   ·exact List.mem_cons_of_mem _ (freeze_of h hx)
   ·exact freeze_of h hx
theorem rowish_live {c : Cell} (h : rowish c = true) (hl : c.Live) : ∃ c', Fz c c' := by
 cases c with
 | live ob =>
  cases ob with
  | row e xs => exact ⟨_, .inl ⟨e, xs, rfl, rfl⟩⟩
  | mapo k e mm => exact ⟨_, .inr ⟨k, e, mm, rfl, rfl⟩⟩
  | _ => cases h
 | _ => exact hl.elim
theorem flatMap_nodup {us : List Upd} (h : (us.flatMap (·.F)).Nodup) {u : Upd} (hu : u ∈ us) : u.F.Nodup := by
 induction us with
 | nil => cases hu
 | cons x us ih =>
  rw [List.flatMap_cons, List.nodup_append] at h
  rcases List.mem_cons.1 hu with rfl | hu
  ·exact h.1
  ·exact ih h.2.1 hu
theorem flatMap_disj {us : List Upd} (h : (us.flatMap (·.F)).Nodup) {u v : Upd} (hu : u ∈ us) (hv : v ∈ us) (hne : u ≠ v) {b : Nat} (hb : b ∈ u.F) : b ∉ v.F := by
 induction us with
 | nil => cases hu
 | cons x us ih =>
  rw [List.flatMap_cons, List.nodup_append] at h
  intro hbv
  rcases List.mem_cons.1 hu with e1 | hu' <;> rcases List.mem_cons.1 hv with e2 | hv'
  ·exact hne (e1.trans e2.symm)
  ·subst e1; exact h.2.2 b hb b (List.mem_flatMap.2 ⟨v, hv', hbv⟩) rfl
  ·subst e2; exact h.2.2 b hbv b (List.mem_flatMap.2 ⟨u, hu', hb⟩) rfl
  ·exact ih h.2.1 hu' hv' hbv
theorem avOf_ok {ps : List (Bool × List LV)} {us : List Value} (h : All2 (PRep m w H) ps us) : AVRep m w H (avOf ps) (tupOf us) := by
 match ps, us, h with
 | [], [], _ => exact ⟨[], rfl, trivial⟩
 | [(g, ls)], [u], h => exact h.1
 | p :: q :: ps, u :: v :: us, h =>
  have : avOf (p :: q :: ps) = .tup (p :: q :: ps) := by
   obtain ⟨g, ls⟩ := p; rfl
  rw [this]
  exact ⟨u :: v :: us, rfl, h⟩

theorem wCallF_ok {F : FunE} {f : FuncId} (hF : FunOk P f F) (hh : HOk B m H w) {as_ : List AV} {vs : List Value} (hv : All2 (AVRep m w H) as_ vs) (ex : (execOp a.eval o).run P w = .ok (.enter f vs.toArray) w) : WayOk P B m H w o a (wCallF F o.dst as_) := by
 intro Q hQ
 unfold wCallF at hQ
 simp only at hQ
 generalize hlends : (!(F.outs.all Ty.flatB && (F.ins.all fun p => !p.1 || p.2.flatB))) = lends at hQ
 generalize hrows : rdIds F.ins as_ = rows at hQ
 generalize howns : argOwns F.ins as_ = owns at hQ
 generalize hnews : resIds (o.dst.getD 99999) 0 F.outs = news at hQ
 generalize hLL : ((if lends = true then [] else rows) ++ (owns ++ news ++ if lends = true then rows else [])) = LL at hQ
 have hLo : ∀ i ∈ owns, i ∈ LL := fun i hi => by rw [← hLL]; simp [hi]
 have hLn : ∀ i ∈ news, i ∈ LL := fun i hi => by rw [← hLL]; simp [hi]
 have hLr : ∀ i ∈ rows, i ∈ LL := fun i hi => by rw [← hLL]; cases lends <;> simp [hi]
 split at hQ
 ·rename_i hc
  simp only [Bool.and_eq_true] at hc
  obtain ⟨⟨⟨⟨⟨c1, c2⟩, c3⟩, c4⟩, c5⟩, c6⟩ := hc
  have c1 := nodupN_iff.1 c1
  have c2 : ∀ i ∈ owns, i ∉ rows := fun i hi => by
   have := List.all_eq_true.1 c2 i hi
   exact memN_false.1 (by simpa using this)
  have c3 : ∀ i ∈ news, H i = .absent := fun i hi => absent_of (List.all_eq_true.1 c3 i hi) (hLn i hi)
  split at hQ
  ·rename_i xs hxs
   obtain ⟨r, hr, hQ⟩ := hQ
   have hQ : Q _ := hQ
   let Z1 : Nat → Prop := fun b => m.Z b ∨ ∃ id ∈ rows, (H id).Live ∧ b ∈ m.ft id
   obtain ⟨g1, g2⟩ := args_ok (Z1 := Z1) hh (fun b hb => .inl hb) hxs hv (fun id hid hl b hb => .inr ⟨id, by rw [← hrows]; exact hid, hl, hb⟩)
   rw [howns] at g1 g2
   have hnd := List.nodup_append.1 c1
   have hFs : ∀ b ∈ owns.flatMap m.ft, ¬ Z1 b ∧ b < w.heap.size := fun b hb => by
    obtain ⟨i, i1, i2, i3⟩ := ft_blk hb g2
    obtain ⟨n1, n2, _⟩ := hh.nz i i2 b i3
    refine ⟨fun hz => hz.elim n1 fun ⟨j, j1, j2, j3⟩ => ?_, n2⟩
    exact hh.sp i j (fun e => c2 i i1 (e ▸ j1)) i2 j2 b i3 j3
   have hZ1l : ∀ b, Z1 b → b < w.heap.size := fun b hb => hb.elim (hh.zl b) fun ⟨j, j1, j2, j3⟩ => (hh.nz j j2 b j3).2.1
   have call := hF Z1 w xs vs _ r hZ1l g1 (ft_nodup hh hnd.1 g2) hFs hr
   refine ⟨_, _, hQ, ?_⟩
   unfold OpOk
   rw [ex]
   refine call.mono fun e w' ⟨v, Z', us, Fr, Fi, he, p⟩ => ⟨v, he, ?_⟩
   let Zf : Nat → Prop := if lends = true then Z' else m.Z
   have hlz : lends = true → Zf = Z' := fun h => if_pos h
   have hnz : lends = false → Zf = m.Z := fun h => if_neg (by simp [h])
   have hfl : lends = false → F.outs.all Ty.flatB = true ∧ (F.ins.all fun p => !p.1 || p.2.flatB) = true := fun h => by
    rw [h] at hlends; simpa using hlends
   have hres : ResL Zf w' F.outs (splitRes F.outs _ r).1 us Fr := by
    cases hl : lends with
    | true => rw [hlz hl]; exact p.res
    | false => exact ResL.flat (hfl hl).1 p.res
   have hio : IoRep Zf w' F.ins (splitRes F.outs _ r).2 vs Fi := by
    cases hl : lends with
    | true => rw [hlz hl]; exact p.io
    | false => exact IoRep.flat (hfl hl).2 p.io
   have hZZ : ∀ b, Zf b → Z' b := fun b hb => by
    cases hl : lends with
    | true => rw [hlz hl] at hb; exact hb
    | false => rw [hnz hl] at hb; exact p.zs b (.inl hb)
   have hmZ : ∀ b, m.Z b → Zf b := fun b hb => by
    cases hl : lends with
    | true => rw [hlz hl]; exact p.zs b (.inl hb)
    | false => rw [hnz hl]; exact hb
   obtain ⟨ur, r1, r2, r3, r4, r5⟩ := res_ok (d := o.dst.getD 99999) (j := 0) c5 hres
   rw [hnews] at r1
   obtain ⟨o1, ui, o2, o3, o4, o5, o6⟩ := io_ok (Zf := Zf) hh hxs hv hio
   rw [howns] at o1 o6
   have hkp := p.kp
   have hold : ∀ b, b < w.heap.size → b ∉ owns.flatMap m.ft → w'.heap[b]? = w.heap[b]? := hkp.block
   have hui : ∀ u ∈ ui, u.id ∈ owns := fun u hu => o6.subset (List.mem_map.2 ⟨u, hu, rfl⟩)
   have hur : ∀ u ∈ ur, u.id ∈ news := fun u hu => by rw [← r1]; exact List.mem_map.2 ⟨u, hu, rfl⟩
   have hids : ((ui ++ ur).map (·.id)).Nodup := by
    rw [List.map_append, r1, List.nodup_append]
    exact ⟨hnd.1.sublist o6, hnd.2.1, fun x hx y hy => hnd.2.2 x (o6.subset hx) y hy⟩
   -- the objects behind the call
   generalize hO : outsOf (only H LL) F.ins as_ (splitRes F.outs _ r).2 = O at *
   generalize hN : (resAll (o.dst.getD 99999) 0 F.outs (splitRes F.outs _ r).1).2 = N at *
   generalize hFZ : (if lends = true then freezeUps (only H LL) rows else []) = FZ at *
   have hNk : N.map (·.1) = news := by rw [← r2, List.map_map, ← r1]; rfl
   have hFm : ∀ q ∈ FZ, q.1 ∈ rows ∧ Fz (H q.1) q.2 ∧ lends = true ∧ rowish (H q.1) = true := fun q hq => by
    rw [← hFZ] at hq
    split at hq
    ·rename_i hl
     obtain ⟨h1, h2⟩ := freeze_mem hq
     rw [only_eq (memN_iff.2 (hLr _ h1))] at h2
     rw [hl] at c6
     simp only [Bool.not_true, Bool.false_or] at c6
     have := List.all_eq_true.1 c6 q.1 h1
     rw [only_eq (memN_iff.2 (hLr _ h1))] at this
     exact ⟨h1, h2, hl, this⟩
    ·cases hq
   have hFo : ∀ i ∈ FZ.map (·.1), i ∈ rows := fun i hi => by
    obtain ⟨q, hq, rfl⟩ := List.mem_map.1 hi
    exact (hFm q hq).1
   have hOk : ∀ q ∈ O, q.1 ∈ owns := fun q hq => by rw [← o1]; exact List.mem_map.2 ⟨q, hq, rfl⟩
   have hNm : ∀ q ∈ N, q.1 ∈ news := fun q hq => by rw [← hNk]; exact List.mem_map.2 ⟨q, hq, rfl⟩
   have hnr : ∀ i ∈ news, i ∉ FZ.map (·.1) := fun i hi hf => by
    obtain ⟨q, hq, rfl⟩ := List.mem_map.1 hf
    have h2 := (hFm q hq).2.1.live
    rw [c3 _ hi] at h2; exact h2
   have hno : ∀ i ∈ news, i ∉ owns := fun i hi ho => hnd.2.2 i ho i hi rfl
   -- look-ups
   have hU : ∀ u ∈ ui ++ ur, putH H (O ++ N ++ FZ) u.id = .live u.ob := fun u hu => by
    rcases List.mem_append.1 hu with hu | hu
    ·have hid := hui u hu
     refine putH_get (fun q hq hqe => ?_) ⟨(u.id, .live u.ob), by simp [o2 u hu], rfl⟩
     simp only [List.mem_append] at hq
     rcases hq with (hq | hq) | hq
     ·rw [keys_one (by rw [o1]; exact hnd.1) hq (o2 u hu) hqe]
     ·exact absurd hid (hqe ▸ hno _ (hNm q hq))
     ·exact absurd (hFo _ (List.mem_map.2 ⟨q, hq, rfl⟩)) (hqe ▸ c2 _ hid)
    ·have hid := hur u hu
     have hin : (u.id, Cell.live u.ob) ∈ N := by rw [← r2]; exact List.mem_map.2 ⟨u, hu, rfl⟩
     refine putH_get (fun q hq hqe => ?_) ⟨(u.id, .live u.ob), by simp [hin], rfl⟩
     simp only [List.mem_append] at hq
     rcases hq with (hq | hq) | hq
     ·exact absurd (hOk q hq) (hqe ▸ hno _ hid)
     ·rw [keys_one (by rw [hNk]; exact hnd.2.1) hq hin hqe]
     ·exact absurd (List.mem_map.2 ⟨q, hq, rfl⟩) (hqe ▸ hnr _ hid)
   have hch : ∀ k ∈ owns ++ news ++ FZ.map (·.1), (∃ u ∈ ui ++ ur, u.id = k) ∨ (k ∈ owns ∧ putH H (O ++ N ++ FZ) k = .dead) ∨ (k ∈ rows ∧ k ∉ (ui ++ ur).map (·.id) ∧ Fz (H k) (putH H (O ++ N ++ FZ) k) ∧ lends = true ∧ rowish (H k) = true) := fun k hk => by
    simp only [List.mem_append] at hk
    rcases hk with (hk | hk) | hk
    ·rw [← o1] at hk
     obtain ⟨q, hq, rfl⟩ := List.mem_map.1 hk
     rcases o3 q hq with hd | ⟨u, u1, u2⟩
     ·refine .inr (.inl ⟨hOk q hq, putH_get (fun q' hq' hqe => ?_) ⟨q, by simp [hq], rfl⟩⟩)
      simp only [List.mem_append] at hq'
      rcases hq' with (hq' | hq') | hq'
      ·rw [keys_one (by rw [o1]; exact hnd.1) hq' hq hqe]; exact hd
      ·exact absurd (hOk q hq) (hqe ▸ hno _ (hNm q' hq'))
      ·exact absurd (hFo _ (List.mem_map.2 ⟨q', hq', rfl⟩)) (hqe ▸ c2 _ (hOk q hq))
     ·exact .inl ⟨u, by simp [u1], by rw [u2]⟩
    ·rw [← r1] at hk
     obtain ⟨u, hu, rfl⟩ := List.mem_map.1 hk
     exact .inl ⟨u, by simp [hu], rfl⟩
    ·obtain ⟨q, hq, rfl⟩ := List.mem_map.1 hk
     obtain ⟨h1, h2, h4, h5⟩ := hFm q hq
     have hput : putH H (O ++ N ++ FZ) q.1 = q.2 := by
      refine putH_get (fun q' hq' hqe => ?_) ⟨q, by simp [hq], rfl⟩
      simp only [List.mem_append] at hq'
      rcases hq' with (hq' | hq') | hq'
      ·exact absurd h1 (hqe ▸ c2 _ (hOk q' hq'))
      ·exact absurd hk (hqe ▸ hnr _ (hNm q' hq'))
      ·obtain ⟨_, h2', _⟩ := hFm q' hq'
       rw [hqe] at h2'
       exact h2'.one h2
     refine .inr (.inr ⟨h1, fun hm => ?_, by rw [hput]; exact h2, h4, h5⟩)
     obtain ⟨u, hu, he⟩ := List.mem_map.1 hm
     rcases List.mem_append.1 hu with hu | hu
     ·exact c2 _ (hui u hu) (by rw [he]; exact h1)
     ·exact hnr _ (hur u hu) (by rw [he]; exact hk)
   have hsub : ∀ u ∈ ui ++ ur, u.id ∈ owns ++ news ++ FZ.map (·.1) := fun u hu => by
    rcases List.mem_append.1 hu with hu | hu
    ·simp [hui u hu]
    ·simp [hur u hu]
   have hFsB : ∀ b ∈ owns.flatMap m.ft, Blk m H (owns ++ news ++ FZ.map (·.1)) b := fun b hb => by
    obtain ⟨i, i1, i2, i3⟩ := ft_blk hb g2
    exact ⟨i, by simp [i1], i2, i3⟩
   have hUF : (ui ++ ur).flatMap (·.F) = Fi ++ Fr := by rw [List.flatMap_append, o4, r3]
   have hUO : ∀ u ∈ ui ++ ur, ORep Zf w' u.ob u.hd u.F := fun u hu => by
    rcases List.mem_append.1 hu with hu | hu
    ·exact (o5 u hu).1
    ·exact r4 u hu
   have hUk : ∀ u ∈ ui ++ ur, ∀ b ∈ u.F, ¬ Zf b ∧ (Blk m H (owns ++ news ++ FZ.map (·.1)) b ∨ (w.heap.size ≤ b ∧ b < w'.heap.size)) := fun u hu b hb => by
    have hbF : b ∈ Fi ++ Fr := by rw [← hUF]; exact List.mem_flatMap.2 ⟨u, hu, hb⟩
    obtain ⟨n1, n2, n3⟩ := p.nz b hbF
    refine ⟨fun hz => n1 (hZZ b hz), ?_⟩
    by_cases hlt : b < w.heap.size
    ·exact .inl (hFsB b (n3 hlt))
    ·exact .inr ⟨by omega, n2⟩
   have hndF : ((ui ++ ur).flatMap (·.F)).Nodup := by rw [hUF]; exact p.nd
   have ch : Change B m H w (owns ++ news ++ FZ.map (·.1)) (m.sets Zf (ui ++ ur)) (putH H (O ++ N ++ FZ)) w' := by
    refine ⟨⟨hkp.os, hkp.tape, hkp.output, hkp.size, fun k hk => ?_, fun b hb hnB => hold b hb fun hF => hnB (hFsB b hF), hmZ, fun b hb => ?_, fun k hk => ?_, fun k hk hl b hb => ?_, fun k hk hl => ?_, fun i hi j hj hij hli hlj b hb hb' => ?_⟩, fun k hk hab => ?_⟩
    ·refine ⟨putH_notin fun hm => hk ?_, sets_out fun hm => hk ?_⟩
     ·rw [List.map_append, List.map_append, o1, hNk] at hm; exact hm
     ·obtain ⟨u, hu, rfl⟩ := List.mem_map.1 hm
      exact hsub u hu
    ·have hb : Zf b := hb
     cases hl : lends with
     | false => rw [hnz hl] at hb; exact .inl hb
     | true =>
      rw [hlz hl] at hb
      by_cases hlt : b < w.heap.size
      ·rcases p.zi b hb hlt with (hz | ⟨i, i1, i2, i3⟩) | hz
       ·exact .inl hz
       ·refine .inr (.inl ⟨⟨i, ?_, i2, i3⟩, hlt⟩)
        rw [hl] at c6
        simp only [Bool.not_true, Bool.false_or] at c6
        have hrw := List.all_eq_true.1 c6 i i1
        rw [only_eq (memN_iff.2 (hLr i i1))] at hrw
        obtain ⟨c', hc'⟩ := rowish_live hrw i2
        have := freeze_of (H := only H LL) i1 (by rw [only_eq (memN_iff.2 (hLr i i1))]; exact hc')
        have hin : (i, c') ∈ FZ := by rw [← hFZ, if_pos hl]; exact this
        simp only [List.mem_append]
        exact .inr (List.mem_map.2 ⟨_, hin, rfl⟩)
       ·exact .inr (.inl ⟨hFsB b hz, hlt⟩)
      ·exact .inr (.inr ⟨by omega, p.zl b hb⟩)
    ·rcases hch k hk with ⟨u, hu, rfl⟩ | ⟨_, hd⟩ | ⟨h1, h2, h3, h5, h6⟩
     ·rw [hU u hu]
      obtain ⟨e1, e2⟩ := sets_in (m := m) (Z1 := Zf) hids hu
      simp only [CRep]
      rw [e1, e2]
      exact hUO u hu
     ·rw [hd]; trivial
     ·have hL := h3.live
      have hfz : ∀ b ∈ m.ft k, b < w.heap.size ∧ b ∉ owns.flatMap m.ft := fun b hb => by
       refine ⟨(hh.nz k hL b hb).2.1, fun hF => (hFs b hF).1 (.inr ⟨k, h1, hL, hb⟩)⟩
      refine h3.rep hh h6 (fun b hb => hold b (hh.zl b hb) fun hF => (hFs b hF).1 (.inl hb)) hmZ (fun b hb => hold b (hfz b hb).1 (hfz b hb).2) (fun b hb => ?_) (sets_out (m := m) (Z1 := Zf) h2).1
      show Zf b
      rw [hlz h5]
      exact p.zs b (.inr ⟨k, h1, hL, hb⟩)
    ·rcases hch k hk with ⟨u, hu, rfl⟩ | ⟨_, hd⟩ | ⟨h1, h2, h3, h5, h6⟩
     ·rw [(sets_in (m := m) (Z1 := Zf) hids hu).2] at hb
      exact hUk u hu b hb
     ·rw [hd] at hl; exact hl.elim
     ·exact absurd hl h3.dead
    ·rcases hch k hk with ⟨u, hu, rfl⟩ | ⟨_, hd⟩ | ⟨h1, h2, h3, h5, h6⟩
     ·rw [(sets_in (m := m) (Z1 := Zf) hids hu).2]
      exact flatMap_nodup hndF hu
     ·rw [hd] at hl; exact hl.elim
     ·exact absurd hl h3.dead
    ·rcases hch i hi with ⟨u, hu, rfl⟩ | ⟨_, hd⟩ | ⟨h1, h2, h3, h5, h6⟩
     ·rcases hch j hj with ⟨u', hu', rfl⟩ | ⟨_, hd⟩ | ⟨h1, h2, h3, h5, h6⟩
      ·rw [(sets_in (m := m) (Z1 := Zf) hids hu).2] at hb
       rw [(sets_in (m := m) (Z1 := Zf) hids hu').2] at hb'
       exact flatMap_disj hndF hu hu' (fun e => hij (by rw [e])) hb hb'
      ·rw [hd] at hlj; exact hlj.elim
      ·exact absurd hlj h3.dead
     ·rw [hd] at hli; exact hli.elim
     ·exact absurd hli h3.dead
    ·rcases hch k hk with ⟨u, hu, rfl⟩ | ⟨_, hd⟩ | ⟨h1, h2, h3, h5, h6⟩
     ·have hu' := hu
      rcases List.mem_append.1 hu with hu | hu
      ·obtain ⟨q1, q2, g, ls, ls', q3, q4⟩ := o5 u hu
       have := hU u hu'
       rw [q4] at this
       exact EvoAt.cells_ q3 this (Nat.lt_succ_self _) (by rw [(sets_in (m := m) (Z1 := Zf) hids hu').1]; exact q2)
      ·exact absurd (c3 _ (hur u hu)) hab
     ·exact EvoAt.dead hd
     ·exact h3.evo rfl (sets_out (m := m) (Z1 := Zf) h2).1
   refine ⟨_, hh.change ch, hh.evo ch, ?_⟩
   rw [p.v]
   refine avOf_ok (r5 _ _ rfl fun u hu => ⟨(sets_in (m := m) (Z1 := Zf) hids (u := u) (by simp [hu])).1, hU u (by simp [hu])⟩)
  ·exact hQ.elim
 ·exact hQ.elim
end
end Go.Proofs.Ytodnfnnfjnnhmaa.A

-- YtodnfnnfjnnhmaaCm
set_option linter.unusedVariables false
set_option linter.unusedSimpArgs false
namespace Go.Proofs.Ytodnfnnfjnnhmaa.A
open Go
section
variable {P : Program} {B : Base} {m m' m0 m1 : Md} {H H' H1 : Hp} {w w' : World} {o : Oper} {a : Act} {E : Env} {tab : Nat → Option TI} {T : Nat → Option FunE} {L : List Nat} {Z1 Zf : Nat → Prop}

theorem EvoAt.mapbE {id g : Nat} {k e : Ty} {mm mm0 : List (k.den × e.den)} {ho ho0} (h0 : H id = .live (.mapb g k e mm0 ho0)) (h : H1 id = .live (.mapb g k e mm ho)) (hd : m1.hd id = m.hd id) (hb : ∀ bm, m.hd id = .map (some bm) → w'.heap[bm]? = w.heap[bm]?) : EvoAt m H w m1 H1 w' id :=
 ⟨by rw [h]; exact (fun hh => by cases hh), fun _ _ hh => by rw [h] at hh; (cases hh), fun _ _ hh => by rw [h] at hh; (cases hh), fun _ _ hh => by rw [h] at hh; (cases hh), fun _ _ _ hh => by rw [h] at hh; (cases hh), fun _ _ _ hh => by rw [h] at hh; (cases hh), fun _ _ _ _ hh => by rw [h] at hh; (cases hh), fun _ _ _ _ _ hh => by rw [h] at hh; cases hh; exact ⟨hd, g, mm0, ho0, h0, Nat.le_refl _, fun _ => hb⟩⟩
theorem putH_indep : ∀ {ups : List (Nat × Cell)} {H H' : Hp} {k : Nat}, k ∈ ups.map (·.1) → putH H ups k = putH H' ups k
 | [], _, _, _, h => by cases h
 | p :: ups, H, H', k, h => by
  rw [putH, putH]
  by_cases hk : k ∈ ups.map (·.1)
  ·exact putH_indep hk
  ·rw [putH_notin hk, putH_notin hk]
   simp only [List.map_cons, List.mem_cons] at h
   rcases h with h | h
   ·rw [h, upd_same, upd_same]
   ·exact absurd h hk
theorem memN_all {ups : List (Nat × Cell)} {l : List Nat} (h : (ups.all fun p => memN p.1 l) = true) : ∀ k ∈ ups.map (·.1), k ∈ l := fun k hk => by
 obtain ⟨p, hp, rfl⟩ := List.mem_map.1 hk
 exact memN_iff.1 (List.all_eq_true.1 h p hp)
theorem Change.two (hh : HOk B m H w) {id d : Nat} (hne : id ≠ d) (hL : (H id).Live) {ob : Obj} {c : Cell} {G1 G2 : List Nat} {hdr : Value} (hb : ∀ z, z ∈ G1 ∨ z ∈ G2 → z ∈ m.ft id ∨ ((H d).Live ∧ z ∈ m.ft d)) (hn1 : G1.Nodup) (hn2 : G2.Nodup) (hdis : c.Live → ∀ z ∈ G1, z ∉ G2)
 (r1 : ORep m.Z w ob (m.hd id) G1) (r2 : CRep { Z := m.Z, hd := upd m.hd d hdr, ft := upd (upd m.ft id G1) d G2 } w d c)
 (e1 : EvoAt m H w { Z := m.Z, hd := upd m.hd d hdr, ft := upd (upd m.ft id G1) d G2 } (upd (upd H d c) id (.live ob)) w id) (e2 : H d ≠ .absent → EvoAt m H w { Z := m.Z, hd := upd m.hd d hdr, ft := upd (upd m.ft id G1) d G2 } (upd (upd H d c) id (.live ob)) w d) :
 Change B m H w [id, d] { Z := m.Z, hd := upd m.hd d hdr, ft := upd (upd m.ft id G1) d G2 } (upd (upd H d c) id (.live ob)) w := by
 have hi : upd (upd H d c) id (.live ob) id = .live ob := upd_same _ _ _
 have hd : upd (upd H d c) id (.live ob) d = c := by rw [upd_other _ _ (Ne.symm hne), upd_same]
 have fi : upd (upd m.ft id G1) d G2 id = G1 := by rw [upd_other _ _ hne, upd_same]
 have fd : upd (upd m.ft id G1) d G2 d = G2 := upd_same _ _ _
 have hdi : upd m.hd d hdr id = m.hd id := upd_other _ _ hne
 have blk : ∀ z, z ∈ G1 ∨ z ∈ G2 → ¬ m.Z z ∧ Blk m H [id, d] z := fun z hz => by
  rcases hb z hz with h | ⟨h1, h2⟩
  ·exact ⟨(hh.nz id hL z h).1, id, by simp, hL, h⟩
  ·exact ⟨(hh.nz d h1 z h2).1, d, by simp, h1, h2⟩
 refine { os := rfl, tape := rfl, output := rfl, size := Nat.le_refl _, un := fun i hi' => ?_, blk := fun _ _ _ => rfl, zs := fun _ h => h, zi := fun _ h => .inl h, cr := fun i hi' => ?_, ft := fun i hi' hl z hz => ?_, nd := fun i hi' hl => ?_, sp := fun i hi' j hj' hij hli hlj z hz => ?_, at_ := fun i hi' hab => ?_ }
 ·simp only [List.mem_cons, List.not_mem_nil, or_false, not_or] at hi'
  exact ⟨by rw [upd_other _ _ hi'.1, upd_other _ _ hi'.2], upd_other _ _ hi'.2, by simp only; rw [upd_other _ _ hi'.2, upd_other _ _ hi'.1]⟩
 ·simp only [List.mem_cons, List.not_mem_nil, or_false] at hi'
  rcases hi' with rfl | rfl
  ·rw [hi]
   show ORep m.Z w ob _ _
   simp only
   rw [hdi, fi]; exact r1
  ·rw [hd]; exact r2
 ·simp only [List.mem_cons, List.not_mem_nil, or_false] at hi'
  rcases hi' with rfl | rfl
  ·simp only at hz
   rw [fi] at hz
   exact ⟨(blk z (.inl hz)).1, .inl (blk z (.inl hz)).2⟩
  ·simp only at hz
   rw [fd] at hz
   exact ⟨(blk z (.inr hz)).1, .inl (blk z (.inr hz)).2⟩
 ·simp only [List.mem_cons, List.not_mem_nil, or_false] at hi'
  rcases hi' with rfl | rfl
  ·simp only; rw [fi]; exact hn1
  ·simp only; rw [fd]; exact hn2
 ·simp only [List.mem_cons, List.not_mem_nil, or_false] at hi' hj'
  rcases hi' with rfl | rfl <;> rcases hj' with rfl | rfl
  ·exact absurd rfl hij
  ·simp only at hz ⊢
   rw [fi] at hz
   rw [fd]
   rw [hd] at hlj
   exact hdis hlj z hz
  ·simp only at hz ⊢
   rw [fd] at hz
   rw [fi]
   rw [hd] at hli
   exact fun h => hdis hli z h hz
  ·exact absurd rfl hij
 ·simp only [List.mem_cons, List.not_mem_nil, or_false] at hi'
  rcases hi' with rfl | rfl
  ·exact e1
  ·exact e2 hab

theorem wCallM_ok {F : FunE} {f : FuncId} (hF : FunOk P f F) (hh : HOk B m H w) {as_ : List AV} {vs : List Value} (hv : All2 (AVRep m w H) as_ vs) (ex : (execOp a.eval o).run P w = .ok (.enter f vs.toArray) w) : WayOk P B m H w o a (wCallM F o.dst as_) := by
 unfold wCallM
 split
 ·rename_i id g k key as'
  generalize hdd : 300000 + o.dst.getD 99999 = d
  match vs, hv with
  | c :: vs', hv =>
   intro Q hQ
   simp only at hQ
   generalize hcore : wCallF F o.dst (.val false [.ptr d 0] :: as') = core at hQ
   split at hQ
   ·rename_i g' k' e mm hx
    have hx := live_of_only hx
    split at hQ
    ·rename_i key' hg hk
     obtain rfl := Nat.eq_of_beq_eq_true hg
     obtain ⟨he, hk⟩ := castTo_eq hk
     subst he; subst hk
     split at hQ
     ·rename_i hc
      simp only [Bool.and_eq_true, Bool.not_eq_true'] at hc
      obtain ⟨c1, c2⟩ := hc
      have hda : H d = .absent := absent_of c1 (by simp)
      have hidn := memN_false.1 c2
      simp only [List.mem_cons, not_or] at hidn
      obtain ⟨hne, hidn⟩ := hidn
      have hQ := Tst.can_bind hQ
      have hL : (H id).Live := by rw [hx]; trivial
      obtain ⟨bm, ents, clock, bx, el, cc, Fb, y, m1', m2', e1, en, e2, F1, F2, p1, p2, p3, p4, p5, p6, p7, p8, p9, p10, p11, p12, p13, p14, p15, p16, p17⟩ := mel_ok hh hx hv.1.one
      have hnd := hh.nd id hL
      rw [p2] at hnd
      have hnd2 := List.nodup_cons.1 hnd
      have hperm : (F1 ++ ((bx :: Fb) ++ F2)).Perm ((F1 ++ F2) ++ (bx :: Fb)) := by
       rw [List.append_assoc]
       exact List.Perm.append_left _ List.perm_append_comm
      have hnd3 := hperm.nodup_iff.1 hnd2.2
      rw [List.nodup_append] at hnd3
      have mem1 : ∀ z, z ∈ bm :: (F1 ++ F2) ∨ z ∈ bx :: Fb → z ∈ m.ft id := fun z hz => by
       rw [p2]
       simp only [List.mem_cons, List.mem_append] at hz ⊢
       rcases hz with (h | h | h) | h | h <;> simp [h]
      -- the box is taken out
      have ch1 := Change.two (m := m) hh (id := id) (d := d) hne hL (ob := .mapb g k (.ptr e) mm (some (key, some (.pointer (some ⟨bx, 0, none⟩))))) (c := .live (.cells 0 (flat e y))) (G1 := bm :: (F1 ++ F2)) (G2 := bx :: Fb) (hdr := .pointer (some ⟨bx, 0, none⟩)) (fun z hz => .inl (mem1 z hz)) ?_ hnd3.2.1 (fun _ z hz hz2 => ?_)
       ⟨bm, ents, clock, F1 ++ F2, p1, rfl, p3, p4, ?_⟩ ?_ (EvoAt.mapbE hx (upd_same _ _ _) (upd_other _ _ hne) fun _ _ => rfl) (fun h => absurd hda h)
      rotate_left
      ·rw [List.nodup_cons]
       exact ⟨fun h => hnd2.1 (hperm.symm.subset (List.mem_append_left _ h)), hnd3.1⟩
      ·rcases List.mem_cons.1 hz with rfl | hz
       ·exact hnd2.1 (hperm.symm.subset (List.mem_append_right _ hz2))
       ·exact hnd3.2.2 z hz z hz2 rfl
      ·rw [p9, p10]
       exact RepMH.of (q := fun x => eqV k x key) (ov := some (.pointer (some ⟨bx, 0, none⟩))) (p := (key, some y)) p14 p12 (fun u hu => by cases hu; exact p11) p16 p13 p15
      ·simp only [CRep]
       rw [upd_same, upd_same]
       exact ⟨bx, el, cc, Fb, rfl, rfl, p6, flat_ok p7⟩
      have hh1 := hh.change ch1
      have ev1 := hh.evo ch1
      generalize hm1 : ({ Z := m.Z, hd := upd m.hd d (.pointer (some ⟨bx, 0, none⟩)), ft := upd (upd m.ft id (bm :: (F1 ++ F2))) d (bx :: Fb) } : Md) = M1 at hh1 ev1
      generalize hH1 : upd (upd H d (.live (.cells 0 (flat e y)))) id (.live (.mapb g k (.ptr e) mm (some (key, some (.pointer (some ⟨bx, 0, none⟩)))))) = H1 at hh1 ev1
      have H1d : H1 d = .live (.cells 0 (flat e y)) := by rw [← hH1, upd_other _ _ (Ne.symm hne), upd_same]
      have H1id : H1 id = .live (.mapb g k (.ptr e) mm (some (key, some (.pointer (some ⟨bx, 0, none⟩))))) := by rw [← hH1, upd_same]
      have M1d : M1.hd d = .pointer (some ⟨bx, 0, none⟩) := by rw [← hm1]; exact upd_same _ _ _
      have M1id : M1.hd id = m.hd id := by rw [← hm1]; exact upd_other _ _ hne
      have call := wCallF_ok (a := a) (o := o) hF hh1 (as_ := .val false [.ptr d 0] :: as') (vs := c :: vs') ⟨AVRep.mk1 ⟨by rw [H1d]; simp, fun _ _ _ => ⟨bx, M1d, p5⟩⟩, hv.2.mono fun _ _ h => h.evo ev1⟩ ex
      rw [hcore] at call
      have heq : only (upd (only H ([] ++ id :: d :: (core.rd ++ core.wr))) d (.live (.cells 0 (flat e (boxOf k e key mm))))) (core.rd ++ core.wr) = only H1 (core.rd ++ core.wr) := by
       funext n
       unfold only
       cases hn : memN n (core.rd ++ core.wr) with
       | false => rfl
       | true =>
        simp only
        have hnm := memN_iff.1 hn
        have hni : n ≠ id := fun e => hidn (e ▸ hnm)
        by_cases hnd' : n = d
        ·subst hnd'
         rw [upd_same, H1d, p8]
        ·rw [upd_other _ _ hnd', ← hH1, upd_other _ _ hni, upd_other _ _ hnd']
         have : memN n ([] ++ id :: d :: (core.rd ++ core.wr)) = true := memN_iff.2 (by
          rw [List.nil_append]
          exact List.mem_cons_of_mem _ (List.mem_cons_of_mem _ hnm))
         rw [this]
      rw [heq] at hQ
      obtain ⟨v, ups, hQ2, hop⟩ := call _ hQ
      simp only at hQ2
      split at hQ2
      ·rename_i gg ls hls hall
       split at hQ2
       ·rename_i y' hy'
        refine ⟨_, _, hQ2, ?_⟩
        unfold OpOk at hop ⊢
        rw [ex] at hop ⊢
        refine hop.mono fun e' w' ⟨v', he', hA⟩ => ⟨v', he', ?_⟩
        obtain ⟨m2, hh2, ev2, hv2⟩ := hA
        have hkeys := memN_all hall
        have hidk : id ∉ ups.map (·.1) := fun h => hidn (List.mem_append_right _ (hkeys id h))
        have hdk : d ∈ ups.map (·.1) := by
         apply Classical.byContradiction
         intro hn
         rw [putH_notin hn] at hls
         cases hls
        generalize hH2 : putH H1 ups = H2 at hh2 ev2 hv2
        have H2id : H2 id = .live (.mapb g k (.ptr e) mm (some (key, some (.pointer (some ⟨bx, 0, none⟩))))) := by rw [← hH2, putH_notin hidk, H1id]
        have H2d : H2 d = .live (.cells gg ls) := by rw [← hH2, putH_indep (H' := fun _ => .absent) hdk, hls]
        have L2 : (H2 id).Live := by rw [H2id]; trivial
        have Ld : (H2 d).Live := by rw [H2d]; trivial
        obtain ⟨q1, _⟩ := ev2.mapb id (by rw [H1id]; simp) _ _ _ _ _ H2id
        obtain ⟨q2, _⟩ := ev2.cells d (by rw [H1d]; simp) _ _ H2d
        have cr := hh2.cr id
        rw [H2id] at cr
        obtain ⟨b, ents2, clock2, F', r1, r2, r3, r4, r5⟩ := cr
        have crd := hh2.cr d
        rw [H2d] at crd
        obtain ⟨bx2, el2, cc2, Fb2, s1, s2, s3, s4⟩ := crd
        rw [q2, M1d] at s1; cases s1
        have hyr := asmAllO hy' s4
        rw [p9] at r5
        obtain ⟨f1, en', f2, G1, G2, t1, t2, t3, t4, t5, t6⟩ := RepMH.to (q := fun x => eqV k x key) (p := (key, some y)) (m := m1') p14 p13 r5
        have hbb : b = bm := by rw [q1, M1id, p1] at r1; cases r1; rfl
        subst hbb
        have nid := hh2.nd id L2
        rw [r2, t2, List.nodup_cons] at nid
        have ndd := hh2.nd d Ld
        have dis : ∀ z ∈ m2.ft id, z ∉ m2.ft d := fun z hz => hh2.sp id d hne L2 Ld z hz
        rw [r2, t2, s2] at dis
        have ch3 := Change.two (m := m2) hh2 (id := id) (d := d) hne L2 (ob := .mapb g k (.ptr e) (mapPut k (.ptr e) key (some y') mm) none) (c := .dead) (G1 := b :: (G1 ++ ((bx :: Fb2) ++ G2))) (G2 := []) (hdr := m2.hd d) (fun z hz => ?_) ?_ (by simp) (fun h => h.elim)
         ⟨b, ents2, clock2, G1 ++ ((bx :: Fb2) ++ G2), r1, rfl, r3, r4, ?_⟩ trivial (EvoAt.mapbE H2id (upd_same _ _ _) (upd_other _ _ hne) fun _ _ => rfl) (fun _ => EvoAt.dead (by rw [upd_other _ _ (Ne.symm hne), upd_same]))
        rotate_left
        ·rcases hz with hz | hz
         ·rw [r2, t2, s2]
          simp only [List.mem_cons, List.mem_append] at hz ⊢
          rcases hz with h | h | (h | h) | h
          ·exact .inl (.inl h)
          ·exact .inl (.inr (.inl h))
          ·exact .inr ⟨Ld, .inl h⟩
          ·exact .inr ⟨Ld, .inr h⟩
          ·exact .inl (.inr (.inr h))
         ·cases hz
        ·have hp : (G1 ++ ((bx :: Fb2) ++ G2)).Perm ((G1 ++ G2) ++ (bx :: Fb2)) := by
          rw [List.append_assoc]
          exact List.Perm.append_left _ List.perm_append_comm
         rw [List.nodup_cons]
         refine ⟨fun h => ?_, hp.nodup_iff.2 ?_⟩
         ·rcases List.mem_append.1 (hp.subset h) with h | h
          ·exact nid.1 h
          ·exact dis b (by simp) h
         ·rw [List.nodup_append]
          rw [s2] at ndd
          exact ⟨nid.2, ndd, fun z hz z2 hz2 e => dis z (List.mem_cons_of_mem _ hz) (e ▸ hz2)⟩
        ·show RepMF _ _ _ _ _
         rw [p17, t1]
         exact RepMF.append t3 ⟨en', f2, bx :: Fb2, G2, rfl, rfl, t4, ⟨[en'.val], rfl, by
          rw [t5 _ rfl]
          exact ⟨bx, el2, cc2, Fb2, rfl, rfl, s3, hyr⟩⟩, t6⟩
        have hfin : putH H (ups ++ [(d, .dead), (id, .live (.mapb g k (.ptr e) (mapPut k (.ptr e) key (some y') mm) none))]) = upd (upd H2 d .dead) id (.live (.mapb g k (.ptr e) (mapPut k (.ptr e) key (some y') mm) none)) := by
         rw [putH_append]
         simp only [putH]
         funext n
         by_cases h1 : n = id
         ·subst h1; rw [upd_same, upd_same]
         ·rw [upd_other _ _ h1, upd_other _ _ h1]
          by_cases h2 : n = d
          ·subst h2; rw [upd_same, upd_same]
          ·rw [upd_other _ _ h2, upd_other _ _ h2, ← hH2]
           exact putH_agree (by rw [← hH1, upd_other _ _ h1, upd_other _ _ h2])
        unfold After
        rw [hfin]
        exact ⟨_, hh2.change ch3, (ev1.trans ev2).trans (hh2.evo ch3), hv2.evo (hh2.evo ch3)⟩
       ·exact hQ2.elim
      ·exact hQ2.elim
     ·exact hQ.elim
    ·exact hQ.elim
   ·exact hQ.elim
 ·exact wCallF_ok hF hh hv ex
end
end Go.Proofs.Ytodnfnnfjnnhmaa.A

-- YtodnfnnfjnnhmaaFn4
set_option linter.unusedVariables false
set_option linter.unusedSimpArgs false
namespace Go.Proofs.Ytodnfnnfjnnhmaa.A
open Go
section
variable {P : Program} {B : Base} {m m' m0 : Md} {H H' : Hp} {w w' : World} {o : Oper} {a : Act} {E : Env} {tab : Nat → Option TI} {N : Nat}

structure PInv (B : Base) (Z : Nat → Prop) (w : World) (vals : Nat → Value) (t0 : Nat) (m : Md) (es : List (Nat × AV)) (hs : List (Nat × Cell)) (F : List Nat) : Prop where
 h : HOk B m (ofL .absent hs) w
 z : m.Z = Z
 t : ∀ k, AVRep m w (ofL .absent hs) (ofL .junk es k) (vals k)
 own : ∀ k, (ofL .absent hs k).Live → ∀ b ∈ m.ft k, b ∈ F
 ks : ∀ k ∈ hs.map (·.1), ∃ t, t0 ≤ t ∧ k = headId t
theorem pinv_put {m : Md} {H : Hp} {es : List (Nat × AV)} {vals : Nat → Value} (h : ∀ t, AVRep m w H (ofL .junk es t) (vals t)) {t0 : Nat} {v : AV} (hv : AVRep m w H v (vals t0)) (t : Nat) : AVRep m w H (ofL .junk ((t0, v) :: es) t) (vals t) := by
 rw [ofL_cons]
 by_cases ht : t = t0
 ·subst ht; rw [upd_same]; exact hv
 ·rw [upd_other _ _ ht]; exact h t
theorem par_plain {t : Nat} {τ : Ty} {x : τ.den} (h : τ.vecP = false) (hp : τ.pure = true) : parAV t false τ x = (.val (!τ.one) (flat τ x), []) := by
 cases τ <;> first | rfl | cases hp
theorem pars_ok {Z : Nat → Prop} (h0 : ∀ m : Md, m.Z = Z → HOk B m (fun _ => .absent) w) {vals : Nat → Value} : ∀ {ps : List (Bool × Ty)} {t : Nat} {x : (ps.foldr (fun p t => Ty.pair p.2 t) .unit).den} {vs : List Value} {F : List Nat},
 ArgsRep Z w ps x vs F → F.Nodup → (∀ b ∈ F, ¬ Z b ∧ b < w.heap.size ∧ (b < B.w.heap.size → b ∈ B.F)) → (ps.all fun p => p.1 || p.2.pure || p.2.vecP) = true → (∀ (i : Nat) (v : Value), vs[i]? = some v → vals (t + i) = v) →
 ∃ m, PInv B Z w vals t m (pars t ps x).1 (pars t ps x).2 F
 | [], t, x, vs, F, _, _, _, _, _ => ⟨{ Z := Z, hd := fun _ => undef, ft := fun _ => [] }, h0 _ rfl, rfl, fun _ => trivial, fun _ h => h.elim, by simp [pars]⟩
 | (io, τ) :: ps, t, x, vs, F, ⟨v, vs', F1, F2, h1, h2, h3, h4⟩, hn, hF, hk, hv => by
  subst h1; subst h2
  rw [List.all_cons, Bool.and_eq_true] at hk
  rw [List.nodup_append] at hn
  obtain ⟨m, K⟩ := pars_ok h0 (t := t + 1) h4 hn.2.1 (fun b hb => hF b (by simp [hb])) hk.2 (fun i v hi => by have := hv (i + 1) v (by simpa using hi); rwa [show t + (i + 1) = t + 1 + i by omega] at this)
  have hval : vals t = v := hv 0 v (by simp)
  have hfresh : ofL .absent (pars (t + 1) ps x.2).2 (headId t) = .absent := ofL_absent _ fun hm => by
   obtain ⟨t', h1, h2⟩ := K.ks _ hm
   have := headId_inj h2
   omega
  -- an object under this place's name
  have obj : ∀ {ob : Obj} {hdr : Value} {av : AV}, ORep Z w ob hdr F1 → parAV t io τ x.1 = (av, [(headId t, .live ob)]) → (∀ (m1 : Md) (H1 : Hp), m1.hd (headId t) = hdr → H1 (headId t) = .live ob → AVRep m1 w H1 av (vals t)) → ∃ m, PInv B Z w vals t m (pars t ((io, τ) :: ps) x).1 (pars t ((io, τ) :: ps) x).2 (F1 ++ F2) := by
   intro ob hdr av hr hp hav
   obtain ⟨q1, q2⟩ := K.h.add hfresh (by rw [K.z]; exact hr) hn.1 (fun b hb => by rw [K.z]; exact hF b (by simp [hb])) (fun j hj b hb hb' => hn.2.2 b hb' b (K.own j hj b hb) rfl)
   refine ⟨m.set (headId t) hdr F1, ?_⟩
   simp only [pars, hp, List.singleton_append]
   refine ⟨q1, K.z, pinv_put (fun k => (K.t k).evo q2) (hav _ _ (by simp only [Md.set]; rw [upd_same]) (upd_same _ _ _)), fun k hk b hb => ?_, fun k hk => ?_⟩
   ·by_cases hk0 : k = headId t
    ·subst hk0
     simp only [Md.set] at hb
     rw [upd_same] at hb
     simp [hb]
    ·rw [ofL_cons, upd_other _ _ hk0] at hk
     simp only [Md.set] at hb
     rw [upd_other _ _ hk0] at hb
     simp [K.own k hk b hb]
   ·simp only [List.map_cons, List.mem_cons] at hk
    rcases hk with rfl | hk
    ·exact ⟨t, Nat.le_refl _, rfl⟩
    ·obtain ⟨t', h1, h2⟩ := K.ks k hk
     exact ⟨t', by omega, h2⟩
  cases io with
  | true =>
   obtain ⟨b, el, cs, F', e1, e2, e3, e4⟩ := h3
   refine obj (ob := .cells 0 (flat τ x.1)) (hdr := .pointer (some ⟨b, 0, none⟩)) ⟨b, el, cs, F', rfl, e2, e3, flat_ok e4⟩ rfl fun m1 H1 h1 h2 => one_val ⟨by rw [h2]; simp, fun _ _ _ => ⟨b, h1, by rw [hval, e1]⟩⟩
  | false =>
   obtain ⟨cs, e1, e2⟩ := h3
   have hk1 : (τ.pure || τ.vecP) = true := by simpa using hk.1
   by_cases hve : τ.vecP = true
   ·cases τ with
    | vec e =>
     have e1 : cs = [v] := e1
     subst e1
     exact obj (ob := .row e x.1) (hdr := v) e2 rfl fun m1 H1 h1 h2 => one_val ⟨by rw [h2]; simp, fun _ _ _ => by rw [hval, h1], fun _ _ _ => by rw [hval, h1]⟩
    | _ => cases hve
   ·have hve : τ.vecP = false := by simpa using hve
    rw [hve, Bool.or_false] at hk1
    have hF1 := e2.pure hk1
    subst hF1
    refine ⟨m, ?_⟩
    simp only [pars, par_plain hve hk1, List.nil_append]
    refine ⟨K.h, K.z, pinv_put K.t ⟨cs, by rw [hval]; exact e1, flat_all2 (by rw [K.z]; exact e2)⟩, K.own, fun k hk => ?_⟩
    obtain ⟨t', h1, h2⟩ := K.ks k hk
    exact ⟨t', by omega, h2⟩

def resRun (tmps : Array Value) : ResultVar → Sem Value
 | .tmp t => pure (tmps.getD t undef)
 | .cell a t => do loadVar t (← asAddr (tmps.getD a undef))
theorem resVal_ok (hT : TabOk P tab) (s : St B m E H a w) {rv : ResultVar} {p : Bool × List LV} (h : resVal tab H E rv = some p) : ∃ u, (resRun a.tmps rv).run P w = .ok u w ∧ PRep m w H p u := by
 cases rv with
 | tmp t =>
  simp only [resVal] at h
  split at h
  ·rename_i g ls he
   cases h
   have := s.t t
   rw [he] at this
   exact ⟨_, by simp [resRun], this⟩
  ·cases h
 | cell ad t =>
  simp only [resVal] at h
  split at h
  ·rename_i i id hi he
   split at h
   ·rename_i g ls hx
    split at h
    ·rename_i hl
     cases h
     have hl := Nat.eq_of_beq_eq_true hl
     have ht := s.t ad
     rw [he] at ht
     obtain ⟨b, q1, q2⟩ := ht.one.2 _ _ hx
     have hc := s.h.cr id
     rw [hx] at hc
     obtain ⟨b', el, cs, F', k1, k2, k3, k4⟩ := hc
     rw [k1] at q1; cases q1
     have hcell : ∀ (j : Nat) (u : Value), cs[j]? = some u → w.cell? ⟨b, 0 + j, none⟩ = some u := fun j u hu => by
      simp only [World.cell?, k3]
      simpa using hu
     have hls := outLeaves_ok (m := m) (w := w) hx k1 0 k4 (fun j l hj => by simpa using hj) hcell
     have hlen : cs.length = i.ty.cells := by rw [k4.len (sz := 1) ol1_len, Nat.mul_one, hl]
     obtain ⟨v, r1, r2⟩ := load_ok (P := P) (w := w) hT hi (b := b) (p := 0) hlen hcell
     refine ⟨v, ?_, cs, r2, hls⟩
     simp only [resRun, q2, asAddr, Sem.run_bind, Sem.run_pure, Result.andThen_ok]
     simpa [Instr.loadAt, Instr.sureAddr] using r1
    ·cases h
   ·cases h
  ·cases h
theorem resVals_ok (hT : TabOk P tab) (s : St B m E H a w) : ∀ {rvs : List ResultVar} {rs : List (Bool × List LV)}, resVals tab H E rvs = some rs → ∃ us, (rvs.mapM (resRun a.tmps)).run P w = .ok us w ∧ All2 (PRep m w H) rs us
 | [], _, h => by cases h; exact ⟨[], by simp, trivial⟩
 | rv :: rvs, rs, h => by
  simp only [resVals] at h
  split at h
  ·rename_i p ps h1 h2
   cases h
   obtain ⟨u, u1, u2⟩ := resVal_ok hT s h1
   obtain ⟨us, v1, v2⟩ := resVals_ok hT s h2
   refine ⟨u :: us, ?_, u2, v2⟩
   simp [List.mapM_cons, u1, v1]
  ·cases h
theorem results_run {fn : Func} {us : List Value} (h : (fn.results.toList.mapM (resRun a.tmps)).run P w = .ok us w) : (results fn a.tmps).run P w = .ok (tupOf us) w := by
 have e : results fn a.tmps = (do let vs ← fn.results.mapM (resRun a.tmps); pure (if h : vs.size = 1 then vs[0] else .tuple vs)) := by
  unfold results
  congr 1
 rw [e, Array.mapM_eq_mapM_toList]
 simp only [Sem.run_bind, map_eq_pure_bind, h, Result.andThen_ok, Sem.run_pure]
 congr 1
 match us with
 | [] => rfl
 | [u] => rfl
 | u :: v :: us => simp [tupOf]
theorem resIn_ok {Zf : Nat → Prop} (hh : HOk B m H w) (hz : ∀ b, m.Z b → Zf b) : ∀ {outs : List Ty} {rs : List (Bool × List LV)} {us : List Value} {x : (outs.foldr Ty.pair .unit).den}, resIn H outs rs = some x → All2 (PRep m w H) rs us →
 (∀ id ∈ resRds outs rs, (H id).Live → ∀ b ∈ m.ft id, Zf b) → ResL Zf w outs x us ((resOwns outs rs).flatMap m.ft) ∧ ∀ id ∈ resOwns outs rs, (H id).Live
 | [], [], us, x, _, hv, _ => by
  have : us = [] := by cases us with | nil => rfl | cons _ _ => exact hv.elim
  subst this
  exact ⟨⟨rfl, rfl⟩, by simp [resOwns]⟩
 | [], _ :: _, _, _, h, _, _ => by cases h
 | _ :: _, [], _, _, h, _, _ => by cases h
 | τ :: outs, p :: rs, [], _, _, hv, _ => hv.elim
 | τ :: outs, p :: rs, u :: us, x, h, hv, hr => by
  simp only [resIn] at h
  split at h
  ·rename_i y ys hy hys
   cases h
   obtain ⟨g1, g2⟩ := resIn_ok hh hz hys hv.2 fun id hid => hr id (by simp [resRds, hid])
   obtain ⟨k1, k2⟩ := ownIn_ok (Sub.refl H) hh hz hy hv.1 fun id hid => hr id (by simp [resRds, hid])
   refine ⟨⟨u, us, _, _, rfl, ?_, k1, g1⟩, fun id hid => ?_⟩
   ·simp [resOwns, List.flatMap_append]
   ·simp only [resOwns, List.mem_append] at hid
    exact hid.elim (k2 id) (g2 id)
  ·cases h
theorem splitRes_join : ∀ {outs more : List Ty} {x : (outs.foldr Ty.pair .unit).den} {y : (more.foldr Ty.pair .unit).den}, splitRes outs more (joinRes outs more x y) = (x, y)
 | [], _, _, _ => rfl
 | τ :: outs, more, x, y => by
  simp only [joinRes, splitRes, splitRes_join]
  rfl

theorem io_end {Zf : Nat → Prop} (s : St B m E H a w) (hz : ∀ b, m.Z b → Zf b) {fv : Nat → Value} : ∀ {ps : List (Bool × Ty)} {t : Nat} {ids : List Nat} {x : (((ps.filter (·.1)).map (·.2)).foldr Ty.pair .unit).den} {vs : List Value},
 ioIdsOf E (iosOf t ps) = some ids → ioOut H ((ps.filter (·.1)).map (·.2)) ids = some x → (∀ i ∈ iosOf t ps, a.tmps.getD i undef = fv i) → (∀ i, i < ps.length → vs[i]? = some (fv (t + i))) →
 IoRep Zf w ps x vs (ids.flatMap m.ft) ∧ ∀ id ∈ ids, (H id).Live
 | [], t, ids, x, vs, h1, h2, _, _ => by
  cases h1
  exact ⟨rfl, by simp⟩
 | (false, τ) :: ps, t, ids, x, vs, h1, h2, h3, h4 => by
  refine io_end (ps := ps) (t := t + 1) s hz h1 h2 h3 fun i hi => ?_
  have := h4 (i + 1) (by simp; omega)
  rw [List.getElem?_tail, this]
  congr 2; omega
 | (true, τ) :: ps, t, ids, x, vs, h1, h2, h3, h4 => by
  simp only [iosOf, ioIdsOf] at h1
  split at h1
  ·rename_i id ids' he hi
   cases h1
   have h2 : ioOut H (τ :: ((ps.filter (·.1)).map (·.2))) (id :: ids') = some x := h2
   simp only [ioOut] at h2
   split at h2
   ·rename_i g ls y hx hy
    split at h2
    ·rename_i z hz'
     cases h2
     obtain ⟨g1, g2⟩ := io_end (ps := ps) (t := t + 1) (vs := vs.tail) s hz hi hy (fun i hi => h3 i (by simp [iosOf, hi])) (fun i hi => by
      have := h4 (i + 1) (by simp; omega)
      rw [List.getElem?_tail, this]
      congr 2; omega)
     have ht := s.t t
     rw [he, h3 t (by simp [iosOf])] at ht
     obtain ⟨b, e1, e2⟩ := ht.one.2 _ _ hx
     have hL : (H id).Live := by rw [hx]; trivial
     have hc := s.h.cr id
     rw [hx] at hc
     obtain ⟨b', el, cs, F', k1, k2, k3, k4⟩ := hc
     rw [k1] at e1; cases e1
     have hv0 := h4 0 (by simp)
     refine ⟨⟨b, el, cs, F', _, ?_, ?_, k3, Rep.frame (fun _ _ => rfl) hz (fun _ _ => rfl) (asmAllO hz' k4), g1⟩, fun i hi => ?_⟩
     ·rw [List.head?_eq_getElem?, hv0, Nat.add_zero, e2]
     ·rw [List.flatMap_cons, k2]
     ·rcases List.mem_cons.1 hi with rfl | hi
      ·exact hL
      ·exact g2 i hi
    ·cases h2
   ·cases h2
  ·cases h1

theorem fin_ok (hT : TabOk P tab) {fn : Func} {F : FunE} {Z : Nat → Prop} {w0 : World} {Fs : List Nat} {vs : List Value} (hB : B = { w := w0, F := Fs, Z := Z, fx := iosOf 0 F.ins, fv := fun i => vs.getD i undef }) (hlen : vs.length = F.ins.length) {r : ((F.outs ++ (F.ins.filter (·.1)).map (·.2)).foldr Ty.pair .unit).den} :
 KonOk P B N r (bodyPost P fn fun e w' => ∃ v Z' us Fr Fi, e = .returned v ∧ Post Z w0 Fs F vs r v w' Z' us Fr Fi) (finOf tab F.outs ((F.ins.filter (·.1)).map (·.2)) fn.results.toList (iosOf 0 F.ins)) := by
 subst hB
 intro x E H a w ⟨m, s, hN, hf⟩ h
 have key : finOf tab F.outs ((F.ins.filter (·.1)).map (·.2)) fn.results.toList (iosOf 0 F.ins) .normal E H = some r → a.defers = [] ∧ ∃ v, (results fn a.tmps).run P w = .ok v w ∧ ∃ v' Z' us Fr Fi, Ending.returned v = .returned v' ∧ Post Z w0 Fs F vs r v' w Z' us Fr Fi := by
  intro h
  refine ⟨s.d, ?_⟩
  simp only [finOf] at h
  split at h
  ·rename_i rs ios hrs hios
   split at h
   ·rename_i xa xb hxa hxb
    split at h
    ·rename_i hck
     cases h
     simp only [Bool.and_eq_true] at hck
     obtain ⟨c1, c2⟩ := hck
     have c1 := nodupN_iff.1 c1
     have c2 : ∀ i ∈ resRds F.outs rs, i ∉ resOwns F.outs rs ++ ios := fun i hi => by
      have := List.all_eq_true.1 c2 i hi
      exact memN_false.1 (by simpa using this)
     obtain ⟨us, u1, u2⟩ := resVals_ok hT s hrs
     let Zf : Nat → Prop := fun b => m.Z b ∨ ∃ id ∈ resRds F.outs rs, (H id).Live ∧ b ∈ m.ft id
     obtain ⟨r1, r2⟩ := resIn_ok (Zf := Zf) s.h (fun b hb => .inl hb) hxa u2 (fun id hid hl b hb => .inr ⟨id, hid, hl, hb⟩)
     obtain ⟨i1, i2⟩ := io_end (Zf := Zf) (fv := fun i => vs.getD i undef) (ps := F.ins) (t := 0) (vs := vs) s (fun b hb => .inl hb) hios hxb (fun i hi => hf i hi) (fun i hi => by
      rw [Nat.zero_add, List.getD_eq_getElem?_getD, List.getElem?_eq_getElem (by omega)]; rfl)
     have hlive : ∀ id ∈ ios ++ resOwns F.outs rs, (H id).Live := fun id hid => (List.mem_append.1 hid).elim (i2 id) (r2 id)
     have hnd : (ios ++ resOwns F.outs rs).Nodup := by
      rw [List.nodup_append] at c1 ⊢
      exact ⟨c1.2.1, c1.1, fun x hx y hy e => c1.2.2 y hy x hx e.symm⟩
     refine ⟨_, results_run u1, _, Zf, us, (resOwns F.outs rs).flatMap m.ft, ios.flatMap m.ft, rfl, s.h.kp, fun b hb => .inl (s.h.zs b hb), fun b hb => ?_, fun b hb hlt => ?_, ?_, rfl, ?_, ?_, fun b hb => ?_⟩
     ·exact hb.elim (s.h.zl b) fun ⟨i, _, h2, h3⟩ => (s.h.nz i h2 b h3).2.1
     ·exact hb.elim (fun hb => s.h.zi b hb hlt) fun ⟨i, _, h2, h3⟩ => .inr ((s.h.nz i h2 b h3).2.2 hlt)
     ·rw [splitRes_join]; exact r1
     ·rw [splitRes_join]; exact i1
     ·rw [← List.flatMap_append]; exact ft_nodup s.h hnd hlive
     ·rw [← List.flatMap_append] at hb
      obtain ⟨i, h1, h2, h3⟩ := ft_blk hb hlive
      obtain ⟨n1, n2, n3⟩ := s.h.nz i h2 b h3
      refine ⟨fun hz => hz.elim n1 fun ⟨j, j1, j2, j3⟩ => ?_, n2, n3⟩
      have hij : i ≠ j := fun e => c2 j j1 (by rw [← e]; rw [List.mem_append] at h1 ⊢; exact h1.symm)
      exact s.h.sp i j hij h2 j2 b h3 j3
    ·cases h
   ·cases h
  ·cases h
 cases x with
 | normal => exact key h
 | ret => exact key h
 | _ => cases h

theorem ArgsRep.len {Z : Nat → Prop} {w : World} : ∀ {ps : List (Bool × Ty)} {x : (ps.foldr (fun p t => Ty.pair p.2 t) .unit).den} {vs : List Value} {F : List Nat}, ArgsRep Z w ps x vs F → vs.length = ps.length
 | [], _, _, _, h => by rw [h.1]; rfl
 | _ :: _, _, _, _, ⟨v, vs', F1, F2, h1, h2, h3, h4⟩ => by rw [h1, List.length_cons, h4.len]; rfl

def fnOkB (fn : Func) (ins : List (Bool × Ty)) : Bool :=
 codeOkB fn.ntmps (iosOf 0 ins) (bodyOf fn) && fn.body.isSome && Nat.ble ins.length fn.ntmps && ins.all fun p => p.1 || p.2.pure || p.2.vecP
theorem fnE_ok (hm : P.follows .mixedOrders = true) (hT : TabOk P tab) {f : FuncId} {fn : Func} (hf : P.funcs[f]? = some fn) {T : Nat → Nat → Option FunE} {ann : Nat → Option (List Keep)} {ins : List (Bool × Ty)} {outs : List Ty} {n : Nat} (hW : ∀ k, k ≤ n → WaysOk P tab (T k)) (hk : fnOkB fn ins = true) : FunOk P f (fnE tab T ann fn ins outs n) := by
 intro Z w xs vs Fs r hZ hA hn hFs hr
 simp only [fnOkB, Bool.and_eq_true] at hk
 obtain ⟨⟨⟨k1, k2⟩, k3⟩, k4⟩ := hk
 have k3 := Nat.le_of_ble_eq_true k3
 obtain ⟨c, hc⟩ := Option.isSome_iff_exists.1 k2
 have hbody : bodyOf fn = c := by unfold bodyOf; rw [hc]; rfl
 have hlen : vs.length = ins.length := hA.len
 let B : Base := { w := w, F := Fs, Z := Z, fx := iosOf 0 ins, fv := fun i => vs.getD i undef }
 have h0 : ∀ m : Md, m.Z = Z → HOk B m (fun _ => .absent) w := fun m hmz => ⟨fun b hb => hZ b (by rw [← hmz]; exact hb), fun b hb => (by rw [hmz]; exact hb), fun b hb _ => .inl (by rw [hmz] at hb; exact hb), fun _ => trivial, fun _ h => h.elim, fun _ _ _ h => h.elim, fun _ h => h.elim, Kept.refl _ _⟩
 have htm : ∀ k, ((vs.toArray ++ Array.replicate (fn.ntmps - vs.toArray.size) undef).getD k undef) = vs.getD k undef := fun k => by
  rw [Array.getD_eq_getD_getElem?, List.getD_eq_getElem?_getD, Array.getElem?_append]
  simp only [List.size_toArray]
  by_cases hk : k < vs.length
  ·rw [if_pos hk]; simp
  ·rw [if_neg hk, List.getElem?_eq_none (by omega)]
   simp only [Array.getElem?_replicate]
   split <;> rfl
 obtain ⟨m, K⟩ := pars_ok (B := B) (Z := Z) (w := w) h0 (vals := fun k => vs.getD k undef) (t := 0) hA hn (fun b hb => ⟨(hFs b hb).1, (hFs b hb).2, fun _ => hb⟩) k4 (fun i v hi => by simp [List.getD_eq_getElem?_getD, hi])
 refine calls_of_wp hf hc ?_
 have s : SE B fn.ntmps (ofL .junk (pars 0 ins xs).1) (ofL .absent (pars 0 ins xs).2) { tmps := vs.toArray ++ Array.replicate (fn.ntmps - vs.toArray.size) undef, defers := [] } w := by
  refine ⟨m, ⟨K.h, fun t => ?_, rfl⟩, ?_, fun i _ => htm i⟩
  ·rw [htm]; exact K.t t
  ·simp only [Array.size_append, List.size_toArray, Array.size_replicate]; omega
 have hfin := fin_ok (P := P) (B := B) (N := fn.ntmps) hT (fn := fn) (F := fnE tab T ann fn ins outs n) (Z := Z) (w0 := w) (Fs := Fs) (vs := vs) rfl hlen (r := r)
 have hL := runN_ok (P := P) (B := B) (N := fn.ntmps) (r := r) hm (T := T) (ann := ann) hfin n (fun k hk => hW k (by omega))
 have hcl := clos_ok (ann := ann) hm (hW n (Nat.le_refl _)) hL hfin [] rfl
 have := runS_ok hm (hW n (Nat.le_refl _)) hL (bodyOf fn) [] _ _ _ _ _ k1 rfl hcl s hr
 rw [hbody] at this
 exact this
theorem FunOk.spec {f : FuncId} {F : Nat → FunE} {ins : List (Bool × Ty)} {outs : List Ty} {g : (ins.foldr (fun p t => Ty.pair p.2 t) .unit).den → Option ((outs ++ (ins.filter (·.1)).map (·.2)).foldr Ty.pair .unit).den} (hF : ∀ n, FunOk P f (F n)) (hi : ∀ n, (F n).ins = ins) (ho : ∀ n, (F n).outs = outs) : True := trivial
end
end Go.Proofs.Ytodnfnnfjnnhmaa.A

-- YtodnfnnfjnnhmaaFn5
set_option linter.unusedVariables false
set_option linter.unusedSimpArgs false
namespace Go.Proofs.Ytodnfnnfjnnhmaa.A
open Go
def RowOk (P : Program) (f : FuncId) (e : Ty) (g : List e.den → Option (List e.den)) : Prop := ∀ (Z : Nat → Prop) (w : World) (xs ys : List e.den) (v : Value) (F : List Nat),
 (∀ b, Z b → b < w.heap.size) → Rep Z w (.vec e) xs [v] F → F.Nodup → (∀ b ∈ F, ¬ Z b ∧ b < w.heap.size) → g xs = some ys →
 Calls P f #[v] w fun ex w' => ex = .returned (.tuple #[]) ∧ Kept F w w' ∧ ys.length = xs.length ∧ Rep Z w' (.vec e) ys [v] F
structure FunC (P : Program) (f : FuncId) (F : FunE) : Prop where
 ok' : F.row = none → FunOk P f F
 ro : ∀ e g, F.row = some ⟨e, g⟩ → RowOk P f e g
 en : ∃ fn, P.funcs[f]? = some fn ∧ (fn.name == "runtime.NumGoroutine") = false ∧ fn.body.isNone = false
def TOk (P : Program) (T : Nat → Option FunE) : Prop := ∀ f F, T f = some F → FunC P f F
section
variable {P : Program} {B : Base} {m m' m0 : Md} {H H' : Hp} {w w' : World} {o : Oper} {a : Act} {E : Env} {tab : Nat → Option TI} {T : Nat → Option FunE} {N : Nat}

theorem wCallRow_ok {e : Ty} {g : List e.den → Option (List e.den)} {f : FuncId} (hF : RowOk P f e g) (hh : HOk B m H w) {as_ : List AV} {vs : List Value} (hv : All2 (AVRep m w H) as_ vs) (ex : (execOp a.eval o).run P w = .ok (.enter f vs.toArray) w) : WayOk P B m H w o a (wCallRow e g as_) := by
 unfold wCallRow
 split
 ·rename_i id
  match vs, hv with
  | [v], hv =>
   intro Q hQ
   simp only at hQ
   split at hQ
   ·rename_i e' xs hx
    split at hQ
    ·rename_i xs' hc
     obtain ⟨he, hxs⟩ := castTo_eq hc
     cases he
     have hxs : xs = xs' := hxs
     subst hxs
     obtain ⟨ys, hy, hQ⟩ := hQ
     have hQ : Q _ := hQ
     have hx := live_of_only hx
     have hL : (H id).Live := by rw [hx]; trivial
     have hcr := hh.cr id
     rw [hx] at hcr
     have hvd := hv.1.one.2.1 _ _ hx
     subst hvd
     refine ⟨_, _, hQ, ?_⟩
     unfold OpOk
     rw [ex]
     refine (hF m.Z w xs ys _ _ hh.zl hcr (hh.nd id hL) (fun b hb => ⟨(hh.nz id hL b hb).1, (hh.nz id hL b hb).2.1⟩) hy).mono fun e' w' ⟨h1, h2, h3, h4⟩ => ⟨_, h1, ?_⟩
     have hput := putH_cons H id (.live (.row e ys)) [] (by simp)
     have ch : Change B m H w (id :: []) (m.set id (m.hd id) (m.ft id)) (putH H ((id, .live (.row e ys)) :: deads [])) w' :=
      Change.one (w' := w') (ob := .row e ys) hh (by simp) (by simp) h2.os h2.tape h2.output h2.size (fun b hb hnB => h2.block b hb fun hbF => hnB ⟨id, by simp, hL, hbF⟩) h4 (fun z hz => ⟨(hh.nz id hL z hz).1, .inl ⟨id, by simp, hL, hz⟩⟩) (hh.nd id hL) (fun _ => EvoAt.row_ hx hput h3.symm (by simp only [Md.set]; rw [upd_same]))
     exact ⟨_, hh.change ch, hh.evo ch, ⟨[], rfl, trivial⟩⟩
    ·exact hQ.elim
   ·exact hQ.elim
 ·exact WayOk.fail

theorem enter_exec {c : Call} (ho : o.op = .call c) {x : Operand} (hc : c.callee = .value x) {f : FuncId} (hx : a.eval x = .func (.func f) #[] #[]) (hen : ∃ fn, P.funcs[f]? = some fn ∧ (fn.name == "runtime.NumGoroutine") = false ∧ fn.body.isNone = false) :
 (execOp a.eval o).run P w = .ok (.enter f (c.args.map a.eval)) w := by
 obtain ⟨fn, h1, h2, h3⟩ := hen
 simp only [execOp, ho, resolve, hc, hx]
 have h2 : ¬ fn.name = "runtime.NumGoroutine" := by simpa using h2
 have h3 : ¬ fn.body = none := fun hh => by rw [hh] at h3; cases h3
 simp [Deferred.ofValue, invoke, callFunc, h1, h2, h3]
theorem all2_args (s : St B m E H a w) : ∀ {xs : List Operand}, (∀ x ∈ xs, opndOkB x = true) → All2 (AVRep m w H) (xs.map (evalO E)) (xs.map a.eval)
 | [], _ => trivial
 | x :: xs, h => ⟨evalO_ok s (h x (by simp)), all2_args s fun y hy => h y (by simp [hy])⟩
theorem wCall_ok (hT : TabOk P tab) (hC : TOk P T) (s : St B m E H a w) {c : Call} (ho : o.op = .call c) (hx : ∀ x ∈ c.operands, opndOkB x = true) :
 WayOk P B m H w o a (wCall tab T o.dst c (c.args.toList.map (evalO E)) (match c.callee with | .value f => some (evalO E f) | _ => none)) := by
 have hargs := all2_args s (xs := c.args.toList) fun x h => hx x (by simp [Call.operands]; exact .inr (by simpa using h))
 have hmap : (c.args.map a.eval).toList = c.args.toList.map a.eval := by simp
 have hmap' : c.args.map a.eval = (c.args.toList.map a.eval).toArray := by rw [← hmap]
 unfold wCall
 cases hc : c.callee with
 | invoke r n => exact WayOk.fail
 | value x =>
  simp only
  split
  ·rename_i f u he
   split
   ·rename_i F hF
    have hfc := hC f F (by simpa using hF)
    simp only [Option.some.injEq] at he
    have hev := evalO_ok s (hx x (by simp [Call.operands, hc]))
    rw [he] at hev
    have hfv : a.eval x = .func (.func f) #[] #[] := by
     have := hev.one
     obtain ⟨h1, _⟩ := (this : [a.eval x] = [.func (.func f) #[] #[]] ∧ _)
     simpa using h1
    split
    ·rename_i q hq
     exact wCallRow_ok (hfc.ro _ _ hq) s.h hargs (by rw [enter_exec ho hc hfv hfc.en, hmap'])
    ·rename_i hq
     exact wCallM_ok (hfc.ok' hq) s.h hargs (by rw [enter_exec ho hc hfv hfc.en, hmap'])
   ·exact WayOk.fail
  ·exact WayOk.fail
 | builtin b =>
  cases b <;> simp only <;> try exact WayOk.fail
  case len =>
   split
   ·rename_i x hxs hsz
    have hsz := Nat.eq_of_beq_eq_true hsz
    match hc1 : c.args.toList, hxs, hargs with
    | [y], hxs, hargs =>
     simp only [List.map_cons, List.map_nil, List.cons.injEq, and_true] at hxs
     subst hxs
     rw [hc1] at hmap'
     have h1 := hargs.1
     refine wLen_ok hT s.h h1 fun n hn => exec_call_builtin ho hc ?_
     have hts : c.argTypes = #[c.argTypes.getD 0 0] := by
      apply Array.ext
      ·simpa using hsz
      ·intro i h1 h2
       have : i = 0 := by omega
       subst this
       simp [Array.getD, h1]
     generalize c.argTypes.getD 0 0 = t at hts hn
     rw [hts]
     simp only [builtin, hmap', List.map_cons, List.map_nil]
     rw [show ([a.eval y] : List Value).toArray = #[a.eval y] from rfl]
     simp only [Sem.run_bind, hn, Result.andThen_ok, Sem.run_pure]
   ·exact WayOk.fail
  case append =>
   split
   ·rename_i x y hxs
    match hc1 : c.args.toList, hxs, hargs with
    | [x1, y1], hxs, hargs =>
     simp only [List.map_cons, List.map_nil, List.cons.injEq, and_true] at hxs
     obtain ⟨rfl, rfl⟩ := hxs
     rw [hc1] at hmap'
     refine wAppend_ok hT s.h hargs.1 hargs.2.1 fun v w' hv => ?_
     simp only [execOp, ho, resolve, hc]
     simp only [Sem.run_bind, Sem.run_pure, Result.andThen_ok, invoke, builtin, hmap', List.map_cons, List.map_nil]
     rw [show ([a.eval x1, a.eval y1] : List Value).toArray = #[a.eval x1, a.eval y1] from rfl, hv]
     rfl
   ·exact WayOk.fail
  case max =>
   refine wMinMax_ok s.h hargs (fun x y => by unfold mxI; split <;> simp) max2_run fun x rest u hl hu => exec_call_builtin ho hc ?_
   simp only [builtin, Builtin.max_, hmap, hl, Sem.run_bind, hu, Result.andThen_ok, Sem.run_pure]
  case min =>
   refine wMinMax_ok s.h hargs (fun x y => by unfold mnI; split <;> simp) min2_run fun x rest u hl hu => exec_call_builtin ho hc ?_
   simp only [builtin, Builtin.min_, hmap, hl, Sem.run_bind, hu, Result.andThen_ok, Sem.run_pure]

theorem wayD_ok (hT : TabOk P tab) (B : Base) (m : Md) (H : Hp) (w : World) (a : Act) (E : Env) (o : Oper) (t : DT (AV × List (Nat × Cell))) (hx : o.op.operands.toList.all opndOkB = true) (s : St B m E H a w) (h : wayD tab E H o = some t) : WayDOk P B m H w o a t := by
 have hx : ∀ x ∈ o.op.operands, opndOkB x = true := fun x h => List.all_eq_true.1 hx x (by simpa using h)
 unfold wayD at h
 split at h
 ·cases h
 ·split at h
  ·rename_i ho
   exact nilWay_ok hT s.h (.inl ⟨rfl, ho⟩) (evalO_ok s (hx _ (by rw [ho]; simp [Op.operands]))) h
  ·rename_i ho
   exact nilWay_ok hT s.h (.inr ⟨rfl, ho⟩) (evalO_ok s (hx _ (by rw [ho]; simp [Op.operands]))) h
  ·rename_i ho
   exact nextWay_ok s.h ho (evalO_ok s (hx _ (by rw [ho]; simp [Op.operands]))) h
  ·cases h
theorem way_ok (hT : TabOk P tab) (hC : TOk P T) : WaysOk P tab T := by
 refine ⟨fun B m H w a E o hx s => ?_, wayD_ok hT⟩
 have hx : ∀ x ∈ o.op.operands, opndOkB x = true := fun x h => List.all_eq_true.1 hx x (by simpa using h)
 unfold way
 cases ho : o.op <;> (try simp only [ho, Op.operands] at hx) <;> (try simp only) <;> try exact WayOk.fail
 case move x => exact WayOk.val s.h (by simp only [execOp, ho, Sem.run_pure]) (evalO_ok s (hx x (by simp)))
 case assign x => exact WayOk.val s.h (by simp only [execOp, ho, Sem.run_pure]) (evalO_ok s (hx x (by simp)))
 case pick c x y => exact wPick_ok s.h ho (evalO_ok s (hx c (by simp))) (evalO_ok s (hx x (by simp))) (evalO_ok s (hx y (by simp)))
 case nilCheck x => exact wNilCheckB_ok s.h ho (evalO_ok s (hx x (by simp)))
 case alloc t =>
  split
  ·rename_i i hi
   obtain ⟨inf, z, k1, k2, k3, k4, k5, k6⟩ := (hT t i hi).info
   refine wBox_ok (t := t) (v := .agg z.cells) s.h ⟨z.cells.toList, by simp [IsV], k6.mono fun _ _ h => h.l⟩ fun cs ⟨g, ls, h1, h2⟩ h3 => ?_
   cases h1
   have : z.cells = cs.toArray := by simpa [IsV] using h2
   rw [← this]
   exact alloc_exec ho k1 k4
  ·exact WayOk.fail
 case box t x =>
  refine wBox_ok (t := t) s.h (evalO_ok s (hx x (by simp))) fun cs ⟨g, ls, h1, h2⟩ h3 => box_exec ho (isV_cells h2 h3)
 case build t ps => exact wBuild_ok hT s.h ho (all2_parts s fun p hp => hx p.2 (by simp; exact ⟨p.1, by simpa using hp⟩))
 case buildSlice t n ps => exact wBuildSliceF_ok hT s.h ho (all2_parts s fun p hp => hx p.2 (by simp; exact ⟨p.1, by simpa using hp⟩))
 case load t x => exact wLoadB_ok hT s.h ho (evalO_ok s (hx x (by simp)))
 case store t x y => exact wStore_ok hT s.h ho (evalO_ok s (hx x (by simp))) (evalO_ok s (hx y (by simp)))
 case binOp op t x y yt => exact wBinB_ok hT s.h ho (evalO_ok s (hx x (by simp))) (evalO_ok s (hx y (by simp)))
 case unOp op t x => exact wUn_ok s.h ho (evalO_ok s (hx x (by simp)))
 case convert t d x => exact wConvertB_ok hT s.h ho (evalO_ok s (hx x (by simp)))
 case makeSlice t x y => exact wMakeSlice_ok hT s.h ho (evalO_ok s (hx x (by simp))) (evalO_ok s (hx y (by simp)))
 case slice t x lo hi mx =>
  cases mx with
  | some _ => exact WayOk.fail
  | none => exact wSlice_ok hT s.h ho (evalO_ok s (hx x (by simp))) (optRep_map s fun y hy => hx y (by simp [hy])) (optRep_map s fun y hy => hx y (by simp [hy]))
 case fieldAddr t x f => exact wFieldAddrB_ok hT s.h ho (evalO_ok s (hx x (by simp)))
 case field t x f => exact wField_ok hT s.h ho (evalO_ok s (hx x (by simp)))
 case indexAddr t x i => exact wIndexAddr_ok hT s.h ho (evalO_ok s (hx x (by simp))) (evalO_ok s (hx i (by simp)))
 case index t x i => exact wIndex_ok hT s.h ho (evalO_ok s (hx x (by simp))) (evalO_ok s (hx i (by simp)))
 case extract x n => exact wExtract_ok s.h ho (evalO_ok s (hx x (by simp)))
 case call c => exact wCall_ok hT hC s ho hx
 case makeMap t r =>
  cases r with
  | some _ => exact WayOk.fail
  | none => exact wMakeMapB_ok hT s.h ho
 case insert t x k y => exact wMapUpdateB_ok hT s.h (.inr ho) (evalO_ok s (hx x (by simp))) (evalO_ok s (hx k (by simp))) (evalO_ok s (hx y (by simp)))
 case mapUpdate t x k y => exact wMapUpdateB_ok hT s.h (.inl ho) (evalO_ok s (hx x (by simp))) (evalO_ok s (hx k (by simp))) (evalO_ok s (hx y (by simp)))
 case range t x => exact wRange_ok hT s.h ho (evalO_ok s (hx x (by simp)))
 case entry x => exact wEntry_ok s.h ho (evalO_ok s (hx x (by simp)))
 case lookup t x k ok => exact wLookupB_ok hT s.h ho (evalO_ok s (hx x (by simp))) (evalO_ok s (hx k (by simp)))
end
end Go.Proofs.Ytodnfnnfjnnhmaa.A

-- YtodnfnnfjnnhmaaOpn
set_option linter.unusedVariables false
set_option linter.unusedSimpArgs false
namespace Go.Proofs.Ytodnfnnfjnnhmaa.A
open Go

def Ty.low : Ty → Nat
 | .bool => 1
 | .int k => k.bits / 8
 | .str => 16
 | .sl _ => 24
 | .pair a b => a.low + b.low
 | _ => 0
def okT : (τ : Ty) → τ.den → Prop
 | .int k, n => k.min ≤ n ∧ n ≤ k.max
 | .str, s => s.length ≤ 140737488351232
 | .sl e, xs => xs.length ≤ 140737488351232 ∧ xs.length * e.low ≤ 140737488351232 ∧ ∀ x ∈ xs, okT e x
 | .pair a b, x => okT a x.1 ∧ okT b x.2
 | _, _ => True
def fitB (P : Program) : Nat → Ty → Nat ⊕ (List Go.Field × Nat) → Bool
 | 0, _, _ => false
 | n + 1, τ, .inl t => (match P.underlying t, τ with
  | some .bool, .bool => true
  | some (.int k'), .int k => decide (k' = k)
  | some .string, .str => true
  | some (.slice et), .sl e => fitB P n e (.inl et) && Nat.beq (P.cellsOf et) e.cells && Nat.ble 1 e.cells && Nat.ble e.low (P.bytesOf et) && Nat.ble 1 (P.bytesOf et)
  | some (.struct fs), τ => Nat.beq (P.cellsOf t) τ.cells && fitB P n τ (.inr (fs.toList, 0))
  | _, _ => false)
 | n + 1, τ, .inr ([f], off) => Nat.beq f.offset off && fitB P n τ (.inl f.type) && Nat.beq (P.cellsOf f.type) τ.cells
 | n + 1, .pair a b, .inr (f :: g :: fs, off) => Nat.beq f.offset off && fitB P n a (.inl f.type) && Nat.beq (P.cellsOf f.type) a.cells && fitB P n b (.inr (g :: fs, off + a.cells))
 | _, _, _ => false

section
variable {P : Program} {w : World} {Z : Nat → Prop}
theorem list_of {α : Type} (p : Nat → α → Prop) : ∀ n : Nat, (∀ i, i < n → ∃ y, p i y) → ∃ l : List α, l.length = n ∧ ∀ i y, l[i]? = some y → p i y := by
 intro n
 induction n with
 | zero => intro _; exact ⟨[], rfl, fun i y h => by simp at h⟩
 | succ n ih =>
  intro h
  obtain ⟨l, hl, hp⟩ := ih (fun i hi => h i (by omega))
  obtain ⟨y, hy⟩ := h n (by omega)
  refine ⟨l ++ [y], by simp [hl], fun i z hz => ?_⟩
  by_cases hi : i < l.length
  ·exact hp i z (by rwa [List.getElem?_append_left hi] at hz)
  ·rw [List.getElem?_append_right (by omega)] at hz
   have hi2 : i - l.length < 1 := by
    rcases Nat.lt_or_ge (i - l.length) 1 with h | h
    ·exact h
    ·rw [List.getElem?_eq_none (by simpa using h)] at hz
     cases hz
   have e : i = n := by omega
   subst e
   rw [hl] at hz
   simp at hz
   subst hz
   exact hy
theorem weightsAll_mem {H : Type} {P : Program} {e : TypeId} {d : DataW H} : ∀ {l : List (DataW H)}, d ∈ l → ∀ n ∈ d.weights P e, n ∈ DataW.weightsAll P e l := by
 intro l
 induction l with
 | nil => intro h; cases h
 | cons a l ih =>
  intro h n hn
  rw [DataW.weightsAll, List.mem_append]
  rcases List.mem_cons.1 h with rfl | h
  ·exact .inl hn
  ·exact .inr (ih h n hn)
theorem int_wf {k : IntKind} {n : Int} (h : (Lit.int k n).wf = true) : k.min ≤ n ∧ n ≤ k.max := by
 simpa [Lit.wf] using h
theorem repL_of {e : Ty} {b o : Nat} : ∀ (l : List e.den) (k : Nat), (∀ (i : Nat) (y : e.den), l[i]? = some y → ∃ c, Rep Z w e y c [] ∧ ∀ (j : Nat) (u : Value), c[j]? = some u → w.cell? ⟨b, o + ((k + i) * e.cells + j), none⟩ = some u) →
 ∃ c, RepL (fun x c F => Rep Z w e x c F) l c [] ∧ ∀ (j : Nat) (u : Value), c[j]? = some u → w.cell? ⟨b, o + (k * e.cells + j), none⟩ = some u
 | [], k, _ => ⟨[], ⟨rfl, rfl⟩, by simp⟩
 | y :: l, k, h => by
  obtain ⟨c, h1, h2⟩ := h 0 y rfl
  obtain ⟨cs, g1, g2⟩ := repL_of l (k + 1) fun i z hz => by
   have := h (i + 1) z (by simpa using hz)
   rwa [show k + (i + 1) = k + 1 + i by omega] at this
  refine ⟨c ++ cs, ⟨c, cs, [], [], rfl, rfl, h1, g1⟩, fun j u hu => ?_⟩
  have hl := h1.len
  rw [List.getElem?_append] at hu
  split at hu
  ·exact h2 j u hu
  ·rename_i hj
   have := g2 _ u hu
   rwa [show o + ((k + 1) * e.cells + (j - c.length)) = o + (k * e.cells + j) by rw [Nat.succ_mul]; omega] at this

theorem fit_ok (hZ : ∀ b, b < w.heap.size → Z b) {H : Type} {enc : TypeId × Value → H} : ∀ (n : Nat) (τ : Ty) (q : Nat ⊕ (List Go.Field × Nat)), fitB P n τ q = true → match q with
 | .inl t => ∀ {fuel : Nat} {cs : List Value} {x : DataW H × List MemPlace}, DataW.trod enc P w 0 (fun _ => true) true fuel t cs = some x → (∀ n ∈ x.1.weights P t, n ≤ reachBytes) → ∃ y, Rep Z w τ y cs [] ∧ okT τ y
 | .inr (fs, off) => ∀ {fuel : Nat} {cs : List Value} {xs : List (DataW H × List MemPlace)}, xs.length = fs.length → cs.length = off + τ.cells →
  (∀ (i : Nat) (f : Go.Field), fs[i]? = some f → DataW.trod enc P w 0 (fun _ => true) true fuel f.type ((cs.drop f.offset).take (P.cellsOf f.type)) = xs[i]?) →
  (∀ m ∈ DataW.weightsEach P (fs.map (·.type)) (xs.map (·.1)), m ≤ reachBytes) → ∃ y, Rep Z w τ y (cs.drop off) [] ∧ okT τ y := by
 intro n
 induction n with
 | zero => intro τ q h; cases h
 | succ n ih =>
  intro τ q h
  cases q with
  | inl t =>
   intro fuel cs x hx hw
   simp only [fitB] at h
   split at h
   ·rename_i hu
    obtain ⟨b, rfl, _⟩ := DataW.trod_bool hu hx
    exact ⟨b, ⟨rfl, rfl⟩, trivial⟩
   ·rename_i k' k hu
    have hk : k' = k := by simpa using h
    subst hk
    obtain ⟨m, rfl, _, hm⟩ := DataW.trod_int hu hx
    exact ⟨m, ⟨rfl, rfl, int_wf hm⟩, int_wf hm⟩
   ·rename_i hu
    obtain ⟨s, rfl, rfl, hs⟩ := DataW.trod_string hu hx
    have := hw s.data.toList.length (by simp [DataW.weights])
    have hl : s.data.toList.length ≤ 140737488351232 := by simpa [reachBytes] using this
    exact ⟨s.data.toList, ⟨rfl, rfl, by unfold big; omega⟩, hl⟩
   ·rename_i et e hu
    simp only [Bool.and_eq_true] at h
    obtain ⟨⟨⟨⟨h1, h2⟩, h3⟩, h4⟩, h5⟩ := h
    have h2 := Nat.eq_of_beq_eq_true h2
    have h3 := Nat.le_of_ble_eq_true h3
    have h4 := Nat.le_of_ble_eq_true h4
    have h5 := Nat.le_of_ble_eq_true h5
    rcases DataW.trod_slice hu hx with ⟨rfl, rfl⟩ | ⟨a, len, cap, elems, rest, m, _, rfl, rfl, hb, hl, hm, hlen, hel, hsp, _⟩
    ·exact ⟨[], ⟨rfl, by simp, none, 0, rfl, by simp, .inl rfl⟩, by simp, by simp, by simp⟩
    ·have each : ∀ i, i < len → ∃ y, (∃ c, Rep Z w e y c [] ∧ ∀ (j : Nat) (u : Value), c[j]? = some u → w.cell? (a.add (i * e.cells + j)) = some u) ∧ okT e y := by
      intro i hi
      have h1' := hel i hi
      have hi2 : i < elems.length := by omega
      rw [List.getElem?_eq_getElem hi2, Option.bind_eq_some_iff] at h1'
      obtain ⟨c, hcs, hc2⟩ := h1'
      obtain ⟨_, hcl, hcc⟩ := World.cells?_some hcs
      obtain ⟨y, hy, ho⟩ := ih e (.inl et) h1 hc2 (fun m hm => hw m (by
       rw [DataW.weights]
       simp only [hu, List.mem_cons, List.mem_append]
       exact .inr (.inl (weightsAll_mem (List.mem_map_of_mem (f := Prod.fst) (List.getElem_mem hi2)) m hm))))
      refine ⟨y, ⟨c, hy, fun j u hu' => ?_⟩, ho⟩
      have hj : j < P.cellsOf et := by
       rcases Nat.lt_or_ge j c.length with h | h
       ·omega
       ·rw [List.getElem?_eq_none h] at hu'
        cases hu'
      have := hcc j hj
      rw [hu', Go.Addr.add_add, h2] at this
      exact this
     obtain ⟨l, hll, hp⟩ := list_of _ len each
     have hlb : len * P.bytesOf et ≤ 140737488351232 := by
      have h1 : ((elems.map (·.1)).length + (rest.map (·.1)).length) * P.bytesOf et ≤ reachBytes := hw _ (by
       rw [DataW.weights]
       simp only [hu]
       exact List.mem_cons_self)
      have h2 : len * P.bytesOf et ≤ ((elems.map (·.1)).length + (rest.map (·.1)).length) * P.bytesOf et := Nat.mul_le_mul_right _ (by simp; omega)
      simpa [reachBytes] using Nat.le_trans h2 h1
     have hl1 : len ≤ 140737488351232 := Nat.le_trans (by simpa using Nat.mul_le_mul_left len h5) hlb
     have hl2 : len * e.low ≤ 140737488351232 := Nat.le_trans (Nat.mul_le_mul_left len h4) hlb
     refine ⟨l, ⟨rfl, by unfold big; omega, some a, cap, by rw [hll], by omega, ?_⟩, by omega, by rw [hll]; exact hl2, fun x hx => ?_⟩
     ·by_cases hl0 : l = []
      ·exact .inl hl0
      ·right
       have h0 : 0 < l.length := List.length_pos_iff.2 hl0
       -- the first cell
       obtain ⟨⟨c, hc1, hc2⟩, _⟩ := hp 0 _ (List.getElem?_eq_getElem h0)
       have hc0 : 0 < c.length := by rw [hc1.len]; omega
       have hcell := hc2 0 _ (List.getElem?_eq_getElem hc0)
       rw [show a.add (0 * e.cells + 0) = a by simp [Go.Addr.add]] at hcell
       have hadd : a.spot = none ∧ a.block < w.heap.size := by
        obtain ⟨bb, oo, ss⟩ := a
        simp only [World.cell?] at hcell
        cases ss with
        | none =>
         refine ⟨rfl, ?_⟩
         cases hh : w.heap[bb]? with
         | none => rw [hh] at hcell; cases hcell
         | some ob => exact (Array.getElem?_eq_some_iff.1 hh).1
        | some s =>
         split at hcell
         ·simp at hcell
         ·cases hcell
       obtain ⟨bb, oo, ss⟩ := a
       obtain ⟨hs, hbb⟩ := hadd
       simp only at hs hbb
       subst hs
       obtain ⟨cc, g1, g2⟩ := repL_of (Z := Z) (w := w) (b := bb) (o := oo) l 0 fun i y hy => by
        obtain ⟨⟨c, k1, k2⟩, _⟩ := hp i y hy
        exact ⟨c, k1, fun j u hu => by have := k2 j u hu; rw [aad] at this; rwa [Nat.zero_add]⟩
       exact ⟨bb, oo, cc, rfl, hZ bb hbb, g1, fun j u hu => by have := g2 j u hu; rwa [Nat.zero_mul, Nat.zero_add] at this⟩
     ·obtain ⟨i, hi⟩ := List.getElem?_of_mem hx
      exact (hp i x hi).2
   ·rename_i fs hu
    simp only [Bool.and_eq_true] at h
    have hc := Nat.eq_of_beq_eq_true h.1
    obtain ⟨xs, m, _, rfl, hcl, hxl, hf⟩ := DataW.trod_struct hu hx
    have := ih _ (.inr (fs.toList, 0)) h.2 (fuel := m) (cs := cs) (xs := xs) (by simpa using hxl) (by rw [hcl, hc]; simp) (fun i f hi => hf i f (by simpa using hi)) (fun m hm => hw m (by
     rw [DataW.weights]
     simp only [hu]
     exact hm))
    simpa using this
   ·cases h
  | inr p =>
   obtain ⟨fs, off⟩ := p
   intro fuel cs xs hxs hcs hf hw
   match fs, hxs, hf, hw, h with
   | [], _, _, _, h => simp [fitB] at h
   | [f], hxs, hf, hw, h =>
    simp only [fitB, Bool.and_eq_true] at h
    obtain ⟨⟨h1, h2⟩, h3⟩ := h
    have h1 := Nat.eq_of_beq_eq_true h1
    have h3 := Nat.eq_of_beq_eq_true h3
    obtain ⟨x, rfl⟩ : ∃ x, xs = [x] := by
     match xs, hxs with
     | [x], _ => exact ⟨x, rfl⟩
    have hx := hf 0 f rfl
    rw [h1, List.take_of_length_le (by simp; omega)] at hx
    exact ih τ (.inl f.type) h2 hx (fun m hm => hw m (by simpa [DataW.weightsEach] using hm))
   | f :: g :: fs, hxs, hf, hw, h =>
    cases τ <;> try (simp [fitB] at h; done)
    rename_i a b _
    simp only [fitB, Bool.and_eq_true] at h
    obtain ⟨⟨⟨h1, h2⟩, h3⟩, h4⟩ := h
    have h1 := Nat.eq_of_beq_eq_true h1
    have h3 := Nat.eq_of_beq_eq_true h3
    match xs, hxs with
    | x :: xs, hxs =>
     have hx := hf 0 f rfl
     rw [h1] at hx
     obtain ⟨y, hy, hoy⟩ := ih a (.inl f.type) h2 (x := x) hx (fun m hm => hw m (by simp [DataW.weightsEach]; exact .inl hm))
     obtain ⟨z, hz, hoz⟩ := ih b (.inr (g :: fs, off + a.cells)) h4 (fuel := fuel) (cs := cs) (xs := xs) (by simpa using hxs) (by rw [hcs]; simp only [Ty.cells]; omega) (fun i f' hi => by have := hf (i + 1) f' (by simpa using hi); simpa using this) (fun m hm => hw m (by
      simp only [List.map_cons, DataW.weightsEach, List.mem_append]
      simp only [List.map_cons, DataW.weightsEach, List.mem_append] at hm
      exact .inr hm))
     refine ⟨(y, z), ⟨_, _, [], [], ?_, rfl, hy, hz⟩, hoy, hoz⟩
     rw [h3, ← List.drop_drop, List.take_append_drop]
theorem weights_of {H : Type} {P : Program} {t : TypeId} {x : DataW H} : ∀ {ts : List TypeId} {ds : List (DataW H)} {j : Nat}, (DataW.weightsEach P ts ds).all (· ≤ reachBytes) = true → ts[j]? = some t → ds[j]? = some x → ∀ n ∈ x.weights P t, n ≤ reachBytes := by
 intro ts
 induction ts with
 | nil => intro ds j _ h; simp at h
 | cons a ts ih =>
  intro ds j hw ht hd n hn
  match ds with
  | [] => simp at hd
  | d :: ds =>
   rw [DataW.weightsEach, List.all_append, Bool.and_eq_true] at hw
   cases j with
   | zero =>
    simp at ht hd
    subst ht; subst hd
    simpa using List.all_eq_true.1 hw.1 n hn
   | succ j => exact ih hw.2 (by simpa using ht) (by simpa using hd) n hn
def argFitB (P : Program) (τ : Ty) (t : Nat) : Bool := fitB P 60 τ (.inl t) && (match P.underlying t with | some (.struct _) => !τ.one | _ => τ.one)
theorem arg_open (hZ : ∀ b, b < w.heap.size → Z b) {H : Type} {enc : TypeId × Value → H} {τ : Ty} {t : Nat} (hfit : argFitB P τ t = true) {r : Reach} {base : Nat} {v : Value} {x : DataW H} {ps : List MemPlace} {ts : List TypeId} {ds : List (DataW H)} {j : Nat}
 (hsz : (DataW.weightsEach P ts ds).all (· ≤ reachBytes) = true) (hj : ts[j]? = some t) (hd : ds[j]? = some x) (hv : Value.okWide P w r base t v) (h : DataW.Trod enc P w 0 (fun _ => true) true t v x ps) :
 ∃ y, ArgRep Z w false τ y v [] ∧ okT τ y := by
 unfold argFitB at hfit
 rw [Bool.and_eq_true] at hfit
 obtain ⟨fuel, hf⟩ := h
 have hwt : ∀ n ∈ x.weights P t, n ≤ reachBytes := weights_of hsz hj hd
 obtain ⟨y, hy, ho⟩ := fit_ok (P := P) hZ 60 τ (.inl t) hfit.1 hf hwt
 refine ⟨y, ⟨v.cells.toList, ?_, hy⟩, ho⟩
 have h2 := hfit.2
 have h1 : fitB P (59 + 1) τ (.inl t) = true := hfit.1
 unfold fitB at h1
 split at h1
 ·rename_i hu
  rw [hu] at h2
  obtain ⟨c, rfl⟩ := WideShapes.okWide_bool hu hv
  rw [show (!Ty.bool.one) = false from rfl]; rfl
 ·rename_i k' k hu
  obtain ⟨c, rfl⟩ := WideShapes.okWide_int hu hv
  rfl
 ·rename_i hu
  obtain ⟨c, rfl⟩ := WideShapes.okWide_string hu hv
  rfl
 ·rename_i et e hu
  obtain ⟨a, len, cap, rfl⟩ := WideShapes.okWide_slice hu hv
  rfl
 ·rename_i fs hu
  rw [hu] at h2
  obtain ⟨cs, rfl, _⟩ := WideShapes.okWide_struct hu hv
  simp only at h2
  rw [h2]
  simp [IsV, Value.cells]
 ·cases h1
theorem arg_len {Z : Nat → Prop} {H : Type} {enc : TypeId × Value → H} {e : Ty} {t : Nat} (hfit : argFitB P (.sl e) t = true) {r : Reach} {base : Nat} {v : Value} {x : DataW H} {ps : List MemPlace} (hv : Value.okWide P w r base t v) {y : List e.den} (ha : ArgRep Z w false (.sl e) y v [])
 (h : DataW.Trod enc P w 0 (fun _ => true) true t v x ps) : y = [] ∨ ∃ es rs, x = .slice es rs ∧ es.length = y.length := by
 unfold argFitB at hfit
 rw [Bool.and_eq_true] at hfit
 obtain ⟨fuel, hf⟩ := h
 have h1 : fitB P (59 + 1) (.sl e) (.inl t) = true := hfit.1
 obtain ⟨cs, hcs, hrep⟩ := ha
 obtain ⟨_, _, a, cap, rfl, _⟩ := hrep
 have hcs : [Value.slice a y.length cap] = [v] := hcs
 obtain rfl : Value.slice a y.length cap = v := by simpa using hcs
 unfold fitB at h1
 split at h1
 ·cases ‹Ty.sl e = _›
 ·cases ‹Ty.sl e = _›
 ·cases ‹Ty.sl e = _›
 ·rename_i et e' hu _
  rcases DataW.trod_slice hu hf with ⟨h2, h3⟩ | ⟨a', len, cap', elems, rest, m, _, h2, h4, hb, hl, hm, hlen, hel, hsp, _⟩
  ·left
   have : y.length = 0 := by simp [Value.cells] at h2; omega
   exact List.eq_nil_of_length_eq_zero this
  ·right
   cases h4
   refine ⟨_, _, rfl, ?_⟩
   have : y.length = len := by simp [Value.cells] at h2; omega
   rw [List.length_map]; omega
 ·rename_i fs hu
  have h2 := hfit.2
  rw [hu] at h2
  cases h2
 ·cases h1
end
end Go.Proofs.Ytodnfnnfjnnhmaa.A

-- YtodnfnnfjnnhmaaTb
set_option linter.unusedVariables false
set_option linter.unusedSimpArgs false
namespace Go.Proofs.Ytodnfnnfjnnhmaa.A
open Go
def zrepB : LV → Value → Bool
 | .v .bool b, .bool c => b == c
 | .v (.int k) n, .int k' m => decide (k' = k) && decide (m = n) && decide (k.min ≤ n) && decide (n ≤ k.max)
 | .v .str l, .string s => decide (s.data.toList = l) && decide (l.length ≤ big)
 | .nils, .slice none 0 0 => true
 | .nilm, .map none => true
 | .nilp, .pointer none => true
 | .junk, _ => true
 | _, _ => false
def zrepsB : List LV → List Value → Bool
 | [], [] => true
 | l :: ls, c :: cs => zrepB l c && zrepsB ls cs
 | _, _ => false
def aggB : Value → Bool
 | .agg _ => true
 | .tuple _ => false
 | _ => false
def oneFitsB (P : Program) (t : Nat) : Ty → Bool
 | .int k => (match P.underlying t with | some (.int k') => decide (k' = k) | _ => false)
 | .bool => (match P.underlying t with | some .bool => true | _ => false)
 | .str => (match P.underlying t with | some .string => true | _ => false)
 | _ => false
def eqFB (P : Program) : Nat → List Go.Field → Ty → Bool
 | _, [], _ => false
 | off, [f], τ => decide (f.name ≠ "_") && Nat.beq f.offset off && oneFitsB P f.type τ
 | off, f :: g :: fs, .pair a b => decide (f.name ≠ "_") && Nat.beq f.offset off && oneFitsB P f.type a && eqFB P (off + 1) (g :: fs) b
 | _, _, _ => false
def descFitsB (i : TI) (d : TypeDesc) : Bool :=
 match i.ty, d with
 | .int k, .int k' => decide (k' = k)
 | .int _, _ => false
 | .bool, .bool => true
 | .bool, _ => false
 | .str, .string => true
 | .str, _ => false
 | .sl _, .slice e => Nat.beq e i.elem
 | .sl _, _ => false
 | .map _ _, .map k e => Nat.beq k i.key && Nat.beq e i.elem
 | .map _ _, _ => false
 | .ptr _, .pointer _ => true
 | .ptr _, _ => false
 | _, _ => true
def fieldsB : List Go.Field → List (Nat × Nat) → Bool
 | [], [] => true
 | f :: fs, p :: ps => Nat.beq f.offset p.1 && Nat.beq f.type p.2 && fieldsB fs ps
 | _, _ => false
def rowOkB (P : Program) (t : Nat) (i : TI) : Bool :=
 (match P.info? t with
  | some inf => Nat.beq inf.size i.ty.cells && Nat.beq inf.bytes i.bytes && (match inf.zero with | some z => (aggB z == i.agg) && zrepsB i.zero z.cells.toList && (i.agg || (match z with | .tuple _ => false | _ => true)) | none => false)
  | none => false) &&
 (i.agg || i.ty.one) && Nat.beq i.zero.length i.ty.cells && Nat.ble i.bytes 128 &&
 (match i.agg with
  | true => (match P.underlying t with
   | some (.struct fs) => (fs.toList.mapM (fun f => (P.info? f.type).map fun i => (f.offset, i.size))).isSome && (!i.ty.eqB || (eqFB P 0 fs.toList i.ty && !(P.eqGuardType P.depth t))) && !(P.stoodInHeld t) && fieldsB fs.toList i.fields
   | _ => false)
  | false => (match P.underlying t with | some d => plainDesc d && descFitsB i d | none => false))
section
variable {P : Program}
theorem zrep_of : ∀ {l : LV} {c : Value}, zrepB l c = true → ZRep l c := by
 intro l c h
 unfold zrepB at h
 split at h
 ·rename_i b c
  have : b = c := by simpa using h
  subst this
  rfl
 ·simp only [Bool.and_eq_true, decide_eq_true_eq] at h
  obtain ⟨⟨⟨rfl, rfl⟩, h3⟩, h4⟩ := h
  exact ⟨rfl, h3, h4⟩
 ·rename_i l s
  simp only [Bool.and_eq_true, decide_eq_true_eq] at h
  obtain ⟨h1, h2⟩ := h
  subst h1
  exact ⟨rfl, h2⟩
 ·rfl
 ·rfl
 ·rfl
 ·trivial
 ·cases h
theorem zreps_of : ∀ {ls : List LV} {cs : List Value}, zrepsB ls cs = true → All2 ZRep ls cs
 | [], [], _ => trivial
 | l :: ls, c :: cs, h => by
  simp only [zrepsB, Bool.and_eq_true] at h
  exact ⟨zrep_of h.1, zreps_of h.2⟩
 | [], _ :: _, h => by cases h
 | _ :: _, [], h => by cases h
theorem oneFits_of {t : Nat} {τ : Ty} (h : oneFitsB P t τ = true) : oneFits P t τ := by
 cases τ <;> try (cases h; done)
 all_goals
  simp only [oneFitsB] at h
  split at h
 ·rename_i hu; exact hu
 ·cases h
 ·rename_i k' hu
  have h := of_decide_eq_true h
  subst h
  exact hu
 ·cases h
 ·rename_i hu; exact hu
 ·cases h
theorem eqF_of : ∀ {fs : List Go.Field} {off : Nat} {τ : Ty}, eqFB P off fs τ = true → EqF P off fs τ
 | [], off, τ, h => by simp [eqFB] at h
 | [f], off, τ, h => by
  simp only [eqFB, Bool.and_eq_true, decide_eq_true_eq] at h
  obtain ⟨⟨h1, h2⟩, h3⟩ := h
  cases τ <;> exact ⟨h1, Nat.eq_of_beq_eq_true h2, oneFits_of h3⟩
 | f :: g :: fs, off, τ, h => by
  cases τ <;> try (simp [eqFB] at h; done)
  simp only [eqFB, Bool.and_eq_true, decide_eq_true_eq] at h
  obtain ⟨⟨⟨h1, h2⟩, h3⟩, h4⟩ := h
  exact ⟨h1, Nat.eq_of_beq_eq_true h2, oneFits_of h3, eqF_of h4⟩
theorem descFits_of {i : TI} {d : TypeDesc} (h : descFitsB i d = true) : descFits i d := by
 unfold descFitsB at h
 unfold descFits
 generalize i.ty = τ at h ⊢
 cases τ <;> cases d <;> first
  | exact False.elim (Bool.false_ne_true h)
  | exact trivial
  | exact rfl
  | exact ⟨_, rfl⟩
  | exact congrArg TypeDesc.int (of_decide_eq_true h)
  | exact congrArg TypeDesc.slice (Nat.eq_of_beq_eq_true h)
  | exact (by
   have h := (Bool.and_eq_true _ _).mp h
   exact congr (congrArg TypeDesc.map (Nat.eq_of_beq_eq_true h.1)) (Nat.eq_of_beq_eq_true h.2))
theorem fields_of : ∀ {fs : List Go.Field} {ps : List (Nat × Nat)}, fieldsB fs ps = true → fs.length = ps.length ∧ ∀ (f o ft : Nat), ps[f]? = some (o, ft) → ∃ fd : Go.Field, fs[f]? = some fd ∧ fd.offset = o ∧ fd.type = ft
 | [], [], _ => ⟨rfl, by simp⟩
 | f :: fs, p :: ps, h => by
  simp only [fieldsB, Bool.and_eq_true] at h
  obtain ⟨⟨h1, h2⟩, h3⟩ := h
  obtain ⟨g1, g2⟩ := fields_of h3
  refine ⟨by simp [g1], fun k o ft hk => ?_⟩
  cases k with
  | zero =>
   simp only [List.getElem?_cons_zero, Option.some.injEq] at hk
   subst hk
   exact ⟨f, rfl, Nat.eq_of_beq_eq_true h1, Nat.eq_of_beq_eq_true h2⟩
  | succ k => simpa using g2 k o ft (by simpa using hk)
 | [], _ :: _, h => by cases h
 | _ :: _, [], h => by cases h
theorem rowOk_of {t : Nat} {i : TI} (h : rowOkB P t i = true) : TyOk P t i := by
 unfold rowOkB at h
 simp only [Bool.and_eq_true] at h
 obtain ⟨⟨⟨⟨h1, h2⟩, h3⟩, h4⟩, h5⟩ := h
 have hagg : i.agg = true → ∃ fs : Array Go.Field, P.underlying t = some (.struct fs) ∧ (fs.toList.mapM (fun f => (P.info? f.type).map fun i => (f.offset, i.size))).isSome = true ∧ (!i.ty.eqB || (eqFB P 0 fs.toList i.ty && !(P.eqGuardType P.depth t))) = true ∧ P.stoodInHeld t = false ∧ fieldsB fs.toList i.fields = true := fun ha => by
  rw [ha] at h5
  simp only at h5
  split at h5
  ·rename_i fs hu
   simp only [Bool.and_eq_true, Bool.not_eq_true'] at h5
   obtain ⟨⟨⟨a1, a2⟩, a3⟩, a4⟩ := h5
   exact ⟨fs, hu, a1, a2, a3, a4⟩
  ·cases h5
 refine ⟨?_, fun ha => ?_, Nat.eq_of_beq_eq_true h3, Nat.le_of_ble_eq_true h4, fun ha => ?_, fun ha he => ?_, fun ha he => ?_, ?_⟩
 ·split at h1
  ·rename_i inf hi
   simp only [Bool.and_eq_true] at h1
   obtain ⟨⟨g1, g2⟩, g3⟩ := h1
   split at g3
   ·rename_i z hz
    simp only [Bool.and_eq_true] at g3
    obtain ⟨⟨k1, k2⟩, k3⟩ := g3
    refine ⟨inf, z, hi, Nat.eq_of_beq_eq_true g1, Nat.eq_of_beq_eq_true g2, hz, ?_, zreps_of k2⟩
    have k1 : aggB z = i.agg := by simpa using k1
    rw [← k1]
    cases z <;> first | rfl | simp [aggB, IsV, Value.cells]
   ·cases g3
  ·cases h1
 ·rw [ha] at h2; simpa using h2
 ·obtain ⟨fs, a1, a2, _⟩ := hagg ha
  obtain ⟨pl, hp⟩ := Option.isSome_iff_exists.1 a2
  exact ⟨fs, pl, a1, hp⟩
 ·obtain ⟨fs, a1, _, a3, _⟩ := hagg ha
  rw [he] at a3
  simp only [Bool.not_true, Bool.false_or, Bool.and_eq_true] at a3
  exact ⟨fs, a1, eqF_of a3.1⟩
 ·obtain ⟨fs, a1, _, a3, _⟩ := hagg ha
  rw [he] at a3
  simp only [Bool.not_true, Bool.false_or, Bool.and_eq_true] at a3
  simpa using a3.2
 ·cases ha : i.agg with
  | true =>
   obtain ⟨fs, a1, _, _, a4, a5⟩ := hagg ha
   obtain ⟨f1, f2⟩ := fields_of a5
   exact ⟨fs, a1, a4, fun f o ft hf => by obtain ⟨fd, q1, q2⟩ := f2 f o ft hf; exact ⟨fd, by simpa using q1, q2⟩, by simpa using f1⟩
  | false =>
   rw [ha] at h5
   simp only at h5
   split at h5
   ·rename_i d hu
    simp only [Bool.and_eq_true] at h5
    exact ⟨d, hu, h5.1, descFits_of h5.2⟩
   ·cases h5
def tabOkB (P : Program) (l : List (Nat × Option TI)) : Bool := l.all fun p => match p.2 with | some i => rowOkB P p.1 i | none => true
theorem tabOk_of {l : List (Nat × Option TI)} (h : tabOkB P l = true) : TabOk P (ofL none l) := by
 intro t i hi
 induction l with
 | nil => cases hi
 | cons p l ih =>
  unfold tabOkB at h
  rw [List.all_cons, Bool.and_eq_true] at h
  obtain ⟨k, x⟩ := p
  rw [ofL_cons] at hi
  by_cases hk : t = k
  ·subst hk
   rw [upd_same] at hi
   subst hi
   exact rowOk_of h.1
  ·rw [upd_other _ _ hk] at hi
   exact ih h.2 hi
end
end Go.Proofs.Ytodnfnnfjnnhmaa.A

-- YtodnfnnfjnnhmaaLw
set_option linter.unusedVariables false
set_option linter.unusedSimpArgs false
namespace Go.Proofs.Ytodnfnnfjnnhmaa.A
open Go
section
variable {P : Program} {tab : Nat → Option TI}
theorem TOk.nil : TOk P (ofL none []) := fun _ _ h => by cases h
theorem TOk.cons {f : Nat} {F : FunE} {l : List (Nat × Option FunE)} (h : FunC P f F) (hl : TOk P (ofL none l)) : TOk P (ofL none ((f, some F) :: l)) := by
 intro g G hg
 rw [ofL_cons] at hg
 by_cases e : g = f
 ·subst e
  rw [upd_same] at hg
  cases hg
  exact h
 ·rw [upd_other _ _ e] at hg
  exact hl g G hg
theorem funC_of (hm : P.follows .mixedOrders = true) (hT : TabOk P tab) {f : FuncId} {fn : Func} (hf : P.funcs[f]? = some fn) {T : Nat → Nat → Option FunE} {ann : Nat → Option (List Keep)} {ins : List (Bool × Ty)} {outs : List Ty} {n : Nat} (hC : ∀ k, TOk P (T k)) (hk : fnOkB fn ins = true) (hn : (fn.name == "runtime.NumGoroutine") = false) : FunC P f (fnE tab T ann fn ins outs n) := by
 refine ⟨fun _ => fnE_ok hm hT hf (fun k _ => way_ok hT (hC k)) hk, fun _ _ h => (by cases h), fn, hf, hn, ?_⟩
 simp only [fnOkB, Bool.and_eq_true] at hk
 have := hk.1.1.2
 cases hb : fn.body with
 | none => rw [hb] at this; cases this
 | some _ => rfl
theorem FunC.spec {f : FuncId} {ins : List (Bool × Ty)} {outs : List Ty} {F : Nat → (ins.foldr (fun p t => Ty.pair p.2 t) .unit).den → Option ((outs ++ (ins.filter (·.1)).map (·.2)).foldr Ty.pair .unit).den} {g : (ins.foldr (fun p t => Ty.pair p.2 t) .unit).den → Option ((outs ++ (ins.filter (·.1)).map (·.2)).foldr Ty.pair .unit).den}
 (hF : ∀ n, FunC P f { ins := ins, outs := outs, f := F n }) (h : ∀ x r, g x = some r → ∃ n, F n x = some r) : FunC P f { ins := ins, outs := outs, f := g } := by
 refine ⟨fun _ Z w xs vs Fs r h1 h2 h3 h4 h5 => ?_, fun _ _ h => (by cases h), (hF 0).en⟩
 obtain ⟨n, hn⟩ := h xs r h5
 exact ((hF n).ok' rfl Z w xs vs Fs r h1 h2 h3 h4 hn).mono fun e w' ⟨v, Z', us, Fr, Fi, he, p⟩ => ⟨v, Z', us, Fr, Fi, he, ⟨p.kp, p.zs, p.zl, p.zi, p.res, p.v, p.io, p.nd, p.nz⟩⟩
theorem law_end {Z : Nat → Prop} {w w' : World} {F : FunE} {vs us : List Value} {v : Value} {Z' : Nat → Prop} {Fr Fi : List Nat} {r : ((F.outs ++ (F.ins.filter (·.1)).map (·.2)).foldr Ty.pair .unit).den} (p : Post Z w [] F vs r v w' Z' us Fr Fi) {τs : List Ty} (ho : F.outs = [.bool]) {b : Bool} (hb : ResL Z' w' F.outs (splitRes F.outs _ r).1 us Fr → ResL Z' w' [.bool] (b, ()) us Fr) :
 v = .bool b ∧ RowKit.Below w.heap.size w w' := by
 refine ⟨?_, p.kp.os, p.kp.tape, p.kp.output, p.kp.size, fun k hk => p.kp.block k hk (by simp)⟩
 obtain ⟨u, us', F1, F2, e1, e2, ⟨cs, e3, e4⟩, e5, e6⟩ := hb p.res
 have e3 : cs = [u] := e3
 subst e3
 obtain ⟨e7, _⟩ := e4
 rw [p.v, e1, e5]
 simpa [tupOf] using e7
end
end Go.Proofs.Ytodnfnnfjnnhmaa.A

-- YtodnfnnfjnnhmaaK
set_option linter.unusedVariables false
set_option maxRecDepth 100000
namespace Go.Proofs.Ytodnfnnfjnnhmaa.A
open Go
theorem follows : Try.prog.follows .mixedOrders = true := by kernel_rfl
theorem tab_ok : TabOk Try.prog tab := tabOk_of (by kernel_rfl)
theorem monitor_IsName.ok (n : Nat) : FunC Try.prog 37 (monitor_IsName.E n) := funC_of follows tab_ok Try.func37 (T := monitor_IsName.T) (ann := monitor_IsName.ann) (ins := monitor_IsName.ins) (outs := monitor_IsName.outs) (n := n) (fun k => TOk.nil) (by kernel_rfl) (by kernel_rfl)
theorem kit_In.ok (n : Nat) : FunC Try.prog 38 (kit_In.E n) := funC_of follows tab_ok Try.func38 (T := kit_In.T) (ann := kit_In.ann) (ins := kit_In.ins) (outs := kit_In.outs) (n := n) (fun k => TOk.nil) (by kernel_rfl) (by kernel_rfl)
theorem monitor_CheckLimits.ok (n : Nat) : FunC Try.prog 13 (monitor_CheckLimits.E n) := funC_of follows tab_ok Try.func13 (T := monitor_CheckLimits.T) (ann := monitor_CheckLimits.ann) (ins := monitor_CheckLimits.ins) (outs := monitor_CheckLimits.outs) (n := n) (fun k => TOk.cons (monitor_IsName.ok k) (TOk.cons (kit_In.ok k) (TOk.nil))) (by kernel_rfl) (by kernel_rfl)
theorem kit_First.ok (n : Nat) : FunC Try.prog 32 (kit_First.E n) := funC_of follows tab_ok Try.func32 (T := kit_First.T) (ann := kit_First.ann) (ins := kit_First.ins) (outs := kit_First.outs) (n := n) (fun k => TOk.nil) (by kernel_rfl) (by kernel_rfl)
theorem kit_Range.ok (n : Nat) : FunC Try.prog 33 (kit_Range.E n) := funC_of follows tab_ok Try.func33 (T := kit_Range.T) (ann := kit_Range.ann) (ins := kit_Range.ins) (outs := kit_Range.outs) (n := n) (fun k => TOk.cons (kit_In.ok k) (TOk.nil)) (by kernel_rfl) (by kernel_rfl)
theorem monitor_state.ok (n : Nat) : FunC Try.prog 34 (monitor_state.E n) := funC_of follows tab_ok Try.func34 (T := monitor_state.T) (ann := monitor_state.ann) (ins := monitor_state.ins) (outs := monitor_state.outs) (n := n) (fun k => TOk.nil) (by kernel_rfl) (by kernel_rfl)
theorem monitor_StateOf.ok (n : Nat) : FunC Try.prog 11 (monitor_StateOf.E n) := funC_of follows tab_ok Try.func11 (T := monitor_StateOf.T) (ann := monitor_StateOf.ann) (ins := monitor_StateOf.ins) (outs := monitor_StateOf.outs) (n := n) (fun k => TOk.cons (monitor_CheckLimits.ok k) (TOk.cons (kit_First.ok k) (TOk.cons (kit_Range.ok k) (TOk.cons (monitor_state.ok k) (TOk.nil))))) (by kernel_rfl) (by kernel_rfl)
theorem monitor_before.ok (n : Nat) : FunC Try.prog 41 (monitor_before.E n) := funC_of follows tab_ok Try.func41 (T := monitor_before.T) (ann := monitor_before.ann) (ins := monitor_before.ins) (outs := monitor_before.outs) (n := n) (fun k => TOk.nil) (by kernel_rfl) (by kernel_rfl)
theorem monitor_CheckSamples.ok (n : Nat) : FunC Try.prog 15 (monitor_CheckSamples.E n) := funC_of follows tab_ok Try.func15 (T := monitor_CheckSamples.T) (ann := monitor_CheckSamples.ann) (ins := monitor_CheckSamples.ins) (outs := monitor_CheckSamples.outs) (n := n) (fun k => TOk.cons (monitor_IsName.ok k) (TOk.cons (kit_In.ok k) (TOk.cons (monitor_before.ok k) (TOk.nil)))) (by kernel_rfl) (by kernel_rfl)
theorem perigeelaw8_awake.ok (n : Nat) : FunC Try.prog 17 (perigeelaw8_awake.E n) := funC_of follows tab_ok Try.func17 (T := perigeelaw8_awake.T) (ann := perigeelaw8_awake.ann) (ins := perigeelaw8_awake.ins) (outs := perigeelaw8_awake.outs) (n := n) (fun k => TOk.cons (monitor_StateOf.ok k) (TOk.nil)) (by kernel_rfl) (by kernel_rfl)
theorem monitor_followers.ok (n : Nat) : FunC Try.prog 42 (monitor_followers.E n) := funC_of follows tab_ok Try.func42 (T := monitor_followers.T) (ann := monitor_followers.ann) (ins := monitor_followers.ins) (outs := monitor_followers.outs) (n := n) (fun k => TOk.nil) (by kernel_rfl) (by kernel_rfl)
theorem monitor_follower_step.ok (n : Nat) : FunC Try.prog 43 (monitor_follower_step.E n) := funC_of follows tab_ok Try.func43 (T := monitor_follower_step.T) (ann := monitor_follower_step.ann) (ins := monitor_follower_step.ins) (outs := monitor_follower_step.outs) (n := n) (fun k => TOk.cons (monitor_state.ok k) (TOk.nil)) (by kernel_rfl) (by kernel_rfl)
theorem monitor_States.ok (n : Nat) : FunC Try.prog 18 (monitor_States.E n) := funC_of follows tab_ok Try.func18 (T := monitor_States.T) (ann := monitor_States.ann) (ins := monitor_States.ins) (outs := monitor_States.outs) (n := n) (fun k => TOk.cons (monitor_CheckLimits.ok k) (TOk.cons (monitor_CheckSamples.ok k) (TOk.cons (kit_First.ok k) (TOk.cons (kit_Range.ok k) (TOk.cons (monitor_followers.ok k) (TOk.cons (monitor_follower_step.ok k) (TOk.nil))))))) (by kernel_rfl) (by kernel_rfl)
theorem perigeelaw8_LimitsPlainFollowValues.ok (n : Nat) : FunC Try.prog 4 (perigeelaw8_LimitsPlainFollowValues.E n) := funC_of follows tab_ok Try.func4 (T := perigeelaw8_LimitsPlainFollowValues.T) (ann := perigeelaw8_LimitsPlainFollowValues.ann) (ins := perigeelaw8_LimitsPlainFollowValues.ins) (outs := perigeelaw8_LimitsPlainFollowValues.outs) (n := n) (fun k => TOk.cons (monitor_StateOf.ok k) (TOk.cons (perigeelaw8_awake.ok k) (TOk.cons (monitor_States.ok k) (TOk.nil)))) (by kernel_rfl) (by kernel_rfl)
end Go.Proofs.Ytodnfnnfjnnhmaa.A

-- YtodnfnnfjnnhmaaPk
set_option linter.unusedVariables false
set_option linter.unusedSimpArgs false
namespace Go.Proofs.Ytodnfnnfjnnhmaa.Pure
open Go Go.Proofs.Ytodnfnnfjnnhmaa.A

def Ev {α : Type} (g : Nat → Option α) (r : α) : Prop := ∃ k, ∀ n, k ≤ n → g n = some r
theorem Ev.now {α : Type} (r : α) : Ev (fun _ => some r) r := ⟨0, fun _ _ => rfl⟩
theorem Ev.rounds {α : Type} {g : Nat → Option α} {r : α} (h : Ev g r) : ∃ k, g k = some r := let ⟨K, h⟩ := h; ⟨K, h K (Nat.le_refl _)⟩
theorem Ev.bind {α β : Type} {g : Nat → Option α} {f : Nat → α → Option β} {a : α} {r : β} (h : Ev g a) (k : Ev (fun n => f n a) r) : Ev (fun n => (g n).bind (f n)) r := by
 obtain ⟨K, h⟩ := h
 obtain ⟨K', k⟩ := k
 refine ⟨max K K', fun n hn => ?_⟩
 simp only [h n (by omega), Option.bind_some]
 exact k n (by omega)
theorem Ev.step {α : Type} {g f : Nat → Option α} {r : α} (h : ∀ k, g (k + 1) = f k) (k : Ev f r) : Ev g r := by
 obtain ⟨K, k⟩ := k
 refine ⟨K + 1, fun n hn => ?_⟩
 obtain ⟨m, rfl⟩ : ∃ m, n = m + 1 := ⟨n - 1, by omega⟩
 rw [h]
 exact k m (by omega)
theorem Ev.eq {α : Type} {g f : Nat → Option α} {r : α} (h : ∀ k, g k = f k) (k : Ev f r) : Ev g r := by
 obtain ⟨K, k⟩ := k
 exact ⟨K, fun n hn => (h n).trans (k n hn)⟩
theorem less_total : ∀ a b : List UInt8, (Op.bytesLess a b || a == b) = !Op.bytesLess b a := by
 intro a
 induction a with
 | nil => intro b; cases b <;> simp [Op.bytesLess]
 | cons x a ih =>
  intro b
  cases b with
  | nil => simp [Op.bytesLess]
  | cons y b =>
   have := ih b
   have e1 : Op.bytesLess (x :: a) (y :: b) = (decide (x < y) || (x == y && Op.bytesLess a b)) := by rw [Op.bytesLess]
   have e2 : Op.bytesLess (y :: b) (x :: a) = (decide (y < x) || (y == x && Op.bytesLess b a)) := by rw [Op.bytesLess]
   rw [e1, e2]
   rcases Nat.lt_trichotomy x.toNat y.toNat with h | h | h
   ·have h1 : x < y := UInt8.lt_iff_toNat_lt.2 h
    have h2 : ¬ y < x := fun h' => by have := UInt8.lt_iff_toNat_lt.1 h'; omega
    have h3 : ¬ y = x := fun h' => by subst h'; omega
    simp [h1, h2, h3]
   ·have h3 : x = y := UInt8.toNat_inj.1 h
    subst h3
    have h2 : ¬ x < x := fun h' => by have := UInt8.lt_iff_toNat_lt.1 h'; omega
    simpa [h2] using this
   ·have h1 : y < x := UInt8.lt_iff_toNat_lt.2 h
    have h2 : ¬ x < y := fun h' => by have := UInt8.lt_iff_toNat_lt.1 h'; omega
    have h3 : ¬ x = y := fun h' => by subst h'; omega
    simp [h1, h2, h3]

theorem w64 {x : Int} (h : -9223372036854775808 ≤ x) (h' : x ≤ 9223372036854775807) : IntKind.wrap .i64 x = x := by
 have e1 : (2 : Int) ^ 64 = 18446744073709551616 := rfl
 have e2 : (2 : Int) ^ (64 - 1) = 9223372036854775808 := rfl
 simp only [IntKind.wrap, IntKind.bits, IntKind.signed, e1, e2, Bool.true_and, decide_eq_true_eq]
 by_cases hh : x % 18446744073709551616 ≥ 9223372036854775808
 ·rw [if_pos hh]; omega
 ·rw [if_neg hh]; omega
theorem Ev.yes {α : Type} {c : Prop} {hd : Decidable c} {g g' : Nat → Option α} {r : α} (h : c) (e : Ev g r) : Ev (fun k => if c then g k else g' k) r := by
 simp only [if_pos h]; exact e
theorem Ev.no {α : Type} {c : Prop} {hd : Decidable c} {g g' : Nat → Option α} {r : α} (h : ¬ c) (e : Ev g' r) : Ev (fun k => if c then g k else g' k) r := by
 simp only [if_neg h]; exact e
theorem Ev.unique {α : Type} {g : Nat → Option α} {r s : α} (h : Ev g r) (h' : Ev g s) : r = s := by
 obtain ⟨K, h⟩ := h
 obtain ⟨K', h'⟩ := h'
 have h1 := h (max K K') (by omega)
 have h2 := h' (max K K') (by omega)
 rw [h1] at h2
 injection h2
theorem Ev.some {α : Type} {o : Option α} {r : α} (h : o = some r) : Ev (fun _ => o) r := by subst h; exact Ev.now _

theorem getD_nat {α : Type} (z : α) (l : List α) (i : Nat) (h : i < l.length) : l.getD i z = l[i] := by
 simp [List.getD_eq_getElem?_getD, List.getElem?_eq_getElem h]
theorem getD_mem {α : Type} {z : α} {l : List α} {i : Nat} (h : i < l.length) : l.getD i z ∈ l := by
 rw [getD_nat z l i h]; exact List.getElem_mem h

theorem bl_cons (x y : UInt8) (a b : List UInt8) : Op.bytesLess (x :: a) (y :: b) = (decide (x < y) || (x == y && Op.bytesLess a b)) := by rw [Op.bytesLess]
theorem less_irrefl (a : List UInt8) : Op.bytesLess a a = false := by
 have := less_total a a
 cases h : Op.bytesLess a a with
 | false => rfl
 | true => rw [h] at this; simp at this
theorem less_ne {a b : List UInt8} (h : Op.bytesLess a b = true) : a ≠ b := by
 intro e
 subst e
 rw [less_irrefl] at h
 cases h
theorem less_trans : ∀ {a b c : List UInt8}, Op.bytesLess a b = true → Op.bytesLess b c = true → Op.bytesLess a c = true := by
 intro a
 induction a with
 | nil =>
  intro b c h1 h2
  cases b with
  | nil => simp [Op.bytesLess] at h1
  | cons y b =>
   cases c with
   | nil => simp [Op.bytesLess] at h2
   | cons z c => simp [Op.bytesLess]
 | cons x a ih =>
  intro b c h1 h2
  cases b with
  | nil => simp [Op.bytesLess] at h1
  | cons y b =>
   cases c with
   | nil => simp [Op.bytesLess] at h2
   | cons z c =>
    rw [bl_cons] at h1 h2 ⊢
    simp only [Bool.or_eq_true, Bool.and_eq_true, decide_eq_true_eq, beq_iff_eq] at h1 h2 ⊢
    rcases h1 with h1 | ⟨rfl, h1⟩
    ·rcases h2 with h2 | ⟨rfl, h2⟩
     ·left
      have := UInt8.lt_iff_toNat_lt.1 h1
      have := UInt8.lt_iff_toNat_lt.1 h2
      exact UInt8.lt_iff_toNat_lt.2 (by omega)
     ·exact .inl h1
    ·rcases h2 with h2 | ⟨rfl, h2⟩
     ·exact .inl h2
     ·exact .inr ⟨rfl, ih h1 h2⟩
def Twin {α β : Type} (g : Nat → Option α) (g' : Nat → Option β) (R : α → β → Prop) : Prop := ∃ a b, Ev g a ∧ Ev g' b ∧ R a b
section
variable {α β γ δ : Type} {R : α → β → Prop}
theorem Twin.of {g : Nat → Option α} {g' : Nat → Option β} {a : α} {b : β} (h : Ev g a) (h' : Ev g' b) (r : R a b) : Twin g g' R := ⟨a, b, h, h', r⟩
theorem Twin.now {a : α} {b : β} (r : R a b) : Twin (fun _ => some a) (fun _ => some b) R := ⟨a, b, Ev.now _, Ev.now _, r⟩
theorem Twin.mono {g : Nat → Option α} {g' : Nat → Option β} {S : α → β → Prop} (h : Twin g g' S) (k : ∀ a b, S a b → R a b) : Twin g g' R := by
 obtain ⟨a, b, h1, h2, h3⟩ := h
 exact ⟨a, b, h1, h2, k a b h3⟩
theorem Twin.bind {g : Nat → Option γ} {g' : Nat → Option δ} {S : γ → δ → Prop} {f : Nat → γ → Option α} {f' : Nat → δ → Option β} (t : Twin g g' S) (k : ∀ a b, S a b → Twin (fun n => f n a) (fun n => f' n b) R) :
 Twin (fun n => (g n).bind (f n)) (fun n => (g' n).bind (f' n)) R := by
 obtain ⟨a, b, h1, h2, h3⟩ := t
 obtain ⟨a', b', h1', h2', h3'⟩ := k a b h3
 exact ⟨a', b', Ev.bind h1 h1', Ev.bind h2 h2', h3'⟩
theorem Twin.right {g : Nat → Option α} {g' : Nat → Option β} (t : Twin g g' R) : ∃ b, Ev g' b := by
 obtain ⟨a, b, h1, h2, h3⟩ := t
 exact ⟨b, h2⟩
theorem Ev.split {c : Prop} {hd : Decidable c} {g f : Nat → Option α} {r : α} (y : c → Ev g r) (n : ¬ c → Ev f r) : Ev (fun k => if c then g k else f k) r := by
 by_cases h : c
 ·simp only [if_pos h]; exact y h
 ·simp only [if_neg h]; exact n h
theorem Ev.is {v r : α} (h : v = r) : Ev (fun _ => Option.some v) r := by subst h; exact Ev.now _
end
end Go.Proofs.Ytodnfnnfjnnhmaa.Pure

-- YtodnfnnfjnnhmaaLp
set_option linter.unusedVariables false
set_option linter.unusedSimpArgs false
namespace Go.Proofs.Ytodnfnnfjnnhmaa.Pure
open Go Go.Proofs.Ytodnfnnfjnnhmaa.A

theorem Ev.rng {α β σ : Type} (z : α) (l : List α) (hl : l.length ≤ 4611686018427387904) {g : Nat → σ → Int → Option β} {B : Nat → σ → Int → Option β} {E : Nat → σ → Option β}
 (hg : ∀ k s i, g (k + 1) s i = if decide (i < (l.length : Int)) = true then (if (0 : Int) ≤ i ∧ i < (l.length : Int) then B k s i else none) else E k s)
 (Inv : Nat → σ → Prop) (spec : List α → Nat → σ → β)
 (hfin : ∀ s, Inv l.length s → Ev (fun k => E k s) (spec [] l.length s))
 (hstep : ∀ (i : Nat) (x : α) (xs : List α) (s : σ), i < l.length → x ∈ l → l.drop i = x :: xs → l.getD i z = x → IntKind.wrap .i64 ((i : Int) + 1) = (i : Int) + 1 → Inv i s →
  (∀ s', Inv (i + 1) s' → Ev (fun k => g k s' ((i : Int) + 1)) (spec xs (i + 1) s')) → Ev (fun k => B k s i) (spec (x :: xs) i s)) :
 ∀ (i : Nat) (s : σ), i ≤ l.length → Inv i s → Ev (fun k => g k s i) (spec (l.drop i) i s) := by
 have loop : ∀ (d i : Nat) (s : σ), i + d = l.length → Inv i s → Ev (fun k => g k s i) (spec (l.drop i) i s) := by
  intro d
  induction d with
  | zero =>
   intro i s hi hs
   have : i = l.length := by omega
   subst this
   refine Ev.step (fun k => hg k s _) ?_
   refine Ev.no (by simp) ?_
   rw [List.drop_length]
   exact hfin s hs
  | succ d ih =>
   intro i s hi hs
   refine Ev.step (fun k => hg k s _) ?_
   refine Ev.yes (by simp; omega) (Ev.yes (by omega) ?_)
   rw [List.drop_eq_getElem_cons (show i < l.length by omega)]
   refine hstep i _ _ s (by omega) (List.getElem_mem _) (List.drop_eq_getElem_cons (by omega)) (getD_nat z l i (by omega)) (w64 (by omega) (by omega)) hs fun s' hs' => ?_
   have := ih (i + 1) s' (by omega) hs'
   rw [show ((i + 1 : Nat) : Int) = (i : Int) + 1 by omega] at this
   exact this
 exact fun i s hi hs => loop (l.length - i) i s (by omega) hs
theorem Ev.rngR {α β σ : Type} (z : α) (l : List α) (hl : l.length ≤ 4611686018427387904) {g : Nat → σ → Int → Option β} {B : Nat → σ → Int → Option β} {E : Nat → σ → Option β}
 (hg : ∀ k s i, g (k + 1) s i = if decide (i < (l.length : Int)) = true then (if (0 : Int) ≤ i ∧ i < (l.length : Int) then B k s i else none) else E k s)
 (Inv : Nat → σ → Prop) (Q : β → Prop)
 (hfin : ∀ s, Inv l.length s → ∃ r, Ev (fun k => E k s) r ∧ Q r)
 (hstep : ∀ (i : Nat) (x : α) (s : σ), i < l.length → x ∈ l → l[i]? = Option.some x → l.getD i z = x → IntKind.wrap .i64 ((i : Int) + 1) = (i : Int) + 1 → Inv i s →
  (∀ s', Inv (i + 1) s' → ∃ r, Ev (fun k => g k s' ((i : Int) + 1)) r ∧ Q r) → ∃ r, Ev (fun k => B k s i) r ∧ Q r) :
 ∀ (i : Nat) (s : σ), i ≤ l.length → Inv i s → ∃ r, Ev (fun k => g k s i) r ∧ Q r := by
 have loop : ∀ (d i : Nat) (s : σ), i + d = l.length → Inv i s → ∃ r, Ev (fun k => g k s i) r ∧ Q r := by
  intro d
  induction d with
  | zero =>
   intro i s hi hs
   have : i = l.length := by omega
   subst this
   obtain ⟨r, h1, h2⟩ := hfin s hs
   exact ⟨r, Ev.step (fun k => hg k s _) (Ev.no (by simp) h1), h2⟩
  | succ d ih =>
   intro i s hi hs
   have hs' := hstep i l[i] s (by omega) (List.getElem_mem _) (List.getElem?_eq_getElem (by omega)) (getD_nat z l i (by omega)) (w64 (by omega) (by omega)) hs fun s' hs' => by
    have := ih (i + 1) s' (by omega) hs'
    rw [show ((i + 1 : Nat) : Int) = (i : Int) + 1 by omega] at this
    exact this
   obtain ⟨r, h1, h2⟩ := hs'
   exact ⟨r, Ev.step (fun k => hg k s _) (Ev.yes (by simp; omega) (Ev.yes (by omega) h1)), h2⟩
 exact fun i s hi hs => loop (l.length - i) i s (by omega) hs
theorem Ev.cast {α : Type} {g : Nat → Option α} {a b : α} (h : a = b) (e : Ev g a) : Ev g b := h ▸ e

end Go.Proofs.Ytodnfnnfjnnhmaa.Pure

-- YtodnfnnfjnnhmaaQ1
set_option linter.unusedVariables false
set_option linter.unusedSimpArgs false
namespace Go.Proofs.Ytodnfnnfjnnhmaa.Pure
open Go Go.Proofs.Ytodnfnnfjnnhmaa.A

theorem in_ev (n : Nat) (a l h : Int) : kit_In.f n a l h = some (decide (l ≤ a ∧ a ≤ h), ()) := by
 rw [kit_In.f_eq]
 by_cases h1 : l ≤ a <;> simp [h1]
theorem range_ev (n : Nat) (a l h : Int) : kit_Range.f n a l h = some (if l ≤ a ∧ a ≤ h then 0 else 1, ()) := by
 rw [kit_Range.f_eq, in_ev]
 by_cases h1 : l ≤ a ∧ a ≤ h <;> simp [h1]
def firstN : List Int → Int
 | [] => 0
 | x :: l => if x = 0 then firstN l else x
theorem first_ev (l : List Int) (hl : l.length ≤ 4611686018427387904) : Ev (fun k => kit_First.f k l) (firstN l, ()) := by
 refine Ev.eq (fun k => by rw [kit_First.f_eq]) ?_
 have h := Ev.rng (σ := Unit) (0 : Int) l hl (g := fun k _ i => kit_First.c0 k l (l.length : Int) i) (fun k _ i => kit_First.c0_eq _ _ _ _)
  (fun _ _ => True) (fun r _ _ => (firstN r, ())) (fun _ _ => Ev.is rfl) (fun i x xs _ hi hx hd hget hw _ next => by
   simp only [Int.toNat_natCast, hget, hw, Bool.not_eq_true', decide_eq_false_iff_not]
   refine Ev.split (fun h => Ev.is (by rw [firstN, if_neg h])) (fun h => ?_)
   have h : x = 0 := Classical.byContradiction h
   have := next () trivial
   rw [firstN, if_pos h]
   exact this) 0 () (by omega) trivial
 exact h
theorem firstN_zero : ∀ {l : List Int}, firstN l = 0 ↔ ∀ x ∈ l, x = 0
 | [] => by simp [firstN]
 | x :: l => by
  rw [firstN]
  by_cases h : x = 0
  ·rw [if_pos h, firstN_zero]; simp [h]
  ·rw [if_neg h]; simp [h]

theorem chk_loop {α : Type} (l : List α) (hl : l.length ≤ 4611686018427387904) {g : Nat → Int → Option (Int × Unit)} {B : Nat → Int → Option (Int × Unit)}
 (hg : ∀ k i, g (k + 1) i = if decide (i < (l.length : Int)) = true then (if (0 : Int) ≤ i ∧ i < (l.length : Int) then B k i else none) else some (0, ()))
 (Cond : Nat → Prop) (hstep : ∀ i : Nat, i < l.length → (∃ c : Int, c ≠ 0 ∧ ¬ Cond i ∧ Ev (fun k => B k i) (c, ())) ∨ (Cond i ∧ ∀ r, Ev (fun k => g k (IntKind.wrap .i64 ((i : Int) + 1))) r → Ev (fun k => B k i) r)) :
 ∃ c : Int, Ev (fun k => g k 0) (c, ()) ∧ (c = 0 ↔ ∀ j, j < l.length → Cond j) := by
 have loop : ∀ (d i : Nat), i + d = l.length → ∃ c : Int, Ev (fun k => g k i) (c, ()) ∧ (c = 0 ↔ ∀ j, i ≤ j → j < l.length → Cond j) := by
  intro d
  induction d with
  | zero =>
   intro i hi
   refine ⟨0, Ev.step (fun k => hg k _) (Ev.no (by simp; omega) (Ev.now _)), ?_⟩
   simp; intro j h1 h2; omega
  | succ d ih =>
   intro i hi
   rcases hstep i (by omega) with ⟨c, c0, c1, c2⟩ | ⟨c1, c2⟩
   ·refine ⟨c, Ev.step (fun k => hg k _) (Ev.yes (by simp; omega) (Ev.yes (by omega) c2)), ?_⟩
    constructor
    ·intro h; exact absurd h c0
    ·intro h; exact absurd (h i (Nat.le_refl _) (by omega)) c1
   ·obtain ⟨c, e1, e2⟩ := ih (i + 1) (by omega)
    refine ⟨c, Ev.step (fun k => hg k _) (Ev.yes (by simp; omega) (Ev.yes (by omega) (c2 _ ?_))), ?_⟩
    ·rw [w64 (by omega) (by omega)]; exact e1
    ·rw [e2]
     constructor
     ·intro h j h1 h2
      rcases Nat.lt_or_ge i j with h3 | h3
      ·exact h j h3 h2
      ·obtain rfl : i = j := by omega
       exact c1
     ·intro h j h1 h2; exact h j (by omega) h2
 obtain ⟨c, e1, e2⟩ := loop l.length 0 (by omega)
 refine ⟨c, e1, e2.trans ⟨fun h j hj => h j (by omega) hj, fun h j _ hj => h j hj⟩⟩

theorem name_ex (s : List UInt8) (hs : s.length ≤ 140737488351232) : ∃ b, Ev (fun k => monitor_IsName.f k s) (b, ()) ∧ (b = true → s.length ≤ 40) := by
 by_cases h0 : s = []
 ·exact ⟨false, Ev.eq (fun k => by rw [monitor_IsName.f_eq]) (Ev.yes (by simpa using h0) (Ev.now _)), fun h => by cases h⟩
 by_cases h1 : 40 < (s.length : Int)
 ·exact ⟨false, Ev.eq (fun k => by rw [monitor_IsName.f_eq]) (Ev.no (by simpa using h0) (Ev.yes (by simpa using h1) (Ev.now _))), fun h => by cases h⟩
 have h := Ev.rngR (σ := Unit) (0 : UInt8) s (by omega) (g := fun k _ i => monitor_IsName.c1 k s (s.length : Int) i) (fun k _ i => monitor_IsName.c1_eq _ _ _ _)
  (fun _ _ => True) (fun r : Bool × Unit => True) (fun _ _ => ⟨_, Ev.now _, trivial⟩) (fun i x _ hi hx _ hget hw _ next => by
   simp only [Int.toNat_natCast, hget, hw]
   obtain ⟨r, n1, _⟩ := next () trivial
   have key : ∀ {g : Nat → Option (Bool × Unit)}, (Ev g (false, ()) ∨ Ev g r) → ∃ r, Ev g r ∧ True := fun h => h.elim (fun h => ⟨_, h, trivial⟩) (fun h => ⟨_, h, trivial⟩)
   have sp : ∀ {c : Prop} {hd : Decidable c} {g f : Nat → Option (Bool × Unit)}, (Ev g (false, ()) ∨ Ev g r) → (Ev f (false, ()) ∨ Ev f r) → (Ev (fun k => if c then g k else f k) (false, ()) ∨ Ev (fun k => if c then g k else f k) r) := fun {c hd g f} y n => by
    by_cases h : c
    ·exact y.imp (fun y => Ev.yes h y) (fun y => Ev.yes h y)
    ·exact n.imp (fun n => Ev.no h n) (fun n => Ev.no h n)
   have F : Ev (fun _ : Nat => some (false, ())) (false, ()) ∨ Ev (fun _ : Nat => some (false, ())) r := .inl (Ev.now _)
   have N : Ev (fun k => monitor_IsName.c1 k s (s.length : Int) ((i : Int) + 1)) (false, ()) ∨ Ev (fun k => monitor_IsName.c1 k s (s.length : Int) ((i : Int) + 1)) r := .inr n1
   exact key (sp (sp F (sp (sp (sp F (sp F N)) N) N)) (sp (sp F (sp (sp (sp F (sp F N)) N) N)) N))) 0 () (by omega) trivial
 obtain ⟨⟨b, u⟩, h2, _⟩ := h
 have h2 : Ev (fun k => monitor_IsName.c1 k s (s.length : Int) 0) (b, u) := h2
 exact ⟨b, Ev.eq (fun k => by rw [monitor_IsName.f_eq]) (Ev.no (by simpa using h0) (Ev.no (by simpa using h1) (Ev.step (fun k => by rw [monitor_IsName.c0_eq]) h2))), fun _ => by omega⟩
open Classical in
noncomputable def isNm (s : List UInt8) : Bool := if Ev (fun k => monitor_IsName.f k s) (true, ()) then true else false
theorem name_ev (s : List UInt8) (hs : s.length ≤ 140737488351232) : Ev (fun k => monitor_IsName.f k s) (isNm s, ()) ∧ (isNm s = true → s.length ≤ 40) := by
 obtain ⟨b, h1, h2⟩ := name_ex s hs
 have : isNm s = b := by
  unfold isNm
  cases b with
  | true => rw [if_pos h1]
  | false =>
   rw [if_neg]
   intro h
   have := h.unique h1
   simp at this
 rw [this]
 exact ⟨h1, h2⟩

structure LimOk (x : DLimit) : Prop where
 nm : isNm x.1 = true
 ll : -1000000000 ≤ x.2.1 ∧ x.2.1 ≤ 1000000000
 l : -1000000000 ≤ x.2.2.1 ∧ x.2.2.1 ≤ 1000000000
 h : -1000000000 ≤ x.2.2.2.1 ∧ x.2.2.2.1 ≤ 1000000000
 hh : -1000000000 ≤ x.2.2.2.2.1 ∧ x.2.2.2.2.1 ≤ 1000000000
 o1 : x.2.1 ≤ x.2.2.1
 o2 : x.2.2.1 ≤ x.2.2.2.1
 o3 : x.2.2.2.1 ≤ x.2.2.2.2.1
 cnt : 1 ≤ x.2.2.2.2.2.1 ∧ x.2.2.2.2.2.1 ≤ 100
 clr : 1 ≤ x.2.2.2.2.2.2.1 ∧ x.2.2.2.2.2.2.1 ≤ 100
 bk : 0 ≤ x.2.2.2.2.2.2.2 ∧ x.2.2.2.2.2.2.2 ≤ 1000000000
def LCond (l : List DLimit) (i : Nat) : Prop := LimOk (l.getD i (Ty.dflt YLimit)) ∧ (0 < i → lessS (l.getD (i - 1) (Ty.dflt YLimit)).1 (l.getD i (Ty.dflt YLimit)).1 = true)
def LimsOk (l : List DLimit) : Prop := l.length ≤ 200 ∧ ∀ j, j < l.length → LCond l j
theorem limits_ev (l : List DLimit) (hn : ∀ x ∈ l, x.1.length ≤ 140737488351232) : ∃ c, Ev (fun k => monitor_CheckLimits.f k l) (c, ()) ∧ (c = 0 ↔ LimsOk l) := by
 by_cases h0 : 200 < (l.length : Int)
 ·refine ⟨2, Ev.eq (fun k => by rw [monitor_CheckLimits.f_eq]) (Ev.yes (by simpa using h0) (Ev.now _)), ?_⟩
  constructor
  ·intro h; cases h
  ·intro h; have := h.1; omega
 obtain ⟨c, c1, c2⟩ := chk_loop l (by omega) (g := fun k i => monitor_CheckLimits.c0 k l l (l.length : Int) i) (fun k i => monitor_CheckLimits.c0_eq _ _ _ _ _) (LCond l) (fun i hi => by
  simp only [Int.toNat_natCast]
  have hm := getD_mem (z := Ty.dflt YLimit) hi
  have hnx := hn _ hm
  unfold LCond
  generalize l.getD i (Ty.dflt YLimit) = x at *
  obtain ⟨nv, nl⟩ := name_ev x.1 hnx
  by_cases h1 : isNm x.1 = true
  case neg => exact .inl ⟨5, by omega, fun h => h1 h.1.nm, Ev.bind nv (Ev.yes (by simpa using h1) (Ev.now _))⟩
  -- the four numbers
  have four : ∀ {r : Int × Unit}, (∀ j : Nat, j < 4 → -1000000000 ≤ [x.2.1, x.2.2.1, x.2.2.2.1, x.2.2.2.2.1].getD j 0 ∧ [x.2.1, x.2.2.1, x.2.2.2.1, x.2.2.2.2.1].getD j 0 ≤ 1000000000) →
   Ev (fun k => if (decide (x.2.2.1 < x.2.1)) = true then some (8, ()) else if (decide (x.2.2.2.1 < x.2.2.1)) = true then some (8, ()) else if (decide (x.2.2.2.2.1 < x.2.2.2.1)) = true then some (8, ()) else monitor_CheckLimits.c2 k l i x.1 x.2.1 x.2.2.1 x.2.2.2.1 x.2.2.2.2.1 x.2.2.2.2.2.1 x.2.2.2.2.2.2.1 x.2.2.2.2.2.2.2 l (l.length : Int) i) r →
   Ev (fun k => monitor_CheckLimits.c1 k l i x.1 x.2.1 x.2.2.1 x.2.2.2.1 x.2.2.2.2.1 x.2.2.2.2.2.1 x.2.2.2.2.2.2.1 x.2.2.2.2.2.2.2 l (l.length : Int) i [x.2.1, x.2.2.1, x.2.2.2.1, x.2.2.2.2.1] 4 0) r := fun {r} hall next => by
   have lp : ∀ (d j : Nat), j + d = 4 → Ev (fun k => monitor_CheckLimits.c1 k l i x.1 x.2.1 x.2.2.1 x.2.2.2.1 x.2.2.2.2.1 x.2.2.2.2.2.1 x.2.2.2.2.2.2.1 x.2.2.2.2.2.2.2 l (l.length : Int) i [x.2.1, x.2.2.1, x.2.2.2.1, x.2.2.2.2.1] 4 j) r := by
    intro d
    induction d with
    | zero =>
     intro j hj
     refine Ev.step (fun k => by rw [monitor_CheckLimits.c1_eq]) (Ev.no (by simp; omega) next)
    | succ d ih =>
     intro j hj
     refine Ev.step (fun k => by rw [monitor_CheckLimits.c1_eq]) (Ev.yes (by simp; omega) (Ev.yes (by simp; omega) ?_))
     simp only [in_ev, Option.bind_some, Int.toNat_natCast]
     refine Ev.no (by rw [decide_eq_true (hall j (by omega))]; simp) ?_
     rw [w64 (by omega) (by omega)]
     exact ih (j + 1) (by omega)
   exact lp 4 0 rfl
  have fail : ∀ (j : Nat), j < 4 → ¬ (-1000000000 ≤ [x.2.1, x.2.2.1, x.2.2.2.1, x.2.2.2.2.1].getD j 0 ∧ [x.2.1, x.2.2.1, x.2.2.2.1, x.2.2.2.2.1].getD j 0 ≤ 1000000000) → Ev (fun k => monitor_CheckLimits.c1 k l i x.1 x.2.1 x.2.2.1 x.2.2.2.1 x.2.2.2.2.1 x.2.2.2.2.2.1 x.2.2.2.2.2.2.1 x.2.2.2.2.2.2.2 l (l.length : Int) i [x.2.1, x.2.2.1, x.2.2.2.1, x.2.2.2.2.1] 4 0) (1, ()) := fun j0 hj0 hbad => by
   have lp : ∀ (d j : Nat), j + d = j0 → Ev (fun k => monitor_CheckLimits.c1 k l i x.1 x.2.1 x.2.2.1 x.2.2.2.1 x.2.2.2.2.1 x.2.2.2.2.2.1 x.2.2.2.2.2.2.1 x.2.2.2.2.2.2.2 l (l.length : Int) i [x.2.1, x.2.2.1, x.2.2.2.1, x.2.2.2.2.1] 4 j) (1, ()) := by
    intro d
    induction d with
    | zero =>
     intro j hj
     obtain rfl : j = j0 := by omega
     refine Ev.step (fun k => by rw [monitor_CheckLimits.c1_eq]) (Ev.yes (by simp; omega) (Ev.yes (by simp; omega) ?_))
     simp only [in_ev, Option.bind_some, Int.toNat_natCast]
     exact Ev.yes (by rw [decide_eq_false hbad]; rfl) (Ev.now _)
    | succ d ih =>
     intro j hj
     refine Ev.step (fun k => by rw [monitor_CheckLimits.c1_eq]) (Ev.yes (by simp; omega) (Ev.yes (by simp; omega) ?_))
     simp only [in_ev, Option.bind_some, Int.toNat_natCast]
     refine Ev.split (fun _ => Ev.now _) (fun _ => ?_)
     rw [w64 (by omega) (by omega)]
     exact ih (j + 1) (by omega)
   exact lp j0 0 (by omega)
  by_cases f0 : -1000000000 ≤ x.2.1 ∧ x.2.1 ≤ 1000000000
  case neg => exact .inl ⟨1, by omega, fun h => f0 h.1.ll, Ev.bind nv (Ev.no (by simp [h1]) (fail 0 (by omega) f0))⟩
  by_cases f1 : -1000000000 ≤ x.2.2.1 ∧ x.2.2.1 ≤ 1000000000
  case neg => exact .inl ⟨1, by omega, fun h => f1 h.1.l, Ev.bind nv (Ev.no (by simp [h1]) (fail 1 (by omega) f1))⟩
  by_cases f2 : -1000000000 ≤ x.2.2.2.1 ∧ x.2.2.2.1 ≤ 1000000000
  case neg => exact .inl ⟨1, by omega, fun h => f2 h.1.h, Ev.bind nv (Ev.no (by simp [h1]) (fail 2 (by omega) f2))⟩
  by_cases f3 : -1000000000 ≤ x.2.2.2.2.1 ∧ x.2.2.2.2.1 ≤ 1000000000
  case neg => exact .inl ⟨1, by omega, fun h => f3 h.1.hh, Ev.bind nv (Ev.no (by simp [h1]) (fail 3 (by omega) f3))⟩
  have hall : ∀ j : Nat, j < 4 → -1000000000 ≤ [x.2.1, x.2.2.1, x.2.2.2.1, x.2.2.2.2.1].getD j 0 ∧ [x.2.1, x.2.2.1, x.2.2.2.1, x.2.2.2.2.1].getD j 0 ≤ 1000000000 := fun j hj => by
   match j, hj with
   | 0, _ => exact f0
   | 1, _ => exact f1
   | 2, _ => exact f2
   | 3, _ => exact f3
  by_cases g1 : x.2.2.1 < x.2.1
  ·exact .inl ⟨8, by omega, fun h => by have := h.1.o1; omega, Ev.bind nv (Ev.no (by simp [h1]) (four hall (Ev.yes (by simpa using g1) (Ev.now _))))⟩
  by_cases g2 : x.2.2.2.1 < x.2.2.1
  ·exact .inl ⟨8, by omega, fun h => by have := h.1.o2; omega, Ev.bind nv (Ev.no (by simp [h1]) (four hall (Ev.no (by simpa using g1) (Ev.yes (by simpa using g2) (Ev.now _)))))⟩
  by_cases g3 : x.2.2.2.2.1 < x.2.2.2.1
  ·exact .inl ⟨8, by omega, fun h => by have := h.1.o3; omega, Ev.bind nv (Ev.no (by simp [h1]) (four hall (Ev.no (by simpa using g1) (Ev.no (by simpa using g2) (Ev.yes (by simpa using g3) (Ev.now _))))))⟩
  have go : ∀ {r : Int × Unit}, Ev (fun k => monitor_CheckLimits.c2 k l i x.1 x.2.1 x.2.2.1 x.2.2.2.1 x.2.2.2.2.1 x.2.2.2.2.2.1 x.2.2.2.2.2.2.1 x.2.2.2.2.2.2.2 l (l.length : Int) i) r → Ev (fun k => (monitor_IsName.f k x.1).bind fun r1 => if (!r1.1) = true then some (5, ()) else monitor_CheckLimits.c1 k l i x.1 x.2.1 x.2.2.1 x.2.2.2.1 x.2.2.2.2.1 x.2.2.2.2.2.1 x.2.2.2.2.2.2.1 x.2.2.2.2.2.2.2 l (l.length : Int) i [x.2.1, x.2.2.1, x.2.2.2.1, x.2.2.2.2.1] 4 0) r := fun {r} h => Ev.bind nv (Ev.no (by simp [h1]) (four hall (Ev.no (by simpa using g1) (Ev.no (by simpa using g2) (Ev.no (by simpa using g3) h)))))
  by_cases h2 : 1 ≤ x.2.2.2.2.2.1 ∧ x.2.2.2.2.2.1 ≤ 100
  case neg =>
   refine .inl ⟨1, by omega, fun h => h2 h.1.cnt, go (Ev.step (fun k => by rw [monitor_CheckLimits.c2_eq]) ?_)⟩
   simp only [in_ev, Option.bind_some]
   exact Ev.yes (by rw [decide_eq_false h2]; rfl) (Ev.now _)
  by_cases h3 : 1 ≤ x.2.2.2.2.2.2.1 ∧ x.2.2.2.2.2.2.1 ≤ 100
  case neg =>
   refine .inl ⟨1, by omega, fun h => h3 h.1.clr, go (Ev.step (fun k => by rw [monitor_CheckLimits.c2_eq]) ?_)⟩
   simp only [in_ev, Option.bind_some]
   exact Ev.no (by simp [h2]) (Ev.yes (by rw [decide_eq_false h3]; rfl) (Ev.now _))
  by_cases h4 : 0 ≤ x.2.2.2.2.2.2.2 ∧ x.2.2.2.2.2.2.2 ≤ 1000000000
  case neg =>
   refine .inl ⟨1, by omega, fun h => h4 h.1.bk, go (Ev.step (fun k => by rw [monitor_CheckLimits.c2_eq]) ?_)⟩
   simp only [in_ev, Option.bind_some]
   exact Ev.no (by simp [h2]) (Ev.no (by simp [h3]) (Ev.yes (by rw [decide_eq_false h4]; rfl) (Ev.now _)))
  have ok : LimOk x := ⟨h1, f0, f1, f2, f3, by omega, by omega, by omega, h2, h3, h4⟩
  have go2 : ∀ {r : Int × Unit}, Ev (fun k => monitor_CheckLimits.c3 k l i x.1 x.2.1 x.2.2.1 x.2.2.2.1 x.2.2.2.2.1 x.2.2.2.2.2.1 x.2.2.2.2.2.2.1 x.2.2.2.2.2.2.2 l (l.length : Int) i) r → Ev (fun k => (monitor_IsName.f k x.1).bind fun r1 => if (!r1.1) = true then some (5, ()) else monitor_CheckLimits.c1 k l i x.1 x.2.1 x.2.2.1 x.2.2.2.1 x.2.2.2.2.1 x.2.2.2.2.2.1 x.2.2.2.2.2.2.1 x.2.2.2.2.2.2.2 l (l.length : Int) i [x.2.1, x.2.2.1, x.2.2.2.1, x.2.2.2.2.1] 4 0) r := fun {r} h => go (r := r) (Ev.step (fun k => by rw [monitor_CheckLimits.c2_eq]) (by
   simp only [in_ev, Option.bind_some]
   exact Ev.no (by simp [h2]) (Ev.no (by simp [h3]) (Ev.no (by simp [h4]) h))))
  by_cases hi0 : 0 < i
  ·have hw : IntKind.wrap .i64 ((i : Int) - 1) = ((i - 1 : Nat) : Int) := by rw [w64 (by omega) (by omega)]; omega
   by_cases hls : lessS (l.getD (i - 1) (Ty.dflt YLimit)).1 x.1 = true
   ·refine .inr ⟨⟨ok, fun _ => hls⟩, fun r hr => go2 (Ev.step (fun k => by rw [monitor_CheckLimits.c3_eq]) (Ev.yes (by simpa using hi0) (Ev.yes (by rw [hw]; omega) ?_)))⟩
    rw [hw, Int.toNat_natCast]
    exact Ev.no (by rw [hls]; simp) hr
   ·refine .inl ⟨8, by omega, fun h => hls (h.2 hi0), go2 (Ev.step (fun k => by rw [monitor_CheckLimits.c3_eq]) (Ev.yes (by simpa using hi0) (Ev.yes (by rw [hw]; omega) ?_)))⟩
    rw [hw, Int.toNat_natCast]
    exact Ev.yes (by rw [eq_false_of_ne_true hls]; rfl) (Ev.now _)
  ·exact .inr ⟨⟨ok, fun h => absurd h hi0⟩, fun r hr => go2 (Ev.step (fun k => by rw [monitor_CheckLimits.c3_eq]) (Ev.no (by simpa using hi0) hr))⟩)
 refine ⟨c, Ev.eq (fun k => by rw [monitor_CheckLimits.f_eq]) (Ev.no (by simpa using h0) c1), c2.trans ⟨fun h => ⟨by omega, h⟩, fun h => h.2⟩⟩

structure SamOk (x : DSample) : Prop where
 at_ : 0 ≤ x.1 ∧ x.1 ≤ 1000000000000
 nm : isNm x.2.1 = true
 v : -1000000000 ≤ x.2.2 ∧ x.2.2 ≤ 1000000000
def bef (a b : DSample) : Prop := a.1 < b.1 ∨ (a.1 = b.1 ∧ lessS a.2.1 b.2.1 = true)
theorem bef_trans {a b c : DSample} (h1 : bef a b) (h2 : bef b c) : bef a c := by
 rcases h1 with h1 | ⟨h1, k1⟩ <;> rcases h2 with h2 | ⟨h2, k2⟩
 ·exact .inl (by omega)
 ·exact .inl (by omega)
 ·exact .inl (by omega)
 ·exact .inr ⟨by omega, less_trans k1 k2⟩
def SCond (l : List DSample) (i : Nat) : Prop := SamOk (l.getD i (Ty.dflt YSample)) ∧ (0 < i → bef (l.getD (i - 1) (Ty.dflt YSample)) (l.getD i (Ty.dflt YSample)))
def SamsOk (l : List DSample) : Prop := l.length ≤ 5000 ∧ (∀ x ∈ l, SamOk x) ∧ l.Pairwise bef
theorem chain_pair {α : Type} {R : α → α → Prop} (tr : ∀ a b c, R a b → R b c → R a c) (z : α) : ∀ (l : List α), (∀ j, j < l.length → 0 < j → R (l.getD (j - 1) z) (l.getD j z)) ↔ l.Pairwise R
 | [] => by simp
 | [x] => by simp
 | x :: y :: l => by
  have ih := chain_pair tr z (y :: l)
  constructor
  ·intro h
   have h1 := ih.1 (fun j hj hj0 => by
    have := h (j + 1) (by simp at hj ⊢; omega) (by omega)
    obtain ⟨i, rfl⟩ : ∃ i, j = i + 1 := ⟨j - 1, by omega⟩
    simpa using this)
   have h0 : R x y := by simpa using h 1 (by simp) (by omega)
   rw [List.pairwise_cons]
   refine ⟨fun b hb => ?_, h1⟩
   rcases List.mem_cons.1 hb with rfl | hb
   ·exact h0
   ·exact tr _ _ _ h0 ((List.pairwise_cons.1 h1).1 b hb)
  ·intro h j hj hj0
   rw [List.pairwise_cons] at h
   by_cases h1 : j = 1
   ·subst h1; simpa using h.1 y (by simp)
   ·obtain ⟨i, rfl⟩ : ∃ i, j = i + 2 := ⟨j - 2, by omega⟩
    have := ih.2 h.2 (i + 1) (by simp at hj ⊢; omega) (by omega)
    simpa using this
theorem sconds {l : List DSample} (hl : l.length ≤ 5000) : (∀ j, j < l.length → SCond l j) ↔ SamsOk l := by
 unfold SamsOk
 rw [← chain_pair (R := bef) (fun _ _ _ h1 h2 => bef_trans h1 h2) (Ty.dflt YSample) l]
 constructor
 ·intro h
  refine ⟨hl, fun x hx => ?_, fun j hj hj0 => (h j hj).2 hj0⟩
  obtain ⟨j, hj, rfl⟩ := List.getElem_of_mem hx
  have := (h j hj).1
  rwa [getD_nat _ _ j hj] at this
 ·intro ⟨_, h1, h2⟩ j hj
  exact ⟨h1 _ (getD_mem hj), h2 j hj⟩
theorem before_ev (k : Nat) (a b : DSample) : ∃ r, monitor_before.f k a b = some (r, ()) ∧ (r = true ↔ bef a b) := by
 rw [monitor_before.f_eq]
 unfold bef
 by_cases h1 : a.1 < b.1
 ·exact ⟨true, by simp [h1], by simp [h1]⟩
 ·by_cases h2 : a.1 = b.1
  ·exact ⟨lessS a.2.1 b.2.1, by simp [h1, h2], by simp [h1, h2]⟩
  ·exact ⟨false, by simp [h1, h2], by simp [h1, h2]⟩
theorem samples_ev (l : List DSample) (hn : ∀ x ∈ l, x.2.1.length ≤ 140737488351232) : ∃ c, Ev (fun k => monitor_CheckSamples.f k l) (c, ()) ∧ (c = 0 ↔ SamsOk l) := by
 by_cases h0 : 5000 < (l.length : Int)
 ·refine ⟨2, Ev.eq (fun k => by rw [monitor_CheckSamples.f_eq]) (Ev.yes (by simpa using h0) (Ev.now _)), ?_⟩
  constructor
  ·intro h; cases h
  ·intro h; have := h.1; omega
 obtain ⟨c, c1, c2⟩ := chk_loop l (by omega) (g := fun k i => monitor_CheckSamples.c0 k l l (l.length : Int) i) (fun k i => monitor_CheckSamples.c0_eq _ _ _ _ _) (SCond l) (fun i hi => by
  simp only [Int.toNat_natCast]
  have hm := getD_mem (z := Ty.dflt YSample) hi
  have hnx := hn _ hm
  unfold SCond
  generalize l.getD i (Ty.dflt YSample) = x at *
  obtain ⟨nv, nl⟩ := name_ev x.2.1 hnx
  simp only [in_ev, Option.bind_some]
  by_cases h1 : 0 ≤ x.1 ∧ x.1 ≤ 1000000000000
  case neg => exact .inl ⟨1, by omega, fun h => h1 h.1.at_, Ev.yes (by rw [decide_eq_false h1]; rfl) (Ev.now _)⟩
  by_cases h2 : isNm x.2.1 = true
  case neg => exact .inl ⟨5, by omega, fun h => h2 h.1.nm, Ev.no (by simp [h1]) (Ev.bind nv (Ev.yes (by simpa using h2) (Ev.now _)))⟩
  by_cases h3 : -1000000000 ≤ x.2.2 ∧ x.2.2 ≤ 1000000000
  case neg => exact .inl ⟨1, by omega, fun h => h3 h.1.v, Ev.no (by simp [h1]) (Ev.bind nv (Ev.no (by simp [h2]) (Ev.yes (by rw [decide_eq_false h3]; rfl) (Ev.now _))))⟩
  by_cases hi0 : 0 < i
  ·have hw : IntKind.wrap .i64 ((i : Int) - 1) = ((i - 1 : Nat) : Int) := by rw [w64 (by omega) (by omega)]; omega
   have be : ∃ r, (∀ k, monitor_before.f k (l.getD (i - 1) (Ty.dflt YSample)) x = some (r, ())) ∧ (r = true ↔ bef (l.getD (i - 1) (Ty.dflt YSample)) x) := by
    obtain ⟨r, r1, r2⟩ := before_ev 0 (l.getD (i - 1) (Ty.dflt YSample)) x
    refine ⟨r, fun k => ?_, r2⟩
    rw [monitor_before.f_eq] at r1 ⊢
    exact r1
   obtain ⟨r, r1, r2⟩ := be
   by_cases hb : r = true
   ·refine .inr ⟨⟨⟨h1, h2, h3⟩, fun _ => r2.1 hb⟩, fun q hq => Ev.no (by simp [h1]) (Ev.bind nv (Ev.no (by simp [h2]) (Ev.no (by simp [h3]) (Ev.yes (by simpa using hi0) (Ev.yes (by rw [hw]; omega) ?_)))))⟩
    rw [hw, Int.toNat_natCast]
    simp only [r1, Option.bind_some]
    exact Ev.no (by simp [hb]) hq
   ·refine .inl ⟨8, by omega, fun h => hb (r2.2 (h.2 hi0)), Ev.no (by simp [h1]) (Ev.bind nv (Ev.no (by simp [h2]) (Ev.no (by simp [h3]) (Ev.yes (by simpa using hi0) (Ev.yes (by rw [hw]; omega) ?_)))))⟩
    rw [hw, Int.toNat_natCast]
    simp only [r1, Option.bind_some]
    exact Ev.yes (by simp [hb]) (Ev.now _)
  ·exact .inr ⟨⟨⟨h1, h2, h3⟩, fun h => absurd h hi0⟩, fun q hq => Ev.no (by simp [h1]) (Ev.bind nv (Ev.no (by simp [h2]) (Ev.no (by simp [h3]) (Ev.no (by simpa using hi0) hq))))⟩)
 refine ⟨c, Ev.eq (fun k => by rw [monitor_CheckSamples.f_eq]) (Ev.no (by simpa using h0) c1), c2.trans (sconds (by omega))⟩
end Go.Proofs.Ytodnfnnfjnnhmaa.Pure

-- YtodnfnnfjnnhmaaQ2
set_option linter.unusedVariables false
set_option linter.unusedSimpArgs false
namespace Go.Proofs.Ytodnfnnfjnnhmaa.Pure
open Go Go.Proofs.Ytodnfnnfjnnhmaa.A

def st (x : DLimit) (v : Int) : Int := if v < x.2.1 then 2 else if x.2.2.2.2.1 < v then 2 else if v < x.2.2.1 then 1 else if x.2.2.2.1 < v then 1 else 0
theorem state_ev (k : Nat) (x : DLimit) (v : Int) : monitor_state.f k x v = some (st x v, ()) := by
 rw [monitor_state.f_eq]
 unfold st
 simp only [decide_eq_true_eq]
 split
 ·rfl
 ·split
  ·rfl
  ·split
   ·rfl
   ·split <;> rfl
theorem st_rng (x : DLimit) (v : Int) : 0 ≤ st x v ∧ st x v ≤ 2 := by
 unfold st
 repeat' split
 all_goals omega
abbrev cntOf (x : DLimit) : Int := x.2.2.2.2.2.1
abbrev clrOf (x : DLimit) : Int := x.2.2.2.2.2.2.1
abbrev bkOf (x : DLimit) : Int := x.2.2.2.2.2.2.2
def best (x : DLimit) (l : List Int) : Int := (l.drop (l.length - (cntOf x).toNat)).foldl mnI 2
def worst (x : DLimit) (l : List Int) : Int := (l.drop (l.length - (clrOf x).toNat)).foldl mxI 0
def far (x : DLimit) (v : Int) : Int := mxI (st x (v - bkOf x)) (st x (v + bkOf x))
def second (x : DLimit) (now : Int) (bare out : List Int) : Dfollower := if clrOf x ≤ out.length ∧ worst x out < now then (x, (worst x out, (bare, out))) else (x, (now, (bare, out)))
def stp (f : Dfollower) (v : Int) : Dfollower :=
 if cntOf f.1 ≤ ((f.2.2.1 ++ [st f.1 v]).length : Int) ∧ f.2.1 < best f.1 (f.2.2.1 ++ [st f.1 v]) then (f.1, (best f.1 (f.2.2.1 ++ [st f.1 v]), (f.2.2.1 ++ [st f.1 v], f.2.2.2 ++ [far f.1 v])))
 else second f.1 f.2.1 (f.2.2.1 ++ [st f.1 v]) (f.2.2.2 ++ [far f.1 v])
theorem getD_drop (z : Int) (l : List Int) (i lo : Nat) : l.getD (i + lo) z = (l.drop lo).getD i z := by
 rw [List.getD_eq_getElem?_getD, List.getD_eq_getElem?_getD, List.getElem?_drop, Nat.add_comm]
def fin2 (x : DLimit) (now w : Int) (bare out : List Int) : Dfollower := if w < now then (x, (w, (bare, out))) else (x, (now, (bare, out)))
def fin0 (x : DLimit) (now w : Int) (bare out : List Int) : Dfollower := if now < w then (x, (w, (bare, out))) else second x now bare out
theorem step_c2 (x : DLimit) (now : Int) (bare out : List Int) (lo : Nat) (hl : out.length ≤ 1000000) : ∀ (d i : Nat) (a : Int), i + d = (out.drop lo).length →
 Ev (fun k => monitor_follower_step.c2 k x.1 x.2.1 x.2.2.1 x.2.2.2.1 x.2.2.2.2.1 x.2.2.2.2.2.1 x.2.2.2.2.2.2.1 x.2.2.2.2.2.2.2 now bare out a ((out.drop lo).length : Int) i lo) (fin2 x now (((out.drop lo).drop i).foldl mxI a) bare out, ())
 | 0, i, a, hd => by
  refine Ev.step (fun k => by rw [monitor_follower_step.c2_eq]) (Ev.no (by simp; simp at hd; omega) ?_)
  rw [List.drop_of_length_le (by omega), List.foldl_nil]
  unfold fin2
  simp only [decide_eq_true_eq]
  exact Ev.split (fun h => by rw [if_pos h]; exact Ev.now _) (fun h => by rw [if_neg h]; exact Ev.now _)
 | d + 1, i, a, hd => by
  have hlen : (out.drop lo).length ≤ 1000000 := by rw [List.length_drop]; omega
  refine Ev.step (fun k => by rw [monitor_follower_step.c2_eq]) (Ev.yes (by rw [decide_eq_true_eq]; omega) (Ev.yes (by rw [Int.toNat_natCast]; omega) ?_))
  rw [Int.toNat_natCast, Int.toNat_natCast, getD_drop, getD_nat 0 _ i (by omega), w64 (by omega) (by omega)]
  have ih := step_c2 x now bare out lo hl d (i + 1) (mxI a (out.drop lo)[i]) (by omega)
  rw [List.drop_eq_getElem_cons (show i < (out.drop lo).length by omega), List.foldl_cons]
  exact ih
theorem step_c1 (x : DLimit) (ok : LimOk x) (now : Int) (bare out : List Int) (hl : out.length ≤ 1000000) :
 Ev (fun k => monitor_follower_step.c1 k x.1 x.2.1 x.2.2.1 x.2.2.2.1 x.2.2.2.2.1 x.2.2.2.2.2.1 x.2.2.2.2.2.2.1 x.2.2.2.2.2.2.2 now bare out) (second x now bare out, ()) := by
 have c := ok.clr
 refine Ev.step (fun k => by rw [monitor_follower_step.c1_eq]) ?_
 rw [w64 (x := (out.length : Int) - x.2.2.2.2.2.2.1) (by omega) (by omega)]
 simp only [decide_eq_true_eq]
 unfold second worst clrOf
 refine Ev.split (fun h => Ev.yes (by omega) ?_) (fun h => ?_)
 ·obtain ⟨lo, hlo⟩ : ∃ lo : Nat, (out.length : Int) - x.2.2.2.2.2.2.1 = lo := ⟨((out.length : Int) - x.2.2.2.2.2.2.1).toNat, (Int.toNat_of_nonneg h).symm⟩
  have e : out.length - (x.2.2.2.2.2.2.1).toNat = lo := by omega
  rw [hlo, Int.toNat_natCast, e]
  have := step_c2 x now bare out lo hl _ 0 0 (show 0 + (out.drop lo).length = _ by omega)
  rw [List.drop_zero] at this
  unfold fin2 at this
  by_cases hw : (out.drop lo).foldl mxI 0 < now
  ·rw [if_pos hw] at this
   rw [if_pos ⟨by omega, hw⟩]; exact this
  ·rw [if_neg hw] at this
   rw [if_neg (fun h => hw h.2)]; exact this
 ·rw [if_neg (by omega)]
  exact Ev.now _
theorem step_c0 (x : DLimit) (ok : LimOk x) (now : Int) (bare out : List Int) (lo : Nat) (hl : bare.length ≤ 1000000) (hl2 : out.length ≤ 1000000) : ∀ (d i : Nat) (a : Int), i + d = (bare.drop lo).length →
 Ev (fun k => monitor_follower_step.c0 k x.1 x.2.1 x.2.2.1 x.2.2.2.1 x.2.2.2.2.1 x.2.2.2.2.2.1 x.2.2.2.2.2.2.1 x.2.2.2.2.2.2.2 now bare out a ((bare.drop lo).length : Int) i lo) (fin0 x now (((bare.drop lo).drop i).foldl mnI a) bare out, ())
 | 0, i, a, hd => by
  refine Ev.step (fun k => by rw [monitor_follower_step.c0_eq]) (Ev.no (by simp; simp at hd; omega) ?_)
  rw [List.drop_of_length_le (by omega), List.foldl_nil]
  unfold fin0
  simp only [decide_eq_true_eq]
  exact Ev.split (fun h => by rw [if_pos h]; exact Ev.now _) (fun h => by rw [if_neg h]; exact step_c1 x ok now bare out hl2)
 | d + 1, i, a, hd => by
  have hlen : (bare.drop lo).length ≤ 1000000 := by rw [List.length_drop]; omega
  refine Ev.step (fun k => by rw [monitor_follower_step.c0_eq]) (Ev.yes (by rw [decide_eq_true_eq]; omega) (Ev.yes (by rw [Int.toNat_natCast]; omega) ?_))
  rw [Int.toNat_natCast, Int.toNat_natCast, getD_drop, getD_nat 0 _ i (by omega), w64 (by omega) (by omega)]
  have ih := step_c0 x ok now bare out lo hl hl2 d (i + 1) (mnI a (bare.drop lo)[i]) (by omega)
  rw [List.drop_eq_getElem_cons (show i < (bare.drop lo).length by omega), List.foldl_cons]
  exact ih
theorem step_ev (f : Dfollower) (v : Int) (ok : LimOk f.1) (hv : -1000000000 ≤ v ∧ v ≤ 1000000000) (hb : f.2.2.1.length ≤ 100000) (ho : f.2.2.2.length ≤ 100000) : Ev (fun k => monitor_follower_step.f k f v) (stp f v, ()) := by
 obtain ⟨x, now, bare, out⟩ := f
 simp only at ok hb ho
 have c := ok.cnt
 have b := ok.bk
 refine Ev.eq (fun k => by rw [monitor_follower_step.f_eq]) ?_
 simp only [state_ev, Option.bind_some]
 rw [w64 (x := v - x.2.2.2.2.2.2.2) (by omega) (by omega), w64 (x := v + x.2.2.2.2.2.2.2) (by omega) (by omega)]
 refine Ev.yes (by omega) (Ev.yes (by omega) ?_)
 have hlen : (bare ++ [st x v]).length ≤ 1000000 := by rw [List.length_append, List.length_singleton]; omega
 have hlen2 : (out ++ [far x v]).length ≤ 1000000 := by rw [List.length_append, List.length_singleton]; omega
 unfold stp
 simp only
 show Ev _ (if cntOf x ≤ ((bare ++ [st x v]).length : Int) ∧ now < best x (bare ++ [st x v]) then _ else _, ())
 have hf : mxI (st x (v - x.2.2.2.2.2.2.2)) (st x (v + x.2.2.2.2.2.2.2)) = far x v := rfl
 rw [hf]
 generalize bare ++ [st x v] = B at *
 generalize out ++ [far x v] = O at *
 rw [w64 (x := (B.length : Int) - x.2.2.2.2.2.1) (by omega) (by omega)]
 simp only [decide_eq_true_eq]
 unfold best cntOf
 refine Ev.split (fun h => Ev.yes (by omega) ?_) (fun h => ?_)
 ·obtain ⟨lo, hlo⟩ : ∃ lo : Nat, (B.length : Int) - x.2.2.2.2.2.1 = lo := ⟨((B.length : Int) - x.2.2.2.2.2.1).toNat, (Int.toNat_of_nonneg h).symm⟩
  have e : B.length - (x.2.2.2.2.2.1).toNat = lo := by omega
  rw [hlo, Int.toNat_natCast, e]
  have := step_c0 x ok now B O lo hlen hlen2 _ 0 2 (show 0 + (B.drop lo).length = _ by omega)
  rw [List.drop_zero] at this
  unfold fin0 at this
  by_cases hw : now < (B.drop lo).foldl mnI 2
  ·rw [if_pos hw] at this
   rw [if_pos ⟨by omega, hw⟩]; exact this
  ·rw [if_neg hw] at this
   rw [if_neg (fun h => hw h.2)]; exact this
 ·rw [if_neg (by omega)]
  exact step_c1 x ok now B O hlen2
theorem stp_x (f : Dfollower) (v : Int) : (stp f v).1 = f.1 ∧ (stp f v).2.2.1 = f.2.2.1 ++ [st f.1 v] ∧ (stp f v).2.2.2 = f.2.2.2 ++ [far f.1 v] := by
 unfold stp second
 split
 ·exact ⟨rfl, rfl, rfl⟩
 ·split <;> exact ⟨rfl, rfl, rfl⟩
theorem mn_rng : ∀ (l : List Int) (a : Int), (∀ s ∈ l, 0 ≤ s ∧ s ≤ 2) → 0 ≤ a ∧ a ≤ 2 → 0 ≤ l.foldl mnI a ∧ l.foldl mnI a ≤ 2 ∧ l.foldl mxI a ≤ 2 ∧ 0 ≤ l.foldl mxI a
 | [], a, _, h => ⟨h.1, h.2, h.2, h.1⟩
 | s :: l, a, h, ha => by
  have hs := h s (by simp)
  have h1 := mn_rng l (mnI a s) (fun y hy => h y (by simp [hy])) (by unfold mnI; split <;> omega)
  have h2 := mn_rng l (mxI a s) (fun y hy => h y (by simp [hy])) (by unfold mxI; split <;> omega)
  exact ⟨h1.1, h1.2.1, h2.2.2.1, h2.2.2.2⟩
structure FOk (f : Dfollower) : Prop where
 now : 0 ≤ f.2.1 ∧ f.2.1 ≤ 2
 bare : ∀ s ∈ f.2.2.1, 0 ≤ s ∧ s ≤ 2
 out : ∀ s ∈ f.2.2.2, 0 ≤ s ∧ s ≤ 2
theorem far_rng (x : DLimit) (v : Int) : 0 ≤ far x v ∧ far x v ≤ 2 := by
 have h1 := st_rng x (v - bkOf x)
 have h2 := st_rng x (v + bkOf x)
 unfold far mxI
 split <;> omega
theorem stp_ok {f : Dfollower} (h : FOk f) (v : Int) : FOk (stp f v) := by
 obtain ⟨e1, e2, e3⟩ := stp_x f v
 have hb : ∀ s ∈ f.2.2.1 ++ [st f.1 v], 0 ≤ s ∧ s ≤ 2 := fun s hs => by
  rcases List.mem_append.1 hs with hs | hs
  ·exact h.bare s hs
  ·simp at hs; subst hs; exact st_rng _ _
 have ho : ∀ s ∈ f.2.2.2 ++ [far f.1 v], 0 ≤ s ∧ s ≤ 2 := fun s hs => by
  rcases List.mem_append.1 hs with hs | hs
  ·exact h.out s hs
  ·simp at hs; subst hs; exact far_rng _ _
 refine ⟨?_, by rw [e2]; exact hb, by rw [e3]; exact ho⟩
 have r1 := mn_rng ((f.2.2.1 ++ [st f.1 v]).drop ((f.2.2.1 ++ [st f.1 v]).length - (cntOf f.1).toNat)) 2 (fun s hs => hb s (List.mem_of_mem_drop hs)) (by omega)
 have r2 := mn_rng ((f.2.2.2 ++ [far f.1 v]).drop ((f.2.2.2 ++ [far f.1 v]).length - (clrOf f.1).toNat)) 0 (fun s hs => ho s (List.mem_of_mem_drop hs)) (by omega)
 unfold stp second
 split
 ·exact ⟨r1.1, r1.2.1⟩
 ·split
  ·exact ⟨r2.2.2.2, r2.2.2.1⟩
  ·exact h.now

def new (x : DLimit) : Dfollower := (x, (0, ([], [])))
def tr (x : DLimit) (vs : List Int) : Dfollower := vs.foldl stp (new x)
theorem tr_snoc (x : DLimit) (vs : List Int) (v : Int) : tr x (vs ++ [v]) = stp (tr x vs) v := by
 unfold tr; rw [List.foldl_append]; rfl
theorem tr_facts (x : DLimit) : ∀ (n : Nat) (vs : List Int), vs.length = n → (tr x vs).1 = x ∧ (tr x vs).2.2.1 = vs.map (st x) ∧ (tr x vs).2.2.2 = vs.map (far x) ∧ FOk (tr x vs)
 | 0, vs, h => by
  have := List.eq_nil_of_length_eq_zero h
  subst this
  exact ⟨rfl, rfl, rfl, ⟨⟨Int.le_refl _, (by show (0 : Int) ≤ 2; omega)⟩, fun _ h => (by cases h), fun _ h => (by cases h)⟩⟩
 | n + 1, vs, h => by
  rcases List.eq_nil_or_concat vs with rfl | ⟨us, v, rfl⟩
  ·simp at h
  ·simp at h
   obtain ⟨h1, h2, h3, h4⟩ := tr_facts x n us h
   rw [List.concat_eq_append, tr_snoc]
   obtain ⟨e1, e2, e3⟩ := stp_x (tr x us) v
   refine ⟨e1.trans h1, ?_, ?_, stp_ok h4 v⟩
   ·rw [e2, h2, h1, List.map_append]; rfl
   ·rw [e3, h3, h1, List.map_append]; rfl
def nowOf (x : DLimit) (vs : List Int) : Int := (tr x vs).2.1
def vals (p : List UInt8) (s : List DSample) : List Int := (s.filter fun y => decide (y.2.1 = p)).map (·.2.2)
theorem vals_snoc (p : List UInt8) (s : List DSample) (y : DSample) : vals p (s ++ [y]) = vals p s ++ (if y.2.1 = p then [y.2.2] else []) := by
 unfold vals
 rw [List.filter_append, List.map_append]
 congr 1
 by_cases h : y.2.1 = p <;> simp [h]
theorem vals_len (p : List UInt8) (s : List DSample) : (vals p s).length ≤ s.length := by
 unfold vals
 rw [List.length_map]
 exact List.length_filter_le _ _
def limOf (l : List DLimit) (p : List UInt8) : Option DLimit := l.find? fun x => decide (x.1 = p)
end Go.Proofs.Ytodnfnnfjnnhmaa.Pure

-- YtodnfnnfjnnhmaaQ3
set_option linter.unusedVariables false
set_option linter.unusedSimpArgs false
namespace Go.Proofs.Ytodnfnnfjnnhmaa.Pure
open Go Go.Proofs.Ytodnfnnfjnnhmaa.A

abbrev FMap := List (List UInt8 × Option Dfollower)
def bx (M : FMap) (p : List UInt8) : Option Dfollower := mapGet .str (.ptr Yfollower) p M none
theorem eqS (a b : List UInt8) : eqV .str a b = decide (a = b) := rfl
theorem bx_put (p q : List UInt8) (v : Option Dfollower) : ∀ M : FMap, bx (mapPut .str (.ptr Yfollower) q v M) p = if p = q then v else bx M p
 | [] => by
  unfold bx
  simp only [mapPut, mapGet, eqS, decide_eq_true_eq]
  by_cases h : q = p
  ·subst h; simp
  ·have : ¬ p = q := fun e => h e.symm
   rw [if_neg h, if_neg this]
 | e :: M => by
  have ih := bx_put p q v M
  unfold bx at ih ⊢
  simp only [mapPut, eqS, decide_eq_true_eq]
  by_cases h : e.1 = q
  ·rw [if_pos h]
   simp only [mapGet, eqS, decide_eq_true_eq]
   by_cases h2 : q = p
   ·subst h2; simp
   ·have : ¬ p = q := fun e => h2 e.symm
    rw [if_neg h2, if_neg this, if_neg (by rw [h]; exact h2)]
  ·rw [if_neg h]
   simp only [mapGet, eqS, decide_eq_true_eq]
   by_cases h2 : e.1 = p
   ·have : ¬ p = q := fun e2 => h (h2.trans e2)
    rw [if_pos h2, if_pos h2, if_neg this]
   ·rw [if_neg h2, if_neg h2]; exact ih
theorem has_bx (M : FMap) (p : List UInt8) : hasBox .str Yfollower p M = (bx M p).isSome := rfl
theorem box_bx {M : FMap} {p : List UInt8} {f : Dfollower} (h : bx M p = some f) : boxOf .str Yfollower p M = f := by
 have h' : mapGet .str (.ptr Yfollower) p M none = some f := h
 unfold boxOf
 rw [h']; rfl

theorem lims_sorted {l : List DLimit} (h : LimsOk l) : l.Pairwise fun a b => lessS a.1 b.1 = true :=
 (chain_pair (R := fun a b : DLimit => lessS a.1 b.1 = true) (fun _ _ _ h1 h2 => less_trans h1 h2) (Ty.dflt YLimit) l).1 fun j hj hj0 => (h.2 j hj).2 hj0
theorem lims_all {l : List DLimit} (h : LimsOk l) : ∀ x ∈ l, LimOk x := fun x hx => by
 obtain ⟨j, hj, rfl⟩ := List.getElem_of_mem hx
 have := (h.2 j hj).1
 rwa [getD_nat _ _ j hj] at this
theorem limOf_some {l : List DLimit} {p : List UInt8} {x : DLimit} (h : limOf l p = some x) : x ∈ l ∧ x.1 = p :=
 ⟨List.mem_of_find?_eq_some h, by simpa using List.find?_some h⟩
theorem limOf_mem : ∀ {l : List DLimit}, (l.Pairwise fun a b => lessS a.1 b.1 = true) → ∀ {x : DLimit}, x ∈ l → limOf l x.1 = some x
 | y :: l, h, x, hx => by
  rw [List.pairwise_cons] at h
  unfold limOf
  by_cases e : y.1 = x.1
  ·rcases List.mem_cons.1 hx with rfl | hx
   ·simp
   ·exact absurd e (less_ne (h.1 x hx))
  ·rw [List.find?_cons_of_neg (by simpa using e)]
   rcases List.mem_cons.1 hx with rfl | hx
   ·exact absurd rfl e
   ·exact limOf_mem h.2 hx
theorem followers_ev (l : List DLimit) (h : LimsOk l) : ∃ M, Ev (fun k => monitor_followers.f k l) (M, ()) ∧ ∀ p, bx M p = (limOf l p).map new := by
 have hl := h.1
 have srt := lims_sorted h
 have g := Ev.rngR (σ := FMap) (Ty.dflt YLimit) l (by omega) (g := fun k M i => monitor_followers.c0 k M l (l.length : Int) i) (fun k M i => monitor_followers.c0_eq _ _ _ _ _)
  (fun i M => ∀ p, bx M p = (limOf (l.take i) p).map new) (fun r => ∀ p, bx r.1 p = (limOf l p).map new) (fun M hM => by
   rw [List.take_length] at hM
   exact ⟨(M, ()), Ev.now _, hM⟩) (fun i x M hi hx hget? hget hw hM next => by
   simp only [Int.toNat_natCast, hget, hw]
   refine next _ fun p => ?_
   have ht : l.take (i + 1) = l.take i ++ [x] := by rw [List.take_add_one, hget?]; rfl
   have hd : l.drop i = x :: l.drop (i + 1) := by
    rw [List.drop_eq_getElem_cons hi]
    congr 1
    rw [List.getElem?_eq_getElem hi] at hget?
    exact Option.some.inj hget?
   have srt2 : (l.take i ++ x :: l.drop (i + 1)).Pairwise fun a b => lessS a.1 b.1 = true := by rw [← hd, List.take_append_drop]; exact srt
   rw [List.pairwise_append] at srt2
   rw [bx_put, hM p, ht]
   unfold limOf
   rw [List.find?_append]
   by_cases hp : p = x.1
   ·subst hp
    rw [if_pos rfl]
    have none_ : (l.take i).find? (fun y => decide (y.1 = x.1)) = none := by
     rw [List.find?_eq_none]
     intro y hy
     have := less_ne (srt2.2.2 y hy x (by simp))
     simpa using this
    rw [none_]
    simp [new]
   ·rw [if_neg hp]
    have : ¬ x.1 = p := fun e => hp e.symm
    simp [this]) 0 [] (by omega) (fun p => by simp [limOf, bx, mapGet])
 obtain ⟨⟨M, u⟩, h1, h2⟩ := g
 have h1 : Ev (fun k => monitor_followers.c0 k [] l (l.length : Int) 0) (M, u) := h1
 exact ⟨M, Ev.eq (fun k => by rw [monitor_followers.f_eq]) h1, h2⟩

def wordOf (n : Int) : List UInt8 := if n = 0 then [103, 111, 111, 100] else if n = 1 then [119, 97, 114, 110] else [97, 108, 97, 114, 109]
def one (l : List DLimit) (pre : List DSample) (y : DSample) : List DEvent := match limOf l y.2.1 with
 | none => []
 | some x => if nowOf x (vals x.1 (pre ++ [y])) = nowOf x (vals x.1 pre) then [] else [(y.1, (y.2.1 ++ [45]) ++ wordOf (nowOf x (vals x.1 (pre ++ [y]))))]
def upTo (t : Int) (s : List DSample) : List DSample := s.filter fun y => decide (y.1 ≤ t)
theorem upTo_snoc (t : Int) (s : List DSample) (y : DSample) : upTo t (s ++ [y]) = upTo t s ++ (if y.1 ≤ t then [y] else []) := by
 unfold upTo
 rw [List.filter_append]
 congr 1
 by_cases h : y.1 ≤ t <;> simp [h]
theorem states_ev (l : List DLimit) (s : List DSample) (t : Int) (hn : ∀ x ∈ l, x.1.length ≤ 140737488351232) (hs : ∀ x ∈ s, x.2.1.length ≤ 140737488351232) :
 ∃ c : Int, Ev (fun k => monitor_States.f k l s t) (if c = 0 then (l.map fun x => nowOf x (vals x.1 (upTo t s)), 0, ()) else ([], c, ())) ∧ (c = 0 ↔ LimsOk l ∧ SamsOk s ∧ (0 ≤ t ∧ t ≤ 1000000000000)) := by
 obtain ⟨c1, a1, a2⟩ := limits_ev l hn
 obtain ⟨c2, b1, b2⟩ := samples_ev s hs
 refine ⟨firstN [c1, c2, if 0 ≤ t ∧ t ≤ 1000000000000 then 0 else 1], ?_, ?_⟩
 rotate_left
 ·rw [firstN_zero]
  have : ((if 0 ≤ t ∧ t ≤ 1000000000000 then (0 : Int) else 1) = 0) ↔ (0 ≤ t ∧ t ≤ 1000000000000) := by
   split <;> simp_all
  simp [a2, b2, this]
 refine Ev.eq (fun k => by rw [monitor_States.f_eq]) (Ev.bind a1 (Ev.bind b1 ?_))
 simp only [range_ev, Option.bind_some]
 refine Ev.bind (first_ev [c1, c2, if 0 ≤ t ∧ t ≤ 1000000000000 then 0 else 1] (by simp)) ?_
 simp only [Bool.not_eq_true', decide_eq_false_iff_not]
 refine Ev.split (fun h => by rw [if_neg h]; exact Ev.now _) (fun h => ?_)
 have h : firstN [c1, c2, if 0 ≤ t ∧ t ≤ 1000000000000 then 0 else 1] = 0 := Classical.byContradiction h
 rw [if_pos h]
 have hz := firstN_zero.1 h
 have hL : LimsOk l := a2.1 (hz c1 (by simp))
 have hS : SamsOk s := b2.1 (hz c2 (by simp))
 obtain ⟨M0, f1, f2⟩ := followers_ev l hL
 refine Ev.bind f1 ?_
 have hsl := hS.1
 have hll := hL.1
 have srt := lims_sorted hL
 -- the second loop
 have last : ∀ M, (∀ p, bx M p = (limOf l p).map fun x => tr x (vals p (upTo t s))) → Ev (fun k => monitor_States.c1 k M [] l (l.length : Int) 0) (l.map fun x => nowOf x (vals x.1 (upTo t s)), 0, ()) := fun M hM => by
  have g := Ev.rng (σ := List Int) (Ty.dflt YLimit) l (by omega) (g := fun k T i => monitor_States.c1 k M T l (l.length : Int) i) (fun k T i => monitor_States.c1_eq _ _ _ _ _ _)
   (fun i T => T.length ≤ i) (fun r i T => (T ++ r.map (fun x => nowOf x (vals x.1 (upTo t s))), 0, ())) (fun T hT => by
    rw [List.map_nil, List.append_nil]; exact Ev.now _) (fun i x xs T hi hx hd hget hw hT next => by
    simp only [Int.toNat_natCast, hget, hw]
    have hb : bx M x.1 = some (tr x (vals x.1 (upTo t s))) := by rw [hM, limOf_mem srt hx]; rfl
    rw [has_bx, hb, box_bx hb]
    refine Ev.yes rfl (Ev.yes (by omega) (Ev.cast ?_ (next _ (by rw [List.length_append, List.length_singleton]; omega))))
    rw [List.map_cons, List.append_assoc]; rfl) 0 [] (by omega) (by simp)
  exact g
 have g := Ev.rng (σ := FMap) (Ty.dflt YSample) s (by omega) (g := fun k M i => monitor_States.c0 k l t M s (s.length : Int) i) (fun k M i => monitor_States.c0_eq _ _ _ _ _ _ _)
  (fun i M => ∀ p, bx M p = (limOf l p).map fun x => tr x (vals p (upTo t (s.take i)))) (fun r i M => (l.map fun x => nowOf x (vals x.1 (upTo t s)), 0, ())) (fun M hM => by
   rw [List.take_length] at hM
   exact last M hM) (fun i y ys M hi hy hd hget hw q1 next => by
   simp only [Int.toNat_natCast, hget, hw]
   have ht : s.take (i + 1) = s.take i ++ [y] := by
    rw [List.take_add_one]
    have : s[i]? = some y := by
     have := congrArg (fun l => l[0]?) hd
     simpa using this
    rw [this]; rfl
   have sok := hS.2.1 y hy
   have stay : (limOf l y.2.1 = none ∨ ¬ y.1 ≤ t) → ∀ p, bx M p = (limOf l p).map fun x => tr x (vals p (upTo t (s.take (i + 1)))) := fun hh p => by
    rw [q1 p, ht, upTo_snoc]
    rcases hh with hh | hh
    ·by_cases hp : y.2.1 = p
     ·rw [← hp, hh]; rfl
     ·split
      ·rw [vals_snoc, if_neg hp, List.append_nil]
      ·rw [List.append_nil]
    ·rw [if_neg hh, List.append_nil]
   rw [has_bx, q1 y.2.1]
   cases hx : limOf l y.2.1 with
   | none => exact Ev.no (by simp) (next M (stay (.inl hx)))
   | some x =>
    obtain ⟨xm, xn⟩ := limOf_some hx
    refine Ev.yes (by simp) ?_
    simp only [decide_eq_true_eq]
    refine Ev.split (fun hat => ?_) (fun hat => next M (stay (.inr hat)))
    have hb : bx M y.2.1 = some (tr x (vals y.2.1 (upTo t (s.take i)))) := by rw [q1, hx]; rfl
    obtain ⟨t1, t2, t3, t4⟩ := tr_facts x _ (vals y.2.1 (upTo t (s.take i))) rfl
    have vl := vals_len y.2.1 (upTo t (s.take i))
    have ul : (upTo t (s.take i)).length ≤ (s.take i).length := List.length_filter_le _ _
    rw [List.length_take] at ul
    rw [box_bx hb]
    refine Ev.bind (step_ev _ _ (by rw [t1]; exact lims_all hL x xm) sok.v (by rw [t2, List.length_map]; omega) (by rw [t3, List.length_map]; omega)) ?_
    refine next _ fun p => ?_
    rw [bx_put, ht, upTo_snoc, if_pos hat]
    by_cases hp : p = y.2.1
    ·subst hp
     rw [if_pos rfl, hx, vals_snoc, if_pos rfl]
     simp only [Option.map_some]
     rw [tr_snoc]
    ·rw [if_neg hp, q1 p, vals_snoc, if_neg (fun e => hp e.symm), List.append_nil]) 0 M0 (by omega) (fun p => by rw [f2 p]; rfl)
 exact g

theorem stateOf_ev (x : DLimit) (v : Int) (hn : x.1.length ≤ 140737488351232) : ∃ c : Int, Ev (fun k => monitor_StateOf.f k x v) (if c = 0 then (st x v, 0, ()) else (0, c, ())) ∧ (c = 0 ↔ LimsOk [x] ∧ (-1000000000 ≤ v ∧ v ≤ 1000000000)) := by
 obtain ⟨c1, a1, a2⟩ := limits_ev [x] (by simpa using hn)
 refine ⟨firstN [c1, if -1000000000 ≤ v ∧ v ≤ 1000000000 then 0 else 1], ?_, ?_⟩
 rotate_left
 ·rw [firstN_zero]
  have : ((if -1000000000 ≤ v ∧ v ≤ 1000000000 then (0 : Int) else 1) = 0) ↔ (-1000000000 ≤ v ∧ v ≤ 1000000000) := by
   split <;> simp_all
  simp [a2, this]
 refine Ev.eq (fun k => by rw [monitor_StateOf.f_eq]) (Ev.bind a1 ?_)
 simp only [range_ev, Option.bind_some]
 refine Ev.bind (first_ev [c1, if -1000000000 ≤ v ∧ v ≤ 1000000000 then 0 else 1] (by simp)) ?_
 simp only [Bool.not_eq_true', decide_eq_false_iff_not, state_ev, Option.bind_some]
 refine Ev.split (fun h => by rw [if_neg h]; exact Ev.now _) (fun h => ?_)
 have h : firstN [c1, if -1000000000 ≤ v ∧ v ≤ 1000000000 then 0 else 1] = 0 := Classical.byContradiction h
 rw [if_pos h]
 exact Ev.now _
theorem awake_at (k : Nat) : perigeelaw8_awake.f (k + 40) = some (true, ()) := by kernel_rfl
theorem awake_ev : Ev (fun k => perigeelaw8_awake.f k) (true, ()) := ⟨40, fun n hn => by
 obtain ⟨k, rfl⟩ : ∃ k, n = k + 40 := ⟨n - 40, by omega⟩
 exact awake_at k⟩
end Go.Proofs.Ytodnfnnfjnnhmaa.Pure

-- YtodnfnnfjnnhmaaPureLimitsPlainFollowValues
set_option linter.unusedVariables false
set_option linter.unusedSimpArgs false
namespace Go.Proofs.Ytodnfnnfjnnhmaa.Pure
open Go Go.Proofs.Ytodnfnnfjnnhmaa.A
theorem last_drop (l : List Int) (x : Int) : (l ++ [x]).drop ((l ++ [x]).length - (1 : Int).toNat) = [x] := by
 have : (l ++ [x]).length - (1 : Int).toNat = l.length := by simp
 rw [this, List.drop_left]
theorem now_last {x : DLimit} (hc : cntOf x = 1) (hr : clrOf x = 1) (hb : bkOf x = 0) (us : List Int) (v : Int) : nowOf x (us ++ [v]) = st x v := by
 obtain ⟨t1, t2, t3, t4⟩ := tr_facts x _ us rfl
 have r := st_rng x v
 have n := t4.now
 unfold nowOf
 rw [tr_snoc]
 generalize tr x us = f at *
 obtain ⟨y, now, bare, out⟩ := f
 simp only at t1 n
 subst t1
 have hbest : best y (bare ++ [st y v]) = st y v := by
  unfold best
  rw [hc, last_drop]
  simp only [List.foldl_cons, List.foldl_nil]
  unfold mnI; split <;> omega
 have hfar : far y v = st y v := by
  unfold far
  rw [hb, Int.sub_zero, Int.add_zero]
  unfold mxI; split <;> omega
 have hworst : worst y (out ++ [far y v]) = st y v := by
  unfold worst
  rw [hr, last_drop, hfar]
  simp only [List.foldl_cons, List.foldl_nil]
  unfold mxI; split <;> omega
 unfold stp second
 simp only
 rw [hbest, hworst, hc, hr]
 have l1 : (1 : Int) ≤ ((bare ++ [st y v]).length : Int) := by simp; omega
 have l2 : (1 : Int) ≤ ((out ++ [far y v]).length : Int) := by simp; omega
 by_cases h1 : now < st y v
 ·rw [if_pos ⟨l1, h1⟩]
 ·rw [if_neg (fun h => h1 h.2)]
  by_cases h2 : st y v < now
  ·rw [if_pos ⟨l2, h2⟩]
  ·rw [if_neg (fun h => h2 h.2)]
   show now = st y v
   omega
def sams (p : List UInt8) : Nat → List Int → List DSample
 | _, [] => []
 | i, v :: vs => ((i : Int), (p, v)) :: sams p (i + 1) vs
theorem sams_append (p : List UInt8) : ∀ (a b : List Int) (i : Nat), sams p i (a ++ b) = sams p i a ++ sams p (i + a.length) b
 | [], b, i => by simp [sams]
 | v :: a, b, i => by
  rw [List.cons_append, sams, sams, sams_append p a b (i + 1), List.length_cons, show i + 1 + a.length = i + (a.length + 1) by omega]; rfl
theorem sams_len (p : List UInt8) : ∀ (a : List Int) (i : Nat), (sams p i a).length = a.length
 | [], _ => rfl
 | v :: a, i => by rw [sams, List.length_cons, List.length_cons, sams_len p a (i + 1)]
theorem sams_mem (p : List UInt8) : ∀ (a : List Int) (i : Nat), ∀ y ∈ sams p i a, y.2.1 = p ∧ y.1 < (i : Int) + a.length ∧ y.2.2 ∈ a
 | [], _, y, h => by cases h
 | v :: a, i, y, h => by
  rw [sams] at h
  rcases List.mem_cons.1 h with rfl | h
  ·exact ⟨rfl, by simp; omega, by simp⟩
  ·obtain ⟨h1, h2, h3⟩ := sams_mem p a (i + 1) y h
   exact ⟨h1, by simp; omega, by simp [h3]⟩
theorem sams_vals (p : List UInt8) : ∀ (a : List Int) (i : Nat), vals p (sams p i a) = a
 | [], _ => rfl
 | v :: a, i => by
  have := sams_vals p a (i + 1)
  unfold vals at this ⊢
  rw [sams, List.filter_cons_of_pos (by simp), List.map_cons, this]
theorem sams_have (p : List UInt8) : ∀ (a : List Int) (i : Nat) (v : Int), v ∈ a → ∃ y ∈ sams p i a, y.2.2 = v
 | [], _, _, h => by cases h
 | u :: a, i, v, h => by
  rw [sams]
  rcases List.mem_cons.1 h with rfl | h
  ·exact ⟨((i : Int), (p, v)), by simp, rfl⟩
  ·obtain ⟨y, h1, h2⟩ := sams_have p a (i + 1) v h
   exact ⟨y, by simp [h1], h2⟩
theorem LimitsPlainFollowValues (x : DLimit) (vs : List Int) (h0 : okT YLimit x) (h1 : okT (.sl (.int .i64)) vs) (h2 : vs.length ≤ 1048576) : ∃ n, perigeelaw8_LimitsPlainFollowValues.f n x vs = some (true, ()) := by
 refine Ev.rounds (g := fun k => perigeelaw8_LimitsPlainFollowValues.f k x vs) ?_
 refine Ev.eq (fun k => by rw [perigeelaw8_LimitsPlainFollowValues.f_eq]) ?_
 have g := Ev.rng (σ := List DSample) (0 : Int) vs (by omega) (g := fun k T i => perigeelaw8_LimitsPlainFollowValues.c0 k vs x.1 x.2.1 x.2.2.1 x.2.2.2.1 x.2.2.2.2.1 1 1 0 T i) (fun k T i => perigeelaw8_LimitsPlainFollowValues.c0_eq _ _ _ _ _ _ _ _ _ _ _ _)
  (fun i T => T = sams x.1 0 (vs.take i)) (fun _ _ _ => (true, ())) (fun T hT => by
   rw [List.take_length] at hT
   subst hT
   have hx : ∀ z ∈ [((x.1, (x.2.1, (x.2.2.1, (x.2.2.2.1, (x.2.2.2.2.1, (1, (1, 0))))))) : DLimit)], z.1.length ≤ 140737488351232 := fun z hz => by simp at hz; subst hz; exact h0.1
   have hs : ∀ z ∈ sams x.1 0 vs, z.2.1.length ≤ 140737488351232 := fun z hz => by rw [(sams_mem x.1 vs 0 z hz).1]; exact h0.1
   obtain ⟨c, f1, f2⟩ := states_ev [(x.1, (x.2.1, (x.2.2.1, (x.2.2.2.1, (x.2.2.2.2.1, (1, (1, 0)))))))] (sams x.1 0 vs) (vs.length : Int) hx hs
   refine Ev.bind f1 ?_
   by_cases hc : c = 0
   case neg =>
    rw [if_neg hc]
    exact Ev.yes (by simpa using hc) (Ev.no (by simpa using hc) (Ev.yes rfl (Ev.bind awake_ev (Ev.now _))))
   obtain ⟨hL, hS, hA⟩ := f2.1 hc
   rw [if_pos hc]
   refine Ev.no (by simp) ?_
   simp only [decide_eq_true_eq]
   refine Ev.split (fun h => Ev.yes trivial (Ev.bind awake_ev (Ev.now _))) (fun h => ?_)
   rcases List.eq_nil_or_concat vs with rfl | ⟨us, v, rfl⟩
   ·exact absurd rfl h
   rw [List.concat_eq_append] at *
   have hup : upTo ((us ++ [v]).length : Int) (sams x.1 0 (us ++ [v])) = sams x.1 0 (us ++ [v]) := by
    unfold upTo
    rw [List.filter_eq_self]
    intro y hy
    have := (sams_mem x.1 (us ++ [v]) 0 y hy).2.1
    simpa using (by omega : y.1 ≤ ((us ++ [v]).length : Int))
   rw [hup]
   simp only [List.map_cons, List.map_nil, sams_vals]
   rw [now_last rfl rfl rfl]
   refine Ev.step (fun k => by rw [perigeelaw8_LimitsPlainFollowValues.c1_eq]) ?_
   have hw : IntKind.wrap .i64 (((us ++ [v]).length : Int) - 1) = (us.length : Int) := by
    rw [w64 (by omega) (by omega)]; simp
   rw [hw, Int.toNat_natCast]
   have hg : (us ++ [v]).getD us.length 0 = v := by simp [List.getD_eq_getElem?_getD]
   rw [hg]
   refine Ev.yes ⟨by omega, by simp; omega⟩ ?_
   obtain ⟨d, d1, d2⟩ := stateOf_ev (x.1, (x.2.1, (x.2.2.1, (x.2.2.2.1, (x.2.2.2.2.1, (1, (1, 0))))))) v h0.1
   obtain ⟨y, y1, y2⟩ := sams_have x.1 (us ++ [v]) 0 v (by simp)
   have hd : d = 0 := d2.2 ⟨hL, by rw [← y2]; exact (hS.2.1 y y1).v⟩
   rw [if_pos hd] at d1
   exact Ev.bind d1 (Ev.yes rfl (Ev.yes rfl (Ev.yes (by simp) (Ev.yes (by simp) (Ev.bind awake_ev (Ev.now _)))))) ) (fun i v xs T hi hx hd hget hw hT next => by
   simp only [Int.toNat_natCast, hget, hw]
   have ht : vs.take (i + 1) = vs.take i ++ [v] := by
    rw [List.take_add_one]
    have : vs[i]? = some v := by
     have := congrArg (fun l => l[0]?) hd
     simpa using this
    rw [this]; rfl
   have tl : T.length ≤ 1048576 := by
    rw [hT, sams_len, List.length_take]; omega
   refine Ev.yes (by omega) (next _ ?_)
   rw [ht, sams_append, hT]
   have : (vs.take i).length = i := by rw [List.length_take]; omega
   rw [this, Nat.zero_add]; rfl) 0 [] (by omega) (by rfl)
 exact g
end Go.Proofs.Ytodnfnnfjnnhmaa.Pure
