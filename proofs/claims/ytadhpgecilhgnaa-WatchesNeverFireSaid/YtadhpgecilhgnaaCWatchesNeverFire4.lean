/- a rule that never fires with some events does not fire when only these come; and without a ring few events end without ErrLoop -/
import Derived.Below
import Derived.ChangeArms
import Derived.ChangeSlices
import Derived.DataElems
import Derived.DataReads
import Derived.Ground.Names2Prog
import Derived.Laws.Strings
import Derived.Shelf.Slices.Cells
import Derived.Shelf.Slices.In.SortNone
import Derived.Shelf.Slices.ReverseS
import Derived.Shelf.Sort.Plain
import Derived.Shelf.Spec.SlicesInsertGrow
import Derived.SizedLaws
import Derived.Sort.EncStr
import Derived.Sort.Grow
import Derived.Test.YtadhpgecilhgnaaChecked
import Derived.Test.YtadhpgecilhgnaaProg
import Derived.WideShapes
import Derived.Test.YtadhpgecilhgnaaCWatchesNeverFire3
-- YtadhpgecilhgnaaPk2
set_option linter.unusedVariables false
set_option linter.unusedSimpArgs false
namespace Go.Proofs.Ytadhpgecilhgnaa.A
open Go
section
variable {P : Program} {B : Base} {m m' m0 m1 : Md} {H H' H1 : Hp} {w w' : World} {o : Oper} {a : Act} {E : Env} {tab : Nat → Option TI} {T : Nat → Option FunE} {L : List Nat} {Z Z1 Zf : Nat → Prop}

theorem cell_get {b off : Nat} {cs : List Value} {el : TypeId} {u : Value} (h : w.heap[b]? = some (.cells cs.toArray el (0, 0))) (hu : w.cell? ⟨b, off, none⟩ = some u) : cs[off]? = some u := by
 simp only [World.cell?, h] at hu
 simpa using hu
theorem only_only {L S : List Nat} (h : ∀ n ∈ S, n ∈ L) : only (only H L) S = only H S := by
 funext n
 unfold only
 cases hn : memN n S with
 | false => rfl
 | true =>
  simp only
  have := memN_iff.2 (h n (memN_iff.1 hn))
  rw [this]
theorem attach (hh : HOk B m H w) {id M g off : Nat} {ls : List LV} {k e : Ty} {mm : List (k.den × e.den)} {b : Nat} {c : Value} (hne : id ≠ M) (hx : H id = .live (.cells g ls)) (hM : H M = .live (.mapo k e mm)) (hoff : off < ls.length) (hb : m.hd id = .pointer (some ⟨b, 0, none⟩)) (hc : w.cell? ⟨b, off, none⟩ = some c) (hcm : c = m.hd M) :
 ∃ m1, Change B m H w [id, M] m1 (upd (upd H M .dead) id (.live (.cells (g + 1) (ls.set off (.v (.map k e) mm))))) w := by
 have hL : (H id).Live := by rw [hx]; trivial
 have hLM : (H M).Live := by rw [hM]; trivial
 have cr := hh.cr id
 rw [hx] at cr
 obtain ⟨b', el, cs, F', k1, k2, k3, k4⟩ := cr
 rw [hb] at k1; cases k1
 have crM := hh.cr M
 rw [hM] at crM
 have crM : Rep m.Z w (.map k e) mm [m.hd M] (m.ft M) := crM
 have hcs := cell_get k3 hc
 obtain ⟨F1, G, F2, u, f1, f2, f3, f4⟩ := RepL.takeC k4 (List.getElem?_eq_getElem hoff)
 obtain ⟨F3, F4, f5, f6⟩ := RepL.fillC (l := .junk) (l' := .v (.map k e) mm) (u := c) (G := m.ft M) f4 (by rw [List.getElem?_set, if_pos rfl, if_pos hoff]) (fun _ _ h => h) hcs (by rw [hcm]; exact crM)
 rw [List.set_set] at f6
 have hnd := hh.nd id hL
 rw [k2, List.nodup_cons, f1] at hnd
 have hndM := hh.nd M hLM
 have sub : ∀ z ∈ F3 ++ F4, z ∈ F1 ++ (G ++ F2) := fun z hz => by
  rw [← f5] at hz
  simp only [List.mem_append] at hz ⊢
  exact hz.imp_right .inr
 have hsub : ∀ z ∈ F3 ++ F4, z ∈ m.ft id := fun z hz => by rw [k2, f1]; exact List.mem_cons_of_mem _ (sub z hz)
 have nd2 : (F3 ++ F4).Nodup := by
  rw [← f5]
  exact hnd.2.sublist (List.Sublist.append (List.Sublist.refl _) (List.sublist_append_right _ _))
 have hp : (F3 ++ (m.ft M ++ F4)).Perm ((F3 ++ F4) ++ m.ft M) := by
  rw [List.append_assoc]
  exact List.Perm.append_left _ List.perm_append_comm
 exact ⟨_, Change.two (m := m) hh (id := id) (d := M) hne hL (ob := .cells (g + 1) (ls.set off (.v (.map k e) mm))) (c := .dead) (G1 := b :: (F3 ++ (m.ft M ++ F4))) (G2 := []) (hdr := m.hd M) (fun z hz => by
  rcases hz with hz | hz
  ·rcases List.mem_cons.1 hz with rfl | hz
   ·exact .inl (by rw [k2]; simp)
   ·rcases List.mem_append.1 (hp.subset hz) with hz | hz
    ·exact .inl (hsub z hz)
    ·exact .inr ⟨hLM, hz⟩
  ·cases hz) (by
  rw [List.nodup_cons]
  refine ⟨fun h => ?_, hp.nodup_iff.2 ?_⟩
  ·rcases List.mem_append.1 (hp.subset h) with h | h
   ·exact hnd.1 (sub b h)
   ·exact hh.sp id M hne hL hLM b (by rw [k2]; simp) h
  ·rw [List.nodup_append]
   exact ⟨nd2, hndM, fun x hx y hy e => hh.sp id M hne hL hLM x (hsub x hx) (e ▸ hy)⟩) (by simp) (fun h => h.elim)
  ⟨b, el, cs, _, hb, rfl, k3, f6⟩ trivial (EvoAt.cells_ hx (upd_same _ _ _) (Nat.lt_succ_self _) (upd_other _ _ hne) fun j hj => ⟨cst_set (by simp) hj, fun _ _ => rfl⟩) (fun _ => EvoAt.dead (by rw [upd_other _ _ (Ne.symm hne), upd_same]))⟩
theorem wMapUpdateP_ok (hT : TabOk P tab) (hh : HOk B m H w) {t : Nat} {x k y : Operand} (ho : o.op = .mapUpdate t x k y ∨ o.op = .insert t x k y) {X K Y : AV} (hX : AVRep m w H X (a.eval x)) (hK : AVRep m w H K (a.eval k)) (hY : AVRep m w H Y (a.eval y)) : WayOk P B m H w o a (wMapUpdateP tab t X K Y) := by
 unfold wMapUpdateP
 split
 ·rename_i mm id g0 off
  intro Q hQ
  simp only at hQ
  generalize hcore : wMapUpdateB tab t (.val false [.mapr mm]) K Y = core at hQ
  have hl := hX.one
  have call := wMapUpdateB_ok (a := a) (o := o) hT hh ho (X := .val false [.mapr mm]) (AVRep.mk1 (l := .mapr mm) hl.1) hK hY
  rw [hcore] at call
  split at hQ
  ·rename_i g ls hx
   have hx := live_of_only hx
   split at hQ
   ·rename_i hg hoff hid
    obtain rfl := Nat.eq_of_beq_eq_true hg
    have hoff : off < ls.length := by rwa [Nat.blt_eq] at hoff
    have hidn := memN_false.1 hid
    simp only [List.mem_cons, not_or] at hidn
    obtain ⟨hne, hidn⟩ := hidn
    have hQ := Tst.can_bind hQ
    rw [only_only (fun n hn => by rw [List.nil_append]; exact List.mem_cons_of_mem _ (List.mem_cons_of_mem _ hn))] at hQ
    obtain ⟨v, ups, hQ2, hop⟩ := call _ hQ
    simp only at hQ2
    split at hQ2
    ·rename_i k' e' m2' hmm hall
     refine ⟨_, _, hQ2, hop.mono fun v' w' ⟨m2, hh2, ev2, hv2⟩ => ?_⟩
     have hkeys := memN_all hall
     have hidk : id ∉ ups.map (·.1) := fun h => hidn (List.mem_append_right _ (hkeys id h))
     have H2M : putH H ups mm = .live (.mapo k' e' m2') := by
      by_cases hk : mm ∈ ups.map (·.1)
      ·rw [putH_indep (H' := only H ([] ++ id :: mm :: (core.rd ++ core.wr))) hk]; exact hmm
      ·rw [putH_notin hk] at hmm ⊢
       exact live_of_only hmm
     have H2i : putH H ups id = .live (.cells g ls) := by rw [putH_notin hidk]; exact hx
     have hl2 : LRep m2 w' (putH H ups) (.mfl mm id g off) (a.eval x) := LRep.evo ev2 hl
     obtain ⟨b, q1, q2⟩ := hl2.2.2.2 ls H2i
     obtain ⟨m3, ch⟩ := attach hh2 hne H2i H2M hoff q1 q2 (hl2.1.2.1 _ _ _ H2M)
     have hfin : putH H (ups ++ [(mm, .dead), (id, .live (.cells (g + 1) (ls.set off (.v (.map k' e') m2'))))]) = upd (upd (putH H ups) mm .dead) id (.live (.cells (g + 1) (ls.set off (.v (.map k' e') m2')))) := by
      rw [putH_append]
      simp only [putH]
     unfold After
     rw [hfin]
     exact ⟨m3, hh2.change ch, ev2.trans (hh2.evo ch), hv2.evo (hh2.evo ch)⟩
    ·exact hQ2.elim
   ·exact hQ.elim
  ·exact hQ.elim
 ·split
  ·exact wMapUpdateA_ok hT hh ho hX hK hY
  ·exact wMapUpdateB_ok hT hh ho hX hK hY
 ·exact wMapUpdateB_ok hT hh ho hX hK hY

theorem leaves_Z {ls : List LV} {cs : List Value} {F : List Nat} (hz : ∀ b, Z b → Z1 b) (h : RepL (OL1 Z w) ls cs F) : RepL (OL1 Z1 w) ls cs F := by
 refine RepL.mono (fun l c F hx => ?_) h
 obtain ⟨u, g1, g2⟩ := hx
 refine ⟨u, g1, ?_⟩
 cases l <;> first | exact g2 | exact Rep.frame (fun _ _ => rfl) hz (fun _ _ => rfl) g2
theorem melt (hh : HOk B m H w) {id M g off : Nat} {ls : List LV} {l' : LV} {b : Nat} {c : Value} (hne : id ≠ M) (hx : H id = .live (.cells g ls)) (hLM : (H M).Live) (hl : ls[off]? = some .cst) (hb : m.hd id = .pointer (some ⟨b, 0, none⟩)) (hc : w.cell? ⟨b, off, none⟩ = some c) (hnc : l' ≠ .cst)
 (hr : OL (fun z => m.Z z ∨ z ∈ m.ft M) w l' c []) :
 ∃ m1, Change B m H w [id, M] m1 (upd (upd H M .dead) id (.live (.cells (g + 1) (ls.set off l')))) w := by
 have hL : (H id).Live := by rw [hx]; trivial
 have cr := hh.cr id
 rw [hx] at cr
 obtain ⟨b', el, cs, F', k1, k2, k3, k4⟩ := cr
 rw [hb] at k1; cases k1
 have hcs := cell_get k3 hc
 obtain ⟨F3, F4, f5, f6⟩ := RepL.fillC (l := .cst) (l' := l') (u := c) (G := []) (leaves_Z (Z1 := fun z => m.Z z ∨ z ∈ m.ft M) (fun _ h => .inl h) k4) hl (fun _ _ h => h) hcs hr
 have f6 : RepL (OL1 (fun z => m.Z z ∨ z ∈ m.ft M) w) (ls.set off l') cs F' := by rw [f5]; exact f6
 have hi : upd (upd H M .dead) id (.live (.cells (g + 1) (ls.set off l'))) id = .live (.cells (g + 1) (ls.set off l')) := upd_same _ _ _
 have hM : upd (upd H M .dead) id (.live (.cells (g + 1) (ls.set off l'))) M = .dead := by rw [upd_other _ _ (Ne.symm hne), upd_same]
 refine ⟨⟨fun z => m.Z z ∨ z ∈ m.ft M, m.hd, m.ft⟩, { os := rfl, tape := rfl, output := rfl, size := Nat.le_refl _, un := fun i hi' => ?_, blk := fun _ _ _ => rfl, zs := fun _ h => .inl h, zi := fun z hz => ?_, cr := fun i hi' => ?_, ft := fun i hi' hl z hz => ?_, nd := fun i hi' hl => ?_, sp := fun i hi' j hj' hij hli hlj z hz => ?_, at_ := fun i hi' hab => ?_ }⟩
 ·simp only [List.mem_cons, List.not_mem_nil, or_false, not_or] at hi'
  exact ⟨by rw [upd_other _ _ hi'.1, upd_other _ _ hi'.2], rfl, rfl⟩
 ·exact hz.imp_right fun hz => .inl ⟨⟨M, by simp, hLM, hz⟩, (hh.nz M hLM z hz).2.1⟩
 ·simp only [List.mem_cons, List.not_mem_nil, or_false] at hi'
  rcases hi' with rfl | rfl
  ·rw [hi]
   exact ⟨b, el, cs, F', hb, k2, k3, f6⟩
  ·rw [hM]; trivial
 ·simp only [List.mem_cons, List.not_mem_nil, or_false] at hi'
  rcases hi' with rfl | rfl
  ·exact ⟨fun hz' => hz'.elim (hh.nz i hL z hz).1 fun hz' => hh.sp i M hne hL hLM z hz hz', .inl ⟨i, by simp, hL, hz⟩⟩
  ·rw [hM] at hl; exact hl.elim
 ·simp only [List.mem_cons, List.not_mem_nil, or_false] at hi'
  rcases hi' with rfl | rfl
  ·exact hh.nd i hL
  ·rw [hM] at hl; exact hl.elim
 ·simp only [List.mem_cons, List.not_mem_nil, or_false] at hi' hj'
  rcases hi' with rfl | rfl
  ·rcases hj' with rfl | rfl
   ·exact absurd rfl hij
   ·rw [hM] at hlj; exact hlj.elim
  ·rw [hM] at hli; exact hli.elim
 ·simp only [List.mem_cons, List.not_mem_nil, or_false] at hi'
  rcases hi' with rfl | rfl
  ·exact EvoAt.cells_ hx hi (Nat.lt_succ_self _) rfl fun j hj => ⟨cst_set hnc hj, fun _ _ => rfl⟩
  ·exact EvoAt.dead hM
theorem St.ghost {ch : List Nat} (s : St B m E H a w) (c : Change B m H w ch m' H' w) : St B m' E H' a w := ⟨s.h.change c, fun t => (s.t t).evo (s.h.evo c), s.d⟩
theorem pack1_ok (s : St B m E H a w) {id off M : Nat} {b : Bool} {τ : Ty} (hp : ∀ g ls, H id = .live (.cells g ls) → ls[off]? = some .cst → ∃ bb u, m.hd id = .pointer (some ⟨bb, 0, none⟩) ∧ w.cell? ⟨bb, off, none⟩ = some u ∧ LPin m H M b u) :
 ∃ m', St B m' E (pack1 H id off M b τ) a w := by
 unfold pack1
 split
 ·rename_i g ls hx
  split
  ·rename_i hl hM
   split
   ·rename_i hne
    obtain ⟨bb, u, q1, q2, q3⟩ := hp g ls hx hl
    obtain ⟨m1, ch⟩ := attach s.h hne hx hM (List.getElem?_eq_some_iff.1 hl).1 q1 q2 (q3.2.1 _ _ _ hM)
    exact ⟨m1, s.ghost ch⟩
   ·exact ⟨m, s⟩
  ·rename_i hl hM
   split
   ·rename_i hne
    obtain ⟨bb, u, q1, q2, q3⟩ := hp g ls hx hl
    have cr := s.h.cr M
    rw [hM] at cr
    have r := Rep.map_fmap (Z := m.Z) (Z' := fun z => m.Z z ∨ z ∈ m.ft M) cr (fun _ h => .inl h) fun z hz => .inr hz
    rw [← q3.2.1 _ _ _ hM] at r
    obtain ⟨m1, ch⟩ := melt s.h hne hx (by rw [hM]; trivial) hl q1 q2 (l' := .v (.fmap _ _) _) (by simp) r
    exact ⟨m1, s.ghost ch⟩
   ·exact ⟨m, s⟩
  ·rename_i hl hM
   split
   ·rename_i hne
    obtain ⟨bb, u, q1, q2, q3⟩ := hp g ls hx hl
    have cr := s.h.cr M
    rw [hM] at cr
    obtain ⟨bm, ents, clock, F', k1, k2, k3, k4, k5⟩ := cr
    obtain ⟨m1, ch⟩ := melt s.h hne.2 hx (by rw [hM]; trivial) hl q1 q2 (l' := .v (.fmap _ (.sl _)) _) (by simp) (by
     rw [q3.2 _ _ _ _ _ hM]
     refine ⟨rfl, bm, ents, clock, by rw [k1], .inr (by rw [k2]; simp), k3, k4, ?_⟩
     exact rows_frozen hne.1 (Z := m.Z) (fun _ h => .inl h) (fun z hz => .inr (by rw [k2]; simp [hz])) k5)
    exact ⟨m1, s.ghost ch⟩
   ·exact ⟨m, s⟩
  ·exact ⟨m, s⟩
 ·exact ⟨m, s⟩
theorem packs_ok {id : Nat} {ts : List Ty} {t : Nat} {ps0 : List (Nat × Nat × Bool)} (he : E t = .val false [.pptr id 0 ps0]) : ∀ {ps : List (Nat × Nat × Bool)} {m : Md} {H : Hp}, (∀ q ∈ ps, q ∈ ps0) → St B m E H a w → ∃ m', St B m' E (packs id ts H ps) a w
 | [], m, H, _, s => ⟨m, s⟩
 | q :: ps, m, H, h, s => by
  have ht := s.t t
  rw [he] at ht
  obtain ⟨m1, s1⟩ := pack1_ok (τ := ts.getD q.1 .unit) s fun g ls hx hl => ht.one.2.2 q (h q (by simp)) g ls hx hl
  show ∃ m', St B m' E (packs id ts (pack1 H id q.1 q.2.1 q.2.2 (ts.getD q.1 .unit)) ps) a w
  exact packs_ok he (fun q hq => h q (by simp [hq])) s1
theorem packR_ok : ∀ {outs : List Ty} {vs : List ResultVar} {m : Md} {H : Hp}, St B m E H a w → ∃ m', St B m' E (packR E outs vs H) a w
 | [], _, m, H, s => ⟨m, by simpa [packR] using s⟩
 | τ :: outs, [], m, H, s => ⟨m, by cases τ <;> simpa [packR] using s⟩
 | τ :: outs, v :: vs, m, H, s => by
  have plain : packR E (τ :: outs) (v :: vs) H = packR E outs vs H → ∃ m', St B m' E (packR E (τ :: outs) (v :: vs) H) a w := fun e => by
   rw [e]; exact packR_ok s
  cases τ with
  | ptr e =>
   cases v with
   | tmp t =>
    unfold packR
    split
    ·rename_i id ps he
     obtain ⟨m1, s1⟩ := packs_ok (ts := leafTys e) he (fun q h => h) s
     exact packR_ok s1
    ·exact packR_ok s
   | cell _ _ => exact plain rfl
  | _ => exact plain rfl
end
end Go.Proofs.Ytadhpgecilhgnaa.A

-- YtadhpgecilhgnaaFn4
set_option linter.unusedVariables false
set_option linter.unusedSimpArgs false
namespace Go.Proofs.Ytadhpgecilhgnaa.A
open Go
section
variable {P : Program} {B : Base} {m m' m0 : Md} {H H' : Hp} {w w' : World} {o : Oper} {a : Act} {E : Env} {tab : Nat → Option TI} {N : Nat}

structure PInv (B : Base) (Z : Nat → Prop) (w : World) (vals : Nat → Value) (t0 : Nat) (m : Md) (es : List (Nat × AV)) (hs : List (Nat × Cell)) (F : List Nat) : Prop where
 h : HOk B m (ofL .absent hs) w
 z : m.Z = Z
 t : ∀ k, AVRep m w (ofL .absent hs) (ofL .junk es k) (vals k)
 own : ∀ k, (ofL .absent hs k).Live → ∀ b ∈ m.ft k, b ∈ F
 ks : ∀ k ∈ hs.map (·.1), ∃ t, t0 ≤ t ∧ k = headId t
theorem pinv_put {m : Md} {H : Hp} {es : List (Nat × AV)} {vals : Nat → Value} (h : ∀ t, AVRep m w H (ofL .junk es t) (vals t)) {t0 : Nat} {v : AV} (hv : AVRep m w H v (vals t0)) (t : Nat) : AVRep m w H (ofL .junk ((t0, v) :: es) t) (vals t) := by
 rw [ofL_cons]
 by_cases ht : t = t0
 ·subst ht; rw [upd_same]; exact hv
 ·rw [upd_other _ _ ht]; exact h t
theorem par_plain {t : Nat} {τ : Ty} {x : τ.den} (h : τ.vecP = false) (hp : τ.pure = true) : parAV t false τ x = (.val (!τ.one) (flat τ x), []) := by
 cases τ <;> first | rfl | cases hp
theorem pars_ok {Z : Nat → Prop} (h0 : ∀ m : Md, m.Z = Z → HOk B m (fun _ => .absent) w) {vals : Nat → Value} : ∀ {ps : List (Bool × Ty)} {t : Nat} {x : (ps.foldr (fun p t => Ty.pair p.2 t) .unit).den} {vs : List Value} {F : List Nat},
 ArgsRep Z w ps x vs F → F.Nodup → (∀ b ∈ F, ¬ Z b ∧ b < w.heap.size ∧ (b < B.w.heap.size → b ∈ B.F)) → (ps.all fun p => p.1 || p.2.pure || p.2.vecP) = true → (∀ (i : Nat) (v : Value), vs[i]? = some v → vals (t + i) = v) →
 ∃ m, PInv B Z w vals t m (pars t ps x).1 (pars t ps x).2 F
 | [], t, x, vs, F, _, _, _, _, _ => ⟨{ Z := Z, hd := fun _ => undef, ft := fun _ => [] }, h0 _ rfl, rfl, fun _ => trivial, fun _ h => h.elim, by simp [pars]⟩
 | (io, τ) :: ps, t, x, vs, F, ⟨v, vs', F1, F2, h1, h2, h3, h4⟩, hn, hF, hk, hv => by
  subst h1; subst h2
  rw [List.all_cons, Bool.and_eq_true] at hk
  rw [List.nodup_append] at hn
  obtain ⟨m, K⟩ := pars_ok h0 (t := t + 1) h4 hn.2.1 (fun b hb => hF b (by simp [hb])) hk.2 (fun i v hi => by have := hv (i + 1) v (by simpa using hi); rwa [show t + (i + 1) = t + 1 + i by omega] at this)
  have hval : vals t = v := hv 0 v (by simp)
  have hfresh : ofL .absent (pars (t + 1) ps x.2).2 (headId t) = .absent := ofL_absent _ fun hm => by
   obtain ⟨t', h1, h2⟩ := K.ks _ hm
   have := headId_inj h2
   omega
  -- an object under this place's name
  have obj : ∀ {ob : Obj} {hdr : Value} {av : AV}, ORep Z w ob hdr F1 → parAV t io τ x.1 = (av, [(headId t, .live ob)]) → (∀ (m1 : Md) (H1 : Hp), m1.hd (headId t) = hdr → H1 (headId t) = .live ob → AVRep m1 w H1 av (vals t)) → ∃ m, PInv B Z w vals t m (pars t ((io, τ) :: ps) x).1 (pars t ((io, τ) :: ps) x).2 (F1 ++ F2) := by
   intro ob hdr av hr hp hav
   obtain ⟨q1, q2⟩ := K.h.add hfresh (by rw [K.z]; exact hr) hn.1 (fun b hb => by rw [K.z]; exact hF b (by simp [hb])) (fun j hj b hb hb' => hn.2.2 b hb' b (K.own j hj b hb) rfl)
   refine ⟨m.set (headId t) hdr F1, ?_⟩
   simp only [pars, hp, List.singleton_append]
   refine ⟨q1, K.z, pinv_put (fun k => (K.t k).evo q2) (hav _ _ (by simp only [Md.set]; rw [upd_same]) (upd_same _ _ _)), fun k hk b hb => ?_, fun k hk => ?_⟩
   ·by_cases hk0 : k = headId t
    ·subst hk0
     simp only [Md.set] at hb
     rw [upd_same] at hb
     simp [hb]
    ·rw [ofL_cons, upd_other _ _ hk0] at hk
     simp only [Md.set] at hb
     rw [upd_other _ _ hk0] at hb
     simp [K.own k hk b hb]
   ·simp only [List.map_cons, List.mem_cons] at hk
    rcases hk with rfl | hk
    ·exact ⟨t, Nat.le_refl _, rfl⟩
    ·obtain ⟨t', h1, h2⟩ := K.ks k hk
     exact ⟨t', by omega, h2⟩
  cases io with
  | true =>
   obtain ⟨b, el, cs, F', e1, e2, e3, e4⟩ := h3
   refine obj (ob := .cells 0 (flat τ x.1)) (hdr := .pointer (some ⟨b, 0, none⟩)) ⟨b, el, cs, F', rfl, e2, e3, flat_ok e4⟩ rfl fun m1 H1 h1 h2 => one_val ⟨by rw [h2]; simp, fun _ _ _ => ⟨b, h1, by rw [hval, e1]⟩⟩
  | false =>
   obtain ⟨cs, e1, e2⟩ := h3
   have hk1 : (τ.pure || τ.vecP) = true := by simpa using hk.1
   by_cases hve : τ.vecP = true
   ·cases τ with
    | vec e =>
     have e1 : cs = [v] := e1
     subst e1
     exact obj (ob := .row e x.1) (hdr := v) e2 rfl fun m1 H1 h1 h2 => one_val ⟨by rw [h2]; simp, fun _ _ _ => by rw [hval, h1], fun _ _ _ => by rw [hval, h1]⟩
    | _ => cases hve
   ·have hve : τ.vecP = false := by simpa using hve
    rw [hve, Bool.or_false] at hk1
    have hF1 := e2.pure hk1
    subst hF1
    refine ⟨m, ?_⟩
    simp only [pars, par_plain hve hk1, List.nil_append]
    refine ⟨K.h, K.z, pinv_put K.t ⟨cs, by rw [hval]; exact e1, flat_all2 (by rw [K.z]; exact e2)⟩, K.own, fun k hk => ?_⟩
    obtain ⟨t', h1, h2⟩ := K.ks k hk
    exact ⟨t', by omega, h2⟩

def resRun (tmps : Array Value) : ResultVar → Sem Value
 | .tmp t => pure (tmps.getD t undef)
 | .cell a t => do loadVar t (← asAddr (tmps.getD a undef))
theorem resVal_ok (hT : TabOk P tab) (s : St B m E H a w) {rv : ResultVar} {p : Bool × List LV} (h : resVal tab H E rv = some p) : ∃ u, (resRun a.tmps rv).run P w = .ok u w ∧ PRep m w H p u := by
 cases rv with
 | tmp t =>
  simp only [resVal] at h
  split at h
  ·rename_i g ls he
   cases h
   have := unpin_ok (s.t t)
   rw [he] at this
   exact ⟨_, by simp [resRun], this⟩
  ·cases h
 | cell ad t =>
  simp only [resVal] at h
  split at h
  ·rename_i i id hi he
   split at h
   ·rename_i g ls hx
    split at h
    ·rename_i hl
     cases h
     have hl := Nat.eq_of_beq_eq_true hl
     have ht := s.t ad
     rw [he] at ht
     obtain ⟨b, q1, q2⟩ := ht.one.2 _ _ hx
     have hc := s.h.cr id
     rw [hx] at hc
     obtain ⟨b', el, cs, F', k1, k2, k3, k4⟩ := hc
     rw [k1] at q1; cases q1
     have hcell : ∀ (j : Nat) (u : Value), cs[j]? = some u → w.cell? ⟨b, 0 + j, none⟩ = some u := fun j u hu => by
      simp only [World.cell?, k3]
      simpa using hu
     have hls := outLeaves_ok (m := m) (w := w) hx k1 0 k4 (fun j l hj => by simpa using hj) hcell
     have hlen : cs.length = i.ty.cells := by rw [k4.len (sz := 1) ol1_len, Nat.mul_one, hl]
     obtain ⟨v, r1, r2⟩ := load_ok (P := P) (w := w) hT hi (b := b) (p := 0) hlen hcell
     refine ⟨v, ?_, cs, r2, hls⟩
     simp only [resRun, q2, asAddr, Sem.run_bind, Sem.run_pure, Result.andThen_ok]
     simpa [Instr.loadAt, Instr.sureAddr] using r1
    ·cases h
   ·cases h
  ·cases h
theorem resVals_ok (hT : TabOk P tab) (s : St B m E H a w) : ∀ {rvs : List ResultVar} {rs : List (Bool × List LV)}, resVals tab H E rvs = some rs → ∃ us, (rvs.mapM (resRun a.tmps)).run P w = .ok us w ∧ All2 (PRep m w H) rs us
 | [], _, h => by cases h; exact ⟨[], by simp, trivial⟩
 | rv :: rvs, rs, h => by
  simp only [resVals] at h
  split at h
  ·rename_i p ps h1 h2
   cases h
   obtain ⟨u, u1, u2⟩ := resVal_ok hT s h1
   obtain ⟨us, v1, v2⟩ := resVals_ok hT s h2
   refine ⟨u :: us, ?_, u2, v2⟩
   simp [List.mapM_cons, u1, v1]
  ·cases h
theorem results_run {fn : Func} {us : List Value} (h : (fn.results.toList.mapM (resRun a.tmps)).run P w = .ok us w) : (results fn a.tmps).run P w = .ok (tupOf us) w := by
 have e : results fn a.tmps = (do let vs ← fn.results.mapM (resRun a.tmps); pure (if h : vs.size = 1 then vs[0] else .tuple vs)) := by
  unfold results
  congr 1
 rw [e, Array.mapM_eq_mapM_toList]
 simp only [Sem.run_bind, map_eq_pure_bind, h, Result.andThen_ok, Sem.run_pure]
 congr 1
 match us with
 | [] => rfl
 | [u] => rfl
 | u :: v :: us => simp [tupOf]
theorem resOne_ok {Zf : Nat → Prop} (hh : HOk B m H w) (hz : ∀ b, m.Z b → Zf b) {τ : Ty} {g : Bool} {ls : List LV} {x : τ.den} {v : Value} (h : resOne H τ g ls = some x) (hn : nnB H [τ] [(g, ls)] = true) (hv : PRep m w H (g, ls) v) (hr : ∀ id ∈ argRd false τ (.val g ls), (H id).Live → ∀ b ∈ m.ft id, Zf b) :
 (∃ cs, IsV (!τ.one) cs v ∧ Rep Zf w τ x cs ((ownArg false τ (.val g ls)).flatMap m.ft)) ∧ ∀ id ∈ ownArg false τ (.val g ls), (H id).Live := by
 unfold resOne at h
 split at h
 ·rename_i e id
  split at h
  ·rename_i e' xs hx
   unfold slAs at h
   split at h
   ·rename_i hp
    obtain ⟨he, hxs⟩ := castTo_eq h
    cases he
    have hxs : xs = x := hxs
    subst hxs
    have hne : xs ≠ [] := by
     intro e
     subst e
     simp [nnB, nnCell, hx] at hn
    have hL : (H id).Live := by rw [hx]; trivial
    have hv1 := AVRep.one (v := v) (m := m) (w := w) (H := H) (l := .row id) hv
    have hcr := hh.cr id
    rw [hx] at hcr
    refine ⟨⟨[v], rfl, ?_⟩, fun i hi => by simp [ownArg] at hi⟩
    have e1 := hv1.2.1 _ _ hx
    have r := Rep.vec_sl (Z' := Zf) hp hcr hz fun b hb => hr id (by simp [argRd, ownArg, slRds, slRd]) hL b hb
    rw [← e1] at r
    exact ⟨fun h => absurd h hne, r⟩
   ·cases h
  ·cases h
 ·rename_i e id
  split at h
  ·rename_i g0 ls hx
   split at h
   ·rename_i y hy
    cases h
    have hL : (H id).Live := by rw [hx]; trivial
    have hv1 := AVRep.one (v := v) (m := m) (w := w) (H := H) (l := .ptr id 0) hv
    obtain ⟨b, q1, q2⟩ := hv1.2 _ _ hx
    have hcr := hh.cr id
    rw [hx] at hcr
    obtain ⟨b', el, cs, F', k1, k2, k3, k4⟩ := hcr
    rw [k1] at q1; cases q1
    have r := Rep.frame (Z' := Zf) (fun _ _ => rfl) hz (fun _ _ => rfl) (asmAllO hy k4)
    refine ⟨⟨[v], rfl, ?_⟩, fun i hi => by simp [ownArg] at hi; rw [hi]; exact hL⟩
    simp only [ownArg, List.flatMap_cons, List.flatMap_nil, List.append_nil]
    exact ⟨b, el, cs, F', by rw [q2], k2, k3, r⟩
   ·cases h
  ·cases h
 ·cases h
  have hv1 := AVRep.one (v := v) (m := m) (w := w) (H := H) (l := .nilp) hv
  have hv1 : v = .pointer none := hv1
  exact ⟨⟨[v], rfl, by rw [hv1], rfl⟩, fun i hi => by simp [ownArg] at hi⟩
 ·exact ownIn_ok (Sub.refl H) hh hz h hv hr
theorem nnB_head {τ : Ty} {outs : List Ty} {p : Bool × List LV} {rs : List (Bool × List LV)} (h : nnB H (τ :: outs) (p :: rs) = true) : nnB H [τ] [p] = true ∧ nnB H outs rs = true := by
 unfold nnB at h
 split at h
 ·rename_i h1 h2
  cases h1; cases h2
  rw [Bool.and_eq_true] at h
  exact ⟨by simp [nnB, h.2], h.1⟩
 ·rename_i hne h1 h2
  cases h1; cases h2
  refine ⟨?_, h⟩
  unfold nnB
  split
  ·rename_i h3 h4
   cases h3; cases h4
   exact (hne _ _ _ rfl rfl).elim
  ·rename_i h3 h4
   cases h3; cases h4
   rfl
  ·rfl
 ·rename_i k1 k2
  first | exact (k1 _ _ _ _ rfl rfl).elim | exact (k2 _ _ _ _ rfl rfl).elim | exact (k1 _ _ _ _ rfl).elim | exact (k2 _ _ _ _ rfl).elim
theorem resIn_ok {Zf : Nat → Prop} (hh : HOk B m H w) (hz : ∀ b, m.Z b → Zf b) : ∀ {outs : List Ty} {rs : List (Bool × List LV)} {us : List Value} {x : (outs.foldr Ty.pair .unit).den}, resIn H outs rs = some x → nnB H outs rs = true → All2 (PRep m w H) rs us →
 (∀ id ∈ resRds outs rs, (H id).Live → ∀ b ∈ m.ft id, Zf b) → ResL Zf w outs x us ((resOwns outs rs).flatMap m.ft) ∧ ∀ id ∈ resOwns outs rs, (H id).Live
 | [], [], us, x, _, _, hv, _ => by
  have : us = [] := by cases us with | nil => rfl | cons _ _ => exact hv.elim
  subst this
  exact ⟨⟨rfl, rfl⟩, by simp [resOwns]⟩
 | [], _ :: _, _, _, h, _, _, _ => by cases h
 | _ :: _, [], _, _, h, _, _, _ => by cases h
 | τ :: outs, p :: rs, [], _, _, _, hv, _ => hv.elim
 | τ :: outs, p :: rs, u :: us, x, h, hn, hv, hr => by
  obtain ⟨n1, n2⟩ := nnB_head hn
  simp only [resIn] at h
  split at h
  ·rename_i y ys hy hys
   cases h
   obtain ⟨g1, g2⟩ := resIn_ok hh hz hys n2 hv.2 fun id hid => hr id (by simp [resRds, hid])
   obtain ⟨k1, k2⟩ := resOne_ok hh hz hy n1 hv.1 fun id hid => hr id (by simp [resRds, hid])
   refine ⟨⟨u, us, _, _, rfl, ?_, k1, g1⟩, fun id hid => ?_⟩
   ·simp [resOwns, List.flatMap_append]
   ·simp only [resOwns, List.mem_append] at hid
    exact hid.elim (k2 id) (g2 id)
  ·cases h
theorem splitRes_join : ∀ {outs more : List Ty} {x : (outs.foldr Ty.pair .unit).den} {y : (more.foldr Ty.pair .unit).den}, splitRes outs more (joinRes outs more x y) = (x, y)
 | [], _, _, _ => rfl
 | τ :: outs, more, x, y => by
  simp only [joinRes, splitRes, splitRes_join]
  rfl

theorem io_end {Zf : Nat → Prop} (s : St B m E H a w) (hz : ∀ b, m.Z b → Zf b) {fv : Nat → Value} : ∀ {ps : List (Bool × Ty)} {t : Nat} {ids : List Nat} {x : (((ps.filter (·.1)).map (·.2)).foldr Ty.pair .unit).den} {vs : List Value},
 ioIdsOf E (iosOf t ps) = some ids → ioOut H ((ps.filter (·.1)).map (·.2)) ids = some x → (∀ i ∈ iosOf t ps, a.tmps.getD i undef = fv i) → (∀ i, i < ps.length → vs[i]? = some (fv (t + i))) →
 IoRep Zf w ps x vs (ids.flatMap m.ft) ∧ ∀ id ∈ ids, (H id).Live
 | [], t, ids, x, vs, h1, h2, _, _ => by
  cases h1
  exact ⟨rfl, by simp⟩
 | (false, τ) :: ps, t, ids, x, vs, h1, h2, h3, h4 => by
  refine io_end (ps := ps) (t := t + 1) s hz h1 h2 h3 fun i hi => ?_
  have := h4 (i + 1) (by simp; omega)
  rw [List.getElem?_tail, this]
  congr 2; omega
 | (true, τ) :: ps, t, ids, x, vs, h1, h2, h3, h4 => by
  simp only [iosOf, ioIdsOf] at h1
  split at h1
  ·rename_i id ids' he hi
   cases h1
   have h2 : ioOut H (τ :: ((ps.filter (·.1)).map (·.2))) (id :: ids') = some x := h2
   simp only [ioOut] at h2
   split at h2
   ·rename_i g ls y hx hy
    split at h2
    ·rename_i z hz'
     cases h2
     obtain ⟨g1, g2⟩ := io_end (ps := ps) (t := t + 1) (vs := vs.tail) s hz hi hy (fun i hi => h3 i (by simp [iosOf, hi])) (fun i hi => by
      have := h4 (i + 1) (by simp; omega)
      rw [List.getElem?_tail, this]
      congr 2; omega)
     have ht := s.t t
     rw [he, h3 t (by simp [iosOf])] at ht
     obtain ⟨b, e1, e2⟩ := ht.one.2 _ _ hx
     have hL : (H id).Live := by rw [hx]; trivial
     have hc := s.h.cr id
     rw [hx] at hc
     obtain ⟨b', el, cs, F', k1, k2, k3, k4⟩ := hc
     rw [k1] at e1; cases e1
     have hv0 := h4 0 (by simp)
     refine ⟨⟨b, el, cs, F', _, ?_, ?_, k3, Rep.frame (fun _ _ => rfl) hz (fun _ _ => rfl) (asmAllO hz' k4), g1⟩, fun i hi => ?_⟩
     ·rw [List.head?_eq_getElem?, hv0, Nat.add_zero, e2]
     ·rw [List.flatMap_cons, k2]
     ·rcases List.mem_cons.1 hi with rfl | hi
      ·exact hL
      ·exact g2 i hi
    ·cases h2
   ·cases h2
  ·cases h1

theorem fin_ok (hT : TabOk P tab) {fn : Func} {F : FunE} {Z : Nat → Prop} {w0 : World} {Fs : List Nat} {vs : List Value} (hB : B = { w := w0, F := Fs, Z := Z, fx := iosOf 0 F.ins, fv := fun i => vs.getD i undef }) (hlen : vs.length = F.ins.length) {r : ((F.outs ++ (F.ins.filter (·.1)).map (·.2)).foldr Ty.pair .unit).den} :
 KonOk P B N r (bodyPost P fn fun e w' => ∃ v Z' us Fr Fi, e = .returned v ∧ Post Z w0 Fs F vs r v w' Z' us Fr Fi) (finOf tab F.outs ((F.ins.filter (·.1)).map (·.2)) fn.results.toList (iosOf 0 F.ins)) := by
 subst hB
 intro x E H0 a w ⟨m0, s0, hN, hf⟩ h
 obtain ⟨m, s⟩ := packR_ok (outs := F.outs) (vs := fn.results.toList) s0
 generalize hH : packR E F.outs fn.results.toList H0 = H at s
 have key : finOf tab F.outs ((F.ins.filter (·.1)).map (·.2)) fn.results.toList (iosOf 0 F.ins) .normal E H0 = some r → a.defers = [] ∧ ∃ v, (results fn a.tmps).run P w = .ok v w ∧ ∃ v' Z' us Fr Fi, Ending.returned v = .returned v' ∧ Post Z w0 Fs F vs r v' w Z' us Fr Fi := by
  intro h
  refine ⟨s.d, ?_⟩
  simp only [finOf, hH] at h
  split at h
  ·rename_i rs ios hrs hios
   split at h
   ·rename_i xa xb hxa hxb
    split at h
    ·rename_i hck
     split at h
     rotate_left
     ·cases h
     rename_i hnn
     cases h
     simp only [Bool.and_eq_true] at hck
     obtain ⟨c1, c2⟩ := hck
     have c1 := nodupN_iff.1 c1
     have c2 : ∀ i ∈ resRds F.outs rs, i ∉ resOwns F.outs rs ++ ios := fun i hi => by
      have := List.all_eq_true.1 c2 i hi
      exact memN_false.1 (by simpa using this)
     obtain ⟨us, u1, u2⟩ := resVals_ok hT s hrs
     let Zf : Nat → Prop := fun b => m.Z b ∨ ∃ id ∈ resRds F.outs rs, (H id).Live ∧ b ∈ m.ft id
     obtain ⟨r1, r2⟩ := resIn_ok (Zf := Zf) s.h (fun b hb => .inl hb) hxa hnn u2 (fun id hid hl b hb => .inr ⟨id, hid, hl, hb⟩)
     obtain ⟨i1, i2⟩ := io_end (Zf := Zf) (fv := fun i => vs.getD i undef) (ps := F.ins) (t := 0) (vs := vs) s (fun b hb => .inl hb) hios hxb (fun i hi => hf i hi) (fun i hi => by
      rw [Nat.zero_add, List.getD_eq_getElem?_getD, List.getElem?_eq_getElem (by omega)]; rfl)
     have hlive : ∀ id ∈ ios ++ resOwns F.outs rs, (H id).Live := fun id hid => (List.mem_append.1 hid).elim (i2 id) (r2 id)
     have hnd : (ios ++ resOwns F.outs rs).Nodup := by
      rw [List.nodup_append] at c1 ⊢
      exact ⟨c1.2.1, c1.1, fun x hx y hy e => c1.2.2 y hy x hx e.symm⟩
     refine ⟨_, results_run u1, _, Zf, us, (resOwns F.outs rs).flatMap m.ft, ios.flatMap m.ft, rfl, s.h.kp, fun b hb => .inl (s.h.zs b hb), fun b hb => ?_, fun b hb hlt => ?_, ?_, rfl, ?_, ?_, fun b hb => ?_⟩
     ·exact hb.elim (s.h.zl b) fun ⟨i, _, h2, h3⟩ => (s.h.nz i h2 b h3).2.1
     ·exact hb.elim (fun hb => s.h.zi b hb hlt) fun ⟨i, _, h2, h3⟩ => .inr ((s.h.nz i h2 b h3).2.2 hlt)
     ·rw [splitRes_join]; exact r1
     ·rw [splitRes_join]; exact i1
     ·rw [← List.flatMap_append]; exact ft_nodup s.h hnd hlive
     ·rw [← List.flatMap_append] at hb
      obtain ⟨i, h1, h2, h3⟩ := ft_blk hb hlive
      obtain ⟨n1, n2, n3⟩ := s.h.nz i h2 b h3
      refine ⟨fun hz => hz.elim n1 fun ⟨j, j1, j2, j3⟩ => ?_, n2, n3⟩
      have hij : i ≠ j := fun e => c2 j j1 (by rw [← e]; rw [List.mem_append] at h1 ⊢; exact h1.symm)
      exact s.h.sp i j hij h2 j2 b h3 j3
    ·cases h
   ·cases h
  ·cases h
 cases x with
 | normal => exact key h
 | ret => exact key h
 | _ => cases h

theorem ArgsRep.len {Z : Nat → Prop} {w : World} : ∀ {ps : List (Bool × Ty)} {x : (ps.foldr (fun p t => Ty.pair p.2 t) .unit).den} {vs : List Value} {F : List Nat}, ArgsRep Z w ps x vs F → vs.length = ps.length
 | [], _, _, _, h => by rw [h.1]; rfl
 | _ :: _, _, _, _, ⟨v, vs', F1, F2, h1, h2, h3, h4⟩ => by rw [h1, List.length_cons, h4.len]; rfl

def fnOkB (fn : Func) (ins : List (Bool × Ty)) : Bool :=
 codeOkB fn.ntmps (iosOf 0 ins) (bodyOf fn) && fn.body.isSome && Nat.ble ins.length fn.ntmps && ins.all fun p => p.1 || p.2.pure || p.2.vecP
theorem fnE_ok (hm : P.follows .mixedOrders = true) (hT : TabOk P tab) {f : FuncId} {fn : Func} (hf : P.funcs[f]? = some fn) {T : Nat → Nat → Option FunE} {ann : Nat → Option (List Keep)} {ins : List (Bool × Ty)} {outs : List Ty} {n : Nat} (hW : ∀ k, k ≤ n → WaysOk P tab (T k)) (hk : fnOkB fn ins = true) : FunOk P f (fnE tab T ann fn ins outs n) := by
 intro Z w xs vs Fs r hZ hA hn hFs hr
 simp only [fnOkB, Bool.and_eq_true] at hk
 obtain ⟨⟨⟨k1, k2⟩, k3⟩, k4⟩ := hk
 have k3 := Nat.le_of_ble_eq_true k3
 obtain ⟨c, hc⟩ := Option.isSome_iff_exists.1 k2
 have hbody : bodyOf fn = c := by unfold bodyOf; rw [hc]; rfl
 have hlen : vs.length = ins.length := hA.len
 let B : Base := { w := w, F := Fs, Z := Z, fx := iosOf 0 ins, fv := fun i => vs.getD i undef }
 have h0 : ∀ m : Md, m.Z = Z → HOk B m (fun _ => .absent) w := fun m hmz => ⟨fun b hb => hZ b (by rw [← hmz]; exact hb), fun b hb => (by rw [hmz]; exact hb), fun b hb _ => .inl (by rw [hmz] at hb; exact hb), fun _ => trivial, fun _ h => h.elim, fun _ _ _ h => h.elim, fun _ h => h.elim, Kept.refl _ _⟩
 have htm : ∀ k, ((vs.toArray ++ Array.replicate (fn.ntmps - vs.toArray.size) undef).getD k undef) = vs.getD k undef := fun k => by
  rw [Array.getD_eq_getD_getElem?, List.getD_eq_getElem?_getD, Array.getElem?_append]
  simp only [List.size_toArray]
  by_cases hk : k < vs.length
  ·rw [if_pos hk]; simp
  ·rw [if_neg hk, List.getElem?_eq_none (by omega)]
   simp only [Array.getElem?_replicate]
   split <;> rfl
 obtain ⟨m, K⟩ := pars_ok (B := B) (Z := Z) (w := w) h0 (vals := fun k => vs.getD k undef) (t := 0) hA hn (fun b hb => ⟨(hFs b hb).1, (hFs b hb).2, fun _ => hb⟩) k4 (fun i v hi => by simp [List.getD_eq_getElem?_getD, hi])
 refine calls_of_wp hf hc ?_
 have s : SE B fn.ntmps (ofL .junk (pars 0 ins xs).1) (ofL .absent (pars 0 ins xs).2) { tmps := vs.toArray ++ Array.replicate (fn.ntmps - vs.toArray.size) undef, defers := [] } w := by
  refine ⟨m, ⟨K.h, fun t => ?_, rfl⟩, ?_, fun i _ => htm i⟩
  ·rw [htm]; exact K.t t
  ·simp only [Array.size_append, List.size_toArray, Array.size_replicate]; omega
 have hfin := fin_ok (P := P) (B := B) (N := fn.ntmps) hT (fn := fn) (F := fnE tab T ann fn ins outs n) (Z := Z) (w0 := w) (Fs := Fs) (vs := vs) rfl hlen (r := r)
 have hL := runN_ok (P := P) (B := B) (N := fn.ntmps) (r := r) hm (T := T) (ann := ann) hfin n (fun k hk => hW k (by omega))
 have hcl := clos_ok (ann := ann) hm (hW n (Nat.le_refl _)) hL hfin [] rfl
 have := runS_ok hm (hW n (Nat.le_refl _)) hL (bodyOf fn) [] _ _ _ _ _ k1 rfl hcl s hr
 rw [hbody] at this
 exact this
theorem FunOk.spec {f : FuncId} {F : Nat → FunE} {ins : List (Bool × Ty)} {outs : List Ty} {g : (ins.foldr (fun p t => Ty.pair p.2 t) .unit).den → Option ((outs ++ (ins.filter (·.1)).map (·.2)).foldr Ty.pair .unit).den} (hF : ∀ n, FunOk P f (F n)) (hi : ∀ n, (F n).ins = ins) (ho : ∀ n, (F n).outs = outs) : True := trivial
end
end Go.Proofs.Ytadhpgecilhgnaa.A

-- YtadhpgecilhgnaaFn5
set_option linter.unusedVariables false
set_option linter.unusedSimpArgs false
namespace Go.Proofs.Ytadhpgecilhgnaa.A
open Go
def RowOk (P : Program) (f : FuncId) (e : Ty) (g : List e.den → Option (List e.den)) : Prop := ∀ (Z : Nat → Prop) (w : World) (xs ys : List e.den) (v : Value) (F : List Nat),
 (∀ b, Z b → b < w.heap.size) → Rep Z w (.vec e) xs [v] F → F.Nodup → (∀ b ∈ F, ¬ Z b ∧ b < w.heap.size) → g xs = some ys →
 Calls P f #[v] w fun ex w' => ex = .returned (.tuple #[]) ∧ Kept F w w' ∧ ys.length = xs.length ∧ Rep Z w' (.vec e) ys [v] F
structure FunC (P : Program) (f : FuncId) (F : FunE) : Prop where
 ok' : F.row = none → FunOk P f F
 ro : ∀ e g, F.row = some ⟨e, g⟩ → RowOk P f e g
 en : ∃ fn, P.funcs[f]? = some fn ∧ (fn.name == "runtime.NumGoroutine") = false ∧ fn.body.isNone = false
def TOk (P : Program) (T : Nat → Option FunE) : Prop := ∀ f F, T f = some F → FunC P f F
section
variable {P : Program} {B : Base} {m m' m0 : Md} {H H' : Hp} {w w' : World} {o : Oper} {a : Act} {E : Env} {tab : Nat → Option TI} {T : Nat → Option FunE} {N : Nat}

theorem wCallRow_ok {e : Ty} {g : List e.den → Option (List e.den)} {f : FuncId} (hF : RowOk P f e g) (hh : HOk B m H w) {as_ : List AV} {vs : List Value} (hv : All2 (AVRep m w H) as_ vs) (ex : (execOp a.eval o).run P w = .ok (.enter f vs.toArray) w) : WayOk P B m H w o a (wCallRow e g as_) := by
 unfold wCallRow
 split
 ·rename_i id
  match vs, hv with
  | [v], hv =>
   intro Q hQ
   simp only at hQ
   split at hQ
   ·rename_i e' xs hx
    split at hQ
    ·rename_i xs' hc
     obtain ⟨he, hxs⟩ := castTo_eq hc
     cases he
     have hxs : xs = xs' := hxs
     subst hxs
     obtain ⟨ys, hy, hQ⟩ := hQ
     have hQ : Q _ := hQ
     have hx := live_of_only hx
     have hL : (H id).Live := by rw [hx]; trivial
     have hcr := hh.cr id
     rw [hx] at hcr
     have hvd := hv.1.one.2.1 _ _ hx
     subst hvd
     refine ⟨_, _, hQ, ?_⟩
     unfold OpOk
     rw [ex]
     refine (hF m.Z w xs ys _ _ hh.zl hcr (hh.nd id hL) (fun b hb => ⟨(hh.nz id hL b hb).1, (hh.nz id hL b hb).2.1⟩) hy).mono fun e' w' ⟨h1, h2, h3, h4⟩ => ⟨_, h1, ?_⟩
     have hput := putH_cons H id (.live (.row e ys)) [] (by simp)
     have ch : Change B m H w (id :: []) (m.set id (m.hd id) (m.ft id)) (putH H ((id, .live (.row e ys)) :: deads [])) w' :=
      Change.one (w' := w') (ob := .row e ys) hh (by simp) (by simp) h2.os h2.tape h2.output h2.size (fun b hb hnB => h2.block b hb fun hbF => hnB ⟨id, by simp, hL, hbF⟩) h4 (fun z hz => ⟨(hh.nz id hL z hz).1, .inl ⟨id, by simp, hL, hz⟩⟩) (hh.nd id hL) (fun _ => EvoAt.row_ hx hput h3.symm (by simp only [Md.set]; rw [upd_same]))
     exact ⟨_, hh.change ch, hh.evo ch, ⟨[], rfl, trivial⟩⟩
    ·exact hQ.elim
   ·exact hQ.elim
 ·exact WayOk.fail

theorem enter_exec {c : Call} (ho : o.op = .call c) {x : Operand} (hc : c.callee = .value x) {f : FuncId} (hx : a.eval x = .func (.func f) #[] #[]) (hen : ∃ fn, P.funcs[f]? = some fn ∧ (fn.name == "runtime.NumGoroutine") = false ∧ fn.body.isNone = false) :
 (execOp a.eval o).run P w = .ok (.enter f (c.args.map a.eval)) w := by
 obtain ⟨fn, h1, h2, h3⟩ := hen
 simp only [execOp, ho, resolve, hc, hx]
 have h2 : ¬ fn.name = "runtime.NumGoroutine" := by simpa using h2
 have h3 : ¬ fn.body = none := fun hh => by rw [hh] at h3; cases h3
 simp [Deferred.ofValue, invoke, callFunc, h1, h2, h3]
theorem all2_args (s : St B m E H a w) : ∀ {xs : List Operand}, (∀ x ∈ xs, opndOkB x = true) → All2 (AVRep m w H) (xs.map (evalO E)) (xs.map a.eval)
 | [], _ => trivial
 | x :: xs, h => ⟨evalO_ok s (h x (by simp)), all2_args s fun y hy => h y (by simp [hy])⟩
theorem wCall_ok (hT : TabOk P tab) (hC : TOk P T) (s : St B m E H a w) {c : Call} (ho : o.op = .call c) (hx : ∀ x ∈ c.operands, opndOkB x = true) :
 WayOk P B m H w o a (wCall tab T o.dst c (c.args.toList.map (evalO E)) (match c.callee with | .value f => some (evalO E f) | _ => none)) := by
 have hargs := all2_args s (xs := c.args.toList) fun x h => hx x (by simp [Call.operands]; exact .inr (by simpa using h))
 have hmap : (c.args.map a.eval).toList = c.args.toList.map a.eval := by simp
 have hmap' : c.args.map a.eval = (c.args.toList.map a.eval).toArray := by rw [← hmap]
 unfold wCall
 cases hc : c.callee with
 | invoke r n => exact WayOk.fail
 | value x =>
  simp only
  split
  ·rename_i f u he
   split
   ·rename_i F hF
    have hfc := hC f F (by simpa using hF)
    simp only [Option.some.injEq] at he
    have hev := evalO_ok s (hx x (by simp [Call.operands, hc]))
    rw [he] at hev
    have hfv : a.eval x = .func (.func f) #[] #[] := by
     have := hev.one
     obtain ⟨h1, _⟩ := (this : [a.eval x] = [.func (.func f) #[] #[]] ∧ _)
     simpa using h1
    split
    ·rename_i q hq
     exact wCallRow_ok (hfc.ro _ _ hq) s.h hargs (by rw [enter_exec ho hc hfv hfc.en, hmap'])
    ·rename_i hq
     exact wCallM_ok (hfc.ok' hq) s.h hargs (by rw [enter_exec ho hc hfv hfc.en, hmap'])
   ·exact WayOk.fail
  ·exact WayOk.fail
 | builtin b =>
  cases b <;> simp only <;> try exact WayOk.fail
  case len =>
   split
   ·rename_i x hxs hsz
    have hsz := Nat.eq_of_beq_eq_true hsz
    match hc1 : c.args.toList, hxs, hargs with
    | [y], hxs, hargs =>
     simp only [List.map_cons, List.map_nil, List.cons.injEq, and_true] at hxs
     subst hxs
     rw [hc1] at hmap'
     have h1 := hargs.1
     refine wLen_ok hT s.h h1 fun n hn => exec_call_builtin ho hc ?_
     have hts : c.argTypes = #[c.argTypes.getD 0 0] := by
      apply Array.ext
      ·simpa using hsz
      ·intro i h1 h2
       have : i = 0 := by omega
       subst this
       simp [Array.getD, h1]
     generalize c.argTypes.getD 0 0 = t at hts hn
     rw [hts]
     simp only [builtin, hmap', List.map_cons, List.map_nil]
     rw [show ([a.eval y] : List Value).toArray = #[a.eval y] from rfl]
     simp only [Sem.run_bind, hn, Result.andThen_ok, Sem.run_pure]
   ·exact WayOk.fail
  case append =>
   split
   ·rename_i x y hxs
    match hc1 : c.args.toList, hxs, hargs with
    | [x1, y1], hxs, hargs =>
     simp only [List.map_cons, List.map_nil, List.cons.injEq, and_true] at hxs
     obtain ⟨rfl, rfl⟩ := hxs
     rw [hc1] at hmap'
     refine wAppendB_ok hT s.h hargs.1 hargs.2.1 fun v w' hv => ?_
     simp only [execOp, ho, resolve, hc]
     simp only [Sem.run_bind, Sem.run_pure, Result.andThen_ok, invoke, builtin, hmap', List.map_cons, List.map_nil]
     rw [show ([a.eval x1, a.eval y1] : List Value).toArray = #[a.eval x1, a.eval y1] from rfl, hv]
     rfl
   ·exact WayOk.fail
  case max =>
   refine wMinMax_ok s.h hargs (fun x y => by unfold mxI; split <;> simp) max2_run fun x rest u hl hu => exec_call_builtin ho hc ?_
   simp only [builtin, Builtin.max_, hmap, hl, Sem.run_bind, hu, Result.andThen_ok, Sem.run_pure]
  case min =>
   refine wMinMax_ok s.h hargs (fun x y => by unfold mnI; split <;> simp) min2_run fun x rest u hl hu => exec_call_builtin ho hc ?_
   simp only [builtin, Builtin.min_, hmap, hl, Sem.run_bind, hu, Result.andThen_ok, Sem.run_pure]

theorem wayD_ok (hT : TabOk P tab) (B : Base) (m : Md) (H : Hp) (w : World) (a : Act) (E : Env) (o : Oper) (t : DT (AV × List (Nat × Cell))) (hx : o.op.operands.toList.all opndOkB = true) (s : St B m E H a w) (h : wayD tab E H o = some t) : WayDOk P B m H w o a t := by
 have hx : ∀ x ∈ o.op.operands, opndOkB x = true := fun x h => List.all_eq_true.1 hx x (by simpa using h)
 unfold wayD at h
 split at h
 ·cases h
 ·split at h
  ·rename_i ho
   exact nilWay_ok hT s.h (.inl ⟨rfl, ho⟩) (evalO_ok s (hx _ (by rw [ho]; simp [Op.operands]))) h
  ·rename_i ho
   exact nilWay_ok hT s.h (.inr ⟨rfl, ho⟩) (evalO_ok s (hx _ (by rw [ho]; simp [Op.operands]))) h
  ·rename_i ho
   exact nextWay_ok s.h ho (evalO_ok s (hx _ (by rw [ho]; simp [Op.operands]))) h
  ·cases h
theorem way_ok (hT : TabOk P tab) (hC : TOk P T) : WaysOk P tab T := by
 refine ⟨fun B m H w a E o hx s => ?_, wayD_ok hT⟩
 have hx : ∀ x ∈ o.op.operands, opndOkB x = true := fun x h => List.all_eq_true.1 hx x (by simpa using h)
 unfold way
 cases ho : o.op <;> (try simp only [ho, Op.operands] at hx) <;> (try simp only) <;> try exact WayOk.fail
 case move x => exact WayOk.val s.h (by simp only [execOp, ho, Sem.run_pure]) (evalO_ok s (hx x (by simp)))
 case assign x => exact WayOk.val s.h (by simp only [execOp, ho, Sem.run_pure]) (evalO_ok s (hx x (by simp)))
 case pick c x y => exact wPick_ok s.h ho (evalO_ok s (hx c (by simp))) (evalO_ok s (hx x (by simp))) (evalO_ok s (hx y (by simp)))
 case nilCheck x => exact wNilCheckP_ok s.h ho (evalO_ok s (hx x (by simp)))
 case alloc t =>
  split
  ·rename_i i hi
   obtain ⟨inf, z, k1, k2, k3, k4, k5, k6⟩ := (hT t i hi).info
   refine wBox_ok (t := t) (v := .agg z.cells) s.h ⟨z.cells.toList, by simp [IsV], k6.mono fun _ _ h => h.l⟩ fun cs ⟨g, ls, h1, h2⟩ h3 => ?_
   cases h1
   have : z.cells = cs.toArray := by simpa [IsV] using h2
   rw [← this]
   exact alloc_exec ho k1 k4
  ·exact WayOk.fail
 case box t x =>
  refine wBoxP_ok (t := t) s.h (evalO_ok s (hx x (by simp))) fun cs ⟨g, ls, h1, h2⟩ h3 => box_exec ho (isV_cells h2 h3)
 case build t ps => exact wBuildP_ok hT s.h ho (all2_parts s fun p hp => hx p.2 (by simp; exact ⟨p.1, by simpa using hp⟩))
 case buildSlice t n ps => exact wBuildSliceF_ok hT s.h ho (all2_parts s fun p hp => hx p.2 (by simp; exact ⟨p.1, by simpa using hp⟩))
 case load t x => exact wLoadP_ok hT s.h ho (evalO_ok s (hx x (by simp)))
 case store t x y => exact wStore_ok hT s.h ho (unpin_ok (evalO_ok s (hx x (by simp)))) (evalO_ok s (hx y (by simp)))
 case binOp op t x y yt => exact wBinN_ok hT s.h ho (evalO_ok s (hx x (by simp))) (evalO_ok s (hx y (by simp)))
 case unOp op t x => exact wUn_ok s.h ho (evalO_ok s (hx x (by simp)))
 case convert t d x => exact wConvertB_ok hT s.h ho (evalO_ok s (hx x (by simp)))
 case makeSlice t x y => exact wMakeSlice_ok hT s.h ho (evalO_ok s (hx x (by simp))) (evalO_ok s (hx y (by simp)))
 case slice t x lo hi mx =>
  cases mx with
  | some _ => exact WayOk.fail
  | none => exact wSlice_ok hT s.h ho (evalO_ok s (hx x (by simp))) (optRep_map s fun y hy => hx y (by simp [hy])) (optRep_map s fun y hy => hx y (by simp [hy]))
 case fieldAddr t x f => exact wFieldAddrP_ok hT s.h ho (evalO_ok s (hx x (by simp)))
 case field t x f => exact wField_ok hT s.h ho (evalO_ok s (hx x (by simp)))
 case indexAddr t x i => exact wIndexAddr_ok hT s.h ho (evalO_ok s (hx x (by simp))) (evalO_ok s (hx i (by simp)))
 case index t x i => exact wIndex_ok hT s.h ho (evalO_ok s (hx x (by simp))) (evalO_ok s (hx i (by simp)))
 case extract x n => exact wExtract_ok s.h ho (evalO_ok s (hx x (by simp)))
 case call c => exact wCall_ok hT hC s ho hx
 case makeMap t r =>
  cases r with
  | some _ => exact WayOk.fail
  | none => exact wMakeMapB_ok hT s.h ho
 case insert t x k y => exact wMapUpdateP_ok hT s.h (.inr ho) (evalO_ok s (hx x (by simp))) (evalO_ok s (hx k (by simp))) (evalO_ok s (hx y (by simp)))
 case mapUpdate t x k y => exact wMapUpdateP_ok hT s.h (.inl ho) (evalO_ok s (hx x (by simp))) (evalO_ok s (hx k (by simp))) (evalO_ok s (hx y (by simp)))
 case range t x => exact wRangeP_ok hT s.h ho (evalO_ok s (hx x (by simp)))
 case entry x => exact wEntry_ok s.h ho (evalO_ok s (hx x (by simp)))
 case lookup t x k ok => exact wLookupB_ok hT s.h ho (evalO_ok s (hx x (by simp))) (evalO_ok s (hx k (by simp)))
end
end Go.Proofs.Ytadhpgecilhgnaa.A

-- YtadhpgecilhgnaaOpn
set_option linter.unusedVariables false
set_option linter.unusedSimpArgs false
namespace Go.Proofs.Ytadhpgecilhgnaa.A
open Go

def Ty.low : Ty → Nat
 | .bool => 1
 | .int k => k.bits / 8
 | .str => 16
 | .sl _ => 24
 | .pair a b => a.low + b.low
 | _ => 0
def okT : (τ : Ty) → τ.den → Prop
 | .int k, n => k.min ≤ n ∧ n ≤ k.max
 | .str, s => s.length ≤ 140737488351232
 | .sl e, xs => xs.length ≤ 140737488351232 ∧ xs.length * e.low ≤ 140737488351232 ∧ ∀ x ∈ xs, okT e x
 | .pair a b, x => okT a x.1 ∧ okT b x.2
 | _, _ => True
def fitB (P : Program) : Nat → Ty → Nat ⊕ (List Go.Field × Nat) → Bool
 | 0, _, _ => false
 | n + 1, τ, .inl t => (match P.underlying t, τ with
  | some .bool, .bool => true
  | some (.int k'), .int k => decide (k' = k)
  | some .string, .str => true
  | some (.slice et), .sl e => fitB P n e (.inl et) && Nat.beq (P.cellsOf et) e.cells && Nat.ble 1 e.cells && Nat.ble e.low (P.bytesOf et) && Nat.ble 1 (P.bytesOf et)
  | some (.struct fs), τ => Nat.beq (P.cellsOf t) τ.cells && fitB P n τ (.inr (fs.toList, 0))
  | _, _ => false)
 | n + 1, τ, .inr ([f], off) => Nat.beq f.offset off && fitB P n τ (.inl f.type) && Nat.beq (P.cellsOf f.type) τ.cells
 | n + 1, .pair a b, .inr (f :: g :: fs, off) => Nat.beq f.offset off && fitB P n a (.inl f.type) && Nat.beq (P.cellsOf f.type) a.cells && fitB P n b (.inr (g :: fs, off + a.cells))
 | _, _, _ => false

section
variable {P : Program} {w : World} {Z : Nat → Prop}
theorem list_of {α : Type} (p : Nat → α → Prop) : ∀ n : Nat, (∀ i, i < n → ∃ y, p i y) → ∃ l : List α, l.length = n ∧ ∀ i y, l[i]? = some y → p i y := by
 intro n
 induction n with
 | zero => intro _; exact ⟨[], rfl, fun i y h => by simp at h⟩
 | succ n ih =>
  intro h
  obtain ⟨l, hl, hp⟩ := ih (fun i hi => h i (by omega))
  obtain ⟨y, hy⟩ := h n (by omega)
  refine ⟨l ++ [y], by simp [hl], fun i z hz => ?_⟩
  by_cases hi : i < l.length
  ·exact hp i z (by rwa [List.getElem?_append_left hi] at hz)
  ·rw [List.getElem?_append_right (by omega)] at hz
   have hi2 : i - l.length < 1 := by
    rcases Nat.lt_or_ge (i - l.length) 1 with h | h
    ·exact h
    ·rw [List.getElem?_eq_none (by simpa using h)] at hz
     cases hz
   have e : i = n := by omega
   subst e
   rw [hl] at hz
   simp at hz
   subst hz
   exact hy
theorem weightsAll_mem {H : Type} {P : Program} {e : TypeId} {d : DataW H} : ∀ {l : List (DataW H)}, d ∈ l → ∀ n ∈ d.weights P e, n ∈ DataW.weightsAll P e l := by
 intro l
 induction l with
 | nil => intro h; cases h
 | cons a l ih =>
  intro h n hn
  rw [DataW.weightsAll, List.mem_append]
  rcases List.mem_cons.1 h with rfl | h
  ·exact .inl hn
  ·exact .inr (ih h n hn)
theorem int_wf {k : IntKind} {n : Int} (h : (Lit.int k n).wf = true) : k.min ≤ n ∧ n ≤ k.max := by
 simpa [Lit.wf] using h
theorem repL_of {e : Ty} {b o : Nat} : ∀ (l : List e.den) (k : Nat), (∀ (i : Nat) (y : e.den), l[i]? = some y → ∃ c, Rep Z w e y c [] ∧ ∀ (j : Nat) (u : Value), c[j]? = some u → w.cell? ⟨b, o + ((k + i) * e.cells + j), none⟩ = some u) →
 ∃ c, RepL (fun x c F => Rep Z w e x c F) l c [] ∧ ∀ (j : Nat) (u : Value), c[j]? = some u → w.cell? ⟨b, o + (k * e.cells + j), none⟩ = some u
 | [], k, _ => ⟨[], ⟨rfl, rfl⟩, by simp⟩
 | y :: l, k, h => by
  obtain ⟨c, h1, h2⟩ := h 0 y rfl
  obtain ⟨cs, g1, g2⟩ := repL_of l (k + 1) fun i z hz => by
   have := h (i + 1) z (by simpa using hz)
   rwa [show k + (i + 1) = k + 1 + i by omega] at this
  refine ⟨c ++ cs, ⟨c, cs, [], [], rfl, rfl, h1, g1⟩, fun j u hu => ?_⟩
  have hl := h1.len
  rw [List.getElem?_append] at hu
  split at hu
  ·exact h2 j u hu
  ·rename_i hj
   have := g2 _ u hu
   rwa [show o + ((k + 1) * e.cells + (j - c.length)) = o + (k * e.cells + j) by rw [Nat.succ_mul]; omega] at this

theorem fit_ok (hZ : ∀ b, b < w.heap.size → Z b) {H : Type} {enc : TypeId × Value → H} : ∀ (n : Nat) (τ : Ty) (q : Nat ⊕ (List Go.Field × Nat)), fitB P n τ q = true → match q with
 | .inl t => ∀ {fuel : Nat} {cs : List Value} {x : DataW H × List MemPlace}, DataW.trod enc P w 0 (fun _ => true) true fuel t cs = some x → (∀ n ∈ x.1.weights P t, n ≤ reachBytes) → ∃ y, Rep Z w τ y cs [] ∧ okT τ y
 | .inr (fs, off) => ∀ {fuel : Nat} {cs : List Value} {xs : List (DataW H × List MemPlace)}, xs.length = fs.length → cs.length = off + τ.cells →
  (∀ (i : Nat) (f : Go.Field), fs[i]? = some f → DataW.trod enc P w 0 (fun _ => true) true fuel f.type ((cs.drop f.offset).take (P.cellsOf f.type)) = xs[i]?) →
  (∀ m ∈ DataW.weightsEach P (fs.map (·.type)) (xs.map (·.1)), m ≤ reachBytes) → ∃ y, Rep Z w τ y (cs.drop off) [] ∧ okT τ y := by
 intro n
 induction n with
 | zero => intro τ q h; cases h
 | succ n ih =>
  intro τ q h
  cases q with
  | inl t =>
   intro fuel cs x hx hw
   simp only [fitB] at h
   split at h
   ·rename_i hu
    obtain ⟨b, rfl, _⟩ := DataW.trod_bool hu hx
    exact ⟨b, ⟨rfl, rfl⟩, trivial⟩
   ·rename_i k' k hu
    have hk : k' = k := by simpa using h
    subst hk
    obtain ⟨m, rfl, _, hm⟩ := DataW.trod_int hu hx
    exact ⟨m, ⟨rfl, rfl, int_wf hm⟩, int_wf hm⟩
   ·rename_i hu
    obtain ⟨s, rfl, rfl, hs⟩ := DataW.trod_string hu hx
    have := hw s.data.toList.length (by simp [DataW.weights])
    have hl : s.data.toList.length ≤ 140737488351232 := by simpa [reachBytes] using this
    exact ⟨s.data.toList, ⟨rfl, rfl, by unfold big; omega⟩, hl⟩
   ·rename_i et e hu
    simp only [Bool.and_eq_true] at h
    obtain ⟨⟨⟨⟨h1, h2⟩, h3⟩, h4⟩, h5⟩ := h
    have h2 := Nat.eq_of_beq_eq_true h2
    have h3 := Nat.le_of_ble_eq_true h3
    have h4 := Nat.le_of_ble_eq_true h4
    have h5 := Nat.le_of_ble_eq_true h5
    rcases DataW.trod_slice hu hx with ⟨rfl, rfl⟩ | ⟨a, len, cap, elems, rest, m, _, rfl, rfl, hb, hl, hm, hlen, hel, hsp, _⟩
    ·exact ⟨[], ⟨rfl, by simp, none, 0, rfl, by simp, .inl rfl⟩, by simp, by simp, by simp⟩
    ·have each : ∀ i, i < len → ∃ y, (∃ c, Rep Z w e y c [] ∧ ∀ (j : Nat) (u : Value), c[j]? = some u → w.cell? (a.add (i * e.cells + j)) = some u) ∧ okT e y := by
      intro i hi
      have h1' := hel i hi
      have hi2 : i < elems.length := by omega
      rw [List.getElem?_eq_getElem hi2, Option.bind_eq_some_iff] at h1'
      obtain ⟨c, hcs, hc2⟩ := h1'
      obtain ⟨_, hcl, hcc⟩ := World.cells?_some hcs
      obtain ⟨y, hy, ho⟩ := ih e (.inl et) h1 hc2 (fun m hm => hw m (by
       rw [DataW.weights]
       simp only [hu, List.mem_cons, List.mem_append]
       exact .inr (.inl (weightsAll_mem (List.mem_map_of_mem (f := Prod.fst) (List.getElem_mem hi2)) m hm))))
      refine ⟨y, ⟨c, hy, fun j u hu' => ?_⟩, ho⟩
      have hj : j < P.cellsOf et := by
       rcases Nat.lt_or_ge j c.length with h | h
       ·omega
       ·rw [List.getElem?_eq_none h] at hu'
        cases hu'
      have := hcc j hj
      rw [hu', Go.Addr.add_add, h2] at this
      exact this
     obtain ⟨l, hll, hp⟩ := list_of _ len each
     have hlb : len * P.bytesOf et ≤ 140737488351232 := by
      have h1 : ((elems.map (·.1)).length + (rest.map (·.1)).length) * P.bytesOf et ≤ reachBytes := hw _ (by
       rw [DataW.weights]
       simp only [hu]
       exact List.mem_cons_self)
      have h2 : len * P.bytesOf et ≤ ((elems.map (·.1)).length + (rest.map (·.1)).length) * P.bytesOf et := Nat.mul_le_mul_right _ (by simp; omega)
      simpa [reachBytes] using Nat.le_trans h2 h1
     have hl1 : len ≤ 140737488351232 := Nat.le_trans (by simpa using Nat.mul_le_mul_left len h5) hlb
     have hl2 : len * e.low ≤ 140737488351232 := Nat.le_trans (Nat.mul_le_mul_left len h4) hlb
     refine ⟨l, ⟨rfl, by unfold big; omega, some a, cap, by rw [hll], by omega, ?_⟩, by omega, by rw [hll]; exact hl2, fun x hx => ?_⟩
     ·by_cases hl0 : l = []
      ·exact .inl hl0
      ·right
       have h0 : 0 < l.length := List.length_pos_iff.2 hl0
       -- the first cell
       obtain ⟨⟨c, hc1, hc2⟩, _⟩ := hp 0 _ (List.getElem?_eq_getElem h0)
       have hc0 : 0 < c.length := by rw [hc1.len]; omega
       have hcell := hc2 0 _ (List.getElem?_eq_getElem hc0)
       rw [show a.add (0 * e.cells + 0) = a by simp [Go.Addr.add]] at hcell
       have hadd : a.spot = none ∧ a.block < w.heap.size := by
        obtain ⟨bb, oo, ss⟩ := a
        simp only [World.cell?] at hcell
        cases ss with
        | none =>
         refine ⟨rfl, ?_⟩
         cases hh : w.heap[bb]? with
         | none => rw [hh] at hcell; cases hcell
         | some ob => exact (Array.getElem?_eq_some_iff.1 hh).1
        | some s =>
         split at hcell
         ·simp at hcell
         ·cases hcell
       obtain ⟨bb, oo, ss⟩ := a
       obtain ⟨hs, hbb⟩ := hadd
       simp only at hs hbb
       subst hs
       obtain ⟨cc, g1, g2⟩ := repL_of (Z := Z) (w := w) (b := bb) (o := oo) l 0 fun i y hy => by
        obtain ⟨⟨c, k1, k2⟩, _⟩ := hp i y hy
        exact ⟨c, k1, fun j u hu => by have := k2 j u hu; rw [aad] at this; rwa [Nat.zero_add]⟩
       exact ⟨bb, oo, cc, rfl, hZ bb hbb, g1, fun j u hu => by have := g2 j u hu; rwa [Nat.zero_mul, Nat.zero_add] at this⟩
     ·obtain ⟨i, hi⟩ := List.getElem?_of_mem hx
      exact (hp i x hi).2
   ·rename_i fs hu
    simp only [Bool.and_eq_true] at h
    have hc := Nat.eq_of_beq_eq_true h.1
    obtain ⟨xs, m, _, rfl, hcl, hxl, hf⟩ := DataW.trod_struct hu hx
    have := ih _ (.inr (fs.toList, 0)) h.2 (fuel := m) (cs := cs) (xs := xs) (by simpa using hxl) (by rw [hcl, hc]; simp) (fun i f hi => hf i f (by simpa using hi)) (fun m hm => hw m (by
     rw [DataW.weights]
     simp only [hu]
     exact hm))
    simpa using this
   ·cases h
  | inr p =>
   obtain ⟨fs, off⟩ := p
   intro fuel cs xs hxs hcs hf hw
   match fs, hxs, hf, hw, h with
   | [], _, _, _, h => simp [fitB] at h
   | [f], hxs, hf, hw, h =>
    simp only [fitB, Bool.and_eq_true] at h
    obtain ⟨⟨h1, h2⟩, h3⟩ := h
    have h1 := Nat.eq_of_beq_eq_true h1
    have h3 := Nat.eq_of_beq_eq_true h3
    obtain ⟨x, rfl⟩ : ∃ x, xs = [x] := by
     match xs, hxs with
     | [x], _ => exact ⟨x, rfl⟩
    have hx := hf 0 f rfl
    rw [h1, List.take_of_length_le (by simp; omega)] at hx
    exact ih τ (.inl f.type) h2 hx (fun m hm => hw m (by simpa [DataW.weightsEach] using hm))
   | f :: g :: fs, hxs, hf, hw, h =>
    cases τ <;> try (simp [fitB] at h; done)
    rename_i a b _
    simp only [fitB, Bool.and_eq_true] at h
    obtain ⟨⟨⟨h1, h2⟩, h3⟩, h4⟩ := h
    have h1 := Nat.eq_of_beq_eq_true h1
    have h3 := Nat.eq_of_beq_eq_true h3
    match xs, hxs with
    | x :: xs, hxs =>
     have hx := hf 0 f rfl
     rw [h1] at hx
     obtain ⟨y, hy, hoy⟩ := ih a (.inl f.type) h2 (x := x) hx (fun m hm => hw m (by simp [DataW.weightsEach]; exact .inl hm))
     obtain ⟨z, hz, hoz⟩ := ih b (.inr (g :: fs, off + a.cells)) h4 (fuel := fuel) (cs := cs) (xs := xs) (by simpa using hxs) (by rw [hcs]; simp only [Ty.cells]; omega) (fun i f' hi => by have := hf (i + 1) f' (by simpa using hi); simpa using this) (fun m hm => hw m (by
      simp only [List.map_cons, DataW.weightsEach, List.mem_append]
      simp only [List.map_cons, DataW.weightsEach, List.mem_append] at hm
      exact .inr hm))
     refine ⟨(y, z), ⟨_, _, [], [], ?_, rfl, hy, hz⟩, hoy, hoz⟩
     rw [h3, ← List.drop_drop, List.take_append_drop]
theorem weights_of {H : Type} {P : Program} {t : TypeId} {x : DataW H} : ∀ {ts : List TypeId} {ds : List (DataW H)} {j : Nat}, (DataW.weightsEach P ts ds).all (· ≤ reachBytes) = true → ts[j]? = some t → ds[j]? = some x → ∀ n ∈ x.weights P t, n ≤ reachBytes := by
 intro ts
 induction ts with
 | nil => intro ds j _ h; simp at h
 | cons a ts ih =>
  intro ds j hw ht hd n hn
  match ds with
  | [] => simp at hd
  | d :: ds =>
   rw [DataW.weightsEach, List.all_append, Bool.and_eq_true] at hw
   cases j with
   | zero =>
    simp at ht hd
    subst ht; subst hd
    simpa using List.all_eq_true.1 hw.1 n hn
   | succ j => exact ih hw.2 (by simpa using ht) (by simpa using hd) n hn
def argFitB (P : Program) (τ : Ty) (t : Nat) : Bool := fitB P 60 τ (.inl t) && (match P.underlying t with | some (.struct _) => !τ.one | _ => τ.one)
theorem arg_open (hZ : ∀ b, b < w.heap.size → Z b) {H : Type} {enc : TypeId × Value → H} {τ : Ty} {t : Nat} (hfit : argFitB P τ t = true) {r : Reach} {base : Nat} {v : Value} {x : DataW H} {ps : List MemPlace} {ts : List TypeId} {ds : List (DataW H)} {j : Nat}
 (hsz : (DataW.weightsEach P ts ds).all (· ≤ reachBytes) = true) (hj : ts[j]? = some t) (hd : ds[j]? = some x) (hv : Value.okWide P w r base t v) (h : DataW.Trod enc P w 0 (fun _ => true) true t v x ps) :
 ∃ y, ArgRep Z w false τ y v [] ∧ okT τ y := by
 unfold argFitB at hfit
 rw [Bool.and_eq_true] at hfit
 obtain ⟨fuel, hf⟩ := h
 have hwt : ∀ n ∈ x.weights P t, n ≤ reachBytes := weights_of hsz hj hd
 obtain ⟨y, hy, ho⟩ := fit_ok (P := P) hZ 60 τ (.inl t) hfit.1 hf hwt
 refine ⟨y, ⟨v.cells.toList, ?_, hy⟩, ho⟩
 have h2 := hfit.2
 have h1 : fitB P (59 + 1) τ (.inl t) = true := hfit.1
 unfold fitB at h1
 split at h1
 ·rename_i hu
  rw [hu] at h2
  obtain ⟨c, rfl⟩ := WideShapes.okWide_bool hu hv
  rw [show (!Ty.bool.one) = false from rfl]; rfl
 ·rename_i k' k hu
  obtain ⟨c, rfl⟩ := WideShapes.okWide_int hu hv
  rfl
 ·rename_i hu
  obtain ⟨c, rfl⟩ := WideShapes.okWide_string hu hv
  rfl
 ·rename_i et e hu
  obtain ⟨a, len, cap, rfl⟩ := WideShapes.okWide_slice hu hv
  rfl
 ·rename_i fs hu
  rw [hu] at h2
  obtain ⟨cs, rfl, _⟩ := WideShapes.okWide_struct hu hv
  simp only at h2
  rw [h2]
  simp [IsV, Value.cells]
 ·cases h1
end
end Go.Proofs.Ytadhpgecilhgnaa.A

-- YtadhpgecilhgnaaTb
set_option linter.unusedVariables false
set_option linter.unusedSimpArgs false
namespace Go.Proofs.Ytadhpgecilhgnaa.A
open Go
def zrepB : LV → Value → Bool
 | .v .bool b, .bool c => b == c
 | .v (.int k) n, .int k' m => decide (k' = k) && decide (m = n) && decide (k.min ≤ n) && decide (n ≤ k.max)
 | .v .str l, .string s => decide (s.data.toList = l) && decide (l.length ≤ big)
 | .nils, .slice none 0 0 => true
 | .nilm, .map none => true
 | .nilp, .pointer none => true
 | .junk, _ => true
 | _, _ => false
def zrepsB : List LV → List Value → Bool
 | [], [] => true
 | l :: ls, c :: cs => zrepB l c && zrepsB ls cs
 | _, _ => false
def aggB : Value → Bool
 | .agg _ => true
 | .tuple _ => false
 | _ => false
def oneFitsB (P : Program) (t : Nat) : Ty → Bool
 | .int k => (match P.underlying t with | some (.int k') => decide (k' = k) | _ => false)
 | .bool => (match P.underlying t with | some .bool => true | _ => false)
 | .str => (match P.underlying t with | some .string => true | _ => false)
 | _ => false
def eqFB (P : Program) : Nat → List Go.Field → Ty → Bool
 | _, [], _ => false
 | off, [f], τ => decide (f.name ≠ "_") && Nat.beq f.offset off && oneFitsB P f.type τ
 | off, f :: g :: fs, .pair a b => decide (f.name ≠ "_") && Nat.beq f.offset off && oneFitsB P f.type a && eqFB P (off + 1) (g :: fs) b
 | _, _, _ => false
def descFitsB (i : TI) (d : TypeDesc) : Bool :=
 match i.ty, d with
 | .int k, .int k' => decide (k' = k)
 | .int _, _ => false
 | .bool, .bool => true
 | .bool, _ => false
 | .str, .string => true
 | .str, _ => false
 | .sl _, .slice e => Nat.beq e i.elem
 | .sl _, _ => false
 | .map _ _, .map k e => Nat.beq k i.key && Nat.beq e i.elem
 | .map _ _, _ => false
 | .ptr _, .pointer _ => true
 | .ptr _, _ => false
 | _, _ => true
def fieldsB : List Go.Field → List (Nat × Nat) → Bool
 | [], [] => true
 | f :: fs, p :: ps => Nat.beq f.offset p.1 && Nat.beq f.type p.2 && fieldsB fs ps
 | _, _ => false
def rowOkB (P : Program) (t : Nat) (i : TI) : Bool :=
 (match P.info? t with
  | some inf => Nat.beq inf.size i.ty.cells && Nat.beq inf.bytes i.bytes && (match inf.zero with | some z => (aggB z == i.agg) && zrepsB i.zero z.cells.toList && (i.agg || (match z with | .tuple _ => false | _ => true)) | none => false)
  | none => false) &&
 (i.agg || i.ty.one) && Nat.beq i.zero.length i.ty.cells && Nat.ble i.bytes 4096 &&
 (match i.agg with
  | true => (match P.underlying t with
   | some (.array n e) => i.fields.isEmpty && Nat.beq n i.ty.cells && Nat.beq e i.elem && !(Nat.beq i.ty.cells 0)
   | some (.struct fs) => (!i.fields.isEmpty || Nat.beq i.ty.cells 0) && (fs.toList.mapM (fun f => (P.info? f.type).map fun i => (f.offset, i.size))).isSome && (!i.ty.eqB || (eqFB P 0 fs.toList i.ty && !(P.eqGuardType P.depth t))) && !(P.stoodInHeld t) && fieldsB fs.toList i.fields
   | _ => false)
  | false => (match P.underlying t with | some d => plainDesc d && descFitsB i d | none => false))
section
variable {P : Program}
theorem zrep_of : ∀ {l : LV} {c : Value}, zrepB l c = true → ZRep l c := by
 intro l c h
 unfold zrepB at h
 split at h
 ·rename_i b c
  have : b = c := by simpa using h
  subst this
  rfl
 ·simp only [Bool.and_eq_true, decide_eq_true_eq] at h
  obtain ⟨⟨⟨rfl, rfl⟩, h3⟩, h4⟩ := h
  exact ⟨rfl, h3, h4⟩
 ·rename_i l s
  simp only [Bool.and_eq_true, decide_eq_true_eq] at h
  obtain ⟨h1, h2⟩ := h
  subst h1
  exact ⟨rfl, h2⟩
 ·rfl
 ·rfl
 ·rfl
 ·trivial
 ·cases h
theorem zreps_of : ∀ {ls : List LV} {cs : List Value}, zrepsB ls cs = true → All2 ZRep ls cs
 | [], [], _ => trivial
 | l :: ls, c :: cs, h => by
  simp only [zrepsB, Bool.and_eq_true] at h
  exact ⟨zrep_of h.1, zreps_of h.2⟩
 | [], _ :: _, h => by cases h
 | _ :: _, [], h => by cases h
theorem oneFits_of {t : Nat} {τ : Ty} (h : oneFitsB P t τ = true) : oneFits P t τ := by
 cases τ <;> try (cases h; done)
 all_goals
  simp only [oneFitsB] at h
  split at h
 ·rename_i hu; exact hu
 ·cases h
 ·rename_i k' hu
  have h := of_decide_eq_true h
  subst h
  exact hu
 ·cases h
 ·rename_i hu; exact hu
 ·cases h
theorem eqF_of : ∀ {fs : List Go.Field} {off : Nat} {τ : Ty}, eqFB P off fs τ = true → EqF P off fs τ
 | [], off, τ, h => by simp [eqFB] at h
 | [f], off, τ, h => by
  simp only [eqFB, Bool.and_eq_true, decide_eq_true_eq] at h
  obtain ⟨⟨h1, h2⟩, h3⟩ := h
  cases τ <;> exact ⟨h1, Nat.eq_of_beq_eq_true h2, oneFits_of h3⟩
 | f :: g :: fs, off, τ, h => by
  cases τ <;> try (simp [eqFB] at h; done)
  simp only [eqFB, Bool.and_eq_true, decide_eq_true_eq] at h
  obtain ⟨⟨⟨h1, h2⟩, h3⟩, h4⟩ := h
  exact ⟨h1, Nat.eq_of_beq_eq_true h2, oneFits_of h3, eqF_of h4⟩
theorem descFits_of {i : TI} {d : TypeDesc} (h : descFitsB i d = true) : descFits i d := by
 unfold descFitsB at h
 unfold descFits
 generalize i.ty = τ at h ⊢
 cases τ <;> cases d <;> first
  | exact False.elim (Bool.false_ne_true h)
  | exact trivial
  | exact rfl
  | exact ⟨_, rfl⟩
  | exact congrArg TypeDesc.int (of_decide_eq_true h)
  | exact congrArg TypeDesc.slice (Nat.eq_of_beq_eq_true h)
  | exact (by
   have h := (Bool.and_eq_true _ _).mp h
   exact congr (congrArg TypeDesc.map (Nat.eq_of_beq_eq_true h.1)) (Nat.eq_of_beq_eq_true h.2))
theorem fields_of : ∀ {fs : List Go.Field} {ps : List (Nat × Nat)}, fieldsB fs ps = true → fs.length = ps.length ∧ ∀ (f o ft : Nat), ps[f]? = some (o, ft) → ∃ fd : Go.Field, fs[f]? = some fd ∧ fd.offset = o ∧ fd.type = ft
 | [], [], _ => ⟨rfl, by simp⟩
 | f :: fs, p :: ps, h => by
  simp only [fieldsB, Bool.and_eq_true] at h
  obtain ⟨⟨h1, h2⟩, h3⟩ := h
  obtain ⟨g1, g2⟩ := fields_of h3
  refine ⟨by simp [g1], fun k o ft hk => ?_⟩
  cases k with
  | zero =>
   simp only [List.getElem?_cons_zero, Option.some.injEq] at hk
   subst hk
   exact ⟨f, rfl, Nat.eq_of_beq_eq_true h1, Nat.eq_of_beq_eq_true h2⟩
  | succ k => simpa using g2 k o ft (by simpa using hk)
 | [], _ :: _, h => by cases h
 | _ :: _, [], h => by cases h
theorem rowOk_of {t : Nat} {i : TI} (h : rowOkB P t i = true) : TyOk P t i := by
 unfold rowOkB at h
 simp only [Bool.and_eq_true] at h
 obtain ⟨⟨⟨⟨h1, h2⟩, h3⟩, h4⟩, h5⟩ := h
 have hagg : i.agg = true → (i.fields = [] ∧ P.underlying t = some (.array i.ty.cells i.elem)) ∨ ∃ fs : Array Go.Field, (i.fields = [] → i.ty.cells = 0) ∧ P.underlying t = some (.struct fs) ∧ (fs.toList.mapM (fun f => (P.info? f.type).map fun i => (f.offset, i.size))).isSome = true ∧ (!i.ty.eqB || (eqFB P 0 fs.toList i.ty && !(P.eqGuardType P.depth t))) = true ∧ P.stoodInHeld t = false ∧ fieldsB fs.toList i.fields = true := fun ha => by
  rw [ha] at h5
  simp only at h5
  split at h5
  ·rename_i n e hu
   simp only [Bool.and_eq_true, Bool.not_eq_true'] at h5
   obtain ⟨⟨⟨a1, a2⟩, a3⟩, a4⟩ := h5
   refine .inl ⟨by simpa using a1, ?_⟩
   rw [hu, Nat.eq_of_beq_eq_true a2, Nat.eq_of_beq_eq_true a3]
  ·rename_i fs hu
   simp only [Bool.and_eq_true, Bool.not_eq_true'] at h5
   obtain ⟨⟨⟨⟨a0, a1⟩, a2⟩, a3⟩, a4⟩ := h5
   refine .inr ⟨fs, fun hf => ?_, hu, a1, a2, a3, a4⟩
   rw [hf] at a0
   simpa using a0
  ·cases h5
 refine ⟨?_, fun ha => ?_, Nat.eq_of_beq_eq_true h3, Nat.le_of_ble_eq_true h4, fun ha hf => ?_, fun ha he hf => ?_, fun ha he hf => ?_, ?_⟩
 ·split at h1
  ·rename_i inf hi
   simp only [Bool.and_eq_true] at h1
   obtain ⟨⟨g1, g2⟩, g3⟩ := h1
   split at g3
   ·rename_i z hz
    simp only [Bool.and_eq_true] at g3
    obtain ⟨⟨k1, k2⟩, k3⟩ := g3
    refine ⟨inf, z, hi, Nat.eq_of_beq_eq_true g1, Nat.eq_of_beq_eq_true g2, hz, ?_, zreps_of k2⟩
    have k1 : aggB z = i.agg := by simpa using k1
    rw [← k1]
    cases z <;> first | rfl | simp [aggB, IsV, Value.cells]
   ·cases g3
  ·cases h1
 ·rw [ha] at h2; simpa using h2
 ·rcases hagg ha with ⟨h0, _⟩ | ⟨fs, _, a1, a2, _⟩
  ·rw [h0] at hf; cases hf
  obtain ⟨pl, hp⟩ := Option.isSome_iff_exists.1 a2
  exact ⟨fs, pl, a1, hp⟩
 ·rcases hagg ha with ⟨h0, _⟩ | ⟨fs, _, a1, _, a3, _⟩
  ·rw [h0] at hf; cases hf
  rw [he] at a3
  simp only [Bool.not_true, Bool.false_or, Bool.and_eq_true] at a3
  exact ⟨fs, a1, eqF_of a3.1⟩
 ·rcases hagg ha with ⟨h0, _⟩ | ⟨fs, _, a1, _, a3, _⟩
  ·rw [h0] at hf; cases hf
  rw [he] at a3
  simp only [Bool.not_true, Bool.false_or, Bool.and_eq_true] at a3
  simpa using a3.2
 ·cases ha : i.agg with
  | true =>
   rcases hagg ha with h0 | ⟨fs, a0, a1, _, _, a4, a5⟩
   ·exact .inl h0
   obtain ⟨f1, f2⟩ := fields_of a5
   exact .inr ⟨fs, a0, a1, a4, fun f o ft hf => by obtain ⟨fd, q1, q2⟩ := f2 f o ft hf; exact ⟨fd, by simpa using q1, q2⟩, by simpa using f1⟩
  | false =>
   rw [ha] at h5
   simp only at h5
   split at h5
   ·rename_i d hu
    simp only [Bool.and_eq_true] at h5
    exact ⟨d, hu, h5.1, descFits_of h5.2⟩
   ·cases h5
def tabOkB (P : Program) (l : List (Nat × Option TI)) : Bool := l.all fun p => match p.2 with | some i => rowOkB P p.1 i | none => true
theorem tabOk_of {l : List (Nat × Option TI)} (h : tabOkB P l = true) : TabOk P (ofL none l) := by
 intro t i hi
 induction l with
 | nil => cases hi
 | cons p l ih =>
  unfold tabOkB at h
  rw [List.all_cons, Bool.and_eq_true] at h
  obtain ⟨k, x⟩ := p
  rw [ofL_cons] at hi
  by_cases hk : t = k
  ·subst hk
   rw [upd_same] at hi
   subst hi
   exact rowOk_of h.1
  ·rw [upd_other _ _ hk] at hi
   exact ih h.2 hi
end
end Go.Proofs.Ytadhpgecilhgnaa.A

-- YtadhpgecilhgnaaLw
set_option linter.unusedVariables false
set_option linter.unusedSimpArgs false
namespace Go.Proofs.Ytadhpgecilhgnaa.A
open Go
section
variable {P : Program} {tab : Nat → Option TI}
theorem TOk.nil : TOk P (ofL none []) := fun _ _ h => by cases h
theorem TOk.cons {f : Nat} {F : FunE} {l : List (Nat × Option FunE)} (h : FunC P f F) (hl : TOk P (ofL none l)) : TOk P (ofL none ((f, some F) :: l)) := by
 intro g G hg
 rw [ofL_cons] at hg
 by_cases e : g = f
 ·subst e
  rw [upd_same] at hg
  cases hg
  exact h
 ·rw [upd_other _ _ e] at hg
  exact hl g G hg
theorem funC_of (hm : P.follows .mixedOrders = true) (hT : TabOk P tab) {f : FuncId} {fn : Func} (hf : P.funcs[f]? = some fn) {T : Nat → Nat → Option FunE} {ann : Nat → Option (List Keep)} {ins : List (Bool × Ty)} {outs : List Ty} {n : Nat} (hC : ∀ k, TOk P (T k)) (hk : fnOkB fn ins = true) (hn : (fn.name == "runtime.NumGoroutine") = false) : FunC P f (fnE tab T ann fn ins outs n) := by
 refine ⟨fun _ => fnE_ok hm hT hf (fun k _ => way_ok hT (hC k)) hk, fun _ _ h => (by cases h), fn, hf, hn, ?_⟩
 simp only [fnOkB, Bool.and_eq_true] at hk
 have := hk.1.1.2
 cases hb : fn.body with
 | none => rw [hb] at this; cases this
 | some _ => rfl
theorem FunC.spec {f : FuncId} {ins : List (Bool × Ty)} {outs : List Ty} {F : Nat → (ins.foldr (fun p t => Ty.pair p.2 t) .unit).den → Option ((outs ++ (ins.filter (·.1)).map (·.2)).foldr Ty.pair .unit).den} {g : (ins.foldr (fun p t => Ty.pair p.2 t) .unit).den → Option ((outs ++ (ins.filter (·.1)).map (·.2)).foldr Ty.pair .unit).den}
 (hF : ∀ n, FunC P f { ins := ins, outs := outs, f := F n }) (h : ∀ x r, g x = some r → ∃ n, F n x = some r) : FunC P f { ins := ins, outs := outs, f := g } := by
 refine ⟨fun _ Z w xs vs Fs r h1 h2 h3 h4 h5 => ?_, fun _ _ h => (by cases h), (hF 0).en⟩
 obtain ⟨n, hn⟩ := h xs r h5
 exact ((hF n).ok' rfl Z w xs vs Fs r h1 h2 h3 h4 hn).mono fun e w' ⟨v, Z', us, Fr, Fi, he, p⟩ => ⟨v, Z', us, Fr, Fi, he, ⟨p.kp, p.zs, p.zl, p.zi, p.res, p.v, p.io, p.nd, p.nz⟩⟩
theorem law_end {Z : Nat → Prop} {w w' : World} {F : FunE} {vs us : List Value} {v : Value} {Z' : Nat → Prop} {Fr Fi : List Nat} {r : ((F.outs ++ (F.ins.filter (·.1)).map (·.2)).foldr Ty.pair .unit).den} (p : Post Z w [] F vs r v w' Z' us Fr Fi) {τs : List Ty} (ho : F.outs = [.bool]) {b : Bool} (hb : ResL Z' w' F.outs (splitRes F.outs _ r).1 us Fr → ResL Z' w' [.bool] (b, ()) us Fr) :
 v = .bool b ∧ RowKit.Below w.heap.size w w' := by
 refine ⟨?_, p.kp.os, p.kp.tape, p.kp.output, p.kp.size, fun k hk => p.kp.block k hk (by simp)⟩
 obtain ⟨u, us', F1, F2, e1, e2, ⟨cs, e3, e4⟩, e5, e6⟩ := hb p.res
 have e3 : cs = [u] := e3
 subst e3
 obtain ⟨e7, _⟩ := e4
 rw [p.v, e1, e5]
 simpa [tupOf] using e7
end
end Go.Proofs.Ytadhpgecilhgnaa.A

-- YtadhpgecilhgnaaShelf
namespace Go.Proofs
open Go.Shelf
end Go.Proofs

-- YtadhpgecilhgnaaSs
set_option linter.unusedVariables false
set_option linter.unusedSimpArgs false
namespace Go.Proofs.Ytadhpgecilhgnaa.A
open Go Go.Sort
section
variable {P : Program} {w w' : World} {Z : Nat → Prop}

theorem strs_rep : ∀ {xs : List (List UInt8)} {c : List Value} {F : List Nat}, RepL (fun (x : List UInt8) c F => Rep Z w .str x c F) xs c F ↔ (c = xs.map (encStr) ∧ F = [] ∧ ∀ x ∈ xs, x.length ≤ big)
 | [], c, F => ⟨fun h => ⟨h.1, h.2, by simp⟩, fun h => ⟨h.1, h.2.1⟩⟩
 | x :: xs, c, F => by
  constructor
  ·rintro ⟨c1, c2, F1, F2, rfl, rfl, ⟨h1, h2, h3⟩, h4⟩
   obtain ⟨q1, q2, q3⟩ := strs_rep.1 h4
   subst h1; subst h2; subst q1; subst q2
   refine ⟨rfl, rfl, fun y hy => ?_⟩
   rcases List.mem_cons.1 hy with rfl | hy
   ·exact h3
   ·exact q3 y hy
  ·rintro ⟨rfl, rfl, h⟩
   exact ⟨[_], _, [], [], rfl, rfl, ⟨rfl, rfl, h x (by simp)⟩, strs_rep.2 ⟨rfl, rfl, fun y hy => h y (by simp [hy])⟩⟩
theorem strs_vec {xs : List (List UInt8)} {v : Value} {F : List Nat} (h : Rep Z w (.vec .str) xs [v] F) :
 xs.length ≤ 8796093022208 ∧ (∀ x ∈ xs, x.length ≤ big) ∧ ((xs = [] ∧ F = [] ∧ v = .slice none 0 0) ∨ ∃ b o cap blk el, v = .slice (some ⟨b, o, none⟩) xs.length cap ∧ xs.length ≤ cap ∧ F = [b] ∧ w.heap[b]? = some (.cells blk el (0, 0)) ∧ o + cap ≤ blk.size ∧ ∀ (j : Nat) (x : List UInt8), xs[j]? = some x → blk[o + j]? = some (encStr x)) := by
 obtain ⟨h1, a, cap, c, F1, F2, h2, h3, h4, h5, h6⟩ := h
 obtain ⟨q1, q2, q3⟩ := strs_rep.1 h5
 subst q1; subst q2
 refine ⟨h1, q3, ?_⟩
 rcases h6 with ⟨rfl, rfl, h7, rfl⟩ | ⟨b, o, blk, el, rfl, h7, h8, h9, rfl⟩
 ·have : xs = [] := List.eq_nil_of_length_eq_zero h7
  subst this
  exact .inl ⟨rfl, h4, by simpa using h2⟩
 ·refine .inr ⟨b, o, cap, blk, el, by simpa using h2, h3, by simpa using h4, h7, by simpa [Ty.cells] using h8, fun j x hx => h9 j _ (by simp [hx])⟩
theorem strs_mk {xs : List (List UInt8)} {b o cap : Nat} {blk : Array Value} {el : TypeId} (h1 : xs.length ≤ 8796093022208) (h2 : ∀ x ∈ xs, x.length ≤ big) (h3 : xs.length ≤ cap) (h4 : w.heap[b]? = some (.cells blk el (0, 0))) (h5 : o + cap ≤ blk.size) (h6 : ∀ (j : Nat) (x : List UInt8), xs[j]? = some x → blk[o + j]? = some (encStr x)) :
 Rep Z w (.vec .str) xs [.slice (some ⟨b, o, none⟩) xs.length cap] [b] := by
 refine ⟨h1, _, cap, _, [b], [], rfl, h3, rfl, strs_rep.2 ⟨rfl, rfl, h2⟩, .inr ⟨b, o, blk, el, rfl, h4, by simpa [Ty.cells] using h5, fun j u hu => ?_, rfl⟩⟩
 rw [List.getElem?_map] at hu
 cases hx : xs[j]? with
 | none => rw [hx] at hu; cases hu
 | some x => rw [hx] at hu; cases hu; exact h6 j x hx
end
end Go.Proofs.Ytadhpgecilhgnaa.A

-- YtadhpgecilhgnaaIns
set_option linter.unusedVariables false
set_option linter.unusedSimpArgs false
namespace Go.Proofs.InsW
open Go Go.Proofs Go.Shelf Go.RowKit Go.Lib
variable {P : Program} {ρ : Ren}
set_option maxHeartbeats 4000000 in
set_option maxRecDepth 100000 in
theorem end_room (L : Lays2.n22 P ρ) (b off n c vb voff vc : Nat) (x : Value) (w : World) (hroom : n + 1 ≤ c) (hn : n ≤ 8796093022208)
 (hsp : (w.cell? ⟨b, off + n, none⟩).isSome = true) (hfz : w.frozen? ⟨b, off + n, none⟩ = false)
 (hvs : w.cell? ⟨vb, voff, none⟩ = some x) (h1v : x.oneCell' = true) :
 Calls P (ρ.f 22) #[.slice (some ⟨b, off, none⟩) n c, .int .i64 n, .slice (some ⟨vb, voff, none⟩) 1 vc] w fun e w' =>
  e = .returned (.slice (some ⟨b, off, none⟩) (n + 1) c) ∧ w' = w.setCells b (off + n) [x] := by
 have t0 := L.t0; have t3 := L.t3; have t4 := L.t4; have t9 := L.t9; have t24 := L.t24
 have a0 := L.a0; have a3 := L.a3; have a4 := L.a4; have a9 := L.a9; have a24 := L.a24
 have z0 := L.z0; have z3 := L.z3; have z4 := L.z4; have z9 := L.z9; have z24 := L.z24
 have v0 := L.v0; have v3 := L.v3; have v4 := L.v4; have v9 := L.v9; have v24 := L.v24
 have u0 := run_underlying L.t0; have u3 := run_underlying L.t3; have u4 := run_underlying L.t4; have u9 := run_underlying L.t9; have u24 := run_underlying L.t24
 have mixed := L.mixed
 have one : ¬ ((1 : Int) = 0) := by decide
 have src : Src P 1 (ρ.t 24) (.slice (some ⟨vb, voff, none⟩) 1 vc) 1 [x] w := Src.ofSlice w L.t24 ⟨vb, voff, none⟩ 1 vc [x] (by simp) (fun j u hj => by
  have : j = 0 := by have := (List.getElem?_eq_some_iff.1 hj).1; simp at this; omega
  subst this
  cases hj
  exact hvs) (by simpa using h1v)
 go_enter L.f22, Body2.n22_ntmps ρ
 go_wp2_with (at_builtin; refine wpList_append_room1 _ rfl _ _ (ρ.t 24) (ρ.t 24) rfl (ρ.t 9) _ _ L.t24 L.i9 b off n c rfl _ rfl 1 [x] src hroom (fun j hj => by
  have : j = 0 := by simp at hj; omega
  subst this; exact hsp) (fun j hj => by
  have : j = 0 := by simp at hj; omega
  subst this; exact hfz) ?_)
 go_ret
 exact ⟨rfl, rfl⟩

set_option maxHeartbeats 4000000 in
set_option maxRecDepth 100000 in
theorem shift (L : Lays2.n22 P ρ) (b off n c i vb voff vc : Nat) (cs : List Value) (x : Value) (w : World) (hi : i < n) (hroom : n + 1 ≤ c) (hn : n ≤ 8796093022208) (hvb : vb ≠ b)
 (hcl : cs.length = n) (hcs : ∀ j v, cs[j]? = some v → w.cell? ⟨b, off + j, none⟩ = some v) (hsp : ∀ j, j < n + 1 → (w.cell? ⟨b, off + j, none⟩).isSome = true) (hfz : ∀ j, j < n + 1 → w.frozen? ⟨b, off + j, none⟩ = false)
 (hvs : w.cell? ⟨vb, voff, none⟩ = some x) (h1c : ∀ v ∈ cs, v.oneCell' = true) (h1v : x.oneCell' = true)
 (tA tB : TypeId) (kA kB : Nat) (hsa : w.shape? vb = some (tA, kA)) (hsb : w.shape? b = some (tB, kB)) (hkB : kB ≠ 0) (hfa : w.frozen? ⟨vb, voff, none⟩ = false) (hfe : w.frozen? ⟨vb, kA, none⟩ = false) :
 Calls P (ρ.f 22) #[.slice (some ⟨b, off, none⟩) n c, .int .i64 i, .slice (some ⟨vb, voff, none⟩) 1 vc] w fun e w' =>
  e = .returned (.slice (some ⟨b, off, none⟩) (n + 1) c) ∧ w' = (w.drew.setCells b (off + (i + 1)) (cs.drop i)).setCells b (off + i) [x] := by
 have t0 := L.t0; have t3 := L.t3; have t4 := L.t4; have t9 := L.t9; have t24 := L.t24
 have a0 := L.a0; have a3 := L.a3; have a4 := L.a4; have a9 := L.a9; have a24 := L.a24
 have z0 := L.z0; have z3 := L.z3; have z4 := L.z4; have z9 := L.z9; have z24 := L.z24
 have v0 := L.v0; have v3 := L.v3; have v4 := L.v4; have v9 := L.v9; have v24 := L.v24
 have u0 := run_underlying L.t0; have u3 := run_underlying L.t3; have u4 := run_underlying L.t4; have u9 := run_underlying L.t9; have u24 := run_underlying L.t24
 have mixed := L.mixed
 have one : ¬ ((1 : Int) = 0) := by decide
 have apart : ¬ ((i : Int) = (n : Int)) := by omega
 have size1 : (P.info? (ρ.t 9)).map (·.size) = some 1 := by
  obtain ⟨inf, h, _, h1, _⟩ := info_parts L.i9
  rw [h]; simp [h1]
 -- the library asks whether the two rows lie over one another
 have over : ∀ lb cb, (callFunc (ρ.f 29) #[.slice (some ⟨vb, voff, none⟩) 1 vc, .slice (some ⟨b, off + (i + 1), none⟩) lb cb]).run P w = .ok (.value (.bool false)) w := fun lb cb => by
  rw [run_callFunc_extern L.f29 (by kernel_rfl) (by kernel_rfl) (by kernel_rfl) (e := Extern.SlicesOverlaps.overlaps #[(ρ.t 24), (ρ.t 24)] #[(ρ.t 4)]) (by kernel_rfl),
   Lib.run_overlaps_apart w (ρ.t 24) (ρ.t 4) (ρ.t 9) L.t24 1 L.z9 ⟨vb, voff, none⟩ ⟨b, off + (i + 1), none⟩ 1 vc lb cb hvb tA tB kA kB hsa hsb hkB hfa hfe]
  rfl
 have rest : (cs.drop i).length = n - i := by rw [List.length_drop, hcl]
 have k1 : IntKind.i64.wrap ((i : Int) + (1 : Int)) = (i : Int) + (1 : Int) := by rw [IntKind.wrap_i64]; omega
 have k1' : IntKind.i64.wrap ((n : Int) + (1 : Int)) = (n : Int) + (1 : Int) := by rw [IntKind.wrap_i64]; omega
 have k2 : (0 : Int) ≤ (i : Int) + (1 : Int) := by omega
 have k3 : i ≤ n := by omega
 have k4 : ((i : Int) + (1 : Int)).toNat = i + 1 := by omega
 have k5 : ¬ (c = i + 1) := by omega
 have k6 : (i : Int) ≤ (n : Int) + (1 : Int) := by omega
 have k7 : ¬ (c = i) := by omega
 have copy1 : ∀ ty dc sc, (Builtin.copy_ #[(ρ.t 24), (ρ.t 24)] ty #[.slice (some ⟨b, off + (i + 1), none⟩) (n - i) dc, .slice (some ⟨b, off + i, none⟩) (n + 1 - i) sc]).run P w.drew = .ok (goInt (cs.drop i).length) (w.drew.setCells b (off + (i + 1)) (cs.drop i)) := fun ty dc sc =>
  run_copy_cells w.drew _ _ ty (ρ.t 9) b (off + (i + 1)) (n - i) dc ⟨b, off + i, none⟩ (n + 1 - i) sc (cs.drop i) L.t24 size1 (by rw [rest]; simp only [Nat.min_def]; split <;> omega)
   (fun j v hj => by rw [Addr.add_lit, Nat.add_assoc]; exact hcs (i + j) v (by rwa [List.getElem?_drop] at hj))
   (fun j hj => by rw [Nat.add_assoc]; exact hsp _ (by omega)) (fun j hj => by rw [Nat.add_assoc]; exact hfz _ (by omega)) (fun v hv => h1c v (List.mem_of_mem_drop hv))
 generalize hW : w.drew.setCells b (off + (i + 1)) (cs.drop i) = W1 at copy1 ⊢
 have there : ∀ k, k < n + 1 → (W1.cell? ⟨b, off + k, none⟩).isSome = true := fun k hk => by
  rw [← hW]
  exact isSome_setCells b _ _ _ (fun j hj => by rw [Nat.add_assoc]; exact hsp _ (by omega)) _ (hsp k hk)
 have copy2 : ∀ (W : World), (∀ y, W.cell? y = W1.cell? y) → (∀ y, W.frozen? y = W1.frozen? y) → ∀ ty dc, (Builtin.copy_ #[(ρ.t 24), (ρ.t 24)] ty #[.slice (some ⟨b, off + i, none⟩) (n + 1 - i) dc, .slice (some ⟨vb, voff, none⟩) 1 vc]).run P W = .ok (goInt [x].length) (W.setCells b (off + i) [x]) := fun W hc hf ty dc =>
  run_copy_cells W _ _ ty (ρ.t 9) b (off + i) (n + 1 - i) dc ⟨vb, voff, none⟩ 1 vc [x] L.t24 size1 (by simp only [List.length_singleton, Nat.min_def]; split <;> omega)
   (fun j v hj => by
    have : j = 0 := by have := (List.getElem?_eq_some_iff.1 hj).1; simp at this; omega
    subst this
    cases hj
    rw [Addr.add_lit, hc, ← hW, World.cell?_setCells_out b _ _ _ _ (fun h _ => absurd h hvb)]
    exact hvs)
   (fun j hj => by rw [hc, Nat.add_assoc]; exact there _ (by simp at hj; omega)) (fun j hj => by rw [hf, ← hW, World.frozen?_setCells, Nat.add_assoc]; exact hfz _ (by simp at hj; omega)) (by simpa using h1v)
 go_enter L.f22, Body2.n22_ntmps ρ
 go_wp2_with (simp only [over])
 go_region_law_o (refine step_copy_runI rfl _ _ (ρ.t 24) (ρ.t 24) rfl _ _ (by simp [Act.eval, Act.put]) (by simp [Act.eval, Act.put]) (copy1 _ _ _) ?_)
 go_wp2_with (at_builtin; refine wpList_copy_runI _ rfl _ _ (ρ.t 24) (ρ.t 24) rfl _ _ rfl rfl (copy2 _ (fun _ => rfl) (fun _ => rfl) _ _) ?_)
 go_ret
 exact ⟨rfl, rfl⟩
end Go.Proofs.InsW

-- YtadhpgecilhgnaaIs
set_option linter.unusedVariables false
set_option linter.unusedSimpArgs false
namespace Go.Proofs.Ytadhpgecilhgnaa.A
open Go Go.Sort Go.Shelf
section
variable {P : Program} {w w' : World} {Z : Nat → Prop} {ρ : Ren}

theorem setCells_heap (b : Nat) : ∀ (vs : List Value) (o : Nat) (w : World) (blk : Array Value) (el : TypeId) (fz : Nat × Nat), w.heap[b]? = some (.cells blk el fz) → o + vs.length ≤ blk.size →
 ∃ blk', (w.setCells b o vs).heap[b]? = some (.cells blk' el fz) ∧ blk'.size = blk.size ∧ ∀ j, blk'[j]? = if o ≤ j ∧ j < o + vs.length then vs[j - o]? else blk[j]?
 | [], o, w, blk, el, fz, h, _ => ⟨blk, h, rfl, fun j => by rw [if_neg (by simp)]⟩
 | v :: vs, o, w, blk, el, fz, h, hl => by
  rw [List.length_cons] at hl
  have h1 : (w.setCell ⟨b, o, none⟩ v).heap[b]? = some (.cells (blk.setIfInBounds o v) el fz) := by
   simp only [World.setCell, Array.getElem?_modify, h]
   simp
  obtain ⟨blk', k1, k2, k3⟩ := setCells_heap b vs (o + 1) _ _ el fz h1 (by simp; omega)
  refine ⟨blk', k1, by rw [k2]; simp, fun j => ?_⟩
  rw [k3, List.length_cons]
  by_cases hj : j = o
  ·subst hj
   rw [if_neg (by omega), if_pos (by omega), Array.getElem?_setIfInBounds_self_of_lt (by omega)]
   simp
  ·by_cases hj2 : o + 1 ≤ j ∧ j < o + 1 + vs.length
   ·rw [if_pos hj2, if_pos (by omega), show j - o = (j - (o + 1)) + 1 by omega, List.getElem?_cons_succ]
   ·rw [if_neg hj2, if_neg (by omega), Array.getElem?_setIfInBounds_ne (by omega)]
theorem setCells_rest (b : Nat) : ∀ (vs : List Value) (o : Nat) (w : World), (w.setCells b o vs).heap.size = w.heap.size ∧ (w.setCells b o vs).os = w.os ∧ (w.setCells b o vs).tape = w.tape ∧ (w.setCells b o vs).output = w.output ∧ ∀ z, z ≠ b → (w.setCells b o vs).heap[z]? = w.heap[z]?
 | [], _, w => ⟨rfl, rfl, rfl, rfl, fun _ _ => rfl⟩
 | v :: vs, o, w => by
  obtain ⟨k1, k2, k3, k4, k5⟩ := setCells_rest b vs (o + 1) (w.setCell ⟨b, o, none⟩ v)
  refine ⟨k1.trans (by simp [World.setCell]), k2, k3, k4, fun z hz => (k5 z hz).trans ?_⟩
  simp [World.setCell, Array.getElem?_modify, Ne.symm hz]
def insS' (l : List (List UInt8)) (i : Int) (vs : List (List UInt8)) : Option (List (List UInt8) × Unit) :=
 if 0 ≤ i ∧ i ≤ l.length ∧ vs.length = 1 ∧ l.length + 1 ≤ 8796093022208 then some (l.take i.toNat ++ vs ++ l.drop i.toNat, ()) else none
def insE' : FunE := { ins := [(false, .vec .str), (false, .int .i64), (false, .vec .str)], outs := [.vec .str], f := fun x => insS' x.1 x.2.1 x.2.2.1 }
theorem out_at {l : List (List UInt8)} {x : List UInt8} {i : Nat} (hi : i ≤ l.length) (j : Nat) : (l.take i ++ [x] ++ l.drop i)[j]? = if j < i then l[j]? else if j = i then some x else l[j - 1]? := by
 have hlen : (l.take i).length = i := by rw [List.length_take]; omega
 rw [List.append_assoc]
 by_cases h1 : j < i
 ·rw [if_pos h1, List.getElem?_append_left (by omega), List.getElem?_take_of_lt h1]
 ·rw [if_neg h1, List.getElem?_append_right (by omega), hlen]
  by_cases h2 : j = i
  ·subst h2; rw [if_pos rfl]; simp
  ·rw [if_neg h2, show j - i = (j - i - 1) + 1 by omega]
   simp only [List.singleton_append, List.getElem?_cons_succ, List.getElem?_drop]
   rw [show i + (j - i - 1) = j - 1 by omega]
theorem ins_post {Fs : List Nat} {vs : List Value} {r : ((insE'.outs ++ (insE'.ins.filter (·.1)).map (·.2)).foldr Ty.pair .unit).den} {v : Value} {b : Nat} (hZ : ∀ b, Z b → b < w.heap.size) (kp : Kept Fs w w') (hr : Rep Z w' (.vec .str) r.1 [v] [b]) (hb : b < w'.heap.size) (hz : ¬ Z b) (hs : b < w.heap.size → b ∈ Fs) :
 ∃ Z' us Fr Fi, Post Z w Fs insE' vs r v w' Z' us Fr Fi := by
 refine ⟨Z, [v], [b], [], ⟨kp, fun _ h => h, fun z h => Nat.lt_of_lt_of_le (hZ z h) kp.size, fun z h _ => .inl h, ⟨v, [], [b], [], rfl, rfl, ⟨[v], rfl, hr⟩, rfl, rfl⟩, rfl, rfl, by simp, fun z hz' => ?_⟩⟩
 simp at hz'
 subst hz'
 exact ⟨hz, hb, hs⟩
theorem ins_core (L : Lays2.n22 P ρ) {l : List (List UInt8)} {k : Nat} {x : List UInt8} {v0 : Value} {F1 : List Nat} {vb voff vc : Nat} {vblk : Array Value} {vel : TypeId} (hZ : ∀ b, Z b → b < w.heap.size) (hk : k ≤ l.length) (g4 : l.length + 1 ≤ 8796093022208) (r0 : Rep Z w (.vec .str) l [v0] F1) (hF : ∀ b ∈ F1 ++ [vb], ¬ Z b ∧ b < w.heap.size) (hN : (F1 ++ [vb]).Nodup) (hx : x.length ≤ big)
 (b5 : w.heap[vb]? = some (.cells vblk vel (0, 0))) (b6 : voff + vc ≤ vblk.size) (b4 : 1 ≤ vc) (b7 : vblk[voff]? = some (encStr x)) :
 Calls P (ρ.f 22) #[v0, .int .i64 (k : Int), .slice (some ⟨vb, voff, none⟩) 1 vc] w fun e w' => ∃ v b, e = .returned v ∧ Kept (F1 ++ [vb]) w w' ∧ Rep Z w' (.vec .str) (l.take k ++ [x] ++ l.drop k) [v] [b] ∧ b < w'.heap.size ∧ ¬ Z b ∧ (b < w.heap.size → b ∈ F1 ++ [vb]) := by
 obtain ⟨a1, a2, a3⟩ := strs_vec r0
 have vcell : w.cell? ⟨vb, voff, none⟩ = some (encStr x) := by
  simp only [World.cell?, b5]
  simpa using b7
 have vone : (encStr x).oneCell' = true := rfl
 have vat : ∀ (j : Nat) (v : Value), [encStr x][j]? = some v → w.cell? ⟨vb, voff + j, none⟩ = some v := fun j v hj => by
  have : j = 0 := by have := (List.getElem?_eq_some_iff.1 hj).1; simp at this; omega
  subst this
  cases hj
  exact vcell
 have vones : ∀ v ∈ [encStr x], v.oneCell' = true := fun v hv => by rw [List.mem_singleton.1 hv]; rfl
 have outl : (l.take k ++ [x] ++ l.drop k).length = l.length + 1 := by simp; omega
 have outb : ∀ y ∈ l.take k ++ [x] ++ l.drop k, y.length ≤ big := fun y hy => by
  rcases List.mem_append.1 hy with hy | hy
  ·rcases List.mem_append.1 hy with hy | hy
   ·exact a2 y (List.mem_of_mem_take hy)
   ·rw [List.mem_singleton.1 hy]; exact hx
  ·exact a2 y (List.mem_of_mem_drop hy)
 -- where there is no room: a new row
 have fresh : ∀ (el : TypeId) (cap : Nat) (w' : World), w'.heap.size = w.heap.size + 1 → w'.os = w.os → w'.tape = w.tape → w'.output = w.output → (∀ z, z < w.heap.size → w'.heap[z]? = w.heap[z]?) →
  ∀ blk : Array Value, w'.heap[w.heap.size]? = some (.cells blk el (0, 0)) → l.length + 1 ≤ cap → cap ≤ blk.size → (∀ (j : Nat) (y : List UInt8), (l.take k ++ [x] ++ l.drop k)[j]? = some y → blk[j]? = some (encStr y)) →
  ∃ v b, Ending.returned (.slice (some ⟨w.heap.size, 0, none⟩) (l.length + 1) cap) = .returned v ∧ Kept (F1 ++ [vb]) w w' ∧ Rep Z w' (.vec .str) (l.take k ++ [x] ++ l.drop k) [v] [b] ∧ b < w'.heap.size ∧ ¬ Z b ∧ (b < w.heap.size → b ∈ F1 ++ [vb]) := by
  intro el cap w' s1 s2 s3 s4 s5 blk s6 s7 s8 s9
  refine ⟨_, w.heap.size, rfl, ⟨s2, s3, s4, by omega, fun z hz _ => s5 z hz⟩, ?_, by omega, fun h => by have := hZ _ h; omega, fun h => by omega⟩
  have := strs_mk (Z := Z) (w := w') (xs := l.take k ++ [x] ++ l.drop k) (b := w.heap.size) (o := 0) (cap := cap) (by omega) outb (by omega) s6 (by omega) (fun j y hy => by rw [Nat.zero_add]; exact s9 j y hy)
  rw [outl] at this
  exact this
 -- a row behind its growth
 have grown : ∀ (cs : List Value) (a : Array Value) (j : Nat) (y : List UInt8), cs.length = l.length + 1 → (∀ (j : Nat) (y : List UInt8), (l.take k ++ [x] ++ l.drop k)[j]? = some y → cs[j]? = some (encStr y)) → (l.take k ++ [x] ++ l.drop k)[j]? = some y → (cs.toArray ++ a)[j]? = some (encStr y) := fun cs a j y hl h hj => by
  have hlt := (List.getElem?_eq_some_iff.1 hj).1
  rw [outl] at hlt
  rw [Array.getElem?_append_left (by simp; omega)]
  simpa using h j y hj
 have zsz : ∀ n, (Builtin.zeroCells (Value.string ⟨#[]⟩).cells n).size = n := fun n => by simp [Builtin.zeroCells, Value.cells]
 rcases a3 with ⟨rfl, rfl, rfl⟩ | ⟨b, off, cap, blk, el, rfl, c1, rfl, c3, c4, c5⟩
 · -- no row as_ yet
  have hk0 : k = 0 := by simpa using hk
  subst hk0
  refine (Any2.slices_Insert_string_end_grow L none 0 0 vb voff 1 vc [] [encStr x] w (by omega) (by omega) (by omega) (by omega) rfl rfl (fun _ => rfl) (fun a h => by cases h) vat vones).mono ?_
  rintro e w' ⟨rfl, rfl⟩
  have hge := grownCap_ge w (0 + 1) 0 (ρ.t 9)
  refine fresh (ρ.t 9) _ _ (World.size_alloc w.drew _) rfl rfl rfl (fun z hz => alloc_old (w := w.drew) hz) _ (alloc_new (w := w.drew)) (by simpa using hge) (by rw [Array.size_append, zsz]; simp; omega) (fun j y hj => grown _ _ j y rfl (fun j y h => ?_) hj)
  ·simp only [List.take_nil, List.drop_nil, List.nil_append, List.append_nil] at h ⊢
   cases j with
   | zero => cases h; rfl
   | succ j => cases h
 ·have hb := hF b (by simp)
  have hne : vb ≠ b := fun e => by subst e; simp at hN
  have at_ : ∀ (j : Nat) (v : Value), (l.map encStr)[j]? = some v → w.cell? ⟨b, off + j, none⟩ = some v := fun j v hj => by
   rw [List.getElem?_map] at hj
   cases hx : l[j]? with
   | none => rw [hx] at hj; cases hj
   | some y =>
    rw [hx] at hj; cases hj
    simp only [World.cell?, c3]
    simpa using c5 j y hx
  have one : ∀ v ∈ l.map encStr, v.oneCell' = true := fun v hv => by
   obtain ⟨y, _, rfl⟩ := List.mem_map.1 hv
   rfl
  have spare : ∀ j, j < cap → (w.cell? ⟨b, off + j, none⟩).isSome = true := fun j hj => by
   simp only [World.cell?, c3]
   rw [if_neg (by simp), Array.getElem?_eq_getElem (by omega)]; rfl
  have free : ∀ j, w.frozen? ⟨b, off + j, none⟩ = false := fun j => by simp [World.frozen?, c3]
  have inplace : ∀ (w' : World) (blk' : Array Value), w'.heap.size = w.heap.size → w'.os = w.os → w'.tape = w.tape → w'.output = w.output → (∀ z, z ≠ b → w'.heap[z]? = w.heap[z]?) → w'.heap[b]? = some (.cells blk' el (0, 0)) → blk'.size = blk.size → l.length + 1 ≤ cap →
   (∀ (j : Nat) (y : List UInt8), (l.take k ++ [x] ++ l.drop k)[j]? = some y → blk'[off + j]? = some (encStr y)) →
   ∃ v b', Ending.returned (.slice (some ⟨b, off, none⟩) (l.length + 1) cap) = .returned v ∧ Kept ([b] ++ [vb]) w w' ∧ Rep Z w' (.vec .str) (l.take k ++ [x] ++ l.drop k) [v] [b'] ∧ b' < w'.heap.size ∧ ¬ Z b' ∧ (b' < w.heap.size → b' ∈ [b] ++ [vb]) := by
   intro w' blk' s1 s2 s3 s4 s5 s6 s7 s8 s9
   refine ⟨_, b, rfl, ⟨s2, s3, s4, by omega, fun z _ hz => s5 z (fun e => hz (by simp [e]))⟩, ?_, by omega, hb.1, fun _ => by simp⟩
   have := strs_mk (Z := Z) (w := w') (xs := l.take k ++ [x] ++ l.drop k) (b := b) (o := off) (cap := cap) (by omega) outb (by omega) s6 (by omega) s9
   rw [outl] at this
   exact this
  by_cases room : l.length + 1 ≤ cap
  ·by_cases hkn : k = l.length
   ·subst hkn
    refine (InsW.end_room L b off l.length cap vb voff vc (encStr x) w room (by omega) (by have := spare l.length (by omega); exact this) (free l.length) vcell vone).mono ?_
    rintro e w' ⟨rfl, rfl⟩
    obtain ⟨k1, k2, k3, k4, k5⟩ := setCells_rest b [encStr x] (off + l.length) w
    obtain ⟨blk', h1, h2, h3⟩ := setCells_heap b [encStr x] (off + l.length) w blk el (0, 0) c3 (by simp; omega)
    refine inplace _ blk' k1 k2 k3 k4 k5 h1 h2 room fun j y hj => ?_
    rw [out_at hk] at hj
    rw [h3]
    by_cases j1 : j < l.length
    ·rw [if_pos j1] at hj
     rw [if_neg (by omega)]
     exact c5 j y hj
    ·rw [if_neg j1] at hj
     by_cases j2 : j = l.length
     ·rw [if_pos j2] at hj
      cases hj
      rw [if_pos (by simp; omega), show off + j - (off + l.length) = 0 by omega]
      rfl
     ·rw [if_neg j2, List.getElem?_eq_none (by omega)] at hj
      cases hj
   ·refine (InsW.shift L b off l.length cap k vb voff vc (l.map encStr) (encStr x) w (by omega) room (by omega) hne (by simp) at_ (fun j hj => spare j (by omega)) (fun j _ => free j) vcell one vone vel el vblk.size blk.size (by simp [World.shape?, b5]) (by simp [World.shape?, c3]) (by omega) (by simp [World.frozen?, b5]) (by simp [World.frozen?, b5])).mono ?_
    rintro e w' ⟨rfl, rfl⟩
    obtain ⟨k1, k2, k3, k4, k5⟩ := setCells_rest b ((l.map encStr).drop k) (off + (k + 1)) w.drew
    obtain ⟨m1, m2, m3, m4, m5⟩ := setCells_rest b [encStr x] (off + k) (w.drew.setCells b (off + (k + 1)) ((l.map encStr).drop k))
    obtain ⟨blk1, h1, h2, h3⟩ := setCells_heap b ((l.map encStr).drop k) (off + (k + 1)) w.drew blk el (0, 0) c3 (by simp; omega)
    obtain ⟨blk2, p1, p2, p3⟩ := setCells_heap b [encStr x] (off + k) _ blk1 el (0, 0) h1 (by simp; omega)
    refine inplace _ blk2 (m1.trans k1) (m2.trans k2) (m3.trans k3) (m4.trans k4) (fun z hz => (m5 z hz).trans (k5 z hz)) p1 (p2.trans h2) room fun j y hj => ?_
    have hj0 := (List.getElem?_eq_some_iff.1 hj).1
    rw [outl] at hj0
    rw [out_at hk] at hj
    rw [p3, h3]
    by_cases j1 : j < k
    ·rw [if_pos j1] at hj
     rw [if_neg (by omega), if_neg (by omega)]
     exact c5 j y hj
    ·rw [if_neg j1] at hj
     by_cases j2 : j = k
     ·rw [if_pos j2] at hj
      cases hj
      rw [if_pos (by simp; omega), show off + j - (off + k) = 0 by omega]
      rfl
     ·rw [if_neg j2] at hj
      rw [if_neg (by simp; omega), if_pos (by simp; omega), List.getElem?_drop, List.getElem?_map, show k + (off + j - (off + (k + 1))) = j - 1 by omega, hj]
      rfl
  ·by_cases hkn : k = l.length
   ·subst hkn
    refine (Any2.slices_Insert_string_end_grow L (some ⟨b, off, none⟩) l.length cap vb voff 1 vc (l.map encStr) [encStr x] w (by omega) c1 (by omega) (by omega) (by simp) rfl (fun h => by cases h) (fun a h => by cases h; intro j v hj; rw [Addr.add_lit]; exact at_ j v hj) vat vones).mono ?_
    rintro e w' ⟨rfl, rfl⟩
    have hge := grownCap_ge w (l.length + 1) cap (ρ.t 9)
    refine fresh (ρ.t 9) _ _ (World.size_alloc w.drew _) rfl rfl rfl (fun z hz => alloc_old (w := w.drew) hz) _ (alloc_new (w := w.drew)) hge (by rw [Array.size_append, zsz]; simp; omega) (fun j y hj => grown _ _ j y (by simp) (fun j y h => ?_) hj)
    ·rw [List.take_length, List.drop_length, List.append_nil] at h
     rw [show l.map encStr ++ [encStr x] = (l ++ [x]).map encStr by simp, List.getElem?_map, h]
     rfl
   ·refine (Any2.slices_Insert_string_grow L b off l.length cap k vb voff 1 vc (l.map encStr) [encStr x] w (by omega) (by omega) c1 (by omega) (by omega) (by simp) rfl at_ vat one vones).mono ?_
    rintro e w' ⟨rfl, rfl⟩
    have hge := grownCap_ge w (l.length + 1) cap (ρ.t 9)
    generalize hG : grownCap w (l.length + 1) cap (ρ.t 9) = G at hge ⊢
    generalize hA : ((List.map encStr l).take k).toArray ++ Builtin.zeroCells (Value.string ⟨#[]⟩).cells (l.length + 1 - k) ++ Builtin.zeroCells (Value.string ⟨#[]⟩).cells (G - (l.length + 1)) = A
    have hAs : A.size = G := by rw [← hA, Array.size_append, Array.size_append, zsz, zsz]; simp; omega
    have hA1 : ∀ j, j < k → A[j]? = (l.map encStr)[j]? := fun j hj => by
     rw [← hA, Array.append_assoc, Array.getElem?_append_left (by simp; omega)]
     simp [List.getElem?_take, hj]
    have hn : (w.alloc (.cells A (ρ.t 9))).drew.heap[w.heap.size]? = some (.cells A (ρ.t 9) (0, 0)) := alloc_new (w := w)
    obtain ⟨k1, k2, k3, k4, k5⟩ := setCells_rest w.heap.size [encStr x] k (w.alloc (.cells A (ρ.t 9))).drew
    obtain ⟨m1, m2, m3, m4, m5⟩ := setCells_rest w.heap.size ((l.map encStr).drop k) (k + 1) ((w.alloc (.cells A (ρ.t 9))).drew.setCells w.heap.size k [encStr x]).drew
    obtain ⟨blk1, h1, h2, h3⟩ := setCells_heap w.heap.size [encStr x] k _ A (ρ.t 9) (0, 0) hn (by simp; omega)
    obtain ⟨blk2, p1, p2, p3⟩ := setCells_heap w.heap.size ((l.map encStr).drop k) (k + 1) ((w.alloc (.cells A (ρ.t 9))).drew.setCells w.heap.size k [encStr x]).drew blk1 (ρ.t 9) (0, 0) h1 (by simp; omega)
    refine fresh (ρ.t 9) _ _ (m1.trans (k1.trans (World.size_alloc w _))) (m2.trans k2) (m3.trans k3) (m4.trans k4) (fun z hz => (m5 z (by omega)).trans ((k5 z (by omega)).trans (alloc_old (w := w) hz))) blk2 p1 hge (by omega) (fun j y hj => ?_)
    ·have hj0 := (List.getElem?_eq_some_iff.1 hj).1
     rw [outl] at hj0
     rw [out_at hk] at hj
     rw [p3, h3]
     by_cases j1 : j < k
     ·rw [if_pos j1] at hj
      rw [if_neg (by omega), if_neg (by omega), hA1 j j1, List.getElem?_map, hj]
      rfl
     ·rw [if_neg j1] at hj
      by_cases j2 : j = k
      ·rw [if_pos j2] at hj
       cases hj
       rw [if_neg (by omega), if_pos (by simp; omega), show j - k = 0 by omega]
       rfl
      ·rw [if_neg j2] at hj
       rw [if_pos (by simp; omega), List.getElem?_drop, List.getElem?_map, show k + (j - (k + 1)) = j - 1 by omega, hj]
       rfl
theorem funOk_insert (L : Lays2.n22 P ρ) : FunOk P (ρ.f 22) insE' := by
 intro Z w xs vs Fs r hZ hA hN hF hf
 obtain ⟨l, i, vl, ⟨⟩⟩ := xs
 obtain ⟨v0, _, F1, _, rfl, rfl, ⟨c0, i0, r0⟩, v1, _, F2, _, rfl, rfl, ⟨c1, i1, r1⟩, v2, _, F3, _, rfl, rfl, ⟨c2, i2, r2⟩, rfl, rfl⟩ := hA
 have i0 : c0 = [v0] := i0
 have i1 : c1 = [v1] := i1
 have i2 : c2 = [v2] := i2
 subst i0; subst i1; subst i2
 obtain ⟨e1, rfl, n1, n2⟩ := r1
 have e1 : v1 = .int .i64 i := by simpa using e1
 subst e1
 have hf : insS' l i vl = some r := hf
 unfold insS' at hf
 split at hf
 case isFalse => cases hf
 rename_i hc
 obtain ⟨g1, g2, g3, g4⟩ := hc
 cases hf
 obtain ⟨x, rfl⟩ : ∃ x, vl = [x] := List.length_eq_one_iff.1 g3
 obtain ⟨k, hk⟩ : ∃ k : Nat, i = k := ⟨i.toNat, (Int.toNat_of_nonneg g1).symm⟩
 subst hk
 have r0 : Rep Z w (.vec .str) l [v0] F1 := r0
 have r2 : Rep Z w (.vec .str) [x] [v2] F3 := r2
 obtain ⟨b1, b2, b3⟩ := strs_vec r2
 rcases b3 with ⟨b3, _⟩ | ⟨vb, voff, vc, vblk, vel, rfl, b4, rfl, b5, b6, b7⟩
 ·cases b3
 have hFF : F1 ++ ([] ++ ([vb] ++ [])) = F1 ++ [vb] := by simp
 rw [hFF] at hN hF ⊢
 refine (ins_core L hZ (by omega) g4 r0 hF hN (b2 x (by simp)) b5 b6 b4 (b7 0 x rfl)).mono ?_
 rintro e w' ⟨v, b, rfl, q1, q2, q3, q4, q5⟩
 obtain ⟨Z', us, Fr, Fi, q⟩ := ins_post (vs := [v0, .int .i64 (k : Int), .slice (some ⟨vb, voff, none⟩) 1 vc]) (r := (l.take k ++ [x] ++ l.drop k, ())) hZ q1 q2 q3 q4 q5
 exact ⟨v, Z', us, Fr, Fi, rfl, q⟩
end
end Go.Proofs.Ytadhpgecilhgnaa.A

-- YtadhpgecilhgnaaK
set_option linter.unusedVariables false
set_option maxRecDepth 100000
namespace Go.Proofs.Ytadhpgecilhgnaa.A
open Go
theorem follows : Try.prog.follows .mixedOrders = true := by kernel_rfl
theorem tab_ok : TabOk Try.prog tab := tabOk_of (by kernel_rfl)
theorem slices_Index_string.ok (n : Nat) : FunC Try.prog 64 (slices_Index_string.E n) := funC_of follows tab_ok Try.func64 (T := slices_Index_string.T) (ann := slices_Index_string.ann) (ins := slices_Index_string.ins) (outs := slices_Index_string.outs) (n := n) (fun k => TOk.nil) (by kernel_rfl) (by kernel_rfl)
theorem slices_Contains_string.ok (n : Nat) : FunC Try.prog 30 (slices_Contains_string.E n) := funC_of follows tab_ok Try.func30 (T := slices_Contains_string.T) (ann := slices_Contains_string.ann) (ins := slices_Contains_string.ins) (outs := slices_Contains_string.outs) (n := n) (fun k => TOk.cons (slices_Index_string.ok k) (TOk.nil)) (by kernel_rfl) (by kernel_rfl)
theorem monitor_IsName.ok (n : Nat) : FunC Try.prog 59 (monitor_IsName.E n) := funC_of follows tab_ok Try.func59 (T := monitor_IsName.T) (ann := monitor_IsName.ann) (ins := monitor_IsName.ins) (outs := monitor_IsName.outs) (n := n) (fun k => TOk.nil) (by kernel_rfl) (by kernel_rfl)
theorem monitor_checkModes.ok (n : Nat) : FunC Try.prog 51 (monitor_checkModes.E n) := funC_of follows tab_ok Try.func51 (T := monitor_checkModes.T) (ann := monitor_checkModes.ann) (ins := monitor_checkModes.ins) (outs := monitor_checkModes.outs) (n := n) (fun k => TOk.cons (slices_Contains_string.ok k) (TOk.cons (monitor_IsName.ok k) (TOk.nil))) (by kernel_rfl) (by kernel_rfl)
theorem kit_In.ok (n : Nat) : FunC Try.prog 58 (kit_In.E n) := funC_of follows tab_ok Try.func58 (T := kit_In.T) (ann := kit_In.ann) (ins := kit_In.ins) (outs := kit_In.outs) (n := n) (fun k => TOk.nil) (by kernel_rfl) (by kernel_rfl)
theorem monitor_checkRule.ok (n : Nat) : FunC Try.prog 52 (monitor_checkRule.E n) := funC_of follows tab_ok Try.func52 (T := monitor_checkRule.T) (ann := monitor_checkRule.ann) (ins := monitor_checkRule.ins) (outs := monitor_checkRule.outs) (n := n) (fun k => TOk.cons (slices_Contains_string.ok k) (TOk.cons (kit_In.ok k) (TOk.cons (monitor_IsName.ok k) (TOk.nil)))) (by kernel_rfl) (by kernel_rfl)
theorem monitor_CheckWatch.ok (n : Nat) : FunC Try.prog 19 (monitor_CheckWatch.E n) := funC_of follows tab_ok Try.func19 (T := monitor_CheckWatch.T) (ann := monitor_CheckWatch.ann) (ins := monitor_CheckWatch.ins) (outs := monitor_CheckWatch.outs) (n := n) (fun k => TOk.cons (monitor_checkModes.ok k) (TOk.cons (monitor_checkRule.ok k) (TOk.nil))) (by kernel_rfl) (by kernel_rfl)
theorem kit_First.ok (n : Nat) : FunC Try.prog 46 (kit_First.E n) := funC_of follows tab_ok Try.func46 (T := kit_First.T) (ann := kit_First.ann) (ins := kit_First.ins) (outs := kit_First.outs) (n := n) (fun k => TOk.nil) (by kernel_rfl) (by kernel_rfl)
theorem monitor_CheckLimits.ok (n : Nat) : FunC Try.prog 77 (monitor_CheckLimits.E n) := funC_of follows tab_ok Try.func77 (T := monitor_CheckLimits.T) (ann := monitor_CheckLimits.ann) (ins := monitor_CheckLimits.ins) (outs := monitor_CheckLimits.outs) (n := n) (fun k => TOk.cons (kit_In.ok k) (TOk.cons (monitor_IsName.ok k) (TOk.nil))) (by kernel_rfl) (by kernel_rfl)
theorem kit_Range.ok (n : Nat) : FunC Try.prog 78 (kit_Range.E n) := funC_of follows tab_ok Try.func78 (T := kit_Range.T) (ann := kit_Range.ann) (ins := kit_Range.ins) (outs := kit_Range.outs) (n := n) (fun k => TOk.cons (kit_In.ok k) (TOk.nil)) (by kernel_rfl) (by kernel_rfl)
theorem monitor_state.ok (n : Nat) : FunC Try.prog 79 (monitor_state.E n) := funC_of follows tab_ok Try.func79 (T := monitor_state.T) (ann := monitor_state.ann) (ins := monitor_state.ins) (outs := monitor_state.outs) (n := n) (fun k => TOk.nil) (by kernel_rfl) (by kernel_rfl)
theorem monitor_StateOf.ok (n : Nat) : FunC Try.prog 44 (monitor_StateOf.E n) := funC_of follows tab_ok Try.func44 (T := monitor_StateOf.T) (ann := monitor_StateOf.ann) (ins := monitor_StateOf.ins) (outs := monitor_StateOf.outs) (n := n) (fun k => TOk.cons (kit_First.ok k) (TOk.cons (monitor_CheckLimits.ok k) (TOk.cons (kit_Range.ok k) (TOk.cons (monitor_state.ok k) (TOk.nil))))) (by kernel_rfl) (by kernel_rfl)
theorem perigeelaw8_awake.ok (n : Nat) : FunC Try.prog 14 (perigeelaw8_awake.E n) := funC_of follows tab_ok Try.func14 (T := perigeelaw8_awake.T) (ann := perigeelaw8_awake.ann) (ins := perigeelaw8_awake.ins) (outs := perigeelaw8_awake.outs) (n := n) (fun k => TOk.cons (monitor_StateOf.ok k) (TOk.nil)) (by kernel_rfl) (by kernel_rfl)
theorem monitor_CheckEvents.ok (n : Nat) : FunC Try.prog 21 (monitor_CheckEvents.E n) := funC_of follows tab_ok Try.func21 (T := monitor_CheckEvents.T) (ann := monitor_CheckEvents.ann) (ins := monitor_CheckEvents.ins) (outs := monitor_CheckEvents.outs) (n := n) (fun k => TOk.cons (kit_In.ok k) (TOk.cons (monitor_IsName.ok k) (TOk.nil))) (by kernel_rfl) (by kernel_rfl)
theorem monitor_newPlayer.ok (n : Nat) : FunC Try.prog 47 (monitor_newPlayer.E n) := funC_of follows tab_ok Try.func47 (T := monitor_newPlayer.T) (ann := monitor_newPlayer.ann) (ins := monitor_newPlayer.ins) (outs := monitor_newPlayer.outs) (n := n) (fun k => TOk.nil) (by kernel_rfl) (by kernel_rfl)
theorem monitor_player_switchRule.ok (n : Nat) : FunC Try.prog 89 (monitor_player_switchRule.E n) := funC_of follows tab_ok Try.func89 (T := monitor_player_switchRule.T) (ann := monitor_player_switchRule.ann) (ins := monitor_player_switchRule.ins) (outs := monitor_player_switchRule.outs) (n := n) (fun k => TOk.nil) (by kernel_rfl) (by kernel_rfl)
theorem monitor_player_act.ok (n : Nat) : FunC Try.prog 80 (monitor_player_act.E n) := funC_of follows tab_ok Try.func80 (T := monitor_player_act.T) (ann := monitor_player_act.ann) (ins := monitor_player_act.ins) (outs := monitor_player_act.outs) (n := n) (fun k => TOk.cons (monitor_player_switchRule.ok k) (TOk.nil)) (by kernel_rfl) (by kernel_rfl)
theorem monitor_player_come.ok (n : Nat) : FunC Try.prog 48 (monitor_player_come.E n) := funC_of follows tab_ok Try.func48 (T := monitor_player_come.T) (ann := monitor_player_come.ann) (ins := monitor_player_come.ins) (outs := monitor_player_come.outs) (n := n) (fun k => TOk.cons (monitor_player_act.ok k) (TOk.nil)) (by kernel_rfl) (by kernel_rfl)
theorem monitor_Play.ok (n : Nat) : FunC Try.prog 17 (monitor_Play.E n) := funC_of follows tab_ok Try.func17 (T := monitor_Play.T) (ann := monitor_Play.ann) (ins := monitor_Play.ins) (outs := monitor_Play.outs) (n := n) (fun k => TOk.cons (monitor_CheckWatch.ok k) (TOk.cons (monitor_CheckEvents.ok k) (TOk.cons (kit_First.ok k) (TOk.cons (monitor_newPlayer.ok k) (TOk.cons (monitor_player_come.ok k) (TOk.nil)))))) (by kernel_rfl) (by kernel_rfl)
theorem monitor_Never.ok (n : Nat) : FunC Try.prog 25 (monitor_Never.E n) := funC_of follows tab_ok Try.func25 (T := monitor_Never.T) (ann := monitor_Never.ann) (ins := monitor_Never.ins) (outs := monitor_Never.outs) (n := n) (fun k => TOk.cons (monitor_CheckWatch.ok k) (TOk.cons (monitor_IsName.ok k) (TOk.nil))) (by kernel_rfl) (by kernel_rfl)
theorem cmp_isNaN_string.ok (n : Nat) : FunC Try.prog 84 (cmp_isNaN_string.E n) := funC_of follows tab_ok Try.func84 (T := cmp_isNaN_string.T) (ann := cmp_isNaN_string.ann) (ins := cmp_isNaN_string.ins) (outs := cmp_isNaN_string.outs) (n := n) (fun k => TOk.nil) (by kernel_rfl) (by kernel_rfl)
theorem cmp_Less_string.ok (n : Nat) : FunC Try.prog 65 (cmp_Less_string.E n) := funC_of follows tab_ok Try.func65 (T := cmp_Less_string.T) (ann := cmp_Less_string.ann) (ins := cmp_Less_string.ins) (outs := cmp_Less_string.outs) (n := n) (fun k => TOk.cons (cmp_isNaN_string.ok k) (TOk.nil)) (by kernel_rfl) (by kernel_rfl)
theorem slices_isNaN_string.ok (n : Nat) : FunC Try.prog 66 (slices_isNaN_string.E n) := funC_of follows tab_ok Try.func66 (T := slices_isNaN_string.T) (ann := slices_isNaN_string.ann) (ins := slices_isNaN_string.ins) (outs := slices_isNaN_string.outs) (n := n) (fun k => TOk.nil) (by kernel_rfl) (by kernel_rfl)
theorem slices_BinarySearch_string.ok (n : Nat) : FunC Try.prog 31 (slices_BinarySearch_string.E n) := funC_of follows tab_ok Try.func31 (T := slices_BinarySearch_string.T) (ann := slices_BinarySearch_string.ann) (ins := slices_BinarySearch_string.ins) (outs := slices_BinarySearch_string.outs) (n := n) (fun k => TOk.cons (cmp_Less_string.ok k) (TOk.cons (slices_isNaN_string.ok k) (TOk.nil))) (by kernel_rfl) (by kernel_rfl)
def laysIns_ren : Go.Shelf.Ren := ⟨fun | 17 => 91 | 22 => 32 | 29 => 67 | 30 => 68 | 36 => 85 | n => n, fun | 24 => 22 | n => n, fun | n => n⟩
theorem laysIns : Go.Proofs.Lays2.n22 Try.prog laysIns_ren := {
 mixed := by kernel_rfl
 f17 := Try.func91.trans (congrArg some (by kernel_rfl))
 f22 := Try.func32.trans (congrArg some (by kernel_rfl))
 f29 := Try.func67.trans (congrArg some (by kernel_rfl))
 f30 := Try.func68.trans (congrArg some (by kernel_rfl))
 f36 := Try.func85.trans (congrArg some (by kernel_rfl))
 t0 := Try.underlying0
 a0 := Try.isAgg0
 z0 := Try.sizeOf0
 v0 := Try.zeroValue0
 t3 := Try.underlying3
 a3 := Try.isAgg3
 z3 := Try.sizeOf3
 v3 := Try.zeroValue3
 t4 := Try.underlying4
 a4 := Try.isAgg4
 z4 := Try.sizeOf4
 v4 := Try.zeroValue4
 t9 := Try.underlying9
 a9 := Try.isAgg9
 z9 := Try.sizeOf9
 v9 := Try.zeroValue9
 t24 := Try.underlying22
 a24 := Try.isAgg22
 z24 := Try.sizeOf22
 v24 := Try.zeroValue22
 i9 := by kernel_rfl }
theorem slices_Insert_string.ok (n : Nat) : FunC Try.prog 32 (slices_Insert_string.E n) :=
 ⟨fun _ => funOk_insert laysIns, fun e g h => (by cases h), Try.f32, Try.func32, by kernel_rfl, by kernel_rfl⟩

theorem perigeelaw8_WatchesNeverFire.ok (n : Nat) : FunC Try.prog 8 (perigeelaw8_WatchesNeverFire.E n) := funC_of follows tab_ok Try.func8 (T := perigeelaw8_WatchesNeverFire.T) (ann := perigeelaw8_WatchesNeverFire.ann) (ins := perigeelaw8_WatchesNeverFire.ins) (outs := perigeelaw8_WatchesNeverFire.outs) (n := n) (fun k => TOk.cons (perigeelaw8_awake.ok k) (TOk.cons (monitor_Play.ok k) (TOk.cons (monitor_Never.ok k) (TOk.cons (slices_Contains_string.ok k) (TOk.cons (slices_BinarySearch_string.ok k) (TOk.cons (slices_Insert_string.ok k) (TOk.nil))))))) (by kernel_rfl) (by kernel_rfl)
end Go.Proofs.Ytadhpgecilhgnaa.A

-- YtadhpgecilhgnaaPk
set_option linter.unusedVariables false
set_option linter.unusedSimpArgs false
namespace Go.Proofs.Ytadhpgecilhgnaa.Pure
open Go Go.Proofs.Ytadhpgecilhgnaa.A

def Ev {α : Type} (g : Nat → Option α) (r : α) : Prop := ∃ k, ∀ n, k ≤ n → g n = some r
theorem Ev.now {α : Type} (r : α) : Ev (fun _ => some r) r := ⟨0, fun _ _ => rfl⟩
theorem Ev.rounds {α : Type} {g : Nat → Option α} {r : α} (h : Ev g r) : ∃ k, g k = some r := let ⟨K, h⟩ := h; ⟨K, h K (Nat.le_refl _)⟩
theorem Ev.bind {α β : Type} {g : Nat → Option α} {f : Nat → α → Option β} {a : α} {r : β} (h : Ev g a) (k : Ev (fun n => f n a) r) : Ev (fun n => (g n).bind (f n)) r := by
 obtain ⟨K, h⟩ := h
 obtain ⟨K', k⟩ := k
 refine ⟨max K K', fun n hn => ?_⟩
 simp only [h n (by omega), Option.bind_some]
 exact k n (by omega)
theorem Ev.step {α : Type} {g f : Nat → Option α} {r : α} (h : ∀ k, g (k + 1) = f k) (k : Ev f r) : Ev g r := by
 obtain ⟨K, k⟩ := k
 refine ⟨K + 1, fun n hn => ?_⟩
 obtain ⟨m, rfl⟩ : ∃ m, n = m + 1 := ⟨n - 1, by omega⟩
 rw [h]
 exact k m (by omega)
theorem Ev.eq {α : Type} {g f : Nat → Option α} {r : α} (h : ∀ k, g k = f k) (k : Ev f r) : Ev g r := by
 obtain ⟨K, k⟩ := k
 exact ⟨K, fun n hn => (h n).trans (k n hn)⟩
theorem less_total : ∀ a b : List UInt8, (Op.bytesLess a b || a == b) = !Op.bytesLess b a := by
 intro a
 induction a with
 | nil => intro b; cases b <;> simp [Op.bytesLess]
 | cons x a ih =>
  intro b
  cases b with
  | nil => simp [Op.bytesLess]
  | cons y b =>
   have := ih b
   have e1 : Op.bytesLess (x :: a) (y :: b) = (decide (x < y) || (x == y && Op.bytesLess a b)) := by rw [Op.bytesLess]
   have e2 : Op.bytesLess (y :: b) (x :: a) = (decide (y < x) || (y == x && Op.bytesLess b a)) := by rw [Op.bytesLess]
   rw [e1, e2]
   rcases Nat.lt_trichotomy x.toNat y.toNat with h | h | h
   ·have h1 : x < y := UInt8.lt_iff_toNat_lt.2 h
    have h2 : ¬ y < x := fun h' => by have := UInt8.lt_iff_toNat_lt.1 h'; omega
    have h3 : ¬ y = x := fun h' => by subst h'; omega
    simp [h1, h2, h3]
   ·have h3 : x = y := UInt8.toNat_inj.1 h
    subst h3
    have h2 : ¬ x < x := fun h' => by have := UInt8.lt_iff_toNat_lt.1 h'; omega
    simpa [h2] using this
   ·have h1 : y < x := UInt8.lt_iff_toNat_lt.2 h
    have h2 : ¬ x < y := fun h' => by have := UInt8.lt_iff_toNat_lt.1 h'; omega
    have h3 : ¬ x = y := fun h' => by subst h'; omega
    simp [h1, h2, h3]

theorem w64 {x : Int} (h : -9223372036854775808 ≤ x) (h' : x ≤ 9223372036854775807) : IntKind.wrap .i64 x = x := by
 have e1 : (2 : Int) ^ 64 = 18446744073709551616 := rfl
 have e2 : (2 : Int) ^ (64 - 1) = 9223372036854775808 := rfl
 simp only [IntKind.wrap, IntKind.bits, IntKind.signed, e1, e2, Bool.true_and, decide_eq_true_eq]
 by_cases hh : x % 18446744073709551616 ≥ 9223372036854775808
 ·rw [if_pos hh]; omega
 ·rw [if_neg hh]; omega
theorem Ev.yes {α : Type} {c : Prop} {hd : Decidable c} {g g' : Nat → Option α} {r : α} (h : c) (e : Ev g r) : Ev (fun k => if c then g k else g' k) r := by
 simp only [if_pos h]; exact e
theorem Ev.no {α : Type} {c : Prop} {hd : Decidable c} {g g' : Nat → Option α} {r : α} (h : ¬ c) (e : Ev g' r) : Ev (fun k => if c then g k else g' k) r := by
 simp only [if_neg h]; exact e
theorem Ev.unique {α : Type} {g : Nat → Option α} {r s : α} (h : Ev g r) (h' : Ev g s) : r = s := by
 obtain ⟨K, h⟩ := h
 obtain ⟨K', h'⟩ := h'
 have h1 := h (max K K') (by omega)
 have h2 := h' (max K K') (by omega)
 rw [h1] at h2
 injection h2
theorem Ev.some {α : Type} {o : Option α} {r : α} (h : o = some r) : Ev (fun _ => o) r := by subst h; exact Ev.now _

theorem getD_nat {α : Type} (z : α) (l : List α) (i : Nat) (h : i < l.length) : l.getD i z = l[i] := by
 simp [List.getD_eq_getElem?_getD, List.getElem?_eq_getElem h]
theorem getD_mem {α : Type} {z : α} {l : List α} {i : Nat} (h : i < l.length) : l.getD i z ∈ l := by
 rw [getD_nat z l i h]; exact List.getElem_mem h

theorem bl_cons (x y : UInt8) (a b : List UInt8) : Op.bytesLess (x :: a) (y :: b) = (decide (x < y) || (x == y && Op.bytesLess a b)) := by rw [Op.bytesLess]
theorem less_irrefl (a : List UInt8) : Op.bytesLess a a = false := by
 have := less_total a a
 cases h : Op.bytesLess a a with
 | false => rfl
 | true => rw [h] at this; simp at this
theorem less_asymm {a b : List UInt8} (h : Op.bytesLess a b = true) : Op.bytesLess b a = false := by
 have := less_total a b
 rw [h] at this
 simpa using this.symm
theorem less_ne {a b : List UInt8} (h : Op.bytesLess a b = true) : a ≠ b := by
 intro e
 subst e
 rw [less_irrefl] at h
 cases h
theorem less_tri {a b : List UInt8} (h1 : ¬ Op.bytesLess a b = true) (h2 : a ≠ b) : Op.bytesLess b a = true := by
 have := less_total a b
 rw [show Op.bytesLess a b = false by simpa using h1, show (a == b) = false by simpa using h2] at this
 simpa using this.symm
theorem less_trans : ∀ {a b c : List UInt8}, Op.bytesLess a b = true → Op.bytesLess b c = true → Op.bytesLess a c = true := by
 intro a
 induction a with
 | nil =>
  intro b c h1 h2
  cases b with
  | nil => simp [Op.bytesLess] at h1
  | cons y b =>
   cases c with
   | nil => simp [Op.bytesLess] at h2
   | cons z c => simp [Op.bytesLess]
 | cons x a ih =>
  intro b c h1 h2
  cases b with
  | nil => simp [Op.bytesLess] at h1
  | cons y b =>
   cases c with
   | nil => simp [Op.bytesLess] at h2
   | cons z c =>
    rw [bl_cons] at h1 h2 ⊢
    simp only [Bool.or_eq_true, Bool.and_eq_true, decide_eq_true_eq, beq_iff_eq] at h1 h2 ⊢
    rcases h1 with h1 | ⟨rfl, h1⟩
    ·rcases h2 with h2 | ⟨rfl, h2⟩
     ·left
      have := UInt8.lt_iff_toNat_lt.1 h1
      have := UInt8.lt_iff_toNat_lt.1 h2
      exact UInt8.lt_iff_toNat_lt.2 (by omega)
     ·exact .inl h1
    ·rcases h2 with h2 | ⟨rfl, h2⟩
     ·exact .inl h2
     ·exact .inr ⟨rfl, ih h1 h2⟩
def Twin {α β : Type} (g : Nat → Option α) (g' : Nat → Option β) (R : α → β → Prop) : Prop := ∃ a b, Ev g a ∧ Ev g' b ∧ R a b
section
variable {α β γ δ : Type} {R : α → β → Prop}
theorem Twin.of {g : Nat → Option α} {g' : Nat → Option β} {a : α} {b : β} (h : Ev g a) (h' : Ev g' b) (r : R a b) : Twin g g' R := ⟨a, b, h, h', r⟩
theorem Twin.now {a : α} {b : β} (r : R a b) : Twin (fun _ => some a) (fun _ => some b) R := ⟨a, b, Ev.now _, Ev.now _, r⟩
theorem Twin.mono {g : Nat → Option α} {g' : Nat → Option β} {S : α → β → Prop} (h : Twin g g' S) (k : ∀ a b, S a b → R a b) : Twin g g' R := by
 obtain ⟨a, b, h1, h2, h3⟩ := h
 exact ⟨a, b, h1, h2, k a b h3⟩
theorem Twin.bind {g : Nat → Option γ} {g' : Nat → Option δ} {S : γ → δ → Prop} {f : Nat → γ → Option α} {f' : Nat → δ → Option β} (t : Twin g g' S) (k : ∀ a b, S a b → Twin (fun n => f n a) (fun n => f' n b) R) :
 Twin (fun n => (g n).bind (f n)) (fun n => (g' n).bind (f' n)) R := by
 obtain ⟨a, b, h1, h2, h3⟩ := t
 obtain ⟨a', b', h1', h2', h3'⟩ := k a b h3
 exact ⟨a', b', Ev.bind h1 h1', Ev.bind h2 h2', h3'⟩
theorem Twin.right {g : Nat → Option α} {g' : Nat → Option β} (t : Twin g g' R) : ∃ b, Ev g' b := by
 obtain ⟨a, b, h1, h2, h3⟩ := t
 exact ⟨b, h2⟩
theorem Ev.split {c : Prop} {hd : Decidable c} {g f : Nat → Option α} {r : α} (y : c → Ev g r) (n : ¬ c → Ev f r) : Ev (fun k => if c then g k else f k) r := by
 by_cases h : c
 ·simp only [if_pos h]; exact y h
 ·simp only [if_neg h]; exact n h
theorem Ev.is {v r : α} (h : v = r) : Ev (fun _ => Option.some v) r := by subst h; exact Ev.now _
end
end Go.Proofs.Ytadhpgecilhgnaa.Pure

-- YtadhpgecilhgnaaLp
set_option linter.unusedVariables false
set_option linter.unusedSimpArgs false
namespace Go.Proofs.Ytadhpgecilhgnaa.Pure
open Go Go.Proofs.Ytadhpgecilhgnaa.A

theorem Ev.rng {α β σ : Type} (z : α) (l : List α) (hl : l.length ≤ 4611686018427387904) {g : Nat → σ → Int → Option β} {B : Nat → σ → Int → Option β} {E : Nat → σ → Option β}
 (hg : ∀ k s i, g (k + 1) s i = if decide (i < (l.length : Int)) = true then (if (0 : Int) ≤ i ∧ i < (l.length : Int) then B k s i else none) else E k s)
 (Inv : Nat → σ → Prop) (spec : List α → Nat → σ → β)
 (hfin : ∀ s, Inv l.length s → Ev (fun k => E k s) (spec [] l.length s))
 (hstep : ∀ (i : Nat) (x : α) (xs : List α) (s : σ), i < l.length → x ∈ l → l.drop i = x :: xs → l.getD i z = x → IntKind.wrap .i64 ((i : Int) + 1) = (i : Int) + 1 → Inv i s →
  (∀ s', Inv (i + 1) s' → Ev (fun k => g k s' ((i : Int) + 1)) (spec xs (i + 1) s')) → Ev (fun k => B k s i) (spec (x :: xs) i s)) :
 ∀ (i : Nat) (s : σ), i ≤ l.length → Inv i s → Ev (fun k => g k s i) (spec (l.drop i) i s) := by
 have loop : ∀ (d i : Nat) (s : σ), i + d = l.length → Inv i s → Ev (fun k => g k s i) (spec (l.drop i) i s) := by
  intro d
  induction d with
  | zero =>
   intro i s hi hs
   have : i = l.length := by omega
   subst this
   refine Ev.step (fun k => hg k s _) ?_
   refine Ev.no (by simp) ?_
   rw [List.drop_length]
   exact hfin s hs
  | succ d ih =>
   intro i s hi hs
   refine Ev.step (fun k => hg k s _) ?_
   refine Ev.yes (by simp; omega) (Ev.yes (by omega) ?_)
   rw [List.drop_eq_getElem_cons (show i < l.length by omega)]
   refine hstep i _ _ s (by omega) (List.getElem_mem _) (List.drop_eq_getElem_cons (by omega)) (getD_nat z l i (by omega)) (w64 (by omega) (by omega)) hs fun s' hs' => ?_
   have := ih (i + 1) s' (by omega) hs'
   rw [show ((i + 1 : Nat) : Int) = (i : Int) + 1 by omega] at this
   exact this
 exact fun i s hi hs => loop (l.length - i) i s (by omega) hs
theorem Ev.rngR {α β σ : Type} (z : α) (l : List α) (hl : l.length ≤ 4611686018427387904) {g : Nat → σ → Int → Option β} {B : Nat → σ → Int → Option β} {E : Nat → σ → Option β}
 (hg : ∀ k s i, g (k + 1) s i = if decide (i < (l.length : Int)) = true then (if (0 : Int) ≤ i ∧ i < (l.length : Int) then B k s i else none) else E k s)
 (Inv : Nat → σ → Prop) (Q : β → Prop)
 (hfin : ∀ s, Inv l.length s → ∃ r, Ev (fun k => E k s) r ∧ Q r)
 (hstep : ∀ (i : Nat) (x : α) (s : σ), i < l.length → x ∈ l → l[i]? = Option.some x → l.getD i z = x → IntKind.wrap .i64 ((i : Int) + 1) = (i : Int) + 1 → Inv i s →
  (∀ s', Inv (i + 1) s' → ∃ r, Ev (fun k => g k s' ((i : Int) + 1)) r ∧ Q r) → ∃ r, Ev (fun k => B k s i) r ∧ Q r) :
 ∀ (i : Nat) (s : σ), i ≤ l.length → Inv i s → ∃ r, Ev (fun k => g k s i) r ∧ Q r := by
 have loop : ∀ (d i : Nat) (s : σ), i + d = l.length → Inv i s → ∃ r, Ev (fun k => g k s i) r ∧ Q r := by
  intro d
  induction d with
  | zero =>
   intro i s hi hs
   have : i = l.length := by omega
   subst this
   obtain ⟨r, h1, h2⟩ := hfin s hs
   exact ⟨r, Ev.step (fun k => hg k s _) (Ev.no (by simp) h1), h2⟩
  | succ d ih =>
   intro i s hi hs
   have hs' := hstep i l[i] s (by omega) (List.getElem_mem _) (List.getElem?_eq_getElem (by omega)) (getD_nat z l i (by omega)) (w64 (by omega) (by omega)) hs fun s' hs' => by
    have := ih (i + 1) s' (by omega) hs'
    rw [show ((i + 1 : Nat) : Int) = (i : Int) + 1 by omega] at this
    exact this
   obtain ⟨r, h1, h2⟩ := hs'
   exact ⟨r, Ev.step (fun k => hg k s _) (Ev.yes (by simp; omega) (Ev.yes (by omega) h1)), h2⟩
 exact fun i s hi hs => loop (l.length - i) i s (by omega) hs
theorem Ev.cast {α : Type} {g : Nat → Option α} {a b : α} (h : a = b) (e : Ev g a) : Ev g b := h ▸ e

theorem eqV_iff : ∀ {τ : Ty}, τ.eqB = true → ∀ {x y : τ.den}, eqV τ x y = true ↔ x = y := by
 intro τ
 induction τ with
 | pair a b iha ihb =>
  intro h x y
  simp only [Ty.eqB, Bool.and_eq_true] at h
  simp only [eqV, Bool.and_eq_true, iha h.1, ihb h.2]
  exact ⟨fun h => Prod.ext h.1 h.2, fun h => by rw [h]; exact ⟨rfl, rfl⟩⟩
 | bool => intro _ x y; exact decide_eq_true_iff
 | int k => intro _ x y; exact decide_eq_true_iff
 | str => intro _ x y; exact decide_eq_true_iff
 | fmap k e _ _ => intro h; cases h
 | mapb k e _ _ => intro h; cases h
 | nsl e _ => intro h; simp [Ty.eqB] at h
 | unit => intro h; simp [Ty.eqB] at h
 | sl e _ => intro h; simp [Ty.eqB] at h
 | vec e _ => intro h; simp [Ty.eqB] at h
 | map k e _ _ => intro h; simp [Ty.eqB] at h
 | fnv f => intro h; simp [Ty.eqB] at h
 | nil => intro h; simp [Ty.eqB] at h
 | ptr e _ => intro h; simp [Ty.eqB] at h
theorem idx_loop {α : Type} [DecidableEq α] (z : α) (v : α) {e : α → Bool} (he : ∀ x, e x = true ↔ v = x) (l : List α) (hl : l.length ≤ 4611686018427387904) {g : Nat → Int → Option (Int × Unit)}
 (hg : ∀ k i, g (k + 1) i = if decide (i < (l.length : Int)) = true then (if (0 : Int) ≤ i ∧ i < (l.length : Int) then (if e (l.getD i.toNat z) = true then some (i, ()) else g k (IntKind.wrap .i64 (i + 1))) else none) else some (-1, ())) :
 ∃ n, Ev (fun k => g k 0) (n, ()) ∧ (0 ≤ n ↔ v ∈ l) := by
 have h := Ev.rng (σ := Unit) z l hl (g := fun k _ i => g k i) (fun k s i => hg k i)
  (fun _ _ => True) (fun r i _ => (if v ∈ r then ((i + r.idxOf v : Nat) : Int) else -1, ())) (fun _ _ => Ev.is (by simp)) (fun i x xs s hi hx _ hget hw _ next => by
   simp only [Int.toNat_natCast, hget, hw]
   refine Ev.split (fun h => ?_) (fun h => ?_)
   ·have h := (he _).1 h
    subst h
    refine Ev.is ?_
    simp
   ·refine Ev.cast ?_ (next () trivial)
    have h' : ¬ v = x := fun e => h ((he _).2 e)
    have h'' : ¬ x = v := fun e => h' e.symm
    by_cases hm : v ∈ xs
    ·rw [if_pos hm, if_pos (by simp [hm]), List.idxOf_cons, show (x == v) = false by simpa using h'']
     simp only [cond_false]
     congr 1; omega
    ·rw [if_neg hm, if_neg (by simp [hm, h'])]) 0 () (by omega) trivial
 refine ⟨_, h, ?_⟩
 simp only [List.drop_zero]
 split <;> rename_i hm
 ·exact ⟨fun _ => hm, fun _ => by omega⟩
 ·exact ⟨fun h => by omega, fun h => absurd h hm⟩
end Go.Proofs.Ytadhpgecilhgnaa.Pure

-- YtadhpgecilhgnaaQ1
set_option linter.unusedVariables false
set_option linter.unusedSimpArgs false
namespace Go.Proofs.Ytadhpgecilhgnaa.Pure
open Go Go.Proofs.Ytadhpgecilhgnaa.A

theorem in_ev (n : Nat) (a l h : Int) : kit_In.f n a l h = some (decide (l ≤ a ∧ a ≤ h), ()) := by
 rw [kit_In.f_eq]
 by_cases h1 : l ≤ a <;> simp [h1]
def firstN : List Int → Int
 | [] => 0
 | x :: l => if x = 0 then firstN l else x
theorem first_ev (l : List Int) (hl : l.length ≤ 4611686018427387904) : Ev (fun k => kit_First.f k l) (firstN l, ()) := by
 refine Ev.eq (fun k => by rw [kit_First.f_eq]) ?_
 have h := Ev.rng (σ := Unit) (0 : Int) l hl (g := fun k _ i => kit_First.c0 k l (l.length : Int) i) (fun k _ i => kit_First.c0_eq _ _ _ _)
  (fun _ _ => True) (fun r _ _ => (firstN r, ())) (fun _ _ => Ev.is rfl) (fun i x xs _ hi hx hd hget hw _ next => by
   simp only [Int.toNat_natCast, hget, hw, Bool.not_eq_true', decide_eq_false_iff_not]
   refine Ev.split (fun h => Ev.is (by rw [firstN, if_neg h])) (fun h => ?_)
   have h : x = 0 := Classical.byContradiction h
   have := next () trivial
   rw [firstN, if_pos h]
   exact this) 0 () (by omega) trivial
 exact h
theorem firstN_zero : ∀ {l : List Int}, firstN l = 0 ↔ ∀ x ∈ l, x = 0
 | [] => by simp [firstN]
 | x :: l => by
  rw [firstN]
  by_cases h : x = 0
  ·rw [if_pos h, firstN_zero]; simp [h]
  ·rw [if_neg h]; simp [h]

theorem name_ex (s : List UInt8) (hs : s.length ≤ 140737488351232) : ∃ b, Ev (fun k => monitor_IsName.f k s) (b, ()) ∧ (b = true → s.length ≤ 40) := by
 by_cases h0 : s = []
 ·exact ⟨false, Ev.eq (fun k => by rw [monitor_IsName.f_eq]) (Ev.yes (by simpa using h0) (Ev.now _)), fun h => by cases h⟩
 by_cases h1 : 40 < (s.length : Int)
 ·exact ⟨false, Ev.eq (fun k => by rw [monitor_IsName.f_eq]) (Ev.no (by simpa using h0) (Ev.yes (by simpa using h1) (Ev.now _))), fun h => by cases h⟩
 have h := Ev.rngR (σ := Unit) (0 : UInt8) s (by omega) (g := fun k _ i => monitor_IsName.c1 k s (s.length : Int) i) (fun k _ i => monitor_IsName.c1_eq _ _ _ _)
  (fun _ _ => True) (fun r : Bool × Unit => True) (fun _ _ => ⟨_, Ev.now _, trivial⟩) (fun i x _ hi hx _ hget hw _ next => by
   simp only [Int.toNat_natCast, hget, hw]
   obtain ⟨r, n1, _⟩ := next () trivial
   have key : ∀ {g : Nat → Option (Bool × Unit)}, (Ev g (false, ()) ∨ Ev g r) → ∃ r, Ev g r ∧ True := fun h => h.elim (fun h => ⟨_, h, trivial⟩) (fun h => ⟨_, h, trivial⟩)
   have sp : ∀ {c : Prop} {hd : Decidable c} {g f : Nat → Option (Bool × Unit)}, (Ev g (false, ()) ∨ Ev g r) → (Ev f (false, ()) ∨ Ev f r) → (Ev (fun k => if c then g k else f k) (false, ()) ∨ Ev (fun k => if c then g k else f k) r) := fun {c hd g f} y n => by
    by_cases h : c
    ·exact y.imp (fun y => Ev.yes h y) (fun y => Ev.yes h y)
    ·exact n.imp (fun n => Ev.no h n) (fun n => Ev.no h n)
   have F : Ev (fun _ : Nat => some (false, ())) (false, ()) ∨ Ev (fun _ : Nat => some (false, ())) r := .inl (Ev.now _)
   have N : Ev (fun k => monitor_IsName.c1 k s (s.length : Int) ((i : Int) + 1)) (false, ()) ∨ Ev (fun k => monitor_IsName.c1 k s (s.length : Int) ((i : Int) + 1)) r := .inr n1
   exact key (sp (sp F (sp (sp (sp F (sp F N)) N) N)) (sp (sp F (sp (sp (sp F (sp F N)) N) N)) N))) 0 () (by omega) trivial
 obtain ⟨⟨b, u⟩, h2, _⟩ := h
 have h2 : Ev (fun k => monitor_IsName.c1 k s (s.length : Int) 0) (b, u) := h2
 exact ⟨b, Ev.eq (fun k => by rw [monitor_IsName.f_eq]) (Ev.no (by simpa using h0) (Ev.no (by simpa using h1) (Ev.step (fun k => by rw [monitor_IsName.c0_eq]) h2))), fun _ => by omega⟩
open Classical in
noncomputable def isNm (s : List UInt8) : Bool := if Ev (fun k => monitor_IsName.f k s) (true, ()) then true else false
theorem name_ev (s : List UInt8) (hs : s.length ≤ 140737488351232) : Ev (fun k => monitor_IsName.f k s) (isNm s, ()) ∧ (isNm s = true → s.length ≤ 40) := by
 obtain ⟨b, h1, h2⟩ := name_ex s hs
 have : isNm s = b := by
  unfold isNm
  cases b with
  | true => rw [if_pos h1]
  | false =>
   rw [if_neg]
   intro h
   have := h.unique h1
   simp at this
 rw [this]
 exact ⟨h1, h2⟩

theorem chain_pair {α : Type} {R : α → α → Prop} (tr : ∀ a b c, R a b → R b c → R a c) (z : α) : ∀ (l : List α), (∀ j, j < l.length → 0 < j → R (l.getD (j - 1) z) (l.getD j z)) ↔ l.Pairwise R
 | [] => by simp
 | [x] => by simp
 | x :: y :: l => by
  have ih := chain_pair tr z (y :: l)
  constructor
  ·intro h
   have h1 := ih.1 (fun j hj hj0 => by
    have := h (j + 1) (by simp at hj ⊢; omega) (by omega)
    obtain ⟨i, rfl⟩ : ∃ i, j = i + 1 := ⟨j - 1, by omega⟩
    simpa using this)
   have h0 : R x y := by simpa using h 1 (by simp) (by omega)
   rw [List.pairwise_cons]
   refine ⟨fun b hb => ?_, h1⟩
   rcases List.mem_cons.1 hb with rfl | hb
   ·exact h0
   ·exact tr _ _ _ h0 ((List.pairwise_cons.1 h1).1 b hb)
  ·intro h j hj hj0
   rw [List.pairwise_cons] at h
   by_cases h1 : j = 1
   ·subst h1; simpa using h.1 y (by simp)
   ·obtain ⟨i, rfl⟩ : ∃ i, j = i + 2 := ⟨j - 2, by omega⟩
    have := ih.2 h.2 (i + 1) (by simp at hj ⊢; omega) (by omega)
    simpa using this
theorem awake_at (k : Nat) : perigeelaw8_awake.f (k + 40) = some (true, ()) := by kernel_rfl
theorem awake_ev : Ev (fun k => perigeelaw8_awake.f k) (true, ()) := ⟨40, fun n hn => by
 obtain ⟨k, rfl⟩ : ∃ k, n = k + 40 := ⟨n - 40, by omega⟩
 exact awake_at k⟩

theorem nm_ne {s : List UInt8} (h : isNm s = true) : s ≠ [] := by
 intro e
 subst e
 have h1 : Ev (fun k => monitor_IsName.f k []) (false, ()) := Ev.eq (fun k => monitor_IsName.f_eq _ _) (Ev.yes (by simp) (Ev.now _))
 have h2 := (name_ev [] (by simp)).1.unique h1
 rw [h] at h2
 cases h2
theorem contains_ev (s : List (List UInt8)) (v : List UInt8) (hl : s.length ≤ 4611686018427387904) : Ev (fun k => slices_Contains_string.f k s v) (decide (v ∈ s), ()) := by
 obtain ⟨n, h1, h2⟩ := idx_loop ([] : List UInt8) v (e := fun x => decide (v = x)) (fun x => by simp) s hl (g := fun k i => slices_Index_string.c0 k s v (s.length : Int) i) (fun k i => slices_Index_string.c0_eq _ _ _ _ _)
 refine Ev.eq (fun k => by rw [slices_Contains_string.f_eq]) (Ev.bind (Ev.eq (fun k => by rw [slices_Index_string.f_eq]) h1) (Ev.is ?_))
 rw [decide_eq_decide.2 h2]
def befC (b c : DModeChange) : Prop := lessS c.1 b.1 = false ∧ (c.1 = b.1 → lessS b.2.1 c.2.1 = true)
structure ModesOk (w : DWatch) : Prop where
 m0 : 1 ≤ w.1.length
 ml : w.1.length ≤ 50
 cl : w.2.1.length ≤ 500
 ch : ∀ c ∈ w.2.1, c.1 ∈ w.1 ∧ c.2.2 ∈ w.1
 od : ∀ j, j < w.2.1.length → 0 < j → befC (w.2.1.getD (j - 1) (Ty.dflt YModeChange)) (w.2.1.getD j (Ty.dflt YModeChange))
 md : w.2.2.1 ∈ w.1
 en : ∀ c ∈ w.2.1, c.2.1 ≠ []
 mo : ∀ j, j < w.1.length → 0 < j → lessS (w.1.getD (j - 1) []) (w.1.getD j []) = true
theorem changes_ev (w : DWatch) (h0 : okT YWatch w) (m0 : 1 ≤ w.1.length) (ml : w.1.length ≤ 50) (cl : w.2.1.length ≤ 500) (mo : ∀ j, j < w.1.length → 0 < j → lessS (w.1.getD (j - 1) []) (w.1.getD j []) = true) : ∃ r : Int × Unit, Ev (fun k => monitor_checkModes.c1 k w.1 w.2.1 w.2.2.1 w.2.2.2 w.2.1 (w.2.1.length : Int) 0) r ∧ (r.1 = 0 → ModesOk w) := by
 have hm := contains_ev w.1
 refine Ev.rngR (σ := Unit) (Ty.dflt YModeChange) w.2.1 (by omega) (g := fun k _ i => monitor_checkModes.c1 k w.1 w.2.1 w.2.2.1 w.2.2.2 w.2.1 (w.2.1.length : Int) i) (fun k _ i => monitor_checkModes.c1_eq _ _ _ _ _ _ _ _)
  (fun i _ => ∀ j, j < i → j < w.2.1.length → ((w.2.1.getD j (Ty.dflt YModeChange)).1 ∈ w.1 ∧ (w.2.1.getD j (Ty.dflt YModeChange)).2.2 ∈ w.1 ∧ (w.2.1.getD j (Ty.dflt YModeChange)).2.1 ≠ []) ∧ (0 < j → befC (w.2.1.getD (j - 1) (Ty.dflt YModeChange)) (w.2.1.getD j (Ty.dflt YModeChange))))
  (fun r => r.1 = 0 → ModesOk w) (fun _ hs => ?_) (fun i c _ hi hc hget hgd hw hs next => ?_) 0 () (by omega) (fun j hj => by omega)
 ·by_cases h : w.2.2.1 ∈ w.1
  ·refine ⟨_, Ev.bind (hm _ (by omega)) (Ev.no (by simp [h]) (Ev.now _)), fun _ => ⟨m0, ml, cl, fun c hc => ?_, fun j hj hj0 => (hs j hj hj).2 hj0, h, fun c hc => ?_, mo⟩⟩
   obtain ⟨j, hj, rfl⟩ := List.getElem_of_mem hc
   have := (hs j hj hj).1
   rw [getD_nat _ _ _ hj] at this
   exact ⟨this.1, this.2.1⟩
   obtain ⟨j, hj, rfl⟩ := List.getElem_of_mem hc
   have := (hs j hj hj).1
   rw [getD_nat _ _ _ hj] at this
   exact this.2.2
  ·exact ⟨_, Ev.bind (hm _ (by omega)) (Ev.yes (by simp [h]) (Ev.now _)), fun h => by cases h⟩
 ·simp only [Int.toNat_natCast, hgd, hw]
  have hce := (h0.2.1.2.2 c hc).2.1
  by_cases h1 : c.1 ∈ w.1
  case neg => exact ⟨_, Ev.bind (hm _ (by omega)) (Ev.yes (by simp [h1]) (Ev.now _)), fun h => by cases h⟩
  by_cases h2 : c.2.2 ∈ w.1
  case neg => exact ⟨_, Ev.bind (hm _ (by omega)) (Ev.no (by simp [h1]) (Ev.bind (hm _ (by omega)) (Ev.yes (by simp [h2]) (Ev.now _)))), fun h => by cases h⟩
  have pre : ∀ {r : Int × Unit}, Ev (fun k => monitor_checkModes.c2 k w.1 w.2.1 w.2.2.1 w.2.2.2 (i : Int) c.1 c.2.1 c.2.2 w.2.1 (w.2.1.length : Int) (i : Int)) r → Ev (fun k => (slices_Contains_string.f k w.1 c.1).bind fun r2 => if (!r2.1) = true then some (9, ()) else (slices_Contains_string.f k w.1 c.2.2).bind fun r3 => if (!r3.1) = true then some (9, ()) else monitor_checkModes.c2 k w.1 w.2.1 w.2.2.1 w.2.2.2 (i : Int) c.1 c.2.1 c.2.2 w.2.1 (w.2.1.length : Int) (i : Int)) r := fun h =>
   Ev.bind (hm _ (by omega)) (Ev.no (by simp [h1]) (Ev.bind (hm _ (by omega)) (Ev.no (by simp [h2]) h)))
  obtain ⟨nm, _⟩ := name_ev c.2.1 hce
  by_cases h3 : isNm c.2.1 = true
  case neg =>
   refine ⟨(5, ()), pre (Ev.step (fun k => monitor_checkModes.c2_eq _ _ _ _ _ _ _ _ _ _ _ _) ?_), fun h => by cases h⟩
   exact Ev.bind nm (Ev.yes (by simpa using h3) (Ev.now _))
  have key : (0 < i → befC (w.2.1.getD (i - 1) (Ty.dflt YModeChange)) c) → ∃ r, Ev (fun k => monitor_checkModes.c1 k w.1 w.2.1 w.2.2.1 w.2.2.2 w.2.1 (w.2.1.length : Int) ((i : Int) + 1)) r ∧ (r.1 = 0 → ModesOk w) := fun hb => next () fun j hj hjl => by
   by_cases e : j = i
   ·subst e
    rw [hgd]
    exact ⟨⟨h1, h2, nm_ne h3⟩, hb⟩
   ·exact hs j (by omega) hjl
  by_cases hi0 : i = 0
  ·subst hi0
   obtain ⟨r, r1, r2⟩ := key (fun h => by omega)
   refine ⟨r, pre (Ev.step (fun k => monitor_checkModes.c2_eq _ _ _ _ _ _ _ _ _ _ _ _) ?_), r2⟩
   refine Ev.bind nm (Ev.no (by simp [h3]) (Ev.no (by simp) ?_))
   rw [hw]; exact r1
  ·have hw1 : IntKind.wrap .i64 ((i : Int) - 1) = ((i - 1 : Nat) : Int) := by rw [w64 (by omega) (by omega)]; omega
   have pre2 : ∀ {r : Int × Unit}, Ev (fun k => if (lessS c.1 (w.2.1.getD (i - 1) (Ty.dflt YModeChange)).1) = true then some (8, ()) else if (decide (c.1 = (w.2.1.getD (i - 1) (Ty.dflt YModeChange)).1)) = true then (if (!(lessS (w.2.1.getD (i - 1) (Ty.dflt YModeChange)).2.1 c.2.1)) = true then some (8, ()) else monitor_checkModes.c1 k w.1 w.2.1 w.2.2.1 w.2.2.2 w.2.1 (w.2.1.length : Int) ((i : Int) + 1)) else monitor_checkModes.c1 k w.1 w.2.1 w.2.2.1 w.2.2.2 w.2.1 (w.2.1.length : Int) ((i : Int) + 1)) r →
    Ev (fun k => monitor_checkModes.c2 k w.1 w.2.1 w.2.2.1 w.2.2.2 (i : Int) c.1 c.2.1 c.2.2 w.2.1 (w.2.1.length : Int) (i : Int)) r := fun {r} h => by
    refine Ev.step (fun k => monitor_checkModes.c2_eq _ _ _ _ _ _ _ _ _ _ _ _) ?_
    refine Ev.bind nm (Ev.no (by simp [h3]) (Ev.yes (by simp; omega) ?_))
    simp only [hw1, hw, Int.toNat_natCast]
    exact Ev.yes (by omega) h
   by_cases l1 : lessS c.1 (w.2.1.getD (i - 1) (Ty.dflt YModeChange)).1 = true
   ·exact ⟨(8, ()), pre (pre2 (Ev.yes l1 (Ev.now _))), fun h => by cases h⟩
   have l1' : lessS c.1 (w.2.1.getD (i - 1) (Ty.dflt YModeChange)).1 = false := by simpa using l1
   by_cases l2 : c.1 = (w.2.1.getD (i - 1) (Ty.dflt YModeChange)).1
   ·by_cases l3 : lessS (w.2.1.getD (i - 1) (Ty.dflt YModeChange)).2.1 c.2.1 = true
    ·obtain ⟨r, r1, r2⟩ := key (fun _ => ⟨l1', fun _ => l3⟩)
     exact ⟨r, pre (pre2 (Ev.no l1 (Ev.yes (decide_eq_true l2) (Ev.no (fun h => by rw [l3] at h; cases h) r1)))), r2⟩
    ·exact ⟨(8, ()), pre (pre2 (Ev.no l1 (Ev.yes (decide_eq_true l2) (Ev.yes (by simpa using l3) (Ev.now _))))), fun h => by cases h⟩
   ·obtain ⟨r, r1, r2⟩ := key (fun _ => ⟨l1', fun h => absurd h l2⟩)
    exact ⟨r, pre (pre2 (Ev.no l1 (Ev.no (fun h => l2 (of_decide_eq_true h)) r1))), r2⟩
end Go.Proofs.Ytadhpgecilhgnaa.Pure

-- YtadhpgecilhgnaaQ2
set_option linter.unusedVariables false
set_option linter.unusedSimpArgs false
namespace Go.Proofs.Ytadhpgecilhgnaa.Pure
open Go Go.Proofs.Ytadhpgecilhgnaa.A

theorem modes_ev (w : DWatch) (h0 : okT YWatch w) : ∃ r : Int × Unit, Ev (fun k => monitor_checkModes.f k w) r ∧ (r.1 = 0 → ModesOk w) := by
 have hm := contains_ev w.1
 by_cases m0 : w.1.length = 0
 ·refine ⟨(9, ()), Ev.eq (fun k => monitor_checkModes.f_eq _ _) ?_, fun h => by cases h⟩
  exact Ev.yes (by simp [m0]) (Ev.now _)
 by_cases ml : 50 < w.1.length
 ·refine ⟨(2, ()), Ev.eq (fun k => monitor_checkModes.f_eq _ _) ?_, fun h => by cases h⟩
  exact Ev.no (fun h => m0 (by have := of_decide_eq_true h; omega)) (Ev.yes (decide_eq_true (by omega)) (Ev.now _))
 have start : ∀ {r}, Ev (fun k => monitor_checkModes.c0 k w.1 w.2.1 w.2.2.1 w.2.2.2 w.1 (w.1.length : Int) 0) r → Ev (fun k => monitor_checkModes.f k w) r := fun {r} h => by
  refine Ev.eq (fun k => monitor_checkModes.f_eq _ _) ?_
  exact Ev.no (fun h => m0 (by have := of_decide_eq_true h; omega)) (Ev.no (fun h => ml (by have := of_decide_eq_true h; omega)) h)
 have := Ev.rngR (σ := Unit) ([] : List UInt8) w.1 (by omega) (g := fun k _ i => monitor_checkModes.c0 k w.1 w.2.1 w.2.2.1 w.2.2.2 w.1 (w.1.length : Int) i) (fun k _ i => monitor_checkModes.c0_eq _ _ _ _ _ _ _ _)
  (fun i _ => ∀ j, j < i → 0 < j → lessS (w.1.getD (j - 1) []) (w.1.getD j []) = true) (fun r => r.1 = 0 → ModesOk w) (fun _ hs => ?_) (fun i x _ hi hc hget hgd hw hs next => ?_) 0 () (by omega) (fun j hj => by omega)
 ·obtain ⟨r, r1, r2⟩ := this
  exact ⟨r, start r1, r2⟩
 ·by_cases cl : 500 < w.2.1.length
  ·exact ⟨(2, ()), Ev.yes (decide_eq_true (by omega)) (Ev.now _), fun h => by cases h⟩
  ·obtain ⟨r, r1, r2⟩ := changes_ev w h0 (by omega) (by omega) (by omega) hs
   exact ⟨r, Ev.no (fun h => cl (by have := of_decide_eq_true h; omega)) r1, r2⟩
 ·simp only [Int.toNat_natCast, hgd, hw]
  obtain ⟨nm, _⟩ := name_ev x (h0.1.2.2 x hc)
  by_cases h3 : isNm x = true
  case neg => exact ⟨(5, ()), Ev.bind nm (Ev.yes (by simpa using h3) (Ev.now _)), fun h => by cases h⟩
  by_cases hi0 : i = 0
  ·subst hi0
   obtain ⟨r, r1, r2⟩ := next () (fun j hj h0 => by omega)
   exact ⟨r, Ev.bind nm (Ev.no (by simp [h3]) (Ev.no (by simp) r1)), r2⟩
  ·have hw1 : IntKind.wrap .i64 ((i : Int) - 1) = ((i - 1 : Nat) : Int) := by rw [w64 (by omega) (by omega)]; omega
   simp only [hw1, Int.toNat_natCast]
   by_cases l1 : lessS (w.1.getD (i - 1) []) x = true
   ·obtain ⟨r, r1, r2⟩ := next () (fun j hj h0 => by
     by_cases e : j = i
     ·subst e; rw [hgd]; exact l1
     ·exact hs j (by omega) h0)
    exact ⟨r, Ev.bind nm (Ev.no (by simp [h3]) (Ev.yes (by simp; omega) (Ev.yes (by omega) (Ev.no (fun h => by rw [l1] at h; cases h) r1)))), r2⟩
   ·exact ⟨(8, ()), Ev.bind nm (Ev.no (by simp [h3]) (Ev.yes (by simp; omega) (Ev.yes (by omega) (Ev.yes (by simpa using l1) (Ev.now _))))), fun h => by cases h⟩
theorem rule_ev (w : DWatch) (x : DWatchRule) (hl : w.1.length ≤ 50) (hx : okT YWatchRule x) : ∃ r : Int × Unit, Ev (fun k => monitor_checkRule.f k w x) r := by
 have tail : ∃ r : Int × Unit, Ev (fun k => monitor_checkRule.c1 k x.1 x.2.1 x.2.2.1 x.2.2.2.1 x.2.2.2.2) r := by
  by_cases al : 10 < x.2.2.2.2.length
  ·refine ⟨(2, ()), Ev.step (fun k => monitor_checkRule.c1_eq _ _ _ _ _ _) ?_⟩
   exact Ev.yes (decide_eq_true (by omega)) (Ev.now _)
  have := Ev.rngR (σ := Unit) (Ty.dflt YAct) x.2.2.2.2 (by omega) (g := fun k _ i => monitor_checkRule.c2 k x.2.2.2.2 (x.2.2.2.2.length : Int) i) (fun k _ i => monitor_checkRule.c2_eq _ _ _ _)
   (fun i _ => True) (fun r => True) (fun _ hs => ⟨_, Ev.now _, trivial⟩) (fun i y _ hi hc hget hgd hw hs next => ?_) 0 () (by omega) trivial
  ·obtain ⟨r, r1, _⟩ := this
   refine ⟨r, Ev.step (fun k => monitor_checkRule.c1_eq _ _ _ _ _ _) ?_⟩
   exact Ev.no (fun h => al (by have := of_decide_eq_true h; omega)) r1
  ·simp only [Int.toNat_natCast, hgd, hw, in_ev, Option.bind_some]
   obtain ⟨nm, _⟩ := name_ev y.2.1 ((hx.2.2.2.2.2.2 y hc).2.1)
   obtain ⟨r, r1, _⟩ := next () trivial
   by_cases k1 : (1 ≤ y.1 ∧ y.1 ≤ 4)
   case neg => exact ⟨(4, ()), Ev.yes (by simp only [decide_eq_false k1]; rfl) (Ev.now _), trivial⟩
   by_cases h3 : isNm y.2.1 = true
   case neg => exact ⟨(5, ()), Ev.no (by simp only [decide_eq_true k1]; simp) (Ev.bind nm (Ev.yes (by simpa using h3) (Ev.now _))), trivial⟩
   by_cases h4 : y.2.2 = true
   case neg => exact ⟨r, Ev.no (by simp only [decide_eq_true k1]; simp) (Ev.bind nm (Ev.no (by simp [h3]) (Ev.no h4 r1))), trivial⟩
   by_cases h5 : y.1 = 4
   ·exact ⟨r, Ev.no (by simp only [decide_eq_true k1]; simp) (Ev.bind nm (Ev.no (by simp [h3]) (Ev.yes h4 (Ev.no (by simp [h5]) r1)))), trivial⟩
   ·exact ⟨(3, ()), Ev.no (by simp only [decide_eq_true k1]; simp) (Ev.bind nm (Ev.no (by simp [h3]) (Ev.yes h4 (Ev.yes (by simpa using h5) (Ev.now _))))), trivial⟩
 obtain ⟨r, r1⟩ := tail
 obtain ⟨n1, _⟩ := name_ev x.1 hx.1
 obtain ⟨n2, _⟩ := name_ev x.2.1 hx.2.1
 by_cases a1 : isNm x.1 = true
 case neg =>
  refine ⟨(5, ()), Ev.eq (fun k => monitor_checkRule.f_eq _ _ _) ?_⟩
  exact Ev.bind n1 (Ev.yes (by simpa using a1) (Ev.now _))
 by_cases a2 : isNm x.2.1 = true
 case neg =>
  refine ⟨(5, ()), Ev.eq (fun k => monitor_checkRule.f_eq _ _ _) ?_⟩
  exact Ev.bind n1 (Ev.no (by simp [a1]) (Ev.bind n2 (Ev.yes (by simpa using a2) (Ev.now _))))
 have go : ∀ {r}, Ev (fun k => monitor_checkRule.c0 k w.1 w.2.1 w.2.2.1 w.2.2.2 x.1 x.2.1 x.2.2.1 x.2.2.2.1 x.2.2.2.2) r → Ev (fun k => monitor_checkRule.f k w x) r := fun {r} h => by
  refine Ev.eq (fun k => monitor_checkRule.f_eq _ _ _) ?_
  exact Ev.bind n1 (Ev.no (by simp [a1]) (Ev.bind n2 (Ev.no (by simp [a2]) h)))
 by_cases a3 : x.2.2.1 = []
 ·refine ⟨r, go (Ev.step (fun k => monitor_checkRule.c0_eq _ _ _ _ _ _ _ _ _ _) ?_)⟩
  exact Ev.no (by simp [a3]) r1
 by_cases a4 : x.2.2.1 ∈ w.1
 ·refine ⟨r, go (Ev.step (fun k => monitor_checkRule.c0_eq _ _ _ _ _ _ _ _ _ _) ?_)⟩
  exact Ev.yes (by simpa using a3) (Ev.bind (contains_ev _ _ (by omega)) (Ev.no (by simp [a4]) r1))
 ·refine ⟨(9, ()), go (Ev.step (fun k => monitor_checkRule.c0_eq _ _ _ _ _ _ _ _ _ _) ?_)⟩
  exact Ev.yes (by simpa using a3) (Ev.bind (contains_ev _ _ (by omega)) (Ev.yes (by simp [a4]) (Ev.now _)))
theorem watch_ev (w : DWatch) (h0 : okT YWatch w) : ∃ r : Int × Unit, Ev (fun k => monitor_CheckWatch.f k w) r ∧ (r.1 = 0 → ModesOk w) := by
 obtain ⟨r, r1, r2⟩ := modes_ev w h0
 by_cases hr : r.1 = 0
 case neg =>
  refine ⟨r, Ev.eq (fun k => monitor_CheckWatch.f_eq _ _) ?_, fun h => absurd h hr⟩
  exact Ev.bind r1 (Ev.yes (by simpa using hr) (Ev.now _))
 have ok := r2 hr
 by_cases rl : 200 < w.2.2.2.length
 ·refine ⟨(2, ()), Ev.eq (fun k => monitor_CheckWatch.f_eq _ _) ?_, fun h => by cases h⟩
  exact Ev.bind r1 (Ev.no (by simp [hr]) (Ev.yes (decide_eq_true (by omega)) (Ev.now _)))
 suffices h : ∃ r : Int × Unit, Ev (fun k => monitor_CheckWatch.c0 k w.1 w.2.1 w.2.2.1 w.2.2.2 [] w.2.2.2 (w.2.2.2.length : Int) 0) r by
  obtain ⟨s, s1⟩ := h
  refine ⟨s, Ev.eq (fun k => monitor_CheckWatch.f_eq _ _) ?_, fun _ => ok⟩
  exact Ev.bind r1 (Ev.no (by simp [hr]) (Ev.no (fun h => rl (by have := of_decide_eq_true h; omega)) s1))
 have acts : ∀ (m : List (List UInt8 × Bool)), ∃ r : Int × Unit, Ev (fun k => monitor_CheckWatch.c1 k m w.2.2.2 (w.2.2.2.length : Int) 0) r := fun m => by
  have := Ev.rngR (σ := Unit) (Ty.dflt YWatchRule) w.2.2.2 (by omega) (g := fun k _ i => monitor_CheckWatch.c1 k m w.2.2.2 (w.2.2.2.length : Int) i) (fun k _ i => monitor_CheckWatch.c1_eq _ _ _ _ _)
   (fun i _ => True) (fun r => True) (fun _ hs => ⟨_, Ev.now _, trivial⟩) (fun i x _ hi hc hget hgd hw hs next => ?_) 0 () (by omega) trivial
  ·obtain ⟨r, r1, _⟩ := this
   exact ⟨r, r1⟩
  ·simp only [Int.toNat_natCast, hgd, hw]
   have hx := h0.2.2.2.2.2 x hc
   have hl := hx.2.2.2.2.1
   exact Ev.rngR (σ := Unit) (Ty.dflt YAct) x.2.2.2.2 (by omega) (g := fun k _ j => monitor_CheckWatch.c2 k m w.2.2.2 (w.2.2.2.length : Int) (i : Int) x.2.2.2.2 (x.2.2.2.2.length : Int) j) (fun k _ j => monitor_CheckWatch.c2_eq _ _ _ _ _ _ _ _)
    (fun i _ => True) (fun r => True) (fun _ hs => by rw [hw]; exact next () trivial) (fun j y _ hj hcy hgety hgdy hwy hsy nexty => by
     simp only [Int.toNat_natCast, hgdy, hwy]
     obtain ⟨r, r1, _⟩ := nexty () trivial
     by_cases k1 : y.1 = 2
     ·by_cases k2 : mapGet .str .bool y.2.1 m false = true
      ·exact ⟨r, Ev.yes (decide_eq_true k1) (Ev.no (by simp [k2]) r1), trivial⟩
      ·exact ⟨(9, ()), Ev.yes (decide_eq_true k1) (Ev.yes (by simpa using k2) (Ev.now _)), trivial⟩
     ·by_cases k3 : y.1 = 3
      ·by_cases k2 : mapGet .str .bool y.2.1 m false = true
       ·exact ⟨r, Ev.no (by simpa using k1) (Ev.yes (decide_eq_true k3) (Ev.no (by simp [k2]) r1)), trivial⟩
       ·exact ⟨(9, ()), Ev.no (by simpa using k1) (Ev.yes (decide_eq_true k3) (Ev.yes (by simpa using k2) (Ev.now _))), trivial⟩
      ·exact ⟨r, Ev.no (by simpa using k1) (Ev.no (by simpa using k3) r1), trivial⟩) 0 () (by omega) trivial
 have := Ev.rngR (σ := List (List UInt8 × Bool)) (Ty.dflt YWatchRule) w.2.2.2 (by omega) (g := fun k m i => monitor_CheckWatch.c0 k w.1 w.2.1 w.2.2.1 w.2.2.2 m w.2.2.2 (w.2.2.2.length : Int) i) (fun k _ i => monitor_CheckWatch.c0_eq _ _ _ _ _ _ _ _ _)
  (fun i _ => True) (fun r => True) (fun m hs => by
   obtain ⟨r, r1⟩ := acts m
   exact ⟨r, r1, trivial⟩) (fun i x m hi hc hget hgd hw hs next => ?_) 0 [] (by omega) trivial
 ·obtain ⟨r, r1, _⟩ := this
  exact ⟨r, r1⟩
 ·simp only [Int.toNat_natCast, hgd, hw]
  have hx := h0.2.2.2.2.2 x hc
  obtain ⟨q, q1⟩ := rule_ev w x ok.ml hx
  obtain ⟨r, r1, _⟩ := next (mapPut .str .bool x.1 true m) trivial
  by_cases c1 : q.1 = 0
  case neg => exact ⟨(q.1, ()), Ev.bind q1 (Ev.yes (by simpa using c1) (Ev.now _)), trivial⟩
  by_cases hi0 : i = 0
  ·subst hi0
   exact ⟨r, Ev.bind q1 (Ev.no (by simp [c1]) (Ev.no (by simp) r1)), trivial⟩
  ·have hw1 : IntKind.wrap .i64 ((i : Int) - 1) = ((i - 1 : Nat) : Int) := by rw [w64 (by omega) (by omega)]; omega
   simp only [hw1, Int.toNat_natCast]
   by_cases l1 : lessS (w.2.2.2.getD (i - 1) (Ty.dflt YWatchRule)).1 x.1 = true
   ·exact ⟨r, Ev.bind q1 (Ev.no (by simp [c1]) (Ev.yes (by simp; omega) (Ev.yes (by omega) (Ev.no (fun h => by rw [l1] at h; cases h) r1)))), trivial⟩
   ·exact ⟨(8, ()), Ev.bind q1 (Ev.no (by simp [c1]) (Ev.yes (by simp; omega) (Ev.yes (by omega) (Ev.yes (by simpa using l1) (Ev.now _))))), trivial⟩
end Go.Proofs.Ytadhpgecilhgnaa.Pure

-- YtadhpgecilhgnaaQ3
set_option linter.unusedVariables false
set_option linter.unusedSimpArgs false
namespace Go.Proofs.Ytadhpgecilhgnaa.Pure
open Go Go.Proofs.Ytadhpgecilhgnaa.A

abbrev S := List UInt8
def lk {β : Type} : List (S × β) → S → Option β
 | [], _ => none
 | p :: m, k => if p.1 = k then some p.2 else lk m k
section
variable {σ : Ty}
theorem eqS {x y : S} : eqV .str x y = true ↔ x = y := eqV_iff (τ := .str) rfl
theorem get_lk (m : List (S × σ.den)) (k : S) (z : σ.den) : mapGet .str σ k m z = (lk m k).getD z := by
 induction m with
 | nil => rfl
 | cons p m ih =>
  rw [mapGet, lk]
  by_cases h : p.1 = k
  ·rw [if_pos h, if_pos (eqS.2 h)]; rfl
  ·rw [if_neg h, if_neg (fun e => h (eqS.1 e)), ih]
theorem lk_put (m : List (S × σ.den)) (k : S) (v : σ.den) (j : S) : lk (mapPut .str σ k v m) j = if k = j then some v else lk m j := by
 induction m with
 | nil => simp [mapPut, lk]
 | cons p m ih =>
  rw [mapPut]
  by_cases h : p.1 = k
  ·rw [if_pos (eqS.2 h), lk, lk]
   by_cases hj : k = j
   ·rw [if_pos hj, if_pos hj]
   ·rw [if_neg hj, if_neg hj, if_neg (fun e => hj (h ▸ e))]
  ·rw [if_neg (fun e => h (eqS.1 e)), lk, lk, ih]
   by_cases hp : p.1 = j
   ·rw [if_pos hp, if_neg (fun e => h (hp.trans e.symm)), if_pos hp]
   ·rw [if_neg hp, if_neg hp]
theorem keys_put (m : List (S × σ.den)) (k : S) (v : σ.den) : (mapPut .str σ k v m).map (·.1) = if (lk m k).isSome = true then m.map (·.1) else m.map (·.1) ++ [k] := by
 induction m with
 | nil => rfl
 | cons p m ih =>
  rw [mapPut, lk]
  by_cases h : p.1 = k
  ·rw [if_pos (eqS.2 h), if_pos h]; simp [h]
  ·rw [if_neg (fun e => h (eqS.1 e)), if_neg h, List.map_cons, ih]
   split <;> simp
theorem lk_mem {β : Type} {m : List (S × β)} {k : S} : (lk m k).isSome = true ↔ k ∈ m.map (·.1) := by
 induction m with
 | nil => simp [lk]
 | cons p m ih =>
  rw [lk]
  by_cases h : p.1 = k
  ·rw [if_pos h]; simp [h]
  ·rw [if_neg h, ih]; simp [Ne.symm h]
end
theorem nodup_len {α : Type} [DecidableEq α] : ∀ {l m : List α}, l.Nodup → (∀ x ∈ l, x ∈ m) → l.length ≤ m.length
 | [], m, _, _ => by simp
 | x :: l, m, h, hs => by
  rw [List.nodup_cons] at h
  have hx := hs x (by simp)
  have := nodup_len (l := l) (m := m.erase x) h.2 fun y hy => (List.mem_erase_of_ne (by rintro rfl; exact h.1 hy)).2 (hs y (by simp [hy]))
  rw [List.length_erase_of_mem hx] at this
  have := List.length_pos_of_mem hx
  simp only [List.length_cons]; omega

def Wi (C : List DModeChange) (fr : S) : Nat → S → Prop
 | 0, y => y = fr
 | n + 1, y => Wi C fr n y ∨ ∃ c ∈ C, Wi C fr n c.1 ∧ c.2.2 = y
theorem Wi.mono {C : List DModeChange} {fr y : S} {n m : Nat} (h : n ≤ m) (hw : Wi C fr n y) : Wi C fr m y := by
 induction m with
 | zero =>
  obtain rfl : n = 0 := by omega
  exact hw
 | succ m ih =>
  by_cases e : n = m + 1
  ·subst e; exact hw
  ·exact .inl (ih (by omega))
def wk (C : List DModeChange) (m e : S) : S := match C.find? fun c => decide (c.1 = m ∧ c.2.1 = e) with | some c => c.2.2 | none => m
end Go.Proofs.Ytadhpgecilhgnaa.Pure

-- YtadhpgecilhgnaaQ13
set_option linter.unusedVariables false
set_option linter.unusedSimpArgs false
namespace Go.Proofs.Ytadhpgecilhgnaa.Pure
open Go Go.Proofs.Ytadhpgecilhgnaa.A

abbrev rul (w : DWatch) (i : Nat) : DWatchRule := w.2.2.2.getD i (Ty.dflt YWatchRule)
def ActsOk (x : DWatchRule) : Prop := x.2.2.2.2.length ≤ 10 ∧ (∀ a ∈ x.2.2.2.2, a.1 = 1 → a.2.2 = false) ∧ ∀ a ∈ x.2.2.2.2, (1 ≤ a.1 ∧ a.1 ≤ 4) ∧ a.2.1 ≠ []
structure RulesOk (w : DWatch) : Prop where
 rl : w.2.2.2.length ≤ 200
 ac : ∀ i, i < w.2.2.2.length → ActsOk (rul w i)
 od : ∀ j, j < w.2.2.2.length → 0 < j → lessS (rul w (j - 1)).1 (rul w j).1 = true
 rn : ∀ i, i < w.2.2.2.length → ∀ a ∈ (rul w i).2.2.2.2, a.1 = 2 ∨ a.1 = 3 → ∃ j, j < w.2.2.2.length ∧ (rul w j).1 = a.2.1
theorem rule_acts (w : DWatch) (x : DWatchRule) (hl : w.1.length ≤ 50) (hx : okT YWatchRule x) : ∃ r : Int × Unit, Ev (fun k => monitor_checkRule.f k w x) r ∧ (r.1 = 0 → ActsOk x) := by
 have tail : ∃ r : Int × Unit, Ev (fun k => monitor_checkRule.c1 k x.1 x.2.1 x.2.2.1 x.2.2.2.1 x.2.2.2.2) r ∧ (r.1 = 0 → ActsOk x) := by
  by_cases al : 10 < x.2.2.2.2.length
  ·refine ⟨(2, ()), Ev.step (fun k => monitor_checkRule.c1_eq _ _ _ _ _ _) ?_, fun h => by cases h⟩
   exact Ev.yes (decide_eq_true (by omega)) (Ev.now _)
  have := Ev.rngR (σ := Unit) (Ty.dflt YAct) x.2.2.2.2 (by omega) (g := fun k _ i => monitor_checkRule.c2 k x.2.2.2.2 (x.2.2.2.2.length : Int) i) (fun k _ i => monitor_checkRule.c2_eq _ _ _ _)
   (fun i _ => ∀ a ∈ x.2.2.2.2.take i, (a.1 = 1 → a.2.2 = false) ∧ (1 ≤ a.1 ∧ a.1 ≤ 4) ∧ a.2.1 ≠ []) (fun r => r.1 = 0 → ActsOk x) (fun _ hs => ⟨(0, ()), Ev.now _, fun _ => ⟨by omega, by rw [List.take_length] at hs; exact ⟨fun a ha => (hs a ha).1, fun a ha => (hs a ha).2⟩⟩⟩) (fun i y _ hi hc hget hgd hw hs next => ?_) 0 () (by omega) (fun a ha => by simp at ha)
  ·obtain ⟨r, r1, r2⟩ := this
   refine ⟨r, Ev.step (fun k => monitor_checkRule.c1_eq _ _ _ _ _ _) ?_, r2⟩
   exact Ev.no (fun h => al (by have := of_decide_eq_true h; omega)) r1
  ·simp only [Int.toNat_natCast, hgd, hw, in_ev, Option.bind_some]
   obtain ⟨nm, _⟩ := name_ev y.2.1 ((hx.2.2.2.2.2.2 y hc).2.1)
   have nx : ((y.1 = 1 → y.2.2 = false) ∧ (1 ≤ y.1 ∧ y.1 ≤ 4) ∧ y.2.1 ≠ []) → ∃ r : Int × Unit, Ev (fun k => monitor_checkRule.c2 k x.2.2.2.2 (x.2.2.2.2.length : Int) ((i : Int) + 1)) r ∧ (r.1 = 0 → ActsOk x) := fun h => next () fun a ha => by
    rw [List.take_add_one, hget] at ha
    rcases List.mem_append.1 ha with ha | ha
    ·exact hs a ha
    ·simp at ha; subst ha; exact h
   by_cases k1 : (1 ≤ y.1 ∧ y.1 ≤ 4)
   case neg => exact ⟨(4, ()), Ev.yes (by simp only [decide_eq_false k1]; rfl) (Ev.now _), fun h => by cases h⟩
   by_cases h3 : isNm y.2.1 = true
   case neg => exact ⟨(5, ()), Ev.no (by simp only [decide_eq_true k1]; simp) (Ev.bind nm (Ev.yes (by simpa using h3) (Ev.now _))), fun h => by cases h⟩
   by_cases h4 : y.2.2 = true
   case neg =>
    obtain ⟨r, r1, r2⟩ := nx ⟨fun _ => by simpa using h4, k1, nm_ne h3⟩
    exact ⟨r, Ev.no (by simp only [decide_eq_true k1]; simp) (Ev.bind nm (Ev.no (by simp [h3]) (Ev.no h4 r1))), r2⟩
   by_cases h5 : y.1 = 4
   ·obtain ⟨r, r1, r2⟩ := nx ⟨fun h => by have e : (1 : Int) = 4 := h.symm.trans h5; omega, k1, nm_ne h3⟩
    exact ⟨r, Ev.no (by simp only [decide_eq_true k1]; simp) (Ev.bind nm (Ev.no (by simp [h3]) (Ev.yes h4 (Ev.no (by simp [h5]) r1)))), r2⟩
   ·exact ⟨(3, ()), Ev.no (by simp only [decide_eq_true k1]; simp) (Ev.bind nm (Ev.no (by simp [h3]) (Ev.yes h4 (Ev.yes (by simpa using h5) (Ev.now _))))), fun h => by cases h⟩
 obtain ⟨r, r1, r2⟩ := tail
 obtain ⟨n1, _⟩ := name_ev x.1 hx.1
 obtain ⟨n2, _⟩ := name_ev x.2.1 hx.2.1
 by_cases a1 : isNm x.1 = true
 case neg =>
  refine ⟨(5, ()), Ev.eq (fun k => monitor_checkRule.f_eq _ _ _) ?_, fun h => by cases h⟩
  exact Ev.bind n1 (Ev.yes (by simpa using a1) (Ev.now _))
 by_cases a2 : isNm x.2.1 = true
 case neg =>
  refine ⟨(5, ()), Ev.eq (fun k => monitor_checkRule.f_eq _ _ _) ?_, fun h => by cases h⟩
  exact Ev.bind n1 (Ev.no (by simp [a1]) (Ev.bind n2 (Ev.yes (by simpa using a2) (Ev.now _))))
 have go : ∀ {r}, Ev (fun k => monitor_checkRule.c0 k w.1 w.2.1 w.2.2.1 w.2.2.2 x.1 x.2.1 x.2.2.1 x.2.2.2.1 x.2.2.2.2) r → Ev (fun k => monitor_checkRule.f k w x) r := fun {r} h => by
  refine Ev.eq (fun k => monitor_checkRule.f_eq _ _ _) ?_
  exact Ev.bind n1 (Ev.no (by simp [a1]) (Ev.bind n2 (Ev.no (by simp [a2]) h)))
 by_cases a3 : x.2.2.1 = []
 ·refine ⟨r, go (Ev.step (fun k => monitor_checkRule.c0_eq _ _ _ _ _ _ _ _ _ _) ?_), r2⟩
  exact Ev.no (by simp [a3]) r1
 by_cases a4 : x.2.2.1 ∈ w.1
 ·refine ⟨r, go (Ev.step (fun k => monitor_checkRule.c0_eq _ _ _ _ _ _ _ _ _ _) ?_), r2⟩
  exact Ev.yes (by simpa using a3) (Ev.bind (contains_ev _ _ (by omega)) (Ev.no (by simp [a4]) r1))
 ·refine ⟨(9, ()), go (Ev.step (fun k => monitor_checkRule.c0_eq _ _ _ _ _ _ _ _ _ _) ?_), fun h => by cases h⟩
  exact Ev.yes (by simpa using a3) (Ev.bind (contains_ev _ _ (by omega)) (Ev.yes (by simp [a4]) (Ev.now _)))
theorem watch_rules (w : DWatch) (h0 : okT YWatch w) {c : Int} (hc : Ev (fun k => monitor_CheckWatch.f k w) (c, ())) (c0 : c = 0) : RulesOk w := by
 subst c0
 obtain ⟨r, r1, r2⟩ := modes_ev w h0
 have rl : w.2.2.2.length ≤ 200 ∧ r.1 = 0 := by
  by_cases hr : r.1 = 0
  case neg =>
   have : Ev (fun k => monitor_CheckWatch.f k w) (r.1, ()) := Ev.eq (fun k => monitor_CheckWatch.f_eq _ _) (Ev.bind r1 (Ev.yes (by simpa using hr) (Ev.now _)))
   have e := hc.unique this
   simp only [Prod.mk.injEq, and_true] at e
   exact absurd e.symm hr
  refine ⟨?_, hr⟩
  apply Classical.byContradiction
  intro hn
  have : Ev (fun k => monitor_CheckWatch.f k w) (2, ()) := Ev.eq (fun k => monitor_CheckWatch.f_eq _ _) (Ev.bind r1 (Ev.no (by simp [hr]) (Ev.yes (decide_eq_true (by omega)) (Ev.now _))))
  have e := hc.unique this
  simp at e
 obtain ⟨rl, hr⟩ := rl
 have ok := r2 hr
 suffices h : ∃ s : Int × Unit, Ev (fun k => monitor_CheckWatch.c0 k w.1 w.2.1 w.2.2.1 w.2.2.2 [] w.2.2.2 (w.2.2.2.length : Int) 0) s ∧ (s.1 = 0 → RulesOk w) by
  obtain ⟨s, s1, s2⟩ := h
  have : Ev (fun k => monitor_CheckWatch.f k w) s := Ev.eq (fun k => monitor_CheckWatch.f_eq _ _) (Ev.bind r1 (Ev.no (by simp [hr]) (Ev.no (fun h => by have := of_decide_eq_true h; omega) s1)))
  have e := hc.unique this
  exact s2 (by rw [← e])
 let AK : List (List UInt8 × Bool) → DAct → Prop := fun m y => y.1 = 2 ∨ y.1 = 3 → mapGet .str .bool y.2.1 m false = true
 have acts : ∀ (m : List (List UInt8 × Bool)), ∃ r : Int × Unit, Ev (fun k => monitor_CheckWatch.c1 k m w.2.2.2 (w.2.2.2.length : Int) 0) r ∧ (r.1 = 0 → ∀ i, i < w.2.2.2.length → ∀ a ∈ (rul w i).2.2.2.2, AK m a) := fun m => by
  have := Ev.rngR (σ := Unit) (Ty.dflt YWatchRule) w.2.2.2 (by omega) (g := fun k _ i => monitor_CheckWatch.c1 k m w.2.2.2 (w.2.2.2.length : Int) i) (fun k _ i => monitor_CheckWatch.c1_eq _ _ _ _ _)
   (fun i _ => ∀ j, j < i → ∀ a ∈ (rul w j).2.2.2.2, AK m a) (fun r => r.1 = 0 → ∀ i, i < w.2.2.2.length → ∀ a ∈ (rul w i).2.2.2.2, AK m a) (fun _ hs => ⟨_, Ev.now _, fun _ => hs⟩) (fun i x _ hi hc hget hgd hw hs next => ?_) 0 () (by omega) (fun j hj => by omega)
  ·obtain ⟨r, r1, r2⟩ := this
   exact ⟨r, r1, r2⟩
  ·simp only [Int.toNat_natCast, hgd, hw]
   have hx := h0.2.2.2.2.2 x hc
   have hl := hx.2.2.2.2.1
   exact Ev.rngR (σ := Unit) (Ty.dflt YAct) x.2.2.2.2 (by omega) (g := fun k _ j => monitor_CheckWatch.c2 k m w.2.2.2 (w.2.2.2.length : Int) (i : Int) x.2.2.2.2 (x.2.2.2.2.length : Int) j) (fun k _ j => monitor_CheckWatch.c2_eq _ _ _ _ _ _ _ _)
    (fun j _ => ∀ a ∈ x.2.2.2.2.take j, AK m a) (fun r => r.1 = 0 → ∀ i, i < w.2.2.2.length → ∀ a ∈ (rul w i).2.2.2.2, AK m a) (fun _ hs' => by
     rw [List.take_length] at hs'
     rw [hw]
     exact next () fun j hj a ha => by
      by_cases ej : j = i
      ·subst ej
       unfold rul at ha
       rw [hgd] at ha
       exact hs' a ha
      ·exact hs j (by omega) a ha) (fun j y _ hj hcy hgety hgdy hwy hsy nexty => by
     simp only [Int.toNat_natCast, hgdy, hwy]
     have nx := fun (h : AK m y) => nexty () fun a ha => by
      rw [List.take_add_one, hgety] at ha
      rcases List.mem_append.1 ha with ha | ha
      ·exact hsy a ha
      ·simp at ha; subst ha; exact h
     by_cases k1 : y.1 = 2
     ·by_cases k2 : mapGet .str .bool y.2.1 m false = true
      ·obtain ⟨r, r1, r2⟩ := nx fun _ => k2
       exact ⟨r, Ev.yes (decide_eq_true k1) (Ev.no (by simp [k2]) r1), r2⟩
      ·exact ⟨(9, ()), Ev.yes (decide_eq_true k1) (Ev.yes (by simpa using k2) (Ev.now _)), fun h => by cases h⟩
     ·by_cases k3 : y.1 = 3
      ·by_cases k2 : mapGet .str .bool y.2.1 m false = true
       ·obtain ⟨r, r1, r2⟩ := nx fun _ => k2
        exact ⟨r, Ev.no (by simpa using k1) (Ev.yes (decide_eq_true k3) (Ev.no (by simp [k2]) r1)), r2⟩
       ·exact ⟨(9, ()), Ev.no (by simpa using k1) (Ev.yes (decide_eq_true k3) (Ev.yes (by simpa using k2) (Ev.now _))), fun h => by cases h⟩
      ·obtain ⟨r, r1, r2⟩ := nx fun h => absurd h (by rintro (h | h) <;> contradiction)
       exact ⟨r, Ev.no (by simpa using k1) (Ev.no (by simpa using k3) r1), r2⟩) 0 () (by omega) (fun a ha => by simp at ha)
 have := Ev.rngR (σ := List (List UInt8 × Bool)) (Ty.dflt YWatchRule) w.2.2.2 (by omega) (g := fun k m i => monitor_CheckWatch.c0 k w.1 w.2.1 w.2.2.1 w.2.2.2 m w.2.2.2 (w.2.2.2.length : Int) i) (fun k _ i => monitor_CheckWatch.c0_eq _ _ _ _ _ _ _ _ _)
  (fun i m => (∀ j, j < i → ActsOk (rul w j) ∧ (0 < j → lessS (rul w (j - 1)).1 (rul w j).1 = true)) ∧ ∀ u, (lk m u).isSome = true → ∃ j, j < i ∧ (rul w j).1 = u) (fun r => r.1 = 0 → RulesOk w) (fun m hs => by
   obtain ⟨r, r1, r2⟩ := acts m
   refine ⟨r, r1, fun hr0 => ⟨rl, fun i hi => (hs.1 i hi).1, fun j hj h0 => (hs.1 j hj).2 h0, fun i hi a ha h => hs.2 _ ?_⟩⟩
   have := r2 hr0 i hi a ha h
   rw [get_lk (σ := .bool)] at this
   cases hl : lk m a.2.1 with
   | none => rw [hl] at this; cases this
   | some v => rfl) (fun i x m hi hc hget hgd hw hs next => ?_) 0 [] (by omega) ⟨fun j hj => by omega, fun u hu => by cases hu⟩
 ·exact this
 ·simp only [Int.toNat_natCast, hgd, hw]
  have hx := h0.2.2.2.2.2 x hc
  obtain ⟨q, q1, q2⟩ := rule_acts w x ok.ml hx
  by_cases c1 : q.1 = 0
  case neg => exact ⟨(q.1, ()), Ev.bind q1 (Ev.yes (by simpa using c1) (Ev.now _)), fun h => absurd h c1⟩
  have nx : (0 < i → lessS (rul w (i - 1)).1 x.1 = true) → ∃ r : Int × Unit, Ev (fun k => monitor_CheckWatch.c0 k w.1 w.2.1 w.2.2.1 w.2.2.2 (mapPut .str .bool x.1 true m) w.2.2.2 (w.2.2.2.length : Int) ((i : Int) + 1)) r ∧ (r.1 = 0 → RulesOk w) := fun h => next _ ⟨fun j hj => by
   by_cases e : j = i
   ·subst e
    unfold rul at h ⊢
    rw [hgd]
    exact ⟨q2 c1, h⟩
   ·exact hs.1 j (by omega), fun u hu => by
   rw [lk_put (σ := .bool)] at hu
   split at hu
   ·rename_i e
    exact ⟨i, by omega, by unfold rul; rw [hgd]; exact e⟩
   ·obtain ⟨j, j1, j2⟩ := hs.2 u hu
    exact ⟨j, by omega, j2⟩⟩
  by_cases hi0 : i = 0
  ·subst hi0
   obtain ⟨r, r1, r2⟩ := nx (fun h => by omega)
   exact ⟨r, Ev.bind q1 (Ev.no (by simp [c1]) (Ev.no (by simp) r1)), r2⟩
  ·have hw1 : IntKind.wrap .i64 ((i : Int) - 1) = ((i - 1 : Nat) : Int) := by rw [w64 (by omega) (by omega)]; omega
   simp only [hw1, Int.toNat_natCast]
   by_cases l1 : lessS (w.2.2.2.getD (i - 1) (Ty.dflt YWatchRule)).1 x.1 = true
   ·obtain ⟨r, r1, r2⟩ := nx (fun _ => l1)
    exact ⟨r, Ev.bind q1 (Ev.no (by simp [c1]) (Ev.yes (by simp; omega) (Ev.yes (by omega) (Ev.no (fun h => by rw [l1] at h; cases h) r1)))), r2⟩
   ·exact ⟨(8, ()), Ev.bind q1 (Ev.no (by simp [c1]) (Ev.yes (by simp; omega) (Ev.yes (by omega) (Ev.yes (by simpa using l1) (Ev.now _))))), fun h => by cases h⟩

def Rai (x : DWatchRule) (e : S) : Prop := ∃ a ∈ x.2.2.2.2, a.1 = 1 ∧ a.2.1 = e
end Go.Proofs.Ytadhpgecilhgnaa.Pure

-- YtadhpgecilhgnaaQo
set_option linter.unusedVariables false
set_option linter.unusedSimpArgs false
namespace Go.Proofs.Ytadhpgecilhgnaa.Pure
open Go Go.Proofs.Ytadhpgecilhgnaa.A

def lxl : List S → List S → Prop
 | [], [] => False
 | [], _ :: _ => True
 | _ :: _, [] => False
 | x :: a, y :: b => lessS x y = true ∨ (x = y ∧ lxl a b)
def cl : List S → List S → Int
 | [], [] => 0
 | [], _ :: _ => -1
 | _ :: _, [] => 1
 | x :: a, y :: b => if lessS x y = true then -1 else if lessS y x = true then 1 else cl a b
def Pt (C : List DModeChange) : S → List S → S → Prop
 | x, [], y => x = y
 | x, e :: l, y => ∃ c ∈ C, c.1 = x ∧ c.2.1 = e ∧ Pt C c.2.2 l y
variable {C : List DModeChange}
end Go.Proofs.Ytadhpgecilhgnaa.Pure

-- YtadhpgecilhgnaaQ4
set_option linter.unusedVariables false
set_option linter.unusedSimpArgs false
namespace Go.Proofs.Ytadhpgecilhgnaa.Pure
open Go Go.Proofs.Ytadhpgecilhgnaa.A

theorem Ev.agreeL {α β : Type} {l : List β} (hl : l ≠ []) {K : Nat → β → List β → Option α} {r : α} (h : ∀ (i : Nat) (x : β), l[i]? = Option.some x → Ev (fun k => K k x (l.eraseIdx i)) r) : Ev (fun k => Go.Proofs.Ytadhpgecilhgnaa.A.agreeL l (K k)) r := by
 have bound : ∀ b : Nat, ∃ N, ∀ i, i < b → ∀ x, l[i]? = Option.some x → ∀ n, N ≤ n → K n x (l.eraseIdx i) = Option.some r := by
  intro b
  induction b with
  | zero => exact ⟨0, fun i hi => by omega⟩
  | succ b ih =>
   obtain ⟨N, hN⟩ := ih
   cases hb : l[b]? with
   | none =>
    refine ⟨N, fun i hi x hx n hn => ?_⟩
    by_cases e : i = b
    ·subst e; rw [hb] at hx; cases hx
    ·exact hN i (by omega) x hx n hn
   | some y =>
    obtain ⟨M, hM⟩ := h b y hb
    refine ⟨max N M, fun i hi x hx n hn => ?_⟩
    by_cases e : i = b
    ·subst e; rw [hb] at hx; cases hx; exact hM n (by omega)
    ·exact hN i (by omega) x hx n (by omega)
 obtain ⟨N, hN⟩ := bound l.length
 refine ⟨N, fun n hn => ?_⟩
 have all : ∀ (i : Nat) (x : β), l[i]? = Option.some x → K n x (l.eraseIdx i) = Option.some r := fun i x hx => hN i (List.getElem?_eq_some_iff.1 hx).1 x hx n hn
 show Go.Proofs.Ytadhpgecilhgnaa.A.agreeL l (K n) = _
 unfold Go.Proofs.Ytadhpgecilhgnaa.A.agreeL
 have e : ∃ r, ∀ (i : Nat) (x : β), l[i]? = Option.some x → K n x (l.eraseIdx i) = Option.some r := ⟨r, all⟩
 rw [dif_pos e]
 obtain ⟨x, xs, rfl⟩ := List.exists_cons_of_ne_nil hl
 have h1 := Classical.choose_spec e 0 x rfl
 rw [all 0 x rfl] at h1
 exact h1.symm

abbrev Mp := List (S × List S)
section
variable {C : List DModeChange} {B : S → Option (List S)} {M : List S}
end
section
variable {C : List DModeChange} {B : S → Option (List S)} {to md : S} {ms : List S} {rl : List DWatchRule} {best : Mp}
end
end Go.Proofs.Ytadhpgecilhgnaa.Pure

-- YtadhpgecilhgnaaQ5
set_option linter.unusedVariables false
set_option linter.unusedSimpArgs false
namespace Go.Proofs.Ytadhpgecilhgnaa.Pure
open Go Go.Proofs.Ytadhpgecilhgnaa.A

def WayOk (C : List DModeChange) (fr to : S) (r : List S × Bool × Int × Unit) : Prop :=
 r.2.2.1 = 0 ∧ ((r.2.1 = true ∧ (∃ n, Wi C fr n to) ∧ (∀ k, k < r.1.length → ¬ Wi C fr k to) ∧ r.1.foldl (wk C) fr = to ∧ r.1.length ≤ 1000 ∧ Pt C fr r.1 to ∧ ∀ l, l.length = r.1.length → Pt C fr l to → ¬ lxl l r.1) ∨ (r.2.1 = false ∧ r.1 = [] ∧ ∀ k, ¬ Wi C fr k to))
theorem filter_less {α : Type} {p q : α → Bool} : ∀ {l : List α}, (∀ x ∈ l, q x = true → p x = true) → (∃ x ∈ l, p x = true ∧ q x = false) → (l.filter q).length < (l.filter p).length
 | [], _, h => by obtain ⟨x, hx, _⟩ := h; cases hx
 | y :: l, h1, h2 => by
  have mono : (l.filter q).length ≤ (l.filter p).length := by
   clear h2
   induction l with
   | nil => simp
   | cons z l ih =>
    have ih := ih fun x hx => h1 x (by simp at hx ⊢; rcases hx with h | h <;> simp [h])
    have hz := h1 z (by simp)
    by_cases a : q z = true
    ·rw [List.filter_cons_of_pos a, List.filter_cons_of_pos (hz a)]; simp; omega
    ·rw [List.filter_cons_of_neg a]
     by_cases b : p z = true
     ·rw [List.filter_cons_of_pos b]; simp; omega
     ·rw [List.filter_cons_of_neg b]; omega
  by_cases hy : p y = true ∧ q y = false
  ·rw [List.filter_cons_of_pos hy.1, List.filter_cons_of_neg (by simp [hy.2])]
   simp; omega
  ·have ih := filter_less (l := l) (fun x hx => h1 x (by simp [hx])) (by
    obtain ⟨x, hx, e⟩ := h2
    rcases List.mem_cons.1 hx with rfl | hx
    ·exact absurd e hy
    ·exact ⟨x, hx, e⟩)
   by_cases a : q y = true
   ·rw [List.filter_cons_of_pos a, List.filter_cons_of_pos (h1 y (by simp) a)]; simp; omega
   ·rw [List.filter_cons_of_neg a]
    by_cases b : p y = true
    ·rw [List.filter_cons_of_pos b]; simp; omega
    ·rw [List.filter_cons_of_neg b]; omega
section
variable {C : List DModeChange} {fr to md : S} {ms : List S} {rl : List DWatchRule}
end
end Go.Proofs.Ytadhpgecilhgnaa.Pure

-- YtadhpgecilhgnaaQ6
set_option linter.unusedVariables false
set_option linter.unusedSimpArgs false
namespace Go.Proofs.Ytadhpgecilhgnaa.Pure
open Go Go.Proofs.Ytadhpgecilhgnaa.A

abbrev Fr := List (S × Int)
end Go.Proofs.Ytadhpgecilhgnaa.Pure

-- YtadhpgecilhgnaaQ7
set_option linter.unusedVariables false
set_option linter.unusedSimpArgs false
namespace Go.Proofs.Ytadhpgecilhgnaa.Pure
open Go Go.Proofs.Ytadhpgecilhgnaa.A

def gdP (c : Nat) (i : Nat) : Prop := (97 ≤ c ∧ c ≤ 122) ∨ (i ≠ 0 ∧ (c = 45 ∨ c = 95 ∨ (48 ≤ c ∧ c ≤ 57)))
instance (c i : Nat) : Decidable (gdP c i) := by unfold gdP; infer_instance
def ag : List UInt8 → Nat → Bool
 | [], _ => true
 | x :: xs, i => decide (gdP x.toNat i) && ag xs (i + 1)
theorem mname_loop (s : List UInt8) (hs : s.length ≤ 140737488351232) : Ev (fun k => monitor_IsName.c1 k s (s.length : Int) 0) (ag s 0, ()) := by
 have h := Ev.rng (σ := Unit) (0 : UInt8) s (by omega) (g := fun k _ i => monitor_IsName.c1 k s (s.length : Int) i) (fun k _ i => monitor_IsName.c1_eq _ _ _ _)
  (fun _ _ => True) (fun xs i _ => (ag xs i, ())) (fun _ _ => Ev.is rfl) (fun i x xs _ hi hx hd hget hw _ next => by
   simp only [Int.toNat_natCast, hget, hw, decide_eq_true_eq, Bool.not_eq_true', decide_eq_false_iff_not]
   have F : ¬ gdP x.toNat i → Ev (fun _ : Nat => some (false, ())) (ag (x :: xs) i, ()) := fun h => Ev.is (by rw [ag, decide_eq_false h]; rfl)
   have T : gdP x.toNat i → Ev (fun k => monitor_IsName.c1 k s (s.length : Int) ((i : Int) + 1)) (ag (x :: xs) i, ()) := fun h => by
    rw [ag, decide_eq_true h]; exact next () trivial
   unfold gdP at F T
   refine Ev.split (fun h1 => Ev.split (fun h2 => F (by omega)) (fun h2 => Ev.split (fun h3 => Ev.split (fun h4 => Ev.split (fun h5 => F (by omega)) (fun h5 => Ev.split (fun h6 => F (by omega)) (fun h6 => T (by omega)))) (fun h4 => T (by omega))) (fun h3 => T (by omega)))) (fun h1 => Ev.split (fun h2 => Ev.split (fun h3 => F (by omega)) (fun h3 => Ev.split (fun h4 => Ev.split (fun h5 => Ev.split (fun h6 => F (by omega)) (fun h6 => Ev.split (fun h7 => F (by omega)) (fun h7 => T (by omega)))) (fun h5 => T (by omega))) (fun h4 => T (by omega)))) (fun h2 => T (by omega)))) 0 () (by omega) trivial
 exact h
theorem rname_loop (s : List UInt8) (hs : s.length ≤ 140737488351232) : Ev (fun k => perigeeref8_IsName.c0 k s 0) (ag s 0 && decide (1 ≤ (s.length : Int) ∧ (s.length : Int) ≤ 40), ()) := by
 have wi : ∀ (k : Nat) (n a b : Int), perigeeref8_within.f k n a b = some (decide (a ≤ n ∧ n ≤ b), ()) := fun k n a b => by
  rw [perigeeref8_within.f_eq]
  by_cases h1 : a ≤ n <;> simp [h1]
 have h := Ev.rng (σ := Unit) (0 : UInt8) s (by omega) (g := fun k _ i => perigeeref8_IsName.c0 k s i) (fun k _ i => perigeeref8_IsName.c0_eq _ _ _)
  (fun _ _ => True) (fun xs i _ => (ag xs i && decide (1 ≤ (s.length : Int) ∧ (s.length : Int) ≤ 40), ())) (fun _ _ => by simp only [wi, Option.bind_some]; exact Ev.is rfl) (fun i x xs _ hi hx hd hget hw _ next => by
   simp only [Int.toNat_natCast, hget, hw, decide_eq_true_eq, Bool.not_eq_true', decide_eq_false_iff_not]
   have F : ¬ gdP x.toNat i → Ev (fun _ : Nat => some (false, ())) (ag (x :: xs) i && decide (1 ≤ (s.length : Int) ∧ (s.length : Int) ≤ 40), ()) := fun h => Ev.is (by rw [ag, decide_eq_false h]; rfl)
   have T : gdP x.toNat i → Ev (fun k => perigeeref8_IsName.c0 k s ((i : Int) + 1)) (ag (x :: xs) i && decide (1 ≤ (s.length : Int) ∧ (s.length : Int) ≤ 40), ()) := fun h => by
    rw [ag, decide_eq_true h]; exact next () trivial
   unfold gdP at F T
   refine Ev.split (fun h1 => Ev.split (fun h2 => Ev.split (fun h3 => F (by omega)) (fun h3 => Ev.split (fun h4 => Ev.split (fun h5 => Ev.split (fun h6 => Ev.split (fun h7 => F (by omega)) (fun h7 => T (by omega))) (fun h6 => F (by omega))) (fun h5 => T (by omega))) (fun h4 => T (by omega)))) (fun h2 => T (by omega))) (fun h1 => Ev.split (fun h2 => F (by omega)) (fun h2 => Ev.split (fun h3 => Ev.split (fun h4 => Ev.split (fun h5 => Ev.split (fun h6 => F (by omega)) (fun h6 => T (by omega))) (fun h5 => F (by omega))) (fun h4 => T (by omega))) (fun h3 => T (by omega))))) 0 () (by omega) trivial
 exact h
theorem rname_ev (s : List UInt8) (hs : s.length ≤ 140737488351232) : Ev (fun k => perigeeref8_IsName.f k s) (isNm s, ()) := by
 have r := rname_loop s hs
 have m := mname_loop s hs
 obtain ⟨nv, _⟩ := name_ev s hs
 have key : Ev (fun k => monitor_IsName.f k s) (ag s 0 && decide (1 ≤ (s.length : Int) ∧ (s.length : Int) ≤ 40), ()) := by
  refine Ev.eq (fun k => monitor_IsName.f_eq _ _) ?_
  simp only [decide_eq_true_eq]
  refine Ev.split (fun h => ?_) (fun h => Ev.split (fun h2 => ?_) (fun h2 => Ev.step (fun k => monitor_IsName.c0_eq _ _) ?_))
  ·subst h
   exact Ev.is (by simp)
  ·exact Ev.is (by rw [show decide (1 ≤ (s.length : Int) ∧ (s.length : Int) ≤ 40) = false from decide_eq_false (by omega), Bool.and_false])
  ·have : 0 < s.length := List.length_pos_iff.2 h
   rw [show decide (1 ≤ (s.length : Int) ∧ (s.length : Int) ≤ 40) = true from decide_eq_true (by omega), Bool.and_true]
   exact m
 have e := nv.unique key
 simp only [Prod.mk.injEq, and_true] at e
 rw [e]
 exact Ev.eq (fun k => perigeeref8_IsName.f_eq _ _) r
theorem rhas_ev (l : List S) (v : S) (hl : l.length ≤ 4611686018427387904) : Ev (fun k => perigeeref8_has.f k l v) (decide (v ∈ l), ()) := by
 have h := Ev.rng (σ := Unit) ([] : S) l hl (g := fun k _ i => perigeeref8_has.c0 k l v i) (fun k _ i => perigeeref8_has.c0_eq _ _ _ _)
  (fun _ _ => True) (fun xs i _ => (decide (v ∈ xs), ())) (fun _ _ => Ev.is (by simp)) (fun i x xs _ hi hx hd hget hw _ next => by
   simp only [Int.toNat_natCast, hget, hw, decide_eq_true_eq]
   refine Ev.split (fun h => Ev.is (by simp [h])) (fun h => ?_)
   rw [show decide (v ∈ x :: xs) = decide (v ∈ xs) from decide_eq_decide.2 (by simp [Ne.symm h])]
   exact next () trivial) 0 () (by omega) trivial
 exact Ev.eq (fun k => perigeeref8_has.f_eq _ _ _) h
theorem rrule_ev (w : DWatch) (v : S) (hl : w.2.2.2.length ≤ 4611686018427387904) : ∃ r : Int × Unit, Ev (fun k => perigeeref8_ruleOf.f k w v) r ∧ (r.1 < 0 ↔ ∀ x ∈ w.2.2.2, x.1 ≠ v) := by
 have := Ev.rngR (σ := Unit) (Ty.dflt YWatchRule) w.2.2.2 hl (g := fun k _ i => perigeeref8_ruleOf.c0 k v w.1 w.2.1 w.2.2.1 w.2.2.2 i) (fun k _ i => perigeeref8_ruleOf.c0_eq _ _ _ _ _ _ _)
  (fun i _ => ∀ x ∈ w.2.2.2.take i, x.1 ≠ v) (fun r => r.1 < 0 ↔ ∀ x ∈ w.2.2.2, x.1 ≠ v) (fun _ hs => ⟨(-1, ()), Ev.now _, by rw [List.take_length] at hs; exact ⟨fun _ => hs, fun _ => by simp⟩⟩) (fun i x _ hi hc hget hgd hw hs next => ?_) 0 () (by omega) (fun x hx => by simp at hx)
 ·obtain ⟨r, r1, r2⟩ := this
  exact ⟨r, Ev.eq (fun k => perigeeref8_ruleOf.f_eq _ _ _) r1, r2⟩
 ·simp only [Int.toNat_natCast, hgd, hw]
  by_cases h : x.1 = v
  ·exact ⟨((i : Int), ()), Ev.yes (decide_eq_true h) (Ev.now _), ⟨fun h => by have h : (i : Int) < 0 := h; omega, fun hh => absurd h (hh x hc)⟩⟩
  ·obtain ⟨r, r1, r2⟩ := next () (fun y hy => by
    rw [List.take_add_one, hget] at hy
    rcases List.mem_append.1 hy with hy | hy
    ·exact hs y hy
    ·simp at hy; subst hy; exact h)
   exact ⟨r, Ev.no (fun e => h (of_decide_eq_true e)) r1, r2⟩

def Chk (g h rest : Nat → Option (Int × Unit)) : Prop := ∃ c : Int, Ev g (c, ()) ∧ ((c ≠ 0 ∧ Ev h (c, ())) ∨ (c = 0 ∧ ∀ r, Ev rest r → Ev h r))
section
variable {g g' h h' rest : Nat → Option (Int × Unit)}
theorem Chk.l (k : ∀ r, Ev g' r → Ev g r) (c : Chk g' h rest) : Chk g h rest := let ⟨c, c1, c2⟩ := c; ⟨c, k _ c1, c2⟩
theorem Chk.r (k : ∀ r, Ev h' r → Ev h r) (c : Chk g h' rest) : Chk g h rest := let ⟨c, c1, c2⟩ := c; ⟨c, c1, c2.imp (fun ⟨a, b⟩ => ⟨a, k _ b⟩) (fun ⟨a, b⟩ => ⟨a, fun r e => k _ (b r e)⟩)⟩
theorem Chk.bad {c : Int} (h0 : c ≠ 0) (e1 : Ev g (c, ())) (e2 : Ev h (c, ())) : Chk g h rest := ⟨c, e1, .inl ⟨h0, e2⟩⟩
theorem Chk.ok (e1 : Ev g (0, ())) (e2 : ∀ r, Ev rest r → Ev h r) : Chk g h rest := ⟨0, e1, .inr ⟨rfl, e2⟩⟩
theorem Chk.loop {g h : Nat → Int → Option (Int × Unit)} (n : Nat) (step : ∀ i : Nat, i < n → Chk (fun k => g k ((i : Int) + 1)) (fun k => h k ((i : Int) + 1)) rest → Chk (fun k => g k i) (fun k => h k i) rest)
 (fin : Chk (fun k => g k n) (fun k => h k n) rest) : Chk (fun k => g k 0) (fun k => h k 0) rest := by
 have loop : ∀ (d i : Nat), i + d = n → Chk (fun k => g k i) (fun k => h k i) rest := by
  intro d
  induction d with
  | zero =>
   intro i hi
   obtain rfl : i = n := by omega
   exact fin
  | succ d ih =>
   intro i hi
   have := ih (i + 1) (by omega)
   rw [show ((i + 1 : Nat) : Int) = (i : Int) + 1 by omega] at this
   exact step i (by omega) this
 exact loop n 0 (by omega)
end
end Go.Proofs.Ytadhpgecilhgnaa.Pure

-- YtadhpgecilhgnaaQ8
set_option linter.unusedVariables false
set_option linter.unusedSimpArgs false
namespace Go.Proofs.Ytadhpgecilhgnaa.Pure
open Go Go.Proofs.Ytadhpgecilhgnaa.A

theorem wpred {i : Nat} (h : i ≠ 0) (hi : i < 4611686018427387904) : IntKind.wrap .i64 ((i : Int) - 1) = ((i - 1 : Nat) : Int) := by rw [w64 (by omega) (by omega)]; omega
theorem modes_chk (w : DWatch) (h0 : okT YWatch w) (ml : w.1.length ≤ 50) {g h rest : Nat → Option (Int × Unit)}
 (hg : Chk g h rest)
 (eg : ∀ k, monitor_checkModes.c0 (k + 1) w.1 w.2.1 w.2.2.1 w.2.2.2 w.1 (w.1.length : Int) (w.1.length : Int) = g k) (eh : ∀ k, perigeeref8_CheckWatch.c0 (k + 1) w.1 w.2.1 w.2.2.1 w.2.2.2 (w.1.length : Int) = h k) :
 Chk (fun k => monitor_checkModes.c0 k w.1 w.2.1 w.2.2.1 w.2.2.2 w.1 (w.1.length : Int) 0) (fun k => perigeeref8_CheckWatch.c0 k w.1 w.2.1 w.2.2.1 w.2.2.2 0) rest := by
 refine Chk.loop (g := fun k i => monitor_checkModes.c0 k w.1 w.2.1 w.2.2.1 w.2.2.2 w.1 (w.1.length : Int) i) (h := fun k i => perigeeref8_CheckWatch.c0 k w.1 w.2.1 w.2.2.1 w.2.2.2 i) w.1.length (fun i hi next => ?_) (Chk.l (fun r e => Ev.step eg e) (Chk.r (fun r e => Ev.step eh e) hg))
 have hx := h0.1.2.2 _ (getD_mem (z := []) hi)
 have hw : IntKind.wrap .i64 ((i : Int) + 1) = (i : Int) + 1 := w64 (by omega) (by omega)
 generalize hcc : w.1.getD i [] = x at hx
 obtain ⟨n1, _⟩ := name_ev _ hx
 have n2 := rname_ev _ hx
 by_cases a1 : isNm x = true
 case neg =>
  refine Chk.bad (c := 5) (by omega) (Ev.step (fun k => monitor_checkModes.c0_eq _ _ _ _ _ _ _ _) ?_) (Ev.step (fun k => perigeeref8_CheckWatch.c0_eq _ _ _ _ _ _) ?_)
  ·simp only [Int.toNat_natCast, hcc]
   exact Ev.yes (by simp; omega) (Ev.yes (by omega) (Ev.bind n1 (Ev.yes (by simpa using a1) (Ev.now _))))
  ·simp only [Int.toNat_natCast, hcc]
   exact Ev.yes (by simp; omega) (Ev.yes (by omega) (Ev.bind n2 (Ev.yes (by simpa using a1) (Ev.now _))))
 by_cases i0 : i = 0
 ·subst i0
  refine Chk.l (fun r e => Ev.step (fun k => monitor_checkModes.c0_eq _ _ _ _ _ _ _ _) ?_) (Chk.r (fun r e => Ev.step (fun k => perigeeref8_CheckWatch.c0_eq _ _ _ _ _ _) ?_) next)
  ·simp only [Int.toNat_natCast, hcc, hw]
   exact Ev.yes (by simp; omega) (Ev.yes (by omega) (Ev.bind n1 (Ev.no (by simp [a1]) (Ev.no (by simp) e))))
  ·simp only [Int.toNat_natCast, hcc, hw]
   exact Ev.yes (by simp; omega) (Ev.yes (by omega) (Ev.bind n2 (Ev.no (by simp [a1]) (Ev.no (by simp) e))))
 have hp := wpred i0 (by omega)
 by_cases l1 : lessS (w.1.getD (i - 1) []) x = true
 ·refine Chk.l (fun r e => Ev.step (fun k => monitor_checkModes.c0_eq _ _ _ _ _ _ _ _) ?_) (Chk.r (fun r e => Ev.step (fun k => perigeeref8_CheckWatch.c0_eq _ _ _ _ _ _) ?_) next)
  ·simp only [hw, hp, Int.toNat_natCast, hcc]
   exact Ev.yes (by simp; omega) (Ev.yes (by omega) (Ev.bind n1 (Ev.no (by simp [a1]) (Ev.yes (by simp; omega) (Ev.yes (by omega) (Ev.no (fun h => by rw [l1] at h; cases h) e))))))
  ·simp only [hw, hp, Int.toNat_natCast, hcc]
   exact Ev.yes (by simp; omega) (Ev.yes (by omega) (Ev.bind n2 (Ev.no (by simp [a1]) (Ev.yes (by simp; omega) (Ev.yes (by omega) (Ev.yes (by omega) (Ev.no (fun h => by rw [l1] at h; cases h) e)))))))
 ·refine Chk.bad (c := 8) (by omega) (Ev.step (fun k => monitor_checkModes.c0_eq _ _ _ _ _ _ _ _) ?_) (Ev.step (fun k => perigeeref8_CheckWatch.c0_eq _ _ _ _ _ _) ?_)
  ·simp only [hp, Int.toNat_natCast, hcc]
   exact Ev.yes (by simp; omega) (Ev.yes (by omega) (Ev.bind n1 (Ev.no (by simp [a1]) (Ev.yes (by simp; omega) (Ev.yes (by omega) (Ev.yes (by simpa using l1) (Ev.now _)))))))
  ·simp only [hp, Int.toNat_natCast, hcc]
   exact Ev.yes (by simp; omega) (Ev.yes (by omega) (Ev.bind n2 (Ev.no (by simp [a1]) (Ev.yes (by simp; omega) (Ev.yes (by omega) (Ev.yes (by omega) (Ev.yes (by simpa using l1) (Ev.now _))))))))
theorem changes_chk (w : DWatch) (h0 : okT YWatch w) (ml : w.1.length ≤ 50) (cl : w.2.1.length ≤ 500) {g h rest : Nat → Option (Int × Unit)}
 (hg : Chk g h rest)
 (eg : ∀ k, monitor_checkModes.c1 (k + 1) w.1 w.2.1 w.2.2.1 w.2.2.2 w.2.1 (w.2.1.length : Int) (w.2.1.length : Int) = g k) (eh : ∀ k, perigeeref8_CheckWatch.c1 (k + 1) w.1 w.2.1 w.2.2.1 w.2.2.2 (w.2.1.length : Int) = h k) :
 Chk (fun k => monitor_checkModes.c1 k w.1 w.2.1 w.2.2.1 w.2.2.2 w.2.1 (w.2.1.length : Int) 0) (fun k => perigeeref8_CheckWatch.c1 k w.1 w.2.1 w.2.2.1 w.2.2.2 0) rest := by
 refine Chk.loop (g := fun k i => monitor_checkModes.c1 k w.1 w.2.1 w.2.2.1 w.2.2.2 w.2.1 (w.2.1.length : Int) i) (h := fun k i => perigeeref8_CheckWatch.c1 k w.1 w.2.1 w.2.2.1 w.2.2.2 i) w.2.1.length (fun i hi next => ?_) (Chk.l (fun r e => Ev.step eg e) (Chk.r (fun r e => Ev.step eh e) hg))
 have hc := h0.2.1.2.2 _ (getD_mem (z := Ty.dflt YModeChange) hi)
 have hw : IntKind.wrap .i64 ((i : Int) + 1) = (i : Int) + 1 := w64 (by omega) (by omega)
 -- the reference's one change
 have rc : ∀ {c : Int}, Ev (fun k => perigeeref8_checkChange.f k w (i : Int)) (c, ()) → c ≠ 0 → Ev (fun k => perigeeref8_CheckWatch.c1 k w.1 w.2.1 w.2.2.1 w.2.2.2 (i : Int)) (c, ()) := fun {c} e hc => by
  refine Ev.step (fun k => perigeeref8_CheckWatch.c1_eq _ _ _ _ _ _) ?_
  exact Ev.yes (by simp; omega) (Ev.bind e (Ev.yes (by simpa using hc) (Ev.now _)))
 have rok : Ev (fun k => perigeeref8_checkChange.f k w (i : Int)) (0, ()) → ∀ r, Ev (fun k => perigeeref8_CheckWatch.c1 k w.1 w.2.1 w.2.2.1 w.2.2.2 ((i : Int) + 1)) r → Ev (fun k => perigeeref8_CheckWatch.c1 k w.1 w.2.1 w.2.2.1 w.2.2.2 (i : Int)) r := fun e r hr => by
  refine Ev.step (fun k => perigeeref8_CheckWatch.c1_eq _ _ _ _ _ _) ?_
  rw [hw]
  exact Ev.yes (by simp; omega) (Ev.bind e (Ev.no (by simp) hr))
 generalize hcc : w.2.1.getD i (Ty.dflt YModeChange) = c at hc
 obtain ⟨n1, _⟩ := name_ev c.2.1 hc.2.1
 have n2 := rname_ev c.2.1 hc.2.1
 have c1 := contains_ev w.1 c.1 (by omega)
 have c2 := contains_ev w.1 c.2.2 (by omega)
 have d1 := rhas_ev w.1 c.1 (by omega)
 have d2 := rhas_ev w.1 c.2.2 (by omega)
 by_cases a1 : c.1 ∈ w.1
 case neg =>
  refine Chk.bad (c := 9) (by omega) (Ev.step (fun k => monitor_checkModes.c1_eq _ _ _ _ _ _ _ _) ?_) (rc (Ev.eq (fun k => perigeeref8_checkChange.f_eq _ _ _) ?_) (by omega))
  ·simp only [Int.toNat_natCast, hcc]
   exact Ev.yes (by simp; omega) (Ev.yes (by omega) (Ev.bind c1 (Ev.yes (by simp [a1]) (Ev.now _))))
  ·simp only [Int.toNat_natCast, hcc]
   exact Ev.yes (by omega) (Ev.bind d1 (Ev.yes (by simp [a1]) (Ev.now _)))
 by_cases a2 : c.2.2 ∈ w.1
 case neg =>
  refine Chk.bad (c := 9) (by omega) (Ev.step (fun k => monitor_checkModes.c1_eq _ _ _ _ _ _ _ _) ?_) (rc (Ev.eq (fun k => perigeeref8_checkChange.f_eq _ _ _) ?_) (by omega))
  ·simp only [Int.toNat_natCast, hcc]
   exact Ev.yes (by simp; omega) (Ev.yes (by omega) (Ev.bind c1 (Ev.no (by simp [a1]) (Ev.bind c2 (Ev.yes (by simp [a2]) (Ev.now _))))))
  ·simp only [Int.toNat_natCast, hcc]
   exact Ev.yes (by omega) (Ev.bind d1 (Ev.no (by simp [a1]) (Ev.bind d2 (Ev.yes (by simp [a2]) (Ev.now _)))))
 have gl : ∀ r, Ev (fun k => monitor_checkModes.c2 k w.1 w.2.1 w.2.2.1 w.2.2.2 (i : Int) c.1 c.2.1 c.2.2 w.2.1 (w.2.1.length : Int) (i : Int)) r → Ev (fun k => monitor_checkModes.c1 k w.1 w.2.1 w.2.2.1 w.2.2.2 w.2.1 (w.2.1.length : Int) (i : Int)) r := fun r e => by
  refine Ev.step (fun k => monitor_checkModes.c1_eq _ _ _ _ _ _ _ _) ?_
  simp only [Int.toNat_natCast, hcc]
  exact Ev.yes (by simp; omega) (Ev.yes (by omega) (Ev.bind c1 (Ev.no (by simp [a1]) (Ev.bind c2 (Ev.no (by simp [a2]) e)))))
 have gr : ∀ r, Ev (fun k => perigeeref8_checkChange.c0 k (i : Int) w.1 w.2.1 w.2.2.1 w.2.2.2 c.1 c.2.1 c.2.2) r → Ev (fun k => perigeeref8_checkChange.f k w (i : Int)) r := fun r e => by
  refine Ev.eq (fun k => perigeeref8_checkChange.f_eq _ _ _) ?_
  simp only [Int.toNat_natCast, hcc]
  exact Ev.yes (by omega) (Ev.bind d1 (Ev.no (by simp [a1]) (Ev.bind d2 (Ev.no (by simp [a2]) e))))
 by_cases a3 : isNm c.2.1 = true
 case neg =>
  refine Chk.bad (c := 5) (by omega) (gl _ (Ev.step (fun k => monitor_checkModes.c2_eq _ _ _ _ _ _ _ _ _ _ _ _) ?_)) (rc (gr _ (Ev.step (fun k => perigeeref8_checkChange.c0_eq _ _ _ _ _ _ _ _ _) ?_)) (by omega))
  ·exact Ev.bind n1 (Ev.yes (by simpa using a3) (Ev.now _))
  ·exact Ev.bind n2 (Ev.yes (by simpa using a3) (Ev.now _))
 by_cases i0 : i = 0
 ·subst i0
  refine Chk.l (fun r e => gl _ (Ev.step (fun k => monitor_checkModes.c2_eq _ _ _ _ _ _ _ _ _ _ _ _) ?_)) (Chk.r (rok (gr _ (Ev.step (fun k => perigeeref8_checkChange.c0_eq _ _ _ _ _ _ _ _ _) ?_))) next)
  ·rw [hw]
   exact Ev.bind n1 (Ev.no (by simp [a3]) (Ev.no (by simp) e))
  ·exact Ev.bind n2 (Ev.no (by simp [a3]) (Ev.no (by simp) (Ev.now _)))
 have hp := wpred i0 (by omega)
 have gl2 : ∀ r, Ev (fun k => if (lessS c.1 (w.2.1.getD (i - 1) (Ty.dflt YModeChange)).1) = true then some (8, ()) else if (decide (c.1 = (w.2.1.getD (i - 1) (Ty.dflt YModeChange)).1)) = true then (if (!(lessS (w.2.1.getD (i - 1) (Ty.dflt YModeChange)).2.1 c.2.1)) = true then some (8, ()) else monitor_checkModes.c1 k w.1 w.2.1 w.2.2.1 w.2.2.2 w.2.1 (w.2.1.length : Int) ((i : Int) + 1)) else monitor_checkModes.c1 k w.1 w.2.1 w.2.2.1 w.2.2.2 w.2.1 (w.2.1.length : Int) ((i : Int) + 1)) r → Ev (fun k => monitor_checkModes.c1 k w.1 w.2.1 w.2.2.1 w.2.2.2 w.2.1 (w.2.1.length : Int) (i : Int)) r := fun r e => by
  refine gl _ (Ev.step (fun k => monitor_checkModes.c2_eq _ _ _ _ _ _ _ _ _ _ _ _) ?_)
  refine Ev.bind n1 (Ev.no (by simp [a3]) (Ev.yes (by simp; omega) ?_))
  simp only [hp, hw, Int.toNat_natCast]
  exact Ev.yes (by omega) e
 have gr2 : ∀ r, Ev (fun k => if (lessS c.1 (w.2.1.getD (i - 1) (Ty.dflt YModeChange)).1) = true then some (8, ()) else if (decide (c.1 = (w.2.1.getD (i - 1) (Ty.dflt YModeChange)).1)) = true then (if (!(lessS (w.2.1.getD (i - 1) (Ty.dflt YModeChange)).2.1 c.2.1)) = true then some (8, ()) else some (0, ())) else some (0, ())) r → Ev (fun k => perigeeref8_checkChange.f k w (i : Int)) r := fun r e => by
  refine gr _ (Ev.step (fun k => perigeeref8_checkChange.c0_eq _ _ _ _ _ _ _ _ _) ?_)
  refine Ev.bind n2 (Ev.no (by simp [a3]) (Ev.yes (by simp; omega) ?_))
  simp only [hp, hw, Int.toNat_natCast]
  exact Ev.yes (by omega) e
 by_cases l1 : lessS c.1 (w.2.1.getD (i - 1) (Ty.dflt YModeChange)).1 = true
 ·exact Chk.bad (c := 8) (by omega) (gl2 _ (Ev.yes l1 (Ev.now _))) (rc (gr2 _ (Ev.yes l1 (Ev.now _))) (by omega))
 by_cases l2 : c.1 = (w.2.1.getD (i - 1) (Ty.dflt YModeChange)).1
 ·by_cases l3 : lessS (w.2.1.getD (i - 1) (Ty.dflt YModeChange)).2.1 c.2.1 = true
  ·exact Chk.l (fun r e => gl2 _ (Ev.no l1 (Ev.yes (decide_eq_true l2) (Ev.no (fun h => by rw [l3] at h; cases h) e)))) (Chk.r (rok (gr2 _ (Ev.no l1 (Ev.yes (decide_eq_true l2) (Ev.no (fun h => by rw [l3] at h; cases h) (Ev.now _)))))) next)
  ·exact Chk.bad (c := 8) (by omega) (gl2 _ (Ev.no l1 (Ev.yes (decide_eq_true l2) (Ev.yes (by simpa using l3) (Ev.now _))))) (rc (gr2 _ (Ev.no l1 (Ev.yes (decide_eq_true l2) (Ev.yes (by simpa using l3) (Ev.now _))))) (by omega))
 ·exact Chk.l (fun r e => gl2 _ (Ev.no l1 (Ev.no (fun h => l2 (of_decide_eq_true h)) e))) (Chk.r (rok (gr2 _ (Ev.no l1 (Ev.no (fun h => l2 (of_decide_eq_true h)) (Ev.now _))))) next)
end Go.Proofs.Ytadhpgecilhgnaa.Pure

-- YtadhpgecilhgnaaQ9
set_option linter.unusedVariables false
set_option linter.unusedSimpArgs false
namespace Go.Proofs.Ytadhpgecilhgnaa.Pure
open Go Go.Proofs.Ytadhpgecilhgnaa.A

theorem Chk.loopS {σ : Type} {rest : Nat → Option (Int × Unit)} {g : Nat → σ → Int → Option (Int × Unit)} {h : Nat → Int → Option (Int × Unit)} (n : Nat) (Inv : Nat → σ → Prop)
 (step : ∀ (i : Nat) (s : σ), i < n → Inv i s → (∀ s', Inv (i + 1) s' → Chk (fun k => g k s' ((i : Int) + 1)) (fun k => h k ((i : Int) + 1)) rest) → Chk (fun k => g k s i) (fun k => h k i) rest)
 (fin : ∀ s, Inv n s → Chk (fun k => g k s n) (fun k => h k n) rest) (s : σ) (h0 : Inv 0 s) : Chk (fun k => g k s 0) (fun k => h k 0) rest := by
 have loop : ∀ (d i : Nat) (s : σ), i + d = n → Inv i s → Chk (fun k => g k s i) (fun k => h k i) rest := by
  intro d
  induction d with
  | zero =>
   intro i s hi hs
   obtain rfl : i = n := by omega
   exact fin s hs
  | succ d ih =>
   intro i s hi hs
   refine step i s (by omega) hs fun s' hs' => ?_
   have := ih (i + 1) s' (by omega) hs'
   rw [show ((i + 1 : Nat) : Int) = (i : Int) + 1 by omega] at this
   exact this
 exact loop n 0 s (by omega) h0
theorem rwithin (k : Nat) (n a b : Int) : perigeeref8_within.f k n a b = some (decide (a ≤ n ∧ n ≤ b), ()) := by
 rw [perigeeref8_within.f_eq]
 by_cases h1 : a ≤ n <;> simp [h1]
noncomputable def ordR (w : DWatch) (i : Nat) : Int := if 0 < i ∧ lessS (w.2.2.2.getD (i - 1) (Ty.dflt YWatchRule)).1 (w.2.2.2.getD i (Ty.dflt YWatchRule)).1 = false then 8 else 0
theorem rule_chk (w : DWatch) (ml : w.1.length ≤ 50) (rl : w.2.2.2.length ≤ 200) {i : Nat} (hi : i < w.2.2.2.length) (hx : okT YWatchRule (w.2.2.2.getD i (Ty.dflt YWatchRule))) :
 Chk (fun k => monitor_checkRule.f k w (w.2.2.2.getD i (Ty.dflt YWatchRule))) (fun k => perigeeref8_checkRule.f k w (i : Int)) (fun _ => some (ordR w i, ())) := by
 unfold ordR
 generalize hxx : w.2.2.2.getD i (Ty.dflt YWatchRule) = x at hx
 have gr : ∀ r, Ev (fun k => (perigeeref8_IsName.f k x.1).bind fun r1 => if (!r1.1) = true then some (5, ()) else (perigeeref8_IsName.f k x.2.1).bind fun r2 => if (!r2.1) = true then some (5, ()) else perigeeref8_checkRule.c0 k (i : Int) w.1 w.2.1 w.2.2.1 w.2.2.2 x.1 x.2.1 x.2.2.1 x.2.2.2.1 x.2.2.2.2) r → Ev (fun k => perigeeref8_checkRule.f k w (i : Int)) r := fun r e => by
  refine Ev.eq (fun k => perigeeref8_checkRule.f_eq _ _ _) ?_
  simp only [Int.toNat_natCast, hxx]
  exact Ev.yes (by omega) e
 refine Chk.l (fun r e => Ev.eq (fun k => monitor_checkRule.f_eq _ _ _) e) (Chk.r gr ?_)
 obtain ⟨n1, _⟩ := name_ev x.1 hx.1
 obtain ⟨n2, _⟩ := name_ev x.2.1 hx.2.1
 have m1 := rname_ev x.1 hx.1
 have m2 := rname_ev x.2.1 hx.2.1
 by_cases a1 : isNm x.1 = true
 case neg => exact Chk.bad (c := 5) (by omega) (Ev.bind n1 (Ev.yes (by simpa using a1) (Ev.now _))) (Ev.bind m1 (Ev.yes (by simpa using a1) (Ev.now _)))
 by_cases a2 : isNm x.2.1 = true
 case neg => exact Chk.bad (c := 5) (by omega) (Ev.bind n1 (Ev.no (by simp [a1]) (Ev.bind n2 (Ev.yes (by simpa using a2) (Ev.now _))))) (Ev.bind m1 (Ev.no (by simp [a1]) (Ev.bind m2 (Ev.yes (by simpa using a2) (Ev.now _)))))
 refine Chk.l (fun r e => Ev.bind n1 (Ev.no (by simp [a1]) (Ev.bind n2 (Ev.no (by simp [a2]) e)))) (Chk.r (fun r e => Ev.bind m1 (Ev.no (by simp [a1]) (Ev.bind m2 (Ev.no (by simp [a2]) e)))) ?_)
 suffices tail : Chk (fun k => monitor_checkRule.c1 k x.1 x.2.1 x.2.2.1 x.2.2.2.1 x.2.2.2.2) (fun k => perigeeref8_checkRule.c1 k (i : Int) w.1 w.2.1 w.2.2.1 w.2.2.2 x.1 x.2.1 x.2.2.1 x.2.2.2.1 x.2.2.2.2) (fun _ => some (if 0 < i ∧ lessS (w.2.2.2.getD (i - 1) (Ty.dflt YWatchRule)).1 x.1 = false then 8 else 0, ())) by
  refine Chk.l (fun r e => Ev.step (fun k => monitor_checkRule.c0_eq _ _ _ _ _ _ _ _ _ _) e) (Chk.r (fun r e => Ev.step (fun k => perigeeref8_checkRule.c0_eq _ _ _ _ _ _ _ _ _ _ _) e) ?_)
  by_cases a3 : x.2.2.1 = []
  ·exact Chk.l (fun r e => Ev.no (by simp [a3]) e) (Chk.r (fun r e => Ev.no (by simp [a3]) e) tail)
  by_cases a4 : x.2.2.1 ∈ w.1
  ·exact Chk.l (fun r e => Ev.yes (by simpa using a3) (Ev.bind (contains_ev _ _ (by omega)) (Ev.no (by simp [a4]) e))) (Chk.r (fun r e => Ev.yes (by simpa using a3) (Ev.bind (rhas_ev _ _ (by omega)) (Ev.no (by simp [a4]) e))) tail)
  ·exact Chk.bad (c := 9) (by omega) (Ev.yes (by simpa using a3) (Ev.bind (contains_ev _ _ (by omega)) (Ev.yes (by simp [a4]) (Ev.now _)))) (Ev.yes (by simpa using a3) (Ev.bind (rhas_ev _ _ (by omega)) (Ev.yes (by simp [a4]) (Ev.now _))))
 refine Chk.l (fun r e => Ev.step (fun k => monitor_checkRule.c1_eq _ _ _ _ _ _) e) (Chk.r (fun r e => Ev.step (fun k => perigeeref8_checkRule.c1_eq _ _ _ _ _ _ _ _ _ _ _) e) ?_)
 by_cases al : 10 < x.2.2.2.2.length
 ·exact Chk.bad (c := 2) (by omega) (Ev.yes (decide_eq_true (by omega)) (Ev.now _)) (Ev.yes (decide_eq_true (by omega)) (Ev.now _))
 refine Chk.l (fun r e => Ev.no (fun h => al (by have := of_decide_eq_true h; omega)) e) (Chk.r (fun r e => Ev.no (fun h => al (by have := of_decide_eq_true h; omega)) e) ?_)
 refine Chk.loop (g := fun k j => monitor_checkRule.c2 k x.2.2.2.2 (x.2.2.2.2.length : Int) j) (h := fun k j => perigeeref8_checkRule.c2 k (i : Int) w.1 w.2.1 w.2.2.1 w.2.2.2 x.1 x.2.1 x.2.2.1 x.2.2.2.1 x.2.2.2.2 j) x.2.2.2.2.length (fun j hj next => ?_) ?_
 ·have hy := hx.2.2.2.2.2.2 _ (getD_mem (z := Ty.dflt YAct) hj)
  have hw : IntKind.wrap .i64 ((j : Int) + 1) = (j : Int) + 1 := w64 (by omega) (by omega)
  generalize hyy : x.2.2.2.2.getD j (Ty.dflt YAct) = y at hy
  have gl : ∀ r, Ev (fun k => if (!decide (1 ≤ y.1 ∧ y.1 ≤ 4)) = true then some (4, ()) else (monitor_IsName.f k y.2.1).bind fun r5 => if (!r5.1) = true then some (5, ()) else if y.2.2 = true then (if (!(decide (y.1 = 4))) = true then some (3, ()) else monitor_checkRule.c2 k x.2.2.2.2 (x.2.2.2.2.length : Int) ((j : Int) + 1)) else monitor_checkRule.c2 k x.2.2.2.2 (x.2.2.2.2.length : Int) ((j : Int) + 1)) r → Ev (fun k => monitor_checkRule.c2 k x.2.2.2.2 (x.2.2.2.2.length : Int) (j : Int)) r := fun r e => by
   refine Ev.step (fun k => monitor_checkRule.c2_eq _ _ _ _) ?_
   simp only [Int.toNat_natCast, hyy, hw, in_ev, Option.bind_some]
   exact Ev.yes (by simp; omega) (Ev.yes (by omega) e)
  have gr : ∀ r, Ev (fun k => if (!decide (1 ≤ y.1 ∧ y.1 ≤ 4)) = true then some (4, ()) else (perigeeref8_IsName.f k y.2.1).bind fun r5 => if (!r5.1) = true then some (5, ()) else if y.2.2 = true then (if (!(decide (y.1 = 4))) = true then some (3, ()) else perigeeref8_checkRule.c2 k (i : Int) w.1 w.2.1 w.2.2.1 w.2.2.2 x.1 x.2.1 x.2.2.1 x.2.2.2.1 x.2.2.2.2 ((j : Int) + 1)) else perigeeref8_checkRule.c2 k (i : Int) w.1 w.2.1 w.2.2.1 w.2.2.2 x.1 x.2.1 x.2.2.1 x.2.2.2.1 x.2.2.2.2 ((j : Int) + 1)) r → Ev (fun k => perigeeref8_checkRule.c2 k (i : Int) w.1 w.2.1 w.2.2.1 w.2.2.2 x.1 x.2.1 x.2.2.1 x.2.2.2.1 x.2.2.2.2 (j : Int)) r := fun r e => by
   refine Ev.step (fun k => perigeeref8_checkRule.c2_eq _ _ _ _ _ _ _ _ _ _ _ _) ?_
   simp only [Int.toNat_natCast, hyy, hw, rwithin, Option.bind_some]
   exact Ev.yes (by simp; omega) (Ev.yes (by omega) e)
  refine Chk.l gl (Chk.r gr ?_)
  obtain ⟨n3, _⟩ := name_ev y.2.1 hy.2.1
  have m3 := rname_ev y.2.1 hy.2.1
  by_cases k1 : (1 ≤ y.1 ∧ y.1 ≤ 4)
  case neg => exact Chk.bad (c := 4) (by omega) (Ev.yes (by rw [decide_eq_false k1]; rfl) (Ev.now _)) (Ev.yes (by rw [decide_eq_false k1]; rfl) (Ev.now _))
  refine Chk.l (fun r e => Ev.no (by rw [decide_eq_true k1]; simp) e) (Chk.r (fun r e => Ev.no (by rw [decide_eq_true k1]; simp) e) ?_)
  by_cases k2 : isNm y.2.1 = true
  case neg => exact Chk.bad (c := 5) (by omega) (Ev.bind n3 (Ev.yes (by simpa using k2) (Ev.now _))) (Ev.bind m3 (Ev.yes (by simpa using k2) (Ev.now _)))
  refine Chk.l (fun r e => Ev.bind n3 (Ev.no (by simp [k2]) e)) (Chk.r (fun r e => Ev.bind m3 (Ev.no (by simp [k2]) e)) ?_)
  by_cases k3 : y.2.2 = true
  case neg => exact Chk.l (fun r e => Ev.no k3 e) (Chk.r (fun r e => Ev.no k3 e) next)
  refine Chk.l (fun r e => Ev.yes k3 e) (Chk.r (fun r e => Ev.yes k3 e) ?_)
  by_cases k4 : y.1 = 4
  ·exact Chk.l (fun r e => Ev.no (by simp [k4]) e) (Chk.r (fun r e => Ev.no (by simp [k4]) e) next)
  ·exact Chk.bad (c := 3) (by omega) (Ev.yes (by simpa using k4) (Ev.now _)) (Ev.yes (by simpa using k4) (Ev.now _))
 ·refine Chk.ok (Ev.step (fun k => monitor_checkRule.c2_eq _ _ _ _) (Ev.no (by simp) (Ev.now _))) fun r e => Ev.step (fun k => perigeeref8_checkRule.c2_eq _ _ _ _ _ _ _ _ _ _ _ _) (Ev.no (by simp) ?_)
  by_cases i0 : i = 0
  ·subst i0
   exact Ev.no (by simp) (by simpa using e)
  ·simp only [wpred i0 (by omega), Int.toNat_natCast]
   by_cases l1 : lessS (w.2.2.2.getD (i - 1) (Ty.dflt YWatchRule)).1 x.1 = true
   ·refine Ev.yes (by simp; omega) (Ev.yes (by omega) (Ev.no (fun h => by rw [l1] at h; cases h) ?_))
    rw [if_neg (fun h => by rw [l1] at h; exact absurd h.2 (by simp))] at e
    exact e
   ·have l1 : lessS (w.2.2.2.getD (i - 1) (Ty.dflt YWatchRule)).1 x.1 = false := by rw [← Bool.not_eq_true]; exact l1
    refine Ev.yes (by simp; omega) (Ev.yes (by omega) (Ev.yes (by rw [l1]; rfl) ?_))
    rw [if_pos ⟨by omega, l1⟩] at e
    exact e
theorem acts_chk (w : DWatch) (rl : w.2.2.2.length ≤ 200) (h0 : okT YWatch w) (m : List (S × Bool)) (hm : ∀ v : S, (lk m v).getD false = true ↔ ∃ x ∈ w.2.2.2, x.1 = v) :
 Chk (fun k => monitor_CheckWatch.c1 k m w.2.2.2 (w.2.2.2.length : Int) 0) (fun k => perigeeref8_CheckWatch.c3 k w.1 w.2.1 w.2.2.1 w.2.2.2 0) (fun _ => some (0, ())) := by
 refine Chk.loop (g := fun k i => monitor_CheckWatch.c1 k m w.2.2.2 (w.2.2.2.length : Int) i) (h := fun k i => perigeeref8_CheckWatch.c3 k w.1 w.2.1 w.2.2.1 w.2.2.2 i) w.2.2.2.length (fun i hi next => ?_) ?_
 ·have hx := h0.2.2.2.2.2 _ (getD_mem (z := Ty.dflt YWatchRule) hi)
  have hw : IntKind.wrap .i64 ((i : Int) + 1) = (i : Int) + 1 := w64 (by omega) (by omega)
  generalize hxx : w.2.2.2.getD i (Ty.dflt YWatchRule) = x at hx
  have al := hx.2.2.2.2.1
  have gl : ∀ r, Ev (fun k => monitor_CheckWatch.c2 k m w.2.2.2 (w.2.2.2.length : Int) (i : Int) x.2.2.2.2 (x.2.2.2.2.length : Int) 0) r → Ev (fun k => monitor_CheckWatch.c1 k m w.2.2.2 (w.2.2.2.length : Int) (i : Int)) r := fun r e => by
   refine Ev.step (fun k => monitor_CheckWatch.c1_eq _ _ _ _ _) ?_
   simp only [Int.toNat_natCast, hxx]
   exact Ev.yes (by simp; omega) (Ev.yes (by omega) e)
  have gr : ∀ r, Ev (fun k => perigeeref8_CheckWatch.c4 k w.1 w.2.1 w.2.2.1 w.2.2.2 (i : Int) 0) r → Ev (fun k => perigeeref8_CheckWatch.c3 k w.1 w.2.1 w.2.2.1 w.2.2.2 (i : Int)) r := fun r e => by
   refine Ev.step (fun k => perigeeref8_CheckWatch.c3_eq _ _ _ _ _ _) ?_
   exact Ev.yes (by simp; omega) e
  refine Chk.l gl (Chk.r gr ?_)
  refine Chk.loop (g := fun k j => monitor_CheckWatch.c2 k m w.2.2.2 (w.2.2.2.length : Int) (i : Int) x.2.2.2.2 (x.2.2.2.2.length : Int) j) (h := fun k j => perigeeref8_CheckWatch.c4 k w.1 w.2.1 w.2.2.1 w.2.2.2 (i : Int) j) x.2.2.2.2.length (fun j hj nexty => ?_) ?_
  ·have hwj : IntKind.wrap .i64 ((j : Int) + 1) = (j : Int) + 1 := w64 (by omega) (by omega)
   obtain ⟨y, hyy⟩ : ∃ y, x.2.2.2.2.getD j (Ty.dflt YAct) = y := ⟨_, rfl⟩
   have gl : ∀ r, Ev (fun k => if (decide (y.1 = 2)) = true then (if (!(mapGet .str .bool y.2.1 m false)) = true then some (9, ()) else monitor_CheckWatch.c2 k m w.2.2.2 (w.2.2.2.length : Int) (i : Int) x.2.2.2.2 (x.2.2.2.2.length : Int) ((j : Int) + 1)) else if (decide (y.1 = 3)) = true then (if (!(mapGet .str .bool y.2.1 m false)) = true then some (9, ()) else monitor_CheckWatch.c2 k m w.2.2.2 (w.2.2.2.length : Int) (i : Int) x.2.2.2.2 (x.2.2.2.2.length : Int) ((j : Int) + 1)) else monitor_CheckWatch.c2 k m w.2.2.2 (w.2.2.2.length : Int) (i : Int) x.2.2.2.2 (x.2.2.2.2.length : Int) ((j : Int) + 1)) r → Ev (fun k => monitor_CheckWatch.c2 k m w.2.2.2 (w.2.2.2.length : Int) (i : Int) x.2.2.2.2 (x.2.2.2.2.length : Int) (j : Int)) r := fun r e => by
    refine Ev.step (fun k => monitor_CheckWatch.c2_eq _ _ _ _ _ _ _ _) ?_
    simp only [Int.toNat_natCast, hyy, hwj]
    exact Ev.yes (by simp; omega) (Ev.yes (by omega) e)
   obtain ⟨q, q1, q2⟩ := rrule_ev w y.2.1 (by omega)
   have gr : ∀ r, Ev (fun k => if (decide (y.1 = 2)) = true then (if (decide (q.1 < 0)) = true then some (9, ()) else perigeeref8_CheckWatch.c4 k w.1 w.2.1 w.2.2.1 w.2.2.2 (i : Int) ((j : Int) + 1)) else if (decide (y.1 = 3)) = true then (if (decide (q.1 < 0)) = true then some (9, ()) else perigeeref8_CheckWatch.c4 k w.1 w.2.1 w.2.2.1 w.2.2.2 (i : Int) ((j : Int) + 1)) else perigeeref8_CheckWatch.c4 k w.1 w.2.1 w.2.2.1 w.2.2.2 (i : Int) ((j : Int) + 1)) r → Ev (fun k => perigeeref8_CheckWatch.c4 k w.1 w.2.1 w.2.2.1 w.2.2.2 (i : Int) (j : Int)) r := fun r e => by
    refine Ev.step (fun k => perigeeref8_CheckWatch.c4_eq _ _ _ _ _ _ _) ?_
    simp only [Int.toNat_natCast, hxx, hyy, hwj]
    refine Ev.yes (by omega) (Ev.yes (by simp; omega) (Ev.yes (by omega) (Ev.yes (by omega) ?_)))
    by_cases k1 : y.1 = 2
    ·simp only [k1] at e ⊢
     exact Ev.yes (by simp) (Ev.bind q1 (by simpa using e))
    ·have d1 : decide (y.1 = 2) = false := decide_eq_false k1
     simp only [d1] at e ⊢
     refine Ev.no (by simp) ?_
     have e : Ev (fun k => if (decide (y.1 = 3)) = true then (if (decide (q.1 < 0)) = true then some (9, ()) else perigeeref8_CheckWatch.c4 k w.1 w.2.1 w.2.2.1 w.2.2.2 (i : Int) ((j : Int) + 1)) else perigeeref8_CheckWatch.c4 k w.1 w.2.1 w.2.2.1 w.2.2.2 (i : Int) ((j : Int) + 1)) r := by simpa using e
     by_cases k2 : y.1 = 3
     ·have d2 : decide (y.1 = 3) = true := decide_eq_true k2
      simp only [d2, if_true] at e ⊢
      exact Ev.bind q1 e
     ·have d2 : decide (y.1 = 3) = false := decide_eq_false k2
      simp only [d2] at e ⊢
      simpa using e
   have hq : (mapGet .str .bool y.2.1 m false = true) ↔ ¬ q.1 < 0 := by
    rw [get_lk (σ := .bool), hm, q2]
    constructor
    ·rintro ⟨x, hx, e⟩ h; exact h x hx e
    ·intro h
     apply Classical.byContradiction
     intro hn
     exact h fun x hx e => hn ⟨x, hx, e⟩
   refine Chk.l gl (Chk.r gr ?_)
   have tail : Chk (fun k => if (!(mapGet .str .bool y.2.1 m false)) = true then some (9, ()) else monitor_CheckWatch.c2 k m w.2.2.2 (w.2.2.2.length : Int) (i : Int) x.2.2.2.2 (x.2.2.2.2.length : Int) ((j : Int) + 1)) (fun k => if (decide (q.1 < 0)) = true then some (9, ()) else perigeeref8_CheckWatch.c4 k w.1 w.2.1 w.2.2.1 w.2.2.2 (i : Int) ((j : Int) + 1)) (fun _ => some (0, ())) := by
    by_cases h : q.1 < 0
    ·have : mapGet .str .bool y.2.1 m false = false := by rw [← Bool.not_eq_true, hq]; exact fun e => e h
     exact Chk.bad (c := 9) (by omega) (Ev.yes (by rw [this]; rfl) (Ev.now _)) (Ev.yes (decide_eq_true h) (Ev.now _))
    ·have : mapGet .str .bool y.2.1 m false = true := hq.2 h
     exact Chk.l (fun r e => Ev.no (by rw [this]; simp) e) (Chk.r (fun r e => Ev.no (fun e => h (of_decide_eq_true e)) e) nexty)
   by_cases k1 : y.1 = 2
   ·exact Chk.l (fun r e => Ev.yes (decide_eq_true k1) e) (Chk.r (fun r e => Ev.yes (decide_eq_true k1) e) tail)
   by_cases k2 : y.1 = 3
   ·exact Chk.l (fun r e => Ev.no (fun e => k1 (of_decide_eq_true e)) (Ev.yes (decide_eq_true k2) e)) (Chk.r (fun r e => Ev.no (fun e => k1 (of_decide_eq_true e)) (Ev.yes (decide_eq_true k2) e)) tail)
   ·exact Chk.l (fun r e => Ev.no (fun e => k1 (of_decide_eq_true e)) (Ev.no (fun e => k2 (of_decide_eq_true e)) e)) (Chk.r (fun r e => Ev.no (fun e => k1 (of_decide_eq_true e)) (Ev.no (fun e => k2 (of_decide_eq_true e)) e)) nexty)
  ·refine Chk.l (fun r e => Ev.step (fun k => monitor_CheckWatch.c2_eq _ _ _ _ _ _ _ _) (Ev.no (by simp) ?_)) (Chk.r (fun r e => Ev.step (fun k => perigeeref8_CheckWatch.c4_eq _ _ _ _ _ _ _) ?_) next)
   ·rw [hw]; exact e
   ·simp only [Int.toNat_natCast, hxx, hw]
    exact Ev.yes (by omega) (Ev.no (by simp) e)
 ·exact Chk.ok (Ev.step (fun k => monitor_CheckWatch.c1_eq _ _ _ _ _) (Ev.no (by simp) (Ev.now _))) fun r e => Ev.step (fun k => perigeeref8_CheckWatch.c3_eq _ _ _ _ _ _) (Ev.no (by simp) e)
theorem rules_chk (w : DWatch) (ml : w.1.length ≤ 50) (rl : w.2.2.2.length ≤ 200) (h0 : okT YWatch w) :
 Chk (fun k => monitor_CheckWatch.c0 k w.1 w.2.1 w.2.2.1 w.2.2.2 [] w.2.2.2 (w.2.2.2.length : Int) 0) (fun k => perigeeref8_CheckWatch.c2 k w.1 w.2.1 w.2.2.1 w.2.2.2 0) (fun _ => some (0, ())) := by
 refine Chk.loopS (σ := List (S × Bool)) (g := fun k m i => monitor_CheckWatch.c0 k w.1 w.2.1 w.2.2.1 w.2.2.2 m w.2.2.2 (w.2.2.2.length : Int) i) (h := fun k i => perigeeref8_CheckWatch.c2 k w.1 w.2.1 w.2.2.1 w.2.2.2 i) w.2.2.2.length
  (fun i m => ∀ v : S, (lk m v).getD false = true ↔ ∃ x ∈ w.2.2.2.take i, x.1 = v) (fun i m hi hm next => ?_) (fun m hm => ?_) [] (fun v => by simp [lk])
 ·have hx := h0.2.2.2.2.2 _ (getD_mem (z := Ty.dflt YWatchRule) hi)
  have hw : IntKind.wrap .i64 ((i : Int) + 1) = (i : Int) + 1 := w64 (by omega) (by omega)
  obtain ⟨c, c1, c2⟩ := rule_chk w ml rl hi hx
  rcases c2 with ⟨c3, c4⟩ | ⟨c3, c4⟩
  ·refine Chk.bad c3 (Ev.step (fun k => monitor_CheckWatch.c0_eq _ _ _ _ _ _ _ _ _) ?_) (Ev.step (fun k => perigeeref8_CheckWatch.c2_eq _ _ _ _ _ _) ?_)
   ·simp only [Int.toNat_natCast]
    exact Ev.yes (by simp; omega) (Ev.yes (by omega) (Ev.bind c1 (Ev.yes (by simpa using c3) (Ev.now _))))
   ·exact Ev.yes (by simp; omega) (Ev.bind c4 (Ev.yes (by simpa using c3) (Ev.now _)))
  ·subst c3
   have c4 := c4 _ (Ev.now _)
   have nxt := next (mapPut .str .bool (w.2.2.2.getD i (Ty.dflt YWatchRule)).1 true m) (fun v => by
    rw [lk_put (σ := .bool), List.take_add_one, List.getElem?_eq_getElem hi, getD_nat _ _ _ hi]
    split
    ·rename_i e
     simp only [Option.getD_some, true_iff]
     exact ⟨_, List.mem_append_right _ (by simp), e⟩
    ·rename_i e
     rw [hm]
     constructor
     ·rintro ⟨x, hx, h⟩; exact ⟨x, List.mem_append_left _ hx, h⟩
     ·rintro ⟨x, hx, h⟩
      rcases List.mem_append.1 hx with hx | hx
      ·exact ⟨x, hx, h⟩
      ·simp at hx; subst hx; exact absurd h e)
   have ord : ordR w i = 8 ∨ ordR w i = 0 := by unfold ordR; split <;> simp
   by_cases i0 : i = 0
   ·subst i0
    have o0 : ordR w 0 = 0 := by unfold ordR; rw [if_neg (by simp)]
    rw [o0] at c4
    refine Chk.l (fun r e => Ev.step (fun k => monitor_CheckWatch.c0_eq _ _ _ _ _ _ _ _ _) ?_) (Chk.r (fun r e => Ev.step (fun k => perigeeref8_CheckWatch.c2_eq _ _ _ _ _ _) ?_) nxt)
    ·simp only [Int.toNat_natCast, hw]
     exact Ev.yes (by simp; omega) (Ev.yes (by omega) (Ev.bind c1 (Ev.no (by simp) (Ev.no (by simp) e))))
    ·rw [hw]
     exact Ev.yes (by simp; omega) (Ev.bind c4 (Ev.no (by simp) e))
   ·have hp := wpred i0 (by omega)
    by_cases l1 : lessS (w.2.2.2.getD (i - 1) (Ty.dflt YWatchRule)).1 (w.2.2.2.getD i (Ty.dflt YWatchRule)).1 = true
    ·have o0 : ordR w i = 0 := by unfold ordR; rw [if_neg (fun h => by rw [l1] at h; exact absurd h.2 (by simp))]
     rw [o0] at c4
     refine Chk.l (fun r e => Ev.step (fun k => monitor_CheckWatch.c0_eq _ _ _ _ _ _ _ _ _) ?_) (Chk.r (fun r e => Ev.step (fun k => perigeeref8_CheckWatch.c2_eq _ _ _ _ _ _) ?_) nxt)
     ·simp only [hw, hp, Int.toNat_natCast]
      exact Ev.yes (by simp; omega) (Ev.yes (by omega) (Ev.bind c1 (Ev.no (by simp) (Ev.yes (by simp; omega) (Ev.yes (by omega) (Ev.no (fun h => by rw [l1] at h; cases h) e))))))
     ·rw [hw]
      exact Ev.yes (by simp; omega) (Ev.bind c4 (Ev.no (by simp) e))
    ·have l1 : lessS (w.2.2.2.getD (i - 1) (Ty.dflt YWatchRule)).1 (w.2.2.2.getD i (Ty.dflt YWatchRule)).1 = false := by rw [← Bool.not_eq_true]; exact l1
     have o0 : ordR w i = 8 := by unfold ordR; rw [if_pos ⟨by omega, l1⟩]
     rw [o0] at c4
     refine Chk.bad (c := 8) (by omega) (Ev.step (fun k => monitor_CheckWatch.c0_eq _ _ _ _ _ _ _ _ _) ?_) (Ev.step (fun k => perigeeref8_CheckWatch.c2_eq _ _ _ _ _ _) ?_)
     ·simp only [hp, Int.toNat_natCast]
      exact Ev.yes (by simp; omega) (Ev.yes (by omega) (Ev.bind c1 (Ev.no (by simp) (Ev.yes (by simp; omega) (Ev.yes (by omega) (Ev.yes (by rw [l1]; rfl) (Ev.now _)))))))
     ·exact Ev.yes (by simp; omega) (Ev.bind c4 (Ev.yes (by simp) (Ev.now _)))
 ·rw [List.take_length] at hm
  exact Chk.l (fun r e => Ev.step (fun k => monitor_CheckWatch.c0_eq _ _ _ _ _ _ _ _ _) (Ev.no (by simp) e)) (Chk.r (fun r e => Ev.step (fun k => perigeeref8_CheckWatch.c2_eq _ _ _ _ _ _) (Ev.no (by simp) e)) (acts_chk w rl h0 m hm))
theorem watch_twin (w : DWatch) (h0 : okT YWatch w) : ∃ c : Int, Ev (fun k => monitor_CheckWatch.f k w) (c, ()) ∧ Ev (fun k => perigeeref8_CheckWatch.f k w) (c, ()) := by
 have first : Chk (fun k => monitor_checkModes.f k w) (fun k => perigeeref8_CheckWatch.f k w) (fun k => if (decide (200 < (w.2.2.2.length : Int))) = true then some (2, ()) else perigeeref8_CheckWatch.c2 k w.1 w.2.1 w.2.2.1 w.2.2.2 0) := by
  refine Chk.l (fun r e => Ev.eq (fun k => monitor_checkModes.f_eq _ _) e) (Chk.r (fun r e => Ev.eq (fun k => perigeeref8_CheckWatch.f_eq _ _) e) ?_)
  by_cases m0 : (w.1.length : Int) = 0
  ·exact Chk.bad (c := 9) (by omega) (Ev.yes (decide_eq_true m0) (Ev.now _)) (Ev.yes (decide_eq_true m0) (Ev.now _))
  refine Chk.l (fun r e => Ev.no (fun h => m0 (of_decide_eq_true h)) e) (Chk.r (fun r e => Ev.no (fun h => m0 (of_decide_eq_true h)) e) ?_)
  by_cases m1 : 50 < (w.1.length : Int)
  ·exact Chk.bad (c := 2) (by omega) (Ev.yes (decide_eq_true m1) (Ev.now _)) (Ev.yes (decide_eq_true m1) (Ev.now _))
  refine Chk.l (fun r e => Ev.no (fun h => m1 (of_decide_eq_true h)) e) (Chk.r (fun r e => Ev.no (fun h => m1 (of_decide_eq_true h)) e) ?_)
  refine modes_chk w h0 (by omega) (g := fun k => if (decide (500 < (w.2.1.length : Int))) = true then some (2, ()) else monitor_checkModes.c1 k w.1 w.2.1 w.2.2.1 w.2.2.2 w.2.1 (w.2.1.length : Int) 0) (h := fun k => if (decide (500 < (w.2.1.length : Int))) = true then some (2, ()) else perigeeref8_CheckWatch.c1 k w.1 w.2.1 w.2.2.1 w.2.2.2 0) ?_ (fun k => by rw [monitor_checkModes.c0_eq, if_neg (by simp)]) (fun k => by rw [perigeeref8_CheckWatch.c0_eq, if_neg (by simp)])
  by_cases m2 : 500 < (w.2.1.length : Int)
  ·exact Chk.bad (c := 2) (by omega) (Ev.yes (decide_eq_true m2) (Ev.now _)) (Ev.yes (decide_eq_true m2) (Ev.now _))
  refine Chk.l (fun r e => Ev.no (fun h => m2 (of_decide_eq_true h)) e) (Chk.r (fun r e => Ev.no (fun h => m2 (of_decide_eq_true h)) e) ?_)
  refine changes_chk w h0 (by omega) (by omega) (g := fun k => (slices_Contains_string.f k w.1 w.2.2.1).bind fun r4 => if (!r4.1) = true then some (9, ()) else some (0, ())) (h := fun k => (perigeeref8_has.f k w.1 w.2.2.1).bind fun r3 => if (!r3.1) = true then some (9, ()) else if (decide (200 < (w.2.2.2.length : Int))) = true then some (2, ()) else perigeeref8_CheckWatch.c2 k w.1 w.2.1 w.2.2.1 w.2.2.2 0) ?_ (fun k => by rw [monitor_checkModes.c1_eq, if_neg (by simp)]) (fun k => by rw [perigeeref8_CheckWatch.c1_eq, if_neg (by simp)])
  by_cases m3 : w.2.2.1 ∈ w.1
  ·exact Chk.ok (Ev.bind (contains_ev _ _ (by omega)) (Ev.no (by simp [m3]) (Ev.now _))) fun r e => Ev.bind (rhas_ev _ _ (by omega)) (Ev.no (by simp [m3]) e)
  ·exact Chk.bad (c := 9) (by omega) (Ev.bind (contains_ev _ _ (by omega)) (Ev.yes (by simp [m3]) (Ev.now _))) (Ev.bind (rhas_ev _ _ (by omega)) (Ev.yes (by simp [m3]) (Ev.now _)))
 obtain ⟨c, c1, c2⟩ := first
 rcases c2 with ⟨c3, c4⟩ | ⟨c3, c4⟩
 ·exact ⟨c, Ev.eq (fun k => monitor_CheckWatch.f_eq _ _) (Ev.bind c1 (Ev.yes (by simpa using c3) (Ev.now _))), c4⟩
 subst c3
 obtain ⟨q, q1, q2⟩ := modes_ev w h0
 have e := q1.unique c1
 have ok := q2 (by rw [e])
 by_cases m4 : 200 < (w.2.2.2.length : Int)
 ·exact ⟨2, Ev.eq (fun k => monitor_CheckWatch.f_eq _ _) (Ev.bind c1 (Ev.no (by simp) (Ev.yes (decide_eq_true m4) (Ev.now _)))), c4 _ (Ev.yes (decide_eq_true m4) (Ev.now _))⟩
 obtain ⟨d, d1, d2⟩ := rules_chk w ok.ml (by omega) h0
 refine ⟨d, Ev.eq (fun k => monitor_CheckWatch.f_eq _ _) (Ev.bind c1 (Ev.no (by simp) (Ev.no (fun h => m4 (of_decide_eq_true h)) d1))), c4 _ (Ev.no (fun h => m4 (of_decide_eq_true h)) ?_)⟩
 rcases d2 with ⟨_, d3⟩ | ⟨d3, d4⟩
 ·exact d3
 ·subst d3; exact d4 _ (Ev.now _)
end Go.Proofs.Ytadhpgecilhgnaa.Pure

-- YtadhpgecilhgnaaQ10
set_option linter.unusedVariables false
set_option linter.unusedSimpArgs false
namespace Go.Proofs.Ytadhpgecilhgnaa.Pure
open Go Go.Proofs.Ytadhpgecilhgnaa.A

section
variable {w : DWatch} {to : S}
end
end Go.Proofs.Ytadhpgecilhgnaa.Pure

-- YtadhpgecilhgnaaQ11
set_option linter.unusedVariables false
set_option linter.unusedSimpArgs false
namespace Go.Proofs.Ytadhpgecilhgnaa.Pure
open Go Go.Proofs.Ytadhpgecilhgnaa.A

section
variable {w : DWatch} {to : S} {ds : List Int}
end
abbrev lt1 (a b : S) : Prop := lessS a b = true
theorem sorted_nodup {l : List S} (h : l.Pairwise lt1) : l.Nodup := h.imp fun h => less_ne h
theorem sorted_ext : ∀ {a b : List S}, a.Pairwise lt1 → b.Pairwise lt1 → (∀ x, x ∈ a ↔ x ∈ b) → a = b
 | [], [], _, _, _ => rfl
 | [], y :: b, _, _, h => by have := (h y).2 (by simp); cases this
 | x :: a, [], _, _, h => by have := (h x).1 (by simp); cases this
 | x :: a, y :: b, ha, hb, h => by
  rw [List.pairwise_cons] at ha hb
  have e : x = y := by
   rcases List.mem_cons.1 ((h x).1 (by simp)) with e | h1
   ·exact e
   ·rcases List.mem_cons.1 ((h y).2 (by simp)) with e | h2
    ·exact e.symm
    ·have k1 : lessS x y = false := less_asymm (hb.1 x h1)
     have k2 : lessS x y = true := ha.1 y h2
     rw [k2] at k1
     cases k1
  subst e
  rw [sorted_ext ha.2 hb.2 fun z => ?_]
  constructor
  ·intro hz
   rcases List.mem_cons.1 ((h z).1 (by simp [hz])) with e | h1
   ·exact absurd e.symm (less_ne (ha.1 z hz))
   ·exact h1
  ·intro hz
   rcases List.mem_cons.1 ((h z).2 (by simp [hz])) with e | h1
   ·exact absurd e.symm (less_ne (hb.1 z hz))
   ·exact h1
end Go.Proofs.Ytadhpgecilhgnaa.Pure

-- YtadhpgecilhgnaaQ40
set_option linter.unusedVariables false
set_option linter.unusedSimpArgs false
namespace Go.Proofs.Ytadhpgecilhgnaa.Pure
open Go Go.Proofs.Ytadhpgecilhgnaa.A
abbrev nRu (w : DWatch) : Nat := w.2.2.2.length
def toO (C : List DModeChange) (mode ev : S) (z : Option S) : Option S := C.foldl (fun acc c => if c.1 = mode ∧ c.2.1 = ev then some c.2.2 else acc) z
def toM (C : List DModeChange) (mode ev : S) : S := (toO C mode ev none).getD mode
def evR (w : DWatch) (ev : S) : List Nat := (List.range (nRu w)).filter fun i => decide ((rul w i).2.1 = ev)
def inM (w : DWatch) (mode : S) (i : Nat) : Bool := decide ((rul w i).2.2.1 = []) || decide ((rul w i).2.2.1 = mode)
def fireM (w : DWatch) (on : List Bool) (mode ev : S) : List Nat := (evR w ev).filter fun i => on.getD i false && inM w mode i
def ridx (w : DWatch) (s : S) : Nat := (w.2.2.2.map (·.1)).idxOf s
abbrev OU := List Bool × (S → Bool)
def actM (w : DWatch) (s : OU) (a : DAct) : OU :=
 if a.1 = 1 then s else if a.1 = 2 ∨ a.1 = 3 then (s.1.set (ridx w a.2.1) (decide (a.1 = 2)), s.2) else (s.1, fun u => if u = a.2.1 then !a.2.2 else s.2 u)
def raiM (l : List DAct) : List S := (l.filter fun a => decide (a.1 = 1)).map (·.2.1)
abbrev RS := OU × List DFired × List S
def ruleM (w : DWatch) (at' : Int) (ev mode : S) (r : RS) (i : Nat) : RS :=
 ((rul w i).2.2.2.2.foldl (actM w) (if (rul w i).2.2.2.1 = true then r.1.1.set i false else r.1.1, r.1.2), (r.2.1 ++ [(at', (ev, (mode, (rul w i).1)))], r.2.2 ++ raiM (rul w i).2.2.2.2))
def evM (w : DWatch) (at' : Int) (mode : S) (s : OU) (told : List DFired) (ev : S) (q : List S) : RS :=
 (fireM w s.1 mode ev).foldl (ruleM w at' ev mode) (s, (told ++ [(at', (ev, (mode, [])))], q))
def comeM (w : DWatch) (at' : Int) : Nat → S → OU → List DFired → List S → Option (S × OU × List DFired)
 | _, mode, s, told, [] => some (mode, (s, told))
 | 0, _, _, _, _ :: _ => none
 | n + 1, mode, s, told, ev :: q => let r := evM w at' mode s told ev q
  if 10000 < r.2.1.length then none else comeM w at' n (toM w.2.1 mode ev) r.1 r.2.1 r.2.2

def lk2 : List ((S × S) × S) → S × S → Option S
 | [], _ => none
 | p :: m, k => if p.1 = k then some p.2 else lk2 m k
theorem eqS2 {x y : S × S} : eqV (.pair .str .str) x y = true ↔ x = y := eqV_iff (τ := .pair .str .str) rfl
theorem has_lk2 (m : List ((S × S) × S)) (k : S × S) : mapHas (.pair .str .str) .str k m = (lk2 m k).isSome := by
 induction m with
 | nil => rfl
 | cons p m ih =>
  simp only [mapHas, List.any_cons] at ih ⊢
  rw [lk2]
  by_cases h : p.1 = k
  ·rw [if_pos h, eqS2.2 h]; rfl
  ·rw [if_neg h, ih]
   have : eqV (.pair .str .str) p.1 k = false := by rw [← Bool.not_eq_true]; exact fun e => h (eqS2.1 e)
   rw [this]; rfl
theorem get_lk2 (m : List ((S × S) × S)) (k : S × S) (z : S) : mapGet (.pair .str .str) .str k m z = (lk2 m k).getD z := by
 induction m with
 | nil => rfl
 | cons p m ih =>
  rw [mapGet, lk2]
  by_cases h : p.1 = k
  ·rw [if_pos h, if_pos (eqS2.2 h)]; rfl
  ·rw [if_neg h, if_neg (fun e => h (eqS2.1 e)), ih]
theorem lk2_put (m : List ((S × S) × S)) (k : S × S) (v : S) (j : S × S) : lk2 (mapPut (.pair .str .str) .str k v m) j = if k = j then some v else lk2 m j := by
 induction m with
 | nil => simp [mapPut, lk2]
 | cons p m ih =>
  rw [mapPut]
  by_cases h : p.1 = k
  ·rw [if_pos (eqS2.2 h), lk2, lk2]
   by_cases hj : k = j
   ·rw [if_pos hj, if_pos hj]
   ·rw [if_neg hj, if_neg hj, if_neg (fun e => hj (h ▸ e))]
  ·rw [if_neg (fun e => h (eqS2.1 e)), lk2, lk2, ih]
   by_cases hp : p.1 = j
   ·rw [if_pos hp, if_neg (fun e => h (hp.trans e.symm)), if_pos hp]
   ·rw [if_neg hp, if_neg hp]
def PTo (C : List DModeChange) (m : List ((S × S) × S)) : Prop := ∀ mode ev, lk2 m (mode, ev) = toO C mode ev none
def zN (l : List Nat) : List Int := l.map (fun n : Nat => (n : Int))
def PRu (w : DWatch) (n : Nat) (m : List (S × List Int)) : Prop := ∀ ev, (lk m ev).getD [] = zN ((List.range n).filter fun i => decide ((rul w i).2.1 = ev))
theorem newPlayer_ev (w : DWatch) (cl : w.2.1.length ≤ 500) (rl : nRu w ≤ 200) : ∃ to ru, PTo w.2.1 to ∧ PRu w (nRu w) ru ∧ Ev (fun k => monitor_newPlayer.f k w) (some (w.2.2.1, (to, (ru, (w, (List.replicate (nRu w) true, []))))), ()) := by
 have hnR : nRu w = w.2.2.2.length := rfl
 have h1 := fun to (hto : PTo w.2.1 to) => Ev.rngR (σ := List Bool × List (S × List Int)) (Ty.dflt YWatchRule) w.2.2.2 (by omega) (g := fun k s i => monitor_newPlayer.c1 k w.2.2.1 w.1 w.2.1 w.2.2.1 w.2.2.2 s.1 w.2.2.2 (w.2.2.2.length : Int) i to s.2 []) (fun k s i => monitor_newPlayer.c1_eq _ _ _ _ _ _ _ _ _ _ _ _ _)
  (fun i s => s.1 = List.replicate i true ∧ PRu w i s.2) (fun r => ∃ ru, PRu w (nRu w) ru ∧ r = (some (w.2.2.1, (to, (ru, (w, (List.replicate (nRu w) true, []))))), ())) (fun s hs => ⟨_, Ev.now _, s.2, hs.2, by rw [hs.1]⟩) (fun i x s hi hc hget hgd hw hs next => by
   simp only [Int.toNat_natCast, hgd, hw]
   obtain ⟨e1, e2⟩ := hs
   have e3 := e2 x.2.1
   have ln : (mapGet .str (.vec (.int .i64)) x.2.1 s.2 []).length ≤ 200 := by
    rw [get_lk (σ := .vec (.int .i64)), e3]
    unfold zN
    rw [List.length_map]
    have := List.length_filter_le (fun j => decide ((rul w j).2.1 = x.2.1)) (List.range i)
    rw [List.length_range] at this
    omega
   refine (next (s.1 ++ [true], mapPut .str (.vec (.int .i64)) x.2.1 (mapGet .str (.vec (.int .i64)) x.2.1 s.2 [] ++ [(i : Int)]) s.2) ⟨by rw [e1, List.replicate_succ'], fun ev => ?_⟩).imp fun r hr => ⟨Ev.yes (by omega) (Ev.yes (eqS.2 rfl) (Ev.yes (by rw [e1, List.length_replicate]; omega) hr.1)), hr.2⟩
   rw [lk_put (σ := .vec (.int .i64)), List.range_succ, List.filter_append]
   have hr : (rul w i).2.1 = x.2.1 := by unfold rul; rw [hgd]
   by_cases h : x.2.1 = ev
   ·rw [if_pos h, get_lk (σ := .vec (.int .i64)), e3, h, List.filter_cons_of_pos (by rw [hr, h]; simp)]
    simp [zN]
   ·rw [if_neg h, List.filter_cons_of_neg (by rw [hr]; simpa using h)]
    simpa using e2 ev) 0 ([], []) (by omega) ⟨rfl, fun ev => rfl⟩
 have h0 := Ev.rngR (σ := List ((S × S) × S)) (Ty.dflt YModeChange) w.2.1 (by omega) (g := fun k m i => monitor_newPlayer.c0 k w.2.2.1 w.1 w.2.1 w.2.2.1 w.2.2.2 [] w.1 w.2.1 w.2.2.1 w.2.2.2 w.2.1 (w.2.1.length : Int) i m [] []) (fun k s i => monitor_newPlayer.c0_eq _ _ _ _ _ _ _ _ _ _ _ _ _ _ _ _ _)
  (fun i m => PTo (w.2.1.take i) m) (fun r => ∃ to ru, PTo w.2.1 to ∧ PRu w (nRu w) ru ∧ r = (some (w.2.2.1, (to, (ru, (w, (List.replicate (nRu w) true, []))))), ())) (fun m hm => by
   rw [List.take_length] at hm
   obtain ⟨r, r1, ru, r2, r3⟩ := h1 m hm
   exact ⟨r, r1, m, ru, hm, r2, r3⟩) (fun i x m hi hc hget hgd hw hm next => by
   simp only [Int.toNat_natCast, hgd, hw]
   refine next _ fun mode ev => ?_
   rw [lk2_put, List.take_add_one, hget]
   show _ = toO (w.2.1.take i ++ [x]) mode ev none
   unfold toO
   rw [List.foldl_append]
   have := hm mode ev
   unfold toO at this
   by_cases h : (x.1, x.2.1) = (mode, ev)
   ·rw [if_pos h]
    simp only [Prod.mk.injEq] at h
    simp [h]
   ·rw [if_neg h, this]
    simp only [Prod.mk.injEq] at h
    simp [h]) 0 [] (by omega) (fun mode ev => rfl)
 obtain ⟨r, r1, to, ru, r2, r3, r4⟩ := h0
 rw [r4] at r1
 exact ⟨to, ru, r2, r3, Ev.eq (fun k => monitor_newPlayer.f_eq _ _) r1⟩
theorem newCraft_ev (w : DWatch) (rl : nRu w ≤ 200) : Ev (fun k => perigeeref8_newCraft.f k w) (some (w, (w.2.2.1, (List.replicate (nRu w) true, ([], [])))), ()) := by
 have hnR : nRu w = w.2.2.2.length := rfl
 have loop : ∀ (d i : Nat), i + d = nRu w → Ev (fun k => perigeeref8_newCraft.c0 k w.1 w.2.1 w.2.2.1 w.2.2.2 w.2.2.1 (List.replicate i true) [] [] (w.2.2.2.length : Int) (i : Int)) (some (w, (w.2.2.1, (List.replicate (nRu w) true, ([], [])))), ()) := by
  intro d
  induction d with
  | zero =>
   intro i hi
   refine Ev.step (fun k => perigeeref8_newCraft.c0_eq _ _ _ _ _ _ _ _ _ _ _) (Ev.no (by simp; omega) ?_)
   rw [show i = nRu w by omega]
   exact Ev.now _
  | succ d ih =>
   intro i hi
   refine Ev.step (fun k => perigeeref8_newCraft.c0_eq _ _ _ _ _ _ _ _ _ _ _) (Ev.yes (decide_eq_true (by omega)) (Ev.yes (by rw [List.length_replicate]; omega) ?_))
   rw [← List.replicate_succ', w64 (by omega) (by omega), show (i : Int) + 1 = ((i + 1 : Nat) : Int) by omega]
   exact ih (i + 1) (by omega)
 exact Ev.eq (fun k => perigeeref8_newCraft.f_eq _ _) (loop (nRu w) 0 (by omega))
end Go.Proofs.Ytadhpgecilhgnaa.Pure

-- YtadhpgecilhgnaaQ41
set_option linter.unusedVariables false
set_option linter.unusedSimpArgs false
namespace Go.Proofs.Ytadhpgecilhgnaa.Pure
open Go Go.Proofs.Ytadhpgecilhgnaa.A
section
variable {w : DWatch} {mo : S} {to : List ((S × S) × S)} {ru : List (S × List Int)}
theorem names_nodup (ok : RulesOk w) : (w.2.2.2.map (·.1)).Nodup := by
 have hp : (w.2.2.2.map (·.1)).Pairwise lt1 := (chain_pair (R := lt1) (fun _ _ _ => less_trans) ([] : S) (w.2.2.2.map (·.1))).1 fun j hj h0 => by
  rw [List.length_map] at hj
  have := ok.od j hj h0
  have e : ∀ n, n < w.2.2.2.length → (w.2.2.2.map (·.1)).getD n [] = (rul w n).1 := fun n hn => by
   unfold rul
   rw [getD_nat _ _ _ (by rw [List.length_map]; exact hn), getD_nat _ _ _ hn, List.getElem_map]
  rw [e _ hj, e _ (by omega)]
  exact this
 exact sorted_nodup hp
theorem ridx_iff (ok : RulesOk w) {i : Nat} (hi : i < nRu w) {s : S} : (rul w i).1 = s ↔ ridx w s = i := by
 have hl : i < (w.2.2.2.map (·.1)).length := by rw [List.length_map]; exact hi
 have e : (w.2.2.2.map (·.1))[i] = (rul w i).1 := by
  unfold rul
  rw [getD_nat _ _ _ (show i < w.2.2.2.length from hi), List.getElem_map]
 constructor
 ·intro h
  unfold ridx
  rw [← h, ← e]
  exact (names_nodup ok).idxOf_getElem i hl
 ·intro h
  unfold ridx at h
  have hlt : (w.2.2.2.map (·.1)).idxOf s < (w.2.2.2.map (·.1)).length := by rw [h]; exact hl
  have := List.getElem_idxOf hlt
  rw [← e, ← this]
  simp only [h]
theorem switch_ev (ok : RulesOk w) (s : S) (b : Bool) (on : List Bool) (um : List (S × Bool)) (hon : on.length = nRu w) :
 Ev (fun k => monitor_player_switchRule.f k (mo, (to, (ru, (w, (on, um))))) s b) ((mo, (to, (ru, (w, (on.set (ridx w s) b, um))))), ()) := by
 have rl := ok.rl
 have hnR : nRu w = w.2.2.2.length := rfl
 have h := Ev.rng (σ := List Bool) (Ty.dflt YWatchRule) w.2.2.2 (by omega) (g := fun k o i => monitor_player_switchRule.c0 k mo to ru w.1 w.2.1 w.2.2.1 w.2.2.2 o um s b w.2.2.2 (w.2.2.2.length : Int) i) (fun k o i => monitor_player_switchRule.c0_eq _ _ _ _ _ _ _ _ _ _ _ _ _ _ _)
  (fun i o => o = if ridx w s < i then on.set (ridx w s) b else on) (fun _ _ _ => ((mo, (to, (ru, (w, (on.set (ridx w s) b, um))))), ())) (fun o ho => by
   refine Ev.is ?_
   rw [ho]
   split
   ·rfl
   ·rename_i h
    have : on.set (ridx w s) b = on := List.set_eq_of_length_le (by omega)
    rw [this]) (fun i x xs o hi hc hd hget hw ho next => by
   simp only [Int.toNat_natCast, hget, hw]
   have hx : (rul w i).1 = x.1 := by unfold rul; rw [hget]
   have hlo : o.length = nRu w := by rw [ho]; split <;> simp [hon]
   by_cases h : x.1 = s
   ·have hr := (ridx_iff ok (show i < nRu w from hi)).1 (hx.trans h)
    refine Ev.yes (decide_eq_true h) (Ev.yes (by omega) (next _ ?_))
    rw [ho, if_neg (by omega), hr, if_pos (by omega)]
   ·refine Ev.no (fun h' => h (of_decide_eq_true h')) (next _ ?_)
    have hr : ridx w s ≠ i := fun e => h (hx.symm.trans ((ridx_iff ok (show i < nRu w from hi)).2 e))
    rw [ho]
    by_cases h1 : ridx w s < i
    ·rw [if_pos h1, if_pos (by omega)]
    ·rw [if_neg h1, if_neg (by omega)]) 0 on (by omega) (by simp)
 exact Ev.eq (fun k => monitor_player_switchRule.f_eq _ _ _ _) h
def UM (um : List (S × Bool)) (U : S → Bool) : Prop := (∀ u, (lk um u).getD false = U u) ∧ (um.map (·.1)).Nodup
theorem UM.put {um : List (S × Bool)} {U : S → Bool} (h : UM um U) (s : S) (b : Bool) : UM (mapPut .str .bool s b um) (fun u => if u = s then b else U u) := by
 refine ⟨fun u => ?_, ?_⟩
 ·rw [lk_put (σ := .bool)]
  show _ = if u = s then b else U u
  by_cases e : s = u
  ·rw [if_pos e, if_pos e.symm]; rfl
  ·rw [if_neg e, if_neg (fun h' : u = s => e h'.symm)]; exact h.1 u
 ·have e := keys_put (σ := .bool) um s b
  rw [e]
  split
  ·exact h.2
  ·rename_i hn
   rw [List.nodup_append]
   refine ⟨h.2, by simp, fun x hx y hy hxy => hn ?_⟩
   simp at hy
   subst hy; subst hxy
   exact lk_mem.2 hx
theorem actM_len (s : OU) (a : DAct) : (actM w s a).1.length = s.1.length := by
 unfold actM
 split
 ·rfl
 ·split
  ·simp
  ·rfl
theorem acts_len (l : List DAct) : ∀ s : OU, (l.foldl (actM w) s).1.length = s.1.length := by
 induction l with
 | nil => intro s; rfl
 | cons a l ih => intro s; rw [List.foldl_cons, ih, actM_len]
theorem act_ev (ok : RulesOk w) {i : Nat} (hi : i < nRu w) (on : List Bool) (um : List (S × Bool)) (U : S → Bool) (hon : on.length = nRu w) (hum : UM um U) :
 ∃ um', UM um' ((rul w i).2.2.2.2.foldl (actM w) (on, U)).2 ∧ Ev (fun k => monitor_player_act.f k (mo, (to, (ru, (w, (on, um))))) (rul w i)) (raiM (rul w i).2.2.2.2, ((mo, (to, (ru, (w, (((rul w i).2.2.2.2.foldl (actM w) (on, U)).1, um'))))), ())) := by
 obtain ⟨al, _, ak⟩ := ok.ac i hi
 generalize rul w i = x at al ak ⊢
 have h := Ev.rngR (σ := List Bool × List (S × Bool) × List S) (Ty.dflt YAct) x.2.2.2.2 (by omega) (g := fun k s j => monitor_player_act.c0 k mo to ru w.1 w.2.1 w.2.2.1 w.2.2.2 s.1 s.2.1 s.2.2 x.2.2.2.2 (x.2.2.2.2.length : Int) j) (fun k s j => monitor_player_act.c0_eq _ _ _ _ _ _ _ _ _ _ _ _ _ _)
  (fun j s => s.1 = ((x.2.2.2.2.take j).foldl (actM w) (on, U)).1 ∧ UM s.2.1 ((x.2.2.2.2.take j).foldl (actM w) (on, U)).2 ∧ s.2.2 = raiM (x.2.2.2.2.take j)) (fun r => ∃ um', UM um' (x.2.2.2.2.foldl (actM w) (on, U)).2 ∧ r = (raiM x.2.2.2.2, ((mo, (to, (ru, (w, ((x.2.2.2.2.foldl (actM w) (on, U)).1, um'))))), ()))) (fun s hs => by
   rw [List.take_length] at hs
   exact ⟨_, Ev.now _, s.2.1, hs.2.1, by rw [hs.1, hs.2.2]⟩) (fun j a s hj ha hget hgd hw hs next => by
   simp only [Int.toNat_natCast, hgd, hw]
   obtain ⟨e1, e2, e3⟩ := hs
   have ht : x.2.2.2.2.take (j + 1) = x.2.2.2.2.take j ++ [a] := by rw [List.take_add_one, hget]; rfl
   have hf : (x.2.2.2.2.take (j + 1)).foldl (actM w) (on, U) = actM w ((x.2.2.2.2.take j).foldl (actM w) (on, U)) a := by rw [ht, List.foldl_append]; rfl
   have hr : raiM (x.2.2.2.2.take (j + 1)) = raiM (x.2.2.2.2.take j) ++ (if a.1 = 1 then [a.2.1] else []) := by
    rw [ht]
    unfold raiM
    rw [List.filter_append, List.map_append]
    by_cases h1 : a.1 = 1
    ·rw [if_pos h1, List.filter_cons_of_pos (by simpa using h1)]; rfl
    ·rw [if_neg h1, List.filter_cons_of_neg (by simpa using h1)]; rfl
   have ll : s.2.2.length ≤ 10 := by
    rw [e3]
    unfold raiM
    rw [List.length_map]
    have := List.length_filter_le (fun a => decide (a.1 = 1)) (x.2.2.2.2.take j)
    rw [List.length_take] at this
    omega
   have hsl : s.1.length = nRu w := by rw [e1, acts_len]; exact hon
   obtain ⟨⟨k1, k2⟩, _⟩ := ak a ha
   by_cases h1 : a.1 = 1
   ·obtain ⟨r, r1, r2⟩ := next (s.1, (s.2.1, s.2.2 ++ [a.2.1])) ⟨by rw [hf]; simp only [actM, if_pos h1]; exact e1, by rw [hf]; simp only [actM, if_pos h1]; exact e2, by rw [hr, if_pos h1, ← e3]⟩
    exact ⟨r, Ev.yes (decide_eq_true h1) (Ev.yes (by omega) r1), r2⟩
   have sw : a.1 = 2 ∨ a.1 = 3 → ∃ r, Ev (fun k => monitor_player_act.c0 k mo to ru w.1 w.2.1 w.2.2.1 w.2.2.2 (s.1.set (ridx w a.2.1) (decide (a.1 = 2))) s.2.1 s.2.2 x.2.2.2.2 (x.2.2.2.2.length : Int) ((j : Int) + 1)) r ∧ _ := fun h23 =>
    next (s.1.set (ridx w a.2.1) (decide (a.1 = 2)), (s.2.1, s.2.2)) ⟨by rw [hf]; simp only [actM, if_neg h1, if_pos h23]; rw [e1], by rw [hf]; simp only [actM, if_neg h1, if_pos h23]; exact e2, by rw [hr, if_neg h1, List.append_nil]; exact e3⟩
   by_cases h2 : a.1 = 2
   ·obtain ⟨r, r1, r2⟩ := sw (.inl h2)
    exact ⟨r, Ev.no (fun h => h1 (of_decide_eq_true h)) (Ev.yes (decide_eq_true h2) (Ev.bind (switch_ev (mo := mo) (to := to) (ru := ru) ok a.2.1 (decide (a.1 = 2)) s.1 s.2.1 hsl) r1)), r2⟩
   by_cases h3 : a.1 = 3
   ·obtain ⟨r, r1, r2⟩ := sw (.inr h3)
    exact ⟨r, Ev.no (fun h => h1 (of_decide_eq_true h)) (Ev.no (fun h => h2 (of_decide_eq_true h)) (Ev.yes (decide_eq_true h3) (Ev.bind (switch_ev (mo := mo) (to := to) (ru := ru) ok a.2.1 (decide (a.1 = 2)) s.1 s.2.1 hsl) r1))), r2⟩
   ·have h23 : ¬ (a.1 = 2 ∨ a.1 = 3) := fun h => h.elim h2 h3
    obtain ⟨r, r1, r2⟩ := next (s.1, (mapPut .str .bool a.2.1 (!a.2.2) s.2.1, s.2.2)) ⟨by rw [hf]; simp only [actM, if_neg h1, if_neg h23]; exact e1, by rw [hf]; simp only [actM, if_neg h1, if_neg h23]; exact e2.put _ _, by rw [hr, if_neg h1, List.append_nil]; exact e3⟩
    exact ⟨r, Ev.no (fun h => h1 (of_decide_eq_true h)) (Ev.no (fun h => h2 (of_decide_eq_true h)) (Ev.no (fun h => h3 (of_decide_eq_true h)) r1)), r2⟩) 0 (on, (um, [])) (by omega) ⟨rfl, hum, rfl⟩
 obtain ⟨r, r1, um', r2, r3⟩ := h
 rw [r3] at r1
 exact ⟨um', r2, Ev.eq (fun k => monitor_player_act.f_eq _ _ _) r1⟩
end
end Go.Proofs.Ytadhpgecilhgnaa.Pure

-- YtadhpgecilhgnaaQ42
set_option linter.unusedVariables false
set_option linter.unusedSimpArgs false
namespace Go.Proofs.Ytadhpgecilhgnaa.Pure
open Go Go.Proofs.Ytadhpgecilhgnaa.A
section
variable {w : DWatch} {mo : S} {to : List ((S × S) × S)} {ru : List (S × List Int)} {at' : Int} {ev0 : S}
theorem raiM_len (ok : RulesOk w) {i : Nat} (hi : i < nRu w) : (raiM (rul w i).2.2.2.2).length ≤ 10 := by
 have al := (ok.ac i hi).1
 unfold raiM
 rw [List.length_map]
 exact Nat.le_trans (List.length_filter_le _ _) al
theorem ruleM_len (r : RS) (ev mode : S) (i : Nat) : (ruleM w at' ev mode r i).2.1.length = r.2.1.length + 1 ∧ (ruleM w at' ev mode r i).1.1.length = r.1.1.length := by
 refine ⟨by simp [ruleM], ?_⟩
 show ((rul w i).2.2.2.2.foldl (actM w) _).1.length = _
 rw [acts_len]
 show (if _ then _ else _ : List Bool).length = _
 split <;> simp
theorem rules_told (ev mode : S) : ∀ (l : List Nat) (r : RS), (l.foldl (ruleM w at' ev mode) r).2.1.length = r.2.1.length + l.length ∧ (l.foldl (ruleM w at' ev mode) r).1.1.length = r.1.1.length
 | [], r => ⟨rfl, rfl⟩
 | i :: l, r => by
  obtain ⟨h1, h2⟩ := rules_told ev mode l (ruleM w at' ev mode r i)
  obtain ⟨h3, h4⟩ := ruleM_len (w := w) (at' := at') r ev mode i
  rw [List.foldl_cons]
  exact ⟨by rw [h1, h3, List.length_cons]; omega, h2.trans h4⟩
theorem fireM_lt {on : List Bool} {mode ev : S} {i : Nat} (h : i ∈ fireM w on mode ev) : i < nRu w := by
 unfold fireM evR at h
 rw [List.mem_filter, List.mem_filter] at h
 exact List.mem_range.1 h.1.1
theorem fireM_len (on : List Bool) (mode ev : S) : (fireM w on mode ev).length ≤ nRu w := by
 unfold fireM evR
 refine Nat.le_trans (List.length_filter_le _ _) (Nat.le_trans (List.length_filter_le _ _) ?_)
 rw [List.length_range]; exact Nat.le_refl _
abbrev plr (w : DWatch) (mo : S) (to : List ((S × S) × S)) (ru : List (S × List Int)) (on : List Bool) (um : List (S × Bool)) : DPlayer := (mo, (to, (ru, (w, (on, um)))))
theorem fire_ev (ok : RulesOk w) {ev mode : S} (mo : S) :
 ∀ (l done : List Nat) (s : RS) (um : List (S × Bool)), (∀ i ∈ done ++ l, i < nRu w) → (done ++ l).length ≤ 200 → UM um s.1.2 → s.1.1.length = nRu w → s.2.1.length ≤ 10001 → s.2.2.length ≤ 10 * s.2.1.length →
  (10000 < (l.foldl (ruleM w at' ev mode) s).2.1.length ∧ ∃ p, Ev (fun k => monitor_player_come.c3 k mo to ru w.1 w.2.1 w.2.2.1 w.2.2.2 s.1.1 um at' ev0 s.2.1 s.2.2 ev mode (zN (done ++ l)) (((done ++ l).length : Nat) : Int) (done.length : Int)) ([], (false, (p, ())))) ∨
  ((l.foldl (ruleM w at' ev mode) s).2.1.length ≤ 10000 ∧ ∃ um', UM um' (l.foldl (ruleM w at' ev mode) s).1.2 ∧ (l.foldl (ruleM w at' ev mode) s).2.2.length ≤ 10 * (l.foldl (ruleM w at' ev mode) s).2.1.length ∧
   ∀ q, Ev (fun k => monitor_player_come.c0 k mo to ru w.1 w.2.1 w.2.2.1 w.2.2.2 (l.foldl (ruleM w at' ev mode) s).1.1 um' at' ev0 (l.foldl (ruleM w at' ev mode) s).2.1 (l.foldl (ruleM w at' ev mode) s).2.2) q →
    Ev (fun k => monitor_player_come.c3 k mo to ru w.1 w.2.1 w.2.2.1 w.2.2.2 s.1.1 um at' ev0 s.2.1 s.2.2 ev mode (zN (done ++ l)) (((done ++ l).length : Nat) : Int) (done.length : Int)) q) := by
 have rl := ok.rl
 have hnR : nRu w = w.2.2.2.length := rfl
 intro l
 induction l with
 | nil =>
  intro done s um hi hl hum hon ht hq
  rw [List.append_nil]
  simp only [List.foldl_nil]
  by_cases h : 10000 < s.2.1.length
  ·exact .inl ⟨h, _, Ev.step (fun k => monitor_player_come.c3_eq _ _ _ _ _ _ _ _ _ _ _ _ _ _ _ _ _ _ _) (Ev.no (by simp) (Ev.yes (decide_eq_true (by omega)) (Ev.now _)))⟩
  ·exact .inr ⟨by omega, um, hum, hq, fun q e => Ev.step (fun k => monitor_player_come.c3_eq _ _ _ _ _ _ _ _ _ _ _ _ _ _ _ _ _ _ _) (Ev.no (by simp) (Ev.no (by simp; omega) e))⟩
 | cons i l ih =>
  intro done s um hi hl hum hon ht hq
  have hin : i < nRu w := hi i (by simp)
  have hlen : (done ++ i :: l).length = done.length + l.length + 1 := by simp; omega
  have hz : (zN (done ++ i :: l)).length = (done ++ i :: l).length := by simp [zN]
  have hg : (zN (done ++ i :: l)).getD done.length 0 = (i : Int) := by
   unfold zN
   rw [List.map_append, List.getD_eq_getElem?_getD, List.getElem?_append_right (by simp)]
   simp
  have hw : IntKind.wrap .i64 ((done.length : Int) + 1) = ((done.length + 1 : Nat) : Int) := by rw [w64 (by omega) (by omega)]; omega
  have hx : w.2.2.2.getD i (Ty.dflt YWatchRule) = rul w i := rfl
  let on1 : List Bool := if (rul w i).2.2.2.1 = true then s.1.1.set i false else s.1.1
  have hon1 : on1.length = nRu w := by show (if _ then _ else _ : List Bool).length = _; split <;> simp [hon]
  obtain ⟨um1, u1, u2⟩ := act_ev (mo := mo) (to := to) (ru := ru) ok hin on1 um s.1.2 hon1 hum
  have rle := raiM_len ok hin
  obtain ⟨t1, t2⟩ := ruleM_len (w := w) (at' := at') s ev mode i
  have hsM : ruleM w at' ev mode s i = ((rul w i).2.2.2.2.foldl (actM w) (on1, s.1.2), (s.2.1 ++ [(at', (ev, (mode, (rul w i).1)))], s.2.2 ++ raiM (rul w i).2.2.2.2)) := rfl
  have hfd : (i :: l).foldl (ruleM w at' ev mode) s = l.foldl (ruleM w at' ev mode) (ruleM w at' ev mode s i) := rfl
  rw [hfd]
  -- what comes behind the acts
  have split : ∀ {q : List DFired × Bool × DPlayer × Unit}, (10000 < s.2.1.length + 1 → q = ([], (false, (plr w mo to ru (ruleM w at' ev mode s i).1.1 um1, ())))) →
   (¬ 10000 < s.2.1.length + 1 → Ev (fun k => monitor_player_come.c3 k mo to ru w.1 w.2.1 w.2.2.1 w.2.2.2 (ruleM w at' ev mode s i).1.1 um1 at' ev0 (ruleM w at' ev mode s i).2.1 (ruleM w at' ev mode s i).2.2 ev mode (zN (done ++ i :: l)) (((done ++ i :: l).length : Nat) : Int) ((done.length + 1 : Nat) : Int)) q) →
   Ev (fun k => monitor_player_come.c3 k mo to ru w.1 w.2.1 w.2.2.1 w.2.2.2 s.1.1 um at' ev0 s.2.1 s.2.2 ev mode (zN (done ++ i :: l)) (((done ++ i :: l).length : Nat) : Int) (done.length : Int)) q := fun {q} h1 h2 => by
   refine Ev.step (fun k => monitor_player_come.c3_eq _ _ _ _ _ _ _ _ _ _ _ _ _ _ _ _ _ _ _) (Ev.yes (decide_eq_true (by omega)) (Ev.yes (by rw [hz]; omega) ?_))
   simp only [Int.toNat_natCast, hg, hw, hx]
   refine Ev.yes (by omega) (Ev.yes (by omega) ?_)
   by_cases ho : (rul w i).2.2.2.1 = true
   ·have e1 : on1 = s.1.1.set i false := if_pos ho
    rw [e1] at u2
    refine Ev.yes ho (Ev.yes (by omega) (Ev.bind u2 (Ev.yes (by simp only; omega) ?_)))
    by_cases h : 10000 < s.2.1.length + 1
    ·refine Ev.yes (by simp; omega) ?_
     rw [h1 h, hsM, e1]
     exact Ev.now _
    ·refine Ev.no (by simp; omega) ?_
     have := h2 h
     rw [hsM, e1] at this
     exact this
   ·have e1 : on1 = s.1.1 := if_neg ho
    rw [e1] at u2
    refine Ev.no ho (Ev.bind u2 (Ev.yes (by simp only; omega) ?_))
    by_cases h : 10000 < s.2.1.length + 1
    ·refine Ev.yes (by simp; omega) ?_
     rw [h1 h, hsM, e1]
     exact Ev.now _
    ·refine Ev.no (by simp; omega) ?_
     have := h2 h
     rw [hsM, e1] at this
     exact this
  by_cases h : 10000 < s.2.1.length + 1
  ·refine .inl ⟨?_, _, split (fun _ => rfl) (fun h' => absurd h h')⟩
   rw [(rules_told ev mode l _).1, t1]
   omega
  ·have hda : done ++ i :: l = (done ++ [i]) ++ l := by simp
   have hq1 : (ruleM w at' ev mode s i).2.2.length ≤ 10 * (ruleM w at' ev mode s i).2.1.length := by
    rw [t1, hsM]
    simp only [List.length_append]
    omega
   have := ih (done ++ [i]) (ruleM w at' ev mode s i) um1 (by rw [← hda]; exact hi) (by rw [← hda]; exact hl) u1 (by rw [t2]; exact hon) (by rw [t1]; omega) hq1
   rw [← hda] at this
   rw [show ((done ++ [i]).length : Int) = ((done.length + 1 : Nat) : Int) by simp] at this
   rcases this with ⟨b1, p, b2⟩ | ⟨b1, um', b2, b3, b4⟩
   ·exact .inl ⟨b1, p, split (fun h' => absurd h' h) fun _ => b2⟩
   ·exact .inr ⟨b1, um', b2, b3, fun q e => split (fun h' => absurd h' h) fun _ => b4 q e⟩
end
end Go.Proofs.Ytadhpgecilhgnaa.Pure

-- YtadhpgecilhgnaaQ43
set_option linter.unusedVariables false
set_option linter.unusedSimpArgs false
namespace Go.Proofs.Ytadhpgecilhgnaa.Pure
open Go Go.Proofs.Ytadhpgecilhgnaa.A
section
variable {w : DWatch} {to : List ((S × S) × S)} {ru : List (S × List Int)} {at' : Int} {ev0 : S}
theorem zN_len (l : List Nat) : (zN l).length = l.length := by simp [zN]
theorem zN_get {l : List Nat} {j : Nat} (h : j < l.length) : (zN l).getD j 0 = ((l[j] : Nat) : Int) := by
 unfold zN
 rw [List.getD_eq_getElem?_getD, List.getElem?_map, List.getElem?_eq_getElem h]; rfl
theorem collect_ev (ok : RulesOk w) {mo ev mode : S} {on : List Bool} {um : List (S × Bool)} {told : List DFired} {q : List S} (hon : on.length = nRu w) {r : List DFired × Bool × DPlayer × Unit}
 (fin : Ev (fun k => monitor_player_come.c3 k mo to ru w.1 w.2.1 w.2.2.1 w.2.2.2 on um at' ev0 told q ev mode (zN (fireM w on mode ev)) (((fireM w on mode ev).length : Nat) : Int) 0) r) :
 Ev (fun k => monitor_player_come.c2 k mo to ru w.1 w.2.1 w.2.2.1 w.2.2.2 on um at' ev0 told q ev mode [] (zN (evR w ev)) ((zN (evR w ev)).length : Int) 0) r := by
 have rl := ok.rl
 have hnR : nRu w = w.2.2.2.length := rfl
 have el : (evR w ev).length ≤ nRu w := by
  unfold evR
  refine Nat.le_trans (List.length_filter_le _ _) ?_
  rw [List.length_range]; exact Nat.le_refl _
 have h := Ev.rng (σ := List Int) (0 : Int) (zN (evR w ev)) (by rw [zN_len]; omega) (g := fun k s j => monitor_player_come.c2 k mo to ru w.1 w.2.1 w.2.2.1 w.2.2.2 on um at' ev0 told q ev mode s (zN (evR w ev)) ((zN (evR w ev)).length : Int) j) (fun k s j => monitor_player_come.c2_eq _ _ _ _ _ _ _ _ _ _ _ _ _ _ _ _ _ _ _ _)
  (fun j s => s = zN (((evR w ev).take j).filter fun i => on.getD i false && inM w mode i)) (fun _ _ _ => r) (fun s hs => by
   rw [zN_len, List.take_length] at hs
   have e : s = zN (fireM w on mode ev) := hs
   rw [e, zN_len]; exact fin) (fun j x xs s hj hx hd hget hw hs next => by
   simp only [Int.toNat_natCast, hget, hw]
   have hjl : j < (evR w ev).length := by rw [zN_len] at hj; exact hj
   obtain ⟨i, hi⟩ : ∃ i, (evR w ev)[j] = i := ⟨_, rfl⟩
   have hxi : x = (i : Int) := by rw [← hget, zN_get hjl, hi]
   have him : i ∈ evR w ev := by rw [← hi]; exact List.getElem_mem _
   have hin : i < nRu w := by
    unfold evR at him
    rw [List.mem_filter] at him
    exact List.mem_range.1 him.1
   have ht : (evR w ev).take (j + 1) = (evR w ev).take j ++ [i] := by rw [List.take_add_one, List.getElem?_eq_getElem hjl, hi]; rfl
   have hsl : s.length ≤ 200 := by
    rw [hs, zN_len]
    have := List.length_filter_le (fun i => on.getD i false && inM w mode i) ((evR w ev).take j)
    rw [List.length_take] at this
    omega
   subst hxi
   simp only [Int.toNat_natCast]
   have f1 : ∀ b, (on.getD i false && inM w mode i) = b → [i].filter (fun i => on.getD i false && inM w mode i) = if b = true then [i] else [] := fun b hb => by
    rw [List.filter_cons]
    simp only [hb]
    cases b <;> simp
   have yes : (on.getD i false && inM w mode i) = true → Ev (fun k => monitor_player_come.c2 k mo to ru w.1 w.2.1 w.2.2.1 w.2.2.2 on um at' ev0 told q ev mode (s ++ [(i : Int)]) (zN (evR w ev)) ((zN (evR w ev)).length : Int) ((j : Int) + 1)) r := fun hb => next _ (by
    rw [ht, List.filter_append, f1 _ hb, hs]; simp [zN])
   have no : (on.getD i false && inM w mode i) = false → Ev (fun k => monitor_player_come.c2 k mo to ru w.1 w.2.1 w.2.2.1 w.2.2.2 on um at' ev0 told q ev mode s (zN (evR w ev)) ((zN (evR w ev)).length : Int) ((j : Int) + 1)) r := fun hb => next _ (by
    rw [ht, List.filter_append, f1 _ hb, hs]; simp)
   refine Ev.yes (by omega) (Ev.yes (by omega) ?_)
   by_cases h1 : on.getD i false = true
   case neg => exact Ev.no h1 (no (by simp at h1; simp [h1]))
   refine Ev.yes h1 ?_
   by_cases h2 : (rul w i).2.2.1 = []
   ·exact Ev.yes (decide_eq_true h2) (Ev.yes (by omega) (yes (by rw [h1]; simp only [inM, decide_eq_true h2]; rfl)))
   refine Ev.no (fun h => h2 (of_decide_eq_true h)) ?_
   by_cases h3 : (rul w i).2.2.1 = mode
   ·exact Ev.yes (decide_eq_true h3) (Ev.yes (by omega) (yes (by rw [h1]; simp only [inM, decide_eq_true h3, Bool.or_true]; rfl)))
   ·exact Ev.no (fun h => h3 (of_decide_eq_true h)) (no (by simp only [inM, decide_eq_false h2, decide_eq_false h3, Bool.or_false, Bool.and_false]))) 0 [] (by omega) (by simp [zN])
 exact h
theorem comeP_ev (ok : RulesOk w) (hto : PTo w.2.1 to) (hru : PRu w (nRu w) ru) : ∀ (n : Nat) (mode : S) (s : OU) (um : List (S × Bool)) (told : List DFired) (q : List S), 10001 ≤ told.length + n → told.length ≤ 10000 → UM um s.2 → s.1.length = nRu w → q.length ≤ 10 * told.length + 1 →
 (comeM w at' n mode s told q = none ∧ ∃ p, Ev (fun k => monitor_player_come.c0 k mode to ru w.1 w.2.1 w.2.2.1 w.2.2.2 s.1 um at' ev0 told q) ([], (false, (p, ())))) ∨
 ∃ mode' s' told', comeM w at' n mode s told q = some (mode', (s', told')) ∧ told'.length ≤ 10000 ∧ s'.1.length = nRu w ∧ ∃ um', UM um' s'.2 ∧ Ev (fun k => monitor_player_come.c0 k mode to ru w.1 w.2.1 w.2.2.1 w.2.2.2 s.1 um at' ev0 told q) (told', (true, (plr w mode' to ru s'.1 um', ()))) := by
 have rl := ok.rl
 have hnR : nRu w = w.2.2.2.length := rfl
 intro n
 induction n with
 | zero => intro mode s um told q h1 h2; omega
 | succ n ih =>
  intro mode s um told q hn ht hum hon hq
  cases q with
  | nil => exact .inr ⟨mode, s, told, rfl, ht, hon, um, hum, Ev.step (fun k => monitor_player_come.c0_eq _ _ _ _ _ _ _ _ _ _ _ _ _ _) (Ev.no (by simp) (Ev.now _))⟩
  | cons ev q =>
   have hql : q.length ≤ 10 * told.length := by simp at hq; omega
   let s0 : RS := (s, (told ++ [(at', (ev, (mode, [])))], q))
   have hc : comeM w at' (n + 1) mode s told (ev :: q) = if 10000 < (evM w at' mode s told ev q).2.1.length then none else comeM w at' n (toM w.2.1 mode ev) (evM w at' mode s told ev q).1 (evM w at' mode s told ev q).2.1 (evM w at' mode s told ev q).2.2 := rfl
   -- up to the rules
   have pre : ∀ {r}, Ev (fun k => monitor_player_come.c3 k (toM w.2.1 mode ev) to ru w.1 w.2.1 w.2.2.1 w.2.2.2 s.1 um at' ev0 s0.2.1 s0.2.2 ev mode (zN (fireM w s.1 mode ev)) (((fireM w s.1 mode ev).length : Nat) : Int) 0) r →
    Ev (fun k => monitor_player_come.c0 k mode to ru w.1 w.2.1 w.2.2.1 w.2.2.2 s.1 um at' ev0 told (ev :: q)) r := fun {r} fin => by
    have c2 := collect_ev ok hon fin
    have c1 : Ev (fun k => monitor_player_come.c1 k (toM w.2.1 mode ev) to ru w.1 w.2.1 w.2.2.1 w.2.2.2 s.1 um at' ev0 s0.2.1 s0.2.2 ev mode) r := by
     refine Ev.step (fun k => monitor_player_come.c1_eq _ _ _ _ _ _ _ _ _ _ _ _ _ _ _ _) ?_
     rw [get_lk (σ := .sl (.int .i64)), hru ev]
     exact c2
    refine Ev.step (fun k => monitor_player_come.c0_eq _ _ _ _ _ _ _ _ _ _ _ _ _ _) (Ev.yes (decide_eq_true (by simp only [List.length_cons]; omega)) (Ev.yes (by simp only [List.length_cons]; omega) (Ev.yes (by simp only [List.length_cons]; omega) (Ev.yes (by omega) ?_))))
    show Ev (fun k => if mapHas (.pair .str .str) .str (mode, ev) to = true then _ else _) r
    rw [has_lk2, hto mode ev]
    unfold toM at c1
    cases he : toO w.2.1 mode ev none with
    | none =>
     rw [he] at c1
     exact Ev.no (by simp) c1
    | some x =>
     rw [he] at c1
     refine Ev.yes rfl ?_
     show Ev (fun k => monitor_player_come.c1 k (mapGet (.pair .str .str) .str (mode, ev) to []) to ru w.1 w.2.1 w.2.2.1 w.2.2.2 s.1 um at' ev0 _ _ ev mode) r
     rw [get_lk2, hto mode ev, he]
     exact c1
   have fl := fireM_len (w := w) s.1 mode ev
   have fe := fire_ev (w := w) (to := to) (ru := ru) (at' := at') (ev0 := ev0) ok (ev := ev) (mode := mode) (toM w.2.1 mode ev) (fireM w s.1 mode ev) [] s0 um (fun i hi => fireM_lt (by simpa using hi)) (by rw [List.nil_append]; omega) hum hon (by simp [s0]; omega) (by simp [s0]; omega)
   simp only [List.nil_append, List.length_nil] at fe
   have hM : (fireM w s.1 mode ev).foldl (ruleM w at' ev mode) s0 = evM w at' mode s told ev q := rfl
   rw [hM] at fe
   rcases fe with ⟨b1, p, b2⟩ | ⟨b1, um', b2, b3, b4⟩
   ·exact .inl ⟨by rw [hc, if_pos b1], p, pre b2⟩
   ·have hl2 : (evM w at' mode s told ev q).1.1.length = nRu w := ((rules_told (w := w) (at' := at') ev mode (fireM w s.1 mode ev) s0).2).trans hon
    have hl3 : told.length + 1 ≤ (evM w at' mode s told ev q).2.1.length := by
     have := (rules_told (w := w) (at' := at') ev mode (fireM w s.1 mode ev) s0).1
     rw [hM] at this
     simp only [s0, List.length_append, List.length_singleton] at this
     omega
    rcases ih (toM w.2.1 mode ev) (evM w at' mode s told ev q).1 um' (evM w at' mode s told ev q).2.1 (evM w at' mode s told ev q).2.2 (by omega) b1 b2 hl2 (by omega) with ⟨c1, p, c2⟩ | ⟨mode', s', told', c1, c2, c3, um2, c4, c5⟩
    ·exact .inl ⟨by rw [hc, if_neg (by omega)]; exact c1, p, pre (b4 _ c2)⟩
    ·exact .inr ⟨mode', s', told', by rw [hc, if_neg (by omega)]; exact c1, c2, c3, um2, c4, pre (b4 _ c5)⟩
theorem pcome_ev (ok : RulesOk w) (hto : PTo w.2.1 to) (hru : PRu w (nRu w) ru) (mode : S) (s : OU) (um : List (S × Bool)) (e : DEvent) (hum : UM um s.2) (hon : s.1.length = nRu w) :
 (comeM w e.1 10001 mode s [] [e.2] = none ∧ ∃ p, Ev (fun k => monitor_player_come.f k (plr w mode to ru s.1 um) e) ([], (false, (p, ())))) ∨
 ∃ mode' s' told', comeM w e.1 10001 mode s [] [e.2] = some (mode', (s', told')) ∧ told'.length ≤ 10000 ∧ s'.1.length = nRu w ∧ ∃ um', UM um' s'.2 ∧ Ev (fun k => monitor_player_come.f k (plr w mode to ru s.1 um) e) (told', (true, (plr w mode' to ru s'.1 um', ()))) := by
 rcases comeP_ev (at' := e.1) (ev0 := e.2) ok hto hru 10001 mode s um [] [e.2] (by simp) (by simp) hum hon (by simp) with ⟨c1, p, c2⟩ | ⟨mode', s', told', c1, c2, c3, um', c4, c5⟩
 ·exact .inl ⟨c1, p, Ev.eq (fun k => monitor_player_come.f_eq _ _ _) c2⟩
 ·exact .inr ⟨mode', s', told', c1, c2, c3, um', c4, Ev.eq (fun k => monitor_player_come.f_eq _ _ _) c5⟩
end
end Go.Proofs.Ytadhpgecilhgnaa.Pure

-- YtadhpgecilhgnaaQ12
set_option linter.unusedVariables false
set_option linter.unusedSimpArgs false
namespace Go.Proofs.Ytadhpgecilhgnaa.Pure
open Go Go.Proofs.Ytadhpgecilhgnaa.A

theorem put_in {l : List S} (hs : l.Pairwise lt1) {s : S} {k : Nat} (hk : k ≤ l.length) (h1 : ∀ x ∈ l.drop k, lt1 s x) (h2 : ∀ x ∈ l.take k, lt1 x s) :
 (l.take k ++ [s] ++ l.drop k).Pairwise lt1 ∧ ∀ x, x ∈ l.take k ++ [s] ++ l.drop k ↔ x = s ∨ x ∈ l := by
 constructor
 ·rw [List.append_assoc, List.pairwise_append]
  refine ⟨hs.sublist (List.take_sublist _ _), ?_, fun a ha b hb => ?_⟩
  ·rw [List.singleton_append, List.pairwise_cons]
   exact ⟨h1, hs.sublist (List.drop_sublist _ _)⟩
  ·rw [List.singleton_append] at hb
   rcases List.mem_cons.1 hb with e | hb
   ·rw [e]; exact h2 a ha
   ·exact less_trans (h2 a ha) (h1 b hb)
 ·intro x
  have : x ∈ l ↔ x ∈ l.take k ∨ x ∈ l.drop k := by
   conv => lhs; rw [← List.take_append_drop k l]
   rw [List.mem_append]
  rw [this]
  simp only [List.mem_append, List.mem_singleton]
  constructor
  ·rintro ((h | h) | h)
   ·exact .inr (.inl h)
   ·exact .inl h
   ·exact .inr (.inr h)
  ·rintro (h | h | h)
   ·exact .inl (.inr h)
   ·exact .inl (.inl h)
   ·exact .inr h
theorem inOrder_ev (l : List S) (s : S) (hl : l.length ≤ 1000000000) (hs : l.Pairwise lt1) (hn : s ∉ l) : ∃ r : List S, Ev (fun k => perigeeref8_inOrder.f k l s) (r, ()) ∧ r.Pairwise lt1 ∧ (∀ x, x ∈ r ↔ x = s ∨ x ∈ l) := by
 have ins : ∀ k : Nat, k ≤ l.length → Ev (fun _ : Nat => if (0 : Int) ≤ 0 ∧ (0 : Int) ≤ (k : Int) ∧ ((k : Int) : Int) ≤ (l.length : Int) then
  (if 0 + ((l.take ((k : Int)).toNat).drop 0).length ≤ 1099511627776 then
   (if ((l.take ((k : Int)).toNat).drop 0).length + 1 ≤ 1099511627776 then
    (if (0 : Int) ≤ (k : Int) ∧ ((k : Int) : Int) ≤ (l.length : Int) ∧ ((l.length : Int) : Int) ≤ (l.length : Int) then
     (if (((l.take ((k : Int)).toNat).drop 0) ++ [s]).length + ((l.take l.length).drop ((k : Int)).toNat).length ≤ 1099511627776 then
      some (((((l.take ((k : Int)).toNat).drop 0) ++ [s]) ++ ((l.take l.length).drop ((k : Int)).toNat)), ())
      else none)
     else none)
    else none)
   else none)
  else none) (l.take k ++ [s] ++ l.drop k, ()) := fun k hk => by
  have l1 : ((l.take ((k : Int)).toNat).drop 0).length ≤ 1000000000 := by rw [List.drop_zero, Int.toNat_natCast]; exact Nat.le_trans (List.length_take_le _ _) (by omega)
  have l2 : ((l.take l.length).drop ((k : Int)).toNat).length ≤ 1000000000 := by rw [List.take_length, List.length_drop]; omega
  refine Ev.yes (by omega) (Ev.yes (by omega) (Ev.yes (by omega) (Ev.yes (by omega) (Ev.yes (by rw [List.length_append]; simp only [List.length_cons, List.length_nil]; omega) (Ev.is ?_)))))
  rw [Int.toNat_natCast, List.drop_zero, List.take_length]
 have loop : ∀ k : Nat, k ≤ l.length → (∀ x ∈ l.drop k, lt1 s x) → ∃ r : List S, Ev (fun n => perigeeref8_inOrder.c0 n l s (k : Int)) (r, ()) ∧ r.Pairwise lt1 ∧ (∀ x, x ∈ r ↔ x = s ∨ x ∈ l) := by
  intro k
  induction k with
  | zero =>
   intro hk hd
   obtain ⟨p1, p2⟩ := put_in hs (k := 0) hk hd (fun x hx => by simp at hx)
   exact ⟨_, Ev.step (fun n => perigeeref8_inOrder.c0_eq _ _ _ _) (Ev.no (by simp) (Ev.no (by simp) (ins 0 hk))), p1, p2⟩
  | succ k ih =>
   intro hk hd
   have hw : IntKind.wrap .i64 (((k + 1 : Nat) : Int) - 1) = (k : Int) := by rw [w64 (by omega) (by omega)]; omega
   have hkl : k < l.length := by omega
   have hg := getD_nat ([] : S) l k hkl
   have hmem : l[k] ∈ l := List.getElem_mem hkl
   by_cases h1 : lessS s l[k] = true
   ·obtain ⟨r, r1, r2⟩ := ih (by omega) (fun x hx => by
     rw [List.drop_eq_getElem_cons hkl] at hx
     rcases List.mem_cons.1 hx with e | hx
     ·rw [e]; exact h1
     ·exact hd x hx)
    refine ⟨r, Ev.step (fun n => perigeeref8_inOrder.c0_eq _ _ _ _) (Ev.yes (decide_eq_true (by omega)) ?_), r2⟩
    rw [hw]
    simp only [Int.toNat_natCast, hg]
    exact Ev.yes (by omega) (Ev.yes h1 r1)
   ·have hne : l[k] ≠ s := fun e => hn (e ▸ hmem)
    have hlt : lt1 l[k] s := less_tri h1 (fun e => hne e.symm)
    obtain ⟨p1, p2⟩ := put_in hs (k := k + 1) hk hd (fun x hx => by
     rw [List.take_add_one, List.getElem?_eq_getElem hkl] at hx
     rcases List.mem_append.1 hx with hx | hx
     ·obtain ⟨j, hj, e⟩ := List.getElem_of_mem hx
      rw [List.getElem_take] at e
      have hj' : j < k := by rw [List.length_take] at hj; omega
      have := (List.pairwise_iff_getElem.1 hs) j k (by omega) hkl hj'
      rw [← e]
      exact less_trans this hlt
     ·simp at hx
      rw [hx]; exact hlt)
    refine ⟨_, Ev.step (fun n => perigeeref8_inOrder.c0_eq _ _ _ _) (Ev.yes (decide_eq_true (by omega)) ?_), p1, p2⟩
    rw [hw]
    simp only [Int.toNat_natCast, hg]
    have h0 := ins (k + 1) hk
    simp only [Int.toNat_natCast] at h0
    exact Ev.yes (by omega) (Ev.no h1 (Ev.yes (decide_eq_true (by omega)) (Ev.yes (by omega) (Ev.no (fun h => hne (of_decide_eq_true h)) h0))))
 obtain ⟨r, r1, r2, r3⟩ := loop l.length (Nat.le_refl _) (fun x hx => by rw [List.drop_length] at hx; cases hx)
 exact ⟨r, Ev.eq (fun k => perigeeref8_inOrder.f_eq _ _ _) r1, r2, r3⟩
section
variable {w : DWatch} {fr : S}
end
end Go.Proofs.Ytadhpgecilhgnaa.Pure

-- YtadhpgecilhgnaaQ44
set_option linter.unusedVariables false
set_option linter.unusedSimpArgs false
namespace Go.Proofs.Ytadhpgecilhgnaa.Pure
open Go Go.Proofs.Ytadhpgecilhgnaa.A
section
variable {w : DWatch}
theorem ruleOf_ev (ok : RulesOk w) {s : S} (h : ∃ j, j < nRu w ∧ (rul w j).1 = s) : ridx w s < nRu w ∧ Ev (fun k => perigeeref8_ruleOf.f k w s) ((ridx w s : Int), ()) := by
 have rl := ok.rl
 have hnR : nRu w = w.2.2.2.length := rfl
 obtain ⟨j, hj, hs⟩ := h
 have hr := (ridx_iff ok hj).1 hs
 refine ⟨by omega, ?_⟩
 have h := Ev.rng (σ := Unit) (Ty.dflt YWatchRule) w.2.2.2 (by omega) (g := fun k _ i => perigeeref8_ruleOf.c0 k s w.1 w.2.1 w.2.2.1 w.2.2.2 i) (fun k _ i => perigeeref8_ruleOf.c0_eq _ _ _ _ _ _ _)
  (fun i _ => i ≤ ridx w s) (fun _ _ _ => ((ridx w s : Int), ())) (fun _ hi => by omega) (fun i x xs _ hi hx hd hget hw hi0 next => by
   simp only [Int.toNat_natCast, hget, hw]
   have hxr : (rul w i).1 = x.1 := by unfold rul; rw [hget]
   by_cases e : x.1 = s
   ·have := (ridx_iff ok (show i < nRu w from hi)).1 (hxr.trans e)
    refine Ev.yes (decide_eq_true e) (Ev.is ?_)
    rw [this]
   ·refine Ev.no (fun h => e (of_decide_eq_true h)) (next () ?_)
    have : ridx w s ≠ i := fun h => e (hxr.symm.trans ((ridx_iff ok (show i < nRu w from hi)).2 h))
    omega) 0 () (by omega) (Nat.zero_le _)
 exact Ev.eq (fun k => perigeeref8_ruleOf.f_eq _ _ _) h
theorem without_ev (l : List S) (s : S) (hl : l.length ≤ 1000000000) : Ev (fun k => perigeeref8_without.f k l s) (l.filter (fun x => decide (x ≠ s)), ()) := by
 have h := Ev.rng (σ := List S) ([] : S) l (by omega) (g := fun k o i => perigeeref8_without.c0 k l s o i) (fun k o i => perigeeref8_without.c0_eq _ _ _ _ _)
  (fun i o => o = (l.take i).filter (fun x => decide (x ≠ s))) (fun _ _ _ => (l.filter (fun x => decide (x ≠ s)), ())) (fun o ho => by rw [ho, List.take_length]; exact Ev.now _) (fun i x xs o hi hx hd hget hw ho next => by
   simp only [Int.toNat_natCast, hget, hw]
   have hg : l[i]? = some x := by rw [List.getElem?_eq_getElem hi, ← hget, getD_nat _ _ _ hi]
   have ht : l.take (i + 1) = l.take i ++ [x] := by rw [List.take_add_one, hg]; rfl
   have hol : o.length ≤ 1000000000 := by
    rw [ho]
    have := List.length_filter_le (fun x => decide (x ≠ s)) (l.take i)
    rw [List.length_take] at this
    omega
   by_cases e : x = s
   ·refine Ev.no (by simp [e]) (next o ?_)
    rw [ht, List.filter_append, ← ho]
    simp [e]
   ·refine Ev.yes (by simp [e]) (Ev.yes (by omega) (Ev.yes (by omega) (next _ ?_)))
    rw [ht, List.filter_append, ← ho]
    simp [e]) 0 [] (by omega) (by simp)
 exact Ev.eq (fun k => perigeeref8_without.f_eq _ _ _) h
theorem inOrder_same (l : List S) (s : S) (hl : l.length ≤ 1000000000) (hs : l.Pairwise lt1) (hn : s ∈ l) : Ev (fun k => perigeeref8_inOrder.f k l s) (l, ()) := by
 have loop : ∀ k : Nat, k ≤ l.length → (∀ x ∈ l.drop k, lt1 s x) → Ev (fun n => perigeeref8_inOrder.c0 n l s (k : Int)) (l, ()) := by
  intro k
  induction k with
  | zero =>
   intro hk hd
   exact absurd rfl (less_ne (hd s (by simpa using hn)))
  | succ k ih =>
   intro hk hd
   have hw : IntKind.wrap .i64 (((k + 1 : Nat) : Int) - 1) = (k : Int) := by rw [w64 (by omega) (by omega)]; omega
   have hkl : k < l.length := by omega
   have hg := getD_nat ([] : S) l k hkl
   refine Ev.step (fun n => perigeeref8_inOrder.c0_eq _ _ _ _) (Ev.yes (decide_eq_true (by omega)) ?_)
   rw [hw]
   simp only [Int.toNat_natCast, hg]
   refine Ev.yes (by omega) ?_
   by_cases h1 : lessS s l[k] = true
   ·refine Ev.yes h1 (ih (by omega) fun x hx => ?_)
    rw [List.drop_eq_getElem_cons hkl] at hx
    rcases List.mem_cons.1 hx with e | hx
    ·rw [e]; exact h1
    ·exact hd x hx
   ·refine Ev.no h1 (Ev.yes (decide_eq_true (by omega)) (Ev.yes (by omega) ?_))
    by_cases e : l[k] = s
    ·exact Ev.yes (decide_eq_true e) (Ev.now _)
    ·exfalso
     have hlt : lt1 l[k] s := less_tri h1 (fun h => e h.symm)
     obtain ⟨j, hj, hjs⟩ := List.getElem_of_mem hn
     rcases Nat.lt_trichotomy j k with h | h | h
     ·have := (List.pairwise_iff_getElem.1 hs) j k hj hkl h
      rw [hjs] at this
      exact h1 this
     ·subst h; exact e hjs
     ·have : s ∈ l.drop (k + 1) := by
       rw [← hjs, List.mem_drop_iff_getElem]
       exact ⟨j - (k + 1), by omega, by congr 1; omega⟩
      exact less_ne (hd s this) rfl
 exact Ev.eq (fun k => perigeeref8_inOrder.f_eq _ _ _) (loop l.length (Nat.le_refl _) (fun x hx => by rw [List.drop_length] at hx; cases hx))
def UL (us : List S) (U : S → Bool) : Prop := us.Pairwise lt1 ∧ ∀ u, u ∈ us ↔ U u = true
theorem cact_ev (ok : RulesOk w) {i : Nat} (hi : i < nRu w) {a : DAct} (ha : a ∈ (rul w i).2.2.2.2) (mode : S) (on : List Bool) (us : List S) (told : List DFired) (U : S → Bool) (hon : on.length = nRu w) (hu : UL us U) (hl : us.length ≤ 900000000) :
 ∃ us', UL us' (actM w (on, U) a).2 ∧ us'.length ≤ us.length + 1 ∧ Ev (fun k => perigeeref8_craft_act.f k (w, (mode, (on, (us, told)))) a) (if a.1 = 1 then a.2.1 else [], ((w, (mode, ((actM w (on, U) a).1, (us', told)))), ())) := by
 obtain ⟨⟨k1, k2⟩, _⟩ := (ok.ac i hi).2.2 a ha
 by_cases h1 : a.1 = 1
 ·refine ⟨us, by simp only [actM, if_pos h1]; exact hu, by omega, Ev.eq (fun k => perigeeref8_craft_act.f_eq _ _ _) (Ev.yes (decide_eq_true h1) (Ev.is ?_))⟩
  rw [if_pos h1]
  simp only [actM, if_pos h1]
 have n1 : ¬ decide (a.1 = 1) = true := fun h => h1 (of_decide_eq_true h)
 rw [if_neg h1]
 by_cases h2 : a.1 = 2
 ·have h23 : a.1 = 2 ∨ a.1 = 3 := .inl h2
  obtain ⟨r1, r2⟩ := ruleOf_ev ok (ok.rn i hi a ha h23)
  refine ⟨us, by simp only [actM, if_neg h1, if_pos h23]; exact hu, by omega, Ev.eq (fun k => perigeeref8_craft_act.f_eq _ _ _) (Ev.no n1 (Ev.yes (decide_eq_true h2) (Ev.bind r2 (Ev.yes (by simp only; omega) (Ev.is ?_)))))⟩
  simp only [actM, if_neg h1, if_pos h23, Int.toNat_natCast]
 have n2 : ¬ decide (a.1 = 2) = true := fun h => h2 (of_decide_eq_true h)
 by_cases h3 : a.1 = 3
 ·have h23 : a.1 = 2 ∨ a.1 = 3 := .inr h3
  obtain ⟨r1, r2⟩ := ruleOf_ev ok (ok.rn i hi a ha h23)
  refine ⟨us, by simp only [actM, if_neg h1, if_pos h23]; exact hu, by omega, Ev.eq (fun k => perigeeref8_craft_act.f_eq _ _ _) (Ev.no n1 (Ev.no n2 (Ev.yes (decide_eq_true h3) (Ev.bind r2 (Ev.yes (by simp only; omega) (Ev.is ?_))))))⟩
  simp only [actM, if_neg h1, if_pos h23, Int.toNat_natCast]
 have n3 : ¬ decide (a.1 = 3) = true := fun h => h3 (of_decide_eq_true h)
 have h23 : ¬ (a.1 = 2 ∨ a.1 = 3) := fun h => h.elim h2 h3
 have h4 : a.1 = 4 := by omega
 simp only [actM, if_neg h1, if_neg h23]
 by_cases ho : a.2.2 = true
 ·refine ⟨us.filter (fun x => decide (x ≠ a.2.1)), ⟨hu.1.sublist List.filter_sublist, fun u => ?_⟩, Nat.le_succ_of_le (List.length_filter_le _ _), Ev.eq (fun k => perigeeref8_craft_act.f_eq _ _ _) (Ev.no n1 (Ev.no n2 (Ev.no n3 (Ev.yes (decide_eq_true h4) (Ev.yes ho (Ev.bind (without_ev us a.2.1 (by omega)) (Ev.now _)))))))⟩
  rw [List.mem_filter, hu.2]
  by_cases e : u = a.2.1
  ·simp [e, ho]
  ·simp [e]
 ·have ho' : a.2.2 = false := by simpa using ho
  have mem : ∀ u, ((if u = a.2.1 then !a.2.2 else U u) = true ↔ u = a.2.1 ∨ u ∈ us) := fun u => by
   rw [hu.2]
   by_cases e : u = a.2.1
   ·simp [e, ho']
   ·simp [e]
  by_cases hin : a.2.1 ∈ us
  ·refine ⟨us, ⟨hu.1, fun u => ?_⟩, by omega, Ev.eq (fun k => perigeeref8_craft_act.f_eq _ _ _) (Ev.no n1 (Ev.no n2 (Ev.no n3 (Ev.yes (decide_eq_true h4) (Ev.no ho (Ev.bind (inOrder_same us a.2.1 (by omega) hu.1 hin) (Ev.now _)))))))⟩
   rw [mem]
   exact ⟨.inr, fun h => h.elim (fun h => h ▸ hin) id⟩
  ·obtain ⟨r, r1, r2, r3⟩ := inOrder_ev us a.2.1 (by omega) hu.1 hin
   refine ⟨r, ⟨r2, fun u => by rw [mem, r3]⟩, ?_, Ev.eq (fun k => perigeeref8_craft_act.f_eq _ _ _) (Ev.no n1 (Ev.no n2 (Ev.no n3 (Ev.yes (decide_eq_true h4) (Ev.no ho (Ev.bind r1 (Ev.now _)))))))⟩
   have := nodup_len (l := r) (m := a.2.1 :: us) (sorted_nodup r2) fun y hy => by
    rcases (r3 y).1 hy with h | h
    ·rw [h]; simp
    ·simp [h]
   simpa using this
end
end Go.Proofs.Ytadhpgecilhgnaa.Pure
