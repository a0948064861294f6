/- A watch is read as it was written, and the text of what was read is the text: for every watch and text the law returns true. The row lists two package-level variables with what they hold; the card ties them to the pruned copy of the program's text. -/
import Derived.Below
import Derived.ChangeArms
import Derived.ChangeSlices
import Derived.DataElems
import Derived.DataReads
import Derived.Shelf.LaysM
import Derived.Shelf.Small.Strs
import Derived.Shelf.Strings.Builder1
import Derived.Shelf.Strings.Builder2
import Derived.Shelf.Strings.BuilderF
import Derived.Shelf.Strings.BuilderK
import Derived.Shelf.Strings.Count
import Derived.Shelf.Strings.Cut
import Derived.Shelf.Strings.OnBuilder
import Derived.Shelf.Strings.Search1
import Derived.Shelf.Strings.Search2
import Derived.Shelf.Strings.Search3
import Derived.Shelf.Strings.Shaped
import Derived.Shelf.Unicode.DecodeSlow
import Derived.SizedLaws
import Derived.Test.YtadhpgecilhgnaaDoorProg
import Derived.WideShapes
import Derived.Test.YtadhpgecilhgnaaDoorCWatchesTextsComeBack3
-- YtadhpgecilhgnaaDoorFn1
set_option linter.unusedVariables false
set_option linter.unusedSimpArgs false
namespace Go.Proofs.YtadhpgecilhgnaaDoor.A
open Go

def wrapV : Ty → Value → Value
 | .clo f b _, p => cloV f b p
 | _, p => p
def ArgRep (fr : Nat → List Value × List Value) (Z : Nat → Prop) (w : World) (io : Bool) (τ : Ty) (x : τ.den) (v : Value) (F : List Nat) : Prop :=
 match io with
 | true => ∃ b el cs F', v = wrapV τ (.pointer (some ⟨b, (fr b).1.length, none⟩)) ∧ F = b :: F' ∧ w.heap[b]? = some (.cells ((fr b).1 ++ cs ++ (fr b).2).toArray el (0, 0)) ∧ Rep Z w τ x cs F'
 | false => ∃ cs, IsV (!τ.one) cs v ∧ Rep Z w τ x cs F
def ArgsRep (fr : Nat → List Value × List Value) (Z : Nat → Prop) (w : World) : (ps : List (Bool × Ty)) → (ps.foldr (fun p t => Ty.pair p.2 t) .unit).den → List Value → List Nat → Prop
 | [], _, vs, F => vs = [] ∧ F = []
 | p :: ps, x, vs, F => ∃ v vs' F1 F2, vs = v :: vs' ∧ F = F1 ++ F2 ∧ ArgRep fr Z w p.1 p.2 x.1 v F1 ∧ ArgsRep fr Z w ps x.2 vs' F2
def ResL (Z : Nat → Prop) (w : World) : (outs : List Ty) → (outs.foldr Ty.pair .unit).den → List Value → List Nat → Prop
 | [], _, vs, F => vs = [] ∧ F = []
 | τ :: outs, x, vs, F => ∃ v vs' F1 F2, vs = v :: vs' ∧ F = F1 ++ F2 ∧ (∃ cs, IsV (!τ.one) cs v ∧ Rep Z w τ x.1 cs F1) ∧ ResL Z w outs x.2 vs' F2
def tupOf : List Value → Value
 | [v] => v
 | vs => .tuple vs.toArray
def IoRep (fr : Nat → List Value × List Value) (Z : Nat → Prop) (w : World) : (ps : List (Bool × Ty)) → (((ps.filter (·.1)).map (·.2)).foldr Ty.pair .unit).den → List Value → List Nat → Prop
 | [], _, _, F => F = []
 | (false, _) :: ps, x, vs, F => IoRep fr Z w ps x vs.tail F
 | (true, τ) :: ps, x, vs, F => ∃ b el cs F1 F2, vs.head? = some (wrapV τ (.pointer (some ⟨b, (fr b).1.length, none⟩))) ∧ F = (b :: F1) ++ F2 ∧ w.heap[b]? = some (.cells ((fr b).1 ++ cs ++ (fr b).2).toArray el (0, 0)) ∧ Rep Z w τ x.1 cs F1 ∧ IoRep fr Z w ps x.2 vs.tail F2

structure Post (fr : Nat → List Value × List Value) (Z : Nat → Prop) (w : World) (Fs : List Nat) (F : FunE) (vs : List Value) (r : ((F.outs ++ (F.ins.filter (·.1)).map (·.2)).foldr Ty.pair .unit).den) (v : Value) (w' : World) (Z' : Nat → Prop) (us : List Value) (Fr Fi : List Nat) : Prop where
 kp : Kept Fs w w'
 zs : ∀ b, Z b → Z' b
 zl : ∀ b, Z' b → b < w'.heap.size
 zi : ∀ b, Z' b → b < w.heap.size → Z b ∨ b ∈ Fs
 res : ResL Z' w' F.outs (splitRes F.outs _ r).1 us Fr
 v : v = tupOf us
 io : IoRep fr Z' w' F.ins (splitRes F.outs _ r).2 vs Fi
 nd : (Fi ++ Fr).Nodup
 nz : ∀ b ∈ Fi ++ Fr, ¬ Z' b ∧ b < w'.heap.size ∧ (b < w.heap.size → b ∈ Fs)
def FunOk (P : Program) (f : FuncId) (F : FunE) : Prop := ∀ (fr : Nat → List Value × List Value) (Z : Nat → Prop) (w : World) (xs : (F.ins.foldr (fun p t => Ty.pair p.2 t) .unit).den) (vs : List Value) (Fs : List Nat) (r : ((F.outs ++ (F.ins.filter (·.1)).map (·.2)).foldr Ty.pair .unit).den),
 (∀ b, Z b → b < w.heap.size) → ArgsRep fr Z w F.ins xs vs Fs → Fs.Nodup → (∀ b ∈ Fs, ¬ Z b ∧ b < w.heap.size) → F.f xs = some r →
 Calls P f vs.toArray w fun e w' => ∃ v Z' us Fr Fi, e = .returned v ∧ Post fr Z w Fs F vs r v w' Z' us Fr Fi

section
variable {P : Program} {B : Base} {m m' m0 : Md} {H H' : Hp} {w w' : World} {o : Oper} {a : Act} {E : Env} {tab : Nat → Option TI} {L : List Nat} {Z1 : Nat → Prop} {Hs : Hp}

theorem slAs_ok {e' e : Ty} {xs : List e'.den} {ys : List e.den} (h : slAs e' e xs = some ys) : e'.pure = true ∧ castTo (.sl e') (.sl e) xs = some ys := by
 unfold slAs at h
 split at h
 ·rename_i hp; exact ⟨hp, h⟩
 ·cases h
theorem slAz_ok {Z Z' : Nat → Prop} {e' e : Ty} {xs : List e'.den} {ys : List e.den} {cs : List Value} {F : List Nat} (h : slAz e' e xs = some ys) (hr : Rep Z w (.vec e') xs cs F) (hs : ∀ b, Z b → Z' b) (hF : ∀ b ∈ F, Z' b) : Rep Z' w (.sl e) ys cs [] := by
 unfold slAz at h
 split at h
 ·rename_i hp
  obtain ⟨e, he⟩ := castTo_eq h
  cases e; subst he
  exact Rep.vec_sl hp hr hs hF
 ·split at h
  ·rename_i hp
   obtain ⟨e, he⟩ := castTo_eq h
   cases e; subst he
   exact Rep.freeze hs (τ := .vec e') hp hr hF
  ·cases h
def Sub (Hs H : Hp) : Prop := ∀ id, Hs id = .absent ∨ Hs id = H id
theorem Sub.get {Hs H : Hp} (h : Sub Hs H) {id : Nat} {c : Cell} (hc : Hs id = c) (hn : c ≠ .absent) : H id = c := by
 rcases h id with e | e
 ·exact absurd (hc.symm.trans e) hn
 ·rw [← e]; exact hc
theorem Sub.refl (H : Hp) : Sub H H := fun _ => .inr rfl
theorem only_sub {L : List Nat} {H : Hp} : Sub (only H L) H := fun id => by
 unfold only
 split
 ·exact .inr rfl
 ·exact .inl rfl
theorem as_ok (hS : Sub Hs H) (hh : HOk B m H w) {τ : Ty} {l : LV} {x : τ.den} {c : Value} (h : l.as (Hs) τ = some x) (hl : LRep m w H l c) (h1 : τ.one = true) (hz : ∀ b, m.Z b → Z1 b) (hr : ∀ id ∈ slRd l, (H id).Live → ∀ b ∈ m.ft id, Z1 b) : Rep Z1 w τ x [c] [] := by
 have fr : ∀ {τ : Ty} {x : τ.den} {cs : List Value}, Rep m.Z w τ x cs [] → Rep Z1 w τ x cs [] := fun h => h.frame (fun _ _ => rfl) hz (by simp)
 unfold LV.as at h
 split at h
 ·obtain ⟨e, he⟩ := castTo_eq h
  subst e; subst he; exact fr hl
 ·split at h
  ·cases h
   simp only [LRep] at hl
   subst hl
   exact ⟨rfl, by simp, none, 0, rfl, by simp, .inl rfl⟩
  ·cases h
   simp only [LRep] at hl
   subst hl
   exact ⟨by simp, none, 0, [], [], [], rfl, by simp, rfl, ⟨rfl, rfl⟩, .inl ⟨rfl, rfl, rfl, rfl⟩⟩
  ·cases h
   simp only [LRep] at hl
   subst hl
   exact ⟨rfl, rfl⟩
  ·cases h
   simp only [LRep] at hl
   subst hl
   exact ⟨fun _ => rfl, rfl, by simp, none, 0, rfl, by simp, .inl rfl⟩
  ·cases h
 ·rename_i id
  split at h
  ·split at h
   ·rename_i e' xs hx
    have hx := hS.get hx (by simp)
    have hL : (H id).Live := by rw [hx]; trivial
    have hcr := hh.cr id
    rw [hx] at hcr
    rw [hl.2.1 _ _ hx]
    exact slAz_ok h hcr hz (hr id (by simp [slRd]) hL)
   ·rename_i e' xs hx
    obtain ⟨hp, hc⟩ := slAs_ok h
    obtain ⟨e, he⟩ := castTo_eq hc
    cases e; subst he
    have hx := hS.get hx (by simp)
    have hcr := hh.cr id
    rw [hx] at hcr
    rw [hl.2.2 _ _ hx]
    exact fr hcr
   ·cases h
  ·cases h
 ·rename_i e' xs
  obtain ⟨e, he⟩ := castTo_eq h
  subst e; subst he; exact fr (τ := .sl e') hl
 ·rename_i id
  split at h
  ·split at h
   ·rename_i k' e' mm hx
    obtain ⟨e, he⟩ := castTo_eq h
    cases e; subst he
    have hx := hS.get hx (by simp)
    have hL : (H id).Live := by rw [hx]; trivial
    have hcr := hh.cr id
    rw [hx] at hcr
    rw [hl.2.1 _ _ _ hx]
    exact Rep.map_fmap hcr hz (hr id (by simp [slRd]) hL)
   ·rename_i k' e' mm hx
    obtain ⟨e, he⟩ := castTo_eq h
    cases e; subst he
    have hx := hS.get hx (by simp)
    have hcr := hh.cr id
    rw [hx] at hcr
    rw [hl.2.2 _ _ _ hx]
    exact fr hcr
   ·cases h
  ·cases h
 ·rename_i id g off
  split at h
  ·split at h
   ·rename_i g' ls hx
    split at h
    ·rename_i e' xs hg hls
     obtain rfl := Nat.eq_of_beq_eq_true hg
     have hx := hS.get hx (by simp)
     have hL : (H id).Live := by rw [hx]; trivial
     obtain ⟨b, qb, u, G, k1, k2, k3, k4⟩ := cells_leaf hh hx hls
     obtain ⟨b', qb', k5, k6⟩ := hl.2.2 _ _ _ hx hls
     rw [k1] at k5; cases k5
     rw [k2] at k6; cases k6
     exact slAz_ok h k3 hz fun b hb => hr id (by simp [slRd]) hL b (k4 b hb)
    ·cases h
   ·cases h
  ·cases h
 ·cases h
theorem asm1_ok (hS : Sub Hs H) (hh : HOk B m H w) {τ : Ty} (h1 : τ.one = true) {ls r : List LV} {x : τ.den} {cs : List Value} (h : asm1 (Hs) τ ls = some (x, r)) (hl : All2 (LRep m w H) ls cs) (hz : ∀ b, m.Z b → Z1 b) (hr : ∀ id ∈ slRds ls, (H id).Live → ∀ b ∈ m.ft id, Z1 b) :
 ∃ c1 c2, cs = c1 ++ c2 ∧ Rep Z1 w τ x c1 [] ∧ All2 (LRep m w H) r c2 ∧ ∀ id ∈ slRds r, id ∈ slRds ls := by
 cases ls with
 | nil => cases h
 | cons l ls =>
  cases cs with
  | nil => exact hl.elim
  | cons c cs =>
   simp only [asm1] at h
   split at h
   ·rename_i y hy
    cases h
    exact ⟨[c], cs, rfl, as_ok hS hh hy hl.1 h1 hz (fun id hid => hr id (by simp [slRds, hid])), hl.2, fun id hid => by simp [slRds, hid]⟩
   ·cases h
theorem asm_ok (hS : Sub Hs H) (hh : HOk B m H w) (hz : ∀ b, m.Z b → Z1 b) : ∀ {τ : Ty} {ls r : List LV} {x : τ.den} {cs : List Value}, asm (Hs) τ ls = some (x, r) → All2 (LRep m w H) ls cs → (∀ id ∈ slRds ls, (H id).Live → ∀ b ∈ m.ft id, Z1 b) →
 ∃ c1 c2, cs = c1 ++ c2 ∧ Rep Z1 w τ x c1 [] ∧ All2 (LRep m w H) r c2 ∧ ∀ id ∈ slRds r, id ∈ slRds ls := by
 intro τ
 induction τ with
 | unit => intro ls r x cs h hl hr; cases h; exact ⟨[], cs, rfl, ⟨rfl, rfl⟩, hl, fun _ h => h⟩
 | pair a b iha ihb =>
  intro ls r x cs h hl hr
  simp only [asm] at h
  split at h
  ·rename_i y ls' h1
   split at h
   ·rename_i z ls'' h2
    cases h
    obtain ⟨c1, c2, e1, g1, g2, g3⟩ := iha h1 hl hr
    obtain ⟨c3, c4, e2, g4, g5, g6⟩ := ihb h2 g2 fun id hid => hr id (g3 id hid)
    exact ⟨c1 ++ c3, c4, by rw [e1, e2, List.append_assoc], ⟨c1, c3, [], [], rfl, rfl, g1, g4⟩, g5, fun id hid => g3 id (g6 id hid)⟩
   ·cases h
  ·cases h
 | bool => intro ls r x cs h hl hr; exact asm1_ok hS hh rfl h hl hz hr
 | int k => intro ls r x cs h hl hr; exact asm1_ok hS hh rfl h hl hz hr
 | str => intro ls r x cs h hl hr; exact asm1_ok hS hh rfl h hl hz hr
 | sl e _ => intro ls r x cs h hl hr; exact asm1_ok hS hh rfl h hl hz hr
 | vec e _ => intro ls r x cs h hl hr; exact asm1_ok hS hh rfl h hl hz hr
 | map k e _ _ => intro ls r x cs h hl hr; exact asm1_ok hS hh rfl h hl hz hr
 | fnv f => intro ls r x cs h hl hr; exact asm1_ok hS hh rfl h hl hz hr
 | nil => intro ls r x cs h hl hr; exact asm1_ok hS hh rfl h hl hz hr
 | ptr e _ => intro ls r x cs h hl hr; exact asm1_ok hS hh rfl h hl hz hr
 | fmap k e _ _ => intro ls r x cs h hl hr; exact asm1_ok hS hh rfl h hl hz hr
 | mapb k e _ _ => intro ls r x cs h hl hr; exact asm1_ok hS hh rfl h hl hz hr
 | nsl e _ => intro ls r x cs h hl hr; exact asm1_ok hS hh rfl h hl hz hr
 | clo f b e ih => intro ls r x cs h hl hr; exact ih (x := x) h hl hr
theorem asmAll_ok (hS : Sub Hs H) (hh : HOk B m H w) (hz : ∀ b, m.Z b → Z1 b) {τ : Ty} {ls : List LV} {x : τ.den} {cs : List Value} (h : asmAll (Hs) τ ls = some x) (hl : All2 (LRep m w H) ls cs) (hr : ∀ id ∈ slRds ls, (H id).Live → ∀ b ∈ m.ft id, Z1 b) : Rep Z1 w τ x cs [] := by
 unfold asmAll at h
 split at h
 ·rename_i y h1
  cases h
  obtain ⟨c1, c2, e, g1, g2, _⟩ := asm_ok hS hh hz h1 hl hr
  cases c2 with
  | nil => rw [e, List.append_nil]; exact g1
  | cons _ _ => exact g2.elim
 ·cases h

theorem ownIn_ok (hS : Sub Hs H) (hh : HOk B m H w) (hz : ∀ b, m.Z b → Z1 b) {τ : Ty} {g : Bool} {ls : List LV} {x : τ.den} {v : Value} (h : ownIn (Hs) τ g ls = some x) (hv : PRep m w H (g, ls) v) (hr : ∀ id ∈ argRd false τ (.val g ls), (H id).Live → ∀ b ∈ m.ft id, Z1 b) :
 (∃ cs, IsV (!τ.one) cs v ∧ Rep Z1 w τ x cs ((ownArg false τ (.val g ls)).flatMap m.ft)) ∧ ∀ id ∈ ownArg false τ (.val g ls), (H id).Live := by
 unfold ownIn at h
 split at h
 ·rename_i hg
  have hg : g = !τ.one := by simpa using hg
  split at h
  ·rename_i e id hg1
   split at h
   ·rename_i e' xs hx
    obtain ⟨he, hxs⟩ := castTo_eq h
    cases he
    have hxs : xs = x := hxs
    subst hxs
    obtain ⟨cs, h1, h2⟩ := hv
    have h1 : IsV g cs v := h1
    have h2 : All2 (LRep m w H) [.row id] cs := h2
    have hx := hS.get hx (by simp)
    have hL : (H id).Live := by rw [hx]; trivial
    have hg0 : g = false := hg
    subst hg0
    have hv1 := AVRep.one (v := v) (m := m) (w := w) (H := H) (l := .row id) ⟨cs, h1, h2⟩
    have hcr := hh.cr id
    rw [hx] at hcr
    refine ⟨⟨[v], rfl, ?_⟩, ?_⟩
    ·simp only [ownArg, ownV, List.flatMap_cons, List.flatMap_nil, List.append_nil]
     rw [hv1.2.1 _ _ hx]
     exact Rep.frame (fun _ _ => rfl) hz (fun _ _ => rfl) hcr
    ·simp [ownArg, ownV, hL]
   ·cases h
  ·rename_i k e id hg1
   split at h
   ·rename_i g0 k' e' mm hx
    obtain ⟨he, hxs⟩ := castTo_eq h
    cases he
    have hxs : mm = x := hxs
    subst hxs
    obtain ⟨cs, h1, h2⟩ := hv
    have h1 : IsV g cs v := h1
    have h2 : All2 (LRep m w H) [.mbr id] cs := h2
    have hx := hS.get hx (by simp)
    have hL : (H id).Live := by rw [hx]; trivial
    have hg0 : g = false := hg
    subst hg0
    have hv1 := AVRep.one (v := v) (m := m) (w := w) (H := H) (l := .mbr id) ⟨cs, h1, h2⟩
    have hcr := hh.cr id
    rw [hx] at hcr
    refine ⟨⟨[v], rfl, ?_⟩, ?_⟩
    ·simp only [ownArg, ownV, List.flatMap_cons, List.flatMap_nil, List.append_nil]
     rw [hv1.2 _ _ _ _ _ hx]
     obtain ⟨b, ents, clock, F', q1, q2, q3, q4, q5⟩ := hcr
     refine Rep.frame (τ := .mapb k e) (fun _ _ => rfl) hz (fun _ _ => rfl) ⟨b, ents, clock, F', by rw [q1], q2, q3, q4, q5⟩
    ·simp [ownArg, ownV, hL]
   ·cases h
  ·rename_i hne hne2
   have ho : ownArg false τ (.val g ls) = [] := by
    show ownV τ (.val g ls) = []
    unfold ownV
    split
    ·rename_i id heq
     simp only [AV.val.injEq] at heq
     obtain ⟨_, rfl⟩ := heq
     cases τ <;> first | rfl | (simp [asmAll, asm, asm1, LV.as] at h)
    ·rename_i id heq
     simp only [AV.val.injEq] at heq
     obtain ⟨_, rfl⟩ := heq
     split
     ·exact absurd rfl (hne _ _ rfl)
     ·rfl
    ·rename_i id heq
     simp only [AV.val.injEq] at heq
     obtain ⟨_, rfl⟩ := heq
     split
     ·exact absurd rfl (hne2 _ _ _ rfl)
     ·rfl
    ·rfl
   have ho2 : argRd false τ (.val g ls) = slRds ls := by unfold argRd; rw [ho]
   rw [ho2] at hr
   rw [ho]
   obtain ⟨cs, h1, h2⟩ := hv
   exact ⟨⟨cs, by rw [← hg]; exact h1, asmAll_ok hS hh hz h h2 hr⟩, by simp⟩
 ·cases h
end
end Go.Proofs.YtadhpgecilhgnaaDoor.A

-- YtadhpgecilhgnaaDoorFn2
set_option linter.unusedVariables false
set_option linter.unusedSimpArgs false
namespace Go.Proofs.YtadhpgecilhgnaaDoor.A
open Go
section
variable {P : Program} {B : Base} {m m' m0 : Md} {H H' : Hp} {w w' : World} {o : Oper} {a : Act} {E : Env} {tab : Nat → Option TI} {T : Nat → Option FunE} {L : List Nat} {Z1 Zf : Nat → Prop} {fr : Nat → List Value × List Value}

theorem wrapV_inj {τ : Ty} {p q : Value} (h : wrapV τ p = wrapV τ q) : p = q := by
 cases τ <;> first | exact h | skip
 rename_i f b e
 cases b <;> simpa [wrapV, cloV] using h
theorem ioId_ok {τ : Ty} {v : AV} {u : Value} {id g b q : Nat} {ls : List LV} (h : ioId τ v = some id) (hv : AVRep m w H v u) (hx : H id = .live (.cells g ls)) (hb : m.hd id = .pointer (some ⟨b, q, none⟩)) : u = wrapV τ (.pointer (some ⟨b, q, none⟩)) := by
 unfold ioId at h
 split at h
 ·rename_i f b0 _ f' b' id'
  split at h
  ·rename_i hc
   cases h
   simp only [Bool.and_eq_true, beq_iff_eq] at hc
   obtain ⟨h1, rfl⟩ := hc
   obtain rfl := Nat.eq_of_beq_eq_true h1
   obtain ⟨bb, o, e1, e2⟩ := hv.one.2 _ _ hx
   rw [hb] at e1; cases e1
   exact e2
  ·cases h
 ·cases h
 ·rename_i hn
  cases h
  obtain ⟨bb, o, e1, e2⟩ := hv.one.2 _ _ hx
  rw [hb] at e1; cases e1
  rw [e2]
  cases τ <;> first | rfl | exact (hn _ _ _ rfl).elim
 ·cases h
def FrOk (B : Base) (m : Md) (H : Hp) (fr : Nat → List Value × List Value) (ids : List Nat) : Prop := ∀ id ∈ ids, ∀ g ls b q, H id = .live (.cells g ls) → m.hd id = .pointer (some ⟨b, q, none⟩) → fr b = frm B g b
theorem args_ok (hh : HOk B m H w) (hz : ∀ b, m.Z b → Z1 b) : ∀ {ps : List (Bool × Ty)} {as_ : List AV} {vs : List Value} {xs : (ps.foldr (fun p t => Ty.pair p.2 t) .unit).den}, argsIn (only H L) ps as_ = some xs → All2 (AVRep m w H) as_ vs →
 (∀ id ∈ rdIds ps as_, (H id).Live → ∀ b ∈ m.ft id, Z1 b) → FrOk B m H fr (argOwns ps as_) → ArgsRep fr Z1 w ps xs vs ((argOwns ps as_).flatMap m.ft) ∧ ∀ id ∈ argOwns ps as_, (H id).Live
 | [], [], vs, xs, _, hv, _, _ => by
  have : vs = [] := by cases vs with | nil => rfl | cons _ _ => exact hv.elim
  subst this
  exact ⟨⟨rfl, rfl⟩, by simp [argOwns]⟩
 | [], _ :: _, _, _, h, _, _, _ => by cases h
 | _ :: _, [], _, _, h, _, _, _ => by cases h
 | p :: ps, a :: as_, [], _, _, hv, _, _ => hv.elim
 | p :: ps, a :: as_, v :: vs, xs, h, hv, hr, hfr => by
  simp only [argsIn] at h
  split at h
  ·rename_i x xs' hx hxs
   cases h
   obtain ⟨g1, g2⟩ := args_ok hh hz hxs hv.2 (fun id hid => hr id (by simp [rdIds, hid])) (fun id hid => hfr id (by simp [argOwns, hid]))
   have hr1 : ∀ id ∈ argRd p.1 p.2 a, (H id).Live → ∀ b ∈ m.ft id, Z1 b := fun id hid => hr id (by simp [rdIds, hid])
   have hfr1 : FrOk B m H fr (ownArg p.1 p.2 a) := fun id hid => hfr id (by simp [argOwns, hid])
   have key : ArgRep fr Z1 w p.1 p.2 x v ((ownArg p.1 p.2 a).flatMap m.ft) ∧ ∀ id ∈ ownArg p.1 p.2 a, (H id).Live := by
    obtain ⟨io, τ⟩ := p
    simp only at hx hr1 hfr1 ⊢
    unfold argIn at hx
    split at hx
    ·split at hx
     rotate_left
     ·cases hx
     rename_i id hid
     split at hx
     ·rename_i g ls hc
      have hc := live_of_only hc
      have hL : (H id).Live := by rw [hc]; trivial
      have hcr := hh.cr id
      rw [hc] at hcr
      obtain ⟨b, el, cs, F', k1, k2, k3, k4⟩ := hcr
      have k6 := ioId_ok hid hv.1 hc k1
      have hf := hfr1 id (by simp [ownArg, hid]) _ _ _ _ hc k1
      refine ⟨⟨b, el, cs, F', by rw [hf]; exact k6, by simp [ownArg, hid, k2], by rw [hf]; exact k3, Rep.frame (fun _ _ => rfl) hz (fun _ _ => rfl) (asmAllO hx k4)⟩, by simp [ownArg, hid, hL]⟩
     ·cases hx
    ·split at hx
     ·rename_i g ls
      exact ownIn_ok only_sub hh hz hx hv.1 hr1
     ·cases hx
   refine ⟨⟨v, vs, _, _, rfl, ?_, key.1, g1⟩, fun id hid => ?_⟩
   ·simp [argOwns, List.flatMap_append]
   ·simp only [argOwns, List.mem_append] at hid
    exact hid.elim (key.2 id) (g2 id)
  ·cases h

structure Upd where
 id : Nat
 ob : Obj
 hd : Value
 F : List Nat
def Md.sets (m : Md) (Z : Nat → Prop) (us : List Upd) : Md :=
 { Z := Z, hd := fun k => (match us.find? (fun u => u.id == k) with | some u => u.hd | none => m.hd k), ft := fun k => (match us.find? (fun u => u.id == k) with | some u => u.F | none => m.ft k) }
theorem find_upd : ∀ {us : List Upd}, (us.map (·.id)).Nodup → ∀ {u : Upd}, u ∈ us → us.find? (fun v => v.id == u.id) = some u
 | v :: us, hn, u, hu => by
  simp only [List.map_cons, List.nodup_cons] at hn
  rcases List.mem_cons.1 hu with rfl | hu
  ·simp
  ·have : v.id ≠ u.id := fun e => hn.1 (e ▸ List.mem_map.2 ⟨u, hu, rfl⟩)
   rw [List.find?_cons_of_neg (by simpa using this)]
   exact find_upd hn.2 hu
theorem sets_in {us : List Upd} (hn : (us.map (·.id)).Nodup) {u : Upd} (hu : u ∈ us) : (m.sets Z1 us).hd u.id = u.hd ∧ (m.sets Z1 us).ft u.id = u.F := by
 simp only [Md.sets, find_upd hn hu, and_self]
theorem sets_out {us : List Upd} {k : Nat} (hk : k ∉ us.map (·.id)) : (m.sets Z1 us).hd k = m.hd k ∧ (m.sets Z1 us).ft k = m.ft k := by
 have : us.find? (fun u => u.id == k) = none := by
  rw [List.find?_eq_none]
  intro u hu he
  exact hk (List.mem_map.2 ⟨u, hu, by simpa using he⟩)
 simp only [Md.sets, this, and_self]

theorem flatB_rep {Z Z' : Nat → Prop} {w w' : World} : ∀ {τ : Ty} {x : τ.den} {cs : List Value} {F : List Nat}, τ.flatB = true → Rep Z w τ x cs F → Rep Z' w' τ x cs F := by
 intro τ
 induction τ with
 | pair a b iha ihb =>
  intro x cs F hf ⟨c1, c2, F1, F2, h1, h2, h3, h4⟩
  simp only [Ty.flatB, Bool.and_eq_true] at hf
  exact ⟨c1, c2, F1, F2, h1, h2, iha hf.1 h3, ihb hf.2 h4⟩
 | sl e _ => intro x cs F hf; cases hf
 | vec e _ => intro x cs F hf; cases hf
 | map k e _ _ => intro x cs F hf; cases hf
 | fmap k e _ _ => intro x cs F hf; cases hf
 | mapb k e _ _ => intro x cs F hf; cases hf
 | nsl e _ => intro x cs F hf; cases hf
 | clo f b e _ => intro x cs F hf; cases hf
 | unit => intro x cs F _ h; exact h
 | bool => intro x cs F _ h; exact h
 | int k => intro x cs F _ h; exact h
 | str => intro x cs F _ h; exact h
 | fnv f => intro x cs F _ h; exact h
 | nil => intro x cs F _ h; exact h
 | ptr e _ => intro x cs F hf; cases hf
theorem ResL.flat {Z Z' : Nat → Prop} {w w' : World} : ∀ {outs : List Ty} {x : (outs.foldr Ty.pair .unit).den} {us : List Value} {F : List Nat}, outs.all Ty.flatB = true → ResL Z w outs x us F → ResL Z' w' outs x us F
 | [], _, _, _, _, h => h
 | τ :: outs, x, us, F, hf, ⟨v, vs', F1, F2, h1, h2, ⟨cs, h3, h4⟩, h5⟩ => by
  rw [List.all_cons, Bool.and_eq_true] at hf
  exact ⟨v, vs', F1, F2, h1, h2, ⟨cs, h3, flatB_rep hf.1 h4⟩, ResL.flat hf.2 h5⟩
theorem IoRep.flat {fr : Nat → List Value × List Value} {Z Z' : Nat → Prop} {w : World} : ∀ {ps : List (Bool × Ty)} {x : (((ps.filter (·.1)).map (·.2)).foldr Ty.pair .unit).den} {vs : List Value} {F : List Nat}, (ps.all fun p => !p.1 || p.2.flatB) = true → IoRep fr Z w ps x vs F → IoRep fr Z' w ps x vs F
 | [], _, _, _, _, h => h
 | (false, _) :: ps, x, vs, F, hf, h => by
  rw [List.all_cons, Bool.and_eq_true] at hf
  exact IoRep.flat (ps := ps) hf.2 h
 | (true, τ) :: ps, x, vs, F, hf, ⟨b, el, cs, F1, F2, h1, h2, h3, h4, h5⟩ => by
  rw [List.all_cons, Bool.and_eq_true] at hf
  exact ⟨b, el, cs, F1, F2, h1, h2, h3, flatB_rep (by simpa using hf.1) h4, IoRep.flat (ps := ps) hf.2 h5⟩

theorem cells_blk (hh : HOk B m H w) {id g b q : Nat} {ls : List LV} (hx : H id = .live (.cells g ls)) (hb : m.hd id = .pointer (some ⟨b, q, none⟩)) : b ∈ m.ft id := by
 have hc := hh.cr id
 rw [hx] at hc
 obtain ⟨b', el, cs, F', k1, k2, _⟩ := hc
 rw [hb] at k1
 simp only [Value.pointer.injEq, Option.some.injEq, Addr.mk.injEq, and_true] at k1
 obtain ⟨rfl, _⟩ := k1
 rw [k2]; simp
open Classical in
theorem frOk_ex (hh : HOk B m H w) (ids : List Nat) : ∃ fr, FrOk B m H fr ids := by
 refine ⟨fun b => if ∃ id, id ∈ ids ∧ ∃ g ls q, H id = .live (.cells g ls) ∧ m.hd id = .pointer (some ⟨b, q, none⟩) ∧ g % 2 = 1 then B.fr b else ([], []), fun id hid g ls b q hx hb => ?_⟩
 by_cases hg : g % 2 = 1
 ·simp only
  rw [if_pos ⟨id, hid, g, ls, q, hx, hb, hg⟩]
  unfold frm
  rw [if_neg (by omega)]
 ·simp only
  rw [frm_even (by omega), if_neg]
  rintro ⟨id2, h2, g2, ls2, q2, hx2, hb2, hg2⟩
  have hne : id ≠ id2 := fun e => by
   subst e
   rw [hx] at hx2
   cases hx2
   exact hg hg2
  exact hh.sp id id2 hne (by rw [hx]; trivial) (by rw [hx2]; trivial) b (cells_blk hh hx hb) (cells_blk hh hx2 hb2)
theorem res_ok {d : Nat} : ∀ {j : Nat} {outs : List Ty} {x : (outs.foldr Ty.pair .unit).den} {us : List Value} {F : List Nat}, (outs.all fun τ => τ.pure || τ.vecP || τ.mapP) = true → ResL Zf w outs x us F →
 ∃ ups : List Upd, ups.map (·.id) = resIds d j outs ∧ ups.map (fun u => (u.id, Cell.live u.ob)) = (resAll d j outs x).2 ∧ ups.flatMap (·.F) = F ∧ (∀ u ∈ ups, ORep B Zf w u.ob u.hd u.F) ∧
  ∀ (m' : Md) (H' : Hp), m'.Z = Zf → (∀ u ∈ ups, m'.hd u.id = u.hd ∧ H' u.id = .live u.ob) → All2 (PRep m' w H') (resAll d j outs x).1 us
 | _, [], _, _, _, _, ⟨h1, h2⟩ => by subst h1; subst h2; exact ⟨[], rfl, rfl, rfl, by simp, fun _ _ _ _ => trivial⟩
 | j, τ :: outs, x, us, F, hp, ⟨v, vs', F1, F2, h1, h2, ⟨cs, h3, h4⟩, h5⟩ => by
  rw [List.all_cons, Bool.and_eq_true] at hp
  subst h1; subst h2
  obtain ⟨ups, k1, k2, k3, k4, k5⟩ := res_ok (d := d) (j := j + 1) hp.2 h5
  have plain : τ.pure = true → resLeaves (d + 100000 * j) τ x.1 = ((!τ.one, flat τ x.1), []) → resIds d j (τ :: outs) = resIds d (j + 1) outs → ∃ ups : List Upd, ups.map (·.id) = resIds d j (τ :: outs) ∧ ups.map (fun u => (u.id, Cell.live u.ob)) = (resAll d j (τ :: outs) x).2 ∧ ups.flatMap (·.F) = F1 ++ F2 ∧ (∀ u ∈ ups, ORep B Zf w u.ob u.hd u.F) ∧
   ∀ (m' : Md) (H' : Hp), m'.Z = Zf → (∀ u ∈ ups, m'.hd u.id = u.hd ∧ H' u.id = .live u.ob) → All2 (PRep m' w H') (resAll d j (τ :: outs) x).1 (v :: vs') := by
   intro hpu hl hi
   have hF1 := h4.pure hpu
   subst hF1
   refine ⟨ups, by rw [hi]; exact k1, ?_, by simpa using k3, k4, fun m' H' e1 e2 => ?_⟩
   ·simp only [resAll, hl, List.nil_append]; exact k2
   ·simp only [resAll, hl]
    refine ⟨⟨cs, h3, flat_all2 (m := m') (H := H') (by rw [e1]; exact h4)⟩, k5 m' H' e1 e2⟩
  cases τ with
  | vec e =>
   have h3 : cs = [v] := h3
   subst h3
   refine ⟨⟨d + 100000 * j, .row e x.1, v, F1⟩ :: ups, by simp [resIds, k1], ?_, by simp [k3], ?_, fun m' H' e1 e2 => ?_⟩
   ·simp only [resAll, resLeaves, List.map_cons, List.singleton_append, k2]
   ·intro u hu
    rcases List.mem_cons.1 hu with rfl | hu
    ·exact h4
    ·exact k4 u hu
   ·obtain ⟨q1, q2⟩ := e2 _ (List.mem_cons_self ..)
    simp only at q1 q2
    simp only [resAll, resLeaves]
    refine ⟨⟨[v], rfl, ⟨by rw [q2]; simp, fun _ _ _ => q1.symm, fun _ _ _ => q1.symm⟩, trivial⟩, k5 m' H' e1 fun u hu => e2 u (by simp [hu])⟩
  | pair a b => exact plain (by simpa [Ty.vecP, Ty.mapP] using hp.1) rfl rfl
  | unit => exact plain rfl rfl rfl
  | bool => exact plain rfl rfl rfl
  | int k => exact plain rfl rfl rfl
  | str => exact plain rfl rfl rfl
  | sl e => exact plain (by simpa [Ty.vecP, Ty.mapP] using hp.1) rfl rfl
  | nsl e => exact plain (by simpa [Ty.vecP, Ty.mapP] using hp.1) rfl rfl
  | clo f b e => simp [Ty.pure, Ty.vecP, Ty.mapP] at hp
  | map k e => simp [Ty.pure, Ty.vecP, Ty.mapP] at hp
  | fnv f => exact plain rfl rfl rfl
  | nil => exact plain rfl rfl rfl
  | fmap k e => exact plain rfl rfl rfl
  | ptr e =>
   have h3 : cs = [v] := h3
   subst h3
   obtain ⟨x1, x2⟩ := x
   cases x1 with
   | none =>
    obtain ⟨q1, q2⟩ := h4
    simp only [List.cons.injEq, and_true] at q1
    subst q1; subst q2
    refine ⟨⟨d + 100000 * j, .row .unit [], .slice none 0 0, []⟩ :: ups, by simp [resIds, k1], ?_, by simp [k3], ?_, fun m' H' e1 e2 => ?_⟩
    ·simp only [resAll, resLeaves, List.map_cons, List.singleton_append, k2]
    ·intro u hu
     rcases List.mem_cons.1 hu with rfl | hu
     ·exact ⟨by simp, none, 0, [], [], [], rfl, by simp, rfl, ⟨rfl, rfl⟩, .inl ⟨rfl, rfl, rfl, rfl⟩⟩
     ·exact k4 u hu
    ·simp only [resAll, resLeaves]
     exact ⟨⟨[_], rfl, rfl, trivial⟩, k5 m' H' e1 fun u hu => e2 u (by simp [hu])⟩
   | some y =>
    obtain ⟨b, el, c, F', q1, q2, q3, q4⟩ := h4
    simp only [List.cons.injEq, and_true] at q1
    subst q1
    refine ⟨⟨d + 100000 * j, .cells 0 (flat e y), .pointer (some ⟨b, 0, none⟩), F1⟩ :: ups, by simp [resIds, k1], ?_, by simp [k3], ?_, fun m' H' e1 e2 => ?_⟩
    ·simp only [resAll, resLeaves, List.map_cons, List.singleton_append, k2]
    ·intro u hu
     rcases List.mem_cons.1 hu with rfl | hu
     ·exact (orep_even rfl).2 ⟨b, el, c, F', rfl, q2, q3, flat_ok q4⟩
     ·exact k4 u hu
    ·obtain ⟨z1, z2⟩ := e2 _ (List.mem_cons_self ..)
     simp only at z1 z2
     simp only [resAll, resLeaves]
     refine ⟨⟨[_], rfl, ⟨by rw [z2]; simp, fun _ _ _ => ⟨b, 0, z1, rfl⟩⟩, trivial⟩, k5 m' H' e1 fun u hu => e2 u (by simp [hu])⟩
  | mapb k e =>
   have h3 : cs = [v] := h3
   subst h3
   refine ⟨⟨d + 100000 * j, .mapb 0 k e x.1 none, v, F1⟩ :: ups, by simp [resIds, k1], ?_, by simp [k3], ?_, fun m' H' e1 e2 => ?_⟩
   ·simp only [resAll, resLeaves, List.map_cons, List.singleton_append, k2]
   ·intro u hu
    rcases List.mem_cons.1 hu with rfl | hu
    ·obtain ⟨b, ents, clock, F', q1, q2, q3, q4, q5⟩ := h4
     exact ⟨b, ents, clock, F', by simpa using q1, q2, q3, q4, q5⟩
    ·exact k4 u hu
   ·obtain ⟨q1, q2⟩ := e2 _ (List.mem_cons_self ..)
    simp only at q1 q2
    simp only [resAll, resLeaves]
    refine ⟨⟨[v], rfl, ⟨by rw [q2]; simp, fun _ _ _ _ _ _ => q1.symm⟩, trivial⟩, k5 m' H' e1 fun u hu => e2 u (by simp [hu])⟩

theorem io_ok (hh : HOk B m H w) : ∀ {ps : List (Bool × Ty)} {as_ : List AV} {vs : List Value} {xs : (ps.foldr (fun p t => Ty.pair p.2 t) .unit).den} {x : (((ps.filter (·.1)).map (·.2)).foldr Ty.pair .unit).den} {F : List Nat},
 argsIn (only H L) ps as_ = some xs → All2 (AVRep m w H) as_ vs → IoRep fr Zf w' ps x vs F → FrOk B m H fr (argOwns ps as_) →
 (outsOf (only H L) ps as_ x).map (·.1) = argOwns ps as_ ∧ ∃ us : List Upd, (∀ u ∈ us, (u.id, Cell.live u.ob) ∈ outsOf (only H L) ps as_ x) ∧ (∀ p ∈ outsOf (only H L) ps as_ x, p.2 = .dead ∨ ∃ u ∈ us, p = (u.id, .live u.ob)) ∧
  us.flatMap (·.F) = F ∧ (∀ u ∈ us, ORep B Zf w' u.ob u.hd u.F ∧ u.hd = m.hd u.id ∧ ∃ g ls ls', H u.id = .live (.cells g ls) ∧ u.ob = .cells (g + 2) ls' ∧ ∀ l ∈ ls', l ≠ .cst) ∧ (us.map (·.id)).Sublist (argOwns ps as_)
 | [], [], vs, xs, x, F, _, _, hF, _ => by
  have hF : F = [] := hF
  subst hF
  exact ⟨rfl, [], by simp, by simp [outsOf], rfl, by simp, by simp [argOwns]⟩
 | [], _ :: _, _, _, _, _, h, _, _, _ => by cases h
 | _ :: _, [], _, _, _, _, h, _, _, _ => by cases h
 | p :: ps, a :: as_, [], _, _, _, _, hv, _, _ => hv.elim
 | (false, τ) :: ps, a :: as_, v :: vs, xs, x, F, h, hv, hi, hfr => by
  simp only [argsIn] at h
  split at h
  ·rename_i y xs' hy hxs
   obtain ⟨g1, us, g2, g3, g4, g5, g6⟩ := io_ok hh hxs hv.2 (show IoRep fr Zf w' ps x vs F from hi) (fun id hid => hfr id (by simp [argOwns, hid]))
   refine ⟨?_, us, fun u hu => ?_, fun q hq => ?_, g4, g5, ?_⟩
   ·simp only [outsOf, argOwns, List.map_append, g1]
    congr 1
    rw [List.map_map]
    exact List.map_id _
   ·simp only [outsOf]; exact List.mem_append_right _ (g2 u hu)
   ·simp only [outsOf, List.mem_append] at hq
    rcases hq with hq | hq
    ·obtain ⟨i, _, rfl⟩ := List.mem_map.1 hq
     exact .inl rfl
    ·exact g3 q hq
   ·simp only [argOwns]
    exact g6.trans (List.sublist_append_right _ _)
  ·cases h
 | (true, τ) :: ps, a :: as_, v :: vs, xs, x, F, h, hv, ⟨b, el, cs, F1, F2, h1, h2, h3, h4, h5⟩, hfr => by
  simp only [argsIn] at h
  split at h
  ·rename_i y xs' hy hxs
   obtain ⟨g1, us, g2, g3, g4, g5, g6⟩ := io_ok hh hxs hv.2 (show IoRep fr Zf w' ps x.2 vs F2 from h5) (fun id hid => hfr id (by simp [argOwns, hid]))
   simp only at hy
   unfold argIn at hy
   simp only at hy
   split at hy
   ·rename_i id hid
    split at hy
    ·rename_i g ls hc
     have hce := hc
     have hc := live_of_only hc
     have hcr := hh.cr id
     rw [hc] at hcr
     obtain ⟨b', el', cs', F', k1, k2, k3, k4⟩ := hcr
     have k6 := ioId_ok hid hv.1 hc k1
     simp only [List.head?_cons, Option.some.injEq] at h1
     rw [k6] at h1
     have h1 := wrapV_inj h1
     simp only [Value.pointer.injEq, Option.some.injEq, Addr.mk.injEq, and_true] at h1
     obtain ⟨rfl, -⟩ := h1
     have hf := hfr id (by simp [argOwns, ownArg, hid]) _ _ _ _ hc k1
     have hf2 : fr _ = frm B (g + 2) _ := hf.trans (frm_par (by omega)).symm
     rw [hf2] at h3
     rw [← hf, hf2] at k1
     have hver : verOf (only H L id) = g := by rw [hce]; rfl
     refine ⟨?_, ⟨id, .cells (g + 2) (flat τ x.1), m.hd id, b' :: F1⟩ :: us, fun u hu => ?_, fun q hq => ?_, ?_, fun u hu => ?_, ?_⟩
     ·simp only [outsOf, argOwns, ownArg, hid, List.map_cons, g1, List.singleton_append]
     ·rcases List.mem_cons.1 hu with rfl | hu
      ·simp only [outsOf, hid, hver]; exact List.mem_cons_self ..
      ·simp only [outsOf, hid]; exact List.mem_cons_of_mem _ (g2 u hu)
     ·simp only [outsOf, hid, hver] at hq
      rcases List.mem_cons.1 hq with rfl | hq
      ·exact .inr ⟨_, List.mem_cons_self .., rfl⟩
      ·exact (g3 q hq).imp_right fun ⟨u, u1, u2⟩ => ⟨u, List.mem_cons_of_mem _ u1, u2⟩
     ·simp [g4, h2]
     ·rcases List.mem_cons.1 hu with rfl | hu
      ·exact ⟨⟨b', el, cs, F1, k1, rfl, h3, flat_ok h4⟩, rfl, g, ls, _, hc, rfl, fun l hl e => by have := flat_plain l hl; rw [e] at this; cases this⟩
      ·exact g5 u hu
     ·simp only [argOwns, ownArg, hid, List.map_cons, List.singleton_append]
      exact g6.cons_cons _
    ·cases hy
   ·cases hy
  ·cases h
end
end Go.Proofs.YtadhpgecilhgnaaDoor.A

-- YtadhpgecilhgnaaDoorFn3
set_option linter.unusedVariables false
set_option linter.unusedSimpArgs false
namespace Go.Proofs.YtadhpgecilhgnaaDoor.A
open Go
section
variable {P : Program} {B : Base} {m m' m0 : Md} {H H' : Hp} {w w' : World} {o : Oper} {a : Act} {E : Env} {tab : Nat → Option TI} {T : Nat → Option FunE} {L : List Nat} {Z1 Zf : Nat → Prop}

theorem keys_one : ∀ {l : List (Nat × Cell)}, (l.map (·.1)).Nodup → ∀ {p q : Nat × Cell}, p ∈ l → q ∈ l → p.1 = q.1 → p = q
 | x :: l, hn, p, q, hp, hq, e => by
  simp only [List.map_cons, List.nodup_cons] at hn
  rcases List.mem_cons.1 hp with e1 | hp' <;> rcases List.mem_cons.1 hq with e2 | hq'
  ·rw [e1, e2]
  ·subst e1; exact absurd (List.mem_map.2 ⟨q, hq', e.symm⟩) hn.1
  ·subst e2; exact absurd (List.mem_map.2 ⟨p, hp', e⟩) hn.1
  ·exact keys_one hn.2 hp' hq' e
theorem putH_get : ∀ {ups : List (Nat × Cell)} {H : Hp} {k : Nat} {c : Cell}, (∀ p ∈ ups, p.1 = k → p.2 = c) → (∃ p ∈ ups, p.1 = k) → putH H ups k = c
 | [], _, _, _, _, ⟨_, h, _⟩ => by cases h
 | p :: ups, H, k, c, h, hx => by
  rw [putH]
  by_cases hk : ∃ q ∈ ups, q.1 = k
  ·exact putH_get (fun q hq => h q (by simp [hq])) hk
  ·rw [putH_notin (fun hm => hk (by obtain ⟨q, q1, q2⟩ := List.mem_map.1 hm; exact ⟨q, q1, q2⟩))]
   obtain ⟨q, q1, q2⟩ := hx
   rcases List.mem_cons.1 q1 with rfl | q1
   ·rw [← q2, upd_same]; exact h q (by simp) q2
   ·exact absurd ⟨q, q1, q2⟩ hk
theorem freeze_mem : ∀ {l : List Nat} {p : Nat × Cell}, p ∈ freezeUps H l → p.1 ∈ l ∧ Fz (H p.1) p.2
 | [], _, h => by simp [freezeUps] at h
 | id :: l, p, h => by
  unfold freezeUps at h
  split at h
  ·rename_i e xs hx
   rcases List.mem_cons.1 h with rfl | h
   ·exact ⟨by simp, .inl ⟨e, xs, hx, rfl⟩⟩
   ·obtain ⟨h1, h2⟩ := freeze_mem h
    exact ⟨by simp [h1], h2⟩
  ·rename_i k e mm hx
   rcases List.mem_cons.1 h with rfl | h
   ·exact ⟨by simp, .inr ⟨k, e, mm, hx, rfl⟩⟩
   ·obtain ⟨h1, h2⟩ := freeze_mem h
    exact ⟨by simp [h1], h2⟩
  ·obtain ⟨h1, h2⟩ := freeze_mem h
   exact ⟨by simp [h1], h2⟩
theorem freeze_of : ∀ {l : List Nat} {r : Nat} {c : Cell}, r ∈ l → Fz (H r) c → (r, c) ∈ freezeUps H l
 | id :: l, r, c, h, hx => by
  unfold freezeUps
  rcases List.mem_cons.1 h with rfl | h
  ·rcases hx with ⟨e, xs, h1, rfl⟩ | ⟨k, e, mm, h1, rfl⟩ <;> rw [h1] <;> exact List.mem_cons_self ..
  ·split
   ·exact List.mem_cons_of_mem _ (freeze_of h hx)
   ·exact List.mem_cons_of_mem _ (freeze_of h hx)
   ·exact freeze_of h hx
theorem rowish_live {c : Cell} (h : rowish c = true) (hl : c.Live) : ∃ c', Fz c c' := by
 cases c with
 | live ob =>
  cases ob with
  | row e xs => exact ⟨_, .inl ⟨e, xs, rfl, rfl⟩⟩
  | mapo k e mm => exact ⟨_, .inr ⟨k, e, mm, rfl, rfl⟩⟩
  | _ => cases h
 | _ => exact hl.elim
theorem flatMap_nodup {us : List Upd} (h : (us.flatMap (·.F)).Nodup) {u : Upd} (hu : u ∈ us) : u.F.Nodup := by
 induction us with
 | nil => cases hu
 | cons x us ih =>
  rw [List.flatMap_cons, List.nodup_append] at h
  rcases List.mem_cons.1 hu with rfl | hu
  ·exact h.1
  ·exact ih h.2.1 hu
theorem flatMap_disj {us : List Upd} (h : (us.flatMap (·.F)).Nodup) {u v : Upd} (hu : u ∈ us) (hv : v ∈ us) (hne : u ≠ v) {b : Nat} (hb : b ∈ u.F) : b ∉ v.F := by
 induction us with
 | nil => cases hu
 | cons x us ih =>
  rw [List.flatMap_cons, List.nodup_append] at h
  intro hbv
  rcases List.mem_cons.1 hu with e1 | hu' <;> rcases List.mem_cons.1 hv with e2 | hv'
  ·exact hne (e1.trans e2.symm)
  ·subst e1; exact h.2.2 b hb b (List.mem_flatMap.2 ⟨v, hv', hbv⟩) rfl
  ·subst e2; exact h.2.2 b hbv b (List.mem_flatMap.2 ⟨u, hu', hb⟩) rfl
  ·exact ih h.2.1 hu' hv' hbv
theorem avOf_ok {ps : List (Bool × List LV)} {us : List Value} (h : All2 (PRep m w H) ps us) : AVRep m w H (avOf ps) (tupOf us) := by
 match ps, us, h with
 | [], [], _ => exact ⟨[], rfl, trivial⟩
 | [(g, ls)], [u], h => exact h.1
 | p :: q :: ps, u :: v :: us, h =>
  have : avOf (p :: q :: ps) = .tup (p :: q :: ps) := by
   obtain ⟨g, ls⟩ := p; rfl
  rw [this]
  exact ⟨u :: v :: us, rfl, h⟩

theorem ptrBr_can {α : Type} {Q : α → Prop} : ∀ {outs : List Ty} {x : (outs.foldr Ty.pair .unit).den} {k : (outs.foldr Ty.pair .unit).den → Tst α}, (ptrBr outs x k).Can Q → (k x).Can Q
 | [], _, _, h => h
 | τ :: outs, x, k, h => by
  obtain ⟨x1, x2⟩ := x
  cases τ with
  | ptr e =>
   rcases h with ⟨hb, h⟩ | ⟨hb, h⟩
   ·cases x1 with
    | none => cases hb
    | some y => exact ptrBr_can (k := fun z => k (some y, z)) h
   ·cases x1 with
    | none => exact ptrBr_can (k := fun z => k (none, z)) h
    | some y => cases hb
  | _ => exact ptrBr_can (k := fun z => k (x1, z)) h
theorem wCallF_ok {F : FunE} {f : FuncId} (hF : FunOk P f F) (hh : HOk B m H w) {as_ : List AV} {vs : List Value} (hv : All2 (AVRep m w H) as_ vs) (ex : (execOp a.eval o).run P w = .ok (.enter f vs.toArray) w) : WayOk P B m H w o a (wCallF F o.dst as_) := by
 intro Q hQ
 unfold wCallF at hQ
 simp only at hQ
 generalize hlends : (!(F.outs.all Ty.flatB && (F.ins.all fun p => !p.1 || p.2.flatB))) = lends at hQ
 generalize hrows : rdIds F.ins as_ = rows at hQ
 generalize howns : argOwns F.ins as_ = owns at hQ
 generalize hnews : resIds (o.dst.getD 99999) 0 F.outs = news at hQ
 generalize hLL : ((if lends = true then [] else rows) ++ (owns ++ news ++ if lends = true then rows else [])) = LL at hQ
 have hLo : ∀ i ∈ owns, i ∈ LL := fun i hi => by rw [← hLL]; simp [hi]
 have hLn : ∀ i ∈ news, i ∈ LL := fun i hi => by rw [← hLL]; simp [hi]
 have hLr : ∀ i ∈ rows, i ∈ LL := fun i hi => by rw [← hLL]; cases lends <;> simp [hi]
 split at hQ
 ·rename_i hc
  simp only [Bool.and_eq_true] at hc
  obtain ⟨⟨⟨⟨⟨c1, c2⟩, c3⟩, c4⟩, c5⟩, c6⟩ := hc
  have c1 := nodupN_iff.1 c1
  have c2 : ∀ i ∈ owns, i ∉ rows := fun i hi => by
   have := List.all_eq_true.1 c2 i hi
   exact memN_false.1 (by simpa using this)
  have c3 : ∀ i ∈ news, H i = .absent := fun i hi => absent_of (List.all_eq_true.1 c3 i hi) (hLn i hi)
  split at hQ
  ·rename_i xs hxs
   obtain ⟨r, hr, hQ⟩ := hQ
   have hQ : Q _ := ptrBr_can hQ
   let Z1 : Nat → Prop := fun b => m.Z b ∨ ∃ id ∈ rows, (H id).Live ∧ b ∈ m.ft id
   obtain ⟨fr, hfr⟩ := frOk_ex hh (argOwns F.ins as_)
   obtain ⟨g1, g2⟩ := args_ok (Z1 := Z1) hh (fun b hb => .inl hb) hxs hv (fun id hid hl b hb => .inr ⟨id, by rw [← hrows]; exact hid, hl, hb⟩) hfr
   rw [howns] at g1 g2
   have hnd := List.nodup_append.1 c1
   have hFs : ∀ b ∈ owns.flatMap m.ft, ¬ Z1 b ∧ b < w.heap.size := fun b hb => by
    obtain ⟨i, i1, i2, i3⟩ := ft_blk hb g2
    obtain ⟨n1, n2, _⟩ := hh.nz i i2 b i3
    refine ⟨fun hz => hz.elim n1 fun ⟨j, j1, j2, j3⟩ => ?_, n2⟩
    exact hh.sp i j (fun e => c2 i i1 (e ▸ j1)) i2 j2 b i3 j3
   have hZ1l : ∀ b, Z1 b → b < w.heap.size := fun b hb => hb.elim (hh.zl b) fun ⟨j, j1, j2, j3⟩ => (hh.nz j j2 b j3).2.1
   have call := hF fr Z1 w xs vs _ r hZ1l g1 (ft_nodup hh hnd.1 g2) hFs hr
   refine ⟨_, _, hQ, ?_⟩
   unfold OpOk
   rw [ex]
   refine call.mono fun e w' ⟨v, Z', us, Fr, Fi, he, p⟩ => ⟨v, he, ?_⟩
   let Zf : Nat → Prop := if lends = true then Z' else m.Z
   have hlz : lends = true → Zf = Z' := fun h => if_pos h
   have hnz : lends = false → Zf = m.Z := fun h => if_neg (by simp [h])
   have hfl : lends = false → F.outs.all Ty.flatB = true ∧ (F.ins.all fun p => !p.1 || p.2.flatB) = true := fun h => by
    rw [h] at hlends; simpa using hlends
   have hres : ResL Zf w' F.outs (splitRes F.outs _ r).1 us Fr := by
    cases hl : lends with
    | true => rw [hlz hl]; exact p.res
    | false => exact ResL.flat (hfl hl).1 p.res
   have hio : IoRep fr Zf w' F.ins (splitRes F.outs _ r).2 vs Fi := by
    cases hl : lends with
    | true => rw [hlz hl]; exact p.io
    | false => exact IoRep.flat (hfl hl).2 p.io
   have hZZ : ∀ b, Zf b → Z' b := fun b hb => by
    cases hl : lends with
    | true => rw [hlz hl] at hb; exact hb
    | false => rw [hnz hl] at hb; exact p.zs b (.inl hb)
   have hmZ : ∀ b, m.Z b → Zf b := fun b hb => by
    cases hl : lends with
    | true => rw [hlz hl]; exact p.zs b (.inl hb)
    | false => rw [hnz hl]; exact hb
   obtain ⟨ur, r1, r2, r3, r4, r5⟩ := res_ok (B := B) (d := o.dst.getD 99999) (j := 0) c5 hres
   rw [hnews] at r1
   obtain ⟨o1, ui, o2, o3, o4, o5, o6⟩ := io_ok (Zf := Zf) hh hxs hv hio hfr
   rw [howns] at o1 o6
   have hkp := p.kp
   have hold : ∀ b, b < w.heap.size → b ∉ owns.flatMap m.ft → w'.heap[b]? = w.heap[b]? := hkp.block
   have hui : ∀ u ∈ ui, u.id ∈ owns := fun u hu => o6.subset (List.mem_map.2 ⟨u, hu, rfl⟩)
   have hur : ∀ u ∈ ur, u.id ∈ news := fun u hu => by rw [← r1]; exact List.mem_map.2 ⟨u, hu, rfl⟩
   have hids : ((ui ++ ur).map (·.id)).Nodup := by
    rw [List.map_append, r1, List.nodup_append]
    exact ⟨hnd.1.sublist o6, hnd.2.1, fun x hx y hy => hnd.2.2 x (o6.subset hx) y hy⟩
   -- the objects behind the call
   generalize hO : outsOf (only H LL) F.ins as_ (splitRes F.outs _ r).2 = O at *
   generalize hN : (resAll (o.dst.getD 99999) 0 F.outs (splitRes F.outs _ r).1).2 = N at *
   generalize hFZ : (if lends = true then freezeUps (only H LL) rows else []) = FZ at *
   have hNk : N.map (·.1) = news := by rw [← r2, List.map_map, ← r1]; rfl
   have hFm : ∀ q ∈ FZ, q.1 ∈ rows ∧ Fz (H q.1) q.2 ∧ lends = true ∧ rowish (H q.1) = true := fun q hq => by
    rw [← hFZ] at hq
    split at hq
    ·rename_i hl
     obtain ⟨h1, h2⟩ := freeze_mem hq
     rw [only_eq (memN_iff.2 (hLr _ h1))] at h2
     rw [hl] at c6
     simp only [Bool.not_true, Bool.false_or] at c6
     have := List.all_eq_true.1 c6 q.1 h1
     rw [only_eq (memN_iff.2 (hLr _ h1))] at this
     exact ⟨h1, h2, hl, this⟩
    ·cases hq
   have hFo : ∀ i ∈ FZ.map (·.1), i ∈ rows := fun i hi => by
    obtain ⟨q, hq, rfl⟩ := List.mem_map.1 hi
    exact (hFm q hq).1
   have hOk : ∀ q ∈ O, q.1 ∈ owns := fun q hq => by rw [← o1]; exact List.mem_map.2 ⟨q, hq, rfl⟩
   have hNm : ∀ q ∈ N, q.1 ∈ news := fun q hq => by rw [← hNk]; exact List.mem_map.2 ⟨q, hq, rfl⟩
   have hnr : ∀ i ∈ news, i ∉ FZ.map (·.1) := fun i hi hf => by
    obtain ⟨q, hq, rfl⟩ := List.mem_map.1 hf
    have h2 := (hFm q hq).2.1.live
    rw [c3 _ hi] at h2; exact h2
   have hno : ∀ i ∈ news, i ∉ owns := fun i hi ho => hnd.2.2 i ho i hi rfl
   -- look-ups
   have hU : ∀ u ∈ ui ++ ur, putH H (O ++ N ++ FZ) u.id = .live u.ob := fun u hu => by
    rcases List.mem_append.1 hu with hu | hu
    ·have hid := hui u hu
     refine putH_get (fun q hq hqe => ?_) ⟨(u.id, .live u.ob), by simp [o2 u hu], rfl⟩
     simp only [List.mem_append] at hq
     rcases hq with (hq | hq) | hq
     ·rw [keys_one (by rw [o1]; exact hnd.1) hq (o2 u hu) hqe]
     ·exact absurd hid (hqe ▸ hno _ (hNm q hq))
     ·exact absurd (hFo _ (List.mem_map.2 ⟨q, hq, rfl⟩)) (hqe ▸ c2 _ hid)
    ·have hid := hur u hu
     have hin : (u.id, Cell.live u.ob) ∈ N := by rw [← r2]; exact List.mem_map.2 ⟨u, hu, rfl⟩
     refine putH_get (fun q hq hqe => ?_) ⟨(u.id, .live u.ob), by simp [hin], rfl⟩
     simp only [List.mem_append] at hq
     rcases hq with (hq | hq) | hq
     ·exact absurd (hOk q hq) (hqe ▸ hno _ hid)
     ·rw [keys_one (by rw [hNk]; exact hnd.2.1) hq hin hqe]
     ·exact absurd (List.mem_map.2 ⟨q, hq, rfl⟩) (hqe ▸ hnr _ hid)
   have hch : ∀ k ∈ owns ++ news ++ FZ.map (·.1), (∃ u ∈ ui ++ ur, u.id = k) ∨ (k ∈ owns ∧ putH H (O ++ N ++ FZ) k = .dead) ∨ (k ∈ rows ∧ k ∉ (ui ++ ur).map (·.id) ∧ Fz (H k) (putH H (O ++ N ++ FZ) k) ∧ lends = true ∧ rowish (H k) = true) := fun k hk => by
    simp only [List.mem_append] at hk
    rcases hk with (hk | hk) | hk
    ·rw [← o1] at hk
     obtain ⟨q, hq, rfl⟩ := List.mem_map.1 hk
     rcases o3 q hq with hd | ⟨u, u1, u2⟩
     ·refine .inr (.inl ⟨hOk q hq, putH_get (fun q' hq' hqe => ?_) ⟨q, by simp [hq], rfl⟩⟩)
      simp only [List.mem_append] at hq'
      rcases hq' with (hq' | hq') | hq'
      ·rw [keys_one (by rw [o1]; exact hnd.1) hq' hq hqe]; exact hd
      ·exact absurd (hOk q hq) (hqe ▸ hno _ (hNm q' hq'))
      ·exact absurd (hFo _ (List.mem_map.2 ⟨q', hq', rfl⟩)) (hqe ▸ c2 _ (hOk q hq))
     ·exact .inl ⟨u, by simp [u1], by rw [u2]⟩
    ·rw [← r1] at hk
     obtain ⟨u, hu, rfl⟩ := List.mem_map.1 hk
     exact .inl ⟨u, by simp [hu], rfl⟩
    ·obtain ⟨q, hq, rfl⟩ := List.mem_map.1 hk
     obtain ⟨h1, h2, h4, h5⟩ := hFm q hq
     have hput : putH H (O ++ N ++ FZ) q.1 = q.2 := by
      refine putH_get (fun q' hq' hqe => ?_) ⟨q, by simp [hq], rfl⟩
      simp only [List.mem_append] at hq'
      rcases hq' with (hq' | hq') | hq'
      ·exact absurd h1 (hqe ▸ c2 _ (hOk q' hq'))
      ·exact absurd hk (hqe ▸ hnr _ (hNm q' hq'))
      ·obtain ⟨_, h2', _⟩ := hFm q' hq'
       rw [hqe] at h2'
       exact h2'.one h2
     refine .inr (.inr ⟨h1, fun hm => ?_, by rw [hput]; exact h2, h4, h5⟩)
     obtain ⟨u, hu, he⟩ := List.mem_map.1 hm
     rcases List.mem_append.1 hu with hu | hu
     ·exact c2 _ (hui u hu) (by rw [he]; exact h1)
     ·exact hnr _ (hur u hu) (by rw [he]; exact hk)
   have hsub : ∀ u ∈ ui ++ ur, u.id ∈ owns ++ news ++ FZ.map (·.1) := fun u hu => by
    rcases List.mem_append.1 hu with hu | hu
    ·simp [hui u hu]
    ·simp [hur u hu]
   have hFsB : ∀ b ∈ owns.flatMap m.ft, Blk m H (owns ++ news ++ FZ.map (·.1)) b := fun b hb => by
    obtain ⟨i, i1, i2, i3⟩ := ft_blk hb g2
    exact ⟨i, by simp [i1], i2, i3⟩
   have hUF : (ui ++ ur).flatMap (·.F) = Fi ++ Fr := by rw [List.flatMap_append, o4, r3]
   have hUO : ∀ u ∈ ui ++ ur, ORep B Zf w' u.ob u.hd u.F := fun u hu => by
    rcases List.mem_append.1 hu with hu | hu
    ·exact (o5 u hu).1
    ·exact r4 u hu
   have hUk : ∀ u ∈ ui ++ ur, ∀ b ∈ u.F, ¬ Zf b ∧ (Blk m H (owns ++ news ++ FZ.map (·.1)) b ∨ (w.heap.size ≤ b ∧ b < w'.heap.size)) := fun u hu b hb => by
    have hbF : b ∈ Fi ++ Fr := by rw [← hUF]; exact List.mem_flatMap.2 ⟨u, hu, hb⟩
    obtain ⟨n1, n2, n3⟩ := p.nz b hbF
    refine ⟨fun hz => n1 (hZZ b hz), ?_⟩
    by_cases hlt : b < w.heap.size
    ·exact .inl (hFsB b (n3 hlt))
    ·exact .inr ⟨by omega, n2⟩
   have hndF : ((ui ++ ur).flatMap (·.F)).Nodup := by rw [hUF]; exact p.nd
   have ch : Change B m H w (owns ++ news ++ FZ.map (·.1)) (m.sets Zf (ui ++ ur)) (putH H (O ++ N ++ FZ)) w' := by
    refine ⟨⟨hkp.os, hkp.tape, hkp.output, hkp.size, fun k hk => ?_, fun b hb hnB => hold b hb fun hF => hnB (hFsB b hF), hmZ, fun b hb => ?_, fun k hk => ?_, fun k hk hl b hb => ?_, fun k hk hl => ?_, fun i hi j hj hij hli hlj b hb hb' => ?_⟩, fun k hk hab => ?_⟩
    ·refine ⟨putH_notin fun hm => hk ?_, sets_out fun hm => hk ?_⟩
     ·rw [List.map_append, List.map_append, o1, hNk] at hm; exact hm
     ·obtain ⟨u, hu, rfl⟩ := List.mem_map.1 hm
      exact hsub u hu
    ·have hb : Zf b := hb
     cases hl : lends with
     | false => rw [hnz hl] at hb; exact .inl hb
     | true =>
      rw [hlz hl] at hb
      by_cases hlt : b < w.heap.size
      ·rcases p.zi b hb hlt with (hz | ⟨i, i1, i2, i3⟩) | hz
       ·exact .inl hz
       ·refine .inr (.inl ⟨⟨i, ?_, i2, i3⟩, hlt⟩)
        rw [hl] at c6
        simp only [Bool.not_true, Bool.false_or] at c6
        have hrw := List.all_eq_true.1 c6 i i1
        rw [only_eq (memN_iff.2 (hLr i i1))] at hrw
        obtain ⟨c', hc'⟩ := rowish_live hrw i2
        have := freeze_of (H := only H LL) i1 (by rw [only_eq (memN_iff.2 (hLr i i1))]; exact hc')
        have hin : (i, c') ∈ FZ := by rw [← hFZ, if_pos hl]; exact this
        simp only [List.mem_append]
        exact .inr (List.mem_map.2 ⟨_, hin, rfl⟩)
       ·exact .inr (.inl ⟨hFsB b hz, hlt⟩)
      ·exact .inr (.inr ⟨by omega, p.zl b hb⟩)
    ·rcases hch k hk with ⟨u, hu, rfl⟩ | ⟨_, hd⟩ | ⟨h1, h2, h3, h5, h6⟩
     ·rw [hU u hu]
      obtain ⟨e1, e2⟩ := sets_in (m := m) (Z1 := Zf) hids hu
      simp only [CRep]
      rw [e1, e2]
      exact hUO u hu
     ·rw [hd]; trivial
     ·have hL := h3.live
      have hfz : ∀ b ∈ m.ft k, b < w.heap.size ∧ b ∉ owns.flatMap m.ft := fun b hb => by
       refine ⟨(hh.nz k hL b hb).2.1, fun hF => (hFs b hF).1 (.inr ⟨k, h1, hL, hb⟩)⟩
      refine h3.rep hh h6 (fun b hb => hold b (hh.zl b hb) fun hF => (hFs b hF).1 (.inl hb)) hmZ (fun b hb => hold b (hfz b hb).1 (hfz b hb).2) (fun b hb => ?_) (sets_out (m := m) (Z1 := Zf) h2).1
      show Zf b
      rw [hlz h5]
      exact p.zs b (.inr ⟨k, h1, hL, hb⟩)
    ·rcases hch k hk with ⟨u, hu, rfl⟩ | ⟨_, hd⟩ | ⟨h1, h2, h3, h5, h6⟩
     ·rw [(sets_in (m := m) (Z1 := Zf) hids hu).2] at hb
      exact hUk u hu b hb
     ·rw [hd] at hl; exact hl.elim
     ·exact absurd hl h3.dead
    ·rcases hch k hk with ⟨u, hu, rfl⟩ | ⟨_, hd⟩ | ⟨h1, h2, h3, h5, h6⟩
     ·rw [(sets_in (m := m) (Z1 := Zf) hids hu).2]
      exact flatMap_nodup hndF hu
     ·rw [hd] at hl; exact hl.elim
     ·exact absurd hl h3.dead
    ·rcases hch i hi with ⟨u, hu, rfl⟩ | ⟨_, hd⟩ | ⟨h1, h2, h3, h5, h6⟩
     ·rcases hch j hj with ⟨u', hu', rfl⟩ | ⟨_, hd⟩ | ⟨h1, h2, h3, h5, h6⟩
      ·rw [(sets_in (m := m) (Z1 := Zf) hids hu).2] at hb
       rw [(sets_in (m := m) (Z1 := Zf) hids hu').2] at hb'
       exact flatMap_disj hndF hu hu' (fun e => hij (by rw [e])) hb hb'
      ·rw [hd] at hlj; exact hlj.elim
      ·exact absurd hlj h3.dead
     ·rw [hd] at hli; exact hli.elim
     ·exact absurd hli h3.dead
    ·rcases hch k hk with ⟨u, hu, rfl⟩ | ⟨_, hd⟩ | ⟨h1, h2, h3, h5, h6⟩
     ·have hu' := hu
      rcases List.mem_append.1 hu with hu | hu
      ·obtain ⟨q1, q2, g, ls, ls', q3, q4, q5⟩ := o5 u hu
       have := hU u hu'
       rw [q4] at this
       exact EvoAt.cells_ q3 this (by omega) (by rw [(sets_in (m := m) (Z1 := Zf) hids hu').1]; exact q2) fun j hj => absurd rfl (q5 _ (List.mem_of_getElem? hj))
      ·exact absurd (c3 _ (hur u hu)) hab
     ·exact EvoAt.dead hd
     ·exact h3.evo rfl (sets_out (m := m) (Z1 := Zf) h2).1
   refine ⟨_, hh.change ch, hh.evo ch, ?_⟩
   rw [p.v]
   refine avOf_ok (r5 _ _ rfl fun u hu => ⟨(sets_in (m := m) (Z1 := Zf) hids (u := u) (by simp [hu])).1, hU u (by simp [hu])⟩)
  ·exact hQ.elim
 ·exact hQ.elim
end
end Go.Proofs.YtadhpgecilhgnaaDoor.A

-- YtadhpgecilhgnaaDoorCm
set_option linter.unusedVariables false
set_option linter.unusedSimpArgs false
namespace Go.Proofs.YtadhpgecilhgnaaDoor.A
open Go
section
variable {P : Program} {B : Base} {m m' m0 m1 : Md} {H H' H1 : Hp} {w w' : World} {o : Oper} {a : Act} {E : Env} {tab : Nat → Option TI} {T : Nat → Option FunE} {L : List Nat} {Z1 Zf : Nat → Prop}

theorem wCallM_ok {F : FunE} {f : FuncId} (hF : FunOk P f F) (hh : HOk B m H w) {as_ : List AV} {vs : List Value} (hv : All2 (AVRep m w H) as_ vs) (ex : (execOp a.eval o).run P w = .ok (.enter f vs.toArray) w) : WayOk P B m H w o a (wCallM F o.dst as_) := by
 unfold wCallM
 split
 ·rename_i id g k key as'
  generalize hdd : 300000 + o.dst.getD 99999 = d
  match vs, hv with
  | c :: vs', hv =>
   intro Q hQ
   simp only at hQ
   generalize hcore : wCallF F o.dst (.val false [.ptr d 0] :: as') = core at hQ
   split at hQ
   ·rename_i g' k' e mm hx
    have hx := live_of_only hx
    split at hQ
    ·rename_i key' hg hk
     obtain rfl := Nat.eq_of_beq_eq_true hg
     obtain ⟨he, hk⟩ := castTo_eq hk
     subst he; subst hk
     split at hQ
     ·rename_i hc
      simp only [Bool.and_eq_true, Bool.not_eq_true'] at hc
      obtain ⟨c1, c2⟩ := hc
      have hda : H d = .absent := absent_of c1 (by simp)
      have hidn := memN_false.1 c2
      simp only [List.mem_cons, not_or] at hidn
      obtain ⟨hne, hidn⟩ := hidn
      have hQ := Tst.can_bind hQ
      have hL : (H id).Live := by rw [hx]; trivial
      obtain ⟨bm, ents, clock, bx, el, cc, Fb, y, m1', m2', e1, en, e2, F1, F2, p1, p2, p3, p4, p5, p6, p7, p8, p9, p10, p11, p12, p13, p14, p15, p16, p17⟩ := mel_ok hh hx hv.1.one
      have hnd := hh.nd id hL
      rw [p2] at hnd
      have hnd2 := List.nodup_cons.1 hnd
      have hperm : (F1 ++ ((bx :: Fb) ++ F2)).Perm ((F1 ++ F2) ++ (bx :: Fb)) := by
       rw [List.append_assoc]
       exact List.Perm.append_left _ List.perm_append_comm
      have hnd3 := hperm.nodup_iff.1 hnd2.2
      rw [List.nodup_append] at hnd3
      have mem1 : ∀ z, z ∈ bm :: (F1 ++ F2) ∨ z ∈ bx :: Fb → z ∈ m.ft id := fun z hz => by
       rw [p2]
       simp only [List.mem_cons, List.mem_append] at hz ⊢
       rcases hz with (h | h | h) | h | h <;> simp [h]
      -- the box is taken out
      have ch1 := Change.two (m := m) hh (id := id) (d := d) hne hL (ob := .mapb g k (.ptr e) mm (some (key, some (.pointer (some ⟨bx, 0, none⟩))))) (c := .live (.cells 0 (flat e y))) (G1 := bm :: (F1 ++ F2)) (G2 := bx :: Fb) (hdr := .pointer (some ⟨bx, 0, none⟩)) (fun z hz => .inl (mem1 z hz)) ?_ hnd3.2.1 (fun _ z hz hz2 => ?_)
       ⟨bm, ents, clock, F1 ++ F2, p1, rfl, p3, p4, ?_⟩ ?_ (EvoAt.mapbE hx (upd_same _ _ _) (upd_other _ _ hne) fun _ _ => rfl) (fun h => absurd hda h)
      rotate_left
      ·rw [List.nodup_cons]
       exact ⟨fun h => hnd2.1 (hperm.symm.subset (List.mem_append_left _ h)), hnd3.1⟩
      ·rcases List.mem_cons.1 hz with rfl | hz
       ·exact hnd2.1 (hperm.symm.subset (List.mem_append_right _ hz2))
       ·exact hnd3.2.2 z hz z hz2 rfl
      ·rw [p9, p10]
       exact RepMH.of (q := fun x => eqV k x key) (ov := some (.pointer (some ⟨bx, 0, none⟩))) (p := (key, some y)) p14 p12 (fun u hu => by cases hu; exact p11) p16 p13 p15
      ·simp only [CRep]
       rw [upd_same, upd_same]
       exact (orep_even rfl).2 ⟨bx, el, cc, Fb, rfl, rfl, p6, flat_ok p7⟩
      have hh1 := hh.change ch1
      have ev1 := hh.evo ch1
      generalize hm1 : ({ Z := m.Z, hd := upd m.hd d (.pointer (some ⟨bx, 0, none⟩)), ft := upd (upd m.ft id (bm :: (F1 ++ F2))) d (bx :: Fb) } : Md) = M1 at hh1 ev1
      generalize hH1 : upd (upd H d (.live (.cells 0 (flat e y)))) id (.live (.mapb g k (.ptr e) mm (some (key, some (.pointer (some ⟨bx, 0, none⟩)))))) = H1 at hh1 ev1
      have H1d : H1 d = .live (.cells 0 (flat e y)) := by rw [← hH1, upd_other _ _ (Ne.symm hne), upd_same]
      have H1id : H1 id = .live (.mapb g k (.ptr e) mm (some (key, some (.pointer (some ⟨bx, 0, none⟩))))) := by rw [← hH1, upd_same]
      have M1d : M1.hd d = .pointer (some ⟨bx, 0, none⟩) := by rw [← hm1]; exact upd_same _ _ _
      have M1id : M1.hd id = m.hd id := by rw [← hm1]; exact upd_other _ _ hne
      have call := wCallF_ok (a := a) (o := o) hF hh1 (as_ := .val false [.ptr d 0] :: as') (vs := c :: vs') ⟨AVRep.mk1 ⟨by rw [H1d]; simp, fun _ _ _ => ⟨bx, 0, M1d, by rw [p5, Nat.zero_add]⟩⟩, hv.2.mono fun _ _ h => h.evo ev1⟩ ex
      rw [hcore] at call
      have heq : only (upd (only H ([] ++ id :: d :: (core.rd ++ core.wr))) d (.live (.cells 0 (flat e (boxOf k e key mm))))) (core.rd ++ core.wr) = only H1 (core.rd ++ core.wr) := by
       funext n
       unfold only
       cases hn : memN n (core.rd ++ core.wr) with
       | false => rfl
       | true =>
        simp only
        have hnm := memN_iff.1 hn
        have hni : n ≠ id := fun e => hidn (e ▸ hnm)
        by_cases hnd' : n = d
        ·subst hnd'
         rw [upd_same, H1d, p8]
        ·rw [upd_other _ _ hnd', ← hH1, upd_other _ _ hni, upd_other _ _ hnd']
         have : memN n ([] ++ id :: d :: (core.rd ++ core.wr)) = true := memN_iff.2 (by
          rw [List.nil_append]
          exact List.mem_cons_of_mem _ (List.mem_cons_of_mem _ hnm))
         rw [this]
      rw [heq] at hQ
      obtain ⟨v, ups, hQ2, hop⟩ := call _ hQ
      simp only at hQ2
      split at hQ2
      ·rename_i gg ls hls hall
       split at hQ2
       ·rename_i y' hy' hev
        refine ⟨_, _, hQ2, ?_⟩
        unfold OpOk at hop ⊢
        rw [ex] at hop ⊢
        refine hop.mono fun e' w' ⟨v', he', hA⟩ => ⟨v', he', ?_⟩
        obtain ⟨m2, hh2, ev2, hv2⟩ := hA
        have hkeys := memN_all hall
        have hidk : id ∉ ups.map (·.1) := fun h => hidn (List.mem_append_right _ (hkeys id h))
        have hdk : d ∈ ups.map (·.1) := by
         apply Classical.byContradiction
         intro hn
         rw [putH_notin hn] at hls
         cases hls
        generalize hH2 : putH H1 ups = H2 at hh2 ev2 hv2
        have H2id : H2 id = .live (.mapb g k (.ptr e) mm (some (key, some (.pointer (some ⟨bx, 0, none⟩))))) := by rw [← hH2, putH_notin hidk, H1id]
        have H2d : H2 d = .live (.cells gg ls) := by rw [← hH2, putH_indep (H' := fun _ => .absent) hdk, hls]
        have L2 : (H2 id).Live := by rw [H2id]; trivial
        have Ld : (H2 d).Live := by rw [H2d]; trivial
        obtain ⟨q1, _⟩ := ev2.mapb id (by rw [H1id]; simp) _ _ _ _ _ H2id
        obtain ⟨q2, _⟩ := ev2.cells d (by rw [H1d]; simp) _ _ H2d
        have cr := hh2.cr id
        rw [H2id] at cr
        obtain ⟨b, ents2, clock2, F', r1, r2, r3, r4, r5⟩ := cr
        have crd := hh2.cr d
        rw [H2d] at crd
        obtain ⟨bx2, el2, cc2, Fb2, s1, s2, s3, s4⟩ := (orep_even (Nat.eq_of_beq_eq_true hev)).1 crd
        rw [q2, M1d] at s1; cases s1
        have hyr := asmAllO hy' s4
        rw [p9] at r5
        obtain ⟨f1, en', f2, G1, G2, t1, t2, t3, t4, t5, t6⟩ := RepMH.to (q := fun x => eqV k x key) (p := (key, some y)) (m := m1') p14 p13 r5
        have hbb : b = bm := by rw [q1, M1id, p1] at r1; cases r1; rfl
        subst hbb
        have nid := hh2.nd id L2
        rw [r2, t2, List.nodup_cons] at nid
        have ndd := hh2.nd d Ld
        have dis : ∀ z ∈ m2.ft id, z ∉ m2.ft d := fun z hz => hh2.sp id d hne L2 Ld z hz
        rw [r2, t2, s2] at dis
        have ch3 := Change.two (m := m2) hh2 (id := id) (d := d) hne L2 (ob := .mapb g k (.ptr e) (mapPut k (.ptr e) key (some y') mm) none) (c := .dead) (G1 := b :: (G1 ++ ((bx :: Fb2) ++ G2))) (G2 := []) (hdr := m2.hd d) (fun z hz => ?_) ?_ (by simp) (fun h => h.elim)
         ⟨b, ents2, clock2, G1 ++ ((bx :: Fb2) ++ G2), r1, rfl, r3, r4, ?_⟩ trivial (EvoAt.mapbE H2id (upd_same _ _ _) (upd_other _ _ hne) fun _ _ => rfl) (fun _ => EvoAt.dead (by rw [upd_other _ _ (Ne.symm hne), upd_same]))
        rotate_left
        ·rcases hz with hz | hz
         ·rw [r2, t2, s2]
          simp only [List.mem_cons, List.mem_append] at hz ⊢
          rcases hz with h | h | (h | h) | h
          ·exact .inl (.inl h)
          ·exact .inl (.inr (.inl h))
          ·exact .inr ⟨Ld, .inl h⟩
          ·exact .inr ⟨Ld, .inr h⟩
          ·exact .inl (.inr (.inr h))
         ·cases hz
        ·have hp : (G1 ++ ((bx :: Fb2) ++ G2)).Perm ((G1 ++ G2) ++ (bx :: Fb2)) := by
          rw [List.append_assoc]
          exact List.Perm.append_left _ List.perm_append_comm
         rw [List.nodup_cons]
         refine ⟨fun h => ?_, hp.nodup_iff.2 ?_⟩
         ·rcases List.mem_append.1 (hp.subset h) with h | h
          ·exact nid.1 h
          ·exact dis b (by simp) h
         ·rw [List.nodup_append]
          rw [s2] at ndd
          exact ⟨nid.2, ndd, fun z hz z2 hz2 e => dis z (List.mem_cons_of_mem _ hz) (e ▸ hz2)⟩
        ·show RepMF _ _ _ _ _
         rw [p17, t1]
         exact RepMF.append t3 ⟨en', f2, bx :: Fb2, G2, rfl, rfl, t4, ⟨[en'.val], rfl, by
          rw [t5 _ rfl]
          exact ⟨bx, el2, cc2, Fb2, rfl, rfl, s3, hyr⟩⟩, t6⟩
        have hfin : putH H (ups ++ [(d, .dead), (id, .live (.mapb g k (.ptr e) (mapPut k (.ptr e) key (some y') mm) none))]) = upd (upd H2 d .dead) id (.live (.mapb g k (.ptr e) (mapPut k (.ptr e) key (some y') mm) none)) := by
         rw [putH_append]
         simp only [putH]
         funext n
         by_cases h1 : n = id
         ·subst h1; rw [upd_same, upd_same]
         ·rw [upd_other _ _ h1, upd_other _ _ h1]
          by_cases h2 : n = d
          ·subst h2; rw [upd_same, upd_same]
          ·rw [upd_other _ _ h2, upd_other _ _ h2, ← hH2]
           exact putH_agree (by rw [← hH1, upd_other _ _ h1, upd_other _ _ h2])
        unfold After
        rw [hfin]
        exact ⟨_, hh2.change ch3, (ev1.trans ev2).trans (hh2.evo ch3), hv2.evo (hh2.evo ch3)⟩
       ·exact hQ2.elim
      ·exact hQ2.elim
     ·exact hQ.elim
    ·exact hQ.elim
   ·exact hQ.elim
 ·exact wCallF_ok hF hh hv ex
end
end Go.Proofs.YtadhpgecilhgnaaDoor.A

-- YtadhpgecilhgnaaDoorPn
set_option linter.unusedVariables false
set_option linter.unusedSimpArgs false
namespace Go.Proofs.YtadhpgecilhgnaaDoor.A
open Go
section
variable {P : Program} {B : Base} {m m' m0 m1 : Md} {H H' H1 : Hp} {w w' : World} {o : Oper} {a : Act} {E : Env} {tab : Nat → Option TI} {T : Nat → Option FunE} {L : List Nat} {Z Z1 Zf : Nat → Prop}

theorem fillA_ok {sz : Nat} : ∀ {ps : List (Nat × AV)} {vs : List (Nat × Value)} {ls ls' : List LV} {cs : List Value}, buildAs sz ls ps = some ls' → All2 (fun p v => v.1 = p.1 ∧ AVRep m w H p.2 v.2) ps vs → All2 (LRep m w H) ls cs →
 ∃ cs', Instr.fill (fun i => some (i * sz, sz)) cs.toArray vs = some cs'.toArray ∧ All2 (LRep m w H) ls' cs'
 | [], vs, ls, ls', cs, h, h1, h2 => by
  cases vs with
  | cons _ _ => exact h1.elim
  | nil =>
   simp only [buildAs, Option.some.injEq] at h
   subst h
   exact ⟨cs, rfl, h2⟩
 | (j, A) :: ps, vs, ls, ls', cs, h, h1, h2 => by
  cases vs with
  | nil => exact h1.elim
  | cons v vs =>
   obtain ⟨⟨e1, r1⟩, h1⟩ := h1
   obtain ⟨jv, v⟩ := v
   simp only at e1 r1
   subst e1
   cases A with
   | tup _ => simp [buildAs] at h
   | undef => simp [buildAs] at h
   | junk => simp [buildAs] at h
   | val g ns =>
    simp only [buildAs] at h
    split at h
    ·rename_i hlen
     split at h
     ·rename_i ls1 hs
      obtain ⟨cs1, i1, i2⟩ := r1
      obtain ⟨a1, a2⟩ := All2.setLs hs h2 i2
      simp only [Bool.and_eq_true, Bool.not_eq_true'] at hlen
      have hcl : cs1.length = sz := by rw [i2.len]; exact Nat.eq_of_beq_eq_true hlen.1.1
      have hvc := part_cells hlen.2 i1 i2
      obtain ⟨cs', b1, b2⟩ := fillA_ok h h1 a1
      refine ⟨cs', ?_, b2⟩
      simp only [Instr.fill, hvc]
      by_cases hz : cs1 = []
      ·subst hz
       have : ns.length = 0 := by rw [← i2.len]; rfl
       rw [this] at hlen
       exact absurd hlen.1.2 (by simp)
      ·have hfit := a2 hz
       rw [if_neg (by simp [hcl]; omega)]
       rw [fold_seg (jv * sz) cs1.toArray cs (by simpa using hfit)]
       simpa using b1
     ·cases h
    ·cases h
theorem wBuildA_ok (hT : TabOk P tab) (hh : HOk B m H w) {t : Nat} {ps : Array (Nat × Operand)} (ho : o.op = .build t ps) {qs : List (Nat × AV)} (hq : All2 (fun (p : Nat × AV) (v : Nat × Value) => v.1 = p.1 ∧ AVRep m w H p.2 v.2) qs (ps.toList.map fun p => (p.1, a.eval p.2))) :
 WayOk P B m H w o a (wBuildA tab t qs) := by
 unfold wBuildA
 split
 ·rename_i i hi
  split
  ·rename_i q hg hf hqi
   split
   ·rename_i ls' hz0 hb
    obtain ⟨inf, z, k1, k2, k3, k4, k5, k6⟩ := (hT t i hi).info
    obtain ⟨infe, ze, n1, n2, _⟩ := (hT _ q hqi).info
    have hu := (hT t i hi).und
    rw [hg] at hu
    rcases hu with ⟨_, u1⟩ | ⟨fs, u0, u1, _⟩
    ·have hz : All2 (LRep m w H) i.zero z.cells.toList := k6.mono fun _ _ h => h.l
     obtain ⟨cs', f1, f2⟩ := fillA_ok hb hq hz
     refine WayOk.val hh (v' := .agg cs'.toArray) ?_ ⟨cs', rfl, f2⟩
     have hb' : P.built t (ps.toList.map fun p => (p.1, a.eval p.2)) = some cs'.toArray := by
      simp only [Program.built, k1, u1, k4, n1, n2]
      simpa using f1
     have := run_build (P := P) w t (ps.map fun (i, x) => (i, a.eval x)) cs'.toArray (by simpa using hb')
     simp only [execOp, ho, Sem.run_bind, this, Result.andThen_ok, Sem.run_pure]
    ·have hc := u0 hf
     rw [hc] at hz0
     cases hz0
   ·exact WayOk.fail
  ·exact WayOk.fail
 ·exact WayOk.fail
theorem unpin_ok {v : AV} {c : Value} (h : AVRep m w H v c) : AVRep m w H (unpin v) c := by
 unfold unpin
 split
 ·have h := h.one
  exact AVRep.mk1 ⟨h.1, fun g ls hh => (h.2.1 g ls hh).imp fun b hb => ⟨0, hb.1, by rw [Nat.zero_add]; exact hb.2⟩⟩
 ·exact h
theorem pinOf_ok {l : LV} {q : Nat × Bool} {c : Value} (h : pinOf l = some q) (hl : LRep m w H l c) : LPin m H q.1 q.2 c := by
 unfold pinOf at h
 split at h
 ·cases h; exact hl
 ·cases h; exact hl
 ·cases h
theorem pinsOf_mem : ∀ {ls : List LV} {j0 : Nat} {q : Nat × Nat × Bool}, q ∈ pinsOf j0 ls → ∃ j l, ls[j]? = some l ∧ q.1 = j0 + j ∧ pinOf l = some q.2
 | [], _, _, h => by cases h
 | l :: ls, j0, q, h => by
  unfold pinsOf at h
  split at h
  ·rename_i m b hp
   rcases List.mem_cons.1 h with rfl | h
   ·exact ⟨0, l, rfl, rfl, hp⟩
   ·obtain ⟨j, l', h1, h2, h3⟩ := pinsOf_mem h
    exact ⟨j + 1, l', by simpa using h1, by omega, h3⟩
  ·obtain ⟨j, l', h1, h2, h3⟩ := pinsOf_mem h
   exact ⟨j + 1, l', by simpa using h1, by omega, h3⟩
theorem pinLeaves_ok : ∀ {ls : List LV} {cs : List Value}, ls.all pinB = true → All2 (LRep m w H) ls cs → RepL (OL1 m.Z w) (ls.map pinLeaf) cs []
 | [], [], _, _ => ⟨rfl, rfl⟩
 | l :: ls, c :: cs, hp, h => by
  simp only [List.all_cons, Bool.and_eq_true] at hp
  refine ⟨[c], cs, [], [], rfl, rfl, ⟨c, rfl, ?_⟩, pinLeaves_ok hp.2 h.2⟩
  have hp1 := hp.1
  have hl := h.1
  unfold pinB at hp1
  unfold pinLeaf
  split at hp1
  ·rfl
  ·cases l <;> first | (cases hp1; done) | exact hl | exact ⟨hl, rfl⟩
 | [], _ :: _, _, h => h.elim
 | _ :: _, [], _, h => h.elim
theorem pin_cell {l : LV} {c : Value} {q : Nat × Bool} (h : pinOf l = some q) (hq : ∃ k e mm, H q.1 = .live (.mapo k e mm) ∧ q.2 = false ∨ ∃ g ho, H q.1 = .live (.mapb g k e mm ho) ∧ q.2 = true) (hh : HOk B m H w) (hl : LRep m w H l c) : c.oneCell' = true := by
 have hp := pinOf_ok h hl
 obtain ⟨k, e, mm, ⟨h1, h2⟩ | ⟨g, ho, h1, h2⟩⟩ := hq
 ·have hp2 := hp.2
  rw [h2] at hp2
  have hc := hh.cr q.1
  rw [h1] at hc
  obtain ⟨b, es, cl, e1, _⟩ := hc
  rw [hp2.1 _ _ _ h1]
  simp only [List.cons.injEq, and_true] at e1
  rw [e1]; rfl
 ·have hp2 := hp.2
  rw [h2] at hp2
  have hc := hh.cr q.1
  rw [h1] at hc
  obtain ⟨b, es, cl, F', e1, _⟩ := hc
  rw [hp2 _ _ _ _ _ h1, e1]; rfl
theorem pinLive_ok {L : List Nat} {q : Nat × Nat × Bool} (h : pinLive (only H L) q = true) : ∃ k e mm, H q.2.1 = .live (.mapo k e mm) ∧ q.2.2 = false ∨ ∃ g ho, H q.2.1 = .live (.mapb g k e mm ho) ∧ q.2.2 = true := by
 unfold pinLive at h
 split at h
 ·rename_i h1 h2
  exact ⟨_, _, _, .inl ⟨live_of_only h2, h1⟩⟩
 ·rename_i h1 h2
  exact ⟨_, _, _, .inr ⟨_, _, live_of_only h2, h1⟩⟩
 ·cases h
theorem pins_cells (hh : HOk B m H w) {L : List Nat} : ∀ {ls : List LV} {cs : List Value} {j0 : Nat}, ls.all pinB = true → (pinsOf j0 ls).all (pinLive (only H L)) = true → All2 (LRep m w H) ls cs → ∀ c ∈ cs, c.oneCell' = true
 | [], [], _, _, _, _, c, hc => by cases hc
 | l :: ls, d :: cs, j0, hp, hq, h, c, hc => by
  simp only [List.all_cons, Bool.and_eq_true] at hp
  unfold pinsOf at hq
  cases hpo : pinOf l with
  | some q =>
   obtain ⟨mm, b⟩ := q
   rw [hpo] at hq
   simp only [List.all_cons, Bool.and_eq_true] at hq
   rcases List.mem_cons.1 hc with rfl | hc
   ·exact pin_cell hpo (pinLive_ok (q := (j0, mm, b)) hq.1) hh h.1
   ·exact pins_cells hh hp.2 hq.2 h.2 c hc
  | none =>
   rw [hpo] at hq
   simp only at hq
   rcases List.mem_cons.1 hc with rfl | hc
   ·have hp1 := hp.1
    unfold pinB at hp1
    rw [hpo] at hp1
    exact LRep.oneCell hp1 h.1
   ·exact pins_cells hh hp.2 hq h.2 c hc
 | [], _ :: _, _, _, _, h, _, _ => h.elim
 | _ :: _, [], _, _, _, h, _, _ => h.elim
theorem psPins_sub : ∀ {ps : List (Nat × AV)} {i : Nat} {g : Bool} {ns : List LV}, (i, AV.val g ns) ∈ ps → ∀ q ∈ pinsOf 0 ns, q ∈ psPins ps
 | p :: ps, i, g, ns, h, q, hq => by
  rcases List.mem_cons.1 h with rfl | h
  ·exact List.mem_append_left _ hq
  ·have := psPins_sub h q hq
   obtain ⟨j, A⟩ := p
   cases A with
   | val g' ls => exact List.mem_append_right _ this
   | _ => exact this
theorem wBuildP_ok (hT : TabOk P tab) (hh : HOk B m H w) {t : Nat} {ps : Array (Nat × Operand)} (ho : o.op = .build t ps) {qs : List (Nat × AV)} (hq : All2 (fun (p : Nat × AV) (v : Nat × Value) => v.1 = p.1 ∧ AVRep m w H p.2 v.2) qs (ps.toList.map fun p => (p.1, a.eval p.2))) :
 WayOk P B m H w o a (wBuildP tab t qs) := by
 unfold wBuildP
 split
 ·rename_i i hi
  split
  ·exact wBuildA_ok hT hh ho hq
  ·exact wBuild_ok hT hh ho hq
  ·split
   ·rename_i hg0
    simp only [Bool.and_eq_true, Bool.not_eq_true'] at hg0
    obtain ⟨hg, hfe⟩ := hg0
    intro Q hQ
    simp only at hQ
    split at hQ
    ·rename_i hpl
     split at hQ
     ·rename_i ls' hb
      obtain ⟨fs, places, p1, p2⟩ := (hT t i hi).plc hg hfe
      obtain ⟨inf, z, k1, k2, k3, k4, k5, k6⟩ := (hT t i hi).info
      have hz : All2 (LRep m w H) i.zero z.cells.toList := k6.mono fun _ _ h => h.l
      have h3 : ∀ p ∈ qs, ∀ g ns, p.2 = .val g ns → ∀ cs' v, IsV g cs' v → All2 (LRep m w H) ns cs' → v.cells = cs'.toArray := fun p hp g ns e cs' v h1 h2 => by
       have hpb := buildLs_plain hb p hp g ns e
       cases g with
       | true => simp only [IsV] at h1; subst h1; rfl
       | false =>
        refine isV_cells h1 (pins_cells hh (j0 := 0) (L := List.map (·.2.1) (psPins qs) ++ []) (by simpa using hpb) ?_ h2)
        rw [List.all_eq_true]
        intro q hq'
        obtain ⟨j, A⟩ := p
        simp only at e
        subst e
        exact List.all_eq_true.1 hpl q (psPins_sub hp q hq')
      obtain ⟨cs', f1, f2⟩ := fill_ok hT hi hg p1 p2 hb hq hz h3
      refine ⟨_, _, hQ, OpOk.value (v := .agg cs'.toArray) ?_ (After.same hh ⟨cs', rfl, f2⟩)⟩
      have hb' : P.built t (ps.toList.map fun p => (p.1, a.eval p.2)) = some cs'.toArray := by
       simp only [Program.built, k1, p1, k4, p2]
       simpa using f1
      have := run_build (P := P) w t (ps.map fun (i, x) => (i, a.eval x)) cs'.toArray (by simpa using hb')
      simp only [execOp, ho, Sem.run_bind, this, Result.andThen_ok, Sem.run_pure]
     ·exact hQ.elim
    ·exact hQ.elim
   ·exact WayOk.fail
 ·exact WayOk.fail
theorem wBoxP_ok (hh : HOk B m H w) {t : Nat} {X : AV} {v : Value} (hX : AVRep m w H X v)
 (ex : ∀ cs : List Value, (∃ g ls, X = .val g ls ∧ IsV g cs v) → (∀ c ∈ cs, c.oneCell' = true) → (execOp a.eval o).run P w = .ok (.value (.pointer (some ⟨w.heap.size, 0, none⟩))) (w.alloc (.cells cs.toArray t))) :
 WayOk P B m H w o a (wBoxP o.dst X) := by
 unfold wBoxP
 split
 ·rename_i g ls
  split
  ·exact wBox_ok hh hX ex
  ·rename_i ps d hps hdst
   generalize hpp : pinsOf 0 ls = pp at *
   intro Q hQ
   simp only at hQ
   split at hQ
   ·rename_i hc
    simp only [Bool.and_eq_true, Bool.not_eq_true'] at hc
    obtain ⟨⟨⟨c1, c2⟩, c3⟩, c4⟩ := hc
    have hda := absent_of c1 (by simp)
    obtain ⟨cs, i1, i2⟩ := hX
    have g1 := pinLeaves_ok c3 i2
    have g4 := pins_cells hh c3 (j0 := 0) (by rw [hpp]; exact c4) i2
    have ch : Change B m H w (d :: []) (m.set d (.pointer (some ⟨w.heap.size, 0, none⟩)) [w.heap.size]) (putH H ((d, .live (.cells 0 (ls.map pinLeaf))) :: deads [])) (w.alloc (.cells cs.toArray t)) := by
     refine Change.one (w' := w.alloc (.cells cs.toArray t)) (ob := .cells 0 _) hh (by simp) (by simp) rfl rfl rfl (by simp) (fun b hb _ => alloc_old hb) ((orep_even rfl).2 ⟨w.heap.size, t, cs, [], rfl, rfl, alloc_new, ?_⟩) ?_ (by simp) (fun h => absurd hda h)
     ·exact leaves_frame (fun b hb => alloc_old (hh.zl b hb)) (by simp) g1
     ·intro b hb
      simp only [List.mem_singleton] at hb
      subst hb
      exact ⟨fun hz => by have := hh.zl _ hz; omega, .inr ⟨Nat.le_refl _, by simp⟩⟩
    have hput := putH_cons H d (.live (.cells 0 (ls.map pinLeaf))) [] (by simp)
    refine ⟨_, _, hQ, OpOk.value (ex cs ⟨g, ls, rfl, i1⟩ g4) ⟨_, hh.change ch, hh.evo ch, AVRep.mk1 ⟨?_, fun g' ls' _ => ⟨w.heap.size, by simp only [Md.set]; rw [upd_same], rfl⟩, fun q hq g' ls' hx hl => ?_⟩⟩⟩
    ·simp only [deads, List.map_nil] at hput; rw [hput]; simp
    ·rw [← hpp] at hq
     obtain ⟨j, l, j1, j2, j3⟩ := pinsOf_mem hq
     obtain ⟨u, u1, u2⟩ := i2.get j l j1
     rw [Nat.zero_add] at j2
     refine ⟨w.heap.size, u, by simp only [Md.set]; rw [upd_same], ?_, (pinOf_ok j3 u2).evo (hh.evo ch)⟩
     have : (w.alloc (.cells cs.toArray t)).heap[w.heap.size]? = some (.cells cs.toArray t) := alloc_new
     simp only [World.cell?, this, j2]
     simpa using u1
   ·exact hQ.elim
  ·exact WayOk.fail
 ·exact WayOk.fail
theorem wNilCheckP_ok (hh : HOk B m H w) {x : Operand} (ho : o.op = .nilCheck x) {X : AV} (hX : AVRep m w H X (a.eval x)) : WayOk P B m H w o a (wNilCheckP X) := by
 have go : ∀ {ad : Addr}, a.eval x = .pointer (some ad) → (execOp a.eval o).run P w = .ok (.value (.pointer (some ad))) w := fun h => by simp only [execOp, ho, h]; rfl
 unfold wNilCheckP
 split
 ·intro Q hQ
  simp only at hQ
  split at hQ
  ·rename_i g ls hl
   have h := hX.one
   obtain ⟨b, k1, k2⟩ := h.2.1 g ls (live_of_only hl)
   exact ⟨_, _, hQ, OpOk.value (go k2) (After.same hh (AVRep.mk1 (by rw [← k2]; exact h)))⟩
  ·exact hQ.elim
 ·exact wNilCheckB_ok hh ho hX
theorem wFieldAddrP_ok (hT : TabOk P tab) (hh : HOk B m H w) {s f : Nat} {x : Operand} (ho : o.op = .fieldAddr s x f) {X : AV} (hX : AVRep m w H X (a.eval x)) :
 WayOk P B m H w o a (wFieldAddrP tab s X f) := by
 have go : ∀ {off b p}, fieldOff tab s f = some off → a.eval x = .pointer (some ⟨b, p, none⟩) → (execOp a.eval o).run P w = .ok (.value (.pointer (some ⟨b, p + off, none⟩))) w := fun h1 h2 => by
  simp only [execOp, ho, Sem.run_bind, h2, fieldAt_run hT h1, Result.andThen_ok, Sem.run_pure]
 unfold wFieldAddrP
 split
 ·split
  ·rename_i off hoff
   intro Q hQ
   simp only at hQ
   split at hQ
   ·rename_i g ls hl
    have hl := live_of_only hl
    have h := hX.one
    obtain ⟨b, k1, k2⟩ := h.2.1 g ls hl
    exact ⟨_, _, hQ, OpOk.value (go hoff k2) (After.same hh (AVRep.mk1 ⟨h.1, fun g' ls' hl' => ⟨b, k1, rfl⟩, h.2.2⟩))⟩
   ·exact hQ.elim
  ·exact WayOk.fail
 ·exact wFieldAddrB_ok hT hh ho hX
theorem pinAt_mem {off : Nat} : ∀ {ps : List (Nat × Nat × Bool)} {q : Nat × Bool}, pinAt off ps = some q → (off, q) ∈ ps
 | [], _, h => by cases h
 | p :: ps, q, h => by
  unfold pinAt at h
  split at h
  ·rename_i hb
   cases h
   have := Nat.eq_of_beq_eq_true hb
   subst this
   simp
  ·exact List.mem_cons_of_mem _ (pinAt_mem h)
theorem mapTB_ok (hT : TabOk P tab) {t : Nat} (h : mapTB tab t = true) : ∃ i, tab t = some i ∧ i.agg = false ∧ i.ty.cells = 1 := by
 unfold mapTB at h
 split at h
 ·rename_i i hi
  split at h
  ·rename_i h1 h2
   exact ⟨i, hi, h1, by rw [h2]; rfl⟩
  ·cases h
 ·cases h
theorem load1_ok (hT : TabOk P tab) {t : Nat} {i : TI} (hi : tab t = some i) (hg : i.agg = false) (hc : i.ty.cells = 1) {b p : Nat} {u : Value} (hu : w.cell? ⟨b, p, none⟩ = some u) : (Instr.loadAt t (.pointer (some ⟨b, p, none⟩))).run P w = .ok u w := by
 obtain ⟨v, h1, h2⟩ := load_ok (P := P) (w := w) hT hi (b := b) (p := p) (cs := [u]) (by rw [hc]; rfl) (fun j v hv => by
  cases j with
  | zero => simp at hv; subst hv; exact hu
  | succ j => simp at hv)
 rw [hg] at h2
 have h2 : [u] = [v] := h2
 simp only [List.cons.injEq, and_true] at h2
 rw [h2]; exact h1
theorem wLoadP_ok (hT : TabOk P tab) (hh : HOk B m H w) {t : Nat} {x : Operand} (ho : o.op = .load t x) {X : AV} (hX : AVRep m w H X (a.eval x)) : WayOk P B m H w o a (wLoadP tab o.dst t X) := by
 have ex : ∀ {v}, (Instr.loadAt t (a.eval x)).run P w = .ok v w → (execOp a.eval o).run P w = .ok (.value v) w := fun h => by
  simp only [execOp, ho, Sem.run_bind, h, Result.andThen_ok, Sem.run_pure]
 unfold wLoadP
 split
 ·rename_i id off ps _ hmt
  obtain ⟨i, hi, hg, hc1⟩ := mapTB_ok hT hmt
  split
  ·rename_i mm b hpa
   intro Q hQ
   simp only at hQ
   split at hQ
   ·rename_i g ls hx
    have hx := live_of_only hx
    split at hQ
    ·rename_i hl
     have h := hX.one
     obtain ⟨b1, u, q1, q2, q3⟩ := h.2.2 _ (pinAt_mem hpa) _ _ hx hl
     obtain ⟨b2, e1, e2⟩ := h.2.1 _ _ hx
     rw [q1] at e1; cases e1
     refine ⟨_, _, hQ, OpOk.value (ex (by rw [e2]; exact load1_ok hT hi hg hc1 q2)) (After.same hh (AVRep.mk1 ?_))⟩
     cases b with
     | true => exact q3
     | false => exact q3
    ·exact hQ.elim
   ·exact hQ.elim
  ·exact WayOk.fail
 ·exact wLoadB_ok hT hh ho (unpin_ok hX)
 ·rename_i id off dd hdst hmt
  obtain ⟨i, hi, hg, hc1⟩ := mapTB_ok hT hmt
  intro Q hQ
  simp only at hQ
  generalize hdd : 500000 + dd = d at hQ
  split at hQ
  ·rename_i g ls hx
   have hx := live_of_only hx
   have hc := hh.cr id
   rw [hx] at hc
   obtain ⟨b, el, cs, F', k1, k2, k3, k4⟩ := hc
   obtain ⟨b', qb, e1, e2⟩ := hX.one.2 _ _ hx
   rw [k1] at e1; cases e1
   have hfr := frm_par (B := B) (b := b) (show (g + 2) % 2 = g % 2 by omega)
   have cell : ∀ u, cs[off]? = some u → w.cell? ⟨b, (frm B g b).1.length + off, none⟩ = some u := fun u hu => frame_cell k3 hu
   split at hQ
   ·rename_i k e mm hl
    split at hQ
    ·rename_i hcnd
     simp only [Bool.and_eq_true, Bool.not_eq_true'] at hcnd
     have hda : H d = .absent := absent_of hcnd.1 (by simp)
     have hne : id ≠ d := fun e => by rw [e] at hcnd; simp at hcnd
     obtain ⟨F1, G, F2, u, f1, f2, f3, f4⟩ := RepL.takeC k4 hl
     have hL : (H id).Live := by rw [hx]; trivial
     have hnd := hh.nd id hL
     rw [k2, List.nodup_cons, f1] at hnd
     have hp : (F1 ++ (G ++ F2)).Perm ((F1 ++ F2) ++ G) := by
      rw [List.append_assoc]
      exact List.Perm.append_left _ List.perm_append_comm
     have hnd3 := hp.nodup_iff.1 hnd.2
     rw [List.nodup_append] at hnd3
     have mem1 : ∀ z, z ∈ b :: (F1 ++ F2) ∨ z ∈ G → z ∈ m.ft id := fun z hz => by
      rw [k2, f1]
      simp only [List.mem_cons, List.mem_append] at hz ⊢
      rcases hz with (h | h | h) | h <;> simp [h]
     have ch := Change.two (m := m) hh (id := id) (d := d) hne hL (ob := .cells (g + 2) (ls.set off .junk)) (c := .live (.mapo k e mm)) (G1 := b :: (F1 ++ F2)) (G2 := G) (hdr := u) (fun z hz => .inl (mem1 z hz)) ?_ hnd3.2.1 (fun _ z hz hz2 => ?_)
      ⟨b, el, cs, F1 ++ F2, by rw [hfr]; exact k1, rfl, by rw [hfr]; exact k3, f4⟩ ?_ (EvoAt.cells_ hx (upd_same _ _ _) (by omega) (upd_other _ _ hne) fun j hj => ⟨cst_set (by simp) hj, fun _ _ => rfl⟩) (fun h => absurd hda h)
     rotate_left
     ·rw [List.nodup_cons]
      exact ⟨fun h => hnd.1 (hp.symm.subset (List.mem_append_left _ h)), hnd3.1⟩
     ·rcases List.mem_cons.1 hz with rfl | hz
      ·exact hnd.1 (hp.symm.subset (List.mem_append_right _ hz2))
      ·exact hnd3.2.2 z hz z hz2 rfl
     ·simp only [CRep]
      rw [upd_same, upd_same]
      exact f3
     refine ⟨_, _, hQ, OpOk.value (ex (by rw [e2]; exact load1_ok hT hi hg hc1 (cell u f2))) ⟨_, hh.change ch, hh.evo ch, AVRep.mk1 ?_⟩⟩
     have hHd : putH H [(d, .live (.mapo k e mm)), (id, .live (.cells (g + 2) (ls.set off .junk)))] d = .live (.mapo k e mm) := by
      simp only [putH]; rw [upd_other _ _ (Ne.symm hne), upd_same]
     have hHi : putH H [(d, .live (.mapo k e mm)), (id, .live (.cells (g + 2) (ls.set off .junk)))] id = .live (.cells (g + 2) (ls.set off .junk)) := by
      simp only [putH]; rw [upd_same]
     refine ⟨⟨by rw [hHd]; simp, fun _ _ _ _ => by simp only; rw [upd_same], fun _ _ _ _ => by simp only; rw [upd_same]⟩, by rw [hHi]; simp, fun g0 ls0 h => ?_, fun ls0 h => ⟨b, _, by simp only; rw [upd_other _ _ hne]; exact k1, cell u f2⟩⟩
     rw [hHi] at h; cases h; exact Nat.le_refl _
    ·exact hQ.elim
   ·rename_i k e mm hl
    obtain ⟨F1, G, F2, u, f1, f2, f3, f4⟩ := RepL.takeC k4 hl
    have f3' : Rep m.Z w (.fmap k e) mm [u] G := f3
    have : G = [] := f3'.1
    subst this
    exact ⟨_, _, hQ, OpOk.value (ex (by rw [e2]; exact load1_ok hT hi hg hc1 (cell u f2))) (After.same hh (AVRep.mk1 f3'))⟩
   ·exact hQ.elim
  ·exact hQ.elim
 ·exact wLoadB_ok hT hh ho hX
theorem wRangeP_ok (hT : TabOk P tab) (hh : HOk B m H w) {t : Nat} {x : Operand} (ho : o.op = .range t x) {X : AV} (hX : AVRep m w H X (a.eval x)) : WayOk P B m H w o a (wRangeP tab o.dst t X) := by
 unfold wRangeP
 split
 ·rename_i mm id g0 off
  intro Q hQ
  simp only at hQ
  generalize hcore : wRange tab o.dst t (.val false [.mapr mm]) = core at hQ
  have hl := hX.one
  have call := wRange_ok (a := a) (o := o) hT hh ho (X := .val false [.mapr mm]) (AVRep.mk1 (l := .mapr mm) hl.1)
  rw [hcore] at call
  split at hQ
  ·rename_i g ls hx
   have hx := live_of_only hx
   split at hQ
   ·rename_i hg hoff hid
    obtain rfl := Nat.eq_of_beq_eq_true hg
    have hidn := memN_false.1 hid
    simp only [List.mem_cons, not_or] at hidn
    obtain ⟨hne, hidn⟩ := hidn
    have hQ := Tst.can_bind hQ
    have hoo : only (only H ([] ++ id :: mm :: (core.rd ++ core.wr))) (core.rd ++ core.wr) = only H (core.rd ++ core.wr) := by
     funext n
     unfold only
     cases hn : memN n (core.rd ++ core.wr) with
     | false => rfl
     | true =>
      simp only
      have := memN_iff.2 (show n ∈ [] ++ id :: mm :: (core.rd ++ core.wr) from List.mem_cons_of_mem _ (List.mem_cons_of_mem _ (memN_iff.1 hn)))
      rw [this]
    rw [hoo] at hQ
    obtain ⟨v, ups, hQ2, hop⟩ := call _ hQ
    simp only at hQ2
    split at hQ2
    ·rename_i k' e' m2' hmm hall
     refine ⟨_, _, hQ2, hop.mono fun v' w' ⟨m2, hh2, ev2, hv2⟩ => ?_⟩
     have hkeys := memN_all hall
     have hidk : id ∉ ups.map (·.1) := fun h => hidn (List.mem_append_right _ (hkeys id h))
     have H2M : putH H ups mm = .frzm k' e' m2' := by
      by_cases hk : mm ∈ ups.map (·.1)
      ·rw [putH_indep (H' := only H ([] ++ id :: mm :: (core.rd ++ core.wr))) hk]; exact hmm
      ·rw [putH_notin hk] at hmm ⊢
       exact only_live hmm (by simp)
     have H2i : putH H ups id = .live (.cells g ls) := by rw [putH_notin hidk]; exact hx
     have hL2 : (putH H ups id).Live := by rw [H2i]; trivial
     have hl2 : LRep m2 w' (putH H ups) (.mfl mm id g off) (a.eval x) := LRep.evo ev2 hl
     obtain ⟨b, qb, q1, q2⟩ := hl2.2.2.2 ls H2i
     have crm := hh2.cr mm
     rw [H2M] at crm
     have crm : Rep m2.Z w' (.fmap k' e') m2' [m2.hd mm] [] := crm
     have hcm := hl2.1.2.2 _ _ _ H2M
     rw [← hcm] at crm
     have cr := hh2.cr id
     rw [H2i] at cr
     obtain ⟨b', el, cs, F', k1, k2, k3, k4⟩ := cr
     rw [q1] at k1; cases k1
     have hoffl := (List.getElem?_eq_some_iff.1 hoff).1
     have hfr := frm_par (B := B) (b := b) (show (g + 2) % 2 = g % 2 by omega)
     have hcl := k4.len (sz := 1) ol1_len
     have hcs : cs[off]? = some (a.eval x) := by
      have h1 := frame_cell k3 (List.getElem?_eq_getElem (show off < cs.length by omega))
      rw [h1] at q2
      rw [List.getElem?_eq_getElem (show off < cs.length by omega)]
      exact q2
     obtain ⟨F3, F4, f5, f6⟩ := RepL.fillC (l := .junk) (l' := .v (.fmap k' e') m2') (u := a.eval x) (G := []) k4 hoff (fun _ _ h => h) hcs crm
     have f6 : RepL (OL1 m2.Z w') (ls.set off (.v (.fmap k' e') m2')) cs F' := by rw [f5]; exact f6
     have ch : Change B m2 (putH H ups) w' (id :: []) (m2.set id (m2.hd id) (m2.ft id)) (putH (putH H ups) ((id, .live (.cells (g + 2) (ls.set off (.v (.fmap k' e') m2')))) :: deads [])) w' :=
      Change.one (ob := .cells (g + 2) (ls.set off (.v (.fmap k' e') m2'))) hh2 (by simp) (by simp) rfl rfl rfl (Nat.le_refl _) (fun _ _ _ => rfl) ⟨b, el, cs, F', by rw [hfr]; exact q1, k2, by rw [hfr]; exact k3, f6⟩ (fun z hz => ⟨(hh2.nz id hL2 z hz).1, .inl ⟨id, by simp, hL2, hz⟩⟩) (hh2.nd id hL2) (fun _ => EvoAt.cells_ H2i (by simp only [putH, deads, List.map_nil]; exact upd_same _ _ _) (by omega) (by simp only [Md.set]; rw [upd_same]) fun j hj => ⟨cst_set (by simp) hj, fun _ _ => rfl⟩)
     have hfin : putH H (ups ++ [(id, .live (.cells (g + 2) (ls.set off (.v (.fmap k' e') m2'))))]) = putH (putH H ups) ((id, .live (.cells (g + 2) (ls.set off (.v (.fmap k' e') m2')))) :: deads []) := by
      rw [putH_append]
      simp only [putH, deads, List.map_nil]
     unfold After
     rw [hfin]
     exact ⟨_, hh2.change ch, ev2.trans (hh2.evo ch), hv2.evo (hh2.evo ch)⟩
    ·exact hQ2.elim
   ·exact hQ.elim
  ·exact hQ.elim
 ·exact wRange_ok hT hh ho hX
theorem wLookupP_ok (hT : TabOk P tab) (hh : HOk B m H w) {t : Nat} {x k : Operand} {ok : Bool} (ho : o.op = .lookup t x k ok) {X K : AV} (hX : AVRep m w H X (a.eval x)) (hK : AVRep m w H K (a.eval k)) : WayOk P B m H w o a (wLookupP tab t X K ok) := by
 unfold wLookupP
 split
 ·exact wLookupB_ok hT hh ho (AVRep.mk1 hX.one.1) hK
 ·exact wLookupB_ok hT hh ho hX hK
end
end Go.Proofs.YtadhpgecilhgnaaDoor.A

-- YtadhpgecilhgnaaDoorPk2
set_option linter.unusedVariables false
set_option linter.unusedSimpArgs false
namespace Go.Proofs.YtadhpgecilhgnaaDoor.A
open Go
section
variable {P : Program} {B : Base} {m m' m0 m1 : Md} {H H' H1 : Hp} {w w' : World} {o : Oper} {a : Act} {E : Env} {tab : Nat → Option TI} {T : Nat → Option FunE} {L : List Nat} {Z Z1 Zf : Nat → Prop}

theorem only_only {L S : List Nat} (h : ∀ n ∈ S, n ∈ L) : only (only H L) S = only H S := by
 funext n
 unfold only
 cases hn : memN n S with
 | false => rfl
 | true =>
  simp only
  have := memN_iff.2 (h n (memN_iff.1 hn))
  rw [this]
theorem frame_get {b i : Nat} {pre cs post : List Value} {el : TypeId} {u : Value} (h : w.heap[b]? = some (.cells (pre ++ cs ++ post).toArray el (0, 0))) (hc : w.cell? ⟨b, pre.length + i, none⟩ = some u) (hi : i < cs.length) : cs[i]? = some u := by
 have := frame_cell h (List.getElem?_eq_getElem hi)
 rw [this] at hc
 rw [List.getElem?_eq_getElem hi]
 exact hc
theorem attach (hh : HOk B m H w) {id M g off : Nat} {ls : List LV} {k e : Ty} {mm : List (k.den × e.den)} {b q : Nat} {c : Value} (hne : id ≠ M) (hx : H id = .live (.cells g ls)) (hM : H M = .live (.mapo k e mm)) (hoff : off < ls.length) (hb : m.hd id = .pointer (some ⟨b, q, none⟩)) (hc : w.cell? ⟨b, q + off, none⟩ = some c) (hcm : c = m.hd M) :
 ∃ m1, Change B m H w [id, M] m1 (upd (upd H M .dead) id (.live (.cells (g + 2) (ls.set off (.v (.map k e) mm))))) w := by
 have hL : (H id).Live := by rw [hx]; trivial
 have hLM : (H M).Live := by rw [hM]; trivial
 have cr := hh.cr id
 rw [hx] at cr
 obtain ⟨b', el, cs, F', k1, k2, k3, k4⟩ := cr
 rw [hb] at k1; cases k1
 have crM := hh.cr M
 rw [hM] at crM
 have crM : Rep m.Z w (.map k e) mm [m.hd M] (m.ft M) := crM
 have hfr := frm_par (B := B) (b := b) (show (g + 2) % 2 = g % 2 by omega)
 have hcs := frame_get k3 hc (by have := k4.len (sz := 1) ol1_len; rw [this, Nat.mul_one]; exact hoff)
 obtain ⟨F1, G, F2, u, f1, f2, f3, f4⟩ := RepL.takeC k4 (List.getElem?_eq_getElem hoff)
 obtain ⟨F3, F4, f5, f6⟩ := RepL.fillC (l := .junk) (l' := .v (.map k e) mm) (u := c) (G := m.ft M) f4 (by rw [List.getElem?_set, if_pos rfl, if_pos hoff]) (fun _ _ h => h) hcs (by rw [hcm]; exact crM)
 rw [List.set_set] at f6
 have hnd := hh.nd id hL
 rw [k2, List.nodup_cons, f1] at hnd
 have hndM := hh.nd M hLM
 have sub : ∀ z ∈ F3 ++ F4, z ∈ F1 ++ (G ++ F2) := fun z hz => by
  rw [← f5] at hz
  simp only [List.mem_append] at hz ⊢
  exact hz.imp_right .inr
 have hsub : ∀ z ∈ F3 ++ F4, z ∈ m.ft id := fun z hz => by rw [k2, f1]; exact List.mem_cons_of_mem _ (sub z hz)
 have nd2 : (F3 ++ F4).Nodup := by
  rw [← f5]
  exact hnd.2.sublist (List.Sublist.append (List.Sublist.refl _) (List.sublist_append_right _ _))
 have hp : (F3 ++ (m.ft M ++ F4)).Perm ((F3 ++ F4) ++ m.ft M) := by
  rw [List.append_assoc]
  exact List.Perm.append_left _ List.perm_append_comm
 exact ⟨_, Change.two (m := m) hh (id := id) (d := M) hne hL (ob := .cells (g + 2) (ls.set off (.v (.map k e) mm))) (c := .dead) (G1 := b :: (F3 ++ (m.ft M ++ F4))) (G2 := []) (hdr := m.hd M) (fun z hz => by
  rcases hz with hz | hz
  ·rcases List.mem_cons.1 hz with rfl | hz
   ·exact .inl (by rw [k2]; simp)
   ·rcases List.mem_append.1 (hp.subset hz) with hz | hz
    ·exact .inl (hsub z hz)
    ·exact .inr ⟨hLM, hz⟩
  ·cases hz) (by
  rw [List.nodup_cons]
  refine ⟨fun h => ?_, hp.nodup_iff.2 ?_⟩
  ·rcases List.mem_append.1 (hp.subset h) with h | h
   ·exact hnd.1 (sub b h)
   ·exact hh.sp id M hne hL hLM b (by rw [k2]; simp) h
  ·rw [List.nodup_append]
   exact ⟨nd2, hndM, fun x hx y hy e => hh.sp id M hne hL hLM x (hsub x hx) (e ▸ hy)⟩) (by simp) (fun h => h.elim)
  ⟨b, el, cs, _, by rw [hfr]; exact hb, rfl, by rw [hfr]; exact k3, f6⟩ trivial (EvoAt.cells_ hx (upd_same _ _ _) (by omega) (upd_other _ _ hne) fun j hj => ⟨cst_set (by simp) hj, fun _ _ => rfl⟩) (fun _ => EvoAt.dead (by rw [upd_other _ _ (Ne.symm hne), upd_same]))⟩
theorem wMapUpdateP_ok (hT : TabOk P tab) (hh : HOk B m H w) {t : Nat} {x k y : Operand} (ho : o.op = .mapUpdate t x k y ∨ o.op = .insert t x k y) {X K Y : AV} (hX : AVRep m w H X (a.eval x)) (hK : AVRep m w H K (a.eval k)) (hY : AVRep m w H Y (a.eval y)) : WayOk P B m H w o a (wMapUpdateP tab t X K Y) := by
 unfold wMapUpdateP
 split
 ·rename_i mm id g0 off
  intro Q hQ
  simp only at hQ
  generalize hcore : wMapUpdateB tab t (.val false [.mapr mm]) K Y = core at hQ
  have hl := hX.one
  have call := wMapUpdateB_ok (a := a) (o := o) hT hh ho (X := .val false [.mapr mm]) (AVRep.mk1 (l := .mapr mm) hl.1) hK hY
  rw [hcore] at call
  split at hQ
  ·rename_i g ls hx
   have hx := live_of_only hx
   split at hQ
   ·rename_i hg hoff hid
    obtain rfl := Nat.eq_of_beq_eq_true hg
    have hoff : off < ls.length := by rwa [Nat.blt_eq] at hoff
    have hidn := memN_false.1 hid
    simp only [List.mem_cons, not_or] at hidn
    obtain ⟨hne, hidn⟩ := hidn
    have hQ := Tst.can_bind hQ
    rw [only_only (fun n hn => by rw [List.nil_append]; exact List.mem_cons_of_mem _ (List.mem_cons_of_mem _ hn))] at hQ
    obtain ⟨v, ups, hQ2, hop⟩ := call _ hQ
    simp only at hQ2
    split at hQ2
    ·rename_i k' e' m2' hmm hall
     refine ⟨_, _, hQ2, hop.mono fun v' w' ⟨m2, hh2, ev2, hv2⟩ => ?_⟩
     have hkeys := memN_all hall
     have hidk : id ∉ ups.map (·.1) := fun h => hidn (List.mem_append_right _ (hkeys id h))
     have H2M : putH H ups mm = .live (.mapo k' e' m2') := by
      by_cases hk : mm ∈ ups.map (·.1)
      ·rw [putH_indep (H' := only H ([] ++ id :: mm :: (core.rd ++ core.wr))) hk]; exact hmm
      ·rw [putH_notin hk] at hmm ⊢
       exact live_of_only hmm
     have H2i : putH H ups id = .live (.cells g ls) := by rw [putH_notin hidk]; exact hx
     have hl2 : LRep m2 w' (putH H ups) (.mfl mm id g off) (a.eval x) := LRep.evo ev2 hl
     obtain ⟨b, qb, q1, q2⟩ := hl2.2.2.2 ls H2i
     obtain ⟨m3, ch⟩ := attach hh2 hne H2i H2M hoff q1 q2 (hl2.1.2.1 _ _ _ H2M)
     have hfin : putH H (ups ++ [(mm, .dead), (id, .live (.cells (g + 2) (ls.set off (.v (.map k' e') m2'))))]) = upd (upd (putH H ups) mm .dead) id (.live (.cells (g + 2) (ls.set off (.v (.map k' e') m2')))) := by
      rw [putH_append]
      simp only [putH]
     unfold After
     rw [hfin]
     exact ⟨m3, hh2.change ch, ev2.trans (hh2.evo ch), hv2.evo (hh2.evo ch)⟩
    ·exact hQ2.elim
   ·exact hQ.elim
  ·exact hQ.elim
 ·split
  ·exact wMapUpdateA_ok hT hh ho hX hK hY
  ·exact wMapUpdateB_ok hT hh ho hX hK hY
 ·exact wMapUpdateB_ok hT hh ho hX hK hY

theorem leaves_Z {ls : List LV} {cs : List Value} {F : List Nat} (hz : ∀ b, Z b → Z1 b) (h : RepL (OL1 Z w) ls cs F) : RepL (OL1 Z1 w) ls cs F := by
 refine RepL.mono (fun l c F hx => ?_) h
 obtain ⟨u, g1, g2⟩ := hx
 refine ⟨u, g1, ?_⟩
 cases l <;> first | exact g2 | exact Rep.frame (fun _ _ => rfl) hz (fun _ _ => rfl) g2
theorem melt (hh : HOk B m H w) {id M g off : Nat} {ls : List LV} {l' : LV} {b q : Nat} {c : Value} (hne : id ≠ M) (hx : H id = .live (.cells g ls)) (hLM : (H M).Live) (hl : ls[off]? = some .cst) (hb : m.hd id = .pointer (some ⟨b, q, none⟩)) (hc : w.cell? ⟨b, q + off, none⟩ = some c) (hnc : l' ≠ .cst)
 (hr : OL (fun z => m.Z z ∨ z ∈ m.ft M) w l' c []) :
 ∃ m1, Change B m H w [id, M] m1 (upd (upd H M .dead) id (.live (.cells (g + 2) (ls.set off l')))) w := by
 have hL : (H id).Live := by rw [hx]; trivial
 have cr := hh.cr id
 rw [hx] at cr
 obtain ⟨b', el, cs, F', k1, k2, k3, k4⟩ := cr
 rw [hb] at k1; cases k1
 have hfr := frm_par (B := B) (b := b) (show (g + 2) % 2 = g % 2 by omega)
 have hcs := frame_get k3 hc (by have := k4.len (sz := 1) ol1_len; rw [this, Nat.mul_one]; exact (List.getElem?_eq_some_iff.1 hl).1)
 obtain ⟨F3, F4, f5, f6⟩ := RepL.fillC (l := .cst) (l' := l') (u := c) (G := []) (leaves_Z (Z1 := fun z => m.Z z ∨ z ∈ m.ft M) (fun _ h => .inl h) k4) hl (fun _ _ h => h) hcs hr
 have f6 : RepL (OL1 (fun z => m.Z z ∨ z ∈ m.ft M) w) (ls.set off l') cs F' := by rw [f5]; exact f6
 have hi : upd (upd H M .dead) id (.live (.cells (g + 2) (ls.set off l'))) id = .live (.cells (g + 2) (ls.set off l')) := upd_same _ _ _
 have hM : upd (upd H M .dead) id (.live (.cells (g + 2) (ls.set off l'))) M = .dead := by rw [upd_other _ _ (Ne.symm hne), upd_same]
 refine ⟨⟨fun z => m.Z z ∨ z ∈ m.ft M, m.hd, m.ft⟩, { os := rfl, tape := rfl, output := rfl, size := Nat.le_refl _, un := fun i hi' => ?_, blk := fun _ _ _ => rfl, zs := fun _ h => .inl h, zi := fun z hz => ?_, cr := fun i hi' => ?_, ft := fun i hi' hl z hz => ?_, nd := fun i hi' hl => ?_, sp := fun i hi' j hj' hij hli hlj z hz => ?_, at_ := fun i hi' hab => ?_ }⟩
 ·simp only [List.mem_cons, List.not_mem_nil, or_false, not_or] at hi'
  exact ⟨by rw [upd_other _ _ hi'.1, upd_other _ _ hi'.2], rfl, rfl⟩
 ·exact hz.imp_right fun hz => .inl ⟨⟨M, by simp, hLM, hz⟩, (hh.nz M hLM z hz).2.1⟩
 ·simp only [List.mem_cons, List.not_mem_nil, or_false] at hi'
  rcases hi' with rfl | rfl
  ·rw [hi]
   exact ⟨b, el, cs, F', by rw [hfr]; exact hb, k2, by rw [hfr]; exact k3, f6⟩
  ·rw [hM]; trivial
 ·simp only [List.mem_cons, List.not_mem_nil, or_false] at hi'
  rcases hi' with rfl | rfl
  ·exact ⟨fun hz' => hz'.elim (hh.nz i hL z hz).1 fun hz' => hh.sp i M hne hL hLM z hz hz', .inl ⟨i, by simp, hL, hz⟩⟩
  ·rw [hM] at hl; exact hl.elim
 ·simp only [List.mem_cons, List.not_mem_nil, or_false] at hi'
  rcases hi' with rfl | rfl
  ·exact hh.nd i hL
  ·rw [hM] at hl; exact hl.elim
 ·simp only [List.mem_cons, List.not_mem_nil, or_false] at hi' hj'
  rcases hi' with rfl | rfl
  ·rcases hj' with rfl | rfl
   ·exact absurd rfl hij
   ·rw [hM] at hlj; exact hlj.elim
  ·rw [hM] at hli; exact hli.elim
 ·simp only [List.mem_cons, List.not_mem_nil, or_false] at hi'
  rcases hi' with rfl | rfl
  ·exact EvoAt.cells_ hx hi (by omega) rfl fun j hj => ⟨cst_set hnc hj, fun _ _ => rfl⟩
  ·exact EvoAt.dead hM
theorem St.ghost {ch : List Nat} (s : St B m E H a w) (c : Change B m H w ch m' H' w) : St B m' E H' a w := ⟨s.h.change c, fun t => (s.t t).evo (s.h.evo c), s.d⟩
theorem pack1_ok (s : St B m E H a w) {id off M : Nat} {b : Bool} {τ : Ty} (hp : ∀ g ls, H id = .live (.cells g ls) → ls[off]? = some .cst → ∃ bb u, m.hd id = .pointer (some ⟨bb, 0, none⟩) ∧ w.cell? ⟨bb, off, none⟩ = some u ∧ LPin m H M b u) :
 ∃ m', St B m' E (pack1 H id off M b τ) a w := by
 unfold pack1
 split
 ·rename_i g ls hx
  split
  ·rename_i hl hM
   split
   ·rename_i hne
    obtain ⟨bb, u, q1, q2, q3⟩ := hp g ls hx hl
    obtain ⟨m1, ch⟩ := attach s.h hne hx hM (List.getElem?_eq_some_iff.1 hl).1 q1 (by rw [Nat.zero_add]; exact q2) (q3.2.1 _ _ _ hM)
    exact ⟨m1, s.ghost ch⟩
   ·exact ⟨m, s⟩
  ·rename_i hl hM
   split
   ·rename_i hne
    obtain ⟨bb, u, q1, q2, q3⟩ := hp g ls hx hl
    have cr := s.h.cr M
    rw [hM] at cr
    have r := Rep.map_fmap (Z := m.Z) (Z' := fun z => m.Z z ∨ z ∈ m.ft M) cr (fun _ h => .inl h) fun z hz => .inr hz
    rw [← q3.2.1 _ _ _ hM] at r
    obtain ⟨m1, ch⟩ := melt s.h hne hx (by rw [hM]; trivial) hl q1 (by rw [Nat.zero_add]; exact q2) (l' := .v (.fmap _ _) _) (by simp) r
    exact ⟨m1, s.ghost ch⟩
   ·exact ⟨m, s⟩
  ·rename_i hl hM
   split
   ·rename_i hne
    obtain ⟨bb, u, q1, q2, q3⟩ := hp g ls hx hl
    have cr := s.h.cr M
    rw [hM] at cr
    obtain ⟨bm, ents, clock, F', k1, k2, k3, k4, k5⟩ := cr
    obtain ⟨m1, ch⟩ := melt s.h hne.2 hx (by rw [hM]; trivial) hl q1 (by rw [Nat.zero_add]; exact q2) (l' := .v (.fmap _ (.sl _)) _) (by simp) (by
     rw [q3.2 _ _ _ _ _ hM]
     refine ⟨rfl, bm, ents, clock, by rw [k1], .inr (by rw [k2]; simp), k3, k4, ?_⟩
     exact rows_frozen hne.1 (Z := m.Z) (fun _ h => .inl h) (fun z hz => .inr (by rw [k2]; simp [hz])) k5)
    exact ⟨m1, s.ghost ch⟩
   ·exact ⟨m, s⟩
  ·exact ⟨m, s⟩
 ·exact ⟨m, s⟩
theorem packs_ok {id : Nat} {ts : List Ty} {t : Nat} {ps0 : List (Nat × Nat × Bool)} (he : E t = .val false [.pptr id 0 ps0]) : ∀ {ps : List (Nat × Nat × Bool)} {m : Md} {H : Hp}, (∀ q ∈ ps, q ∈ ps0) → St B m E H a w → ∃ m', St B m' E (packs id ts H ps) a w
 | [], m, H, _, s => ⟨m, s⟩
 | q :: ps, m, H, h, s => by
  have ht := s.t t
  rw [he] at ht
  obtain ⟨m1, s1⟩ := pack1_ok (τ := ts.getD q.1 .unit) s fun g ls hx hl => ht.one.2.2 q (h q (by simp)) g ls hx hl
  show ∃ m', St B m' E (packs id ts (pack1 H id q.1 q.2.1 q.2.2 (ts.getD q.1 .unit)) ps) a w
  exact packs_ok he (fun q hq => h q (by simp [hq])) s1
theorem packR_ok : ∀ {outs : List Ty} {vs : List ResultVar} {m : Md} {H : Hp}, St B m E H a w → ∃ m', St B m' E (packR E outs vs H) a w
 | [], _, m, H, s => ⟨m, by simpa [packR] using s⟩
 | τ :: outs, [], m, H, s => ⟨m, by cases τ <;> simpa [packR] using s⟩
 | τ :: outs, v :: vs, m, H, s => by
  have plain : packR E (τ :: outs) (v :: vs) H = packR E outs vs H → ∃ m', St B m' E (packR E (τ :: outs) (v :: vs) H) a w := fun e => by
   rw [e]; exact packR_ok s
  cases τ with
  | ptr e =>
   cases v with
   | tmp t =>
    unfold packR
    split
    ·rename_i id ps he
     obtain ⟨m1, s1⟩ := packs_ok (ts := leafTys e) he (fun q h => h) s
     exact packR_ok s1
    ·exact packR_ok s
   | cell _ _ => exact plain rfl
  | _ => exact plain rfl
end
end Go.Proofs.YtadhpgecilhgnaaDoor.A

-- YtadhpgecilhgnaaDoorCr
set_option linter.unusedVariables false
set_option linter.unusedSimpArgs false
namespace Go.Proofs.YtadhpgecilhgnaaDoor.A
open Go
section
variable {P : Program} {B : Base} {m m' m0 m1 : Md} {H H' H1 : Hp} {w w' : World} {o : Oper} {a : Act} {E : Env} {tab : Nat → Option TI} {T : Nat → Option FunE} {L : List Nat} {Z : Nat → Prop}

theorem wMakeFunc_ok (hh : HOk B m H w) {fn : Fn} {fs cs : Array Operand} (ho : o.op = .makeFunc fn fs cs) {X Y : List AV} (hX : All2 (AVRep m w H) X (fs.toList.map a.eval)) (hY : All2 (AVRep m w H) Y (cs.toList.map a.eval)) : WayOk P B m H w o a (wMakeFunc fn X Y) := by
 have one : ∀ {xs : Array Operand} {v : Value}, xs.toList.map a.eval = [v] → xs.map a.eval = #[v] := fun {xs v} h => by
  apply Array.ext'
  simpa using h
 have nil : ∀ {xs : Array Operand}, xs.toList.map a.eval = [] → xs.map a.eval = #[] := fun {xs} h => by
  apply Array.ext'
  simpa using h
 unfold wMakeFunc
 split
 ·rename_i f
  have h1 : fs.toList.map a.eval = [] := List.eq_nil_of_length_eq_zero hX.len
  have h2 : cs.toList.map a.eval = [] := List.eq_nil_of_length_eq_zero hY.len
  exact WayOk.one hh (by simp only [execOp, ho, nil h1, nil h2, Instr.makeFunc, Sem.run_bind, Sem.run_pure, Result.andThen_ok]) ⟨rfl, rfl⟩
 ·rename_i f id
  have h2 : cs.toList.map a.eval = [] := List.eq_nil_of_length_eq_zero hY.len
  generalize hv : fs.toList.map a.eval = vs at hX
  match vs, hX with
  | [v], hX =>
   intro Q hQ
   simp only at hQ
   split at hQ
   ·rename_i g ls hx
    have hx := live_of_only hx
    obtain ⟨b, q, q1, q2⟩ := hX.1.one.2 g ls hx
    exact ⟨_, _, hQ, OpOk.value (v := cloV f true v) (by simp only [execOp, ho, one hv, nil h2, Instr.makeFunc, Sem.run_bind, Sem.run_pure, Result.andThen_ok, cloV]) (After.same hh (AVRep.mk1 ⟨by rw [hx]; simp, fun g' ls' hh' => ⟨b, q, q1, by rw [q2]; rfl⟩⟩))⟩
   ·exact hQ.elim
 ·rename_i f id
  have h2 : fs.toList.map a.eval = [] := List.eq_nil_of_length_eq_zero hX.len
  generalize hv : cs.toList.map a.eval = vs at hY
  match vs, hY with
  | [v], hY =>
   intro Q hQ
   simp only at hQ
   split at hQ
   ·rename_i g ls hx
    have hx := live_of_only hx
    obtain ⟨b, q, q1, q2⟩ := hY.1.one.2 g ls hx
    exact ⟨_, _, hQ, OpOk.value (v := cloV f false v) (by simp only [execOp, ho, one hv, nil h2, Instr.makeFunc, Sem.run_bind, Sem.run_pure, Result.andThen_ok, cloV]) (After.same hh (AVRep.mk1 ⟨by rw [hx]; simp, fun g' ls' hh' => ⟨b, q, q1, by rw [q2]; rfl⟩⟩))⟩
   ·exact hQ.elim
 ·rename_i f id
  have h2 : fs.toList.map a.eval = [] := List.eq_nil_of_length_eq_zero hX.len
  generalize hv : cs.toList.map a.eval = vs at hY
  match vs, hY with
  | [v], hY =>
   intro Q hQ
   simp only at hQ
   split at hQ
   ·rename_i k e cu r hx
    have hx := live_of_only hx
    have q1 := hY.1.one.2 _ _ _ _ hx
    exact ⟨_, _, hQ, OpOk.value (v := cloV f false v) (by simp only [execOp, ho, one hv, nil h2, Instr.makeFunc, Sem.run_bind, Sem.run_pure, Result.andThen_ok, cloV]) (After.same hh (AVRep.mk1 ⟨by rw [hx]; simp, fun _ _ _ _ _ => by rw [q1]⟩))⟩
   ·exact hQ.elim
 ·exact WayOk.fail
theorem row_first {sz n cap : Nat} {ad : Option Addr} {c : List Value} {F : List Nat} (h : OwnRow w sz n ad cap c F) (hl : c.length = n * sz) : ∀ w' : World, w'.heap = w.heap → (Builtin.firstCells sz n (.slice ad n cap)).run P w' = .ok c.toArray w' := by
 intro w' hw
 rcases h with ⟨q1, q2, q3, q4⟩ | ⟨b, p, blk, el, q1, q2, q3, q4, q5⟩
 ·subst q1; subst q3
  have : c = [] := by simpa using hl
  subst this
  exact run_firstCells_none w' _ _ _ _
 ·subst q1
  refine run_firstCells_some w' _ _ _ _ _ c hl fun j v hv => ?_
  rw [aad, cell_of_block (w := w) (w' := w') (by rw [hw])]
  simp only [World.cell?, q2]
  simpa using q4 j v hv
theorem RepL.frame {e : Ty} {xs : List e.den} {c : List Value} {F : List Nat} (hZ : ∀ b, Z b → w'.heap[b]? = w.heap[b]?) (hF : ∀ b ∈ F, w'.heap[b]? = w.heap[b]?) (h : RepL (fun x c F => Rep Z w e x c F) xs c F) : RepL (fun x c F => Rep Z w' e x c F) xs c F :=
 RepL.mono_F (G := F) (fun x c F' hx hF' => hx.frame hZ (fun _ h => h) fun b hb => hF b (hF' b hb)) (fun _ hb => hb) h
theorem append_own {ts : Array TypeId} {ty et : TypeId} {inf : TypeInfo} {z : Value} (A : AppTy P ts et inf z) {e : Ty} {xs ys : List e.den} {x y : Value} {F G : List Nat} (hx : Rep Z w (.vec e) xs [x] F) (hy : Rep Z w (.vec e) ys [y] G) (hn : (F ++ G).Nodup) (hF : ∀ b ∈ F ++ G, ¬ Z b ∧ b < w.heap.size) (hZ : ∀ b, Z b → b < w.heap.size)
 (hsz : inf.size = e.cells) (hzs : z.cells.size = e.cells) (hby : inf.bytes ≤ 128) (hlen : xs.length + ys.length ≤ 1099511627776) :
 ∃ v' w' F', (Builtin.append_ ts ty #[x, y]).run P w = .ok v' w' ∧ Rep Z w' (.vec e) (xs ++ ys) [v'] F' ∧ w'.os = w.os ∧ w'.tape = w.tape ∧ w'.output = w.output ∧ w.heap.size ≤ w'.heap.size ∧ (∀ b, b < w.heap.size → b ∉ F → w'.heap[b]? = w.heap[b]?) ∧ F'.Nodup ∧
  ∀ b ∈ F', ¬ Z b ∧ (b ∈ F ++ G ∨ (w.heap.size ≤ b ∧ b < w'.heap.size)) := by
 obtain ⟨hl, ad, cap, c, F1, F2, h1, h2, h3, h4, h5⟩ := hx
 obtain ⟨hl', ad', cap', c', G1, G2, k1, k2, k3, k4, k5⟩ := hy
 have h1 : x = .slice ad xs.length cap := by simpa using h1
 have k1 : y = .slice ad' ys.length cap' := by simpa using k1
 have hcl := h4.len (sz := e.cells) (fun x c F hx => hx.len)
 have hnl := k4.len (sz := e.cells) (fun x c F hx => hx.len)
 have happ := h4.append k4
 have hx1 : (Builtin.lenOf y).run P w = .ok ys.length w := by rw [k1]; rfl
 have hx3 : ∀ w' : World, w'.heap = w.heap → (Builtin.firstCells inf.size ys.length y).run P w' = .ok c'.toArray w' := by
  rw [k1, hsz]; exact row_first k5 hnl
 have hx4 : ∀ u ∈ c', u.oneCell' = true := RepL.oneCell (m := { Z := Z, hd := fun _ => undef, ft := fun _ => [] }) k4
 have hN2 : (F2 ++ G2).Nodup ∧ (∀ b ∈ F1, b ∉ F2 ++ G2) ∧ F1.Nodup := by
  rw [h3, k3] at hn
  have hs : ((F1 ++ F2) ++ (G1 ++ G2)).Nodup := hn
  rw [List.nodup_append] at hs
  obtain ⟨s1, s2, s3⟩ := hs
  rw [List.nodup_append] at s1 s2
  refine ⟨List.nodup_append.2 ⟨s1.2.1, s2.2.1, fun a ha b hb => s3 a (by simp [ha]) b (by simp [hb])⟩, fun b hb hb2 => ?_, s1.1⟩
  rcases List.mem_append.1 hb2 with hb2 | hb2
  ·exact s1.2.2 b hb b hb2 rfl
  ·exact s3 b (by simp [hb]) b (by simp [hb2]) rfl
 have hin : ∀ b ∈ F2 ++ G2, b ∈ F ++ G := fun b hb => by
  rw [h3, k3]
  rcases List.mem_append.1 hb with hb | hb <;> simp [hb]
 by_cases hroom : xs.length + ys.length ≤ cap
 ·have hrun := append_room (P := P) (w := w) (ty := ty) A (ad := ad) (len := xs.length) (cap := cap) hx1 hx3 hroom
  rcases h5 with ⟨q1, q2, q3, q4⟩ | ⟨b, p, blk, el, q1, q2, q3, q4, q5⟩
  ·subst q1; subst q2
   have hy0 : ys = [] := List.eq_nil_of_length_eq_zero (by omega)
   have hx0 : xs = [] := List.eq_nil_of_length_eq_zero (by omega)
   subst hy0; subst hx0
   rw [h1]
   exact ⟨_, _, [], hrun, ⟨by simp, none, 0, [], [], [], rfl, by simp, rfl, ⟨rfl, rfl⟩, .inl ⟨rfl, rfl, rfl, rfl⟩⟩, rfl, rfl, rfl, Nat.le_refl _, fun _ _ _ => rfl, by simp, by simp⟩
  ·subst q1
   simp only [aad, hsz] at hrun
   have hfit : p + xs.length * e.cells + c'.length ≤ blk.size := by
    have : (xs.length + ys.length) * e.cells ≤ cap * e.cells := Nat.mul_le_mul_right _ hroom
    rw [Nat.add_mul] at this
    omega
   have hst := run_storeCells_at P b (p + xs.length * e.cells) el c' 0 blk w q2 (by simpa using hfit) hx4
   simp only [Nat.add_zero] at hst
   rw [hst, Result.andThen_ok] at hrun
   have hbF : b ∈ F := by rw [h3, q5]; simp
   have hbz := hF b (by simp [hbF])
   have hW : ∀ z, z ≠ b → (w.setRow b (seg (p + xs.length * e.cells) c' blk.toList).toArray).heap[z]? = w.heap[z]? := fun z hz => setRow_other w b z _ hz
   have hb2 : ∀ z ∈ F2 ++ G2, z ≠ b := fun z hz ez => hN2.2.1 b (by rw [q5]; simp) (ez ▸ hz)
   rw [h1]
   refine ⟨_, w.setRow b (seg (p + xs.length * e.cells) c' blk.toList).toArray, F1 ++ (F2 ++ G2), hrun, ⟨by rw [List.length_append]; omega, some ⟨b, p, none⟩, cap, c ++ c', F1, F2 ++ G2, by simp, by simpa using hroom, rfl, RepL.frame (fun z hz => hW z fun ez => hbz.1 (ez ▸ hz)) (fun z hz => hW z (hb2 z hz)) happ, .inr ⟨b, p, _, el, rfl, setRow_heap w b _ _ _ _ q2, ?_, fun j u hu => ?_, q5⟩⟩, rfl, rfl, rfl, by simp, fun z hz hzF => hW z fun ez => hzF (ez ▸ hbF), List.nodup_append.2 ⟨hN2.2.2, hN2.1, fun a ha b' hb' e => hN2.2.1 a ha (e ▸ hb')⟩, fun z hz => ?_⟩
   ·have := seg_len (off := p + xs.length * e.cells) (vs := c') (l := blk.toList) (by simp; omega)
    have h7 : (seg (p + xs.length * e.cells) c' blk.toList).length = blk.size := by simpa using this
    rw [List.size_toArray, h7]; exact q3
   ·rw [List.getElem?_toArray, seg_get (by simp; omega)]
    rw [List.getElem?_append, hcl] at hu
    split at hu
    ·rename_i hj
     rw [if_neg (by omega)]
     simpa using q4 j u hu
    ·rename_i hj
     have := (List.getElem?_eq_some_iff.1 hu).1
     rw [if_pos (by omega), show p + j - (p + xs.length * e.cells) = j - xs.length * e.cells by omega]
     exact hu
   ·have hz' : z ∈ F ++ G := by
     rcases List.mem_append.1 hz with hz | hz
     ·rw [h3]; simp [hz]
     ·exact hin z hz
    exact ⟨(hF z hz').1, .inl hz'⟩
 ·have hfit : Builtin.nextslicecap (xs.length + ys.length) cap * inf.bytes ≤ 281474976710656 := by
   refine growslice_fits (by omega) ?_
   have : (xs.length + ys.length) * inf.bytes ≤ 1099511627776 * 128 := Nat.mul_le_mul hlen hby
   omega
  have hold : ∀ w' : World, w'.heap = w.heap → (Builtin.firstCells inf.size xs.length (.slice ad xs.length cap)).run P w' = .ok c.toArray w' := by
   rw [hsz]; exact row_first h5 hcl
  have hrun := append_grow (P := P) (w := w) (ty := ty) A (ad := ad) (len := xs.length) (cap := cap) hx1 hold hx3 (by omega) (by omega) hfit
  have hge := grownCap_ge w (xs.length + ys.length) cap et
  rw [h1]
  have sz : (w.drew.alloc (.cells (c.toArray ++ c'.toArray ++ Builtin.zeroCells z.cells (grownCap w (xs.length + ys.length) cap et - (xs.length + ys.length))) et)).heap.size = w.heap.size + 1 := by rw [World.size_alloc]; rfl
  have old : ∀ b, b < w.heap.size → (w.drew.alloc (.cells (c.toArray ++ c'.toArray ++ Builtin.zeroCells z.cells (grownCap w (xs.length + ys.length) cap et - (xs.length + ys.length))) et)).heap[b]? = w.heap[b]? := fun b hb => alloc_old (w := w.drew) hb
  refine ⟨_, _, w.heap.size :: (F2 ++ G2), hrun, ⟨by rw [List.length_append]; omega, some ⟨w.heap.size, 0, none⟩, _, c ++ c', [w.heap.size], F2 ++ G2, by rw [List.length_append], by simpa using hge, rfl, RepL.frame (fun z hz => old z (hZ z hz)) (fun z hz => old z (hF z (hin z hz)).2) happ, .inr ⟨w.heap.size, 0, _, et, rfl, alloc_new (w := w.drew), ?_, fun j u hu => ?_, rfl⟩⟩, rfl, rfl, rfl, by omega, fun z hz _ => old z hz, List.nodup_cons.2 ⟨fun h => ?_, hN2.1⟩, fun z hz => ?_⟩
  ·simp only [Array.size_append, List.size_toArray, size_zeroCells, hzs, hcl, hnl, Nat.zero_add]
   rw [← Nat.add_mul, ← Nat.add_mul]
   exact Nat.mul_le_mul_right _ (by omega)
  ·have hj := (List.getElem?_eq_some_iff.1 hu).1
   rw [Nat.zero_add, Array.getElem?_append, if_pos (by simpa using hj)]
   simpa using hu
  ·have := (hF _ (hin _ h)).2; omega
  ·rcases List.mem_cons.1 hz with rfl | hz
   ·exact ⟨fun hz => by have := hZ _ hz; omega, .inr ⟨Nat.le_refl _, by omega⟩⟩
   ·exact ⟨(hF z (hin z hz)).1, .inl (hin z hz)⟩

theorem Change.nil (hh : HOk B m H w) : Change B m H w [] m H w :=
 ⟨⟨rfl, rfl, rfl, Nat.le_refl _, fun _ _ => ⟨rfl, rfl, rfl⟩, fun _ _ _ => rfl, fun _ h => h, fun _ h => .inl h, (by simp), (by simp), (by simp), (by simp)⟩, (by simp)⟩
theorem sub_out (hh : HOk B m H w) {d id g off : Nat} {ls : List LV} {e : Ty} {xs0 : List e.den} {x : Value} (hda : H d = .absent) (hne : id ≠ d) (hx : H id = .live (.cells g ls)) (hl : ls[off]? = some (.v (.vec e) xs0)) (hX : LRep m w H (.sub id g off) x) :
 ∃ G F2, Change B m H w [d, id] ((m.set id (m.hd id) F2).set d x G) (putH H [(d, .live (.row e xs0)), (id, .live (.cells (g + 2) (ls.set off .junk)))]) w ∧ Rep m.Z w (.vec e) xs0 [x] G ∧ G.Nodup ∧ ∀ b ∈ G, b ∈ m.ft id := by
 have hL : (H id).Live := by rw [hx]; trivial
 have hcr := hh.cr id
 rw [hx] at hcr
 obtain ⟨b, qb, k1, k2⟩ := hX.2.2 _ _ _ hx hl
 obtain ⟨b', el, cs, F', q1, q2, q3, q4⟩ := hcr
 rw [k1] at q1; cases q1
 have hfr := frm_par (B := B) (b := b) (show (g + 2) % 2 = g % 2 by omega)
 have hnd := hh.nd id hL
 rw [q2, List.nodup_cons] at hnd
 obtain ⟨c, G, F2, r1, r2, r3, r4, r5, r6, r7⟩ := RepL.takeOut ol1_len .junk hl q4 hnd.2
 have hcx : c = x := by
  rw [frame_cell q3 r2] at k2
  exact Option.some.inj k2
 subst hcx
 obtain ⟨u, hu, r1⟩ := r1
 simp only [List.cons.injEq, and_true] at hu
 subst hu
 have hin : ∀ z, z ∈ G ∨ z ∈ b :: F2 → z ∈ m.ft id := fun z hz => by
  rw [q2]
  rcases hz with hz | hz
  ·simp [r3 z hz]
  ·rcases List.mem_cons.1 hz with rfl | hz
   ·simp
   ·simp [(r4 z hz).1]
 have H1 : ∀ c1 c2 : Cell, putH H [(d, c1), (id, c2)] d = c1 ∧ putH H [(d, c1), (id, c2)] id = c2 ∧ ∀ k, k ≠ d → k ≠ id → putH H [(d, c1), (id, c2)] k = H k := fun c1 c2 => by
  simp only [putH]
  refine ⟨by rw [upd_other _ _ hne.symm, upd_same], by rw [upd_same], fun k h1 h2 => by rw [upd_other _ _ h2, upd_other _ _ h1]⟩
 obtain ⟨e1, e2, e3⟩ := H1 (.live (.row e xs0)) (.live (.cells (g + 2) (ls.set off .junk)))
 refine ⟨G, b :: F2, ⟨⟨rfl, rfl, rfl, Nat.le_refl _, fun k hk => ?_, fun _ _ _ => rfl, fun _ h => h, fun _ h => .inl h, fun k hk => ?_, fun k hk hlv z hz => ?_, fun k hk hlv => ?_, fun i hi i' hi' hii hli hli' => ?_⟩, fun k hk hab => ?_⟩, r1, r5, fun z hz => hin z (.inl hz)⟩
 all_goals simp only [List.mem_cons, List.not_mem_nil, or_false, not_or] at *
 ·refine ⟨e3 k hk.1 hk.2, ?_, ?_⟩ <;> simp only [Md.set] <;> rw [upd_other _ _ hk.1, upd_other _ _ hk.2]
 ·rcases hk with rfl | rfl
  ·rw [e1]
   show Rep _ _ _ _ _ _
   simp only [Md.set]
   rw [upd_same, upd_same]
   exact r1
  ·rw [e2]
   simp only [CRep, Md.set]
   rw [upd_other _ _ hne, upd_other _ _ hne, upd_same, upd_same]
   exact ⟨b, el, cs, F2, by rw [hfr]; exact k1, rfl, by rw [hfr]; exact q3, r7 ⟨c, rfl, rfl⟩⟩
 ·have : z ∈ m.ft id := by
   rcases hk with rfl | rfl
   ·simp only [Md.set] at hz; rw [upd_same] at hz; exact hin z (.inl hz)
   ·simp only [Md.set] at hz; rw [upd_other _ _ hne, upd_same] at hz; exact hin z (.inr (List.mem_cons.1 hz))
  exact ⟨(hh.nz id hL z this).1, .inl ⟨id, by simp, hL, this⟩⟩
 ·rcases hk with rfl | rfl
  ·simp only [Md.set]; rw [upd_same]; exact r5
  ·simp only [Md.set]; rw [upd_other _ _ hne, upd_same, List.nodup_cons]
   exact ⟨fun h => hnd.1 (r4 _ h).1, r6⟩
 ·have key : ∀ z ∈ G, z ∉ b :: F2 := fun z hz hzb => by
   rcases List.mem_cons.1 hzb with rfl | hzb
   ·exact hnd.1 (r3 _ hz)
   ·exact (r4 z hzb).2 hz
  rcases hi with rfl | rfl <;> rcases hi' with rfl | rfl
  ·exact absurd rfl hii
  ·simp only [Md.set]; rw [upd_same, upd_other _ _ hne, upd_same]; exact key
  ·simp only [Md.set]; rw [upd_same, upd_other _ _ hne, upd_same]; exact fun z hz hzG => key z hzG hz
  ·exact absurd rfl hii
 ·rcases hk with rfl | rfl
  ·exact absurd hda hab
  ·exact EvoAt.cells_ hx e2 (by omega) (by simp only [Md.set]; rw [upd_other _ _ hne, upd_same]) fun j hj => ⟨cst_set (by simp) hj, fun _ _ => rfl⟩
theorem wAppendR_ok (hT : TabOk P tab) (hh : HOk B m H w) {ts : Array Nat} {X Y : AV} {x y : Value} (hX : AVRep m w H X x) (hY : AVRep m w H Y y)
 (ex : ∀ v w', (Builtin.append_ ts o.type #[x, y]).run P w = .ok v w' → (execOp a.eval o).run P w = .ok (.value v) w') : WayOk P B m H w o a (wAppendR tab o.dst ts X Y) := by
 unfold wAppendR
 split
 ·rename_i d j l s hdst hj
  split
  ·exact wAppendB_ok hT hh hX hY ex
  split
  ·rename_i hcond
   obtain ⟨et, inf, z, A, a1, a2, a3⟩ := appTy_ok hT hj hcond
   -- the end, alike in all cases
   have fin : ∀ {xs ys : List j.ty.den} {F G : List Nat} {rest : List (Nat × Cell)} {m1 : Md} {H1 : Hp} {ids : List Nat}, HOk B m1 H1 w → m1.Z = m.Z → Rep m.Z w (.vec j.ty) xs [x] F → Rep m.Z w (.vec j.ty) ys [y] G → (F ++ G).Nodup → (∀ b ∈ F ++ G, ¬ m.Z b ∧ b < w.heap.size ∧ Blk m1 H1 (d :: ids) b) →
    (∀ i ∈ ids, (H1 i).Live) → d ∉ ids → xs.length + ys.length ≤ 1099511627776 → 
    (∀ m2 w', Change0 B m1 H1 w (d :: ids) m2 (putH H1 ((d, .live (.row j.ty (xs ++ ys))) :: deads ids)) w' → HOk B m2 (putH H ((d, .live (.row j.ty (xs ++ ys))) :: rest)) w' ∧ Evo m H w m2 (putH H ((d, .live (.row j.ty (xs ++ ys))) :: rest)) w') → d ∉ rest.map (·.1) →
    OpOk P o a w (After B m H w (.val false [.row d]) ((d, .live (.row j.ty (xs ++ ys))) :: rest)) := by
    intro xs ys F G rest m1 H1 ids hh1 hZ hx hy hn hF hl hd hlen k hdr
    obtain ⟨v', w', F', r1, r2, r3, r4, r5, r6, r7, r8, r9⟩ := append_own (ty := o.type) A hx hy hn (fun b hb => ⟨(hF b hb).1, (hF b hb).2.1⟩) hh.zl a1 a2 a3 hlen
    have ch := Change0.one (B := B) (m := m1) (H := H1) (w := w) (w' := w') (d := d) (ids := ids) hh1 hl hd r3 r4 r5 r6 (ob := .row j.ty (xs ++ ys)) (hdr := v') (F := F') (fun b hb hnB => r7 b hb fun hbF => hnB (hF b (by simp [hbF])).2.2) (by rw [hZ]; exact r2) (fun b hb => ⟨by rw [hZ]; exact (r9 b hb).1, (r9 b hb).2.imp (fun h => (hF b h).2.2) id⟩) r8
    obtain ⟨k1, k2⟩ := k _ _ ch
    have hhd : (m1.set d v' F').hd d = v' := by simp only [Md.set]; rw [upd_same]
    refine OpOk.value (ex _ _ r1) ⟨_, k1, k2, ⟨[_], rfl, ⟨?_, fun e' xs' _ => hhd.symm, fun e' xs' _ => hhd.symm⟩, trivial⟩⟩
    rw [putH, putH_notin hdr, upd_same]; simp
   -- the row that is used up
   have src : ∀ {ys : List j.ty.den}, H s = .live (.row j.ty ys) → Rep m.Z w (.vec j.ty) ys [y] (m.ft s) ∧ (H s).Live := fun hs => by
    have hcr := hh.cr s
    rw [hs] at hcr
    have := hY.one.2.1 _ _ hs
    rw [this]
    exact ⟨hcr, by rw [hs]; trivial⟩
   split
   ·intro Q hQ
    simp only at hQ
    split at hQ
    ·rename_i hc
     simp only [Bool.and_eq_true, Bool.not_eq_true'] at hc
     obtain ⟨⟨c1, c2⟩, c4⟩ := hc
     have hda := absent_of c1 (by simp)
     have hne : s ≠ d := fun e => by subst e; rw [Nat.beq_refl] at c2; cases c2
     split at hQ
     ·rename_i e ys0 hs
      split at hQ
      ·rename_i ys hys
       obtain ⟨hlen, hQ⟩ := hQ
       obtain ⟨he, hys⟩ := castTo_sl hys
       subst he; subst hys
       have hs := live_of_only hs
       obtain ⟨hy, hsL⟩ := src hs
       refine ⟨_, _, hQ, ?_⟩
       have hx0 : x = .slice none 0 0 := hX.one
       refine fin (xs := []) (F := []) (m1 := m) (H1 := H) (ids := [s]) hh rfl ?_ hy (by simpa using hh.nd s hsL) (fun b hb => ?_) (by simpa using hsL) (by simp; exact fun h => hne h.symm) hlen (fun m2 w' ch => ?_) (by simp; exact fun h => hne h.symm)
       ·subst hx0
        exact ⟨by simp, none, 0, [], [], [], rfl, by simp, rfl, ⟨rfl, rfl⟩, .inl ⟨rfl, rfl, rfl, rfl⟩⟩
       ·have hb : b ∈ m.ft s := by simpa using hb
        exact ⟨(hh.nz s hsL b hb).1, (hh.nz s hsL b hb).2.1, s, by simp, hsL, hb⟩
       ·exact After.steps hh (ds := [d, s]) (fun i hi => by
         simp only [List.mem_cons, List.not_mem_nil, or_false] at hi
         rcases hi with rfl | rfl
         ·exact .inl hda
         ·exact .inr (putH_cons_dead H d _ [i] (by simp))) (Change.nil hh) ch
      ·exact hQ.elim
     ·exact hQ.elim
    ·exact hQ.elim
   ·rename_i id
    intro Q hQ
    simp only at hQ
    split at hQ
    ·rename_i hc
     simp only [Bool.and_eq_true, Bool.not_eq_true'] at hc
     obtain ⟨⟨⟨⟨c1, c2⟩, c3⟩, c5⟩, c4⟩ := hc
     have hda := absent_of c1 (by simp)
     have hne : s ≠ d := fun e => by subst e; rw [Nat.beq_refl] at c2; cases c2
     have hne2 : id ≠ d := fun e => by subst e; rw [Nat.beq_refl] at c3; cases c3
     have hne3 : id ≠ s := fun e => by subst e; rw [Nat.beq_refl] at c5; cases c5
     split at hQ
     ·rename_i e ys0 e' xs0 hs hx
      split at hQ
      ·rename_i ys xs hys hxs
       obtain ⟨hlen, hQ⟩ := hQ
       obtain ⟨he, hys⟩ := castTo_sl hys
       obtain ⟨he', hxs⟩ := castTo_sl hxs
       subst he; subst hys; subst he'; subst hxs
       have hs := live_of_only hs
       have hx := live_of_only hx
       obtain ⟨hy, hsL⟩ := src hs
       have hL : (H id).Live := by rw [hx]; trivial
       have hcr := hh.cr id
       rw [hx] at hcr
       have hhd := hX.one.2.1 _ _ hx
       refine ⟨_, _, hQ, ?_⟩
       refine fin (F := m.ft id) (G := m.ft s) (m1 := m) (H1 := H) (ids := [s, id]) hh rfl (by rw [hhd]; exact hcr) hy (List.nodup_append.2 ⟨hh.nd id hL, hh.nd s hsL, fun a ha b hb e => hh.sp id s hne3 hL hsL a ha (e ▸ hb)⟩) (fun b hb => ?_) (by simp [hsL, hL]) (by simp; exact ⟨fun h => hne h.symm, fun h => hne2 h.symm⟩) hlen (fun m2 w' ch => ?_) (by simp; exact ⟨fun h => hne h.symm, fun h => hne2 h.symm⟩)
       ·rcases List.mem_append.1 hb with hb | hb
        ·exact ⟨(hh.nz id hL b hb).1, (hh.nz id hL b hb).2.1, id, by simp, hL, hb⟩
        ·exact ⟨(hh.nz s hsL b hb).1, (hh.nz s hsL b hb).2.1, s, by simp, hsL, hb⟩
       ·exact After.steps hh (ds := [d, s, id]) (fun i hi => by
         simp only [List.mem_cons, List.not_mem_nil, or_false] at hi
         rcases hi with rfl | rfl | rfl
         ·exact .inl hda
         ·exact .inr (putH_cons_dead H d _ [i, id] (by simp))
         ·exact .inr (putH_cons_dead H d _ [s, i] (by simp))) (Change.nil hh) ch
      ·exact hQ.elim
     ·exact hQ.elim
    ·exact hQ.elim
   ·rename_i id g off
    intro Q hQ
    simp only at hQ
    split at hQ
    ·rename_i hc
     simp only [Bool.and_eq_true, Bool.not_eq_true'] at hc
     obtain ⟨⟨⟨⟨c1, c2⟩, c3⟩, c5⟩, c4⟩ := hc
     have hda := absent_of c1 (by simp)
     have hne : s ≠ d := fun e => by subst e; rw [Nat.beq_refl] at c2; cases c2
     have hne2 : id ≠ d := fun e => by subst e; rw [Nat.beq_refl] at c3; cases c3
     have hne3 : id ≠ s := fun e => by subst e; rw [Nat.beq_refl] at c5; cases c5
     split at hQ
     ·rename_i e ys0 g' ls hs hx
      split at hQ
      ·rename_i e' xs0 hg hl
       split at hQ
       ·rename_i ys xs ls' hys hxs hset
        obtain ⟨hlen, hQ⟩ := hQ
        obtain ⟨he, hys⟩ := castTo_sl hys
        obtain ⟨he', hxs⟩ := castTo_sl hxs
        subst he; subst hys; subst he'; subst hxs
        obtain rfl := Nat.eq_of_beq_eq_true hg
        obtain ⟨rfl, hol⟩ := setLs_one hset
        have hs := live_of_only hs
        have hx := live_of_only hx
        obtain ⟨hy, hsL⟩ := src hs
        have hL : (H id).Live := by rw [hx]; trivial
        obtain ⟨G, F2, ch1, r1, r2, r3⟩ := sub_out hh hda hne2 hx hl hX.one
        refine ⟨_, _, hQ, ?_⟩
        have hh1 := hh.change ch1
        generalize hm1 : (m.set id (m.hd id) F2).set d x G = M1 at ch1 hh1
        generalize hH1 : putH H [(d, .live (.row j.ty xs0)), (id, .live (.cells (g + 2) (ls.set off .junk)))] = H1 at ch1 hh1
        have H1d : H1 d = .live (.row j.ty xs0) := by rw [← hH1]; simp only [putH]; rw [upd_other _ _ hne2.symm, upd_same]
        have H1s : H1 s = .live (.row j.ty ys0) := by rw [← hH1]; simp only [putH]; rw [upd_other _ _ hne3.symm, upd_other _ _ hne, hs]
        have L1d : (H1 d).Live := by rw [H1d]; trivial
        have L1s : (H1 s).Live := by rw [H1s]; trivial
        have f1d : M1.ft d = G := by rw [← hm1]; simp only [Md.set]; rw [upd_same]
        have f1s : M1.ft s = m.ft s := by rw [← hm1]; simp only [Md.set]; rw [upd_other _ _ hne, upd_other _ _ hne3.symm]
        have hZ1 : M1.Z = m.Z := by rw [← hm1]; rfl
        refine fin (F := G) (G := m.ft s) (m1 := M1) (H1 := H1) (ids := [s]) hh1 hZ1 r1 hy (List.nodup_append.2 ⟨r2, hh.nd s hsL, fun a ha b hb e => hh.sp id s hne3 hL hsL a (r3 a ha) (e ▸ hb)⟩) (fun b hb => ?_) (by simpa using L1s) (by simp; exact fun h => hne h.symm) hlen (fun m2 w' ch => ?_) (by simp; exact ⟨fun h => hne h.symm, fun h => hne2 h.symm⟩)
        ·rcases List.mem_append.1 hb with hb | hb
         ·exact ⟨(hh.nz id hL b (r3 b hb)).1, (hh.nz id hL b (r3 b hb)).2.1, d, by simp, L1d, by rw [f1d]; exact hb⟩
         ·exact ⟨(hh.nz s hsL b hb).1, (hh.nz s hsL b hb).2.1, s, by simp, L1s, by rw [f1s]; exact hb⟩
        ·have heq : putH H1 ((d, .live (.row j.ty (xs0 ++ ys0))) :: deads [s]) = putH H [(d, .live (.row j.ty (xs0 ++ ys0))), (s, .dead), (id, .live (.cells (g + 2) (ls.set off .junk)))] := by
          rw [← hH1]
          simp only [putH, deads, List.map_cons, List.map_nil]
          funext k
          by_cases k1 : k = s
          ·subst k1; rw [upd_same, upd_other _ _ hne3.symm, upd_same]
          ·rw [upd_other _ _ k1]
           by_cases k2 : k = d
           ·subst k2; rw [upd_same, upd_other _ _ hne2.symm, upd_other _ _ k1, upd_same]
           ·rw [upd_other _ _ k2]
            by_cases k3 : k = id
            ·subst k3; rw [upd_same, upd_same]
            ·rw [upd_other _ _ k3, upd_other _ _ k2, upd_other _ _ k3, upd_other _ _ k1, upd_other _ _ k2]
         rw [heq] at ch
         refine After.steps hh (ds := [d, s]) (fun i hi => ?_) ch1 ch
         simp only [List.mem_cons, List.not_mem_nil, or_false] at hi
         rcases hi with rfl | rfl
         ·exact .inl hda
         ·refine .inr ?_
          simp only [putH]
          rw [upd_other _ _ hne3.symm, upd_same]
       ·exact hQ.elim
      ·exact hQ.elim
     ·exact hQ.elim
    ·exact hQ.elim
   ·exact WayOk.fail
  ·exact WayOk.fail
 ·exact wAppendB_ok hT hh hX hY ex

theorem pureL_all2 : ∀ {ns : List LV} {cs : List Value} {G : List Nat}, ns.all pureL = true → RepL (OL1 m.Z w) ns cs G → All2 (LRep m w H) ns cs
 | [], _, _, _, ⟨h, _⟩ => by subst h; trivial
 | l :: ns, _, _, hp, ⟨c1, c2, K1, K2, z1, z2, ⟨u, z3, z4⟩, z5⟩ => by
  rw [List.all_cons, Bool.and_eq_true] at hp
  subst z1; subst z3
  refine ⟨?_, pureL_all2 hp.2 z5⟩
  cases l with
  | v τ x =>
   have := Rep.pure hp.1 z4
   subst this; exact z4
  | nils => exact z4.1
  | nilm => exact z4.1
  | nilp => exact z4.1
  | _ => exact absurd hp.1 (by simp [pureL])
theorem wLoadR_ok (hT : TabOk P tab) (hh : HOk B m H w) {t : Nat} {x : Operand} (ho : o.op = .load t x) {X : AV} (hX : AVRep m w H X (a.eval x)) : WayOk P B m H w o a (wLoadR tab o.dst t X) := by
 have ex : ∀ {v}, (Instr.loadAt t (a.eval x)).run P w = .ok v w → (execOp a.eval o).run P w = .ok (.value v) w := fun h => by
  simp only [execOp, ho, Sem.run_bind, h, Result.andThen_ok, Sem.run_pure]
 unfold wLoadR
 split
 ·rename_i id n off
  split
  ·rename_i i hi
   intro Q hQ
   simp only at hQ
   split at hQ
   ·rename_i e xs hx
    have hx := live_of_only hx
    split at hQ
    ·rename_i ns hn
     split at hQ
     ·rename_i hp
      obtain ⟨b, p, n', cap, k1, k2, k3⟩ := hX.one.2 e xs hx
      have hc := hh.cr id
      rw [hx] at hc
      obtain ⟨g1, ad, cap', cs, F1, F2, g2, g3, g4, g5, g6⟩ := hc
      rcases g6 with ⟨_, _, q, _⟩ | ⟨b', p', blk, el, q1, q2, q3, q4, q5⟩
      ·omega
      ·subst q1
       rw [k1] at g2
       simp only [List.cons.injEq, Value.slice.injEq, Option.some.injEq, Addr.mk.injEq, and_true] at g2
       obtain ⟨⟨rfl, rfl⟩, -, -⟩ := g2
       obtain ⟨cc, G, r1, r2, r3⟩ := g5.at (sz := e.cells) (fun x c F hx => hx.len) n (xs.getD n e.dflt) (by rw [List.getD_eq_getElem?_getD, List.getElem?_eq_getElem k3]; rfl)
       have hcell : ∀ (j : Nat) (u : Value), cc[j]? = some u → w.cell? ⟨b, p + n * e.cells + j, none⟩ = some u := fun j u hu => by
        rw [← r3, List.getElem?_take] at hu
        split at hu
        ·rw [List.getElem?_drop] at hu
         have := q4 _ u hu
         simp only [World.cell?, q2]
         simp only [Nat.add_assoc]
         simpa using this
        ·cases hu
       have fl := flat_ok r1
       obtain ⟨G1, g1, g2⟩ := fl.drop1 ol1_len off
       obtain ⟨G2, g3, g4⟩ := g1.takeN' ol1_len hn
       have hlen : ((cc.drop off).take i.ty.cells).length = i.ty.cells := by
        rw [g3.len (sz := 1) ol1_len, takeN_len hn, Nat.mul_one]
       obtain ⟨v, s1, s2⟩ := load_ok (P := P) (w := w) hT hi (b := b) (p := p + n * e.cells + off) hlen (fun j u hu => by
        rw [List.getElem?_take] at hu
        split at hu
        ·rw [List.getElem?_drop] at hu
         rw [Nat.add_assoc]; exact hcell _ u hu
        ·cases hu)
       exact ⟨_, _, hQ, OpOk.value (ex (by rw [k2]; exact s1)) (After.same hh ⟨_, s2, pureL_all2 hp g3⟩)⟩
     ·exact hQ.elim
    ·exact hQ.elim
   ·exact hQ.elim
  ·exact WayOk.fail
 ·exact wLoadP_ok hT hh ho hX

theorem EvoAt.rest_ {id : Nat} {e : Ty} {l1 l2 : List e.den} {c1 c2 : List Value} (h : H' id = .live (.rest e l1 l2 c1 c2)) : EvoAt m H w m' H' w' id :=
 ⟨by rw [h]; exact (fun hh => by cases hh), fun _ _ hh => by rw [h] at hh; (cases hh), fun _ _ hh => by rw [h] at hh; (cases hh), fun _ _ hh => by rw [h] at hh; (cases hh), fun _ _ _ hh => by rw [h] at hh; (cases hh), fun _ _ _ hh => by rw [h] at hh; (cases hh), fun _ _ _ _ hh => by rw [h] at hh; (cases hh), fun _ _ _ _ _ hh => by rw [h] at hh; (cases hh), fun _ _ hh => by rw [h] at hh; (cases hh)⟩
theorem Evo.at_ (ev : Evo m H w m' H' w') {id : Nat} (hab : H id ≠ .absent) : EvoAt m H w m' H' w' id :=
 ⟨ev.ab id hab, ev.cells id hab, ev.row id hab, ev.frz id hab, ev.map id hab, ev.frzm id hab, ev.itr id hab, ev.mapb id hab, ev.cst id hab⟩
theorem EvoAt.heap {K K' : Hp} {id : Nat} (h1 : K id = H id) (h2 : K' id = H' id) (e : EvoAt m H w m' H' w' id) : EvoAt m K w m' K' w' id := by
 obtain ⟨a1, a2, a3, a4, a5, a6, a7, a8, a9⟩ := e
 refine ⟨?_, ?_, ?_, ?_, ?_, ?_, ?_, ?_, ?_⟩
 ·rw [h2]; exact a1
 ·rw [h1, h2]; exact a2
 ·rw [h1, h2]; exact a3
 ·rw [h1, h2]; exact a4
 ·rw [h1, h2]; exact a5
 ·rw [h1, h2]; exact a6
 ·rw [h1, h2]; exact a7
 ·rw [h1, h2]; exact a8
 ·rw [h1, h2]; exact a9
theorem Evo.but (ev : Evo m H w m' H' w') (id : Nat) : Evo m (upd H id .absent) w m' (upd H' id .absent) w' :=
 Evo.of_at ev.z fun j hj => by
  have hji : j ≠ id := fun e => hj (by rw [e, upd_same])
  rw [upd_other _ _ hji] at hj
  exact (ev.at_ hj).heap (upd_other _ _ hji) (upd_other _ _ hji)
theorem Evo.of_but {id : Nat} (ev : Evo m (upd H id .absent) w m' (upd H' id .absent) w') (h : EvoAt m H w m' H' w' id) : Evo m H w m' H' w' :=
 Evo.of_at ev.z fun j hj => by
  by_cases hji : j = id
  ·subst hji; exact h
  ·exact (ev.at_ (id := j) (by rw [upd_other _ _ hji]; exact hj)).heap (upd_other _ _ hji).symm (upd_other _ _ hji).symm
theorem HOk.rebase {fr : Nat → List Value × List Value} (h : HOk B m H w) (hf : ∀ id g ls b, H id = .live (.cells g ls) → g % 2 ≠ 0 → b ∈ m.ft id → fr b = B.fr b) : HOk { B with fr := fr } m H w := by
 refine ⟨h.zl, h.zs, h.zi, fun id => ?_, h.nd, h.sp, h.nz, h.kp⟩
 have hc := h.cr id
 cases hx : H id with
 | absent => trivial
 | dead => trivial
 | frz e xs => rw [hx] at hc; exact hc
 | frzm k e mm => rw [hx] at hc; exact hc
 | live ob =>
  rw [hx] at hc
  cases ob with
  | cells g ls =>
   obtain ⟨b, el, cs, F', k1, k2, k3, k4⟩ := hc
   have : frm { B with fr := fr } g b = frm B g b := by
    unfold frm
    by_cases hg : g % 2 = 0
    ·rw [if_pos hg, if_pos hg]
    ·rw [if_neg hg, if_neg hg]
     exact hf id g ls b hx hg (by rw [k2]; simp)
   exact ⟨b, el, cs, F', by rw [this]; exact k1, k2, by rw [this]; exact k3, k4⟩
  | row e xs => exact hc
  | mapo k e mm => exact hc
  | iter k e c r => exact hc
  | mapb g k e mm ho => exact hc
  | rest e l1 l2 c1 c2 => exact hc
theorem wCallR_ok {F : FunE} {f : FuncId} (hF : FunOk P f F) (hh : HOk B m H w) {as_ : List AV} {vs : List Value} (hv : All2 (AVRep m w H) as_ vs) (ex : (execOp a.eval o).run P w = .ok (.enter f vs.toArray) w) : WayOk P B m H w o a (wCallR F o.dst as_) := by
 unfold wCallR
 split
 ·rename_i id i as'
  generalize hdd : 600000 + o.dst.getD 99999 = d
  match vs, hv with
  | c :: vs', hv =>
   intro Q hQ
   simp only at hQ
   generalize hcore : wCallF F o.dst (.val false [.ptr d 0] :: as') = core at hQ
   split at hQ
   ·rename_i e xs hx
    have hx := live_of_only hx
    split at hQ
    ·rename_i hc
     simp only [Bool.and_eq_true, Bool.not_eq_true'] at hc
     obtain ⟨c1, c2⟩ := hc
     have hda : H d = .absent := absent_of c1 (by simp)
     have hidn := memN_false.1 c2
     simp only [List.mem_cons, not_or] at hidn
     obtain ⟨hne, hidn⟩ := hidn
     have hQ := Tst.can_bind hQ
     have hL : (H id).Live := by rw [hx]; trivial
     obtain ⟨b, p, n', cap, k1, k2, k3⟩ := hv.1.one.2 e xs hx
     have hcr := hh.cr id
     rw [hx] at hcr
     obtain ⟨g1, ad, cap', cs, F1, F2, g2, g3, g4, g5, g6⟩ := hcr
     rcases g6 with ⟨_, _, q, _⟩ | ⟨b', p', blk, el, q1, q2, q3, q4, q5⟩
     ·omega
     subst q1
     rw [k1] at g2
     simp only [List.cons.injEq, Value.slice.injEq, Option.some.injEq, Addr.mk.injEq, and_true] at g2
     obtain ⟨⟨rfl, rfl⟩, rfl, rfl⟩ := g2
     have hxi : xs[i]? = some (xs.getD i e.dflt) := by rw [List.getD_eq_getElem?_getD, List.getElem?_eq_getElem k3]; rfl
     generalize hxx : xs.getD i e.dflt = x at hxi hQ
     obtain ⟨l1, l2, d1, de, d2, G1, Ge, G2, s1, s2, s3, s4, s5, s6, s7⟩ := g5.splitAt hxi
     have hcl := g5.len (sz := e.cells) (fun x c F hx => hx.len)
     have hd1 := s5.len (sz := e.cells) (fun x c F hx => hx.len)
     rw [s2] at hd1
     have hcap : cs.length ≤ cap * e.cells := by rw [hcl]; exact Nat.mul_le_mul_right _ g3
     have hmid := mid_eq (l := blk.toList) (cs := cs) (p := p) (fun j u hu => by simpa using q4 j u hu) (by simp; omega)
     generalize hpre : blk.toList.take p ++ d1 = pre at *
     generalize hpost : d2 ++ blk.toList.drop (p + cs.length) = post at *
     have hprel : pre.length = p + i * e.cells := by rw [← hpre, List.length_append, List.length_take, hd1]; simp; omega
     have hblk : blk = (pre ++ de ++ post).toArray := by
      apply Array.ext'
      rw [hmid, s3, ← hpre, ← hpost]
      simp [s3]
     have hft : m.ft id = b :: (G1 ++ (Ge ++ G2)) := by rw [g4, q5, s4]; rfl
     have hnd := hh.nd id hL
     rw [hft] at hnd
     have hnd2 := List.nodup_cons.1 hnd
     have hperm : (G1 ++ (Ge ++ G2)).Perm ((G1 ++ G2) ++ Ge) := by
      rw [List.append_assoc]
      exact List.Perm.append_left _ List.perm_append_comm
     have hnd3 := hperm.nodup_iff.1 hnd2.2
     rw [List.nodup_append] at hnd3
     have hsep : ∀ j, j ≠ id → (H j).Live → b ∉ m.ft j := fun j hj hjl => hh.sp id j (Ne.symm hj) hL hjl b (by rw [hft]; simp)
     have hhB := hh.rebase (fr := fun z => if z = b then (pre, post) else B.fr z) (fun j g ls z hj hg hz => by
      have : z ≠ b := fun ez => hsep j (fun ej => by rw [ej, hx] at hj; cases hj) (by rw [hj]; trivial) (ez ▸ hz)
      simp [this])
     generalize hB' : ({ B with fr := fun z => if z = b then (pre, post) else B.fr z } : Base) = B' at hhB
     have hfrb : ∀ g, g % 2 = 1 → frm B' g b = (pre, post) := fun g hg => by
      unfold frm
      rw [if_neg (by omega), ← hB']
      simp
     have hfrz : ∀ z, z ≠ b → B'.fr z = B.fr z := fun z hz => by rw [← hB']; simp [hz]
     have hc' : c = .pointer (some ⟨b, pre.length + 0, none⟩) := by rw [k2, hprel, Nat.add_zero]
     have mem1 : ∀ z, z ∈ G1 ++ G2 ∨ z ∈ b :: Ge → z ∈ m.ft id := fun z hz => by
      rw [hft]
      simp only [List.mem_cons, List.mem_append] at hz ⊢
      rcases hz with (h | h) | h | h <;> simp [h]
     -- the element is taken out
     have ch1 := Change.two (m := m) hhB (id := id) (d := d) hne hL (ob := .rest e l1 l2 d1 d2) (c := .live (.cells 1 (flat e x))) (G1 := G1 ++ G2) (G2 := b :: Ge) (hdr := .pointer (some ⟨b, pre.length, none⟩)) (fun z hz => .inl (mem1 z hz)) hnd3.1 ?_ (fun _ z hz hz2 => ?_)
      ⟨G1, G2, rfl, s5, s7⟩ ?_ (EvoAt.rest_ (upd_same _ _ _)) (fun h => absurd hda h)
     rotate_left
     ·rw [List.nodup_cons]
      exact ⟨fun h => hnd2.1 (hperm.symm.subset (List.mem_append_right _ h)), hnd3.2.1⟩
     ·rcases List.mem_cons.1 hz2 with rfl | hz2
      ·exact hnd2.1 (hperm.symm.subset (List.mem_append_left _ hz))
      ·exact hnd3.2.2 z hz z hz2 rfl
     ·simp only [CRep]
      rw [upd_same, upd_same]
      exact ⟨b, el, de, Ge, by rw [hfrb 1 rfl], rfl, by rw [hfrb 1 rfl, ← hblk]; exact q2, flat_ok s6⟩
     have hh1 := hhB.change ch1
     have ev1 := hhB.evo ch1
     generalize hm1 : ({ Z := m.Z, hd := upd m.hd d (.pointer (some ⟨b, pre.length, none⟩)), ft := upd (upd m.ft id (G1 ++ G2)) d (b :: Ge) } : Md) = M1 at hh1 ev1
     generalize hH1 : upd (upd H d (.live (.cells 1 (flat e x)))) id (.live (.rest e l1 l2 d1 d2)) = H1 at hh1 ev1
     have H1d : H1 d = .live (.cells 1 (flat e x)) := by rw [← hH1, upd_other _ _ (Ne.symm hne), upd_same]
     have H1id : H1 id = .live (.rest e l1 l2 d1 d2) := by rw [← hH1, upd_same]
     have M1d : M1.hd d = .pointer (some ⟨b, pre.length, none⟩) := by rw [← hm1]; exact upd_same _ _ _
     have call := wCallF_ok (a := a) (o := o) hF hh1 (as_ := .val false [.ptr d 0] :: as') (vs := c :: vs') ⟨AVRep.mk1 ⟨by rw [H1d]; simp, fun _ _ _ => ⟨b, _, M1d, hc'⟩⟩, hv.2.mono fun _ _ h => h.evo ev1⟩ ex
     rw [hcore] at call
     have heq : only (upd (only H ([] ++ id :: d :: (core.rd ++ core.wr))) d (.live (.cells 1 (flat e x)))) (core.rd ++ core.wr) = only H1 (core.rd ++ core.wr) := by
      funext n
      unfold only
      cases hn : memN n (core.rd ++ core.wr) with
      | false => rfl
      | true =>
       simp only
       have hnm := memN_iff.1 hn
       have hni : n ≠ id := fun e => hidn (e ▸ hnm)
       by_cases hnd' : n = d
       ·subst hnd'
        rw [upd_same, H1d]
       ·rw [upd_other _ _ hnd', ← hH1, upd_other _ _ hni, upd_other _ _ hnd']
        have : memN n ([] ++ id :: d :: (core.rd ++ core.wr)) = true := memN_iff.2 (by
         rw [List.nil_append]
         exact List.mem_cons_of_mem _ (List.mem_cons_of_mem _ hnm))
        rw [this]
     rw [heq] at hQ
     obtain ⟨v, ups, hQ2, hop⟩ := call _ hQ
     simp only at hQ2
     split at hQ2
     ·rename_i gg ls hls hall hflat
      split at hQ2
      ·rename_i y hy hod
       refine ⟨_, _, hQ2, ?_⟩
       unfold OpOk at hop ⊢
       rw [ex] at hop ⊢
       refine hop.mono fun e' w' ⟨v', he', hA⟩ => ⟨v', he', ?_⟩
       obtain ⟨m2, hh2, ev2, hv2⟩ := hA
       have hkeys := memN_all hall
       have hidk : id ∉ ups.map (·.1) := fun h => hidn (List.mem_append_right _ (hkeys id h))
       have hdk : d ∈ ups.map (·.1) := by
        apply Classical.byContradiction
        intro hn
        rw [putH_notin hn] at hls
        cases hls
       generalize hH2 : putH H1 ups = H2 at hh2 ev2 hv2
       have H2id : H2 id = .live (.rest e l1 l2 d1 d2) := by rw [← hH2, putH_notin hidk, H1id]
       have H2d : H2 d = .live (.cells gg ls) := by rw [← hH2, putH_indep (H' := fun _ => .absent) hdk, hls]
       have L2 : (H2 id).Live := by rw [H2id]; trivial
       have Ld : (H2 d).Live := by rw [H2d]; trivial
       have hod := Nat.eq_of_beq_eq_true hod
       obtain ⟨q2', _⟩ := ev2.cells d (by rw [H1d]; simp) _ _ H2d
       have cr := hh2.cr id
       rw [H2id] at cr
       obtain ⟨K1, K2, r2, r3, r4⟩ := cr
       have crd := hh2.cr d
       rw [H2d] at crd
       obtain ⟨bx, el2, ce2, Fe2, t1, t2, t3, t4⟩ := crd
       rw [q2', M1d] at t1
       simp only [Value.pointer.injEq, Option.some.injEq, Addr.mk.injEq, and_true] at t1
       obtain ⟨rfl, _⟩ := t1
       rw [hfrb gg hod] at t3
       have hyr := asmAllO hy t4
       have nid := hh2.nd id L2
       rw [r2, List.nodup_append] at nid
       have ndd := hh2.nd d Ld
       rw [t2, List.nodup_cons] at ndd
       have dis : ∀ z ∈ m2.ft id, z ∉ m2.ft d := fun z hz => hh2.sp id d hne L2 Ld z hz
       rw [r2, t2] at dis
       have hset : xs.set i y = l1 ++ y :: l2 := by rw [s1, ← s2]; simp
       have hlen2 : (l1 ++ y :: l2).length = xs.length := by rw [s1]; simp
       have hyl := hyr.len
       have hel := s6.len
       have hrow : Rep m2.Z w' (.vec e) (xs.set i y) [m.hd id] ([b] ++ (K1 ++ (Fe2 ++ K2))) := by
        rw [hset, k1]
        refine ⟨by rw [hlen2]; exact g1, some ⟨b, p, none⟩, cap, d1 ++ (ce2 ++ d2), [b], K1 ++ (Fe2 ++ K2), by rw [hlen2], by rw [hlen2]; exact g3, rfl, RepL.append r3 ⟨ce2, d2, Fe2, K2, rfl, rfl, hyr, r4⟩, .inr ⟨b, p, _, el2, rfl, t3, ?_, fun j u hu => ?_, rfl⟩⟩
        ·have : blk.size = pre.length + de.length + post.length := by rw [hblk]; simp; omega
         simp only [List.size_toArray, List.length_append]
         omega
        ·rw [List.getElem?_toArray, ← hpre, ← hpost]
         have htl : (blk.toList.take p).length = p := by rw [List.length_take]; simp; omega
         rw [show (blk.toList.take p ++ d1) ++ ce2 ++ (d2 ++ blk.toList.drop (p + cs.length)) = blk.toList.take p ++ ((d1 ++ (ce2 ++ d2)) ++ blk.toList.drop (p + cs.length)) by simp]
         rw [List.getElem?_append_right (by omega), htl, show p + j - p = j by omega, List.getElem?_append_left (List.getElem?_eq_some_iff.1 hu).1]
         exact hu
       let m3 : Md := { Z := m2.Z, hd := upd m2.hd id (m.hd id), ft := upd (upd m2.ft d []) id ([b] ++ (K1 ++ (Fe2 ++ K2))) }
       have ch3 : Change0 B' m2 H2 w' [id, d] m3 (upd (upd H2 d .dead) id (.live (.row e (xs.set i y)))) w' := by
        have e1 : upd (upd H2 d .dead) id (.live (.row e (xs.set i y))) id = .live (.row e (xs.set i y)) := upd_same _ _ _
        have e2 : upd (upd H2 d .dead) id (.live (.row e (xs.set i y))) d = .dead := by rw [upd_other _ _ (Ne.symm hne), upd_same]
        have f1 : m3.ft id = [b] ++ (K1 ++ (Fe2 ++ K2)) := upd_same _ _ _
        have hin : ∀ z ∈ [b] ++ (K1 ++ (Fe2 ++ K2)), (z ∈ m2.ft id) ∨ z ∈ m2.ft d := fun z hz => by
         rw [r2, t2]
         simp only [List.mem_append, List.mem_cons, List.not_mem_nil, or_false] at hz ⊢
         rcases hz with h | h | h | h <;> simp [h]
        refine ⟨rfl, rfl, rfl, Nat.le_refl _, fun k hk => ?_, fun _ _ _ => rfl, fun _ h => h, fun _ h => .inl h, fun k hk => ?_, fun k hk hl z hz => ?_, fun k hk hl => ?_, fun k hk j hj hkj hlk hlj => ?_⟩
        all_goals simp only [List.mem_cons, List.not_mem_nil, or_false, not_or] at *
        ·exact ⟨by rw [upd_other _ _ hk.1, upd_other _ _ hk.2], upd_other _ _ hk.1, by show upd _ _ _ _ = _; rw [upd_other _ _ hk.1, upd_other _ _ hk.2]⟩
        ·rcases hk with rfl | rfl
         ·rw [e1]
          show Rep m2.Z w' (.vec e) (xs.set i y) [upd m2.hd k (m.hd k) k] (m3.ft k)
          rw [upd_same, f1]
          exact hrow
         ·rw [e2]; trivial
        ·rcases hk with rfl | rfl
         ·rw [f1] at hz
          rcases hin z hz with h | h
          ·exact ⟨(hh2.nz k L2 z h).1, .inl ⟨k, by simp, L2, h⟩⟩
          ·exact ⟨(hh2.nz d Ld z h).1, .inl ⟨d, by simp, Ld, h⟩⟩
         ·rw [e2] at hl; exact hl.elim
        ·rcases hk with rfl | rfl
         ·rw [f1]
          have hp : ([b] ++ (K1 ++ (Fe2 ++ K2))).Perm ((K1 ++ K2) ++ (b :: Fe2)) := by
           have p1 : (K1 ++ (Fe2 ++ K2)).Perm ((K1 ++ K2) ++ Fe2) := by
            rw [List.append_assoc]
            exact List.Perm.append_left _ List.perm_append_comm
           exact (p1.cons b).trans List.perm_middle.symm
          rw [hp.nodup_iff, List.nodup_append]
          exact ⟨List.nodup_append.2 nid, List.nodup_cons.2 ndd, fun z hz z2 hz2 e => (List.mem_cons.1 (e ▸ hz2 : z ∈ b :: Fe2)).elim (dis z hz).1 (dis z hz).2⟩
         ·rw [e2] at hl; exact hl.elim
        ·rcases hk with rfl | rfl <;> rcases hj with rfl | rfl
         ·exact absurd rfl hkj
         ·rw [e2] at hlj; exact hlj.elim
         ·rw [e2] at hlk; exact hlk.elim
         ·exact absurd rfl hkj
       have hh3 := hh2.change0 ch3
       have hfin : putH H (ups ++ [(d, .dead), (id, .live (.row e (xs.set i y)))]) = upd (upd H2 d .dead) id (.live (.row e (xs.set i y))) := by
        rw [putH_append]
        simp only [putH]
        funext n
        by_cases h1 : n = id
        ·subst h1; rw [upd_same, upd_same]
        ·rw [upd_other _ _ h1, upd_other _ _ h1]
         by_cases h2 : n = d
         ·subst h2; rw [upd_same, upd_same]
         ·rw [upd_other _ _ h2, upd_other _ _ h2, ← hH2]
          exact putH_agree (by rw [← hH1, upd_other _ _ h1, upd_other _ _ h2])
       generalize hH3 : upd (upd H2 d .dead) id (.live (.row e (xs.set i y))) = H3 at hh3 hfin
       have H3id : H3 id = .live (.row e (xs.set i y)) := by rw [← hH3]; exact upd_same _ _ _
       have L3 : (H3 id).Live := by rw [H3id]; trivial
       have f3 : m3.ft id = [b] ++ (K1 ++ (Fe2 ++ K2)) := upd_same _ _ _
       have hback := hh3.rebase (fr := B.fr) (fun j g ls z hj hg hz => by
        have : z ≠ b := fun ez => hh3.sp id j (fun ej => by rw [← ej, H3id] at hj; cases hj) L3 (by rw [hj]; trivial) z (by rw [f3, ez]; simp) hz
        exact (hfrz z this).symm)
       have hBB : ({ B' with fr := B.fr } : Base) = B := by rw [← hB']
       rw [hBB] at hback
       unfold After
       rw [hfin]
       refine ⟨m3, hback, Evo.of_but (id := id) (((ev1.but id).trans (ev2.but id)).trans (Evo.of_at (fun z hz => ⟨hz, rfl⟩) fun j hj => ?_)) (EvoAt.row_ hx H3id (by simp) (upd_same _ _ _)), flatAV_evo (m2 := m2) (m3 := m3) rfl hflat hv2⟩
       have hji : j ≠ id := fun e => hj (by rw [e, upd_same])
       by_cases hjd : j = d
       ·subst hjd
        exact EvoAt.dead (by rw [upd_other _ _ hji, ← hH3, upd_other _ _ hji, upd_same])
       ·refine EvoAt.still ?_ (upd_other _ _ hji) hj
        rw [upd_other _ _ hji, upd_other _ _ hji, ← hH3, upd_other _ _ hji, upd_other _ _ hjd]
      ·exact hQ2.elim
     ·exact hQ2.elim
    ·exact hQ.elim
   ·exact hQ.elim
 ·exact wCallM_ok hF hh hv ex
end
end Go.Proofs.YtadhpgecilhgnaaDoor.A

-- YtadhpgecilhgnaaDoorSr
set_option linter.unusedVariables false
set_option linter.unusedSimpArgs false
namespace Go.Proofs.YtadhpgecilhgnaaDoor.A
open Go
def sbArgs (b : Bool) (c : Value) (vs : List Value) : Array Value := match b with | true => (c :: vs).toArray | false => (vs ++ [c]).toArray
def SbOk (P : Program) (f : FuncId) (q : SbRule) : Prop := ∀ (fr : Nat → List Value × List Value) (Z : Nat → Prop) (w : World) (x : List UInt8) (xs : (q.ins.foldr (fun p t => Ty.pair p.2 t) .unit).den) (b : Nat) (p v : Value) (vs : List Value) (y : List UInt8),
 (∀ b, Z b → b < w.heap.size) → SbAt q.tb q.eb b p v (bytesC x) w → (∀ z ∈ b :: rowB v, ¬ Z z ∧ z < w.heap.size) → ArgsRep fr Z w q.ins xs vs [] → q.f x xs = some y →
 Calls P f (sbArgs q.fst (.pointer (some ⟨b, 0, none⟩)) vs) w fun e w' =>
  ∃ u, e = .returned u ∧ (∀ m H, AVRep m w' H (q.res.av y) u) ∧ Kept (b :: rowB v) w w' ∧ (q.res ≠ .str → ∃ p' v', SbAt q.tb q.eb b p' v' (bytesC y) w' ∧ ∀ z ∈ rowB v', z ∈ rowB v ∨ (w.heap.size ≤ z ∧ z < w'.heap.size))
section
variable {P : Program} {B : Base} {m m' m0 m1 : Md} {H H' H1 : Hp} {w w' : World} {o : Oper} {a : Act} {E : Env} {tab : Nat → Option TI} {T : Nat → Option FunE} {L : List Nat} {Z : Nat → Prop}

theorem sb_nodup {tb eb b : Nat} {p v : Value} {bs : List Value} (h : SbAt tb eb b p v bs w) : (b :: rowB v).Nodup := by
 unfold rowB
 split
 ·rename_i g hg
  have : b ≠ g := fun e => h.2.2.2 (by rw [hg, e])
  simp [this]
 ·simp
theorem sbGet_ok {tb eb : Nat} {c : Cell} {x : List UInt8} (h : sbGet tb eb c = some x) : c = .live (sbO tb eb x) := by
 unfold sbGet at h
 split at h
 ·rename_i t e y
  split at h
  ·rename_i hc
   cases h
   rw [Bool.and_eq_true] at hc
   obtain rfl := Nat.eq_of_beq_eq_true hc.1
   obtain rfl := Nat.eq_of_beq_eq_true hc.2
   rfl
  ·cases h
 ·cases h
theorem wAlloc_ok (hT : TabOk P tab) (hh : HOk B m H w) {t : Nat} (ho : o.op = .alloc t) : WayOk P B m H w o a (wAlloc tab o.dst t) := by
 unfold wAlloc
 split
 ·rename_i i hi
  obtain ⟨inf, z, k1, k2, k3, k4, k5, k6⟩ := (hT t i hi).info
  split
  ·rename_i d hkey hagg hz hd
   intro Q hQ
   simp only at hQ
   split at hQ
   ·rename_i hc
    have hda := absent_of hc (by simp)
    rw [hz] at k6
    have hzc : z.cells = #[.pointer none, .slice none 0 0] := by
     apply Array.ext'
     generalize z.cells.toList = l at k6
     match l, k6 with
     | [c1, c2], k6 => rw [k6.1, k6.2.1]
    have hnew : (w.alloc (.cells #[.pointer none, .slice none 0 0] t)).heap[w.heap.size]? = some (.cells #[.pointer none, .slice none 0 0] t (0, 0)) := alloc_new
    have ch : Change B m H w (d :: []) (m.set d (.pointer (some ⟨w.heap.size, 0, none⟩)) [w.heap.size]) (putH H ((d, .live (sbO t i.elem [])) :: deads [])) (w.alloc (.cells #[.pointer none, .slice none 0 0] t)) := by
     refine Change.one (w' := w.alloc (.cells #[.pointer none, .slice none 0 0] t)) (ob := sbO t i.elem []) hh (by simp) (by simp) rfl rfl rfl (by simp) (fun b hb _ => alloc_old hb) (.inr ⟨rfl, rfl, w.heap.size, .pointer none, .slice none 0 0, rfl, ⟨hnew, .inl rfl, ⟨rfl, .inl ⟨rfl, rfl⟩⟩, by simp [Value.ownBlock]⟩, rfl⟩) (fun b hb => ?_) (by simp) (fun h => absurd hda h)
     simp only [List.mem_singleton] at hb
     subst hb
     exact ⟨fun hz => by have := hh.zl _ hz; omega, .inr ⟨Nat.le_refl _, by simp⟩⟩
    have ex := alloc_exec (P := P) (w := w) (a := a) ho k1 k4
    rw [hzc] at ex
    refine ⟨_, _, hQ, OpOk.value ex ⟨_, hh.change ch, hh.evo ch, ⟨[_], rfl, ⟨?_, ?_⟩, trivial⟩⟩⟩
    ·simp only [deads, List.map_nil, putH]; rw [upd_same]; simp
    ·intro k e c r _; simp only [Md.set]; rw [upd_same]
   ·exact hQ.elim
  ·refine wBox_ok (t := t) (v := .agg z.cells) hh ⟨z.cells.toList, by simp [IsV], k6.mono fun _ _ h => h.l⟩ fun cs ⟨g, ls, h1, h2⟩ h3 => ?_
   cases h1
   have : z.cells = cs.toArray := by simpa [IsV] using h2
   rw [← this]
   exact alloc_exec ho k1 k4
 ·exact WayOk.fail
theorem wCallS_ok {q : SbRule} {f : FuncId} (hF : SbOk P f q) (hh : HOk B m H w) {id : Nat} {as_ : List AV} {vs : List Value} {c : Value} (hc : LRep m w H (.itr id) c) (hv : All2 (AVRep m w H) as_ vs)
 (ex : (execOp a.eval o).run P w = .ok (.enter f (sbArgs q.fst c vs)) w) : WayOk P B m H w o a (wCallS q id as_) := by
 intro Q hQ
 unfold wCallS at hQ
 simp only at hQ
 split at hQ
 rotate_left
 ·exact hQ.elim
 rename_i x h1 h2 h3 h4
 have hidn := memN_false.1 h1
 have hx := sbGet_ok h4
 have hx := live_of_only hx
 split at hQ
 rotate_left
 ·exact hQ.elim
 rename_i xs hxs
 obtain ⟨y, hr, hQ⟩ := hQ
 have hQ : Q _ := hQ
 have hL : (H id).Live := by rw [hx]; trivial
 have hcr := hh.cr id
 rw [hx] at hcr
 obtain ⟨hfn, _⟩ | ⟨_, _, b, p, v, z1, z2, z3⟩ := hcr
 ·cases hfn
 let Z1 : Nat → Prop := fun b => m.Z b ∨ ∃ i ∈ rdIds q.ins as_, (H i).Live ∧ b ∈ m.ft i
 obtain ⟨fr, hfr⟩ := frOk_ex hh (argOwns q.ins as_)
 obtain ⟨g1, g2⟩ := args_ok (Z1 := Z1) hh (fun b hb => .inl hb) hxs hv (fun i hi hl b hb => .inr ⟨i, hi, hl, hb⟩) hfr
 rw [h2] at g1
 have hZ1l : ∀ b, Z1 b → b < w.heap.size := fun b hb => hb.elim (hh.zl b) fun ⟨j, j1, j2, j3⟩ => (hh.nz j j2 b j3).2.1
 have hcv : c = .pointer (some ⟨b, 0, none⟩) := (hc.2 _ _ _ _ hx).trans z1
 have hFs : ∀ z ∈ b :: rowB v, ¬ Z1 z ∧ z < w.heap.size := fun z hz => by
  rw [← z3] at hz
  obtain ⟨n1, n2, _⟩ := hh.nz id hL z hz
  refine ⟨fun hz1 => hz1.elim n1 fun ⟨j, j1, j2, j3⟩ => ?_, n2⟩
  exact hh.sp id j (fun e => hidn (e ▸ j1)) hL j2 z hz j3
 refine ⟨_, _, hQ, ?_⟩
 unfold OpOk
 rw [ex, hcv]
 have key : ∀ {w' : World} {u : Value}, (∀ m H, AVRep m w' H (q.res.av y) u) → Kept (b :: rowB v) w w' → (q.res ≠ .str → ∃ p' v', SbAt q.tb q.eb b p' v' (bytesC y) w' ∧ ∀ z ∈ rowB v', z ∈ rowB v ∨ (w.heap.size ≤ z ∧ z < w'.heap.size)) →
  After B m H w (q.res.av y) [(id, match q.res with | .str => .dead | _ => .live (sbO q.tb q.eb y))] u w' := by
  intro w' u k1 k2 k3
  by_cases hst : q.res = .str
  rotate_left
  ·obtain ⟨p', v', s1, s2⟩ := k3 hst
   have hm : (match q.res with | .str => Cell.dead | _ => .live (sbO q.tb q.eb y)) = .live (sbO q.tb q.eb y) := by cases hq : q.res <;> first | rfl | exact absurd hq hst
   rw [hm]
   have hput := putH_cons H id (.live (sbO q.tb q.eb y)) [] (by simp)
   have ch : Change B m H w (id :: []) (m.set id (m.hd id) (b :: rowB v')) (putH H ((id, .live (sbO q.tb q.eb y)) :: deads [])) w' :=
    Change.one (w' := w') (ob := sbO q.tb q.eb y) hh (by simp) (by simp) k2.os k2.tape k2.output k2.size (fun z hz hnB => k2.block z hz fun hbF => hnB ⟨id, by simp, hL, by rw [z3]; exact hbF⟩) (.inr ⟨rfl, rfl, b, p', v', z1, s1, rfl⟩) (fun z hz => by
     rcases List.mem_cons.1 hz with rfl | hz
     ·have : z ∈ m.ft id := by rw [z3]; simp
      exact ⟨(hh.nz id hL z this).1, .inl ⟨id, by simp, hL, this⟩⟩
     ·rcases s2 z hz with h | h
      ·have : z ∈ m.ft id := by rw [z3]; simp [h]
       exact ⟨(hh.nz id hL z this).1, .inl ⟨id, by simp, hL, this⟩⟩
      ·exact ⟨fun hz => by have := hh.zl _ hz; omega, .inr h⟩) (sb_nodup s1) (fun _ => EvoAt.itr_ hx hput (by simp only [Md.set]; rw [upd_same]))
   exact ⟨_, hh.change ch, hh.evo ch, k1 _ _⟩
  ·have hm : (match q.res with | .str => Cell.dead | _ => .live (sbO q.tb q.eb y)) = .dead := by rw [hst]
   rw [hm]
   have hput : putH H [(id, .dead)] id = .dead := by simp only [putH]; rw [upd_same]
   have ch : Change B m H w [id] m (putH H [(id, .dead)]) w' := by
    refine { os := k2.os, tape := k2.tape, output := k2.output, size := k2.size, un := fun i hi => ?_, blk := fun z hz hnB => k2.block z hz fun hbF => hnB ⟨id, by simp, hL, by rw [z3]; exact hbF⟩, zs := fun _ h => h, zi := fun _ h => .inl h, cr := fun i hi => ?_, ft := fun i hi hl z hz => ?_, nd := fun i hi hl => ?_, sp := fun i hi j hj hij hli hlj => ?_, at_ := fun i hi hab => ?_ }
    all_goals first | simp only [List.mem_cons, List.not_mem_nil, or_false] at hi hj | simp only [List.mem_cons, List.not_mem_nil, or_false] at hi
    ·exact ⟨by simp only [putH]; rw [upd_other _ _ hi], rfl, rfl⟩
    ·rw [hi, hput]; trivial
    ·rw [hi, hput] at hl; exact hl.elim
    ·rw [hi, hput] at hl; exact hl.elim
    ·exact absurd (hi.trans hj.symm) hij
    ·rw [hi]; exact EvoAt.dead hput
   exact ⟨_, hh.change ch, hh.evo ch, k1 _ _⟩
 exact (hF fr Z1 w x xs b p v vs y hZ1l z2 hFs (by simpa using g1) hr).mono fun e' w' ⟨u, e1, k1, k2, k3⟩ => ⟨u, e1, key k1 k2 k3⟩
end
end Go.Proofs.YtadhpgecilhgnaaDoor.A

-- YtadhpgecilhgnaaDoorFn4
set_option linter.unusedVariables false
set_option linter.unusedSimpArgs false
namespace Go.Proofs.YtadhpgecilhgnaaDoor.A
open Go
section
variable {P : Program} {B : Base} {m m' m0 : Md} {H H' : Hp} {w w' : World} {o : Oper} {a : Act} {E : Env} {tab : Nat → Option TI} {N : Nat}

structure PInv (B : Base) (Z : Nat → Prop) (w : World) (vals : Nat → Value) (t0 : Nat) (m : Md) (es : List (Nat × AV)) (hs : List (Nat × Cell)) (F : List Nat) : Prop where
 h : HOk B m (ofL .absent hs) w
 z : m.Z = Z
 t : ∀ k, AVRep m w (ofL .absent hs) (ofL .junk es k) (vals k)
 own : ∀ k, (ofL .absent hs k).Live → ∀ b ∈ m.ft k, b ∈ F
 ks : ∀ k ∈ hs.map (·.1), ∃ t, t0 ≤ t ∧ k = headId t
theorem pinv_put {m : Md} {H : Hp} {es : List (Nat × AV)} {vals : Nat → Value} (h : ∀ t, AVRep m w H (ofL .junk es t) (vals t)) {t0 : Nat} {v : AV} (hv : AVRep m w H v (vals t0)) (t : Nat) : AVRep m w H (ofL .junk ((t0, v) :: es) t) (vals t) := by
 rw [ofL_cons]
 by_cases ht : t = t0
 ·subst ht; rw [upd_same]; exact hv
 ·rw [upd_other _ _ ht]; exact h t
theorem par_plain {t : Nat} {τ : Ty} {x : τ.den} (h : τ.vecP = false) (hp : τ.pure = true) : parAV t false τ x = (.val (!τ.one) (flat τ x), []) := by
 cases τ <;> first | rfl | cases hp
theorem ioAV_ok {id g b q : Nat} {ls : List LV} {τ : Ty} (hx : H id = .live (.cells g ls)) (hb : m.hd id = .pointer (some ⟨b, q, none⟩)) : AVRep m w H (ioAV id τ) (wrapV τ (.pointer (some ⟨b, q, none⟩))) := by
 cases τ with
 | clo f b0 e => exact AVRep.mk1 ⟨by rw [hx]; simp, fun _ _ _ => ⟨b, q, hb, rfl⟩⟩
 | _ => exact AVRep.mk1 ⟨by rw [hx]; simp, fun _ _ _ => ⟨b, q, hb, rfl⟩⟩
theorem pars_ok {Z : Nat → Prop} (h0 : ∀ m : Md, m.Z = Z → HOk B m (fun _ => .absent) w) {vals : Nat → Value} : ∀ {ps : List (Bool × Ty)} {t : Nat} {x : (ps.foldr (fun p t => Ty.pair p.2 t) .unit).den} {vs : List Value} {F : List Nat},
 ArgsRep B.fr Z w ps x vs F → F.Nodup → (∀ b ∈ F, ¬ Z b ∧ b < w.heap.size ∧ (b < B.w.heap.size → b ∈ B.F)) → (ps.all fun p => p.1 || p.2.pure || p.2.vecP) = true → (∀ (i : Nat) (v : Value), vs[i]? = some v → vals (t + i) = v) →
 ∃ m, PInv B Z w vals t m (pars t ps x).1 (pars t ps x).2 F
 | [], t, x, vs, F, _, _, _, _, _ => ⟨{ Z := Z, hd := fun _ => undef, ft := fun _ => [] }, h0 _ rfl, rfl, fun _ => trivial, fun _ h => h.elim, by simp [pars]⟩
 | (io, τ) :: ps, t, x, vs, F, ⟨v, vs', F1, F2, h1, h2, h3, h4⟩, hn, hF, hk, hv => by
  subst h1; subst h2
  rw [List.all_cons, Bool.and_eq_true] at hk
  rw [List.nodup_append] at hn
  obtain ⟨m, K⟩ := pars_ok h0 (t := t + 1) h4 hn.2.1 (fun b hb => hF b (by simp [hb])) hk.2 (fun i v hi => by have := hv (i + 1) v (by simpa using hi); rwa [show t + (i + 1) = t + 1 + i by omega] at this)
  have hval : vals t = v := hv 0 v (by simp)
  have hfresh : ofL .absent (pars (t + 1) ps x.2).2 (headId t) = .absent := ofL_absent _ fun hm => by
   obtain ⟨t', h1, h2⟩ := K.ks _ hm
   have := headId_inj h2
   omega
  -- an object under this place's name
  have obj : ∀ {ob : Obj} {hdr : Value} {av : AV}, ORep B Z w ob hdr F1 → parAV t io τ x.1 = (av, [(headId t, .live ob)]) → (∀ (m1 : Md) (H1 : Hp), m1.hd (headId t) = hdr → H1 (headId t) = .live ob → AVRep m1 w H1 av (vals t)) → ∃ m, PInv B Z w vals t m (pars t ((io, τ) :: ps) x).1 (pars t ((io, τ) :: ps) x).2 (F1 ++ F2) := by
   intro ob hdr av hr hp hav
   obtain ⟨q1, q2⟩ := K.h.add hfresh (by rw [K.z]; exact hr) hn.1 (fun b hb => by rw [K.z]; exact hF b (by simp [hb])) (fun j hj b hb hb' => hn.2.2 b hb' b (K.own j hj b hb) rfl)
   refine ⟨m.set (headId t) hdr F1, ?_⟩
   simp only [pars, hp, List.singleton_append]
   refine ⟨q1, K.z, pinv_put (fun k => (K.t k).evo q2) (hav _ _ (by simp only [Md.set]; rw [upd_same]) (upd_same _ _ _)), fun k hk b hb => ?_, fun k hk => ?_⟩
   ·by_cases hk0 : k = headId t
    ·subst hk0
     simp only [Md.set] at hb
     rw [upd_same] at hb
     simp [hb]
    ·rw [ofL_cons, upd_other _ _ hk0] at hk
     simp only [Md.set] at hb
     rw [upd_other _ _ hk0] at hb
     simp [K.own k hk b hb]
   ·simp only [List.map_cons, List.mem_cons] at hk
    rcases hk with rfl | hk
    ·exact ⟨t, Nat.le_refl _, rfl⟩
    ·obtain ⟨t', h1, h2⟩ := K.ks k hk
     exact ⟨t', by omega, h2⟩
  cases io with
  | true =>
   obtain ⟨b, el, cs, F', e1, e2, e3, e4⟩ := h3
   refine obj (ob := .cells 1 (flat τ x.1)) (hdr := .pointer (some ⟨b, (B.fr b).1.length, none⟩)) ⟨b, el, cs, F', rfl, e2, e3, flat_ok e4⟩ rfl fun m1 H1 h1 h2 => by
    rw [hval, e1]
    exact ioAV_ok h2 h1
  | false =>
   obtain ⟨cs, e1, e2⟩ := h3
   have hk1 : (τ.pure || τ.vecP) = true := by simpa using hk.1
   by_cases hve : τ.vecP = true
   ·cases τ with
    | vec e =>
     have e1 : cs = [v] := e1
     subst e1
     exact obj (ob := .row e x.1) (hdr := v) e2 rfl fun m1 H1 h1 h2 => one_val ⟨by rw [h2]; simp, fun _ _ _ => by rw [hval, h1], fun _ _ _ => by rw [hval, h1]⟩
    | _ => cases hve
   ·have hve : τ.vecP = false := by simpa using hve
    rw [hve, Bool.or_false] at hk1
    have hF1 := e2.pure hk1
    subst hF1
    refine ⟨m, ?_⟩
    simp only [pars, par_plain hve hk1, List.nil_append]
    refine ⟨K.h, K.z, pinv_put K.t ⟨cs, by rw [hval]; exact e1, flat_all2 (by rw [K.z]; exact e2)⟩, K.own, fun k hk => ?_⟩
    obtain ⟨t', h1, h2⟩ := K.ks k hk
    exact ⟨t', by omega, h2⟩

def resRun (tmps : Array Value) : ResultVar → Sem Value
 | .tmp t => pure (tmps.getD t undef)
 | .cell a t => do loadVar t (← asAddr (tmps.getD a undef))
theorem resVal_ok (hT : TabOk P tab) (s : St B m E H a w) {rv : ResultVar} {p : Bool × List LV} (h : resVal tab H E rv = some p) : ∃ u, (resRun a.tmps rv).run P w = .ok u w ∧ PRep m w H p u := by
 cases rv with
 | tmp t =>
  simp only [resVal] at h
  split at h
  ·rename_i g ls he
   cases h
   have := unpin_ok (s.t t)
   rw [he] at this
   exact ⟨_, by simp [resRun], this⟩
  ·cases h
 | cell ad t =>
  simp only [resVal] at h
  split at h
  ·rename_i i id hi he
   split at h
   ·rename_i g ls hx
    split at h
    ·rename_i hl
     cases h
     have hl := Nat.eq_of_beq_eq_true hl
     have ht := s.t ad
     rw [he] at ht
     obtain ⟨b, qb, q1, q2⟩ := ht.one.2 _ _ hx
     have hc := s.h.cr id
     rw [hx] at hc
     obtain ⟨b', el, cs, F', k1, k2, k3, k4⟩ := hc
     rw [k1] at q1; cases q1
     have hcell : ∀ (j : Nat) (u : Value), cs[j]? = some u → w.cell? ⟨b, (frm B g b).1.length + (0 + j), none⟩ = some u := fun j u hu => by
      rw [Nat.zero_add]
      exact frame_cell k3 hu
     have hls := outLeaves_ok (m := m) (w := w) hx k1 0 k4 (fun j l hj => by simpa using hj) hcell
     have hlen : cs.length = i.ty.cells := by rw [k4.len (sz := 1) ol1_len, Nat.mul_one, hl]
     obtain ⟨v, r1, r2⟩ := load_ok (P := P) (w := w) hT hi (b := b) (p := (frm B g b).1.length) hlen (fun j u hu => frame_cell k3 hu)
     refine ⟨v, ?_, cs, r2, hls⟩
     simp only [resRun, q2, asAddr, Sem.run_bind, Sem.run_pure, Result.andThen_ok]
     simpa [Instr.loadAt, Instr.sureAddr] using r1
    ·cases h
   ·cases h
  ·cases h
theorem resVals_ok (hT : TabOk P tab) (s : St B m E H a w) : ∀ {rvs : List ResultVar} {rs : List (Bool × List LV)}, resVals tab H E rvs = some rs → ∃ us, (rvs.mapM (resRun a.tmps)).run P w = .ok us w ∧ All2 (PRep m w H) rs us
 | [], _, h => by cases h; exact ⟨[], by simp, trivial⟩
 | rv :: rvs, rs, h => by
  simp only [resVals] at h
  split at h
  ·rename_i p ps h1 h2
   cases h
   obtain ⟨u, u1, u2⟩ := resVal_ok hT s h1
   obtain ⟨us, v1, v2⟩ := resVals_ok hT s h2
   refine ⟨u :: us, ?_, u2, v2⟩
   simp [List.mapM_cons, u1, v1]
  ·cases h
theorem results_run {fn : Func} {us : List Value} (h : (fn.results.toList.mapM (resRun a.tmps)).run P w = .ok us w) : (results fn a.tmps).run P w = .ok (tupOf us) w := by
 have e : results fn a.tmps = (do let vs ← fn.results.mapM (resRun a.tmps); pure (if h : vs.size = 1 then vs[0] else .tuple vs)) := by
  unfold results
  congr 1
 rw [e, Array.mapM_eq_mapM_toList]
 simp only [Sem.run_bind, map_eq_pure_bind, h, Result.andThen_ok, Sem.run_pure]
 congr 1
 match us with
 | [] => rfl
 | [u] => rfl
 | u :: v :: us => simp [tupOf]
theorem resOne_ok {Zf : Nat → Prop} (hh : HOk B m H w) (hz : ∀ b, m.Z b → Zf b) {τ : Ty} {g : Bool} {ls : List LV} {x : τ.den} {v : Value} (h : resOne H τ g ls = some x) (hn : nnB H [τ] [(g, ls)] = true) (hv : PRep m w H (g, ls) v) (hr : ∀ id ∈ argRd false τ (.val g ls), (H id).Live → ∀ b ∈ m.ft id, Zf b) :
 (∃ cs, IsV (!τ.one) cs v ∧ Rep Zf w τ x cs ((ownArg false τ (.val g ls)).flatMap m.ft)) ∧ ∀ id ∈ ownArg false τ (.val g ls), (H id).Live := by
 unfold resOne at h
 split at h
 ·rename_i e id
  split at h
  ·rename_i e' xs hx
   unfold slAs at h
   split at h
   ·rename_i hp
    obtain ⟨he, hxs⟩ := castTo_eq h
    cases he
    have hxs : xs = x := hxs
    subst hxs
    have hne : xs ≠ [] := by
     intro e
     subst e
     simp [nnB, nnCell, hx] at hn
    have hL : (H id).Live := by rw [hx]; trivial
    have hv1 := AVRep.one (v := v) (m := m) (w := w) (H := H) (l := .row id) hv
    have hcr := hh.cr id
    rw [hx] at hcr
    refine ⟨⟨[v], rfl, ?_⟩, fun i hi => by simp [ownArg, ownV] at hi⟩
    have e1 := hv1.2.1 _ _ hx
    have r := Rep.vec_sl (Z' := Zf) hp hcr hz fun b hb => hr id (by simp [argRd, ownArg, ownV, slRds, slRd]) hL b hb
    rw [← e1] at r
    exact ⟨fun h => absurd h hne, r⟩
   ·cases h
  ·cases h
 ·rename_i e id
  split at h
  ·rename_i g0 ls hx
   split at h
   ·rename_i y hy hev
    cases h
    have hL : (H id).Live := by rw [hx]; trivial
    have hv1 := AVRep.one (v := v) (m := m) (w := w) (H := H) (l := .ptr id 0) hv
    obtain ⟨b, qb, q1, q2⟩ := hv1.2 _ _ hx
    have hcr := hh.cr id
    rw [hx] at hcr
    obtain ⟨b', el, cs, F', k1, k2, k3, k4⟩ := (orep_even (Nat.eq_of_beq_eq_true hev)).1 hcr
    rw [k1] at q1; cases q1
    have r := Rep.frame (Z' := Zf) (fun _ _ => rfl) hz (fun _ _ => rfl) (asmAllO hy k4)
    refine ⟨⟨[v], rfl, ?_⟩, fun i hi => by simp [ownArg, ownV] at hi; rw [hi]; exact hL⟩
    simp only [ownArg, ownV, List.flatMap_cons, List.flatMap_nil, List.append_nil]
    exact ⟨b, el, cs, F', by rw [q2], k2, k3, r⟩
   ·cases h
  ·cases h
 ·cases h
  have hv1 := AVRep.one (v := v) (m := m) (w := w) (H := H) (l := .nilp) hv
  have hv1 : v = .pointer none := hv1
  exact ⟨⟨[v], rfl, by rw [hv1], rfl⟩, fun i hi => by simp [ownArg, ownV] at hi⟩
 ·exact ownIn_ok (Sub.refl H) hh hz h hv hr
theorem nnB_head {τ : Ty} {outs : List Ty} {p : Bool × List LV} {rs : List (Bool × List LV)} (h : nnB H (τ :: outs) (p :: rs) = true) : nnB H [τ] [p] = true ∧ nnB H outs rs = true := by
 unfold nnB at h
 split at h
 ·rename_i h1 h2
  cases h1; cases h2
  rw [Bool.and_eq_true] at h
  exact ⟨by simp [nnB, h.2], h.1⟩
 ·rename_i hne h1 h2
  cases h1; cases h2
  refine ⟨?_, h⟩
  unfold nnB
  split
  ·rename_i h3 h4
   cases h3; cases h4
   exact (hne _ _ _ rfl rfl).elim
  ·rename_i h3 h4
   cases h3; cases h4
   rfl
  ·rfl
 ·rename_i k1 k2
  first | exact (k1 _ _ _ _ rfl rfl).elim | exact (k2 _ _ _ _ rfl rfl).elim | exact (k1 _ _ _ _ rfl).elim | exact (k2 _ _ _ _ rfl).elim
theorem resIn_ok {Zf : Nat → Prop} (hh : HOk B m H w) (hz : ∀ b, m.Z b → Zf b) : ∀ {outs : List Ty} {rs : List (Bool × List LV)} {us : List Value} {x : (outs.foldr Ty.pair .unit).den}, resIn H outs rs = some x → nnB H outs rs = true → All2 (PRep m w H) rs us →
 (∀ id ∈ resRds outs rs, (H id).Live → ∀ b ∈ m.ft id, Zf b) → ResL Zf w outs x us ((resOwns outs rs).flatMap m.ft) ∧ ∀ id ∈ resOwns outs rs, (H id).Live
 | [], [], us, x, _, _, hv, _ => by
  have : us = [] := by cases us with | nil => rfl | cons _ _ => exact hv.elim
  subst this
  exact ⟨⟨rfl, rfl⟩, by simp [resOwns]⟩
 | [], _ :: _, _, _, h, _, _, _ => by cases h
 | _ :: _, [], _, _, h, _, _, _ => by cases h
 | τ :: outs, p :: rs, [], _, _, _, hv, _ => hv.elim
 | τ :: outs, p :: rs, u :: us, x, h, hn, hv, hr => by
  obtain ⟨n1, n2⟩ := nnB_head hn
  simp only [resIn] at h
  split at h
  ·rename_i y ys hy hys
   cases h
   obtain ⟨g1, g2⟩ := resIn_ok hh hz hys n2 hv.2 fun id hid => hr id (by simp [resRds, hid])
   obtain ⟨k1, k2⟩ := resOne_ok hh hz hy n1 hv.1 fun id hid => hr id (by simp [resRds, hid])
   refine ⟨⟨u, us, _, _, rfl, ?_, k1, g1⟩, fun id hid => ?_⟩
   ·simp [resOwns, List.flatMap_append]
   ·simp only [resOwns, List.mem_append] at hid
    exact hid.elim (k2 id) (g2 id)
  ·cases h
theorem splitRes_join : ∀ {outs more : List Ty} {x : (outs.foldr Ty.pair .unit).den} {y : (more.foldr Ty.pair .unit).den}, splitRes outs more (joinRes outs more x y) = (x, y)
 | [], _, _, _ => rfl
 | τ :: outs, more, x, y => by
  simp only [joinRes, splitRes, splitRes_join]
  rfl

theorem io_end {Zf : Nat → Prop} (s : St B m E H a w) (hz : ∀ b, m.Z b → Zf b) {fv : Nat → Value} : ∀ {ps : List (Bool × Ty)} {t : Nat} {ids : List Nat} {x : (((ps.filter (·.1)).map (·.2)).foldr Ty.pair .unit).den} {vs : List Value},
 ioIdsOf E (iosOf t ps) ((ps.filter (·.1)).map (·.2)) = some ids → ioOut H ((ps.filter (·.1)).map (·.2)) ids = some x → (∀ i ∈ iosOf t ps, a.tmps.getD i undef = fv i) → (∀ i, i < ps.length → vs[i]? = some (fv (t + i))) →
 IoRep B.fr Zf w ps x vs (ids.flatMap m.ft) ∧ ∀ id ∈ ids, (H id).Live
 | [], t, ids, x, vs, h1, h2, _, _ => by
  cases h1
  exact ⟨rfl, by simp⟩
 | (false, τ) :: ps, t, ids, x, vs, h1, h2, h3, h4 => by
  refine io_end (ps := ps) (t := t + 1) s hz h1 h2 h3 fun i hi => ?_
  have := h4 (i + 1) (by simp; omega)
  rw [List.getElem?_tail, this]
  congr 2; omega
 | (true, τ) :: ps, t, ids, x, vs, h1, h2, h3, h4 => by
  have h1 : ioIdsOf E (t :: iosOf (t + 1) ps) (τ :: ((ps.filter (·.1)).map (·.2))) = some ids := h1
  simp only [ioIdsOf] at h1
  split at h1
  ·rename_i id ids' he hi
   cases h1
   have h2 : ioOut H (τ :: ((ps.filter (·.1)).map (·.2))) (id :: ids') = some x := h2
   simp only [ioOut] at h2
   split at h2
   ·rename_i g ls y hx hy
    split at h2
    ·rename_i z hz' hodd
     cases h2
     have hfr : ∀ b, frm B g b = B.fr b := fun b => by unfold frm; rw [if_neg (by have := Nat.eq_of_beq_eq_true hodd; omega)]
     obtain ⟨g1, g2⟩ := io_end (ps := ps) (t := t + 1) (vs := vs.tail) s hz hi hy (fun i hi => h3 i (by simp [iosOf, hi])) (fun i hi => by
      have := h4 (i + 1) (by simp; omega)
      rw [List.getElem?_tail, this]
      congr 2; omega)
     have ht := s.t t
     rw [h3 t (by simp [iosOf])] at ht
     have hL : (H id).Live := by rw [hx]; trivial
     have hc := s.h.cr id
     rw [hx] at hc
     obtain ⟨b', el, cs, F', k1, k2, k3, k4⟩ := hc
     have e2 := ioId_ok he ht hx k1
     rw [hfr] at k1 k3 e2
     have hv0 := h4 0 (by simp)
     refine ⟨⟨b', el, cs, F', _, ?_, ?_, k3, Rep.frame (fun _ _ => rfl) hz (fun _ _ => rfl) (asmAllO hz' k4), g1⟩, fun i hi => ?_⟩
     ·rw [List.head?_eq_getElem?, hv0, Nat.add_zero, e2]
     ·rw [List.flatMap_cons, k2]
     ·rcases List.mem_cons.1 hi with rfl | hi
      ·exact hL
      ·exact g2 i hi
    ·cases h2
   ·cases h2
  ·cases h1

theorem fin_ok (hT : TabOk P tab) {fn : Func} {F : FunE} {Z : Nat → Prop} {w0 : World} {Fs : List Nat} {vs : List Value} {fr : Nat → List Value × List Value} (hB : B = { w := w0, F := Fs, Z := Z, fx := iosOf 0 F.ins, fv := fun i => vs.getD i undef, fr := fr }) (hlen : vs.length = F.ins.length) {r : ((F.outs ++ (F.ins.filter (·.1)).map (·.2)).foldr Ty.pair .unit).den} :
 KonOk P B N r (bodyPost P fn fun e w' => ∃ v Z' us Fr Fi, e = .returned v ∧ Post fr Z w0 Fs F vs r v w' Z' us Fr Fi) (finOf tab F.outs ((F.ins.filter (·.1)).map (·.2)) fn.results.toList (iosOf 0 F.ins)) := by
 subst hB
 intro x E H0 a w ⟨m0, s0, hN, hf⟩ h
 obtain ⟨m, s⟩ := packR_ok (outs := F.outs) (vs := fn.results.toList) s0
 generalize hH : packR E F.outs fn.results.toList H0 = H at s
 have key : finOf tab F.outs ((F.ins.filter (·.1)).map (·.2)) fn.results.toList (iosOf 0 F.ins) .normal E H0 = some r → a.defers = [] ∧ ∃ v, (results fn a.tmps).run P w = .ok v w ∧ ∃ v' Z' us Fr Fi, Ending.returned v = .returned v' ∧ Post fr Z w0 Fs F vs r v' w Z' us Fr Fi := by
  intro h
  refine ⟨s.d, ?_⟩
  simp only [finOf, hH] at h
  split at h
  ·rename_i rs ios hrs hios
   split at h
   ·rename_i xa xb hxa hxb
    split at h
    ·rename_i hck
     split at h
     rotate_left
     ·cases h
     rename_i hnn
     cases h
     simp only [Bool.and_eq_true] at hck
     obtain ⟨c1, c2⟩ := hck
     have c1 := nodupN_iff.1 c1
     have c2 : ∀ i ∈ resRds F.outs rs, i ∉ resOwns F.outs rs ++ ios := fun i hi => by
      have := List.all_eq_true.1 c2 i hi
      exact memN_false.1 (by simpa using this)
     obtain ⟨us, u1, u2⟩ := resVals_ok hT s hrs
     let Zf : Nat → Prop := fun b => m.Z b ∨ ∃ id ∈ resRds F.outs rs, (H id).Live ∧ b ∈ m.ft id
     obtain ⟨r1, r2⟩ := resIn_ok (Zf := Zf) s.h (fun b hb => .inl hb) hxa hnn u2 (fun id hid hl b hb => .inr ⟨id, hid, hl, hb⟩)
     obtain ⟨i1, i2⟩ := io_end (Zf := Zf) (fv := fun i => vs.getD i undef) (ps := F.ins) (t := 0) (vs := vs) s (fun b hb => .inl hb) hios hxb (fun i hi => hf i hi) (fun i hi => by
      rw [Nat.zero_add, List.getD_eq_getElem?_getD, List.getElem?_eq_getElem (by omega)]; rfl)
     have hlive : ∀ id ∈ ios ++ resOwns F.outs rs, (H id).Live := fun id hid => (List.mem_append.1 hid).elim (i2 id) (r2 id)
     have hnd : (ios ++ resOwns F.outs rs).Nodup := by
      rw [List.nodup_append] at c1 ⊢
      exact ⟨c1.2.1, c1.1, fun x hx y hy e => c1.2.2 y hy x hx e.symm⟩
     refine ⟨_, results_run u1, _, Zf, us, (resOwns F.outs rs).flatMap m.ft, ios.flatMap m.ft, rfl, s.h.kp, fun b hb => .inl (s.h.zs b hb), fun b hb => ?_, fun b hb hlt => ?_, ?_, rfl, ?_, ?_, fun b hb => ?_⟩
     ·exact hb.elim (s.h.zl b) fun ⟨i, _, h2, h3⟩ => (s.h.nz i h2 b h3).2.1
     ·exact hb.elim (fun hb => s.h.zi b hb hlt) fun ⟨i, _, h2, h3⟩ => .inr ((s.h.nz i h2 b h3).2.2 hlt)
     ·rw [splitRes_join]; exact r1
     ·rw [splitRes_join]; exact i1
     ·rw [← List.flatMap_append]; exact ft_nodup s.h hnd hlive
     ·rw [← List.flatMap_append] at hb
      obtain ⟨i, h1, h2, h3⟩ := ft_blk hb hlive
      obtain ⟨n1, n2, n3⟩ := s.h.nz i h2 b h3
      refine ⟨fun hz => hz.elim n1 fun ⟨j, j1, j2, j3⟩ => ?_, n2, n3⟩
      have hij : i ≠ j := fun e => c2 j j1 (by rw [← e]; rw [List.mem_append] at h1 ⊢; exact h1.symm)
      exact s.h.sp i j hij h2 j2 b h3 j3
    ·cases h
   ·cases h
  ·cases h
 cases x with
 | normal => exact key h
 | ret => exact key h
 | _ => cases h

theorem ArgsRep.len {fr : Nat → List Value × List Value} {Z : Nat → Prop} {w : World} : ∀ {ps : List (Bool × Ty)} {x : (ps.foldr (fun p t => Ty.pair p.2 t) .unit).den} {vs : List Value} {F : List Nat}, ArgsRep fr Z w ps x vs F → vs.length = ps.length
 | [], _, _, _, h => by rw [h.1]; rfl
 | _ :: _, _, _, _, ⟨v, vs', F1, F2, h1, h2, h3, h4⟩ => by rw [h1, List.length_cons, h4.len]; rfl

def fnOkB (fn : Func) (ins : List (Bool × Ty)) : Bool :=
 codeOkB fn.ntmps (iosOf 0 ins) (bodyOf fn) && fn.body.isSome && Nat.ble ins.length fn.ntmps && ins.all fun p => p.1 || p.2.pure || p.2.vecP
theorem fnE_ok (hm : P.follows .mixedOrders = true) (hT : TabOk P tab) {f : FuncId} {fn : Func} (hf : P.funcs[f]? = some fn) {T : Nat → Nat → Option FunE} {ann : Nat → Option (List Keep)} {ins : List (Bool × Ty)} {outs : List Ty} {n : Nat} (hW : ∀ k, k ≤ n → WaysOk P tab (T k)) (hk : fnOkB fn ins = true) : FunOk P f (fnE tab T ann fn ins outs n) := by
 intro fr Z w xs vs Fs r hZ hA hn hFs hr
 simp only [fnOkB, Bool.and_eq_true] at hk
 obtain ⟨⟨⟨k1, k2⟩, k3⟩, k4⟩ := hk
 have k3 := Nat.le_of_ble_eq_true k3
 obtain ⟨c, hc⟩ := Option.isSome_iff_exists.1 k2
 have hbody : bodyOf fn = c := by unfold bodyOf; rw [hc]; rfl
 have hlen : vs.length = ins.length := hA.len
 let B : Base := { w := w, F := Fs, Z := Z, fx := iosOf 0 ins, fv := fun i => vs.getD i undef, fr := fr }
 have h0 : ∀ m : Md, m.Z = Z → HOk B m (fun _ => .absent) w := fun m hmz => ⟨fun b hb => hZ b (by rw [← hmz]; exact hb), fun b hb => (by rw [hmz]; exact hb), fun b hb _ => .inl (by rw [hmz] at hb; exact hb), fun _ => trivial, fun _ h => h.elim, fun _ _ _ h => h.elim, fun _ h => h.elim, Kept.refl _ _⟩
 have htm : ∀ k, ((vs.toArray ++ Array.replicate (fn.ntmps - vs.toArray.size) undef).getD k undef) = vs.getD k undef := fun k => by
  rw [Array.getD_eq_getD_getElem?, List.getD_eq_getElem?_getD, Array.getElem?_append]
  simp only [List.size_toArray]
  by_cases hk : k < vs.length
  ·rw [if_pos hk]; simp
  ·rw [if_neg hk, List.getElem?_eq_none (by omega)]
   simp only [Array.getElem?_replicate]
   split <;> rfl
 obtain ⟨m, K⟩ := pars_ok (B := B) (Z := Z) (w := w) h0 (vals := fun k => vs.getD k undef) (t := 0) hA hn (fun b hb => ⟨(hFs b hb).1, (hFs b hb).2, fun _ => hb⟩) k4 (fun i v hi => by simp [List.getD_eq_getElem?_getD, hi])
 refine calls_of_wp hf hc ?_
 have s : SE B fn.ntmps (ofL .junk (pars 0 ins xs).1) (ofL .absent (pars 0 ins xs).2) { tmps := vs.toArray ++ Array.replicate (fn.ntmps - vs.toArray.size) undef, defers := [] } w := by
  refine ⟨m, ⟨K.h, fun t => ?_, rfl⟩, ?_, fun i _ => htm i⟩
  ·rw [htm]; exact K.t t
  ·simp only [Array.size_append, List.size_toArray, Array.size_replicate]; omega
 have hfin := fin_ok (P := P) (B := B) (N := fn.ntmps) hT (fn := fn) (F := fnE tab T ann fn ins outs n) (Z := Z) (w0 := w) (Fs := Fs) (vs := vs) rfl hlen (r := r)
 have hL := runN_ok (P := P) (B := B) (N := fn.ntmps) (r := r) hm (T := T) (ann := ann) hfin n (fun k hk => hW k (by omega))
 have hcl := clos_ok (ann := ann) hm (hW n (Nat.le_refl _)) hL hfin [] rfl
 have := runS_ok hm (hW n (Nat.le_refl _)) hL (bodyOf fn) [] _ _ _ _ _ k1 rfl hcl s hr
 rw [hbody] at this
 exact this
theorem FunOk.spec {f : FuncId} {F : Nat → FunE} {ins : List (Bool × Ty)} {outs : List Ty} {g : (ins.foldr (fun p t => Ty.pair p.2 t) .unit).den → Option ((outs ++ (ins.filter (·.1)).map (·.2)).foldr Ty.pair .unit).den} (hF : ∀ n, FunOk P f (F n)) (hi : ∀ n, (F n).ins = ins) (ho : ∀ n, (F n).outs = outs) : True := trivial
end
end Go.Proofs.YtadhpgecilhgnaaDoor.A

-- YtadhpgecilhgnaaDoorFn5
set_option linter.unusedVariables false
set_option linter.unusedSimpArgs false
namespace Go.Proofs.YtadhpgecilhgnaaDoor.A
open Go
def RowOk (P : Program) (f : FuncId) (e : Ty) (g : List e.den → Option (List e.den)) : Prop := ∀ (Z : Nat → Prop) (w : World) (xs ys : List e.den) (v : Value) (F : List Nat),
 (∀ b, Z b → b < w.heap.size) → Rep Z w (.vec e) xs [v] F → F.Nodup → (∀ b ∈ F, ¬ Z b ∧ b < w.heap.size) → g xs = some ys →
 Calls P f #[v] w fun ex w' => ex = .returned (.tuple #[]) ∧ Kept F w w' ∧ ys.length = xs.length ∧ Rep Z w' (.vec e) ys [v] F
structure FunC (P : Program) (f : FuncId) (F : FunE) : Prop where
 ok' : F.row = none → FunOk P f F
 ro : ∀ e g, F.row = some ⟨e, g⟩ → RowOk P f e g
 en : ∃ fn, P.funcs[f]? = some fn ∧ (fn.name == "runtime.NumGoroutine") = false ∧ fn.body.isNone = false
def SbC (P : Program) (f : FuncId) (F : FunE) : Prop := ∀ q, F.sb = some q → SbOk P f q
def TOk (P : Program) (T : Nat → Option FunE) : Prop := ∀ f F, T f = some F → FunC P f F ∧ SbC P f F
section
variable {P : Program} {B : Base} {m m' m0 : Md} {H H' : Hp} {w w' : World} {o : Oper} {a : Act} {E : Env} {tab : Nat → Option TI} {T : Nat → Option FunE} {N : Nat}

theorem wCallRow_ok {e : Ty} {g : List e.den → Option (List e.den)} {f : FuncId} (hF : RowOk P f e g) (hh : HOk B m H w) {as_ : List AV} {vs : List Value} (hv : All2 (AVRep m w H) as_ vs) (ex : (execOp a.eval o).run P w = .ok (.enter f vs.toArray) w) : WayOk P B m H w o a (wCallRow e g as_) := by
 unfold wCallRow
 split
 ·rename_i id
  match vs, hv with
  | [v], hv =>
   intro Q hQ
   simp only at hQ
   split at hQ
   ·rename_i e' xs hx
    split at hQ
    ·rename_i xs' hc
     obtain ⟨he, hxs⟩ := castTo_eq hc
     cases he
     have hxs : xs = xs' := hxs
     subst hxs
     obtain ⟨ys, hy, hQ⟩ := hQ
     have hQ : Q _ := hQ
     have hx := live_of_only hx
     have hL : (H id).Live := by rw [hx]; trivial
     have hcr := hh.cr id
     rw [hx] at hcr
     have hvd := hv.1.one.2.1 _ _ hx
     subst hvd
     refine ⟨_, _, hQ, ?_⟩
     unfold OpOk
     rw [ex]
     refine (hF m.Z w xs ys _ _ hh.zl hcr (hh.nd id hL) (fun b hb => ⟨(hh.nz id hL b hb).1, (hh.nz id hL b hb).2.1⟩) hy).mono fun e' w' ⟨h1, h2, h3, h4⟩ => ⟨_, h1, ?_⟩
     have hput := putH_cons H id (.live (.row e ys)) [] (by simp)
     have ch : Change B m H w (id :: []) (m.set id (m.hd id) (m.ft id)) (putH H ((id, .live (.row e ys)) :: deads [])) w' :=
      Change.one (w' := w') (ob := .row e ys) hh (by simp) (by simp) h2.os h2.tape h2.output h2.size (fun b hb hnB => h2.block b hb fun hbF => hnB ⟨id, by simp, hL, hbF⟩) h4 (fun z hz => ⟨(hh.nz id hL z hz).1, .inl ⟨id, by simp, hL, hz⟩⟩) (hh.nd id hL) (fun _ => EvoAt.row_ hx hput h3.symm (by simp only [Md.set]; rw [upd_same]))
     exact ⟨_, hh.change ch, hh.evo ch, ⟨[], rfl, trivial⟩⟩
    ·exact hQ.elim
   ·exact hQ.elim
 ·exact WayOk.fail

theorem wStoreU_wr {t id off i : Nat} {x : AV} (hi : i ∈ (wStoreU tab t id off x).wr) : i ∈ [id] := by
 unfold wStoreU at hi
 split at hi
 ·rename_i g ls
  split at hi
  ·rename_i ho
   unfold wStore at hi
   cases hm : tab t with
   | none => simp only [hm] at hi; cases hi
   | some q =>
    simp only [hm, ho] at hi
    exact hi
  ·cases hi
 ·cases hi
theorem wStoreF_ok (hT : TabOk P tab) (hh : HOk B m H w) {t : Nat} {x y : Operand} (ho : o.op = .store t x y) {X Y : AV} (hX : AVRep m w H X (a.eval x)) (hY : AVRep m w H Y (a.eval y)) : WayOk P B m H w o a (wStoreF tab t X Y) := by
 unfold wStoreF
 split
 ·rename_i id off _
  obtain ⟨m1, a1, a2, a3⟩ := fzA_ok hh hY
  refine wFz_ok (fun H1 H2 h => (fzA_eq h).1) (fzA_eq (H2 := H) fun _ _ => rfl).2 (fun b i hi => wStoreU_wr hi) ⟨m1, a2, ?_⟩
  unfold wStoreU
  split
  ·rename_i g ls hq
   split
   ·rw [hq] at a3
    exact wStore_ok hT a1 ho (hX.evo a2) a3
   ·exact WayOk.fail
  ·exact WayOk.fail
 ·exact wStore_ok hT hh ho hX hY
theorem enter_exec {c : Call} (ho : o.op = .call c) {x : Operand} (hc : c.callee = .value x) {f : FuncId} (hx : a.eval x = .func (.func f) #[] #[]) (hen : ∃ fn, P.funcs[f]? = some fn ∧ (fn.name == "runtime.NumGoroutine") = false ∧ fn.body.isNone = false) :
 (execOp a.eval o).run P w = .ok (.enter f (c.args.map a.eval)) w := by
 obtain ⟨fn, h1, h2, h3⟩ := hen
 simp only [execOp, ho, resolve, hc, hx]
 have h2 : ¬ fn.name = "runtime.NumGoroutine" := by simpa using h2
 have h3 : ¬ fn.body = none := fun hh => by rw [hh] at h3; cases h3
 simp [Deferred.ofValue, invoke, callFunc, h1, h2, h3]
theorem enter_clo {c : Call} (ho : o.op = .call c) {x : Operand} (hc : c.callee = .value x) {f : FuncId} {fs cs : Array Value} (hx : a.eval x = .func (.func f) fs cs) (hen : ∃ fn, P.funcs[f]? = some fn ∧ (fn.name == "runtime.NumGoroutine") = false ∧ fn.body.isNone = false) :
 (execOp a.eval o).run P w = .ok (.enter f (fs ++ c.args.map a.eval ++ cs)) w := by
 obtain ⟨fn, h1, h2, h3⟩ := hen
 simp only [execOp, ho, resolve, hc, hx]
 have h2 : ¬ fn.name = "runtime.NumGoroutine" := by simpa using h2
 have h3 : ¬ fn.body = none := fun hh => by rw [hh] at h3; cases h3
 simp [Deferred.ofValue, invoke, callFunc, h1, h2, h3]
theorem all2_args (s : St B m E H a w) : ∀ {xs : List Operand}, (∀ x ∈ xs, opndOkB x = true) → All2 (AVRep m w H) (xs.map (evalO E)) (xs.map a.eval)
 | [], _ => trivial
 | x :: xs, h => ⟨evalO_ok s (h x (by simp)), all2_args s fun y hy => h y (by simp [hy])⟩
theorem wCall_ok (hT : TabOk P tab) (hC : TOk P T) (s : St B m E H a w) {c : Call} (ho : o.op = .call c) (hx : ∀ x ∈ c.operands, opndOkB x = true) :
 WayOk P B m H w o a (wCall tab T o.dst c (c.args.toList.map (evalO E)) (match c.callee with | .value f => some (evalO E f) | _ => none)) := by
 have hargs := all2_args s (xs := c.args.toList) fun x h => hx x (by simp [Call.operands]; exact .inr (by simpa using h))
 have hmap : (c.args.map a.eval).toList = c.args.toList.map a.eval := by simp
 have hmap' : c.args.map a.eval = (c.args.toList.map a.eval).toArray := by rw [← hmap]
 unfold wCall
 cases hc : c.callee with
 | invoke r n => exact WayOk.fail
 | value x =>
  simp only
  split
  ·rename_i f u he
   split
   ·rename_i F hF
    obtain ⟨hfc, hsbc⟩ := hC f F (by simpa using hF)
    simp only [Option.some.injEq] at he
    have hev := evalO_ok s (hx x (by simp [Call.operands, hc]))
    rw [he] at hev
    have hfv : a.eval x = .func (.func f) #[] #[] := by
     have := hev.one
     obtain ⟨h1, _⟩ := (this : [a.eval x] = [.func (.func f) #[] #[]] ∧ _)
     simpa using h1
    split
    ·rename_i q hq
     exact wCallRow_ok (hfc.ro _ _ hq) s.h hargs (by rw [enter_exec ho hc hfv hfc.en, hmap'])
    ·rename_i hq
     split
     ·rename_i q hsb
      unfold wCallB
      split
      ·rename_i id as_ hfst has
       match hcl : c.args.toList, has, hargs with
       | [], has, _ => cases has
       | y :: ys, has, hargs =>
        simp only [List.map_cons, List.cons.injEq] at has
        obtain ⟨has1, rfl⟩ := has
        have h1 := hargs.1
        rw [has1] at h1
        exact wCallS_ok (hsbc q hsb) s.h (c := a.eval y) h1.one hargs.2 (by rw [enter_exec ho hc hfv hfc.en, hmap', hcl, hfst]; rfl)
      ·exact WayOk.fail
     ·exact wCallR_ok (hfc.ok' hq) s.h hargs (by rw [enter_exec ho hc hfv hfc.en, hmap'])
   ·exact WayOk.fail
  ·rename_i f id he
   split
   ·rename_i F hF
    obtain ⟨hfc, hsbc⟩ := hC f F (by simpa using hF)
    simp only [Option.some.injEq] at he
    have hev := evalO_ok s (hx x (by simp [Call.operands, hc]))
    rw [he] at hev
    split
    ·rename_i q hsb
     split
     ·rename_i hfst
      intro Q hQ
      obtain ⟨ki, ke, kr, kx, hx'⟩ : ∃ k e c r, H id = .live (.iter k e c r) := by
       unfold wCallS at hQ
       simp only at hQ
       split at hQ
       ·rename_i h4
        exact ⟨_, _, _, _, live_of_only (sbGet_ok h4)⟩
       ·exact hQ.elim
      have q2 := hev.one.2 _ _ _ _ hx'
      exact wCallS_ok (hsbc q hsb) s.h (c := m.hd id) ⟨hev.one.1, fun _ _ _ _ _ => rfl⟩ hargs (by rw [enter_clo ho hc (fs := #[]) (cs := #[m.hd id]) q2 hfc.en, hmap', hfst]; simp [sbArgs]) Q hQ
     ·exact WayOk.fail
    ·exact WayOk.fail
   ·exact WayOk.fail
  ·rename_i f b id he
   split
   ·rename_i F hF
    obtain ⟨hfc, hsbc⟩ := hC f F (by simpa using hF)
    simp only [Option.some.injEq] at he
    have hev := evalO_ok s (hx x (by simp [Call.operands, hc]))
    rw [he] at hev
    split
    ·exact WayOk.fail
    rename_i hq
    intro Q hQ
    unfold wLive at hQ
    simp only at hQ
    split at hQ
    ·rename_i hlv
     obtain ⟨g, ls, hx'⟩ : ∃ g ls, H id = .live (.cells g ls) := by
      unfold liveCells at hlv
      split at hlv
      ·rename_i g ls hh
       exact ⟨g, ls, live_of_only hh⟩
      ·cases hlv
     obtain ⟨bb, q, q1, q2⟩ := hev.one.2 g ls hx'
     have hp : AVRep m w H (.val false [.ptr id 0]) (.pointer (some ⟨bb, q, none⟩)) := AVRep.mk1 ⟨by rw [hx']; simp, fun g' ls' hh' => ⟨bb, q, q1, rfl⟩⟩
     have hp2 : All2 (AVRep m w H) [.val false [.ptr id 0]] [.pointer (some ⟨bb, q, none⟩)] := ⟨hp, trivial⟩
     cases b with
     | true => exact wCallF_ok (hfc.ok' hq) s.h (as_ := .val false [.ptr id 0] :: _) (vs := .pointer (some ⟨bb, q, none⟩) :: c.args.toList.map a.eval) ⟨hp, hargs⟩ (by rw [enter_clo ho hc (fs := #[.pointer (some ⟨bb, q, none⟩)]) (cs := #[]) q2 hfc.en, hmap']; simp) Q hQ
     | false => exact wCallF_ok (hfc.ok' hq) s.h (vs := c.args.toList.map a.eval ++ [.pointer (some ⟨bb, q, none⟩)]) (All2.append hargs hp2) (by rw [enter_clo ho hc (fs := #[]) (cs := #[.pointer (some ⟨bb, q, none⟩)]) q2 hfc.en, hmap']; simp) Q hQ
    ·exact hQ.elim
   ·exact WayOk.fail
  ·exact WayOk.fail
 | builtin b =>
  cases b <;> simp only <;> try exact WayOk.fail
  case len =>
   split
   ·rename_i x hxs hsz
    have hsz := Nat.eq_of_beq_eq_true hsz
    match hc1 : c.args.toList, hxs, hargs with
    | [y], hxs, hargs =>
     simp only [List.map_cons, List.map_nil, List.cons.injEq, and_true] at hxs
     subst hxs
     rw [hc1] at hmap'
     have h1 := hargs.1
     refine wLen_ok hT s.h h1 fun n hn => exec_call_builtin ho hc ?_
     have hts : c.argTypes = #[c.argTypes.getD 0 0] := by
      apply Array.ext
      ·simpa using hsz
      ·intro i h1 h2
       have : i = 0 := by omega
       subst this
       simp [Array.getD, h1]
     generalize c.argTypes.getD 0 0 = t at hts hn
     rw [hts]
     simp only [builtin, hmap', List.map_cons, List.map_nil]
     rw [show ([a.eval y] : List Value).toArray = #[a.eval y] from rfl]
     simp only [Sem.run_bind, hn, Result.andThen_ok, Sem.run_pure]
   ·exact WayOk.fail
  case append =>
   split
   ·rename_i x y hxs
    match hc1 : c.args.toList, hxs, hargs with
    | [x1, y1], hxs, hargs =>
     simp only [List.map_cons, List.map_nil, List.cons.injEq, and_true] at hxs
     obtain ⟨rfl, rfl⟩ := hxs
     rw [hc1] at hmap'
     refine wAppendR_ok hT s.h hargs.1 hargs.2.1 fun v w' hv => ?_
     simp only [execOp, ho, resolve, hc]
     simp only [Sem.run_bind, Sem.run_pure, Result.andThen_ok, invoke, builtin, hmap', List.map_cons, List.map_nil]
     rw [show ([a.eval x1, a.eval y1] : List Value).toArray = #[a.eval x1, a.eval y1] from rfl, hv]
     rfl
   ·exact WayOk.fail
  case max =>
   refine wMinMax_ok s.h hargs (fun x y => by unfold mxI; split <;> simp) max2_run fun x rest u hl hu => exec_call_builtin ho hc ?_
   simp only [builtin, Builtin.max_, hmap, hl, Sem.run_bind, hu, Result.andThen_ok, Sem.run_pure]
  case min =>
   refine wMinMax_ok s.h hargs (fun x y => by unfold mnI; split <;> simp) min2_run fun x rest u hl hu => exec_call_builtin ho hc ?_
   simp only [builtin, Builtin.min_, hmap, hl, Sem.run_bind, hu, Result.andThen_ok, Sem.run_pure]

theorem wayD_ok (hT : TabOk P tab) (B : Base) (m : Md) (H : Hp) (w : World) (a : Act) (E : Env) (o : Oper) (t : DT (AV × List (Nat × Cell))) (hx : o.op.operands.toList.all opndOkB = true) (s : St B m E H a w) (h : wayD tab E H o = some t) : WayDOk P B m H w o a t := by
 have hx : ∀ x ∈ o.op.operands, opndOkB x = true := fun x h => List.all_eq_true.1 hx x (by simpa using h)
 unfold wayD at h
 split at h
 ·cases h
 ·split at h
  ·rename_i ho
   exact nilWay_ok hT s.h (.inl ⟨rfl, ho⟩) (evalO_ok s (hx _ (by rw [ho]; simp [Op.operands]))) h
  ·rename_i ho
   exact nilWay_ok hT s.h (.inr ⟨rfl, ho⟩) (evalO_ok s (hx _ (by rw [ho]; simp [Op.operands]))) h
  ·rename_i ho
   exact nextWay_ok s.h ho (evalO_ok s (hx _ (by rw [ho]; simp [Op.operands]))) h
  ·cases h
theorem way_ok (hT : TabOk P tab) (hC : TOk P T) : WaysOk P tab T := by
 refine ⟨fun B m H w a E o hx s => ?_, wayD_ok hT⟩
 have hx : ∀ x ∈ o.op.operands, opndOkB x = true := fun x h => List.all_eq_true.1 hx x (by simpa using h)
 unfold way
 cases ho : o.op <;> (try simp only [ho, Op.operands] at hx) <;> (try simp only) <;> try exact WayOk.fail
 case move x => exact WayOk.val s.h (by simp only [execOp, ho, Sem.run_pure]) (evalO_ok s (hx x (by simp)))
 case assign x => exact WayOk.val s.h (by simp only [execOp, ho, Sem.run_pure]) (evalO_ok s (hx x (by simp)))
 case pick c x y => exact wPick_ok s.h ho (evalO_ok s (hx c (by simp))) (evalO_ok s (hx x (by simp))) (evalO_ok s (hx y (by simp)))
 case nilCheck x => exact wNilCheckP_ok s.h ho (evalO_ok s (hx x (by simp)))
 case alloc t => exact wAlloc_ok hT s.h ho
 case box t x =>
  refine wBoxP_ok (t := t) s.h (evalO_ok s (hx x (by simp))) fun cs ⟨g, ls, h1, h2⟩ h3 => box_exec ho (isV_cells h2 h3)
 case build t ps => exact wBuildP_ok hT s.h ho (all2_parts s fun p hp => hx p.2 (by simp; exact ⟨p.1, by simpa using hp⟩))
 case buildSlice t n ps => exact wBuildSliceF_ok hT s.h ho (all2_parts s fun p hp => hx p.2 (by simp; exact ⟨p.1, by simpa using hp⟩))
 case load t x => exact wLoadR_ok hT s.h ho (evalO_ok s (hx x (by simp)))
 case store t x y => exact wStoreF_ok hT s.h ho (unpin_ok (evalO_ok s (hx x (by simp)))) (evalO_ok s (hx y (by simp)))
 case binOp op t x y yt => exact wBinN_ok hT s.h ho (evalO_ok s (hx x (by simp))) (evalO_ok s (hx y (by simp)))
 case unOp op t x => exact wUn_ok s.h ho (evalO_ok s (hx x (by simp)))
 case convert t d x => exact wConvertB_ok hT s.h ho (evalO_ok s (hx x (by simp)))
 case makeSlice t x y => exact wMakeSlice_ok hT s.h ho (evalO_ok s (hx x (by simp))) (evalO_ok s (hx y (by simp)))
 case slice t x lo hi mx =>
  cases mx with
  | some _ => exact WayOk.fail
  | none => exact wSlice_ok hT s.h ho (evalO_ok s (hx x (by simp))) (optRep_map s fun y hy => hx y (by simp [hy])) (optRep_map s fun y hy => hx y (by simp [hy]))
 case fieldAddr t x f => exact wFieldAddrP_ok hT s.h ho (evalO_ok s (hx x (by simp)))
 case field t x f => exact wField_ok hT s.h ho (evalO_ok s (hx x (by simp)))
 case indexAddr t x i => exact wIndexAddr_ok hT s.h ho (evalO_ok s (hx x (by simp))) (evalO_ok s (hx i (by simp)))
 case index t x i => exact wIndex_ok hT s.h ho (evalO_ok s (hx x (by simp))) (evalO_ok s (hx i (by simp)))
 case extract x n => exact wExtract_ok s.h ho (evalO_ok s (hx x (by simp)))
 case call c => exact wCall_ok hT hC s ho hx
 case makeMap t r =>
  cases r with
  | some _ => exact WayOk.fail
  | none => exact wMakeMapB_ok hT s.h ho
 case insert t x k y => exact wMapUpdateP_ok hT s.h (.inr ho) (evalO_ok s (hx x (by simp))) (evalO_ok s (hx k (by simp))) (evalO_ok s (hx y (by simp)))
 case mapUpdate t x k y => exact wMapUpdateP_ok hT s.h (.inl ho) (evalO_ok s (hx x (by simp))) (evalO_ok s (hx k (by simp))) (evalO_ok s (hx y (by simp)))
 case range t x => exact wRangeP_ok hT s.h ho (evalO_ok s (hx x (by simp)))
 case entry x => exact wEntry_ok s.h ho (evalO_ok s (hx x (by simp)))
 case makeFunc fn fs cs => exact wMakeFunc_ok s.h ho (all2_args s (xs := fs.toList) fun x h => hx x (by simp; exact .inl (by simpa using h))) (all2_args s (xs := cs.toList) fun x h => hx x (by simp; exact .inr (by simpa using h)))
 case lookup t x k ok => exact wLookupP_ok hT s.h ho (evalO_ok s (hx x (by simp))) (evalO_ok s (hx k (by simp)))
end
end Go.Proofs.YtadhpgecilhgnaaDoor.A

-- YtadhpgecilhgnaaDoorOpn
set_option linter.unusedVariables false
set_option linter.unusedSimpArgs false
namespace Go.Proofs.YtadhpgecilhgnaaDoor.A
open Go

def Ty.low : Ty → Nat
 | .bool => 1
 | .int k => k.bits / 8
 | .str => 16
 | .sl _ => 24
 | .pair a b => a.low + b.low
 | _ => 0
def okT : (τ : Ty) → τ.den → Prop
 | .int k, n => k.min ≤ n ∧ n ≤ k.max
 | .str, s => s.length ≤ 140737488351232
 | .sl e, xs => xs.length ≤ 140737488351232 ∧ xs.length * e.low ≤ 140737488351232 ∧ ∀ x ∈ xs, okT e x
 | .pair a b, x => okT a x.1 ∧ okT b x.2
 | _, _ => True
def fitB (P : Program) : Nat → Ty → Nat ⊕ (List Go.Field × Nat) → Bool
 | 0, _, _ => false
 | n + 1, τ, .inl t => (match P.underlying t, τ with
  | some .bool, .bool => true
  | some (.int k'), .int k => decide (k' = k)
  | some .string, .str => true
  | some (.slice et), .sl e => fitB P n e (.inl et) && Nat.beq (P.cellsOf et) e.cells && Nat.ble 1 e.cells && Nat.ble e.low (P.bytesOf et) && Nat.ble 1 (P.bytesOf et)
  | some (.struct fs), τ => Nat.beq (P.cellsOf t) τ.cells && fitB P n τ (.inr (fs.toList, 0))
  | _, _ => false)
 | n + 1, τ, .inr ([f], off) => Nat.beq f.offset off && fitB P n τ (.inl f.type) && Nat.beq (P.cellsOf f.type) τ.cells
 | n + 1, .pair a b, .inr (f :: g :: fs, off) => Nat.beq f.offset off && fitB P n a (.inl f.type) && Nat.beq (P.cellsOf f.type) a.cells && fitB P n b (.inr (g :: fs, off + a.cells))
 | _, _, _ => false

section
variable {P : Program} {w : World} {Z : Nat → Prop}
theorem list_of {α : Type} (p : Nat → α → Prop) : ∀ n : Nat, (∀ i, i < n → ∃ y, p i y) → ∃ l : List α, l.length = n ∧ ∀ i y, l[i]? = some y → p i y := by
 intro n
 induction n with
 | zero => intro _; exact ⟨[], rfl, fun i y h => by simp at h⟩
 | succ n ih =>
  intro h
  obtain ⟨l, hl, hp⟩ := ih (fun i hi => h i (by omega))
  obtain ⟨y, hy⟩ := h n (by omega)
  refine ⟨l ++ [y], by simp [hl], fun i z hz => ?_⟩
  by_cases hi : i < l.length
  ·exact hp i z (by rwa [List.getElem?_append_left hi] at hz)
  ·rw [List.getElem?_append_right (by omega)] at hz
   have hi2 : i - l.length < 1 := by
    rcases Nat.lt_or_ge (i - l.length) 1 with h | h
    ·exact h
    ·rw [List.getElem?_eq_none (by simpa using h)] at hz
     cases hz
   have e : i = n := by omega
   subst e
   rw [hl] at hz
   simp at hz
   subst hz
   exact hy
theorem weightsAll_mem {H : Type} {P : Program} {e : TypeId} {d : DataW H} : ∀ {l : List (DataW H)}, d ∈ l → ∀ n ∈ d.weights P e, n ∈ DataW.weightsAll P e l := by
 intro l
 induction l with
 | nil => intro h; cases h
 | cons a l ih =>
  intro h n hn
  rw [DataW.weightsAll, List.mem_append]
  rcases List.mem_cons.1 h with rfl | h
  ·exact .inl hn
  ·exact .inr (ih h n hn)
theorem int_wf {k : IntKind} {n : Int} (h : (Lit.int k n).wf = true) : k.min ≤ n ∧ n ≤ k.max := by
 simpa [Lit.wf] using h
theorem repL_of {e : Ty} {b o : Nat} : ∀ (l : List e.den) (k : Nat), (∀ (i : Nat) (y : e.den), l[i]? = some y → ∃ c, Rep Z w e y c [] ∧ ∀ (j : Nat) (u : Value), c[j]? = some u → w.cell? ⟨b, o + ((k + i) * e.cells + j), none⟩ = some u) →
 ∃ c, RepL (fun x c F => Rep Z w e x c F) l c [] ∧ ∀ (j : Nat) (u : Value), c[j]? = some u → w.cell? ⟨b, o + (k * e.cells + j), none⟩ = some u
 | [], k, _ => ⟨[], ⟨rfl, rfl⟩, by simp⟩
 | y :: l, k, h => by
  obtain ⟨c, h1, h2⟩ := h 0 y rfl
  obtain ⟨cs, g1, g2⟩ := repL_of l (k + 1) fun i z hz => by
   have := h (i + 1) z (by simpa using hz)
   rwa [show k + (i + 1) = k + 1 + i by omega] at this
  refine ⟨c ++ cs, ⟨c, cs, [], [], rfl, rfl, h1, g1⟩, fun j u hu => ?_⟩
  have hl := h1.len
  rw [List.getElem?_append] at hu
  split at hu
  ·exact h2 j u hu
  ·rename_i hj
   have := g2 _ u hu
   rwa [show o + ((k + 1) * e.cells + (j - c.length)) = o + (k * e.cells + j) by rw [Nat.succ_mul]; omega] at this

theorem fit_ok (hZ : ∀ b, b < w.heap.size → Z b) {H : Type} {enc : TypeId × Value → H} : ∀ (n : Nat) (τ : Ty) (q : Nat ⊕ (List Go.Field × Nat)), fitB P n τ q = true → match q with
 | .inl t => ∀ {fuel : Nat} {cs : List Value} {x : DataW H × List MemPlace}, DataW.trod enc P w 0 (fun _ => true) true fuel t cs = some x → (∀ n ∈ x.1.weights P t, n ≤ reachBytes) → ∃ y, Rep Z w τ y cs [] ∧ okT τ y
 | .inr (fs, off) => ∀ {fuel : Nat} {cs : List Value} {xs : List (DataW H × List MemPlace)}, xs.length = fs.length → cs.length = off + τ.cells →
  (∀ (i : Nat) (f : Go.Field), fs[i]? = some f → DataW.trod enc P w 0 (fun _ => true) true fuel f.type ((cs.drop f.offset).take (P.cellsOf f.type)) = xs[i]?) →
  (∀ m ∈ DataW.weightsEach P (fs.map (·.type)) (xs.map (·.1)), m ≤ reachBytes) → ∃ y, Rep Z w τ y (cs.drop off) [] ∧ okT τ y := by
 intro n
 induction n with
 | zero => intro τ q h; cases h
 | succ n ih =>
  intro τ q h
  cases q with
  | inl t =>
   intro fuel cs x hx hw
   simp only [fitB] at h
   split at h
   ·rename_i hu
    obtain ⟨b, rfl, _⟩ := DataW.trod_bool hu hx
    exact ⟨b, ⟨rfl, rfl⟩, trivial⟩
   ·rename_i k' k hu
    have hk : k' = k := by simpa using h
    subst hk
    obtain ⟨m, rfl, _, hm⟩ := DataW.trod_int hu hx
    exact ⟨m, ⟨rfl, rfl, int_wf hm⟩, int_wf hm⟩
   ·rename_i hu
    obtain ⟨s, rfl, rfl, hs⟩ := DataW.trod_string hu hx
    have := hw s.data.toList.length (by simp [DataW.weights])
    have hl : s.data.toList.length ≤ 140737488351232 := by simpa [reachBytes] using this
    exact ⟨s.data.toList, ⟨rfl, rfl, by unfold big; omega⟩, hl⟩
   ·rename_i et e hu
    simp only [Bool.and_eq_true] at h
    obtain ⟨⟨⟨⟨h1, h2⟩, h3⟩, h4⟩, h5⟩ := h
    have h2 := Nat.eq_of_beq_eq_true h2
    have h3 := Nat.le_of_ble_eq_true h3
    have h4 := Nat.le_of_ble_eq_true h4
    have h5 := Nat.le_of_ble_eq_true h5
    rcases DataW.trod_slice hu hx with ⟨rfl, rfl⟩ | ⟨a, len, cap, elems, rest, m, _, rfl, rfl, hb, hl, hm, hlen, hel, hsp, _⟩
    ·exact ⟨[], ⟨rfl, by simp, none, 0, rfl, by simp, .inl rfl⟩, by simp, by simp, by simp⟩
    ·have each : ∀ i, i < len → ∃ y, (∃ c, Rep Z w e y c [] ∧ ∀ (j : Nat) (u : Value), c[j]? = some u → w.cell? (a.add (i * e.cells + j)) = some u) ∧ okT e y := by
      intro i hi
      have h1' := hel i hi
      have hi2 : i < elems.length := by omega
      rw [List.getElem?_eq_getElem hi2, Option.bind_eq_some_iff] at h1'
      obtain ⟨c, hcs, hc2⟩ := h1'
      obtain ⟨_, hcl, hcc⟩ := World.cells?_some hcs
      obtain ⟨y, hy, ho⟩ := ih e (.inl et) h1 hc2 (fun m hm => hw m (by
       rw [DataW.weights]
       simp only [hu, List.mem_cons, List.mem_append]
       exact .inr (.inl (weightsAll_mem (List.mem_map_of_mem (f := Prod.fst) (List.getElem_mem hi2)) m hm))))
      refine ⟨y, ⟨c, hy, fun j u hu' => ?_⟩, ho⟩
      have hj : j < P.cellsOf et := by
       rcases Nat.lt_or_ge j c.length with h | h
       ·omega
       ·rw [List.getElem?_eq_none h] at hu'
        cases hu'
      have := hcc j hj
      rw [hu', Go.Addr.add_add, h2] at this
      exact this
     obtain ⟨l, hll, hp⟩ := list_of _ len each
     have hlb : len * P.bytesOf et ≤ 140737488351232 := by
      have h1 : ((elems.map (·.1)).length + (rest.map (·.1)).length) * P.bytesOf et ≤ reachBytes := hw _ (by
       rw [DataW.weights]
       simp only [hu]
       exact List.mem_cons_self)
      have h2 : len * P.bytesOf et ≤ ((elems.map (·.1)).length + (rest.map (·.1)).length) * P.bytesOf et := Nat.mul_le_mul_right _ (by simp; omega)
      simpa [reachBytes] using Nat.le_trans h2 h1
     have hl1 : len ≤ 140737488351232 := Nat.le_trans (by simpa using Nat.mul_le_mul_left len h5) hlb
     have hl2 : len * e.low ≤ 140737488351232 := Nat.le_trans (Nat.mul_le_mul_left len h4) hlb
     refine ⟨l, ⟨rfl, by unfold big; omega, some a, cap, by rw [hll], by omega, ?_⟩, by omega, by rw [hll]; exact hl2, fun x hx => ?_⟩
     ·by_cases hl0 : l = []
      ·exact .inl hl0
      ·right
       have h0 : 0 < l.length := List.length_pos_iff.2 hl0
       -- the first cell
       obtain ⟨⟨c, hc1, hc2⟩, _⟩ := hp 0 _ (List.getElem?_eq_getElem h0)
       have hc0 : 0 < c.length := by rw [hc1.len]; omega
       have hcell := hc2 0 _ (List.getElem?_eq_getElem hc0)
       rw [show a.add (0 * e.cells + 0) = a by simp [Go.Addr.add]] at hcell
       have hadd : a.spot = none ∧ a.block < w.heap.size := by
        obtain ⟨bb, oo, ss⟩ := a
        simp only [World.cell?] at hcell
        cases ss with
        | none =>
         refine ⟨rfl, ?_⟩
         cases hh : w.heap[bb]? with
         | none => rw [hh] at hcell; cases hcell
         | some ob => exact (Array.getElem?_eq_some_iff.1 hh).1
        | some s =>
         split at hcell
         ·simp at hcell
         ·cases hcell
       obtain ⟨bb, oo, ss⟩ := a
       obtain ⟨hs, hbb⟩ := hadd
       simp only at hs hbb
       subst hs
       obtain ⟨cc, g1, g2⟩ := repL_of (Z := Z) (w := w) (b := bb) (o := oo) l 0 fun i y hy => by
        obtain ⟨⟨c, k1, k2⟩, _⟩ := hp i y hy
        exact ⟨c, k1, fun j u hu => by have := k2 j u hu; rw [aad] at this; rwa [Nat.zero_add]⟩
       exact ⟨bb, oo, cc, rfl, hZ bb hbb, g1, fun j u hu => by have := g2 j u hu; rwa [Nat.zero_mul, Nat.zero_add] at this⟩
     ·obtain ⟨i, hi⟩ := List.getElem?_of_mem hx
      exact (hp i x hi).2
   ·rename_i fs hu
    simp only [Bool.and_eq_true] at h
    have hc := Nat.eq_of_beq_eq_true h.1
    obtain ⟨xs, m, _, rfl, hcl, hxl, hf⟩ := DataW.trod_struct hu hx
    have := ih _ (.inr (fs.toList, 0)) h.2 (fuel := m) (cs := cs) (xs := xs) (by simpa using hxl) (by rw [hcl, hc]; simp) (fun i f hi => hf i f (by simpa using hi)) (fun m hm => hw m (by
     rw [DataW.weights]
     simp only [hu]
     exact hm))
    simpa using this
   ·cases h
  | inr p =>
   obtain ⟨fs, off⟩ := p
   intro fuel cs xs hxs hcs hf hw
   match fs, hxs, hf, hw, h with
   | [], _, _, _, h => simp [fitB] at h
   | [f], hxs, hf, hw, h =>
    simp only [fitB, Bool.and_eq_true] at h
    obtain ⟨⟨h1, h2⟩, h3⟩ := h
    have h1 := Nat.eq_of_beq_eq_true h1
    have h3 := Nat.eq_of_beq_eq_true h3
    obtain ⟨x, rfl⟩ : ∃ x, xs = [x] := by
     match xs, hxs with
     | [x], _ => exact ⟨x, rfl⟩
    have hx := hf 0 f rfl
    rw [h1, List.take_of_length_le (by simp; omega)] at hx
    exact ih τ (.inl f.type) h2 hx (fun m hm => hw m (by simpa [DataW.weightsEach] using hm))
   | f :: g :: fs, hxs, hf, hw, h =>
    cases τ <;> try (simp [fitB] at h; done)
    rename_i a b _
    simp only [fitB, Bool.and_eq_true] at h
    obtain ⟨⟨⟨h1, h2⟩, h3⟩, h4⟩ := h
    have h1 := Nat.eq_of_beq_eq_true h1
    have h3 := Nat.eq_of_beq_eq_true h3
    match xs, hxs with
    | x :: xs, hxs =>
     have hx := hf 0 f rfl
     rw [h1] at hx
     obtain ⟨y, hy, hoy⟩ := ih a (.inl f.type) h2 (x := x) hx (fun m hm => hw m (by simp [DataW.weightsEach]; exact .inl hm))
     obtain ⟨z, hz, hoz⟩ := ih b (.inr (g :: fs, off + a.cells)) h4 (fuel := fuel) (cs := cs) (xs := xs) (by simpa using hxs) (by rw [hcs]; simp only [Ty.cells]; omega) (fun i f' hi => by have := hf (i + 1) f' (by simpa using hi); simpa using this) (fun m hm => hw m (by
      simp only [List.map_cons, DataW.weightsEach, List.mem_append]
      simp only [List.map_cons, DataW.weightsEach, List.mem_append] at hm
      exact .inr hm))
     refine ⟨(y, z), ⟨_, _, [], [], ?_, rfl, hy, hz⟩, hoy, hoz⟩
     rw [h3, ← List.drop_drop, List.take_append_drop]
theorem weights_of {H : Type} {P : Program} {t : TypeId} {x : DataW H} : ∀ {ts : List TypeId} {ds : List (DataW H)} {j : Nat}, (DataW.weightsEach P ts ds).all (· ≤ reachBytes) = true → ts[j]? = some t → ds[j]? = some x → ∀ n ∈ x.weights P t, n ≤ reachBytes := by
 intro ts
 induction ts with
 | nil => intro ds j _ h; simp at h
 | cons a ts ih =>
  intro ds j hw ht hd n hn
  match ds with
  | [] => simp at hd
  | d :: ds =>
   rw [DataW.weightsEach, List.all_append, Bool.and_eq_true] at hw
   cases j with
   | zero =>
    simp at ht hd
    subst ht; subst hd
    simpa using List.all_eq_true.1 hw.1 n hn
   | succ j => exact ih hw.2 (by simpa using ht) (by simpa using hd) n hn
def argFitB (P : Program) (τ : Ty) (t : Nat) : Bool := fitB P 60 τ (.inl t) && (match P.underlying t with | some (.struct _) => !τ.one | _ => τ.one)
theorem arg_open (hZ : ∀ b, b < w.heap.size → Z b) {H : Type} {enc : TypeId × Value → H} {τ : Ty} {t : Nat} (hfit : argFitB P τ t = true) {r : Reach} {base : Nat} {v : Value} {x : DataW H} {ps : List MemPlace} {ts : List TypeId} {ds : List (DataW H)} {j : Nat}
 (hsz : (DataW.weightsEach P ts ds).all (· ≤ reachBytes) = true) (hj : ts[j]? = some t) (hd : ds[j]? = some x) (hv : Value.okWide P w r base t v) (h : DataW.Trod enc P w 0 (fun _ => true) true t v x ps) :
 ∃ y, ArgRep (fun _ => ([], [])) Z w false τ y v [] ∧ okT τ y := by
 unfold argFitB at hfit
 rw [Bool.and_eq_true] at hfit
 obtain ⟨fuel, hf⟩ := h
 have hwt : ∀ n ∈ x.weights P t, n ≤ reachBytes := weights_of hsz hj hd
 obtain ⟨y, hy, ho⟩ := fit_ok (P := P) hZ 60 τ (.inl t) hfit.1 hf hwt
 refine ⟨y, ⟨v.cells.toList, ?_, hy⟩, ho⟩
 have h2 := hfit.2
 have h1 : fitB P (59 + 1) τ (.inl t) = true := hfit.1
 unfold fitB at h1
 split at h1
 ·rename_i hu
  rw [hu] at h2
  obtain ⟨c, rfl⟩ := WideShapes.okWide_bool hu hv
  rw [show (!Ty.bool.one) = false from rfl]; rfl
 ·rename_i k' k hu
  obtain ⟨c, rfl⟩ := WideShapes.okWide_int hu hv
  rfl
 ·rename_i hu
  obtain ⟨c, rfl⟩ := WideShapes.okWide_string hu hv
  rfl
 ·rename_i et e hu
  obtain ⟨a, len, cap, rfl⟩ := WideShapes.okWide_slice hu hv
  rfl
 ·rename_i fs hu
  rw [hu] at h2
  obtain ⟨cs, rfl, _⟩ := WideShapes.okWide_struct hu hv
  simp only at h2
  rw [h2]
  simp [IsV, Value.cells]
 ·cases h1
end
end Go.Proofs.YtadhpgecilhgnaaDoor.A

-- YtadhpgecilhgnaaDoorTb
set_option linter.unusedVariables false
set_option linter.unusedSimpArgs false
namespace Go.Proofs.YtadhpgecilhgnaaDoor.A
open Go
def zrepB : LV → Value → Bool
 | .v .bool b, .bool c => b == c
 | .v (.int k) n, .int k' m => decide (k' = k) && decide (m = n) && decide (k.min ≤ n) && decide (n ≤ k.max)
 | .v .str l, .string s => decide (s.data.toList = l) && decide (l.length ≤ big)
 | .nils, .slice none 0 0 => true
 | .nilm, .map none => true
 | .nilp, .pointer none => true
 | .junk, _ => true
 | _, _ => false
def zrepsB : List LV → List Value → Bool
 | [], [] => true
 | l :: ls, c :: cs => zrepB l c && zrepsB ls cs
 | _, _ => false
def aggB : Value → Bool
 | .agg _ => true
 | .tuple _ => false
 | _ => false
def oneFitsB (P : Program) (t : Nat) : Ty → Bool
 | .int k => (match P.underlying t with | some (.int k') => decide (k' = k) | _ => false)
 | .bool => (match P.underlying t with | some .bool => true | _ => false)
 | .str => (match P.underlying t with | some .string => true | _ => false)
 | _ => false
def eqFB (P : Program) : Nat → List Go.Field → Ty → Bool
 | _, [], _ => false
 | off, [f], τ => decide (f.name ≠ "_") && Nat.beq f.offset off && oneFitsB P f.type τ
 | off, f :: g :: fs, .pair a b => decide (f.name ≠ "_") && Nat.beq f.offset off && oneFitsB P f.type a && eqFB P (off + 1) (g :: fs) b
 | _, _, _ => false
def descFitsB (i : TI) (d : TypeDesc) : Bool :=
 match i.ty, d with
 | .int k, .int k' => decide (k' = k)
 | .int _, _ => false
 | .bool, .bool => true
 | .bool, _ => false
 | .str, .string => true
 | .str, _ => false
 | .sl _, .slice e => Nat.beq e i.elem
 | .sl _, _ => false
 | .map _ _, .map k e => Nat.beq k i.key && Nat.beq e i.elem
 | .map _ _, _ => false
 | .ptr _, .pointer _ => true
 | .ptr _, _ => false
 | _, _ => true
def fieldsB : List Go.Field → List (Nat × Nat) → Bool
 | [], [] => true
 | f :: fs, p :: ps => Nat.beq f.offset p.1 && Nat.beq f.type p.2 && fieldsB fs ps
 | _, _ => false
def rowOkB (P : Program) (t : Nat) (i : TI) : Bool :=
 (match P.info? t with
  | some inf => Nat.beq inf.size i.ty.cells && Nat.beq inf.bytes i.bytes && (match inf.zero with | some z => (aggB z == i.agg) && zrepsB i.zero z.cells.toList && (i.agg || (match z with | .tuple _ => false | _ => true)) | none => false)
  | none => false) &&
 (i.agg || i.ty.one) && Nat.beq i.zero.length i.ty.cells && Nat.ble i.bytes 4096 &&
 (match i.agg with
  | true => (match P.underlying t with
   | some (.array n e) => i.fields.isEmpty && Nat.beq n i.ty.cells && Nat.beq e i.elem && !(Nat.beq i.ty.cells 0)
   | some (.struct fs) => (!i.fields.isEmpty || Nat.beq i.ty.cells 0) && (fs.toList.mapM (fun f => (P.info? f.type).map fun i => (f.offset, i.size))).isSome && (!i.ty.eqB || (eqFB P 0 fs.toList i.ty && !(P.eqGuardType P.depth t))) && !(P.stoodInHeld t) && fieldsB fs.toList i.fields
   | _ => false)
  | false => (match P.underlying t with | some d => plainDesc d && descFitsB i d | none => false))
section
variable {P : Program}
theorem zrep_of : ∀ {l : LV} {c : Value}, zrepB l c = true → ZRep l c := by
 intro l c h
 unfold zrepB at h
 split at h
 ·rename_i b c
  have : b = c := by simpa using h
  subst this
  rfl
 ·simp only [Bool.and_eq_true, decide_eq_true_eq] at h
  obtain ⟨⟨⟨rfl, rfl⟩, h3⟩, h4⟩ := h
  exact ⟨rfl, h3, h4⟩
 ·rename_i l s
  simp only [Bool.and_eq_true, decide_eq_true_eq] at h
  obtain ⟨h1, h2⟩ := h
  subst h1
  exact ⟨rfl, h2⟩
 ·rfl
 ·rfl
 ·rfl
 ·trivial
 ·cases h
theorem zreps_of : ∀ {ls : List LV} {cs : List Value}, zrepsB ls cs = true → All2 ZRep ls cs
 | [], [], _ => trivial
 | l :: ls, c :: cs, h => by
  simp only [zrepsB, Bool.and_eq_true] at h
  exact ⟨zrep_of h.1, zreps_of h.2⟩
 | [], _ :: _, h => by cases h
 | _ :: _, [], h => by cases h
theorem oneFits_of {t : Nat} {τ : Ty} (h : oneFitsB P t τ = true) : oneFits P t τ := by
 cases τ <;> try (cases h; done)
 all_goals
  simp only [oneFitsB] at h
  split at h
 ·rename_i hu; exact hu
 ·cases h
 ·rename_i k' hu
  have h := of_decide_eq_true h
  subst h
  exact hu
 ·cases h
 ·rename_i hu; exact hu
 ·cases h
theorem eqF_of : ∀ {fs : List Go.Field} {off : Nat} {τ : Ty}, eqFB P off fs τ = true → EqF P off fs τ
 | [], off, τ, h => by simp [eqFB] at h
 | [f], off, τ, h => by
  simp only [eqFB, Bool.and_eq_true, decide_eq_true_eq] at h
  obtain ⟨⟨h1, h2⟩, h3⟩ := h
  cases τ <;> exact ⟨h1, Nat.eq_of_beq_eq_true h2, oneFits_of h3⟩
 | f :: g :: fs, off, τ, h => by
  cases τ <;> try (simp [eqFB] at h; done)
  simp only [eqFB, Bool.and_eq_true, decide_eq_true_eq] at h
  obtain ⟨⟨⟨h1, h2⟩, h3⟩, h4⟩ := h
  exact ⟨h1, Nat.eq_of_beq_eq_true h2, oneFits_of h3, eqF_of h4⟩
theorem descFits_of {i : TI} {d : TypeDesc} (h : descFitsB i d = true) : descFits i d := by
 unfold descFitsB at h
 unfold descFits
 generalize i.ty = τ at h ⊢
 cases τ <;> cases d <;> first
  | exact False.elim (Bool.false_ne_true h)
  | exact trivial
  | exact rfl
  | exact ⟨_, rfl⟩
  | exact congrArg TypeDesc.int (of_decide_eq_true h)
  | exact congrArg TypeDesc.slice (Nat.eq_of_beq_eq_true h)
  | exact (by
   have h := (Bool.and_eq_true _ _).mp h
   exact congr (congrArg TypeDesc.map (Nat.eq_of_beq_eq_true h.1)) (Nat.eq_of_beq_eq_true h.2))
theorem fields_of : ∀ {fs : List Go.Field} {ps : List (Nat × Nat)}, fieldsB fs ps = true → fs.length = ps.length ∧ ∀ (f o ft : Nat), ps[f]? = some (o, ft) → ∃ fd : Go.Field, fs[f]? = some fd ∧ fd.offset = o ∧ fd.type = ft
 | [], [], _ => ⟨rfl, by simp⟩
 | f :: fs, p :: ps, h => by
  simp only [fieldsB, Bool.and_eq_true] at h
  obtain ⟨⟨h1, h2⟩, h3⟩ := h
  obtain ⟨g1, g2⟩ := fields_of h3
  refine ⟨by simp [g1], fun k o ft hk => ?_⟩
  cases k with
  | zero =>
   simp only [List.getElem?_cons_zero, Option.some.injEq] at hk
   subst hk
   exact ⟨f, rfl, Nat.eq_of_beq_eq_true h1, Nat.eq_of_beq_eq_true h2⟩
  | succ k => simpa using g2 k o ft (by simpa using hk)
 | [], _ :: _, h => by cases h
 | _ :: _, [], h => by cases h
theorem rowOk_of {t : Nat} {i : TI} (h : rowOkB P t i = true) : TyOk P t i := by
 unfold rowOkB at h
 simp only [Bool.and_eq_true] at h
 obtain ⟨⟨⟨⟨h1, h2⟩, h3⟩, h4⟩, h5⟩ := h
 have hagg : i.agg = true → (i.fields = [] ∧ P.underlying t = some (.array i.ty.cells i.elem)) ∨ ∃ fs : Array Go.Field, (i.fields = [] → i.ty.cells = 0) ∧ P.underlying t = some (.struct fs) ∧ (fs.toList.mapM (fun f => (P.info? f.type).map fun i => (f.offset, i.size))).isSome = true ∧ (!i.ty.eqB || (eqFB P 0 fs.toList i.ty && !(P.eqGuardType P.depth t))) = true ∧ P.stoodInHeld t = false ∧ fieldsB fs.toList i.fields = true := fun ha => by
  rw [ha] at h5
  simp only at h5
  split at h5
  ·rename_i n e hu
   simp only [Bool.and_eq_true, Bool.not_eq_true'] at h5
   obtain ⟨⟨⟨a1, a2⟩, a3⟩, a4⟩ := h5
   refine .inl ⟨by simpa using a1, ?_⟩
   rw [hu, Nat.eq_of_beq_eq_true a2, Nat.eq_of_beq_eq_true a3]
  ·rename_i fs hu
   simp only [Bool.and_eq_true, Bool.not_eq_true'] at h5
   obtain ⟨⟨⟨⟨a0, a1⟩, a2⟩, a3⟩, a4⟩ := h5
   refine .inr ⟨fs, fun hf => ?_, hu, a1, a2, a3, a4⟩
   rw [hf] at a0
   simpa using a0
  ·cases h5
 refine ⟨?_, fun ha => ?_, Nat.eq_of_beq_eq_true h3, Nat.le_of_ble_eq_true h4, fun ha hf => ?_, fun ha he hf => ?_, fun ha he hf => ?_, ?_⟩
 ·split at h1
  ·rename_i inf hi
   simp only [Bool.and_eq_true] at h1
   obtain ⟨⟨g1, g2⟩, g3⟩ := h1
   split at g3
   ·rename_i z hz
    simp only [Bool.and_eq_true] at g3
    obtain ⟨⟨k1, k2⟩, k3⟩ := g3
    refine ⟨inf, z, hi, Nat.eq_of_beq_eq_true g1, Nat.eq_of_beq_eq_true g2, hz, ?_, zreps_of k2⟩
    have k1 : aggB z = i.agg := by simpa using k1
    rw [← k1]
    cases z <;> first | rfl | simp [aggB, IsV, Value.cells]
   ·cases g3
  ·cases h1
 ·rw [ha] at h2; simpa using h2
 ·rcases hagg ha with ⟨h0, _⟩ | ⟨fs, _, a1, a2, _⟩
  ·rw [h0] at hf; cases hf
  obtain ⟨pl, hp⟩ := Option.isSome_iff_exists.1 a2
  exact ⟨fs, pl, a1, hp⟩
 ·rcases hagg ha with ⟨h0, _⟩ | ⟨fs, _, a1, _, a3, _⟩
  ·rw [h0] at hf; cases hf
  rw [he] at a3
  simp only [Bool.not_true, Bool.false_or, Bool.and_eq_true] at a3
  exact ⟨fs, a1, eqF_of a3.1⟩
 ·rcases hagg ha with ⟨h0, _⟩ | ⟨fs, _, a1, _, a3, _⟩
  ·rw [h0] at hf; cases hf
  rw [he] at a3
  simp only [Bool.not_true, Bool.false_or, Bool.and_eq_true] at a3
  simpa using a3.2
 ·cases ha : i.agg with
  | true =>
   rcases hagg ha with h0 | ⟨fs, a0, a1, _, _, a4, a5⟩
   ·exact .inl h0
   obtain ⟨f1, f2⟩ := fields_of a5
   exact .inr ⟨fs, a0, a1, a4, fun f o ft hf => by obtain ⟨fd, q1, q2⟩ := f2 f o ft hf; exact ⟨fd, by simpa using q1, q2⟩, by simpa using f1⟩
  | false =>
   rw [ha] at h5
   simp only at h5
   split at h5
   ·rename_i d hu
    simp only [Bool.and_eq_true] at h5
    exact ⟨d, hu, h5.1, descFits_of h5.2⟩
   ·cases h5
def tabOkB (P : Program) (l : List (Nat × Option TI)) : Bool := l.all fun p => match p.2 with | some i => rowOkB P p.1 i | none => true
theorem tabOk_of {l : List (Nat × Option TI)} (h : tabOkB P l = true) : TabOk P (ofL none l) := by
 intro t i hi
 induction l with
 | nil => cases hi
 | cons p l ih =>
  unfold tabOkB at h
  rw [List.all_cons, Bool.and_eq_true] at h
  obtain ⟨k, x⟩ := p
  rw [ofL_cons] at hi
  by_cases hk : t = k
  ·subst hk
   rw [upd_same] at hi
   subst hi
   exact rowOk_of h.1
  ·rw [upd_other _ _ hk] at hi
   exact ih h.2 hi
end
end Go.Proofs.YtadhpgecilhgnaaDoor.A

-- YtadhpgecilhgnaaDoorLw
set_option linter.unusedVariables false
set_option linter.unusedSimpArgs false
namespace Go.Proofs.YtadhpgecilhgnaaDoor.A
open Go
section
variable {P : Program} {tab : Nat → Option TI}
theorem TOk.nil : TOk P (ofL none []) := fun _ _ h => by cases h
theorem TOk.cons {f : Nat} {F : FunE} {l : List (Nat × Option FunE)} (h : FunC P f F) (hl : TOk P (ofL none l)) (hs : SbC P f F := by (intro q h; exact absurd (show (none : Option SbRule) = some q from h) (by simp))) : TOk P (ofL none ((f, some F) :: l)) := by
 intro g G hg
 rw [ofL_cons] at hg
 by_cases e : g = f
 ·subst e
  rw [upd_same] at hg
  cases hg
  exact ⟨h, hs⟩
 ·rw [upd_other _ _ e] at hg
  exact hl g G hg
theorem funC_of (hm : P.follows .mixedOrders = true) (hT : TabOk P tab) {f : FuncId} {fn : Func} (hf : P.funcs[f]? = some fn) {T : Nat → Nat → Option FunE} {ann : Nat → Option (List Keep)} {ins : List (Bool × Ty)} {outs : List Ty} {n : Nat} (hC : ∀ k, TOk P (T k)) (hk : fnOkB fn ins = true) (hn : (fn.name == "runtime.NumGoroutine") = false) : FunC P f (fnE tab T ann fn ins outs n) := by
 refine ⟨fun _ => fnE_ok hm hT hf (fun k _ => way_ok hT (hC k)) hk, fun _ _ h => (by cases h), fn, hf, hn, ?_⟩
 simp only [fnOkB, Bool.and_eq_true] at hk
 have := hk.1.1.2
 cases hb : fn.body with
 | none => rw [hb] at this; cases this
 | some _ => rfl
theorem FunC.spec {f : FuncId} {ins : List (Bool × Ty)} {outs : List Ty} {F : Nat → (ins.foldr (fun p t => Ty.pair p.2 t) .unit).den → Option ((outs ++ (ins.filter (·.1)).map (·.2)).foldr Ty.pair .unit).den} {g : (ins.foldr (fun p t => Ty.pair p.2 t) .unit).den → Option ((outs ++ (ins.filter (·.1)).map (·.2)).foldr Ty.pair .unit).den}
 (hF : ∀ n, FunC P f { ins := ins, outs := outs, f := F n }) (h : ∀ x r, g x = some r → ∃ n, F n x = some r) : FunC P f { ins := ins, outs := outs, f := g } := by
 refine ⟨fun _ fr Z w xs vs Fs r h1 h2 h3 h4 h5 => ?_, fun _ _ h => (by cases h), (hF 0).en⟩
 obtain ⟨n, hn⟩ := h xs r h5
 exact ((hF n).ok' rfl fr Z w xs vs Fs r h1 h2 h3 h4 hn).mono fun e w' ⟨v, Z', us, Fr, Fi, he, p⟩ => ⟨v, Z', us, Fr, Fi, he, ⟨p.kp, p.zs, p.zl, p.zi, p.res, p.v, p.io, p.nd, p.nz⟩⟩
theorem law_end {Z : Nat → Prop} {w w' : World} {F : FunE} {vs us : List Value} {v : Value} {Z' : Nat → Prop} {Fr Fi : List Nat} {r : ((F.outs ++ (F.ins.filter (·.1)).map (·.2)).foldr Ty.pair .unit).den} {fr : Nat → List Value × List Value} (p : Post fr Z w [] F vs r v w' Z' us Fr Fi) {τs : List Ty} (ho : F.outs = [.bool]) {b : Bool} (hb : ResL Z' w' F.outs (splitRes F.outs _ r).1 us Fr → ResL Z' w' [.bool] (b, ()) us Fr) :
 v = .bool b ∧ RowKit.Below w.heap.size w w' := by
 refine ⟨?_, p.kp.os, p.kp.tape, p.kp.output, p.kp.size, fun k hk => p.kp.block k hk (by simp)⟩
 obtain ⟨u, us', F1, F2, e1, e2, ⟨cs, e3, e4⟩, e5, e6⟩ := hb p.res
 have e3 : cs = [u] := e3
 subst e3
 obtain ⟨e7, _⟩ := e4
 rw [p.v, e1, e5]
 simpa [tupOf] using e7
end
end Go.Proofs.YtadhpgecilhgnaaDoor.A

-- YtadhpgecilhgnaaDoorShelf
namespace Go.Proofs
open Go.Shelf
def Tryd.lays170_ren : Go.Shelf.Ren := ⟨fun | 170 => 17 | n => n, fun | 70 => 36 | 3 => 3 | 0 => 0 | 72 => 39 | 37 => 37 | 5 => 5 | n => n, fun | n => n⟩
theorem Tryd.lays170 : Go.Proofs.Lays.n170 Tryd.prog Tryd.lays170_ren := {
 mixed := by kernel_rfl
 f170 := Tryd.func17.trans (congrArg some (by kernel_rfl))
 t0 := Tryd.underlying0
 a0 := Tryd.isAgg0
 z0 := Tryd.sizeOf0
 v0 := Tryd.zeroValue0
 t3 := Tryd.underlying3
 a3 := Tryd.isAgg3
 z3 := Tryd.sizeOf3
 v3 := Tryd.zeroValue3
 t37 := Tryd.underlying37
 a37 := Tryd.isAgg37
 z37 := Tryd.sizeOf37
 v37 := Tryd.zeroValue37
 t70 := Tryd.underlying36
 a70 := Tryd.isAgg36
 z70 := Tryd.sizeOf36
 v70 := Tryd.zeroValue36
 t72 := Tryd.underlying39
 a72 := Tryd.isAgg39
 z72 := Tryd.sizeOf39
 v72 := Tryd.zeroValue39 }
open Go.RowKit in
theorem Tryd.Builder_Len (B b : Nat) (bs : List Value) (w : World) (h : Lib.IsBuilder 39 5 B b bs w) :
 Calls Tryd.prog 17 #[.pointer (some ⟨b, 0, none⟩)] w fun e w' => e = .returned (.int .i64 bs.length) ∧ w' = w := Any.Builder_Len Tryd.lays170 B b bs w h
def Tryd.lays169_ren : Go.Shelf.Ren := ⟨fun | 169 => 18 | n => n, fun | 70 => 36 | 9 => 9 | 0 => 0 | 72 => 39 | 37 => 37 | 127 => 74 | 3 => 3 | 5 => 5 | n => n, fun | n => n⟩
theorem Tryd.lays169 : Go.Proofs.Lays.n169 Tryd.prog Tryd.lays169_ren := {
 mixed := by kernel_rfl
 f169 := Tryd.func18.trans (congrArg some (by kernel_rfl))
 t0 := Tryd.underlying0
 a0 := Tryd.isAgg0
 z0 := Tryd.sizeOf0
 v0 := Tryd.zeroValue0
 t3 := Tryd.underlying3
 a3 := Tryd.isAgg3
 z3 := Tryd.sizeOf3
 v3 := Tryd.zeroValue3
 t9 := Tryd.underlying9
 a9 := Tryd.isAgg9
 z9 := Tryd.sizeOf9
 v9 := Tryd.zeroValue9
 t37 := Tryd.underlying37
 a37 := Tryd.isAgg37
 z37 := Tryd.sizeOf37
 v37 := Tryd.zeroValue37
 t70 := Tryd.underlying36
 a70 := Tryd.isAgg36
 z70 := Tryd.sizeOf36
 v70 := Tryd.zeroValue36
 t72 := Tryd.underlying39
 a72 := Tryd.isAgg39
 z72 := Tryd.sizeOf39
 v72 := Tryd.zeroValue39
 t127 := Tryd.underlying74
 a127 := Tryd.isAgg74
 z127 := Tryd.sizeOf74
 v127 := Tryd.zeroValue74 }
theorem Tryd.Builder_Extra_169 : Builder.Extra Tryd.prog Tryd.lays169_ren := {
 sizeBuilder := by kernel_rfl
 liesBuilder := by kernel_rfl
 t5 := Tryd.underlying5
 a5 := Tryd.isAgg5
 z5 := Tryd.sizeOf5
 v5 := Tryd.zeroValue5
 infoByte := by kernel_rfl
 cellsByte := by kernel_rfl
 sizeByte := by kernel_rfl
 neB5 := by decide }
open Go.RowKit in
theorem Tryd.Builder_String (B b : Nat) (l : List UInt8) (w : World) (h : Lib.IsBuilder 39 5 B b (Lib.byteCells l) w) (h0 : l ≠ []) :
 Calls Tryd.prog 18 #[.pointer (some ⟨b, 0, none⟩)] w fun e w' => e = .returned (.string ⟨l.toArray⟩) ∧ Below B w w' := Any.Builder_String Tryd.lays169 Tryd.Builder_Extra_169 B b l w h h0
def Tryd.lays156_ren : Go.Shelf.Ren := ⟨fun | 156 => 14 | 165 => 30 | 166 => 13 | 169 => 18 | 240 => 29 | 241 => 53 | 276 => 52 | 277 => 59 | n => n, fun | 31 => 22 | 9 => 9 | 3 => 3 | 4 => 4 | 0 => 0 | 20 => 20 | 72 => 39 | 76 => 42 | 70 => 36 | 37 => 37 | 75 => 41 | 127 => 74 | 164 => 91 | 5 => 5 | 80 => 56 | n => n, fun | n => n⟩
theorem Tryd.lays156 : Go.Proofs.Lays.n156 Tryd.prog Tryd.lays156_ren := {
 mixed := by kernel_rfl
 f156 := Tryd.func14.trans (congrArg some (by kernel_rfl))
 f165 := Tryd.func30.trans (congrArg some (by kernel_rfl))
 f166 := Tryd.func13.trans (congrArg some (by kernel_rfl))
 f169 := Tryd.func18.trans (congrArg some (by kernel_rfl))
 f240 := Tryd.func29.trans (congrArg some (by kernel_rfl))
 f241 := Tryd.func53.trans (congrArg some (by kernel_rfl))
 f276 := Tryd.func52.trans (congrArg some (by kernel_rfl))
 f277 := Tryd.func59.trans (congrArg some (by kernel_rfl))
 t0 := Tryd.underlying0
 a0 := Tryd.isAgg0
 z0 := Tryd.sizeOf0
 v0 := Tryd.zeroValue0
 t3 := Tryd.underlying3
 a3 := Tryd.isAgg3
 z3 := Tryd.sizeOf3
 v3 := Tryd.zeroValue3
 t4 := Tryd.underlying4
 a4 := Tryd.isAgg4
 z4 := Tryd.sizeOf4
 v4 := Tryd.zeroValue4
 t9 := Tryd.underlying9
 a9 := Tryd.isAgg9
 z9 := Tryd.sizeOf9
 v9 := Tryd.zeroValue9
 t20 := Tryd.underlying20
 a20 := Tryd.isAgg20
 z20 := Tryd.sizeOf20
 v20 := Tryd.zeroValue20
 t31 := Tryd.underlying22
 a31 := Tryd.isAgg22
 z31 := Tryd.sizeOf22
 v31 := Tryd.zeroValue22
 t37 := Tryd.underlying37
 a37 := Tryd.isAgg37
 z37 := Tryd.sizeOf37
 v37 := Tryd.zeroValue37
 t70 := Tryd.underlying36
 a70 := Tryd.isAgg36
 z70 := Tryd.sizeOf36
 v70 := Tryd.zeroValue36
 t72 := Tryd.underlying39
 a72 := Tryd.isAgg39
 z72 := Tryd.sizeOf39
 v72 := Tryd.zeroValue39
 t75 := Tryd.underlying41
 a75 := Tryd.isAgg41
 z75 := Tryd.sizeOf41
 v75 := Tryd.zeroValue41
 t76 := Tryd.underlying42
 a76 := Tryd.isAgg42
 z76 := Tryd.sizeOf42
 v76 := Tryd.zeroValue42
 t127 := Tryd.underlying74
 a127 := Tryd.isAgg74
 z127 := Tryd.sizeOf74
 v127 := Tryd.zeroValue74
 t164 := Tryd.underlying91
 a164 := Tryd.isAgg91
 z164 := Tryd.sizeOf91
 v164 := Tryd.zeroValue91 }
theorem Tryd.Builder_Extra_156 : Builder.Extra Tryd.prog Tryd.lays156_ren := {
 sizeBuilder := by kernel_rfl
 liesBuilder := by kernel_rfl
 t5 := Tryd.underlying5
 a5 := Tryd.isAgg5
 z5 := Tryd.sizeOf5
 v5 := Tryd.zeroValue5
 infoByte := by kernel_rfl
 cellsByte := by kernel_rfl
 sizeByte := by kernel_rfl
 neB5 := by decide }
open Go.RowKit in
theorem Tryd.strings_Join_none (a : Option Addr) (c : Nat) (sep : ByteArray) (w : World) :
 Calls Tryd.prog 14 #[.slice a 0 c, .string sep] w fun e w' => e = .returned (.string ⟨#[]⟩) ∧ w' = w := Any.strings_Join_none Tryd.lays156 Tryd.Builder_Extra_156 a c sep w
open Go.RowKit in
theorem Tryd.strings_Join (bk o c : Nat) (xs : List ByteArray) (sep : ByteArray) (w : World) (hcells : ∀ (j : Nat) x, xs[j]? = some x → w.cell? ⟨bk, o + j, none⟩ = some (.string x)) (hbk : bk < w.heap.size) (hN : xs.length ≤ 140737488355328) (hcap : xs.length ≤ c) (hlen : (Lib.join (xs.map (·.data.toList)) sep.data.toList).length ≤ 140737488355328) :
 Calls Tryd.prog 14 #[.slice (some ⟨bk, o, none⟩) xs.length c, .string sep] w fun e w' => e = .returned (.string ⟨(Lib.join (xs.map (·.data.toList)) sep.data.toList).toArray⟩) ∧ Below w.heap.size w w' := Any.strings_Join Tryd.lays156 Tryd.Builder_Extra_156 bk o c xs sep w hcells hbk hN hcap hlen
def Tryd.lays137_ren : Go.Shelf.Ren := ⟨fun | 137 => 31 | 217 => 54 | 266 => 60 | n => n, fun | 9 => 9 | 5 => 5 | 3 => 3 | n => n, fun | n => n⟩
theorem Tryd.lays137 : Go.Proofs.Lays.n137 Tryd.prog Tryd.lays137_ren := {
 mixed := by kernel_rfl
 f137 := Tryd.func31.trans (congrArg some (by kernel_rfl))
 f217 := Tryd.func54.trans (congrArg some (by kernel_rfl))
 f266 := Tryd.func60.trans (congrArg some (by kernel_rfl))
 t3 := Tryd.underlying3
 a3 := Tryd.isAgg3
 z3 := Tryd.sizeOf3
 v3 := Tryd.zeroValue3
 t5 := Tryd.underlying5
 a5 := Tryd.isAgg5
 z5 := Tryd.sizeOf5
 v5 := Tryd.zeroValue5
 t9 := Tryd.underlying9
 a9 := Tryd.isAgg9
 z9 := Tryd.sizeOf9
 v9 := Tryd.zeroValue9 }
open Go.RowKit in
theorem Tryd.strings_IndexByte (s : ByteArray) (c : Int) (w : World) :
 Calls Tryd.prog 31 #[.string s, .int .u8 c] w fun e w' => e = .returned (.int .i64 (Lib.indexByte s.data.toList c.toNat.toUInt8)) ∧ w' = w := Any.strings_IndexByte Tryd.lays137 s c w
def Tryd.lays143_ren : Go.Shelf.Ren := ⟨fun | 143 => 36 | 219 => 56 | 217 => 54 | 225 => 62 | 224 => 63 | 267 => 64 | 266 => 60 | 314 => 66 | n => n, fun | 9 => 9 | 3 => 3 | 4 => 4 | 5 => 5 | 46 => 100 | 146 => 103 | 51 => 102 | n => n, fun | 1 => 0 | n => n⟩
theorem Tryd.lays143 : Go.Proofs.Lays.n143 Tryd.prog Tryd.lays143_ren := {
 mixed := by kernel_rfl
 f143 := Tryd.func36.trans (congrArg some (by kernel_rfl))
 f217 := Tryd.func54.trans (congrArg some (by kernel_rfl))
 f219 := Tryd.func56.trans (congrArg some (by kernel_rfl))
 f224 := Tryd.func63.trans (congrArg some (by kernel_rfl))
 f225 := Tryd.func62.trans (congrArg some (by kernel_rfl))
 f266 := Tryd.func60.trans (congrArg some (by kernel_rfl))
 f267 := Tryd.func64.trans (congrArg some (by kernel_rfl))
 f314 := Tryd.func66.trans (congrArg some (by kernel_rfl))
 t3 := Tryd.underlying3
 a3 := Tryd.isAgg3
 z3 := Tryd.sizeOf3
 v3 := Tryd.zeroValue3
 t4 := Tryd.underlying4
 a4 := Tryd.isAgg4
 z4 := Tryd.sizeOf4
 v4 := Tryd.zeroValue4
 t5 := Tryd.underlying5
 a5 := Tryd.isAgg5
 z5 := Tryd.sizeOf5
 v5 := Tryd.zeroValue5
 t9 := Tryd.underlying9
 a9 := Tryd.isAgg9
 z9 := Tryd.sizeOf9
 v9 := Tryd.zeroValue9
 t46 := Tryd.underlying100
 a46 := Tryd.isAgg100
 z46 := Tryd.sizeOf100
 v46 := Tryd.zeroValue100
 t51 := Tryd.underlying102
 a51 := Tryd.isAgg102
 z51 := Tryd.sizeOf102
 v51 := Tryd.zeroValue102
 t146 := Tryd.underlying103
 a146 := Tryd.isAgg103
 z146 := Tryd.sizeOf103
 v146 := Tryd.zeroValue103
 g1 := by kernel_rfl }
open Go.RowKit Go.Lib in
theorem Tryd.strings_Index_one (s : ByteArray) (c : UInt8) (w : World) :
 Calls Tryd.prog 36 #[.string s, .string ⟨#[c]⟩] w fun e w' => e = .returned (.int .i64 (Lib.indexByte s.data.toList c)) ∧ w' = w := Any.strings_Index_one Tryd.lays143 s c w
open Go.RowKit Go.Lib in
theorem Tryd.strings_Index (s sub : ByteArray) (m : Int) (w : World) (hs : s.size < 4294967281) (hm : w.cell? ⟨0, 0, none⟩ = some (.int .i64 m)) :
 Calls Tryd.prog 36 #[.string s, .string sub] w fun e w' => e = .returned (.int .i64 (Lib.index s.data.toList sub.data.toList)) ∧ w' = w := Any.strings_Index Tryd.lays143 s sub m w hs hm
def Tryd.lays138_ren : Go.Shelf.Ren := ⟨fun | 138 => 21 | 195 => 34 | 218 => 35 | 143 => 36 | 219 => 56 | 217 => 54 | 225 => 62 | 224 => 63 | 267 => 64 | 266 => 60 | 314 => 66 | n => n, fun | 9 => 9 | 3 => 3 | 4 => 4 | 5 => 5 | 0 => 0 | 46 => 100 | 146 => 103 | 51 => 102 | n => n, fun | 1 => 0 | n => n⟩
theorem Tryd.lays138 : Go.Proofs.Lays.n138 Tryd.prog Tryd.lays138_ren := {
 mixed := by kernel_rfl
 f138 := Tryd.func21.trans (congrArg some (by kernel_rfl))
 f143 := Tryd.func36.trans (congrArg some (by kernel_rfl))
 f195 := Tryd.func34.trans (congrArg some (by kernel_rfl))
 f217 := Tryd.func54.trans (congrArg some (by kernel_rfl))
 f218 := Tryd.func35.trans (congrArg some (by kernel_rfl))
 f219 := Tryd.func56.trans (congrArg some (by kernel_rfl))
 f224 := Tryd.func63.trans (congrArg some (by kernel_rfl))
 f225 := Tryd.func62.trans (congrArg some (by kernel_rfl))
 f266 := Tryd.func60.trans (congrArg some (by kernel_rfl))
 f267 := Tryd.func64.trans (congrArg some (by kernel_rfl))
 f314 := Tryd.func66.trans (congrArg some (by kernel_rfl))
 t0 := Tryd.underlying0
 a0 := Tryd.isAgg0
 z0 := Tryd.sizeOf0
 v0 := Tryd.zeroValue0
 t3 := Tryd.underlying3
 a3 := Tryd.isAgg3
 z3 := Tryd.sizeOf3
 v3 := Tryd.zeroValue3
 t4 := Tryd.underlying4
 a4 := Tryd.isAgg4
 z4 := Tryd.sizeOf4
 v4 := Tryd.zeroValue4
 t5 := Tryd.underlying5
 a5 := Tryd.isAgg5
 z5 := Tryd.sizeOf5
 v5 := Tryd.zeroValue5
 t9 := Tryd.underlying9
 a9 := Tryd.isAgg9
 z9 := Tryd.sizeOf9
 v9 := Tryd.zeroValue9
 t46 := Tryd.underlying100
 a46 := Tryd.isAgg100
 z46 := Tryd.sizeOf100
 v46 := Tryd.zeroValue100
 t51 := Tryd.underlying102
 a51 := Tryd.isAgg102
 z51 := Tryd.sizeOf102
 v51 := Tryd.zeroValue102
 t146 := Tryd.underlying103
 a146 := Tryd.isAgg103
 z146 := Tryd.sizeOf103
 v146 := Tryd.zeroValue103
 g1 := by kernel_rfl }
open Go.RowKit Go.Lib in
theorem Tryd.strings_Count_one (s : ByteArray) (c : UInt8) (w : World) :
 Calls Tryd.prog 21 #[.string s, .string ⟨#[c]⟩] w fun e w' => e = .returned (.int .i64 (Lib.countByte s.data.toList c)) ∧ w' = w := Any.strings_Count_one Tryd.lays138 s c w
open Go.RowKit Go.Lib in
theorem Tryd.strings_Count (s sub : ByteArray) (m : Int) (w : World) (hs : s.size < 4294967281) (hm : w.cell? ⟨0, 0, none⟩ = some (.int .i64 m)) (h2 : 2 ≤ sub.size) :
 Calls Tryd.prog 21 #[.string s, .string sub] w fun e w' => e = .returned (.int .i64 (Lib.countB s sub)) ∧ w' = w := Any.strings_Count Tryd.lays138 s sub m w hs hm h2
end Go.Proofs

-- YtadhpgecilhgnaaDoorSb
set_option linter.unusedVariables false
set_option linter.unusedSimpArgs false
namespace Go.Proofs.YtadhpgecilhgnaaDoor.A
open Go Go.Proofs Go.Shelf Go.RowKit Go.Lib
section
variable {P : Program} {ρ : Ren} {w : World}

theorem append_step {ops : Array Oper} {rest : List Oper} {o : Oper} {a : Act} {Q : Exit → Act → World → Prop} (hgd : o.guard = none) {s x : Operand} {t u : TypeId}
 (ho : o.op = .call { callee := .builtin .append, args := #[s, x], argTypes := #[t, u] }) {v' : Value} {w' : World} (hr : (Builtin.append_ #[t, u] o.type #[a.eval s, a.eval x]).run P w = .ok v' w')
 (h : wpList P ops Q rest (a.put o.dst v') w') : wpList P ops Q (o :: rest) a w :=
 wpList_plain hgd fun _ hK => by
  unfold Oper.wp execOp
  simp only [ho, resolve, invoke, builtin, Sem.run_bind, Sem.run_pure, Result.andThen_ok, List.map_toArray, List.map_cons, List.map_nil, hr]
  exact hK _ _ h
structure SbStep (b : Nat) (v v' : Value) (w w' : World) : Prop where
 os : w'.os = w.os
 tape : w'.tape = w.tape
 output : w'.output = w.output
 size : w.heap.size ≤ w'.heap.size
 block : ∀ k, k < w.heap.size → k ≠ b → k ∉ rowB v → w'.heap[k]? = w.heap[k]?
 own : ∀ g ∈ rowB v', g ∈ rowB v ∨ (w.heap.size ≤ g ∧ g < w'.heap.size)
theorem grown_row {et : TypeId} {z : Value} {xs news : List Value} {c : Nat} (hge : xs.length + news.length ≤ c) (hc : c ≤ maxLen) (hzz : z.cells.size = 1) :
 (w.drew.alloc (.cells (xs.toArray ++ news.toArray ++ Builtin.zeroCells z.cells (c - (xs.length + news.length))) et)).ownsRow 0 et 1 (.slice (some ⟨w.heap.size, 0, none⟩) (xs.length + news.length) c) (xs ++ news).length (xs ++ news) := by
 refine ⟨by simp, .inr ⟨w.heap.size, c, _, by rw [List.length_append], Nat.zero_le _, alloc_new (w := w.drew), by rw [List.length_append]; exact hge, hc, ?_, ?_⟩⟩
 ·simp only [Array.size_append, List.size_toArray, size_zeroCells, hzz]
  omega
 ·simp only [Array.toList_append, Nat.mul_one]
  rw [List.take_append_of_le_length (by simp)]
  exact List.take_of_length_le (by simp)
theorem run_own (t u : TypeId) (ty : TypeId) {et : TypeId} {inf : TypeInfo} {z : Value} (A : AppTy P #[t, u] et inf z) (hs : inf.size = 1) (hb : inf.bytes = 1) (hzz : z.cells.size = 1) {v y : Value} {xs news : List Value}
 (hx : (Builtin.lenOf y).run P w = .ok news.length w) (hf : ∀ w' : World, w'.heap = w.heap → (Builtin.firstCells inf.size news.length y).run P w' = .ok news.toArray w') (h1 : ∀ u ∈ news, u.oneCell' = true)
 (hown : w.ownsRow 0 et 1 v xs.length xs) (hlen : xs.length + news.length ≤ 1099511627776) :
 ∃ v' w', (Builtin.append_ #[t, u] ty #[v, y]).run P w = .ok v' w' ∧ w'.ownsRow 0 et 1 v' (xs ++ news).length (xs ++ news) ∧ w'.os = w.os ∧ w'.tape = w.tape ∧ w'.output = w.output ∧ w.heap.size ≤ w'.heap.size ∧
  (∀ k, k < w.heap.size → k ∉ rowB v → w'.heap[k]? = w.heap[k]?) ∧ (∀ g ∈ rowB v', g ∈ rowB v ∨ (w.heap.size ≤ g ∧ g < w'.heap.size)) ∧ ∃ ao n' cap, v' = .slice ao n' cap := by
 have hml : ∀ old, grownCap w (xs.length + news.length) old et ≤ maxLen := fun old => grownCap_le_maxLen w _ _ _ (by unfold maxLen; omega)
 obtain ⟨_, hown⟩ := hown
 rcases hown with ⟨hv, h0⟩ | ⟨g, cap, cur, hv, _, hg, h2, h3, h4, h5⟩
 ·have hxs : xs = [] := List.eq_nil_of_length_eq_zero h0
  subst hxs; subst hv
  by_cases hroom : news.length = 0
  ·have hr := append_room (P := P) (w := w) (ty := ty) A (ad := none) (len := 0) (cap := 0) hx hf (by omega)
   have : news = [] := List.eq_nil_of_length_eq_zero hroom
   subst this
   exact ⟨_, _, hr, ⟨rfl, .inl ⟨rfl, rfl⟩⟩, rfl, rfl, rfl, Nat.le_refl _, fun _ _ _ => rfl, by simp [rowB, Value.ownBlock], _, _, _, rfl⟩
  ·have hfit : Builtin.nextslicecap (0 + news.length) 0 * inf.bytes ≤ 281474976710656 := growslice_fits (by omega) (by rw [hb]; simp at hlen; omega)
   have hr := append_grow (P := P) (w := w) (ty := ty) A (ad := none) (len := 0) (cap := 0) (olds := []) hx (fun w' hw => by rw [hs]; exact run_firstCells_none w' _ _ _ _) hf (by omega) (by simp at hlen; omega) hfit
   have hge := grownCap_ge w (0 + news.length) 0 et
   refine ⟨_, _, hr, grown_row (xs := []) hge (hml 0) hzz, rfl, rfl, rfl, by rw [World.size_alloc]; exact Nat.le_succ _, fun k hk _ => Go.Lib.alloc_old w.drew _ k hk, fun g hg => ?_, _, _, _, rfl⟩
   simp only [rowB, Value.ownBlock, List.mem_cons, List.not_mem_nil, or_false] at hg
   rw [hg, World.size_alloc]
   exact .inr ⟨Nat.le_refl _, Nat.lt_succ_self _⟩
 ·subst hv
  have hcell : ∀ (j : Nat) (u : Value), xs[j]? = some u → w.cell? ((⟨g, 0, none⟩ : Addr).add j) = some u := fun j u hu => by
   have hj := (List.getElem?_eq_some_iff.1 hu).1
   rw [← h5, List.getElem?_take, if_pos (by omega)] at hu
   rw [aad]
   simp only [World.cell?, hg]
   simpa using hu
  by_cases hroom : xs.length + news.length ≤ cap
  ·have hr := append_room (P := P) (w := w) (ty := ty) A (ad := some ⟨g, 0, none⟩) (len := xs.length) (cap := cap) hx hf hroom
   have hst := run_storeCells_at P g xs.length et news 0 cur w hg (by omega) h1
   simp only [Nat.add_zero] at hst
   simp only [hs, Nat.mul_one, aad, Nat.zero_add] at hr
   rw [hst] at hr
   simp only [Result.andThen_ok] at hr
   refine ⟨_, _, hr, ⟨by simp, .inr ⟨g, cap, _, by rw [List.length_append], Nat.zero_le _, setRow_heap w g _ _ _ _ hg, by rw [List.length_append]; exact hroom, h3, ?_, ?_⟩⟩, rfl, rfl, rfl, by simp, fun k hk hkr => setRow_other w g k _ fun e => hkr (by simp [rowB, Value.ownBlock, e]), fun g' hg' => .inl hg', _, _, _, rfl⟩
   ·simp only [List.size_toArray, List.length_append, List.length_take, List.length_drop, Array.length_toList]
    omega
   ·rw [Nat.mul_one] at h5
    simp only [Nat.mul_one, h5]
    exact List.take_left
  ·have hfit : Builtin.nextslicecap (xs.length + news.length) cap * inf.bytes ≤ 281474976710656 := growslice_fits (by omega) (by rw [hb]; omega)
   have hr := append_grow (P := P) (w := w) (ty := ty) A (ad := some ⟨g, 0, none⟩) (len := xs.length) (cap := cap) (olds := xs) hx (fun w' hw => by
    rw [hs]
    refine run_firstCells_some w' _ _ _ _ _ xs (by simp) fun j v hv => ?_
    have := hcell j v hv
    rw [aad] at this ⊢
    rw [cell_of_block (w := w) (w' := w') (by rw [hw])]
    simpa using this) hf (by omega) (by omega) hfit
   have hge := grownCap_ge w (xs.length + news.length) cap et
   refine ⟨_, _, hr, grown_row hge (hml cap) hzz, rfl, rfl, rfl, by rw [World.size_alloc]; exact Nat.le_succ _, fun k hk _ => Go.Lib.alloc_old w.drew _ k hk, fun g hg => ?_, _, _, _, rfl⟩
   simp only [rowB, Value.ownBlock, List.mem_cons, List.not_mem_nil, or_false] at hg
   rw [hg, World.size_alloc]
   exact .inr ⟨Nat.le_refl _, Nat.lt_succ_self _⟩
theorem sb_lt {tb eb b : Nat} {p v : Value} {bs : List Value} (h : SbAt tb eb b p v bs w) : b < w.heap.size := by
 rcases Nat.lt_or_ge b w.heap.size with h' | h'
 ·exact h'
 ·have := h.1; rw [Array.getElem?_eq_none h'] at this; cases this
theorem own_ne {tb eb b : Nat} {p v v' : Value} {n : Nat} {bs : List Value} (hb : w.heap[b]? = some (.cells #[p, v] tb (0, 0))) (ho : w.ownsRow 0 eb 1 v' n bs) (hne : tb ≠ eb) : v'.ownBlock ≠ some b := Lib.ownBlock_ne ho hb hne
theorem copyCheck (L : Lays.n240 P ρ) (X : Builder.X72 P ρ) {eb b : Nat} {p v : Value} {bs : List Value} (h : SbAt (ρ.t 72) eb b p v bs w) :
 Calls P (ρ.f 240) #[.pointer (some ⟨b, 0, none⟩)] w fun e w' => e = .returned (.tuple #[]) ∧ SbAt (ρ.t 72) eb b (.pointer (some ⟨b, 0, none⟩)) v bs w' ∧ SbStep b v v w w' := by
 obtain ⟨h1, h2, h3, h4⟩ := h
 have hc : w.cell? ⟨b, 0, none⟩ = some p := by rw [Lib.cell_of_heap h1]; rfl
 rcases h2 with rfl | rfl
 ·refine (Any.Builder_copyCheck_fresh L X b w hc (by simp [World.shape?, h1]) (Lib.frozen_of_heap h1 0)).mono ?_
  rintro e w' ⟨rfl, rfl⟩
  have hk : ∀ k, k ≠ b → (w.setCell ⟨b, 0, none⟩ (.pointer (some ⟨b, 0, none⟩))).heap[k]? = w.heap[k]? := fun k hk => Below.heap_setCell _ _ _ _ hk
  refine ⟨rfl, ⟨by simp [World.setCell, Array.getElem?_modify, h1], .inr rfl, ?_, h4⟩, ⟨rfl, rfl, rfl, by simp [World.setCell], fun k _ hkb _ => hk k hkb, fun g hg => .inl hg⟩⟩
  exact h3.kept (row := some b) ⟨rfl, rfl, rfl, by simp [World.setCell], fun k _ hkb => hk k (fun e => hkb (by simp [e]))⟩ (Or.inr h4)
 ·refine (Any.Builder_copyCheck_used L X b w hc).mono ?_
  rintro e w' ⟨rfl, rfl⟩
  exact ⟨rfl, ⟨h1, .inr rfl, h3, h4⟩, ⟨rfl, rfl, rfl, Nat.le_refl _, fun _ _ _ _ => rfl, fun g hg => .inl hg⟩⟩
theorem SbStep.trans {b : Nat} {v1 v2 v3 : Value} {w1 w2 w3 : World} (h : SbStep b v1 v2 w1 w2) (k : SbStep b v2 v3 w2 w3) : SbStep b v1 v3 w1 w3 := by
 refine ⟨k.os.trans h.os, k.tape.trans h.tape, k.output.trans h.output, Nat.le_trans h.size k.size, fun i hi hb hr => ?_, fun g hg => ?_⟩
 ·rw [k.block i (Nat.lt_of_lt_of_le hi h.size) hb fun h2 => ?_]
  ·exact h.block i hi hb hr
  ·rcases h.own i h2 with h3 | h3
   ·exact hr h3
   ·omega
 ·rcases k.own g hg with h2 | h2
  ·exact (h.own g h2).imp id fun h3 => ⟨h3.1, Nat.lt_of_lt_of_le h3.2 k.size⟩
  ·have := h.size
   exact .inr ⟨by omega, h2.2⟩
theorem sb_alloc {tb eb b : Nat} {p v : Value} {bs : List Value} (h : SbAt tb eb b p v bs w) (ob : Go.Obj) : SbAt tb eb b p v bs (w.alloc ob) ∧ SbStep b v v w (w.alloc ob) :=
 ⟨⟨(Go.Lib.alloc_old w ob b (sb_lt h)).trans h.1, h.2.1, h.2.2.1.alloc _, h.2.2.2⟩, ⟨rfl, rfl, rfl, by rw [World.size_alloc]; exact Nat.le_succ _, fun k hk _ _ => Go.Lib.alloc_old w ob k hk, fun g hg => .inl hg⟩⟩
theorem sb_put {tb eb b : Nat} {v v' : Value} {bs bs' : List Value} {w1 w2 : World} (h : SbAt tb eb b (.pointer (some ⟨b, 0, none⟩)) v bs w1) (hne : tb ≠ eb) (ho : w2.ownsRow 0 eb 1 v' bs'.length bs') (hos : w2.os = w1.os ∧ w2.tape = w1.tape ∧ w2.output = w1.output) (hsz : w1.heap.size ≤ w2.heap.size)
 (hk : ∀ k, k < w1.heap.size → k ∉ rowB v → w2.heap[k]? = w1.heap[k]?) (hr : ∀ g ∈ rowB v', g ∈ rowB v ∨ (w1.heap.size ≤ g ∧ g < w2.heap.size)) :
 SbAt tb eb b (.pointer (some ⟨b, 0, none⟩)) v' bs' (w2.setCell ⟨b, 1, none⟩ v') ∧ SbStep b v v' w1 (w2.setCell ⟨b, 1, none⟩ v') ∧ w2.heap[b]? = some (.cells #[.pointer (some ⟨b, 0, none⟩), v] tb (0, 0)) := by
 have hlt := sb_lt h
 obtain ⟨h1, h2, h3, h4⟩ := h
 have hb2 : w2.heap[b]? = some (.cells #[.pointer (some ⟨b, 0, none⟩), v] tb (0, 0)) := by
  rw [hk b hlt fun hm => h4 ?_]
  ·exact h1
  ·unfold rowB at hm
   split at hm
   ·rename_i g hg
    rw [hg]; simp at hm; rw [hm]
   ·cases hm
 have hne' := own_ne hb2 ho hne
 have hs : ∀ k, k ≠ b → (w2.setCell ⟨b, 1, none⟩ v').heap[k]? = w2.heap[k]? := fun k hk => Below.heap_setCell _ _ _ _ hk
 have hsz2 : (w2.setCell ⟨b, 1, none⟩ v').heap.size = w2.heap.size := by simp [World.setCell]
 refine ⟨⟨by simp [World.setCell, Array.getElem?_modify, hb2], .inr rfl, ?_, hne'⟩, ⟨hos.1, hos.2.1, hos.2.2, by rw [hsz2]; exact hsz, fun k hk1 hkb hkr => by rw [hs k hkb]; exact hk k hk1 hkr, fun g hg => by rw [hsz2]; exact hr g hg⟩, hb2⟩
 exact ho.kept (row := some b) ⟨rfl, rfl, rfl, by simp [World.setCell], fun k _ hkb => hs k (fun e => hkb (by simp [e]))⟩ (Or.inr hne')

set_option maxHeartbeats 2000000 in
set_option maxRecDepth 100000 in
theorem writeByte (L : Lays.n167 P ρ) (X : Builder.Extra P ρ) {b : Nat} {p v : Value} {bs : List Value} {c : Int} (h : SbAt (ρ.t 72) (ρ.t 5) b p v bs w) (hlen : bs.length + 1 ≤ 1099511627776) :
 Calls P (ρ.f 167) #[.pointer (some ⟨b, 0, none⟩), .int .u8 c] w fun e w' => e = .returned .nilIface ∧ ∃ v', SbAt (ρ.t 72) (ρ.t 5) b (.pointer (some ⟨b, 0, none⟩)) v' (bs ++ [.int .u8 c]) w' ∧ SbStep b v v' w w' := by
 obtain ⟨i0, hi, hz0, hz1, hz2⟩ := info_parts X.infoByte
 have mixed := L.mixed
 have t72 := L.t72; have a72 := L.a72; have z72 := L.z72; have v72 := L.v72; have u72 := run_underlying L.t72
 have t70 := L.t70; have a70 := L.a70; have z70 := L.z70; have v70 := L.v70; have u70 := run_underlying L.t70
 have t5 := L.t5; have a5 := L.a5; have z5 := L.z5; have v5 := L.v5; have u5 := run_underlying L.t5
 have t37 := L.t37; have a37 := L.a37; have z37 := L.z37; have v37 := L.v37; have u37 := run_underlying L.t37
 have t9 := L.t9; have a9 := L.a9; have z9 := L.z9; have v9 := L.v9; have u9 := run_underlying L.t9
 have t4 := L.t4; have a4 := L.a4; have z4 := L.z4; have v4 := L.v4; have u4 := run_underlying L.t4
 have t164 := L.t164; have a164 := L.a164; have z164 := L.z164; have v164 := L.v164; have u164 := run_underlying L.t164
 have e240 : ∀ args w, (callFunc (ρ.f 240) args).run P w = .ok (.enter (ρ.f 240) args) w := enters_of L.f240 (by kernel_rfl) rfl
 have A : AppTy P #[ρ.t 37, ρ.t 37] (ρ.t 5) i0 (.int .u8 0) := ⟨⟨_, rfl, L.t37⟩, ⟨_, _, rfl, L.t37, fun _ h => by cases h⟩, hi, hz0⟩
 go_enter L.f167, Body.n167_ntmps ρ
 go_wp2_with (go_at_fn (ρ.f 240); refine (copyCheck { L with } X.toX72 h).mono ?_)
 rintro e w1 ⟨rfl, h1, st1⟩
 have c0 : w1.cell? ⟨b, 0, none⟩ = some (.pointer (some ⟨b, 0, none⟩)) := by rw [Lib.cell_of_heap h1.1]; rfl
 have c1 : w1.cell? ⟨b, 1, none⟩ = some v := by rw [Lib.cell_of_heap h1.1]; rfl
 have hlt := sb_lt h1
 obtain ⟨h2, st2⟩ := sb_alloc h1 (.cells #[.int .u8 c] (ρ.t 5))
 obtain ⟨v', w2, hr, ho, o1, o2, o3, o4, o5, o6, ao, n', cap', rfl⟩ := run_own (w := w1.alloc (.cells #[.int .u8 c] (ρ.t 5))) (ρ.t 37) (ρ.t 37) (ρ.t 37) A hz1 hz2 rfl (v := v) (y := .slice (some ⟨w1.heap.size, 0, none⟩) 1 1) (xs := bs) (news := [.int .u8 c]) rfl (fun w' hw => by
  rw [hz1]
  refine run_firstCells_some w' _ _ _ _ _ [.int .u8 c] rfl fun j u hu => ?_
  match j, hu with
  | 0, hu =>
   simp at hu; subst hu
   rw [aad, cell_of_block (w := w1.alloc (.cells #[.int .u8 c] (ρ.t 5))) (by rw [hw])]
   have hn : (w1.alloc (.cells #[.int .u8 c] (ρ.t 5))).heap[w1.heap.size]? = some (.cells #[.int .u8 c] (ρ.t 5) (0, 0)) := alloc_new (w := w1)
   rw [Lib.cell_of_heap hn]
   rfl) (by simp [Value.oneCell']) h2.2.2.1 (by simpa using hlen)
 obtain ⟨h3, st3, hb2⟩ := sb_put h2 X.neB5 ho ⟨o1, o2, o3⟩ o4 o5 o6
 have d0 : w2.cell? ⟨b, 0, none⟩ = some (.pointer (some ⟨b, 0, none⟩)) := by rw [Lib.cell_of_heap hb2]; rfl
 have d1 : w2.cell? ⟨b, 1, none⟩ = some v := by rw [Lib.cell_of_heap hb2]; rfl
 have f1 : w2.frozen? ⟨b, 1, none⟩ = false := Lib.frozen_of_heap hb2 1
 go_wp2_with (at_builtin; refine append_step rfl rfl hr ?_)
 go_wp2
 go_ret
 exact ⟨rfl, _, h3, (st1.trans st2).trans st3⟩

set_option maxHeartbeats 2000000 in
set_option maxRecDepth 100000 in
theorem writeString (L : Lays.n166 P ρ) (X : Builder.Extra P ρ) {b : Nat} {p v : Value} {bs : List Value} {s : ByteArray} (h : SbAt (ρ.t 72) (ρ.t 5) b p v bs w) (hlen : bs.length + s.size ≤ 1099511627776) :
 Calls P (ρ.f 166) #[.pointer (some ⟨b, 0, none⟩), .string s] w fun e w' => e = .returned (.tuple #[.int .i64 s.size, .nilIface]) ∧ ∃ v', SbAt (ρ.t 72) (ρ.t 5) b (.pointer (some ⟨b, 0, none⟩)) v' (bs ++ strCells s) w' ∧ SbStep b v v' w w' := by
 obtain ⟨i0, hi, hz0, hz1, hz2⟩ := info_parts X.infoByte
 have mixed := L.mixed
 have t72 := L.t72; have a72 := L.a72; have z72 := L.z72; have v72 := L.v72; have u72 := run_underlying L.t72
 have t70 := L.t70; have a70 := L.a70; have z70 := L.z70; have v70 := L.v70; have u70 := run_underlying L.t70
 have t37 := L.t37; have a37 := L.a37; have z37 := L.z37; have v37 := L.v37; have u37 := run_underlying L.t37
 have t3 := L.t3; have a3 := L.a3; have z3 := L.z3; have v3 := L.v3; have u3 := run_underlying L.t3
 have t9 := L.t9; have a9 := L.a9; have z9 := L.z9; have v9 := L.v9; have u9 := run_underlying L.t9
 have t4 := L.t4; have a4 := L.a4; have z4 := L.z4; have v4 := L.v4; have u4 := run_underlying L.t4
 have t164 := L.t164; have a164 := L.a164; have z164 := L.z164; have v164 := L.v164; have u164 := run_underlying L.t164
 have t5 := X.t5; have a5 := X.a5; have z5 := X.z5; have v5 := X.v5; have u5 := run_underlying X.t5
 have e240 : ∀ args w, (callFunc (ρ.f 240) args).run P w = .ok (.enter (ρ.f 240) args) w := enters_of L.f240 (by kernel_rfl) rfl
 have A : AppTy P #[ρ.t 37, ρ.t 9] (ρ.t 5) i0 (.int .u8 0) := ⟨⟨_, rfl, L.t37⟩, ⟨_, _, rfl, L.t9, fun _ h => by cases h⟩, hi, hz0⟩
 go_enter L.f166, Body.n166_ntmps ρ
 go_wp2_with (go_at_fn (ρ.f 240); refine (copyCheck { L with } X.toX72 h).mono ?_)
 rintro e w1 ⟨rfl, h1, st1⟩
 have c0 : w1.cell? ⟨b, 0, none⟩ = some (.pointer (some ⟨b, 0, none⟩)) := by rw [Lib.cell_of_heap h1.1]; rfl
 have c1 : w1.cell? ⟨b, 1, none⟩ = some v := by rw [Lib.cell_of_heap h1.1]; rfl
 obtain ⟨v', w2, hr, ho, o1, o2, o3, o4, o5, o6, ao, n', cap', rfl⟩ := run_own (w := w1) (ρ.t 37) (ρ.t 9) (ρ.t 37) A hz1 hz2 rfl (v := v) (y := .string s) (xs := bs) (news := strCells s) (by rw [strCells_length]; rfl) (fun w' hw => by rw [strCells_length]; exact run_firstCells_string w' _ s) (strCells_oneCell s) h1.2.2.1 (by rw [strCells_length]; exact hlen)
 obtain ⟨h3, st3, hb2⟩ := sb_put h1 X.neB5 ho ⟨o1, o2, o3⟩ o4 o5 o6
 have d0 : w2.cell? ⟨b, 0, none⟩ = some (.pointer (some ⟨b, 0, none⟩)) := by rw [Lib.cell_of_heap hb2]; rfl
 have d1 : w2.cell? ⟨b, 1, none⟩ = some v := by rw [Lib.cell_of_heap hb2]; rfl
 have f1 : w2.frozen? ⟨b, 1, none⟩ = false := Lib.frozen_of_heap hb2 1
 go_wp2_with (at_builtin; refine append_step rfl rfl hr ?_)
 go_wp2
 go_ret2
 exact ⟨rfl, _, h3, st1.trans st3⟩
theorem sb_is {tb eb b : Nat} {p v : Value} {bs : List Value} (h : SbAt tb eb b p v bs w) : Lib.IsBuilder tb eb 0 b bs w := by
 obtain ⟨h1, h2, h3, h4⟩ := h
 rcases h2 with rfl | rfl
 ·exact .inl ⟨Nat.zero_le _, v, h1, h3, h4⟩
 ·exact .inr ⟨Nat.zero_le _, v, h1, h3, h4⟩
theorem sbLen (L : Lays.n170 P ρ) {b : Nat} {p v : Value} {bs : List Value} (h : SbAt (ρ.t 72) (ρ.t 5) b p v bs w) :
 Calls P (ρ.f 170) #[.pointer (some ⟨b, 0, none⟩)] w fun e w' => e = .returned (.int .i64 bs.length) ∧ w' = w := Any.Builder_Len L 0 b bs w (sb_is h)
set_option maxHeartbeats 1000000 in
set_option maxRecDepth 100000 in
theorem sbString (L : Lays.n169 P ρ) (X : Builder.Extra P ρ) {b : Nat} {p v : Value} {l : List UInt8} (h : SbAt (ρ.t 72) (ρ.t 5) b p v (Lib.byteCells l) w) (h0 : l ≠ []) :
 Calls P (ρ.f 169) #[.pointer (some ⟨b, 0, none⟩)] w fun e w' => e = .returned (.string ⟨l.toArray⟩) ∧ SbStep b v v w w' := by
 obtain ⟨hbk, hp, hown, hne⟩ := h
 have hl0 : l.length ≠ 0 := by simpa using h0
 rw [Lib.byteCells_length] at hown
 obtain ⟨g, cap, cur, rfl, hbg, hg, hnc, hcm, hcs, htake⟩ : ∃ g cap cur, v = .slice (some ⟨g, 0, none⟩) l.length cap ∧ 0 ≤ g ∧ w.heap[g]? = some (.cells cur (ρ.t 5) (0, 0)) ∧ l.length ≤ cap ∧ cap ≤ maxLen ∧ cur.size = cap * 1 ∧ cur.toList.take (l.length * 1) = Lib.byteCells l := by
  rcases hown.2 with ⟨_, hz⟩ | ⟨g, cap, cur, hv, r⟩
  ·exact absurd hz hl0
  ·exact ⟨g, cap, cur, hv, r⟩
 have c1 : w.drew.cell? ⟨b, 1, none⟩ = some (.slice (some ⟨g, 0, none⟩) l.length cap) := by
  have : w.drew.heap[b]? = some (.cells #[p, .slice (some ⟨g, 0, none⟩) l.length cap] (ρ.t 72) (0, 0)) := hbk
  rw [Lib.cell_of_heap this]; rfl
 have hSD : (Builtin.unsafeSliceData_ #[(ρ.t 37)] (ρ.t 127) #[.slice (some ⟨g, 0, none⟩) l.length cap]).run P w.drew = .ok (.pointer (some ⟨g, 0, none⟩)) w.drew :=
  Lib.run_unsafeSliceData_row _ _ _ _ _ _ (by omega)
 have hUS : (Builtin.unsafeString_ #[(ρ.t 127), (ρ.t 3)] (ρ.t 9) #[.pointer (some ⟨g, 0, none⟩), .int .i64 l.length]).run P w.drew = .ok (.string ⟨l.toArray⟩) (w.drew.freeze ⟨g, 0, none⟩ l.length) := by
  refine Lib.run_unsafeString_row w.drew (ρ.t 127) (ρ.t 3) (ρ.t 9) (ρ.t 5) L.t127 X.cellsByte g cur.size (by have hg' : w.drew.heap[g]? = some (.cells cur (ρ.t 5) (0, 0)) := hg; simp [World.shape?, hg']) l h0 (by omega) (by unfold maxLen at hcm; omega) ?_
  intro j x hx
  have := hown.cells (g := g) rfl j (.int .u8 x.toNat) (by simp [Lib.byteCells, hx])
  exact this
 have mixed := L.mixed
 have t72 := L.t72; have a72 := L.a72; have z72 := L.z72; have v72 := L.v72; have u72 := run_underlying L.t72
 have t70 := L.t70; have a70 := L.a70; have z70 := L.z70; have v70 := L.v70; have u70 := run_underlying L.t70
 have t37 := L.t37; have a37 := L.a37; have z37 := L.z37; have v37 := L.v37; have u37 := run_underlying L.t37
 have t127 := L.t127; have a127 := L.a127; have z127 := L.z127; have v127 := L.v127; have u127 := run_underlying L.t127
 have t3 := L.t3; have a3 := L.a3; have z3 := L.z3; have v3 := L.v3; have u3 := run_underlying L.t3
 have t9 := L.t9; have a9 := L.a9; have z9 := L.z9; have v9 := L.v9; have u9 := run_underlying L.t9
 have t5 := X.t5; have a5 := X.a5; have z5 := X.z5; have v5 := X.v5; have u5 := run_underlying X.t5
 have hst : SbStep b (.slice (some ⟨g, 0, none⟩) l.length cap) (.slice (some ⟨g, 0, none⟩) l.length cap) w (w.drew.freeze ⟨g, 0, none⟩ l.length) := by
  unfold World.freeze
  split
  ·exact ⟨rfl, rfl, rfl, Nat.le_refl _, fun _ _ _ _ => rfl, fun g hg => .inl hg⟩
  ·refine ⟨rfl, rfl, rfl, by simp, fun k hk hkb hkr => ?_, fun g hg => .inl hg⟩
   simp only [Array.getElem?_modify]
   rw [if_neg (fun e => hkr (by simp [rowB, Value.ownBlock, ← e]))]
   rfl
 go_enter L.f169, Body.n169_ntmps ρ
 go_wp2
 go_region_o
 all_goals (go_wp2; go_ret; exact ⟨rfl, hst⟩)
end
end Go.Proofs.YtadhpgecilhgnaaDoor.A

-- YtadhpgecilhgnaaDoorSg
set_option linter.unusedVariables false
set_option linter.unusedSimpArgs false
namespace Go.Proofs.YtadhpgecilhgnaaDoor.A
open Go Go.Proofs Go.Shelf
def sbWriteString (tb eb : Nat) : SbRule := { tb := tb, eb := eb, fst := true, ins := [(false, .str)], res := .junk, f := fun x xs => if x.length + xs.1.length ≤ 1099511627776 then some (x ++ xs.1) else none }
def sbWriteByte (tb eb : Nat) : SbRule := { tb := tb, eb := eb, fst := true, ins := [(false, .int .u8)], res := .junk, f := fun x xs => if x.length + 1 ≤ 1099511627776 ∧ 0 ≤ xs.1 ∧ xs.1 < 256 then some (x ++ [UInt8.ofNat xs.1.toNat]) else none }
def sbLenR (tb eb : Nat) : SbRule := { tb := tb, eb := eb, fst := true, ins := [], res := .len, f := fun x _ => if x.length ≤ 1099511627776 then some x else none }
def sbStringR (tb eb : Nat) : SbRule := { tb := tb, eb := eb, fst := true, ins := [], res := .str, f := fun x _ => if x ≠ [] ∧ x.length ≤ 1099511627776 then some x else none }
section
variable {P : Program} {ρ : Ren} {w w' : World}
theorem SbStep.kept {b : Nat} {v v' : Value} (h : SbStep b v v' w w') : Kept (b :: rowB v) w w' :=
 ⟨h.os, h.tape, h.output, h.size, fun k hk hF => h.block k hk (fun e => hF (by simp [e])) (fun e => hF (by simp [e]))⟩
theorem args_str {fr : Nat → List Value × List Value} {Z : Nat → Prop} {xs : (([(false, Ty.str)] : List (Bool × Ty)).foldr (fun p t => Ty.pair p.2 t) .unit).den} {vs : List Value} (h : ArgsRep fr Z w [(false, .str)] xs vs []) : vs = [.string ⟨⟨xs.1⟩⟩] := by
 obtain ⟨v0, vs0, F0, G0, rfl, h2, ⟨c0, i0, q0⟩, rfl, rfl⟩ := h
 have i0 : c0 = [v0] := i0
 subst i0
 obtain ⟨q0, _, _⟩ := q0
 simp only [List.cons.injEq, and_true] at q0
 rw [q0]
theorem args_u8 {fr : Nat → List Value × List Value} {Z : Nat → Prop} {xs : (([(false, Ty.int .u8)] : List (Bool × Ty)).foldr (fun p t => Ty.pair p.2 t) .unit).den} {vs : List Value} (h : ArgsRep fr Z w [(false, .int .u8)] xs vs []) : vs = [.int .u8 xs.1] := by
 obtain ⟨v0, vs0, F0, G0, rfl, h2, ⟨c0, i0, q0⟩, rfl, rfl⟩ := h
 have i0 : c0 = [v0] := i0
 subst i0
 obtain ⟨q0, _, _⟩ := q0
 simp only [List.cons.injEq, and_true] at q0
 rw [q0]
theorem bytesC_append (a b : List UInt8) : bytesC (a ++ b) = bytesC a ++ bytesC b := by simp [bytesC]
theorem writeString_sb (L : Lays.n166 P ρ) (X : Builder.Extra P ρ) : SbOk P (ρ.f 166) (sbWriteString (ρ.t 72) (ρ.t 5)) := by
 intro fr Z w x (xs : (([(false, Ty.str)] : List (Bool × Ty)).foldr (fun p t => Ty.pair p.2 t) .unit).den) b p v vs y hZ (hsb : SbAt (ρ.t 72) (ρ.t 5) b p v (bytesC x) w) hF (hA : ArgsRep fr Z w [(false, .str)] xs vs []) hr
 have hr : (if x.length + xs.1.length ≤ 1099511627776 then some (x ++ xs.1) else none) = some y := hr
 split at hr
 ·rename_i hl
  cases hr
  have hvs := args_str hA
  subst hvs
  show Calls P (ρ.f 166) #[.pointer (some ⟨b, 0, none⟩), .string ⟨⟨xs.1⟩⟩] w _
  refine (writeString (s := ⟨⟨xs.1⟩⟩) L X hsb (by simp only [bytesC, List.length_map]; exact hl)).mono ?_
  rintro e w' ⟨rfl, v', h1, h2⟩
  refine ⟨_, rfl, fun _ _ => trivial, h2.kept, fun _ => ?_⟩
  rw [bytesC_append]
  exact ⟨_, v', h1, h2.own⟩
 ·cases hr
theorem bytesC_one {n : Int} (h0 : 0 ≤ n) (h1 : n < 256) : bytesC [UInt8.ofNat n.toNat] = [.int .u8 n] := by
 simp only [bytesC, List.map_cons, List.map_nil, List.cons.injEq, and_true, Value.int.injEq, true_and]
 have h2 : n.toNat < 256 := by omega
 rw [UInt8.toNat_ofNat_of_lt' h2]
 omega
theorem writeByte_sb (L : Lays.n167 P ρ) (X : Builder.Extra P ρ) : SbOk P (ρ.f 167) (sbWriteByte (ρ.t 72) (ρ.t 5)) := by
 intro fr Z w x (xs : (([(false, Ty.int .u8)] : List (Bool × Ty)).foldr (fun p t => Ty.pair p.2 t) .unit).den) b p v vs y hZ (hsb : SbAt (ρ.t 72) (ρ.t 5) b p v (bytesC x) w) hF (hA : ArgsRep fr Z w [(false, .int .u8)] xs vs []) hr
 have hr : (if x.length + 1 ≤ 1099511627776 ∧ 0 ≤ xs.1 ∧ xs.1 < 256 then some (x ++ [UInt8.ofNat xs.1.toNat]) else none) = some y := hr
 split at hr
 ·rename_i hl
  obtain ⟨hl, h0, h1⟩ := hl
  cases hr
  have hvs := args_u8 hA
  subst hvs
  show Calls P (ρ.f 167) #[.pointer (some ⟨b, 0, none⟩), .int .u8 xs.1] w _
  refine (writeByte L X hsb (by simpa [bytesC] using hl)).mono ?_
  rintro e w' ⟨rfl, v', k1, k2⟩
  refine ⟨_, rfl, fun _ _ => trivial, k2.kept, fun _ => ?_⟩
  rw [bytesC_append]
  have this := bytesC_one h0 h1
  rw [this]
  exact ⟨_, v', k1, k2.own⟩
 ·cases hr
theorem len_sb (L : Lays.n170 P ρ) : SbOk P (ρ.f 170) (sbLenR (ρ.t 72) (ρ.t 5)) := by
 intro fr Z w x xs b p v vs y hZ (hsb : SbAt (ρ.t 72) (ρ.t 5) b p v (bytesC x) w) hF (hA : ArgsRep fr Z w [] xs vs []) hr
 have hr : (if x.length ≤ 1099511627776 then some x else none) = some y := hr
 split at hr
 ·rename_i hl
  cases hr
  obtain ⟨rfl, _⟩ := hA
  show Calls P (ρ.f 170) #[.pointer (some ⟨b, 0, none⟩)] w _
  refine (sbLen L hsb).mono ?_
  rintro e w' ⟨rfl, rfl⟩
  refine ⟨_, rfl, fun m H => AVRep.mk1 ⟨by simp [bytesC], rfl, ?_, ?_⟩, Kept.refl _ _, fun _ => ?_⟩
  ·show (-9223372036854775808 : Int) ≤ _; omega
  ·show _ ≤ (9223372036854775807 : Int); omega
  ·exact ⟨p, v, hsb, fun z hz => .inl hz⟩
 ·cases hr
theorem string_sb (L : Lays.n169 P ρ) (X : Builder.Extra P ρ) : SbOk P (ρ.f 169) (sbStringR (ρ.t 72) (ρ.t 5)) := by
 intro fr Z w x xs b p v vs y hZ (hsb : SbAt (ρ.t 72) (ρ.t 5) b p v (bytesC x) w) hF (hA : ArgsRep fr Z w [] xs vs []) hr
 have hr : (if x ≠ [] ∧ x.length ≤ 1099511627776 then some x else none) = some y := hr
 split at hr
 ·rename_i hl
  cases hr
  obtain ⟨rfl, _⟩ := hA
  show Calls P (ρ.f 169) #[.pointer (some ⟨b, 0, none⟩)] w _
  refine (sbString (l := x) L X hsb hl.1).mono ?_
  rintro e w' ⟨rfl, h2⟩
  exact ⟨_, rfl, fun m H => AVRep.mk1 ⟨rfl, rfl, by unfold big; omega⟩, h2.kept, fun h => absurd rfl h⟩
 ·cases hr
end
end Go.Proofs.YtadhpgecilhgnaaDoor.A

-- YtadhpgecilhgnaaDoorDb
namespace Go.Proofs.YtadhpgecilhgnaaDoor.A
open Go Go.Proofs Go.Shelf
theorem lays166 : Lays.n166 Tryd.prog Tryd.lays156_ren := { Tryd.lays156 with }
def ren167 : Ren := ⟨fun | 167 => 15 | n => Tryd.lays156_ren.f n, fun | 5 => 5 | n => Tryd.lays156_ren.t n, Tryd.lays156_ren.g⟩
theorem lays167 : Lays.n167 Tryd.prog ren167 := {
 mixed := Tryd.lays156.mixed
 f167 := Tryd.func15.trans (congrArg some (by kernel_rfl))
 f240 := Tryd.func29.trans (congrArg some (by kernel_rfl))
 f276 := Tryd.func52.trans (congrArg some (by kernel_rfl))
 t0 := Tryd.underlying0
 a0 := Tryd.isAgg0
 z0 := Tryd.sizeOf0
 v0 := Tryd.zeroValue0
 t4 := Tryd.underlying4
 a4 := Tryd.isAgg4
 z4 := Tryd.sizeOf4
 v4 := Tryd.zeroValue4
 t5 := Tryd.underlying5
 a5 := Tryd.isAgg5
 z5 := Tryd.sizeOf5
 v5 := Tryd.zeroValue5
 t9 := Tryd.underlying9
 a9 := Tryd.isAgg9
 z9 := Tryd.sizeOf9
 v9 := Tryd.zeroValue9
 t20 := Tryd.underlying20
 a20 := Tryd.isAgg20
 z20 := Tryd.sizeOf20
 v20 := Tryd.zeroValue20
 t37 := Tryd.underlying37
 a37 := Tryd.isAgg37
 z37 := Tryd.sizeOf37
 v37 := Tryd.zeroValue37
 t70 := Tryd.underlying36
 a70 := Tryd.isAgg36
 z70 := Tryd.sizeOf36
 v70 := Tryd.zeroValue36
 t72 := Tryd.underlying39
 a72 := Tryd.isAgg39
 z72 := Tryd.sizeOf39
 v72 := Tryd.zeroValue39
 t75 := Tryd.underlying41
 a75 := Tryd.isAgg41
 z75 := Tryd.sizeOf41
 v75 := Tryd.zeroValue41
 t164 := Tryd.underlying91
 a164 := Tryd.isAgg91
 z164 := Tryd.sizeOf91
 v164 := Tryd.zeroValue91 }
theorem extra167 : Builder.Extra Tryd.prog ren167 := {
 sizeBuilder := by kernel_rfl
 liesBuilder := by kernel_rfl
 t5 := Tryd.underlying5
 a5 := Tryd.isAgg5
 z5 := Tryd.sizeOf5
 v5 := Tryd.zeroValue5
 infoByte := by kernel_rfl
 cellsByte := by kernel_rfl
 sizeByte := by kernel_rfl
 neB5 := by decide }
theorem sb13 : SbOk Tryd.prog 13 (sbWriteString 39 5) := writeString_sb lays166 Tryd.Builder_Extra_156
theorem sb15 : SbOk Tryd.prog 15 (sbWriteByte 39 5) := writeByte_sb lays167 extra167
theorem sb17 : SbOk Tryd.prog 17 (sbLenR 39 5) := len_sb Tryd.lays170
theorem sb18 : SbOk Tryd.prog 18 (sbStringR 39 5) := string_sb Tryd.lays169 Tryd.Builder_Extra_169
end Go.Proofs.YtadhpgecilhgnaaDoor.A

-- YtadhpgecilhgnaaDoorSf
set_option linter.unusedVariables false
set_option linter.unusedSimpArgs false
namespace Go.Proofs.YtadhpgecilhgnaaDoor.A
open Go
def sbOkB (fn : Func) (ins : List (Bool × Ty)) : Bool :=
 codeOkB fn.ntmps [ins.length] (bodyOf fn) && fn.body.isSome && Nat.ble (ins.length + 1) fn.ntmps && (ins.all fun p => !p.1 && p.2.pure) && fn.results.toList.isEmpty
section
variable {P : Program} {tab : Nat → Option TI}
theorem pars_plain : ∀ {ps : List (Bool × Ty)} {t : Nat} {x : (ps.foldr (fun p t => Ty.pair p.2 t) .unit).den}, (ps.all fun p => !p.1 && p.2.pure) = true → (pars t ps x).2 = []
 | [], _, _, _ => rfl
 | (io, τ) :: ps, t, x, h => by
  rw [List.all_cons, Bool.and_eq_true] at h
  simp only [Bool.and_eq_true, Bool.not_eq_true'] at h
  obtain ⟨⟨h1, h2⟩, h3⟩ := h
  subst h1
  have hv : τ.vecP = false := by cases τ <;> first | rfl | cases h2
  simp only [pars, par_plain hv h2, pars_plain h3, List.append_nil]
theorem sbFun_ok (hm : P.follows .mixedOrders = true) (hT : TabOk P tab) {f : FuncId} {fn : Func} (hf : P.funcs[f]? = some fn) {T : Nat → Nat → Option FunE} {ann : Nat → Option (List Keep)} {tb eb : Nat} {ins : List (Bool × Ty)} {n : Nat} (hC : ∀ k, TOk P (T k)) (hk : sbOkB fn ins = true) : SbOk P f (sbE tab T ann fn tb eb ins n) := by
 intro fr Z w x (xs : (ins.foldr (fun p t => Ty.pair p.2 t) .unit).den) b p v vs y hZ (hsb : SbAt tb eb b p v (bytesC x) w) hF (hA : ArgsRep fr Z w ins xs vs []) hr
 show Calls P f (vs ++ [Value.pointer (some ⟨b, 0, none⟩)]).toArray w _
 have hW : ∀ k, k ≤ n → WaysOk P tab (T k) := fun k _ => way_ok hT (hC k)
 simp only [sbOkB, Bool.and_eq_true] at hk
 obtain ⟨⟨⟨⟨k1, k2⟩, k3⟩, k4⟩, k5⟩ := hk
 have k3 := Nat.le_of_ble_eq_true k3
 obtain ⟨c, hc⟩ := Option.isSome_iff_exists.1 k2
 have hbody : bodyOf fn = c := by unfold bodyOf; rw [hc]; rfl
 have hlen : vs.length = ins.length := hA.len
 have hy : sbRun tab T ann fn tb eb ins n x xs = some y := hr
 have hnd := sb_nodup hsb
 let B : Base := { w := w, F := b :: rowB v, Z := Z, fx := [ins.length], fv := fun i => (vs ++ [Value.pointer (some ⟨b, 0, none⟩)]).getD i undef, fr := fr }
 have h0 : ∀ m : Md, m.Z = Z → HOk B m (fun _ => .absent) w := fun m hmz => ⟨fun b hb => hZ b (by rw [← hmz]; exact hb), fun b hb => (by rw [hmz]; exact hb), fun b hb _ => .inl (by rw [hmz] at hb; exact hb), fun _ => trivial, fun _ h => h.elim, fun _ _ _ h => h.elim, fun _ h => h.elim, Kept.refl _ _⟩
 have htm : ∀ k, (((vs ++ [Value.pointer (some ⟨b, 0, none⟩)]).toArray ++ Array.replicate (fn.ntmps - (vs ++ [Value.pointer (some ⟨b, 0, none⟩)]).toArray.size) undef).getD k undef) = (vs ++ [Value.pointer (some ⟨b, 0, none⟩)]).getD k undef := fun k => by
  rw [Array.getD_eq_getD_getElem?, List.getD_eq_getElem?_getD, Array.getElem?_append]
  simp only [List.size_toArray]
  by_cases hk : k < (vs ++ [Value.pointer (some ⟨b, 0, none⟩)]).length
  ·rw [if_pos hk]; simp
  ·rw [if_neg hk, List.getElem?_eq_none (by omega)]
   simp only [Array.getElem?_replicate]
   split <;> rfl
 have hall : (ins.all fun p => p.1 || p.2.pure || p.2.vecP) = true := List.all_eq_true.2 fun q hq => by
  have := List.all_eq_true.1 k4 q hq
  rw [Bool.and_eq_true] at this
  rw [this.2]; simp
 obtain ⟨m, K⟩ := pars_ok (B := B) (Z := Z) (w := w) h0 (vals := fun k => (vs ++ [Value.pointer (some ⟨b, 0, none⟩)]).getD k undef) (t := 0) hA (by simp) (by simp) hall (fun i v hi => by
  have hlt := (List.getElem?_eq_some_iff.1 hi).1
  simp only [Nat.zero_add, List.getD_eq_getElem?_getD]
  rw [List.getElem?_append_left hlt, hi]; rfl)
 have hp2 : (pars 0 ins xs).2 = [] := pars_plain k4
 rw [hp2] at K
 have hptr : (vs ++ [Value.pointer (some ⟨b, 0, none⟩)]).getD ins.length undef = .pointer (some ⟨b, 0, none⟩) := by
  rw [List.getD_eq_getElem?_getD, List.getElem?_append_right (by omega), hlen]; simp
 obtain ⟨q1, q2⟩ := K.h.add (k := headId ins.length) rfl (ob := sbO tb eb x) (hdr := .pointer (some ⟨b, 0, none⟩)) (F := b :: rowB v) (.inr ⟨rfl, rfl, b, p, v, rfl, hsb, rfl⟩) hnd (fun z hz => by rw [K.z]; exact ⟨(hF z hz).1, (hF z hz).2, fun _ => hz⟩) (fun j hj => hj.elim)
 have hcell : (m.set (headId ins.length) (.pointer (some ⟨b, 0, none⟩)) (b :: rowB v)).hd (headId ins.length) = .pointer (some ⟨b, 0, none⟩) := by simp only [Md.set]; rw [upd_same]
 have s : SE B fn.ntmps (ofL .junk ((ins.length, .val false [.itr (headId ins.length)]) :: (pars 0 ins xs).1)) (ofL .absent [(headId ins.length, .live (sbO tb eb x))]) { tmps := (vs ++ [Value.pointer (some ⟨b, 0, none⟩)]).toArray ++ Array.replicate (fn.ntmps - (vs ++ [Value.pointer (some ⟨b, 0, none⟩)]).toArray.size) undef, defers := [] } w := by
  refine ⟨_, ⟨q1, fun k => ?_, rfl⟩, ?_, fun i _ => htm i⟩
  ·rw [htm]
   refine pinv_put (vals := fun k => (vs ++ [Value.pointer (some ⟨b, 0, none⟩)]).getD k undef) (fun t => (K.t t).evo q2) ?_ k
   show AVRep _ _ _ _ ((vs ++ [Value.pointer (some ⟨b, 0, none⟩)]).getD ins.length undef)
   rw [hptr]
   exact one_val ⟨by rw [upd_same]; simp, fun _ _ _ _ _ => hcell.symm⟩
  ·simp only [Array.size_append, List.size_toArray, Array.size_replicate, List.length_append, List.length_cons, List.length_nil]; omega
 have hfin : KonOk P B fn.ntmps y (bodyPost P fn fun e w' => ∃ u, e = .returned u ∧ (∀ m H, AVRep m w' H (SbRes.none.av y) u) ∧ Kept (b :: rowB v) w w' ∧ (SbRes.none ≠ .str → ∃ p' v', SbAt tb eb b p' v' (bytesC y) w' ∧ ∀ z ∈ rowB v', z ∈ rowB v ∨ (w.heap.size ≤ z ∧ z < w'.heap.size))) (finSb ins.length tb eb) := by
  intro x E H a w' ⟨m', s', hN, hf'⟩ h
  have key : finSb ins.length tb eb .normal E H = some y → a.defers = [] ∧ ∃ u, (results fn a.tmps).run P w' = .ok u w' ∧ ∃ u', Ending.returned u = .returned u' ∧ (∀ m H, AVRep m w' H (SbRes.none.av y) u') ∧ Kept (b :: rowB v) w w' ∧ (SbRes.none ≠ .str → ∃ p' v', SbAt tb eb b p' v' (bytesC y) w' ∧ ∀ z ∈ rowB v', z ∈ rowB v ∨ (w.heap.size ≤ z ∧ z < w'.heap.size)) := by
   intro h
   simp only [finSb] at h
   split at h
   ·rename_i id he
    have hx := sbGet_ok h
    have ht := s'.t ins.length
    rw [he, hf' ins.length (by simp [B])] at ht
    have ht2 : (vs ++ [Value.pointer (some ⟨b, 0, none⟩)]).getD ins.length undef = m'.hd id := ht.one.2 _ _ _ _ hx
    rw [hptr] at ht2
    have hcr := s'.h.cr id
    rw [hx] at hcr
    obtain ⟨hfn, _⟩ | ⟨_, _, b', p', v', z1, z2, z3⟩ := hcr
    ·cases hfn
    rw [← ht2] at z1
    simp only [Value.pointer.injEq, Option.some.injEq, Addr.mk.injEq, and_true] at z1
    subst z1
    have hL : (H id).Live := by rw [hx]; trivial
    have hres : (results fn a.tmps).run P w' = .ok (tupOf []) w' := results_run (us := []) (by
     have : fn.results.toList = [] := by simpa using k5
     rw [this]; rfl)
    refine ⟨s'.d, _, hres, _, rfl, fun _ _ => ⟨[], rfl, trivial⟩, s'.h.kp, fun _ => ?_⟩
    refine ⟨p', v', z2, fun z hz => ?_⟩
    have hzf : z ∈ m'.ft id := by rw [z3]; simp [hz]
    obtain ⟨n1, n2, n3⟩ := s'.h.nz id hL z hzf
    by_cases hlt : z < w.heap.size
    ·refine .inl ?_
     have := n3 hlt
     rcases List.mem_cons.1 this with rfl | h
     ·exact absurd hz (List.nodup_cons.1 (sb_nodup z2)).1
     ·exact h
    ·exact .inr ⟨by omega, n2⟩
   ·cases h
  cases x with
  | normal => exact key h
  | ret => exact key h
  | _ => cases h
 have hL := runN_ok (P := P) (B := B) (N := fn.ntmps) (r := y) hm (T := T) (ann := ann) hfin n (fun k hk => hW k (by omega))
 have hcl := clos_ok (ann := ann) hm (hW n (Nat.le_refl _)) hL hfin [] rfl
 have := runS_ok hm (hW n (Nat.le_refl _)) hL (bodyOf fn) [] _ _ _ _ _ k1 rfl hcl s hy
 rw [hbody] at this
 exact calls_of_wp hf hc this
end
end Go.Proofs.YtadhpgecilhgnaaDoor.A
