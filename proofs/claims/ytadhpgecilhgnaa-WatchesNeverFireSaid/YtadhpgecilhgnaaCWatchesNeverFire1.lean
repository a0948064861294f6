/- a rule that never fires with some events does not fire when only these come; and without a ring few events end without ErrLoop -/
import Derived.Calls
import Derived.KernelRfl
import Derived.Still
import Derived.Test.YtadhpgecilhgnaaProg
-- YtadhpgecilhgnaaAbs
set_option linter.unusedVariables false
namespace Go.Proofs.Ytadhpgecilhgnaa.A
open Go

inductive Ty where
 | unit | bool | int (k : IntKind) | str | pair (a b : Ty) | sl (e : Ty) | vec (e : Ty) | map (k e : Ty) | fnv (f : Nat) | nil | ptr (e : Ty) | fmap (k e : Ty) | mapb (k e : Ty) | nsl (e : Ty)
 deriving DecidableEq

@[reducible] def Ty.den : Ty → Type
 | .unit => Unit
 | .bool => Bool
 | .int _ => Int
 | .str => List UInt8
 | .pair a b => a.den × b.den
 | .sl e => List e.den
 | .vec e => List e.den
 | .map k e => List (k.den × e.den)
 | .fnv _ => Unit
 | .nil => Unit
 | .ptr e => Option e.den
 | .fmap k e => List (k.den × e.den)
 | .mapb k e => List (k.den × e.den)
 | .nsl e => List e.den

def Ty.dflt : (τ : Ty) → τ.den
 | .unit => ()
 | .bool => false
 | .int _ => 0
 | .str => []
 | .pair a b => (a.dflt, b.dflt)
 | .sl _ => []
 | .vec _ => []
 | .map _ _ => []
 | .fnv _ => ()
 | .nil => ()
 | .ptr _ => none
 | .fmap _ _ => []
 | .mapb _ _ => []
 | .nsl _ => []

def castTo (σ τ : Ty) (x : σ.den) : Option τ.den := if h : σ = τ then some (h ▸ x) else none

def Ty.pure : Ty → Bool
 | .pair a b => a.pure && b.pure
 | .sl e => e.pure
 | .vec _ => false
 | .map _ _ => false
 | .ptr _ => false
 | .mapb _ _ => false
 | .nsl e => e.pure
 | _ => true
def Ty.flatB : Ty → Bool
 | .pair a b => a.flatB && b.flatB
 | .sl _ => false
 | .vec _ => false
 | .map _ _ => false
 | .ptr _ => false
 | .fmap _ _ => false
 | .mapb _ _ => false
 | .nsl _ => false
 | _ => true
def Ty.one : Ty → Bool
 | .pair _ _ => false
 | .unit => false
 | _ => true
def Ty.cells : Ty → Nat
 | .unit => 0
 | .pair a b => a.cells + b.cells
 | _ => 1

inductive LV where
 | v (τ : Ty) (x : τ.den)
 | nils | nilm | nilp
 | ptr (id off : Nat)
 | row (id : Nat)
 | sub (id g off : Nat)
 | subv (id g off lo sz : Nat)
 | vw (e : Ty) (xs : List e.den)
 | pel (τ : Ty) (x : τ.den) (off : Nat)
 | rel (id : Nat) (i : Nat) (off : Nat)
 | sel (id g off : Nat) (i : Nat) (off2 : Nat)
 | mapr (id : Nat)
 | itr (id : Nat)
 | mbr (id : Nat)
 | mel (id g : Nat) (k : Ty) (key : k.den) (off : Nat)
 | mvl (id g : Nat) (k : Ty) (key : k.den)
 | cst
 | pptr (id off : Nat) (ps : List (Nat × Nat × Bool))
 | mfl (mid id g off : Nat)
 | junk

inductive AV where
 | val (agg : Bool) (ls : List LV)
 | tup (vs : List (Bool × List LV))
 | undef
 | junk

inductive Obj where
 | cells (g : Nat) (ls : List LV)
 | row (e : Ty) (xs : List e.den)
 | mapo (k e : Ty) (m : List (k.den × e.den))
 | iter (k e : Ty) (cur : Option (k.den × e.den)) (rest : List (k.den × e.den))
 | mapb (g : Nat) (k e : Ty) (m : List (k.den × e.den)) (hole : Option (k.den × Option Value))

inductive Cell where
 | absent | dead | live (o : Obj) | frz (e : Ty) (xs : List e.den) | frzm (k e : Ty) (m : List (k.den × e.den))

abbrev Env := Nat → AV
abbrev Hp := Nat → Cell
def upd {α : Type} (f : Nat → α) (n : Nat) (x : α) : Nat → α := fun m => match Nat.beq m n with | true => x | false => f m
def ofL {α : Type} (d : α) : List (Nat × α) → Nat → α
 | [], _ => d
 | (n, x) :: l, m => match Nat.beq m n with | true => x | false => ofL d l m

inductive Tst (α : Type) : Type 1 where
 | ret (a : α)
 | fail
 | chk (p : Prop) (d : Decidable p) (t : Tst α)
 | br (b : Bool) (t e : Tst α)
 | opt {β : Type} (o : Option β) (k : β → Tst α)

def Tst.to {α R : Type} (K : α → Option R) : Tst α → Option R
 | .ret a => K a
 | .fail => none
 | .chk p d t => @ite _ p d (t.to K) none
 | .br b t e => if b = true then t.to K else e.to K
 | .opt o k => o.bind fun b => (k b).to K

def Tst.bind {α β : Type} (f : α → Tst β) : Tst α → Tst β
 | .ret a => f a
 | .fail => .fail
 | .chk p d t => .chk p d (t.bind f)
 | .br b t e => .br b (t.bind f) (e.bind f)
 | .opt o k => .opt o fun b => (k b).bind f

inductive DT (α : Type) : Type 1 where
 | ret (a : α)
 | fail
 | chk (p : Prop) (d : Decidable p) (t : DT α)
 | may (p : Prop) (d : Decidable p) (t e : DT α)
 | each {β : Type} (l : List β) (z : DT α) (k : β → List β → DT α)
open Classical in
noncomputable def agree2 {R : Type} (a b : Option R) : Option R := if a = b then a else none
open Classical in
noncomputable def agreeL {β R : Type} (l : List β) (K : β → List β → Option R) : Option R :=
 if h : ∃ r, ∀ (i : Nat) (x : β), l[i]? = some x → K x (l.eraseIdx i) = some r then some (Classical.choose h) else none
noncomputable def DT.to {α R : Type} (K : α → Option R) : DT α → Option R
 | .ret a => K a
 | .fail => none
 | .chk p d t => @ite _ p d (t.to K) none
 | .may p d t e => agree2 (e.to K) (@ite _ p d (t.to K) (e.to K))
 | .each l z k => if l.length = 0 then z.to K else agreeL l fun x r => (k x r).to K
theorem agree2_some {R : Type} {a b : Option R} {r : R} (h : agree2 a b = some r) : a = some r ∧ b = some r := by
 unfold agree2 at h
 split at h
 ·rename_i e; exact ⟨h, e ▸ h⟩
 ·cases h
theorem agreeL_some {β R : Type} {l : List β} {K : β → List β → Option R} {r : R} (hl : l ≠ []) (h : agreeL l K = some r) : ∀ (i : Nat) (x : β), l[i]? = some x → K x (l.eraseIdx i) = some r := by
 unfold agreeL at h
 split at h
 ·rename_i e
  injection h with h
  have := Classical.choose_spec e
  rw [h] at this
  exact this
 ·cases h

structure TI where
 agg : Bool
 ty : Ty
 bytes : Nat
 fields : List (Nat × Nat)
 elem : Nat
 key : Nat
 zero : List LV

structure FunE where
 ins : List (Bool × Ty)
 outs : List Ty
 f : (ins.foldr (fun p t => Ty.pair p.2 t) .unit).den → Option ((outs ++ (ins.filter (·.1)).map (·.2)).foldr Ty.pair .unit).den
 row : Option ((e : Ty) × (List e.den → Option (List e.den))) := none

def flat : (τ : Ty) → τ.den → List LV
 | .unit, _ => []
 | .pair a b, x => flat a x.1 ++ flat b x.2
 | .bool, x => [.v .bool x]
 | .int k, x => [.v (.int k) x]
 | .str, x => [.v .str x]
 | .sl e, x => [.v (.sl e) x]
 | .vec e, x => [.v (.vec e) x]
 | .map k e, x => [.v (.map k e) x]
 | .fnv f, x => [.v (.fnv f) x]
 | .nil, _ => [.nils]
 | .ptr e, x => [.v (.ptr e) x]
 | .fmap k e, x => [.v (.fmap k e) x]
 | .mapb k e, x => [.v (.mapb k e) x]
 | .nsl e, x => [.v (.nsl e) x]

def slAs (e' e : Ty) (xs : List e'.den) : Option (List e.den) := match e'.pure with | true => castTo (.sl e') (.sl e) xs | false => none
def LV.as (H : Hp) (τ : Ty) : LV → Option τ.den
 | .v σ x => castTo σ τ x
 | .nils => match τ with | .sl _ => some [] | .vec _ => some [] | .nil => some () | .nsl _ => some [] | _ => none
 | .row id => match τ with
  | .sl e => (match H id with
   | .live (.row e' xs) => slAs e' e xs
   | .frz e' xs => slAs e' e xs
   | _ => none)
  | _ => none
 | .vw e' xs => castTo (.sl e') τ xs
 | .mapr id => match τ with
  | .fmap k e => (match H id with
   | .live (.mapo k' e' mm) => castTo (.fmap k' e') (.fmap k e) mm
   | .frzm k' e' mm => castTo (.fmap k' e') (.fmap k e) mm
   | _ => none)
  | _ => none
 | .sub id g off => match τ with
  | .sl e => (match H id with
   | .live (.cells g' ls) => (match Nat.beq g g', ls[off]? with
    | true, some (.v (.vec e') xs) => slAs e' e xs
    | _, _ => none)
   | _ => none)
  | _ => none
 | _ => none

def asm1 (H : Hp) (τ : Ty) : List LV → Option (τ.den × List LV)
 | l :: ls => match l.as H τ with | some x => some (x, ls) | none => none
 | [] => none
def asm (H : Hp) : (τ : Ty) → List LV → Option (τ.den × List LV)
 | .unit, ls => some ((), ls)
 | .pair a b, ls => match asm H a ls with
  | some (x, ls) => (match asm H b ls with | some (y, ls) => some ((x, y), ls) | none => none)
  | none => none
 | .bool, ls => asm1 H .bool ls
 | .int k, ls => asm1 H (.int k) ls
 | .str, ls => asm1 H .str ls
 | .sl e, ls => asm1 H (.sl e) ls
 | .vec e, ls => asm1 H (.vec e) ls
 | .map k e, ls => asm1 H (.map k e) ls
 | .fnv f, ls => asm1 H (.fnv f) ls
 | .nil, ls => asm1 H .nil ls
 | .ptr e, ls => asm1 H (.ptr e) ls
 | .fmap k e, ls => asm1 H (.fmap k e) ls
 | .mapb k e, ls => asm1 H (.mapb k e) ls
 | .nsl e, ls => asm1 H (.nsl e) ls
def asmAll (H : Hp) (τ : Ty) (ls : List LV) : Option τ.den := match asm H τ ls with | some (x, []) => some x | _ => none

def ofConst1 : Value → LV
 | .bool b => .v .bool b
 | .int k n => .v (.int k) n
 | .string s => .v .str s.data.toList
 | .slice none 0 0 => .nils
 | .map none => .nilm
 | .pointer none => .nilp
 | _ => .junk
def ofConst : Value → AV
 | .agg cs => .val true (cs.toList.map ofConst1)
 | .tuple _ => .junk
 | v => .val false [ofConst1 v]

def evalO (E : Env) : Operand → AV
 | .tmp t => E t
 | .const v => ofConst v
 | .global _ => .junk
 | .func f => .val false [.v (.fnv f) ()]

structure Way where
 rd : List Nat := []
 wr : List Nat := []
 run : Hp → Tst (AV × List (Nat × Cell))

def Way.fail : Way := { run := fun _ => .fail }
def Way.val (v : AV) : Way := { run := fun _ => .ret (v, []) }
def Way.one (l : LV) : Way := .val (.val false [l])

section
variable (tab : Nat → Option TI) (T : Nat → Option FunE)

def isAbsent : Cell → Bool
 | .absent => true
 | _ => false

def memN (n : Nat) : List Nat → Bool
 | [] => false
 | m :: l => match Nat.beq n m with | true => true | false => memN n l
def disjN (a b : List Nat) : Bool := a.all fun n => !memN n b
def nodupN : List Nat → Bool
 | [] => true
 | n :: l => !memN n l && nodupN l
def setLs : List LV → Nat → List LV → Option (List LV)
 | ls, _, [] => some ls
 | [], _, _ :: _ => none
 | _ :: ls, 0, n :: ns => (setLs ls 0 ns).map (n :: ·)
 | l :: ls, off + 1, ns => (setLs ls off ns).map (l :: ·)

def plainL : LV → Bool
 | .v _ _ => true
 | .nils => true
 | .nilm => true
 | .nilp => true
 | _ => false
def moveIn (H : Hp) : LV → LV × List (Nat × Cell)
 | .row id => match H id with
  | .live (.row e xs) => (.v (.vec e) xs, [(id, .dead)])
  | _ => (.junk, [])
 | .mapr id => match H id with
  | .live (.mapo k e m) => (.v (.map k e) m, [(id, .dead)])
  | _ => (.junk, [])
 | .v τ x => (.v τ x, [])
 | .nils => (.nils, [])
 | .nilm => (.nilm, [])
 | .nilp => (.nilp, [])
 | _ => (.junk, [])
def ownIds : List LV → List Nat
 | [] => []
 | .row id :: ls => id :: ownIds ls
 | .mapr id :: ls => id :: ownIds ls
 | _ :: ls => ownIds ls
def moveAll (H : Hp) (ls : List LV) : List LV × List (Nat × Cell) :=
 (ls.map fun l => (moveIn H l).1, ls.flatMap fun l => (moveIn H l).2)

def wBox (dst : Option Nat) : AV → Way
 | .val _ ls => match dst with
  | some d => { wr := d :: ownIds ls, run := fun H => if isAbsent (H d) && !memN d (ownIds ls) && nodupN (ownIds ls) && (moveAll H ls).1.all plainL then .ret (.val false [.ptr d 0], (d, .live (.cells 0 (moveAll H ls).1)) :: (moveAll H ls).2) else .fail }
  | none => .fail
 | _ => .fail

def pinOf : LV → Option (Nat × Bool)
 | .mapr m => some (m, false)
 | .mbr m => some (m, true)
 | _ => none
def pinsOf : Nat → List LV → List (Nat × Nat × Bool)
 | _, [] => []
 | j, l :: ls => match pinOf l with | some (m, b) => (j, m, b) :: pinsOf (j + 1) ls | none => pinsOf (j + 1) ls
def pinLeaf (l : LV) : LV := match pinOf l with | some _ => .cst | none => l
def pinB (l : LV) : Bool := match pinOf l with | some _ => true | none => plainL l
def plainC : LV → Bool
 | .cst => true
 | l => plainL l
def pinLive (H : Hp) (q : Nat × Nat × Bool) : Bool := match q.2.2, H q.2.1 with
 | false, .live (.mapo _ _ _) => true
 | true, .live (.mapb _ _ _ _ none) => true
 | _, _ => false
def wBoxP (dst : Option Nat) (x : AV) : Way :=
 match x with
 | .val g ls => match pinsOf 0 ls, dst with
  | [], _ => wBox dst x
  | ps, some d => { rd := ps.map (·.2.1), wr := [d], run := fun H => if isAbsent (H d) && !(memN d (ps.map (·.2.1))) && ls.all pinB && ps.all (pinLive H) then .ret (.val false [.pptr d 0 ps], [(d, .live (.cells 0 (ls.map pinLeaf)))]) else .fail }
  | _, none => .fail
 | _ => .fail

def outLeaf (id g off : Nat) : LV → LV
 | .v (.vec _) _ => .sub id g off
 | .v τ x => if τ.pure then .v τ x else .junk
 | .nils => .nils
 | .nilm => .nilm
 | .nilp => .nilp
 | _ => .junk
def outLeaves (id g : Nat) : Nat → List LV → List LV
 | _, [] => []
 | off, l :: ls => outLeaf id g off l :: outLeaves id g (off + 1) ls
def takeN : Nat → List LV → Option (List LV)
 | 0, _ => some []
 | n + 1, l :: ls => (takeN n ls).map (l :: ·)
 | _ + 1, [] => none

def wLoad (t : Nat) : AV → Way
 | .val false [.ptr id off] => match tab t with
  | some i => { rd := [id], run := fun H => match H id with
   | .live (.cells g ls) => (match takeN i.ty.cells (ls.drop off) with
    | some ns => .ret (.val i.agg (outLeaves id g off ns), [])
    | none => .fail)
   | _ => .fail }
  | none => .fail
 | .val false [.pel τ x off] => match tab t with
  | some i => (match takeN i.ty.cells ((flat τ x).drop off) with
   | some ns => .val (.val i.agg ns)
   | none => .fail)
  | none => .fail
 | .val false [.rel id n off] => match tab t with
  | some i => { rd := [id], run := fun H => match H id with
   | .live (.row e xs) => if e.pure then (match takeN i.ty.cells ((flat e (xs.getD n e.dflt)).drop off) with
    | some ns => .ret (.val i.agg ns, [])
    | none => .fail) else .fail
   | _ => .fail }
  | none => .fail
 | .val false [.sel id g o n off] => match tab t with
  | some i => { rd := [id], run := fun H => match H id with
   | .live (.cells g' ls) => (match ls[o]? with
    | some (.v (.vec e) xs) => if e.pure && Nat.beq g g' then (match takeN i.ty.cells ((flat e (xs.getD n e.dflt)).drop off) with
     | some ns => .ret (.val i.agg ns, [])
     | none => .fail) else .fail
    | _ => .fail)
   | _ => .fail }
  | none => .fail
 | _ => .fail

def wStore (t : Nat) (a : AV) (x : AV) : Way :=
 match a, x with
 | .val false [.ptr id off], .val g ls => match tab t with
  | some i => { wr := id :: ownIds ls, run := fun H => match H id with
   | .live (.cells v cs) => if Nat.beq ls.length i.ty.cells && !(Nat.beq ls.length 0) && (g == i.agg) && nodupN (id :: ownIds ls) && (moveAll H ls).1.all plainL then (match setLs cs off (moveAll H ls).1 with
    | some cs' => .ret (.undef, (id, .live (.cells (v + 1) cs')) :: (moveAll H ls).2)
    | none => .fail) else .fail
   | _ => .fail }
  | none => .fail
 | .val false [.rel id n off], .val g ls => match tab t with
  | some i => { wr := [id], run := fun H => match H id with
   | .live (.row e xs) => if e.pure && Nat.beq ls.length i.ty.cells && !(Nat.beq ls.length 0) && (g == i.agg) && ls.all plainL then (match setLs (flat e (xs.getD n e.dflt)) off ls with
    | some cs' => (match asmAll (fun _ => .absent) e cs' with
     | some y => .ret (.undef, [(id, .live (.row e (xs.set n y)))])
     | none => .fail)
    | none => .fail) else .fail
   | _ => .fail }
  | none => .fail
 | .val false [.sel id v o n off], .val g ls => match tab t with
  | some i => { wr := [id], run := fun H => match H id with
   | .live (.cells v' ls0) => (match ls0[o]? with
    | some (.v (.vec e) xs) => if e.pure && Nat.beq v v' && Nat.beq ls.length i.ty.cells && !(Nat.beq ls.length 0) && (g == i.agg) && ls.all plainL then (match setLs (flat e (xs.getD n e.dflt)) off ls with
     | some cs' => (match asmAll (fun _ => .absent) e cs' with
      | some y => (match setLs ls0 o [.v (.vec e) (xs.set n y)] with
       | some ls1 => .ret (.undef, [(id, .live (.cells v' ls1))])
       | none => .fail)
      | none => .fail)
     | none => .fail) else .fail
    | _ => .fail)
   | _ => .fail }
  | none => .fail
 | _, _ => .fail

def fieldOff (s f : Nat) : Option Nat := match tab s with
 | some i => (match i.agg, i.fields[f]? with
  | true, some (o, ft) => (match tab ft with
   | some j => (match Nat.beq j.ty.cells 0 with | true => none | false => some o)
   | none => none)
  | _, _ => none)
 | none => none
def slTy (t : Nat) : Option TI := match tab t with
 | some i => (match i.agg, i.ty with | false, .sl _ => (match tab i.elem with | some q => (match Nat.ble q.bytes 128 with | true => some q | false => none) | none => none) | _, _ => none)
 | none => none
def strTy (t : Nat) : Bool := match tab t with
 | some i => (match i.agg, i.ty with | false, .str => true | _, _ => false)
 | none => false
def wFieldAddr (s : Nat) (a : AV) (f : Nat) : Way :=
 match fieldOff tab s f with
 | some o => (match a with
  | .val false [.ptr id off] => { rd := [id], run := fun H => match H id with
   | .live (.cells _ _) => .ret (.val false [.ptr id (off + o)], [])
   | _ => .fail }
  | .val false [.pel τ x off] => .one (.pel τ x (off + o))
  | .val false [.rel id n off] => { rd := [id], run := fun H => match H id with
   | .live (.row _ _) => .ret (.val false [.rel id n (off + o)], [])
   | _ => .fail }
  | .val false [.sel id g o1 n off] => { rd := [id], run := fun H => match H id with
   | .live (.cells g' ls) => (match Nat.beq g g', ls[o1]? with
    | true, some (.v (.vec _) _) => .ret (.val false [.sel id g o1 n (off + o)], [])
    | _, _ => .fail)
   | _ => .fail }
  | _ => .fail)
 | none => .fail
def wField (s : Nat) (a : AV) (f : Nat) : Way :=
 match tab s, a with
 | some i, .val true ls => (match i.agg, i.fields[f]? with
  | true, some (o, ft) => (match tab ft with
   | some j => (match takeN j.ty.cells (ls.drop o) with
    | some ns => .val (.val j.agg ns)
    | none => .fail)
   | none => .fail)
  | _, _ => .fail)
 | _, _ => .fail

def slRd : LV → List Nat
 | .row id => [id]
 | .sub id _ _ => [id]
 | .subv id _ _ _ _ => [id]
 | .mapr id => [id]
 | .mbr id => [id]
 | _ => []
def slRead (H : Hp) : LV → Option ((e : Ty) × List e.den)
 | .v (.sl e) xs => some ⟨e, xs⟩
 | .vw e xs => some ⟨e, xs⟩
 | .v (.nsl e) xs => some ⟨e, xs⟩
 | .row id => match H id with
  | .live (.row e xs) => some ⟨e, xs⟩
  | .frz e xs => some ⟨e, xs⟩
  | _ => none
 | .sub id g off => match H id with
  | .live (.cells g' ls) => (match Nat.beq g g', ls[off]? with
   | true, some (.v (.vec e) xs) => some ⟨e, xs⟩
   | _, _ => none)
  | _ => none
 | .subv id g off lo sz => match H id with
  | .live (.cells g' ls) => (match Nat.beq g g', ls[off]? with
   | true, some (.v (.vec e) xs) => if Nat.beq e.cells sz then some ⟨e, xs.drop lo⟩ else none
   | _, _ => none)
  | _ => none
 | _ => none
def elemPtr (H : Hp) (e : Ty) (xs : List e.den) (n : Nat) : LV → LV
 | .row id => match H id with
  | .live _ => .rel id n 0
  | _ => .pel e (xs.getD n e.dflt) 0
 | .sub id g off => .sel id g off n 0
 | .subv id g off lo _ => .sel id g off (n + lo) 0
 | _ => .pel e (xs.getD n e.dflt) 0
def AV.int : AV → Option Int
 | .val false [.v (.int _) n] => some n
 | _ => none
def wIndexAddr (t : Nat) (a i : AV) : Way :=
 match a, i.int, slTy tab t with
 | .val false [l], some n, some q => { rd := slRd l, run := fun H => match slRead H l with
  | some ⟨e, xs⟩ => if Nat.beq e.cells q.ty.cells then .chk (0 ≤ n ∧ n < (xs.length : Int)) inferInstance (.ret (.val false [elemPtr H e xs n.toNat l], [])) else .fail
  | none => .fail }
 | _, _, _ => .fail
def wIndex (t : Nat) (a i : AV) : Way :=
 match strTy tab t, a, i.int with
 | true, .val false [.v .str s], some n => { run := fun _ => .chk (0 ≤ n ∧ n < (s.length : Int)) inferInstance (.ret (.val false [.v (.int .u8) ((s.getD n.toNat 0).toNat : Int)], [])) }
 | _, _, _ => .fail

def optInt (d : Int) : Option AV → Option Int
 | none => some d
 | some a => a.int
def wSlice (dst : Option Nat) (t : Nat) (a : AV) (lo hi : Option AV) : Way :=
 match a with
 | .val false [.v .str s] => (match strTy tab t, optInt 0 lo, optInt s.length hi with
  | true, some l, some h => { run := fun _ => .chk (0 ≤ l ∧ l ≤ h ∧ h ≤ (s.length : Int)) inferInstance (.ret (.val false [.v .str ((s.take h.toNat).drop l.toNat)], [])) }
  | _, _, _ => .fail)
 | .val false [.v (.sl e) xs] => (match slTy tab t, optInt 0 lo, optInt xs.length hi with
  | some q, some l, some h => if Nat.beq e.cells q.ty.cells && e.pure then { run := fun _ => .chk (0 ≤ l ∧ l ≤ h ∧ h ≤ (xs.length : Int)) inferInstance (.ret (.val false [.v (.sl e) ((xs.take h.toNat).drop l.toNat)], [])) } else .fail
  | _, _, _ => .fail)
 | .val false [.row id] => (match dst, hi with
  | some d, none => (match slTy tab t, optInt 0 lo with
   | some q, some l => { wr := [id, d], run := fun H => match H id with
    | .live (.row e xs) => if isAbsent (H d) && !(Nat.beq id d) && Nat.beq e.cells q.ty.cells && e.pure then .chk (0 ≤ l ∧ l ≤ (xs.length : Int)) inferInstance (.ret (.val false [.row d], [(id, .dead), (d, .live (.row e (xs.drop l.toNat)))])) else .fail
    | .frz e xs => if Nat.beq e.cells q.ty.cells && e.pure then .chk (0 ≤ l ∧ l ≤ (xs.length : Int)) inferInstance (.ret (.val false [.vw e (xs.drop l.toNat)], [])) else .fail
    | _ => .fail }
   | _, _ => .fail)
  | _, _ => .fail)
 | .val false [.sub id g off] => (match hi, slTy tab t, optInt 0 lo with
  | none, some q, some l => { rd := [id], run := fun H => match H id with
   | .live (.cells g' ls) => (match Nat.beq g g', ls[off]? with
    | true, some (.v (.vec e) xs) => if Nat.beq e.cells q.ty.cells && e.pure then .chk (0 ≤ l ∧ l ≤ (xs.length : Int)) inferInstance (.ret (.val false [.subv id g off l.toNat e.cells], [])) else .fail
    | _, _ => .fail)
   | _ => .fail }
  | _, _, _ => .fail)
 | _ => .fail

def bitsOp (k : IntKind) (op : BinOp) (x y : Int) : Int :=
 let a := BitVec.ofInt k.bits x
 let b := BitVec.ofInt k.bits y
 match op with
 | .and => k.wrap (a &&& b).toNat
 | .or => k.wrap (a ||| b).toNat
 | .xor => k.wrap (a ^^^ b).toNat
 | _ => k.wrap (a &&& ~~~b).toNat
def shlI (k : IntKind) (x y : Int) : Int := k.wrap (x * 2 ^ (min y.toNat k.bits))
def shrI (k : IntKind) (x y : Int) : Int := x.fdiv (2 ^ (min y.toNat k.bits))
def lessS (a b : List UInt8) : Bool := Op.bytesLess a b

def Ty.eqB : Ty → Bool
 | .pair a b => a.eqB && b.eqB
 | .bool => true
 | .int _ => true
 | .str => true
 | _ => false
def eqV : (τ : Ty) → τ.den → τ.den → Bool
 | .pair a b, x, y => eqV a x.1 y.1 && eqV b x.2 y.2
 | .bool, x, y => decide (x = y)
 | .int _, x, y => decide (x = y)
 | .str, x, y => decide (x = y)
 | _, _, _ => false

def intOp (op : BinOp) (k : IntKind) (x y : Int) : Tst (AV × List (Nat × Cell)) :=
 let i (n : Int) : Tst (AV × List (Nat × Cell)) := .ret (.val false [.v (.int k) n], [])
 let b (n : Bool) : Tst (AV × List (Nat × Cell)) := .ret (.val false [.v .bool n], [])
 match op with
 | .add => i (k.wrap (x + y))
 | .sub => i (k.wrap (x - y))
 | .mul => i (k.wrap (x * y))
 | .quo => .chk (¬ y = 0) inferInstance (i (k.wrap (x.tdiv y)))
 | .rem => .chk (¬ y = 0) inferInstance (i (x.tmod y))
 | .and => i (bitsOp k .and x y)
 | .or => i (bitsOp k .or x y)
 | .xor => i (bitsOp k .xor x y)
 | .andNot => i (bitsOp k .andNot x y)
 | .eql => b (decide (x = y))
 | .neq => b (!decide (x = y))
 | .lss => b (decide (x < y))
 | .leq => b (decide (x ≤ y))
 | .gtr => b (decide (y < x))
 | .geq => b (decide (y ≤ x))
 | _ => .fail
def strOp (op : BinOp) (x y : List UInt8) : Tst (AV × List (Nat × Cell)) :=
 let b (n : Bool) : Tst (AV × List (Nat × Cell)) := .ret (.val false [.v .bool n], [])
 match op with
 | .add => .chk (x.length + y.length ≤ 4611686018427387904) inferInstance (.ret (.val false [.v .str (x ++ y)], []))
 | .eql => b (decide (x = y))
 | .neq => b (!decide (x = y))
 | .lss => b (lessS x y)
 | .leq => b (!lessS y x)
 | .gtr => b (lessS y x)
 | .geq => b (!lessS x y)
 | _ => .fail
def wBin (op : BinOp) (t : Nat) (x y : AV) : Way :=
 match x, y with
 | .val false [.v (.int k) a], .val false [.v (.int k') b] => (match op with
  | .shl => { run := fun _ => .chk (0 ≤ b) inferInstance (.ret (.val false [.v (.int k) (shlI k a b)], [])) }
  | .shr => { run := fun _ => .chk (0 ≤ b) inferInstance (.ret (.val false [.v (.int k) (shrI k a b)], [])) }
  | _ => if k = k' then { run := fun _ => intOp op k a b } else .fail)
 | .val false [.v .str a], .val false [.v .str b] => { run := fun _ => strOp op a b }
 | .val false [.v .bool a], .val false [.v .bool b] => (match tab t with
  | some i => (match i.agg, i.ty, op with
   | false, .bool, .eql => .one (.v .bool (decide (a = b)))
   | false, .bool, .neq => .one (.v .bool (!decide (a = b)))
   | _, _, _ => .fail)
  | none => .fail)
 | .val true as_, .val true bs => (match tab t with
  | some i => if i.agg && i.ty.eqB && !i.fields.isEmpty then (match asmAll (fun _ => .absent) i.ty as_, asmAll (fun _ => .absent) i.ty bs with
   | some a, some b => (match op with
    | .eql => .one (.v .bool (eqV i.ty a b))
    | .neq => .one (.v .bool (!eqV i.ty a b))
    | _ => .fail)
   | _, _ => .fail) else .fail
  | none => .fail)
 | _, _ => .fail
def wUn (op : UnOp) (x : AV) : Way :=
 match op, x with
 | .neg, .val false [.v (.int k) n] => .one (.v (.int k) (k.wrap (0 - n)))
 | .not, .val false [.v .bool b] => .one (.v .bool (!b))
 | _, _ => .fail
def wConvert (src dst : Nat) (x : AV) : Way :=
 match x, tab src, tab dst with
 | .val false [.v (.int _) n], some i, some j => (match i.agg, j.agg, i.ty, j.ty with | false, false, .int _, .int k => .one (.v (.int k) (k.wrap n)) | _, _, _, _ => .fail)
 | .val false [.v .str s], some i, some j => (match i.agg, j.agg, i.ty, j.ty with | false, false, .str, .str => .one (.v .str s) | _, _, _, _ => .fail)
 | _, _, _ => .fail

def wPick (c a b : AV) : Way :=
 match c with
 | .val false [.v .bool c] => { run := fun _ => .br c (.ret (a, [])) (.ret (b, [])) }
 | _ => .fail

def buildLs (pl : LV → Bool) (fs : List (Nat × Nat)) : List LV → List (Nat × AV) → Option (List LV)
 | ls, [] => some ls
 | ls, (i, .val g ns) :: ps => match fs[i]? with
  | some (o, ft) => (match tab ft with
   | some j => if Nat.beq ns.length j.ty.cells && !(Nat.beq ns.length 0) && (g || ns.all pl) then (match setLs ls o ns with | some ls => buildLs pl fs ls ps | none => none) else none
   | none => none)
  | none => none
 | _, _ => none
def buildAs (sz : Nat) : List LV → List (Nat × AV) → Option (List LV)
 | ls, [] => some ls
 | ls, (i, .val g ns) :: ps => if Nat.beq ns.length sz && !(Nat.beq ns.length 0) && (g || ns.all plainL) then (match setLs ls (i * sz) ns with | some ls => buildAs sz ls ps | none => none) else none
 | _, _ => none
def wBuildA (t : Nat) (ps : List (Nat × AV)) : Way :=
 match tab t with
 | some i => (match i.agg, i.fields, tab i.elem with
  | true, [], some q => (match Nat.beq i.ty.cells 0, buildAs q.ty.cells i.zero ps with | false, some ls => .val (.val true ls) | _, _ => .fail)
  | _, _, _ => .fail)
 | none => .fail
def wBuild (t : Nat) (ps : List (Nat × AV)) : Way :=
 match tab t with
 | some i => if i.agg && !i.fields.isEmpty then (match buildLs tab plainL i.fields i.zero ps with | some ls => .val (.val true ls) | none => .fail) else .fail
 | none => .fail

def slRds : List LV → List Nat
 | [] => []
 | l :: ls => slRd l ++ slRds ls
def buildRow (e : Ty) : Nat → List (Nat × AV) → Option (List e.den)
 | _, [] => some []
 | n, (i, .val g ls) :: ps => if Nat.beq i n && (g || ls.all plainL) then (match asmAll (fun _ => .absent) e ls, buildRow e (n + 1) ps with | some x, some xs => some (x :: xs) | _, _ => none) else none
 | _, _ => none
def wBuildSlice (dst : Option Nat) (t len : Nat) (ps : List (Nat × AV)) : Way :=
 match dst, slTy tab t with
 | some d, some j => { wr := [d], run := fun H => if isAbsent (H d) && j.ty.pure && Nat.beq ps.length len && Nat.ble (len * j.ty.cells) 16777216 && !(Nat.beq j.ty.cells 0) then (match buildRow j.ty 0 ps with
  | some xs => .ret (.val false [.row d], [(d, .live (.row j.ty xs))])
  | none => .fail) else .fail }
 | _, _ => .fail
def wMakeSlice (dst : Option Nat) (t : Nat) (len cap : AV) : Way :=
 match dst, slTy tab t, len.int, cap.int with
 | some d, some j, some n, some m => { wr := [d], run := fun H => if isAbsent (H d) && j.ty.pure then (match asmAll (fun _ => .absent) j.ty j.zero with
  | some z => .chk (0 ≤ n ∧ n ≤ m ∧ m ≤ 1099511627776) inferInstance (.ret (.val false [.row d], [(d, .live (.row j.ty (List.replicate n.toNat z)))]))
  | none => .fail) else .fail }
 | _, _, _, _ => .fail

def mapHas (τ σ : Ty) (k : τ.den) (m : List (τ.den × σ.den)) : Bool := m.any fun p => eqV τ p.1 k
def mapGet (τ σ : Ty) (k : τ.den) : List (τ.den × σ.den) → σ.den → σ.den
 | [], z => z
 | p :: m, z => if eqV τ p.1 k = true then p.2 else mapGet τ σ k m z
def mapPut (τ σ : Ty) (k : τ.den) (x : σ.den) : List (τ.den × σ.den) → List (τ.den × σ.den)
 | [] => [(k, x)]
 | p :: m => if eqV τ p.1 k = true then (k, x) :: m else p :: mapPut τ σ k x m
def putH (H : Hp) : List (Nat × Cell) → Hp
 | [] => H
 | p :: l => putH (upd H p.1 p.2) l
def only (H : Hp) (l : List Nat) : Hp := fun n => match memN n l with | true => H n | false => .absent
def srcRead (H : Hp) (e : Ty) : LV → Option (List e.den)
 | .nils => some []
 | .v .str s => castTo (.sl (.int .u8)) (.sl e) (s.map fun b => ((b.toNat : Nat) : Int))
 | l => match slRead H l with | some ⟨e', xs⟩ => castTo (.sl e') (.sl e) xs | none => none
def growRow (d : Nat) (e : Ty) (xs ys : List e.den) (ups : List (Nat × Cell)) : Tst (AV × List (Nat × Cell)) :=
 .chk (xs.length + ys.length ≤ 1099511627776) inferInstance (.ret (.val false [.row d], (d, .live (.row e (xs ++ ys))) :: ups))
def appT (ts : Array Nat) (j : TI) (m : LV) : Bool := Nat.beq ts.size 2 && (Nat.beq (ts.getD 0 0) (ts.getD 1 0) || (match m with | .v .str _ => strTy tab (ts.getD 1 0) | _ => (match slTy tab (ts.getD 1 0) with | some q => Nat.beq j.ty.cells q.ty.cells | none => false)))
def wAppend (dst : Option Nat) (ts : Array Nat) (x y : AV) : Way :=
 match dst, slTy tab (ts.getD 0 0), x, y with
 | some d, some j, .val false [l], .val false [m] => if appT tab ts j m then (match l with
  | .nils => { rd := slRd m, wr := [d], run := fun H => if isAbsent (H d) && !(memN d (slRd m)) && j.ty.pure && !(Nat.beq j.ty.cells 0) then (match srcRead H j.ty m with
   | some ys => growRow d j.ty [] ys []
   | none => .fail) else .fail }
  | .row id => { rd := slRd m, wr := [id, d], run := fun H => if isAbsent (H d) && !(Nat.beq id d) && !(memN id (slRd m)) && !(memN d (slRd m)) && j.ty.pure && !(Nat.beq j.ty.cells 0) then (match H id with
   | .live (.row e xs) => (match castTo (.sl e) (.sl j.ty) xs, srcRead H j.ty m with
    | some xs, some ys => growRow d j.ty xs ys [(id, .dead)]
    | _, _ => .fail)
   | _ => .fail) else .fail }
  | .sub id g off => { rd := slRd m, wr := [id, d], run := fun H => if isAbsent (H d) && !(Nat.beq id d) && !(memN id (slRd m)) && !(memN d (slRd m)) && j.ty.pure && !(Nat.beq j.ty.cells 0) then (match H id with
   | .live (.cells g' ls) => (match Nat.beq g g', ls[off]? with
    | true, some (.v (.vec e) xs) => (match castTo (.sl e) (.sl j.ty) xs, srcRead H j.ty m, setLs ls off [.junk] with
     | some xs, some ys, some ls' => growRow d j.ty xs ys [(id, .live (.cells (g' + 1) ls'))]
     | _, _, _ => .fail)
    | _, _ => .fail)
   | _ => .fail) else .fail }
  | _ => .fail) else .fail
 | _, _, _, _ => .fail

def wAppendB (dst : Option Nat) (ts : Array Nat) (x y : AV) : Way :=
 match x with
 | .val false [.mvl id g k key] =>
  let d := 400000 + dst.getD 99999
  let core := wAppend tab dst ts (.val false [.row d]) y
  { wr := id :: d :: (core.rd ++ core.wr), run := fun H => match H id with
   | .live (.mapb g' k' (.vec e) m none) => (match Nat.beq g g', castTo k k' key with
    | true, some key => if isAbsent (H d) && !memN id (d :: (core.rd ++ core.wr)) then
     (core.run (only (upd H d (.live (.row e (mapGet k' (.vec e) key m [])))) (core.rd ++ core.wr))).bind fun r =>
      (match memN d (r.2.map (·.1)), r.2.all fun p => memN p.1 core.wr with
      | true, true => .ret (r.1, r.2 ++ [(id, .live (.mapb (g + 1) k' (.vec e) m (some (key, none))))])
      | _, _ => .fail) else .fail
    | _, _ => .fail)
   | _ => .fail }
 | x => wAppend tab dst ts x y
def wLen (t : Nat) : AV → Way
 | .val false [.v .str s] => if strTy tab t then .one (.v (.int .i64) (s.length : Int)) else .fail
 | .val false [.nils] => (match slTy tab t with | some _ => .one (.v (.int .i64) 0) | none => .fail)
 | .val false [l] => (match slTy tab t with
  | some _ => { rd := slRd l, run := fun H => match slRead H l with
   | some ⟨_, xs⟩ => .ret (.val false [.v (.int .i64) (xs.length : Int)], [])
   | none => .fail }
  | none => .fail)
 | _ => .fail
def mxI (x y : Int) : Int := if x < y then y else x
def mnI (x y : Int) : Int := if y < x then y else x
def foldI (f : Int → Int → Int) (k : IntKind) : Int → List AV → Option Int
 | x, [] => some x
 | x, .val false [.v (.int k') y] :: l => if k = k' then foldI f k (f x y) l else none
 | _, _ => none
def wMinMax (f : Int → Int → Int) : List AV → Way
 | .val false [.v (.int k) x] :: l => (match foldI f k x l with | some y => .one (.v (.int k) y) | none => .fail)
 | _ => .fail

def wExtract (t : AV) (n : Nat) : Way :=
 match t with
 | .tup vs => (match vs[n]? with | some (g, ls) => .val (.val g ls) | none => .fail)
 | _ => .fail

def boxOf (k e : Ty) (key : k.den) (m : List (k.den × Option e.den)) : e.den := (mapGet k (.ptr e) key m none).getD e.dflt
def ownArg (io : Bool) (τ : Ty) : AV → List Nat
 | .val false [.ptr id 0] => (match io, τ with | true, _ => [id] | false, .ptr _ => [id] | _, _ => [])
 | .val false [.row id] => (match io, τ with | false, .vec _ => [id] | _, _ => [])
 | .val false [.mbr id] => (match io, τ with | false, .mapb _ _ => [id] | _, _ => [])
 | _ => []
def argRd (io : Bool) (τ : Ty) (a : AV) : List Nat :=
 match ownArg io τ a, a, io with
 | [], .val _ ls, false => slRds ls
 | _, _, _ => []
def ownIn (H : Hp) (τ : Ty) (g : Bool) (ls : List LV) : Option τ.den :=
 match g == !τ.one with
 | true => (match τ, ls with
  | .vec e, [.row id] => (match H id with | .live (.row e' xs) => castTo (.vec e') (.vec e) xs | _ => none)
  | .mapb k e, [.mbr id] => (match H id with | .live (.mapb _ k' e' mm none) => castTo (.mapb k' e') (.mapb k e) mm | _ => none)
  | τ, ls => asmAll H τ ls)
 | false => none
def argIn (H : Hp) (io : Bool) (τ : Ty) (a : AV) : Option τ.den :=
 match io, a with
 | true, .val false [.ptr id 0] => (match H id with | .live (.cells _ ls) => asmAll (fun _ => .absent) τ ls | _ => none)
 | false, .val g ls => ownIn H τ g ls
 | _, _ => none
def argsIn (H : Hp) : (ps : List (Bool × Ty)) → List AV → Option (ps.foldr (fun p t => Ty.pair p.2 t) .unit).den
 | [], [] => some ()
 | p :: ps, a :: as_ => (match argIn H p.1 p.2 a, argsIn H ps as_ with | some x, some xs => some (x, xs) | _, _ => none)
 | _, _ => none
def verOf : Cell → Nat
 | .live (.cells g _) => g
 | _ => 0
def outsOf (H : Hp) : (ps : List (Bool × Ty)) → List AV → (((ps.filter (·.1)).map (·.2)).foldr Ty.pair .unit).den → List (Nat × Cell)
 | [], _, _ => []
 | (false, τ) :: ps, a :: as_, x => (ownArg false τ a).map (fun i => (i, Cell.dead)) ++ outsOf H ps as_ x
 | (true, τ) :: ps, .val false [.ptr id 0] :: as_, x => (id, .live (.cells (verOf (H id) + 1) (flat τ x.1))) :: outsOf H ps as_ x.2
 | (true, _) :: ps, _ :: as_, x => outsOf H ps as_ x.2
 | (false, _) :: _, [], _ => []
 | (true, _) :: _, [], _ => []
def splitRes : (outs : List Ty) → (more : List Ty) → ((outs ++ more).foldr Ty.pair .unit).den → (outs.foldr Ty.pair .unit).den × (more.foldr Ty.pair .unit).den
 | [], _, x => ((), x)
 | _ :: outs, more, x => let r := splitRes outs more x.2; ((x.1, r.1), r.2)
def resLeaves (d : Nat) (τ : Ty) (x : τ.den) : (Bool × List LV) × List (Nat × Cell) :=
 match τ, x with
 | .vec e, x => ((false, [.row d]), [(d, .live (.row e x))])
 | .mapb k e, x => ((false, [.mbr d]), [(d, .live (.mapb 0 k e x none))])
 | .ptr e, none => ((false, [.nilp]), [(d, .live (.row .unit []))])
 | .ptr e, some y => ((false, [.ptr d 0]), [(d, .live (.cells 0 (flat e y)))])
 | .pair a b, x => ((true, flat (.pair a b) x), [])
 | .unit, x => ((true, []), [])
 | τ, x => ((false, flat τ x), [])
def resAll (d : Nat) : Nat → (outs : List Ty) → (outs.foldr Ty.pair .unit).den → List (Bool × List LV) × List (Nat × Cell)
 | _, [], _ => ([], [])
 | j, τ :: outs, x => let r := resLeaves (d + 100000 * j) τ x.1; let s := resAll d (j + 1) outs x.2; (r.1 :: s.1, r.2 ++ s.2)
def resIds (d : Nat) : Nat → List Ty → List Nat
 | _, [] => []
 | j, .vec _ :: outs => (d + 100000 * j) :: resIds d (j + 1) outs
 | j, .mapb _ _ :: outs => (d + 100000 * j) :: resIds d (j + 1) outs
 | j, .ptr _ :: outs => (d + 100000 * j) :: resIds d (j + 1) outs
 | j, _ :: outs => resIds d (j + 1) outs
def argOwns : List (Bool × Ty) → List AV → List Nat
 | p :: ps, a :: as_ => ownArg p.1 p.2 a ++ argOwns ps as_
 | _, _ => []
def rdIds : List (Bool × Ty) → List AV → List Nat
 | p :: ps, a :: as_ => argRd p.1 p.2 a ++ rdIds ps as_
 | _, _ => []
def Ty.vecP : Ty → Bool
 | .vec e => e.pure
 | _ => false
def Ty.mapP : Ty → Bool
 | .mapb _ _ => true
 | .ptr _ => true
 | _ => false
def ptrBr {α : Type} : (outs : List Ty) → (outs.foldr Ty.pair .unit).den → ((outs.foldr Ty.pair .unit).den → Tst α) → Tst α
 | [], x, k => k x
 | .ptr e :: outs, x, k => .br x.1.isSome (ptrBr outs x.2 fun y => k (some (x.1.getD e.dflt), y)) (ptrBr outs x.2 fun y => k (none, y))
 | _ :: outs, x, k => ptrBr outs x.2 fun y => k (x.1, y)
def rowish : Cell → Bool
 | .live (.row e _) => e.pure
 | .live (.mapo _ _ _) => true
 | .frz _ _ => true
 | .frzm _ _ _ => true
 | _ => false
def avOf : List (Bool × List LV) → AV
 | [(g, ls)] => .val g ls
 | vs => .tup vs
def freezeUps (H : Hp) : List Nat → List (Nat × Cell)
 | [] => []
 | id :: l => match H id with | .live (.row e xs) => (id, .frz e xs) :: freezeUps H l | .live (.mapo k e mm) => (id, .frzm k e mm) :: freezeUps H l | _ => freezeUps H l
def wCallF (F : FunE) (dst : Option Nat) (as_ : List AV) : Way :=
 let d := dst.getD 99999
 let lends := !(F.outs.all Ty.flatB && (F.ins.all fun p => !p.1 || p.2.flatB))
 let rows := rdIds F.ins as_
 let owns := argOwns F.ins as_
 let news := resIds d 0 F.outs
 { rd := if lends then [] else rows, wr := owns ++ news ++ (if lends then rows else []), run := fun H => if nodupN (owns ++ news) && (owns.all fun i => !memN i rows) && (news.all fun i => isAbsent (H i)) && (F.ins.all fun p => p.1 || p.2.pure || p.2.vecP) && (F.outs.all fun τ => τ.pure || τ.vecP || τ.mapP) && (!lends || rows.all fun i => rowish (H i)) then (match argsIn H F.ins as_ with
  | some xs => .opt (F.f xs) fun r =>
   let s := splitRes F.outs _ r
   ptrBr F.outs s.1 fun s1 =>
   let q := resAll d 0 F.outs s1
   .ret (avOf q.1, outsOf H F.ins as_ s.2 ++ q.2 ++ (if lends then freezeUps H rows else []))
  | none => .fail) else .fail }
def wCallRow (e : Ty) (f : List e.den → Option (List e.den)) (as_ : List AV) : Way :=
 match as_ with
 | [.val false [.row id]] => { wr := [id], run := fun H => match H id with
  | .live (.row e' xs) => (match castTo (.vec e') (.vec e) xs with
   | some xs => .opt (f xs) fun ys => .ret (.tup [], [(id, .live (.row e ys))])
   | none => .fail)
  | _ => .fail }
 | _ => .fail
def wCallM (F : FunE) (dst : Option Nat) (as_ : List AV) : Way :=
 match as_ with
 | .val false [.mel id g k key 0] :: as' =>
  let d := 300000 + dst.getD 99999
  let core := wCallF F dst (.val false [.ptr d 0] :: as')
  { wr := id :: d :: (core.rd ++ core.wr), run := fun H => match H id with
   | .live (.mapb g' k' (.ptr e) m none) => (match Nat.beq g g', castTo k k' key with
    | true, some key => if isAbsent (H d) && !memN id (d :: (core.rd ++ core.wr)) then
     (core.run (only (upd H d (.live (.cells 0 (flat e (boxOf k' e key m))))) (core.rd ++ core.wr))).bind fun r =>
      (match putH (fun _ => .absent) r.2 d, r.2.all fun p => memN p.1 core.wr with
      | .live (.cells _ ls), true => (match asmAll (fun _ => .absent) e ls with
       | some y => .ret (r.1, r.2 ++ [(d, .dead), (id, .live (.mapb g k' (.ptr e) (mapPut k' (.ptr e) key (some y) m) none))])
       | none => .fail)
      | _, _ => .fail) else .fail
    | _, _ => .fail)
   | _ => .fail }
 | as_ => wCallF F dst as_
def wCall (dst : Option Nat) (c : Call) (args : List AV) (callee : Option AV) : Way :=
 match c.callee with
 | .builtin .len => (match args, Nat.beq c.argTypes.size 1 with | [a], true => wLen tab (c.argTypes.getD 0 0) a | _, _ => .fail)
 | .builtin .append => (match args with | [a, b] => wAppendB tab dst c.argTypes a b | _ => .fail)
 | .builtin .max => wMinMax mxI args
 | .builtin .min => wMinMax mnI args
 | .value _ => (match callee with
  | some (.val false [.v (.fnv f) _]) => (match T f with
   | some F => (match F.row with
    | some q => wCallRow q.1 q.2 args
    | none => wCallM F dst args)
   | none => .fail)
  | _ => .fail)
 | _ => .fail

def Ty.keyB : Ty → Bool
 | .bool => true
 | .int _ => true
 | .str => true
 | _ => false
def mapTy (t : Nat) : Option (TI × TI) := match tab t with
 | some i => (match i.agg, i.ty with
  | false, .map _ _ => (match tab i.key, tab i.elem with
   | some kj, some ej => (match kj.agg, kj.ty.keyB with | false, true => some (kj, ej) | _, _ => none)
   | _, _ => none)
  | _, _ => none)
 | none => none
def wMakeMap (dst : Option Nat) (t : Nat) : Way :=
 match dst, mapTy tab t with
 | some d, some (kj, ej) => { wr := [d], run := fun H => if isAbsent (H d) then .ret (.val false [.mapr d], [(d, .live (.mapo kj.ty ej.ty []))]) else .fail }
 | _, _ => .fail
def wMapUpdate (t : Nat) (a k x : AV) : Way :=
 match mapTy tab t, a, k, x with
 | some (kj, _), .val false [.mapr id], .val false ks, .val g ls => { wr := [id], run := fun H => match H id with
  | .live (.mapo τ σ m) => if decide (kj.ty = τ) && (g == !σ.one) then (match asmAll (fun _ => .absent) τ ks, asmAll (fun _ => .absent) σ ls with
   | some k, some y => .ret (.undef, [(id, .live (.mapo τ σ (mapPut τ σ k y m)))])
   | _, _ => .fail) else .fail
  | _ => .fail }
 | _, _, _, _ => .fail
def mapRead (H : Hp) : LV → Option ((k : Ty) × (e : Ty) × List (k.den × e.den))
 | .v (.fmap k e) m => some ⟨k, e, m⟩
 | .mapr id => match H id with
  | .live (.mapo k e m) => some ⟨k, e, m⟩
  | .frzm k e m => some ⟨k, e, m⟩
  | _ => none
 | _ => none
def wLookup (t : Nat) (a k : AV) (ok : Bool) : Way :=
 match mapTy tab t, a, k with
 | some (kj, ej), .val false [l], .val false ks => { rd := slRd l, run := fun H => match mapRead H l with
  | some ⟨τ, σ, m⟩ => if decide (kj.ty = τ) && (ej.agg == !σ.one) then (match asmAll (fun _ => .absent) τ ks, asmAll (fun _ => .absent) σ ej.zero with
   | some k, some z => let y := mapGet τ σ k m z
    .ret (if ok then .tup [(!σ.one, flat σ y), (false, [.v .bool (mapHas τ σ k m)])] else .val (!σ.one) (flat σ y), [])
   | _, _ => .fail) else .fail
  | none => .fail }
 | _, _, _ => .fail

def mapTyA (t : Nat) : Option (TI × TI) := match tab t with
 | some i => (match i.agg, i.ty with
  | false, .map _ _ => (match tab i.key, tab i.elem with
   | some kj, some ej => (match kj.agg, kj.fields, kj.ty, tab kj.elem with
    | true, [], .pair .str .str, some q => (match q.agg, q.ty with | false, .str => some (kj, ej) | _, _ => none)
    | _, _, _, _ => none)
   | _, _ => none)
  | _, _ => none)
 | none => none
def wMakeMapA (dst : Option Nat) (t : Nat) : Way :=
 match mapTyA tab t, dst with
 | some (kj, ej), some d => { wr := [d], run := fun H => if isAbsent (H d) then .ret (.val false [.mapr d], [(d, .live (.mapo (.pair .str .str) ej.ty []))]) else .fail }
 | _, _ => wMakeMap tab dst t
def wMapUpdateA (t : Nat) (a k x : AV) : Way :=
 match mapTyA tab t, a, k, x with
 | some _, .val false [.mapr id], .val true ks, .val g ls => { wr := [id], run := fun H => match H id with
  | .live (.mapo (.pair .str .str) σ m) => if (g == !σ.one) then (match asmAll (fun _ => .absent) (.pair .str .str) ks, asmAll (fun _ => .absent) σ ls with
   | some k, some y => .ret (.undef, [(id, .live (.mapo (.pair .str .str) σ (mapPut (.pair .str .str) σ k y m)))])
   | _, _ => .fail) else .fail
  | _ => .fail }
 | _, _, _, _ => .fail
def wLookupA (t : Nat) (a k : AV) (ok : Bool) : Way :=
 match mapTyA tab t, a, k with
 | some (_, ej), .val false [l], .val true ks => { rd := slRd l, run := fun H => match mapRead H l with
  | some ⟨.pair .str .str, σ, m⟩ => if (ej.agg == !σ.one) then (match asmAll (fun _ => .absent) (.pair .str .str) ks, asmAll (fun _ => .absent) σ ej.zero with
   | some k, some z => let y := mapGet (.pair .str .str) σ k m z
    .ret (if ok then .tup [(!σ.one, flat σ y), (false, [.v .bool (mapHas (.pair .str .str) σ k m)])] else .val (!σ.one) (flat σ y), [])
   | _, _ => .fail) else .fail
  | _ => .fail }
 | _, _, _ => wLookup tab t a k ok

def wRange (dst : Option Nat) (t : Nat) (a : AV) : Way :=
 match dst, mapTy tab t, a with
 | some d, some _, .val false [.mapr id] => { wr := [id, d], run := fun H => if isAbsent (H d) && !(Nat.beq id d) then (match H id with
  | .live (.mapo k e m) => .ret (.val false [.itr d], [(id, .frzm k e m), (d, .live (.iter k e none m))])
  | .frzm k e m => .ret (.val false [.itr d], [(id, .frzm k e m), (d, .live (.iter k e none m))])
  | _ => .fail) else .fail }
 | some d, some _, .val false [.v (.fmap k e) m] => { wr := [d], run := fun H => if isAbsent (H d) then .ret (.val false [.itr d], [(d, .live (.iter k e none m))]) else .fail }
 | _, _, _ => .fail
def wEntry (a : AV) : Way :=
 match a with
 | .val false [.itr id] => { rd := [id], run := fun H => match H id with
  | .live (.iter k e (some p) _) => .ret (.tup [(!k.one, flat k p.1), (!e.one, flat e p.2)], [])
  | _ => .fail }
 | _ => .fail
def wNilCheck : AV → Way
 | .val false [.ptr id off] => { rd := [id], run := fun H => match H id with
  | .live (.cells _ _) => .ret (.val false [.ptr id off], [])
  | _ => .fail }
 | .val false [.rel id n off] => { rd := [id], run := fun H => match H id with
  | .live (.row _ _) => .ret (.val false [.rel id n off], [])
  | _ => .fail }
 | .val false [.pel τ x off] => .one (.pel τ x off)
 | _ => .fail
def thaw (H : Hp) : LV → LV
 | .row id => match H id with
  | .live (.row e xs) => (match e.pure with | true => .v (.sl e) xs | false => .junk)
  | .frz e xs => .v (.sl e) xs
  | _ => .junk
 | .mapr id => match H id with
  | .live (.mapo k e mm) => .v (.fmap k e) mm
  | .frzm k e mm => .v (.fmap k e) mm
  | _ => .junk
 | .sub id g off => match H id with
  | .live (.cells g' ls) => (match Nat.beq g g', ls[off]? with
   | true, some (.v (.vec e) xs) => (match e.pure with | true => .v (.sl e) xs | false => .junk)
   | _, _ => .junk)
  | _ => .junk
 | .vw e xs => .v (.sl e) xs
 | l => l
def fz1 (H : Hp) : LV → List (Nat × Cell)
 | .row id => match H id with
  | .live (.row e xs) => (match e.pure with | true => [(id, .frz e xs)] | false => [])
  | _ => []
 | .mapr id => match H id with
  | .live (.mapo k e mm) => [(id, .frzm k e mm)]
  | _ => []
 | .sub id g off => match H id with
  | .live (.cells g' ls) => (match Nat.beq g g', ls[off]? with
   | true, some (.v (.vec e) xs) => (match e.pure with | true => [(id, .live (.cells (g' + 1) (ls.set off (.v (.sl e) xs))))] | false => [])
   | _, _ => [])
  | _ => []
 | _ => []
def fzL (H : Hp) : List LV → List LV × List (Nat × Cell)
 | [] => ([], [])
 | l :: ls => let r := fzL (putH H (fz1 H l)) ls; (thaw H l :: r.1, fz1 H l ++ r.2)
def fzA (H : Hp) : AV → AV × List (Nat × Cell)
 | .val g ls => let r := fzL H ls; (.val g r.1, r.2)
 | v => (v, [])
def fzPs (H : Hp) : List (Nat × AV) → List (Nat × AV) × List (Nat × Cell)
 | [] => ([], [])
 | p :: ps => let q := fzA H p.2; let r := fzPs (putH H q.2) ps; ((p.1, q.1) :: r.1, q.2 ++ r.2)
def avRds : AV → List Nat
 | .val _ ls => slRds ls
 | _ => []
def psRds : List (Nat × AV) → List Nat
 | [] => []
 | p :: ps => avRds p.2 ++ psRds ps
def wFz {β : Type} (ids K : List Nat) (tr : Hp → β × List (Nat × Cell)) (core : β → Way) : Way :=
 { wr := K ++ ids, run := fun H => let q := tr H
  match (core q.1).rd, disjN ids K with
  | [], true => ((core q.1).run (only (putH H q.2) (core q.1).wr)).bind fun r => .ret (r.1, q.2 ++ r.2)
  | _, _ => .fail }
def wBuildSliceF (dst : Option Nat) (t len : Nat) (ps : List (Nat × AV)) : Way :=
 match psRds ps, dst with
 | [], _ => wBuildSlice tab dst t len ps
 | ids, some d => wFz ids [d] (fun H => fzPs H ps) fun ps => wBuildSlice tab dst t len ps
 | _, none => .fail
def wMapUpdateF (t : Nat) (a k x : AV) : Way :=
 match avRds x, a with
 | [], _ => wMapUpdate tab t a k x
 | ids, .val false [.mapr id] => wFz ids [id] (fun H => fzA H x) fun x => wMapUpdate tab t a k x
 | _, _ => .fail
def mapTyB (t : Nat) : Option (TI × TI × Ty) := match mapTy tab t, tab t with
 | some (kj, ej), some i => (match i.ty with
  | .map _ (.ptr e) => (match ej.agg, ej.ty.one, ej.zero with | false, true, [.nilp] => some (kj, ej, .ptr e) | _, _, _ => none)
  | .map _ (.vec e) => (match ej.agg, ej.zero, e.pure with | false, [.nils], true => some (kj, ej, .vec e) | _, _, _ => none)
  | _ => none)
 | _, _ => none
def wMakeMapB (dst : Option Nat) (t : Nat) : Way :=
 match mapTyB tab t, dst with
 | some (kj, _, σ), some d => { wr := [d], run := fun H => if isAbsent (H d) then .ret (.val false [.mbr d], [(d, .live (.mapb 0 kj.ty σ [] none))]) else .fail }
 | _, _ => wMakeMapA tab dst t
def wMapUpdateB (t : Nat) (a k x : AV) : Way :=
 match a, x with
 | .val false [.mbr id], .val false [.ptr id2 0] => (match mapTy tab t, k with
  | some (kj, _), .val false ks => { wr := [id, id2], run := fun H => match H id, H id2 with
   | .live (.mapb g τ (.ptr e) m none), .live (.cells _ ls) => if decide (kj.ty = τ) && !(Nat.beq id id2) then (match asmAll (fun _ => .absent) τ ks, asmAll (fun _ => .absent) e ls with
    | some k, some y => .ret (.undef, [(id, .live (.mapb (g + 1) τ (.ptr e) (mapPut τ (.ptr e) k (some y) m) none)), (id2, .dead)])
    | _, _ => .fail) else .fail
   | _, _ => .fail }
  | _, _ => .fail)
 | .val false [.mbr id], .val false [.row id2] => (match mapTy tab t, k with
  | some (kj, _), .val false ks => { wr := [id, id2], run := fun H => match H id, H id2 with
   | .live (.mapb g τ (.vec e) m (some (hk, none))), .live (.row e' xs) => if decide (kj.ty = τ) && !(Nat.beq id id2) then (match asmAll (fun _ => .absent) τ ks, castTo (.vec e') (.vec e) xs with
    | some k, some xs => .chk (eqV τ k hk = true) inferInstance (.ret (.undef, [(id, .live (.mapb (g + 1) τ (.vec e) (mapPut τ (.vec e) k xs m) none)), (id2, .dead)]))
    | _, _ => .fail) else .fail
   | _, _ => .fail }
  | _, _ => .fail)
 | _, _ => wMapUpdateF tab t a k x
def wLookupB (t : Nat) (a k : AV) (ok : Bool) : Way :=
 match a with
 | .val false [.mbr id] => (match mapTy tab t, k, ok with
  | some (kj, ej), .val false ks, false => { rd := [id], run := fun H => match H id, ej.agg, ej.zero with
   | .live (.mapb g τ (.ptr e) m none), false, [.nilp] => if decide (kj.ty = τ) then (match asmAll (fun _ => .absent) τ ks with
    | some k => .br (mapGet τ (.ptr e) k m none).isSome (.ret (.val false [.mel id g τ k 0], [])) (.ret (.val false [.nilp], []))
    | none => .fail) else .fail
   | .live (.mapb g τ (.vec e) m none), false, [.nils] => if decide (kj.ty = τ) then (match asmAll (fun _ => .absent) τ ks with
    | some k => .ret (.val false [.mvl id g τ k], [])
    | none => .fail) else .fail
   | _, _, _ => .fail }
  | _, _, _ => .fail)
 | _ => wLookupA tab t a k ok
def pureL : LV → Bool
 | .v τ _ => τ.pure
 | .nils => true
 | .nilm => true
 | .nilp => true
 | _ => false
def wLoadB (t : Nat) (a : AV) : Way :=
 match a with
 | .val false [.mel id g k key off] => (match tab t with
  | some i => { rd := [id], run := fun H => match H id with
   | .live (.mapb g' k' (.ptr e) m none) => (match Nat.beq g g', castTo k k' key with
    | true, some key => (match takeN i.ty.cells ((flat e (boxOf k' e key m)).drop off) with
     | some ns => if ns.all pureL then .ret (.val i.agg ns, []) else .fail
     | none => .fail)
    | _, _ => .fail)
   | _ => .fail }
  | none => .fail)
 | a => wLoad tab t a
def wFieldAddrB (s : Nat) (a : AV) (f : Nat) : Way :=
 match a with
 | .val false [.mel id g k key off] => (match fieldOff tab s f with
  | some o => { rd := [id], run := fun H => match H id with
   | .live (.mapb g' k' (.ptr _) _ none) => (match Nat.beq g g', decide (k = k') with
    | true, true => .ret (.val false [.mel id g k key (off + o)], [])
    | _, _ => .fail)
   | _ => .fail }
  | none => .fail)
 | a => wFieldAddr tab s a f
def wNilCheckB (a : AV) : Way :=
 match a with
 | .val false [.mel id g k key off] => { rd := [id], run := fun H => match H id with
  | .live (.mapb g' k' (.ptr _) _ none) => (match Nat.beq g g', decide (k = k') with
   | true, true => .ret (.val false [.mel id g k key off], [])
   | _, _ => .fail)
  | _ => .fail }
 | a => wNilCheck a
def wConvertB (s d : Nat) (x : AV) : Way :=
 match x with
 | .val false [.row id] => (match Nat.beq s d, slTy tab s with
  | true, some q => { wr := [id], run := fun H => match q.agg, q.ty, H id with
   | false, .int .u8, .live (.row (.int .u8) xs) => .chk (¬ xs.length = 0) inferInstance (.ret (.val false [.v (.sl (.int .u8)) xs], [(id, .dead)]))
   | _, _, _ => .fail }
  | _, _ => .fail)
 | x => wConvert tab s d x
def ptrTy (t : Nat) : Bool := match tab t with
 | some i => (match i.agg, i.ty with | false, .ptr _ => true | _, _ => false)
 | none => false
def wBinB (op : BinOp) (t : Nat) (x y : AV) : Way :=
 match x, y with
 | .val false [.nilp], .val false [.nilp] => (match ptrTy tab t, op with
  | true, .eql => .one (.v .bool true)
  | true, .neq => .one (.v .bool false)
  | _, _ => .fail)
 | .val false [.mel id g k key off], .val false [.nilp] => { rd := [id], run := fun H => match H id with
  | .live (.mapb g' k' (.ptr _) _ none) => (match Nat.beq g g', decide (k = k'), ptrTy tab t, op with
   | true, true, true, .eql => .ret (.val false [.v .bool false], [])
   | true, true, true, .neq => .ret (.val false [.v .bool true], [])
   | _, _, _, _ => .fail)
  | _ => .fail }
 | x, y => wBin tab op t x y
def wBinN (op : BinOp) (t : Nat) (X : AV) (y : Operand) (Y : AV) : Way :=
 match X, y with
 | .val false [.v (.nsl _) xs], .const (.slice none 0 0) => (match slTy tab t, op with
  | some _, .eql => .one (.v .bool xs.isEmpty)
  | some _, .neq => .one (.v .bool (!xs.isEmpty))
  | _, _ => .fail)
 | X, _ => wBinB tab op t X Y
def unpin : AV → AV
 | .val false [.pptr id off _] => .val false [.ptr id off]
 | v => v
def pinAt (off : Nat) : List (Nat × Nat × Bool) → Option (Nat × Bool)
 | [] => none
 | q :: ps => match Nat.beq q.1 off with | true => some q.2 | false => pinAt off ps
def mapTB (t : Nat) : Bool := match tab t with
 | some i => (match i.agg, i.ty with | false, .map _ _ => true | _, _ => false)
 | none => false
def wLoadP (dst : Option Nat) (t : Nat) (a : AV) : Way :=
 match a, dst, mapTB tab t with
 | .val false [.pptr id off ps], _, true => (match pinAt off ps with
  | some (m, b) => { rd := [id], run := fun H => match H id with
   | .live (.cells _ ls) => (match ls[off]? with
    | some .cst => .ret (.val false [match b with | true => .mbr m | false => .mapr m], [])
    | _ => .fail)
   | _ => .fail }
  | none => .fail)
 | .val false [.pptr id off _], _, false => wLoadB tab t (.val false [.ptr id off])
 | .val false [.ptr id off], some dd, true => let d := 500000 + dd
  { wr := [id, d], run := fun H => match H id with
   | .live (.cells g ls) => (match ls[off]? with
    | some (.v (.map k e) mm) => if isAbsent (H d) && !(Nat.beq id d) then .ret (.val false [.mfl d id (g + 1) off], [(d, .live (.mapo k e mm)), (id, .live (.cells (g + 1) (ls.set off .junk)))]) else .fail
    | some (.v (.fmap k e) mm) => .ret (.val false [.v (.fmap k e) mm], [])
    | _ => .fail)
   | _ => .fail }
 | a, _, _ => wLoadB tab t a
def wFieldAddrP (s : Nat) (a : AV) (f : Nat) : Way :=
 match a with
 | .val false [.pptr id off ps] => (match fieldOff tab s f with
  | some o => { rd := [id], run := fun H => match H id with
   | .live (.cells _ _) => .ret (.val false [.pptr id (off + o) ps], [])
   | _ => .fail }
  | none => .fail)
 | a => wFieldAddrB tab s a f
def wNilCheckP (a : AV) : Way :=
 match a with
 | .val false [.pptr id off ps] => { rd := [id], run := fun H => match H id with
  | .live (.cells _ _) => .ret (.val false [.pptr id off ps], [])
  | _ => .fail }
 | a => wNilCheckB a
def wMapUpdateP (t : Nat) (a k x : AV) : Way :=
 match a with
 | .val false [.mfl m id g0 off] =>
  let core := wMapUpdateB tab t (.val false [.mapr m]) k x
  { wr := id :: m :: (core.rd ++ core.wr), run := fun H => match H id with
   | .live (.cells g ls) => (match Nat.beq g g0, Nat.blt off ls.length, memN id (m :: (core.rd ++ core.wr)) with
    | true, true, false => (core.run (only H (core.rd ++ core.wr))).bind fun r =>
     (match putH H r.2 m, r.2.all fun p => memN p.1 core.wr with
     | .live (.mapo k e mm), true => .ret (r.1, r.2 ++ [(m, .dead), (id, .live (.cells (g + 1) (ls.set off (.v (.map k e) mm))))])
     | _, _ => .fail)
    | _, _, _ => .fail)
   | _ => .fail }
 | .val false [.mapr id] => (match k with
  | .val true _ => wMapUpdateA tab t a k x
  | _ => wMapUpdateB tab t a k x)
 | a => wMapUpdateB tab t a k x
def wRangeP (dst : Option Nat) (t : Nat) (a : AV) : Way :=
 match a with
 | .val false [.mfl m _ _ _] => wRange tab dst t (.val false [.mapr m])
 | a => wRange tab dst t a
def psPins : List (Nat × AV) → List (Nat × Nat × Bool)
 | [] => []
 | (_, .val _ ls) :: ps => pinsOf 0 ls ++ psPins ps
 | _ :: ps => psPins ps
def wBuildP (t : Nat) (ps : List (Nat × AV)) : Way :=
 match tab t with
 | some i => (match i.fields, psPins ps with
  | [], _ => wBuildA tab t ps
  | _, [] => wBuild tab t ps
  | _, _ => if i.agg && !i.fields.isEmpty then { rd := (psPins ps).map (·.2.1), run := fun H => if (psPins ps).all (pinLive H) then (match buildLs tab pinB i.fields i.zero ps with | some ls => .ret (.val true ls, []) | none => .fail) else .fail } else .fail)
 | none => .fail
def way (E : Env) (o : Oper) : Way :=
 match o.op with
 | .move x => .val (evalO E x)
 | .assign x => .val (evalO E x)
 | .pick c a b => wPick (evalO E c) (evalO E a) (evalO E b)
 | .nilCheck x => wNilCheckP (evalO E x)
 | .alloc t => (match tab t with | some i => wBox o.dst (.val true i.zero) | none => .fail)
 | .box _ x => wBoxP o.dst (evalO E x)
 | .build t ps => wBuildP tab t (ps.toList.map fun p => (p.1, evalO E p.2))
 | .buildSlice t n ps => wBuildSliceF tab o.dst t n (ps.toList.map fun p => (p.1, evalO E p.2))
 | .load t a => wLoadP tab o.dst t (evalO E a)
 | .store t a x => wStore tab t (unpin (evalO E a)) (evalO E x)
 | .binOp op t x y _ => wBinN tab op t (evalO E x) y (evalO E y)
 | .unOp op _ x => wUn op (evalO E x)
 | .convert s d x => wConvertB tab s d (evalO E x)
 | .makeSlice t l c => wMakeSlice tab o.dst t (evalO E l) (evalO E c)
 | .slice t x lo hi none => wSlice tab o.dst t (evalO E x) (lo.map (evalO E)) (hi.map (evalO E))
 | .fieldAddr s x f => wFieldAddrP tab s (evalO E x) f
 | .field s x f => wField tab s (evalO E x) f
 | .indexAddr t x i => wIndexAddr tab t (evalO E x) (evalO E i)
 | .index t x i => wIndex tab t (evalO E x) (evalO E i)
 | .extract t n => wExtract (evalO E t) n
 | .call c => wCall tab T o.dst c (c.args.toList.map (evalO E)) (match c.callee with | .value f => some (evalO E f) | _ => none)
 | .makeMap t none => wMakeMapB tab o.dst t
 | .mapUpdate t m k x => wMapUpdateP tab t (evalO E m) (evalO E k) (evalO E x)
 | .insert t m k x => wMapUpdateP tab t (evalO E m) (evalO E k) (evalO E x)
 | .lookup t m k ok => wLookupB tab t (evalO E m) (evalO E k) ok
 | .range t x => wRangeP tab o.dst t (evalO E x)
 | .entry x => wEntry (evalO E x)
 | _ => .fail

def bLV (b : Bool) : AV := .val false [.v .bool b]
def nilWay (t : Nat) (H : Hp) (eq : Bool) : AV → Option (DT (AV × List (Nat × Cell)))
 | .val false [.nils] => (match slTy tab t with | some _ => some (.ret (bLV eq, [])) | none => none)
 | .val false [.v (.nsl _) xs] => (match slTy tab t with | some _ => some (.ret (match eq with | true => bLV xs.isEmpty | false => bLV (!xs.isEmpty), [])) | none => none)
 | .val false [l] => (match slTy tab t, slRead (only H (slRd l)) l with
  | some _, some ⟨_, xs⟩ => some (.may (xs.length = 0) inferInstance (.ret (bLV eq, [])) (.ret (bLV (!eq), [])))
  | _, _ => none)
 | _ => none
def nextWay (H : Hp) : AV → Option (DT (AV × List (Nat × Cell)))
 | .val false [.itr id] => (match H id with
  | .live (.iter k e _ rest) => some (.each rest (.ret (.tup [(false, [.v .bool false])], [])) fun p r => .ret (.tup [(false, [.v .bool true]), (!k.one, flat k p.1), (!e.one, flat e p.2)], [(id, .live (.iter k e (some p) r))]))
  | _ => none)
 | _ => none
def wayD (E : Env) (H : Hp) (o : Oper) : Option (DT (AV × List (Nat × Cell))) :=
 match o.guard with
 | some _ => none
 | none => (match o.op with
  | .binOp .eql t x (.const (.slice none 0 0)) _ => nilWay tab t H true (evalO E x)
  | .binOp .neq t x (.const (.slice none 0 0)) _ => nilWay tab t H false (evalO E x)
  | .next x false => nextWay H (evalO E x)
  | _ => none)
def putE (E : Env) (dst : Option Nat) (v : AV) : Env := match dst with | some d => upd E d v | none => E
def stepT (E : Env) (H : Hp) (o : Oper) : Tst (Env × Hp) :=
 let w := way tab T E o
 (w.run (only H (w.rd ++ w.wr))).bind fun r => match r.2.all fun p => memN p.1 w.wr with
  | true => .ret (putE E o.dst r.1, putH H r.2)
  | false => .fail

inductive Gd where
 | yes | no | ask (s : Nat) (b want : Bool) | bad
def guardOf (ops : Array Oper) (E : Env) (o : Oper) : Gd :=
 match o.guard with
 | none => .yes
 | some (j, want) => match ops[j]? with
  | some oj => (match oj.dst with
   | some s => (match E s with
    | .undef => .no
    | .val false [.v .bool b] => .ask s b want
    | _ => .bad)
   | none => .bad)
  | none => .bad
def stepG (ops : Array Oper) (E : Env) (H : Hp) (o : Oper) : Tst (Env × Hp) :=
 match guardOf ops E o with
 | .yes => stepT tab T E H o
 | .no => .ret (putE E o.dst .undef, H)
 | .ask s b true => .br b (stepT tab T (upd E s (bLV true)) H o) (.ret (putE (upd E s (bLV false)) o.dst .undef, H))
 | .ask s b false => .br b (.ret (putE (upd E s (bLV true)) o.dst .undef, H)) (stepT tab T (upd E s (bLV false)) H o)
 | .bad => .fail

abbrev Fp := List Nat × List Nat
def fpOf (ops : Array Oper) (E : Env) (o : Oper) : Fp := ((way tab T E o).rd, (way tab T E o).wr)
def disj (a b : List Nat) : Bool := a.all fun n => !memN n b
def apartFp (a b : Fp) : Bool := disj a.2 (b.1 ++ b.2) && disj b.2 (a.1 ++ a.2)
def fpsOk (ops : Array Oper) (fps : List Fp) : Bool :=
 let b := Region.before ops
 fps.zipIdx.all fun x => (fps.take x.2).zipIdx.all fun y => (b.getD x.2 0).testBit y.2 || apartFp x.1 y.1

variable {R : Type}
noncomputable def runOps (ops : Array Oper) : List Oper → Env → Hp → (Env → Hp → Option R) → Option R
 | [], E, H, K => K E H
 | o :: l, E, H, K => match wayD tab E H o with
  | none => (stepG tab T ops E H o).to fun r => runOps ops l r.1 r.2 K
  | some t => t.to fun r => runOps ops l (putE E o.dst r.1) (putH H r.2) K
def runOpsD (ops : Array Oper) : List Oper → Env → Hp → List Fp → (Env → Hp → Option R) → Option R
 | [], E, H, fps, K => match fpsOk ops fps with | true => K E H | false => none
 | o :: l, E, H, fps, K => (stepG tab T ops E H o).to fun r => runOpsD ops l r.1 r.2 (fps ++ [fpOf tab T ops E o]) K

inductive Keep where
 | slot (t : Nat)
 | vec (t : Nat) (e : Ty)
 | lit (t : Nat) (e : Ty)
 | obj (t : Nat) (τ : Ty)
 | same (t u : Nat)
 | view (t u : Nat)
 | rows (t : Nat)
 | nlit (t : Nat) (e : Ty)
 | pobj (t : Nat) (ts : List Ty) (us : List Nat)
def headId (t : Nat) : Nat := 1000000 + t
def bare : LV → LV
 | .v τ x => .v τ x
 | .nils => .nils
 | .nilm => .nilm
 | .nilp => .nilp
 | .vw e xs => .v (.sl e) xs
 | .pel τ x off => .pel τ x off
 | _ => .junk
def Keep.tmp : Keep → Nat
 | .slot t => t
 | .vec t _ => t
 | .lit t _ => t
 | .obj t _ => t
 | .same t _ => t
 | .view t _ => t
 | .rows t => t
 | .nlit t _ => t
 | .pobj t _ _ => t
def sameAV (H : Hp) : AV → AV → Bool
 | .val false [.row a], .val false [.row b] => Nat.beq a b && (match H a with | .live (.row _ _) => true | .frz _ _ => true | _ => false)
 | .val false [.mapr a], .val false [.mapr b] => Nat.beq a b && (match H a with | .live (.mapo _ _ _) => true | .frzm _ _ _ => true | _ => false)
 | .val false [.ptr a o], .val false [.ptr b o'] => Nat.beq a b && Nat.beq o o' && (match H a with | .live (.cells _ _) => true | _ => false)
 | _, _ => false
def viewAV (H : Hp) (h : Nat) : AV → AV → AV → Option AV
 | .val false [.subv id g off lo sz], .val false [.ptr id' _], .val false [.ptr k _] => match H id with
  | .live (.cells g' ls) => (match Nat.beq id id' && Nat.beq g g' && Nat.beq k h, ls[off]? with
   | true, some (.v (.vec _) _) => some (.val false [.subv h 0 off lo sz])
   | _, _ => none)
  | _ => none
 | _, _, _ => none
def keep1 (E : Env) (H : Hp) : Keep → Option (AV × Option Cell × Option Nat)
 | .slot t => match E t with
  | .val false [.mapr id] => (match H id with
   | .live (.mapo k e m) => some (.val false [.mapr (headId t)], some (.live (.mapo k e m)), some id)
   | .frzm k e m => some (.val false [.v (.fmap k e) m], none, none)
   | _ => none)
  | .val false [.itr id] => (match H id with
   | .live (.iter k e c r) => some (.val false [.itr (headId t)], some (.live (.iter k e c r)), some id)
   | _ => none)
  | .val false [.mbr id] => (match H id with
   | .live (.mapb _ k e m none) => some (.val false [.mbr (headId t)], some (.live (.mapb 0 k e m none)), some id)
   | _ => none)
  | .val g ls => some (.val g (ls.map bare), none, none)
  | _ => none
 | .vec t e => match E t with
  | .val false [.row id] => (match H id with
   | .live (.row e' xs) => some (.val false [.row (headId t)], some (.live (.row e' xs)), some id)
   | _ => none)
  | .val false [.nils] => some (.val false [.row (headId t)], some (.live (.row e [])), none)
  | _ => none
 | .lit t e => match E t with
  | .val false [.nils] => some (.val false [.v (.sl e) []], none, none)
  | .val false [.v (.sl e') xs] => some (.val false [.v (.sl e') xs], none, none)
  | .val false [.vw e' xs] => some (.val false [.v (.sl e') xs], none, none)
  | .val false [.row id] => (match H id with
   | .live (.row e' xs) => (match e'.pure with | true => some (.val false [.v (.sl e') xs], none, some id) | false => none)
   | .frz e' xs => some (.val false [.v (.sl e') xs], none, none)
   | _ => none)
  | _ => none
 | .obj t τ => match E t with
  | .val false [.ptr id off] => (match H id with
   | .live (.cells _ ls) => (match asmAll (fun _ => .absent) τ ls with
    | some x => some (.val false [.ptr (headId t) off], some (.live (.cells 0 (flat τ x))), some id)
    | none => none)
   | _ => none)
  | _ => none
 | .same _ _ => none
 | .view _ _ => none
 | .rows t => match E t with
  | .val false [.mbr id] => (match H id with
   | .live (.mapb _ k (.vec e) m none) => (match e.pure with | true => some (.val false [.v (.fmap k (.sl e)) m], none, some id) | false => none)
   | _ => none)
  | .val g ls => some (.val g (ls.map bare), none, none)
  | _ => none
 | .nlit t e => match E t with
  | .val false [.nils] => some (.val false [.v (.nsl e) []], none, none)
  | .val false [.v (.nsl e') xs] => some (.val false [.v (.nsl e') xs], none, none)
  | _ => none
 | .pobj _ _ _ => none
def pinTo (H : Hp) (m : Nat) (b : Bool) : AV → AV → Option Nat
 | .val false [.mapr a], .val false [.mapr c] => (match b, Nat.beq a m, H a with | false, true, .live (.mapo _ _ _) => some c | _, _, _ => none)
 | .val false [.mbr a], .val false [.mbr c] => (match b, Nat.beq a m, H a with | true, true, .live (.mapb _ _ _ _ _) => some c | _, _, _ => none)
 | _, _ => none
def pinNew (E E' : Env) (H : Hp) (m : Nat) (b : Bool) : List Nat → Option Nat
 | [] => none
 | u :: us => match pinTo H m b (E u) (E' u) with | some c => some c | none => pinNew E E' H m b us
def pinsNew (E E' : Env) (H : Hp) (us : List Nat) : List (Nat × Nat × Bool) → List (Nat × Nat × Bool)
 | [] => []
 | q :: ps => match pinNew E E' H q.2.1 q.2.2 us with | some c => (q.1, c, q.2.2) :: pinsNew E E' H us ps | none => pinsNew E E' H us ps
def normL : Ty → LV → LV
 | .vec e, .nils => .v (.vec e) []
 | .sl e, .nils => .v (.sl e) []
 | _, l => l
def normAll : List Ty → List LV → List LV
 | t :: ts, l :: ls => normL t l :: normAll ts ls
 | _, ls => ls
def keepP (E E' : Env) (H : Hp) (t : Nat) (ts : List Ty) (us : List Nat) : Option (AV × Cell × Nat) := match E t with
 | .val false [.pptr id off ps] => (match H id with
  | .live (.cells _ ls) => (match ls.all plainC with
   | true => some (.val false [.pptr (headId t) off (pinsNew E E' H us ps)], .live (.cells 0 (normAll ts ls)), id)
   | false => none)
  | _ => none)
 | _ => none
def keepE (E : Env) (H : Hp) : List Keep → Option (List (Nat × AV) × List (Nat × Cell) × List Nat)
 | [] => some ([], [], [])
 | k :: l => match keepE E H l with
  | some (es, hs, ids) => (match memN k.tmp (es.map (·.1)) with
   | true => none
   | false => (match k with
    | .same t u => (match sameAV H (E t) (E u) with | true => some ((t, ofL .junk es u) :: es, hs, ids) | false => none)
    | .pobj t ts us => (match keepP E (ofL .junk es) H t ts us with
     | some (v, c, id) => (match memN id ids with
      | true => none
      | false => some ((t, v) :: es, (headId t, c) :: hs, id :: ids))
     | none => none)
    | .view t u => (match viewAV H (headId u) (E t) (E u) (ofL .junk es u) with | some v => some ((t, v) :: es, hs, ids) | none => none)
    | k => (match keep1 E H k with
     | some (v, none, none) => some ((k.tmp, v) :: es, hs, ids)
     | some (v, some c, none) => some ((k.tmp, v) :: es, (headId k.tmp, c) :: hs, ids)
     | some (v, c, some id) => (match memN id ids with
      | true => none
      | false => (match c with
       | some c => some ((k.tmp, v) :: es, (headId k.tmp, c) :: hs, id :: ids)
       | none => some ((k.tmp, v) :: es, hs, id :: ids)))
     | none => none)))
  | none => none

def headOf : Code → Nat
 | .region id _ _ => id
 | .seq a _ => headOf a
 | .block _ b => headOf b
 | .scope b => headOf b
 | _ => 999999

inductive Fr where
 | seqR (b : Code)
 | blk (id : Nat)
 | loopF (b : Code)
abbrev Kont (R : Type) := Exit → Env → Hp → Option R
abbrev Low (R : Type) := Code → List Fr → Env → Hp → Option R
noncomputable def atCut (L : Low R) (ks : List Keep) (c : Code) (fs : List Fr) (E : Env) (H : Hp) : Option R :=
 match keepE E H ks with
 | some (es, hs, _) => L c fs (ofL .junk es) (ofL .absent hs)
 | none => none
def condOf (E : Env) (c : Operand) : Option (Option Nat × Bool) :=
 match evalO E c with
 | .val false [.v .bool b] => some ((match c with | .tmp t => some t | _ => none), b)
 | _ => none
noncomputable def runS (ann : Nat → Option (List Keep)) (L : Low R) : Code → List Fr → Env → Hp → Kont R → Option R
 | .skip, _, E, H, K => K .normal E H
 | .region _ ops false, _, E, H, K => runOps tab T ops ops.toList E H (K .normal)
 | .region _ ops true, _, E, H, K => match Region.lexB .any ops with | true => runOpsD tab T ops ops.toList E H [] (K .normal) | false => none
 | .seq a b, fs, E, H, K => runS ann L a (.seqR b :: fs) E H fun
  | .normal, E, H => (match ann (headOf b) with
   | some ks => atCut L ks b fs E H
   | none => runS ann L b fs E H K)
  | x, E, H => K x E H
 | .cond c a b, fs, E, H, K => match condOf E c with
  | some (some t, x) => if x = true then runS ann L a fs (upd E t (bLV true)) H K else runS ann L b fs (upd E t (bLV false)) H K
  | some (none, x) => if x = true then runS ann L a fs E H K else runS ann L b fs E H K
  | none => none
 | .block id b, fs, E, H, K => runS ann L b (.blk id :: fs) E H fun
  | .exit i, E, H => (match Nat.beq i id with | true => K .normal E H | false => K (.exit i) E H)
  | x, E, H => K x E H
 | .loop b, fs, E, H, _ => match ann (headOf b) with
  | some ks => atCut L ks (.loop b) fs E H
  | none => none
 | .exit id, _, E, H, K => K (.exit id) E H
 | .ret, _, E, H, K => K .ret E H
 | _, _, _, _, _ => none
noncomputable def clos (ann : Nat → Option (List Keep)) (L : Low R) (fin : Kont R) : List Fr → Kont R
 | [] => fin
 | .seqR b :: fs => fun
  | .normal, E, H => (match ann (headOf b) with
   | some ks => atCut L ks b fs E H
   | none => runS tab T ann L b fs E H (clos ann L fin fs))
  | x, E, H => clos ann L fin fs x E H
 | .blk id :: fs => fun
  | .exit i, E, H => (match Nat.beq i id with | true => clos ann L fin fs .normal E H | false => clos ann L fin fs (.exit i) E H)
  | x, E, H => clos ann L fin fs x E H
 | .loopF b :: fs => fun
  | .normal, E, H => (match ann (headOf b) with
   | some ks => atCut L ks (.loop b) fs E H
   | none => none)
  | x, E, H => clos ann L fin fs x E H
end

noncomputable def runN {R : Type} (tab : Nat → Option TI) (T : Nat → Nat → Option FunE) (ann : Nat → Option (List Keep)) (fin : Kont R) : Nat → Low R
 | 0 => fun _ _ _ _ => none
 | n + 1 => fun c fs E H => match c with
  | .loop b => runS tab (T n) ann (runN tab T ann fin n) b (.loopF b :: fs) E H (clos tab (T n) ann (runN tab T ann fin n) fin (.loopF b :: fs))
  | c => runS tab (T n) ann (runN tab T ann fin n) c fs E H (clos tab (T n) ann (runN tab T ann fin n) fin fs)

def node : Code → List Fr → List Nat → Code × List Fr
 | c, fs, [] => (c, fs)
 | .seq a b, fs, 0 :: p => node a (.seqR b :: fs) p
 | .seq _ b, fs, _ :: p => node b fs p
 | .cond _ a _, fs, 0 :: p => node a fs p
 | .cond _ _ b, fs, _ :: p => node b fs p
 | .block id b, fs, _ :: p => node b (.blk id :: fs) p
 | .loop b, fs, _ :: p => node b (.loopF b :: fs) p
 | c, fs, _ => (c, fs)

def resVal (tab : Nat → Option TI) (H : Hp) (E : Env) : ResultVar → Option (Bool × List LV)
 | .tmp t => match unpin (E t) with | .val g ls => some (g, ls) | _ => none
 | .cell a t => match tab t, E a with
  | some i, .val false [.ptr id 0] => (match H id with | .live (.cells g ls) => (match Nat.beq ls.length i.ty.cells with | true => some (i.agg, outLeaves id g 0 ls) | false => none) | _ => none)
  | _, _ => none
def resVals (tab : Nat → Option TI) (H : Hp) (E : Env) : List ResultVar → Option (List (Bool × List LV))
 | [] => some []
 | v :: vs => match resVal tab H E v, resVals tab H E vs with | some r, some rs => some (r :: rs) | _, _ => none
def resOne (H : Hp) (τ : Ty) (g : Bool) (ls : List LV) : Option τ.den :=
 match τ, g, ls with
 | .nsl e, false, [.row id] => (match H id with | .live (.row e' xs) => slAs e' e xs | _ => none)
 | .ptr e, false, [.ptr id 0] => (match H id with | .live (.cells _ ls) => (match asmAll (fun _ => .absent) e ls with | some y => some (some y) | none => none) | _ => none)
 | .ptr _, false, [.nilp] => some none
 | τ, g, ls => ownIn H τ g ls
def nnCell : Cell → Bool
 | .live (.row _ xs) => !xs.isEmpty
 | _ => false
def nnB (H : Hp) : List Ty → List (Bool × List LV) → Bool
 | .nsl _ :: outs, (_, [.row id]) :: rs => nnB H outs rs && nnCell (H id)
 | _ :: outs, _ :: rs => nnB H outs rs
 | _, _ => true
def resIn (H : Hp) : (outs : List Ty) → List (Bool × List LV) → Option (outs.foldr Ty.pair .unit).den
 | [], [] => some ()
 | τ :: outs, v :: vs => (match resOne H τ v.1 v.2, resIn H outs vs with
  | some x, some xs => some (x, xs)
  | _, _ => none)
 | _, _ => none
def resOwns : List Ty → List (Bool × List LV) → List Nat
 | τ :: outs, v :: vs => ownArg false τ (.val v.1 v.2) ++ resOwns outs vs
 | _, _ => []
def resRds : List Ty → List (Bool × List LV) → List Nat
 | τ :: outs, v :: vs => argRd false τ (.val v.1 v.2) ++ resRds outs vs
 | _, _ => []
def ioOut (H : Hp) : (ts : List Ty) → List Nat → Option (ts.foldr Ty.pair .unit).den
 | [], [] => some ()
 | τ :: ts, id :: ids => (match H id, ioOut H ts ids with
  | .live (.cells _ ls), some xs => (match asmAll (fun _ => .absent) τ ls with | some x => some (x, xs) | none => none)
  | _, _ => none)
 | _, _ => none
def joinRes : (outs more : List Ty) → (outs.foldr Ty.pair .unit).den → (more.foldr Ty.pair .unit).den → ((outs ++ more).foldr Ty.pair .unit).den
 | [], _, _, y => y
 | _ :: outs, more, x, y => (x.1, joinRes outs more x.2 y)
def ioIdsOf (E : Env) : List Nat → Option (List Nat)
 | [] => some []
 | t :: ts => match E t, ioIdsOf E ts with | .val false [.ptr id 0], some ids => some (id :: ids) | _, _ => none
def leafTys : Ty → List Ty
 | .pair a b => leafTys a ++ leafTys b
 | .unit => []
 | τ => [τ]
def pack1 (H : Hp) (id off m : Nat) (b : Bool) (τ : Ty) : Hp := match H id with
 | .live (.cells g ls) => (match ls[off]?, τ, H m, b with
  | some .cst, .map _ _, .live (.mapo k' e' mm), false => if id ≠ m then upd (upd H m .dead) id (.live (.cells (g + 1) (ls.set off (.v (.map k' e') mm)))) else H
  | some .cst, .fmap _ _, .live (.mapo k' e' mm), false => if id ≠ m then upd (upd H m .dead) id (.live (.cells (g + 1) (ls.set off (.v (.fmap k' e') mm)))) else H
  | some .cst, .fmap _ _, .live (.mapb _ k' (.vec e') mm none), true => if e'.pure = true ∧ id ≠ m then upd (upd H m .dead) id (.live (.cells (g + 1) (ls.set off (.v (.fmap k' (.sl e')) mm)))) else H
  | _, _, _, _ => H)
 | _ => H
def packs (id : Nat) (ts : List Ty) : Hp → List (Nat × Nat × Bool) → Hp
 | H, [] => H
 | H, q :: ps => packs id ts (pack1 H id q.1 q.2.1 q.2.2 (ts.getD q.1 .unit)) ps
def packR (E : Env) : List Ty → List ResultVar → Hp → Hp
 | .ptr e :: outs, .tmp t :: vs, H => (match E t with
  | .val false [.pptr id 0 ps] => packR E outs vs (packs id (leafTys e) H ps)
  | _ => packR E outs vs H)
 | _ :: outs, _ :: vs, H => packR E outs vs H
 | _, _, H => H
def finOf (tab : Nat → Option TI) (outs mores : List Ty) (vs : List ResultVar) (slots : List Nat) : Kont ((outs ++ mores).foldr Ty.pair .unit).den := fun x E H0 =>
 let H := packR E outs vs H0
 match x with
 | .normal | .ret => (match resVals tab H E vs, ioIdsOf E slots with
  | some rs, some ios => (match resIn H outs rs, ioOut H mores ios with
   | some a, some b => (match nodupN (resOwns outs rs ++ ios) && (resRds outs rs).all fun i => !memN i (resOwns outs rs ++ ios) with
    | true => if nnB H outs rs = true then some (joinRes outs mores a b) else none
    | false => none)
   | _, _ => none)
  | _, _ => none)
 | _ => none
def parAV (t : Nat) (io : Bool) : (τ : Ty) → τ.den → AV × List (Nat × Cell) := fun τ x =>
 match io with
 | true => (.val false [.ptr (headId t) 0], [(headId t, .live (.cells 0 (flat τ x)))])
 | false => (match τ, x with
  | .vec e, x => (.val false [.row (headId t)], [(headId t, .live (.row e x))])
  | .pair a b, x => (.val true (flat (.pair a b) x), [])
  | .unit, x => (.val true [], [])
  | τ, x => (.val false (flat τ x), []))
def pars : Nat → (ps : List (Bool × Ty)) → (ps.foldr (fun p t => Ty.pair p.2 t) .unit).den → List (Nat × AV) × List (Nat × Cell)
 | _, [], _ => ([], [])
 | t, p :: ps, x => let r := parAV t p.1 p.2 x.1; let s := pars (t + 1) ps x.2; ((t, r.1) :: s.1, r.2 ++ s.2)
def iosOf : Nat → List (Bool × Ty) → List Nat
 | _, [] => []
 | t, (true, _) :: ps => t :: iosOf (t + 1) ps
 | t, (false, _) :: ps => iosOf (t + 1) ps
def bodyOf (f : Func) : Code := f.body.getD .skip
noncomputable def fnE (tab : Nat → Option TI) (T : Nat → Nat → Option FunE) (ann : Nat → Option (List Keep)) (f : Func) (ins : List (Bool × Ty)) (outs : List Ty) (n : Nat) : FunE where
 ins := ins
 outs := outs
 f := fun x => let q := pars 0 ins x; let fin := finOf tab outs ((ins.filter (·.1)).map (·.2)) f.results.toList (iosOf 0 ins)
  runS tab (T n) ann (runN tab T ann fin n) (bodyOf f) [] (ofL .junk q.1) (ofL .absent q.2) (clos tab (T n) ann (runN tab T ann fin n) fin [])
noncomputable def cutN (tab : Nat → Option TI) (T : Nat → Nat → Option FunE) (ann : Nat → Option (List Keep)) (f : Func) (ins : List (Bool × Ty)) (outs : List Ty) (n : Nat) (p : List Nat) (es : List (Nat × AV)) (hs : List (Nat × Cell)) :
 Option ((outs ++ (ins.filter (·.1)).map (·.2)).foldr Ty.pair .unit).den :=
 runN tab T ann (finOf tab outs ((ins.filter (·.1)).map (·.2)) f.results.toList (iosOf 0 ins)) n (node (bodyOf f) [] p).1 (node (bodyOf f) [] p).2 (ofL .junk es) (ofL .absent hs)

end Go.Proofs.Ytadhpgecilhgnaa.A

-- YtadhpgecilhgnaaT
set_option linter.unusedVariables false
set_option maxRecDepth 100000
namespace Go.Proofs.Ytadhpgecilhgnaa.A
open Go
abbrev DModeChange : Type := (List UInt8 × (List UInt8 × List UInt8))
abbrev YModeChange : Ty := (.pair .str (.pair .str .str))
abbrev DAct : Type := (Int × (List UInt8 × Bool))
abbrev YAct : Ty := (.pair (.int .i64) (.pair .str .bool))
abbrev DWatchRule : Type := (List UInt8 × (List UInt8 × (List UInt8 × (Bool × (List DAct)))))
abbrev YWatchRule : Ty := (.pair .str (.pair .str (.pair .str (.pair .bool (.sl YAct)))))
abbrev DWatch : Type := ((List (List UInt8)) × ((List DModeChange) × (List UInt8 × (List DWatchRule))))
abbrev YWatch : Ty := (.pair (.sl .str) (.pair (.sl YModeChange) (.pair .str (.sl YWatchRule))))
abbrev DFired : Type := (Int × DModeChange)
abbrev YFired : Ty := (.pair (.int .i64) YModeChange)
abbrev DEvent : Type := (Int × List UInt8)
abbrev YEvent : Ty := (.pair (.int .i64) .str)
abbrev YLimit : Ty := (.pair .str (.pair (.int .i64) (.pair (.int .i64) (.pair (.int .i64) (.pair (.int .i64) (.pair (.int .i64) (.pair (.int .i64) (.int .i64))))))))
abbrev Ycraft : Ty := (.pair YWatch (.pair .str (.pair (.sl .bool) (.pair (.sl .str) (.sl YFired)))))
abbrev Yplayer : Ty := (.pair .str (.pair (.map (.pair .str .str) .str) (.pair (.map .str (.vec (.int .i64))) (.pair YWatch (.pair (.sl .bool) (.map .str .bool))))))
abbrev DPlayer : Type := (List UInt8 × ((List ((List UInt8 × List UInt8) × List UInt8)) × ((List (List UInt8 × (List Int))) × (DWatch × ((List Bool) × (List (List UInt8 × Bool)))))))
abbrev YPlayer : Ty := (.pair .str (.pair (.fmap (.pair .str .str) .str) (.pair (.fmap .str (.sl (.int .i64))) (.pair YWatch (.pair (.vec .bool) (.map .str .bool))))))
abbrev DCraft : Type := (DWatch × (List UInt8 × ((List Bool) × ((List (List UInt8)) × (List DFired)))))
abbrev YCraft : Ty := (.pair YWatch (.pair .str (.pair (.vec .bool) (.pair (.sl .str) (.vec YFired)))))
noncomputable def tabL : List (Nat × Option TI) := [
 (3, some { agg := false, ty := (.int .i64), bytes := 8, fields := [], elem := 0, key := 0, zero := [.v (.int .i64) 0] }),
 (4, some { agg := false, ty := .bool, bytes := 1, fields := [], elem := 0, key := 0, zero := [.v .bool false] }),
 (5, some { agg := false, ty := (.int .u8), bytes := 1, fields := [], elem := 0, key := 0, zero := [.v (.int .u8) 0] }),
 (9, some { agg := false, ty := .str, bytes := 16, fields := [], elem := 0, key := 0, zero := [.v .str []] }),
 (22, some { agg := false, ty := (.sl .str), bytes := 24, fields := [], elem := 9, key := 0, zero := [.nils] }),
 (23, some { agg := false, ty := (.sl YModeChange), bytes := 24, fields := [], elem := 110, key := 0, zero := [.nils] }),
 (24, some { agg := false, ty := (.sl YWatchRule), bytes := 24, fields := [], elem := 33, key := 0, zero := [.nils] }),
 (26, some { agg := true, ty := YWatch, bytes := 88, fields := [(0, 22), (1, 23), (2, 9), (3, 24)], elem := 0, key := 0, zero := [.nils, .nils, .v .str [], .nils] }),
 (27, some { agg := false, ty := (.int .i64), bytes := 8, fields := [], elem := 0, key := 0, zero := [.v (.int .i64) 0] }),
 (31, some { agg := false, ty := (.sl YAct), bytes := 24, fields := [], elem := 37, key := 0, zero := [.nils] }),
 (33, some { agg := true, ty := YWatchRule, bytes := 80, fields := [(0, 9), (1, 9), (2, 9), (3, 4), (4, 31)], elem := 0, key := 0, zero := [.v .str [], .v .str [], .v .str [], .v .bool false, .nils] }),
 (37, some { agg := true, ty := YAct, bytes := 32, fields := [(0, 3), (1, 9), (2, 4)], elem := 0, key := 0, zero := [.v (.int .i64) 0, .v .str [], .v .bool false] }),
 (39, some { agg := false, ty := (.sl YEvent), bytes := 24, fields := [], elem := 61, key := 0, zero := [.nils] }),
 (40, some { agg := false, ty := (.sl YFired), bytes := 24, fields := [], elem := 47, key := 0, zero := [.nils] }),
 (47, some { agg := true, ty := YFired, bytes := 56, fields := [(0, 3), (1, 9), (2, 9), (3, 9)], elem := 0, key := 0, zero := [.v (.int .i64) 0, .v .str [], .v .str [], .v .str []] }),
 (61, some { agg := true, ty := YEvent, bytes := 24, fields := [(0, 3), (1, 9)], elem := 0, key := 0, zero := [.v (.int .i64) 0, .v .str []] }),
 (68, some { agg := false, ty := (.sl (.sl (.int .i64))), bytes := 24, fields := [], elem := 70, key := 0, zero := [.nils] }),
 (70, some { agg := false, ty := (.sl (.int .i64)), bytes := 24, fields := [], elem := 3, key := 0, zero := [.nils] }),
 (75, some { agg := true, ty := YLimit, bytes := 72, fields := [(0, 9), (1, 3), (2, 3), (3, 3), (4, 3), (5, 3), (6, 3), (7, 3)], elem := 0, key := 0, zero := [.v .str [], .v (.int .i64) 0, .v (.int .i64) 0, .v (.int .i64) 0, .v (.int .i64) 0, .v (.int .i64) 0, .v (.int .i64) 0, .v (.int .i64) 0] }),
 (85, some { agg := false, ty := (.sl .bool), bytes := 24, fields := [], elem := 4, key := 0, zero := [.nils] }),
 (87, some { agg := true, ty := Ycraft, bytes := 176, fields := [(0, 26), (4, 9), (5, 85), (6, 22), (7, 40)], elem := 0, key := 0, zero := [.nils, .nils, .v .str [], .nils, .v .str [], .nils, .nils, .nils] }),
 (88, some { agg := false, ty := (.map .str .bool), bytes := 8, fields := [], elem := 4, key := 9, zero := [.nilm] }),
 (95, some { agg := false, ty := (.map .str (.int .i64)), bytes := 8, fields := [], elem := 3, key := 9, zero := [.nilm] }),
 (99, some { agg := false, ty := (.map (.pair .str .str) .str), bytes := 8, fields := [], elem := 9, key := 126, zero := [.nilm] }),
 (100, some { agg := false, ty := (.map .str (.vec (.int .i64))), bytes := 8, fields := [], elem := 70, key := 9, zero := [.nilm] }),
 (102, some { agg := true, ty := Yplayer, bytes := 152, fields := [(0, 9), (1, 99), (2, 100), (3, 26), (7, 85), (8, 88)], elem := 0, key := 0, zero := [.v .str [], .nilm, .nilm, .nils, .nils, .v .str [], .nils, .nils, .nilm] }),
 (104, some { agg := false, ty := (.int .u64), bytes := 8, fields := [], elem := 0, key := 0, zero := [.v (.int .u64) 0] }),
 (107, some { agg := false, ty := (.map .str (.sl .str)), bytes := 8, fields := [], elem := 22, key := 9, zero := [.nilm] }),
 (110, some { agg := true, ty := YModeChange, bytes := 48, fields := [(0, 9), (1, 9), (2, 9)], elem := 0, key := 0, zero := [.v .str [], .v .str [], .v .str []] }),
 (119, some { agg := false, ty := (.map (.int .i64) (.vec (.int .i64))), bytes := 8, fields := [], elem := 70, key := 3, zero := [.nilm] }),
 (120, some { agg := false, ty := (.map (.int .i64) (.int .i64)), bytes := 8, fields := [], elem := 3, key := 3, zero := [.nilm] }),
 (122, some { agg := false, ty := (.sl YLimit), bytes := 24, fields := [], elem := 75, key := 0, zero := [.nils] }),
 (125, some { agg := false, ty := (.sl (.int .i64)), bytes := 24, fields := [], elem := 27, key := 0, zero := [.nils] }),
 (126, some { agg := true, ty := (.pair .str .str), bytes := 32, fields := [], elem := 9, key := 0, zero := [.v .str [], .v .str []] }),
 (144, some { agg := false, ty := (.int .u32), bytes := 4, fields := [], elem := 0, key := 0, zero := [.v (.int .u32) 0] }),
 (146, some { agg := false, ty := (.int .u64), bytes := 8, fields := [], elem := 0, key := 0, zero := [.v (.int .u64) 0] }),
 (147, some { agg := false, ty := (.int .u64), bytes := 8, fields := [], elem := 0, key := 0, zero := [.v (.int .u64) 0] })]
noncomputable def tab : Nat → Option TI := ofL none tabL
noncomputable def slices_Index_string.T : Nat → Nat → Option FunE := fun n => ofL none []
noncomputable def slices_Index_string.ann : Nat → Option (List Keep) := ofL none [(2, some [.slot 0, .slot 1, .slot 7, .slot 8])]
noncomputable def slices_Index_string.ins : List (Bool × Ty) := [(false, (.sl .str)), (false, .str)]
def slices_Index_string.outs : List Ty := [(.int .i64)]
noncomputable def slices_Index_string.f (n : Nat) (s0 : (List (List UInt8))) (v1 : List UInt8) : Option (Int × Unit) := (fnE tab slices_Index_string.T slices_Index_string.ann Try.f64 slices_Index_string.ins slices_Index_string.outs n).f (s0, (v1, ()))
noncomputable def slices_Index_string.c0 (n : Nat) (s0 : (List (List UInt8))) (v1 : List UInt8) (t7 : Int) (t8 : Int) : Option (Int × Unit) := cutN tab slices_Index_string.T slices_Index_string.ann Try.f64 slices_Index_string.ins slices_Index_string.outs n [1, 0, 1, 0] [(0, .val false [.v (.sl .str) s0]), (1, .val false [.v .str v1]), (7, .val false [.v (.int .i64) t7]), (8, .val false [.v (.int .i64) t8])] []
theorem slices_Index_string.f_eq (n : Nat) (s0 : (List (List UInt8))) (v1 : List UInt8) : slices_Index_string.f n s0 v1 =
 slices_Index_string.c0 n s0 v1 (s0.length : Int) 0 := by kernel_rfl
theorem slices_Index_string.c0_eq (n : Nat) (s0 : (List (List UInt8))) (v1 : List UInt8) (t7 : Int) (t8 : Int) : slices_Index_string.c0 (n + 1) s0 v1 t7 t8 =
 (if (decide (t8 < t7)) = true then
 (if (0 : Int) ≤ t8 ∧ t8 < (s0.length : Int) then
  (if (decide ((v1 : List UInt8) = (s0.getD t8.toNat []))) = true then
   some (t8, ())
   else
   slices_Index_string.c0 n s0 v1 t7 (IntKind.wrap .i64 (t8 + 1)))
  else none)
 else
 some ((-1), ())) := by kernel_rfl
noncomputable def slices_Index_string.E (n : Nat) : FunE := fnE tab slices_Index_string.T slices_Index_string.ann Try.f64 slices_Index_string.ins slices_Index_string.outs n

noncomputable def slices_Contains_string.T : Nat → Nat → Option FunE := fun n => ofL none [(64, some (slices_Index_string.E n))]
noncomputable def slices_Contains_string.ann : Nat → Option (List Keep) := ofL none []
noncomputable def slices_Contains_string.ins : List (Bool × Ty) := [(false, (.sl .str)), (false, .str)]
def slices_Contains_string.outs : List Ty := [.bool]
noncomputable def slices_Contains_string.f (n : Nat) (s0 : (List (List UInt8))) (v1 : List UInt8) : Option (Bool × Unit) := (fnE tab slices_Contains_string.T slices_Contains_string.ann Try.f30 slices_Contains_string.ins slices_Contains_string.outs n).f (s0, (v1, ()))
theorem slices_Contains_string.f_eq (n : Nat) (s0 : (List (List UInt8))) (v1 : List UInt8) : slices_Contains_string.f n s0 v1 =
 ((slices_Index_string.f n s0 v1).bind fun r1 =>
 some ((decide (0 ≤ r1.1)), ())) := by kernel_rfl
noncomputable def slices_Contains_string.E (n : Nat) : FunE := fnE tab slices_Contains_string.T slices_Contains_string.ann Try.f30 slices_Contains_string.ins slices_Contains_string.outs n

noncomputable def monitor_IsName.T : Nat → Nat → Option FunE := fun n => ofL none []
noncomputable def monitor_IsName.ann : Nat → Option (List Keep) := ofL none [(3, some [.slot 0]), (4, some [.slot 0, .slot 13, .slot 14])]
noncomputable def monitor_IsName.ins : List (Bool × Ty) := [(false, .str)]
def monitor_IsName.outs : List Ty := [.bool]
noncomputable def monitor_IsName.f (n : Nat) (s0 : List UInt8) : Option (Bool × Unit) := (fnE tab monitor_IsName.T monitor_IsName.ann Try.f59 monitor_IsName.ins monitor_IsName.outs n).f (s0, ())
noncomputable def monitor_IsName.c0 (n : Nat) (s0 : List UInt8) : Option (Bool × Unit) := cutN tab monitor_IsName.T monitor_IsName.ann Try.f59 monitor_IsName.ins monitor_IsName.outs n [1, 1] [(0, .val false [.v .str s0])] []
noncomputable def monitor_IsName.c1 (n : Nat) (s0 : List UInt8) (t13 : Int) (t14 : Int) : Option (Bool × Unit) := cutN tab monitor_IsName.T monitor_IsName.ann Try.f59 monitor_IsName.ins monitor_IsName.outs n [1, 1, 0, 1, 0] [(0, .val false [.v .str s0]), (13, .val false [.v (.int .i64) t13]), (14, .val false [.v (.int .i64) t14])] []
theorem monitor_IsName.f_eq (n : Nat) (s0 : List UInt8) : monitor_IsName.f n s0 =
 (if (decide ((s0 : List UInt8) = [])) = true then
 some (false, ())
 else
 (if (decide (40 < (s0.length : Int))) = true then
  some (false, ())
  else
  monitor_IsName.c0 n s0)) := by kernel_rfl
theorem monitor_IsName.c0_eq (n : Nat) (s0 : List UInt8) : monitor_IsName.c0 (n + 1) s0 =
 monitor_IsName.c1 n s0 (s0.length : Int) 0 := by kernel_rfl
theorem monitor_IsName.c1_eq (n : Nat) (s0 : List UInt8) (t13 : Int) (t14 : Int) : monitor_IsName.c1 (n + 1) s0 t13 t14 =
 (if (decide (t14 < t13)) = true then
 (if (0 : Int) ≤ t14 ∧ t14 < (s0.length : Int) then
  (if (decide (((s0.getD t14.toNat 0).toNat : Int) < 97)) = true then
   (if (decide (t14 = 0)) = true then
    some (false, ())
    else
    (if (!(decide (((s0.getD t14.toNat 0).toNat : Int) = 45))) = true then
     (if (!(decide (((s0.getD t14.toNat 0).toNat : Int) = 95))) = true then
      (if (decide (((s0.getD t14.toNat 0).toNat : Int) < 48)) = true then
       some (false, ())
       else
       (if (decide (57 < ((s0.getD t14.toNat 0).toNat : Int))) = true then
        some (false, ())
        else
        monitor_IsName.c1 n s0 t13 (IntKind.wrap .i64 (t14 + 1))))
      else
      monitor_IsName.c1 n s0 t13 (IntKind.wrap .i64 (t14 + 1)))
     else
     monitor_IsName.c1 n s0 t13 (IntKind.wrap .i64 (t14 + 1))))
   else
   (if (decide (122 < ((s0.getD t14.toNat 0).toNat : Int))) = true then
    (if (decide (t14 = 0)) = true then
     some (false, ())
     else
     (if (!(decide (((s0.getD t14.toNat 0).toNat : Int) = 45))) = true then
      (if (!(decide (((s0.getD t14.toNat 0).toNat : Int) = 95))) = true then
       (if (decide (((s0.getD t14.toNat 0).toNat : Int) < 48)) = true then
        some (false, ())
        else
        (if (decide (57 < ((s0.getD t14.toNat 0).toNat : Int))) = true then
         some (false, ())
         else
         monitor_IsName.c1 n s0 t13 (IntKind.wrap .i64 (t14 + 1))))
       else
       monitor_IsName.c1 n s0 t13 (IntKind.wrap .i64 (t14 + 1)))
      else
      monitor_IsName.c1 n s0 t13 (IntKind.wrap .i64 (t14 + 1))))
    else
    monitor_IsName.c1 n s0 t13 (IntKind.wrap .i64 (t14 + 1))))
  else none)
 else
 some (true, ())) := by kernel_rfl
noncomputable def monitor_IsName.E (n : Nat) : FunE := fnE tab monitor_IsName.T monitor_IsName.ann Try.f59 monitor_IsName.ins monitor_IsName.outs n

noncomputable def monitor_checkModes.T : Nat → Nat → Option FunE := fun n => ofL none [(30, some (slices_Contains_string.E n)), (59, some (monitor_IsName.E n))]
noncomputable def monitor_checkModes.ann : Nat → Option (List Keep) := ofL none [(6, some [.obj 1 YWatch, .slot 17, .slot 18, .slot 19]), (16, some [.obj 1 YWatch, .slot 45, .slot 46, .slot 47]), (20, some [.obj 1 YWatch, .slot 5, .obj 6 YModeChange, .slot 45, .slot 46, .slot 47])]
noncomputable def monitor_checkModes.ins : List (Bool × Ty) := [(false, YWatch)]
def monitor_checkModes.outs : List Ty := [(.int .i64)]
noncomputable def monitor_checkModes.f (n : Nat) (t0 : DWatch) : Option (Int × Unit) := (fnE tab monitor_checkModes.T monitor_checkModes.ann Try.f51 monitor_checkModes.ins monitor_checkModes.outs n).f (t0, ())
noncomputable def monitor_checkModes.c0 (n : Nat) (t1_0 : (List (List UInt8))) (t1_1 : (List DModeChange)) (t1_2 : List UInt8) (t1_3 : (List DWatchRule)) (t17 : (List (List UInt8))) (t18 : Int) (t19 : Int) : Option (Int × Unit) := cutN tab monitor_checkModes.T monitor_checkModes.ann Try.f51 monitor_checkModes.ins monitor_checkModes.outs n [1, 1, 1, 0, 1, 0] [(1, .val false [.ptr 1000001 0]), (17, .val false [.v (.sl .str) t17]), (18, .val false [.v (.int .i64) t18]), (19, .val false [.v (.int .i64) t19])] [(1000001, .live (.cells 0 [.v (.sl .str) t1_0, .v (.sl YModeChange) t1_1, .v .str t1_2, .v (.sl YWatchRule) t1_3]))]
noncomputable def monitor_checkModes.c1 (n : Nat) (t1_0 : (List (List UInt8))) (t1_1 : (List DModeChange)) (t1_2 : List UInt8) (t1_3 : (List DWatchRule)) (t45 : (List DModeChange)) (t46 : Int) (t47 : Int) : Option (Int × Unit) := cutN tab monitor_checkModes.T monitor_checkModes.ann Try.f51 monitor_checkModes.ins monitor_checkModes.outs n [1, 1, 1, 1, 1, 0, 1, 0] [(1, .val false [.ptr 1000001 0]), (45, .val false [.v (.sl YModeChange) t45]), (46, .val false [.v (.int .i64) t46]), (47, .val false [.v (.int .i64) t47])] [(1000001, .live (.cells 0 [.v (.sl .str) t1_0, .v (.sl YModeChange) t1_1, .v .str t1_2, .v (.sl YWatchRule) t1_3]))]
noncomputable def monitor_checkModes.c2 (n : Nat) (t1_0 : (List (List UInt8))) (t1_1 : (List DModeChange)) (t1_2 : List UInt8) (t1_3 : (List DWatchRule)) (t5 : Int) (t6_0 : List UInt8) (t6_1 : List UInt8) (t6_2 : List UInt8) (t45 : (List DModeChange)) (t46 : Int) (t47 : Int) : Option (Int × Unit) := cutN tab monitor_checkModes.T monitor_checkModes.ann Try.f51 monitor_checkModes.ins monitor_checkModes.outs n [1, 1, 1, 1, 1, 0, 1, 0, 0, 1, 1, 0, 0, 1, 1] [(1, .val false [.ptr 1000001 0]), (5, .val false [.v (.int .i64) t5]), (6, .val false [.ptr 1000006 0]), (45, .val false [.v (.sl YModeChange) t45]), (46, .val false [.v (.int .i64) t46]), (47, .val false [.v (.int .i64) t47])] [(1000001, .live (.cells 0 [.v (.sl .str) t1_0, .v (.sl YModeChange) t1_1, .v .str t1_2, .v (.sl YWatchRule) t1_3])), (1000006, .live (.cells 0 [.v .str t6_0, .v .str t6_1, .v .str t6_2]))]
theorem monitor_checkModes.f_eq (n : Nat) (t0 : DWatch) : monitor_checkModes.f n t0 =
 (if (decide ((t0.1.length : Int) = 0)) = true then
 some (9, ())
 else
 (if (decide (50 < (t0.1.length : Int))) = true then
  some (2, ())
  else
  monitor_checkModes.c0 n t0.1 t0.2.1 t0.2.2.1 t0.2.2.2 t0.1 (t0.1.length : Int) 0)) := by kernel_rfl
theorem monitor_checkModes.c0_eq (n : Nat) (t1_0 : (List (List UInt8))) (t1_1 : (List DModeChange)) (t1_2 : List UInt8) (t1_3 : (List DWatchRule)) (t17 : (List (List UInt8))) (t18 : Int) (t19 : Int) : monitor_checkModes.c0 (n + 1) t1_0 t1_1 t1_2 t1_3 t17 t18 t19 =
 (if (decide (t19 < t18)) = true then
 (if (0 : Int) ≤ t19 ∧ t19 < (t17.length : Int) then
  ((monitor_IsName.f n (t17.getD t19.toNat [])).bind fun r1 =>
   (if (!r1.1) = true then
    some (5, ())
    else
    (if (decide (0 < t19)) = true then
     (if (0 : Int) ≤ (IntKind.wrap .i64 (t19 - 1)) ∧ (IntKind.wrap .i64 (t19 - 1)) < (t1_0.length : Int) then
      (if (!(lessS (t1_0.getD (IntKind.wrap .i64 (t19 - 1)).toNat []) (t17.getD t19.toNat []))) = true then
       some (8, ())
       else
       monitor_checkModes.c0 n t1_0 t1_1 t1_2 t1_3 t17 t18 (IntKind.wrap .i64 (t19 + 1)))
      else none)
     else
     monitor_checkModes.c0 n t1_0 t1_1 t1_2 t1_3 t17 t18 (IntKind.wrap .i64 (t19 + 1)))))
  else none)
 else
 (if (decide (500 < (t1_1.length : Int))) = true then
  some (2, ())
  else
  monitor_checkModes.c1 n t1_0 t1_1 t1_2 t1_3 t1_1 (t1_1.length : Int) 0)) := by kernel_rfl
theorem monitor_checkModes.c1_eq (n : Nat) (t1_0 : (List (List UInt8))) (t1_1 : (List DModeChange)) (t1_2 : List UInt8) (t1_3 : (List DWatchRule)) (t45 : (List DModeChange)) (t46 : Int) (t47 : Int) : monitor_checkModes.c1 (n + 1) t1_0 t1_1 t1_2 t1_3 t45 t46 t47 =
 (if (decide (t47 < t46)) = true then
 (if (0 : Int) ≤ t47 ∧ t47 < (t45.length : Int) then
  ((slices_Contains_string.f n t1_0 (t45.getD t47.toNat (Ty.dflt YModeChange)).1).bind fun r2 =>
   (if (!r2.1) = true then
    some (9, ())
    else
    ((slices_Contains_string.f n t1_0 (t45.getD t47.toNat (Ty.dflt YModeChange)).2.2).bind fun r3 =>
     (if (!r3.1) = true then
      some (9, ())
      else
      monitor_checkModes.c2 n t1_0 t1_1 t1_2 t1_3 t47 (t45.getD t47.toNat (Ty.dflt YModeChange)).1 (t45.getD t47.toNat (Ty.dflt YModeChange)).2.1 (t45.getD t47.toNat (Ty.dflt YModeChange)).2.2 t45 t46 t47))))
  else none)
 else
 ((slices_Contains_string.f n t1_0 t1_2).bind fun r4 =>
  (if (!r4.1) = true then
   some (9, ())
   else
   some (0, ())))) := by kernel_rfl
theorem monitor_checkModes.c2_eq (n : Nat) (t1_0 : (List (List UInt8))) (t1_1 : (List DModeChange)) (t1_2 : List UInt8) (t1_3 : (List DWatchRule)) (t5 : Int) (t6_0 : List UInt8) (t6_1 : List UInt8) (t6_2 : List UInt8) (t45 : (List DModeChange)) (t46 : Int) (t47 : Int) : monitor_checkModes.c2 (n + 1) t1_0 t1_1 t1_2 t1_3 t5 t6_0 t6_1 t6_2 t45 t46 t47 =
 ((monitor_IsName.f n t6_1).bind fun r5 =>
 (if (!r5.1) = true then
  some (5, ())
  else
  (if (decide (0 < t5)) = true then
   (if (0 : Int) ≤ (IntKind.wrap .i64 (t5 - 1)) ∧ (IntKind.wrap .i64 (t5 - 1)) < (t1_1.length : Int) then
    (if (lessS t6_0 (t1_1.getD (IntKind.wrap .i64 (t5 - 1)).toNat (Ty.dflt YModeChange)).1) = true then
     some (8, ())
     else
     (if (decide ((t6_0 : List UInt8) = (t1_1.getD (IntKind.wrap .i64 (t5 - 1)).toNat (Ty.dflt YModeChange)).1)) = true then
      (if (!(lessS (t1_1.getD (IntKind.wrap .i64 (t5 - 1)).toNat (Ty.dflt YModeChange)).2.1 t6_1)) = true then
       some (8, ())
       else
       monitor_checkModes.c1 n t1_0 t1_1 t1_2 t1_3 t45 t46 (IntKind.wrap .i64 (t47 + 1)))
      else
      monitor_checkModes.c1 n t1_0 t1_1 t1_2 t1_3 t45 t46 (IntKind.wrap .i64 (t47 + 1))))
    else none)
   else
   monitor_checkModes.c1 n t1_0 t1_1 t1_2 t1_3 t45 t46 (IntKind.wrap .i64 (t47 + 1))))) := by kernel_rfl
noncomputable def monitor_checkModes.E (n : Nat) : FunE := fnE tab monitor_checkModes.T monitor_checkModes.ann Try.f51 monitor_checkModes.ins monitor_checkModes.outs n

noncomputable def kit_In.T : Nat → Nat → Option FunE := fun n => ofL none []
noncomputable def kit_In.ann : Nat → Option (List Keep) := ofL none []
noncomputable def kit_In.ins : List (Bool × Ty) := [(false, (.int .i64)), (false, (.int .i64)), (false, (.int .i64))]
def kit_In.outs : List Ty := [.bool]
noncomputable def kit_In.f (n : Nat) (n0 : Int) (low1 : Int) (high2 : Int) : Option (Bool × Unit) := (fnE tab kit_In.T kit_In.ann Try.f58 kit_In.ins kit_In.outs n).f (n0, (low1, (high2, ())))
theorem kit_In.f_eq (n : Nat) (n0 : Int) (low1 : Int) (high2 : Int) : kit_In.f n n0 low1 high2 =
 (if (decide (low1 ≤ n0)) = true then
 some ((decide (n0 ≤ high2)), ())
 else
 some (false, ())) := by kernel_rfl
noncomputable def kit_In.E (n : Nat) : FunE := fnE tab kit_In.T kit_In.ann Try.f58 kit_In.ins kit_In.outs n

noncomputable def monitor_checkRule.T : Nat → Nat → Option FunE := fun n => ofL none [(30, some (slices_Contains_string.E n)), (58, some (kit_In.E n)), (59, some (monitor_IsName.E n))]
noncomputable def monitor_checkRule.ann : Nat → Option (List Keep) := ofL none [(3, some [.obj 2 YWatch, .obj 3 YWatchRule]), (5, some [.obj 3 YWatchRule]), (8, some [.slot 33, .slot 34, .slot 35])]
noncomputable def monitor_checkRule.ins : List (Bool × Ty) := [(false, YWatch), (false, YWatchRule)]
def monitor_checkRule.outs : List Ty := [(.int .i64)]
noncomputable def monitor_checkRule.f (n : Nat) (w0 : DWatch) (r1 : DWatchRule) : Option (Int × Unit) := (fnE tab monitor_checkRule.T monitor_checkRule.ann Try.f52 monitor_checkRule.ins monitor_checkRule.outs n).f (w0, (r1, ()))
noncomputable def monitor_checkRule.c0 (n : Nat) (w2_0 : (List (List UInt8))) (w2_1 : (List DModeChange)) (w2_2 : List UInt8) (w2_3 : (List DWatchRule)) (r3_0 : List UInt8) (r3_1 : List UInt8) (r3_2 : List UInt8) (r3_3 : Bool) (r3_4 : (List DAct)) : Option (Int × Unit) := cutN tab monitor_checkRule.T monitor_checkRule.ann Try.f52 monitor_checkRule.ins monitor_checkRule.outs n [1, 1] [(2, .val false [.ptr 1000002 0]), (3, .val false [.ptr 1000003 0])] [(1000002, .live (.cells 0 [.v (.sl .str) w2_0, .v (.sl YModeChange) w2_1, .v .str w2_2, .v (.sl YWatchRule) w2_3])), (1000003, .live (.cells 0 [.v .str r3_0, .v .str r3_1, .v .str r3_2, .v .bool r3_3, .v (.sl YAct) r3_4]))]
noncomputable def monitor_checkRule.c1 (n : Nat) (r3_0 : List UInt8) (r3_1 : List UInt8) (r3_2 : List UInt8) (r3_3 : Bool) (r3_4 : (List DAct)) : Option (Int × Unit) := cutN tab monitor_checkRule.T monitor_checkRule.ann Try.f52 monitor_checkRule.ins monitor_checkRule.outs n [1, 1, 1] [(3, .val false [.ptr 1000003 0])] [(1000003, .live (.cells 0 [.v .str r3_0, .v .str r3_1, .v .str r3_2, .v .bool r3_3, .v (.sl YAct) r3_4]))]
noncomputable def monitor_checkRule.c2 (n : Nat) (t33 : (List DAct)) (t34 : Int) (t35 : Int) : Option (Int × Unit) := cutN tab monitor_checkRule.T monitor_checkRule.ann Try.f52 monitor_checkRule.ins monitor_checkRule.outs n [1, 1, 1, 1, 0, 1, 0] [(33, .val false [.v (.sl YAct) t33]), (34, .val false [.v (.int .i64) t34]), (35, .val false [.v (.int .i64) t35])] []
theorem monitor_checkRule.f_eq (n : Nat) (w0 : DWatch) (r1 : DWatchRule) : monitor_checkRule.f n w0 r1 =
 ((monitor_IsName.f n r1.1).bind fun rr1 =>
 (if (!rr1.1) = true then
  some (5, ())
  else
  ((monitor_IsName.f n r1.2.1).bind fun rr2 =>
   (if (!rr2.1) = true then
    some (5, ())
    else
    monitor_checkRule.c0 n w0.1 w0.2.1 w0.2.2.1 w0.2.2.2 r1.1 r1.2.1 r1.2.2.1 r1.2.2.2.1 r1.2.2.2.2)))) := by kernel_rfl
theorem monitor_checkRule.c0_eq (n : Nat) (w2_0 : (List (List UInt8))) (w2_1 : (List DModeChange)) (w2_2 : List UInt8) (w2_3 : (List DWatchRule)) (r3_0 : List UInt8) (r3_1 : List UInt8) (r3_2 : List UInt8) (r3_3 : Bool) (r3_4 : (List DAct)) : monitor_checkRule.c0 (n + 1) w2_0 w2_1 w2_2 w2_3 r3_0 r3_1 r3_2 r3_3 r3_4 =
 (if (!(decide ((r3_2 : List UInt8) = []))) = true then
 ((slices_Contains_string.f n w2_0 r3_2).bind fun rr3 =>
  (if (!rr3.1) = true then
   some (9, ())
   else
   monitor_checkRule.c1 n r3_0 r3_1 r3_2 r3_3 r3_4))
 else
 monitor_checkRule.c1 n r3_0 r3_1 r3_2 r3_3 r3_4) := by kernel_rfl
theorem monitor_checkRule.c1_eq (n : Nat) (r3_0 : List UInt8) (r3_1 : List UInt8) (r3_2 : List UInt8) (r3_3 : Bool) (r3_4 : (List DAct)) : monitor_checkRule.c1 (n + 1) r3_0 r3_1 r3_2 r3_3 r3_4 =
 (if (decide (10 < (r3_4.length : Int))) = true then
 some (2, ())
 else
 monitor_checkRule.c2 n r3_4 (r3_4.length : Int) 0) := by kernel_rfl
theorem monitor_checkRule.c2_eq (n : Nat) (t33 : (List DAct)) (t34 : Int) (t35 : Int) : monitor_checkRule.c2 (n + 1) t33 t34 t35 =
 (if (decide (t35 < t34)) = true then
 (if (0 : Int) ≤ t35 ∧ t35 < (t33.length : Int) then
  ((kit_In.f n (t33.getD t35.toNat (Ty.dflt YAct)).1 1 4).bind fun rr4 =>
   (if (!rr4.1) = true then
    some (4, ())
    else
    ((monitor_IsName.f n (t33.getD t35.toNat (Ty.dflt YAct)).2.1).bind fun rr5 =>
     (if (!rr5.1) = true then
      some (5, ())
      else
      (if (t33.getD t35.toNat (Ty.dflt YAct)).2.2 = true then
       (if (!(decide ((t33.getD t35.toNat (Ty.dflt YAct)).1 = 4))) = true then
        some (3, ())
        else
        monitor_checkRule.c2 n t33 t34 (IntKind.wrap .i64 (t35 + 1)))
       else
       monitor_checkRule.c2 n t33 t34 (IntKind.wrap .i64 (t35 + 1)))))))
  else none)
 else
 some (0, ())) := by kernel_rfl
noncomputable def monitor_checkRule.E (n : Nat) : FunE := fnE tab monitor_checkRule.T monitor_checkRule.ann Try.f52 monitor_checkRule.ins monitor_checkRule.outs n

noncomputable def monitor_CheckWatch.T : Nat → Nat → Option FunE := fun n => ofL none [(51, some (monitor_checkModes.E n)), (52, some (monitor_checkRule.E n))]
noncomputable def monitor_CheckWatch.ann : Nat → Option (List Keep) := ofL none [(8, some [.obj 1 YWatch, .slot 4, .slot 23, .slot 24, .slot 25]), (18, some [.slot 4, .slot 55, .slot 56, .slot 57]), (21, some [.slot 4, .slot 55, .slot 56, .slot 57, .slot 62, .slot 63, .slot 64])]
noncomputable def monitor_CheckWatch.ins : List (Bool × Ty) := [(false, YWatch)]
def monitor_CheckWatch.outs : List Ty := [(.int .i64)]
noncomputable def monitor_CheckWatch.f (n : Nat) (t0 : DWatch) : Option (Int × Unit) := (fnE tab monitor_CheckWatch.T monitor_CheckWatch.ann Try.f19 monitor_CheckWatch.ins monitor_CheckWatch.outs n).f (t0, ())
noncomputable def monitor_CheckWatch.c0 (n : Nat) (t1_0 : (List (List UInt8))) (t1_1 : (List DModeChange)) (t1_2 : List UInt8) (t1_3 : (List DWatchRule)) (t4 : (List (List UInt8 × Bool))) (t23 : (List DWatchRule)) (t24 : Int) (t25 : Int) : Option (Int × Unit) := cutN tab monitor_CheckWatch.T monitor_CheckWatch.ann Try.f19 monitor_CheckWatch.ins monitor_CheckWatch.outs n [1, 1, 1, 1, 0, 1, 0] [(1, .val false [.ptr 1000001 0]), (4, .val false [.mapr 1000004]), (23, .val false [.v (.sl YWatchRule) t23]), (24, .val false [.v (.int .i64) t24]), (25, .val false [.v (.int .i64) t25])] [(1000001, .live (.cells 0 [.v (.sl .str) t1_0, .v (.sl YModeChange) t1_1, .v .str t1_2, .v (.sl YWatchRule) t1_3])), (1000004, .live (.mapo .str .bool t4))]
noncomputable def monitor_CheckWatch.c1 (n : Nat) (t4 : (List (List UInt8 × Bool))) (t55 : (List DWatchRule)) (t56 : Int) (t57 : Int) : Option (Int × Unit) := cutN tab monitor_CheckWatch.T monitor_CheckWatch.ann Try.f19 monitor_CheckWatch.ins monitor_CheckWatch.outs n [1, 1, 1, 1, 1, 0, 1, 0] [(4, .val false [.mapr 1000004]), (55, .val false [.v (.sl YWatchRule) t55]), (56, .val false [.v (.int .i64) t56]), (57, .val false [.v (.int .i64) t57])] [(1000004, .live (.mapo .str .bool t4))]
noncomputable def monitor_CheckWatch.c2 (n : Nat) (t4 : (List (List UInt8 × Bool))) (t55 : (List DWatchRule)) (t56 : Int) (t57 : Int) (t62 : (List DAct)) (t63 : Int) (t64 : Int) : Option (Int × Unit) := cutN tab monitor_CheckWatch.T monitor_CheckWatch.ann Try.f19 monitor_CheckWatch.ins monitor_CheckWatch.outs n [1, 1, 1, 1, 1, 0, 1, 0, 0, 1, 1, 0, 0, 1, 1, 0] [(4, .val false [.mapr 1000004]), (55, .val false [.v (.sl YWatchRule) t55]), (56, .val false [.v (.int .i64) t56]), (57, .val false [.v (.int .i64) t57]), (62, .val false [.v (.sl YAct) t62]), (63, .val false [.v (.int .i64) t63]), (64, .val false [.v (.int .i64) t64])] [(1000004, .live (.mapo .str .bool t4))]
theorem monitor_CheckWatch.f_eq (n : Nat) (t0 : DWatch) : monitor_CheckWatch.f n t0 =
 ((monitor_checkModes.f n t0).bind fun r1 =>
 (if (!(decide (r1.1 = 0))) = true then
  some (r1.1, ())
  else
  (if (decide (200 < (t0.2.2.2.length : Int))) = true then
   some (2, ())
   else
   monitor_CheckWatch.c0 n t0.1 t0.2.1 t0.2.2.1 t0.2.2.2 [] t0.2.2.2 (t0.2.2.2.length : Int) 0))) := by kernel_rfl
theorem monitor_CheckWatch.c0_eq (n : Nat) (t1_0 : (List (List UInt8))) (t1_1 : (List DModeChange)) (t1_2 : List UInt8) (t1_3 : (List DWatchRule)) (t4 : (List (List UInt8 × Bool))) (t23 : (List DWatchRule)) (t24 : Int) (t25 : Int) : monitor_CheckWatch.c0 (n + 1) t1_0 t1_1 t1_2 t1_3 t4 t23 t24 t25 =
 (if (decide (t25 < t24)) = true then
 (if (0 : Int) ≤ t25 ∧ t25 < (t23.length : Int) then
  ((monitor_checkRule.f n (t1_0, (t1_1, (t1_2, t1_3))) (t23.getD t25.toNat (Ty.dflt YWatchRule))).bind fun r2 =>
   (if (!(decide (r2.1 = 0))) = true then
    some (r2.1, ())
    else
    (if (decide (0 < t25)) = true then
     (if (0 : Int) ≤ (IntKind.wrap .i64 (t25 - 1)) ∧ (IntKind.wrap .i64 (t25 - 1)) < (t1_3.length : Int) then
      (if (!(lessS (t1_3.getD (IntKind.wrap .i64 (t25 - 1)).toNat (Ty.dflt YWatchRule)).1 (t23.getD t25.toNat (Ty.dflt YWatchRule)).1)) = true then
       some (8, ())
       else
       monitor_CheckWatch.c0 n t1_0 t1_1 t1_2 t1_3 (mapPut .str .bool (t23.getD t25.toNat (Ty.dflt YWatchRule)).1 true t4) t23 t24 (IntKind.wrap .i64 (t25 + 1)))
      else none)
     else
     monitor_CheckWatch.c0 n t1_0 t1_1 t1_2 t1_3 (mapPut .str .bool (t23.getD t25.toNat (Ty.dflt YWatchRule)).1 true t4) t23 t24 (IntKind.wrap .i64 (t25 + 1)))))
  else none)
 else
 monitor_CheckWatch.c1 n t4 t1_3 (t1_3.length : Int) 0) := by kernel_rfl
theorem monitor_CheckWatch.c1_eq (n : Nat) (t4 : (List (List UInt8 × Bool))) (t55 : (List DWatchRule)) (t56 : Int) (t57 : Int) : monitor_CheckWatch.c1 (n + 1) t4 t55 t56 t57 =
 (if (decide (t57 < t56)) = true then
 (if (0 : Int) ≤ t57 ∧ t57 < (t55.length : Int) then
  monitor_CheckWatch.c2 n t4 t55 t56 t57 (t55.getD t57.toNat (Ty.dflt YWatchRule)).2.2.2.2 ((t55.getD t57.toNat (Ty.dflt YWatchRule)).2.2.2.2.length : Int) 0
  else none)
 else
 some (0, ())) := by kernel_rfl
theorem monitor_CheckWatch.c2_eq (n : Nat) (t4 : (List (List UInt8 × Bool))) (t55 : (List DWatchRule)) (t56 : Int) (t57 : Int) (t62 : (List DAct)) (t63 : Int) (t64 : Int) : monitor_CheckWatch.c2 (n + 1) t4 t55 t56 t57 t62 t63 t64 =
 (if (decide (t64 < t63)) = true then
 (if (0 : Int) ≤ t64 ∧ t64 < (t62.length : Int) then
  (if (decide ((t62.getD t64.toNat (Ty.dflt YAct)).1 = 2)) = true then
   (if (!(mapGet .str .bool (t62.getD t64.toNat (Ty.dflt YAct)).2.1 t4 false)) = true then
    some (9, ())
    else
    monitor_CheckWatch.c2 n t4 t55 t56 t57 t62 t63 (IntKind.wrap .i64 (t64 + 1)))
   else
   (if (decide ((t62.getD t64.toNat (Ty.dflt YAct)).1 = 3)) = true then
    (if (!(mapGet .str .bool (t62.getD t64.toNat (Ty.dflt YAct)).2.1 t4 false)) = true then
     some (9, ())
     else
     monitor_CheckWatch.c2 n t4 t55 t56 t57 t62 t63 (IntKind.wrap .i64 (t64 + 1)))
    else
    monitor_CheckWatch.c2 n t4 t55 t56 t57 t62 t63 (IntKind.wrap .i64 (t64 + 1))))
  else none)
 else
 monitor_CheckWatch.c1 n t4 t55 t56 (IntKind.wrap .i64 (t57 + 1))) := by kernel_rfl
noncomputable def monitor_CheckWatch.E (n : Nat) : FunE := fnE tab monitor_CheckWatch.T monitor_CheckWatch.ann Try.f19 monitor_CheckWatch.ins monitor_CheckWatch.outs n

noncomputable def kit_First.T : Nat → Nat → Option FunE := fun n => ofL none []
noncomputable def kit_First.ann : Nat → Option (List Keep) := ofL none [(2, some [.slot 5, .slot 6, .slot 7])]
noncomputable def kit_First.ins : List (Bool × Ty) := [(false, (.sl (.int .i64)))]
def kit_First.outs : List Ty := [(.int .i64)]
noncomputable def kit_First.f (n : Nat) (l0 : (List Int)) : Option (Int × Unit) := (fnE tab kit_First.T kit_First.ann Try.f46 kit_First.ins kit_First.outs n).f (l0, ())
noncomputable def kit_First.c0 (n : Nat) (t5 : (List Int)) (t6 : Int) (t7 : Int) : Option (Int × Unit) := cutN tab kit_First.T kit_First.ann Try.f46 kit_First.ins kit_First.outs n [1, 0, 1, 0] [(5, .val false [.v (.sl (.int .i64)) t5]), (6, .val false [.v (.int .i64) t6]), (7, .val false [.v (.int .i64) t7])] []
theorem kit_First.f_eq (n : Nat) (l0 : (List Int)) : kit_First.f n l0 =
 kit_First.c0 n l0 (l0.length : Int) 0 := by kernel_rfl
theorem kit_First.c0_eq (n : Nat) (t5 : (List Int)) (t6 : Int) (t7 : Int) : kit_First.c0 (n + 1) t5 t6 t7 =
 (if (decide (t7 < t6)) = true then
 (if (0 : Int) ≤ t7 ∧ t7 < (t5.length : Int) then
  (if (!(decide ((t5.getD t7.toNat 0) = 0))) = true then
   some ((t5.getD t7.toNat 0), ())
   else
   kit_First.c0 n t5 t6 (IntKind.wrap .i64 (t7 + 1)))
  else none)
 else
 some (0, ())) := by kernel_rfl
noncomputable def kit_First.E (n : Nat) : FunE := fnE tab kit_First.T kit_First.ann Try.f46 kit_First.ins kit_First.outs n

noncomputable def monitor_CheckLimits.T : Nat → Nat → Option FunE := fun n => ofL none [(58, some (kit_In.E n)), (59, some (monitor_IsName.E n))]
noncomputable def monitor_CheckLimits.ann : Nat → Option (List Keep) := ofL none [(4, some [.slot 0, .slot 10, .slot 11, .slot 12]), (9, some [.slot 0, .slot 3, .obj 4 YLimit, .slot 10, .slot 11, .slot 12, .vec 29 (.int .i64), .slot 30, .slot 31]), (16, some [.slot 0, .slot 3, .obj 4 YLimit, .slot 10, .slot 11, .slot 12]), (18, some [.slot 0, .slot 3, .obj 4 YLimit, .slot 10, .slot 11, .slot 12])]
noncomputable def monitor_CheckLimits.ins : List (Bool × Ty) := [(false, (.sl YLimit))]
def monitor_CheckLimits.outs : List Ty := [(.int .i64)]
noncomputable def monitor_CheckLimits.E (n : Nat) : FunE := fnE tab monitor_CheckLimits.T monitor_CheckLimits.ann Try.f77 monitor_CheckLimits.ins monitor_CheckLimits.outs n

noncomputable def kit_Range.T : Nat → Nat → Option FunE := fun n => ofL none [(58, some (kit_In.E n))]
noncomputable def kit_Range.ann : Nat → Option (List Keep) := ofL none []
noncomputable def kit_Range.ins : List (Bool × Ty) := [(false, (.int .i64)), (false, (.int .i64)), (false, (.int .i64))]
def kit_Range.outs : List Ty := [(.int .i64)]
noncomputable def kit_Range.E (n : Nat) : FunE := fnE tab kit_Range.T kit_Range.ann Try.f78 kit_Range.ins kit_Range.outs n

noncomputable def monitor_state.T : Nat → Nat → Option FunE := fun n => ofL none []
noncomputable def monitor_state.ann : Nat → Option (List Keep) := ofL none []
noncomputable def monitor_state.ins : List (Bool × Ty) := [(false, YLimit), (false, (.int .i64))]
def monitor_state.outs : List Ty := [(.int .i64)]
noncomputable def monitor_state.E (n : Nat) : FunE := fnE tab monitor_state.T monitor_state.ann Try.f79 monitor_state.ins monitor_state.outs n

noncomputable def monitor_StateOf.T : Nat → Nat → Option FunE := fun n => ofL none [(46, some (kit_First.E n)), (77, some (monitor_CheckLimits.E n)), (78, some (kit_Range.E n)), (79, some (monitor_state.E n))]
noncomputable def monitor_StateOf.ann : Nat → Option (List Keep) := ofL none []
noncomputable def monitor_StateOf.ins : List (Bool × Ty) := [(false, YLimit), (false, (.int .i64))]
def monitor_StateOf.outs : List Ty := [(.int .i64), (.int .i64)]
noncomputable def monitor_StateOf.E (n : Nat) : FunE := fnE tab monitor_StateOf.T monitor_StateOf.ann Try.f44 monitor_StateOf.ins monitor_StateOf.outs n

noncomputable def perigeelaw8_awake.T : Nat → Nat → Option FunE := fun n => ofL none [(44, some (monitor_StateOf.E n))]
noncomputable def perigeelaw8_awake.ann : Nat → Option (List Keep) := ofL none []
noncomputable def perigeelaw8_awake.ins : List (Bool × Ty) := []
def perigeelaw8_awake.outs : List Ty := [.bool]
noncomputable def perigeelaw8_awake.f (n : Nat) : Option (Bool × Unit) := (fnE tab perigeelaw8_awake.T perigeelaw8_awake.ann Try.f14 perigeelaw8_awake.ins perigeelaw8_awake.outs n).f ()
noncomputable def perigeelaw8_awake.E (n : Nat) : FunE := fnE tab perigeelaw8_awake.T perigeelaw8_awake.ann Try.f14 perigeelaw8_awake.ins perigeelaw8_awake.outs n

noncomputable def monitor_CheckEvents.T : Nat → Nat → Option FunE := fun n => ofL none [(58, some (kit_In.E n)), (59, some (monitor_IsName.E n))]
noncomputable def monitor_CheckEvents.ann : Nat → Option (List Keep) := ofL none [(4, some [.slot 0, .slot 8, .slot 9, .slot 10])]
noncomputable def monitor_CheckEvents.ins : List (Bool × Ty) := [(false, (.sl YEvent))]
def monitor_CheckEvents.outs : List Ty := [(.int .i64)]
noncomputable def monitor_CheckEvents.f (n : Nat) (l0 : (List DEvent)) : Option (Int × Unit) := (fnE tab monitor_CheckEvents.T monitor_CheckEvents.ann Try.f21 monitor_CheckEvents.ins monitor_CheckEvents.outs n).f (l0, ())
noncomputable def monitor_CheckEvents.c0 (n : Nat) (l0 : (List DEvent)) (t8 : (List DEvent)) (t9 : Int) (t10 : Int) : Option (Int × Unit) := cutN tab monitor_CheckEvents.T monitor_CheckEvents.ann Try.f21 monitor_CheckEvents.ins monitor_CheckEvents.outs n [1, 1, 0, 1, 0] [(0, .val false [.v (.sl YEvent) l0]), (8, .val false [.v (.sl YEvent) t8]), (9, .val false [.v (.int .i64) t9]), (10, .val false [.v (.int .i64) t10])] []
theorem monitor_CheckEvents.f_eq (n : Nat) (l0 : (List DEvent)) : monitor_CheckEvents.f n l0 =
 (if (decide (5000 < (l0.length : Int))) = true then
 some (2, ())
 else
 monitor_CheckEvents.c0 n l0 l0 (l0.length : Int) 0) := by kernel_rfl
theorem monitor_CheckEvents.c0_eq (n : Nat) (l0 : (List DEvent)) (t8 : (List DEvent)) (t9 : Int) (t10 : Int) : monitor_CheckEvents.c0 (n + 1) l0 t8 t9 t10 =
 (if (decide (t10 < t9)) = true then
 (if (0 : Int) ≤ t10 ∧ t10 < (t8.length : Int) then
  ((kit_In.f n (t8.getD t10.toNat (Ty.dflt YEvent)).1 0 1000000000000).bind fun r1 =>
   (if (!r1.1) = true then
    some (1, ())
    else
    ((monitor_IsName.f n (t8.getD t10.toNat (Ty.dflt YEvent)).2).bind fun r2 =>
     (if (!r2.1) = true then
      some (5, ())
      else
      (if (decide (0 < t10)) = true then
       (if (0 : Int) ≤ (IntKind.wrap .i64 (t10 - 1)) ∧ (IntKind.wrap .i64 (t10 - 1)) < (l0.length : Int) then
        (if (decide ((t8.getD t10.toNat (Ty.dflt YEvent)).1 < (l0.getD (IntKind.wrap .i64 (t10 - 1)).toNat (Ty.dflt YEvent)).1)) = true then
         some (8, ())
         else
         monitor_CheckEvents.c0 n l0 t8 t9 (IntKind.wrap .i64 (t10 + 1)))
        else none)
       else
       monitor_CheckEvents.c0 n l0 t8 t9 (IntKind.wrap .i64 (t10 + 1)))))))
  else none)
 else
 some (0, ())) := by kernel_rfl
noncomputable def monitor_CheckEvents.E (n : Nat) : FunE := fnE tab monitor_CheckEvents.T monitor_CheckEvents.ann Try.f21 monitor_CheckEvents.ins monitor_CheckEvents.outs n

noncomputable def monitor_newPlayer.T : Nat → Nat → Option FunE := fun n => ofL none []
noncomputable def monitor_newPlayer.ann : Nat → Option (List Keep) := ofL none [(3, some [.pobj 3 [.str, .unit, .unit, (.sl .str), (.sl YModeChange), .str, (.sl YWatchRule), (.vec .bool), .unit] [10, 11, 13], .obj 1 YWatch, .slot 17, .slot 18, .slot 19, .slot 10, .slot 11, .slot 13]), (8, some [.pobj 3 [.str, .unit, .unit, (.sl .str), (.sl YModeChange), .str, (.sl YWatchRule), (.vec .bool), .unit] [10, 11, 13], .slot 36, .slot 37, .slot 38, .slot 10, .slot 11, .slot 13])]
noncomputable def monitor_newPlayer.ins : List (Bool × Ty) := [(false, YWatch)]
def monitor_newPlayer.outs : List Ty := [(.ptr YPlayer)]
noncomputable def monitor_newPlayer.f (n : Nat) (t0 : DWatch) : Option ((Option DPlayer) × Unit) := (fnE tab monitor_newPlayer.T monitor_newPlayer.ann Try.f47 monitor_newPlayer.ins monitor_newPlayer.outs n).f (t0, ())
noncomputable def monitor_newPlayer.c0 (n : Nat) (t3_0 : List UInt8) (t3_3 : (List (List UInt8))) (t3_4 : (List DModeChange)) (t3_5 : List UInt8) (t3_6 : (List DWatchRule)) (t3_7 : (List Bool)) (t1_0 : (List (List UInt8))) (t1_1 : (List DModeChange)) (t1_2 : List UInt8) (t1_3 : (List DWatchRule)) (t17 : (List DModeChange)) (t18 : Int) (t19 : Int) (t10 : (List ((List UInt8 × List UInt8) × List UInt8))) (t11 : (List (List UInt8 × (List Int)))) (t13 : (List (List UInt8 × Bool))) : Option ((Option DPlayer) × Unit) := cutN tab monitor_newPlayer.T monitor_newPlayer.ann Try.f47 monitor_newPlayer.ins monitor_newPlayer.outs n [1, 1, 0, 1, 0] [(3, .val false [.pptr 1000003 0 [(1, 1000010, false), (2, 1000011, true), (8, 1000013, false)]]), (1, .val false [.ptr 1000001 0]), (17, .val false [.v (.sl YModeChange) t17]), (18, .val false [.v (.int .i64) t18]), (19, .val false [.v (.int .i64) t19]), (10, .val false [.mapr 1000010]), (11, .val false [.mbr 1000011]), (13, .val false [.mapr 1000013])] [(1000003, .live (.cells 0 [.v .str t3_0, .cst, .cst, .v (.sl .str) t3_3, .v (.sl YModeChange) t3_4, .v .str t3_5, .v (.sl YWatchRule) t3_6, .v (.vec .bool) t3_7, .cst])), (1000001, .live (.cells 0 [.v (.sl .str) t1_0, .v (.sl YModeChange) t1_1, .v .str t1_2, .v (.sl YWatchRule) t1_3])), (1000010, .live (.mapo (.pair .str .str) .str t10)), (1000011, .live (.mapb 0 .str (.vec (.int .i64)) t11 none)), (1000013, .live (.mapo .str .bool t13))]
noncomputable def monitor_newPlayer.c1 (n : Nat) (t3_0 : List UInt8) (t3_3 : (List (List UInt8))) (t3_4 : (List DModeChange)) (t3_5 : List UInt8) (t3_6 : (List DWatchRule)) (t3_7 : (List Bool)) (t36 : (List DWatchRule)) (t37 : Int) (t38 : Int) (t10 : (List ((List UInt8 × List UInt8) × List UInt8))) (t11 : (List (List UInt8 × (List Int)))) (t13 : (List (List UInt8 × Bool))) : Option ((Option DPlayer) × Unit) := cutN tab monitor_newPlayer.T monitor_newPlayer.ann Try.f47 monitor_newPlayer.ins monitor_newPlayer.outs n [1, 1, 1, 0, 1, 0] [(3, .val false [.pptr 1000003 0 [(1, 1000010, false), (2, 1000011, true), (8, 1000013, false)]]), (36, .val false [.v (.sl YWatchRule) t36]), (37, .val false [.v (.int .i64) t37]), (38, .val false [.v (.int .i64) t38]), (10, .val false [.mapr 1000010]), (11, .val false [.mbr 1000011]), (13, .val false [.mapr 1000013])] [(1000003, .live (.cells 0 [.v .str t3_0, .cst, .cst, .v (.sl .str) t3_3, .v (.sl YModeChange) t3_4, .v .str t3_5, .v (.sl YWatchRule) t3_6, .v (.vec .bool) t3_7, .cst])), (1000010, .live (.mapo (.pair .str .str) .str t10)), (1000011, .live (.mapb 0 .str (.vec (.int .i64)) t11 none)), (1000013, .live (.mapo .str .bool t13))]
theorem monitor_newPlayer.f_eq (n : Nat) (t0 : DWatch) : monitor_newPlayer.f n t0 =
 monitor_newPlayer.c0 n t0.2.2.1 t0.1 t0.2.1 t0.2.2.1 t0.2.2.2 [] t0.1 t0.2.1 t0.2.2.1 t0.2.2.2 t0.2.1 (t0.2.1.length : Int) 0 [] [] [] := by kernel_rfl
theorem monitor_newPlayer.c0_eq (n : Nat) (t3_0 : List UInt8) (t3_3 : (List (List UInt8))) (t3_4 : (List DModeChange)) (t3_5 : List UInt8) (t3_6 : (List DWatchRule)) (t3_7 : (List Bool)) (t1_0 : (List (List UInt8))) (t1_1 : (List DModeChange)) (t1_2 : List UInt8) (t1_3 : (List DWatchRule)) (t17 : (List DModeChange)) (t18 : Int) (t19 : Int) (t10 : (List ((List UInt8 × List UInt8) × List UInt8))) (t11 : (List (List UInt8 × (List Int)))) (t13 : (List (List UInt8 × Bool))) : monitor_newPlayer.c0 (n + 1) t3_0 t3_3 t3_4 t3_5 t3_6 t3_7 t1_0 t1_1 t1_2 t1_3 t17 t18 t19 t10 t11 t13 =
 (if (decide (t19 < t18)) = true then
 (if (0 : Int) ≤ t19 ∧ t19 < (t17.length : Int) then
  monitor_newPlayer.c0 n t3_0 t3_3 t3_4 t3_5 t3_6 t3_7 t1_0 t1_1 t1_2 t1_3 t17 t18 (IntKind.wrap .i64 (t19 + 1)) (mapPut (.pair .str .str) .str ((t17.getD t19.toNat (Ty.dflt YModeChange)).1, (t17.getD t19.toNat (Ty.dflt YModeChange)).2.1) (t17.getD t19.toNat (Ty.dflt YModeChange)).2.2 t10) t11 t13
  else none)
 else
 monitor_newPlayer.c1 n t3_0 t3_3 t3_4 t3_5 t3_6 t3_7 t1_3 (t1_3.length : Int) 0 t10 t11 t13) := by kernel_rfl
theorem monitor_newPlayer.c1_eq (n : Nat) (t3_0 : List UInt8) (t3_3 : (List (List UInt8))) (t3_4 : (List DModeChange)) (t3_5 : List UInt8) (t3_6 : (List DWatchRule)) (t3_7 : (List Bool)) (t36 : (List DWatchRule)) (t37 : Int) (t38 : Int) (t10 : (List ((List UInt8 × List UInt8) × List UInt8))) (t11 : (List (List UInt8 × (List Int)))) (t13 : (List (List UInt8 × Bool))) : monitor_newPlayer.c1 (n + 1) t3_0 t3_3 t3_4 t3_5 t3_6 t3_7 t36 t37 t38 t10 t11 t13 =
 (if (decide (t38 < t37)) = true then
 (if (0 : Int) ≤ t38 ∧ t38 < (t36.length : Int) then
  (if (mapGet .str (.vec (.int .i64)) (t36.getD t38.toNat (Ty.dflt YWatchRule)).2.1 t11 []).length + 1 ≤ 1099511627776 then
   (if eqV .str (t36.getD t38.toNat (Ty.dflt YWatchRule)).2.1 (t36.getD t38.toNat (Ty.dflt YWatchRule)).2.1 = true then
    (if t3_7.length + 1 ≤ 1099511627776 then
     monitor_newPlayer.c1 n t3_0 t3_3 t3_4 t3_5 t3_6 (t3_7 ++ [true]) t36 t37 (IntKind.wrap .i64 (t38 + 1)) t10 (mapPut .str (.vec (.int .i64)) (t36.getD t38.toNat (Ty.dflt YWatchRule)).2.1 ((mapGet .str (.vec (.int .i64)) (t36.getD t38.toNat (Ty.dflt YWatchRule)).2.1 t11 []) ++ [t38]) t11) t13
     else none)
    else none)
   else none)
  else none)
 else
 some ((some (t3_0, (t10, (t11, ((t3_3, (t3_4, (t3_5, t3_6))), (t3_7, t13)))))), ())) := by kernel_rfl
noncomputable def monitor_newPlayer.E (n : Nat) : FunE := fnE tab monitor_newPlayer.T monitor_newPlayer.ann Try.f47 monitor_newPlayer.ins monitor_newPlayer.outs n

noncomputable def monitor_player_switchRule.T : Nat → Nat → Option FunE := fun n => ofL none []
noncomputable def monitor_player_switchRule.ann : Nat → Option (List Keep) := ofL none [(1, some [.obj 0 (.pair .str (.pair (.fmap (.pair .str .str) .str) (.pair (.fmap .str (.sl (.int .i64))) (.pair (.sl .str) (.pair (.sl YModeChange) (.pair .str (.pair (.sl YWatchRule) (.pair (.vec .bool) (.map .str .bool))))))))), .slot 1, .slot 2, .slot 12, .slot 13, .slot 14])]
noncomputable def monitor_player_switchRule.ins : List (Bool × Ty) := [(true, YPlayer), (false, .str), (false, .bool)]
def monitor_player_switchRule.outs : List Ty := []
noncomputable def monitor_player_switchRule.f (n : Nat) (p0 : DPlayer) (name1 : List UInt8) (on2 : Bool) : Option (DPlayer × Unit) := (fnE tab monitor_player_switchRule.T monitor_player_switchRule.ann Try.f89 monitor_player_switchRule.ins monitor_player_switchRule.outs n).f (p0, (name1, (on2, ())))
noncomputable def monitor_player_switchRule.c0 (n : Nat) (p0_0 : List UInt8) (p0_1 : (List ((List UInt8 × List UInt8) × List UInt8))) (p0_2 : (List (List UInt8 × (List Int)))) (p0_3 : (List (List UInt8))) (p0_4 : (List DModeChange)) (p0_5 : List UInt8) (p0_6 : (List DWatchRule)) (p0_7 : (List Bool)) (p0_8 : (List (List UInt8 × Bool))) (name1 : List UInt8) (on2 : Bool) (t12 : (List DWatchRule)) (t13 : Int) (t14 : Int) : Option (DPlayer × Unit) := cutN tab monitor_player_switchRule.T monitor_player_switchRule.ann Try.f89 monitor_player_switchRule.ins monitor_player_switchRule.outs n [1, 0] [(0, .val false [.ptr 1000000 0]), (1, .val false [.v .str name1]), (2, .val false [.v .bool on2]), (12, .val false [.v (.sl YWatchRule) t12]), (13, .val false [.v (.int .i64) t13]), (14, .val false [.v (.int .i64) t14])] [(1000000, .live (.cells 0 [.v .str p0_0, .v (.fmap (.pair .str .str) .str) p0_1, .v (.fmap .str (.sl (.int .i64))) p0_2, .v (.sl .str) p0_3, .v (.sl YModeChange) p0_4, .v .str p0_5, .v (.sl YWatchRule) p0_6, .v (.vec .bool) p0_7, .v (.map .str .bool) p0_8]))]
theorem monitor_player_switchRule.f_eq (n : Nat) (p0 : DPlayer) (name1 : List UInt8) (on2 : Bool) : monitor_player_switchRule.f n p0 name1 on2 =
 monitor_player_switchRule.c0 n p0.1 p0.2.1 p0.2.2.1 p0.2.2.2.1.1 p0.2.2.2.1.2.1 p0.2.2.2.1.2.2.1 p0.2.2.2.1.2.2.2 p0.2.2.2.2.1 p0.2.2.2.2.2 name1 on2 p0.2.2.2.1.2.2.2 (p0.2.2.2.1.2.2.2.length : Int) 0 := by kernel_rfl
theorem monitor_player_switchRule.c0_eq (n : Nat) (p0_0 : List UInt8) (p0_1 : (List ((List UInt8 × List UInt8) × List UInt8))) (p0_2 : (List (List UInt8 × (List Int)))) (p0_3 : (List (List UInt8))) (p0_4 : (List DModeChange)) (p0_5 : List UInt8) (p0_6 : (List DWatchRule)) (p0_7 : (List Bool)) (p0_8 : (List (List UInt8 × Bool))) (name1 : List UInt8) (on2 : Bool) (t12 : (List DWatchRule)) (t13 : Int) (t14 : Int) : monitor_player_switchRule.c0 (n + 1) p0_0 p0_1 p0_2 p0_3 p0_4 p0_5 p0_6 p0_7 p0_8 name1 on2 t12 t13 t14 =
 (if (decide (t14 < t13)) = true then
 (if (0 : Int) ≤ t14 ∧ t14 < (t12.length : Int) then
  (if (decide (((t12.getD t14.toNat (Ty.dflt YWatchRule)).1 : List UInt8) = name1)) = true then
   (if (0 : Int) ≤ t14 ∧ t14 < (p0_7.length : Int) then
    monitor_player_switchRule.c0 n p0_0 p0_1 p0_2 p0_3 p0_4 p0_5 p0_6 (p0_7.set t14.toNat on2) p0_8 name1 on2 t12 t13 (IntKind.wrap .i64 (t14 + 1))
    else none)
   else
   monitor_player_switchRule.c0 n p0_0 p0_1 p0_2 p0_3 p0_4 p0_5 p0_6 p0_7 p0_8 name1 on2 t12 t13 (IntKind.wrap .i64 (t14 + 1)))
  else none)
 else
 some ((p0_0, (p0_1, (p0_2, ((p0_3, (p0_4, (p0_5, p0_6))), (p0_7, p0_8))))), ())) := by kernel_rfl
noncomputable def monitor_player_switchRule.E (n : Nat) : FunE := fnE tab monitor_player_switchRule.T monitor_player_switchRule.ann Try.f89 monitor_player_switchRule.ins monitor_player_switchRule.outs n

noncomputable def monitor_player_act.T : Nat → Nat → Option FunE := fun n => ofL none [(89, some (monitor_player_switchRule.E n))]
noncomputable def monitor_player_act.ann : Nat → Option (List Keep) := ofL none [(3, some [.obj 0 (.pair .str (.pair (.fmap (.pair .str .str) .str) (.pair (.fmap .str (.sl (.int .i64))) (.pair (.sl .str) (.pair (.sl YModeChange) (.pair .str (.pair (.sl YWatchRule) (.pair (.vec .bool) (.map .str .bool))))))))), .vec 5 .str, .slot 9, .slot 10, .slot 11])]
noncomputable def monitor_player_act.ins : List (Bool × Ty) := [(true, YPlayer), (false, YWatchRule)]
def monitor_player_act.outs : List Ty := [(.sl .str)]
noncomputable def monitor_player_act.f (n : Nat) (p0 : DPlayer) (r1 : DWatchRule) : Option ((List (List UInt8)) × DPlayer × Unit) := (fnE tab monitor_player_act.T monitor_player_act.ann Try.f80 monitor_player_act.ins monitor_player_act.outs n).f (p0, (r1, ()))
noncomputable def monitor_player_act.c0 (n : Nat) (p0_0 : List UInt8) (p0_1 : (List ((List UInt8 × List UInt8) × List UInt8))) (p0_2 : (List (List UInt8 × (List Int)))) (p0_3 : (List (List UInt8))) (p0_4 : (List DModeChange)) (p0_5 : List UInt8) (p0_6 : (List DWatchRule)) (p0_7 : (List Bool)) (p0_8 : (List (List UInt8 × Bool))) (out5 : (List (List UInt8))) (t9 : (List DAct)) (t10 : Int) (t11 : Int) : Option ((List (List UInt8)) × DPlayer × Unit) := cutN tab monitor_player_act.T monitor_player_act.ann Try.f80 monitor_player_act.ins monitor_player_act.outs n [1, 1, 0, 1, 0] [(0, .val false [.ptr 1000000 0]), (5, .val false [.row 1000005]), (9, .val false [.v (.sl YAct) t9]), (10, .val false [.v (.int .i64) t10]), (11, .val false [.v (.int .i64) t11])] [(1000000, .live (.cells 0 [.v .str p0_0, .v (.fmap (.pair .str .str) .str) p0_1, .v (.fmap .str (.sl (.int .i64))) p0_2, .v (.sl .str) p0_3, .v (.sl YModeChange) p0_4, .v .str p0_5, .v (.sl YWatchRule) p0_6, .v (.vec .bool) p0_7, .v (.map .str .bool) p0_8])), (1000005, .live (.row .str out5))]
theorem monitor_player_act.f_eq (n : Nat) (p0 : DPlayer) (r1 : DWatchRule) : monitor_player_act.f n p0 r1 =
 monitor_player_act.c0 n p0.1 p0.2.1 p0.2.2.1 p0.2.2.2.1.1 p0.2.2.2.1.2.1 p0.2.2.2.1.2.2.1 p0.2.2.2.1.2.2.2 p0.2.2.2.2.1 p0.2.2.2.2.2 [] r1.2.2.2.2 (r1.2.2.2.2.length : Int) 0 := by kernel_rfl
theorem monitor_player_act.c0_eq (n : Nat) (p0_0 : List UInt8) (p0_1 : (List ((List UInt8 × List UInt8) × List UInt8))) (p0_2 : (List (List UInt8 × (List Int)))) (p0_3 : (List (List UInt8))) (p0_4 : (List DModeChange)) (p0_5 : List UInt8) (p0_6 : (List DWatchRule)) (p0_7 : (List Bool)) (p0_8 : (List (List UInt8 × Bool))) (out5 : (List (List UInt8))) (t9 : (List DAct)) (t10 : Int) (t11 : Int) : monitor_player_act.c0 (n + 1) p0_0 p0_1 p0_2 p0_3 p0_4 p0_5 p0_6 p0_7 p0_8 out5 t9 t10 t11 =
 (if (decide (t11 < t10)) = true then
 (if (0 : Int) ≤ t11 ∧ t11 < (t9.length : Int) then
  (if (decide ((t9.getD t11.toNat (Ty.dflt YAct)).1 = 1)) = true then
   (if out5.length + 1 ≤ 1099511627776 then
    monitor_player_act.c0 n p0_0 p0_1 p0_2 p0_3 p0_4 p0_5 p0_6 p0_7 p0_8 (out5 ++ [(t9.getD t11.toNat (Ty.dflt YAct)).2.1]) t9 t10 (IntKind.wrap .i64 (t11 + 1))
    else none)
   else
   (if (decide ((t9.getD t11.toNat (Ty.dflt YAct)).1 = 2)) = true then
    ((monitor_player_switchRule.f n (p0_0, (p0_1, (p0_2, ((p0_3, (p0_4, (p0_5, p0_6))), (p0_7, p0_8))))) (t9.getD t11.toNat (Ty.dflt YAct)).2.1 (decide ((t9.getD t11.toNat (Ty.dflt YAct)).1 = 2))).bind fun rr1 =>
     monitor_player_act.c0 n rr1.1.1 rr1.1.2.1 rr1.1.2.2.1 rr1.1.2.2.2.1.1 rr1.1.2.2.2.1.2.1 rr1.1.2.2.2.1.2.2.1 rr1.1.2.2.2.1.2.2.2 rr1.1.2.2.2.2.1 rr1.1.2.2.2.2.2 out5 t9 t10 (IntKind.wrap .i64 (t11 + 1)))
    else
    (if (decide ((t9.getD t11.toNat (Ty.dflt YAct)).1 = 3)) = true then
     ((monitor_player_switchRule.f n (p0_0, (p0_1, (p0_2, ((p0_3, (p0_4, (p0_5, p0_6))), (p0_7, p0_8))))) (t9.getD t11.toNat (Ty.dflt YAct)).2.1 (decide ((t9.getD t11.toNat (Ty.dflt YAct)).1 = 2))).bind fun rr2 =>
      monitor_player_act.c0 n rr2.1.1 rr2.1.2.1 rr2.1.2.2.1 rr2.1.2.2.2.1.1 rr2.1.2.2.2.1.2.1 rr2.1.2.2.2.1.2.2.1 rr2.1.2.2.2.1.2.2.2 rr2.1.2.2.2.2.1 rr2.1.2.2.2.2.2 out5 t9 t10 (IntKind.wrap .i64 (t11 + 1)))
     else
     monitor_player_act.c0 n p0_0 p0_1 p0_2 p0_3 p0_4 p0_5 p0_6 p0_7 (mapPut .str .bool (t9.getD t11.toNat (Ty.dflt YAct)).2.1 (!(t9.getD t11.toNat (Ty.dflt YAct)).2.2) p0_8) out5 t9 t10 (IntKind.wrap .i64 (t11 + 1)))))
  else none)
 else
 some (out5, ((p0_0, (p0_1, (p0_2, ((p0_3, (p0_4, (p0_5, p0_6))), (p0_7, p0_8))))), ()))) := by kernel_rfl
noncomputable def monitor_player_act.E (n : Nat) : FunE := fnE tab monitor_player_act.T monitor_player_act.ann Try.f80 monitor_player_act.ins monitor_player_act.outs n

noncomputable def monitor_player_come.T : Nat → Nat → Option FunE := fun n => ofL none [(80, some (monitor_player_act.E n))]
noncomputable def monitor_player_come.ann : Nat → Option (List Keep) := ofL none [(3, some [.obj 0 (.pair .str (.pair (.fmap (.pair .str .str) .str) (.pair (.fmap .str (.sl (.int .i64))) (.pair (.sl .str) (.pair (.sl YModeChange) (.pair .str (.pair (.sl YWatchRule) (.pair (.vec .bool) (.map .str .bool))))))))), .obj 3 YEvent, .vec 6 YFired, .vec 7 .str]), (11, some [.obj 0 (.pair .str (.pair (.fmap (.pair .str .str) .str) (.pair (.fmap .str (.sl (.int .i64))) (.pair (.sl .str) (.pair (.sl YModeChange) (.pair .str (.pair (.sl YWatchRule) (.pair (.vec .bool) (.map .str .bool))))))))), .obj 3 YEvent, .vec 6 YFired, .vec 7 .str, .slot 8, .slot 9]), (13, some [.obj 0 (.pair .str (.pair (.fmap (.pair .str .str) .str) (.pair (.fmap .str (.sl (.int .i64))) (.pair (.sl .str) (.pair (.sl YModeChange) (.pair .str (.pair (.sl YWatchRule) (.pair (.vec .bool) (.map .str .bool))))))))), .obj 3 YEvent, .vec 6 YFired, .vec 7 .str, .slot 8, .slot 9, .vec 12 (.int .i64), .slot 63, .slot 64, .slot 65]), (20, some [.obj 0 (.pair .str (.pair (.fmap (.pair .str .str) .str) (.pair (.fmap .str (.sl (.int .i64))) (.pair (.sl .str) (.pair (.sl YModeChange) (.pair .str (.pair (.sl YWatchRule) (.pair (.vec .bool) (.map .str .bool))))))))), .obj 3 YEvent, .vec 6 YFired, .vec 7 .str, .slot 8, .slot 9, .vec 100 (.int .i64), .slot 101, .slot 102])]
noncomputable def monitor_player_come.ins : List (Bool × Ty) := [(true, YPlayer), (false, YEvent)]
def monitor_player_come.outs : List Ty := [(.sl YFired), .bool]
noncomputable def monitor_player_come.f (n : Nat) (t0 : DPlayer) (t1 : DEvent) : Option ((List DFired) × Bool × DPlayer × Unit) := (fnE tab monitor_player_come.T monitor_player_come.ann Try.f48 monitor_player_come.ins monitor_player_come.outs n).f (t0, (t1, ()))
noncomputable def monitor_player_come.c0 (n : Nat) (t0_0 : List UInt8) (t0_1 : (List ((List UInt8 × List UInt8) × List UInt8))) (t0_2 : (List (List UInt8 × (List Int)))) (t0_3 : (List (List UInt8))) (t0_4 : (List DModeChange)) (t0_5 : List UInt8) (t0_6 : (List DWatchRule)) (t0_7 : (List Bool)) (t0_8 : (List (List UInt8 × Bool))) (t3_0 : Int) (t3_1 : List UInt8) (t6 : (List DFired)) (t7 : (List (List UInt8))) : Option ((List DFired) × Bool × DPlayer × Unit) := cutN tab monitor_player_come.T monitor_player_come.ann Try.f48 monitor_player_come.ins monitor_player_come.outs n [1, 1, 0, 1, 0] [(0, .val false [.ptr 1000000 0]), (3, .val false [.ptr 1000003 0]), (6, .val false [.row 1000006]), (7, .val false [.row 1000007])] [(1000000, .live (.cells 0 [.v .str t0_0, .v (.fmap (.pair .str .str) .str) t0_1, .v (.fmap .str (.sl (.int .i64))) t0_2, .v (.sl .str) t0_3, .v (.sl YModeChange) t0_4, .v .str t0_5, .v (.sl YWatchRule) t0_6, .v (.vec .bool) t0_7, .v (.map .str .bool) t0_8])), (1000003, .live (.cells 0 [.v (.int .i64) t3_0, .v .str t3_1])), (1000006, .live (.row YFired t6)), (1000007, .live (.row .str t7))]
noncomputable def monitor_player_come.c1 (n : Nat) (t0_0 : List UInt8) (t0_1 : (List ((List UInt8 × List UInt8) × List UInt8))) (t0_2 : (List (List UInt8 × (List Int)))) (t0_3 : (List (List UInt8))) (t0_4 : (List DModeChange)) (t0_5 : List UInt8) (t0_6 : (List DWatchRule)) (t0_7 : (List Bool)) (t0_8 : (List (List UInt8 × Bool))) (t3_0 : Int) (t3_1 : List UInt8) (t6 : (List DFired)) (t7 : (List (List UInt8))) (t8 : List UInt8) (t9 : List UInt8) : Option ((List DFired) × Bool × DPlayer × Unit) := cutN tab monitor_player_come.T monitor_player_come.ann Try.f48 monitor_player_come.ins monitor_player_come.outs n [1, 1, 0, 1, 0, 0, 1, 0, 1, 1, 1, 1, 1] [(0, .val false [.ptr 1000000 0]), (3, .val false [.ptr 1000003 0]), (6, .val false [.row 1000006]), (7, .val false [.row 1000007]), (8, .val false [.v .str t8]), (9, .val false [.v .str t9])] [(1000000, .live (.cells 0 [.v .str t0_0, .v (.fmap (.pair .str .str) .str) t0_1, .v (.fmap .str (.sl (.int .i64))) t0_2, .v (.sl .str) t0_3, .v (.sl YModeChange) t0_4, .v .str t0_5, .v (.sl YWatchRule) t0_6, .v (.vec .bool) t0_7, .v (.map .str .bool) t0_8])), (1000003, .live (.cells 0 [.v (.int .i64) t3_0, .v .str t3_1])), (1000006, .live (.row YFired t6)), (1000007, .live (.row .str t7))]
noncomputable def monitor_player_come.c2 (n : Nat) (t0_0 : List UInt8) (t0_1 : (List ((List UInt8 × List UInt8) × List UInt8))) (t0_2 : (List (List UInt8 × (List Int)))) (t0_3 : (List (List UInt8))) (t0_4 : (List DModeChange)) (t0_5 : List UInt8) (t0_6 : (List DWatchRule)) (t0_7 : (List Bool)) (t0_8 : (List (List UInt8 × Bool))) (t3_0 : Int) (t3_1 : List UInt8) (t6 : (List DFired)) (t7 : (List (List UInt8))) (t8 : List UInt8) (t9 : List UInt8) (t12 : (List Int)) (t63 : (List Int)) (t64 : Int) (t65 : Int) : Option ((List DFired) × Bool × DPlayer × Unit) := cutN tab monitor_player_come.T monitor_player_come.ann Try.f48 monitor_player_come.ins monitor_player_come.outs n [1, 1, 0, 1, 0, 0, 1, 0, 1, 1, 1, 1, 1, 1, 0, 1, 0] [(0, .val false [.ptr 1000000 0]), (3, .val false [.ptr 1000003 0]), (6, .val false [.row 1000006]), (7, .val false [.row 1000007]), (8, .val false [.v .str t8]), (9, .val false [.v .str t9]), (12, .val false [.row 1000012]), (63, .val false [.v (.sl (.int .i64)) t63]), (64, .val false [.v (.int .i64) t64]), (65, .val false [.v (.int .i64) t65])] [(1000000, .live (.cells 0 [.v .str t0_0, .v (.fmap (.pair .str .str) .str) t0_1, .v (.fmap .str (.sl (.int .i64))) t0_2, .v (.sl .str) t0_3, .v (.sl YModeChange) t0_4, .v .str t0_5, .v (.sl YWatchRule) t0_6, .v (.vec .bool) t0_7, .v (.map .str .bool) t0_8])), (1000003, .live (.cells 0 [.v (.int .i64) t3_0, .v .str t3_1])), (1000006, .live (.row YFired t6)), (1000007, .live (.row .str t7)), (1000012, .live (.row (.int .i64) t12))]
noncomputable def monitor_player_come.c3 (n : Nat) (t0_0 : List UInt8) (t0_1 : (List ((List UInt8 × List UInt8) × List UInt8))) (t0_2 : (List (List UInt8 × (List Int)))) (t0_3 : (List (List UInt8))) (t0_4 : (List DModeChange)) (t0_5 : List UInt8) (t0_6 : (List DWatchRule)) (t0_7 : (List Bool)) (t0_8 : (List (List UInt8 × Bool))) (t3_0 : Int) (t3_1 : List UInt8) (t6 : (List DFired)) (t7 : (List (List UInt8))) (t8 : List UInt8) (t9 : List UInt8) (t100 : (List Int)) (t101 : Int) (t102 : Int) : Option ((List DFired) × Bool × DPlayer × Unit) := cutN tab monitor_player_come.T monitor_player_come.ann Try.f48 monitor_player_come.ins monitor_player_come.outs n [1, 1, 0, 1, 0, 0, 1, 0, 1, 1, 1, 1, 1, 1, 1, 0, 1, 0] [(0, .val false [.ptr 1000000 0]), (3, .val false [.ptr 1000003 0]), (6, .val false [.row 1000006]), (7, .val false [.row 1000007]), (8, .val false [.v .str t8]), (9, .val false [.v .str t9]), (100, .val false [.row 1000100]), (101, .val false [.v (.int .i64) t101]), (102, .val false [.v (.int .i64) t102])] [(1000000, .live (.cells 0 [.v .str t0_0, .v (.fmap (.pair .str .str) .str) t0_1, .v (.fmap .str (.sl (.int .i64))) t0_2, .v (.sl .str) t0_3, .v (.sl YModeChange) t0_4, .v .str t0_5, .v (.sl YWatchRule) t0_6, .v (.vec .bool) t0_7, .v (.map .str .bool) t0_8])), (1000003, .live (.cells 0 [.v (.int .i64) t3_0, .v .str t3_1])), (1000006, .live (.row YFired t6)), (1000007, .live (.row .str t7)), (1000100, .live (.row (.int .i64) t100))]
theorem monitor_player_come.f_eq (n : Nat) (t0 : DPlayer) (t1 : DEvent) : monitor_player_come.f n t0 t1 =
 monitor_player_come.c0 n t0.1 t0.2.1 t0.2.2.1 t0.2.2.2.1.1 t0.2.2.2.1.2.1 t0.2.2.2.1.2.2.1 t0.2.2.2.1.2.2.2 t0.2.2.2.2.1 t0.2.2.2.2.2 t1.1 t1.2 [] [t1.2] := by kernel_rfl
theorem monitor_player_come.c0_eq (n : Nat) (t0_0 : List UInt8) (t0_1 : (List ((List UInt8 × List UInt8) × List UInt8))) (t0_2 : (List (List UInt8 × (List Int)))) (t0_3 : (List (List UInt8))) (t0_4 : (List DModeChange)) (t0_5 : List UInt8) (t0_6 : (List DWatchRule)) (t0_7 : (List Bool)) (t0_8 : (List (List UInt8 × Bool))) (t3_0 : Int) (t3_1 : List UInt8) (t6 : (List DFired)) (t7 : (List (List UInt8))) : monitor_player_come.c0 (n + 1) t0_0 t0_1 t0_2 t0_3 t0_4 t0_5 t0_6 t0_7 t0_8 t3_0 t3_1 t6 t7 =
 (if (decide (0 < (t7.length : Int))) = true then
 (if (0 : Int) ≤ 0 ∧ 0 < (t7.length : Int) then
  (if (0 : Int) ≤ 1 ∧ 1 ≤ (t7.length : Int) then
   (if t6.length + 1 ≤ 1099511627776 then
    (if (mapHas (.pair .str .str) .str (t0_0, (t7.getD 0 [])) t0_1) = true then
     monitor_player_come.c1 n (mapGet (.pair .str .str) .str (t0_0, (t7.getD 0 [])) t0_1 []) t0_1 t0_2 t0_3 t0_4 t0_5 t0_6 t0_7 t0_8 t3_0 t3_1 (t6 ++ [(t3_0, ((t7.getD 0 []), (t0_0, [])))]) (t7.drop 1) (t7.getD 0 []) t0_0
     else
     monitor_player_come.c1 n t0_0 t0_1 t0_2 t0_3 t0_4 t0_5 t0_6 t0_7 t0_8 t3_0 t3_1 (t6 ++ [(t3_0, ((t7.getD 0 []), (t0_0, [])))]) (t7.drop 1) (t7.getD 0 []) t0_0)
    else none)
   else none)
  else none)
 else
 some (t6, (true, ((t0_0, (t0_1, (t0_2, ((t0_3, (t0_4, (t0_5, t0_6))), (t0_7, t0_8))))), ())))) := by kernel_rfl
theorem monitor_player_come.c1_eq (n : Nat) (t0_0 : List UInt8) (t0_1 : (List ((List UInt8 × List UInt8) × List UInt8))) (t0_2 : (List (List UInt8 × (List Int)))) (t0_3 : (List (List UInt8))) (t0_4 : (List DModeChange)) (t0_5 : List UInt8) (t0_6 : (List DWatchRule)) (t0_7 : (List Bool)) (t0_8 : (List (List UInt8 × Bool))) (t3_0 : Int) (t3_1 : List UInt8) (t6 : (List DFired)) (t7 : (List (List UInt8))) (t8 : List UInt8) (t9 : List UInt8) : monitor_player_come.c1 (n + 1) t0_0 t0_1 t0_2 t0_3 t0_4 t0_5 t0_6 t0_7 t0_8 t3_0 t3_1 t6 t7 t8 t9 =
 monitor_player_come.c2 n t0_0 t0_1 t0_2 t0_3 t0_4 t0_5 t0_6 t0_7 t0_8 t3_0 t3_1 t6 t7 t8 t9 [] (mapGet .str (.sl (.int .i64)) t8 t0_2 []) ((mapGet .str (.sl (.int .i64)) t8 t0_2 []).length : Int) 0 := by kernel_rfl
theorem monitor_player_come.c2_eq (n : Nat) (t0_0 : List UInt8) (t0_1 : (List ((List UInt8 × List UInt8) × List UInt8))) (t0_2 : (List (List UInt8 × (List Int)))) (t0_3 : (List (List UInt8))) (t0_4 : (List DModeChange)) (t0_5 : List UInt8) (t0_6 : (List DWatchRule)) (t0_7 : (List Bool)) (t0_8 : (List (List UInt8 × Bool))) (t3_0 : Int) (t3_1 : List UInt8) (t6 : (List DFired)) (t7 : (List (List UInt8))) (t8 : List UInt8) (t9 : List UInt8) (t12 : (List Int)) (t63 : (List Int)) (t64 : Int) (t65 : Int) : monitor_player_come.c2 (n + 1) t0_0 t0_1 t0_2 t0_3 t0_4 t0_5 t0_6 t0_7 t0_8 t3_0 t3_1 t6 t7 t8 t9 t12 t63 t64 t65 =
 (if (decide (t65 < t64)) = true then
 (if (0 : Int) ≤ t65 ∧ t65 < (t63.length : Int) then
  (if (0 : Int) ≤ (t63.getD t65.toNat 0) ∧ (t63.getD t65.toNat 0) < (t0_6.length : Int) then
   (if (0 : Int) ≤ (t63.getD t65.toNat 0) ∧ (t63.getD t65.toNat 0) < (t0_7.length : Int) then
    (if (t0_7.getD (t63.getD t65.toNat 0).toNat false) = true then
     (if (decide (((t0_6.getD (t63.getD t65.toNat 0).toNat (Ty.dflt YWatchRule)).2.2.1 : List UInt8) = [])) = true then
      (if t12.length + 1 ≤ 1099511627776 then
       monitor_player_come.c2 n t0_0 t0_1 t0_2 t0_3 t0_4 t0_5 t0_6 t0_7 t0_8 t3_0 t3_1 t6 t7 t8 t9 (t12 ++ [(t63.getD t65.toNat 0)]) t63 t64 (IntKind.wrap .i64 (t65 + 1))
       else none)
      else
      (if (decide (((t0_6.getD (t63.getD t65.toNat 0).toNat (Ty.dflt YWatchRule)).2.2.1 : List UInt8) = t9)) = true then
       (if t12.length + 1 ≤ 1099511627776 then
        monitor_player_come.c2 n t0_0 t0_1 t0_2 t0_3 t0_4 t0_5 t0_6 t0_7 t0_8 t3_0 t3_1 t6 t7 t8 t9 (t12 ++ [(t63.getD t65.toNat 0)]) t63 t64 (IntKind.wrap .i64 (t65 + 1))
        else none)
       else
       monitor_player_come.c2 n t0_0 t0_1 t0_2 t0_3 t0_4 t0_5 t0_6 t0_7 t0_8 t3_0 t3_1 t6 t7 t8 t9 t12 t63 t64 (IntKind.wrap .i64 (t65 + 1))))
     else
     monitor_player_come.c2 n t0_0 t0_1 t0_2 t0_3 t0_4 t0_5 t0_6 t0_7 t0_8 t3_0 t3_1 t6 t7 t8 t9 t12 t63 t64 (IntKind.wrap .i64 (t65 + 1)))
    else none)
   else none)
  else none)
 else
 monitor_player_come.c3 n t0_0 t0_1 t0_2 t0_3 t0_4 t0_5 t0_6 t0_7 t0_8 t3_0 t3_1 t6 t7 t8 t9 t12 (t12.length : Int) 0) := by kernel_rfl
theorem monitor_player_come.c3_eq (n : Nat) (t0_0 : List UInt8) (t0_1 : (List ((List UInt8 × List UInt8) × List UInt8))) (t0_2 : (List (List UInt8 × (List Int)))) (t0_3 : (List (List UInt8))) (t0_4 : (List DModeChange)) (t0_5 : List UInt8) (t0_6 : (List DWatchRule)) (t0_7 : (List Bool)) (t0_8 : (List (List UInt8 × Bool))) (t3_0 : Int) (t3_1 : List UInt8) (t6 : (List DFired)) (t7 : (List (List UInt8))) (t8 : List UInt8) (t9 : List UInt8) (t100 : (List Int)) (t101 : Int) (t102 : Int) : monitor_player_come.c3 (n + 1) t0_0 t0_1 t0_2 t0_3 t0_4 t0_5 t0_6 t0_7 t0_8 t3_0 t3_1 t6 t7 t8 t9 t100 t101 t102 =
 (if (decide (t102 < t101)) = true then
 (if (0 : Int) ≤ t102 ∧ t102 < (t100.length : Int) then
  (if (0 : Int) ≤ (t100.getD t102.toNat 0) ∧ (t100.getD t102.toNat 0) < (t0_6.length : Int) then
   (if t6.length + 1 ≤ 1099511627776 then
    (if (t0_6.getD (t100.getD t102.toNat 0).toNat (Ty.dflt YWatchRule)).2.2.2.1 = true then
     (if (0 : Int) ≤ (t100.getD t102.toNat 0) ∧ (t100.getD t102.toNat 0) < (t0_7.length : Int) then
      ((monitor_player_act.f n (t0_0, (t0_1, (t0_2, ((t0_3, (t0_4, (t0_5, t0_6))), ((t0_7.set (t100.getD t102.toNat 0).toNat false), t0_8))))) (t0_6.getD (t100.getD t102.toNat 0).toNat (Ty.dflt YWatchRule))).bind fun r1 =>
       (if t7.length + r1.1.length ≤ 1099511627776 then
        (if (decide (10000 < ((t6 ++ [(t3_0, (t8, (t9, (t0_6.getD (t100.getD t102.toNat 0).toNat (Ty.dflt YWatchRule)).1)))]).length : Int))) = true then
         some ([], (false, (r1.2.1, ())))
         else
         monitor_player_come.c3 n r1.2.1.1 r1.2.1.2.1 r1.2.1.2.2.1 r1.2.1.2.2.2.1.1 r1.2.1.2.2.2.1.2.1 r1.2.1.2.2.2.1.2.2.1 r1.2.1.2.2.2.1.2.2.2 r1.2.1.2.2.2.2.1 r1.2.1.2.2.2.2.2 t3_0 t3_1 (t6 ++ [(t3_0, (t8, (t9, (t0_6.getD (t100.getD t102.toNat 0).toNat (Ty.dflt YWatchRule)).1)))]) (t7 ++ r1.1) t8 t9 t100 t101 (IntKind.wrap .i64 (t102 + 1)))
        else none))
      else none)
     else
     ((monitor_player_act.f n (t0_0, (t0_1, (t0_2, ((t0_3, (t0_4, (t0_5, t0_6))), (t0_7, t0_8))))) (t0_6.getD (t100.getD t102.toNat 0).toNat (Ty.dflt YWatchRule))).bind fun r2 =>
      (if t7.length + r2.1.length ≤ 1099511627776 then
       (if (decide (10000 < ((t6 ++ [(t3_0, (t8, (t9, (t0_6.getD (t100.getD t102.toNat 0).toNat (Ty.dflt YWatchRule)).1)))]).length : Int))) = true then
        some ([], (false, (r2.2.1, ())))
        else
        monitor_player_come.c3 n r2.2.1.1 r2.2.1.2.1 r2.2.1.2.2.1 r2.2.1.2.2.2.1.1 r2.2.1.2.2.2.1.2.1 r2.2.1.2.2.2.1.2.2.1 r2.2.1.2.2.2.1.2.2.2 r2.2.1.2.2.2.2.1 r2.2.1.2.2.2.2.2 t3_0 t3_1 (t6 ++ [(t3_0, (t8, (t9, (t0_6.getD (t100.getD t102.toNat 0).toNat (Ty.dflt YWatchRule)).1)))]) (t7 ++ r2.1) t8 t9 t100 t101 (IntKind.wrap .i64 (t102 + 1)))
       else none)))
    else none)
   else none)
  else none)
 else
 (if (decide (10000 < (t6.length : Int))) = true then
  some ([], (false, ((t0_0, (t0_1, (t0_2, ((t0_3, (t0_4, (t0_5, t0_6))), (t0_7, t0_8))))), ())))
  else
  monitor_player_come.c0 n t0_0 t0_1 t0_2 t0_3 t0_4 t0_5 t0_6 t0_7 t0_8 t3_0 t3_1 t6 t7)) := by kernel_rfl
noncomputable def monitor_player_come.E (n : Nat) : FunE := fnE tab monitor_player_come.T monitor_player_come.ann Try.f48 monitor_player_come.ins monitor_player_come.outs n

noncomputable def monitor_Play.T : Nat → Nat → Option FunE := fun n => ofL none [(19, some (monitor_CheckWatch.E n)), (21, some (monitor_CheckEvents.E n)), (46, some (kit_First.E n)), (47, some (monitor_newPlayer.E n)), (48, some (monitor_player_come.E n))]
noncomputable def monitor_Play.ann : Nat → Option (List Keep) := ofL none [(7, some [.obj 7 (.pair .str (.pair (.fmap (.pair .str .str) .str) (.pair (.fmap .str (.sl (.int .i64))) (.pair (.sl .str) (.pair (.sl YModeChange) (.pair .str (.pair (.sl YWatchRule) (.pair (.vec .bool) (.map .str .bool))))))))), .vec 8 YFired, .slot 24, .slot 25, .slot 26])]
noncomputable def monitor_Play.ins : List (Bool × Ty) := [(false, YWatch), (false, (.sl YEvent))]
def monitor_Play.outs : List Ty := [(.sl YFired), (.int .i64)]
noncomputable def monitor_Play.f (n : Nat) (w0 : DWatch) (l1 : (List DEvent)) : Option ((List DFired) × Int × Unit) := (fnE tab monitor_Play.T monitor_Play.ann Try.f17 monitor_Play.ins monitor_Play.outs n).f (w0, (l1, ()))
noncomputable def monitor_Play.c0 (n : Nat) (p7_0 : List UInt8) (p7_1 : (List ((List UInt8 × List UInt8) × List UInt8))) (p7_2 : (List (List UInt8 × (List Int)))) (p7_3 : (List (List UInt8))) (p7_4 : (List DModeChange)) (p7_5 : List UInt8) (p7_6 : (List DWatchRule)) (p7_7 : (List Bool)) (p7_8 : (List (List UInt8 × Bool))) (out8 : (List DFired)) (t24 : (List DEvent)) (t25 : Int) (t26 : Int) : Option ((List DFired) × Int × Unit) := cutN tab monitor_Play.T monitor_Play.ann Try.f17 monitor_Play.ins monitor_Play.outs n [1, 1, 1, 1, 0, 1, 0] [(7, .val false [.ptr 1000007 0]), (8, .val false [.row 1000008]), (24, .val false [.v (.sl YEvent) t24]), (25, .val false [.v (.int .i64) t25]), (26, .val false [.v (.int .i64) t26])] [(1000007, .live (.cells 0 [.v .str p7_0, .v (.fmap (.pair .str .str) .str) p7_1, .v (.fmap .str (.sl (.int .i64))) p7_2, .v (.sl .str) p7_3, .v (.sl YModeChange) p7_4, .v .str p7_5, .v (.sl YWatchRule) p7_6, .v (.vec .bool) p7_7, .v (.map .str .bool) p7_8])), (1000008, .live (.row YFired out8))]
theorem monitor_Play.f_eq (n : Nat) (w0 : DWatch) (l1 : (List DEvent)) : monitor_Play.f n w0 l1 =
 ((monitor_CheckWatch.f n w0).bind fun r1 =>
 ((monitor_CheckEvents.f n l1).bind fun r2 =>
  ((kit_First.f n [r1.1, r2.1]).bind fun r3 =>
   (if (!(decide (r3.1 = 0))) = true then
    some ([], (r3.1, ()))
    else
    ((monitor_newPlayer.f n w0).bind fun r4 =>
     (if r4.1.isSome = true then
      monitor_Play.c0 n (r4.1.getD (Ty.dflt YPlayer)).1 (r4.1.getD (Ty.dflt YPlayer)).2.1 (r4.1.getD (Ty.dflt YPlayer)).2.2.1 (r4.1.getD (Ty.dflt YPlayer)).2.2.2.1.1 (r4.1.getD (Ty.dflt YPlayer)).2.2.2.1.2.1 (r4.1.getD (Ty.dflt YPlayer)).2.2.2.1.2.2.1 (r4.1.getD (Ty.dflt YPlayer)).2.2.2.1.2.2.2 (r4.1.getD (Ty.dflt YPlayer)).2.2.2.2.1 (r4.1.getD (Ty.dflt YPlayer)).2.2.2.2.2 [] l1 (l1.length : Int) 0
      else
      none)))))) := by kernel_rfl
theorem monitor_Play.c0_eq (n : Nat) (p7_0 : List UInt8) (p7_1 : (List ((List UInt8 × List UInt8) × List UInt8))) (p7_2 : (List (List UInt8 × (List Int)))) (p7_3 : (List (List UInt8))) (p7_4 : (List DModeChange)) (p7_5 : List UInt8) (p7_6 : (List DWatchRule)) (p7_7 : (List Bool)) (p7_8 : (List (List UInt8 × Bool))) (out8 : (List DFired)) (t24 : (List DEvent)) (t25 : Int) (t26 : Int) : monitor_Play.c0 (n + 1) p7_0 p7_1 p7_2 p7_3 p7_4 p7_5 p7_6 p7_7 p7_8 out8 t24 t25 t26 =
 (if (decide (t26 < t25)) = true then
 (if (0 : Int) ≤ t26 ∧ t26 < (t24.length : Int) then
  ((monitor_player_come.f n (p7_0, (p7_1, (p7_2, ((p7_3, (p7_4, (p7_5, p7_6))), (p7_7, p7_8))))) (t24.getD t26.toNat (Ty.dflt YEvent))).bind fun r5 =>
   (if (!r5.2.1) = true then
    some ([], (17, ()))
    else
    (if out8.length + r5.1.length ≤ 1099511627776 then
     monitor_Play.c0 n r5.2.2.1.1 r5.2.2.1.2.1 r5.2.2.1.2.2.1 r5.2.2.1.2.2.2.1.1 r5.2.2.1.2.2.2.1.2.1 r5.2.2.1.2.2.2.1.2.2.1 r5.2.2.1.2.2.2.1.2.2.2 r5.2.2.1.2.2.2.2.1 r5.2.2.1.2.2.2.2.2 (out8 ++ r5.1) t24 t25 (IntKind.wrap .i64 (t26 + 1))
     else none)))
  else none)
 else
 some (out8, (0, ()))) := by kernel_rfl
noncomputable def monitor_Play.E (n : Nat) : FunE := fnE tab monitor_Play.T monitor_Play.ann Try.f17 monitor_Play.ins monitor_Play.outs n

noncomputable def perigeeref8_within.T : Nat → Nat → Option FunE := fun n => ofL none []
noncomputable def perigeeref8_within.ann : Nat → Option (List Keep) := ofL none []
noncomputable def perigeeref8_within.ins : List (Bool × Ty) := [(false, (.int .i64)), (false, (.int .i64)), (false, (.int .i64))]
def perigeeref8_within.outs : List Ty := [.bool]
noncomputable def perigeeref8_within.f (n : Nat) (n0 : Int) (low1 : Int) (high2 : Int) : Option (Bool × Unit) := (fnE tab perigeeref8_within.T perigeeref8_within.ann Try.f60 perigeeref8_within.ins perigeeref8_within.outs n).f (n0, (low1, (high2, ())))
theorem perigeeref8_within.f_eq (n : Nat) (n0 : Int) (low1 : Int) (high2 : Int) : perigeeref8_within.f n n0 low1 high2 =
 (if (decide (low1 ≤ n0)) = true then
 some ((decide (n0 ≤ high2)), ())
 else
 some (false, ())) := by kernel_rfl
noncomputable def perigeeref8_within.E (n : Nat) : FunE := fnE tab perigeeref8_within.T perigeeref8_within.ann Try.f60 perigeeref8_within.ins perigeeref8_within.outs n

noncomputable def perigeeref8_IsName.T : Nat → Nat → Option FunE := fun n => ofL none [(60, some (perigeeref8_within.E n))]
noncomputable def perigeeref8_IsName.ann : Nat → Option (List Keep) := ofL none [(2, some [.slot 0, .slot 3])]
noncomputable def perigeeref8_IsName.ins : List (Bool × Ty) := [(false, .str)]
def perigeeref8_IsName.outs : List Ty := [.bool]
noncomputable def perigeeref8_IsName.f (n : Nat) (s0 : List UInt8) : Option (Bool × Unit) := (fnE tab perigeeref8_IsName.T perigeeref8_IsName.ann Try.f53 perigeeref8_IsName.ins perigeeref8_IsName.outs n).f (s0, ())
noncomputable def perigeeref8_IsName.c0 (n : Nat) (s0 : List UInt8) (i3 : Int) : Option (Bool × Unit) := cutN tab perigeeref8_IsName.T perigeeref8_IsName.ann Try.f53 perigeeref8_IsName.ins perigeeref8_IsName.outs n [1, 0, 1, 0] [(0, .val false [.v .str s0]), (3, .val false [.v (.int .i64) i3])] []
theorem perigeeref8_IsName.f_eq (n : Nat) (s0 : List UInt8) : perigeeref8_IsName.f n s0 =
 perigeeref8_IsName.c0 n s0 0 := by kernel_rfl
theorem perigeeref8_IsName.c0_eq (n : Nat) (s0 : List UInt8) (i3 : Int) : perigeeref8_IsName.c0 (n + 1) s0 i3 =
 (if (decide (i3 < (s0.length : Int))) = true then
 (if (0 : Int) ≤ i3 ∧ i3 < (s0.length : Int) then
  (if (decide (97 ≤ ((s0.getD i3.toNat 0).toNat : Int))) = true then
   (if (!(decide (((s0.getD i3.toNat 0).toNat : Int) ≤ 122))) = true then
    (if (decide (i3 = 0)) = true then
     some (false, ())
     else
     (if (!(decide (((s0.getD i3.toNat 0).toNat : Int) = 45))) = true then
      (if (!(decide (((s0.getD i3.toNat 0).toNat : Int) = 95))) = true then
       (if (decide (48 ≤ ((s0.getD i3.toNat 0).toNat : Int))) = true then
        (if (!(decide (((s0.getD i3.toNat 0).toNat : Int) ≤ 57))) = true then
         some (false, ())
         else
         perigeeref8_IsName.c0 n s0 (IntKind.wrap .i64 (i3 + 1)))
        else
        some (false, ()))
       else
       perigeeref8_IsName.c0 n s0 (IntKind.wrap .i64 (i3 + 1)))
      else
      perigeeref8_IsName.c0 n s0 (IntKind.wrap .i64 (i3 + 1))))
    else
    perigeeref8_IsName.c0 n s0 (IntKind.wrap .i64 (i3 + 1)))
   else
   (if (decide (i3 = 0)) = true then
    some (false, ())
    else
    (if (!(decide (((s0.getD i3.toNat 0).toNat : Int) = 45))) = true then
     (if (!(decide (((s0.getD i3.toNat 0).toNat : Int) = 95))) = true then
      (if (decide (48 ≤ ((s0.getD i3.toNat 0).toNat : Int))) = true then
       (if (!(decide (((s0.getD i3.toNat 0).toNat : Int) ≤ 57))) = true then
        some (false, ())
        else
        perigeeref8_IsName.c0 n s0 (IntKind.wrap .i64 (i3 + 1)))
       else
       some (false, ()))
      else
      perigeeref8_IsName.c0 n s0 (IntKind.wrap .i64 (i3 + 1)))
     else
     perigeeref8_IsName.c0 n s0 (IntKind.wrap .i64 (i3 + 1)))))
  else none)
 else
 ((perigeeref8_within.f n (s0.length : Int) 1 40).bind fun r1 =>
  some (r1.1, ()))) := by kernel_rfl
noncomputable def perigeeref8_IsName.E (n : Nat) : FunE := fnE tab perigeeref8_IsName.T perigeeref8_IsName.ann Try.f53 perigeeref8_IsName.ins perigeeref8_IsName.outs n

noncomputable def perigeeref8_has.T : Nat → Nat → Option FunE := fun n => ofL none []
noncomputable def perigeeref8_has.ann : Nat → Option (List Keep) := ofL none [(2, some [.slot 0, .slot 1, .slot 5])]
noncomputable def perigeeref8_has.ins : List (Bool × Ty) := [(false, (.sl .str)), (false, .str)]
def perigeeref8_has.outs : List Ty := [.bool]
noncomputable def perigeeref8_has.f (n : Nat) (l0 : (List (List UInt8))) (s1 : List UInt8) : Option (Bool × Unit) := (fnE tab perigeeref8_has.T perigeeref8_has.ann Try.f55 perigeeref8_has.ins perigeeref8_has.outs n).f (l0, (s1, ()))
noncomputable def perigeeref8_has.c0 (n : Nat) (l0 : (List (List UInt8))) (s1 : List UInt8) (i5 : Int) : Option (Bool × Unit) := cutN tab perigeeref8_has.T perigeeref8_has.ann Try.f55 perigeeref8_has.ins perigeeref8_has.outs n [1, 0, 1, 0] [(0, .val false [.v (.sl .str) l0]), (1, .val false [.v .str s1]), (5, .val false [.v (.int .i64) i5])] []
theorem perigeeref8_has.f_eq (n : Nat) (l0 : (List (List UInt8))) (s1 : List UInt8) : perigeeref8_has.f n l0 s1 =
 perigeeref8_has.c0 n l0 s1 0 := by kernel_rfl
theorem perigeeref8_has.c0_eq (n : Nat) (l0 : (List (List UInt8))) (s1 : List UInt8) (i5 : Int) : perigeeref8_has.c0 (n + 1) l0 s1 i5 =
 (if (decide (i5 < (l0.length : Int))) = true then
 (if (0 : Int) ≤ i5 ∧ i5 < (l0.length : Int) then
  (if (decide (((l0.getD i5.toNat []) : List UInt8) = s1)) = true then
   some (true, ())
   else
   perigeeref8_has.c0 n l0 s1 (IntKind.wrap .i64 (i5 + 1)))
  else none)
 else
 some (false, ())) := by kernel_rfl
noncomputable def perigeeref8_has.E (n : Nat) : FunE := fnE tab perigeeref8_has.T perigeeref8_has.ann Try.f55 perigeeref8_has.ins perigeeref8_has.outs n

noncomputable def perigeeref8_checkChange.T : Nat → Nat → Option FunE := fun n => ofL none [(53, some (perigeeref8_IsName.E n)), (55, some (perigeeref8_has.E n))]
noncomputable def perigeeref8_checkChange.ann : Nat → Option (List Keep) := ofL none [(4, some [.slot 1, .obj 2 YWatch, .obj 5 YModeChange])]
noncomputable def perigeeref8_checkChange.ins : List (Bool × Ty) := [(false, YWatch), (false, (.int .i64))]
def perigeeref8_checkChange.outs : List Ty := [(.int .i64)]
noncomputable def perigeeref8_checkChange.f (n : Nat) (w0 : DWatch) (i1 : Int) : Option (Int × Unit) := (fnE tab perigeeref8_checkChange.T perigeeref8_checkChange.ann Try.f54 perigeeref8_checkChange.ins perigeeref8_checkChange.outs n).f (w0, (i1, ()))
noncomputable def perigeeref8_checkChange.c0 (n : Nat) (i1 : Int) (w2_0 : (List (List UInt8))) (w2_1 : (List DModeChange)) (w2_2 : List UInt8) (w2_3 : (List DWatchRule)) (x5_0 : List UInt8) (x5_1 : List UInt8) (x5_2 : List UInt8) : Option (Int × Unit) := cutN tab perigeeref8_checkChange.T perigeeref8_checkChange.ann Try.f54 perigeeref8_checkChange.ins perigeeref8_checkChange.outs n [1, 1, 1] [(1, .val false [.v (.int .i64) i1]), (2, .val false [.ptr 1000002 0]), (5, .val false [.ptr 1000005 0])] [(1000002, .live (.cells 0 [.v (.sl .str) w2_0, .v (.sl YModeChange) w2_1, .v .str w2_2, .v (.sl YWatchRule) w2_3])), (1000005, .live (.cells 0 [.v .str x5_0, .v .str x5_1, .v .str x5_2]))]
theorem perigeeref8_checkChange.f_eq (n : Nat) (w0 : DWatch) (i1 : Int) : perigeeref8_checkChange.f n w0 i1 =
 (if (0 : Int) ≤ i1 ∧ i1 < (w0.2.1.length : Int) then
 ((perigeeref8_has.f n w0.1 (w0.2.1.getD i1.toNat (Ty.dflt YModeChange)).1).bind fun r1 =>
  (if (!r1.1) = true then
   some (9, ())
   else
   ((perigeeref8_has.f n w0.1 (w0.2.1.getD i1.toNat (Ty.dflt YModeChange)).2.2).bind fun r2 =>
    (if (!r2.1) = true then
     some (9, ())
     else
     perigeeref8_checkChange.c0 n i1 w0.1 w0.2.1 w0.2.2.1 w0.2.2.2 (w0.2.1.getD i1.toNat (Ty.dflt YModeChange)).1 (w0.2.1.getD i1.toNat (Ty.dflt YModeChange)).2.1 (w0.2.1.getD i1.toNat (Ty.dflt YModeChange)).2.2))))
 else none) := by kernel_rfl
theorem perigeeref8_checkChange.c0_eq (n : Nat) (i1 : Int) (w2_0 : (List (List UInt8))) (w2_1 : (List DModeChange)) (w2_2 : List UInt8) (w2_3 : (List DWatchRule)) (x5_0 : List UInt8) (x5_1 : List UInt8) (x5_2 : List UInt8) : perigeeref8_checkChange.c0 (n + 1) i1 w2_0 w2_1 w2_2 w2_3 x5_0 x5_1 x5_2 =
 ((perigeeref8_IsName.f n x5_1).bind fun r3 =>
 (if (!r3.1) = true then
  some (5, ())
  else
  (if (decide (0 < i1)) = true then
   (if (0 : Int) ≤ (IntKind.wrap .i64 (i1 - 1)) ∧ (IntKind.wrap .i64 (i1 - 1)) < (w2_1.length : Int) then
    (if (lessS x5_0 (w2_1.getD (IntKind.wrap .i64 (i1 - 1)).toNat (Ty.dflt YModeChange)).1) = true then
     some (8, ())
     else
     (if (decide ((x5_0 : List UInt8) = (w2_1.getD (IntKind.wrap .i64 (i1 - 1)).toNat (Ty.dflt YModeChange)).1)) = true then
      (if (!(lessS (w2_1.getD (IntKind.wrap .i64 (i1 - 1)).toNat (Ty.dflt YModeChange)).2.1 x5_1)) = true then
       some (8, ())
       else
       some (0, ()))
      else
      some (0, ())))
    else none)
   else
   some (0, ())))) := by kernel_rfl
noncomputable def perigeeref8_checkChange.E (n : Nat) : FunE := fnE tab perigeeref8_checkChange.T perigeeref8_checkChange.ann Try.f54 perigeeref8_checkChange.ins perigeeref8_checkChange.outs n

noncomputable def perigeeref8_checkRule.T : Nat → Nat → Option FunE := fun n => ofL none [(53, some (perigeeref8_IsName.E n)), (55, some (perigeeref8_has.E n)), (60, some (perigeeref8_within.E n))]
noncomputable def perigeeref8_checkRule.ann : Nat → Option (List Keep) := ofL none [(4, some [.slot 1, .obj 2 YWatch, .obj 5 YWatchRule]), (6, some [.slot 1, .obj 2 YWatch, .obj 5 YWatchRule]), (9, some [.slot 1, .obj 2 YWatch, .obj 5 YWatchRule, .slot 6])]
noncomputable def perigeeref8_checkRule.ins : List (Bool × Ty) := [(false, YWatch), (false, (.int .i64))]
def perigeeref8_checkRule.outs : List Ty := [(.int .i64)]
noncomputable def perigeeref8_checkRule.f (n : Nat) (t0 : DWatch) (t1 : Int) : Option (Int × Unit) := (fnE tab perigeeref8_checkRule.T perigeeref8_checkRule.ann Try.f56 perigeeref8_checkRule.ins perigeeref8_checkRule.outs n).f (t0, (t1, ()))
noncomputable def perigeeref8_checkRule.c0 (n : Nat) (t1 : Int) (t2_0 : (List (List UInt8))) (t2_1 : (List DModeChange)) (t2_2 : List UInt8) (t2_3 : (List DWatchRule)) (t5_0 : List UInt8) (t5_1 : List UInt8) (t5_2 : List UInt8) (t5_3 : Bool) (t5_4 : (List DAct)) : Option (Int × Unit) := cutN tab perigeeref8_checkRule.T perigeeref8_checkRule.ann Try.f56 perigeeref8_checkRule.ins perigeeref8_checkRule.outs n [1, 1, 1] [(1, .val false [.v (.int .i64) t1]), (2, .val false [.ptr 1000002 0]), (5, .val false [.ptr 1000005 0])] [(1000002, .live (.cells 0 [.v (.sl .str) t2_0, .v (.sl YModeChange) t2_1, .v .str t2_2, .v (.sl YWatchRule) t2_3])), (1000005, .live (.cells 0 [.v .str t5_0, .v .str t5_1, .v .str t5_2, .v .bool t5_3, .v (.sl YAct) t5_4]))]
noncomputable def perigeeref8_checkRule.c1 (n : Nat) (t1 : Int) (t2_0 : (List (List UInt8))) (t2_1 : (List DModeChange)) (t2_2 : List UInt8) (t2_3 : (List DWatchRule)) (t5_0 : List UInt8) (t5_1 : List UInt8) (t5_2 : List UInt8) (t5_3 : Bool) (t5_4 : (List DAct)) : Option (Int × Unit) := cutN tab perigeeref8_checkRule.T perigeeref8_checkRule.ann Try.f56 perigeeref8_checkRule.ins perigeeref8_checkRule.outs n [1, 1, 1, 1] [(1, .val false [.v (.int .i64) t1]), (2, .val false [.ptr 1000002 0]), (5, .val false [.ptr 1000005 0])] [(1000002, .live (.cells 0 [.v (.sl .str) t2_0, .v (.sl YModeChange) t2_1, .v .str t2_2, .v (.sl YWatchRule) t2_3])), (1000005, .live (.cells 0 [.v .str t5_0, .v .str t5_1, .v .str t5_2, .v .bool t5_3, .v (.sl YAct) t5_4]))]
noncomputable def perigeeref8_checkRule.c2 (n : Nat) (t1 : Int) (t2_0 : (List (List UInt8))) (t2_1 : (List DModeChange)) (t2_2 : List UInt8) (t2_3 : (List DWatchRule)) (t5_0 : List UInt8) (t5_1 : List UInt8) (t5_2 : List UInt8) (t5_3 : Bool) (t5_4 : (List DAct)) (t6 : Int) : Option (Int × Unit) := cutN tab perigeeref8_checkRule.T perigeeref8_checkRule.ann Try.f56 perigeeref8_checkRule.ins perigeeref8_checkRule.outs n [1, 1, 1, 1, 1, 0, 1, 0] [(1, .val false [.v (.int .i64) t1]), (2, .val false [.ptr 1000002 0]), (5, .val false [.ptr 1000005 0]), (6, .val false [.v (.int .i64) t6])] [(1000002, .live (.cells 0 [.v (.sl .str) t2_0, .v (.sl YModeChange) t2_1, .v .str t2_2, .v (.sl YWatchRule) t2_3])), (1000005, .live (.cells 0 [.v .str t5_0, .v .str t5_1, .v .str t5_2, .v .bool t5_3, .v (.sl YAct) t5_4]))]
theorem perigeeref8_checkRule.f_eq (n : Nat) (t0 : DWatch) (t1 : Int) : perigeeref8_checkRule.f n t0 t1 =
 (if (0 : Int) ≤ t1 ∧ t1 < (t0.2.2.2.length : Int) then
 ((perigeeref8_IsName.f n (t0.2.2.2.getD t1.toNat (Ty.dflt YWatchRule)).1).bind fun r1 =>
  (if (!r1.1) = true then
   some (5, ())
   else
   ((perigeeref8_IsName.f n (t0.2.2.2.getD t1.toNat (Ty.dflt YWatchRule)).2.1).bind fun r2 =>
    (if (!r2.1) = true then
     some (5, ())
     else
     perigeeref8_checkRule.c0 n t1 t0.1 t0.2.1 t0.2.2.1 t0.2.2.2 (t0.2.2.2.getD t1.toNat (Ty.dflt YWatchRule)).1 (t0.2.2.2.getD t1.toNat (Ty.dflt YWatchRule)).2.1 (t0.2.2.2.getD t1.toNat (Ty.dflt YWatchRule)).2.2.1 (t0.2.2.2.getD t1.toNat (Ty.dflt YWatchRule)).2.2.2.1 (t0.2.2.2.getD t1.toNat (Ty.dflt YWatchRule)).2.2.2.2))))
 else none) := by kernel_rfl
theorem perigeeref8_checkRule.c0_eq (n : Nat) (t1 : Int) (t2_0 : (List (List UInt8))) (t2_1 : (List DModeChange)) (t2_2 : List UInt8) (t2_3 : (List DWatchRule)) (t5_0 : List UInt8) (t5_1 : List UInt8) (t5_2 : List UInt8) (t5_3 : Bool) (t5_4 : (List DAct)) : perigeeref8_checkRule.c0 (n + 1) t1 t2_0 t2_1 t2_2 t2_3 t5_0 t5_1 t5_2 t5_3 t5_4 =
 (if (!(decide ((t5_2 : List UInt8) = []))) = true then
 ((perigeeref8_has.f n t2_0 t5_2).bind fun r3 =>
  (if (!r3.1) = true then
   some (9, ())
   else
   perigeeref8_checkRule.c1 n t1 t2_0 t2_1 t2_2 t2_3 t5_0 t5_1 t5_2 t5_3 t5_4))
 else
 perigeeref8_checkRule.c1 n t1 t2_0 t2_1 t2_2 t2_3 t5_0 t5_1 t5_2 t5_3 t5_4) := by kernel_rfl
theorem perigeeref8_checkRule.c1_eq (n : Nat) (t1 : Int) (t2_0 : (List (List UInt8))) (t2_1 : (List DModeChange)) (t2_2 : List UInt8) (t2_3 : (List DWatchRule)) (t5_0 : List UInt8) (t5_1 : List UInt8) (t5_2 : List UInt8) (t5_3 : Bool) (t5_4 : (List DAct)) : perigeeref8_checkRule.c1 (n + 1) t1 t2_0 t2_1 t2_2 t2_3 t5_0 t5_1 t5_2 t5_3 t5_4 =
 (if (decide (10 < (t5_4.length : Int))) = true then
 some (2, ())
 else
 perigeeref8_checkRule.c2 n t1 t2_0 t2_1 t2_2 t2_3 t5_0 t5_1 t5_2 t5_3 t5_4 0) := by kernel_rfl
theorem perigeeref8_checkRule.c2_eq (n : Nat) (t1 : Int) (t2_0 : (List (List UInt8))) (t2_1 : (List DModeChange)) (t2_2 : List UInt8) (t2_3 : (List DWatchRule)) (t5_0 : List UInt8) (t5_1 : List UInt8) (t5_2 : List UInt8) (t5_3 : Bool) (t5_4 : (List DAct)) (t6 : Int) : perigeeref8_checkRule.c2 (n + 1) t1 t2_0 t2_1 t2_2 t2_3 t5_0 t5_1 t5_2 t5_3 t5_4 t6 =
 (if (decide (t6 < (t5_4.length : Int))) = true then
 (if (0 : Int) ≤ t6 ∧ t6 < (t5_4.length : Int) then
  ((perigeeref8_within.f n (t5_4.getD t6.toNat (Ty.dflt YAct)).1 1 4).bind fun r4 =>
   (if (!r4.1) = true then
    some (4, ())
    else
    ((perigeeref8_IsName.f n (t5_4.getD t6.toNat (Ty.dflt YAct)).2.1).bind fun r5 =>
     (if (!r5.1) = true then
      some (5, ())
      else
      (if (t5_4.getD t6.toNat (Ty.dflt YAct)).2.2 = true then
       (if (!(decide ((t5_4.getD t6.toNat (Ty.dflt YAct)).1 = 4))) = true then
        some (3, ())
        else
        perigeeref8_checkRule.c2 n t1 t2_0 t2_1 t2_2 t2_3 t5_0 t5_1 t5_2 t5_3 t5_4 (IntKind.wrap .i64 (t6 + 1)))
       else
       perigeeref8_checkRule.c2 n t1 t2_0 t2_1 t2_2 t2_3 t5_0 t5_1 t5_2 t5_3 t5_4 (IntKind.wrap .i64 (t6 + 1)))))))
  else none)
 else
 (if (decide (0 < t1)) = true then
  (if (0 : Int) ≤ (IntKind.wrap .i64 (t1 - 1)) ∧ (IntKind.wrap .i64 (t1 - 1)) < (t2_3.length : Int) then
   (if (!(lessS (t2_3.getD (IntKind.wrap .i64 (t1 - 1)).toNat (Ty.dflt YWatchRule)).1 t5_0)) = true then
    some (8, ())
    else
    some (0, ()))
   else none)
  else
  some (0, ()))) := by kernel_rfl
noncomputable def perigeeref8_checkRule.E (n : Nat) : FunE := fnE tab perigeeref8_checkRule.T perigeeref8_checkRule.ann Try.f56 perigeeref8_checkRule.ins perigeeref8_checkRule.outs n

noncomputable def perigeeref8_ruleOf.T : Nat → Nat → Option FunE := fun n => ofL none []
noncomputable def perigeeref8_ruleOf.ann : Nat → Option (List Keep) := ofL none [(2, some [.slot 1, .obj 2 YWatch, .slot 5])]
noncomputable def perigeeref8_ruleOf.ins : List (Bool × Ty) := [(false, YWatch), (false, .str)]
def perigeeref8_ruleOf.outs : List Ty := [(.int .i64)]
noncomputable def perigeeref8_ruleOf.f (n : Nat) (w0 : DWatch) (name1 : List UInt8) : Option (Int × Unit) := (fnE tab perigeeref8_ruleOf.T perigeeref8_ruleOf.ann Try.f57 perigeeref8_ruleOf.ins perigeeref8_ruleOf.outs n).f (w0, (name1, ()))
noncomputable def perigeeref8_ruleOf.c0 (n : Nat) (name1 : List UInt8) (w2_0 : (List (List UInt8))) (w2_1 : (List DModeChange)) (w2_2 : List UInt8) (w2_3 : (List DWatchRule)) (i5 : Int) : Option (Int × Unit) := cutN tab perigeeref8_ruleOf.T perigeeref8_ruleOf.ann Try.f57 perigeeref8_ruleOf.ins perigeeref8_ruleOf.outs n [1, 0, 1, 0] [(1, .val false [.v .str name1]), (2, .val false [.ptr 1000002 0]), (5, .val false [.v (.int .i64) i5])] [(1000002, .live (.cells 0 [.v (.sl .str) w2_0, .v (.sl YModeChange) w2_1, .v .str w2_2, .v (.sl YWatchRule) w2_3]))]
theorem perigeeref8_ruleOf.f_eq (n : Nat) (w0 : DWatch) (name1 : List UInt8) : perigeeref8_ruleOf.f n w0 name1 =
 perigeeref8_ruleOf.c0 n name1 w0.1 w0.2.1 w0.2.2.1 w0.2.2.2 0 := by kernel_rfl
theorem perigeeref8_ruleOf.c0_eq (n : Nat) (name1 : List UInt8) (w2_0 : (List (List UInt8))) (w2_1 : (List DModeChange)) (w2_2 : List UInt8) (w2_3 : (List DWatchRule)) (i5 : Int) : perigeeref8_ruleOf.c0 (n + 1) name1 w2_0 w2_1 w2_2 w2_3 i5 =
 (if (decide (i5 < (w2_3.length : Int))) = true then
 (if (0 : Int) ≤ i5 ∧ i5 < (w2_3.length : Int) then
  (if (decide (((w2_3.getD i5.toNat (Ty.dflt YWatchRule)).1 : List UInt8) = name1)) = true then
   some (i5, ())
   else
   perigeeref8_ruleOf.c0 n name1 w2_0 w2_1 w2_2 w2_3 (IntKind.wrap .i64 (i5 + 1)))
  else none)
 else
 some ((-1), ())) := by kernel_rfl
noncomputable def perigeeref8_ruleOf.E (n : Nat) : FunE := fnE tab perigeeref8_ruleOf.T perigeeref8_ruleOf.ann Try.f57 perigeeref8_ruleOf.ins perigeeref8_ruleOf.outs n

noncomputable def perigeeref8_CheckWatch.T : Nat → Nat → Option FunE := fun n => ofL none [(53, some (perigeeref8_IsName.E n)), (54, some (perigeeref8_checkChange.E n)), (55, some (perigeeref8_has.E n)), (56, some (perigeeref8_checkRule.E n)), (57, some (perigeeref8_ruleOf.E n))]
noncomputable def perigeeref8_CheckWatch.ann : Nat → Option (List Keep) := ofL none [(6, some [.obj 1 YWatch, .slot 3]), (15, some [.obj 1 YWatch, .slot 4]), (25, some [.obj 1 YWatch, .slot 6]), (31, some [.obj 1 YWatch, .slot 8]), (34, some [.obj 1 YWatch, .slot 8, .slot 9])]
noncomputable def perigeeref8_CheckWatch.ins : List (Bool × Ty) := [(false, YWatch)]
def perigeeref8_CheckWatch.outs : List Ty := [(.int .i64)]
noncomputable def perigeeref8_CheckWatch.f (n : Nat) (t0 : DWatch) : Option (Int × Unit) := (fnE tab perigeeref8_CheckWatch.T perigeeref8_CheckWatch.ann Try.f20 perigeeref8_CheckWatch.ins perigeeref8_CheckWatch.outs n).f (t0, ())
noncomputable def perigeeref8_CheckWatch.c0 (n : Nat) (t1_0 : (List (List UInt8))) (t1_1 : (List DModeChange)) (t1_2 : List UInt8) (t1_3 : (List DWatchRule)) (t3 : Int) : Option (Int × Unit) := cutN tab perigeeref8_CheckWatch.T perigeeref8_CheckWatch.ann Try.f20 perigeeref8_CheckWatch.ins perigeeref8_CheckWatch.outs n [1, 1, 1, 0, 1, 0] [(1, .val false [.ptr 1000001 0]), (3, .val false [.v (.int .i64) t3])] [(1000001, .live (.cells 0 [.v (.sl .str) t1_0, .v (.sl YModeChange) t1_1, .v .str t1_2, .v (.sl YWatchRule) t1_3]))]
noncomputable def perigeeref8_CheckWatch.c1 (n : Nat) (t1_0 : (List (List UInt8))) (t1_1 : (List DModeChange)) (t1_2 : List UInt8) (t1_3 : (List DWatchRule)) (t4 : Int) : Option (Int × Unit) := cutN tab perigeeref8_CheckWatch.T perigeeref8_CheckWatch.ann Try.f20 perigeeref8_CheckWatch.ins perigeeref8_CheckWatch.outs n [1, 1, 1, 1, 1, 0, 1, 0] [(1, .val false [.ptr 1000001 0]), (4, .val false [.v (.int .i64) t4])] [(1000001, .live (.cells 0 [.v (.sl .str) t1_0, .v (.sl YModeChange) t1_1, .v .str t1_2, .v (.sl YWatchRule) t1_3]))]
noncomputable def perigeeref8_CheckWatch.c2 (n : Nat) (t1_0 : (List (List UInt8))) (t1_1 : (List DModeChange)) (t1_2 : List UInt8) (t1_3 : (List DWatchRule)) (t6 : Int) : Option (Int × Unit) := cutN tab perigeeref8_CheckWatch.T perigeeref8_CheckWatch.ann Try.f20 perigeeref8_CheckWatch.ins perigeeref8_CheckWatch.outs n [1, 1, 1, 1, 1, 1, 1, 1, 0, 1, 0] [(1, .val false [.ptr 1000001 0]), (6, .val false [.v (.int .i64) t6])] [(1000001, .live (.cells 0 [.v (.sl .str) t1_0, .v (.sl YModeChange) t1_1, .v .str t1_2, .v (.sl YWatchRule) t1_3]))]
noncomputable def perigeeref8_CheckWatch.c3 (n : Nat) (t1_0 : (List (List UInt8))) (t1_1 : (List DModeChange)) (t1_2 : List UInt8) (t1_3 : (List DWatchRule)) (t8 : Int) : Option (Int × Unit) := cutN tab perigeeref8_CheckWatch.T perigeeref8_CheckWatch.ann Try.f20 perigeeref8_CheckWatch.ins perigeeref8_CheckWatch.outs n [1, 1, 1, 1, 1, 1, 1, 1, 1, 0, 1, 0] [(1, .val false [.ptr 1000001 0]), (8, .val false [.v (.int .i64) t8])] [(1000001, .live (.cells 0 [.v (.sl .str) t1_0, .v (.sl YModeChange) t1_1, .v .str t1_2, .v (.sl YWatchRule) t1_3]))]
noncomputable def perigeeref8_CheckWatch.c4 (n : Nat) (t1_0 : (List (List UInt8))) (t1_1 : (List DModeChange)) (t1_2 : List UInt8) (t1_3 : (List DWatchRule)) (t8 : Int) (t9 : Int) : Option (Int × Unit) := cutN tab perigeeref8_CheckWatch.T perigeeref8_CheckWatch.ann Try.f20 perigeeref8_CheckWatch.ins perigeeref8_CheckWatch.outs n [1, 1, 1, 1, 1, 1, 1, 1, 1, 0, 1, 0, 0, 1, 0, 0, 1, 0] [(1, .val false [.ptr 1000001 0]), (8, .val false [.v (.int .i64) t8]), (9, .val false [.v (.int .i64) t9])] [(1000001, .live (.cells 0 [.v (.sl .str) t1_0, .v (.sl YModeChange) t1_1, .v .str t1_2, .v (.sl YWatchRule) t1_3]))]
theorem perigeeref8_CheckWatch.f_eq (n : Nat) (t0 : DWatch) : perigeeref8_CheckWatch.f n t0 =
 (if (decide ((t0.1.length : Int) = 0)) = true then
 some (9, ())
 else
 (if (decide (50 < (t0.1.length : Int))) = true then
  some (2, ())
  else
  perigeeref8_CheckWatch.c0 n t0.1 t0.2.1 t0.2.2.1 t0.2.2.2 0)) := by kernel_rfl
theorem perigeeref8_CheckWatch.c0_eq (n : Nat) (t1_0 : (List (List UInt8))) (t1_1 : (List DModeChange)) (t1_2 : List UInt8) (t1_3 : (List DWatchRule)) (t3 : Int) : perigeeref8_CheckWatch.c0 (n + 1) t1_0 t1_1 t1_2 t1_3 t3 =
 (if (decide (t3 < (t1_0.length : Int))) = true then
 (if (0 : Int) ≤ t3 ∧ t3 < (t1_0.length : Int) then
  ((perigeeref8_IsName.f n (t1_0.getD t3.toNat [])).bind fun r1 =>
   (if (!r1.1) = true then
    some (5, ())
    else
    (if (decide (0 < t3)) = true then
     (if (0 : Int) ≤ t3 ∧ t3 < (t1_0.length : Int) then
      (if (0 : Int) ≤ (IntKind.wrap .i64 (t3 - 1)) ∧ (IntKind.wrap .i64 (t3 - 1)) < (t1_0.length : Int) then
       (if (!(lessS (t1_0.getD (IntKind.wrap .i64 (t3 - 1)).toNat []) (t1_0.getD t3.toNat []))) = true then
        some (8, ())
        else
        perigeeref8_CheckWatch.c0 n t1_0 t1_1 t1_2 t1_3 (IntKind.wrap .i64 (t3 + 1)))
       else none)
      else none)
     else
     perigeeref8_CheckWatch.c0 n t1_0 t1_1 t1_2 t1_3 (IntKind.wrap .i64 (t3 + 1)))))
  else none)
 else
 (if (decide (500 < (t1_1.length : Int))) = true then
  some (2, ())
  else
  perigeeref8_CheckWatch.c1 n t1_0 t1_1 t1_2 t1_3 0)) := by kernel_rfl
theorem perigeeref8_CheckWatch.c1_eq (n : Nat) (t1_0 : (List (List UInt8))) (t1_1 : (List DModeChange)) (t1_2 : List UInt8) (t1_3 : (List DWatchRule)) (t4 : Int) : perigeeref8_CheckWatch.c1 (n + 1) t1_0 t1_1 t1_2 t1_3 t4 =
 (if (decide (t4 < (t1_1.length : Int))) = true then
 ((perigeeref8_checkChange.f n (t1_0, (t1_1, (t1_2, t1_3))) t4).bind fun r2 =>
  (if (!(decide (r2.1 = 0))) = true then
   some (r2.1, ())
   else
   perigeeref8_CheckWatch.c1 n t1_0 t1_1 t1_2 t1_3 (IntKind.wrap .i64 (t4 + 1))))
 else
 ((perigeeref8_has.f n t1_0 t1_2).bind fun r3 =>
  (if (!r3.1) = true then
   some (9, ())
   else
   (if (decide (200 < (t1_3.length : Int))) = true then
    some (2, ())
    else
    perigeeref8_CheckWatch.c2 n t1_0 t1_1 t1_2 t1_3 0)))) := by kernel_rfl
theorem perigeeref8_CheckWatch.c2_eq (n : Nat) (t1_0 : (List (List UInt8))) (t1_1 : (List DModeChange)) (t1_2 : List UInt8) (t1_3 : (List DWatchRule)) (t6 : Int) : perigeeref8_CheckWatch.c2 (n + 1) t1_0 t1_1 t1_2 t1_3 t6 =
 (if (decide (t6 < (t1_3.length : Int))) = true then
 ((perigeeref8_checkRule.f n (t1_0, (t1_1, (t1_2, t1_3))) t6).bind fun r4 =>
  (if (!(decide (r4.1 = 0))) = true then
   some (r4.1, ())
   else
   perigeeref8_CheckWatch.c2 n t1_0 t1_1 t1_2 t1_3 (IntKind.wrap .i64 (t6 + 1))))
 else
 perigeeref8_CheckWatch.c3 n t1_0 t1_1 t1_2 t1_3 0) := by kernel_rfl
theorem perigeeref8_CheckWatch.c3_eq (n : Nat) (t1_0 : (List (List UInt8))) (t1_1 : (List DModeChange)) (t1_2 : List UInt8) (t1_3 : (List DWatchRule)) (t8 : Int) : perigeeref8_CheckWatch.c3 (n + 1) t1_0 t1_1 t1_2 t1_3 t8 =
 (if (decide (t8 < (t1_3.length : Int))) = true then
 perigeeref8_CheckWatch.c4 n t1_0 t1_1 t1_2 t1_3 t8 0
 else
 some (0, ())) := by kernel_rfl
theorem perigeeref8_CheckWatch.c4_eq (n : Nat) (t1_0 : (List (List UInt8))) (t1_1 : (List DModeChange)) (t1_2 : List UInt8) (t1_3 : (List DWatchRule)) (t8 : Int) (t9 : Int) : perigeeref8_CheckWatch.c4 (n + 1) t1_0 t1_1 t1_2 t1_3 t8 t9 =
 (if (0 : Int) ≤ t8 ∧ t8 < (t1_3.length : Int) then
 (if (decide (t9 < ((t1_3.getD t8.toNat (Ty.dflt YWatchRule)).2.2.2.2.length : Int))) = true then
  (if (0 : Int) ≤ t8 ∧ t8 < (t1_3.length : Int) then
   (if (0 : Int) ≤ t9 ∧ t9 < ((t1_3.getD t8.toNat (Ty.dflt YWatchRule)).2.2.2.2.length : Int) then
    (if (decide (((t1_3.getD t8.toNat (Ty.dflt YWatchRule)).2.2.2.2.getD t9.toNat (Ty.dflt YAct)).1 = 2)) = true then
     ((perigeeref8_ruleOf.f n (t1_0, (t1_1, (t1_2, t1_3))) ((t1_3.getD t8.toNat (Ty.dflt YWatchRule)).2.2.2.2.getD t9.toNat (Ty.dflt YAct)).2.1).bind fun r5 =>
      (if (decide (r5.1 < 0)) = true then
       some (9, ())
       else
       perigeeref8_CheckWatch.c4 n t1_0 t1_1 t1_2 t1_3 t8 (IntKind.wrap .i64 (t9 + 1))))
     else
     (if (decide (((t1_3.getD t8.toNat (Ty.dflt YWatchRule)).2.2.2.2.getD t9.toNat (Ty.dflt YAct)).1 = 3)) = true then
      ((perigeeref8_ruleOf.f n (t1_0, (t1_1, (t1_2, t1_3))) ((t1_3.getD t8.toNat (Ty.dflt YWatchRule)).2.2.2.2.getD t9.toNat (Ty.dflt YAct)).2.1).bind fun r6 =>
       (if (decide (r6.1 < 0)) = true then
        some (9, ())
        else
        perigeeref8_CheckWatch.c4 n t1_0 t1_1 t1_2 t1_3 t8 (IntKind.wrap .i64 (t9 + 1))))
      else
      perigeeref8_CheckWatch.c4 n t1_0 t1_1 t1_2 t1_3 t8 (IntKind.wrap .i64 (t9 + 1))))
    else none)
   else none)
  else
  perigeeref8_CheckWatch.c3 n t1_0 t1_1 t1_2 t1_3 (IntKind.wrap .i64 (t8 + 1)))
 else none) := by kernel_rfl
noncomputable def perigeeref8_CheckWatch.E (n : Nat) : FunE := fnE tab perigeeref8_CheckWatch.T perigeeref8_CheckWatch.ann Try.f20 perigeeref8_CheckWatch.ins perigeeref8_CheckWatch.outs n

noncomputable def perigeeref8_CheckEvents.T : Nat → Nat → Option FunE := fun n => ofL none [(53, some (perigeeref8_IsName.E n)), (60, some (perigeeref8_within.E n))]
noncomputable def perigeeref8_CheckEvents.ann : Nat → Option (List Keep) := ofL none [(4, some [.slot 0, .slot 3])]
noncomputable def perigeeref8_CheckEvents.ins : List (Bool × Ty) := [(false, (.sl YEvent))]
def perigeeref8_CheckEvents.outs : List Ty := [(.int .i64)]
noncomputable def perigeeref8_CheckEvents.f (n : Nat) (l0 : (List DEvent)) : Option (Int × Unit) := (fnE tab perigeeref8_CheckEvents.T perigeeref8_CheckEvents.ann Try.f22 perigeeref8_CheckEvents.ins perigeeref8_CheckEvents.outs n).f (l0, ())
noncomputable def perigeeref8_CheckEvents.c0 (n : Nat) (l0 : (List DEvent)) (i3 : Int) : Option (Int × Unit) := cutN tab perigeeref8_CheckEvents.T perigeeref8_CheckEvents.ann Try.f22 perigeeref8_CheckEvents.ins perigeeref8_CheckEvents.outs n [1, 1, 0, 1, 0] [(0, .val false [.v (.sl YEvent) l0]), (3, .val false [.v (.int .i64) i3])] []
theorem perigeeref8_CheckEvents.f_eq (n : Nat) (l0 : (List DEvent)) : perigeeref8_CheckEvents.f n l0 =
 (if (decide (5000 < (l0.length : Int))) = true then
 some (2, ())
 else
 perigeeref8_CheckEvents.c0 n l0 0) := by kernel_rfl
theorem perigeeref8_CheckEvents.c0_eq (n : Nat) (l0 : (List DEvent)) (i3 : Int) : perigeeref8_CheckEvents.c0 (n + 1) l0 i3 =
 (if (decide (i3 < (l0.length : Int))) = true then
 (if (0 : Int) ≤ i3 ∧ i3 < (l0.length : Int) then
  ((perigeeref8_within.f n (l0.getD i3.toNat (Ty.dflt YEvent)).1 0 1000000000000).bind fun r1 =>
   (if (!r1.1) = true then
    some (1, ())
    else
    (if (0 : Int) ≤ i3 ∧ i3 < (l0.length : Int) then
     ((perigeeref8_IsName.f n (l0.getD i3.toNat (Ty.dflt YEvent)).2).bind fun r2 =>
      (if (!r2.1) = true then
       some (5, ())
       else
       (if (decide (0 < i3)) = true then
        (if (0 : Int) ≤ i3 ∧ i3 < (l0.length : Int) then
         (if (0 : Int) ≤ (IntKind.wrap .i64 (i3 - 1)) ∧ (IntKind.wrap .i64 (i3 - 1)) < (l0.length : Int) then
          (if (decide ((l0.getD i3.toNat (Ty.dflt YEvent)).1 < (l0.getD (IntKind.wrap .i64 (i3 - 1)).toNat (Ty.dflt YEvent)).1)) = true then
           some (8, ())
           else
           perigeeref8_CheckEvents.c0 n l0 (IntKind.wrap .i64 (i3 + 1)))
          else none)
         else none)
        else
        perigeeref8_CheckEvents.c0 n l0 (IntKind.wrap .i64 (i3 + 1)))))
     else none)))
  else none)
 else
 some (0, ())) := by kernel_rfl
noncomputable def perigeeref8_CheckEvents.E (n : Nat) : FunE := fnE tab perigeeref8_CheckEvents.T perigeeref8_CheckEvents.ann Try.f22 perigeeref8_CheckEvents.ins perigeeref8_CheckEvents.outs n

noncomputable def perigeeref8_newCraft.T : Nat → Nat → Option FunE := fun n => ofL none []
noncomputable def perigeeref8_newCraft.ann : Nat → Option (List Keep) := ofL none [(3, some [.obj 3 YCraft, .slot 11, .slot 12])]
noncomputable def perigeeref8_newCraft.ins : List (Bool × Ty) := [(false, YWatch)]
def perigeeref8_newCraft.outs : List Ty := [(.ptr YCraft)]
noncomputable def perigeeref8_newCraft.f (n : Nat) (w0 : DWatch) : Option ((Option DCraft) × Unit) := (fnE tab perigeeref8_newCraft.T perigeeref8_newCraft.ann Try.f49 perigeeref8_newCraft.ins perigeeref8_newCraft.outs n).f (w0, ())
noncomputable def perigeeref8_newCraft.c0 (n : Nat) (c3_0 : (List (List UInt8))) (c3_1 : (List DModeChange)) (c3_2 : List UInt8) (c3_3 : (List DWatchRule)) (c3_4 : List UInt8) (c3_5 : (List Bool)) (c3_6 : (List (List UInt8))) (c3_7 : (List DFired)) (t11 : Int) (t12 : Int) : Option ((Option DCraft) × Unit) := cutN tab perigeeref8_newCraft.T perigeeref8_newCraft.ann Try.f49 perigeeref8_newCraft.ins perigeeref8_newCraft.outs n [1, 1, 0, 1, 0] [(3, .val false [.ptr 1000003 0]), (11, .val false [.v (.int .i64) t11]), (12, .val false [.v (.int .i64) t12])] [(1000003, .live (.cells 0 [.v (.sl .str) c3_0, .v (.sl YModeChange) c3_1, .v .str c3_2, .v (.sl YWatchRule) c3_3, .v .str c3_4, .v (.vec .bool) c3_5, .v (.sl .str) c3_6, .v (.vec YFired) c3_7]))]
theorem perigeeref8_newCraft.f_eq (n : Nat) (w0 : DWatch) : perigeeref8_newCraft.f n w0 =
 perigeeref8_newCraft.c0 n w0.1 w0.2.1 w0.2.2.1 w0.2.2.2 w0.2.2.1 [] [] [] (w0.2.2.2.length : Int) 0 := by kernel_rfl
theorem perigeeref8_newCraft.c0_eq (n : Nat) (c3_0 : (List (List UInt8))) (c3_1 : (List DModeChange)) (c3_2 : List UInt8) (c3_3 : (List DWatchRule)) (c3_4 : List UInt8) (c3_5 : (List Bool)) (c3_6 : (List (List UInt8))) (c3_7 : (List DFired)) (t11 : Int) (t12 : Int) : perigeeref8_newCraft.c0 (n + 1) c3_0 c3_1 c3_2 c3_3 c3_4 c3_5 c3_6 c3_7 t11 t12 =
 (if (decide (t12 < t11)) = true then
 (if c3_5.length + 1 ≤ 1099511627776 then
  perigeeref8_newCraft.c0 n c3_0 c3_1 c3_2 c3_3 c3_4 (c3_5 ++ [true]) c3_6 c3_7 t11 (IntKind.wrap .i64 (t12 + 1))
  else none)
 else
 some ((some ((c3_0, (c3_1, (c3_2, c3_3))), (c3_4, (c3_5, (c3_6, c3_7))))), ())) := by kernel_rfl
noncomputable def perigeeref8_newCraft.E (n : Nat) : FunE := fnE tab perigeeref8_newCraft.T perigeeref8_newCraft.ann Try.f49 perigeeref8_newCraft.ins perigeeref8_newCraft.outs n

noncomputable def perigeeref8_inOrder.T : Nat → Nat → Option FunE := fun n => ofL none []
noncomputable def perigeeref8_inOrder.ann : Nat → Option (List Keep) := ofL none [(2, some [.slot 0, .slot 1, .slot 5])]
noncomputable def perigeeref8_inOrder.ins : List (Bool × Ty) := [(false, (.sl .str)), (false, .str)]
def perigeeref8_inOrder.outs : List Ty := [(.sl .str)]
noncomputable def perigeeref8_inOrder.f (n : Nat) (l0 : (List (List UInt8))) (s1 : List UInt8) : Option ((List (List UInt8)) × Unit) := (fnE tab perigeeref8_inOrder.T perigeeref8_inOrder.ann Try.f73 perigeeref8_inOrder.ins perigeeref8_inOrder.outs n).f (l0, (s1, ()))
noncomputable def perigeeref8_inOrder.c0 (n : Nat) (l0 : (List (List UInt8))) (s1 : List UInt8) (k5 : Int) : Option ((List (List UInt8)) × Unit) := cutN tab perigeeref8_inOrder.T perigeeref8_inOrder.ann Try.f73 perigeeref8_inOrder.ins perigeeref8_inOrder.outs n [1, 1, 0, 0] [(0, .val false [.v (.sl .str) l0]), (1, .val false [.v .str s1]), (5, .val false [.v (.int .i64) k5])] []
theorem perigeeref8_inOrder.f_eq (n : Nat) (l0 : (List (List UInt8))) (s1 : List UInt8) : perigeeref8_inOrder.f n l0 s1 =
 perigeeref8_inOrder.c0 n l0 s1 (l0.length : Int) := by kernel_rfl
theorem perigeeref8_inOrder.c0_eq (n : Nat) (l0 : (List (List UInt8))) (s1 : List UInt8) (k5 : Int) : perigeeref8_inOrder.c0 (n + 1) l0 s1 k5 =
 (if (decide (0 < k5)) = true then
 (if (0 : Int) ≤ (IntKind.wrap .i64 (k5 - 1)) ∧ (IntKind.wrap .i64 (k5 - 1)) < (l0.length : Int) then
  (if (lessS s1 (l0.getD (IntKind.wrap .i64 (k5 - 1)).toNat [])) = true then
   perigeeref8_inOrder.c0 n l0 s1 (IntKind.wrap .i64 (k5 - 1))
   else
   (if (decide (0 < k5)) = true then
    (if (0 : Int) ≤ (IntKind.wrap .i64 (k5 - 1)) ∧ (IntKind.wrap .i64 (k5 - 1)) < (l0.length : Int) then
     (if (decide (((l0.getD (IntKind.wrap .i64 (k5 - 1)).toNat []) : List UInt8) = s1)) = true then
      some (l0, ())
      else
      (if (0 : Int) ≤ 0 ∧ (0 : Int) ≤ k5 ∧ (k5 : Int) ≤ (l0.length : Int) then
       (if 0 + ((l0.take k5.toNat).drop 0).length ≤ 1099511627776 then
        (if ((l0.take k5.toNat).drop 0).length + 1 ≤ 1099511627776 then
         (if (0 : Int) ≤ k5 ∧ (k5 : Int) ≤ (l0.length : Int) ∧ ((l0.length : Int) : Int) ≤ (l0.length : Int) then
          (if (((l0.take k5.toNat).drop 0) ++ [s1]).length + ((l0.take l0.length).drop k5.toNat).length ≤ 1099511627776 then
           some (((((l0.take k5.toNat).drop 0) ++ [s1]) ++ ((l0.take l0.length).drop k5.toNat)), ())
           else none)
          else none)
         else none)
        else none)
       else none))
     else none)
    else
    (if (0 : Int) ≤ 0 ∧ (0 : Int) ≤ k5 ∧ (k5 : Int) ≤ (l0.length : Int) then
     (if 0 + ((l0.take k5.toNat).drop 0).length ≤ 1099511627776 then
      (if ((l0.take k5.toNat).drop 0).length + 1 ≤ 1099511627776 then
       (if (0 : Int) ≤ k5 ∧ (k5 : Int) ≤ (l0.length : Int) ∧ ((l0.length : Int) : Int) ≤ (l0.length : Int) then
        (if (((l0.take k5.toNat).drop 0) ++ [s1]).length + ((l0.take l0.length).drop k5.toNat).length ≤ 1099511627776 then
         some (((((l0.take k5.toNat).drop 0) ++ [s1]) ++ ((l0.take l0.length).drop k5.toNat)), ())
         else none)
        else none)
       else none)
      else none)
     else none)))
  else none)
 else
 (if (decide (0 < k5)) = true then
  (if (0 : Int) ≤ (IntKind.wrap .i64 (k5 - 1)) ∧ (IntKind.wrap .i64 (k5 - 1)) < (l0.length : Int) then
   (if (decide (((l0.getD (IntKind.wrap .i64 (k5 - 1)).toNat []) : List UInt8) = s1)) = true then
    some (l0, ())
    else
    (if (0 : Int) ≤ 0 ∧ (0 : Int) ≤ k5 ∧ (k5 : Int) ≤ (l0.length : Int) then
     (if 0 + ((l0.take k5.toNat).drop 0).length ≤ 1099511627776 then
      (if ((l0.take k5.toNat).drop 0).length + 1 ≤ 1099511627776 then
       (if (0 : Int) ≤ k5 ∧ (k5 : Int) ≤ (l0.length : Int) ∧ ((l0.length : Int) : Int) ≤ (l0.length : Int) then
        (if (((l0.take k5.toNat).drop 0) ++ [s1]).length + ((l0.take l0.length).drop k5.toNat).length ≤ 1099511627776 then
         some (((((l0.take k5.toNat).drop 0) ++ [s1]) ++ ((l0.take l0.length).drop k5.toNat)), ())
         else none)
        else none)
       else none)
      else none)
     else none))
   else none)
  else
  (if (0 : Int) ≤ 0 ∧ (0 : Int) ≤ k5 ∧ (k5 : Int) ≤ (l0.length : Int) then
   (if 0 + ((l0.take k5.toNat).drop 0).length ≤ 1099511627776 then
    (if ((l0.take k5.toNat).drop 0).length + 1 ≤ 1099511627776 then
     (if (0 : Int) ≤ k5 ∧ (k5 : Int) ≤ (l0.length : Int) ∧ ((l0.length : Int) : Int) ≤ (l0.length : Int) then
      (if (((l0.take k5.toNat).drop 0) ++ [s1]).length + ((l0.take l0.length).drop k5.toNat).length ≤ 1099511627776 then
       some (((((l0.take k5.toNat).drop 0) ++ [s1]) ++ ((l0.take l0.length).drop k5.toNat)), ())
       else none)
      else none)
     else none)
    else none)
   else none))) := by kernel_rfl
noncomputable def perigeeref8_inOrder.E (n : Nat) : FunE := fnE tab perigeeref8_inOrder.T perigeeref8_inOrder.ann Try.f73 perigeeref8_inOrder.ins perigeeref8_inOrder.outs n

noncomputable def perigeeref8_without.T : Nat → Nat → Option FunE := fun n => ofL none []
noncomputable def perigeeref8_without.ann : Nat → Option (List Keep) := ofL none [(3, some [.slot 0, .slot 1, .vec 5 .str, .slot 6])]
noncomputable def perigeeref8_without.ins : List (Bool × Ty) := [(false, (.sl .str)), (false, .str)]
def perigeeref8_without.outs : List Ty := [(.sl .str)]
noncomputable def perigeeref8_without.f (n : Nat) (l0 : (List (List UInt8))) (s1 : List UInt8) : Option ((List (List UInt8)) × Unit) := (fnE tab perigeeref8_without.T perigeeref8_without.ann Try.f90 perigeeref8_without.ins perigeeref8_without.outs n).f (l0, (s1, ()))
noncomputable def perigeeref8_without.c0 (n : Nat) (l0 : (List (List UInt8))) (s1 : List UInt8) (out5 : (List (List UInt8))) (i6 : Int) : Option ((List (List UInt8)) × Unit) := cutN tab perigeeref8_without.T perigeeref8_without.ann Try.f90 perigeeref8_without.ins perigeeref8_without.outs n [1, 1, 0, 1, 0] [(0, .val false [.v (.sl .str) l0]), (1, .val false [.v .str s1]), (5, .val false [.row 1000005]), (6, .val false [.v (.int .i64) i6])] [(1000005, .live (.row .str out5))]
theorem perigeeref8_without.f_eq (n : Nat) (l0 : (List (List UInt8))) (s1 : List UInt8) : perigeeref8_without.f n l0 s1 =
 perigeeref8_without.c0 n l0 s1 [] 0 := by kernel_rfl
theorem perigeeref8_without.c0_eq (n : Nat) (l0 : (List (List UInt8))) (s1 : List UInt8) (out5 : (List (List UInt8))) (i6 : Int) : perigeeref8_without.c0 (n + 1) l0 s1 out5 i6 =
 (if (decide (i6 < (l0.length : Int))) = true then
 (if (0 : Int) ≤ i6 ∧ i6 < (l0.length : Int) then
  (if (!(decide (((l0.getD i6.toNat []) : List UInt8) = s1))) = true then
   (if (0 : Int) ≤ i6 ∧ i6 < (l0.length : Int) then
    (if out5.length + 1 ≤ 1099511627776 then
     perigeeref8_without.c0 n l0 s1 (out5 ++ [(l0.getD i6.toNat [])]) (IntKind.wrap .i64 (i6 + 1))
     else none)
    else none)
   else
   perigeeref8_without.c0 n l0 s1 out5 (IntKind.wrap .i64 (i6 + 1)))
  else none)
 else
 some (out5, ())) := by kernel_rfl
noncomputable def perigeeref8_without.E (n : Nat) : FunE := fnE tab perigeeref8_without.T perigeeref8_without.ann Try.f90 perigeeref8_without.ins perigeeref8_without.outs n

noncomputable def perigeeref8_craft_act.T : Nat → Nat → Option FunE := fun n => ofL none [(57, some (perigeeref8_ruleOf.E n)), (73, some (perigeeref8_inOrder.E n)), (90, some (perigeeref8_without.E n))]
noncomputable def perigeeref8_craft_act.ann : Nat → Option (List Keep) := ofL none []
noncomputable def perigeeref8_craft_act.ins : List (Bool × Ty) := [(true, YCraft), (false, YAct)]
def perigeeref8_craft_act.outs : List Ty := [.str]
noncomputable def perigeeref8_craft_act.f (n : Nat) (c0 : DCraft) (a1 : DAct) : Option (List UInt8 × DCraft × Unit) := (fnE tab perigeeref8_craft_act.T perigeeref8_craft_act.ann Try.f81 perigeeref8_craft_act.ins perigeeref8_craft_act.outs n).f (c0, (a1, ()))
theorem perigeeref8_craft_act.f_eq (n : Nat) (c0 : DCraft) (a1 : DAct) : perigeeref8_craft_act.f n c0 a1 =
 (if (decide (a1.1 = 1)) = true then
 some (a1.2.1, (c0, ()))
 else
 (if (decide (a1.1 = 2)) = true then
  ((perigeeref8_ruleOf.f n c0.1 a1.2.1).bind fun r1 =>
   (if (0 : Int) ≤ r1.1 ∧ r1.1 < (c0.2.2.1.length : Int) then
    some ([], ((c0.1, (c0.2.1, ((c0.2.2.1.set r1.1.toNat (decide (a1.1 = 2))), c0.2.2.2))), ()))
    else none))
  else
  (if (decide (a1.1 = 3)) = true then
   ((perigeeref8_ruleOf.f n c0.1 a1.2.1).bind fun r2 =>
    (if (0 : Int) ≤ r2.1 ∧ r2.1 < (c0.2.2.1.length : Int) then
     some ([], ((c0.1, (c0.2.1, ((c0.2.2.1.set r2.1.toNat (decide (a1.1 = 2))), c0.2.2.2))), ()))
     else none))
   else
   (if (decide (a1.1 = 4)) = true then
    (if a1.2.2 = true then
     ((perigeeref8_without.f n c0.2.2.2.1 a1.2.1).bind fun r3 =>
      some ([], ((c0.1, (c0.2.1, (c0.2.2.1, (r3.1, c0.2.2.2.2)))), ())))
     else
     ((perigeeref8_inOrder.f n c0.2.2.2.1 a1.2.1).bind fun r4 =>
      some ([], ((c0.1, (c0.2.1, (c0.2.2.1, (r4.1, c0.2.2.2.2)))), ()))))
    else
    some ([], (c0, ())))))) := by kernel_rfl
noncomputable def perigeeref8_craft_act.E (n : Nat) : FunE := fnE tab perigeeref8_craft_act.T perigeeref8_craft_act.ann Try.f81 perigeeref8_craft_act.ins perigeeref8_craft_act.outs n

noncomputable def perigeeref8_craft_come.T : Nat → Nat → Option FunE := fun n => ofL none [(81, some (perigeeref8_craft_act.E n))]
noncomputable def perigeeref8_craft_come.ann : Nat → Option (List Keep) := ofL none [(4, some [.obj 0 (.pair (.sl .str) (.pair (.sl YModeChange) (.pair .str (.pair (.sl YWatchRule) (.pair .str (.pair (.vec .bool) (.pair (.sl .str) (.vec YFired)))))))), .obj 3 YEvent, .vec 5 .str, .slot 6, .slot 7]), (12, some [.obj 0 (.pair (.sl .str) (.pair (.sl YModeChange) (.pair .str (.pair (.sl YWatchRule) (.pair .str (.pair (.vec .bool) (.pair (.sl .str) (.vec YFired)))))))), .obj 3 YEvent, .vec 5 .str, .slot 6, .slot 7, .slot 8, .slot 9, .slot 10]), (20, some [.obj 0 (.pair (.sl .str) (.pair (.sl YModeChange) (.pair .str (.pair (.sl YWatchRule) (.pair .str (.pair (.vec .bool) (.pair (.sl .str) (.vec YFired)))))))), .obj 3 YEvent, .vec 5 .str, .slot 6, .slot 7, .slot 8, .slot 9, .vec 12 .bool, .slot 13]), (24, some [.obj 0 (.pair (.sl .str) (.pair (.sl YModeChange) (.pair .str (.pair (.sl YWatchRule) (.pair .str (.pair (.vec .bool) (.pair (.sl .str) (.vec YFired)))))))), .obj 3 YEvent, .vec 5 .str, .slot 6, .slot 7, .slot 8, .slot 9, .vec 12 .bool, .slot 13, .obj 14 YWatchRule]), (30, some [.obj 0 (.pair (.sl .str) (.pair (.sl YModeChange) (.pair .str (.pair (.sl YWatchRule) (.pair .str (.pair (.vec .bool) (.pair (.sl .str) (.vec YFired)))))))), .obj 3 YEvent, .vec 5 .str, .slot 6, .slot 7, .slot 8, .slot 9, .vec 12 .bool, .slot 13, .obj 14 YWatchRule]), (31, some [.obj 0 (.pair (.sl .str) (.pair (.sl YModeChange) (.pair .str (.pair (.sl YWatchRule) (.pair .str (.pair (.vec .bool) (.pair (.sl .str) (.vec YFired)))))))), .obj 3 YEvent, .vec 5 .str, .slot 6, .slot 7, .slot 8, .slot 9, .vec 12 .bool, .slot 13, .obj 14 YWatchRule, .slot 15])]
noncomputable def perigeeref8_craft_come.ins : List (Bool × Ty) := [(true, YCraft), (false, YEvent)]
def perigeeref8_craft_come.outs : List Ty := [(.int .i64)]
noncomputable def perigeeref8_craft_come.f (n : Nat) (t0 : DCraft) (t1 : DEvent) : Option (Int × DCraft × Unit) := (fnE tab perigeeref8_craft_come.T perigeeref8_craft_come.ann Try.f50 perigeeref8_craft_come.ins perigeeref8_craft_come.outs n).f (t0, (t1, ()))
noncomputable def perigeeref8_craft_come.c0 (n : Nat) (t0_0 : (List (List UInt8))) (t0_1 : (List DModeChange)) (t0_2 : List UInt8) (t0_3 : (List DWatchRule)) (t0_4 : List UInt8) (t0_5 : (List Bool)) (t0_6 : (List (List UInt8))) (t0_7 : (List DFired)) (t3_0 : Int) (t3_1 : List UInt8) (t5 : (List (List UInt8))) (t6 : Int) (t7 : Int) : Option (Int × DCraft × Unit) := cutN tab perigeeref8_craft_come.T perigeeref8_craft_come.ann Try.f50 perigeeref8_craft_come.ins perigeeref8_craft_come.outs n [1, 1, 1, 0, 1, 0] [(0, .val false [.ptr 1000000 0]), (3, .val false [.ptr 1000003 0]), (5, .val false [.row 1000005]), (6, .val false [.v (.int .i64) t6]), (7, .val false [.v (.int .i64) t7])] [(1000000, .live (.cells 0 [.v (.sl .str) t0_0, .v (.sl YModeChange) t0_1, .v .str t0_2, .v (.sl YWatchRule) t0_3, .v .str t0_4, .v (.vec .bool) t0_5, .v (.sl .str) t0_6, .v (.vec YFired) t0_7])), (1000003, .live (.cells 0 [.v (.int .i64) t3_0, .v .str t3_1])), (1000005, .live (.row .str t5))]
noncomputable def perigeeref8_craft_come.c1 (n : Nat) (t0_0 : (List (List UInt8))) (t0_1 : (List DModeChange)) (t0_2 : List UInt8) (t0_3 : (List DWatchRule)) (t0_4 : List UInt8) (t0_5 : (List Bool)) (t0_6 : (List (List UInt8))) (t0_7 : (List DFired)) (t3_0 : Int) (t3_1 : List UInt8) (t5 : (List (List UInt8))) (t6 : Int) (t7 : Int) (t8 : List UInt8) (t9 : List UInt8) (t10 : Int) : Option (Int × DCraft × Unit) := cutN tab perigeeref8_craft_come.T perigeeref8_craft_come.ann Try.f50 perigeeref8_craft_come.ins perigeeref8_craft_come.outs n [1, 1, 1, 0, 1, 0, 0, 1, 0, 0, 1, 1, 1, 1, 0, 1, 0] [(0, .val false [.ptr 1000000 0]), (3, .val false [.ptr 1000003 0]), (5, .val false [.row 1000005]), (6, .val false [.v (.int .i64) t6]), (7, .val false [.v (.int .i64) t7]), (8, .val false [.v .str t8]), (9, .val false [.v .str t9]), (10, .val false [.v (.int .i64) t10])] [(1000000, .live (.cells 0 [.v (.sl .str) t0_0, .v (.sl YModeChange) t0_1, .v .str t0_2, .v (.sl YWatchRule) t0_3, .v .str t0_4, .v (.vec .bool) t0_5, .v (.sl .str) t0_6, .v (.vec YFired) t0_7])), (1000003, .live (.cells 0 [.v (.int .i64) t3_0, .v .str t3_1])), (1000005, .live (.row .str t5))]
noncomputable def perigeeref8_craft_come.c2 (n : Nat) (t0_0 : (List (List UInt8))) (t0_1 : (List DModeChange)) (t0_2 : List UInt8) (t0_3 : (List DWatchRule)) (t0_4 : List UInt8) (t0_5 : (List Bool)) (t0_6 : (List (List UInt8))) (t0_7 : (List DFired)) (t3_0 : Int) (t3_1 : List UInt8) (t5 : (List (List UInt8))) (t6 : Int) (t7 : Int) (t8 : List UInt8) (t9 : List UInt8) (t12 : (List Bool)) (t13 : Int) : Option (Int × DCraft × Unit) := cutN tab perigeeref8_craft_come.T perigeeref8_craft_come.ann Try.f50 perigeeref8_craft_come.ins perigeeref8_craft_come.outs n [1, 1, 1, 0, 1, 0, 0, 1, 0, 0, 1, 1, 1, 1, 1, 1, 1, 1, 0] [(0, .val false [.ptr 1000000 0]), (3, .val false [.ptr 1000003 0]), (5, .val false [.row 1000005]), (6, .val false [.v (.int .i64) t6]), (7, .val false [.v (.int .i64) t7]), (8, .val false [.v .str t8]), (9, .val false [.v .str t9]), (12, .val false [.row 1000012]), (13, .val false [.v (.int .i64) t13])] [(1000000, .live (.cells 0 [.v (.sl .str) t0_0, .v (.sl YModeChange) t0_1, .v .str t0_2, .v (.sl YWatchRule) t0_3, .v .str t0_4, .v (.vec .bool) t0_5, .v (.sl .str) t0_6, .v (.vec YFired) t0_7])), (1000003, .live (.cells 0 [.v (.int .i64) t3_0, .v .str t3_1])), (1000005, .live (.row .str t5)), (1000012, .live (.row .bool t12))]
noncomputable def perigeeref8_craft_come.c3 (n : Nat) (t0_0 : (List (List UInt8))) (t0_1 : (List DModeChange)) (t0_2 : List UInt8) (t0_3 : (List DWatchRule)) (t0_4 : List UInt8) (t0_5 : (List Bool)) (t0_6 : (List (List UInt8))) (t0_7 : (List DFired)) (t3_0 : Int) (t3_1 : List UInt8) (t5 : (List (List UInt8))) (t6 : Int) (t7 : Int) (t8 : List UInt8) (t9 : List UInt8) (t12 : (List Bool)) (t13 : Int) (t14_0 : List UInt8) (t14_1 : List UInt8) (t14_2 : List UInt8) (t14_3 : Bool) (t14_4 : (List DAct)) : Option (Int × DCraft × Unit) := cutN tab perigeeref8_craft_come.T perigeeref8_craft_come.ann Try.f50 perigeeref8_craft_come.ins perigeeref8_craft_come.outs n [1, 1, 1, 0, 1, 0, 0, 1, 0, 0, 1, 1, 1, 1, 1, 1, 1, 1, 0, 0, 1, 0, 0, 1, 1] [(0, .val false [.ptr 1000000 0]), (3, .val false [.ptr 1000003 0]), (5, .val false [.row 1000005]), (6, .val false [.v (.int .i64) t6]), (7, .val false [.v (.int .i64) t7]), (8, .val false [.v .str t8]), (9, .val false [.v .str t9]), (12, .val false [.row 1000012]), (13, .val false [.v (.int .i64) t13]), (14, .val false [.ptr 1000014 0])] [(1000000, .live (.cells 0 [.v (.sl .str) t0_0, .v (.sl YModeChange) t0_1, .v .str t0_2, .v (.sl YWatchRule) t0_3, .v .str t0_4, .v (.vec .bool) t0_5, .v (.sl .str) t0_6, .v (.vec YFired) t0_7])), (1000003, .live (.cells 0 [.v (.int .i64) t3_0, .v .str t3_1])), (1000005, .live (.row .str t5)), (1000012, .live (.row .bool t12)), (1000014, .live (.cells 0 [.v .str t14_0, .v .str t14_1, .v .str t14_2, .v .bool t14_3, .v (.sl YAct) t14_4]))]
noncomputable def perigeeref8_craft_come.c4 (n : Nat) (t0_0 : (List (List UInt8))) (t0_1 : (List DModeChange)) (t0_2 : List UInt8) (t0_3 : (List DWatchRule)) (t0_4 : List UInt8) (t0_5 : (List Bool)) (t0_6 : (List (List UInt8))) (t0_7 : (List DFired)) (t3_0 : Int) (t3_1 : List UInt8) (t5 : (List (List UInt8))) (t6 : Int) (t7 : Int) (t8 : List UInt8) (t9 : List UInt8) (t12 : (List Bool)) (t13 : Int) (t14_0 : List UInt8) (t14_1 : List UInt8) (t14_2 : List UInt8) (t14_3 : Bool) (t14_4 : (List DAct)) : Option (Int × DCraft × Unit) := cutN tab perigeeref8_craft_come.T perigeeref8_craft_come.ann Try.f50 perigeeref8_craft_come.ins perigeeref8_craft_come.outs n [1, 1, 1, 0, 1, 0, 0, 1, 0, 0, 1, 1, 1, 1, 1, 1, 1, 1, 0, 0, 1, 0, 0, 1, 1, 1, 1, 1, 1] [(0, .val false [.ptr 1000000 0]), (3, .val false [.ptr 1000003 0]), (5, .val false [.row 1000005]), (6, .val false [.v (.int .i64) t6]), (7, .val false [.v (.int .i64) t7]), (8, .val false [.v .str t8]), (9, .val false [.v .str t9]), (12, .val false [.row 1000012]), (13, .val false [.v (.int .i64) t13]), (14, .val false [.ptr 1000014 0])] [(1000000, .live (.cells 0 [.v (.sl .str) t0_0, .v (.sl YModeChange) t0_1, .v .str t0_2, .v (.sl YWatchRule) t0_3, .v .str t0_4, .v (.vec .bool) t0_5, .v (.sl .str) t0_6, .v (.vec YFired) t0_7])), (1000003, .live (.cells 0 [.v (.int .i64) t3_0, .v .str t3_1])), (1000005, .live (.row .str t5)), (1000012, .live (.row .bool t12)), (1000014, .live (.cells 0 [.v .str t14_0, .v .str t14_1, .v .str t14_2, .v .bool t14_3, .v (.sl YAct) t14_4]))]
noncomputable def perigeeref8_craft_come.c5 (n : Nat) (t0_0 : (List (List UInt8))) (t0_1 : (List DModeChange)) (t0_2 : List UInt8) (t0_3 : (List DWatchRule)) (t0_4 : List UInt8) (t0_5 : (List Bool)) (t0_6 : (List (List UInt8))) (t0_7 : (List DFired)) (t3_0 : Int) (t3_1 : List UInt8) (t5 : (List (List UInt8))) (t6 : Int) (t7 : Int) (t8 : List UInt8) (t9 : List UInt8) (t12 : (List Bool)) (t13 : Int) (t14_0 : List UInt8) (t14_1 : List UInt8) (t14_2 : List UInt8) (t14_3 : Bool) (t14_4 : (List DAct)) (t15 : Int) : Option (Int × DCraft × Unit) := cutN tab perigeeref8_craft_come.T perigeeref8_craft_come.ann Try.f50 perigeeref8_craft_come.ins perigeeref8_craft_come.outs n [1, 1, 1, 0, 1, 0, 0, 1, 0, 0, 1, 1, 1, 1, 1, 1, 1, 1, 0, 0, 1, 0, 0, 1, 1, 1, 1, 1, 1, 1, 0] [(0, .val false [.ptr 1000000 0]), (3, .val false [.ptr 1000003 0]), (5, .val false [.row 1000005]), (6, .val false [.v (.int .i64) t6]), (7, .val false [.v (.int .i64) t7]), (8, .val false [.v .str t8]), (9, .val false [.v .str t9]), (12, .val false [.row 1000012]), (13, .val false [.v (.int .i64) t13]), (14, .val false [.ptr 1000014 0]), (15, .val false [.v (.int .i64) t15])] [(1000000, .live (.cells 0 [.v (.sl .str) t0_0, .v (.sl YModeChange) t0_1, .v .str t0_2, .v (.sl YWatchRule) t0_3, .v .str t0_4, .v (.vec .bool) t0_5, .v (.sl .str) t0_6, .v (.vec YFired) t0_7])), (1000003, .live (.cells 0 [.v (.int .i64) t3_0, .v .str t3_1])), (1000005, .live (.row .str t5)), (1000012, .live (.row .bool t12)), (1000014, .live (.cells 0 [.v .str t14_0, .v .str t14_1, .v .str t14_2, .v .bool t14_3, .v (.sl YAct) t14_4]))]
theorem perigeeref8_craft_come.f_eq (n : Nat) (t0 : DCraft) (t1 : DEvent) : perigeeref8_craft_come.f n t0 t1 =
 perigeeref8_craft_come.c0 n t0.1.1 t0.1.2.1 t0.1.2.2.1 t0.1.2.2.2 t0.2.1 t0.2.2.1 t0.2.2.2.1 t0.2.2.2.2 t1.1 t1.2 [t1.2] 0 0 := by kernel_rfl
theorem perigeeref8_craft_come.c0_eq (n : Nat) (t0_0 : (List (List UInt8))) (t0_1 : (List DModeChange)) (t0_2 : List UInt8) (t0_3 : (List DWatchRule)) (t0_4 : List UInt8) (t0_5 : (List Bool)) (t0_6 : (List (List UInt8))) (t0_7 : (List DFired)) (t3_0 : Int) (t3_1 : List UInt8) (t5 : (List (List UInt8))) (t6 : Int) (t7 : Int) : perigeeref8_craft_come.c0 (n + 1) t0_0 t0_1 t0_2 t0_3 t0_4 t0_5 t0_6 t0_7 t3_0 t3_1 t5 t6 t7 =
 (if (decide (t7 < (t5.length : Int))) = true then
 (if (0 : Int) ≤ t7 ∧ t7 < (t5.length : Int) then
  (if t0_7.length + 1 ≤ 1099511627776 then
   (if (decide (10000 < (IntKind.wrap .i64 (t6 + 1)))) = true then
    some (17, (((t0_0, (t0_1, (t0_2, t0_3))), (t0_4, (t0_5, (t0_6, (t0_7 ++ [(t3_0, ((t5.getD t7.toNat []), (t0_4, [])))]))))), ()))
    else
    perigeeref8_craft_come.c1 n t0_0 t0_1 t0_2 t0_3 t0_4 t0_5 t0_6 (t0_7 ++ [(t3_0, ((t5.getD t7.toNat []), (t0_4, [])))]) t3_0 t3_1 t5 (IntKind.wrap .i64 (t6 + 1)) t7 (t5.getD t7.toNat []) t0_4 0)
   else none)
  else none)
 else
 some (0, (((t0_0, (t0_1, (t0_2, t0_3))), (t0_4, (t0_5, (t0_6, t0_7)))), ()))) := by kernel_rfl
theorem perigeeref8_craft_come.c1_eq (n : Nat) (t0_0 : (List (List UInt8))) (t0_1 : (List DModeChange)) (t0_2 : List UInt8) (t0_3 : (List DWatchRule)) (t0_4 : List UInt8) (t0_5 : (List Bool)) (t0_6 : (List (List UInt8))) (t0_7 : (List DFired)) (t3_0 : Int) (t3_1 : List UInt8) (t5 : (List (List UInt8))) (t6 : Int) (t7 : Int) (t8 : List UInt8) (t9 : List UInt8) (t10 : Int) : perigeeref8_craft_come.c1 (n + 1) t0_0 t0_1 t0_2 t0_3 t0_4 t0_5 t0_6 t0_7 t3_0 t3_1 t5 t6 t7 t8 t9 t10 =
 (if (decide (t10 < (t0_1.length : Int))) = true then
 (if (0 : Int) ≤ t10 ∧ t10 < (t0_1.length : Int) then
  (if (decide (((t0_1.getD t10.toNat (Ty.dflt YModeChange)).1 : List UInt8) = t9)) = true then
   (if (decide (((t0_1.getD t10.toNat (Ty.dflt YModeChange)).2.1 : List UInt8) = t8)) = true then
    perigeeref8_craft_come.c1 n t0_0 t0_1 t0_2 t0_3 (t0_1.getD t10.toNat (Ty.dflt YModeChange)).2.2 t0_5 t0_6 t0_7 t3_0 t3_1 t5 t6 t7 t8 t9 (IntKind.wrap .i64 (t10 + 1))
    else
    perigeeref8_craft_come.c1 n t0_0 t0_1 t0_2 t0_3 t0_4 t0_5 t0_6 t0_7 t3_0 t3_1 t5 t6 t7 t8 t9 (IntKind.wrap .i64 (t10 + 1)))
   else
   perigeeref8_craft_come.c1 n t0_0 t0_1 t0_2 t0_3 t0_4 t0_5 t0_6 t0_7 t3_0 t3_1 t5 t6 t7 t8 t9 (IntKind.wrap .i64 (t10 + 1)))
  else none)
 else
 (if 0 + t0_5.length ≤ 1099511627776 then
  perigeeref8_craft_come.c2 n t0_0 t0_1 t0_2 t0_3 t0_4 t0_5 t0_6 t0_7 t3_0 t3_1 t5 t6 t7 t8 t9 t0_5 0
  else none)) := by kernel_rfl
theorem perigeeref8_craft_come.c2_eq (n : Nat) (t0_0 : (List (List UInt8))) (t0_1 : (List DModeChange)) (t0_2 : List UInt8) (t0_3 : (List DWatchRule)) (t0_4 : List UInt8) (t0_5 : (List Bool)) (t0_6 : (List (List UInt8))) (t0_7 : (List DFired)) (t3_0 : Int) (t3_1 : List UInt8) (t5 : (List (List UInt8))) (t6 : Int) (t7 : Int) (t8 : List UInt8) (t9 : List UInt8) (t12 : (List Bool)) (t13 : Int) : perigeeref8_craft_come.c2 (n + 1) t0_0 t0_1 t0_2 t0_3 t0_4 t0_5 t0_6 t0_7 t3_0 t3_1 t5 t6 t7 t8 t9 t12 t13 =
 (if (decide (t13 < (t0_3.length : Int))) = true then
 (if (0 : Int) ≤ t13 ∧ t13 < (t0_3.length : Int) then
  (if (0 : Int) ≤ t13 ∧ t13 < (t12.length : Int) then
   (if (!(t12.getD t13.toNat false)) = true then
    perigeeref8_craft_come.c2 n t0_0 t0_1 t0_2 t0_3 t0_4 t0_5 t0_6 t0_7 t3_0 t3_1 t5 t6 t7 t8 t9 t12 (IntKind.wrap .i64 (t13 + 1))
    else
    (if (!(decide (((t0_3.getD t13.toNat (Ty.dflt YWatchRule)).2.1 : List UInt8) = t8))) = true then
     perigeeref8_craft_come.c2 n t0_0 t0_1 t0_2 t0_3 t0_4 t0_5 t0_6 t0_7 t3_0 t3_1 t5 t6 t7 t8 t9 t12 (IntKind.wrap .i64 (t13 + 1))
     else
     (if (!(decide (((t0_3.getD t13.toNat (Ty.dflt YWatchRule)).2.2.1 : List UInt8) = []))) = true then
      (if (!(decide (((t0_3.getD t13.toNat (Ty.dflt YWatchRule)).2.2.1 : List UInt8) = t9))) = true then
       perigeeref8_craft_come.c2 n t0_0 t0_1 t0_2 t0_3 t0_4 t0_5 t0_6 t0_7 t3_0 t3_1 t5 t6 t7 t8 t9 t12 (IntKind.wrap .i64 (t13 + 1))
       else
       perigeeref8_craft_come.c3 n t0_0 t0_1 t0_2 t0_3 t0_4 t0_5 t0_6 t0_7 t3_0 t3_1 t5 t6 t7 t8 t9 t12 t13 (t0_3.getD t13.toNat (Ty.dflt YWatchRule)).1 (t0_3.getD t13.toNat (Ty.dflt YWatchRule)).2.1 (t0_3.getD t13.toNat (Ty.dflt YWatchRule)).2.2.1 (t0_3.getD t13.toNat (Ty.dflt YWatchRule)).2.2.2.1 (t0_3.getD t13.toNat (Ty.dflt YWatchRule)).2.2.2.2)
      else
      perigeeref8_craft_come.c3 n t0_0 t0_1 t0_2 t0_3 t0_4 t0_5 t0_6 t0_7 t3_0 t3_1 t5 t6 t7 t8 t9 t12 t13 (t0_3.getD t13.toNat (Ty.dflt YWatchRule)).1 (t0_3.getD t13.toNat (Ty.dflt YWatchRule)).2.1 (t0_3.getD t13.toNat (Ty.dflt YWatchRule)).2.2.1 (t0_3.getD t13.toNat (Ty.dflt YWatchRule)).2.2.2.1 (t0_3.getD t13.toNat (Ty.dflt YWatchRule)).2.2.2.2)))
   else none)
  else none)
 else
 perigeeref8_craft_come.c0 n t0_0 t0_1 t0_2 t0_3 t0_4 t0_5 t0_6 t0_7 t3_0 t3_1 t5 t6 (IntKind.wrap .i64 (t7 + 1))) := by kernel_rfl
theorem perigeeref8_craft_come.c3_eq (n : Nat) (t0_0 : (List (List UInt8))) (t0_1 : (List DModeChange)) (t0_2 : List UInt8) (t0_3 : (List DWatchRule)) (t0_4 : List UInt8) (t0_5 : (List Bool)) (t0_6 : (List (List UInt8))) (t0_7 : (List DFired)) (t3_0 : Int) (t3_1 : List UInt8) (t5 : (List (List UInt8))) (t6 : Int) (t7 : Int) (t8 : List UInt8) (t9 : List UInt8) (t12 : (List Bool)) (t13 : Int) (t14_0 : List UInt8) (t14_1 : List UInt8) (t14_2 : List UInt8) (t14_3 : Bool) (t14_4 : (List DAct)) : perigeeref8_craft_come.c3 (n + 1) t0_0 t0_1 t0_2 t0_3 t0_4 t0_5 t0_6 t0_7 t3_0 t3_1 t5 t6 t7 t8 t9 t12 t13 t14_0 t14_1 t14_2 t14_3 t14_4 =
 (if t0_7.length + 1 ≤ 1099511627776 then
 (if (decide (10000 < (IntKind.wrap .i64 (t6 + 1)))) = true then
  some (17, (((t0_0, (t0_1, (t0_2, t0_3))), (t0_4, (t0_5, (t0_6, (t0_7 ++ [(t3_0, (t8, (t9, t14_0)))]))))), ()))
  else
  (if t14_3 = true then
   (if (0 : Int) ≤ t13 ∧ t13 < (t0_5.length : Int) then
    perigeeref8_craft_come.c4 n t0_0 t0_1 t0_2 t0_3 t0_4 (t0_5.set t13.toNat false) t0_6 (t0_7 ++ [(t3_0, (t8, (t9, t14_0)))]) t3_0 t3_1 t5 (IntKind.wrap .i64 (t6 + 1)) t7 t8 t9 t12 t13 t14_0 t14_1 t14_2 t14_3 t14_4
    else none)
   else
   perigeeref8_craft_come.c4 n t0_0 t0_1 t0_2 t0_3 t0_4 t0_5 t0_6 (t0_7 ++ [(t3_0, (t8, (t9, t14_0)))]) t3_0 t3_1 t5 (IntKind.wrap .i64 (t6 + 1)) t7 t8 t9 t12 t13 t14_0 t14_1 t14_2 t14_3 t14_4))
 else none) := by kernel_rfl
theorem perigeeref8_craft_come.c4_eq (n : Nat) (t0_0 : (List (List UInt8))) (t0_1 : (List DModeChange)) (t0_2 : List UInt8) (t0_3 : (List DWatchRule)) (t0_4 : List UInt8) (t0_5 : (List Bool)) (t0_6 : (List (List UInt8))) (t0_7 : (List DFired)) (t3_0 : Int) (t3_1 : List UInt8) (t5 : (List (List UInt8))) (t6 : Int) (t7 : Int) (t8 : List UInt8) (t9 : List UInt8) (t12 : (List Bool)) (t13 : Int) (t14_0 : List UInt8) (t14_1 : List UInt8) (t14_2 : List UInt8) (t14_3 : Bool) (t14_4 : (List DAct)) : perigeeref8_craft_come.c4 (n + 1) t0_0 t0_1 t0_2 t0_3 t0_4 t0_5 t0_6 t0_7 t3_0 t3_1 t5 t6 t7 t8 t9 t12 t13 t14_0 t14_1 t14_2 t14_3 t14_4 =
 perigeeref8_craft_come.c5 n t0_0 t0_1 t0_2 t0_3 t0_4 t0_5 t0_6 t0_7 t3_0 t3_1 t5 t6 t7 t8 t9 t12 t13 t14_0 t14_1 t14_2 t14_3 t14_4 0 := by kernel_rfl
theorem perigeeref8_craft_come.c5_eq (n : Nat) (t0_0 : (List (List UInt8))) (t0_1 : (List DModeChange)) (t0_2 : List UInt8) (t0_3 : (List DWatchRule)) (t0_4 : List UInt8) (t0_5 : (List Bool)) (t0_6 : (List (List UInt8))) (t0_7 : (List DFired)) (t3_0 : Int) (t3_1 : List UInt8) (t5 : (List (List UInt8))) (t6 : Int) (t7 : Int) (t8 : List UInt8) (t9 : List UInt8) (t12 : (List Bool)) (t13 : Int) (t14_0 : List UInt8) (t14_1 : List UInt8) (t14_2 : List UInt8) (t14_3 : Bool) (t14_4 : (List DAct)) (t15 : Int) : perigeeref8_craft_come.c5 (n + 1) t0_0 t0_1 t0_2 t0_3 t0_4 t0_5 t0_6 t0_7 t3_0 t3_1 t5 t6 t7 t8 t9 t12 t13 t14_0 t14_1 t14_2 t14_3 t14_4 t15 =
 (if (decide (t15 < (t14_4.length : Int))) = true then
 (if (0 : Int) ≤ t15 ∧ t15 < (t14_4.length : Int) then
  ((perigeeref8_craft_act.f n ((t0_0, (t0_1, (t0_2, t0_3))), (t0_4, (t0_5, (t0_6, t0_7)))) (t14_4.getD t15.toNat (Ty.dflt YAct))).bind fun r1 =>
   (if (!(decide ((r1.1 : List UInt8) = []))) = true then
    (if t5.length + 1 ≤ 1099511627776 then
     perigeeref8_craft_come.c5 n r1.2.1.1.1 r1.2.1.1.2.1 r1.2.1.1.2.2.1 r1.2.1.1.2.2.2 r1.2.1.2.1 r1.2.1.2.2.1 r1.2.1.2.2.2.1 r1.2.1.2.2.2.2 t3_0 t3_1 (t5 ++ [r1.1]) t6 t7 t8 t9 t12 t13 t14_0 t14_1 t14_2 t14_3 t14_4 (IntKind.wrap .i64 (t15 + 1))
     else none)
    else
    perigeeref8_craft_come.c5 n r1.2.1.1.1 r1.2.1.1.2.1 r1.2.1.1.2.2.1 r1.2.1.1.2.2.2 r1.2.1.2.1 r1.2.1.2.2.1 r1.2.1.2.2.2.1 r1.2.1.2.2.2.2 t3_0 t3_1 t5 t6 t7 t8 t9 t12 t13 t14_0 t14_1 t14_2 t14_3 t14_4 (IntKind.wrap .i64 (t15 + 1))))
  else none)
 else
 perigeeref8_craft_come.c2 n t0_0 t0_1 t0_2 t0_3 t0_4 t0_5 t0_6 t0_7 t3_0 t3_1 t5 t6 t7 t8 t9 t12 (IntKind.wrap .i64 (t13 + 1))) := by kernel_rfl
noncomputable def perigeeref8_craft_come.E (n : Nat) : FunE := fnE tab perigeeref8_craft_come.T perigeeref8_craft_come.ann Try.f50 perigeeref8_craft_come.ins perigeeref8_craft_come.outs n

noncomputable def perigeeref8_Play.T : Nat → Nat → Option FunE := fun n => ofL none [(20, some (perigeeref8_CheckWatch.E n)), (22, some (perigeeref8_CheckEvents.E n)), (49, some (perigeeref8_newCraft.E n)), (50, some (perigeeref8_craft_come.E n))]
noncomputable def perigeeref8_Play.ann : Nat → Option (List Keep) := ofL none [(9, some [.slot 1, .obj 8 (.pair (.sl .str) (.pair (.sl YModeChange) (.pair .str (.pair (.sl YWatchRule) (.pair .str (.pair (.vec .bool) (.pair (.sl .str) (.vec YFired)))))))), .slot 9])]
noncomputable def perigeeref8_Play.ins : List (Bool × Ty) := [(false, YWatch), (false, (.sl YEvent))]
def perigeeref8_Play.outs : List Ty := [(.sl YFired), (.int .i64)]
noncomputable def perigeeref8_Play.f (n : Nat) (w0 : DWatch) (l1 : (List DEvent)) : Option ((List DFired) × Int × Unit) := (fnE tab perigeeref8_Play.T perigeeref8_Play.ann Try.f18 perigeeref8_Play.ins perigeeref8_Play.outs n).f (w0, (l1, ()))
noncomputable def perigeeref8_Play.c0 (n : Nat) (l1 : (List DEvent)) (c8_0 : (List (List UInt8))) (c8_1 : (List DModeChange)) (c8_2 : List UInt8) (c8_3 : (List DWatchRule)) (c8_4 : List UInt8) (c8_5 : (List Bool)) (c8_6 : (List (List UInt8))) (c8_7 : (List DFired)) (i9 : Int) : Option ((List DFired) × Int × Unit) := cutN tab perigeeref8_Play.T perigeeref8_Play.ann Try.f18 perigeeref8_Play.ins perigeeref8_Play.outs n [1, 1, 1, 1, 0, 1, 0] [(1, .val false [.v (.sl YEvent) l1]), (8, .val false [.ptr 1000008 0]), (9, .val false [.v (.int .i64) i9])] [(1000008, .live (.cells 0 [.v (.sl .str) c8_0, .v (.sl YModeChange) c8_1, .v .str c8_2, .v (.sl YWatchRule) c8_3, .v .str c8_4, .v (.vec .bool) c8_5, .v (.sl .str) c8_6, .v (.vec YFired) c8_7]))]
theorem perigeeref8_Play.f_eq (n : Nat) (w0 : DWatch) (l1 : (List DEvent)) : perigeeref8_Play.f n w0 l1 =
 ((perigeeref8_CheckWatch.f n w0).bind fun r1 =>
 (if (!(decide (r1.1 = 0))) = true then
  some ([], (r1.1, ()))
  else
  ((perigeeref8_CheckEvents.f n l1).bind fun r2 =>
   (if (!(decide (r2.1 = 0))) = true then
    some ([], (r2.1, ()))
    else
    ((perigeeref8_newCraft.f n w0).bind fun r3 =>
     (if r3.1.isSome = true then
      perigeeref8_Play.c0 n l1 (r3.1.getD (Ty.dflt YCraft)).1.1 (r3.1.getD (Ty.dflt YCraft)).1.2.1 (r3.1.getD (Ty.dflt YCraft)).1.2.2.1 (r3.1.getD (Ty.dflt YCraft)).1.2.2.2 (r3.1.getD (Ty.dflt YCraft)).2.1 (r3.1.getD (Ty.dflt YCraft)).2.2.1 (r3.1.getD (Ty.dflt YCraft)).2.2.2.1 (r3.1.getD (Ty.dflt YCraft)).2.2.2.2 0
      else
      none)))))) := by kernel_rfl
theorem perigeeref8_Play.c0_eq (n : Nat) (l1 : (List DEvent)) (c8_0 : (List (List UInt8))) (c8_1 : (List DModeChange)) (c8_2 : List UInt8) (c8_3 : (List DWatchRule)) (c8_4 : List UInt8) (c8_5 : (List Bool)) (c8_6 : (List (List UInt8))) (c8_7 : (List DFired)) (i9 : Int) : perigeeref8_Play.c0 (n + 1) l1 c8_0 c8_1 c8_2 c8_3 c8_4 c8_5 c8_6 c8_7 i9 =
 (if (decide (i9 < (l1.length : Int))) = true then
 (if (0 : Int) ≤ i9 ∧ i9 < (l1.length : Int) then
  ((perigeeref8_craft_come.f n ((c8_0, (c8_1, (c8_2, c8_3))), (c8_4, (c8_5, (c8_6, c8_7)))) (l1.getD i9.toNat (Ty.dflt YEvent))).bind fun r4 =>
   (if (!(decide (r4.1 = 0))) = true then
    some ([], (r4.1, ()))
    else
    perigeeref8_Play.c0 n l1 r4.2.1.1.1 r4.2.1.1.2.1 r4.2.1.1.2.2.1 r4.2.1.1.2.2.2 r4.2.1.2.1 r4.2.1.2.2.1 r4.2.1.2.2.2.1 r4.2.1.2.2.2.2 (IntKind.wrap .i64 (i9 + 1))))
  else none)
 else
 some (c8_7, (0, ()))) := by kernel_rfl
noncomputable def monitor_Never.T : Nat → Nat → Option FunE := fun n => ofL none [(19, some (monitor_CheckWatch.E n)), (59, some (monitor_IsName.E n))]
noncomputable def monitor_Never.ann : Nat → Option (List Keep) := ofL none [(8, some [.slot 1, .obj 2 YWatch, .slot 7, .slot 28, .slot 29, .slot 30]), (18, some [.obj 2 YWatch, .slot 7, .vec 10 .bool, .slot 11]), (21, some [.obj 2 YWatch, .slot 7, .vec 10 .bool, .slot 11, .slot 58, .slot 59, .slot 60]), (24, some [.obj 2 YWatch, .slot 7, .vec 10 .bool, .slot 12, .obj 13 YWatchRule, .slot 58, .slot 59, .slot 60]), (26, some [.obj 2 YWatch, .slot 7, .vec 10 .bool, .slot 11, .slot 58, .slot 59, .slot 60, .slot 80, .slot 81, .slot 82]), (34, some [.vec 10 .bool, .vec 16 .str, .slot 95, .slot 96, .slot 97])]
noncomputable def monitor_Never.ins : List (Bool × Ty) := [(false, YWatch), (false, (.sl .str))]
def monitor_Never.outs : List Ty := [(.sl .str), (.int .i64)]
noncomputable def monitor_Never.f (n : Nat) (t0 : DWatch) (t1 : (List (List UInt8))) : Option ((List (List UInt8)) × Int × Unit) := (fnE tab monitor_Never.T monitor_Never.ann Try.f25 monitor_Never.ins monitor_Never.outs n).f (t0, (t1, ()))
noncomputable def monitor_Never.c0 (n : Nat) (t1 : (List (List UInt8))) (t2_0 : (List (List UInt8))) (t2_1 : (List DModeChange)) (t2_2 : List UInt8) (t2_3 : (List DWatchRule)) (t7 : (List (List UInt8 × Bool))) (t28 : (List (List UInt8))) (t29 : Int) (t30 : Int) : Option ((List (List UInt8)) × Int × Unit) := cutN tab monitor_Never.T monitor_Never.ann Try.f25 monitor_Never.ins monitor_Never.outs n [1, 1, 1, 1, 0, 1, 0] [(1, .val false [.v (.sl .str) t1]), (2, .val false [.ptr 1000002 0]), (7, .val false [.mapr 1000007]), (28, .val false [.v (.sl .str) t28]), (29, .val false [.v (.int .i64) t29]), (30, .val false [.v (.int .i64) t30])] [(1000002, .live (.cells 0 [.v (.sl .str) t2_0, .v (.sl YModeChange) t2_1, .v .str t2_2, .v (.sl YWatchRule) t2_3])), (1000007, .live (.mapo .str .bool t7))]
noncomputable def monitor_Never.c1 (n : Nat) (t2_0 : (List (List UInt8))) (t2_1 : (List DModeChange)) (t2_2 : List UInt8) (t2_3 : (List DWatchRule)) (t7 : (List (List UInt8 × Bool))) (t10 : (List Bool)) (t11 : Bool) : Option ((List (List UInt8)) × Int × Unit) := cutN tab monitor_Never.T monitor_Never.ann Try.f25 monitor_Never.ins monitor_Never.outs n [1, 1, 1, 1, 1, 1, 0, 1, 0] [(2, .val false [.ptr 1000002 0]), (7, .val false [.mapr 1000007]), (10, .val false [.row 1000010]), (11, .val false [.v .bool t11])] [(1000002, .live (.cells 0 [.v (.sl .str) t2_0, .v (.sl YModeChange) t2_1, .v .str t2_2, .v (.sl YWatchRule) t2_3])), (1000007, .live (.mapo .str .bool t7)), (1000010, .live (.row .bool t10))]
noncomputable def monitor_Never.c2 (n : Nat) (t2_0 : (List (List UInt8))) (t2_1 : (List DModeChange)) (t2_2 : List UInt8) (t2_3 : (List DWatchRule)) (t7 : (List (List UInt8 × Bool))) (t10 : (List Bool)) (t11 : Bool) (t58 : (List DWatchRule)) (t59 : Int) (t60 : Int) : Option ((List (List UInt8)) × Int × Unit) := cutN tab monitor_Never.T monitor_Never.ann Try.f25 monitor_Never.ins monitor_Never.outs n [1, 1, 1, 1, 1, 1, 0, 1, 0, 0, 1, 0, 1, 1, 0] [(2, .val false [.ptr 1000002 0]), (7, .val false [.mapr 1000007]), (10, .val false [.row 1000010]), (11, .val false [.v .bool t11]), (58, .val false [.v (.sl YWatchRule) t58]), (59, .val false [.v (.int .i64) t59]), (60, .val false [.v (.int .i64) t60])] [(1000002, .live (.cells 0 [.v (.sl .str) t2_0, .v (.sl YModeChange) t2_1, .v .str t2_2, .v (.sl YWatchRule) t2_3])), (1000007, .live (.mapo .str .bool t7)), (1000010, .live (.row .bool t10))]
noncomputable def monitor_Never.c3 (n : Nat) (t10 : (List Bool)) (t16 : (List (List UInt8))) (t95 : (List DWatchRule)) (t96 : Int) (t97 : Int) : Option ((List (List UInt8)) × Int × Unit) := cutN tab monitor_Never.T monitor_Never.ann Try.f25 monitor_Never.ins monitor_Never.outs n [1, 1, 1, 1, 1, 1, 1, 1, 0, 1, 0] [(10, .val false [.row 1000010]), (16, .val false [.row 1000016]), (95, .val false [.v (.sl YWatchRule) t95]), (96, .val false [.v (.int .i64) t96]), (97, .val false [.v (.int .i64) t97])] [(1000010, .live (.row .bool t10)), (1000016, .live (.row .str t16))]
noncomputable def monitor_Never.c4 (n : Nat) (t2_0 : (List (List UInt8))) (t2_1 : (List DModeChange)) (t2_2 : List UInt8) (t2_3 : (List DWatchRule)) (t7 : (List (List UInt8 × Bool))) (t10 : (List Bool)) (t12 : Int) (t13_0 : List UInt8) (t13_1 : List UInt8) (t13_2 : List UInt8) (t13_3 : Bool) (t13_4 : (List DAct)) (t58 : (List DWatchRule)) (t59 : Int) (t60 : Int) : Option ((List (List UInt8)) × Int × Unit) := cutN tab monitor_Never.T monitor_Never.ann Try.f25 monitor_Never.ins monitor_Never.outs n [1, 1, 1, 1, 1, 1, 0, 1, 0, 0, 1, 0, 1, 1, 0, 0, 1, 1, 0, 0, 1, 1] [(2, .val false [.ptr 1000002 0]), (7, .val false [.mapr 1000007]), (10, .val false [.row 1000010]), (12, .val false [.v (.int .i64) t12]), (13, .val false [.ptr 1000013 0]), (58, .val false [.v (.sl YWatchRule) t58]), (59, .val false [.v (.int .i64) t59]), (60, .val false [.v (.int .i64) t60])] [(1000002, .live (.cells 0 [.v (.sl .str) t2_0, .v (.sl YModeChange) t2_1, .v .str t2_2, .v (.sl YWatchRule) t2_3])), (1000007, .live (.mapo .str .bool t7)), (1000010, .live (.row .bool t10)), (1000013, .live (.cells 0 [.v .str t13_0, .v .str t13_1, .v .str t13_2, .v .bool t13_3, .v (.sl YAct) t13_4]))]
noncomputable def monitor_Never.c5 (n : Nat) (t2_0 : (List (List UInt8))) (t2_1 : (List DModeChange)) (t2_2 : List UInt8) (t2_3 : (List DWatchRule)) (t7 : (List (List UInt8 × Bool))) (t10 : (List Bool)) (t11 : Bool) (t58 : (List DWatchRule)) (t59 : Int) (t60 : Int) (t80 : (List DAct)) (t81 : Int) (t82 : Int) : Option ((List (List UInt8)) × Int × Unit) := cutN tab monitor_Never.T monitor_Never.ann Try.f25 monitor_Never.ins monitor_Never.outs n [1, 1, 1, 1, 1, 1, 0, 1, 0, 0, 1, 0, 1, 1, 0, 0, 1, 1, 0, 0, 1, 1, 1, 1, 0] [(2, .val false [.ptr 1000002 0]), (7, .val false [.mapr 1000007]), (10, .val false [.row 1000010]), (11, .val false [.v .bool t11]), (58, .val false [.v (.sl YWatchRule) t58]), (59, .val false [.v (.int .i64) t59]), (60, .val false [.v (.int .i64) t60]), (80, .val false [.v (.sl YAct) t80]), (81, .val false [.v (.int .i64) t81]), (82, .val false [.v (.int .i64) t82])] [(1000002, .live (.cells 0 [.v (.sl .str) t2_0, .v (.sl YModeChange) t2_1, .v .str t2_2, .v (.sl YWatchRule) t2_3])), (1000007, .live (.mapo .str .bool t7)), (1000010, .live (.row .bool t10))]
theorem monitor_Never.f_eq (n : Nat) (t0 : DWatch) (t1 : (List (List UInt8))) : monitor_Never.f n t0 t1 =
 ((monitor_CheckWatch.f n t0).bind fun r1 =>
 (if (!(decide (r1.1 = 0))) = true then
  some ([], (r1.1, ()))
  else
  (if (decide (200 < (t1.length : Int))) = true then
   some ([], (2, ()))
   else
   monitor_Never.c0 n t1 t0.1 t0.2.1 t0.2.2.1 t0.2.2.2 [] t1 (t1.length : Int) 0))) := by kernel_rfl
theorem monitor_Never.c0_eq (n : Nat) (t1 : (List (List UInt8))) (t2_0 : (List (List UInt8))) (t2_1 : (List DModeChange)) (t2_2 : List UInt8) (t2_3 : (List DWatchRule)) (t7 : (List (List UInt8 × Bool))) (t28 : (List (List UInt8))) (t29 : Int) (t30 : Int) : monitor_Never.c0 (n + 1) t1 t2_0 t2_1 t2_2 t2_3 t7 t28 t29 t30 =
 (if (decide (t30 < t29)) = true then
 (if (0 : Int) ≤ t30 ∧ t30 < (t28.length : Int) then
  ((monitor_IsName.f n (t28.getD t30.toNat [])).bind fun r2 =>
   (if (!r2.1) = true then
    some ([], (5, ()))
    else
    (if (decide (0 < t30)) = true then
     (if (0 : Int) ≤ (IntKind.wrap .i64 (t30 - 1)) ∧ (IntKind.wrap .i64 (t30 - 1)) < (t1.length : Int) then
      (if (!(lessS (t1.getD (IntKind.wrap .i64 (t30 - 1)).toNat []) (t28.getD t30.toNat []))) = true then
       some ([], (8, ()))
       else
       monitor_Never.c0 n t1 t2_0 t2_1 t2_2 t2_3 (mapPut .str .bool (t28.getD t30.toNat []) true t7) t28 t29 (IntKind.wrap .i64 (t30 + 1)))
      else none)
     else
     monitor_Never.c0 n t1 t2_0 t2_1 t2_2 t2_3 (mapPut .str .bool (t28.getD t30.toNat []) true t7) t28 t29 (IntKind.wrap .i64 (t30 + 1)))))
  else none)
 else
 (if (0 : Int) ≤ (t2_3.length : Int) ∧ ((t2_3.length : Int) : Int) ≤ (t2_3.length : Int) ∧ ((t2_3.length : Int) : Int) ≤ 1099511627776 then
  monitor_Never.c1 n t2_0 t2_1 t2_2 t2_3 t7 (List.replicate (t2_3.length : Int).toNat false) true
  else none)) := by kernel_rfl
theorem monitor_Never.c1_eq (n : Nat) (t2_0 : (List (List UInt8))) (t2_1 : (List DModeChange)) (t2_2 : List UInt8) (t2_3 : (List DWatchRule)) (t7 : (List (List UInt8 × Bool))) (t10 : (List Bool)) (t11 : Bool) : monitor_Never.c1 (n + 1) t2_0 t2_1 t2_2 t2_3 t7 t10 t11 =
 (if t11 = true then
 monitor_Never.c2 n t2_0 t2_1 t2_2 t2_3 t7 t10 false t2_3 (t2_3.length : Int) 0
 else
 monitor_Never.c3 n t10 [] t2_3 (t2_3.length : Int) 0) := by kernel_rfl
theorem monitor_Never.c2_eq (n : Nat) (t2_0 : (List (List UInt8))) (t2_1 : (List DModeChange)) (t2_2 : List UInt8) (t2_3 : (List DWatchRule)) (t7 : (List (List UInt8 × Bool))) (t10 : (List Bool)) (t11 : Bool) (t58 : (List DWatchRule)) (t59 : Int) (t60 : Int) : monitor_Never.c2 (n + 1) t2_0 t2_1 t2_2 t2_3 t7 t10 t11 t58 t59 t60 =
 (if (decide (t60 < t59)) = true then
 (if (0 : Int) ≤ t60 ∧ t60 < (t58.length : Int) then
  (if (0 : Int) ≤ t60 ∧ t60 < (t10.length : Int) then
   (if (t10.getD t60.toNat false) = true then
    monitor_Never.c2 n t2_0 t2_1 t2_2 t2_3 t7 t10 t11 t58 t59 (IntKind.wrap .i64 (t60 + 1))
    else
    (if (!(mapGet .str .bool (t58.getD t60.toNat (Ty.dflt YWatchRule)).2.1 t7 false)) = true then
     monitor_Never.c2 n t2_0 t2_1 t2_2 t2_3 t7 t10 t11 t58 t59 (IntKind.wrap .i64 (t60 + 1))
     else
     monitor_Never.c4 n t2_0 t2_1 t2_2 t2_3 t7 t10 t60 (t58.getD t60.toNat (Ty.dflt YWatchRule)).1 (t58.getD t60.toNat (Ty.dflt YWatchRule)).2.1 (t58.getD t60.toNat (Ty.dflt YWatchRule)).2.2.1 (t58.getD t60.toNat (Ty.dflt YWatchRule)).2.2.2.1 (t58.getD t60.toNat (Ty.dflt YWatchRule)).2.2.2.2 t58 t59 t60))
   else none)
  else none)
 else
 monitor_Never.c1 n t2_0 t2_1 t2_2 t2_3 t7 t10 t11) := by kernel_rfl
theorem monitor_Never.c3_eq (n : Nat) (t10 : (List Bool)) (t16 : (List (List UInt8))) (t95 : (List DWatchRule)) (t96 : Int) (t97 : Int) : monitor_Never.c3 (n + 1) t10 t16 t95 t96 t97 =
 (if (decide (t97 < t96)) = true then
 (if (0 : Int) ≤ t97 ∧ t97 < (t95.length : Int) then
  (if (0 : Int) ≤ t97 ∧ t97 < (t10.length : Int) then
   (if (!(t10.getD t97.toNat false)) = true then
    (if t16.length + 1 ≤ 1099511627776 then
     monitor_Never.c3 n t10 (t16 ++ [(t95.getD t97.toNat (Ty.dflt YWatchRule)).1]) t95 t96 (IntKind.wrap .i64 (t97 + 1))
     else none)
    else
    monitor_Never.c3 n t10 t16 t95 t96 (IntKind.wrap .i64 (t97 + 1)))
   else none)
  else none)
 else
 some (t16, (0, ()))) := by kernel_rfl
theorem monitor_Never.c4_eq (n : Nat) (t2_0 : (List (List UInt8))) (t2_1 : (List DModeChange)) (t2_2 : List UInt8) (t2_3 : (List DWatchRule)) (t7 : (List (List UInt8 × Bool))) (t10 : (List Bool)) (t12 : Int) (t13_0 : List UInt8) (t13_1 : List UInt8) (t13_2 : List UInt8) (t13_3 : Bool) (t13_4 : (List DAct)) (t58 : (List DWatchRule)) (t59 : Int) (t60 : Int) : monitor_Never.c4 (n + 1) t2_0 t2_1 t2_2 t2_3 t7 t10 t12 t13_0 t13_1 t13_2 t13_3 t13_4 t58 t59 t60 =
 (if (0 : Int) ≤ t12 ∧ t12 < (t10.length : Int) then
 monitor_Never.c5 n t2_0 t2_1 t2_2 t2_3 t7 (t10.set t12.toNat true) true t58 t59 t60 t13_4 (t13_4.length : Int) 0
 else none) := by kernel_rfl
theorem monitor_Never.c5_eq (n : Nat) (t2_0 : (List (List UInt8))) (t2_1 : (List DModeChange)) (t2_2 : List UInt8) (t2_3 : (List DWatchRule)) (t7 : (List (List UInt8 × Bool))) (t10 : (List Bool)) (t11 : Bool) (t58 : (List DWatchRule)) (t59 : Int) (t60 : Int) (t80 : (List DAct)) (t81 : Int) (t82 : Int) : monitor_Never.c5 (n + 1) t2_0 t2_1 t2_2 t2_3 t7 t10 t11 t58 t59 t60 t80 t81 t82 =
 (if (decide (t82 < t81)) = true then
 (if (0 : Int) ≤ t82 ∧ t82 < (t80.length : Int) then
  (if (decide ((t80.getD t82.toNat (Ty.dflt YAct)).1 = 1)) = true then
   monitor_Never.c5 n t2_0 t2_1 t2_2 t2_3 (mapPut .str .bool (t80.getD t82.toNat (Ty.dflt YAct)).2.1 true t7) t10 t11 t58 t59 t60 t80 t81 (IntKind.wrap .i64 (t82 + 1))
   else
   monitor_Never.c5 n t2_0 t2_1 t2_2 t2_3 t7 t10 t11 t58 t59 t60 t80 t81 (IntKind.wrap .i64 (t82 + 1)))
  else none)
 else
 monitor_Never.c2 n t2_0 t2_1 t2_2 t2_3 t7 t10 t11 t58 t59 (IntKind.wrap .i64 (t60 + 1))) := by kernel_rfl
noncomputable def monitor_Never.E (n : Nat) : FunE := fnE tab monitor_Never.T monitor_Never.ann Try.f25 monitor_Never.ins monitor_Never.outs n

noncomputable def perigeeref8_Never.T : Nat → Nat → Option FunE := fun n => ofL none [(20, some (perigeeref8_CheckWatch.E n)), (53, some (perigeeref8_IsName.E n)), (55, some (perigeeref8_has.E n))]
noncomputable def perigeeref8_Never.ann : Nat → Option (List Keep) := ofL none [(7, some [.slot 1, .obj 2 YWatch, .slot 7]), (17, some [.obj 2 YWatch, .vec 8 .str, .vec 9 .bool, .slot 10]), (20, some [.obj 2 YWatch, .vec 8 .str, .vec 9 .bool, .slot 10, .slot 11]), (23, some [.obj 2 YWatch, .vec 8 .str, .vec 9 .bool, .slot 10, .slot 11]), (25, some [.obj 2 YWatch, .vec 8 .str, .vec 9 .bool, .slot 10, .slot 11, .slot 12]), (32, some [.obj 2 YWatch, .vec 9 .bool, .vec 14 .str, .slot 15])]
noncomputable def perigeeref8_Never.ins : List (Bool × Ty) := [(false, YWatch), (false, (.sl .str))]
def perigeeref8_Never.outs : List Ty := [(.sl .str), (.int .i64)]
noncomputable def perigeeref8_Never.c0 (n : Nat) (t1 : (List (List UInt8))) (t2_0 : (List (List UInt8))) (t2_1 : (List DModeChange)) (t2_2 : List UInt8) (t2_3 : (List DWatchRule)) (t7 : Int) : Option ((List (List UInt8)) × Int × Unit) := cutN tab perigeeref8_Never.T perigeeref8_Never.ann Try.f26 perigeeref8_Never.ins perigeeref8_Never.outs n [1, 1, 1, 0, 1, 0] [(1, .val false [.v (.sl .str) t1]), (2, .val false [.ptr 1000002 0]), (7, .val false [.v (.int .i64) t7])] [(1000002, .live (.cells 0 [.v (.sl .str) t2_0, .v (.sl YModeChange) t2_1, .v .str t2_2, .v (.sl YWatchRule) t2_3]))]
noncomputable def perigeeref8_Never.c1 (n : Nat) (t2_0 : (List (List UInt8))) (t2_1 : (List DModeChange)) (t2_2 : List UInt8) (t2_3 : (List DWatchRule)) (t8 : (List (List UInt8))) (t9 : (List Bool)) (t10 : Int) : Option ((List (List UInt8)) × Int × Unit) := cutN tab perigeeref8_Never.T perigeeref8_Never.ann Try.f26 perigeeref8_Never.ins perigeeref8_Never.outs n [1, 1, 1, 1, 1, 1, 1, 0, 1, 0] [(2, .val false [.ptr 1000002 0]), (8, .val false [.row 1000008]), (9, .val false [.row 1000009]), (10, .val false [.v (.int .i64) t10])] [(1000002, .live (.cells 0 [.v (.sl .str) t2_0, .v (.sl YModeChange) t2_1, .v .str t2_2, .v (.sl YWatchRule) t2_3])), (1000008, .live (.row .str t8)), (1000009, .live (.row .bool t9))]
theorem perigeeref8_Never.c0_eq (n : Nat) (t1 : (List (List UInt8))) (t2_0 : (List (List UInt8))) (t2_1 : (List DModeChange)) (t2_2 : List UInt8) (t2_3 : (List DWatchRule)) (t7 : Int) : perigeeref8_Never.c0 (n + 1) t1 t2_0 t2_1 t2_2 t2_3 t7 =
 (if (decide (t7 < (t1.length : Int))) = true then
 (if (0 : Int) ≤ t7 ∧ t7 < (t1.length : Int) then
  ((perigeeref8_IsName.f n (t1.getD t7.toNat [])).bind fun r2 =>
   (if (!r2.1) = true then
    some ([], (5, ()))
    else
    (if (decide (0 < t7)) = true then
     (if (0 : Int) ≤ t7 ∧ t7 < (t1.length : Int) then
      (if (0 : Int) ≤ (IntKind.wrap .i64 (t7 - 1)) ∧ (IntKind.wrap .i64 (t7 - 1)) < (t1.length : Int) then
       (if (!(lessS (t1.getD (IntKind.wrap .i64 (t7 - 1)).toNat []) (t1.getD t7.toNat []))) = true then
        some ([], (8, ()))
        else
        perigeeref8_Never.c0 n t1 t2_0 t2_1 t2_2 t2_3 (IntKind.wrap .i64 (t7 + 1)))
       else none)
      else none)
     else
     perigeeref8_Never.c0 n t1 t2_0 t2_1 t2_2 t2_3 (IntKind.wrap .i64 (t7 + 1)))))
  else none)
 else
 (if 0 + t1.length ≤ 1099511627776 then
  (if (0 : Int) ≤ (t2_3.length : Int) ∧ ((t2_3.length : Int) : Int) ≤ (t2_3.length : Int) ∧ ((t2_3.length : Int) : Int) ≤ 1099511627776 then
   perigeeref8_Never.c1 n t2_0 t2_1 t2_2 t2_3 t1 (List.replicate (t2_3.length : Int).toNat false) 0
   else none)
  else none)) := by kernel_rfl
noncomputable def cmp_isNaN_string.T : Nat → Nat → Option FunE := fun n => ofL none []
noncomputable def cmp_isNaN_string.ann : Nat → Option (List Keep) := ofL none []
noncomputable def cmp_isNaN_string.ins : List (Bool × Ty) := [(false, .str)]
def cmp_isNaN_string.outs : List Ty := [.bool]
noncomputable def cmp_isNaN_string.f (n : Nat) (x0 : List UInt8) : Option (Bool × Unit) := (fnE tab cmp_isNaN_string.T cmp_isNaN_string.ann Try.f84 cmp_isNaN_string.ins cmp_isNaN_string.outs n).f (x0, ())
theorem cmp_isNaN_string.f_eq (n : Nat) (x0 : List UInt8) : cmp_isNaN_string.f n x0 =
 some ((!(decide ((x0 : List UInt8) = x0))), ()) := by kernel_rfl
noncomputable def cmp_isNaN_string.E (n : Nat) : FunE := fnE tab cmp_isNaN_string.T cmp_isNaN_string.ann Try.f84 cmp_isNaN_string.ins cmp_isNaN_string.outs n

noncomputable def cmp_Less_string.T : Nat → Nat → Option FunE := fun n => ofL none [(84, some (cmp_isNaN_string.E n))]
noncomputable def cmp_Less_string.ann : Nat → Option (List Keep) := ofL none []
noncomputable def cmp_Less_string.ins : List (Bool × Ty) := [(false, .str), (false, .str)]
def cmp_Less_string.outs : List Ty := [.bool]
noncomputable def cmp_Less_string.f (n : Nat) (x0 : List UInt8) (y1 : List UInt8) : Option (Bool × Unit) := (fnE tab cmp_Less_string.T cmp_Less_string.ann Try.f65 cmp_Less_string.ins cmp_Less_string.outs n).f (x0, (y1, ()))
theorem cmp_Less_string.f_eq (n : Nat) (x0 : List UInt8) (y1 : List UInt8) : cmp_Less_string.f n x0 y1 =
 ((cmp_isNaN_string.f n x0).bind fun r1 =>
 (if r1.1 = true then
  ((cmp_isNaN_string.f n y1).bind fun r2 =>
   (if (!r2.1) = true then
    some (true, ())
    else
    some ((lessS x0 y1), ())))
  else
  some ((lessS x0 y1), ()))) := by kernel_rfl
noncomputable def cmp_Less_string.E (n : Nat) : FunE := fnE tab cmp_Less_string.T cmp_Less_string.ann Try.f65 cmp_Less_string.ins cmp_Less_string.outs n

noncomputable def slices_isNaN_string.T : Nat → Nat → Option FunE := fun n => ofL none []
noncomputable def slices_isNaN_string.ann : Nat → Option (List Keep) := ofL none []
noncomputable def slices_isNaN_string.ins : List (Bool × Ty) := [(false, .str)]
def slices_isNaN_string.outs : List Ty := [.bool]
noncomputable def slices_isNaN_string.f (n : Nat) (x0 : List UInt8) : Option (Bool × Unit) := (fnE tab slices_isNaN_string.T slices_isNaN_string.ann Try.f66 slices_isNaN_string.ins slices_isNaN_string.outs n).f (x0, ())
theorem slices_isNaN_string.f_eq (n : Nat) (x0 : List UInt8) : slices_isNaN_string.f n x0 =
 some ((!(decide ((x0 : List UInt8) = x0))), ()) := by kernel_rfl
noncomputable def slices_isNaN_string.E (n : Nat) : FunE := fnE tab slices_isNaN_string.T slices_isNaN_string.ann Try.f66 slices_isNaN_string.ins slices_isNaN_string.outs n

noncomputable def slices_BinarySearch_string.T : Nat → Nat → Option FunE := fun n => ofL none [(65, some (cmp_Less_string.E n)), (66, some (slices_isNaN_string.E n))]
noncomputable def slices_BinarySearch_string.ann : Nat → Option (List Keep) := ofL none [(3, some [.slot 0, .slot 1, .slot 6, .slot 7, .slot 8])]
noncomputable def slices_BinarySearch_string.ins : List (Bool × Ty) := [(false, (.sl .str)), (false, .str)]
def slices_BinarySearch_string.outs : List Ty := [(.int .i64), .bool]
noncomputable def slices_BinarySearch_string.f (n : Nat) (x0 : (List (List UInt8))) (target1 : List UInt8) : Option (Int × Bool × Unit) := (fnE tab slices_BinarySearch_string.T slices_BinarySearch_string.ann Try.f31 slices_BinarySearch_string.ins slices_BinarySearch_string.outs n).f (x0, (target1, ()))
noncomputable def slices_BinarySearch_string.c0 (n : Nat) (x0 : (List (List UInt8))) (target1 : List UInt8) (n6 : Int) (i7 : Int) (j8 : Int) : Option (Int × Bool × Unit) := cutN tab slices_BinarySearch_string.T slices_BinarySearch_string.ann Try.f31 slices_BinarySearch_string.ins slices_BinarySearch_string.outs n [1, 1, 1, 0, 0] [(0, .val false [.v (.sl .str) x0]), (1, .val false [.v .str target1]), (6, .val false [.v (.int .i64) n6]), (7, .val false [.v (.int .i64) i7]), (8, .val false [.v (.int .i64) j8])] []
theorem slices_BinarySearch_string.f_eq (n : Nat) (x0 : (List (List UInt8))) (target1 : List UInt8) : slices_BinarySearch_string.f n x0 target1 =
 slices_BinarySearch_string.c0 n x0 target1 (x0.length : Int) 0 (x0.length : Int) := by kernel_rfl
theorem slices_BinarySearch_string.c0_eq (n : Nat) (x0 : (List (List UInt8))) (target1 : List UInt8) (n6 : Int) (i7 : Int) (j8 : Int) : slices_BinarySearch_string.c0 (n + 1) x0 target1 n6 i7 j8 =
 (if (decide (i7 < j8)) = true then
 (if (0 : Int) ≤ (IntKind.wrap .i64 (shrI .u64 (IntKind.wrap .u64 (IntKind.wrap .i64 (i7 + j8))) 1)) ∧ (IntKind.wrap .i64 (shrI .u64 (IntKind.wrap .u64 (IntKind.wrap .i64 (i7 + j8))) 1)) < (x0.length : Int) then
  ((cmp_Less_string.f n (x0.getD (IntKind.wrap .i64 (shrI .u64 (IntKind.wrap .u64 (IntKind.wrap .i64 (i7 + j8))) 1)).toNat []) target1).bind fun r1 =>
   (if r1.1 = true then
    slices_BinarySearch_string.c0 n x0 target1 n6 (IntKind.wrap .i64 ((IntKind.wrap .i64 (shrI .u64 (IntKind.wrap .u64 (IntKind.wrap .i64 (i7 + j8))) 1)) + 1)) j8
    else
    slices_BinarySearch_string.c0 n x0 target1 n6 i7 (IntKind.wrap .i64 (shrI .u64 (IntKind.wrap .u64 (IntKind.wrap .i64 (i7 + j8))) 1))))
  else none)
 else
 (if (decide (i7 < n6)) = true then
  (if (0 : Int) ≤ i7 ∧ i7 < (x0.length : Int) then
   (if (decide (((x0.getD i7.toNat []) : List UInt8) = target1)) = true then
    some (i7, (true, ()))
    else
    (if (0 : Int) ≤ i7 ∧ i7 < (x0.length : Int) then
     ((slices_isNaN_string.f n (x0.getD i7.toNat [])).bind fun r2 =>
      (if r2.1 = true then
       ((slices_isNaN_string.f n target1).bind fun r3 =>
        some (i7, (r3.1, ())))
       else
       some (i7, (false, ()))))
     else none))
   else none)
  else
  some (i7, (false, ())))) := by kernel_rfl
noncomputable def slices_BinarySearch_string.E (n : Nat) : FunE := fnE tab slices_BinarySearch_string.T slices_BinarySearch_string.ann Try.f31 slices_BinarySearch_string.ins slices_BinarySearch_string.outs n

def insS (l : List (List UInt8)) (i : Int) (vs : List (List UInt8)) : Option (List (List UInt8) × Unit) :=
 if 0 ≤ i ∧ i ≤ l.length ∧ vs.length = 1 ∧ l.length + 1 ≤ 8796093022208 then some (l.take i.toNat ++ vs ++ l.drop i.toNat, ()) else none
noncomputable def slices_Insert_string.E (n : Nat) : FunE := { ins := [(false, .vec .str), (false, .int .i64), (false, .vec .str)], outs := [.vec .str], f := fun x => insS x.1 x.2.1 x.2.2.1 }
noncomputable def slices_Insert_string.f (n : Nat) (l : List (List UInt8)) (i : Int) (vs : List (List UInt8)) : Option (List (List UInt8) × Unit) := (slices_Insert_string.E n).f (l, (i, (vs, ())))

noncomputable def perigeelaw8_WatchesNeverFire.T : Nat → Nat → Option FunE := fun n => ofL none [(14, some (perigeelaw8_awake.E n)), (17, some (monitor_Play.E n)), (25, some (monitor_Never.E n)), (30, some (slices_Contains_string.E n)), (31, some (slices_BinarySearch_string.E n)), (32, some (slices_Insert_string.E n))]
noncomputable def perigeelaw8_WatchesNeverFire.ann : Nat → Option (List Keep) := ofL none [(3, some [.slot 1, .obj 2 YWatch, .vec 5 .str, .slot 6]), (15, some [.slot 9, .slot 11, .slot 12])]
noncomputable def perigeelaw8_WatchesNeverFire.ins : List (Bool × Ty) := [(false, YWatch), (false, (.sl YEvent))]
def perigeelaw8_WatchesNeverFire.outs : List Ty := [.bool]
noncomputable def perigeelaw8_WatchesNeverFire.f (n : Nat) (t0 : DWatch) (t1 : (List DEvent)) : Option (Bool × Unit) := (fnE tab perigeelaw8_WatchesNeverFire.T perigeelaw8_WatchesNeverFire.ann Try.f8 perigeelaw8_WatchesNeverFire.ins perigeelaw8_WatchesNeverFire.outs n).f (t0, (t1, ()))
noncomputable def perigeelaw8_WatchesNeverFire.c0 (n : Nat) (t1 : (List DEvent)) (t2_0 : (List (List UInt8))) (t2_1 : (List DModeChange)) (t2_2 : List UInt8) (t2_3 : (List DWatchRule)) (t5 : (List (List UInt8))) (t6 : Int) : Option (Bool × Unit) := cutN tab perigeelaw8_WatchesNeverFire.T perigeelaw8_WatchesNeverFire.ann Try.f8 perigeelaw8_WatchesNeverFire.ins perigeelaw8_WatchesNeverFire.outs n [1, 1, 0, 1, 0] [(1, .val false [.v (.sl YEvent) t1]), (2, .val false [.ptr 1000002 0]), (5, .val false [.row 1000005]), (6, .val false [.v (.int .i64) t6])] [(1000002, .live (.cells 0 [.v (.sl .str) t2_0, .v (.sl YModeChange) t2_1, .v .str t2_2, .v (.sl YWatchRule) t2_3])), (1000005, .live (.row .str t5))]
noncomputable def perigeelaw8_WatchesNeverFire.c1 (n : Nat) (t9 : (List (List UInt8))) (t11 : (List DFired)) (t12 : Int) : Option (Bool × Unit) := cutN tab perigeelaw8_WatchesNeverFire.T perigeelaw8_WatchesNeverFire.ann Try.f8 perigeelaw8_WatchesNeverFire.ins perigeelaw8_WatchesNeverFire.outs n [1, 1, 1, 1, 1, 1, 1, 0, 1, 0] [(9, .val false [.v (.sl .str) t9]), (11, .val false [.v (.sl YFired) t11]), (12, .val false [.v (.int .i64) t12])] []
theorem perigeelaw8_WatchesNeverFire.f_eq (n : Nat) (t0 : DWatch) (t1 : (List DEvent)) : perigeelaw8_WatchesNeverFire.f n t0 t1 =
 perigeelaw8_WatchesNeverFire.c0 n t1 t0.1 t0.2.1 t0.2.2.1 t0.2.2.2 [] 0 := by kernel_rfl
theorem perigeelaw8_WatchesNeverFire.c0_eq (n : Nat) (t1 : (List DEvent)) (t2_0 : (List (List UInt8))) (t2_1 : (List DModeChange)) (t2_2 : List UInt8) (t2_3 : (List DWatchRule)) (t5 : (List (List UInt8))) (t6 : Int) : perigeelaw8_WatchesNeverFire.c0 (n + 1) t1 t2_0 t2_1 t2_2 t2_3 t5 t6 =
 (if (decide (t6 < (t1.length : Int))) = true then
 (if (0 : Int) ≤ t6 ∧ t6 < (t1.length : Int) then
  ((slices_BinarySearch_string.f n t5 (t1.getD t6.toNat (Ty.dflt YEvent)).2).bind fun r1 =>
   (if (!r1.2.1) = true then
    (if (0 : Int) ≤ t6 ∧ t6 < (t1.length : Int) then
     ((slices_Insert_string.f n t5 r1.1 [(t1.getD t6.toNat (Ty.dflt YEvent)).2]).bind fun r2 =>
      perigeelaw8_WatchesNeverFire.c0 n t1 t2_0 t2_1 t2_2 t2_3 r2.1 (IntKind.wrap .i64 (t6 + 1)))
     else none)
    else
    perigeelaw8_WatchesNeverFire.c0 n t1 t2_0 t2_1 t2_2 t2_3 t5 (IntKind.wrap .i64 (t6 + 1))))
  else none)
 else
 ((monitor_Never.f n (t2_0, (t2_1, (t2_2, t2_3))) t5).bind fun r3 =>
  (if (!(decide (r3.2.1 = 0))) = true then
   (if (decide ((r3.1.length : Int) = 0)) = true then
    ((perigeelaw8_awake.f n).bind fun r4 =>
     some (r4.1, ()))
    else
    some (false, ()))
   else
   ((monitor_Play.f n (t2_0, (t2_1, (t2_2, t2_3))) t1).bind fun r5 =>
    (if (!(decide (r5.2.1 = 0))) = true then
     (if (decide ((r5.1.length : Int) = 0)) = true then
      ((perigeelaw8_awake.f n).bind fun r6 =>
       some (r6.1, ()))
      else
      some (false, ()))
     else
     perigeelaw8_WatchesNeverFire.c1 n r3.1 r5.1 0))))) := by kernel_rfl
theorem perigeelaw8_WatchesNeverFire.c1_eq (n : Nat) (t9 : (List (List UInt8))) (t11 : (List DFired)) (t12 : Int) : perigeelaw8_WatchesNeverFire.c1 (n + 1) t9 t11 t12 =
 (if (decide (t12 < (t11.length : Int))) = true then
 (if (0 : Int) ≤ t12 ∧ t12 < (t11.length : Int) then
  (if (!(decide (((t11.getD t12.toNat (Ty.dflt YFired)).2.2.2 : List UInt8) = []))) = true then
   (if (0 : Int) ≤ t12 ∧ t12 < (t11.length : Int) then
    ((slices_Contains_string.f n t9 (t11.getD t12.toNat (Ty.dflt YFired)).2.2.2).bind fun r7 =>
     (if r7.1 = true then
      some (false, ())
      else
      perigeelaw8_WatchesNeverFire.c1 n t9 t11 (IntKind.wrap .i64 (t12 + 1))))
    else none)
   else
   perigeelaw8_WatchesNeverFire.c1 n t9 t11 (IntKind.wrap .i64 (t12 + 1)))
  else none)
 else
 ((perigeelaw8_awake.f n).bind fun r8 =>
  some (r8.1, ()))) := by kernel_rfl
noncomputable def perigeelaw8_WatchesNeverFire.E (n : Nat) : FunE := fnE tab perigeelaw8_WatchesNeverFire.T perigeelaw8_WatchesNeverFire.ann Try.f8 perigeelaw8_WatchesNeverFire.ins perigeelaw8_WatchesNeverFire.outs n

end Go.Proofs.Ytadhpgecilhgnaa.A

-- YtadhpgecilhgnaaRep
set_option linter.unusedVariables false
set_option linter.unusedSimpArgs false
namespace Go.Proofs.Ytadhpgecilhgnaa.A
open Go

def big : Nat := 4611686018427387904
def RepL {α : Type} (R : α → List Value → List Nat → Prop) : List α → List Value → List Nat → Prop
 | [], cs, F => cs = [] ∧ F = []
 | x :: xs, cs, F => ∃ c1 c2 F1 F2, cs = c1 ++ c2 ∧ F = F1 ++ F2 ∧ R x c1 F1 ∧ RepL R xs c2 F2

def OwnRow (w : World) (sz : Nat) (n : Nat) (a : Option Addr) (cap : Nat) (c : List Value) (F : List Nat) : Prop :=
 (a = none ∧ cap = 0 ∧ n = 0 ∧ F = []) ∨
 ∃ b o blk el, a = some ⟨b, o, none⟩ ∧ w.heap[b]? = some (.cells blk el (0, 0)) ∧ o + cap * sz ≤ blk.size ∧ (∀ (j : Nat) (u : Value), c[j]? = some u → blk[o + j]? = some u) ∧ F = [b]

def RepM {α β : Type} (R : α → List Value → List Nat → Prop) (S : β → List Value → List Nat → Prop) (gk gv : Bool) : List (α × β) → List MapEntry → Prop
 | [], es => es = []
 | p :: m, es => ∃ e es', es = e :: es' ∧ (∃ kc, (if gk then e.key = .agg kc.toArray else [e.key] = kc) ∧ R p.1 kc []) ∧ (∃ vc, (if gv then e.val = .agg vc.toArray else [e.val] = vc) ∧ S p.2 vc []) ∧ RepM R S gk gv m es'

def RepMF {α β : Type} (T : α → β → Value → List Nat → Prop) (R : α → Value → Prop) : List (α × β) → List MapEntry → List Nat → Prop
 | [], es, F => es = [] ∧ F = []
 | p :: m, es, F => ∃ e es' F1 F2, es = e :: es' ∧ F = F1 ++ F2 ∧ R p.1 e.key ∧ T p.1 p.2 e.val F1 ∧ RepMF T R m es' F2
def RepMH {α β : Type} (q : α → Bool) (ov : Option Value) (T : α → β → Value → List Nat → Prop) (R : α → Value → Prop) : List (α × β) → List MapEntry → List Nat → Prop
 | [], es, F => es = [] ∧ F = []
 | p :: m, es, F => match q p.1 with
  | true => ∃ e es', es = e :: es' ∧ R p.1 e.key ∧ (∀ u, ov = some u → e.val = u) ∧ RepMF T R m es' F
  | false => ∃ e es' F1 F2, es = e :: es' ∧ F = F1 ++ F2 ∧ R p.1 e.key ∧ T p.1 p.2 e.val F1 ∧ RepMH q ov T R m es' F2
section
variable {α β : Type} {T T' : α → β → Value → List Nat → Prop} {R R' : α → Value → Prop}
theorem RepMF.mono_F {G : List Nat} (hR : ∀ x v, R x v → R' x v) (hT : ∀ x y v F, T x y v F → (∀ b ∈ F, b ∈ G) → T' x y v F) : ∀ {m : List (α × β)} {es : List MapEntry} {F : List Nat}, (∀ b ∈ F, b ∈ G) → RepMF T R m es F → RepMF T' R' m es F
 | [], _, _, _, h => h
 | _ :: _, _, _, hF, ⟨e, es', F1, F2, h1, h2, h3, h4, h5⟩ => ⟨e, es', F1, F2, h1, h2, hR _ _ h3, hT _ _ _ _ h4 fun b hb => hF b (by rw [h2]; simp [hb]), RepMF.mono_F hR hT (fun b hb => hF b (by rw [h2]; simp [hb])) h5⟩
theorem RepMH.mono_F {q : α → Bool} {ov : Option Value} {G : List Nat} (hR : ∀ x v, R x v → R' x v) (hT : ∀ x y v F, T x y v F → (∀ b ∈ F, b ∈ G) → T' x y v F) : ∀ {m : List (α × β)} {es : List MapEntry} {F : List Nat}, (∀ b ∈ F, b ∈ G) → RepMH q ov T R m es F → RepMH q ov T' R' m es F
 | [], _, _, _, h => h
 | p :: m, es, F, hF, h => by
  unfold RepMH at h ⊢
  split
  ·rename_i hq
   rw [hq] at h
   obtain ⟨e, es', h1, h2, h3, h4⟩ := h
   exact ⟨e, es', h1, hR _ _ h2, h3, h4.mono_F hR hT hF⟩
  ·rename_i hq
   rw [hq] at h
   obtain ⟨e, es', F1, F2, h1, h2, h3, h4, h5⟩ := h
   exact ⟨e, es', F1, F2, h1, h2, hR _ _ h3, hT _ _ _ _ h4 fun b hb => hF b (by rw [h2]; simp [hb]), RepMH.mono_F hR hT (fun b hb => hF b (by rw [h2]; simp [hb])) h5⟩
theorem RepMF.append : ∀ {m m' : List (α × β)} {es es' : List MapEntry} {F F' : List Nat}, RepMF T R m es F → RepMF T R m' es' F' → RepMF T R (m ++ m') (es ++ es') (F ++ F')
 | [], _, _, _, _, _, ⟨h1, h2⟩, h => by subst h1; subst h2; exact h
 | _ :: _, _, _, _, _, _, ⟨e, es', F1, F2, h1, h2, h3, h4, h5⟩, h => ⟨e, _, F1, _, by rw [h1]; rfl, by rw [h2, List.append_assoc], h3, h4, RepMF.append h5 h⟩
theorem RepMF.split : ∀ {m m' : List (α × β)} {es : List MapEntry} {F : List Nat}, RepMF T R (m ++ m') es F → ∃ e1 e2 F1 F2, es = e1 ++ e2 ∧ F = F1 ++ F2 ∧ RepMF T R m e1 F1 ∧ RepMF T R m' e2 F2 ∧ e1.length = m.length
 | [], _, es, F, h => ⟨[], es, [], F, rfl, rfl, ⟨rfl, rfl⟩, h, rfl⟩
 | p :: m, m', _, _, ⟨e, es', F1, F2, h1, h2, h3, h4, h5⟩ => by
  obtain ⟨a, b, Fa, Fb, q1, q2, q3, q4, q5⟩ := RepMF.split (m := m) h5
  exact ⟨e :: a, b, F1 ++ Fa, Fb, by rw [h1, q1]; rfl, by rw [h2, q2, List.append_assoc], ⟨e, a, F1, Fa, rfl, rfl, h3, h4, q3⟩, q4, by simp [q5]⟩
theorem RepMH.of {q : α → Bool} {ov : Option Value} {p : α × β} {m' : List (α × β)} {e : MapEntry} {es' : List MapEntry} {F' : List Nat} (hq : q p.1 = true) (hk : R p.1 e.key) (hv : ∀ u, ov = some u → e.val = u) (h' : RepMF T R m' es' F') : ∀ {m : List (α × β)} {es : List MapEntry} {F : List Nat}, (∀ x ∈ m, q x.1 = false) → RepMF T R m es F → RepMH q ov T R (m ++ p :: m') (es ++ e :: es') (F ++ F')
 | [], _, _, _, ⟨h1, h2⟩ => by
  subst h1; subst h2
  unfold RepMH
  simp only [List.nil_append]
  rw [hq]
  exact ⟨e, es', rfl, hk, hv, h'⟩
 | x :: m, _, _, hn, ⟨e1, es1, F1, F2, h1, h2, h3, h4, h5⟩ => by
  have ih := RepMH.of hq hk hv h' (fun y hy => hn y (by simp [hy])) h5
  show RepMH q ov T R (x :: (m ++ p :: m')) _ _
  unfold RepMH
  rw [hn x (by simp)]
  exact ⟨e1, es1 ++ e :: es', F1, F2 ++ F', by rw [h1]; rfl, by rw [h2, List.append_assoc], h3, h4, ih⟩
theorem RepMH.none {q : α → Bool} {ov : Option Value} : ∀ {m : List (α × β)} {es : List MapEntry} {F : List Nat}, (∀ x ∈ m, q x.1 = false) → (RepMH q ov T R m es F ↔ RepMF T R m es F)
 | [], _, _, _ => Iff.rfl
 | x :: m, es, F, hn => by
  have ih := fun {es F} => RepMH.none (q := q) (ov := ov) (es := es) (F := F) (fun y hy => hn y (by simp [hy]) : ∀ y ∈ m, q y.1 = false)
  unfold RepMH RepMF
  rw [hn x (by simp)]
  constructor
  ·rintro ⟨e, es', F1, F2, h1, h2, h3, h4, h5⟩
   exact ⟨e, es', F1, F2, h1, h2, h3, h4, ih.1 h5⟩
  ·rintro ⟨e, es', F1, F2, h1, h2, h3, h4, h5⟩
   exact ⟨e, es', F1, F2, h1, h2, h3, h4, ih.2 h5⟩
theorem RepMH.to {q : α → Bool} {ov : Option Value} {p : α × β} {m' : List (α × β)} (hq : q p.1 = true) : ∀ {m : List (α × β)} {es : List MapEntry} {F : List Nat}, (∀ x ∈ m, q x.1 = false) → RepMH q ov T R (m ++ p :: m') es F →
 ∃ e1 e e2 F1 F2, es = e1 ++ e :: e2 ∧ F = F1 ++ F2 ∧ RepMF T R m e1 F1 ∧ R p.1 e.key ∧ (∀ u, ov = some u → e.val = u) ∧ RepMF T R m' e2 F2
 | [], es, F, _, h => by
  simp only [List.nil_append] at h
  unfold RepMH at h
  rw [hq] at h
  obtain ⟨e, es', h1, h2, h3, h4⟩ := h
  exact ⟨[], e, es', [], F, h1, rfl, ⟨rfl, rfl⟩, h2, h3, h4⟩
 | x :: m, es, F, hn, h => by
  have h : RepMH q ov T R (x :: (m ++ p :: m')) es F := h
  unfold RepMH at h
  rw [hn x (by simp)] at h
  obtain ⟨e0, es', F1, F2, h1, h2, h3, h4, h5⟩ := h
  obtain ⟨e1, e, e2, G1, G2, q1, q2, q3, q4, q5, q6⟩ := RepMH.to hq (fun y hy => hn y (by simp [hy])) h5
  exact ⟨e0 :: e1, e, e2, F1 ++ G1, G2, by rw [h1, q1]; rfl, by rw [h2, q2, List.append_assoc], ⟨e0, e1, F1, G1, rfl, rfl, h3, h4, q3⟩, q4, q5, q6⟩
end
def VIs (gv : Bool) (v : Value) (vc : List Value) : Prop := if gv then v = .agg vc.toArray else [v] = vc
def Born (es : List MapEntry) (clock : Nat) : Prop := (es.map (·.born)).Nodup ∧ ∀ e ∈ es, e.born < clock

def Rep (Z : Nat → Prop) (w : World) : (τ : Ty) → τ.den → List Value → List Nat → Prop
 | .unit, _, cs, F => cs = [] ∧ F = []
 | .bool, b, cs, F => cs = [.bool b] ∧ F = []
 | .int k, n, cs, F => cs = [.int k n] ∧ F = [] ∧ k.min ≤ n ∧ n ≤ k.max
 | .str, l, cs, F => cs = [.string ⟨⟨l⟩⟩] ∧ F = [] ∧ l.length ≤ big
 | .fnv f, _, cs, F => cs = [.func (.func f) #[] #[]] ∧ F = []
 | .nil, _, cs, F => cs = [.slice none 0 0] ∧ F = []
 | .ptr _, none, cs, F => cs = [.pointer none] ∧ F = []
 | .ptr e, some y, cs, F => ∃ b el c F', cs = [.pointer (some ⟨b, 0, none⟩)] ∧ F = b :: F' ∧ w.heap[b]? = some (.cells c.toArray el (0, 0)) ∧ Rep Z w e y c F'
 | .pair a b, x, cs, F => ∃ c1 c2 F1 F2, cs = c1 ++ c2 ∧ F = F1 ++ F2 ∧ Rep Z w a x.1 c1 F1 ∧ Rep Z w b x.2 c2 F2
 | .sl e, xs, cs, F => F = [] ∧ xs.length ≤ big ∧ ∃ a cap, cs = [.slice a xs.length cap] ∧ xs.length ≤ cap ∧
  (xs = [] ∨ ∃ b o c, a = some ⟨b, o, none⟩ ∧ Z b ∧ RepL (fun x c F => Rep Z w e x c F) xs c [] ∧ ∀ (j : Nat) (u : Value), c[j]? = some u → w.cell? ⟨b, o + j, none⟩ = some u)
 | .nsl e, xs, cs, F => (xs = [] → cs = [.slice none 0 0]) ∧ F = [] ∧ xs.length ≤ big ∧ ∃ a cap, cs = [.slice a xs.length cap] ∧ xs.length ≤ cap ∧
  (xs = [] ∨ ∃ b o c, a = some ⟨b, o, none⟩ ∧ Z b ∧ RepL (fun x c F => Rep Z w e x c F) xs c [] ∧ ∀ (j : Nat) (u : Value), c[j]? = some u → w.cell? ⟨b, o + j, none⟩ = some u)
 | .vec e, xs, cs, F => xs.length ≤ 8796093022208 ∧ ∃ a cap c F1 F2, cs = [.slice a xs.length cap] ∧ xs.length ≤ cap ∧ F = F1 ++ F2 ∧
  RepL (fun x c F => Rep Z w e x c F) xs c F2 ∧ OwnRow w e.cells xs.length a cap c F1
 | .map k e, m, cs, F => ∃ b ents clock, cs = [.map (some b)] ∧ F = [b] ∧ w.heap[b]? = some (.map ents clock) ∧ Born ents.toList clock ∧
  RepM (fun x c F => Rep Z w k x c F) (fun x c F => Rep Z w e x c F) (!k.one) (!e.one) m ents.toList
 | .fmap k e, m, cs, F => F = [] ∧ ∃ b ents clock, cs = [.map (some b)] ∧ Z b ∧ w.heap[b]? = some (.map ents clock) ∧ Born ents.toList clock ∧
  RepM (fun x c F => Rep Z w k x c F) (fun x c F => Rep Z w e x c F) (!k.one) (!e.one) m ents.toList
 | .mapb k e, m, cs, F => ∃ b ents clock F', cs = [.map (some b)] ∧ F = b :: F' ∧ w.heap[b]? = some (.map ents clock) ∧ Born ents.toList clock ∧
  RepMF (fun x y v F => ∃ vc, VIs (!e.one) v vc ∧ Rep Z w e y vc F) (fun x v => ∃ kc, VIs (!k.one) v kc ∧ Rep Z w k x kc []) m ents.toList F'

section
variable {α : Type} {R S : α → List Value → List Nat → Prop}
theorem RepL.mono (h : ∀ x c F, R x c F → S x c F) : ∀ {xs : List α} {cs : List Value} {F : List Nat}, RepL R xs cs F → RepL S xs cs F
 | [], _, _, hh => hh
 | _ :: _, _, _, ⟨c1, c2, F1, F2, h1, h2, h3, h4⟩ => ⟨c1, c2, F1, F2, h1, h2, h _ _ _ h3, RepL.mono h h4⟩
theorem RepL.mono_F {G : List Nat} (h : ∀ x c F', R x c F' → (∀ b ∈ F', b ∈ G) → S x c F') : ∀ {xs : List α} {cs : List Value} {F : List Nat}, (∀ b ∈ F, b ∈ G) → RepL R xs cs F → RepL S xs cs F
 | [], _, _, _, hh => hh
 | _ :: _, _, _, hF, ⟨c1, c2, F1, F2, h1, h2, h3, h4⟩ => ⟨c1, c2, F1, F2, h1, h2, h _ _ _ h3 (fun b hb => hF b (by rw [h2]; simp [hb])), RepL.mono_F h (fun b hb => hF b (by rw [h2]; simp [hb])) h4⟩
theorem RepL.append : ∀ {xs ys : List α} {c d : List Value} {F G : List Nat}, RepL R xs c F → RepL R ys d G → RepL R (xs ++ ys) (c ++ d) (F ++ G)
 | [], _, _, _, _, _, ⟨h1, h2⟩, hh => by subst h1; subst h2; exact hh
 | _ :: _, _, _, _, _, _, ⟨c1, c2, F1, F2, h1, h2, h3, h4⟩, hh => ⟨c1, _, F1, _, by rw [h1, List.append_assoc], by rw [h2, List.append_assoc], h3, RepL.append h4 hh⟩
theorem RepL.len {sz : Nat} (h : ∀ x c F, R x c F → c.length = sz) : ∀ {xs : List α} {cs : List Value} {F : List Nat}, RepL R xs cs F → cs.length = xs.length * sz
 | [], _, _, ⟨h1, _⟩ => by subst h1; simp
 | _ :: xs, _, _, ⟨c1, c2, F1, F2, h1, h2, h3, h4⟩ => by
  rw [h1, List.length_append, h _ _ _ h3, RepL.len h h4, List.length_cons, Nat.succ_mul, Nat.add_comm]
theorem RepL.at {sz : Nat} (h : ∀ x c F, R x c F → c.length = sz) : ∀ {xs : List α} {cs : List Value} {F : List Nat}, RepL R xs cs F → ∀ (i : Nat) (x : α), xs[i]? = some x →
 ∃ c G, R x c G ∧ (∀ b ∈ G, b ∈ F) ∧ (cs.drop (i * sz)).take sz = c
 | [], _, _, _, i, x, hx => by simp at hx
 | y :: xs, _, _, ⟨c1, c2, F1, F2, h1, h2, h3, h4⟩, i, x, hx => by
  have l1 := h _ _ _ h3
  cases i with
  | zero =>
   simp at hx; subst hx
   exact ⟨c1, F1, h3, fun b hb => by rw [h2]; simp [hb], by rw [h1]; simp [← l1]⟩
  | succ i =>
   simp at hx
   obtain ⟨c, G, g1, g2, g3⟩ := RepL.at h h4 i x hx
   refine ⟨c, G, g1, fun b hb => by rw [h2]; simp [g2 b hb], ?_⟩
   rw [h1, Nat.succ_mul, Nat.add_comm, ← List.drop_drop, ← l1, List.drop_left]
   rw [l1]; exact g3
theorem RepL.take {sz : Nat} (h : ∀ x c F, R x c F → c.length = sz ∧ F = []) : ∀ {xs : List α} {cs : List Value} (n : Nat), RepL R xs cs [] → RepL R (xs.take n) (cs.take (n * sz)) []
 | [], _, n, ⟨h1, _⟩ => by subst h1; simp [RepL]
 | x :: xs, _, 0, _ => by simp [RepL]
 | x :: xs, cs, n + 1, ⟨c1, c2, F1, F2, h1, h2, h3, h4⟩ => by
  obtain ⟨l1, rfl⟩ := h _ _ _ h3
  have : F2 = [] := by simpa using h2.symm
  subst this
  refine ⟨c1, c2.take (n * sz), [], [], ?_, rfl, h3, RepL.take h n h4⟩
  rw [h1, Nat.succ_mul, Nat.add_comm, ← l1, List.take_length_add_append, l1]
theorem RepL.drop {sz : Nat} (h : ∀ x c F, R x c F → c.length = sz ∧ F = []) : ∀ {xs : List α} {cs : List Value} (n : Nat), RepL R xs cs [] → RepL R (xs.drop n) (cs.drop (n * sz)) []
 | [], _, n, ⟨h1, _⟩ => by subst h1; simp [RepL]
 | x :: xs, cs, 0, hh => by simpa using hh
 | x :: xs, cs, n + 1, ⟨c1, c2, F1, F2, h1, h2, h3, h4⟩ => by
  obtain ⟨l1, rfl⟩ := h _ _ _ h3
  have : F2 = [] := by simpa using h2.symm
  subst this
  have := RepL.drop h n h4
  have e : (c1 ++ c2).drop ((n + 1) * sz) = c2.drop (n * sz) := by
   rw [Nat.succ_mul, Nat.add_comm (n * sz), ← l1, ← List.drop_drop, List.drop_left]
  rw [h1, e]
  simpa using this
theorem RepL.dropF {sz : Nat} (h : ∀ x c F, R x c F → c.length = sz) : ∀ {xs : List α} {cs : List Value} {F : List Nat} (n : Nat), RepL R xs cs F → ∃ F', RepL R (xs.drop n) (cs.drop (n * sz)) F'
 | [], _, F, n, ⟨h1, h2⟩ => by subst h1; exact ⟨[], by simp [RepL]⟩
 | x :: xs, cs, F, 0, hh => ⟨F, by simpa using hh⟩
 | x :: xs, cs, F, n + 1, ⟨c1, c2, F1, F2, h1, h2, h3, h4⟩ => by
  have l1 := h _ _ _ h3
  obtain ⟨F', r⟩ := RepL.dropF h n h4
  refine ⟨F', ?_⟩
  have e : (c1 ++ c2).drop ((n + 1) * sz) = c2.drop (n * sz) := by
   rw [Nat.succ_mul, Nat.add_comm (n * sz), ← l1, ← List.drop_drop, List.drop_left]
  rw [h1, e]
  simpa using r
theorem RepL.set {sz : Nat} (h : ∀ x c F, R x c F → c.length = sz ∧ F = []) (y : α) (d : List Value) (hy : R y d []) : ∀ {xs : List α} {cs : List Value} (i : Nat), i < xs.length → RepL R xs cs [] →
 RepL R (xs.set i y) (cs.take (i * sz) ++ d ++ cs.drop (i * sz + sz)) []
 | [], _, i, hi, _ => by simp at hi
 | x :: xs, cs, 0, _, ⟨c1, c2, F1, F2, h1, h2, h3, h4⟩ => by
  obtain ⟨l1, rfl⟩ := h _ _ _ h3
  have : F2 = [] := by simpa using h2.symm
  subst this
  refine ⟨d, c2, [], [], ?_, rfl, hy, h4⟩
  rw [h1, ← l1]; simp
 | x :: xs, cs, i + 1, hi, ⟨c1, c2, F1, F2, h1, h2, h3, h4⟩ => by
  obtain ⟨l1, rfl⟩ := h _ _ _ h3
  have : F2 = [] := by simpa using h2.symm
  subst this
  have ih := RepL.set h y d hy i (by simpa using hi) h4
  refine ⟨c1, _, [], [], ?_, rfl, h3, ih⟩
  have e1 : (c1 ++ c2).take ((i + 1) * sz) = c1 ++ c2.take (i * sz) := by
   rw [Nat.succ_mul, Nat.add_comm (i * sz), ← l1, List.take_length_add_append]
  have e2 : (c1 ++ c2).drop ((i + 1) * sz + sz) = c2.drop (i * sz + sz) := by
   rw [Nat.succ_mul, show i * sz + sz + sz = c1.length + (i * sz + sz) by omega, ← List.drop_drop, List.drop_left]
  rw [h1, e1, e2]
  simp
theorem RepL.replicate {x : α} {c : List Value} (h : R x c []) : ∀ n, RepL R (List.replicate n x) (List.replicate n c).flatten []
 | 0 => by simp [RepL]
 | n + 1 => ⟨c, _, [], [], by simp [List.replicate_succ], rfl, h, RepL.replicate h n⟩
end

theorem Rep.len {Z : Nat → Prop} {w : World} : ∀ {τ : Ty} {x : τ.den} {cs : List Value} {F : List Nat}, Rep Z w τ x cs F → cs.length = τ.cells := by
 intro τ
 induction τ with
 | unit => intro x cs F h; rw [h.1]; rfl
 | bool => intro x cs F h; rw [h.1]; rfl
 | int k => intro x cs F h; rw [h.1]; rfl
 | str => intro x cs F h; rw [h.1]; rfl
 | fnv f => intro x cs F h; rw [h.1]; rfl
 | nil => intro x cs F h; rw [h.1]; rfl
 | ptr e _ =>
  intro x cs F h
  cases x with
  | none => rw [h.1]; rfl
  | some y => obtain ⟨b, el, c, F', h1, _⟩ := h; rw [h1]; rfl
 | pair a b iha ihb =>
  intro x cs F h
  obtain ⟨c1, c2, F1, F2, h1, h2, h3, h4⟩ := h
  rw [h1, List.length_append, iha h3, ihb h4]; rfl
 | sl e _ => intro x cs F h; obtain ⟨_, _, a, cap, h, _⟩ := h; rw [h]; rfl
 | vec e _ => intro x cs F h; obtain ⟨_, a, cap, c, F1, F2, h, _⟩ := h; rw [h]; rfl
 | map k e _ _ => intro x cs F h; obtain ⟨b, es, cl, h, _⟩ := h; rw [h]; rfl
 | fmap k e _ _ => intro x cs F h; obtain ⟨_, b, es, cl, h, _⟩ := h; rw [h]; rfl
 | mapb k e _ _ => intro x cs F h; obtain ⟨b, es, cl, F', h, _⟩ := h; rw [h]; rfl
 | nsl e _ => intro x cs F h; obtain ⟨_, _, _, a, cap, h, _⟩ := h; rw [h]; rfl

theorem RepL.noF {α : Type} {R : α → List Value → List Nat → Prop} (h : ∀ x c F, R x c F → F = []) : ∀ {xs : List α} {cs : List Value} {F : List Nat}, RepL R xs cs F → F = []
 | [], _, _, hh => hh.2
 | _ :: _, _, _, ⟨c1, c2, F1, F2, h1, h2, h3, h4⟩ => by rw [h2, h _ _ _ h3, RepL.noF h h4]; rfl

theorem Rep.pure {Z : Nat → Prop} {w : World} : ∀ {τ : Ty} {x : τ.den} {cs : List Value} {F : List Nat}, τ.pure = true → Rep Z w τ x cs F → F = [] := by
 intro τ
 induction τ with
 | unit => intro x cs F _ h; exact h.2
 | bool => intro x cs F _ h; exact h.2
 | int k => intro x cs F _ h; exact h.2.1
 | str => intro x cs F _ h; exact h.2.1
 | fnv f => intro x cs F _ h; exact h.2
 | nil => intro x cs F _ h; exact h.2
 | ptr e _ => intro x cs F hp h; simp [Ty.pure] at hp
 | pair a b iha ihb =>
  intro x cs F hp h
  simp only [Ty.pure, Bool.and_eq_true] at hp
  obtain ⟨c1, c2, F1, F2, h1, h2, h3, h4⟩ := h
  rw [h2, iha hp.1 h3, ihb hp.2 h4]; rfl
 | sl e _ => intro x cs F _ h; exact h.1
 | vec e _ => intro x cs F hp h; simp [Ty.pure] at hp
 | map k e _ _ => intro x cs F hp h; simp [Ty.pure] at hp
 | fmap k e _ _ => intro x cs F _ h; exact h.1
 | mapb k e _ _ => intro x cs F hp h; simp [Ty.pure] at hp
 | nsl e _ => intro x cs F _ h; exact h.2.1

theorem Rep.elem {Z : Nat → Prop} {w : World} {e : Ty} (he : e.pure = true) : ∀ x c F, Rep Z w e x c F → c.length = e.cells ∧ F = [] := fun _ _ _ h => ⟨h.len, h.pure he⟩

theorem cell_of_block {w w' : World} {b : Nat} (h : w'.heap[b]? = w.heap[b]?) (o : Nat) : w'.cell? ⟨b, o, none⟩ = w.cell? ⟨b, o, none⟩ := by
 simp only [World.cell?, h]

theorem RepM.mono {α β : Type} {R R' : α → List Value → List Nat → Prop} {S S' : β → List Value → List Nat → Prop} {gk gv : Bool} (hR : ∀ x c, R x c [] → R' x c []) (hS : ∀ x c, S x c [] → S' x c []) :
 ∀ {m : List (α × β)} {es : List MapEntry}, RepM R S gk gv m es → RepM R' S' gk gv m es
 | [], _, h => h
 | _ :: _, _, ⟨e, es', h1, ⟨kc, h2, h3⟩, ⟨vc, h4, h5⟩, h6⟩ => ⟨e, es', h1, ⟨kc, h2, hR _ _ h3⟩, ⟨vc, h4, hS _ _ h5⟩, RepM.mono hR hS h6⟩

theorem OwnRow.frame {w w' : World} {sz n cap : Nat} {a : Option Addr} {c : List Value} {F : List Nat} (h : OwnRow w sz n a cap c F) (hF : ∀ b ∈ F, w'.heap[b]? = w.heap[b]?) : OwnRow w' sz n a cap c F := by
 rcases h with h | ⟨b, o, blk, el, h1, h2, h3, h4, h5⟩
 ·exact .inl h
 ·exact .inr ⟨b, o, blk, el, h1, by rw [hF b (by simp [h5])]; exact h2, h3, h4, h5⟩

theorem Rep.frame {Z Z' : Nat → Prop} {w w' : World} (hZ : ∀ b, Z b → w'.heap[b]? = w.heap[b]?) (hs : ∀ b, Z b → Z' b) : ∀ {τ : Ty} {x : τ.den} {cs : List Value} {F : List Nat},
 (∀ b ∈ F, w'.heap[b]? = w.heap[b]?) → Rep Z w τ x cs F → Rep Z' w' τ x cs F := by
 intro τ
 induction τ with
 | unit => intro x cs F _ h; exact h
 | bool => intro x cs F _ h; exact h
 | int k => intro x cs F _ h; exact h
 | str => intro x cs F _ h; exact h
 | fnv f => intro x cs F _ h; exact h
 | nil => intro x cs F _ h; exact h
 | ptr e ih =>
  intro x cs F hF h
  cases x with
  | none => exact h
  | some y =>
   obtain ⟨b, el, c, F', h1, h2, h3, h4⟩ := h
   exact ⟨b, el, c, F', h1, h2, by rw [hF b (by simp [h2])]; exact h3, ih (fun b' hb => hF b' (by rw [h2]; simp [hb])) h4⟩
 | pair a b iha ihb =>
  intro x cs F hF h
  obtain ⟨c1, c2, F1, F2, h1, h2, h3, h4⟩ := h
  exact ⟨c1, c2, F1, F2, h1, h2, iha (fun b hb => hF b (by rw [h2]; simp [hb])) h3, ihb (fun b hb => hF b (by rw [h2]; simp [hb])) h4⟩
 | sl e ih =>
  intro x cs F hF h
  obtain ⟨h0, hl, a, cap, h1, h2, h3⟩ := h
  refine ⟨h0, hl, a, cap, h1, h2, ?_⟩
  rcases h3 with h3 | ⟨b, o, c, g1, g2, g3, g4⟩
  ·exact .inl h3
  ·refine .inr ⟨b, o, c, g1, hs b g2, RepL.mono_F (G := []) (fun x c F' hx hF' => ih (fun b hb => absurd (hF' b hb) (by simp)) hx) (by simp) g3, fun j u hu => ?_⟩
   rw [cell_of_block (hZ b g2)]; exact g4 j u hu
 | nsl e ih =>
  intro x cs F hF h
  obtain ⟨hn, h0, hl, a, cap, h1, h2, h3⟩ := h
  refine ⟨hn, h0, hl, a, cap, h1, h2, ?_⟩
  rcases h3 with h3 | ⟨b, o, c, g1, g2, g3, g4⟩
  ·exact .inl h3
  ·refine .inr ⟨b, o, c, g1, hs b g2, RepL.mono_F (G := []) (fun x c F' hx hF' => ih (fun b hb => absurd (hF' b hb) (by simp)) hx) (by simp) g3, fun j u hu => ?_⟩
   rw [cell_of_block (hZ b g2)]; exact g4 j u hu
 | vec e ih =>
  intro x cs F hF h
  obtain ⟨hl, a, cap, c, F1, F2, h1, h2, h3, h4, h5⟩ := h
  exact ⟨hl, a, cap, c, F1, F2, h1, h2, h3, RepL.mono_F (G := F2) (fun x c F' hx hF' => ih (fun b hb => hF b (by rw [h3]; simp [hF' b hb])) hx) (fun _ hb => hb) h4, h5.frame (fun b hb => hF b (by rw [h3]; simp [hb]))⟩
 | map k e ihk ihe =>
  intro x cs F hF h
  obtain ⟨b, es, cl, h1, h2, h3, h5, h4⟩ := h
  exact ⟨b, es, cl, h1, h2, by rw [hF b (by simp [h2])]; exact h3, h5, h4.mono (fun _ _ hh => ihk (by simp) hh) (fun _ _ hh => ihe (by simp) hh)⟩
 | fmap k e ihk ihe =>
  intro x cs F hF h
  obtain ⟨h0, b, es, cl, h1, h2, h3, h5, h4⟩ := h
  exact ⟨h0, b, es, cl, h1, hs b h2, by rw [hZ b h2]; exact h3, h5, h4.mono (fun _ _ hh => ihk (by simp) hh) (fun _ _ hh => ihe (by simp) hh)⟩
 | mapb k e ihk ihe =>
  intro x cs F hF h
  obtain ⟨b, es, cl, F', h1, h2, h3, h5, h4⟩ := h
  exact ⟨b, es, cl, F', h1, h2, by rw [hF b (by simp [h2])]; exact h3, h5, RepMF.mono_F (G := F') (fun x v ⟨kc, q1, q2⟩ => ⟨kc, q1, ihk (by simp) q2⟩) (fun x y v F0 ⟨vc, q1, q2⟩ hF0 => ⟨vc, q1, ihe (fun b hb => hF b (by rw [h2]; simp [hF0 b hb])) q2⟩) (fun _ h => h) h4⟩

theorem Rep.map_fmap {Z Z' : Nat → Prop} {w : World} {k e : Ty} {m : List (k.den × e.den)} {cs : List Value} {F : List Nat} (h : Rep Z w (.map k e) m cs F) (hs : ∀ b, Z b → Z' b) (hF : ∀ b ∈ F, Z' b) :
 Rep Z' w (.fmap k e) m cs [] := by
 obtain ⟨b, es, cl, h1, h2, h3, h5, h4⟩ := h
 exact ⟨rfl, b, es, cl, h1, hF b (by simp [h2]), h3, h5, h4.mono (fun _ _ hh => hh.frame (fun _ _ => rfl) hs (by simp)) (fun _ _ hh => hh.frame (fun _ _ => rfl) hs (by simp))⟩

theorem Rep.vec_sl {Z Z' : Nat → Prop} {w : World} {e : Ty} {xs : List e.den} {cs : List Value} {F : List Nat} (he : e.pure = true) (h : Rep Z w (.vec e) xs cs F) (hs : ∀ b, Z b → Z' b) (hF : ∀ b ∈ F, Z' b) :
 Rep Z' w (.sl e) xs cs [] := by
 obtain ⟨hl, a, cap, c, F1, F2, h1, h2, h3, h4, h5⟩ := h
 refine ⟨rfl, by unfold big; omega, a, cap, h1, h2, ?_⟩
 rcases h5 with ⟨_, _, h6, _⟩ | ⟨b, o, blk, el, g1, g2, g3, g4, g5⟩
 ·exact .inl (List.eq_nil_of_length_eq_zero h6)
 ·have : F2 = [] := RepL.noF (fun _ _ _ hh => hh.pure he) h4
  subst this
  refine .inr ⟨b, o, c, g1, hF b (by rw [h3, g5]; simp), h4.mono (fun x c F hx => ?_), fun j u hu => ?_⟩
  ·have hf := hx.pure he
   subst hf
   exact hx.frame (fun _ _ => rfl) hs (by simp)
  ·simp only [World.cell?, g2]
   simpa using g4 j u hu
end Go.Proofs.Ytadhpgecilhgnaa.A
