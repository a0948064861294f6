/- A watch over the levels of a battery has an alarm below its floor just if the battery is empty at some moment. -/
import Derived.Calls
import Derived.KernelRfl
import Derived.Laws.Append
import Derived.Laws.Cells
import Derived.Laws.CopyRow
import Derived.Laws.MakeOwn
import Derived.Laws.Slices
import Derived.Laws.Small
import Derived.Laws.Strings
import Derived.Laws.StructEq
import Derived.Still
import Derived.Test.YtodnfnnfjnnhmaaProg
-- YtodnfnnfjnnhmaaAbs
set_option linter.unusedVariables false
namespace Go.Proofs.Ytodnfnnfjnnhmaa.A
open Go

inductive Ty where
 | unit | bool | int (k : IntKind) | str | pair (a b : Ty) | sl (e : Ty) | vec (e : Ty) | map (k e : Ty) | fnv (f : Nat) | nil | ptr (e : Ty) | fmap (k e : Ty) | mapb (k e : Ty) | nsl (e : Ty)
 deriving DecidableEq

@[reducible] def Ty.den : Ty → Type
 | .unit => Unit
 | .bool => Bool
 | .int _ => Int
 | .str => List UInt8
 | .pair a b => a.den × b.den
 | .sl e => List e.den
 | .vec e => List e.den
 | .map k e => List (k.den × e.den)
 | .fnv _ => Unit
 | .nil => Unit
 | .ptr e => Option e.den
 | .fmap k e => List (k.den × e.den)
 | .mapb k e => List (k.den × e.den)
 | .nsl e => List e.den

def Ty.dflt : (τ : Ty) → τ.den
 | .unit => ()
 | .bool => false
 | .int _ => 0
 | .str => []
 | .pair a b => (a.dflt, b.dflt)
 | .sl _ => []
 | .vec _ => []
 | .map _ _ => []
 | .fnv _ => ()
 | .nil => ()
 | .ptr _ => none
 | .fmap _ _ => []
 | .mapb _ _ => []
 | .nsl _ => []

def castTo (σ τ : Ty) (x : σ.den) : Option τ.den := if h : σ = τ then some (h ▸ x) else none

def Ty.pure : Ty → Bool
 | .pair a b => a.pure && b.pure
 | .sl e => e.pure
 | .vec _ => false
 | .map _ _ => false
 | .ptr _ => false
 | .mapb _ _ => false
 | .nsl e => e.pure
 | _ => true
def Ty.flatB : Ty → Bool
 | .pair a b => a.flatB && b.flatB
 | .sl _ => false
 | .vec _ => false
 | .map _ _ => false
 | .ptr _ => false
 | .fmap _ _ => false
 | .mapb _ _ => false
 | .nsl _ => false
 | _ => true
def Ty.one : Ty → Bool
 | .pair _ _ => false
 | .unit => false
 | _ => true
def Ty.cells : Ty → Nat
 | .unit => 0
 | .pair a b => a.cells + b.cells
 | _ => 1

inductive LV where
 | v (τ : Ty) (x : τ.den)
 | nils | nilm | nilp
 | ptr (id off : Nat)
 | row (id : Nat)
 | sub (id g off : Nat)
 | subv (id g off lo sz : Nat)
 | vw (e : Ty) (xs : List e.den)
 | pel (τ : Ty) (x : τ.den) (off : Nat)
 | rel (id : Nat) (i : Nat) (off : Nat)
 | sel (id g off : Nat) (i : Nat) (off2 : Nat)
 | mapr (id : Nat)
 | itr (id : Nat)
 | mbr (id : Nat)
 | mel (id g : Nat) (k : Ty) (key : k.den) (off : Nat)
 | mvl (id g : Nat) (k : Ty) (key : k.den)
 | cst
 | pptr (id off : Nat) (ps : List (Nat × Nat × Bool))
 | mfl (mid id g off : Nat)
 | clo (f : Nat) (fst : Bool) (id : Nat)
 | junk

inductive AV where
 | val (agg : Bool) (ls : List LV)
 | tup (vs : List (Bool × List LV))
 | undef
 | junk

inductive Obj where
 | cells (g : Nat) (ls : List LV)
 | row (e : Ty) (xs : List e.den)
 | mapo (k e : Ty) (m : List (k.den × e.den))
 | iter (k e : Ty) (cur : Option (k.den × e.den)) (rest : List (k.den × e.den))
 | mapb (g : Nat) (k e : Ty) (m : List (k.den × e.den)) (hole : Option (k.den × Option Value))
 | rest (e : Ty) (l1 l2 : List e.den) (c1 c2 : List Value)

inductive Cell where
 | absent | dead | live (o : Obj) | frz (e : Ty) (xs : List e.den) | frzm (k e : Ty) (m : List (k.den × e.den))

abbrev Env := Nat → AV
abbrev Hp := Nat → Cell
def upd {α : Type} (f : Nat → α) (n : Nat) (x : α) : Nat → α := fun m => match Nat.beq m n with | true => x | false => f m
def ofL {α : Type} (d : α) : List (Nat × α) → Nat → α
 | [], _ => d
 | (n, x) :: l, m => match Nat.beq m n with | true => x | false => ofL d l m

inductive Tst (α : Type) : Type 1 where
 | ret (a : α)
 | fail
 | chk (p : Prop) (d : Decidable p) (t : Tst α)
 | br (b : Bool) (t e : Tst α)
 | opt {β : Type} (o : Option β) (k : β → Tst α)

def Tst.to {α R : Type} (K : α → Option R) : Tst α → Option R
 | .ret a => K a
 | .fail => none
 | .chk p d t => @ite _ p d (t.to K) none
 | .br b t e => if b = true then t.to K else e.to K
 | .opt o k => o.bind fun b => (k b).to K

def Tst.bind {α β : Type} (f : α → Tst β) : Tst α → Tst β
 | .ret a => f a
 | .fail => .fail
 | .chk p d t => .chk p d (t.bind f)
 | .br b t e => .br b (t.bind f) (e.bind f)
 | .opt o k => .opt o fun b => (k b).bind f

inductive DT (α : Type) : Type 1 where
 | ret (a : α)
 | fail
 | chk (p : Prop) (d : Decidable p) (t : DT α)
 | may (p : Prop) (d : Decidable p) (t e : DT α)
 | each {β : Type} (l : List β) (z : DT α) (k : β → List β → DT α)
open Classical in
noncomputable def agree2 {R : Type} (a b : Option R) : Option R := if a = b then a else none
open Classical in
noncomputable def agreeL {β R : Type} (l : List β) (K : β → List β → Option R) : Option R :=
 if h : ∃ r, ∀ (i : Nat) (x : β), l[i]? = some x → K x (l.eraseIdx i) = some r then some (Classical.choose h) else none
noncomputable def DT.to {α R : Type} (K : α → Option R) : DT α → Option R
 | .ret a => K a
 | .fail => none
 | .chk p d t => @ite _ p d (t.to K) none
 | .may p d t e => agree2 (e.to K) (@ite _ p d (t.to K) (e.to K))
 | .each l z k => if l.length = 0 then z.to K else agreeL l fun x r => (k x r).to K
theorem agree2_some {R : Type} {a b : Option R} {r : R} (h : agree2 a b = some r) : a = some r ∧ b = some r := by
 unfold agree2 at h
 split at h
 ·rename_i e; exact ⟨h, e ▸ h⟩
 ·cases h
theorem agreeL_some {β R : Type} {l : List β} {K : β → List β → Option R} {r : R} (hl : l ≠ []) (h : agreeL l K = some r) : ∀ (i : Nat) (x : β), l[i]? = some x → K x (l.eraseIdx i) = some r := by
 unfold agreeL at h
 split at h
 ·rename_i e
  injection h with h
  have := Classical.choose_spec e
  rw [h] at this
  exact this
 ·cases h

structure TI where
 agg : Bool
 ty : Ty
 bytes : Nat
 fields : List (Nat × Nat)
 elem : Nat
 key : Nat
 zero : List LV

structure FunE where
 ins : List (Bool × Ty)
 outs : List Ty
 f : (ins.foldr (fun p t => Ty.pair p.2 t) .unit).den → Option ((outs ++ (ins.filter (·.1)).map (·.2)).foldr Ty.pair .unit).den
 row : Option ((e : Ty) × (List e.den → Option (List e.den))) := none

def flat : (τ : Ty) → τ.den → List LV
 | .unit, _ => []
 | .pair a b, x => flat a x.1 ++ flat b x.2
 | .bool, x => [.v .bool x]
 | .int k, x => [.v (.int k) x]
 | .str, x => [.v .str x]
 | .sl e, x => [.v (.sl e) x]
 | .vec e, x => [.v (.vec e) x]
 | .map k e, x => [.v (.map k e) x]
 | .fnv f, x => [.v (.fnv f) x]
 | .nil, _ => [.nils]
 | .ptr e, x => [.v (.ptr e) x]
 | .fmap k e, x => [.v (.fmap k e) x]
 | .mapb k e, x => [.v (.mapb k e) x]
 | .nsl e, x => [.v (.nsl e) x]

def slAs (e' e : Ty) (xs : List e'.den) : Option (List e.den) := match e'.pure with | true => castTo (.sl e') (.sl e) xs | false => none
def LV.as (H : Hp) (τ : Ty) : LV → Option τ.den
 | .v σ x => castTo σ τ x
 | .nils => match τ with | .sl _ => some [] | .vec _ => some [] | .nil => some () | .nsl _ => some [] | _ => none
 | .row id => match τ with
  | .sl e => (match H id with
   | .live (.row e' xs) => slAs e' e xs
   | .frz e' xs => slAs e' e xs
   | _ => none)
  | _ => none
 | .vw e' xs => castTo (.sl e') τ xs
 | .mapr id => match τ with
  | .fmap k e => (match H id with
   | .live (.mapo k' e' mm) => castTo (.fmap k' e') (.fmap k e) mm
   | .frzm k' e' mm => castTo (.fmap k' e') (.fmap k e) mm
   | _ => none)
  | _ => none
 | .sub id g off => match τ with
  | .sl e => (match H id with
   | .live (.cells g' ls) => (match Nat.beq g g', ls[off]? with
    | true, some (.v (.vec e') xs) => slAs e' e xs
    | _, _ => none)
   | _ => none)
  | _ => none
 | _ => none

def asm1 (H : Hp) (τ : Ty) : List LV → Option (τ.den × List LV)
 | l :: ls => match l.as H τ with | some x => some (x, ls) | none => none
 | [] => none
def asm (H : Hp) : (τ : Ty) → List LV → Option (τ.den × List LV)
 | .unit, ls => some ((), ls)
 | .pair a b, ls => match asm H a ls with
  | some (x, ls) => (match asm H b ls with | some (y, ls) => some ((x, y), ls) | none => none)
  | none => none
 | .bool, ls => asm1 H .bool ls
 | .int k, ls => asm1 H (.int k) ls
 | .str, ls => asm1 H .str ls
 | .sl e, ls => asm1 H (.sl e) ls
 | .vec e, ls => asm1 H (.vec e) ls
 | .map k e, ls => asm1 H (.map k e) ls
 | .fnv f, ls => asm1 H (.fnv f) ls
 | .nil, ls => asm1 H .nil ls
 | .ptr e, ls => asm1 H (.ptr e) ls
 | .fmap k e, ls => asm1 H (.fmap k e) ls
 | .mapb k e, ls => asm1 H (.mapb k e) ls
 | .nsl e, ls => asm1 H (.nsl e) ls
def asmAll (H : Hp) (τ : Ty) (ls : List LV) : Option τ.den := match asm H τ ls with | some (x, []) => some x | _ => none

def ofConst1 : Value → LV
 | .bool b => .v .bool b
 | .int k n => .v (.int k) n
 | .string s => .v .str s.data.toList
 | .slice none 0 0 => .nils
 | .map none => .nilm
 | .pointer none => .nilp
 | _ => .junk
def ofConst : Value → AV
 | .agg cs => .val true (cs.toList.map ofConst1)
 | .tuple _ => .junk
 | v => .val false [ofConst1 v]

def evalO (E : Env) : Operand → AV
 | .tmp t => E t
 | .const v => ofConst v
 | .global _ => .junk
 | .func f => .val false [.v (.fnv f) ()]

structure Way where
 rd : List Nat := []
 wr : List Nat := []
 run : Hp → Tst (AV × List (Nat × Cell))

def Way.fail : Way := { run := fun _ => .fail }
def Way.val (v : AV) : Way := { run := fun _ => .ret (v, []) }
def Way.one (l : LV) : Way := .val (.val false [l])

section
variable (tab : Nat → Option TI) (T : Nat → Option FunE)

def isAbsent : Cell → Bool
 | .absent => true
 | _ => false

def memN (n : Nat) : List Nat → Bool
 | [] => false
 | m :: l => match Nat.beq n m with | true => true | false => memN n l
def disjN (a b : List Nat) : Bool := a.all fun n => !memN n b
def nodupN : List Nat → Bool
 | [] => true
 | n :: l => !memN n l && nodupN l
def setLs : List LV → Nat → List LV → Option (List LV)
 | ls, _, [] => some ls
 | [], _, _ :: _ => none
 | _ :: ls, 0, n :: ns => (setLs ls 0 ns).map (n :: ·)
 | l :: ls, off + 1, ns => (setLs ls off ns).map (l :: ·)

def plainL : LV → Bool
 | .v _ _ => true
 | .nils => true
 | .nilm => true
 | .nilp => true
 | _ => false
def moveIn (H : Hp) : LV → LV × List (Nat × Cell)
 | .row id => match H id with
  | .live (.row e xs) => (.v (.vec e) xs, [(id, .dead)])
  | _ => (.junk, [])
 | .mapr id => match H id with
  | .live (.mapo k e m) => (.v (.map k e) m, [(id, .dead)])
  | _ => (.junk, [])
 | .v τ x => (.v τ x, [])
 | .nils => (.nils, [])
 | .nilm => (.nilm, [])
 | .nilp => (.nilp, [])
 | _ => (.junk, [])
def ownIds : List LV → List Nat
 | [] => []
 | .row id :: ls => id :: ownIds ls
 | .mapr id :: ls => id :: ownIds ls
 | _ :: ls => ownIds ls
def moveAll (H : Hp) (ls : List LV) : List LV × List (Nat × Cell) :=
 (ls.map fun l => (moveIn H l).1, ls.flatMap fun l => (moveIn H l).2)

def wBox (dst : Option Nat) : AV → Way
 | .val _ ls => match dst with
  | some d => { wr := d :: ownIds ls, run := fun H => if isAbsent (H d) && !memN d (ownIds ls) && nodupN (ownIds ls) && (moveAll H ls).1.all plainL then .ret (.val false [.ptr d 0], (d, .live (.cells 0 (moveAll H ls).1)) :: (moveAll H ls).2) else .fail }
  | none => .fail
 | _ => .fail

def pinOf : LV → Option (Nat × Bool)
 | .mapr m => some (m, false)
 | .mbr m => some (m, true)
 | _ => none
def pinsOf : Nat → List LV → List (Nat × Nat × Bool)
 | _, [] => []
 | j, l :: ls => match pinOf l with | some (m, b) => (j, m, b) :: pinsOf (j + 1) ls | none => pinsOf (j + 1) ls
def pinLeaf (l : LV) : LV := match pinOf l with | some _ => .cst | none => l
def pinB (l : LV) : Bool := match pinOf l with | some _ => true | none => plainL l
def plainC : LV → Bool
 | .cst => true
 | l => plainL l
def pinLive (H : Hp) (q : Nat × Nat × Bool) : Bool := match q.2.2, H q.2.1 with
 | false, .live (.mapo _ _ _) => true
 | true, .live (.mapb _ _ _ _ none) => true
 | _, _ => false
def wBoxP (dst : Option Nat) (x : AV) : Way :=
 match x with
 | .val g ls => match pinsOf 0 ls, dst with
  | [], _ => wBox dst x
  | ps, some d => { rd := ps.map (·.2.1), wr := [d], run := fun H => if isAbsent (H d) && !(memN d (ps.map (·.2.1))) && ls.all pinB && ps.all (pinLive H) then .ret (.val false [.pptr d 0 ps], [(d, .live (.cells 0 (ls.map pinLeaf)))]) else .fail }
  | _, none => .fail
 | _ => .fail

def outLeaf (id g off : Nat) : LV → LV
 | .v (.vec _) _ => .sub id g off
 | .v τ x => if τ.pure then .v τ x else .junk
 | .nils => .nils
 | .nilm => .nilm
 | .nilp => .nilp
 | _ => .junk
def outLeaves (id g : Nat) : Nat → List LV → List LV
 | _, [] => []
 | off, l :: ls => outLeaf id g off l :: outLeaves id g (off + 1) ls
def takeN : Nat → List LV → Option (List LV)
 | 0, _ => some []
 | n + 1, l :: ls => (takeN n ls).map (l :: ·)
 | _ + 1, [] => none

def wLoad (t : Nat) : AV → Way
 | .val false [.ptr id off] => match tab t with
  | some i => { rd := [id], run := fun H => match H id with
   | .live (.cells g ls) => (match takeN i.ty.cells (ls.drop off) with
    | some ns => .ret (.val i.agg (outLeaves id g off ns), [])
    | none => .fail)
   | _ => .fail }
  | none => .fail
 | .val false [.pel τ x off] => match tab t with
  | some i => (match takeN i.ty.cells ((flat τ x).drop off) with
   | some ns => .val (.val i.agg ns)
   | none => .fail)
  | none => .fail
 | .val false [.rel id n off] => match tab t with
  | some i => { rd := [id], run := fun H => match H id with
   | .live (.row e xs) => if e.pure then (match takeN i.ty.cells ((flat e (xs.getD n e.dflt)).drop off) with
    | some ns => .ret (.val i.agg ns, [])
    | none => .fail) else .fail
   | _ => .fail }
  | none => .fail
 | .val false [.sel id g o n off] => match tab t with
  | some i => { rd := [id], run := fun H => match H id with
   | .live (.cells g' ls) => (match ls[o]? with
    | some (.v (.vec e) xs) => if e.pure && Nat.beq g g' then (match takeN i.ty.cells ((flat e (xs.getD n e.dflt)).drop off) with
     | some ns => .ret (.val i.agg ns, [])
     | none => .fail) else .fail
    | _ => .fail)
   | _ => .fail }
  | none => .fail
 | _ => .fail

def wStore (t : Nat) (a : AV) (x : AV) : Way :=
 match a, x with
 | .val false [.ptr id off], .val g ls => match tab t with
  | some i => { wr := id :: ownIds ls, run := fun H => match H id with
   | .live (.cells v cs) => if Nat.beq ls.length i.ty.cells && !(Nat.beq ls.length 0) && (g == i.agg) && nodupN (id :: ownIds ls) && (moveAll H ls).1.all plainL then (match setLs cs off (moveAll H ls).1 with
    | some cs' => .ret (.undef, (id, .live (.cells (v + 2) cs')) :: (moveAll H ls).2)
    | none => .fail) else .fail
   | _ => .fail }
  | none => .fail
 | .val false [.rel id n off], .val g ls => match tab t with
  | some i => { wr := [id], run := fun H => match H id with
   | .live (.row e xs) => if e.pure && Nat.beq ls.length i.ty.cells && !(Nat.beq ls.length 0) && (g == i.agg) && ls.all plainL then (match setLs (flat e (xs.getD n e.dflt)) off ls with
    | some cs' => (match asmAll (fun _ => .absent) e cs' with
     | some y => .ret (.undef, [(id, .live (.row e (xs.set n y)))])
     | none => .fail)
    | none => .fail) else .fail
   | _ => .fail }
  | none => .fail
 | .val false [.sel id v o n off], .val g ls => match tab t with
  | some i => { wr := [id], run := fun H => match H id with
   | .live (.cells v' ls0) => (match ls0[o]? with
    | some (.v (.vec e) xs) => if e.pure && Nat.beq v v' && Nat.beq ls.length i.ty.cells && !(Nat.beq ls.length 0) && (g == i.agg) && ls.all plainL then (match setLs (flat e (xs.getD n e.dflt)) off ls with
     | some cs' => (match asmAll (fun _ => .absent) e cs' with
      | some y => (match setLs ls0 o [.v (.vec e) (xs.set n y)] with
       | some ls1 => .ret (.undef, [(id, .live (.cells v' ls1))])
       | none => .fail)
      | none => .fail)
     | none => .fail) else .fail
    | _ => .fail)
   | _ => .fail }
  | none => .fail
 | _, _ => .fail

def fieldOff (s f : Nat) : Option Nat := match tab s with
 | some i => (match i.agg, i.fields[f]? with
  | true, some (o, ft) => (match tab ft with
   | some j => (match Nat.beq j.ty.cells 0 with | true => none | false => some o)
   | none => none)
  | _, _ => none)
 | none => none
def slTy (t : Nat) : Option TI := match tab t with
 | some i => (match i.agg, i.ty with | false, .sl _ => (match tab i.elem with | some q => (match Nat.ble q.bytes 128 with | true => some q | false => none) | none => none) | _, _ => none)
 | none => none
def strTy (t : Nat) : Bool := match tab t with
 | some i => (match i.agg, i.ty with | false, .str => true | _, _ => false)
 | none => false
def wFieldAddr (s : Nat) (a : AV) (f : Nat) : Way :=
 match fieldOff tab s f with
 | some o => (match a with
  | .val false [.ptr id off] => { rd := [id], run := fun H => match H id with
   | .live (.cells _ _) => .ret (.val false [.ptr id (off + o)], [])
   | _ => .fail }
  | .val false [.pel τ x off] => .one (.pel τ x (off + o))
  | .val false [.rel id n off] => { rd := [id], run := fun H => match H id with
   | .live (.row _ _) => .ret (.val false [.rel id n (off + o)], [])
   | _ => .fail }
  | .val false [.sel id g o1 n off] => { rd := [id], run := fun H => match H id with
   | .live (.cells g' ls) => (match Nat.beq g g', ls[o1]? with
    | true, some (.v (.vec _) _) => .ret (.val false [.sel id g o1 n (off + o)], [])
    | _, _ => .fail)
   | _ => .fail }
  | _ => .fail)
 | none => .fail
def wField (s : Nat) (a : AV) (f : Nat) : Way :=
 match tab s, a with
 | some i, .val true ls => (match i.agg, i.fields[f]? with
  | true, some (o, ft) => (match tab ft with
   | some j => (match takeN j.ty.cells (ls.drop o) with
    | some ns => .val (.val j.agg ns)
    | none => .fail)
   | none => .fail)
  | _, _ => .fail)
 | _, _ => .fail

def slRd : LV → List Nat
 | .row id => [id]
 | .sub id _ _ => [id]
 | .subv id _ _ _ _ => [id]
 | .mapr id => [id]
 | .mbr id => [id]
 | _ => []
def slRead (H : Hp) : LV → Option ((e : Ty) × List e.den)
 | .v (.sl e) xs => some ⟨e, xs⟩
 | .vw e xs => some ⟨e, xs⟩
 | .v (.nsl e) xs => some ⟨e, xs⟩
 | .row id => match H id with
  | .live (.row e xs) => some ⟨e, xs⟩
  | .frz e xs => some ⟨e, xs⟩
  | _ => none
 | .sub id g off => match H id with
  | .live (.cells g' ls) => (match Nat.beq g g', ls[off]? with
   | true, some (.v (.vec e) xs) => some ⟨e, xs⟩
   | _, _ => none)
  | _ => none
 | .subv id g off lo sz => match H id with
  | .live (.cells g' ls) => (match Nat.beq g g', ls[off]? with
   | true, some (.v (.vec e) xs) => if Nat.beq e.cells sz then some ⟨e, xs.drop lo⟩ else none
   | _, _ => none)
  | _ => none
 | _ => none
def elemPtr (H : Hp) (e : Ty) (xs : List e.den) (n : Nat) : LV → LV
 | .row id => match H id with
  | .live _ => .rel id n 0
  | _ => .pel e (xs.getD n e.dflt) 0
 | .sub id g off => .sel id g off n 0
 | .subv id g off lo _ => .sel id g off (n + lo) 0
 | _ => .pel e (xs.getD n e.dflt) 0
def AV.int : AV → Option Int
 | .val false [.v (.int _) n] => some n
 | _ => none
def wIndexAddr (t : Nat) (a i : AV) : Way :=
 match a, i.int, slTy tab t with
 | .val false [l], some n, some q => { rd := slRd l, run := fun H => match slRead H l with
  | some ⟨e, xs⟩ => if Nat.beq e.cells q.ty.cells then .chk (0 ≤ n ∧ n < (xs.length : Int)) inferInstance (.ret (.val false [elemPtr H e xs n.toNat l], [])) else .fail
  | none => .fail }
 | _, _, _ => .fail
def wIndex (t : Nat) (a i : AV) : Way :=
 match strTy tab t, a, i.int with
 | true, .val false [.v .str s], some n => { run := fun _ => .chk (0 ≤ n ∧ n < (s.length : Int)) inferInstance (.ret (.val false [.v (.int .u8) ((s.getD n.toNat 0).toNat : Int)], [])) }
 | _, _, _ => .fail

def optInt (d : Int) : Option AV → Option Int
 | none => some d
 | some a => a.int
def wSlice (dst : Option Nat) (t : Nat) (a : AV) (lo hi : Option AV) : Way :=
 match a with
 | .val false [.v .str s] => (match strTy tab t, optInt 0 lo, optInt s.length hi with
  | true, some l, some h => { run := fun _ => .chk (0 ≤ l ∧ l ≤ h ∧ h ≤ (s.length : Int)) inferInstance (.ret (.val false [.v .str ((s.take h.toNat).drop l.toNat)], [])) }
  | _, _, _ => .fail)
 | .val false [.v (.sl e) xs] => (match slTy tab t, optInt 0 lo, optInt xs.length hi with
  | some q, some l, some h => if Nat.beq e.cells q.ty.cells && e.pure then { run := fun _ => .chk (0 ≤ l ∧ l ≤ h ∧ h ≤ (xs.length : Int)) inferInstance (.ret (.val false [.v (.sl e) ((xs.take h.toNat).drop l.toNat)], [])) } else .fail
  | _, _, _ => .fail)
 | .val false [.row id] => (match dst, hi with
  | some d, none => (match slTy tab t, optInt 0 lo with
   | some q, some l => { wr := [id, d], run := fun H => match H id with
    | .live (.row e xs) => if isAbsent (H d) && !(Nat.beq id d) && Nat.beq e.cells q.ty.cells && e.pure then .chk (0 ≤ l ∧ l ≤ (xs.length : Int)) inferInstance (.ret (.val false [.row d], [(id, .dead), (d, .live (.row e (xs.drop l.toNat)))])) else .fail
    | .frz e xs => if Nat.beq e.cells q.ty.cells && e.pure then .chk (0 ≤ l ∧ l ≤ (xs.length : Int)) inferInstance (.ret (.val false [.vw e (xs.drop l.toNat)], [])) else .fail
    | _ => .fail }
   | _, _ => .fail)
  | _, _ => .fail)
 | .val false [.sub id g off] => (match hi, slTy tab t, optInt 0 lo with
  | none, some q, some l => { rd := [id], run := fun H => match H id with
   | .live (.cells g' ls) => (match Nat.beq g g', ls[off]? with
    | true, some (.v (.vec e) xs) => if Nat.beq e.cells q.ty.cells && e.pure then .chk (0 ≤ l ∧ l ≤ (xs.length : Int)) inferInstance (.ret (.val false [.subv id g off l.toNat e.cells], [])) else .fail
    | _, _ => .fail)
   | _ => .fail }
  | _, _, _ => .fail)
 | _ => .fail

def bitsOp (k : IntKind) (op : BinOp) (x y : Int) : Int :=
 let a := BitVec.ofInt k.bits x
 let b := BitVec.ofInt k.bits y
 match op with
 | .and => k.wrap (a &&& b).toNat
 | .or => k.wrap (a ||| b).toNat
 | .xor => k.wrap (a ^^^ b).toNat
 | _ => k.wrap (a &&& ~~~b).toNat
def shlI (k : IntKind) (x y : Int) : Int := k.wrap (x * 2 ^ (min y.toNat k.bits))
def shrI (k : IntKind) (x y : Int) : Int := x.fdiv (2 ^ (min y.toNat k.bits))
def lessS (a b : List UInt8) : Bool := Op.bytesLess a b

def Ty.eqB : Ty → Bool
 | .pair a b => a.eqB && b.eqB
 | .bool => true
 | .int _ => true
 | .str => true
 | _ => false
def eqV : (τ : Ty) → τ.den → τ.den → Bool
 | .pair a b, x, y => eqV a x.1 y.1 && eqV b x.2 y.2
 | .bool, x, y => decide (x = y)
 | .int _, x, y => decide (x = y)
 | .str, x, y => decide (x = y)
 | _, _, _ => false

def intOp (op : BinOp) (k : IntKind) (x y : Int) : Tst (AV × List (Nat × Cell)) :=
 let i (n : Int) : Tst (AV × List (Nat × Cell)) := .ret (.val false [.v (.int k) n], [])
 let b (n : Bool) : Tst (AV × List (Nat × Cell)) := .ret (.val false [.v .bool n], [])
 match op with
 | .add => i (k.wrap (x + y))
 | .sub => i (k.wrap (x - y))
 | .mul => i (k.wrap (x * y))
 | .quo => .chk (¬ y = 0) inferInstance (i (k.wrap (x.tdiv y)))
 | .rem => .chk (¬ y = 0) inferInstance (i (x.tmod y))
 | .and => i (bitsOp k .and x y)
 | .or => i (bitsOp k .or x y)
 | .xor => i (bitsOp k .xor x y)
 | .andNot => i (bitsOp k .andNot x y)
 | .eql => b (decide (x = y))
 | .neq => b (!decide (x = y))
 | .lss => b (decide (x < y))
 | .leq => b (decide (x ≤ y))
 | .gtr => b (decide (y < x))
 | .geq => b (decide (y ≤ x))
 | _ => .fail
def strOp (op : BinOp) (x y : List UInt8) : Tst (AV × List (Nat × Cell)) :=
 let b (n : Bool) : Tst (AV × List (Nat × Cell)) := .ret (.val false [.v .bool n], [])
 match op with
 | .add => .chk (x.length + y.length ≤ 4611686018427387904) inferInstance (.ret (.val false [.v .str (x ++ y)], []))
 | .eql => b (decide (x = y))
 | .neq => b (!decide (x = y))
 | .lss => b (lessS x y)
 | .leq => b (!lessS y x)
 | .gtr => b (lessS y x)
 | .geq => b (!lessS x y)
 | _ => .fail
def wBin (op : BinOp) (t : Nat) (x y : AV) : Way :=
 match x, y with
 | .val false [.v (.int k) a], .val false [.v (.int k') b] => (match op with
  | .shl => { run := fun _ => .chk (0 ≤ b) inferInstance (.ret (.val false [.v (.int k) (shlI k a b)], [])) }
  | .shr => { run := fun _ => .chk (0 ≤ b) inferInstance (.ret (.val false [.v (.int k) (shrI k a b)], [])) }
  | _ => if k = k' then { run := fun _ => intOp op k a b } else .fail)
 | .val false [.v .str a], .val false [.v .str b] => { run := fun _ => strOp op a b }
 | .val false [.v .bool a], .val false [.v .bool b] => (match tab t with
  | some i => (match i.agg, i.ty, op with
   | false, .bool, .eql => .one (.v .bool (decide (a = b)))
   | false, .bool, .neq => .one (.v .bool (!decide (a = b)))
   | _, _, _ => .fail)
  | none => .fail)
 | .val true as_, .val true bs => (match tab t with
  | some i => if i.agg && i.ty.eqB && !i.fields.isEmpty then (match asmAll (fun _ => .absent) i.ty as_, asmAll (fun _ => .absent) i.ty bs with
   | some a, some b => (match op with
    | .eql => .one (.v .bool (eqV i.ty a b))
    | .neq => .one (.v .bool (!eqV i.ty a b))
    | _ => .fail)
   | _, _ => .fail) else .fail
  | none => .fail)
 | _, _ => .fail
def wUn (op : UnOp) (x : AV) : Way :=
 match op, x with
 | .neg, .val false [.v (.int k) n] => .one (.v (.int k) (k.wrap (0 - n)))
 | .not, .val false [.v .bool b] => .one (.v .bool (!b))
 | _, _ => .fail
def wConvert (src dst : Nat) (x : AV) : Way :=
 match x, tab src, tab dst with
 | .val false [.v (.int _) n], some i, some j => (match i.agg, j.agg, i.ty, j.ty with | false, false, .int _, .int k => .one (.v (.int k) (k.wrap n)) | _, _, _, _ => .fail)
 | .val false [.v .str s], some i, some j => (match i.agg, j.agg, i.ty, j.ty with | false, false, .str, .str => .one (.v .str s) | _, _, _, _ => .fail)
 | _, _, _ => .fail

def wPick (c a b : AV) : Way :=
 match c with
 | .val false [.v .bool c] => { run := fun _ => .br c (.ret (a, [])) (.ret (b, [])) }
 | _ => .fail

def buildLs (pl : LV → Bool) (fs : List (Nat × Nat)) : List LV → List (Nat × AV) → Option (List LV)
 | ls, [] => some ls
 | ls, (i, .val g ns) :: ps => match fs[i]? with
  | some (o, ft) => (match tab ft with
   | some j => if Nat.beq ns.length j.ty.cells && !(Nat.beq ns.length 0) && (g || ns.all pl) then (match setLs ls o ns with | some ls => buildLs pl fs ls ps | none => none) else none
   | none => none)
  | none => none
 | _, _ => none
def buildAs (sz : Nat) : List LV → List (Nat × AV) → Option (List LV)
 | ls, [] => some ls
 | ls, (i, .val g ns) :: ps => if Nat.beq ns.length sz && !(Nat.beq ns.length 0) && (g || ns.all plainL) then (match setLs ls (i * sz) ns with | some ls => buildAs sz ls ps | none => none) else none
 | _, _ => none
def wBuildA (t : Nat) (ps : List (Nat × AV)) : Way :=
 match tab t with
 | some i => (match i.agg, i.fields, tab i.elem with
  | true, [], some q => (match Nat.beq i.ty.cells 0, buildAs q.ty.cells i.zero ps with | false, some ls => .val (.val true ls) | _, _ => .fail)
  | _, _, _ => .fail)
 | none => .fail
def wBuild (t : Nat) (ps : List (Nat × AV)) : Way :=
 match tab t with
 | some i => if i.agg && !i.fields.isEmpty then (match buildLs tab plainL i.fields i.zero ps with | some ls => .val (.val true ls) | none => .fail) else .fail
 | none => .fail

def slRds : List LV → List Nat
 | [] => []
 | l :: ls => slRd l ++ slRds ls
def buildRow (e : Ty) : Nat → List (Nat × AV) → Option (List e.den)
 | _, [] => some []
 | n, (i, .val g ls) :: ps => if Nat.beq i n && (g || ls.all plainL) then (match asmAll (fun _ => .absent) e ls, buildRow e (n + 1) ps with | some x, some xs => some (x :: xs) | _, _ => none) else none
 | _, _ => none
def wBuildSlice (dst : Option Nat) (t len : Nat) (ps : List (Nat × AV)) : Way :=
 match dst, slTy tab t with
 | some d, some j => { wr := [d], run := fun H => if isAbsent (H d) && Nat.beq ps.length len && Nat.ble (len * j.ty.cells) 16777216 && !(Nat.beq j.ty.cells 0) then (match buildRow j.ty 0 ps with
  | some xs => .ret (.val false [.row d], [(d, .live (.row j.ty xs))])
  | none => .fail) else .fail }
 | _, _ => .fail
def wMakeSlice (dst : Option Nat) (t : Nat) (len cap : AV) : Way :=
 match dst, slTy tab t, len.int, cap.int with
 | some d, some j, some n, some m => { wr := [d], run := fun H => if isAbsent (H d) && j.ty.pure then (match asmAll (fun _ => .absent) j.ty j.zero with
  | some z => .chk (0 ≤ n ∧ n ≤ m ∧ m ≤ 1099511627776) inferInstance (.ret (.val false [.row d], [(d, .live (.row j.ty (List.replicate n.toNat z)))]))
  | none => .fail) else .fail }
 | _, _, _, _ => .fail

def mapHas (τ σ : Ty) (k : τ.den) (m : List (τ.den × σ.den)) : Bool := m.any fun p => eqV τ p.1 k
def mapGet (τ σ : Ty) (k : τ.den) : List (τ.den × σ.den) → σ.den → σ.den
 | [], z => z
 | p :: m, z => if eqV τ p.1 k = true then p.2 else mapGet τ σ k m z
def mapPut (τ σ : Ty) (k : τ.den) (x : σ.den) : List (τ.den × σ.den) → List (τ.den × σ.den)
 | [] => [(k, x)]
 | p :: m => if eqV τ p.1 k = true then (k, x) :: m else p :: mapPut τ σ k x m
def putH (H : Hp) : List (Nat × Cell) → Hp
 | [] => H
 | p :: l => putH (upd H p.1 p.2) l
def only (H : Hp) (l : List Nat) : Hp := fun n => match memN n l with | true => H n | false => .absent
def srcRead (H : Hp) (e : Ty) : LV → Option (List e.den)
 | .nils => some []
 | .v .str s => castTo (.sl (.int .u8)) (.sl e) (s.map fun b => ((b.toNat : Nat) : Int))
 | l => match slRead H l with | some ⟨e', xs⟩ => castTo (.sl e') (.sl e) xs | none => none
def growRow (d : Nat) (e : Ty) (xs ys : List e.den) (ups : List (Nat × Cell)) : Tst (AV × List (Nat × Cell)) :=
 .chk (xs.length + ys.length ≤ 1099511627776) inferInstance (.ret (.val false [.row d], (d, .live (.row e (xs ++ ys))) :: ups))
def appT (ts : Array Nat) (j : TI) (m : LV) : Bool := Nat.beq ts.size 2 && (Nat.beq (ts.getD 0 0) (ts.getD 1 0) || (match m with | .v .str _ => strTy tab (ts.getD 1 0) | _ => (match slTy tab (ts.getD 1 0) with | some q => Nat.beq j.ty.cells q.ty.cells | none => false)))
def wAppend (dst : Option Nat) (ts : Array Nat) (x y : AV) : Way :=
 match dst, slTy tab (ts.getD 0 0), x, y with
 | some d, some j, .val false [l], .val false [m] => if appT tab ts j m then (match l with
  | .nils => { rd := slRd m, wr := [d], run := fun H => if isAbsent (H d) && !(memN d (slRd m)) && j.ty.pure && !(Nat.beq j.ty.cells 0) then (match srcRead H j.ty m with
   | some ys => growRow d j.ty [] ys []
   | none => .fail) else .fail }
  | .row id => { rd := slRd m, wr := [id, d], run := fun H => if isAbsent (H d) && !(Nat.beq id d) && !(memN id (slRd m)) && !(memN d (slRd m)) && j.ty.pure && !(Nat.beq j.ty.cells 0) then (match H id with
   | .live (.row e xs) => (match castTo (.sl e) (.sl j.ty) xs, srcRead H j.ty m with
    | some xs, some ys => growRow d j.ty xs ys [(id, .dead)]
    | _, _ => .fail)
   | _ => .fail) else .fail }
  | .sub id g off => { rd := slRd m, wr := [id, d], run := fun H => if isAbsent (H d) && !(Nat.beq id d) && !(memN id (slRd m)) && !(memN d (slRd m)) && j.ty.pure && !(Nat.beq j.ty.cells 0) then (match H id with
   | .live (.cells g' ls) => (match Nat.beq g g', ls[off]? with
    | true, some (.v (.vec e) xs) => (match castTo (.sl e) (.sl j.ty) xs, srcRead H j.ty m, setLs ls off [.junk] with
     | some xs, some ys, some ls' => growRow d j.ty xs ys [(id, .live (.cells (g' + 2) ls'))]
     | _, _, _ => .fail)
    | _, _ => .fail)
   | _ => .fail) else .fail }
  | _ => .fail) else .fail
 | _, _, _, _ => .fail

def wAppendB (dst : Option Nat) (ts : Array Nat) (x y : AV) : Way :=
 match x with
 | .val false [.mvl id g k key] =>
  let d := 400000 + dst.getD 99999
  let core := wAppend tab dst ts (.val false [.row d]) y
  { wr := id :: d :: (core.rd ++ core.wr), run := fun H => match H id with
   | .live (.mapb g' k' (.vec e) m none) => (match Nat.beq g g', castTo k k' key with
    | true, some key => if isAbsent (H d) && !memN id (d :: (core.rd ++ core.wr)) then
     (core.run (only (upd H d (.live (.row e (mapGet k' (.vec e) key m [])))) (core.rd ++ core.wr))).bind fun r =>
      (match memN d (r.2.map (·.1)), r.2.all fun p => memN p.1 core.wr with
      | true, true => .ret (r.1, r.2 ++ [(id, .live (.mapb (g + 1) k' (.vec e) m (some (key, none))))])
      | _, _ => .fail) else .fail
    | _, _ => .fail)
   | _ => .fail }
 | x => wAppend tab dst ts x y
def wAppendR (dst : Option Nat) (ts : Array Nat) (x y : AV) : Way :=
 match dst, slTy tab (ts.getD 0 0), x, y with
 | some d, some j, .val false [l], .val false [.row s] => if j.ty.pure then wAppendB tab dst ts x y else if appT tab ts j (.row s) then (match l with
  | .nils => { wr := [d, s], run := fun H => if isAbsent (H d) && !(Nat.beq s d) && !(Nat.beq j.ty.cells 0) then (match H s with
   | .live (.row e ys) => (match castTo (.sl e) (.sl j.ty) ys with
    | some ys => growRow d j.ty [] ys [(s, .dead)]
    | none => .fail)
   | _ => .fail) else .fail }
  | .row id => { wr := [d, s, id], run := fun H => if isAbsent (H d) && !(Nat.beq s d) && !(Nat.beq id d) && !(Nat.beq id s) && !(Nat.beq j.ty.cells 0) then (match H s, H id with
   | .live (.row e ys), .live (.row e' xs) => (match castTo (.sl e) (.sl j.ty) ys, castTo (.sl e') (.sl j.ty) xs with
    | some ys, some xs => growRow d j.ty xs ys [(s, .dead), (id, .dead)]
    | _, _ => .fail)
   | _, _ => .fail) else .fail }
  | .sub id g off => { wr := [d, s, id], run := fun H => if isAbsent (H d) && !(Nat.beq s d) && !(Nat.beq id d) && !(Nat.beq id s) && !(Nat.beq j.ty.cells 0) then (match H s, H id with
   | .live (.row e ys), .live (.cells g' ls) => (match Nat.beq g g', ls[off]? with
    | true, some (.v (.vec e') xs) => (match castTo (.sl e) (.sl j.ty) ys, castTo (.sl e') (.sl j.ty) xs, setLs ls off [.junk] with
     | some ys, some xs, some ls' => growRow d j.ty xs ys [(s, .dead), (id, .live (.cells (g' + 2) ls'))]
     | _, _, _ => .fail)
    | _, _ => .fail)
   | _, _ => .fail) else .fail }
  | _ => .fail) else .fail
 | _, _, _, _ => wAppendB tab dst ts x y
def wLen (t : Nat) : AV → Way
 | .val false [.v .str s] => if strTy tab t then .one (.v (.int .i64) (s.length : Int)) else .fail
 | .val false [.nils] => (match slTy tab t with | some _ => .one (.v (.int .i64) 0) | none => .fail)
 | .val false [l] => (match slTy tab t with
  | some _ => { rd := slRd l, run := fun H => match slRead H l with
   | some ⟨_, xs⟩ => .ret (.val false [.v (.int .i64) (xs.length : Int)], [])
   | none => .fail }
  | none => .fail)
 | _ => .fail
def mxI (x y : Int) : Int := if x < y then y else x
def mnI (x y : Int) : Int := if y < x then y else x
def foldI (f : Int → Int → Int) (k : IntKind) : Int → List AV → Option Int
 | x, [] => some x
 | x, .val false [.v (.int k') y] :: l => if k = k' then foldI f k (f x y) l else none
 | _, _ => none
def wMinMax (f : Int → Int → Int) : List AV → Way
 | .val false [.v (.int k) x] :: l => (match foldI f k x l with | some y => .one (.v (.int k) y) | none => .fail)
 | _ => .fail

def wExtract (t : AV) (n : Nat) : Way :=
 match t with
 | .tup vs => (match vs[n]? with | some (g, ls) => .val (.val g ls) | none => .fail)
 | _ => .fail

def hasBox (k e : Ty) (key : k.den) (m : List (k.den × Option e.den)) : Bool := (mapGet k (.ptr e) key m none).isSome
def boxOf (k e : Ty) (key : k.den) (m : List (k.den × Option e.den)) : e.den := (mapGet k (.ptr e) key m none).getD e.dflt
def ownArg (io : Bool) (τ : Ty) : AV → List Nat
 | .val false [.ptr id 0] => (match io, τ with | true, _ => [id] | false, .ptr _ => [id] | _, _ => [])
 | .val false [.row id] => (match io, τ with | false, .vec _ => [id] | _, _ => [])
 | .val false [.mbr id] => (match io, τ with | false, .mapb _ _ => [id] | _, _ => [])
 | _ => []
def argRd (io : Bool) (τ : Ty) (a : AV) : List Nat :=
 match ownArg io τ a, a, io with
 | [], .val _ ls, false => slRds ls
 | _, _, _ => []
def ownIn (H : Hp) (τ : Ty) (g : Bool) (ls : List LV) : Option τ.den :=
 match g == !τ.one with
 | true => (match τ, ls with
  | .vec e, [.row id] => (match H id with | .live (.row e' xs) => castTo (.vec e') (.vec e) xs | _ => none)
  | .mapb k e, [.mbr id] => (match H id with | .live (.mapb _ k' e' mm none) => castTo (.mapb k' e') (.mapb k e) mm | _ => none)
  | τ, ls => asmAll H τ ls)
 | false => none
def argIn (H : Hp) (io : Bool) (τ : Ty) (a : AV) : Option τ.den :=
 match io, a with
 | true, .val false [.ptr id 0] => (match H id with | .live (.cells _ ls) => asmAll (fun _ => .absent) τ ls | _ => none)
 | false, .val g ls => ownIn H τ g ls
 | _, _ => none
def argsIn (H : Hp) : (ps : List (Bool × Ty)) → List AV → Option (ps.foldr (fun p t => Ty.pair p.2 t) .unit).den
 | [], [] => some ()
 | p :: ps, a :: as_ => (match argIn H p.1 p.2 a, argsIn H ps as_ with | some x, some xs => some (x, xs) | _, _ => none)
 | _, _ => none
def verOf : Cell → Nat
 | .live (.cells g _) => g
 | _ => 0
def outsOf (H : Hp) : (ps : List (Bool × Ty)) → List AV → (((ps.filter (·.1)).map (·.2)).foldr Ty.pair .unit).den → List (Nat × Cell)
 | [], _, _ => []
 | (false, τ) :: ps, a :: as_, x => (ownArg false τ a).map (fun i => (i, Cell.dead)) ++ outsOf H ps as_ x
 | (true, τ) :: ps, .val false [.ptr id 0] :: as_, x => (id, .live (.cells (verOf (H id) + 2) (flat τ x.1))) :: outsOf H ps as_ x.2
 | (true, _) :: ps, _ :: as_, x => outsOf H ps as_ x.2
 | (false, _) :: _, [], _ => []
 | (true, _) :: _, [], _ => []
def splitRes : (outs : List Ty) → (more : List Ty) → ((outs ++ more).foldr Ty.pair .unit).den → (outs.foldr Ty.pair .unit).den × (more.foldr Ty.pair .unit).den
 | [], _, x => ((), x)
 | _ :: outs, more, x => let r := splitRes outs more x.2; ((x.1, r.1), r.2)
def resLeaves (d : Nat) (τ : Ty) (x : τ.den) : (Bool × List LV) × List (Nat × Cell) :=
 match τ, x with
 | .vec e, x => ((false, [.row d]), [(d, .live (.row e x))])
 | .mapb k e, x => ((false, [.mbr d]), [(d, .live (.mapb 0 k e x none))])
 | .ptr e, none => ((false, [.nilp]), [(d, .live (.row .unit []))])
 | .ptr e, some y => ((false, [.ptr d 0]), [(d, .live (.cells 0 (flat e y)))])
 | .pair a b, x => ((true, flat (.pair a b) x), [])
 | .unit, x => ((true, []), [])
 | τ, x => ((false, flat τ x), [])
def resAll (d : Nat) : Nat → (outs : List Ty) → (outs.foldr Ty.pair .unit).den → List (Bool × List LV) × List (Nat × Cell)
 | _, [], _ => ([], [])
 | j, τ :: outs, x => let r := resLeaves (d + 100000 * j) τ x.1; let s := resAll d (j + 1) outs x.2; (r.1 :: s.1, r.2 ++ s.2)
def resIds (d : Nat) : Nat → List Ty → List Nat
 | _, [] => []
 | j, .vec _ :: outs => (d + 100000 * j) :: resIds d (j + 1) outs
 | j, .mapb _ _ :: outs => (d + 100000 * j) :: resIds d (j + 1) outs
 | j, .ptr _ :: outs => (d + 100000 * j) :: resIds d (j + 1) outs
 | j, _ :: outs => resIds d (j + 1) outs
def argOwns : List (Bool × Ty) → List AV → List Nat
 | p :: ps, a :: as_ => ownArg p.1 p.2 a ++ argOwns ps as_
 | _, _ => []
def rdIds : List (Bool × Ty) → List AV → List Nat
 | p :: ps, a :: as_ => argRd p.1 p.2 a ++ rdIds ps as_
 | _, _ => []
def Ty.vecP : Ty → Bool
 | .vec _ => true
 | _ => false
def Ty.mapP : Ty → Bool
 | .mapb _ _ => true
 | .ptr _ => true
 | _ => false
def ptrBr {α : Type} : (outs : List Ty) → (outs.foldr Ty.pair .unit).den → ((outs.foldr Ty.pair .unit).den → Tst α) → Tst α
 | [], x, k => k x
 | .ptr e :: outs, x, k => .br x.1.isSome (ptrBr outs x.2 fun y => k (some (x.1.getD e.dflt), y)) (ptrBr outs x.2 fun y => k (none, y))
 | _ :: outs, x, k => ptrBr outs x.2 fun y => k (x.1, y)
def rowish : Cell → Bool
 | .live (.row e _) => e.pure
 | .live (.mapo _ _ _) => true
 | .frz _ _ => true
 | .frzm _ _ _ => true
 | _ => false
def avOf : List (Bool × List LV) → AV
 | [(g, ls)] => .val g ls
 | vs => .tup vs
def freezeUps (H : Hp) : List Nat → List (Nat × Cell)
 | [] => []
 | id :: l => match H id with | .live (.row e xs) => (id, .frz e xs) :: freezeUps H l | .live (.mapo k e mm) => (id, .frzm k e mm) :: freezeUps H l | _ => freezeUps H l
def wCallF (F : FunE) (dst : Option Nat) (as_ : List AV) : Way :=
 let d := dst.getD 99999
 let lends := !(F.outs.all Ty.flatB && (F.ins.all fun p => !p.1 || p.2.flatB))
 let rows := rdIds F.ins as_
 let owns := argOwns F.ins as_
 let news := resIds d 0 F.outs
 { rd := if lends then [] else rows, wr := owns ++ news ++ (if lends then rows else []), run := fun H => if nodupN (owns ++ news) && (owns.all fun i => !memN i rows) && (news.all fun i => isAbsent (H i)) && (F.ins.all fun p => p.1 || p.2.pure || p.2.vecP) && (F.outs.all fun τ => τ.pure || τ.vecP || τ.mapP) && (!lends || rows.all fun i => rowish (H i)) then (match argsIn H F.ins as_ with
  | some xs => .opt (F.f xs) fun r =>
   let s := splitRes F.outs _ r
   ptrBr F.outs s.1 fun s1 =>
   let q := resAll d 0 F.outs s1
   .ret (avOf q.1, outsOf H F.ins as_ s.2 ++ q.2 ++ (if lends then freezeUps H rows else []))
  | none => .fail) else .fail }
def wCallRow (e : Ty) (f : List e.den → Option (List e.den)) (as_ : List AV) : Way :=
 match as_ with
 | [.val false [.row id]] => { wr := [id], run := fun H => match H id with
  | .live (.row e' xs) => (match castTo (.vec e') (.vec e) xs with
   | some xs => .opt (f xs) fun ys => .ret (.tup [], [(id, .live (.row e ys))])
   | none => .fail)
  | _ => .fail }
 | _ => .fail
def wCallM (F : FunE) (dst : Option Nat) (as_ : List AV) : Way :=
 match as_ with
 | .val false [.mel id g k key 0] :: as' =>
  let d := 300000 + dst.getD 99999
  let core := wCallF F dst (.val false [.ptr d 0] :: as')
  { wr := id :: d :: (core.rd ++ core.wr), run := fun H => match H id with
   | .live (.mapb g' k' (.ptr e) m none) => (match Nat.beq g g', castTo k k' key with
    | true, some key => if isAbsent (H d) && !memN id (d :: (core.rd ++ core.wr)) then
     (core.run (only (upd H d (.live (.cells 0 (flat e (boxOf k' e key m))))) (core.rd ++ core.wr))).bind fun r =>
      (match putH (fun _ => .absent) r.2 d, r.2.all fun p => memN p.1 core.wr with
      | .live (.cells gg ls), true => (match asmAll (fun _ => .absent) e ls, Nat.beq (gg % 2) 0 with
       | some y, true => .ret (r.1, r.2 ++ [(d, .dead), (id, .live (.mapb g k' (.ptr e) (mapPut k' (.ptr e) key (some y) m) none))])
       | _, _ => .fail)
      | _, _ => .fail) else .fail
    | _, _ => .fail)
   | _ => .fail }
 | as_ => wCallF F dst as_
def flatL : LV → Bool
 | .v τ _ => τ.pure
 | _ => false
def flatAV : AV → Bool
 | .val _ ls => ls.all flatL
 | .tup vs => vs.all fun p => p.2.all flatL
 | _ => false
def wCallR (F : FunE) (dst : Option Nat) (as_ : List AV) : Way :=
 match as_ with
 | .val false [.rel id i 0] :: as' =>
  let d := 600000 + dst.getD 99999
  let core := wCallF F dst (.val false [.ptr d 0] :: as')
  { wr := id :: d :: (core.rd ++ core.wr), run := fun H => match H id with
   | .live (.row e xs) => if isAbsent (H d) && !memN id (d :: (core.rd ++ core.wr)) then
    (core.run (only (upd H d (.live (.cells 1 (flat e (xs.getD i e.dflt))))) (core.rd ++ core.wr))).bind fun r =>
     (match putH (fun _ => .absent) r.2 d, r.2.all (fun p => memN p.1 core.wr), flatAV r.1 with
     | .live (.cells gg ls), true, true => (match asmAll (fun _ => .absent) e ls, Nat.beq (gg % 2) 1 with
      | some y, true => .ret (r.1, r.2 ++ [(d, .dead), (id, .live (.row e (xs.set i y)))])
      | _, _ => .fail)
     | _, _, _ => .fail) else .fail
   | _ => .fail }
 | as_ => wCallM F dst as_
def liveCells : Cell → Bool
 | .live (.cells _ _) => true
 | _ => false
def wLive (id : Nat) (W : Way) : Way := { rd := W.rd, wr := W.wr, run := fun H => match liveCells (H id) with | true => W.run H | false => .fail }
def wMakeFunc (fn : Fn) (fs cs : List AV) : Way :=
 match fn, fs, cs with
 | .func f, [], [] => .one (.v (.fnv f) ())
 | .func f, [.val false [.ptr id 0]], [] => { rd := [id], run := fun H => match H id with
  | .live (.cells _ _) => .ret (.val false [.clo f true id], [])
  | _ => .fail }
 | .func f, [], [.val false [.ptr id 0]] => { rd := [id], run := fun H => match H id with
  | .live (.cells _ _) => .ret (.val false [.clo f false id], [])
  | _ => .fail }
 | _, _, _ => .fail
def wCall (dst : Option Nat) (c : Call) (args : List AV) (callee : Option AV) : Way :=
 match c.callee with
 | .builtin .len => (match args, Nat.beq c.argTypes.size 1 with | [a], true => wLen tab (c.argTypes.getD 0 0) a | _, _ => .fail)
 | .builtin .append => (match args with | [a, b] => wAppendR tab dst c.argTypes a b | _ => .fail)
 | .builtin .max => wMinMax mxI args
 | .builtin .min => wMinMax mnI args
 | .value _ => (match callee with
  | some (.val false [.v (.fnv f) _]) => (match T f with
   | some F => (match F.row with
    | some q => wCallRow q.1 q.2 args
    | none => wCallR F dst args)
   | none => .fail)
  | some (.val false [.clo f b id]) => (match T f with
   | some F => (match F.row with
    | some _ => .fail
    | none => wLive id (match b with | true => wCallF F dst (.val false [.ptr id 0] :: args) | false => wCallF F dst (args ++ [.val false [.ptr id 0]])))
   | none => .fail)
  | _ => .fail)
 | _ => .fail

def Ty.keyB : Ty → Bool
 | .bool => true
 | .int _ => true
 | .str => true
 | _ => false
def mapTy (t : Nat) : Option (TI × TI) := match tab t with
 | some i => (match i.agg, i.ty with
  | false, .map _ _ => (match tab i.key, tab i.elem with
   | some kj, some ej => (match kj.agg, kj.ty.keyB with | false, true => some (kj, ej) | _, _ => none)
   | _, _ => none)
  | _, _ => none)
 | none => none
def wMakeMap (dst : Option Nat) (t : Nat) : Way :=
 match dst, mapTy tab t with
 | some d, some (kj, ej) => { wr := [d], run := fun H => if isAbsent (H d) then .ret (.val false [.mapr d], [(d, .live (.mapo kj.ty ej.ty []))]) else .fail }
 | _, _ => .fail
def wMapUpdate (t : Nat) (a k x : AV) : Way :=
 match mapTy tab t, a, k, x with
 | some (kj, _), .val false [.mapr id], .val false ks, .val g ls => { wr := [id], run := fun H => match H id with
  | .live (.mapo τ σ m) => if decide (kj.ty = τ) && (g == !σ.one) then (match asmAll (fun _ => .absent) τ ks, asmAll (fun _ => .absent) σ ls with
   | some k, some y => .ret (.undef, [(id, .live (.mapo τ σ (mapPut τ σ k y m)))])
   | _, _ => .fail) else .fail
  | _ => .fail }
 | _, _, _, _ => .fail
def mapRead (H : Hp) : LV → Option ((k : Ty) × (e : Ty) × List (k.den × e.den))
 | .v (.fmap k e) m => some ⟨k, e, m⟩
 | .mapr id => match H id with
  | .live (.mapo k e m) => some ⟨k, e, m⟩
  | .frzm k e m => some ⟨k, e, m⟩
  | _ => none
 | _ => none
def wLookup (t : Nat) (a k : AV) (ok : Bool) : Way :=
 match mapTy tab t, a, k with
 | some (kj, ej), .val false [l], .val false ks => { rd := slRd l, run := fun H => match mapRead H l with
  | some ⟨τ, σ, m⟩ => if decide (kj.ty = τ) && (ej.agg == !σ.one) then (match asmAll (fun _ => .absent) τ ks, asmAll (fun _ => .absent) σ ej.zero with
   | some k, some z => let y := mapGet τ σ k m z
    .ret (if ok then .tup [(!σ.one, flat σ y), (false, [.v .bool (mapHas τ σ k m)])] else .val (!σ.one) (flat σ y), [])
   | _, _ => .fail) else .fail
  | none => .fail }
 | _, _, _ => .fail

def mapTyA (t : Nat) : Option (TI × TI) := match tab t with
 | some i => (match i.agg, i.ty with
  | false, .map _ _ => (match tab i.key, tab i.elem with
   | some kj, some ej => (match kj.agg, kj.fields, kj.ty, tab kj.elem with
    | true, [], .pair .str .str, some q => (match q.agg, q.ty with | false, .str => some (kj, ej) | _, _ => none)
    | _, _, _, _ => none)
   | _, _ => none)
  | _, _ => none)
 | none => none
def wMakeMapA (dst : Option Nat) (t : Nat) : Way :=
 match mapTyA tab t, dst with
 | some (kj, ej), some d => { wr := [d], run := fun H => if isAbsent (H d) then .ret (.val false [.mapr d], [(d, .live (.mapo (.pair .str .str) ej.ty []))]) else .fail }
 | _, _ => wMakeMap tab dst t
def wMapUpdateA (t : Nat) (a k x : AV) : Way :=
 match mapTyA tab t, a, k, x with
 | some _, .val false [.mapr id], .val true ks, .val g ls => { wr := [id], run := fun H => match H id with
  | .live (.mapo (.pair .str .str) σ m) => if (g == !σ.one) then (match asmAll (fun _ => .absent) (.pair .str .str) ks, asmAll (fun _ => .absent) σ ls with
   | some k, some y => .ret (.undef, [(id, .live (.mapo (.pair .str .str) σ (mapPut (.pair .str .str) σ k y m)))])
   | _, _ => .fail) else .fail
  | _ => .fail }
 | _, _, _, _ => .fail
def wLookupA (t : Nat) (a k : AV) (ok : Bool) : Way :=
 match mapTyA tab t, a, k with
 | some (_, ej), .val false [l], .val true ks => { rd := slRd l, run := fun H => match mapRead H l with
  | some ⟨.pair .str .str, σ, m⟩ => if (ej.agg == !σ.one) then (match asmAll (fun _ => .absent) (.pair .str .str) ks, asmAll (fun _ => .absent) σ ej.zero with
   | some k, some z => let y := mapGet (.pair .str .str) σ k m z
    .ret (if ok then .tup [(!σ.one, flat σ y), (false, [.v .bool (mapHas (.pair .str .str) σ k m)])] else .val (!σ.one) (flat σ y), [])
   | _, _ => .fail) else .fail
  | _ => .fail }
 | _, _, _ => wLookup tab t a k ok

def wRange (dst : Option Nat) (t : Nat) (a : AV) : Way :=
 match dst, mapTy tab t, a with
 | some d, some _, .val false [.mapr id] => { wr := [id, d], run := fun H => if isAbsent (H d) && !(Nat.beq id d) then (match H id with
  | .live (.mapo k e m) => .ret (.val false [.itr d], [(id, .frzm k e m), (d, .live (.iter k e none m))])
  | .frzm k e m => .ret (.val false [.itr d], [(id, .frzm k e m), (d, .live (.iter k e none m))])
  | _ => .fail) else .fail }
 | some d, some _, .val false [.v (.fmap k e) m] => { wr := [d], run := fun H => if isAbsent (H d) then .ret (.val false [.itr d], [(d, .live (.iter k e none m))]) else .fail }
 | _, _, _ => .fail
def wEntry (a : AV) : Way :=
 match a with
 | .val false [.itr id] => { rd := [id], run := fun H => match H id with
  | .live (.iter k e (some p) _) => .ret (.tup [(!k.one, flat k p.1), (!e.one, flat e p.2)], [])
  | _ => .fail }
 | _ => .fail
def wNilCheck : AV → Way
 | .val false [.ptr id off] => { rd := [id], run := fun H => match H id with
  | .live (.cells _ _) => .ret (.val false [.ptr id off], [])
  | _ => .fail }
 | .val false [.rel id n off] => { rd := [id], run := fun H => match H id with
  | .live (.row _ _) => .ret (.val false [.rel id n off], [])
  | _ => .fail }
 | .val false [.pel τ x off] => .one (.pel τ x off)
 | _ => .fail
def thaw (H : Hp) : LV → LV
 | .row id => match H id with
  | .live (.row e xs) => (match e.pure with | true => .v (.sl e) xs | false => .junk)
  | .frz e xs => .v (.sl e) xs
  | _ => .junk
 | .mapr id => match H id with
  | .live (.mapo k e mm) => .v (.fmap k e) mm
  | .frzm k e mm => .v (.fmap k e) mm
  | _ => .junk
 | .sub id g off => match H id with
  | .live (.cells g' ls) => (match Nat.beq g g', ls[off]? with
   | true, some (.v (.vec e) xs) => (match e.pure with | true => .v (.sl e) xs | false => .junk)
   | _, _ => .junk)
  | _ => .junk
 | .vw e xs => .v (.sl e) xs
 | l => l
def fz1 (H : Hp) : LV → List (Nat × Cell)
 | .row id => match H id with
  | .live (.row e xs) => (match e.pure with | true => [(id, .frz e xs)] | false => [])
  | _ => []
 | .mapr id => match H id with
  | .live (.mapo k e mm) => [(id, .frzm k e mm)]
  | _ => []
 | .sub id g off => match H id with
  | .live (.cells g' ls) => (match Nat.beq g g', ls[off]? with
   | true, some (.v (.vec e) xs) => (match e.pure with | true => [(id, .live (.cells (g' + 2) (ls.set off (.v (.sl e) xs))))] | false => [])
   | _, _ => [])
  | _ => []
 | _ => []
def fzL (H : Hp) : List LV → List LV × List (Nat × Cell)
 | [] => ([], [])
 | l :: ls => let r := fzL (putH H (fz1 H l)) ls; (thaw H l :: r.1, fz1 H l ++ r.2)
def fzA (H : Hp) : AV → AV × List (Nat × Cell)
 | .val g ls => let r := fzL H ls; (.val g r.1, r.2)
 | v => (v, [])
def fzPs (H : Hp) : List (Nat × AV) → List (Nat × AV) × List (Nat × Cell)
 | [] => ([], [])
 | p :: ps => let q := fzA H p.2; let r := fzPs (putH H q.2) ps; ((p.1, q.1) :: r.1, q.2 ++ r.2)
def avRds : AV → List Nat
 | .val _ ls => slRds ls
 | _ => []
def psRds : List (Nat × AV) → List Nat
 | [] => []
 | p :: ps => avRds p.2 ++ psRds ps
def wFz {β : Type} (ids K : List Nat) (tr : Hp → β × List (Nat × Cell)) (core : β → Way) : Way :=
 { wr := K ++ ids, run := fun H => let q := tr H
  match (core q.1).rd, disjN ids K with
  | [], true => ((core q.1).run (only (putH H q.2) (core q.1).wr)).bind fun r => .ret (r.1, q.2 ++ r.2)
  | _, _ => .fail }
def wBuildSliceF (dst : Option Nat) (t len : Nat) (ps : List (Nat × AV)) : Way :=
 match psRds ps, dst with
 | [], _ => wBuildSlice tab dst t len ps
 | ids, some d => wFz ids [d] (fun H => fzPs H ps) fun ps => wBuildSlice tab dst t len ps
 | _, none => .fail
def wMapUpdateF (t : Nat) (a k x : AV) : Way :=
 match avRds x, a with
 | [], _ => wMapUpdate tab t a k x
 | ids, .val false [.mapr id] => wFz ids [id] (fun H => fzA H x) fun x => wMapUpdate tab t a k x
 | _, _ => .fail
def mapTyB (t : Nat) : Option (TI × TI × Ty) := match mapTy tab t, tab t with
 | some (kj, ej), some i => (match i.ty with
  | .map _ (.ptr e) => (match ej.agg, ej.ty.one, ej.zero with | false, true, [.nilp] => some (kj, ej, .ptr e) | _, _, _ => none)
  | .map _ (.vec e) => (match ej.agg, ej.zero, e.pure with | false, [.nils], true => some (kj, ej, .vec e) | _, _, _ => none)
  | _ => none)
 | _, _ => none
def wMakeMapB (dst : Option Nat) (t : Nat) : Way :=
 match mapTyB tab t, dst with
 | some (kj, _, σ), some d => { wr := [d], run := fun H => if isAbsent (H d) then .ret (.val false [.mbr d], [(d, .live (.mapb 0 kj.ty σ [] none))]) else .fail }
 | _, _ => wMakeMapA tab dst t
def wMapUpdateB (t : Nat) (a k x : AV) : Way :=
 match a, x with
 | .val false [.mbr id], .val false [.ptr id2 0] => (match mapTy tab t, k with
  | some (kj, _), .val false ks => { wr := [id, id2], run := fun H => match H id, H id2 with
   | .live (.mapb g τ (.ptr e) m none), .live (.cells g2 ls) => if decide (kj.ty = τ) && !(Nat.beq id id2) && Nat.beq (g2 % 2) 0 then (match asmAll (fun _ => .absent) τ ks, asmAll (fun _ => .absent) e ls with
    | some k, some y => .ret (.undef, [(id, .live (.mapb (g + 1) τ (.ptr e) (mapPut τ (.ptr e) k (some y) m) none)), (id2, .dead)])
    | _, _ => .fail) else .fail
   | _, _ => .fail }
  | _, _ => .fail)
 | .val false [.mbr id], .val false [.row id2] => (match mapTy tab t, k with
  | some (kj, _), .val false ks => { wr := [id, id2], run := fun H => match H id, H id2 with
   | .live (.mapb g τ (.vec e) m (some (hk, none))), .live (.row e' xs) => if decide (kj.ty = τ) && !(Nat.beq id id2) then (match asmAll (fun _ => .absent) τ ks, castTo (.vec e') (.vec e) xs with
    | some k, some xs => .chk (eqV τ k hk = true) inferInstance (.ret (.undef, [(id, .live (.mapb (g + 1) τ (.vec e) (mapPut τ (.vec e) k xs m) none)), (id2, .dead)]))
    | _, _ => .fail) else .fail
   | _, _ => .fail }
  | _, _ => .fail)
 | _, _ => wMapUpdateF tab t a k x
def wLookupB (t : Nat) (a k : AV) (ok : Bool) : Way :=
 match a with
 | .val false [.mbr id] => (match mapTy tab t, k, ok with
  | some (kj, ej), .val false ks, false => { rd := [id], run := fun H => match H id, ej.agg, ej.zero with
   | .live (.mapb g τ (.ptr e) m none), false, [.nilp] => if decide (kj.ty = τ) then (match asmAll (fun _ => .absent) τ ks with
    | some k => .br (mapGet τ (.ptr e) k m none).isSome (.ret (.val false [.mel id g τ k 0], [])) (.ret (.val false [.nilp], []))
    | none => .fail) else .fail
   | .live (.mapb g τ (.vec e) m none), false, [.nils] => if decide (kj.ty = τ) then (match asmAll (fun _ => .absent) τ ks with
    | some k => .ret (.val false [.mvl id g τ k], [])
    | none => .fail) else .fail
   | _, _, _ => .fail }
  | _, _, _ => .fail)
 | _ => wLookupA tab t a k ok
def pureL : LV → Bool
 | .v τ _ => τ.pure
 | .nils => true
 | .nilm => true
 | .nilp => true
 | _ => false
def wLoadB (t : Nat) (a : AV) : Way :=
 match a with
 | .val false [.mel id g k key off] => (match tab t with
  | some i => { rd := [id], run := fun H => match H id with
   | .live (.mapb g' k' (.ptr e) m none) => (match Nat.beq g g', castTo k k' key with
    | true, some key => (match takeN i.ty.cells ((flat e (boxOf k' e key m)).drop off) with
     | some ns => if ns.all pureL then .ret (.val i.agg ns, []) else .fail
     | none => .fail)
    | _, _ => .fail)
   | _ => .fail }
  | none => .fail)
 | a => wLoad tab t a
def wFieldAddrB (s : Nat) (a : AV) (f : Nat) : Way :=
 match a with
 | .val false [.mel id g k key off] => (match fieldOff tab s f with
  | some o => { rd := [id], run := fun H => match H id with
   | .live (.mapb g' k' (.ptr _) _ none) => (match Nat.beq g g', decide (k = k') with
    | true, true => .ret (.val false [.mel id g k key (off + o)], [])
    | _, _ => .fail)
   | _ => .fail }
  | none => .fail)
 | a => wFieldAddr tab s a f
def wNilCheckB (a : AV) : Way :=
 match a with
 | .val false [.mel id g k key off] => { rd := [id], run := fun H => match H id with
  | .live (.mapb g' k' (.ptr _) _ none) => (match Nat.beq g g', decide (k = k') with
   | true, true => .ret (.val false [.mel id g k key off], [])
   | _, _ => .fail)
  | _ => .fail }
 | a => wNilCheck a
def wConvertB (s d : Nat) (x : AV) : Way :=
 match x with
 | .val false [.row id] => (match Nat.beq s d, slTy tab s with
  | true, some q => { wr := [id], run := fun H => match q.agg, q.ty, H id with
   | false, .int .u8, .live (.row (.int .u8) xs) => .chk (¬ xs.length = 0) inferInstance (.ret (.val false [.v (.sl (.int .u8)) xs], [(id, .dead)]))
   | _, _, _ => .fail }
  | _, _ => .fail)
 | x => wConvert tab s d x
def ptrTy (t : Nat) : Bool := match tab t with
 | some i => (match i.agg, i.ty with | false, .ptr _ => true | _, _ => false)
 | none => false
def wBinB (op : BinOp) (t : Nat) (x y : AV) : Way :=
 match x, y with
 | .val false [.nilp], .val false [.nilp] => (match ptrTy tab t, op with
  | true, .eql => .one (.v .bool true)
  | true, .neq => .one (.v .bool false)
  | _, _ => .fail)
 | .val false [.mel id g k key off], .val false [.nilp] => { rd := [id], run := fun H => match H id with
  | .live (.mapb g' k' (.ptr _) _ none) => (match Nat.beq g g', decide (k = k'), ptrTy tab t, op with
   | true, true, true, .eql => .ret (.val false [.v .bool false], [])
   | true, true, true, .neq => .ret (.val false [.v .bool true], [])
   | _, _, _, _ => .fail)
  | _ => .fail }
 | x, y => wBin tab op t x y
def wBinN (op : BinOp) (t : Nat) (X : AV) (y : Operand) (Y : AV) : Way :=
 match X, y with
 | .val false [.v (.nsl _) xs], .const (.slice none 0 0) => (match slTy tab t, op with
  | some _, .eql => .one (.v .bool xs.isEmpty)
  | some _, .neq => .one (.v .bool (!xs.isEmpty))
  | _, _ => .fail)
 | X, _ => wBinB tab op t X Y
def unpin : AV → AV
 | .val false [.pptr id off _] => .val false [.ptr id off]
 | v => v
def pinAt (off : Nat) : List (Nat × Nat × Bool) → Option (Nat × Bool)
 | [] => none
 | q :: ps => match Nat.beq q.1 off with | true => some q.2 | false => pinAt off ps
def mapTB (t : Nat) : Bool := match tab t with
 | some i => (match i.agg, i.ty with | false, .map _ _ => true | _, _ => false)
 | none => false
def wLoadP (dst : Option Nat) (t : Nat) (a : AV) : Way :=
 match a, dst, mapTB tab t with
 | .val false [.pptr id off ps], _, true => (match pinAt off ps with
  | some (m, b) => { rd := [id], run := fun H => match H id with
   | .live (.cells _ ls) => (match ls[off]? with
    | some .cst => .ret (.val false [match b with | true => .mbr m | false => .mapr m], [])
    | _ => .fail)
   | _ => .fail }
  | none => .fail)
 | .val false [.pptr id off _], _, false => wLoadB tab t (.val false [.ptr id off])
 | .val false [.ptr id off], some dd, true => let d := 500000 + dd
  { wr := [id, d], run := fun H => match H id with
   | .live (.cells g ls) => (match ls[off]? with
    | some (.v (.map k e) mm) => if isAbsent (H d) && !(Nat.beq id d) then .ret (.val false [.mfl d id (g + 2) off], [(d, .live (.mapo k e mm)), (id, .live (.cells (g + 2) (ls.set off .junk)))]) else .fail
    | some (.v (.fmap k e) mm) => .ret (.val false [.v (.fmap k e) mm], [])
    | _ => .fail)
   | _ => .fail }
 | a, _, _ => wLoadB tab t a
def wFieldAddrP (s : Nat) (a : AV) (f : Nat) : Way :=
 match a with
 | .val false [.pptr id off ps] => (match fieldOff tab s f with
  | some o => { rd := [id], run := fun H => match H id with
   | .live (.cells _ _) => .ret (.val false [.pptr id (off + o) ps], [])
   | _ => .fail }
  | none => .fail)
 | a => wFieldAddrB tab s a f
def wNilCheckP (a : AV) : Way :=
 match a with
 | .val false [.pptr id off ps] => { rd := [id], run := fun H => match H id with
  | .live (.cells _ _) => .ret (.val false [.pptr id off ps], [])
  | _ => .fail }
 | a => wNilCheckB a
def wLoadR (dst : Option Nat) (t : Nat) (a : AV) : Way :=
 match a with
 | .val false [.rel id n off] => (match tab t with
  | some i => { rd := [id], run := fun H => match H id with
   | .live (.row e xs) => (match takeN i.ty.cells ((flat e (xs.getD n e.dflt)).drop off) with
    | some ns => if ns.all pureL then .ret (.val i.agg ns, []) else .fail
    | none => .fail)
   | _ => .fail }
  | none => .fail)
 | a => wLoadP tab dst t a
def wMapUpdateP (t : Nat) (a k x : AV) : Way :=
 match a with
 | .val false [.mfl m id g0 off] =>
  let core := wMapUpdateB tab t (.val false [.mapr m]) k x
  { wr := id :: m :: (core.rd ++ core.wr), run := fun H => match H id with
   | .live (.cells g ls) => (match Nat.beq g g0, Nat.blt off ls.length, memN id (m :: (core.rd ++ core.wr)) with
    | true, true, false => (core.run (only H (core.rd ++ core.wr))).bind fun r =>
     (match putH H r.2 m, r.2.all fun p => memN p.1 core.wr with
     | .live (.mapo k e mm), true => .ret (r.1, r.2 ++ [(m, .dead), (id, .live (.cells (g + 2) (ls.set off (.v (.map k e) mm))))])
     | _, _ => .fail)
    | _, _, _ => .fail)
   | _ => .fail }
 | .val false [.mapr id] => (match k with
  | .val true _ => wMapUpdateA tab t a k x
  | _ => wMapUpdateB tab t a k x)
 | a => wMapUpdateB tab t a k x
def wRangeP (dst : Option Nat) (t : Nat) (a : AV) : Way :=
 match a with
 | .val false [.mfl m id g0 off] =>
  let core := wRange tab dst t (.val false [.mapr m])
  { wr := id :: m :: (core.rd ++ core.wr), run := fun H => match H id with
   | .live (.cells g ls) => (match Nat.beq g g0, ls[off]?, memN id (m :: (core.rd ++ core.wr)) with
    | true, some .junk, false => (core.run (only H (core.rd ++ core.wr))).bind fun r =>
     (match putH H r.2 m, r.2.all fun p => memN p.1 core.wr with
     | .frzm k e mm, true => .ret (r.1, r.2 ++ [(id, .live (.cells (g + 2) (ls.set off (.v (.fmap k e) mm))))])
     | _, _ => .fail)
    | _, _, _ => .fail)
   | _ => .fail }
 | a => wRange tab dst t a
def wLookupP (t : Nat) (a k : AV) (ok : Bool) : Way :=
 match a with
 | .val false [.mfl m _ _ _] => wLookupB tab t (.val false [.mapr m]) k ok
 | a => wLookupB tab t a k ok
def psPins : List (Nat × AV) → List (Nat × Nat × Bool)
 | [] => []
 | (_, .val _ ls) :: ps => pinsOf 0 ls ++ psPins ps
 | _ :: ps => psPins ps
def wBuildP (t : Nat) (ps : List (Nat × AV)) : Way :=
 match tab t with
 | some i => (match i.fields, psPins ps with
  | [], _ => wBuildA tab t ps
  | _, [] => wBuild tab t ps
  | _, _ => if i.agg && !i.fields.isEmpty then { rd := (psPins ps).map (·.2.1), run := fun H => if (psPins ps).all (pinLive H) then (match buildLs tab pinB i.fields i.zero ps with | some ls => .ret (.val true ls, []) | none => .fail) else .fail } else .fail)
 | none => .fail
def way (E : Env) (o : Oper) : Way :=
 match o.op with
 | .move x => .val (evalO E x)
 | .assign x => .val (evalO E x)
 | .pick c a b => wPick (evalO E c) (evalO E a) (evalO E b)
 | .nilCheck x => wNilCheckP (evalO E x)
 | .alloc t => (match tab t with | some i => wBox o.dst (.val true i.zero) | none => .fail)
 | .box _ x => wBoxP o.dst (evalO E x)
 | .build t ps => wBuildP tab t (ps.toList.map fun p => (p.1, evalO E p.2))
 | .buildSlice t n ps => wBuildSliceF tab o.dst t n (ps.toList.map fun p => (p.1, evalO E p.2))
 | .load t a => wLoadR tab o.dst t (evalO E a)
 | .store t a x => wStore tab t (unpin (evalO E a)) (evalO E x)
 | .binOp op t x y _ => wBinN tab op t (evalO E x) y (evalO E y)
 | .unOp op _ x => wUn op (evalO E x)
 | .convert s d x => wConvertB tab s d (evalO E x)
 | .makeSlice t l c => wMakeSlice tab o.dst t (evalO E l) (evalO E c)
 | .slice t x lo hi none => wSlice tab o.dst t (evalO E x) (lo.map (evalO E)) (hi.map (evalO E))
 | .fieldAddr s x f => wFieldAddrP tab s (evalO E x) f
 | .field s x f => wField tab s (evalO E x) f
 | .indexAddr t x i => wIndexAddr tab t (evalO E x) (evalO E i)
 | .index t x i => wIndex tab t (evalO E x) (evalO E i)
 | .extract t n => wExtract (evalO E t) n
 | .call c => wCall tab T o.dst c (c.args.toList.map (evalO E)) (match c.callee with | .value f => some (evalO E f) | _ => none)
 | .makeMap t none => wMakeMapB tab o.dst t
 | .mapUpdate t m k x => wMapUpdateP tab t (evalO E m) (evalO E k) (evalO E x)
 | .insert t m k x => wMapUpdateP tab t (evalO E m) (evalO E k) (evalO E x)
 | .lookup t m k ok => wLookupP tab t (evalO E m) (evalO E k) ok
 | .makeFunc fn fs cs => wMakeFunc fn (fs.toList.map (evalO E)) (cs.toList.map (evalO E))
 | .range t x => wRangeP tab o.dst t (evalO E x)
 | .entry x => wEntry (evalO E x)
 | _ => .fail

def bLV (b : Bool) : AV := .val false [.v .bool b]
def nilWay (t : Nat) (H : Hp) (eq : Bool) : AV → Option (DT (AV × List (Nat × Cell)))
 | .val false [.nils] => (match slTy tab t with | some _ => some (.ret (bLV eq, [])) | none => none)
 | .val false [.v (.nsl _) xs] => (match slTy tab t with | some _ => some (.ret (match eq with | true => bLV xs.isEmpty | false => bLV (!xs.isEmpty), [])) | none => none)
 | .val false [l] => (match slTy tab t, slRead (only H (slRd l)) l with
  | some _, some ⟨_, xs⟩ => some (.may (xs.length = 0) inferInstance (.ret (bLV eq, [])) (.ret (bLV (!eq), [])))
  | _, _ => none)
 | _ => none
def nextWay (H : Hp) : AV → Option (DT (AV × List (Nat × Cell)))
 | .val false [.itr id] => (match H id with
  | .live (.iter k e _ rest) => some (.each rest (.ret (.tup [(false, [.v .bool false])], [])) fun p r => .ret (.tup [(false, [.v .bool true]), (!k.one, flat k p.1), (!e.one, flat e p.2)], [(id, .live (.iter k e (some p) r))]))
  | _ => none)
 | _ => none
def wayD (E : Env) (H : Hp) (o : Oper) : Option (DT (AV × List (Nat × Cell))) :=
 match o.guard with
 | some _ => none
 | none => (match o.op with
  | .binOp .eql t x (.const (.slice none 0 0)) _ => nilWay tab t H true (evalO E x)
  | .binOp .neq t x (.const (.slice none 0 0)) _ => nilWay tab t H false (evalO E x)
  | .next x false => nextWay H (evalO E x)
  | _ => none)
def putE (E : Env) (dst : Option Nat) (v : AV) : Env := match dst with | some d => upd E d v | none => E
def stepT (E : Env) (H : Hp) (o : Oper) : Tst (Env × Hp) :=
 let w := way tab T E o
 (w.run (only H (w.rd ++ w.wr))).bind fun r => match r.2.all fun p => memN p.1 w.wr with
  | true => .ret (putE E o.dst r.1, putH H r.2)
  | false => .fail

inductive Gd where
 | yes | no | ask (s : Nat) (b want : Bool) | bad
def guardOf (ops : Array Oper) (E : Env) (o : Oper) : Gd :=
 match o.guard with
 | none => .yes
 | some (j, want) => match ops[j]? with
  | some oj => (match oj.dst with
   | some s => (match E s with
    | .undef => .no
    | .val false [.v .bool b] => .ask s b want
    | _ => .bad)
   | none => .bad)
  | none => .bad
def stepG (ops : Array Oper) (E : Env) (H : Hp) (o : Oper) : Tst (Env × Hp) :=
 match guardOf ops E o with
 | .yes => stepT tab T E H o
 | .no => .ret (putE E o.dst .undef, H)
 | .ask s b true => .br b (stepT tab T (upd E s (bLV true)) H o) (.ret (putE (upd E s (bLV false)) o.dst .undef, H))
 | .ask s b false => .br b (.ret (putE (upd E s (bLV true)) o.dst .undef, H)) (stepT tab T (upd E s (bLV false)) H o)
 | .bad => .fail

abbrev Fp := List Nat × List Nat
def fpOf (ops : Array Oper) (E : Env) (o : Oper) : Fp := ((way tab T E o).rd, (way tab T E o).wr)
def disj (a b : List Nat) : Bool := a.all fun n => !memN n b
def apartFp (a b : Fp) : Bool := disj a.2 (b.1 ++ b.2) && disj b.2 (a.1 ++ a.2)
def fpsOk (ops : Array Oper) (fps : List Fp) : Bool :=
 let b := Region.before ops
 fps.zipIdx.all fun x => (fps.take x.2).zipIdx.all fun y => (b.getD x.2 0).testBit y.2 || apartFp x.1 y.1

variable {R : Type}
noncomputable def runOps (ops : Array Oper) : List Oper → Env → Hp → (Env → Hp → Option R) → Option R
 | [], E, H, K => K E H
 | o :: l, E, H, K => match wayD tab E H o with
  | none => (stepG tab T ops E H o).to fun r => runOps ops l r.1 r.2 K
  | some t => t.to fun r => runOps ops l (putE E o.dst r.1) (putH H r.2) K
def runOpsD (ops : Array Oper) : List Oper → Env → Hp → List Fp → (Env → Hp → Option R) → Option R
 | [], E, H, fps, K => match fpsOk ops fps with | true => K E H | false => none
 | o :: l, E, H, fps, K => (stepG tab T ops E H o).to fun r => runOpsD ops l r.1 r.2 (fps ++ [fpOf tab T ops E o]) K

inductive Keep where
 | slot (t : Nat)
 | vec (t : Nat) (e : Ty)
 | lit (t : Nat) (e : Ty)
 | obj (t : Nat) (τ : Ty)
 | same (t u : Nat)
 | view (t u : Nat)
 | rows (t : Nat)
 | nlit (t : Nat) (e : Ty)
 | pobj (t : Nat) (ts : List Ty) (us : List Nat)
 | clo (t u : Nat)
def headId (t : Nat) : Nat := 1000000 + t
def bare : LV → LV
 | .v τ x => .v τ x
 | .nils => .nils
 | .nilm => .nilm
 | .nilp => .nilp
 | .vw e xs => .v (.sl e) xs
 | .pel τ x off => .pel τ x off
 | _ => .junk
def Keep.tmp : Keep → Nat
 | .slot t => t
 | .vec t _ => t
 | .lit t _ => t
 | .obj t _ => t
 | .same t _ => t
 | .view t _ => t
 | .rows t => t
 | .nlit t _ => t
 | .pobj t _ _ => t
 | .clo t _ => t
def sameAV (H : Hp) : AV → AV → Bool
 | .val false [.row a], .val false [.row b] => Nat.beq a b && (match H a with | .live (.row _ _) => true | .frz _ _ => true | _ => false)
 | .val false [.mapr a], .val false [.mapr b] => Nat.beq a b && (match H a with | .live (.mapo _ _ _) => true | .frzm _ _ _ => true | _ => false)
 | .val false [.ptr a o], .val false [.ptr b o'] => Nat.beq a b && Nat.beq o o' && (match H a with | .live (.cells _ _) => true | _ => false)
 | _, _ => false
def viewAV (H H' : Hp) (h : Nat) : AV → AV → AV → Option AV
 | .val false [.subv id g off lo sz], .val false [.ptr id' p], .val false [.ptr k p'] => match H id, H' h with
  | .live (.cells g' ls), .live (.cells g2 _) => (match Nat.beq id id' && Nat.beq g g' && Nat.beq k h && Nat.beq p p', ls[off]? with
   | true, some (.v (.vec _) _) => some (.val false [.subv h g2 off lo sz])
   | _, _ => none)
  | _, _ => none
 | _, _, _ => none
def ptrId : AV → Nat
 | .val false [.ptr id _] => id
 | _ => 0
def cloAV : AV → AV → AV → Option AV
 | .val false [.clo f b id], .val false [.ptr id' 0], .val false [.ptr k 0] => (match Nat.beq id id' with | true => some (.val false [.clo f b k]) | false => none)
 | _, _, _ => none
def keep1 (E : Env) (H : Hp) : Keep → Option (AV × Option Cell × Option Nat)
 | .slot t => match E t with
  | .val false [.mapr id] => (match H id with
   | .live (.mapo k e m) => some (.val false [.mapr (headId t)], some (.live (.mapo k e m)), some id)
   | .frzm k e m => some (.val false [.v (.fmap k e) m], none, none)
   | _ => none)
  | .val false [.itr id] => (match H id with
   | .live (.iter k e c r) => some (.val false [.itr (headId t)], some (.live (.iter k e c r)), some id)
   | _ => none)
  | .val false [.mbr id] => (match H id with
   | .live (.mapb _ k e m none) => some (.val false [.mbr (headId t)], some (.live (.mapb 0 k e m none)), some id)
   | _ => none)
  | .val g ls => some (.val g (ls.map bare), none, none)
  | _ => none
 | .vec t e => match E t with
  | .val false [.row id] => (match H id with
   | .live (.row e' xs) => some (.val false [.row (headId t)], some (.live (.row e' xs)), some id)
   | _ => none)
  | .val false [.nils] => some (.val false [.row (headId t)], some (.live (.row e [])), none)
  | _ => none
 | .lit t e => match E t with
  | .val false [.nils] => some (.val false [.v (.sl e) []], none, none)
  | .val false [.v (.sl e') xs] => some (.val false [.v (.sl e') xs], none, none)
  | .val false [.vw e' xs] => some (.val false [.v (.sl e') xs], none, none)
  | .val false [.row id] => (match H id with
   | .live (.row e' xs) => (match e'.pure with | true => some (.val false [.v (.sl e') xs], none, some id) | false => none)
   | .frz e' xs => some (.val false [.v (.sl e') xs], none, none)
   | _ => none)
  | _ => none
 | .obj t τ => match E t with
  | .val false [.ptr id off] => (match H id with
   | .live (.cells g ls) => (match asmAll (fun _ => .absent) τ ls with
    | some x => some (.val false [.ptr (headId t) off], some (.live (.cells (g % 2) (flat τ x))), some id)
    | none => none)
   | _ => none)
  | _ => none
 | .same _ _ => none
 | .view _ _ => none
 | .rows t => match E t with
  | .val false [.mbr id] => (match H id with
   | .live (.mapb _ k (.vec e) m none) => (match e.pure with | true => some (.val false [.v (.fmap k (.sl e)) m], none, some id) | false => none)
   | _ => none)
  | .val g ls => some (.val g (ls.map bare), none, none)
  | _ => none
 | .nlit t e => match E t with
  | .val false [.nils] => some (.val false [.v (.nsl e) []], none, none)
  | .val false [.v (.nsl e') xs] => some (.val false [.v (.nsl e') xs], none, none)
  | _ => none
 | .pobj _ _ _ => none
 | .clo _ _ => none
def pinTo (H : Hp) (m : Nat) (b : Bool) : AV → AV → Option Nat
 | .val false [.mapr a], .val false [.mapr c] => (match b, Nat.beq a m, H a with | false, true, .live (.mapo _ _ _) => some c | _, _, _ => none)
 | .val false [.mbr a], .val false [.mbr c] => (match b, Nat.beq a m, H a with | true, true, .live (.mapb _ _ _ _ _) => some c | _, _, _ => none)
 | _, _ => none
def pinNew (E E' : Env) (H : Hp) (m : Nat) (b : Bool) : List Nat → Option Nat
 | [] => none
 | u :: us => match pinTo H m b (E u) (E' u) with | some c => some c | none => pinNew E E' H m b us
def pinsNew (E E' : Env) (H : Hp) (us : List Nat) : List (Nat × Nat × Bool) → List (Nat × Nat × Bool)
 | [] => []
 | q :: ps => match pinNew E E' H q.2.1 q.2.2 us with | some c => (q.1, c, q.2.2) :: pinsNew E E' H us ps | none => pinsNew E E' H us ps
def normL : Ty → LV → LV
 | .vec e, .nils => .v (.vec e) []
 | .sl e, .nils => .v (.sl e) []
 | _, l => l
def normAll : List Ty → List LV → List LV
 | t :: ts, l :: ls => normL t l :: normAll ts ls
 | _, ls => ls
def keepP (E E' : Env) (H : Hp) (t : Nat) (ts : List Ty) (us : List Nat) : Option (AV × Cell × Nat) := match E t with
 | .val false [.pptr id off ps] => (match H id with
  | .live (.cells g ls) => (match ls.all plainC && Nat.beq (g % 2) 0 with
   | true => some (.val false [.pptr (headId t) off (pinsNew E E' H us ps)], .live (.cells 0 (normAll ts ls)), id)
   | false => none)
  | _ => none)
 | _ => none
def keepE (E : Env) (H : Hp) : List Keep → Option (List (Nat × AV) × List (Nat × Cell) × List Nat)
 | [] => some ([], [], [])
 | k :: l => match keepE E H l with
  | some (es, hs, ids) => (match memN k.tmp (es.map (·.1)) with
   | true => none
   | false => (match k with
    | .same t u => (match sameAV H (E t) (E u) with | true => some ((t, ofL .junk es u) :: es, hs, ids) | false => none)
    | .pobj t ts us => (match keepP E (ofL .junk es) H t ts us with
     | some (v, c, id) => (match memN id ids with
      | true => none
      | false => some ((t, v) :: es, (headId t, c) :: hs, id :: ids))
     | none => none)
    | .view t u => (match viewAV H (ofL .absent hs) (headId u) (E t) (E u) (ofL .junk es u) with | some v => some ((t, v) :: es, hs, ids) | none => none)
    | .clo t u => (match liveCells (H (ptrId (E u))), cloAV (E t) (E u) (ofL .junk es u) with | true, some v => some ((t, v) :: es, hs, ids) | _, _ => none)
    | k => (match keep1 E H k with
     | some (v, none, none) => some ((k.tmp, v) :: es, hs, ids)
     | some (v, some c, none) => some ((k.tmp, v) :: es, (headId k.tmp, c) :: hs, ids)
     | some (v, c, some id) => (match memN id ids with
      | true => none
      | false => (match c with
       | some c => some ((k.tmp, v) :: es, (headId k.tmp, c) :: hs, id :: ids)
       | none => some ((k.tmp, v) :: es, hs, id :: ids)))
     | none => none)))
  | none => none

def headOf : Code → Nat
 | .region id _ _ => id
 | .seq a _ => headOf a
 | .block _ b => headOf b
 | .scope b => headOf b
 | _ => 999999

inductive Fr where
 | seqR (b : Code)
 | blk (id : Nat)
 | loopF (b : Code)
abbrev Kont (R : Type) := Exit → Env → Hp → Option R
abbrev Low (R : Type) := Code → List Fr → Env → Hp → Option R
noncomputable def atCut (L : Low R) (ks : List Keep) (c : Code) (fs : List Fr) (E : Env) (H : Hp) : Option R :=
 match keepE E H ks with
 | some (es, hs, _) => L c fs (ofL .junk es) (ofL .absent hs)
 | none => none
def condOf (E : Env) (c : Operand) : Option (Option Nat × Bool) :=
 match evalO E c with
 | .val false [.v .bool b] => some ((match c with | .tmp t => some t | _ => none), b)
 | _ => none
noncomputable def runS (ann : Nat → Option (List Keep)) (L : Low R) : Code → List Fr → Env → Hp → Kont R → Option R
 | .skip, _, E, H, K => K .normal E H
 | .region _ ops false, _, E, H, K => runOps tab T ops ops.toList E H (K .normal)
 | .region _ ops true, _, E, H, K => match Region.lexB .any ops with | true => runOpsD tab T ops ops.toList E H [] (K .normal) | false => none
 | .seq a b, fs, E, H, K => runS ann L a (.seqR b :: fs) E H fun
  | .normal, E, H => (match ann (headOf b) with
   | some ks => atCut L ks b fs E H
   | none => runS ann L b fs E H K)
  | x, E, H => K x E H
 | .cond c a b, fs, E, H, K => match condOf E c with
  | some (some t, x) => if x = true then runS ann L a fs (upd E t (bLV true)) H K else runS ann L b fs (upd E t (bLV false)) H K
  | some (none, x) => if x = true then runS ann L a fs E H K else runS ann L b fs E H K
  | none => none
 | .block id b, fs, E, H, K => runS ann L b (.blk id :: fs) E H fun
  | .exit i, E, H => (match Nat.beq i id with | true => K .normal E H | false => K (.exit i) E H)
  | x, E, H => K x E H
 | .loop b, fs, E, H, _ => match ann (headOf b) with
  | some ks => atCut L ks (.loop b) fs E H
  | none => none
 | .exit id, _, E, H, K => K (.exit id) E H
 | .ret, _, E, H, K => K .ret E H
 | _, _, _, _, _ => none
noncomputable def clos (ann : Nat → Option (List Keep)) (L : Low R) (fin : Kont R) : List Fr → Kont R
 | [] => fin
 | .seqR b :: fs => fun
  | .normal, E, H => (match ann (headOf b) with
   | some ks => atCut L ks b fs E H
   | none => runS tab T ann L b fs E H (clos ann L fin fs))
  | x, E, H => clos ann L fin fs x E H
 | .blk id :: fs => fun
  | .exit i, E, H => (match Nat.beq i id with | true => clos ann L fin fs .normal E H | false => clos ann L fin fs (.exit i) E H)
  | x, E, H => clos ann L fin fs x E H
 | .loopF b :: fs => fun
  | .normal, E, H => (match ann (headOf b) with
   | some ks => atCut L ks (.loop b) fs E H
   | none => none)
  | x, E, H => clos ann L fin fs x E H
end

noncomputable def runN {R : Type} (tab : Nat → Option TI) (T : Nat → Nat → Option FunE) (ann : Nat → Option (List Keep)) (fin : Kont R) : Nat → Low R
 | 0 => fun _ _ _ _ => none
 | n + 1 => fun c fs E H => match c with
  | .loop b => runS tab (T n) ann (runN tab T ann fin n) b (.loopF b :: fs) E H (clos tab (T n) ann (runN tab T ann fin n) fin (.loopF b :: fs))
  | c => runS tab (T n) ann (runN tab T ann fin n) c fs E H (clos tab (T n) ann (runN tab T ann fin n) fin fs)

def node : Code → List Fr → List Nat → Code × List Fr
 | c, fs, [] => (c, fs)
 | .seq a b, fs, 0 :: p => node a (.seqR b :: fs) p
 | .seq _ b, fs, _ :: p => node b fs p
 | .cond _ a _, fs, 0 :: p => node a fs p
 | .cond _ _ b, fs, _ :: p => node b fs p
 | .block id b, fs, _ :: p => node b (.blk id :: fs) p
 | .loop b, fs, _ :: p => node b (.loopF b :: fs) p
 | c, fs, _ => (c, fs)

def resVal (tab : Nat → Option TI) (H : Hp) (E : Env) : ResultVar → Option (Bool × List LV)
 | .tmp t => match unpin (E t) with | .val g ls => some (g, ls) | _ => none
 | .cell a t => match tab t, E a with
  | some i, .val false [.ptr id 0] => (match H id with | .live (.cells g ls) => (match Nat.beq ls.length i.ty.cells with | true => some (i.agg, outLeaves id g 0 ls) | false => none) | _ => none)
  | _, _ => none
def resVals (tab : Nat → Option TI) (H : Hp) (E : Env) : List ResultVar → Option (List (Bool × List LV))
 | [] => some []
 | v :: vs => match resVal tab H E v, resVals tab H E vs with | some r, some rs => some (r :: rs) | _, _ => none
def resOne (H : Hp) (τ : Ty) (g : Bool) (ls : List LV) : Option τ.den :=
 match τ, g, ls with
 | .nsl e, false, [.row id] => (match H id with | .live (.row e' xs) => slAs e' e xs | _ => none)
 | .ptr e, false, [.ptr id 0] => (match H id with | .live (.cells g ls) => (match asmAll (fun _ => .absent) e ls, Nat.beq (g % 2) 0 with | some y, true => some (some y) | _, _ => none) | _ => none)
 | .ptr _, false, [.nilp] => some none
 | τ, g, ls => ownIn H τ g ls
def nnCell : Cell → Bool
 | .live (.row _ xs) => !xs.isEmpty
 | _ => false
def nnB (H : Hp) : List Ty → List (Bool × List LV) → Bool
 | .nsl _ :: outs, (_, [.row id]) :: rs => nnB H outs rs && nnCell (H id)
 | _ :: outs, _ :: rs => nnB H outs rs
 | _, _ => true
def resIn (H : Hp) : (outs : List Ty) → List (Bool × List LV) → Option (outs.foldr Ty.pair .unit).den
 | [], [] => some ()
 | τ :: outs, v :: vs => (match resOne H τ v.1 v.2, resIn H outs vs with
  | some x, some xs => some (x, xs)
  | _, _ => none)
 | _, _ => none
def resOwns : List Ty → List (Bool × List LV) → List Nat
 | τ :: outs, v :: vs => ownArg false τ (.val v.1 v.2) ++ resOwns outs vs
 | _, _ => []
def resRds : List Ty → List (Bool × List LV) → List Nat
 | τ :: outs, v :: vs => argRd false τ (.val v.1 v.2) ++ resRds outs vs
 | _, _ => []
def ioOut (H : Hp) : (ts : List Ty) → List Nat → Option (ts.foldr Ty.pair .unit).den
 | [], [] => some ()
 | τ :: ts, id :: ids => (match H id, ioOut H ts ids with
  | .live (.cells g ls), some xs => (match asmAll (fun _ => .absent) τ ls, Nat.beq (g % 2) 1 with | some x, true => some (x, xs) | _, _ => none)
  | _, _ => none)
 | _, _ => none
def joinRes : (outs more : List Ty) → (outs.foldr Ty.pair .unit).den → (more.foldr Ty.pair .unit).den → ((outs ++ more).foldr Ty.pair .unit).den
 | [], _, _, y => y
 | _ :: outs, more, x, y => (x.1, joinRes outs more x.2 y)
def ioIdsOf (E : Env) : List Nat → Option (List Nat)
 | [] => some []
 | t :: ts => match E t, ioIdsOf E ts with | .val false [.ptr id 0], some ids => some (id :: ids) | _, _ => none
def leafTys : Ty → List Ty
 | .pair a b => leafTys a ++ leafTys b
 | .unit => []
 | τ => [τ]
def pack1 (H : Hp) (id off m : Nat) (b : Bool) (τ : Ty) : Hp := match H id with
 | .live (.cells g ls) => (match ls[off]?, τ, H m, b with
  | some .cst, .map _ _, .live (.mapo k' e' mm), false => if id ≠ m then upd (upd H m .dead) id (.live (.cells (g + 2) (ls.set off (.v (.map k' e') mm)))) else H
  | some .cst, .fmap _ _, .live (.mapo k' e' mm), false => if id ≠ m then upd (upd H m .dead) id (.live (.cells (g + 2) (ls.set off (.v (.fmap k' e') mm)))) else H
  | some .cst, .fmap _ _, .live (.mapb _ k' (.vec e') mm none), true => if e'.pure = true ∧ id ≠ m then upd (upd H m .dead) id (.live (.cells (g + 2) (ls.set off (.v (.fmap k' (.sl e')) mm)))) else H
  | _, _, _, _ => H)
 | _ => H
def packs (id : Nat) (ts : List Ty) : Hp → List (Nat × Nat × Bool) → Hp
 | H, [] => H
 | H, q :: ps => packs id ts (pack1 H id q.1 q.2.1 q.2.2 (ts.getD q.1 .unit)) ps
def packR (E : Env) : List Ty → List ResultVar → Hp → Hp
 | .ptr e :: outs, .tmp t :: vs, H => (match E t with
  | .val false [.pptr id 0 ps] => packR E outs vs (packs id (leafTys e) H ps)
  | _ => packR E outs vs H)
 | _ :: outs, _ :: vs, H => packR E outs vs H
 | _, _, H => H
def finOf (tab : Nat → Option TI) (outs mores : List Ty) (vs : List ResultVar) (slots : List Nat) : Kont ((outs ++ mores).foldr Ty.pair .unit).den := fun x E H0 =>
 let H := packR E outs vs H0
 match x with
 | .normal | .ret => (match resVals tab H E vs, ioIdsOf E slots with
  | some rs, some ios => (match resIn H outs rs, ioOut H mores ios with
   | some a, some b => (match nodupN (resOwns outs rs ++ ios) && (resRds outs rs).all fun i => !memN i (resOwns outs rs ++ ios) with
    | true => if nnB H outs rs = true then some (joinRes outs mores a b) else none
    | false => none)
   | _, _ => none)
  | _, _ => none)
 | _ => none
def parAV (t : Nat) (io : Bool) : (τ : Ty) → τ.den → AV × List (Nat × Cell) := fun τ x =>
 match io with
 | true => (.val false [.ptr (headId t) 0], [(headId t, .live (.cells 1 (flat τ x)))])
 | false => (match τ, x with
  | .vec e, x => (.val false [.row (headId t)], [(headId t, .live (.row e x))])
  | .pair a b, x => (.val true (flat (.pair a b) x), [])
  | .unit, x => (.val true [], [])
  | τ, x => (.val false (flat τ x), []))
def pars : Nat → (ps : List (Bool × Ty)) → (ps.foldr (fun p t => Ty.pair p.2 t) .unit).den → List (Nat × AV) × List (Nat × Cell)
 | _, [], _ => ([], [])
 | t, p :: ps, x => let r := parAV t p.1 p.2 x.1; let s := pars (t + 1) ps x.2; ((t, r.1) :: s.1, r.2 ++ s.2)
def iosOf : Nat → List (Bool × Ty) → List Nat
 | _, [] => []
 | t, (true, _) :: ps => t :: iosOf (t + 1) ps
 | t, (false, _) :: ps => iosOf (t + 1) ps
def bodyOf (f : Func) : Code := f.body.getD .skip
noncomputable def fnE (tab : Nat → Option TI) (T : Nat → Nat → Option FunE) (ann : Nat → Option (List Keep)) (f : Func) (ins : List (Bool × Ty)) (outs : List Ty) (n : Nat) : FunE where
 ins := ins
 outs := outs
 f := fun x => let q := pars 0 ins x; let fin := finOf tab outs ((ins.filter (·.1)).map (·.2)) f.results.toList (iosOf 0 ins)
  runS tab (T n) ann (runN tab T ann fin n) (bodyOf f) [] (ofL .junk q.1) (ofL .absent q.2) (clos tab (T n) ann (runN tab T ann fin n) fin [])
noncomputable def cutN (tab : Nat → Option TI) (T : Nat → Nat → Option FunE) (ann : Nat → Option (List Keep)) (f : Func) (ins : List (Bool × Ty)) (outs : List Ty) (n : Nat) (p : List Nat) (es : List (Nat × AV)) (hs : List (Nat × Cell)) :
 Option ((outs ++ (ins.filter (·.1)).map (·.2)).foldr Ty.pair .unit).den :=
 runN tab T ann (finOf tab outs ((ins.filter (·.1)).map (·.2)) f.results.toList (iosOf 0 ins)) n (node (bodyOf f) [] p).1 (node (bodyOf f) [] p).2 (ofL .junk es) (ofL .absent hs)

end Go.Proofs.Ytodnfnnfjnnhmaa.A

-- YtodnfnnfjnnhmaaT
set_option linter.unusedVariables false
set_option maxRecDepth 100000
namespace Go.Proofs.Ytodnfnnfjnnhmaa.A
open Go
abbrev DLevel : Type := (Int × Int)
abbrev YLevel : Ty := (.pair (.int .i64) (.int .i64))
abbrev Dpiece : Type := (Int × DLevel)
abbrev Ypiece : Ty := (.pair (.int .i64) YLevel)
abbrev DCell : Type := (Int × (Int × Dpiece))
abbrev YCell : Ty := (.pair (.int .i64) (.pair (.int .i64) Ypiece))
abbrev DLimit : Type := (List UInt8 × (Int × (Int × DCell)))
abbrev YLimit : Ty := (.pair .str (.pair (.int .i64) (.pair (.int .i64) YCell)))
abbrev DSample : Type := (Int × (List UInt8 × Int))
abbrev YSample : Ty := (.pair (.int .i64) (.pair .str (.int .i64)))
abbrev DEvent : Type := (Int × List UInt8)
abbrev YEvent : Ty := (.pair (.int .i64) .str)
abbrev Dfollower : Type := (DLimit × (Int × ((List Int) × (List Int))))
abbrev Yfollower : Ty := (.pair YLimit (.pair (.int .i64) (.pair (.vec (.int .i64)) (.vec (.int .i64)))))
abbrev Ytrack : Ty := (.pair YLimit (.pair (.vec (.int .i64)) (.int .i64)))
abbrev DUse : Type := (List UInt8 × DLevel)
abbrev YUse : Ty := (.pair .str YLevel)
noncomputable def tabL : List (Nat × Option TI) := [
 (3, some { agg := false, ty := (.int .i64), bytes := 8, fields := [], elem := 0, key := 0, zero := [.v (.int .i64) 0] }),
 (4, some { agg := false, ty := .bool, bytes := 1, fields := [], elem := 0, key := 0, zero := [.v .bool false] }),
 (5, some { agg := false, ty := (.int .u8), bytes := 1, fields := [], elem := 0, key := 0, zero := [.v (.int .u8) 0] }),
 (9, some { agg := false, ty := .str, bytes := 16, fields := [], elem := 0, key := 0, zero := [.v .str []] }),
 (22, some { agg := false, ty := (.sl YLimit), bytes := 24, fields := [], elem := 25, key := 0, zero := [.nils] }),
 (23, some { agg := false, ty := (.sl YSample), bytes := 24, fields := [], elem := 35, key := 0, zero := [.nils] }),
 (25, some { agg := true, ty := YLimit, bytes := 72, fields := [(0, 9), (1, 3), (2, 3), (3, 3), (4, 3), (5, 3), (6, 3), (7, 3)], elem := 0, key := 0, zero := [.v .str [], .v (.int .i64) 0, .v (.int .i64) 0, .v (.int .i64) 0, .v (.int .i64) 0, .v (.int .i64) 0, .v (.int .i64) 0, .v (.int .i64) 0] }),
 (26, some { agg := false, ty := (.int .i64), bytes := 8, fields := [], elem := 0, key := 0, zero := [.v (.int .i64) 0] }),
 (33, some { agg := false, ty := (.sl (.int .i64)), bytes := 24, fields := [], elem := 3, key := 0, zero := [.nils] }),
 (35, some { agg := true, ty := YSample, bytes := 32, fields := [(0, 3), (1, 9), (2, 3)], elem := 0, key := 0, zero := [.v (.int .i64) 0, .v .str [], .v (.int .i64) 0] }),
 (39, some { agg := false, ty := (.sl YEvent), bytes := 24, fields := [], elem := 45, key := 0, zero := [.nils] }),
 (45, some { agg := true, ty := YEvent, bytes := 24, fields := [(0, 3), (1, 9)], elem := 0, key := 0, zero := [.v (.int .i64) 0, .v .str []] }),
 (46, some { agg := false, ty := (.sl .str), bytes := 24, fields := [], elem := 9, key := 0, zero := [.nils] }),
 (49, some { agg := false, ty := (.map .str .str), bytes := 8, fields := [], elem := 9, key := 9, zero := [.nilm] }),
 (58, some { agg := true, ty := YCell, bytes := 40, fields := [(0, 3), (1, 3), (2, 3), (3, 3), (4, 3)], elem := 0, key := 0, zero := [.v (.int .i64) 0, .v (.int .i64) 0, .v (.int .i64) 0, .v (.int .i64) 0, .v (.int .i64) 0] }),
 (59, some { agg := false, ty := (.sl YLevel), bytes := 24, fields := [], elem := 115, key := 0, zero := [.nils] }),
 (60, some { agg := false, ty := (.sl YUse), bytes := 24, fields := [], elem := 119, key := 0, zero := [.nils] }),
 (61, some { agg := false, ty := (.sl YUse), bytes := 24, fields := [], elem := 117, key := 0, zero := [.nils] }),
 (62, some { agg := false, ty := (.sl YLevel), bytes := 24, fields := [], elem := 68, key := 0, zero := [.nils] }),
 (68, some { agg := true, ty := YLevel, bytes := 16, fields := [(0, 3), (1, 3)], elem := 0, key := 0, zero := [.v (.int .i64) 0, .v (.int .i64) 0] }),
 (77, some { agg := false, ty := (.map .str (.ptr Yfollower)), bytes := 8, fields := [], elem := 79, key := 9, zero := [.nilm] }),
 (79, some { agg := false, ty := (.ptr Yfollower), bytes := 8, fields := [], elem := 0, key := 0, zero := [.nilp] }),
 (82, some { agg := true, ty := Yfollower, bytes := 128, fields := [(0, 25), (8, 3), (9, 33), (10, 33)], elem := 0, key := 0, zero := [.v .str [], .v (.int .i64) 0, .v (.int .i64) 0, .v (.int .i64) 0, .v (.int .i64) 0, .v (.int .i64) 0, .v (.int .i64) 0, .v (.int .i64) 0, .v (.int .i64) 0, .nils, .nils] }),
 (86, some { agg := false, ty := (.sl (.int .u8)), bytes := 24, fields := [], elem := 5, key := 0, zero := [.nils] }),
 (89, some { agg := false, ty := (.sl Ytrack), bytes := 24, fields := [], elem := 92, key := 0, zero := [.nils] }),
 (92, some { agg := true, ty := Ytrack, bytes := 104, fields := [(0, 25), (8, 33), (9, 3)], elem := 0, key := 0, zero := [.v .str [], .v (.int .i64) 0, .v (.int .i64) 0, .v (.int .i64) 0, .v (.int .i64) 0, .v (.int .i64) 0, .v (.int .i64) 0, .v (.int .i64) 0, .nils, .v (.int .i64) 0] }),
 (97, some { agg := false, ty := (.sl Ypiece), bytes := 24, fields := [], elem := 100, key := 0, zero := [.nils] }),
 (100, some { agg := true, ty := Ypiece, bytes := 24, fields := [(0, 3), (1, 3), (2, 3)], elem := 0, key := 0, zero := [.v (.int .i64) 0, .v (.int .i64) 0, .v (.int .i64) 0] }),
 (104, some { agg := false, ty := (.sl (.int .i64)), bytes := 24, fields := [], elem := 26, key := 0, zero := [.nils] }),
 (106, some { agg := false, ty := (.int .u64), bytes := 8, fields := [], elem := 0, key := 0, zero := [.v (.int .u64) 0] }),
 (112, some { agg := false, ty := (.map (.int .i64) (.int .i64)), bytes := 8, fields := [], elem := 3, key := 3, zero := [.nilm] }),
 (115, some { agg := true, ty := YLevel, bytes := 16, fields := [(0, 3), (1, 3)], elem := 0, key := 0, zero := [.v (.int .i64) 0, .v (.int .i64) 0] }),
 (117, some { agg := true, ty := YUse, bytes := 32, fields := [(0, 9), (1, 3), (2, 3)], elem := 0, key := 0, zero := [.v .str [], .v (.int .i64) 0, .v (.int .i64) 0] }),
 (119, some { agg := true, ty := YUse, bytes := 32, fields := [(0, 9), (1, 3), (2, 3)], elem := 0, key := 0, zero := [.v .str [], .v (.int .i64) 0, .v (.int .i64) 0] }),
 (133, some { agg := false, ty := (.int .u32), bytes := 4, fields := [], elem := 0, key := 0, zero := [.v (.int .u32) 0] }),
 (135, some { agg := false, ty := (.int .u64), bytes := 8, fields := [], elem := 0, key := 0, zero := [.v (.int .u64) 0] }),
 (144, some { agg := false, ty := (.int .u64), bytes := 8, fields := [], elem := 0, key := 0, zero := [.v (.int .u64) 0] })]
noncomputable def tab : Nat → Option TI := ofL none tabL
def cmpS (a b : List UInt8) : Int := if lessS a b = true then -1 else if lessS b a = true then 1 else 0
noncomputable def strings_Compare.E (n : Nat) : FunE := { ins := [(false, .str), (false, .str)], outs := [.int .i64], f := fun x => some (cmpS x.1 x.2.1, ()) }

noncomputable def power_load_1.T : Nat → Nat → Option FunE := fun n => ofL none [(82, some (strings_Compare.E n))]
noncomputable def power_load_1.ann : Nat → Option (List Keep) := ofL none []
noncomputable def power_load_1.ins : List (Bool × Ty) := [(false, YUse), (false, .str)]
def power_load_1.outs : List Ty := [(.int .i64)]
noncomputable def power_load_1.f (n : Nat) (x0 : DUse) (s1 : List UInt8) : Option (Int × Unit) := (fnE tab power_load_1.T power_load_1.ann Try.f81 power_load_1.ins power_load_1.outs n).f (x0, (s1, ()))
theorem power_load_1.f_eq (n : Nat) (x0 : DUse) (s1 : List UInt8) : power_load_1.f n x0 s1 =
 some ((cmpS x0.1 s1), ()) := by kernel_rfl
noncomputable def power_load_1.E (n : Nat) : FunE := fnE tab power_load_1.T power_load_1.ann Try.f81 power_load_1.ins power_load_1.outs n

noncomputable def monitor_IsName.T : Nat → Nat → Option FunE := fun n => ofL none []
noncomputable def monitor_IsName.ann : Nat → Option (List Keep) := ofL none [(3, some [.slot 0]), (4, some [.slot 0, .slot 13, .slot 14])]
noncomputable def monitor_IsName.ins : List (Bool × Ty) := [(false, .str)]
def monitor_IsName.outs : List Ty := [.bool]
noncomputable def monitor_IsName.f (n : Nat) (s0 : List UInt8) : Option (Bool × Unit) := (fnE tab monitor_IsName.T monitor_IsName.ann Try.f37 monitor_IsName.ins monitor_IsName.outs n).f (s0, ())
noncomputable def monitor_IsName.c0 (n : Nat) (s0 : List UInt8) : Option (Bool × Unit) := cutN tab monitor_IsName.T monitor_IsName.ann Try.f37 monitor_IsName.ins monitor_IsName.outs n [1, 1] [(0, .val false [.v .str s0])] []
noncomputable def monitor_IsName.c1 (n : Nat) (s0 : List UInt8) (t13 : Int) (t14 : Int) : Option (Bool × Unit) := cutN tab monitor_IsName.T monitor_IsName.ann Try.f37 monitor_IsName.ins monitor_IsName.outs n [1, 1, 0, 1, 0] [(0, .val false [.v .str s0]), (13, .val false [.v (.int .i64) t13]), (14, .val false [.v (.int .i64) t14])] []
theorem monitor_IsName.f_eq (n : Nat) (s0 : List UInt8) : monitor_IsName.f n s0 =
 (if (decide ((s0 : List UInt8) = [])) = true then
 some (false, ())
 else
 (if (decide (40 < (s0.length : Int))) = true then
  some (false, ())
  else
  monitor_IsName.c0 n s0)) := by kernel_rfl
theorem monitor_IsName.c0_eq (n : Nat) (s0 : List UInt8) : monitor_IsName.c0 (n + 1) s0 =
 monitor_IsName.c1 n s0 (s0.length : Int) 0 := by kernel_rfl
theorem monitor_IsName.c1_eq (n : Nat) (s0 : List UInt8) (t13 : Int) (t14 : Int) : monitor_IsName.c1 (n + 1) s0 t13 t14 =
 (if (decide (t14 < t13)) = true then
 (if (0 : Int) ≤ t14 ∧ t14 < (s0.length : Int) then
  (if (decide (((s0.getD t14.toNat 0).toNat : Int) < 97)) = true then
   (if (decide (t14 = 0)) = true then
    some (false, ())
    else
    (if (!(decide (((s0.getD t14.toNat 0).toNat : Int) = 45))) = true then
     (if (!(decide (((s0.getD t14.toNat 0).toNat : Int) = 95))) = true then
      (if (decide (((s0.getD t14.toNat 0).toNat : Int) < 48)) = true then
       some (false, ())
       else
       (if (decide (57 < ((s0.getD t14.toNat 0).toNat : Int))) = true then
        some (false, ())
        else
        monitor_IsName.c1 n s0 t13 (IntKind.wrap .i64 (t14 + 1))))
      else
      monitor_IsName.c1 n s0 t13 (IntKind.wrap .i64 (t14 + 1)))
     else
     monitor_IsName.c1 n s0 t13 (IntKind.wrap .i64 (t14 + 1))))
   else
   (if (decide (122 < ((s0.getD t14.toNat 0).toNat : Int))) = true then
    (if (decide (t14 = 0)) = true then
     some (false, ())
     else
     (if (!(decide (((s0.getD t14.toNat 0).toNat : Int) = 45))) = true then
      (if (!(decide (((s0.getD t14.toNat 0).toNat : Int) = 95))) = true then
       (if (decide (((s0.getD t14.toNat 0).toNat : Int) < 48)) = true then
        some (false, ())
        else
        (if (decide (57 < ((s0.getD t14.toNat 0).toNat : Int))) = true then
         some (false, ())
         else
         monitor_IsName.c1 n s0 t13 (IntKind.wrap .i64 (t14 + 1))))
       else
       monitor_IsName.c1 n s0 t13 (IntKind.wrap .i64 (t14 + 1)))
      else
      monitor_IsName.c1 n s0 t13 (IntKind.wrap .i64 (t14 + 1))))
    else
    monitor_IsName.c1 n s0 t13 (IntKind.wrap .i64 (t14 + 1))))
  else none)
 else
 some (true, ())) := by kernel_rfl
noncomputable def monitor_IsName.E (n : Nat) : FunE := fnE tab monitor_IsName.T monitor_IsName.ann Try.f37 monitor_IsName.ins monitor_IsName.outs n

noncomputable def kit_In.T : Nat → Nat → Option FunE := fun n => ofL none []
noncomputable def kit_In.ann : Nat → Option (List Keep) := ofL none []
noncomputable def kit_In.ins : List (Bool × Ty) := [(false, (.int .i64)), (false, (.int .i64)), (false, (.int .i64))]
def kit_In.outs : List Ty := [.bool]
noncomputable def kit_In.f (n : Nat) (n0 : Int) (low1 : Int) (high2 : Int) : Option (Bool × Unit) := (fnE tab kit_In.T kit_In.ann Try.f38 kit_In.ins kit_In.outs n).f (n0, (low1, (high2, ())))
theorem kit_In.f_eq (n : Nat) (n0 : Int) (low1 : Int) (high2 : Int) : kit_In.f n n0 low1 high2 =
 (if (decide (low1 ≤ n0)) = true then
 some ((decide (n0 ≤ high2)), ())
 else
 some (false, ())) := by kernel_rfl
noncomputable def kit_In.E (n : Nat) : FunE := fnE tab kit_In.T kit_In.ann Try.f38 kit_In.ins kit_In.outs n

noncomputable def monitor_CheckLimits.T : Nat → Nat → Option FunE := fun n => ofL none [(37, some (monitor_IsName.E n)), (38, some (kit_In.E n))]
noncomputable def monitor_CheckLimits.ann : Nat → Option (List Keep) := ofL none [(4, some [.slot 0, .slot 10, .slot 11, .slot 12]), (9, some [.slot 0, .slot 3, .obj 4 YLimit, .slot 10, .slot 11, .slot 12, .vec 29 (.int .i64), .slot 30, .slot 31]), (16, some [.slot 0, .slot 3, .obj 4 YLimit, .slot 10, .slot 11, .slot 12]), (18, some [.slot 0, .slot 3, .obj 4 YLimit, .slot 10, .slot 11, .slot 12])]
noncomputable def monitor_CheckLimits.ins : List (Bool × Ty) := [(false, (.sl YLimit))]
def monitor_CheckLimits.outs : List Ty := [(.int .i64)]
noncomputable def monitor_CheckLimits.f (n : Nat) (t0 : (List DLimit)) : Option (Int × Unit) := (fnE tab monitor_CheckLimits.T monitor_CheckLimits.ann Try.f13 monitor_CheckLimits.ins monitor_CheckLimits.outs n).f (t0, ())
noncomputable def monitor_CheckLimits.c0 (n : Nat) (t0 : (List DLimit)) (t10 : (List DLimit)) (t11 : Int) (t12 : Int) : Option (Int × Unit) := cutN tab monitor_CheckLimits.T monitor_CheckLimits.ann Try.f13 monitor_CheckLimits.ins monitor_CheckLimits.outs n [1, 1, 0, 1, 0] [(0, .val false [.v (.sl YLimit) t0]), (10, .val false [.v (.sl YLimit) t10]), (11, .val false [.v (.int .i64) t11]), (12, .val false [.v (.int .i64) t12])] []
noncomputable def monitor_CheckLimits.c1 (n : Nat) (t0 : (List DLimit)) (t3 : Int) (t4_0 : List UInt8) (t4_1 : Int) (t4_2 : Int) (t4_3 : Int) (t4_4 : Int) (t4_5 : Int) (t4_6 : Int) (t4_7 : Int) (t10 : (List DLimit)) (t11 : Int) (t12 : Int) (t29 : (List Int)) (t30 : Int) (t31 : Int) : Option (Int × Unit) := cutN tab monitor_CheckLimits.T monitor_CheckLimits.ann Try.f13 monitor_CheckLimits.ins monitor_CheckLimits.outs n [1, 1, 0, 1, 0, 0, 1, 1, 0, 0, 1, 1, 0, 1, 0] [(0, .val false [.v (.sl YLimit) t0]), (3, .val false [.v (.int .i64) t3]), (4, .val false [.ptr 1000004 0]), (10, .val false [.v (.sl YLimit) t10]), (11, .val false [.v (.int .i64) t11]), (12, .val false [.v (.int .i64) t12]), (29, .val false [.row 1000029]), (30, .val false [.v (.int .i64) t30]), (31, .val false [.v (.int .i64) t31])] [(1000004, .live (.cells 0 [.v .str t4_0, .v (.int .i64) t4_1, .v (.int .i64) t4_2, .v (.int .i64) t4_3, .v (.int .i64) t4_4, .v (.int .i64) t4_5, .v (.int .i64) t4_6, .v (.int .i64) t4_7])), (1000029, .live (.row (.int .i64) t29))]
noncomputable def monitor_CheckLimits.c2 (n : Nat) (t0 : (List DLimit)) (t3 : Int) (t4_0 : List UInt8) (t4_1 : Int) (t4_2 : Int) (t4_3 : Int) (t4_4 : Int) (t4_5 : Int) (t4_6 : Int) (t4_7 : Int) (t10 : (List DLimit)) (t11 : Int) (t12 : Int) : Option (Int × Unit) := cutN tab monitor_CheckLimits.T monitor_CheckLimits.ann Try.f13 monitor_CheckLimits.ins monitor_CheckLimits.outs n [1, 1, 0, 1, 0, 0, 1, 1, 0, 0, 1, 1, 1, 1] [(0, .val false [.v (.sl YLimit) t0]), (3, .val false [.v (.int .i64) t3]), (4, .val false [.ptr 1000004 0]), (10, .val false [.v (.sl YLimit) t10]), (11, .val false [.v (.int .i64) t11]), (12, .val false [.v (.int .i64) t12])] [(1000004, .live (.cells 0 [.v .str t4_0, .v (.int .i64) t4_1, .v (.int .i64) t4_2, .v (.int .i64) t4_3, .v (.int .i64) t4_4, .v (.int .i64) t4_5, .v (.int .i64) t4_6, .v (.int .i64) t4_7]))]
noncomputable def monitor_CheckLimits.c3 (n : Nat) (t0 : (List DLimit)) (t3 : Int) (t4_0 : List UInt8) (t4_1 : Int) (t4_2 : Int) (t4_3 : Int) (t4_4 : Int) (t4_5 : Int) (t4_6 : Int) (t4_7 : Int) (t10 : (List DLimit)) (t11 : Int) (t12 : Int) : Option (Int × Unit) := cutN tab monitor_CheckLimits.T monitor_CheckLimits.ann Try.f13 monitor_CheckLimits.ins monitor_CheckLimits.outs n [1, 1, 0, 1, 0, 0, 1, 1, 0, 0, 1, 1, 1, 1, 1] [(0, .val false [.v (.sl YLimit) t0]), (3, .val false [.v (.int .i64) t3]), (4, .val false [.ptr 1000004 0]), (10, .val false [.v (.sl YLimit) t10]), (11, .val false [.v (.int .i64) t11]), (12, .val false [.v (.int .i64) t12])] [(1000004, .live (.cells 0 [.v .str t4_0, .v (.int .i64) t4_1, .v (.int .i64) t4_2, .v (.int .i64) t4_3, .v (.int .i64) t4_4, .v (.int .i64) t4_5, .v (.int .i64) t4_6, .v (.int .i64) t4_7]))]
theorem monitor_CheckLimits.f_eq (n : Nat) (t0 : (List DLimit)) : monitor_CheckLimits.f n t0 =
 (if (decide (200 < (t0.length : Int))) = true then
 some (2, ())
 else
 monitor_CheckLimits.c0 n t0 t0 (t0.length : Int) 0) := by kernel_rfl
theorem monitor_CheckLimits.c0_eq (n : Nat) (t0 : (List DLimit)) (t10 : (List DLimit)) (t11 : Int) (t12 : Int) : monitor_CheckLimits.c0 (n + 1) t0 t10 t11 t12 =
 (if (decide (t12 < t11)) = true then
 (if (0 : Int) ≤ t12 ∧ t12 < (t10.length : Int) then
  ((monitor_IsName.f n (t10.getD t12.toNat (Ty.dflt YLimit)).1).bind fun r1 =>
   (if (!r1.1) = true then
    some (5, ())
    else
    monitor_CheckLimits.c1 n t0 t12 (t10.getD t12.toNat (Ty.dflt YLimit)).1 (t10.getD t12.toNat (Ty.dflt YLimit)).2.1 (t10.getD t12.toNat (Ty.dflt YLimit)).2.2.1 (t10.getD t12.toNat (Ty.dflt YLimit)).2.2.2.1 (t10.getD t12.toNat (Ty.dflt YLimit)).2.2.2.2.1 (t10.getD t12.toNat (Ty.dflt YLimit)).2.2.2.2.2.1 (t10.getD t12.toNat (Ty.dflt YLimit)).2.2.2.2.2.2.1 (t10.getD t12.toNat (Ty.dflt YLimit)).2.2.2.2.2.2.2 t10 t11 t12 [(t10.getD t12.toNat (Ty.dflt YLimit)).2.1, (t10.getD t12.toNat (Ty.dflt YLimit)).2.2.1, (t10.getD t12.toNat (Ty.dflt YLimit)).2.2.2.1, (t10.getD t12.toNat (Ty.dflt YLimit)).2.2.2.2.1] 4 0))
  else none)
 else
 some (0, ())) := by kernel_rfl
theorem monitor_CheckLimits.c1_eq (n : Nat) (t0 : (List DLimit)) (t3 : Int) (t4_0 : List UInt8) (t4_1 : Int) (t4_2 : Int) (t4_3 : Int) (t4_4 : Int) (t4_5 : Int) (t4_6 : Int) (t4_7 : Int) (t10 : (List DLimit)) (t11 : Int) (t12 : Int) (t29 : (List Int)) (t30 : Int) (t31 : Int) : monitor_CheckLimits.c1 (n + 1) t0 t3 t4_0 t4_1 t4_2 t4_3 t4_4 t4_5 t4_6 t4_7 t10 t11 t12 t29 t30 t31 =
 (if (decide (t31 < t30)) = true then
 (if (0 : Int) ≤ t31 ∧ t31 < (t29.length : Int) then
  ((kit_In.f n (t29.getD t31.toNat 0) (-1000000000) 1000000000).bind fun r2 =>
   (if (!r2.1) = true then
    some (1, ())
    else
    monitor_CheckLimits.c1 n t0 t3 t4_0 t4_1 t4_2 t4_3 t4_4 t4_5 t4_6 t4_7 t10 t11 t12 t29 t30 (IntKind.wrap .i64 (t31 + 1))))
  else none)
 else
 (if (decide (t4_2 < t4_1)) = true then
  some (8, ())
  else
  (if (decide (t4_3 < t4_2)) = true then
   some (8, ())
   else
   (if (decide (t4_4 < t4_3)) = true then
    some (8, ())
    else
    monitor_CheckLimits.c2 n t0 t3 t4_0 t4_1 t4_2 t4_3 t4_4 t4_5 t4_6 t4_7 t10 t11 t12)))) := by kernel_rfl
theorem monitor_CheckLimits.c2_eq (n : Nat) (t0 : (List DLimit)) (t3 : Int) (t4_0 : List UInt8) (t4_1 : Int) (t4_2 : Int) (t4_3 : Int) (t4_4 : Int) (t4_5 : Int) (t4_6 : Int) (t4_7 : Int) (t10 : (List DLimit)) (t11 : Int) (t12 : Int) : monitor_CheckLimits.c2 (n + 1) t0 t3 t4_0 t4_1 t4_2 t4_3 t4_4 t4_5 t4_6 t4_7 t10 t11 t12 =
 ((kit_In.f n t4_5 1 100).bind fun r3 =>
 (if (!r3.1) = true then
  some (1, ())
  else
  ((kit_In.f n t4_6 1 100).bind fun r4 =>
   (if (!r4.1) = true then
    some (1, ())
    else
    ((kit_In.f n t4_7 0 1000000000).bind fun r5 =>
     (if (!r5.1) = true then
      some (1, ())
      else
      monitor_CheckLimits.c3 n t0 t3 t4_0 t4_1 t4_2 t4_3 t4_4 t4_5 t4_6 t4_7 t10 t11 t12)))))) := by kernel_rfl
theorem monitor_CheckLimits.c3_eq (n : Nat) (t0 : (List DLimit)) (t3 : Int) (t4_0 : List UInt8) (t4_1 : Int) (t4_2 : Int) (t4_3 : Int) (t4_4 : Int) (t4_5 : Int) (t4_6 : Int) (t4_7 : Int) (t10 : (List DLimit)) (t11 : Int) (t12 : Int) : monitor_CheckLimits.c3 (n + 1) t0 t3 t4_0 t4_1 t4_2 t4_3 t4_4 t4_5 t4_6 t4_7 t10 t11 t12 =
 (if (decide (0 < t3)) = true then
 (if (0 : Int) ≤ (IntKind.wrap .i64 (t3 - 1)) ∧ (IntKind.wrap .i64 (t3 - 1)) < (t0.length : Int) then
  (if (!(lessS (t0.getD (IntKind.wrap .i64 (t3 - 1)).toNat (Ty.dflt YLimit)).1 t4_0)) = true then
   some (8, ())
   else
   monitor_CheckLimits.c0 n t0 t10 t11 (IntKind.wrap .i64 (t12 + 1)))
  else none)
 else
 monitor_CheckLimits.c0 n t0 t10 t11 (IntKind.wrap .i64 (t12 + 1))) := by kernel_rfl
noncomputable def monitor_CheckLimits.E (n : Nat) : FunE := fnE tab monitor_CheckLimits.T monitor_CheckLimits.ann Try.f13 monitor_CheckLimits.ins monitor_CheckLimits.outs n

noncomputable def kit_First.T : Nat → Nat → Option FunE := fun n => ofL none []
noncomputable def kit_First.ann : Nat → Option (List Keep) := ofL none [(2, some [.slot 5, .slot 6, .slot 7])]
noncomputable def kit_First.ins : List (Bool × Ty) := [(false, (.sl (.int .i64)))]
def kit_First.outs : List Ty := [(.int .i64)]
noncomputable def kit_First.f (n : Nat) (l0 : (List Int)) : Option (Int × Unit) := (fnE tab kit_First.T kit_First.ann Try.f32 kit_First.ins kit_First.outs n).f (l0, ())
noncomputable def kit_First.c0 (n : Nat) (t5 : (List Int)) (t6 : Int) (t7 : Int) : Option (Int × Unit) := cutN tab kit_First.T kit_First.ann Try.f32 kit_First.ins kit_First.outs n [1, 0, 1, 0] [(5, .val false [.v (.sl (.int .i64)) t5]), (6, .val false [.v (.int .i64) t6]), (7, .val false [.v (.int .i64) t7])] []
theorem kit_First.f_eq (n : Nat) (l0 : (List Int)) : kit_First.f n l0 =
 kit_First.c0 n l0 (l0.length : Int) 0 := by kernel_rfl
theorem kit_First.c0_eq (n : Nat) (t5 : (List Int)) (t6 : Int) (t7 : Int) : kit_First.c0 (n + 1) t5 t6 t7 =
 (if (decide (t7 < t6)) = true then
 (if (0 : Int) ≤ t7 ∧ t7 < (t5.length : Int) then
  (if (!(decide ((t5.getD t7.toNat 0) = 0))) = true then
   some ((t5.getD t7.toNat 0), ())
   else
   kit_First.c0 n t5 t6 (IntKind.wrap .i64 (t7 + 1)))
  else none)
 else
 some (0, ())) := by kernel_rfl
noncomputable def kit_First.E (n : Nat) : FunE := fnE tab kit_First.T kit_First.ann Try.f32 kit_First.ins kit_First.outs n

noncomputable def kit_Range.T : Nat → Nat → Option FunE := fun n => ofL none [(38, some (kit_In.E n))]
noncomputable def kit_Range.ann : Nat → Option (List Keep) := ofL none []
noncomputable def kit_Range.ins : List (Bool × Ty) := [(false, (.int .i64)), (false, (.int .i64)), (false, (.int .i64))]
def kit_Range.outs : List Ty := [(.int .i64)]
noncomputable def kit_Range.f (n : Nat) (n0 : Int) (low1 : Int) (high2 : Int) : Option (Int × Unit) := (fnE tab kit_Range.T kit_Range.ann Try.f33 kit_Range.ins kit_Range.outs n).f (n0, (low1, (high2, ())))
theorem kit_Range.f_eq (n : Nat) (n0 : Int) (low1 : Int) (high2 : Int) : kit_Range.f n n0 low1 high2 =
 ((kit_In.f n n0 low1 high2).bind fun r1 =>
 (if (!r1.1) = true then
  some (1, ())
  else
  some (0, ()))) := by kernel_rfl
noncomputable def kit_Range.E (n : Nat) : FunE := fnE tab kit_Range.T kit_Range.ann Try.f33 kit_Range.ins kit_Range.outs n

noncomputable def monitor_state.T : Nat → Nat → Option FunE := fun n => ofL none []
noncomputable def monitor_state.ann : Nat → Option (List Keep) := ofL none []
noncomputable def monitor_state.ins : List (Bool × Ty) := [(false, YLimit), (false, (.int .i64))]
def monitor_state.outs : List Ty := [(.int .i64)]
noncomputable def monitor_state.f (n : Nat) (x0 : DLimit) (value1 : Int) : Option (Int × Unit) := (fnE tab monitor_state.T monitor_state.ann Try.f34 monitor_state.ins monitor_state.outs n).f (x0, (value1, ()))
theorem monitor_state.f_eq (n : Nat) (x0 : DLimit) (value1 : Int) : monitor_state.f n x0 value1 =
 (if (decide (value1 < x0.2.1)) = true then
 some (2, ())
 else
 (if (decide (x0.2.2.2.2.1 < value1)) = true then
  some (2, ())
  else
  (if (decide (value1 < x0.2.2.1)) = true then
   some (1, ())
   else
   (if (decide (x0.2.2.2.1 < value1)) = true then
    some (1, ())
    else
    some (0, ()))))) := by kernel_rfl
noncomputable def monitor_state.E (n : Nat) : FunE := fnE tab monitor_state.T monitor_state.ann Try.f34 monitor_state.ins monitor_state.outs n

noncomputable def monitor_before.T : Nat → Nat → Option FunE := fun n => ofL none []
noncomputable def monitor_before.ann : Nat → Option (List Keep) := ofL none []
noncomputable def monitor_before.ins : List (Bool × Ty) := [(false, YSample), (false, YSample)]
def monitor_before.outs : List Ty := [.bool]
noncomputable def monitor_before.f (n : Nat) (a0 : DSample) (b1 : DSample) : Option (Bool × Unit) := (fnE tab monitor_before.T monitor_before.ann Try.f41 monitor_before.ins monitor_before.outs n).f (a0, (b1, ()))
theorem monitor_before.f_eq (n : Nat) (a0 : DSample) (b1 : DSample) : monitor_before.f n a0 b1 =
 (if (decide (a0.1 < b1.1)) = true then
 some (true, ())
 else
 (if (decide (a0.1 = b1.1)) = true then
  some ((lessS a0.2.1 b1.2.1), ())
  else
  some (false, ()))) := by kernel_rfl
noncomputable def monitor_before.E (n : Nat) : FunE := fnE tab monitor_before.T monitor_before.ann Try.f41 monitor_before.ins monitor_before.outs n

noncomputable def monitor_CheckSamples.T : Nat → Nat → Option FunE := fun n => ofL none [(37, some (monitor_IsName.E n)), (38, some (kit_In.E n)), (41, some (monitor_before.E n))]
noncomputable def monitor_CheckSamples.ann : Nat → Option (List Keep) := ofL none [(4, some [.slot 0, .slot 8, .slot 9, .slot 10])]
noncomputable def monitor_CheckSamples.ins : List (Bool × Ty) := [(false, (.sl YSample))]
def monitor_CheckSamples.outs : List Ty := [(.int .i64)]
noncomputable def monitor_CheckSamples.f (n : Nat) (l0 : (List DSample)) : Option (Int × Unit) := (fnE tab monitor_CheckSamples.T monitor_CheckSamples.ann Try.f15 monitor_CheckSamples.ins monitor_CheckSamples.outs n).f (l0, ())
noncomputable def monitor_CheckSamples.c0 (n : Nat) (l0 : (List DSample)) (t8 : (List DSample)) (t9 : Int) (t10 : Int) : Option (Int × Unit) := cutN tab monitor_CheckSamples.T monitor_CheckSamples.ann Try.f15 monitor_CheckSamples.ins monitor_CheckSamples.outs n [1, 1, 0, 1, 0] [(0, .val false [.v (.sl YSample) l0]), (8, .val false [.v (.sl YSample) t8]), (9, .val false [.v (.int .i64) t9]), (10, .val false [.v (.int .i64) t10])] []
theorem monitor_CheckSamples.f_eq (n : Nat) (l0 : (List DSample)) : monitor_CheckSamples.f n l0 =
 (if (decide (5000 < (l0.length : Int))) = true then
 some (2, ())
 else
 monitor_CheckSamples.c0 n l0 l0 (l0.length : Int) 0) := by kernel_rfl
theorem monitor_CheckSamples.c0_eq (n : Nat) (l0 : (List DSample)) (t8 : (List DSample)) (t9 : Int) (t10 : Int) : monitor_CheckSamples.c0 (n + 1) l0 t8 t9 t10 =
 (if (decide (t10 < t9)) = true then
 (if (0 : Int) ≤ t10 ∧ t10 < (t8.length : Int) then
  ((kit_In.f n (t8.getD t10.toNat (Ty.dflt YSample)).1 0 1000000000000).bind fun r1 =>
   (if (!r1.1) = true then
    some (1, ())
    else
    ((monitor_IsName.f n (t8.getD t10.toNat (Ty.dflt YSample)).2.1).bind fun r2 =>
     (if (!r2.1) = true then
      some (5, ())
      else
      ((kit_In.f n (t8.getD t10.toNat (Ty.dflt YSample)).2.2 (-1000000000) 1000000000).bind fun r3 =>
       (if (!r3.1) = true then
        some (1, ())
        else
        (if (decide (0 < t10)) = true then
         (if (0 : Int) ≤ (IntKind.wrap .i64 (t10 - 1)) ∧ (IntKind.wrap .i64 (t10 - 1)) < (l0.length : Int) then
          ((monitor_before.f n (l0.getD (IntKind.wrap .i64 (t10 - 1)).toNat (Ty.dflt YSample)) (t8.getD t10.toNat (Ty.dflt YSample))).bind fun r4 =>
           (if (!r4.1) = true then
            some (8, ())
            else
            monitor_CheckSamples.c0 n l0 t8 t9 (IntKind.wrap .i64 (t10 + 1))))
          else none)
         else
         monitor_CheckSamples.c0 n l0 t8 t9 (IntKind.wrap .i64 (t10 + 1)))))))))
  else none)
 else
 some (0, ())) := by kernel_rfl
noncomputable def monitor_CheckSamples.E (n : Nat) : FunE := fnE tab monitor_CheckSamples.T monitor_CheckSamples.ann Try.f15 monitor_CheckSamples.ins monitor_CheckSamples.outs n

noncomputable def monitor_followers.T : Nat → Nat → Option FunE := fun n => ofL none []
noncomputable def monitor_followers.ann : Nat → Option (List Keep) := ofL none [(3, some [.slot 3, .slot 7, .slot 8, .slot 9])]
noncomputable def monitor_followers.ins : List (Bool × Ty) := [(false, (.sl YLimit))]
def monitor_followers.outs : List Ty := [(.mapb .str (.ptr Yfollower))]
noncomputable def monitor_followers.f (n : Nat) (l0 : (List DLimit)) : Option ((List (List UInt8 × (Option Dfollower))) × Unit) := (fnE tab monitor_followers.T monitor_followers.ann Try.f42 monitor_followers.ins monitor_followers.outs n).f (l0, ())
noncomputable def monitor_followers.c0 (n : Nat) (out3 : (List (List UInt8 × (Option Dfollower)))) (t7 : (List DLimit)) (t8 : Int) (t9 : Int) : Option ((List (List UInt8 × (Option Dfollower))) × Unit) := cutN tab monitor_followers.T monitor_followers.ann Try.f42 monitor_followers.ins monitor_followers.outs n [1, 1, 0, 1, 0] [(3, .val false [.mbr 1000003]), (7, .val false [.v (.sl YLimit) t7]), (8, .val false [.v (.int .i64) t8]), (9, .val false [.v (.int .i64) t9])] [(1000003, .live (.mapb 0 .str (.ptr Yfollower) out3 none))]
theorem monitor_followers.f_eq (n : Nat) (l0 : (List DLimit)) : monitor_followers.f n l0 =
 monitor_followers.c0 n [] l0 (l0.length : Int) 0 := by kernel_rfl
theorem monitor_followers.c0_eq (n : Nat) (out3 : (List (List UInt8 × (Option Dfollower)))) (t7 : (List DLimit)) (t8 : Int) (t9 : Int) : monitor_followers.c0 (n + 1) out3 t7 t8 t9 =
 (if (decide (t9 < t8)) = true then
 (if (0 : Int) ≤ t9 ∧ t9 < (t7.length : Int) then
  monitor_followers.c0 n (mapPut .str (.ptr Yfollower) (t7.getD t9.toNat (Ty.dflt YLimit)).1 (some ((t7.getD t9.toNat (Ty.dflt YLimit)), (0, ([], [])))) out3) t7 t8 (IntKind.wrap .i64 (t9 + 1))
  else none)
 else
 some (out3, ())) := by kernel_rfl
noncomputable def monitor_followers.E (n : Nat) : FunE := fnE tab monitor_followers.T monitor_followers.ann Try.f42 monitor_followers.ins monitor_followers.outs n

noncomputable def monitor_follower_step.T : Nat → Nat → Option FunE := fun n => ofL none [(34, some (monitor_state.E n))]
noncomputable def monitor_follower_step.ann : Nat → Option (List Keep) := ofL none [(6, some [.view 79 0, .obj 0 (.pair .str (.pair (.int .i64) (.pair (.int .i64) (.pair (.int .i64) (.pair (.int .i64) (.pair (.int .i64) (.pair (.int .i64) (.pair (.int .i64) (.pair (.int .i64) (.pair (.vec (.int .i64)) (.vec (.int .i64)))))))))))), .slot 5, .slot 80, .slot 81]), (12, some [.obj 0 (.pair .str (.pair (.int .i64) (.pair (.int .i64) (.pair (.int .i64) (.pair (.int .i64) (.pair (.int .i64) (.pair (.int .i64) (.pair (.int .i64) (.pair (.int .i64) (.pair (.vec (.int .i64)) (.vec (.int .i64))))))))))))]), (16, some [.view 117 0, .obj 0 (.pair .str (.pair (.int .i64) (.pair (.int .i64) (.pair (.int .i64) (.pair (.int .i64) (.pair (.int .i64) (.pair (.int .i64) (.pair (.int .i64) (.pair (.int .i64) (.pair (.vec (.int .i64)) (.vec (.int .i64)))))))))))), .slot 9, .slot 118, .slot 119])]
noncomputable def monitor_follower_step.ins : List (Bool × Ty) := [(true, Yfollower), (false, (.int .i64))]
def monitor_follower_step.outs : List Ty := []
noncomputable def monitor_follower_step.f (n : Nat) (t0 : Dfollower) (t1 : Int) : Option (Dfollower × Unit) := (fnE tab monitor_follower_step.T monitor_follower_step.ann Try.f43 monitor_follower_step.ins monitor_follower_step.outs n).f (t0, (t1, ()))
noncomputable def monitor_follower_step.c0 (n : Nat) (t0_0 : List UInt8) (t0_1 : Int) (t0_2 : Int) (t0_3 : Int) (t0_4 : Int) (t0_5 : Int) (t0_6 : Int) (t0_7 : Int) (t0_8 : Int) (t0_9 : (List Int)) (t0_10 : (List Int)) (t5 : Int) (t80 : Int) (t81 : Int) (t79_lo : Int) : Option (Dfollower × Unit) := cutN tab monitor_follower_step.T monitor_follower_step.ann Try.f43 monitor_follower_step.ins monitor_follower_step.outs n [1, 1, 0, 1, 1, 0, 1, 0, 1, 0] [(79, .val false [.subv 1000000 1 9 t79_lo.toNat 1]), (0, .val false [.ptr 1000000 0]), (5, .val false [.v (.int .i64) t5]), (80, .val false [.v (.int .i64) t80]), (81, .val false [.v (.int .i64) t81])] [(1000000, .live (.cells 1 [.v .str t0_0, .v (.int .i64) t0_1, .v (.int .i64) t0_2, .v (.int .i64) t0_3, .v (.int .i64) t0_4, .v (.int .i64) t0_5, .v (.int .i64) t0_6, .v (.int .i64) t0_7, .v (.int .i64) t0_8, .v (.vec (.int .i64)) t0_9, .v (.vec (.int .i64)) t0_10]))]
noncomputable def monitor_follower_step.c1 (n : Nat) (t0_0 : List UInt8) (t0_1 : Int) (t0_2 : Int) (t0_3 : Int) (t0_4 : Int) (t0_5 : Int) (t0_6 : Int) (t0_7 : Int) (t0_8 : Int) (t0_9 : (List Int)) (t0_10 : (List Int)) : Option (Dfollower × Unit) := cutN tab monitor_follower_step.T monitor_follower_step.ann Try.f43 monitor_follower_step.ins monitor_follower_step.outs n [1, 1, 1] [(0, .val false [.ptr 1000000 0])] [(1000000, .live (.cells 1 [.v .str t0_0, .v (.int .i64) t0_1, .v (.int .i64) t0_2, .v (.int .i64) t0_3, .v (.int .i64) t0_4, .v (.int .i64) t0_5, .v (.int .i64) t0_6, .v (.int .i64) t0_7, .v (.int .i64) t0_8, .v (.vec (.int .i64)) t0_9, .v (.vec (.int .i64)) t0_10]))]
noncomputable def monitor_follower_step.c2 (n : Nat) (t0_0 : List UInt8) (t0_1 : Int) (t0_2 : Int) (t0_3 : Int) (t0_4 : Int) (t0_5 : Int) (t0_6 : Int) (t0_7 : Int) (t0_8 : Int) (t0_9 : (List Int)) (t0_10 : (List Int)) (t9 : Int) (t118 : Int) (t119 : Int) (t117_lo : Int) : Option (Dfollower × Unit) := cutN tab monitor_follower_step.T monitor_follower_step.ann Try.f43 monitor_follower_step.ins monitor_follower_step.outs n [1, 1, 1, 1, 1, 0, 1, 0, 1, 0] [(117, .val false [.subv 1000000 1 10 t117_lo.toNat 1]), (0, .val false [.ptr 1000000 0]), (9, .val false [.v (.int .i64) t9]), (118, .val false [.v (.int .i64) t118]), (119, .val false [.v (.int .i64) t119])] [(1000000, .live (.cells 1 [.v .str t0_0, .v (.int .i64) t0_1, .v (.int .i64) t0_2, .v (.int .i64) t0_3, .v (.int .i64) t0_4, .v (.int .i64) t0_5, .v (.int .i64) t0_6, .v (.int .i64) t0_7, .v (.int .i64) t0_8, .v (.vec (.int .i64)) t0_9, .v (.vec (.int .i64)) t0_10]))]
theorem monitor_follower_step.f_eq (n : Nat) (t0 : Dfollower) (t1 : Int) : monitor_follower_step.f n t0 t1 =
 ((monitor_state.f n t0.1 t1).bind fun r1 =>
 (if t0.2.2.1.length + 1 ≤ 1099511627776 then
  ((monitor_state.f n t0.1 (IntKind.wrap .i64 (t1 - t0.1.2.2.2.2.2.2.2))).bind fun r2 =>
   ((monitor_state.f n t0.1 (IntKind.wrap .i64 (t1 + t0.1.2.2.2.2.2.2.2))).bind fun r3 =>
    (if t0.2.2.2.length + 1 ≤ 1099511627776 then
     (if (decide (0 ≤ (IntKind.wrap .i64 (((t0.2.2.1 ++ [r1.1]).length : Int) - t0.1.2.2.2.2.2.1)))) = true then
      (if (0 : Int) ≤ (IntKind.wrap .i64 (((t0.2.2.1 ++ [r1.1]).length : Int) - t0.1.2.2.2.2.2.1)) ∧ (IntKind.wrap .i64 (((t0.2.2.1 ++ [r1.1]).length : Int) - t0.1.2.2.2.2.2.1)) ≤ ((t0.2.2.1 ++ [r1.1]).length : Int) then
       monitor_follower_step.c0 n t0.1.1 t0.1.2.1 t0.1.2.2.1 t0.1.2.2.2.1 t0.1.2.2.2.2.1 t0.1.2.2.2.2.2.1 t0.1.2.2.2.2.2.2.1 t0.1.2.2.2.2.2.2.2 t0.2.1 (t0.2.2.1 ++ [r1.1]) (t0.2.2.2 ++ [(mxI r2.1 r3.1)]) 2 (((t0.2.2.1 ++ [r1.1]).drop (IntKind.wrap .i64 (((t0.2.2.1 ++ [r1.1]).length : Int) - t0.1.2.2.2.2.2.1)).toNat).length : Int) 0 (IntKind.wrap .i64 (((t0.2.2.1 ++ [r1.1]).length : Int) - t0.1.2.2.2.2.2.1))
       else none)
      else
      monitor_follower_step.c1 n t0.1.1 t0.1.2.1 t0.1.2.2.1 t0.1.2.2.2.1 t0.1.2.2.2.2.1 t0.1.2.2.2.2.2.1 t0.1.2.2.2.2.2.2.1 t0.1.2.2.2.2.2.2.2 t0.2.1 (t0.2.2.1 ++ [r1.1]) (t0.2.2.2 ++ [(mxI r2.1 r3.1)]))
     else none)))
  else none)) := by kernel_rfl
theorem monitor_follower_step.c0_eq (n : Nat) (t0_0 : List UInt8) (t0_1 : Int) (t0_2 : Int) (t0_3 : Int) (t0_4 : Int) (t0_5 : Int) (t0_6 : Int) (t0_7 : Int) (t0_8 : Int) (t0_9 : (List Int)) (t0_10 : (List Int)) (t5 : Int) (t80 : Int) (t81 : Int) (t79_lo : Int) : monitor_follower_step.c0 (n + 1) t0_0 t0_1 t0_2 t0_3 t0_4 t0_5 t0_6 t0_7 t0_8 t0_9 t0_10 t5 t80 t81 t79_lo =
 (if (decide (t81 < t80)) = true then
 (if (0 : Int) ≤ t81 ∧ t81 < ((t0_9.drop t79_lo.toNat).length : Int) then
  monitor_follower_step.c0 n t0_0 t0_1 t0_2 t0_3 t0_4 t0_5 t0_6 t0_7 t0_8 t0_9 t0_10 (mnI t5 (t0_9.getD (t81.toNat + t79_lo.toNat) 0)) t80 (IntKind.wrap .i64 (t81 + 1)) t79_lo
  else none)
 else
 (if (decide (t0_8 < t5)) = true then
  some (((t0_0, (t0_1, (t0_2, (t0_3, (t0_4, (t0_5, (t0_6, t0_7))))))), (t5, (t0_9, t0_10))), ())
  else
  monitor_follower_step.c1 n t0_0 t0_1 t0_2 t0_3 t0_4 t0_5 t0_6 t0_7 t0_8 t0_9 t0_10)) := by kernel_rfl
theorem monitor_follower_step.c1_eq (n : Nat) (t0_0 : List UInt8) (t0_1 : Int) (t0_2 : Int) (t0_3 : Int) (t0_4 : Int) (t0_5 : Int) (t0_6 : Int) (t0_7 : Int) (t0_8 : Int) (t0_9 : (List Int)) (t0_10 : (List Int)) : monitor_follower_step.c1 (n + 1) t0_0 t0_1 t0_2 t0_3 t0_4 t0_5 t0_6 t0_7 t0_8 t0_9 t0_10 =
 (if (decide (0 ≤ (IntKind.wrap .i64 ((t0_10.length : Int) - t0_6)))) = true then
 (if (0 : Int) ≤ (IntKind.wrap .i64 ((t0_10.length : Int) - t0_6)) ∧ (IntKind.wrap .i64 ((t0_10.length : Int) - t0_6)) ≤ (t0_10.length : Int) then
  monitor_follower_step.c2 n t0_0 t0_1 t0_2 t0_3 t0_4 t0_5 t0_6 t0_7 t0_8 t0_9 t0_10 0 ((t0_10.drop (IntKind.wrap .i64 ((t0_10.length : Int) - t0_6)).toNat).length : Int) 0 (IntKind.wrap .i64 ((t0_10.length : Int) - t0_6))
  else none)
 else
 some (((t0_0, (t0_1, (t0_2, (t0_3, (t0_4, (t0_5, (t0_6, t0_7))))))), (t0_8, (t0_9, t0_10))), ())) := by kernel_rfl
theorem monitor_follower_step.c2_eq (n : Nat) (t0_0 : List UInt8) (t0_1 : Int) (t0_2 : Int) (t0_3 : Int) (t0_4 : Int) (t0_5 : Int) (t0_6 : Int) (t0_7 : Int) (t0_8 : Int) (t0_9 : (List Int)) (t0_10 : (List Int)) (t9 : Int) (t118 : Int) (t119 : Int) (t117_lo : Int) : monitor_follower_step.c2 (n + 1) t0_0 t0_1 t0_2 t0_3 t0_4 t0_5 t0_6 t0_7 t0_8 t0_9 t0_10 t9 t118 t119 t117_lo =
 (if (decide (t119 < t118)) = true then
 (if (0 : Int) ≤ t119 ∧ t119 < ((t0_10.drop t117_lo.toNat).length : Int) then
  monitor_follower_step.c2 n t0_0 t0_1 t0_2 t0_3 t0_4 t0_5 t0_6 t0_7 t0_8 t0_9 t0_10 (mxI t9 (t0_10.getD (t119.toNat + t117_lo.toNat) 0)) t118 (IntKind.wrap .i64 (t119 + 1)) t117_lo
  else none)
 else
 (if (decide (t9 < t0_8)) = true then
  some (((t0_0, (t0_1, (t0_2, (t0_3, (t0_4, (t0_5, (t0_6, t0_7))))))), (t9, (t0_9, t0_10))), ())
  else
  some (((t0_0, (t0_1, (t0_2, (t0_3, (t0_4, (t0_5, (t0_6, t0_7))))))), (t0_8, (t0_9, t0_10))), ()))) := by kernel_rfl
noncomputable def monitor_follower_step.E (n : Nat) : FunE := fnE tab monitor_follower_step.T monitor_follower_step.ann Try.f43 monitor_follower_step.ins monitor_follower_step.outs n

noncomputable def monitor_word.T : Nat → Nat → Option FunE := fun n => ofL none []
noncomputable def monitor_word.ann : Nat → Option (List Keep) := ofL none []
noncomputable def monitor_word.ins : List (Bool × Ty) := [(false, (.int .i64))]
def monitor_word.outs : List Ty := [.str]
noncomputable def monitor_word.f (n : Nat) (state0 : Int) : Option (List UInt8 × Unit) := (fnE tab monitor_word.T monitor_word.ann Try.f44 monitor_word.ins monitor_word.outs n).f (state0, ())
theorem monitor_word.f_eq (n : Nat) (state0 : Int) : monitor_word.f n state0 =
 (if (decide (state0 = 0)) = true then
 some ([103, 111, 111, 100], ())
 else
 (if (decide (state0 = 1)) = true then
  some ([119, 97, 114, 110], ())
  else
  some ([97, 108, 97, 114, 109], ()))) := by kernel_rfl
noncomputable def monitor_word.E (n : Nat) : FunE := fnE tab monitor_word.T monitor_word.ann Try.f44 monitor_word.ins monitor_word.outs n

noncomputable def monitor_Follow.T : Nat → Nat → Option FunE := fun n => ofL none [(13, some (monitor_CheckLimits.E n)), (15, some (monitor_CheckSamples.E n)), (32, some (kit_First.E n)), (42, some (monitor_followers.E n)), (43, some (monitor_follower_step.E n)), (44, some (monitor_word.E n))]
noncomputable def monitor_Follow.ann : Nat → Option (List Keep) := ofL none [(7, some [.slot 7, .vec 8 YEvent, .slot 24, .slot 25, .slot 26])]
noncomputable def monitor_Follow.ins : List (Bool × Ty) := [(false, (.sl YLimit)), (false, (.sl YSample))]
def monitor_Follow.outs : List Ty := [(.sl YEvent), (.int .i64)]
noncomputable def monitor_Follow.f (n : Nat) (t0 : (List DLimit)) (t1 : (List DSample)) : Option ((List DEvent) × Int × Unit) := (fnE tab monitor_Follow.T monitor_Follow.ann Try.f19 monitor_Follow.ins monitor_Follow.outs n).f (t0, (t1, ()))
noncomputable def monitor_Follow.c0 (n : Nat) (t7 : (List (List UInt8 × (Option Dfollower)))) (t8 : (List DEvent)) (t24 : (List DSample)) (t25 : Int) (t26 : Int) : Option ((List DEvent) × Int × Unit) := cutN tab monitor_Follow.T monitor_Follow.ann Try.f19 monitor_Follow.ins monitor_Follow.outs n [1, 1, 1, 1, 0, 1, 0] [(7, .val false [.mbr 1000007]), (8, .val false [.row 1000008]), (24, .val false [.v (.sl YSample) t24]), (25, .val false [.v (.int .i64) t25]), (26, .val false [.v (.int .i64) t26])] [(1000007, .live (.mapb 0 .str (.ptr Yfollower) t7 none)), (1000008, .live (.row YEvent t8))]
theorem monitor_Follow.f_eq (n : Nat) (t0 : (List DLimit)) (t1 : (List DSample)) : monitor_Follow.f n t0 t1 =
 ((monitor_CheckLimits.f n t0).bind fun r1 =>
 ((monitor_CheckSamples.f n t1).bind fun r2 =>
  ((kit_First.f n [r1.1, r2.1]).bind fun r3 =>
   (if (!(decide (r3.1 = 0))) = true then
    some ([], (r3.1, ()))
    else
    ((monitor_followers.f n t0).bind fun r4 =>
     monitor_Follow.c0 n r4.1 [] t1 (t1.length : Int) 0))))) := by kernel_rfl
theorem monitor_Follow.c0_eq (n : Nat) (t7 : (List (List UInt8 × (Option Dfollower)))) (t8 : (List DEvent)) (t24 : (List DSample)) (t25 : Int) (t26 : Int) : monitor_Follow.c0 (n + 1) t7 t8 t24 t25 t26 =
 (if (decide (t26 < t25)) = true then
 (if (0 : Int) ≤ t26 ∧ t26 < (t24.length : Int) then
  (if (hasBox .str Yfollower (t24.getD t26.toNat (Ty.dflt YSample)).2.1 t7) = true then
   ((monitor_follower_step.f n (boxOf .str Yfollower (t24.getD t26.toNat (Ty.dflt YSample)).2.1 t7) (t24.getD t26.toNat (Ty.dflt YSample)).2.2).bind fun r5 =>
    (if (!(decide ((boxOf .str Yfollower (t24.getD t26.toNat (Ty.dflt YSample)).2.1 (mapPut .str (.ptr Yfollower) (t24.getD t26.toNat (Ty.dflt YSample)).2.1 (some r5.1) t7)).2.1 = (boxOf .str Yfollower (t24.getD t26.toNat (Ty.dflt YSample)).2.1 t7).2.1))) = true then
     (if (t24.getD t26.toNat (Ty.dflt YSample)).2.1.length + 1 ≤ 4611686018427387904 then
      ((monitor_word.f n (boxOf .str Yfollower (t24.getD t26.toNat (Ty.dflt YSample)).2.1 (mapPut .str (.ptr Yfollower) (t24.getD t26.toNat (Ty.dflt YSample)).2.1 (some r5.1) t7)).2.1).bind fun r6 =>
       (if ((t24.getD t26.toNat (Ty.dflt YSample)).2.1 ++ [45]).length + r6.1.length ≤ 4611686018427387904 then
        (if t8.length + 1 ≤ 1099511627776 then
         monitor_Follow.c0 n (mapPut .str (.ptr Yfollower) (t24.getD t26.toNat (Ty.dflt YSample)).2.1 (some r5.1) t7) (t8 ++ [((t24.getD t26.toNat (Ty.dflt YSample)).1, (((t24.getD t26.toNat (Ty.dflt YSample)).2.1 ++ [45]) ++ r6.1))]) t24 t25 (IntKind.wrap .i64 (t26 + 1))
         else none)
        else none))
      else none)
     else
     monitor_Follow.c0 n (mapPut .str (.ptr Yfollower) (t24.getD t26.toNat (Ty.dflt YSample)).2.1 (some r5.1) t7) t8 t24 t25 (IntKind.wrap .i64 (t26 + 1))))
   else
   monitor_Follow.c0 n t7 t8 t24 t25 (IntKind.wrap .i64 (t26 + 1)))
  else none)
 else
 some (t8, (0, ()))) := by kernel_rfl
noncomputable def monitor_Follow.E (n : Nat) : FunE := fnE tab monitor_Follow.T monitor_Follow.ann Try.f19 monitor_Follow.ins monitor_Follow.outs n

noncomputable def power_CheckCell.T : Nat → Nat → Option FunE := fun n => ofL none [(38, some (kit_In.E n))]
noncomputable def power_CheckCell.ann : Nat → Option (List Keep) := ofL none []
noncomputable def power_CheckCell.ins : List (Bool × Ty) := [(false, YCell)]
def power_CheckCell.outs : List Ty := [(.int .i64)]
noncomputable def power_CheckCell.f (n : Nat) (c0 : DCell) : Option (Int × Unit) := (fnE tab power_CheckCell.T power_CheckCell.ann Try.f68 power_CheckCell.ins power_CheckCell.outs n).f (c0, ())
theorem power_CheckCell.f_eq (n : Nat) (c0 : DCell) : power_CheckCell.f n c0 =
 ((kit_In.f n c0.1 1 1000000000000).bind fun r1 =>
 (if (!r1.1) = true then
  some (1, ())
  else
  ((kit_In.f n c0.2.1 0 c0.1).bind fun r2 =>
   (if (!r2.1) = true then
    some (1, ())
    else
    ((kit_In.f n c0.2.2.1 0 100000).bind fun r3 =>
     (if (!r3.1) = true then
      some (1, ())
      else
      ((kit_In.f n c0.2.2.2.1 0 100000).bind fun r4 =>
       (if (!r4.1) = true then
        some (1, ())
        else
        ((kit_In.f n c0.2.2.2.2 0 c0.1).bind fun r5 =>
         (if (!r5.1) = true then
          some (1, ())
          else
          some (0, ()))))))))))) := by kernel_rfl
noncomputable def power_CheckCell.E (n : Nat) : FunE := fnE tab power_CheckCell.T power_CheckCell.ann Try.f68 power_CheckCell.ins power_CheckCell.outs n

noncomputable def power_span.T : Nat → Nat → Option FunE := fun n => ofL none [(38, some (kit_In.E n))]
noncomputable def power_span.ann : Nat → Option (List Keep) := ofL none []
noncomputable def power_span.ins : List (Bool × Ty) := [(false, (.int .i64)), (false, (.int .i64))]
def power_span.outs : List Ty := [(.int .i64)]
noncomputable def power_span.f (n : Nat) (from0 : Int) (to1 : Int) : Option (Int × Unit) := (fnE tab power_span.T power_span.ann Try.f77 power_span.ins power_span.outs n).f (from0, (to1, ()))
theorem power_span.f_eq (n : Nat) (from0 : Int) (to1 : Int) : power_span.f n from0 to1 =
 ((kit_In.f n from0 0 1000000000000).bind fun r1 =>
 (if (!r1.1) = true then
  some (1, ())
  else
  ((kit_In.f n to1 0 1000000000000).bind fun r2 =>
   (if (!r2.1) = true then
    some (1, ())
    else
    (if (decide (to1 ≤ from0)) = true then
     some (13, ())
     else
     some (0, ())))))) := by kernel_rfl
noncomputable def power_span.E (n : Nat) : FunE := fnE tab power_span.T power_span.ann Try.f77 power_span.ins power_span.outs n

noncomputable def power_CheckSun.T : Nat → Nat → Option FunE := fun n => ofL none [(77, some (power_span.E n))]
noncomputable def power_CheckSun.ann : Nat → Option (List Keep) := ofL none [(4, some [.slot 0, .slot 9, .slot 10, .slot 11])]
noncomputable def power_CheckSun.ins : List (Bool × Ty) := [(false, (.sl YLevel))]
def power_CheckSun.outs : List Ty := [(.int .i64)]
noncomputable def power_CheckSun.f (n : Nat) (s0 : (List DLevel)) : Option (Int × Unit) := (fnE tab power_CheckSun.T power_CheckSun.ann Try.f69 power_CheckSun.ins power_CheckSun.outs n).f (s0, ())
noncomputable def power_CheckSun.c0 (n : Nat) (s0 : (List DLevel)) (t9 : (List DLevel)) (t10 : Int) (t11 : Int) : Option (Int × Unit) := cutN tab power_CheckSun.T power_CheckSun.ann Try.f69 power_CheckSun.ins power_CheckSun.outs n [1, 1, 0, 1, 0] [(0, .val false [.v (.sl YLevel) s0]), (9, .val false [.v (.sl YLevel) t9]), (10, .val false [.v (.int .i64) t10]), (11, .val false [.v (.int .i64) t11])] []
theorem power_CheckSun.f_eq (n : Nat) (s0 : (List DLevel)) : power_CheckSun.f n s0 =
 (if (decide (500 < (s0.length : Int))) = true then
 some (2, ())
 else
 power_CheckSun.c0 n s0 s0 (s0.length : Int) 0) := by kernel_rfl
theorem power_CheckSun.c0_eq (n : Nat) (s0 : (List DLevel)) (t9 : (List DLevel)) (t10 : Int) (t11 : Int) : power_CheckSun.c0 (n + 1) s0 t9 t10 t11 =
 (if (decide (t11 < t10)) = true then
 (if (0 : Int) ≤ t11 ∧ t11 < (t9.length : Int) then
  ((power_span.f n (t9.getD t11.toNat (Ty.dflt YLevel)).1 (t9.getD t11.toNat (Ty.dflt YLevel)).2).bind fun r1 =>
   (if (!(decide (r1.1 = 0))) = true then
    some (r1.1, ())
    else
    (if (decide (0 < t11)) = true then
     (if (0 : Int) ≤ (IntKind.wrap .i64 (t11 - 1)) ∧ (IntKind.wrap .i64 (t11 - 1)) < (s0.length : Int) then
      (if (decide ((t9.getD t11.toNat (Ty.dflt YLevel)).1 ≤ (s0.getD (IntKind.wrap .i64 (t11 - 1)).toNat (Ty.dflt YLevel)).2)) = true then
       some (8, ())
       else
       power_CheckSun.c0 n s0 t9 t10 (IntKind.wrap .i64 (t11 + 1)))
      else none)
     else
     power_CheckSun.c0 n s0 t9 t10 (IntKind.wrap .i64 (t11 + 1)))))
  else none)
 else
 some (0, ())) := by kernel_rfl
noncomputable def power_CheckSun.E (n : Nat) : FunE := fnE tab power_CheckSun.T power_CheckSun.ann Try.f69 power_CheckSun.ins power_CheckSun.outs n

noncomputable def slices_BinarySearchFunc_string.T : Nat → Nat → Option FunE := fun n => ofL none [(81, some (power_load_1.E n))]
noncomputable def slices_BinarySearchFunc_string.ann : Nat → Option (List Keep) := ofL none [(3, some [.slot 0, .slot 1, .slot 2, .slot 8, .slot 9, .slot 10])]
noncomputable def slices_BinarySearchFunc_string.ins : List (Bool × Ty) := [(false, (.sl YUse)), (false, .str), (false, (.fnv 81))]
def slices_BinarySearchFunc_string.outs : List Ty := [(.int .i64), .bool]
noncomputable def slices_BinarySearchFunc_string.f (n : Nat) (x0 : (List DUse)) (target1 : List UInt8) (cmp2 : Unit) : Option (Int × Bool × Unit) := (fnE tab slices_BinarySearchFunc_string.T slices_BinarySearchFunc_string.ann Try.f80 slices_BinarySearchFunc_string.ins slices_BinarySearchFunc_string.outs n).f (x0, (target1, (cmp2, ())))
noncomputable def slices_BinarySearchFunc_string.c0 (n : Nat) (x0 : (List DUse)) (target1 : List UInt8) (n8 : Int) (i9 : Int) (j10 : Int) : Option (Int × Bool × Unit) := cutN tab slices_BinarySearchFunc_string.T slices_BinarySearchFunc_string.ann Try.f80 slices_BinarySearchFunc_string.ins slices_BinarySearchFunc_string.outs n [1, 1, 1, 0, 0] [(0, .val false [.v (.sl YUse) x0]), (1, .val false [.v .str target1]), (2, .val false [.v (.fnv 81) ()]), (8, .val false [.v (.int .i64) n8]), (9, .val false [.v (.int .i64) i9]), (10, .val false [.v (.int .i64) j10])] []
theorem slices_BinarySearchFunc_string.f_eq (n : Nat) (x0 : (List DUse)) (target1 : List UInt8) (cmp2 : Unit) : slices_BinarySearchFunc_string.f n x0 target1 cmp2 =
 slices_BinarySearchFunc_string.c0 n x0 target1 (x0.length : Int) 0 (x0.length : Int) := by kernel_rfl
theorem slices_BinarySearchFunc_string.c0_eq (n : Nat) (x0 : (List DUse)) (target1 : List UInt8) (n8 : Int) (i9 : Int) (j10 : Int) : slices_BinarySearchFunc_string.c0 (n + 1) x0 target1 n8 i9 j10 =
 (if (decide (i9 < j10)) = true then
 (if (0 : Int) ≤ (IntKind.wrap .i64 (shrI .u64 (IntKind.wrap .u64 (IntKind.wrap .i64 (i9 + j10))) 1)) ∧ (IntKind.wrap .i64 (shrI .u64 (IntKind.wrap .u64 (IntKind.wrap .i64 (i9 + j10))) 1)) < (x0.length : Int) then
  ((power_load_1.f n (x0.getD (IntKind.wrap .i64 (shrI .u64 (IntKind.wrap .u64 (IntKind.wrap .i64 (i9 + j10))) 1)).toNat (Ty.dflt YUse)) target1).bind fun r1 =>
   (if (decide (r1.1 < 0)) = true then
    slices_BinarySearchFunc_string.c0 n x0 target1 n8 (IntKind.wrap .i64 ((IntKind.wrap .i64 (shrI .u64 (IntKind.wrap .u64 (IntKind.wrap .i64 (i9 + j10))) 1)) + 1)) j10
    else
    slices_BinarySearchFunc_string.c0 n x0 target1 n8 i9 (IntKind.wrap .i64 (shrI .u64 (IntKind.wrap .u64 (IntKind.wrap .i64 (i9 + j10))) 1))))
  else none)
 else
 (if (decide (i9 < n8)) = true then
  (if (0 : Int) ≤ i9 ∧ i9 < (x0.length : Int) then
   ((power_load_1.f n (x0.getD i9.toNat (Ty.dflt YUse)) target1).bind fun r2 =>
    some (i9, ((decide (r2.1 = 0)), ())))
   else none)
  else
  some (i9, (false, ())))) := by kernel_rfl
noncomputable def slices_BinarySearchFunc_string.E (n : Nat) : FunE := fnE tab slices_BinarySearchFunc_string.T slices_BinarySearchFunc_string.ann Try.f80 slices_BinarySearchFunc_string.ins slices_BinarySearchFunc_string.outs n

noncomputable def power_load.T : Nat → Nat → Option FunE := fun n => ofL none [(80, some (slices_BinarySearchFunc_string.E n))]
noncomputable def power_load.ann : Nat → Option (List Keep) := ofL none []
noncomputable def power_load.ins : List (Bool × Ty) := [(false, (.sl YUse)), (false, .str)]
def power_load.outs : List Ty := [YUse, .bool]
noncomputable def power_load.f (n : Nat) (l0 : (List DUse)) (name1 : List UInt8) : Option (DUse × Bool × Unit) := (fnE tab power_load.T power_load.ann Try.f72 power_load.ins power_load.outs n).f (l0, (name1, ()))
theorem power_load.f_eq (n : Nat) (l0 : (List DUse)) (name1 : List UInt8) : power_load.f n l0 name1 =
 ((slices_BinarySearchFunc_string.f n l0 name1 ()).bind fun r1 =>
 (if (!r1.2.1) = true then
  some (([], (0, 0)), (false, ()))
  else
  (if (0 : Int) ≤ r1.1 ∧ r1.1 < (l0.length : Int) then
   some ((l0.getD r1.1.toNat (Ty.dflt YUse)), (true, ()))
   else none))) := by kernel_rfl
noncomputable def power_load.E (n : Nat) : FunE := fnE tab power_load.T power_load.ann Try.f72 power_load.ins power_load.outs n

noncomputable def telemetry_Word.T : Nat → Nat → Option FunE := fun n => ofL none []
noncomputable def telemetry_Word.ann : Nat → Option (List Keep) := ofL none [(3, some [.slot 0]), (4, some [.slot 0, .slot 13, .slot 14])]
noncomputable def telemetry_Word.ins : List (Bool × Ty) := [(false, .str)]
def telemetry_Word.outs : List Ty := [.bool]
noncomputable def telemetry_Word.f (n : Nat) (s0 : List UInt8) : Option (Bool × Unit) := (fnE tab telemetry_Word.T telemetry_Word.ann Try.f87 telemetry_Word.ins telemetry_Word.outs n).f (s0, ())
noncomputable def telemetry_Word.c0 (n : Nat) (s0 : List UInt8) : Option (Bool × Unit) := cutN tab telemetry_Word.T telemetry_Word.ann Try.f87 telemetry_Word.ins telemetry_Word.outs n [1, 1] [(0, .val false [.v .str s0])] []
noncomputable def telemetry_Word.c1 (n : Nat) (s0 : List UInt8) (t13 : Int) (t14 : Int) : Option (Bool × Unit) := cutN tab telemetry_Word.T telemetry_Word.ann Try.f87 telemetry_Word.ins telemetry_Word.outs n [1, 1, 0, 1, 0] [(0, .val false [.v .str s0]), (13, .val false [.v (.int .i64) t13]), (14, .val false [.v (.int .i64) t14])] []
theorem telemetry_Word.f_eq (n : Nat) (s0 : List UInt8) : telemetry_Word.f n s0 =
 (if (decide ((s0 : List UInt8) = [])) = true then
 some (false, ())
 else
 (if (decide (40 < (s0.length : Int))) = true then
  some (false, ())
  else
  telemetry_Word.c0 n s0)) := by kernel_rfl
theorem telemetry_Word.c0_eq (n : Nat) (s0 : List UInt8) : telemetry_Word.c0 (n + 1) s0 =
 telemetry_Word.c1 n s0 (s0.length : Int) 0 := by kernel_rfl
theorem telemetry_Word.c1_eq (n : Nat) (s0 : List UInt8) (t13 : Int) (t14 : Int) : telemetry_Word.c1 (n + 1) s0 t13 t14 =
 (if (decide (t14 < t13)) = true then
 (if (0 : Int) ≤ t14 ∧ t14 < (s0.length : Int) then
  (if (decide (((s0.getD t14.toNat 0).toNat : Int) < 97)) = true then
   (if (decide (t14 = 0)) = true then
    some (false, ())
    else
    (if (!(decide (((s0.getD t14.toNat 0).toNat : Int) = 95))) = true then
     (if (decide (((s0.getD t14.toNat 0).toNat : Int) < 48)) = true then
      some (false, ())
      else
      (if (decide (57 < ((s0.getD t14.toNat 0).toNat : Int))) = true then
       some (false, ())
       else
       telemetry_Word.c1 n s0 t13 (IntKind.wrap .i64 (t14 + 1))))
     else
     telemetry_Word.c1 n s0 t13 (IntKind.wrap .i64 (t14 + 1))))
   else
   (if (decide (122 < ((s0.getD t14.toNat 0).toNat : Int))) = true then
    (if (decide (t14 = 0)) = true then
     some (false, ())
     else
     (if (!(decide (((s0.getD t14.toNat 0).toNat : Int) = 95))) = true then
      (if (decide (((s0.getD t14.toNat 0).toNat : Int) < 48)) = true then
       some (false, ())
       else
       (if (decide (57 < ((s0.getD t14.toNat 0).toNat : Int))) = true then
        some (false, ())
        else
        telemetry_Word.c1 n s0 t13 (IntKind.wrap .i64 (t14 + 1))))
      else
      telemetry_Word.c1 n s0 t13 (IntKind.wrap .i64 (t14 + 1))))
    else
    telemetry_Word.c1 n s0 t13 (IntKind.wrap .i64 (t14 + 1))))
  else none)
 else
 some (true, ())) := by kernel_rfl
noncomputable def telemetry_Word.E (n : Nat) : FunE := fnE tab telemetry_Word.T telemetry_Word.ann Try.f87 telemetry_Word.ins telemetry_Word.outs n

noncomputable def power_CheckLoads.T : Nat → Nat → Option FunE := fun n => ofL none [(38, some (kit_In.E n)), (87, some (telemetry_Word.E n))]
noncomputable def power_CheckLoads.ann : Nat → Option (List Keep) := ofL none [(4, some [.slot 0, .slot 8, .slot 9, .slot 10])]
noncomputable def power_CheckLoads.ins : List (Bool × Ty) := [(false, (.sl YUse))]
def power_CheckLoads.outs : List Ty := [(.int .i64)]
noncomputable def power_CheckLoads.f (n : Nat) (l0 : (List DUse)) : Option (Int × Unit) := (fnE tab power_CheckLoads.T power_CheckLoads.ann Try.f78 power_CheckLoads.ins power_CheckLoads.outs n).f (l0, ())
noncomputable def power_CheckLoads.c0 (n : Nat) (l0 : (List DUse)) (t8 : (List DUse)) (t9 : Int) (t10 : Int) : Option (Int × Unit) := cutN tab power_CheckLoads.T power_CheckLoads.ann Try.f78 power_CheckLoads.ins power_CheckLoads.outs n [1, 1, 0, 1, 0] [(0, .val false [.v (.sl YUse) l0]), (8, .val false [.v (.sl YUse) t8]), (9, .val false [.v (.int .i64) t9]), (10, .val false [.v (.int .i64) t10])] []
theorem power_CheckLoads.f_eq (n : Nat) (l0 : (List DUse)) : power_CheckLoads.f n l0 =
 (if (decide (50 < (l0.length : Int))) = true then
 some (2, ())
 else
 power_CheckLoads.c0 n l0 l0 (l0.length : Int) 0) := by kernel_rfl
theorem power_CheckLoads.c0_eq (n : Nat) (l0 : (List DUse)) (t8 : (List DUse)) (t9 : Int) (t10 : Int) : power_CheckLoads.c0 (n + 1) l0 t8 t9 t10 =
 (if (decide (t10 < t9)) = true then
 (if (0 : Int) ≤ t10 ∧ t10 < (t8.length : Int) then
  ((telemetry_Word.f n (t8.getD t10.toNat (Ty.dflt YUse)).1).bind fun r1 =>
   (if (!r1.1) = true then
    some (5, ())
    else
    ((kit_In.f n (t8.getD t10.toNat (Ty.dflt YUse)).2.1 0 100000).bind fun r2 =>
     (if (!r2.1) = true then
      some (1, ())
      else
      ((kit_In.f n (t8.getD t10.toNat (Ty.dflt YUse)).2.2 0 1000).bind fun r3 =>
       (if (!r3.1) = true then
        some (1, ())
        else
        (if (decide (0 < t10)) = true then
         (if (0 : Int) ≤ (IntKind.wrap .i64 (t10 - 1)) ∧ (IntKind.wrap .i64 (t10 - 1)) < (l0.length : Int) then
          (if (!(lessS (l0.getD (IntKind.wrap .i64 (t10 - 1)).toNat (Ty.dflt YUse)).1 (t8.getD t10.toNat (Ty.dflt YUse)).1)) = true then
           some (8, ())
           else
           power_CheckLoads.c0 n l0 t8 t9 (IntKind.wrap .i64 (t10 + 1)))
          else none)
         else
         power_CheckLoads.c0 n l0 t8 t9 (IntKind.wrap .i64 (t10 + 1)))))))))
  else none)
 else
 some (0, ())) := by kernel_rfl
noncomputable def power_CheckLoads.E (n : Nat) : FunE := fnE tab power_CheckLoads.T power_CheckLoads.ann Try.f78 power_CheckLoads.ins power_CheckLoads.outs n

noncomputable def power_compare.T : Nat → Nat → Option FunE := fun n => ofL none [(82, some (strings_Compare.E n))]
noncomputable def power_compare.ann : Nat → Option (List Keep) := ofL none []
noncomputable def power_compare.ins : List (Bool × Ty) := [(false, YUse), (false, YUse)]
def power_compare.outs : List Ty := [(.int .i64)]
noncomputable def power_compare.f (n : Nat) (a0 : DUse) (b1 : DUse) : Option (Int × Unit) := (fnE tab power_compare.T power_compare.ann Try.f79 power_compare.ins power_compare.outs n).f (a0, (b1, ()))
theorem power_compare.f_eq (n : Nat) (a0 : DUse) (b1 : DUse) : power_compare.f n a0 b1 =
 (if (!(decide (a0.2.1 = b1.2.1))) = true then
 some ((IntKind.wrap .i64 (a0.2.1 - b1.2.1)), ())
 else
 (if (!(decide ((a0.1 : List UInt8) = b1.1))) = true then
  some ((cmpS a0.1 b1.1), ())
  else
  some ((IntKind.wrap .i64 (a0.2.2 - b1.2.2)), ()))) := by kernel_rfl
noncomputable def power_compare.E (n : Nat) : FunE := fnE tab power_compare.T power_compare.ann Try.f79 power_compare.ins power_compare.outs n

noncomputable def power_CheckUses.T : Nat → Nat → Option FunE := fun n => ofL none [(72, some (power_load.E n)), (77, some (power_span.E n)), (78, some (power_CheckLoads.E n)), (79, some (power_compare.E n))]
noncomputable def power_CheckUses.ann : Nat → Option (List Keep) := ofL none [(7, some [.slot 0, .slot 1, .slot 23, .slot 24, .slot 25]), (19, some [.slot 1, .slot 60, .slot 61, .slot 62]), (22, some [.slot 1, .slot 11, .obj 12 YUse, .slot 60, .slot 61, .slot 62, .slot 67, .slot 68, .slot 69])]
noncomputable def power_CheckUses.ins : List (Bool × Ty) := [(false, (.sl YUse)), (false, (.sl YUse))]
def power_CheckUses.outs : List Ty := [(.int .i64)]
noncomputable def power_CheckUses.f (n : Nat) (t0 : (List DUse)) (t1 : (List DUse)) : Option (Int × Unit) := (fnE tab power_CheckUses.T power_CheckUses.ann Try.f70 power_CheckUses.ins power_CheckUses.outs n).f (t0, (t1, ()))
noncomputable def power_CheckUses.c0 (n : Nat) (t0 : (List DUse)) (t1 : (List DUse)) (t23 : (List DUse)) (t24 : Int) (t25 : Int) : Option (Int × Unit) := cutN tab power_CheckUses.T power_CheckUses.ann Try.f70 power_CheckUses.ins power_CheckUses.outs n [1, 1, 1, 0, 1, 0] [(0, .val false [.v (.sl YUse) t0]), (1, .val false [.v (.sl YUse) t1]), (23, .val false [.v (.sl YUse) t23]), (24, .val false [.v (.int .i64) t24]), (25, .val false [.v (.int .i64) t25])] []
noncomputable def power_CheckUses.c1 (n : Nat) (t1 : (List DUse)) (t60 : (List DUse)) (t61 : Int) (t62 : Int) : Option (Int × Unit) := cutN tab power_CheckUses.T power_CheckUses.ann Try.f70 power_CheckUses.ins power_CheckUses.outs n [1, 1, 1, 1, 0, 1, 0] [(1, .val false [.v (.sl YUse) t1]), (60, .val false [.v (.sl YUse) t60]), (61, .val false [.v (.int .i64) t61]), (62, .val false [.v (.int .i64) t62])] []
noncomputable def power_CheckUses.c2 (n : Nat) (t1 : (List DUse)) (t11 : Int) (t12_0 : List UInt8) (t12_1 : Int) (t12_2 : Int) (t60 : (List DUse)) (t61 : Int) (t62 : Int) (t67 : (List DUse)) (t68 : Int) (t69 : Int) : Option (Int × Unit) := cutN tab power_CheckUses.T power_CheckUses.ann Try.f70 power_CheckUses.ins power_CheckUses.outs n [1, 1, 1, 1, 0, 1, 0, 0, 1, 1, 0, 0, 1, 1, 0] [(1, .val false [.v (.sl YUse) t1]), (11, .val false [.v (.int .i64) t11]), (12, .val false [.ptr 1000012 0]), (60, .val false [.v (.sl YUse) t60]), (61, .val false [.v (.int .i64) t61]), (62, .val false [.v (.int .i64) t62]), (67, .val false [.v (.sl YUse) t67]), (68, .val false [.v (.int .i64) t68]), (69, .val false [.v (.int .i64) t69])] [(1000012, .live (.cells 0 [.v .str t12_0, .v (.int .i64) t12_1, .v (.int .i64) t12_2]))]
theorem power_CheckUses.f_eq (n : Nat) (t0 : (List DUse)) (t1 : (List DUse)) : power_CheckUses.f n t0 t1 =
 ((power_CheckLoads.f n t0).bind fun r1 =>
 (if (!(decide (r1.1 = 0))) = true then
  some (r1.1, ())
  else
  (if (decide (300 < (t1.length : Int))) = true then
   some (2, ())
   else
   power_CheckUses.c0 n t0 t1 t1 (t1.length : Int) 0))) := by kernel_rfl
theorem power_CheckUses.c0_eq (n : Nat) (t0 : (List DUse)) (t1 : (List DUse)) (t23 : (List DUse)) (t24 : Int) (t25 : Int) : power_CheckUses.c0 (n + 1) t0 t1 t23 t24 t25 =
 (if (decide (t25 < t24)) = true then
 (if (0 : Int) ≤ t25 ∧ t25 < (t23.length : Int) then
  ((power_load.f n t0 (t23.getD t25.toNat (Ty.dflt YUse)).1).bind fun r2 =>
   (if (!r2.2.1) = true then
    some (9, ())
    else
    ((power_span.f n (t23.getD t25.toNat (Ty.dflt YUse)).2.1 (t23.getD t25.toNat (Ty.dflt YUse)).2.2).bind fun r3 =>
     (if (!(decide (r3.1 = 0))) = true then
      some (r3.1, ())
      else
      (if (decide (0 < t25)) = true then
       (if (0 : Int) ≤ (IntKind.wrap .i64 (t25 - 1)) ∧ (IntKind.wrap .i64 (t25 - 1)) < (t1.length : Int) then
        ((power_compare.f n (t23.getD t25.toNat (Ty.dflt YUse)) (t1.getD (IntKind.wrap .i64 (t25 - 1)).toNat (Ty.dflt YUse))).bind fun r4 =>
         (if (decide (r4.1 ≤ 0)) = true then
          some (8, ())
          else
          power_CheckUses.c0 n t0 t1 t23 t24 (IntKind.wrap .i64 (t25 + 1))))
        else none)
       else
       power_CheckUses.c0 n t0 t1 t23 t24 (IntKind.wrap .i64 (t25 + 1)))))))
  else none)
 else
 power_CheckUses.c1 n t1 t1 (t1.length : Int) 0) := by kernel_rfl
theorem power_CheckUses.c1_eq (n : Nat) (t1 : (List DUse)) (t60 : (List DUse)) (t61 : Int) (t62 : Int) : power_CheckUses.c1 (n + 1) t1 t60 t61 t62 =
 (if (decide (t62 < t61)) = true then
 (if (0 : Int) ≤ t62 ∧ t62 < (t60.length : Int) then
  power_CheckUses.c2 n t1 t62 (t60.getD t62.toNat (Ty.dflt YUse)).1 (t60.getD t62.toNat (Ty.dflt YUse)).2.1 (t60.getD t62.toNat (Ty.dflt YUse)).2.2 t60 t61 t62 t1 (t1.length : Int) 0
  else none)
 else
 some (0, ())) := by kernel_rfl
theorem power_CheckUses.c2_eq (n : Nat) (t1 : (List DUse)) (t11 : Int) (t12_0 : List UInt8) (t12_1 : Int) (t12_2 : Int) (t60 : (List DUse)) (t61 : Int) (t62 : Int) (t67 : (List DUse)) (t68 : Int) (t69 : Int) : power_CheckUses.c2 (n + 1) t1 t11 t12_0 t12_1 t12_2 t60 t61 t62 t67 t68 t69 =
 (if (decide (t69 < t68)) = true then
 (if (0 : Int) ≤ t69 ∧ t69 < (t67.length : Int) then
  (if (!(decide (t69 = t11))) = true then
   (if (decide (((t67.getD t69.toNat (Ty.dflt YUse)).1 : List UInt8) = t12_0)) = true then
    (if (decide ((t67.getD t69.toNat (Ty.dflt YUse)).2.1 ≤ t12_1)) = true then
     (if (decide (t12_1 < (t67.getD t69.toNat (Ty.dflt YUse)).2.2)) = true then
      some (12, ())
      else
      power_CheckUses.c2 n t1 t11 t12_0 t12_1 t12_2 t60 t61 t62 t67 t68 (IntKind.wrap .i64 (t69 + 1)))
     else
     power_CheckUses.c2 n t1 t11 t12_0 t12_1 t12_2 t60 t61 t62 t67 t68 (IntKind.wrap .i64 (t69 + 1)))
    else
    power_CheckUses.c2 n t1 t11 t12_0 t12_1 t12_2 t60 t61 t62 t67 t68 (IntKind.wrap .i64 (t69 + 1)))
   else
   power_CheckUses.c2 n t1 t11 t12_0 t12_1 t12_2 t60 t61 t62 t67 t68 (IntKind.wrap .i64 (t69 + 1)))
  else none)
 else
 power_CheckUses.c1 n t1 t60 t61 (IntKind.wrap .i64 (t62 + 1))) := by kernel_rfl
noncomputable def power_CheckUses.E (n : Nat) : FunE := fnE tab power_CheckUses.T power_CheckUses.ann Try.f70 power_CheckUses.ins power_CheckUses.outs n

noncomputable def power_check.T : Nat → Nat → Option FunE := fun n => ofL none [(32, some (kit_First.E n)), (33, some (kit_Range.E n)), (68, some (power_CheckCell.E n)), (69, some (power_CheckSun.E n)), (70, some (power_CheckUses.E n))]
noncomputable def power_check.ann : Nat → Option (List Keep) := ofL none []
noncomputable def power_check.ins : List (Bool × Ty) := [(false, YCell), (false, (.sl YLevel)), (false, (.sl YUse)), (false, (.sl YUse)), (false, (.int .i64))]
def power_check.outs : List Ty := [(.int .i64)]
noncomputable def power_check.f (n : Nat) (c0 : DCell) (s1 : (List DLevel)) (l2 : (List DUse)) (u3 : (List DUse)) (until4 : Int) : Option (Int × Unit) := (fnE tab power_check.T power_check.ann Try.f55 power_check.ins power_check.outs n).f (c0, (s1, (l2, (u3, (until4, ())))))
theorem power_check.f_eq (n : Nat) (c0 : DCell) (s1 : (List DLevel)) (l2 : (List DUse)) (u3 : (List DUse)) (until4 : Int) : power_check.f n c0 s1 l2 u3 until4 =
 ((power_CheckCell.f n c0).bind fun r1 =>
 ((power_CheckSun.f n s1).bind fun r2 =>
  ((power_CheckUses.f n l2 u3).bind fun r3 =>
   ((kit_Range.f n until4 0 1000000000000).bind fun r4 =>
    ((kit_First.f n [r1.1, r2.1, r3.1, r4.1]).bind fun r5 =>
     some (r5.1, ())))))) := by kernel_rfl
noncomputable def power_check.E (n : Nat) : FunE := fnE tab power_check.T power_check.ann Try.f55 power_check.ins power_check.outs n

noncomputable def power_flow_1.T : Nat → Nat → Option FunE := fun n => ofL none []
noncomputable def power_flow_1.ann : Nat → Option (List Keep) := ofL none []
noncomputable def power_flow_1.ins : List (Bool × Ty) := [(false, (.int .i64)), (false, (.int .i64)), (false, (.int .i64)), (true, (.map (.int .i64) (.int .i64)))]
def power_flow_1.outs : List Ty := []
noncomputable def power_flow_1.f (n : Nat) (from0 : Int) (to1 : Int) (n2 : Int) (t3 : (List (Int × Int))) : Option ((List (Int × Int)) × Unit) := (fnE tab power_flow_1.T power_flow_1.ann Try.f71 power_flow_1.ins power_flow_1.outs n).f (from0, (to1, (n2, (t3, ()))))
theorem power_flow_1.f_eq (n : Nat) (from0 : Int) (to1 : Int) (n2 : Int) (t3 : (List (Int × Int))) : power_flow_1.f n from0 to1 n2 t3 =
 some ((mapPut (.int .i64) (.int .i64) to1 (IntKind.wrap .i64 ((mapGet (.int .i64) (.int .i64) to1 (mapPut (.int .i64) (.int .i64) from0 (IntKind.wrap .i64 ((mapGet (.int .i64) (.int .i64) from0 t3 0) + n2)) t3) 0) - n2)) (mapPut (.int .i64) (.int .i64) from0 (IntKind.wrap .i64 ((mapGet (.int .i64) (.int .i64) from0 t3 0) + n2)) t3)), ()) := by kernel_rfl
noncomputable def power_flow_1.E (n : Nat) : FunE := fnE tab power_flow_1.T power_flow_1.ann Try.f71 power_flow_1.ins power_flow_1.outs n

def sortI (xs : List Int) : List Int := xs.mergeSort fun x y => decide (x ≤ y)
noncomputable def slices_Sort_int.E (n : Nat) : FunE := { ins := [(false, .sl (.int .i64))], outs := [], f := fun x => none, row := some ⟨.int .i64, fun xs => some (sortI xs)⟩ }

noncomputable def power_flow.T : Nat → Nat → Option FunE := fun n => ofL none [(71, some (power_flow_1.E n)), (72, some (power_load.E n)), (73, some (slices_Sort_int.E n))]
noncomputable def power_flow.ann : Nat → Option (List Keep) := ofL none [(4, some [.clo 12 11, .slot 2, .slot 3, .slot 4, .obj 5 YCell, .obj 11 (.map (.int .i64) (.int .i64)), .slot 32, .slot 33, .slot 34]), (9, some [.clo 12 11, .slot 2, .slot 4, .obj 11 (.map (.int .i64) (.int .i64)), .slot 47, .slot 48, .slot 49]), (16, some [.slot 4, .obj 11 (.fmap (.int .i64) (.int .i64)), .vec 19 (.int .i64), .slot 71]), (23, some [.slot 4, .obj 11 (.fmap (.int .i64) (.int .i64)), .vec 21 Ypiece, .slot 22, .vec 82 (.int .i64), .slot 83, .slot 84])]
noncomputable def power_flow.ins : List (Bool × Ty) := [(false, YCell), (false, (.sl YLevel)), (false, (.sl YUse)), (false, (.sl YUse)), (false, (.int .i64))]
def power_flow.outs : List Ty := [(.sl Ypiece)]
noncomputable def power_flow.f (n : Nat) (t0 : DCell) (t1 : (List DLevel)) (t2 : (List DUse)) (t3 : (List DUse)) (t4 : Int) : Option ((List Dpiece) × Unit) := (fnE tab power_flow.T power_flow.ann Try.f56 power_flow.ins power_flow.outs n).f (t0, (t1, (t2, (t3, (t4, ())))))
noncomputable def power_flow.c0 (n : Nat) (t2 : (List DUse)) (t3 : (List DUse)) (t4 : Int) (t5_0 : Int) (t5_1 : Int) (t5_2 : Int) (t5_3 : Int) (t5_4 : Int) (t11_0 : (List (Int × Int))) (t32 : (List DLevel)) (t33 : Int) (t34 : Int) : Option ((List Dpiece) × Unit) := cutN tab power_flow.T power_flow.ann Try.f56 power_flow.ins power_flow.outs n [1, 1, 1, 0, 1, 0] [(12, .val false [.clo 71 false 1000011]), (2, .val false [.v (.sl YUse) t2]), (3, .val false [.v (.sl YUse) t3]), (4, .val false [.v (.int .i64) t4]), (5, .val false [.ptr 1000005 0]), (11, .val false [.ptr 1000011 0]), (32, .val false [.v (.sl YLevel) t32]), (33, .val false [.v (.int .i64) t33]), (34, .val false [.v (.int .i64) t34])] [(1000005, .live (.cells 0 [.v (.int .i64) t5_0, .v (.int .i64) t5_1, .v (.int .i64) t5_2, .v (.int .i64) t5_3, .v (.int .i64) t5_4])), (1000011, .live (.cells 0 [.v (.map (.int .i64) (.int .i64)) t11_0]))]
noncomputable def power_flow.c1 (n : Nat) (t2 : (List DUse)) (t4 : Int) (t11_0 : (List (Int × Int))) (t47 : (List DUse)) (t48 : Int) (t49 : Int) : Option ((List Dpiece) × Unit) := cutN tab power_flow.T power_flow.ann Try.f56 power_flow.ins power_flow.outs n [1, 1, 1, 1, 0, 1, 0] [(12, .val false [.clo 71 false 1000011]), (2, .val false [.v (.sl YUse) t2]), (4, .val false [.v (.int .i64) t4]), (11, .val false [.ptr 1000011 0]), (47, .val false [.v (.sl YUse) t47]), (48, .val false [.v (.int .i64) t48]), (49, .val false [.v (.int .i64) t49])] [(1000011, .live (.cells 0 [.v (.map (.int .i64) (.int .i64)) t11_0]))]
noncomputable def power_flow.c2 (n : Nat) (t4 : Int) (t11_0 : (List (Int × Int))) (t19 : (List Int)) (t71_c : (Option DLevel)) (t71 : (List (Int × Int))) : Option ((List Dpiece) × Unit) := cutN tab power_flow.T power_flow.ann Try.f56 power_flow.ins power_flow.outs n [1, 1, 1, 1, 1, 1, 0, 1, 0] [(4, .val false [.v (.int .i64) t4]), (11, .val false [.ptr 1000011 0]), (19, .val false [.row 1000019]), (71, .val false [.itr 1000071])] [(1000011, .live (.cells 0 [.v (.fmap (.int .i64) (.int .i64)) t11_0])), (1000019, .live (.row (.int .i64) t19)), (1000071, .live (.iter (.int .i64) (.int .i64) t71_c t71))]
noncomputable def power_flow.c3 (n : Nat) (t4 : Int) (t11_0 : (List (Int × Int))) (t21 : (List Dpiece)) (t22 : Int) (t82 : (List Int)) (t83 : Int) (t84 : Int) : Option ((List Dpiece) × Unit) := cutN tab power_flow.T power_flow.ann Try.f56 power_flow.ins power_flow.outs n [1, 1, 1, 1, 1, 1, 1, 1, 1, 1, 0, 1, 0] [(4, .val false [.v (.int .i64) t4]), (11, .val false [.ptr 1000011 0]), (21, .val false [.row 1000021]), (22, .val false [.v (.int .i64) t22]), (82, .val false [.row 1000082]), (83, .val false [.v (.int .i64) t83]), (84, .val false [.v (.int .i64) t84])] [(1000011, .live (.cells 0 [.v (.fmap (.int .i64) (.int .i64)) t11_0])), (1000021, .live (.row Ypiece t21)), (1000082, .live (.row (.int .i64) t82))]
theorem power_flow.f_eq (n : Nat) (t0 : DCell) (t1 : (List DLevel)) (t2 : (List DUse)) (t3 : (List DUse)) (t4 : Int) : power_flow.f n t0 t1 t2 t3 t4 =
 power_flow.c0 n t2 t3 t4 t0.1 t0.2.1 t0.2.2.1 t0.2.2.2.1 t0.2.2.2.2 (mapPut (.int .i64) (.int .i64) 0 (IntKind.wrap .i64 (0 - t0.2.2.2.1)) []) t1 (t1.length : Int) 0 := by kernel_rfl
theorem power_flow.c0_eq (n : Nat) (t2 : (List DUse)) (t3 : (List DUse)) (t4 : Int) (t5_0 : Int) (t5_1 : Int) (t5_2 : Int) (t5_3 : Int) (t5_4 : Int) (t11_0 : (List (Int × Int))) (t32 : (List DLevel)) (t33 : Int) (t34 : Int) : power_flow.c0 (n + 1) t2 t3 t4 t5_0 t5_1 t5_2 t5_3 t5_4 t11_0 t32 t33 t34 =
 (if (decide (t34 < t33)) = true then
 (if (0 : Int) ≤ t34 ∧ t34 < (t32.length : Int) then
  ((power_flow_1.f n (t32.getD t34.toNat (Ty.dflt YLevel)).1 (t32.getD t34.toNat (Ty.dflt YLevel)).2 t5_2 t11_0).bind fun r1 =>
   power_flow.c0 n t2 t3 t4 t5_0 t5_1 t5_2 t5_3 t5_4 r1.1 t32 t33 (IntKind.wrap .i64 (t34 + 1)))
  else none)
 else
 power_flow.c1 n t2 t4 t11_0 t3 (t3.length : Int) 0) := by kernel_rfl
theorem power_flow.c1_eq (n : Nat) (t2 : (List DUse)) (t4 : Int) (t11_0 : (List (Int × Int))) (t47 : (List DUse)) (t48 : Int) (t49 : Int) : power_flow.c1 (n + 1) t2 t4 t11_0 t47 t48 t49 =
 (if (decide (t49 < t48)) = true then
 (if (0 : Int) ≤ t49 ∧ t49 < (t47.length : Int) then
  ((power_load.f n t2 (t47.getD t49.toNat (Ty.dflt YUse)).1).bind fun r2 =>
   ((power_flow_1.f n (t47.getD t49.toNat (Ty.dflt YUse)).2.1 (t47.getD t49.toNat (Ty.dflt YUse)).2.2 (IntKind.wrap .i64 (0 - r2.1.2.1)) t11_0).bind fun r3 =>
    power_flow.c1 n t2 t4 r3.1 t47 t48 (IntKind.wrap .i64 (t49 + 1))))
  else none)
 else
 power_flow.c2 n t4 t11_0 [] none t11_0) := by kernel_rfl
theorem power_flow.c2_eq (n : Nat) (t4 : Int) (t11_0 : (List (Int × Int))) (t19 : (List Int)) (t71_c : (Option DLevel)) (t71 : (List (Int × Int))) : power_flow.c2 (n + 1) t4 t11_0 t19 t71_c t71 =
 (if t71.length = 0 then
 power_flow.c3 n t4 t11_0 [] 0 (sortI t19) ((sortI t19).length : Int) 0
 else agreeL t71 fun p4 q4 =>
 (if t19.length + 1 ≤ 1099511627776 then
  power_flow.c2 n t4 t11_0 (t19 ++ [p4.1]) (some p4) q4
  else none)) := by kernel_rfl
theorem power_flow.c3_eq (n : Nat) (t4 : Int) (t11_0 : (List (Int × Int))) (t21 : (List Dpiece)) (t22 : Int) (t82 : (List Int)) (t83 : Int) (t84 : Int) : power_flow.c3 (n + 1) t4 t11_0 t21 t22 t82 t83 t84 =
 (if (decide (t84 < t83)) = true then
 (if (0 : Int) ≤ t84 ∧ t84 < (t82.length : Int) then
  (if (decide (t4 ≤ (t82.getD t84.toNat 0))) = true then
   some (t21, ())
   else
   (if (decide ((t82.getD t84.toNat 0) = 0)) = true then
    (if (decide (0 < (t21.length : Int))) = true then
     (if (0 : Int) ≤ (IntKind.wrap .i64 ((t21.length : Int) - 1)) ∧ (IntKind.wrap .i64 ((t21.length : Int) - 1)) < (t21.length : Int) then
      (if (t21.set (IntKind.wrap .i64 ((t21.length : Int) - 1)).toNat ((t21.getD (IntKind.wrap .i64 ((t21.length : Int) - 1)).toNat (Ty.dflt Ypiece)).1, ((t82.getD t84.toNat 0), (t21.getD (IntKind.wrap .i64 ((t21.length : Int) - 1)).toNat (Ty.dflt Ypiece)).2.2))).length + 1 ≤ 1099511627776 then
       power_flow.c3 n t4 t11_0 ((t21.set (IntKind.wrap .i64 ((t21.length : Int) - 1)).toNat ((t21.getD (IntKind.wrap .i64 ((t21.length : Int) - 1)).toNat (Ty.dflt Ypiece)).1, ((t82.getD t84.toNat 0), (t21.getD (IntKind.wrap .i64 ((t21.length : Int) - 1)).toNat (Ty.dflt Ypiece)).2.2))) ++ [((t82.getD t84.toNat 0), (t4, (IntKind.wrap .i64 (t22 + (mapGet (.int .i64) (.int .i64) (t82.getD t84.toNat 0) t11_0 0)))))]) (IntKind.wrap .i64 (t22 + (mapGet (.int .i64) (.int .i64) (t82.getD t84.toNat 0) t11_0 0))) t82 t83 (IntKind.wrap .i64 (t84 + 1))
       else none)
      else none)
     else
     (if t21.length + 1 ≤ 1099511627776 then
      power_flow.c3 n t4 t11_0 (t21 ++ [((t82.getD t84.toNat 0), (t4, (IntKind.wrap .i64 (t22 + (mapGet (.int .i64) (.int .i64) (t82.getD t84.toNat 0) t11_0 0)))))]) (IntKind.wrap .i64 (t22 + (mapGet (.int .i64) (.int .i64) (t82.getD t84.toNat 0) t11_0 0))) t82 t83 (IntKind.wrap .i64 (t84 + 1))
      else none))
    else
    (if (!(decide ((IntKind.wrap .i64 (t22 + (mapGet (.int .i64) (.int .i64) (t82.getD t84.toNat 0) t11_0 0))) = t22))) = true then
     (if (decide (0 < (t21.length : Int))) = true then
      (if (0 : Int) ≤ (IntKind.wrap .i64 ((t21.length : Int) - 1)) ∧ (IntKind.wrap .i64 ((t21.length : Int) - 1)) < (t21.length : Int) then
       (if (t21.set (IntKind.wrap .i64 ((t21.length : Int) - 1)).toNat ((t21.getD (IntKind.wrap .i64 ((t21.length : Int) - 1)).toNat (Ty.dflt Ypiece)).1, ((t82.getD t84.toNat 0), (t21.getD (IntKind.wrap .i64 ((t21.length : Int) - 1)).toNat (Ty.dflt Ypiece)).2.2))).length + 1 ≤ 1099511627776 then
        power_flow.c3 n t4 t11_0 ((t21.set (IntKind.wrap .i64 ((t21.length : Int) - 1)).toNat ((t21.getD (IntKind.wrap .i64 ((t21.length : Int) - 1)).toNat (Ty.dflt Ypiece)).1, ((t82.getD t84.toNat 0), (t21.getD (IntKind.wrap .i64 ((t21.length : Int) - 1)).toNat (Ty.dflt Ypiece)).2.2))) ++ [((t82.getD t84.toNat 0), (t4, (IntKind.wrap .i64 (t22 + (mapGet (.int .i64) (.int .i64) (t82.getD t84.toNat 0) t11_0 0)))))]) (IntKind.wrap .i64 (t22 + (mapGet (.int .i64) (.int .i64) (t82.getD t84.toNat 0) t11_0 0))) t82 t83 (IntKind.wrap .i64 (t84 + 1))
        else none)
       else none)
      else
      (if t21.length + 1 ≤ 1099511627776 then
       power_flow.c3 n t4 t11_0 (t21 ++ [((t82.getD t84.toNat 0), (t4, (IntKind.wrap .i64 (t22 + (mapGet (.int .i64) (.int .i64) (t82.getD t84.toNat 0) t11_0 0)))))]) (IntKind.wrap .i64 (t22 + (mapGet (.int .i64) (.int .i64) (t82.getD t84.toNat 0) t11_0 0))) t82 t83 (IntKind.wrap .i64 (t84 + 1))
       else none))
     else
     power_flow.c3 n t4 t11_0 t21 (IntKind.wrap .i64 (t22 + (mapGet (.int .i64) (.int .i64) (t82.getD t84.toNat 0) t11_0 0))) t82 t83 (IntKind.wrap .i64 (t84 + 1)))))
  else none)
 else
 some (t21, ())) := by kernel_rfl
noncomputable def power_flow.E (n : Nat) : FunE := fnE tab power_flow.T power_flow.ann Try.f56 power_flow.ins power_flow.outs n

noncomputable def power_behind.T : Nat → Nat → Option FunE := fun n => ofL none []
noncomputable def power_behind.ann : Nat → Option (List Keep) := ofL none []
noncomputable def power_behind.ins : List (Bool × Ty) := [(false, YCell), (false, (.int .i64)), (false, (.int .i64)), (false, (.int .i64))]
def power_behind.outs : List Ty := [(.int .i64)]
noncomputable def power_behind.f (n : Nat) (c0 : DCell) (level1 : Int) (change2 : Int) (long3 : Int) : Option (Int × Unit) := (fnE tab power_behind.T power_behind.ann Try.f57 power_behind.ins power_behind.outs n).f (c0, (level1, (change2, (long3, ()))))
theorem power_behind.f_eq (n : Nat) (c0 : DCell) (level1 : Int) (change2 : Int) (long3 : Int) : power_behind.f n c0 level1 change2 long3 =
 some ((mnI c0.1 (mxI 0 (IntKind.wrap .i64 (level1 + (IntKind.wrap .i64 (change2 * long3)))))), ()) := by kernel_rfl
noncomputable def power_behind.E (n : Nat) : FunE := fnE tab power_behind.T power_behind.ann Try.f57 power_behind.ins power_behind.outs n

noncomputable def power_Follow.T : Nat → Nat → Option FunE := fun n => ofL none [(55, some (power_check.E n)), (56, some (power_flow.E n)), (57, some (power_behind.E n))]
noncomputable def power_Follow.ann : Nat → Option (List Keep) := ofL none [(6, some [.obj 5 YCell, .vec 13 YLevel, .slot 34, .slot 35, .slot 36])]
noncomputable def power_Follow.ins : List (Bool × Ty) := [(false, YCell), (false, (.sl YLevel)), (false, (.sl YUse)), (false, (.sl YUse)), (false, (.int .i64))]
def power_Follow.outs : List Ty := [(.sl YLevel), (.int .i64)]
noncomputable def power_Follow.f (n : Nat) (c0 : DCell) (s1 : (List DLevel)) (l2 : (List DUse)) (u3 : (List DUse)) (until4 : Int) : Option ((List DLevel) × Int × Unit) := (fnE tab power_Follow.T power_Follow.ann Try.f29 power_Follow.ins power_Follow.outs n).f (c0, (s1, (l2, (u3, (until4, ())))))
noncomputable def power_Follow.c0 (n : Nat) (c5_0 : Int) (c5_1 : Int) (c5_2 : Int) (c5_3 : Int) (c5_4 : Int) (out13 : (List DLevel)) (t34 : (List Dpiece)) (t35 : Int) (t36 : Int) : Option ((List DLevel) × Int × Unit) := cutN tab power_Follow.T power_Follow.ann Try.f29 power_Follow.ins power_Follow.outs n [1, 1, 1, 0, 1, 0] [(5, .val false [.ptr 1000005 0]), (13, .val false [.row 1000013]), (34, .val false [.v (.sl Ypiece) t34]), (35, .val false [.v (.int .i64) t35]), (36, .val false [.v (.int .i64) t36])] [(1000005, .live (.cells 0 [.v (.int .i64) c5_0, .v (.int .i64) c5_1, .v (.int .i64) c5_2, .v (.int .i64) c5_3, .v (.int .i64) c5_4])), (1000013, .live (.row YLevel out13))]
theorem power_Follow.f_eq (n : Nat) (c0 : DCell) (s1 : (List DLevel)) (l2 : (List DUse)) (u3 : (List DUse)) (until4 : Int) : power_Follow.f n c0 s1 l2 u3 until4 =
 ((power_check.f n c0 s1 l2 u3 until4).bind fun r1 =>
 (if (!(decide (r1.1 = 0))) = true then
  some ([], (r1.1, ()))
  else
  ((power_flow.f n c0 s1 l2 u3 until4).bind fun r2 =>
   power_Follow.c0 n c0.1 c0.2.1 c0.2.2.1 c0.2.2.2.1 c0.2.2.2.2 [(0, c0.2.1)] r2.1 (r2.1.length : Int) 0))) := by kernel_rfl
theorem power_Follow.c0_eq (n : Nat) (c5_0 : Int) (c5_1 : Int) (c5_2 : Int) (c5_3 : Int) (c5_4 : Int) (out13 : (List DLevel)) (t34 : (List Dpiece)) (t35 : Int) (t36 : Int) : power_Follow.c0 (n + 1) c5_0 c5_1 c5_2 c5_3 c5_4 out13 t34 t35 t36 =
 (if (decide (t36 < t35)) = true then
 (if (0 : Int) ≤ t36 ∧ t36 < (t34.length : Int) then
  (if (0 : Int) ≤ (IntKind.wrap .i64 ((out13.length : Int) - 1)) ∧ (IntKind.wrap .i64 ((out13.length : Int) - 1)) < (out13.length : Int) then
   ((power_behind.f n (c5_0, (c5_1, (c5_2, (c5_3, c5_4)))) (out13.getD (IntKind.wrap .i64 ((out13.length : Int) - 1)).toNat (Ty.dflt YLevel)).2 (t34.getD t36.toNat (Ty.dflt Ypiece)).2.2 (IntKind.wrap .i64 ((t34.getD t36.toNat (Ty.dflt Ypiece)).2.1 - (t34.getD t36.toNat (Ty.dflt Ypiece)).1))).bind fun r3 =>
    (if out13.length + 1 ≤ 1099511627776 then
     power_Follow.c0 n c5_0 c5_1 c5_2 c5_3 c5_4 (out13 ++ [((t34.getD t36.toNat (Ty.dflt Ypiece)).2.1, r3.1)]) t34 t35 (IntKind.wrap .i64 (t36 + 1))
     else none))
   else none)
  else none)
 else
 some (out13, (0, ()))) := by kernel_rfl
noncomputable def power_Follow.E (n : Nat) : FunE := fnE tab power_Follow.T power_Follow.ann Try.f29 power_Follow.ins power_Follow.outs n

noncomputable def kit_Down.T : Nat → Nat → Option FunE := fun n => ofL none []
noncomputable def kit_Down.ann : Nat → Option (List Keep) := ofL none []
noncomputable def kit_Down.ins : List (Bool × Ty) := [(false, (.int .i64)), (false, (.int .i64))]
def kit_Down.outs : List Ty := [(.int .i64)]
noncomputable def kit_Down.f (n : Nat) (a0 : Int) (b1 : Int) : Option (Int × Unit) := (fnE tab kit_Down.T kit_Down.ann Try.f74 kit_Down.ins kit_Down.outs n).f (a0, (b1, ()))
theorem kit_Down.f_eq (n : Nat) (a0 : Int) (b1 : Int) : kit_Down.f n a0 b1 =
 (if ¬ b1 = 0 then
 (if ¬ b1 = 0 then
  (if (decide ((Int.tmod a0 b1) < 0)) = true then
   some ((IntKind.wrap .i64 ((IntKind.wrap .i64 (Int.tdiv a0 b1)) - 1)), ())
   else
   some ((IntKind.wrap .i64 (Int.tdiv a0 b1)), ()))
  else none)
 else none) := by kernel_rfl
noncomputable def kit_Down.E (n : Nat) : FunE := fnE tab kit_Down.T kit_Down.ann Try.f74 kit_Down.ins kit_Down.outs n

noncomputable def power_empty.T : Nat → Nat → Option FunE := fun n => ofL none [(56, some (power_flow.E n)), (57, some (power_behind.E n)), (74, some (kit_Down.E n))]
noncomputable def power_empty.ann : Nat → Option (List Keep) := ofL none [(5, some [.obj 5 YCell, .slot 11, .slot 26, .slot 27, .slot 28])]
noncomputable def power_empty.ins : List (Bool × Ty) := [(false, YCell), (false, (.sl YLevel)), (false, (.sl YUse)), (false, (.sl YUse)), (false, (.int .i64))]
def power_empty.outs : List Ty := [(.int .i64)]
noncomputable def power_empty.f (n : Nat) (c0 : DCell) (s1 : (List DLevel)) (l2 : (List DUse)) (u3 : (List DUse)) (until4 : Int) : Option (Int × Unit) := (fnE tab power_empty.T power_empty.ann Try.f58 power_empty.ins power_empty.outs n).f (c0, (s1, (l2, (u3, (until4, ())))))
noncomputable def power_empty.c0 (n : Nat) (c5_0 : Int) (c5_1 : Int) (c5_2 : Int) (c5_3 : Int) (c5_4 : Int) (level11 : Int) (t26 : (List Dpiece)) (t27 : Int) (t28 : Int) : Option (Int × Unit) := cutN tab power_empty.T power_empty.ann Try.f58 power_empty.ins power_empty.outs n [1, 1, 1, 0, 1, 0] [(5, .val false [.ptr 1000005 0]), (11, .val false [.v (.int .i64) level11]), (26, .val false [.v (.sl Ypiece) t26]), (27, .val false [.v (.int .i64) t27]), (28, .val false [.v (.int .i64) t28])] [(1000005, .live (.cells 0 [.v (.int .i64) c5_0, .v (.int .i64) c5_1, .v (.int .i64) c5_2, .v (.int .i64) c5_3, .v (.int .i64) c5_4]))]
theorem power_empty.f_eq (n : Nat) (c0 : DCell) (s1 : (List DLevel)) (l2 : (List DUse)) (u3 : (List DUse)) (until4 : Int) : power_empty.f n c0 s1 l2 u3 until4 =
 (if (decide (c0.2.1 < c0.2.2.2.2)) = true then
 some (0, ())
 else
 ((power_flow.f n c0 s1 l2 u3 until4).bind fun r1 =>
  power_empty.c0 n c0.1 c0.2.1 c0.2.2.1 c0.2.2.2.1 c0.2.2.2.2 c0.2.1 r1.1 (r1.1.length : Int) 0)) := by kernel_rfl
theorem power_empty.c0_eq (n : Nat) (c5_0 : Int) (c5_1 : Int) (c5_2 : Int) (c5_3 : Int) (c5_4 : Int) (level11 : Int) (t26 : (List Dpiece)) (t27 : Int) (t28 : Int) : power_empty.c0 (n + 1) c5_0 c5_1 c5_2 c5_3 c5_4 level11 t26 t27 t28 =
 (if (decide (t28 < t27)) = true then
 (if (0 : Int) ≤ t28 ∧ t28 < (t26.length : Int) then
  ((power_behind.f n (c5_0, (c5_1, (c5_2, (c5_3, c5_4)))) level11 (t26.getD t28.toNat (Ty.dflt Ypiece)).2.2 (IntKind.wrap .i64 ((t26.getD t28.toNat (Ty.dflt Ypiece)).2.1 - (t26.getD t28.toNat (Ty.dflt Ypiece)).1))).bind fun r2 =>
   (if (decide (r2.1 < c5_4)) = true then
    ((kit_Down.f n (IntKind.wrap .i64 (level11 - c5_4)) (IntKind.wrap .i64 (0 - (t26.getD t28.toNat (Ty.dflt Ypiece)).2.2))).bind fun r3 =>
     some ((IntKind.wrap .i64 ((IntKind.wrap .i64 ((t26.getD t28.toNat (Ty.dflt Ypiece)).1 + r3.1)) + 1)), ()))
    else
    power_empty.c0 n c5_0 c5_1 c5_2 c5_3 c5_4 r2.1 t26 t27 (IntKind.wrap .i64 (t28 + 1))))
  else none)
 else
 some ((-1), ())) := by kernel_rfl
noncomputable def power_empty.E (n : Nat) : FunE := fnE tab power_empty.T power_empty.ann Try.f58 power_empty.ins power_empty.outs n

noncomputable def power_Empty.T : Nat → Nat → Option FunE := fun n => ofL none [(55, some (power_check.E n)), (58, some (power_empty.E n))]
noncomputable def power_Empty.ann : Nat → Option (List Keep) := ofL none []
noncomputable def power_Empty.ins : List (Bool × Ty) := [(false, YCell), (false, (.sl YLevel)), (false, (.sl YUse)), (false, (.sl YUse)), (false, (.int .i64))]
def power_Empty.outs : List Ty := [(.int .i64), .bool, (.int .i64)]
noncomputable def power_Empty.f (n : Nat) (c0 : DCell) (s1 : (List DLevel)) (l2 : (List DUse)) (u3 : (List DUse)) (until4 : Int) : Option (Int × Bool × Int × Unit) := (fnE tab power_Empty.T power_Empty.ann Try.f30 power_Empty.ins power_Empty.outs n).f (c0, (s1, (l2, (u3, (until4, ())))))
theorem power_Empty.f_eq (n : Nat) (c0 : DCell) (s1 : (List DLevel)) (l2 : (List DUse)) (u3 : (List DUse)) (until4 : Int) : power_Empty.f n c0 s1 l2 u3 until4 =
 ((power_check.f n c0 s1 l2 u3 until4).bind fun r1 =>
 (if (!(decide (r1.1 = 0))) = true then
  some (0, (false, (r1.1, ())))
  else
  ((power_empty.f n c0 s1 l2 u3 until4).bind fun r2 =>
   some ((mxI r2.1 0), ((decide (0 ≤ r2.1)), (0, ())))))) := by kernel_rfl
noncomputable def power_Empty.E (n : Nat) : FunE := fnE tab power_Empty.T power_Empty.ann Try.f30 power_Empty.ins power_Empty.outs n

noncomputable def clock_checkBits.T : Nat → Nat → Option FunE := fun n => ofL none [(38, some (kit_In.E n))]
noncomputable def clock_checkBits.ann : Nat → Option (List Keep) := ofL none []
noncomputable def clock_checkBits.ins : List (Bool × Ty) := [(false, (.int .i64)), (false, (.int .i64))]
def clock_checkBits.outs : List Ty := [(.int .i64)]
noncomputable def clock_checkBits.E (n : Nat) : FunE := fnE tab clock_checkBits.T clock_checkBits.ann Try.f75 clock_checkBits.ins clock_checkBits.outs n

noncomputable def clock_Rolled.T : Nat → Nat → Option FunE := fun n => ofL none [(38, some (kit_In.E n)), (75, some (clock_checkBits.E n))]
noncomputable def clock_Rolled.ann : Nat → Option (List Keep) := ofL none [(6, some [.slot 0, .slot 1, .vec 7 (.int .i64), .slot 17, .slot 18, .slot 19])]
noncomputable def clock_Rolled.ins : List (Bool × Ty) := [(false, (.sl (.int .i64))), (false, (.int .i64))]
def clock_Rolled.outs : List Ty := [(.sl (.int .i64)), (.int .i64)]
noncomputable def clock_Rolled.E (n : Nat) : FunE := fnE tab clock_Rolled.T clock_Rolled.ann Try.f59 clock_Rolled.ins clock_Rolled.outs n

noncomputable def perigeetop_turns.T : Nat → Nat → Option FunE := fun n => ofL none [(59, some (clock_Rolled.E n))]
noncomputable def perigeetop_turns.ann : Nat → Option (List Keep) := ofL none []
noncomputable def perigeetop_turns.ins : List (Bool × Ty) := []
def perigeetop_turns.outs : List Ty := [.bool]
noncomputable def perigeetop_turns.f (n : Nat) : Option (Bool × Unit) := (fnE tab perigeetop_turns.T perigeetop_turns.ann Try.f31 perigeetop_turns.ins perigeetop_turns.outs n).f ()
noncomputable def perigeetop_turns.E (n : Nat) : FunE := fnE tab perigeetop_turns.T perigeetop_turns.ann Try.f31 perigeetop_turns.ins perigeetop_turns.outs n

noncomputable def perigeetop_TopLevelsAreWatched.T : Nat → Nat → Option FunE := fun n => ofL none [(19, some (monitor_Follow.E n)), (29, some (power_Follow.E n)), (30, some (power_Empty.E n)), (31, some (perigeetop_turns.E n))]
noncomputable def perigeetop_TopLevelsAreWatched.ann : Nat → Option (List Keep) := ofL none [(5, some [.obj 5 YCell, .slot 11, .slot 14]), (7, some [.obj 5 YCell, .slot 11, .slot 14, .vec 16 YSample, .slot 17]), (14, some [.slot 12, .slot 14, .slot 19, .slot 20, .slot 21])]
noncomputable def perigeetop_TopLevelsAreWatched.ins : List (Bool × Ty) := [(false, YCell), (false, (.sl YLevel)), (false, (.sl YUse)), (false, (.sl YUse)), (false, (.int .i64))]
def perigeetop_TopLevelsAreWatched.outs : List Ty := [.bool]
noncomputable def perigeetop_TopLevelsAreWatched.f (n : Nat) (t0 : DCell) (t1 : (List DLevel)) (t2 : (List DUse)) (t3 : (List DUse)) (t4 : Int) : Option (Bool × Unit) := (fnE tab perigeetop_TopLevelsAreWatched.T perigeetop_TopLevelsAreWatched.ann Try.f10 perigeetop_TopLevelsAreWatched.ins perigeetop_TopLevelsAreWatched.outs n).f (t0, (t1, (t2, (t3, (t4, ())))))
noncomputable def perigeetop_TopLevelsAreWatched.c0 (n : Nat) (t5_0 : Int) (t5_1 : Int) (t5_2 : Int) (t5_3 : Int) (t5_4 : Int) (t11 : (List DLevel)) (t14 : Bool) : Option (Bool × Unit) := cutN tab perigeetop_TopLevelsAreWatched.T perigeetop_TopLevelsAreWatched.ann Try.f10 perigeetop_TopLevelsAreWatched.ins perigeetop_TopLevelsAreWatched.outs n [1, 1, 1, 1] [(5, .val false [.ptr 1000005 0]), (11, .val false [.v (.sl YLevel) t11]), (14, .val false [.v .bool t14])] [(1000005, .live (.cells 0 [.v (.int .i64) t5_0, .v (.int .i64) t5_1, .v (.int .i64) t5_2, .v (.int .i64) t5_3, .v (.int .i64) t5_4]))]
noncomputable def perigeetop_TopLevelsAreWatched.c1 (n : Nat) (t5_0 : Int) (t5_1 : Int) (t5_2 : Int) (t5_3 : Int) (t5_4 : Int) (t11 : (List DLevel)) (t14 : Bool) (t16 : (List DSample)) (t17 : Int) : Option (Bool × Unit) := cutN tab perigeetop_TopLevelsAreWatched.T perigeetop_TopLevelsAreWatched.ann Try.f10 perigeetop_TopLevelsAreWatched.ins perigeetop_TopLevelsAreWatched.outs n [1, 1, 1, 1, 1, 0, 1, 0] [(5, .val false [.ptr 1000005 0]), (11, .val false [.v (.sl YLevel) t11]), (14, .val false [.v .bool t14]), (16, .val false [.row 1000016]), (17, .val false [.v (.int .i64) t17])] [(1000005, .live (.cells 0 [.v (.int .i64) t5_0, .v (.int .i64) t5_1, .v (.int .i64) t5_2, .v (.int .i64) t5_3, .v (.int .i64) t5_4])), (1000016, .live (.row YSample t16))]
noncomputable def perigeetop_TopLevelsAreWatched.c2 (n : Nat) (t12 : Int) (t14 : Bool) (t19 : (List DEvent)) (t20 : Bool) (t21 : Int) : Option (Bool × Unit) := cutN tab perigeetop_TopLevelsAreWatched.T perigeetop_TopLevelsAreWatched.ann Try.f10 perigeetop_TopLevelsAreWatched.ins perigeetop_TopLevelsAreWatched.outs n [1, 1, 1, 1, 1, 1, 1, 1, 1, 0, 1, 0] [(12, .val false [.v (.int .i64) t12]), (14, .val false [.v .bool t14]), (19, .val false [.v (.sl YEvent) t19]), (20, .val false [.v .bool t20]), (21, .val false [.v (.int .i64) t21])] []
theorem perigeetop_TopLevelsAreWatched.f_eq (n : Nat) (t0 : DCell) (t1 : (List DLevel)) (t2 : (List DUse)) (t3 : (List DUse)) (t4 : Int) : perigeetop_TopLevelsAreWatched.f n t0 t1 t2 t3 t4 =
 ((power_Follow.f n t0 t1 t2 t3 t4).bind fun r1 =>
 ((power_Empty.f n t0 t1 t2 t3 t4).bind fun r2 =>
  (if (!(decide (r1.2.1 = 0))) = true then
   (if (decide (r1.2.1 = 0)) = true then
    ((perigeetop_turns.f n).bind fun r3 =>
     some (r3.1, ()))
    else
    (if (decide ((r1.1.length : Int) = 0)) = true then
     ((perigeetop_turns.f n).bind fun r4 =>
      some (r4.1, ()))
     else
     some (false, ())))
   else
   (if (!(decide (r2.2.2.1 = 0))) = true then
    (if (decide (r1.2.1 = 0)) = true then
     ((perigeetop_turns.f n).bind fun r5 =>
      some (r5.1, ()))
     else
     (if (decide ((r1.1.length : Int) = 0)) = true then
      ((perigeetop_turns.f n).bind fun r6 =>
       some (r6.1, ()))
      else
      some (false, ())))
    else
    (if (decide (1000000000 < t0.1)) = true then
     (if (decide (r1.2.1 = 0)) = true then
      ((perigeetop_turns.f n).bind fun r7 =>
       some (r7.1, ()))
      else
      (if (decide ((r1.1.length : Int) = 0)) = true then
       ((perigeetop_turns.f n).bind fun r8 =>
        some (r8.1, ()))
       else
       some (false, ())))
     else
     perigeetop_TopLevelsAreWatched.c0 n t0.1 t0.2.1 t0.2.2.1 t0.2.2.2.1 t0.2.2.2.2 r1.1 r2.2.1))))) := by kernel_rfl
theorem perigeetop_TopLevelsAreWatched.c0_eq (n : Nat) (t5_0 : Int) (t5_1 : Int) (t5_2 : Int) (t5_3 : Int) (t5_4 : Int) (t11 : (List DLevel)) (t14 : Bool) : perigeetop_TopLevelsAreWatched.c0 (n + 1) t5_0 t5_1 t5_2 t5_3 t5_4 t11 t14 =
 perigeetop_TopLevelsAreWatched.c1 n t5_0 t5_1 t5_2 t5_3 t5_4 t11 t14 [] 0 := by kernel_rfl
theorem perigeetop_TopLevelsAreWatched.c1_eq (n : Nat) (t5_0 : Int) (t5_1 : Int) (t5_2 : Int) (t5_3 : Int) (t5_4 : Int) (t11 : (List DLevel)) (t14 : Bool) (t16 : (List DSample)) (t17 : Int) : perigeetop_TopLevelsAreWatched.c1 (n + 1) t5_0 t5_1 t5_2 t5_3 t5_4 t11 t14 t16 t17 =
 (if (decide (t17 < (t11.length : Int))) = true then
 (if (0 : Int) ≤ t17 ∧ t17 < (t11.length : Int) then
  (if (0 : Int) ≤ t17 ∧ t17 < (t11.length : Int) then
   (if t16.length + 1 ≤ 1099511627776 then
    perigeetop_TopLevelsAreWatched.c1 n t5_0 t5_1 t5_2 t5_3 t5_4 t11 t14 (t16 ++ [((t11.getD t17.toNat (Ty.dflt YLevel)).1, ([108, 101, 118, 101, 108], (t11.getD t17.toNat (Ty.dflt YLevel)).2))]) (IntKind.wrap .i64 (t17 + 1))
    else none)
   else none)
  else none)
 else
 ((monitor_Follow.f n [([108, 101, 118, 101, 108], (t5_4, (t5_4, (1000000000, (1000000000, (1, (1, 0)))))))] t16).bind fun r9 =>
  perigeetop_TopLevelsAreWatched.c2 n r9.2.1 t14 r9.1 false 0)) := by kernel_rfl
theorem perigeetop_TopLevelsAreWatched.c2_eq (n : Nat) (t12 : Int) (t14 : Bool) (t19 : (List DEvent)) (t20 : Bool) (t21 : Int) : perigeetop_TopLevelsAreWatched.c2 (n + 1) t12 t14 t19 t20 t21 =
 (if (decide (t21 < (t19.length : Int))) = true then
 (if t20 = true then
  perigeetop_TopLevelsAreWatched.c2 n t12 t14 t19 true (IntKind.wrap .i64 (t21 + 1))
  else
  (if (0 : Int) ≤ t21 ∧ t21 < (t19.length : Int) then
   perigeetop_TopLevelsAreWatched.c2 n t12 t14 t19 (decide (((t19.getD t21.toNat (Ty.dflt YEvent)).2 : List UInt8) = [108, 101, 118, 101, 108, 45, 97, 108, 97, 114, 109])) (IntKind.wrap .i64 (t21 + 1))
   else none))
 else
 (if (decide (t12 = 0)) = true then
  (if (decide (t20 = t14)) = true then
   ((perigeetop_turns.f n).bind fun r10 =>
    some (r10.1, ()))
   else
   some (false, ()))
  else
  some (false, ()))) := by kernel_rfl
noncomputable def perigeetop_TopLevelsAreWatched.E (n : Nat) : FunE := fnE tab perigeetop_TopLevelsAreWatched.T perigeetop_TopLevelsAreWatched.ann Try.f10 perigeetop_TopLevelsAreWatched.ins perigeetop_TopLevelsAreWatched.outs n

end Go.Proofs.Ytodnfnnfjnnhmaa.A

-- YtodnfnnfjnnhmaaRep
set_option linter.unusedVariables false
set_option linter.unusedSimpArgs false
namespace Go.Proofs.Ytodnfnnfjnnhmaa.A
open Go

def big : Nat := 4611686018427387904
def RepL {α : Type} (R : α → List Value → List Nat → Prop) : List α → List Value → List Nat → Prop
 | [], cs, F => cs = [] ∧ F = []
 | x :: xs, cs, F => ∃ c1 c2 F1 F2, cs = c1 ++ c2 ∧ F = F1 ++ F2 ∧ R x c1 F1 ∧ RepL R xs c2 F2

def OwnRow (w : World) (sz : Nat) (n : Nat) (a : Option Addr) (cap : Nat) (c : List Value) (F : List Nat) : Prop :=
 (a = none ∧ cap = 0 ∧ n = 0 ∧ F = []) ∨
 ∃ b o blk el, a = some ⟨b, o, none⟩ ∧ w.heap[b]? = some (.cells blk el (0, 0)) ∧ o + cap * sz ≤ blk.size ∧ (∀ (j : Nat) (u : Value), c[j]? = some u → blk[o + j]? = some u) ∧ F = [b]

def RepM {α β : Type} (R : α → List Value → List Nat → Prop) (S : β → List Value → List Nat → Prop) (gk gv : Bool) : List (α × β) → List MapEntry → Prop
 | [], es => es = []
 | p :: m, es => ∃ e es', es = e :: es' ∧ (∃ kc, (if gk then e.key = .agg kc.toArray else [e.key] = kc) ∧ R p.1 kc []) ∧ (∃ vc, (if gv then e.val = .agg vc.toArray else [e.val] = vc) ∧ S p.2 vc []) ∧ RepM R S gk gv m es'

def RepMF {α β : Type} (T : α → β → Value → List Nat → Prop) (R : α → Value → Prop) : List (α × β) → List MapEntry → List Nat → Prop
 | [], es, F => es = [] ∧ F = []
 | p :: m, es, F => ∃ e es' F1 F2, es = e :: es' ∧ F = F1 ++ F2 ∧ R p.1 e.key ∧ T p.1 p.2 e.val F1 ∧ RepMF T R m es' F2
def RepMH {α β : Type} (q : α → Bool) (ov : Option Value) (T : α → β → Value → List Nat → Prop) (R : α → Value → Prop) : List (α × β) → List MapEntry → List Nat → Prop
 | [], es, F => es = [] ∧ F = []
 | p :: m, es, F => match q p.1 with
  | true => ∃ e es', es = e :: es' ∧ R p.1 e.key ∧ (∀ u, ov = some u → e.val = u) ∧ RepMF T R m es' F
  | false => ∃ e es' F1 F2, es = e :: es' ∧ F = F1 ++ F2 ∧ R p.1 e.key ∧ T p.1 p.2 e.val F1 ∧ RepMH q ov T R m es' F2
section
variable {α β : Type} {T T' : α → β → Value → List Nat → Prop} {R R' : α → Value → Prop}
theorem RepMF.mono_F {G : List Nat} (hR : ∀ x v, R x v → R' x v) (hT : ∀ x y v F, T x y v F → (∀ b ∈ F, b ∈ G) → T' x y v F) : ∀ {m : List (α × β)} {es : List MapEntry} {F : List Nat}, (∀ b ∈ F, b ∈ G) → RepMF T R m es F → RepMF T' R' m es F
 | [], _, _, _, h => h
 | _ :: _, _, _, hF, ⟨e, es', F1, F2, h1, h2, h3, h4, h5⟩ => ⟨e, es', F1, F2, h1, h2, hR _ _ h3, hT _ _ _ _ h4 fun b hb => hF b (by rw [h2]; simp [hb]), RepMF.mono_F hR hT (fun b hb => hF b (by rw [h2]; simp [hb])) h5⟩
theorem RepMH.mono_F {q : α → Bool} {ov : Option Value} {G : List Nat} (hR : ∀ x v, R x v → R' x v) (hT : ∀ x y v F, T x y v F → (∀ b ∈ F, b ∈ G) → T' x y v F) : ∀ {m : List (α × β)} {es : List MapEntry} {F : List Nat}, (∀ b ∈ F, b ∈ G) → RepMH q ov T R m es F → RepMH q ov T' R' m es F
 | [], _, _, _, h => h
 | p :: m, es, F, hF, h => by
  unfold RepMH at h ⊢
  split
  ·rename_i hq
   rw [hq] at h
   obtain ⟨e, es', h1, h2, h3, h4⟩ := h
   exact ⟨e, es', h1, hR _ _ h2, h3, h4.mono_F hR hT hF⟩
  ·rename_i hq
   rw [hq] at h
   obtain ⟨e, es', F1, F2, h1, h2, h3, h4, h5⟩ := h
   exact ⟨e, es', F1, F2, h1, h2, hR _ _ h3, hT _ _ _ _ h4 fun b hb => hF b (by rw [h2]; simp [hb]), RepMH.mono_F hR hT (fun b hb => hF b (by rw [h2]; simp [hb])) h5⟩
theorem RepMF.append : ∀ {m m' : List (α × β)} {es es' : List MapEntry} {F F' : List Nat}, RepMF T R m es F → RepMF T R m' es' F' → RepMF T R (m ++ m') (es ++ es') (F ++ F')
 | [], _, _, _, _, _, ⟨h1, h2⟩, h => by subst h1; subst h2; exact h
 | _ :: _, _, _, _, _, _, ⟨e, es', F1, F2, h1, h2, h3, h4, h5⟩, h => ⟨e, _, F1, _, by rw [h1]; rfl, by rw [h2, List.append_assoc], h3, h4, RepMF.append h5 h⟩
theorem RepMF.split : ∀ {m m' : List (α × β)} {es : List MapEntry} {F : List Nat}, RepMF T R (m ++ m') es F → ∃ e1 e2 F1 F2, es = e1 ++ e2 ∧ F = F1 ++ F2 ∧ RepMF T R m e1 F1 ∧ RepMF T R m' e2 F2 ∧ e1.length = m.length
 | [], _, es, F, h => ⟨[], es, [], F, rfl, rfl, ⟨rfl, rfl⟩, h, rfl⟩
 | p :: m, m', _, _, ⟨e, es', F1, F2, h1, h2, h3, h4, h5⟩ => by
  obtain ⟨a, b, Fa, Fb, q1, q2, q3, q4, q5⟩ := RepMF.split (m := m) h5
  exact ⟨e :: a, b, F1 ++ Fa, Fb, by rw [h1, q1]; rfl, by rw [h2, q2, List.append_assoc], ⟨e, a, F1, Fa, rfl, rfl, h3, h4, q3⟩, q4, by simp [q5]⟩
theorem RepMH.of {q : α → Bool} {ov : Option Value} {p : α × β} {m' : List (α × β)} {e : MapEntry} {es' : List MapEntry} {F' : List Nat} (hq : q p.1 = true) (hk : R p.1 e.key) (hv : ∀ u, ov = some u → e.val = u) (h' : RepMF T R m' es' F') : ∀ {m : List (α × β)} {es : List MapEntry} {F : List Nat}, (∀ x ∈ m, q x.1 = false) → RepMF T R m es F → RepMH q ov T R (m ++ p :: m') (es ++ e :: es') (F ++ F')
 | [], _, _, _, ⟨h1, h2⟩ => by
  subst h1; subst h2
  unfold RepMH
  simp only [List.nil_append]
  rw [hq]
  exact ⟨e, es', rfl, hk, hv, h'⟩
 | x :: m, _, _, hn, ⟨e1, es1, F1, F2, h1, h2, h3, h4, h5⟩ => by
  have ih := RepMH.of hq hk hv h' (fun y hy => hn y (by simp [hy])) h5
  show RepMH q ov T R (x :: (m ++ p :: m')) _ _
  unfold RepMH
  rw [hn x (by simp)]
  exact ⟨e1, es1 ++ e :: es', F1, F2 ++ F', by rw [h1]; rfl, by rw [h2, List.append_assoc], h3, h4, ih⟩
theorem RepMH.none {q : α → Bool} {ov : Option Value} : ∀ {m : List (α × β)} {es : List MapEntry} {F : List Nat}, (∀ x ∈ m, q x.1 = false) → (RepMH q ov T R m es F ↔ RepMF T R m es F)
 | [], _, _, _ => Iff.rfl
 | x :: m, es, F, hn => by
  have ih := fun {es F} => RepMH.none (q := q) (ov := ov) (es := es) (F := F) (fun y hy => hn y (by simp [hy]) : ∀ y ∈ m, q y.1 = false)
  unfold RepMH RepMF
  rw [hn x (by simp)]
  constructor
  ·rintro ⟨e, es', F1, F2, h1, h2, h3, h4, h5⟩
   exact ⟨e, es', F1, F2, h1, h2, h3, h4, ih.1 h5⟩
  ·rintro ⟨e, es', F1, F2, h1, h2, h3, h4, h5⟩
   exact ⟨e, es', F1, F2, h1, h2, h3, h4, ih.2 h5⟩
theorem RepMH.to {q : α → Bool} {ov : Option Value} {p : α × β} {m' : List (α × β)} (hq : q p.1 = true) : ∀ {m : List (α × β)} {es : List MapEntry} {F : List Nat}, (∀ x ∈ m, q x.1 = false) → RepMH q ov T R (m ++ p :: m') es F →
 ∃ e1 e e2 F1 F2, es = e1 ++ e :: e2 ∧ F = F1 ++ F2 ∧ RepMF T R m e1 F1 ∧ R p.1 e.key ∧ (∀ u, ov = some u → e.val = u) ∧ RepMF T R m' e2 F2
 | [], es, F, _, h => by
  simp only [List.nil_append] at h
  unfold RepMH at h
  rw [hq] at h
  obtain ⟨e, es', h1, h2, h3, h4⟩ := h
  exact ⟨[], e, es', [], F, h1, rfl, ⟨rfl, rfl⟩, h2, h3, h4⟩
 | x :: m, es, F, hn, h => by
  have h : RepMH q ov T R (x :: (m ++ p :: m')) es F := h
  unfold RepMH at h
  rw [hn x (by simp)] at h
  obtain ⟨e0, es', F1, F2, h1, h2, h3, h4, h5⟩ := h
  obtain ⟨e1, e, e2, G1, G2, q1, q2, q3, q4, q5, q6⟩ := RepMH.to hq (fun y hy => hn y (by simp [hy])) h5
  exact ⟨e0 :: e1, e, e2, F1 ++ G1, G2, by rw [h1, q1]; rfl, by rw [h2, q2, List.append_assoc], ⟨e0, e1, F1, G1, rfl, rfl, h3, h4, q3⟩, q4, q5, q6⟩
end
def VIs (gv : Bool) (v : Value) (vc : List Value) : Prop := if gv then v = .agg vc.toArray else [v] = vc
def Born (es : List MapEntry) (clock : Nat) : Prop := (es.map (·.born)).Nodup ∧ ∀ e ∈ es, e.born < clock

def Rep (Z : Nat → Prop) (w : World) : (τ : Ty) → τ.den → List Value → List Nat → Prop
 | .unit, _, cs, F => cs = [] ∧ F = []
 | .bool, b, cs, F => cs = [.bool b] ∧ F = []
 | .int k, n, cs, F => cs = [.int k n] ∧ F = [] ∧ k.min ≤ n ∧ n ≤ k.max
 | .str, l, cs, F => cs = [.string ⟨⟨l⟩⟩] ∧ F = [] ∧ l.length ≤ big
 | .fnv f, _, cs, F => cs = [.func (.func f) #[] #[]] ∧ F = []
 | .nil, _, cs, F => cs = [.slice none 0 0] ∧ F = []
 | .ptr _, none, cs, F => cs = [.pointer none] ∧ F = []
 | .ptr e, some y, cs, F => ∃ b el c F', cs = [.pointer (some ⟨b, 0, none⟩)] ∧ F = b :: F' ∧ w.heap[b]? = some (.cells c.toArray el (0, 0)) ∧ Rep Z w e y c F'
 | .pair a b, x, cs, F => ∃ c1 c2 F1 F2, cs = c1 ++ c2 ∧ F = F1 ++ F2 ∧ Rep Z w a x.1 c1 F1 ∧ Rep Z w b x.2 c2 F2
 | .sl e, xs, cs, F => F = [] ∧ xs.length ≤ big ∧ ∃ a cap, cs = [.slice a xs.length cap] ∧ xs.length ≤ cap ∧
  (xs = [] ∨ ∃ b o c, a = some ⟨b, o, none⟩ ∧ Z b ∧ RepL (fun x c F => Rep Z w e x c F) xs c [] ∧ ∀ (j : Nat) (u : Value), c[j]? = some u → w.cell? ⟨b, o + j, none⟩ = some u)
 | .nsl e, xs, cs, F => (xs = [] → cs = [.slice none 0 0]) ∧ F = [] ∧ xs.length ≤ big ∧ ∃ a cap, cs = [.slice a xs.length cap] ∧ xs.length ≤ cap ∧
  (xs = [] ∨ ∃ b o c, a = some ⟨b, o, none⟩ ∧ Z b ∧ RepL (fun x c F => Rep Z w e x c F) xs c [] ∧ ∀ (j : Nat) (u : Value), c[j]? = some u → w.cell? ⟨b, o + j, none⟩ = some u)
 | .vec e, xs, cs, F => xs.length ≤ 8796093022208 ∧ ∃ a cap c F1 F2, cs = [.slice a xs.length cap] ∧ xs.length ≤ cap ∧ F = F1 ++ F2 ∧
  RepL (fun x c F => Rep Z w e x c F) xs c F2 ∧ OwnRow w e.cells xs.length a cap c F1
 | .map k e, m, cs, F => ∃ b ents clock, cs = [.map (some b)] ∧ F = [b] ∧ w.heap[b]? = some (.map ents clock) ∧ Born ents.toList clock ∧
  RepM (fun x c F => Rep Z w k x c F) (fun x c F => Rep Z w e x c F) (!k.one) (!e.one) m ents.toList
 | .fmap k e, m, cs, F => F = [] ∧ ∃ b ents clock, cs = [.map (some b)] ∧ Z b ∧ w.heap[b]? = some (.map ents clock) ∧ Born ents.toList clock ∧
  RepM (fun x c F => Rep Z w k x c F) (fun x c F => Rep Z w e x c F) (!k.one) (!e.one) m ents.toList
 | .mapb k e, m, cs, F => ∃ b ents clock F', cs = [.map (some b)] ∧ F = b :: F' ∧ w.heap[b]? = some (.map ents clock) ∧ Born ents.toList clock ∧
  RepMF (fun x y v F => ∃ vc, VIs (!e.one) v vc ∧ Rep Z w e y vc F) (fun x v => ∃ kc, VIs (!k.one) v kc ∧ Rep Z w k x kc []) m ents.toList F'

section
variable {α : Type} {R S : α → List Value → List Nat → Prop}
theorem RepL.mono (h : ∀ x c F, R x c F → S x c F) : ∀ {xs : List α} {cs : List Value} {F : List Nat}, RepL R xs cs F → RepL S xs cs F
 | [], _, _, hh => hh
 | _ :: _, _, _, ⟨c1, c2, F1, F2, h1, h2, h3, h4⟩ => ⟨c1, c2, F1, F2, h1, h2, h _ _ _ h3, RepL.mono h h4⟩
theorem RepL.mono_F {G : List Nat} (h : ∀ x c F', R x c F' → (∀ b ∈ F', b ∈ G) → S x c F') : ∀ {xs : List α} {cs : List Value} {F : List Nat}, (∀ b ∈ F, b ∈ G) → RepL R xs cs F → RepL S xs cs F
 | [], _, _, _, hh => hh
 | _ :: _, _, _, hF, ⟨c1, c2, F1, F2, h1, h2, h3, h4⟩ => ⟨c1, c2, F1, F2, h1, h2, h _ _ _ h3 (fun b hb => hF b (by rw [h2]; simp [hb])), RepL.mono_F h (fun b hb => hF b (by rw [h2]; simp [hb])) h4⟩
theorem RepL.append : ∀ {xs ys : List α} {c d : List Value} {F G : List Nat}, RepL R xs c F → RepL R ys d G → RepL R (xs ++ ys) (c ++ d) (F ++ G)
 | [], _, _, _, _, _, ⟨h1, h2⟩, hh => by subst h1; subst h2; exact hh
 | _ :: _, _, _, _, _, _, ⟨c1, c2, F1, F2, h1, h2, h3, h4⟩, hh => ⟨c1, _, F1, _, by rw [h1, List.append_assoc], by rw [h2, List.append_assoc], h3, RepL.append h4 hh⟩
theorem RepL.len {sz : Nat} (h : ∀ x c F, R x c F → c.length = sz) : ∀ {xs : List α} {cs : List Value} {F : List Nat}, RepL R xs cs F → cs.length = xs.length * sz
 | [], _, _, ⟨h1, _⟩ => by subst h1; simp
 | _ :: xs, _, _, ⟨c1, c2, F1, F2, h1, h2, h3, h4⟩ => by
  rw [h1, List.length_append, h _ _ _ h3, RepL.len h h4, List.length_cons, Nat.succ_mul, Nat.add_comm]
theorem RepL.at {sz : Nat} (h : ∀ x c F, R x c F → c.length = sz) : ∀ {xs : List α} {cs : List Value} {F : List Nat}, RepL R xs cs F → ∀ (i : Nat) (x : α), xs[i]? = some x →
 ∃ c G, R x c G ∧ (∀ b ∈ G, b ∈ F) ∧ (cs.drop (i * sz)).take sz = c
 | [], _, _, _, i, x, hx => by simp at hx
 | y :: xs, _, _, ⟨c1, c2, F1, F2, h1, h2, h3, h4⟩, i, x, hx => by
  have l1 := h _ _ _ h3
  cases i with
  | zero =>
   simp at hx; subst hx
   exact ⟨c1, F1, h3, fun b hb => by rw [h2]; simp [hb], by rw [h1]; simp [← l1]⟩
  | succ i =>
   simp at hx
   obtain ⟨c, G, g1, g2, g3⟩ := RepL.at h h4 i x hx
   refine ⟨c, G, g1, fun b hb => by rw [h2]; simp [g2 b hb], ?_⟩
   rw [h1, Nat.succ_mul, Nat.add_comm, ← List.drop_drop, ← l1, List.drop_left]
   rw [l1]; exact g3
theorem RepL.take {sz : Nat} (h : ∀ x c F, R x c F → c.length = sz ∧ F = []) : ∀ {xs : List α} {cs : List Value} (n : Nat), RepL R xs cs [] → RepL R (xs.take n) (cs.take (n * sz)) []
 | [], _, n, ⟨h1, _⟩ => by subst h1; simp [RepL]
 | x :: xs, _, 0, _ => by simp [RepL]
 | x :: xs, cs, n + 1, ⟨c1, c2, F1, F2, h1, h2, h3, h4⟩ => by
  obtain ⟨l1, rfl⟩ := h _ _ _ h3
  have : F2 = [] := by simpa using h2.symm
  subst this
  refine ⟨c1, c2.take (n * sz), [], [], ?_, rfl, h3, RepL.take h n h4⟩
  rw [h1, Nat.succ_mul, Nat.add_comm, ← l1, List.take_length_add_append, l1]
theorem RepL.drop {sz : Nat} (h : ∀ x c F, R x c F → c.length = sz ∧ F = []) : ∀ {xs : List α} {cs : List Value} (n : Nat), RepL R xs cs [] → RepL R (xs.drop n) (cs.drop (n * sz)) []
 | [], _, n, ⟨h1, _⟩ => by subst h1; simp [RepL]
 | x :: xs, cs, 0, hh => by simpa using hh
 | x :: xs, cs, n + 1, ⟨c1, c2, F1, F2, h1, h2, h3, h4⟩ => by
  obtain ⟨l1, rfl⟩ := h _ _ _ h3
  have : F2 = [] := by simpa using h2.symm
  subst this
  have := RepL.drop h n h4
  have e : (c1 ++ c2).drop ((n + 1) * sz) = c2.drop (n * sz) := by
   rw [Nat.succ_mul, Nat.add_comm (n * sz), ← l1, ← List.drop_drop, List.drop_left]
  rw [h1, e]
  simpa using this
theorem RepL.dropF {sz : Nat} (h : ∀ x c F, R x c F → c.length = sz) : ∀ {xs : List α} {cs : List Value} {F : List Nat} (n : Nat), RepL R xs cs F → ∃ F', RepL R (xs.drop n) (cs.drop (n * sz)) F'
 | [], _, F, n, ⟨h1, h2⟩ => by subst h1; exact ⟨[], by simp [RepL]⟩
 | x :: xs, cs, F, 0, hh => ⟨F, by simpa using hh⟩
 | x :: xs, cs, F, n + 1, ⟨c1, c2, F1, F2, h1, h2, h3, h4⟩ => by
  have l1 := h _ _ _ h3
  obtain ⟨F', r⟩ := RepL.dropF h n h4
  refine ⟨F', ?_⟩
  have e : (c1 ++ c2).drop ((n + 1) * sz) = c2.drop (n * sz) := by
   rw [Nat.succ_mul, Nat.add_comm (n * sz), ← l1, ← List.drop_drop, List.drop_left]
  rw [h1, e]
  simpa using r
theorem RepL.set {sz : Nat} (h : ∀ x c F, R x c F → c.length = sz ∧ F = []) (y : α) (d : List Value) (hy : R y d []) : ∀ {xs : List α} {cs : List Value} (i : Nat), i < xs.length → RepL R xs cs [] →
 RepL R (xs.set i y) (cs.take (i * sz) ++ d ++ cs.drop (i * sz + sz)) []
 | [], _, i, hi, _ => by simp at hi
 | x :: xs, cs, 0, _, ⟨c1, c2, F1, F2, h1, h2, h3, h4⟩ => by
  obtain ⟨l1, rfl⟩ := h _ _ _ h3
  have : F2 = [] := by simpa using h2.symm
  subst this
  refine ⟨d, c2, [], [], ?_, rfl, hy, h4⟩
  rw [h1, ← l1]; simp
 | x :: xs, cs, i + 1, hi, ⟨c1, c2, F1, F2, h1, h2, h3, h4⟩ => by
  obtain ⟨l1, rfl⟩ := h _ _ _ h3
  have : F2 = [] := by simpa using h2.symm
  subst this
  have ih := RepL.set h y d hy i (by simpa using hi) h4
  refine ⟨c1, _, [], [], ?_, rfl, h3, ih⟩
  have e1 : (c1 ++ c2).take ((i + 1) * sz) = c1 ++ c2.take (i * sz) := by
   rw [Nat.succ_mul, Nat.add_comm (i * sz), ← l1, List.take_length_add_append]
  have e2 : (c1 ++ c2).drop ((i + 1) * sz + sz) = c2.drop (i * sz + sz) := by
   rw [Nat.succ_mul, show i * sz + sz + sz = c1.length + (i * sz + sz) by omega, ← List.drop_drop, List.drop_left]
  rw [h1, e1, e2]
  simp
theorem RepL.replicate {x : α} {c : List Value} (h : R x c []) : ∀ n, RepL R (List.replicate n x) (List.replicate n c).flatten []
 | 0 => by simp [RepL]
 | n + 1 => ⟨c, _, [], [], by simp [List.replicate_succ], rfl, h, RepL.replicate h n⟩
end

theorem Rep.len {Z : Nat → Prop} {w : World} : ∀ {τ : Ty} {x : τ.den} {cs : List Value} {F : List Nat}, Rep Z w τ x cs F → cs.length = τ.cells := by
 intro τ
 induction τ with
 | unit => intro x cs F h; rw [h.1]; rfl
 | bool => intro x cs F h; rw [h.1]; rfl
 | int k => intro x cs F h; rw [h.1]; rfl
 | str => intro x cs F h; rw [h.1]; rfl
 | fnv f => intro x cs F h; rw [h.1]; rfl
 | nil => intro x cs F h; rw [h.1]; rfl
 | ptr e _ =>
  intro x cs F h
  cases x with
  | none => rw [h.1]; rfl
  | some y => obtain ⟨b, el, c, F', h1, _⟩ := h; rw [h1]; rfl
 | pair a b iha ihb =>
  intro x cs F h
  obtain ⟨c1, c2, F1, F2, h1, h2, h3, h4⟩ := h
  rw [h1, List.length_append, iha h3, ihb h4]; rfl
 | sl e _ => intro x cs F h; obtain ⟨_, _, a, cap, h, _⟩ := h; rw [h]; rfl
 | vec e _ => intro x cs F h; obtain ⟨_, a, cap, c, F1, F2, h, _⟩ := h; rw [h]; rfl
 | map k e _ _ => intro x cs F h; obtain ⟨b, es, cl, h, _⟩ := h; rw [h]; rfl
 | fmap k e _ _ => intro x cs F h; obtain ⟨_, b, es, cl, h, _⟩ := h; rw [h]; rfl
 | mapb k e _ _ => intro x cs F h; obtain ⟨b, es, cl, F', h, _⟩ := h; rw [h]; rfl
 | nsl e _ => intro x cs F h; obtain ⟨_, _, _, a, cap, h, _⟩ := h; rw [h]; rfl

theorem RepL.noF {α : Type} {R : α → List Value → List Nat → Prop} (h : ∀ x c F, R x c F → F = []) : ∀ {xs : List α} {cs : List Value} {F : List Nat}, RepL R xs cs F → F = []
 | [], _, _, hh => hh.2
 | _ :: _, _, _, ⟨c1, c2, F1, F2, h1, h2, h3, h4⟩ => by rw [h2, h _ _ _ h3, RepL.noF h h4]; rfl

theorem Rep.pure {Z : Nat → Prop} {w : World} : ∀ {τ : Ty} {x : τ.den} {cs : List Value} {F : List Nat}, τ.pure = true → Rep Z w τ x cs F → F = [] := by
 intro τ
 induction τ with
 | unit => intro x cs F _ h; exact h.2
 | bool => intro x cs F _ h; exact h.2
 | int k => intro x cs F _ h; exact h.2.1
 | str => intro x cs F _ h; exact h.2.1
 | fnv f => intro x cs F _ h; exact h.2
 | nil => intro x cs F _ h; exact h.2
 | ptr e _ => intro x cs F hp h; simp [Ty.pure] at hp
 | pair a b iha ihb =>
  intro x cs F hp h
  simp only [Ty.pure, Bool.and_eq_true] at hp
  obtain ⟨c1, c2, F1, F2, h1, h2, h3, h4⟩ := h
  rw [h2, iha hp.1 h3, ihb hp.2 h4]; rfl
 | sl e _ => intro x cs F _ h; exact h.1
 | vec e _ => intro x cs F hp h; simp [Ty.pure] at hp
 | map k e _ _ => intro x cs F hp h; simp [Ty.pure] at hp
 | fmap k e _ _ => intro x cs F _ h; exact h.1
 | mapb k e _ _ => intro x cs F hp h; simp [Ty.pure] at hp
 | nsl e _ => intro x cs F _ h; exact h.2.1

theorem Rep.elem {Z : Nat → Prop} {w : World} {e : Ty} (he : e.pure = true) : ∀ x c F, Rep Z w e x c F → c.length = e.cells ∧ F = [] := fun _ _ _ h => ⟨h.len, h.pure he⟩

theorem cell_of_block {w w' : World} {b : Nat} (h : w'.heap[b]? = w.heap[b]?) (o : Nat) : w'.cell? ⟨b, o, none⟩ = w.cell? ⟨b, o, none⟩ := by
 simp only [World.cell?, h]

theorem RepM.mono {α β : Type} {R R' : α → List Value → List Nat → Prop} {S S' : β → List Value → List Nat → Prop} {gk gv : Bool} (hR : ∀ x c, R x c [] → R' x c []) (hS : ∀ x c, S x c [] → S' x c []) :
 ∀ {m : List (α × β)} {es : List MapEntry}, RepM R S gk gv m es → RepM R' S' gk gv m es
 | [], _, h => h
 | _ :: _, _, ⟨e, es', h1, ⟨kc, h2, h3⟩, ⟨vc, h4, h5⟩, h6⟩ => ⟨e, es', h1, ⟨kc, h2, hR _ _ h3⟩, ⟨vc, h4, hS _ _ h5⟩, RepM.mono hR hS h6⟩

theorem OwnRow.frame {w w' : World} {sz n cap : Nat} {a : Option Addr} {c : List Value} {F : List Nat} (h : OwnRow w sz n a cap c F) (hF : ∀ b ∈ F, w'.heap[b]? = w.heap[b]?) : OwnRow w' sz n a cap c F := by
 rcases h with h | ⟨b, o, blk, el, h1, h2, h3, h4, h5⟩
 ·exact .inl h
 ·exact .inr ⟨b, o, blk, el, h1, by rw [hF b (by simp [h5])]; exact h2, h3, h4, h5⟩

theorem Rep.frame {Z Z' : Nat → Prop} {w w' : World} (hZ : ∀ b, Z b → w'.heap[b]? = w.heap[b]?) (hs : ∀ b, Z b → Z' b) : ∀ {τ : Ty} {x : τ.den} {cs : List Value} {F : List Nat},
 (∀ b ∈ F, w'.heap[b]? = w.heap[b]?) → Rep Z w τ x cs F → Rep Z' w' τ x cs F := by
 intro τ
 induction τ with
 | unit => intro x cs F _ h; exact h
 | bool => intro x cs F _ h; exact h
 | int k => intro x cs F _ h; exact h
 | str => intro x cs F _ h; exact h
 | fnv f => intro x cs F _ h; exact h
 | nil => intro x cs F _ h; exact h
 | ptr e ih =>
  intro x cs F hF h
  cases x with
  | none => exact h
  | some y =>
   obtain ⟨b, el, c, F', h1, h2, h3, h4⟩ := h
   exact ⟨b, el, c, F', h1, h2, by rw [hF b (by simp [h2])]; exact h3, ih (fun b' hb => hF b' (by rw [h2]; simp [hb])) h4⟩
 | pair a b iha ihb =>
  intro x cs F hF h
  obtain ⟨c1, c2, F1, F2, h1, h2, h3, h4⟩ := h
  exact ⟨c1, c2, F1, F2, h1, h2, iha (fun b hb => hF b (by rw [h2]; simp [hb])) h3, ihb (fun b hb => hF b (by rw [h2]; simp [hb])) h4⟩
 | sl e ih =>
  intro x cs F hF h
  obtain ⟨h0, hl, a, cap, h1, h2, h3⟩ := h
  refine ⟨h0, hl, a, cap, h1, h2, ?_⟩
  rcases h3 with h3 | ⟨b, o, c, g1, g2, g3, g4⟩
  ·exact .inl h3
  ·refine .inr ⟨b, o, c, g1, hs b g2, RepL.mono_F (G := []) (fun x c F' hx hF' => ih (fun b hb => absurd (hF' b hb) (by simp)) hx) (by simp) g3, fun j u hu => ?_⟩
   rw [cell_of_block (hZ b g2)]; exact g4 j u hu
 | nsl e ih =>
  intro x cs F hF h
  obtain ⟨hn, h0, hl, a, cap, h1, h2, h3⟩ := h
  refine ⟨hn, h0, hl, a, cap, h1, h2, ?_⟩
  rcases h3 with h3 | ⟨b, o, c, g1, g2, g3, g4⟩
  ·exact .inl h3
  ·refine .inr ⟨b, o, c, g1, hs b g2, RepL.mono_F (G := []) (fun x c F' hx hF' => ih (fun b hb => absurd (hF' b hb) (by simp)) hx) (by simp) g3, fun j u hu => ?_⟩
   rw [cell_of_block (hZ b g2)]; exact g4 j u hu
 | vec e ih =>
  intro x cs F hF h
  obtain ⟨hl, a, cap, c, F1, F2, h1, h2, h3, h4, h5⟩ := h
  exact ⟨hl, a, cap, c, F1, F2, h1, h2, h3, RepL.mono_F (G := F2) (fun x c F' hx hF' => ih (fun b hb => hF b (by rw [h3]; simp [hF' b hb])) hx) (fun _ hb => hb) h4, h5.frame (fun b hb => hF b (by rw [h3]; simp [hb]))⟩
 | map k e ihk ihe =>
  intro x cs F hF h
  obtain ⟨b, es, cl, h1, h2, h3, h5, h4⟩ := h
  exact ⟨b, es, cl, h1, h2, by rw [hF b (by simp [h2])]; exact h3, h5, h4.mono (fun _ _ hh => ihk (by simp) hh) (fun _ _ hh => ihe (by simp) hh)⟩
 | fmap k e ihk ihe =>
  intro x cs F hF h
  obtain ⟨h0, b, es, cl, h1, h2, h3, h5, h4⟩ := h
  exact ⟨h0, b, es, cl, h1, hs b h2, by rw [hZ b h2]; exact h3, h5, h4.mono (fun _ _ hh => ihk (by simp) hh) (fun _ _ hh => ihe (by simp) hh)⟩
 | mapb k e ihk ihe =>
  intro x cs F hF h
  obtain ⟨b, es, cl, F', h1, h2, h3, h5, h4⟩ := h
  exact ⟨b, es, cl, F', h1, h2, by rw [hF b (by simp [h2])]; exact h3, h5, RepMF.mono_F (G := F') (fun x v ⟨kc, q1, q2⟩ => ⟨kc, q1, ihk (by simp) q2⟩) (fun x y v F0 ⟨vc, q1, q2⟩ hF0 => ⟨vc, q1, ihe (fun b hb => hF b (by rw [h2]; simp [hF0 b hb])) q2⟩) (fun _ h => h) h4⟩

theorem Rep.map_fmap {Z Z' : Nat → Prop} {w : World} {k e : Ty} {m : List (k.den × e.den)} {cs : List Value} {F : List Nat} (h : Rep Z w (.map k e) m cs F) (hs : ∀ b, Z b → Z' b) (hF : ∀ b ∈ F, Z' b) :
 Rep Z' w (.fmap k e) m cs [] := by
 obtain ⟨b, es, cl, h1, h2, h3, h5, h4⟩ := h
 exact ⟨rfl, b, es, cl, h1, hF b (by simp [h2]), h3, h5, h4.mono (fun _ _ hh => hh.frame (fun _ _ => rfl) hs (by simp)) (fun _ _ hh => hh.frame (fun _ _ => rfl) hs (by simp))⟩

theorem Rep.vec_sl {Z Z' : Nat → Prop} {w : World} {e : Ty} {xs : List e.den} {cs : List Value} {F : List Nat} (he : e.pure = true) (h : Rep Z w (.vec e) xs cs F) (hs : ∀ b, Z b → Z' b) (hF : ∀ b ∈ F, Z' b) :
 Rep Z' w (.sl e) xs cs [] := by
 obtain ⟨hl, a, cap, c, F1, F2, h1, h2, h3, h4, h5⟩ := h
 refine ⟨rfl, by unfold big; omega, a, cap, h1, h2, ?_⟩
 rcases h5 with ⟨_, _, h6, _⟩ | ⟨b, o, blk, el, g1, g2, g3, g4, g5⟩
 ·exact .inl (List.eq_nil_of_length_eq_zero h6)
 ·have : F2 = [] := RepL.noF (fun _ _ _ hh => hh.pure he) h4
  subst this
  refine .inr ⟨b, o, c, g1, hF b (by rw [h3, g5]; simp), h4.mono (fun x c F hx => ?_), fun j u hu => ?_⟩
  ·have hf := hx.pure he
   subst hf
   exact hx.frame (fun _ _ => rfl) hs (by simp)
  ·simp only [World.cell?, g2]
   simpa using g4 j u hu
end Go.Proofs.Ytodnfnnfjnnhmaa.A

-- YtodnfnnfjnnhmaaSt
set_option linter.unusedVariables false
set_option linter.unusedSimpArgs false
namespace Go.Proofs.Ytodnfnnfjnnhmaa.A
open Go

def All2 {α β : Type} (R : α → β → Prop) : List α → List β → Prop
 | [], [] => True
 | a :: as_, b :: bs => R a b ∧ All2 R as_ bs
 | _, _ => False
section
variable {α β : Type} {R S : α → β → Prop}
theorem All2.mono (h : ∀ a b, R a b → S a b) : ∀ {as_ : List α} {bs : List β}, All2 R as_ bs → All2 S as_ bs
 | [], [], _ => trivial
 | _ :: _, _ :: _, hh => ⟨h _ _ hh.1, All2.mono h hh.2⟩
theorem All2.len : ∀ {as_ : List α} {bs : List β}, All2 R as_ bs → bs.length = as_.length
 | [], [], _ => rfl
 | _ :: _, _ :: _, hh => by simp [All2.len hh.2]
theorem All2.get : ∀ {as_ : List α} {bs : List β}, All2 R as_ bs → ∀ (i : Nat) (a : α), as_[i]? = some a → ∃ b, bs[i]? = some b ∧ R a b
 | _ :: _, _ :: _, hh, 0, a, ha => by simp at ha; subst ha; exact ⟨_, rfl, hh.1⟩
 | _ :: _, _ :: _, hh, i + 1, a, ha => by simp at ha ⊢; exact All2.get hh.2 i a ha
theorem All2.append : ∀ {as_ as' : List α} {bs bs' : List β}, All2 R as_ bs → All2 R as' bs' → All2 R (as_ ++ as') (bs ++ bs')
 | [], _, [], _, _, h => h
 | _ :: _, _, _ :: _, _, hh, h => ⟨hh.1, All2.append hh.2 h⟩
theorem All2.split : ∀ {as_ as' : List α} {bs : List β}, All2 R (as_ ++ as') bs → ∃ b1 b2, bs = b1 ++ b2 ∧ All2 R as_ b1 ∧ All2 R as' b2
 | [], _, bs, h => ⟨[], bs, rfl, trivial, h⟩
 | _ :: _, _, b :: _, h => by
  obtain ⟨b1, b2, e, h1, h2⟩ := All2.split h.2
  exact ⟨b :: b1, b2, by rw [e]; rfl, ⟨h.1, h1⟩, h2⟩
end

structure Md where
 Z : Nat → Prop
 hd : Nat → Value
 ft : Nat → List Nat

def keyDesc : Ty → TypeDesc → Prop
 | .int k, d => d = .int k
 | .bool, d => d = .bool
 | .str, d => d = .string
 | _, _ => False
def LPin (m : Md) (H : Hp) (id : Nat) (b : Bool) (c : Value) : Prop := H id ≠ .absent ∧ match b with
 | false => (∀ k e mm, H id = .live (.mapo k e mm) → c = m.hd id) ∧ (∀ k e mm, H id = .frzm k e mm → c = m.hd id)
 | true => ∀ g k e mm ho, H id = .live (.mapb g k e mm ho) → c = m.hd id
def cloV (f : Nat) (b : Bool) (p : Value) : Value := match b with | true => .func (.func f) #[p] #[] | false => .func (.func f) #[] #[p]
def LRep (m : Md) (w : World) (H : Hp) : LV → Value → Prop
 | .v τ x, c => Rep m.Z w τ x [c] []
 | .nils, c => c = .slice none 0 0
 | .nilm, c => c = .map none
 | .nilp, c => c = .pointer none
 | .ptr id off, c => H id ≠ .absent ∧ ∀ g ls, H id = .live (.cells g ls) → ∃ b o, m.hd id = .pointer (some ⟨b, o, none⟩) ∧ c = .pointer (some ⟨b, o + off, none⟩)
 | .row id, c => H id ≠ .absent ∧ ((∀ e xs, H id = .live (.row e xs) → c = m.hd id) ∧ (∀ e xs, H id = .frz e xs → c = m.hd id))
 | .sub id g off, c => H id ≠ .absent ∧ (∀ g0 ls, H id = .live (.cells g0 ls) → g ≤ g0) ∧ ∀ ls e xs, H id = .live (.cells g ls) → ls[off]? = some (.v (.vec e) xs) → ∃ b o, m.hd id = .pointer (some ⟨b, o, none⟩) ∧ w.cell? ⟨b, o + off, none⟩ = some c
 | .subv id g off lo sz, c => H id ≠ .absent ∧ (∀ g0 ls, H id = .live (.cells g0 ls) → g ≤ g0) ∧ ∀ ls e xs, H id = .live (.cells g ls) → ls[off]? = some (.v (.vec e) xs) →
  ∃ b q ad cap, m.hd id = .pointer (some ⟨b, q, none⟩) ∧ w.cell? ⟨b, q + off, none⟩ = some (.slice ad xs.length cap) ∧ lo ≤ xs.length ∧ c = .slice (if cap = lo then ad else ad.map (·.add (lo * sz))) (xs.length - lo) (cap - lo)
 | .vw e xs, c => Rep m.Z w (.sl e) xs [c] []
 | .pel τ x off, c => ∃ b o cs, c = .pointer (some ⟨b, o + off, none⟩) ∧ m.Z b ∧ Rep m.Z w τ x cs [] ∧ ∀ (j : Nat) (u : Value), cs[j]? = some u → w.cell? ⟨b, o + j, none⟩ = some u
 | .rel id i off, c => H id ≠ .absent ∧ ∀ e xs, H id = .live (.row e xs) → ∃ b o n cap, m.hd id = .slice (some ⟨b, o, none⟩) n cap ∧ c = .pointer (some ⟨b, o + i * e.cells + off, none⟩) ∧ i < xs.length
 | .sel id g off i o2, c => H id ≠ .absent ∧ (∀ g0 ls, H id = .live (.cells g0 ls) → g ≤ g0) ∧ ∀ ls e xs, H id = .live (.cells g ls) → ls[off]? = some (.v (.vec e) xs) →
  ∃ b q b2 o n cap, m.hd id = .pointer (some ⟨b, q, none⟩) ∧ w.cell? ⟨b, q + off, none⟩ = some (.slice (some ⟨b2, o, none⟩) n cap) ∧ c = .pointer (some ⟨b2, o + i * e.cells + o2, none⟩) ∧ i < xs.length
 | .mapr id, c => H id ≠ .absent ∧ (∀ k e mm, H id = .live (.mapo k e mm) → c = m.hd id) ∧ (∀ k e mm, H id = .frzm k e mm → c = m.hd id)
 | .itr id, c => H id ≠ .absent ∧ ∀ k e cur r, H id = .live (.iter k e cur r) → c = m.hd id
 | .mbr id, c => H id ≠ .absent ∧ ∀ g k e mm ho, H id = .live (.mapb g k e mm ho) → c = m.hd id
 | .mel id g k key off, c => H id ≠ .absent ∧ (∀ g0 k0 e0 mm ho, H id = .live (.mapb g0 k0 e0 mm ho) → g ≤ g0) ∧ ∀ e mm ho, H id = .live (.mapb g k (.ptr e) mm ho) →
  ∃ bm ents clock j bx d kv, m.hd id = .map (some bm) ∧ w.heap[bm]? = some (.map ents clock) ∧ keyDesc k d ∧ Rep m.Z w k key [kv] [] ∧ Instr.findNow d kv ents.toList 0 = some (some (j, .pointer (some ⟨bx, 0, none⟩))) ∧ c = .pointer (some ⟨bx, off, none⟩)
 | .mvl id g k key, c => H id ≠ .absent ∧ (∀ g0 k0 e0 mm ho, H id = .live (.mapb g0 k0 e0 mm ho) → g ≤ g0) ∧ ∀ e mm ho, H id = .live (.mapb g k (.vec e) mm ho) →
  ∃ bm ents clock d kv, m.hd id = .map (some bm) ∧ w.heap[bm]? = some (.map ents clock) ∧ keyDesc k d ∧ Rep m.Z w k key [kv] [] ∧ ((Instr.findNow d kv ents.toList 0 = some none ∧ c = .slice none 0 0) ∨ ∃ j, Instr.findNow d kv ents.toList 0 = some (some (j, c)))
 | .cst, _ => True
 | .pptr id off ps, c => H id ≠ .absent ∧ (∀ g ls, H id = .live (.cells g ls) → ∃ b, m.hd id = .pointer (some ⟨b, 0, none⟩) ∧ c = .pointer (some ⟨b, off, none⟩)) ∧
  ∀ q ∈ ps, ∀ g ls, H id = .live (.cells g ls) → ls[q.1]? = some .cst → ∃ b u, m.hd id = .pointer (some ⟨b, 0, none⟩) ∧ w.cell? ⟨b, q.1, none⟩ = some u ∧ LPin m H q.2.1 q.2.2 u
 | .mfl mid id g off, c => LPin m H mid false c ∧ H id ≠ .absent ∧ (∀ g0 ls, H id = .live (.cells g0 ls) → g ≤ g0) ∧ ∀ ls, H id = .live (.cells g ls) → ∃ b q, m.hd id = .pointer (some ⟨b, q, none⟩) ∧ w.cell? ⟨b, q + off, none⟩ = some c
 | .clo f b id, c => H id ≠ .absent ∧ ∀ g ls, H id = .live (.cells g ls) → ∃ bb o, m.hd id = .pointer (some ⟨bb, o, none⟩) ∧ c = cloV f b (.pointer (some ⟨bb, o, none⟩))
 | .junk, _ => True

def IsV (g : Bool) (cs : List Value) (v : Value) : Prop := match g with | true => v = .agg cs.toArray | false => cs = [v]
def PRep (m : Md) (w : World) (H : Hp) (p : Bool × List LV) (v : Value) : Prop := ∃ cs, IsV p.1 cs v ∧ All2 (LRep m w H) p.2 cs
def AVRep (m : Md) (w : World) (H : Hp) : AV → Value → Prop
 | .val g ls, v => PRep m w H (g, ls) v
 | .tup vs, v => ∃ us, v = .tuple us.toArray ∧ All2 (PRep m w H) vs us
 | .undef, v => v = undef
 | .junk, _ => True

def OL (Z : Nat → Prop) (w : World) : LV → Value → List Nat → Prop
 | .v τ x, c, F => Rep Z w τ x [c] F
 | .nils, c, F => c = .slice none 0 0 ∧ F = []
 | .nilm, c, F => c = .map none ∧ F = []
 | .nilp, c, F => c = .pointer none ∧ F = []
 | .vw e xs, c, F => Rep Z w (.sl e) xs [c] F
 | _, _, F => F = []
def OL1 (Z : Nat → Prop) (w : World) (l : LV) (cs : List Value) (F : List Nat) : Prop := ∃ c, cs = [c] ∧ OL Z w l c F
def TV (Z : Nat → Prop) (w : World) (k σ : Ty) (_ : k.den) (y : σ.den) (v : Value) (F : List Nat) : Prop := ∃ vc, VIs (!σ.one) v vc ∧ Rep Z w σ y vc F
def KV (Z : Nat → Prop) (w : World) (k : Ty) (x : k.den) (v : Value) : Prop := ∃ kc, VIs (!k.one) v kc ∧ Rep Z w k x kc []
def MEnt (Z : Nat → Prop) (w : World) (k σ : Ty) (mm : List (k.den × σ.den)) (ho : Option (k.den × Option Value)) (es : List MapEntry) (F : List Nat) : Prop := match ho with
 | none => RepMF (TV Z w k σ) (KV Z w k) mm es F
 | some (hk, ov) => RepMH (fun x => eqV k x hk) ov (TV Z w k σ) (KV Z w k) mm es F
structure Base where
 w : World
 F : List Nat
 Z : Nat → Prop
 fx : List Nat
 fv : Nat → Value
 fr : Nat → List Value × List Value

def frm (B : Base) (g b : Nat) : List Value × List Value := if g % 2 = 0 then ([], []) else B.fr b
theorem frm_even {B : Base} {g b : Nat} (h : g % 2 = 0) : frm B g b = ([], []) := by unfold frm; rw [if_pos h]
theorem frm_par {B : Base} {g g' b : Nat} (h : g' % 2 = g % 2) : frm B g' b = frm B g b := by unfold frm; rw [h]

def ORep (B : Base) (Z : Nat → Prop) (w : World) : Obj → Value → List Nat → Prop
 | .mapb _ k σ mm ho, h, F => ∃ b ents clock F', h = .map (some b) ∧ F = b :: F' ∧ w.heap[b]? = some (.map ents clock) ∧ Born ents.toList clock ∧ MEnt Z w k σ mm ho ents.toList F'
 | .cells g ls, h, F => ∃ b el cs F', h = .pointer (some ⟨b, (frm B g b).1.length, none⟩) ∧ F = b :: F' ∧ w.heap[b]? = some (.cells ((frm B g b).1 ++ cs ++ (frm B g b).2).toArray el (0, 0)) ∧ RepL (OL1 Z w) ls cs F'
 | .row e xs, h, F => Rep Z w (.vec e) xs [h] F
 | .mapo k e mm, h, F => Rep Z w (.map k e) mm [h] F
 | .iter k e cur r, h, F => ∃ b bm ents clock seen, h = .pointer (some ⟨b, 0, none⟩) ∧ F = [b] ∧ w.heap[b]? = some (.mapIter (some bm) clock seen clock) ∧ Z bm ∧ w.heap[bm]? = some (.map ents clock) ∧ Born ents.toList clock ∧
  RepM (fun x c F => Rep Z w k x c F) (fun x c F => Rep Z w e x c F) (!k.one) (!e.one) r (ents.toList.filter fun e => !seen.contains e.born) ∧
  (∀ p, cur = some p → ∃ en ∈ ents.toList, seen.back? = some en.born ∧ RepM (fun x c F => Rep Z w k x c F) (fun x c F => Rep Z w e x c F) (!k.one) (!e.one) [p] [en])
 | .rest e l1 l2 c1 c2, h, F => ∃ F1 F2, F = F1 ++ F2 ∧ RepL (fun x c F => Rep Z w e x c F) l1 c1 F1 ∧ RepL (fun x c F => Rep Z w e x c F) l2 c2 F2
theorem orep_even {B : Base} {Z : Nat → Prop} {w : World} {g : Nat} {ls : List LV} {h : Value} {F : List Nat} (hg : g % 2 = 0) :
 ORep B Z w (.cells g ls) h F ↔ ∃ b el cs F', h = .pointer (some ⟨b, 0, none⟩) ∧ F = b :: F' ∧ w.heap[b]? = some (.cells cs.toArray el (0, 0)) ∧ RepL (OL1 Z w) ls cs F' := by
 have e : ∀ b, frm B g b = ([], []) := fun b => frm_even hg
 simp only [ORep, e, List.length_nil, List.nil_append, List.append_nil]
def CRep (B : Base) (m : Md) (w : World) (id : Nat) : Cell → Prop
 | .live o => ORep B m.Z w o (m.hd id) (m.ft id)
 | .frz e xs => Rep m.Z w (.sl e) xs [m.hd id] []
 | .frzm k e mm => Rep m.Z w (.fmap k e) mm [m.hd id] []
 | _ => True
def Cell.Live : Cell → Prop
 | .live _ => True
 | _ => False

structure Kept (F : List Nat) (w w' : World) : Prop where
 os : w'.os = w.os
 tape : w'.tape = w.tape
 output : w'.output = w.output
 size : w.heap.size ≤ w'.heap.size
 block : ∀ b, b < w.heap.size → b ∉ F → w'.heap[b]? = w.heap[b]?
theorem Kept.refl (F : List Nat) (w : World) : Kept F w w := ⟨rfl, rfl, rfl, Nat.le_refl _, fun _ _ _ => rfl⟩
theorem Kept.trans {F : List Nat} {a b c : World} (h : Kept F a b) (k : Kept F b c) : Kept F a c :=
 ⟨k.os.trans h.os, k.tape.trans h.tape, k.output.trans h.output, Nat.le_trans h.size k.size, fun i hi hF => (k.block i (Nat.lt_of_lt_of_le hi h.size) hF).trans (h.block i hi hF)⟩

structure HOk (B : Base) (m : Md) (H : Hp) (w : World) : Prop where
 zl : ∀ b, m.Z b → b < w.heap.size
 zs : ∀ b, B.Z b → m.Z b
 zi : ∀ b, m.Z b → b < B.w.heap.size → B.Z b ∨ b ∈ B.F
 cr : ∀ id, CRep B m w id (H id)
 nd : ∀ id, (H id).Live → (m.ft id).Nodup
 sp : ∀ i j, i ≠ j → (H i).Live → (H j).Live → ∀ b ∈ m.ft i, b ∉ m.ft j
 nz : ∀ id, (H id).Live → ∀ b ∈ m.ft id, ¬ m.Z b ∧ b < w.heap.size ∧ (b < B.w.heap.size → b ∈ B.F)
 kp : Kept B.F B.w w

structure St (B : Base) (m : Md) (E : Env) (H : Hp) (a : Act) (w : World) : Prop where
 h : HOk B m H w
 t : ∀ t, AVRep m w H (E t) (a.tmps.getD t undef)
 d : a.defers = []

structure Evo (m : Md) (H : Hp) (w : World) (m' : Md) (H' : Hp) (w' : World) : Prop where
 z : ∀ b, m.Z b → m'.Z b ∧ w'.heap[b]? = w.heap[b]?
 ab : ∀ id, H id ≠ .absent → H' id ≠ .absent
 cells : ∀ id, H id ≠ .absent → ∀ g ls, H' id = .live (.cells g ls) → m'.hd id = m.hd id ∧ ∃ g0 ls0, H id = .live (.cells g0 ls0) ∧ g0 ≤ g ∧
  (g = g0 → ∀ (off : Nat) e xs, ls[off]? = some (.v (.vec e) xs) → ∃ xs0 : List e.den, ls0[off]? = some (.v (.vec e) xs0) ∧ xs0.length = xs.length ∧ ∀ b o, m.hd id = .pointer (some ⟨b, o, none⟩) → w'.cell? ⟨b, o + off, none⟩ = w.cell? ⟨b, o + off, none⟩)
 row : ∀ id, H id ≠ .absent → ∀ e xs, H' id = .live (.row e xs) → m'.hd id = m.hd id ∧ ∃ xs0, H id = .live (.row e xs0) ∧ xs0.length = xs.length
 frz : ∀ id, H id ≠ .absent → ∀ e xs, H' id = .frz e xs → m'.hd id = m.hd id ∧ (H id = .frz e xs ∨ ∃ xs0, H id = .live (.row e xs0))
 map : ∀ id, H id ≠ .absent → ∀ k e mm, H' id = .live (.mapo k e mm) → m'.hd id = m.hd id ∧ ∃ mm0, H id = .live (.mapo k e mm0)
 frzm : ∀ id, H id ≠ .absent → ∀ k e mm, H' id = .frzm k e mm → m'.hd id = m.hd id ∧ (H id = .frzm k e mm ∨ ∃ mm0, H id = .live (.mapo k e mm0))
 itr : ∀ id, H id ≠ .absent → ∀ k e cur r, H' id = .live (.iter k e cur r) → m'.hd id = m.hd id ∧ ∃ cur0 r0, H id = .live (.iter k e cur0 r0)
 mapb : ∀ id, H id ≠ .absent → ∀ g k e mm ho, H' id = .live (.mapb g k e mm ho) → m'.hd id = m.hd id ∧ ∃ g0 mm0 ho0, H id = .live (.mapb g0 k e mm0 ho0) ∧ g0 ≤ g ∧ (g = g0 → ∀ bm, m.hd id = .map (some bm) → w'.heap[bm]? = w.heap[bm]?)
 cst : ∀ id, H id ≠ .absent → ∀ g ls, H' id = .live (.cells g ls) → ∃ g0 ls0, H id = .live (.cells g0 ls0) ∧ (g = g0 → ∀ b o off, m.hd id = .pointer (some ⟨b, o, none⟩) → w'.cell? ⟨b, o + off, none⟩ = w.cell? ⟨b, o + off, none⟩) ∧
  ∀ off, ls[off]? = some .cst → ls0[off]? = some .cst ∧ ∀ b, m.hd id = .pointer (some ⟨b, 0, none⟩) → w'.cell? ⟨b, off, none⟩ = w.cell? ⟨b, off, none⟩

section
variable {m m' : Md} {H H' : Hp} {w w' : World}
theorem Rep.key {Z Z' : Nat → Prop} {w w' : World} {k : Ty} {d : TypeDesc} (hd : keyDesc k d) {x : k.den} {cs : List Value} {F : List Nat} (h : Rep Z w k x cs F) : Rep Z' w' k x cs F := by
 cases k <;> first | exact h | exact hd.elim
theorem Rep.evo (ev : Evo m H w m' H' w') {τ : Ty} {x : τ.den} {cs : List Value} (h : Rep m.Z w τ x cs []) : Rep m'.Z w' τ x cs [] :=
 h.frame (fun b hb => (ev.z b hb).2) (fun b hb => (ev.z b hb).1) (by simp)
theorem LPin.evo (ev : Evo m H w m' H' w') {id : Nat} {b : Bool} {c : Value} (h : LPin m H id b c) : LPin m' H' id b c := by
 refine ⟨ev.ab id h.1, ?_⟩
 cases b with
 | false =>
  refine ⟨fun k e mm hh => ?_, fun k e mm hh => ?_⟩
  ·obtain ⟨e1, mm0, e2⟩ := ev.map id h.1 k e mm hh
   rw [e1]; exact h.2.1 _ _ _ e2
  ·obtain ⟨e1, e2 | ⟨_, e2⟩⟩ := ev.frzm id h.1 k e mm hh
   ·rw [e1]; exact h.2.2 _ _ _ e2
   ·rw [e1]; exact h.2.1 _ _ _ e2
 | true =>
  intro g k e mm ho hh
  obtain ⟨e1, g0, mm0, ho0, e2, _⟩ := ev.mapb id h.1 g k e mm ho hh
  rw [e1]; exact h.2 _ _ _ _ _ e2
theorem LRep.evo (ev : Evo m H w m' H' w') : ∀ {l : LV} {c : Value}, LRep m w H l c → LRep m' w' H' l c := by
 intro l c h
 cases l with
 | v τ x => exact Rep.evo ev h
 | nils => exact h
 | nilm => exact h
 | nilp => exact h
 | junk => trivial
 | cst => trivial
 | pptr id off ps =>
  refine ⟨ev.ab id h.1, fun g ls hh => ?_, fun q hq g ls hh hl => ?_⟩
  ·obtain ⟨e1, g0, ls0, e2, _⟩ := ev.cells id h.1 g ls hh
   obtain ⟨b, e3, e4⟩ := h.2.1 g0 ls0 e2
   exact ⟨b, by rw [e1]; exact e3, e4⟩
  ·obtain ⟨e1, _⟩ := ev.cells id h.1 g ls hh
   obtain ⟨g0, ls0, e2, _, k⟩ := ev.cst id h.1 g ls hh
   obtain ⟨k1, k2⟩ := k q.1 hl
   obtain ⟨b, u, q1, q2, q3⟩ := h.2.2 q hq g0 ls0 e2 k1
   exact ⟨b, u, by rw [e1]; exact q1, by rw [k2 b q1]; exact q2, q3.evo ev⟩
 | mfl mid id g off =>
  refine ⟨h.1.evo ev, ev.ab id h.2.1, fun g1 ls hh => ?_, fun ls hh => ?_⟩
  ·obtain ⟨e1, g0, ls0, e2, e3, k⟩ := ev.cells id h.2.1 g1 ls hh
   have := h.2.2.1 g0 ls0 e2
   omega
  ·obtain ⟨e1, g0, ls0, e2, e3, _⟩ := ev.cells id h.2.1 g ls hh
   have := h.2.2.1 g0 ls0 e2
   obtain rfl : g = g0 := by omega
   obtain ⟨g1, ls1, e4, k, _⟩ := ev.cst id h.2.1 g ls hh
   rw [e2] at e4; cases e4
   obtain ⟨b, qb, q1, q2⟩ := h.2.2.2 ls0 e2
   exact ⟨b, qb, by rw [e1]; exact q1, by rw [k rfl b qb off q1]; exact q2⟩
 | vw e xs => exact Rep.evo ev h
 | clo f b id =>
  refine ⟨ev.ab id h.1, fun g ls hh => ?_⟩
  obtain ⟨e1, g0, ls0, e2, _⟩ := ev.cells id h.1 g ls hh
  obtain ⟨bb, o, e3, e4⟩ := h.2 g0 ls0 e2
  exact ⟨bb, o, by rw [e1]; exact e3, e4⟩
 | ptr id off =>
  refine ⟨ev.ab id h.1, fun g ls hh => ?_⟩
  obtain ⟨e1, g0, ls0, e2, _⟩ := ev.cells id h.1 g ls hh
  obtain ⟨b, o, e3, e4⟩ := h.2 g0 ls0 e2
  exact ⟨b, o, by rw [e1]; exact e3, e4⟩
 | row id =>
  refine ⟨ev.ab id h.1, fun e xs hh => ?_, fun e xs hh => ?_⟩
  ·obtain ⟨e1, xs0, e2, _⟩ := ev.row id h.1 e xs hh
   rw [e1]; exact h.2.1 _ _ e2
  ·obtain ⟨e1, e2 | ⟨_, e2⟩⟩ := ev.frz id h.1 e xs hh
   ·rw [e1]; exact h.2.2 _ _ e2
   ·rw [e1]; exact h.2.1 _ _ e2
 | sub id g off =>
  refine ⟨ev.ab id h.1, fun g1 ls hh => ?_, fun ls e xs hh hl => ?_⟩
  ·obtain ⟨e1, g0, ls0, e2, e3, k⟩ := ev.cells id h.1 g1 ls hh
   have := h.2.1 g0 ls0 e2
   omega
  ·obtain ⟨e1, g0, ls0, e2, e3, k⟩ := ev.cells id h.1 g ls hh
   have := h.2.1 g0 ls0 e2
   obtain rfl : g = g0 := by omega
   obtain ⟨xs0, k1, k2, k3⟩ := k rfl off e xs hl
   obtain ⟨b, q, e3, e4⟩ := h.2.2 ls0 e xs0 e2 k1
   exact ⟨b, q, by rw [e1]; exact e3, by rw [k3 b q e3]; exact e4⟩
 | subv id g off lo sz =>
  refine ⟨ev.ab id h.1, fun g1 ls hh => ?_, fun ls e xs hh hl => ?_⟩
  ·obtain ⟨e1, g0, ls0, e2, e3, k⟩ := ev.cells id h.1 g1 ls hh
   have := h.2.1 g0 ls0 e2
   omega
  ·obtain ⟨e1, g0, ls0, e2, e3, k⟩ := ev.cells id h.1 g ls hh
   have := h.2.1 g0 ls0 e2
   obtain rfl : g = g0 := by omega
   obtain ⟨xs0, k1, k2, k3⟩ := k rfl off e xs hl
   obtain ⟨b, q, ad, cap, e3, e4, e5, e6⟩ := h.2.2 ls0 e xs0 e2 k1
   exact ⟨b, q, ad, cap, by rw [e1]; exact e3, by rw [k3 b q e3, ← k2]; exact e4, by omega, by rw [← k2]; exact e6⟩
 | pel τ x off =>
  obtain ⟨b, o, cs, h1, h2, h3, h4⟩ := h
  refine ⟨b, o, cs, h1, (ev.z b h2).1, Rep.evo ev h3, fun j u hu => ?_⟩
  rw [cell_of_block (ev.z b h2).2]; exact h4 j u hu
 | rel id i off =>
  refine ⟨ev.ab id h.1, fun e xs hh => ?_⟩
  obtain ⟨e1, xs0, e2, e3⟩ := ev.row id h.1 e xs hh
  obtain ⟨b, o, n, cap, k1, k2, k3⟩ := h.2 e xs0 e2
  exact ⟨b, o, n, cap, by rw [e1]; exact k1, k2, by omega⟩
 | sel id g off i o2 =>
  refine ⟨ev.ab id h.1, fun g1 ls hh => ?_, fun ls e xs hh hl => ?_⟩
  ·obtain ⟨e1, g0, ls0, e2, e3, k⟩ := ev.cells id h.1 g1 ls hh
   have := h.2.1 g0 ls0 e2
   omega
  ·obtain ⟨e1, g0, ls0, e2, e3, k⟩ := ev.cells id h.1 g ls hh
   have := h.2.1 g0 ls0 e2
   obtain rfl : g = g0 := by omega
   obtain ⟨xs0, k1, k2, k3⟩ := k rfl off e xs hl
   obtain ⟨b, q, b2, o, n, cap, e3, e4, e5, e6⟩ := h.2.2 ls0 e xs0 e2 k1
   exact ⟨b, q, b2, o, n, cap, by rw [e1]; exact e3, by rw [k3 b q e3]; exact e4, e5, by omega⟩
 | mapr id =>
  refine ⟨ev.ab id h.1, fun k e mm hh => ?_, fun k e mm hh => ?_⟩
  ·obtain ⟨e1, mm0, e2⟩ := ev.map id h.1 k e mm hh
   rw [e1]; exact h.2.1 _ _ _ e2
  ·obtain ⟨e1, e2 | ⟨_, e2⟩⟩ := ev.frzm id h.1 k e mm hh
   ·rw [e1]; exact h.2.2 _ _ _ e2
   ·rw [e1]; exact h.2.1 _ _ _ e2
 | itr id =>
  refine ⟨ev.ab id h.1, fun k e cur r hh => ?_⟩
  obtain ⟨e1, c0, r0, e2⟩ := ev.itr id h.1 k e cur r hh
  rw [e1]; exact h.2 _ _ _ _ e2
 | mbr id =>
  refine ⟨ev.ab id h.1, fun g k e mm ho hh => ?_⟩
  obtain ⟨e1, g0, mm0, ho0, e2, _⟩ := ev.mapb id h.1 g k e mm ho hh
  rw [e1]; exact h.2 _ _ _ _ _ e2
 | mel id g k key off =>
  refine ⟨ev.ab id h.1, fun g1 k1 e1 mm ho hh => ?_, fun e mm ho hh => ?_⟩
  ·obtain ⟨_, g0, mm0, ho0, e2, e3, _⟩ := ev.mapb id h.1 g1 k1 e1 mm ho hh
   have := h.2.1 _ _ _ _ _ e2
   omega
  ·obtain ⟨e1, g0, mm0, ho0, e2, e3, e4⟩ := ev.mapb id h.1 g k (.ptr e) mm ho hh
   have := h.2.1 _ _ _ _ _ e2
   obtain rfl : g = g0 := by omega
   obtain ⟨bm, ents, clock, j, bx, d, kv, q1, q2, q3, q4, q5, q6⟩ := h.2.2 e mm0 ho0 e2
   exact ⟨bm, ents, clock, j, bx, d, kv, by rw [e1]; exact q1, by rw [e4 rfl bm q1]; exact q2, q3, Rep.key q3 q4, q5, q6⟩
 | mvl id g k key =>
  refine ⟨ev.ab id h.1, fun g1 k1 e1 mm ho hh => ?_, fun e mm ho hh => ?_⟩
  ·obtain ⟨_, g0, mm0, ho0, e2, e3, _⟩ := ev.mapb id h.1 g1 k1 e1 mm ho hh
   have := h.2.1 _ _ _ _ _ e2
   omega
  ·obtain ⟨e1, g0, mm0, ho0, e2, e3, e4⟩ := ev.mapb id h.1 g k (.vec e) mm ho hh
   have := h.2.1 _ _ _ _ _ e2
   obtain rfl : g = g0 := by omega
   obtain ⟨bm, ents, clock, d, kv, q1, q2, q3, q4, q5⟩ := h.2.2 e mm0 ho0 e2
   exact ⟨bm, ents, clock, d, kv, by rw [e1]; exact q1, by rw [e4 rfl bm q1]; exact q2, q3, Rep.key q3 q4, q5⟩
theorem AVRep.evo (ev : Evo m H w m' H' w') : ∀ {v : AV} {c : Value}, AVRep m w H v c → AVRep m' w' H' v c := by
 intro v c h
 have hp : ∀ p u, PRep m w H p u → PRep m' w' H' p u := fun p u ⟨cs, h1, h2⟩ => ⟨cs, h1, h2.mono fun _ _ hh => hh.evo ev⟩
 cases v with
 | val g ls => exact hp _ _ h
 | tup vs => obtain ⟨us, h1, h2⟩ := h; exact ⟨us, h1, h2.mono hp⟩
 | undef => exact h
 | junk => trivial
theorem Evo.refl : Evo m H w m H w :=
 ⟨fun _ h => ⟨h, rfl⟩, fun _ h => h, fun id h g ls hh => ⟨rfl, g, ls, hh, Nat.le_refl _, fun _ off e xs hx => ⟨xs, hx, rfl, fun _ _ _ => rfl⟩⟩, fun id h e xs hh => ⟨rfl, xs, hh, rfl⟩,
  fun id h e xs hh => ⟨rfl, .inl hh⟩, fun id h k e mm hh => ⟨rfl, mm, hh⟩, fun id h k e mm hh => ⟨rfl, .inl hh⟩, fun id h k e c r hh => ⟨rfl, c, r, hh⟩, fun id h g k e mm ho hh => ⟨rfl, g, mm, ho, hh, Nat.le_refl _, fun _ _ _ => rfl⟩, fun id h g ls hh => ⟨g, ls, hh, fun _ _ _ _ _ => rfl, fun _ hc => ⟨hc, fun _ _ => rfl⟩⟩⟩
theorem Evo.world (h : w'.heap = w.heap) : Evo m H w m H w' :=
 ⟨fun _ hz => ⟨hz, by rw [h]⟩, fun _ h => h, fun id _ g ls hh => ⟨rfl, g, ls, hh, Nat.le_refl _, fun _ off e xs hx => ⟨xs, hx, rfl, fun _ _ _ => cell_of_block (by rw [h]) _⟩⟩, fun id h e xs hh => ⟨rfl, xs, hh, rfl⟩,
  fun id h e xs hh => ⟨rfl, .inl hh⟩, fun id h k e mm hh => ⟨rfl, mm, hh⟩, fun id h k e mm hh => ⟨rfl, .inl hh⟩, fun id h k e c r hh => ⟨rfl, c, r, hh⟩, fun id _ g k e mm ho hh => ⟨rfl, g, mm, ho, hh, Nat.le_refl _, fun _ _ _ => by rw [h]⟩, fun id _ g ls hh => ⟨g, ls, hh, fun _ _ _ _ _ => cell_of_block (by rw [h]) _, fun _ hc => ⟨hc, fun _ _ => cell_of_block (by rw [h]) _⟩⟩⟩
structure EvoAt (m : Md) (H : Hp) (w : World) (m' : Md) (H' : Hp) (w' : World) (id : Nat) : Prop where
 ab : H' id ≠ .absent
 cells : ∀ g ls, H' id = .live (.cells g ls) → m'.hd id = m.hd id ∧ ∃ g0 ls0, H id = .live (.cells g0 ls0) ∧ g0 ≤ g ∧
  (g = g0 → ∀ (off : Nat) e xs, ls[off]? = some (.v (.vec e) xs) → ∃ xs0 : List e.den, ls0[off]? = some (.v (.vec e) xs0) ∧ xs0.length = xs.length ∧ ∀ b o, m.hd id = .pointer (some ⟨b, o, none⟩) → w'.cell? ⟨b, o + off, none⟩ = w.cell? ⟨b, o + off, none⟩)
 row : ∀ e xs, H' id = .live (.row e xs) → m'.hd id = m.hd id ∧ ∃ xs0, H id = .live (.row e xs0) ∧ xs0.length = xs.length
 frz : ∀ e xs, H' id = .frz e xs → m'.hd id = m.hd id ∧ (H id = .frz e xs ∨ ∃ xs0, H id = .live (.row e xs0))
 map : ∀ k e mm, H' id = .live (.mapo k e mm) → m'.hd id = m.hd id ∧ ∃ mm0, H id = .live (.mapo k e mm0)
 frzm : ∀ k e mm, H' id = .frzm k e mm → m'.hd id = m.hd id ∧ (H id = .frzm k e mm ∨ ∃ mm0, H id = .live (.mapo k e mm0))
 itr : ∀ k e cur r, H' id = .live (.iter k e cur r) → m'.hd id = m.hd id ∧ ∃ cur0 r0, H id = .live (.iter k e cur0 r0)
 mapb : ∀ g k e mm ho, H' id = .live (.mapb g k e mm ho) → m'.hd id = m.hd id ∧ ∃ g0 mm0 ho0, H id = .live (.mapb g0 k e mm0 ho0) ∧ g0 ≤ g ∧ (g = g0 → ∀ bm, m.hd id = .map (some bm) → w'.heap[bm]? = w.heap[bm]?)
 cst : ∀ g ls, H' id = .live (.cells g ls) → ∃ g0 ls0, H id = .live (.cells g0 ls0) ∧ (g = g0 → ∀ b o off, m.hd id = .pointer (some ⟨b, o, none⟩) → w'.cell? ⟨b, o + off, none⟩ = w.cell? ⟨b, o + off, none⟩) ∧
  ∀ off, ls[off]? = some .cst → ls0[off]? = some .cst ∧ ∀ b, m.hd id = .pointer (some ⟨b, 0, none⟩) → w'.cell? ⟨b, off, none⟩ = w.cell? ⟨b, off, none⟩
theorem EvoAt.dead {id : Nat} (h : H' id = .dead) : EvoAt m H w m' H' w' id :=
 ⟨by rw [h]; exact (fun hh => by cases hh), fun _ _ hh => by rw [h] at hh; (cases hh), fun _ _ hh => by rw [h] at hh; (cases hh), fun _ _ hh => by rw [h] at hh; (cases hh), fun _ _ _ hh => by rw [h] at hh; (cases hh), fun _ _ _ hh => by rw [h] at hh; (cases hh), fun _ _ _ _ hh => by rw [h] at hh; (cases hh), fun _ _ _ _ _ hh => by rw [h] at hh; (cases hh), fun _ _ hh => by rw [h] at hh; (cases hh)⟩
theorem EvoAt.row_ {id : Nat} {e : Ty} {xs xs0 : List e.den} (h0 : H id = .live (.row e xs0)) (h : H' id = .live (.row e xs)) (hl : xs0.length = xs.length) (hd : m'.hd id = m.hd id) : EvoAt m H w m' H' w' id :=
 ⟨by rw [h]; exact (fun hh => by cases hh), fun _ _ hh => by rw [h] at hh; (cases hh), fun _ _ hh => by rw [h] at hh; cases hh; exact ⟨hd, xs0, h0, hl⟩, fun _ _ hh => by rw [h] at hh; (cases hh), fun _ _ _ hh => by rw [h] at hh; (cases hh), fun _ _ _ hh => by rw [h] at hh; (cases hh), fun _ _ _ _ hh => by rw [h] at hh; (cases hh), fun _ _ _ _ _ hh => by rw [h] at hh; (cases hh), fun _ _ hh => by rw [h] at hh; (cases hh)⟩
theorem EvoAt.frz_ {id : Nat} {e : Ty} {xs : List e.den} (h0 : H id = .live (.row e xs) ∨ H id = .frz e xs) (h : H' id = .frz e xs) (hd : m'.hd id = m.hd id) : EvoAt m H w m' H' w' id :=
 ⟨by rw [h]; exact (fun hh => by cases hh), fun _ _ hh => by rw [h] at hh; (cases hh), fun _ _ hh => by rw [h] at hh; (cases hh), fun _ _ hh => by rw [h] at hh; cases hh; exact ⟨hd, h0.symm.imp_right fun h => ⟨_, h⟩⟩, fun _ _ _ hh => by rw [h] at hh; (cases hh), fun _ _ _ hh => by rw [h] at hh; (cases hh), fun _ _ _ _ hh => by rw [h] at hh; (cases hh), fun _ _ _ _ _ hh => by rw [h] at hh; (cases hh), fun _ _ hh => by rw [h] at hh; (cases hh)⟩
theorem EvoAt.map_ {id : Nat} {k e : Ty} {mm mm0 : List (k.den × e.den)} (h0 : H id = .live (.mapo k e mm0)) (h : H' id = .live (.mapo k e mm)) (hd : m'.hd id = m.hd id) : EvoAt m H w m' H' w' id :=
 ⟨by rw [h]; exact (fun hh => by cases hh), fun _ _ hh => by rw [h] at hh; (cases hh), fun _ _ hh => by rw [h] at hh; (cases hh), fun _ _ hh => by rw [h] at hh; (cases hh), fun _ _ _ hh => by rw [h] at hh; cases hh; exact ⟨hd, mm0, h0⟩, fun _ _ _ hh => by rw [h] at hh; (cases hh), fun _ _ _ _ hh => by rw [h] at hh; (cases hh), fun _ _ _ _ _ hh => by rw [h] at hh; (cases hh), fun _ _ hh => by rw [h] at hh; (cases hh)⟩
theorem EvoAt.cells_ {id g g0 : Nat} {ls ls0 : List LV} (h0 : H id = .live (.cells g0 ls0)) (h : H' id = .live (.cells g ls)) (hg : g0 < g) (hd : m'.hd id = m.hd id) (hc : ∀ off, ls[off]? = some .cst → ls0[off]? = some .cst ∧ ∀ b, m.hd id = .pointer (some ⟨b, 0, none⟩) → w'.cell? ⟨b, off, none⟩ = w.cell? ⟨b, off, none⟩) : EvoAt m H w m' H' w' id :=
 ⟨by rw [h]; exact (fun hh => by cases hh), fun _ _ hh => by rw [h] at hh; cases hh; exact ⟨hd, g0, ls0, h0, by omega, fun e => by omega⟩, fun _ _ hh => by rw [h] at hh; (cases hh), fun _ _ hh => by rw [h] at hh; (cases hh), fun _ _ _ hh => by rw [h] at hh; (cases hh), fun _ _ _ hh => by rw [h] at hh; (cases hh), fun _ _ _ _ hh => by rw [h] at hh; (cases hh), fun _ _ _ _ _ hh => by rw [h] at hh; (cases hh), fun _ _ hh => by rw [h] at hh; cases hh; exact ⟨g0, ls0, h0, fun e => by omega, hc⟩⟩
theorem EvoAt.frzm_ {id : Nat} {k e : Ty} {mm : List (k.den × e.den)} (h0 : H id = .live (.mapo k e mm) ∨ H id = .frzm k e mm) (h : H' id = .frzm k e mm) (hd : m'.hd id = m.hd id) : EvoAt m H w m' H' w' id :=
 ⟨by rw [h]; exact (fun hh => by cases hh), fun _ _ hh => by rw [h] at hh; (cases hh), fun _ _ hh => by rw [h] at hh; (cases hh), fun _ _ hh => by rw [h] at hh; (cases hh), fun _ _ _ hh => by rw [h] at hh; (cases hh), fun _ _ _ hh => by rw [h] at hh; cases hh; exact ⟨hd, h0.symm.imp_right fun h => ⟨_, h⟩⟩, fun _ _ _ _ hh => by rw [h] at hh; (cases hh), fun _ _ _ _ _ hh => by rw [h] at hh; (cases hh), fun _ _ hh => by rw [h] at hh; (cases hh)⟩
theorem EvoAt.itr_ {id : Nat} {k e : Ty} {c c0 : Option (k.den × e.den)} {r r0 : List (k.den × e.den)} (h0 : H id = .live (.iter k e c0 r0)) (h : H' id = .live (.iter k e c r)) (hd : m'.hd id = m.hd id) : EvoAt m H w m' H' w' id :=
 ⟨by rw [h]; exact (fun hh => by cases hh), fun _ _ hh => by rw [h] at hh; (cases hh), fun _ _ hh => by rw [h] at hh; (cases hh), fun _ _ hh => by rw [h] at hh; (cases hh), fun _ _ _ hh => by rw [h] at hh; (cases hh), fun _ _ _ hh => by rw [h] at hh; (cases hh), fun _ _ _ _ hh => by rw [h] at hh; cases hh; exact ⟨hd, c0, r0, h0⟩, fun _ _ _ _ _ hh => by rw [h] at hh; (cases hh), fun _ _ hh => by rw [h] at hh; (cases hh)⟩
theorem Evo.of_at (z : ∀ b, m.Z b → m'.Z b ∧ w'.heap[b]? = w.heap[b]?) (h : ∀ id, H id ≠ .absent → EvoAt m H w m' H' w' id) : Evo m H w m' H' w' :=
 ⟨z, fun id hh => (h id hh).ab, fun id hh => (h id hh).cells, fun id hh => (h id hh).row, fun id hh => (h id hh).frz, fun id hh => (h id hh).map, fun id hh => (h id hh).frzm, fun id hh => (h id hh).itr, fun id hh => (h id hh).mapb, fun id hh => (h id hh).cst⟩

def Blk (m : Md) (H : Hp) (ch : List Nat) (b : Nat) : Prop := ∃ id ∈ ch, (H id).Live ∧ b ∈ m.ft id

structure Change0 (B : Base) (m : Md) (H : Hp) (w : World) (ch : List Nat) (m' : Md) (H' : Hp) (w' : World) : Prop where
 os : w'.os = w.os
 tape : w'.tape = w.tape
 output : w'.output = w.output
 size : w.heap.size ≤ w'.heap.size
 un : ∀ id, id ∉ ch → H' id = H id ∧ m'.hd id = m.hd id ∧ m'.ft id = m.ft id
 blk : ∀ b, b < w.heap.size → ¬ Blk m H ch b → w'.heap[b]? = w.heap[b]?
 zs : ∀ b, m.Z b → m'.Z b
 zi : ∀ b, m'.Z b → m.Z b ∨ (Blk m H ch b ∧ b < w.heap.size) ∨ (w.heap.size ≤ b ∧ b < w'.heap.size)
 cr : ∀ id ∈ ch, CRep B m' w' id (H' id)
 ft : ∀ id ∈ ch, (H' id).Live → ∀ b ∈ m'.ft id, ¬ m'.Z b ∧ (Blk m H ch b ∨ (w.heap.size ≤ b ∧ b < w'.heap.size))
 nd : ∀ id ∈ ch, (H' id).Live → (m'.ft id).Nodup
 sp : ∀ i ∈ ch, ∀ j ∈ ch, i ≠ j → (H' i).Live → (H' j).Live → ∀ b ∈ m'.ft i, b ∉ m'.ft j
structure Change (B : Base) (m : Md) (H : Hp) (w : World) (ch : List Nat) (m' : Md) (H' : Hp) (w' : World) : Prop extends Change0 B m H w ch m' H' w' where
 at_ : ∀ id ∈ ch, H id ≠ .absent → EvoAt m H w m' H' w' id

variable {B : Base} {ch : List Nat}
theorem HOk.noBlk (h : HOk B m H w) {id : Nat} (hid : id ∉ ch) (hl : (H id).Live) {b : Nat} (hb : b ∈ m.ft id) : ¬ Blk m H ch b := fun ⟨j, hj, hjl, hjb⟩ =>
 h.sp id j (fun e => hid (e ▸ hj)) hl hjl b hb hjb
theorem CRep.frame {id : Nat} (hZ : ∀ b, m.Z b → w'.heap[b]? = w.heap[b]?) (hs : ∀ b, m.Z b → m'.Z b) (hd : m'.hd id = m.hd id) (hf : m'.ft id = m.ft id) : ∀ {c : Cell}, (c.Live → ∀ b ∈ m.ft id, w'.heap[b]? = w.heap[b]?) → CRep B m w id c → CRep B m' w' id c := by
 intro c hF h
 cases c with
 | absent => trivial
 | dead => trivial
 | frz e xs => show Rep _ _ _ _ _ _; rw [hd]; exact Rep.frame hZ hs (by simp) h
 | frzm k e mm => show Rep _ _ _ _ _ _; rw [hd]; exact Rep.frame hZ hs (by simp) h
 | live o =>
  replace hF := hF trivial
  show ORep _ _ _ _ _ _
  rw [hd, hf]
  replace h : ORep B m.Z w o (m.hd id) (m.ft id) := h
  cases o with
  | row e xs => exact Rep.frame hZ hs hF h
  | mapo k e mm => exact Rep.frame hZ hs hF h
  | mapb g k σ mm ho =>
   obtain ⟨b, ents, clock, F', h1, h2, h3, h4, h5⟩ := h
   refine ⟨b, ents, clock, F', h1, h2, by rw [hF b (by simp [h2])]; exact h3, h4, ?_⟩
   have kr : ∀ (x : k.den) (v : Value), KV m.Z w k x v → KV m'.Z w' k x v := fun x v ⟨kc, q1, q2⟩ => ⟨kc, q1, q2.frame hZ hs (by simp)⟩
   have tr : ∀ (x : k.den) (y : σ.den) (v : Value) (G : List Nat), TV m.Z w k σ x y v G → (∀ z ∈ G, z ∈ F') → TV m'.Z w' k σ x y v G := fun x y v G ⟨vc, q1, q2⟩ hG => ⟨vc, q1, q2.frame hZ hs (fun z hz => hF z (by rw [h2]; simp [hG z hz]))⟩
   cases ho with
   | none => exact RepMF.mono_F (G := F') kr tr (fun _ h => h) h5
   | some p => exact RepMH.mono_F (G := F') kr tr (fun _ h => h) h5
  | iter k e cur r =>
   obtain ⟨b, bm, es, cl, seen, h1, h2, h3, h4, h5, h6, h7, h8⟩ := h
   have fr : ∀ {τ : Ty} {x : τ.den} {c : List Value}, Rep m.Z w τ x c [] → Rep m'.Z w' τ x c [] := fun hh => hh.frame hZ hs (by simp)
   exact ⟨b, bm, es, cl, seen, h1, h2, by rw [hF b (by simp [h2])]; exact h3, hs _ h4, by rw [hZ _ h4]; exact h5, h6, h7.mono (fun _ _ hh => fr hh) (fun _ _ hh => fr hh), fun p hp => by
    obtain ⟨en, k1, k2, k3⟩ := h8 p hp
    exact ⟨en, k1, k2, k3.mono (fun _ _ hh => fr hh) (fun _ _ hh => fr hh)⟩⟩
  | cells g ls =>
   obtain ⟨b, el, cs, F', h1, h2, h3, h4⟩ := h
   refine ⟨b, el, cs, F', h1, h2, by rw [hF b (by simp [h2])]; exact h3, RepL.mono_F (G := F') (fun l c F hx hF' => ?_) (fun _ hb => hb) h4⟩
   obtain ⟨u, g1, g2⟩ := hx
   refine ⟨u, g1, ?_⟩
   cases l <;> first | exact g2 | exact Rep.frame hZ hs (fun b hb => hF b (by simp [h2, hF' b hb])) g2
  | rest e l1 l2 c1 c2 =>
   obtain ⟨F1, F2, h1, h2, h3⟩ := h
   exact ⟨F1, F2, h1, RepL.mono_F (G := F1) (fun x c F hx hF' => hx.frame hZ hs (fun b hb => hF b (by rw [h1]; simp [hF' b hb]))) (fun _ hb => hb) h2, RepL.mono_F (G := F2) (fun x c F hx hF' => hx.frame hZ hs (fun b hb => hF b (by rw [h1]; simp [hF' b hb]))) (fun _ hb => hb) h3⟩
theorem HOk.change0 (h : HOk B m H w) (c : Change0 B m H w ch m' H' w') : HOk B m' H' w' := by
 have hZ : ∀ b, m.Z b → w'.heap[b]? = w.heap[b]? := fun b hb => c.blk b (h.zl b hb) fun ⟨id, _, hl, hf⟩ => (h.nz id hl b hf).1 hb
 have hU : ∀ id, id ∉ ch → (H id).Live → ∀ b ∈ m.ft id, w'.heap[b]? = w.heap[b]? := fun id hid hl b hb => c.blk b (h.nz id hl b hb).2.1 (h.noBlk hid hl hb)
 refine ⟨fun b hb => ?_, fun b hb => c.zs b (h.zs b hb), fun b hb hlt => ?_, fun id => ?_, fun id hl => ?_, fun i j hij hi hj b hb => ?_, fun id hl b hb => ?_, ?_⟩
 ·rcases c.zi b hb with hh | hh | hh
  ·have := h.zl b hh; have := c.size; omega
  ·have := c.size; omega
  ·exact hh.2
 ·rcases c.zi b hb with hh | ⟨⟨id, _, hl, hf⟩, _⟩ | hh
  ·exact h.zi b hh hlt
  ·exact .inr ((h.nz id hl b hf).2.2 hlt)
  ·have := h.kp.size; omega
 ·by_cases hid : id ∈ ch
  ·exact c.cr id hid
  ·obtain ⟨e1, e2, e3⟩ := c.un id hid
   rw [e1]
   exact CRep.frame hZ c.zs e2 e3 (hU id hid) (h.cr id)
 ·by_cases hid : id ∈ ch
  ·exact c.nd id hid hl
  ·obtain ⟨e1, e2, e3⟩ := c.un id hid
   rw [e3]; rw [e1] at hl; exact h.nd id hl
 ·by_cases h1 : i ∈ ch <;> by_cases h2 : j ∈ ch
  ·exact c.sp i h1 j h2 hij hi hj b hb
  ·obtain ⟨e1, e2, e3⟩ := c.un j h2
   rw [e1] at hj; rw [e3]
   rcases (c.ft i h1 hi b hb).2 with hh | hh
   ·exact fun hbj => h.noBlk h2 hj hbj hh
   ·exact fun hbj => by have := (h.nz j hj b hbj).2.1; omega
  ·obtain ⟨e1, e2, e3⟩ := c.un i h1
   rw [e1] at hi; rw [e3] at hb
   intro hbj
   rcases (c.ft j h2 hj b hbj).2 with hh | hh
   ·exact h.noBlk h1 hi hb hh
   ·have := (h.nz i hi b hb).2.1; omega
  ·obtain ⟨e1, e2, e3⟩ := c.un i h1
   obtain ⟨e4, e5, e6⟩ := c.un j h2
   rw [e1] at hi; rw [e4] at hj; rw [e3] at hb; rw [e6]
   exact h.sp i j hij hi hj b hb
 ·by_cases hid : id ∈ ch
  ·obtain ⟨g1, g2⟩ := c.ft id hid hl b hb
   refine ⟨g1, ?_, fun hlt => ?_⟩
   ·rcases g2 with ⟨j, _, hjl, hjf⟩ | hh
    ·have := (h.nz j hjl b hjf).2.1; have := c.size; omega
    ·exact hh.2
   ·rcases g2 with ⟨j, _, hjl, hjf⟩ | hh
    ·exact (h.nz j hjl b hjf).2.2 hlt
    ·have := h.kp.size; omega
  ·obtain ⟨e1, e2, e3⟩ := c.un id hid
   rw [e1] at hl; rw [e3] at hb
   obtain ⟨g1, g2, g3⟩ := h.nz id hl b hb
   refine ⟨fun hz => ?_, by have := c.size; omega, g3⟩
   rcases c.zi b hz with hh | hh | hh
   ·exact g1 hh
   ·exact h.noBlk hid hl hb hh.1
   ·omega
 ·refine ⟨c.os.trans h.kp.os, c.tape.trans h.kp.tape, c.output.trans h.kp.output, Nat.le_trans h.kp.size c.size, fun b hb hF => ?_⟩
  have := h.kp.size
  rw [c.blk b (by omega) fun ⟨id, _, hl, hf⟩ => hF ((h.nz id hl b hf).2.2 hb)]
  exact h.kp.block b hb hF
theorem HOk.change (h : HOk B m H w) (c : Change B m H w ch m' H' w') : HOk B m' H' w' := h.change0 c.toChange0
theorem HOk.evo (h : HOk B m H w) (c : Change B m H w ch m' H' w') : Evo m H w m' H' w' := by
 have hZ : ∀ b, m.Z b → w'.heap[b]? = w.heap[b]? := fun b hb => c.blk b (h.zl b hb) fun ⟨id, _, hl, hf⟩ => (h.nz id hl b hf).1 hb
 refine Evo.of_at (fun b hb => ⟨c.zs b hb, hZ b hb⟩) fun id hab => ?_
 by_cases hid : id ∈ ch
 ·exact c.at_ id hid hab
 ·obtain ⟨e1, e2, e3⟩ := c.un id hid
  have cb : ∀ g ls b o, H' id = .live (.cells g ls) → m.hd id = .pointer (some ⟨b, o, none⟩) → w'.heap[b]? = w.heap[b]? := fun g ls b o hh hb => by
   have hl : H id = .live (.cells g ls) := by rw [← e1]; exact hh
   have hc := h.cr id
   rw [hl] at hc
   obtain ⟨b', el, cs, F', k1, k2, _⟩ := hc
   have : b = b' := by rw [hb] at k1; simp only [Value.pointer.injEq, Option.some.injEq, Addr.mk.injEq] at k1; exact k1.1
   subst this
   have hL : (H id).Live := by rw [hl]; trivial
   have hbf : b ∈ m.ft id := by rw [k2]; simp
   exact c.blk b (h.nz id hL b hbf).2.1 (h.noBlk hid hL hbf)
  refine ⟨by rw [e1]; exact hab, fun g ls hh => ⟨e2, g, ls, by rw [← e1]; exact hh, Nat.le_refl _, fun _ off e xs hx => ⟨xs, hx, rfl, fun b o hb => cell_of_block (cb g ls b o hh hb) _⟩⟩, fun e xs hh => ⟨e2, xs, by rw [← e1]; exact hh, rfl⟩, fun e xs hh => ⟨e2, .inl (by rw [← e1]; exact hh)⟩, fun k e mm hh => ⟨e2, mm, by rw [← e1]; exact hh⟩, fun k e mm hh => ⟨e2, .inl (by rw [← e1]; exact hh)⟩, fun k e c r hh => ⟨e2, c, r, by rw [← e1]; exact hh⟩, fun g k e mm ho hh => ⟨e2, g, mm, ho, by rw [← e1]; exact hh, Nat.le_refl _, fun _ bm hbm => ?_⟩, fun g ls hh => ⟨g, ls, by rw [← e1]; exact hh, fun _ b o off hb => cell_of_block (cb g ls b o hh hb) _, fun off hl => ⟨hl, fun b hb => cell_of_block (cb g ls b 0 hh hb) _⟩⟩⟩
  have hl : H id = .live (.mapb g k e mm ho) := by rw [← e1]; exact hh
  have hc := h.cr id
  rw [hl] at hc
  obtain ⟨b', ents, clock, F', k1, k2, _⟩ := hc
  rw [hbm] at k1; cases k1
  have hL : (H id).Live := by rw [hl]; trivial
  have hbf : bm ∈ m.ft id := by rw [k2]; simp
  exact c.blk bm (h.nz id hL bm hbf).2.1 (h.noBlk hid hL hbf)
end
end Go.Proofs.Ytodnfnnfjnnhmaa.A

-- YtodnfnnfjnnhmaaOps1
set_option linter.unusedVariables false
set_option linter.unusedSimpArgs false
namespace Go.Proofs.Ytodnfnnfjnnhmaa.A
open Go

def Tst.Can {α : Type} (Q : α → Prop) : Tst α → Prop
 | .ret a => Q a
 | .fail => False
 | .chk p _ t => p ∧ t.Can Q
 | .br b t e => (b = true ∧ t.Can Q) ∨ (b = false ∧ e.Can Q)
 | .opt o k => ∃ b, o = some b ∧ (k b).Can Q
theorem Tst.can_of_to {α R : Type} {K : α → Option R} {r : R} : ∀ {t : Tst α}, t.to K = some r → t.Can (fun a => K a = some r)
 | .ret a, h => h
 | .fail, h => by cases h
 | .chk p d t, h => by
  unfold Tst.to at h
  by_cases hp : p
  ·rw [if_pos hp] at h; exact ⟨hp, can_of_to h⟩
  ·rw [if_neg hp] at h; cases h
 | .br b t e, h => by
  unfold Tst.to at h
  by_cases hp : b = true
  ·rw [if_pos hp] at h; exact .inl ⟨hp, can_of_to h⟩
  ·rw [if_neg hp] at h; exact .inr ⟨by simpa using hp, can_of_to h⟩
 | .opt o k, h => by
  unfold Tst.to at h
  cases o with
  | none => cases h
  | some b => exact ⟨b, rfl, can_of_to h⟩
theorem Tst.can_bind {α β : Type} {f : α → Tst β} {Q : β → Prop} : ∀ {t : Tst α}, (t.bind f).Can Q → t.Can (fun a => (f a).Can Q)
 | .ret a, h => h
 | .fail, h => h
 | .chk p d t, h => ⟨h.1, can_bind h.2⟩
 | .br b t e, h => h.imp (fun h => ⟨h.1, can_bind h.2⟩) (fun h => ⟨h.1, can_bind h.2⟩)
 | .opt o k, ⟨b, h1, h2⟩ => ⟨b, h1, can_bind h2⟩
theorem Tst.Can.mono {α : Type} {Q Q' : α → Prop} (hq : ∀ a, Q a → Q' a) : ∀ {t : Tst α}, t.Can Q → t.Can Q'
 | .ret a, h => hq a h
 | .fail, h => h
 | .chk p d t, h => ⟨h.1, Tst.Can.mono hq h.2⟩
 | .br b t e, h => h.imp (fun h => ⟨h.1, Tst.Can.mono hq h.2⟩) (fun h => ⟨h.1, Tst.Can.mono hq h.2⟩)
 | .opt o k, ⟨b, h1, h2⟩ => ⟨b, h1, Tst.Can.mono hq h2⟩

def ZRep : LV → Value → Prop
 | .v .bool b, c => c = .bool b
 | .v (.int k) n, c => c = .int k n ∧ k.min ≤ n ∧ n ≤ k.max
 | .v .str l, c => c = .string ⟨⟨l⟩⟩ ∧ l.length ≤ big
 | .nils, c => c = .slice none 0 0
 | .nilm, c => c = .map none
 | .nilp, c => c = .pointer none
 | .junk, _ => True
 | _, _ => False
def plainDesc : TypeDesc → Bool
 | .struct _ => false
 | .array _ _ => false
 | _ => true
def descFits (i : TI) (d : TypeDesc) : Prop :=
 match i.ty with
 | .int k => d = .int k
 | .bool => d = .bool
 | .str => d = .string
 | .sl _ => d = .slice i.elem
 | .map _ _ => d = .map i.key i.elem
 | .ptr _ => ∃ e, d = .pointer e
 | _ => True
def oneFits (P : Program) (t : Nat) : Ty → Prop
 | .int k => P.underlying t = some (.int k)
 | .bool => P.underlying t = some .bool
 | .str => P.underlying t = some .string
 | _ => False
def EqF (P : Program) : Nat → List Go.Field → Ty → Prop
 | _, [], _ => False
 | off, [f], τ => f.name ≠ "_" ∧ f.offset = off ∧ oneFits P f.type τ
 | off, f :: fs, .pair a b => f.name ≠ "_" ∧ f.offset = off ∧ oneFits P f.type a ∧ EqF P (off + 1) fs b
 | _, _, _ => False
structure TyOk (P : Program) (t : Nat) (i : TI) : Prop where
 info : ∃ inf z, P.info? t = some inf ∧ inf.size = i.ty.cells ∧ inf.bytes = i.bytes ∧ inf.zero = some z ∧ IsV i.agg z.cells.toList z ∧ All2 ZRep i.zero z.cells.toList
 one : i.agg = false → i.ty.one = true
 zl : i.zero.length = i.ty.cells
 bytes : i.bytes ≤ 4096
 plc : i.agg = true → i.fields.isEmpty = false → ∃ (fs : Array Go.Field) (places : List (Nat × Nat)), P.underlying t = some (.struct fs) ∧ fs.toList.mapM (fun f => (P.info? f.type).map fun i => (f.offset, i.size)) = some places
 eqf : i.agg = true → i.ty.eqB = true → i.fields.isEmpty = false → ∃ fs : Array Go.Field, P.underlying t = some (.struct fs) ∧ EqF P 0 fs.toList i.ty
 eqg : i.agg = true → i.ty.eqB = true → i.fields.isEmpty = false → P.eqGuardType P.depth t = false
 und : match i.agg with
  | true => (i.fields = [] ∧ P.underlying t = some (.array i.ty.cells i.elem)) ∨ ∃ fs : Array Go.Field, (i.fields = [] → i.ty.cells = 0) ∧ P.underlying t = some (.struct fs) ∧ P.stoodInHeld t = false ∧ (∀ (f o ft : Nat), i.fields[f]? = some (o, ft) → ∃ fd : Go.Field, fs[f]? = some fd ∧ fd.offset = o ∧ fd.type = ft) ∧ fs.size = i.fields.length
  | false => ∃ d, P.underlying t = some d ∧ plainDesc d = true ∧ descFits i d
def TabOk (P : Program) (tab : Nat → Option TI) : Prop := ∀ t i, tab t = some i → TyOk P t i

theorem ZRep.l {m : Md} {w : World} {H : Hp} {l : LV} {c : Value} (h : ZRep l c) : LRep m w H l c := by
 cases l with
 | v τ x => cases τ <;> first | exact h.elim | (simp only [ZRep] at h; first | exact ⟨by rw [h], rfl⟩ | exact ⟨by rw [h.1], rfl, h.2⟩)
 | nils => exact h
 | nilm => exact h
 | nilp => exact h
 | junk => trivial
 | _ => exact h.elim
theorem ZRep.o {Z : Nat → Prop} {w : World} {l : LV} {c : Value} (h : ZRep l c) : OL Z w l c [] := by
 cases l with
 | v τ x => cases τ <;> first | exact h.elim | (simp only [ZRep] at h; first | exact ⟨by rw [h], rfl⟩ | exact ⟨by rw [h.1], rfl, h.2⟩)
 | nils => exact ⟨h, rfl⟩
 | nilm => exact ⟨h, rfl⟩
 | nilp => exact ⟨h, rfl⟩
 | junk => rfl
 | _ => exact h.elim

def OpOk (P : Program) (o : Oper) (a : Act) (w : World) (Post : Value → World → Prop) : Prop :=
 match (execOp a.eval o).run P w with
 | .ok (.value v) w' => Post v w'
 | .ok .skip w' => Post undef w'
 | .ok (.enter f args) w' => Calls P f args w' fun e w'' => ∃ v, e = .returned v ∧ Post v w''
 | _ => False
theorem OpOk.wp {P : Program} {o : Oper} {a : Act} {w : World} {Post : Value → World → Prop} {N : Act → World → Prop} {Q : Exit → Act → World → Prop} (h : OpOk P o a w Post)
 (k : ∀ v w', Post v w' → N (a.put o.dst v) w') : o.wp P a w N Q := by
 unfold OpOk at h
 unfold Oper.wp Oper.upon
 split at h
 ·rename_i v w' hr; rw [hr]; exact k _ _ h
 ·rename_i w' hr; rw [hr]; exact k _ _ h
 ·rename_i f args w' hr
  rw [hr]
  exact h.mono fun e w'' ⟨v, he, hp⟩ => by subst he; exact k _ _ hp
 ·exact h.elim
theorem OpOk.value {P : Program} {o : Oper} {a : Act} {w w' : World} {v : Value} {Post : Value → World → Prop} (h : (execOp a.eval o).run P w = .ok (.value v) w') (hp : Post v w') : OpOk P o a w Post := by
 unfold OpOk; rw [h]; exact hp
theorem OpOk.skip {P : Program} {o : Oper} {a : Act} {w w' : World} {Post : Value → World → Prop} (h : (execOp a.eval o).run P w = .ok .skip w') (hp : Post undef w') : OpOk P o a w Post := by
 unfold OpOk; rw [h]; exact hp

def After (B : Base) (m : Md) (H : Hp) (w : World) (v : AV) (ups : List (Nat × Cell)) (v' : Value) (w' : World) : Prop :=
 ∃ m', HOk B m' (putH H ups) w' ∧ Evo m H w m' (putH H ups) w' ∧ AVRep m' w' (putH H ups) v v'
theorem After.same {B : Base} {m : Md} {H : Hp} {w : World} {v : AV} {v' : Value} (h : HOk B m H w) (hv : AVRep m w H v v') : After B m H w v [] v' w := ⟨m, h, Evo.refl, hv⟩

def WayOk (P : Program) (B : Base) (m : Md) (H : Hp) (w : World) (o : Oper) (a : Act) (W : Way) : Prop :=
 ∀ Q : AV × List (Nat × Cell) → Prop, (W.run (only H (W.rd ++ W.wr))).Can Q → ∃ v ups, Q (v, ups) ∧ OpOk P o a w (After B m H w v ups)

section
variable {P : Program} {B : Base} {m : Md} {H : Hp} {w : World} {o : Oper} {a : Act} {E : Env} {tab : Nat → Option TI}
theorem WayOk.fail : WayOk P B m H w o a Way.fail := fun Q h => h.elim
theorem WayOk.val {v : AV} {v' : Value} (hh : HOk B m H w) (h : (execOp a.eval o).run P w = .ok (.value v') w) (hv : AVRep m w H v v') : WayOk P B m H w o a (Way.val v) :=
 fun Q hQ => ⟨v, [], hQ, OpOk.value h (After.same hh hv)⟩
theorem WayOk.one {l : LV} {v' : Value} (hh : HOk B m H w) (h : (execOp a.eval o).run P w = .ok (.value v') w) (hv : LRep m w H l v') : WayOk P B m H w o a (Way.one l) :=
 WayOk.val hh h ⟨[v'], rfl, hv, trivial⟩

theorem only_eq {l : List Nat} {id : Nat} (h : memN id l = true) : only H l id = H id := by unfold only; rw [h]
theorem only_live {l : List Nat} {id : Nat} {c : Cell} (h : only H l id = c) (hc : c ≠ .absent) : H id = c := by
 unfold only at h
 split at h
 ·exact h
 ·exact absurd h.symm hc
theorem memN_iff {n : Nat} : ∀ {l : List Nat}, memN n l = true ↔ n ∈ l
 | [] => by simp [memN]
 | m :: l => by
  unfold memN
  by_cases h : n = m
  ·subst h; simp
  ·have : Nat.beq n m = false := by rw [← Bool.not_eq_true]; exact fun hh => h (Nat.eq_of_beq_eq_true hh)
   rw [this]; simp [memN_iff, h]

theorem const1_ok {v : Value} (hv : ∀ k n, v = .int k n → k.min ≤ n ∧ n ≤ k.max) (hs : ∀ s, v = .string s → s.size ≤ big) : LRep m w H (ofConst1 v) v := by
 unfold ofConst1
 split
 ·exact ⟨rfl, rfl⟩
 ·exact ⟨rfl, rfl, hv _ _ rfl⟩
 ·rename_i s
  refine ⟨rfl, rfl, ?_⟩
  have := hs s rfl
  exact this
 ·rfl
 ·rfl
 ·rfl
 ·trivial
def constOkB1 : Value → Bool
 | .int k n => decide (k.min ≤ n) && decide (n ≤ k.max)
 | .string s => decide (s.size ≤ big)
 | _ => true
def constOkB : Value → Bool
 | .agg cs => cs.toList.all constOkB1
 | v => constOkB1 v
theorem const1_okB {v : Value} (h : constOkB1 v = true) : LRep m w H (ofConst1 v) v := by
 refine const1_ok (fun k n e => ?_) (fun s e => ?_)
 ·subst e; simpa [constOkB1] using h
 ·subst e; simpa [constOkB1] using h
theorem all2_map {α β γ : Type} {R : β → γ → Prop} (f : α → β) (g : α → γ) : ∀ {l : List α}, (∀ x ∈ l, R (f x) (g x)) → All2 R (l.map f) (l.map g)
 | [], _ => trivial
 | x :: l, h => ⟨h x (by simp), all2_map f g (fun y hy => h y (by simp [hy]))⟩
theorem const_ok {v : Value} (h : constOkB v = true) : AVRep m w H (ofConst v) v := by
 cases v with
 | agg cs =>
  refine ⟨cs.toList, by simp [IsV], ?_⟩
  have := all2_map (R := LRep m w H) ofConst1 id (l := cs.toList) (fun x hx => const1_okB (by simp only [constOkB] at h; exact List.all_eq_true.1 h x hx))
  simpa using this
 | tuple _ => trivial
 | _ => exact ⟨[_], rfl, const1_okB h, trivial⟩
def opndOkB : Operand → Bool
 | .const v => constOkB v
 | _ => true
theorem evalO_ok (s : St B m E H a w) {x : Operand} (hx : opndOkB x = true) : AVRep m w H (evalO E x) (a.eval x) := by
 cases x with
 | tmp t => exact s.t t
 | const v => exact const_ok hx
 | global g => trivial
 | func f => exact ⟨[_], rfl, ⟨rfl, rfl⟩, trivial⟩

theorem AVRep.one {l : LV} {v : Value} (h : AVRep m w H (.val false [l]) v) : LRep m w H l v := by
 obtain ⟨cs, h1, h2⟩ := h
 simp only [IsV] at h1
 subst h1
 exact h2.1
theorem AVRep.agg {ls : List LV} {v : Value} (h : AVRep m w H (.val true ls) v) : ∃ cs, v = .agg cs.toArray ∧ All2 (LRep m w H) ls cs := h
theorem LRep.int {k : IntKind} {n : Int} {v : Value} (h : LRep m w H (.v (.int k) n) v) : v = .int k n ∧ k.min ≤ n ∧ n ≤ k.max := by
 obtain ⟨h1, h2, h3⟩ := h
 exact ⟨by simpa using h1, h3⟩
theorem LRep.str {l : List UInt8} {v : Value} (h : LRep m w H (.v .str l) v) : v = .string ⟨⟨l⟩⟩ ∧ l.length ≤ big := by
 obtain ⟨h1, h2, h3⟩ := h
 exact ⟨by simpa using h1, h3⟩
theorem LRep.bool {b : Bool} {v : Value} (h : LRep m w H (.v .bool b) v) : v = .bool b := by
 obtain ⟨h1, h2⟩ := h
 simpa using h1
theorem AV.int_ok {x : AV} {n : Int} {v : Value} (hx : x.int = some n) (h : AVRep m w H x v) : ∃ k, v = .int k n ∧ k.min ≤ n ∧ n ≤ k.max := by
 unfold AV.int at hx
 split at hx
 ·cases hx
  exact ⟨_, h.one.int⟩
 ·cases hx

theorem wrap_min (k : IntKind) (n : Int) : k.min ≤ k.wrap n ∧ k.wrap n ≤ k.max := by
 cases k <;> simp [IntKind.min, IntKind.max, IntKind.wrap, IntKind.bits, IntKind.signed] <;> (try split) <;> omega
end
end Go.Proofs.Ytodnfnnfjnnhmaa.A
