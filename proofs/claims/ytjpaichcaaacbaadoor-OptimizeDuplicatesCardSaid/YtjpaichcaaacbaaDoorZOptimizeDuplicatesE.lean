/- Part E of: The statement OptimizeDuplicates: the law answers true whatever its arguments; no condition. -/
import Derived.Test.YtjpaichcaaacbaaDoorZOptimizeDuplicatesD
import Derived.Tactics
import Derived.Calls
import Derived.LoopN
import Derived.StillTail
import Derived.Deep.Quiet
section
namespace Go.Proofs.YtjpaichcaaacbaaDoor.HL
open Go
abbrev HH := Nat → Option Obj
def upd (H : HH) (b : Nat) (o : Obj) : HH := fun k => if k = b then some o else H k
def Sat (H : HH) (W : World) : Prop := ∀ b o, H b = some o → W.heap[b]? = some o
/-- From W (of which H is known) to W' (of which H' is known): nothing below base, and nothing that is not known, has turned. -/
structure To (base : Nat) (H : HH) (W : World) (H' : HH) (W' : World) : Prop where
  os : W'.os = W.os
  tape : W'.tape = W.tape
  output : W'.output = W.output
  size : W.heap.size ≤ W'.heap.size
  block : ∀ k, k < W.heap.size → (k < base ∨ H k = none) → W'.heap[k]? = W.heap[k]?
  sat : Sat H' W'
  dom : ∀ k, k < W.heap.size → H k = none → H' k = none
theorem To.refl {base : Nat} {H : HH} {W : World} (h : Sat H W) : To base H W H W := ⟨rfl, rfl, rfl, Nat.le_refl _, fun _ _ _ => rfl, h, fun _ _ h => h⟩
theorem To.trans {base : Nat} {H H1 H2 : HH} {W W1 W2 : World} (h : To base H W H1 W1) (k : To base H1 W1 H2 W2) : To base H W H2 W2 :=
  ⟨k.os.trans h.os, k.tape.trans h.tape, k.output.trans h.output, Nat.le_trans h.size k.size,
   fun b hb hn => (k.block b (Nat.lt_of_lt_of_le hb h.size) (hn.imp id (h.dom b hb))).trans (h.block b hb hn), k.sat,
   fun b hb hn => k.dom b (Nat.lt_of_lt_of_le hb h.size) (h.dom b hb hn)⟩
theorem To.drew {base : Nat} {H : HH} {W : World} (h : Sat H W) : To base H W H { W with drawn := W.drawn + 1 } := ⟨rfl, rfl, rfl, Nat.le_refl _, fun _ _ _ => rfl, h, fun _ _ h => h⟩
/-- Less is known. -/
theorem To.less {base : Nat} {H H1 H2 : HH} {W W1 : World} (h : To base H W H1 W1) (hl : ∀ b o, H2 b = some o → H1 b = some o) : To base H W H2 W1 :=
  ⟨h.os, h.tape, h.output, h.size, h.block, fun b o hb => h.sat b o (hl b o hb), fun k hk hn => by
    cases hh : H2 k with
    | none => rfl
    | some o => have := hl k o hh; rw [h.dom k hk hn] at this; cases this⟩
section
variable (P : Program) (base : Nat)
def HRun {α : Type} (s : Sem α) (H : HH) (K : α → HH → Prop) : Prop := ∀ W, Sat H W → base ≤ W.heap.size → ∃ v W' H', s.run P W = .ok v W' ∧ K v H' ∧ To base H W H' W'
def AQ {α : Type} (s : Sem α) (v : α) : Prop := ∀ W, s.run P W = .ok v W
def QRun {α : Type} (s : Sem α) (H : HH) (v : α) : Prop := ∀ W, Sat H W → s.run P W = .ok v W
structure HCall (f : FuncId) (args : Array Value) (H : HH) (K : Value → HH → Prop) : Prop where
  enter : ∀ W, (callFunc f args).run P W = .ok (.enter f args) W
  run : ∀ W, Sat H W → base ≤ W.heap.size → Calls P f args W (fun e W' => ∃ v H', e = .returned v ∧ K v H' ∧ To base H W H' W')
end
inductive Lf | int (k : IntKind) | bool | slice | ptr | map | str | fn | any
def exL : Lf → (Value → Prop) → Prop
  | .int k, C => ∃ n : Int, C (.int k n)
  | .bool, C => ∃ b : Bool, C (.bool b)
  | .slice, C => ∃ (A : Option Addr) (n c : Nat), C (.slice A n c)
  | .ptr, C => ∃ a : Addr, C (.pointer (some a))
  | .map, C => ∃ r : Option Nat, C (.map r)
  | .str, C => ∃ s : ByteArray, C (.string s)
  | .fn, C => ∃ f : FuncId, C (.func (.func f) #[] #[])
  | .any, C => ∃ v, C v
def exLs : List Lf → (List Value → Prop) → Prop
  | [], C => C []
  | l :: ls, C => exL l fun v => exLs ls fun vs => C (v :: vs)
inductive K1 | leaf (l : Lf) | agg (ls : List Lf)
def exK1 : K1 → (Value → Prop) → Prop
  | .leaf l, C => exL l C
  | .agg ls, C => exLs ls fun vs => C (.agg vs.toArray)
def exKs : List K1 → (List Value → Prop) → Prop
  | [], C => C []
  | l :: ls, C => exK1 l fun v => exKs ls fun vs => C (v :: vs)
inductive Kn | one (k : K1) | tup (ks : List K1)
def exV : Kn → (Value → Prop) → Prop
  | .one k, C => exK1 k C
  | .tup ks, C => exKs ks fun vs => C (.tuple vs.toArray)
def typed (k : Kn) (v : Value) (K : Value → Prop) : Prop := exV k fun u => v = u ∧ K u
theorem exL_use : ∀ {l : Lf} {C : Value → Prop}, exL l C → ∃ u, C u
  | .int _, _, ⟨_, h⟩ => ⟨_, h⟩
  | .bool, _, ⟨_, h⟩ => ⟨_, h⟩
  | .slice, _, ⟨_, _, _, h⟩ => ⟨_, h⟩
  | .ptr, _, ⟨_, h⟩ => ⟨_, h⟩
  | .map, _, ⟨_, h⟩ => ⟨_, h⟩
  | .str, _, ⟨_, h⟩ => ⟨_, h⟩
  | .fn, _, ⟨_, h⟩ => ⟨_, h⟩
  | .any, _, ⟨_, h⟩ => ⟨_, h⟩
theorem exLs_use : ∀ {ls : List Lf} {C : List Value → Prop}, exLs ls C → ∃ u, C u
  | [], _, h => ⟨_, h⟩
  | _ :: _, _, h => let ⟨_, h1⟩ := exL_use h; let ⟨_, h2⟩ := exLs_use h1; ⟨_, h2⟩
theorem exK1_use {k : K1} {C : Value → Prop} (h : exK1 k C) : ∃ u, C u := by
  cases k with
  | leaf l => exact exL_use h
  | agg ls => obtain ⟨_, h⟩ := exLs_use h; exact ⟨_, h⟩
theorem exKs_use : ∀ {ls : List K1} {C : List Value → Prop}, exKs ls C → ∃ u, C u
  | [], _, h => ⟨_, h⟩
  | _ :: _, _, h => let ⟨_, h1⟩ := exK1_use h; let ⟨_, h2⟩ := exKs_use h1; ⟨_, h2⟩
theorem exV_use {k : Kn} {C : Value → Prop} (h : exV k C) : ∃ u, C u := by
  cases k with
  | one l => exact exK1_use h
  | tup ls => obtain ⟨_, h⟩ := exKs_use h; exact ⟨_, h⟩
theorem typed_use {k : Kn} {v : Value} {K : Value → Prop} (h : typed k v K) : K v := by
  obtain ⟨u, rfl, h⟩ := exV_use h
  exact h
def leaf1 (P : Program) (t : TypeId) : Lf :=
  match P.underlying t with
  | some (.int k) => .int k
  | some .bool => .bool
  | some (.slice _) => .slice
  | some (.pointer _) => .ptr
  | some (.map _ _) => .map
  | some .string => .str
  | some (.func _ _ _) => .fn
  | _ => .any
def leaves (P : Program) : Nat → TypeId → List Lf
  | 0, t => [leaf1 P t]
  | n + 1, t =>
    match P.underlying t with
    | some (.struct fs) => fs.toList.flatMap fun f => leaves P n f.type
    | some (.array k e) => (List.replicate k (leaves P n e)).flatten
    | _ => [leaf1 P t]
def k1Of (P : Program) (t : TypeId) : K1 :=
  match P.underlying t with
  | some (.struct _) | some (.array _ _) => .agg (leaves P 8 t)
  | _ => .leaf (leaf1 P t)
def knOf (P : Program) (t : TypeId) : Kn :=
  match P.underlying t with
  | some (.tuple ts) => .tup (ts.toList.map (k1Of P))
  | _ => .one (k1Of P t)
/-- A frame of n slots: a function. -/
abbrev Fr := Nat → Value
def evF (n : Nat) (fr : Fr) : Operand → Value
  | .tmp t => bif Nat.blt t n then fr t else undef
  | .const v => v
  | .global g => .pointer (some ⟨g, 0, none⟩)
  | .func f => .func (.func f) #[] #[]
def put1 (fr : Fr) (d : Nat) (v : Value) : Fr := fun k => bif Nat.beq k d then v else fr k
def put (fr : Fr) : Option Tmp → Value → Fr
  | some d, v => put1 fr d v
  | none, _ => fr
def ofL (l : List Value) : Fr := fun k => l.getD k undef
/-- The slots from k on, m of them. -/
def toL (fr : Fr) : Nat → Nat → List Value
  | _, 0 => []
  | k, m + 1 => fr k :: toL fr (k + 1) m
/-- The same as Array.map, by lists. -/
def mapA {α β : Type} (f : α → β) (ys : Array α) : Array β := (ys.toList.map f).toArray
theorem mapA_eq {α β : Type} (f : α → β) (ys : Array α) : mapA f ys = ys.map f := by apply Array.toList_inj.1; rw [Array.toList_map]; rfl
def pureBin : BinOp → Value → Value → Option Value
  | .add, .int k a, .int k' b => if k = k' then some (.int k (k.wrap (a + b))) else none
  | .sub, .int k a, .int k' b => if k = k' then some (.int k (k.wrap (a - b))) else none
  | .mul, .int k a, .int k' b => if k = k' then some (.int k (k.wrap (a * b))) else none
  | .eql, .int k a, .int k' b => if k = k' then some (.bool (a == b)) else none
  | .neq, .int k a, .int k' b => if k = k' then some (.bool (a != b)) else none
  | .lss, .int k a, .int k' b => if k = k' then some (.bool (decide (a < b))) else none
  | .leq, .int k a, .int k' b => if k = k' then some (.bool (decide (a ≤ b))) else none
  | .gtr, .int k a, .int k' b => if k = k' then some (.bool (decide (a > b))) else none
  | .geq, .int k a, .int k' b => if k = k' then some (.bool (decide (a ≥ b))) else none
  | _, _, _ => none
def binSem (op : BinOp) (t : TypeId) (x y : Operand) (u v : Value) : Sem Value := do eqGuard op t x y u v; binOp op t u v
/-- The value of an operation that needs no memory. -/
def pureOp (P : Program) (o : Oper) (ev : Operand → Value) : Option Value :=
  match o.op with
  | .move x | .assign x => some (ev x)
  | .binOp op _ x y _ => pureBin op (ev x) (ev y)
  | .unOp .not _ x => match ev x with | .bool b => some (.bool !b) | _ => none
  | .extract x i => match ev x with | .tuple vs => vs.toList[i]? | _ => none
  | .makeFunc fn first cap => some (.func fn (mapA ev first) (mapA ev cap))
  | .convert s d x => match P.underlying s, P.underlying d, ev x with
    | some (.int _), some (.int k), .int _ n => some (.int k (k.wrap n))
    | _, _, _ => none
  | .call c => match c.callee, c.args.toList, (c.argTypes[0]?).bind P.underlying with
    | .builtin .len, [x], some (.slice _) => match ev x with | .slice _ n _ => some (.int .i64 n) | _ => none
    | _, _, _ => none
  | _ => none
/-- An operation that makes a value out of others: by itself; by a look at memory; by an act on it. -/
inductive Cls | free | read | act
def semOp (P : Program) (o : Oper) (ev : Operand → Value) : Option (Sem Value × Kn × Cls) :=
  match o.op with
  | .alloc e => some (Instr.alloc e true (.tuple #[]), .one (.leaf .ptr), .act)
  | .box e x => some (Instr.box e (ev x), .one (.leaf .ptr), .act)
  | .build t parts => some (Instr.build t (mapA (fun x => (x.1, ev x.2)) parts), knOf P o.type, .free)
  | .buildSlice t n parts => some (Instr.buildSlice t n (mapA (fun x => (x.1, ev x.2)) parts), knOf P o.type, .act)
  | .load t x => some (Instr.loadAt t (ev x), knOf P t, .read)
  | .binOp op t x y _ => some (binSem op t x y (ev x) (ev y), knOf P o.type, .free)
  | .unOp op _ x => some (Op.unary op (ev x), knOf P o.type, .free)
  | .convert s d x => some (convert s d (ev x), knOf P o.type, .free)
  | .makeMap t r => some (Instr.makeMap t (r.map ev), .one (.leaf .map), .act)
  | .makeSlice t l c => some (Instr.makeSlice t (ev l) (ev c), .one (.leaf .slice), .act)
  | .slice t x lo hi mx => some (Instr.sliceAt t (ev x) (lo.map ev) (hi.map ev) (mx.map ev), knOf P o.type, .free)
  | .fieldAddr s x f => some (Instr.fieldAt s (ev x) f, .one (.leaf .ptr), .free)
  | .field t x f => some (Instr.field t (ev x) f, knOf P o.type, .free)
  | .indexAddr t x i => some (Instr.indexAt t (ev x) (ev i), .one (.leaf .ptr), .free)
  | .index t x i => some (Instr.index t (ev x) (ev i), knOf P o.type, .free)
  | .lookup t x i ok => some (Instr.lookup t (ev x) (ev i) ok, knOf P o.type, .read)
  | .call c => match c.callee with
    | .builtin .append => some (Builtin.append_ c.argTypes o.type (mapA ev c.args), .one (.leaf .slice), .act)
    | .builtin .copy => some (Builtin.copy_ c.argTypes o.type (mapA ev c.args), .one (.leaf (.int .i64)), .act)
    | .builtin .len => some (Builtin.len_ c.argTypes o.type (mapA ev c.args), .one (.leaf (.int .i64)), .read)
    | .builtin .max => some (Builtin.max_ c.argTypes o.type (mapA ev c.args), knOf P o.type, .free)
    | .builtin .min => some (Builtin.min_ c.argTypes o.type (mapA ev c.args), knOf P o.type, .free)
    | _ => none
  | _ => none
def doOp (o : Oper) (ev : Operand → Value) : Option (Sem Unit) :=
  match o.op with
  | .store t x y => some (Instr.storeAt t (ev x) (ev y))
  | .mapUpdate t m k x | .insert t m k x => some (Instr.mapUpdate t (ev m) (ev k) (ev x))
  | _ => none
def callOp (o : Oper) (ev : Operand → Value) : Option (FuncId × Array Value) :=
  match o.op with
  | .call c => match c.callee with
    | .value f => match ev f with
      | .func (.func g) first cap => some (g, (first.toList ++ c.args.toList.map ev ++ cap.toList).toArray)
      | _ => none
    | _ => none
  | _ => none
/-- nilCheck: a value that is surely none of the nil ones. -/
def nilOp (o : Oper) (ev : Operand → Value) : Option Value :=
  match o.op with
  | .nilCheck x => match ev x with
    | .pointer (some a) => some (.pointer (some a))
    | .func (.func g) first cap => some (.func (.func g) first cap)
    | _ => none
  | _ => none
/-- One of two values. -/
def pickOp (o : Oper) (ev : Operand → Value) : Option (Bool × Value × Value) :=
  match o.op with
  | .pick c a b => match ev c with | .bool t => some (t, ev a, ev b) | _ => none
  | _ => none
def opW (P : Program) (base : Nat) (o : Oper) (ev : Operand → Value) (H : HH) (K : Value → HH → Prop) : Prop :=
  match pureOp P o ev with
  | some v => K v H
  | none => match nilOp o ev with
  | some v => K v H
  | none => match pickOp o ev with
  | some (t, a, b) => if t = true then K a H else K b H
  | none => match semOp P o ev with
  | some (s, k, .free) => exV k fun u => AQ P s u ∧ K u H
  | some (s, k, .read) => exV k fun u => QRun P s H u ∧ K u H
  | some (s, k, .act) => HRun P base s H fun v H' => typed k v fun v => K v H'
  | none => match doOp o ev with
  | some s => HRun P base s H fun _ H' => K undef H'
  | none => match callOp o ev with
  | some (f, args) => HCall P base f args H fun v H' => typed (knOf P o.type) v fun v => K v H'
  | none => False
def guardW (n : Nat) (ops : Array Oper) (o : Oper) (fr : Fr) (yes no : Fr → Prop) : Prop :=
  match o.guard with
  | none => yes fr
  | some (j, want) => match (ops.toList[j]?).bind (·.dst) with
    | none => no fr
    | some t => match evF n fr (.tmp t) with
      | .bool b => if b = want then yes (put1 fr t (.bool want)) else no (put1 fr t (.bool !want))
      | _ => no fr
def listW (P : Program) (base n : Nat) (ops : Array Oper) (K : Fr → HH → Prop) : List Oper → Fr → HH → Prop
  | [], fr, H => K fr H
  | o :: rest, fr, H => guardW n ops o fr (fun fr => opW P base o (evF n fr) H fun v H' => listW P base n ops K rest (put fr o.dst v) H') (fun fr => listW P base n ops K rest (put fr o.dst undef) H)
def predsO (o : Oper) : List Nat := o.after.toList.filterMap fun e => bif Region.binds .any e then some e.on else none
def preds (ops : Array Oper) (i : Nat) : List Nat := match ops.toList[i]? with | some o => predsO o | none => []
def maskO (acc : List Nat) (o : Oper) : Nat := (predsO o).foldl (fun s j => s ||| (2 ^ j ||| acc.getD j 0)) 0
def masks : List Oper → List Nat → List Nat
  | [], acc => acc
  | o :: os, acc => masks os (acc ++ [maskO acc o])
def ancB (ms : List Nat) (j i : Nat) : Bool := (ms.getD j 0).testBit i
def msOf (ops : Array Oper) : List Nat := masks ops.toList []
def isAt : Option Tmp → Nat → Bool
  | some t, s => Nat.beq t s
  | none, _ => false
/-- The edges go back, and whoever writes what another looks at or writes comes ahead of it or behind it. -/
def orderB (ops : Array Oper) : Bool :=
  let n := ops.toList.length
  let ms := msOf ops
  Region.noSelect ops && (List.range n).all fun j => match ops.toList[j]? with
    | none => false
    | some oj => (predsO oj).all (fun k => Nat.blt k j) && (List.range n).all fun i => Nat.beq i j || match ops.toList[i]? with
      | none => false
      | some oi => match oi.dst with
        | none => true
        | some s => !((oj.looksAt ops).contains s || isAt oj.dst s) || ancB ms j i || ancB ms i j
def addP (i : Nat) : Option (HH → Prop) → List (Nat × (HH → Prop)) → List (Nat × (HH → Prop))
  | some c, l => (i, c) :: l
  | none, l => l
def allC : List (Nat × (HH → Prop)) → HH → Prop → Prop
  | [], _, X => X
  | p :: r, H, X => p.2 H ∧ allC r H X
def andL {α : Type} (f : α → Prop) : List α → Prop
  | [] => True
  | [x] => f x
  | x :: xs => f x ∧ andL f xs
/-- An operation that only looks, and what must stay true while it may come up later. -/
def opS (P : Program) (base : Nat) (o : Oper) (ev : Operand → Value) (H : HH) (K : Value → Option (HH → Prop) → Prop) : Prop :=
  match pureOp P o ev with
  | some v => K v none
  | none => match nilOp o ev with
  | some v => K v none
  | none => match pickOp o ev with
  | some (t, a, b) => if t = true then K a none else K b none
  | none => match semOp P o ev with
  | some (s, k, .free) => exV k fun u => AQ P s u ∧ K u none
  | some (s, k, .read) => exV k fun u => QRun P s H u ∧ K u (some fun H' => QRun P s H' u)
  | some (_, _, .act) => False
  | none => match callOp o ev with
  | some (f, args) => exV (knOf P o.type) fun u => HCall P base f args H (fun v H' => v = u ∧ H' = H) ∧ K u (some fun H1 => HCall P base f args H1 (fun v H' => v = u ∧ H' = H1))
  | none => False
def isReady (ops : Array Oper) (L : List Nat) (i : Nat) : Bool := !L.contains i && (preds ops i).all (fun k => L.contains k)
def nextF (ops : Array Oper) (E L : List Nat) : Option Nat := (List.range ops.toList.length).find? fun i => !E.contains i && isReady ops L i
def nextE (ops : Array Oper) (E L : List Nat) : List Nat := E.filter fun i => Nat.blt i ops.toList.length && isReady ops L i
def anyW (P : Program) (base n : Nat) (ops : Array Oper) (E : List Nat) (K : Fr → HH → Prop) : Nat → List Nat → List (Nat × (HH → Prop)) → Fr → HH → Prop
  | 0, _, _, _, _ => False
  | m + 1, L, pend, fr, H =>
    match nextF ops E L with
    | some i => match ops.toList[i]? with
      | none => False
      | some o => guardW n ops o fr (fun fr => opS P base o (evF n fr) H fun v c => anyW P base n ops E K m (i :: L) (addP i c pend) (put fr o.dst v) H) (fun fr => anyW P base n ops E K m (i :: L) pend (put fr o.dst undef) H)
    | none => match nextE ops E L with
      | [] => if (List.range ops.toList.length).all (fun i => L.contains i) then K fr H else False
      | e :: es => andL (fun i => match ops.toList[i]? with
        | none => False
        | some o => guardW n ops o fr (fun fr => opW P base o (evF n fr) H fun v H' => let pend' := pend.filter fun p => !ancB (msOf ops) i p.1
            allC pend' H' (anyW P base n ops E K m (i :: L) pend' (put fr o.dst v) H')) (fun fr => anyW P base n ops E K m (i :: L) pend (put fr o.dst undef) H)) (e :: es)
/-- ann: of the regions that draw their order, the operations that act. -/
def regionW (P : Program) (base n : Nat) (ann : Nat → List Nat) (id : Nat) (ops : Array Oper) (draw : Bool) (fr : Fr) (H : HH) (K : Fr → HH → Prop) : Prop :=
  if draw then
    if orderB ops then anyW P base n ops (ann id) K (ops.toList.length + 1) [] [] fr H else False
  else listW P base n ops K ops.toList fr H
abbrev QQ := Exit → Fr → HH → Prop
def thenQ (K : Fr → HH → Prop) (Q : QQ) : QQ
  | .normal, fr, H => K fr H
  | e, fr, H => Q e fr H
def blockQ (id : Nat) (Q : QQ) : QQ
  | .exit i, fr, H => if i = id then Q .normal fr H else Q (.exit i) fr H
  | e, fr, H => Q e fr H
def writes : Code → List Nat
  | .region _ ops _ => ops.toList.filterMap (·.dst)
  | .seq x y => writes x ++ writes y
  | .cond _ x y => writes x ++ writes y
  | .block _ c => writes c
  | .loop c => writes c
  | .scope c => writes c
  | _ => []
/-- The first region of a code. -/
def firstId : Code → Option Nat
  | .region id _ _ => some id
  | .seq x _ => firstId x
  | .cond _ x y => match firstId x with | some i => some i | none => firstId y
  | .block _ c => firstId c
  | .loop c => firstId c
  | _ => none
/-- What a proof says of a function's regions: what acts in those that draw; where a cut lies; the slots that matter at a cut, and at a loop's head. -/
structure Ann where
  acts : Nat → List Nat
  cut : Nat → Bool
  live : Nat → List Nat
def cutAt (an : Ann) (c : Code) : Bool := match firstId c with | some i => an.cut i | none => false
def liveAt (an : Ann) (c : Code) : List Nat := match firstId c with | some i => an.live i | none => []
def Agr (fr : Fr) : List Nat → List Value → Prop
  | i :: is, v :: vs => fr i = v ∧ Agr fr is vs
  | _, _ => True
def keep (n : Nat) (S : List Nat) (fr fr' : Fr) : Prop := ∀ s, s < n → s ∉ S → fr' s = fr s
def act (n : Nat) (fr : Fr) : Act := ⟨(toL fr 0 n).toArray, []⟩
def HCode (P : Program) (base n : Nat) (c : Code) (fr : Fr) (H : HH) (Q : QQ) : Prop :=
  ∀ W, Sat H W → base ≤ W.heap.size → c.wp P (fun e a' W' => ∃ fr' H', a' = act n fr' ∧ Q e fr' H' ∧ To base H W H' W' ∧ keep n (writes c) fr fr') (act n fr) W
/-- The same, with what matters of the frame alone. A structure, so that the kernel cannot unfold it. -/
structure HCodeL (P : Program) (base n : Nat) (c : Code) (ls : List Nat) (vs : List Value) (H : HH) (Q : QQ) : Prop where
  h : ∀ fr, Agr fr ls vs → HCode P base n c fr H Q
def wpC (P : Program) (base n : Nat) (ann : Ann) : Code → Fr → HH → QQ → Prop
  | .skip, fr, H, Q => Q .normal fr H
  | .region id ops draw, fr, H, Q => regionW P base n ann.acts id ops draw fr H (Q .normal)
  | .seq x y, fr, H, Q => wpC P base n ann x fr H (thenQ (fun fr H => bif cutAt ann y then HCodeL P base n y (liveAt ann y) ((liveAt ann y).map fr) H Q else wpC P base n ann y fr H Q) Q)
  | .cond c x y, fr, H, Q => match evF n fr c with
    | .bool b => if b = true then wpC P base n ann x fr H Q else wpC P base n ann y fr H Q
    | _ => False
  | .block id c, fr, H, Q => wpC P base n ann c fr H (blockQ id Q)
  | .loop c, fr, H, Q => HCodeL P base n (.loop c) (liveAt ann (.loop c)) ((liveAt ann (.loop c)).map fr) H Q
  | .exit id, fr, H, Q => Q (.exit id) fr H
  | .ret, fr, H, Q => Q .ret fr H
  | _, _, _, _ => False
def resW (P : Program) (n : Nat) (fn : Func) (fr : Fr) (H : HH) (K : Value → HH → Prop) : Prop :=
  match fn.results.toList with
  | [] => K (.tuple #[]) H
  | [.tmp t] => K (evF n fr (.tmp t)) H
  | [.tmp t, .tmp u] => K (.tuple #[evF n fr (.tmp t), evF n fr (.tmp u)]) H
  | [.tmp t, .tmp u, .tmp x] => K (.tuple #[evF n fr (.tmp t), evF n fr (.tmp u), evF n fr (.tmp x)]) H
  | [.tmp t, .tmp u, .tmp x, .tmp y] => K (.tuple #[evF n fr (.tmp t), evF n fr (.tmp u), evF n fr (.tmp x), evF n fr (.tmp y)]) H
  | _ => ∃ v, QRun P (results fn (toL fr 0 n).toArray) H v ∧ K v H
def retQ (P : Program) (n : Nat) (fn : Func) (K : Value → HH → Prop) : QQ
  | .normal, fr, H => resW P n fn fr H K
  | .ret, fr, H => resW P n fn fr H K
  | _, _, _ => False
def bodyOf (fn : Func) : Code := fn.body.getD .skip
end Go.Proofs.YtjpaichcaaacbaaDoor.HL
end
