/- An evaluator for the kernel, and that it agrees with the interpreter; no condition. -/
import Derived.Test.YtciabmckldfofaaGreatDoorAbC
set_option linter.unusedSimpArgs false
set_option linter.unusedVariables false
namespace Go.Ab
open Go

/-! an evaluator for the kernel: frames and heaps as trees, numbers worked out as they are laid -/
inductive Dlt where
  | no
  | al (cs : List PV)
  | wr (id : Nat) (b : Blk)
  | wa (id : Nat) (b : Blk) (cs : List PV)
  | am

inductive FT (α : Type) where
  | lf
  | nd (v : α) (l r : FT α)

noncomputable def FT.get {α : Type} (t : FT α) : Nat → Option α :=
  FT.rec (fun _ => .none) (fun v _ _ ihl ihr k => Bool.rec (Bool.rec (ihr (Nat.sub (Nat.div k 2) 1)) (ihl (Nat.div k 2)) (Nat.beq (Nat.mod k 2) 1)) (.some v) (Nat.beq k 0)) t
noncomputable def FT.put {α β : Type} (t : FT α) : Nat → α → (FT α → Option β) → Option β :=
  FT.rec (fun k v c => Bool.rec .none (c (.nd v .lf .lf)) (Nat.beq k 0))
    (fun a l r ihl ihr k v c => Bool.rec (Bool.rec (ihr (Nat.sub (Nat.div k 2) 1) v (fun r' => c (.nd a l r'))) (ihl (Nat.div k 2) v (fun l' => c (.nd a l' r))) (Nat.beq (Nat.mod k 2) 1)) (c (.nd v l r)) (Nat.beq k 0)) t
noncomputable def FT.fill (u : PV) (d : Nat) : FT PV := Nat.rec .lf (fun _ ih => .nd u ih ih) d

noncomputable def fcN {β : Type} (n : Nat) (c : Nat → β) : β := Nat.rec (c 0) (fun m _ => c (Nat.succ m)) n
noncomputable def fcI {β : Type} (n : Int) (c : Int → β) : β := Int.rec (fun n => fcN n fun n => c (Int.ofNat n)) (fun n => fcN n fun n => c (Int.negSucc n)) n
noncomputable def fcB {β : Type} (b : Bool) (c : Bool → β) : β := Bool.rec (c false) (c true) b
noncomputable def fcV {β : Type} (v : PV) (c : PV → β) : β :=
  match v with
  | .sc (.int k n) => fcI n fun n => c (.sc (.int k n))
  | .sc (.bool b) => fcB b fun b => c (.sc (.bool b))
  | .own id s off len x => fcN id fun id => fcN off fun off => fcN len fun len => fcB x fun x => c (.own id s off len x)
  | .ptr id off => fcN id fun id => fcN off fun off => c (.ptr id off)
  | .mp id => fcN id fun id => c (.mp id)
  | v => c v
noncomputable def fcL {β : Type} (l : List PV) : (List PV → β) → β :=
  List.rec (fun c => c []) (fun a _ ih c => fcV a fun a => ih fun l => c (a :: l)) l
noncomputable def fcW {β : Type} (l : List Nat) : (List Nat → β) → β :=
  List.rec (fun c => c []) (fun a _ ih c => fcN a fun a => ih fun l => c (a :: l)) l

def rdSlD (rd : Nat → Option Blk) (s : Nat) : PV → Option (Nat × List PV × List Nat)
  | .sc (.slice none 0 0) => some (0, [], [])
  | .imm len _ cs => if cs.length = len * s then some (len, cs, []) else none
  | .own id s' off len _ =>
    match rd id with
    | some ⟨st, cs⟩ =>
      if st = .dead ∨ s' ≠ s then none
      else match takeN? (dropN cs off) (len * s) with
        | some l => some (len, l, [id])
        | none => none
    | none => none
  | _ => none
def convD (T : Tab) (rd : Nat → Option Blk) (src dst : TypeId) (a : PV) : Option (PV × List Nat) :=
  match und T src, und T dst, a with
  | some _, some (.int k), .sc (.int _ n) => some (.sc (.int k (wrapK k n)), [])
  | some _, some .string, .sc (.string s) => some (.sc (.string s), [])
  | some .string, some (.slice e), .sc (.string s) =>
    match und T e with
    | some (.int .u8) => some (.imm (strL s).length false ((strL s).map fun b => PV.sc (.int .u8 b.toNat)), [])
    | _ => none
  | some (.slice e), some .string, x =>
    match und T e with
    | some (.int .u8) =>
      match rdSlD rd 1 x with
      | some (_, cs, ids) => match bytesOf? cs with
        | some l => some (PV.sc (.string (mkStr l)), ids)
        | none => none
      | none => none
    | _ => none
  | _, _, _ => none

def atAddrD (rd : Nat → Option Blk) : PV → Option (List PV × List Nat)
  | .ptr id off =>
    match rd id with
    | some ⟨st, cs⟩ => if st = .dead then none else some (dropN cs off, [id])
    | none => none
  | .iptr cs => some (cs, [])
  | _ => none

def sliceArrD (T : Tab) (rd : Nat → Option Blk) (n : Nat) (e : TypeId) (x : PV) (lo hi mx : Option PV) : Option PV :=
  match sizeT T e, bnd n lo hi mx with
  | some s, some (l, h, m) =>
    match x with
    | .ptr id off => match rd id with
      | some ⟨.live, cs⟩ => if off + n * s ≤ cs.length then some (.own id s (off + l * s) (h - l) (fullB true n h m)) else none
      | _ => none
    | .iptr cs => (takeN? (dropN cs (l * s)) ((h - l) * s)).map fun c => .imm (h - l) (fullB true n h m) c
    | _ => none
  | _, _ => none
def sliceD (T : Tab) (rd : Nat → Option Blk) (t : TypeId) (x : PV) (lo hi mx : Option PV) : Option PV :=
  match und T t with
  | some .string => match x with
    | .sc (.string s) => sliceStr s lo hi mx
    | _ => none
  | some (.slice e) => sliceSl T e x lo hi mx
  | some (.array n e) => sliceArrD T rd n e x lo hi mx
  | _ => none

def appendD (rd : Nat → Option Blk) (n0 : Nat) (s : Nat) (x : PV) (n : Nat) (new : List PV) : Option (PV × Dlt × FP) :=
  match x with
  | .sc (.slice none 0 0) =>
    if n = 0 then some (x, .no, FP.none)
    else if n ≤ maxLenA then some (.own n0 s 0 n false, .al new, ⟨[], [n0], true, false⟩) else none
  | .imm len true cs =>
    if n = 0 then some (x, .no, FP.none)
    else if len + n ≤ maxLenA ∧ cs.length = len * s then some (.own n0 s 0 (len + n) false, .al (cs ++ new), ⟨[], [n0], true, false⟩) else none
  | .own id s' off len true =>
    if s ≠ s' then none
    else if n = 0 then some (x, .no, FP.none)
    else match rd id with
      | some ⟨st, cs⟩ =>
        if st = .dead then none
        else match takeN? (dropN cs off) (len * s) with
          | some l => if len + n ≤ maxLenA then some (.own n0 s 0 (len + n) false, .al (l ++ new), ⟨[id], [n0], true, false⟩) else none
          | none => none
      | none => none
  | .own id s' off len false =>
    if s ≠ s' then none
    else match rd id with
      | some ⟨.live, cs⟩ =>
        match takeN? (dropN cs off) (len * s) with
        | some l => if len + n ≤ maxLenA then some (.own n0 s 0 (len + n) false, .wa id ⟨.dead, []⟩ (l ++ new), ⟨[], [id, n0], true, false⟩) else none
        | none => none
      | _ => none
  | _ => none


def mapOfD (rd : Nat → Option Blk) : PV → Option (List PV × List Nat)
  | .sc (.map none) => some ([], [])
  | .mp id => match rd id with
    | some ⟨.dead, .any :: kvs⟩ => some (kvs, [id])
    | _ => none
  | _ => none
def lookD (T : Tab) (rd : Nat → Option Blk) (t : TypeId) (m k : PV) (ok : Bool) : Option (PV × List Nat) :=
  match und T t, mapOfD rd m with
  | some (.map kt e), some (kvs, ids) => if keyOk T kt k then
      (match findP k kvs, zeroV T e with
      | some (some v), _ => some (if ok then .tup [v, .sc (.bool true)] else v, ids)
      | some none, some z => some (if ok then .tup [z, .sc (.bool false)] else z, ids)
      | _, _ => none) else none
  | _, _ => none
def updD (T : Tab) (rd : Nat → Option Blk) (t : TypeId) (m k x : PV) : Option (Blk × Nat) :=
  match und T t, m with
  | some (.map kt _), .mp id => if keyOk T kt k then
      (match rd id with
      | some ⟨.dead, .any :: kvs⟩ => match putKV k x kvs with
        | some l => some (⟨.dead, .any :: l⟩, id)
        | none => none
      | _ => none) else none
  | _, _ => none
def delD (T : Tab) (rd : Nat → Option Blk) (t : TypeId) (m k : PV) : Option (Blk × Nat) :=
  match und T t, m with
  | some (.map kt _), .mp id => if keyOk T kt k then
      (match rd id with
      | some ⟨.dead, .any :: kvs⟩ => match delKV k kvs with
        | some l => some (⟨.dead, .any :: l⟩, id)
        | none => none
      | _ => none) else none
  | _, _ => none
def lenD (T : Tab) (rd : Nat → Option Blk) (t : TypeId) (m : PV) : Option (PV × List Nat) :=
  match und T t, mapOfD rd m with
  | some (.map _ _), some (kvs, ids) => some (.sc (.int .i64 (halfL kvs : Nat)), ids)
  | _, _ => none

/-! the operations, each one its own text, so that the kernel lays out no more than it wants -/
abbrev Rv := Option (PV × Dlt × FP)
abbrev StepT := Program → Tab → (Operand → PV) → (Nat → Option Blk) → Nat → Rv
def okV (x : Option PV) : Rv := match x with | some x => some (x, .no, FP.none) | none => none
def hiN : IntKind → Nat
  | .i8 => 127 | .i16 => 32767 | .i32 => 2147483647 | .i64 => 9223372036854775807
  | .u8 => 255 | .u16 => 65535 | .u32 => 4294967295 | .u64 => 18446744073709551615
def fAdd (k : IntKind) (a b : Nat) : Option Value := bif Nat.ble (Nat.add a b) (hiN k) then some (.int k (Int.ofNat (Nat.add a b))) else binI .add k (Int.ofNat a) (Int.ofNat b)
def fSub (k : IntKind) (a b : Nat) : Option Value := bif Nat.ble b a && Nat.ble (Nat.sub a b) (hiN k) then some (.int k (Int.ofNat (Nat.sub a b))) else binI .sub k (Int.ofNat a) (Int.ofNat b)
def fMul (k : IntKind) (a b : Nat) : Option Value := bif Nat.ble (Nat.mul a b) (hiN k) then some (.int k (Int.ofNat (Nat.mul a b))) else binI .mul k (Int.ofNat a) (Int.ofNat b)
def fQuo (k : IntKind) (a b : Nat) : Option Value := bif Nat.beq b 0 then none else bif Nat.ble (Nat.div a b) (hiN k) then some (.int k (Int.ofNat (Nat.div a b))) else binI .quo k (Int.ofNat a) (Int.ofNat b)
def fRem (k : IntKind) (a b : Nat) : Option Value := bif Nat.beq b 0 then none else some (.int k (Int.ofNat (Nat.mod a b)))
def fEql (_ : IntKind) (a b : Nat) : Option Value := some (.bool (Nat.beq a b))
def fNeq (_ : IntKind) (a b : Nat) : Option Value := some (.bool (!Nat.beq a b))
def fLss (_ : IntKind) (a b : Nat) : Option Value := some (.bool (Nat.blt a b))
def fLeq (_ : IntKind) (a b : Nat) : Option Value := some (.bool (Nat.ble a b))
def fGtr (_ : IntKind) (a b : Nat) : Option Value := some (.bool (Nat.blt b a))
def fGeq (_ : IntKind) (a b : Nat) : Option Value := some (.bool (Nat.ble b a))
def fSlow (op : BinOp) (k : IntKind) (a b : Nat) : Option Value := binI op k (Int.ofNat a) (Int.ofNat b)
def binN (op : BinOp) : IntKind → Nat → Nat → Option Value :=
  match op with
  | .add => fAdd | .sub => fSub | .mul => fMul | .quo => fQuo | .rem => fRem | .eql => fEql | .neq => fNeq | .lss => fLss | .leq => fLeq | .gtr => fGtr | .geq => fGeq
  | op => fSlow op
def eqK : IntKind → IntKind → Bool
  | .i8, .i8 | .i16, .i16 | .i32, .i32 | .i64, .i64 | .u8, .u8 | .u16, .u16 | .u32, .u32 | .u64, .u64 => true
  | _, _ => false
def binF (op : BinOp) (k k' : IntKind) (a b : Int) : Option Value :=
  match a, b with
  | .ofNat a, .ofNat b => binN op k a b
  | a, b => binI op k a b
def binE (P : Program) (T : Tab) (op : BinOp) (t : TypeId) (a b : PV) : Option PV :=
  match a, b with
  | .sc (.int k m), .sc (.int k' n) => bif eqK k k' then (match binF op k k' m n with | some v => some (.sc v) | none => binP P T op t a b) else binP P T op t a b
  | a, b => binP P T op t a b

def sMove (x : Operand) : StepT := fun _ _ ρ _ _ => some (ρ x, .no, FP.none)
def sPick (c a b : Operand) : StepT := fun _ _ ρ _ _ => match ρ c with
    | .sc (.bool true) => some (ρ a, .no, FP.none)
    | .sc (.bool false) => some (ρ b, .no, FP.none)
    | _ => none
def sAlloc (e : TypeId) : StepT := fun _ T _ _ n0 => match zeroT T e with
    | some zs => some (.ptr n0 0, .al zs, ⟨[], [n0], true, false⟩)
    | none => none
def sBox (x : Operand) : StepT := fun _ _ ρ _ n0 => match (ρ x).cells? with
    | some cs => some (.ptr n0 0, .al cs, ⟨[], [n0], true, false⟩)
    | none => none
def sBuild (t : TypeId) (parts : Array (Nat × Operand)) : StepT := fun _ T ρ _ _ => okV (buildP T t (parts.toList.map fun (i, x) => (i, ρ x)))
def sBuildSlice (t : TypeId) (len : Nat) (parts : Array (Nat × Operand)) : StepT := fun _ T ρ _ n0 => match litP T t len (parts.toList.map fun (i, x) => (i, ρ x)) with
    | some (s, cs) =>
      if idfreeL cs then some (.imm len true cs, .no, FP.none)
      else some (.own n0 s 0 len true, .al cs, ⟨[], [n0], true, false⟩)
    | none => none
def sLoad (t : TypeId) (a : Operand) : StepT := fun _ T ρ rd _ => match atAddrD rd (ρ a) with
    | some (cs, ids) => match partOf T t cs with
      | some x => some (x, .no, ⟨ids, [], false, false⟩)
      | none => none
    | none => none
def sStore (t : TypeId) (a x : Operand) : StepT := fun _ T ρ rd _ => match ρ a, (ρ x).cells?, sizeT T t with
    | .ptr id off, some cs, some n =>
      if cs.length = n ∧ okCells cs then
        match rd id with
        | some ⟨.live, old⟩ => match over? old off cs with
          | some l => some (.sc undef, .wr id ⟨.live, l⟩, ⟨[], [id], false, false⟩)
          | none => none
        | _ => none
      else none
    | _, _, _ => none
def sNil (x : Operand) : StepT := fun _ _ ρ _ _ => match ρ x with
    | .ptr id off => some (.ptr id off, .no, FP.none)
    | .iptr cs => some (.iptr cs, .no, FP.none)
    | .clos f cs => some (.clos f cs, .no, FP.none)
    | .bmet f cs => some (.bmet f cs, .no, FP.none)
    | .sc (.func (.func f) a b) => some (.sc (.func (.func f) a b), .no, FP.none)
    | _ => none
def sBin (op : BinOp) (t : TypeId) (x y : Operand) : StepT := fun P T ρ _ _ => okV (binE P T op t (ρ x) (ρ y))
def sUn (op : UnOp) (x : Operand) : StepT := fun _ _ ρ _ _ => okV (unP op (ρ x))
def sConv (src dst : TypeId) (x : Operand) : StepT := fun _ T ρ rd _ => match convD T rd src dst (ρ x) with
    | some (r, ids) => some (r, .no, ⟨ids, [], false, false⟩)
    | none => none
def sFunc (fn : Fn) (first captured : Array Operand) : StepT := fun _ _ ρ _ _ => match fn with
    | .func f => if first.size = 0 then some (.clos f (captured.toList.map ρ), .no, FP.none) else if captured.size = 0 then some (.bmet f (first.toList.map ρ), .no, FP.none) else none
    | _ => none
def sMake (t : TypeId) (l c : Operand) : StepT := fun _ T ρ _ n0 => match und T t, asNat? (ρ l), asNat? (ρ c) with
    | some (.slice e), some l, some c =>
      match zeroT T e, sizeT T e, bytesT T e with
      | some zs, some s, some by_ =>
        if l ≤ c ∧ c ≤ maxLenA ∧ by_ ≤ maxBytes ∧ zs.length = s then some (.own n0 s 0 l (l == c), .al (rep l zs), ⟨[], [n0], true, false⟩) else none
      | _, _, _ => none
    | _, _, _ => none
def sSlice (t : TypeId) (x : Operand) (lo hi mx : Option Operand) : StepT := fun _ T ρ rd _ => match sliceD T rd t (ρ x) (lo.map ρ) (hi.map ρ) (mx.map ρ) with
    | some r => some (r, .no, match ρ x with | .ptr id _ => ⟨[id], [], false, false⟩ | _ => FP.none)
    | none => none
def sFieldAddr (t : TypeId) (x : Operand) (i : Nat) : StepT := fun _ T ρ _ _ => okV (fieldAddrP T t (ρ x) i)
def sField (t : TypeId) (x : Operand) (i : Nat) : StepT := fun _ T ρ _ _ => okV (fieldP T t (ρ x) i)
def sIndexAddr (t : TypeId) (x i : Operand) : StepT := fun _ T ρ _ _ => okV (indexAddrP T t (ρ x) (ρ i))
def sIndex (t : TypeId) (x i : Operand) : StepT := fun _ T ρ _ _ => okV (indexP T t (ρ x) (ρ i))
def sExtract (x : Operand) (i : Nat) : StepT := fun _ _ ρ _ _ => match ρ x with
    | .tup cs => match cs[i]? with
      | some c => some (c, .no, FP.none)
      | none => none
    | _ => none
def sMakeMap (r : Option Operand) : StepT := fun _ _ _ _ n0 => match r with
    | none => some (.mp n0, .am, ⟨[], [n0], true, false⟩)
    | some _ => none
def sLookup (t : TypeId) (x k : Operand) (ok : Bool) : StepT := fun _ T ρ rd _ => match lookD T rd t (ρ x) (ρ k) ok with
    | some (v, ids) => some (v, .no, ⟨ids, [], false, false⟩)
    | none => none
def sUpdate (t : TypeId) (m k x : Operand) : StepT := fun _ T ρ rd _ => match updD T rd t (ρ m) (ρ k) (ρ x) with
    | some (b, id) => some (.sc undef, .wr id b, ⟨[], [id], false, false⟩)
    | none => none
def sDelete (args : Array Operand) (argTypes : Array TypeId) : StepT := fun _ T ρ rd _ => match args.toList.map ρ, argTypes.toList with
    | [m, k], [t, _] => match delD T rd t m k with
      | some (b, id) => some (.tup [], .wr id b, ⟨[], [id], false, false⟩)
      | none => none
    | _, _ => none
def sLen (args : Array Operand) (argTypes : Array TypeId) : StepT := fun _ T ρ rd _ => match args.toList.map ρ, argTypes.toList with
    | [x], [t] => match lenP T t x with
      | some r => some (r, .no, FP.none)
      | none => match lenD T rd t x with
        | some (r, ids) => some (r, .no, ⟨ids, [], false, false⟩)
        | none => none
    | _, _ => none
def sMax (isMax : Bool) (args : Array Operand) : StepT := fun _ _ ρ _ _ => okV (minmax isMax (args.toList.map ρ))
def sAppend (args : Array Operand) (argTypes : Array TypeId) : StepT := fun _ T ρ rd n0 => match args.toList.map ρ, argTypes.toList with
    | [x, y], [t, t'] =>
      match und T t, und T t' with
      | some (.slice e), some (.slice _) =>
        match sizeT T e, bytesT T e, zeroT T e with
        | some s, some by_, some zs =>
          if by_ ≤ maxBytes ∧ zs.length = s then
            match rdSlD rd s y with
            | some (n, new, ids) =>
              if okCells new then match appendD rd n0 s x n new with
                | some (r, dl, fp) => some (r, dl, ⟨ids ++ fp.rd, fp.wr, fp.al, false⟩)
                | none => none
              else none
            | none => none
          else none
        | _, _, _ => none
      | some (.slice e), some .string =>
        match y with
        | .sc (.string str) => match und T e, sizeT T e, bytesT T e, zeroT T e with
          | some (.int .u8), some 1, some 1, some [_] => match appendD rd n0 1 x (strL str).length ((strL str).map fun b => .sc (.int .u8 b.toNat)) with
            | some (r, dl, fp) => some (r, dl, fp)
            | none => none
          | _, _, _, _ => none
        | _ => none
      | _, _ => none
    | _, _ => none
def sCopy (args : Array Operand) (argTypes : Array TypeId) : StepT := fun _ T ρ rd _ => match args.toList.map ρ, argTypes.toList with
    | [x, y], [t, _] =>
      match und T t, x with
      | some (.slice e), .own id s' off len _ =>
        match sizeT T e with
        | some s =>
          if s = s' then
            match rdSlD rd s y with
            | some (n, src, ids) =>
              match rd id with
              | some ⟨.live, old⟩ =>
                match takeN? src (Nat.min n len * s) with
                | some new => if !okCells new then none else match over? old off new with
                  | some l => some (.sc (.int .i64 (Nat.min n len : Nat)), .wr id ⟨.live, l⟩, ⟨ids, [id], false, false⟩)
                  | none => none
                | none => none
              | _ => none
            | none => none
          else none
        | none => none
      | _, _ => none
    | _, _ => none
def sClear (args : Array Operand) (argTypes : Array TypeId) : StepT := fun _ T ρ rd _ => match args.toList.map ρ, argTypes.toList with
    | [x], [t] =>
      match und T t, x with
      | some (.slice e), .own id s' off len _ =>
        match sizeT T e, zeroT T e with
        | some s, some zs =>
          if s = s' ∧ zs.length = s ∧ okCells zs then
            match rd id with
            | some ⟨.live, old⟩ => match over? old off (rep len zs) with
              | some l => some (.tup [], .wr id ⟨.live, l⟩, ⟨[], [id], false, false⟩)
              | none => none
            | _ => none
          else none
        | _, _ => none
      | _, _ => none
    | _, _ => none
def sNone : StepT := fun _ _ _ _ _ => none
def sBuiltin (b : Builtin) (args : Array Operand) (argTypes : Array TypeId) : StepT :=
  match b with
  | .len => sLen args argTypes
  | .delete => sDelete args argTypes
  | .max => sMax true args
  | .min => sMax false args
  | .append => sAppend args argTypes
  | .copy => sCopy args argTypes
  | .clear => sClear args argTypes
  | _ => sNone
def sCall (c : Call) : StepT :=
  match c.callee with
  | .builtin b => sBuiltin b c.args c.argTypes
  | _ => sNone
def stepD (o : Op) : StepT :=
  match o with
  | .move x => sMove x
  | .assign x => sMove x
  | .pick c a b => sPick c a b
  | .alloc e => sAlloc e
  | .box _ x => sBox x
  | .build t parts => sBuild t parts
  | .buildSlice t len parts => sBuildSlice t len parts
  | .load t a => sLoad t a
  | .store t a x => sStore t a x
  | .nilCheck x => sNil x
  | .binOp op t x y _ => sBin op t x y
  | .unOp op _ x => sUn op x
  | .convert src dst x => sConv src dst x
  | .makeFunc fn first captured => sFunc fn first captured
  | .makeSlice t l c => sMake t l c
  | .slice t x lo hi mx => sSlice t x lo hi mx
  | .fieldAddr t x i => sFieldAddr t x i
  | .field t x i => sField t x i
  | .indexAddr t x i => sIndexAddr t x i
  | .index t x i => sIndex t x i
  | .extract x i => sExtract x i
  | .makeMap _ r => sMakeMap r
  | .lookup t x k ok => sLookup t x k ok
  | .mapUpdate t m k x => sUpdate t m k x
  | .insert t m k x => sUpdate t m k x
  | .call c => sCall c
  | _ => sNone

def snapD (rd : Nat → Option Blk) : (depth : Nat) → PV → Option (PV × List Nat)
  | 0, _ => none
  | d + 1, pv =>
    match pv with
    | .own id s off len x =>
      match rd id with
      | some ⟨st, cs⟩ =>
        if st = .dead then none
        else match takeN? (dropN cs off) (len * s) with
          | some l => match mapIds (snapD rd d) l with
            | some (l', ids) => some (.imm len x l', id :: ids)
            | none => none
          | none => none
      | none => none
    | .agg cs => match mapIds (snapD rd d) cs with
      | some (l, ids) => some (.agg l, ids)
      | none => none
    | .ptr .. => none
    | .mp _ => none
    | .clos f caps => if idfreeL caps then some (.clos f caps, []) else none
    | .bmet .. => none
    | .tup _ => none
    | v => some (v, [])
def finishD (rd : Nat → Option Blk) : (kept : List Blk) → (K F : List Nat) → List PV → Option (List PV × List Blk)
  | kept, _, _, [] => some ([], kept)
  | kept, K, F, r :: rs =>
    match r with
    | .own id s off len x =>
      match rd id with
      | some ⟨.live, cs⟩ =>
        match mapIds (snapD rd snapDepth) cs with
        | some (cs', ids) =>
          if K.contains id || F.contains id || ids.contains id || ids.any K.contains then none
          else match finishD rd (kept ++ [⟨.live, cs'⟩]) (id :: K) (ids ++ F) rs with
            | some (rs', k) => some (.own kept.length s off len x :: rs', k)
            | none => none
        | none => none
      | _ => match snapD rd snapDepth r with
        | some (r', ids) =>
          if ids.any K.contains then none
          else match finishD rd kept K (ids ++ F) rs with
            | some (rs', k) => some (r' :: rs', k)
            | none => none
        | none => none
    | _ => match snapD rd snapDepth r with
      | some (r', ids) =>
        if ids.any K.contains then none
        else match finishD rd kept K (ids ++ F) rs with
          | some (rs', k) => some (r' :: rs', k)
          | none => none
      | none => none

def resD (T : Tab) (rf : Nat → PV) (rd : Nat → Option Blk) : List ResultVar → Option (List PV)
  | [] => some []
  | .tmp t :: r => match resD T rf rd r with
    | some l => some (rf t :: l)
    | none => none
  | .cell a t :: r => match atAddrD rd (rf a) with
    | some (cs, _) => match partOf T t cs, resD T rf rd r with
      | some x, some l => some (x :: l)
      | _, _ => none
    | none => none

def wrBelowD (rd : Nat → Option Blk) (n : Nat) : List Nat → Bool
  | [] => true
  | i :: r => (match rd i with
    | some b => idsLtL n b.cs
    | none => true) && wrBelowD rd n r

noncomputable def rdT (t : FT Blk) (m i : Nat) : Option Blk := Bool.rec .none (t.get i) (Nat.blt i m)
noncomputable def rfT (t : FT PV) (n i : Nat) : PV := Bool.rec .any ((t.get i).getD .any) (Nat.blt i n)
noncomputable def evT (t : FT PV) (n : Nat) : Operand → PV
  | .tmp i => rfT t n i
  | .const v => ofVal v
  | .global _ => .any
  | .func f => .sc (.func (.func f) #[] #[])
noncomputable def putD {β : Type} (t : FT PV) (n : Nat) (dst : Option Tmp) (v : PV) (c : FT PV → Option β) : Option β :=
  match dst with
  | some d => fcV v fun v => Bool.rec (c t) (t.put d v c) (Nat.blt d n)
  | none => c t
noncomputable def appT {β : Type} (t : FT Blk) (m : Nat) (d : Dlt) (c : FT Blk → Nat → Option β) : Option β :=
  match d with
  | .no => c t m
  | .al cs => fcL cs fun cs => t.put m ⟨.live, cs⟩ fun t => c t (Nat.succ m)
  | .wr id ⟨st, cs⟩ => fcL cs fun cs => t.put id ⟨st, cs⟩ fun t => c t m
  | .wa id b cs => fcL cs fun cs => t.put id b fun t => t.put m ⟨.live, cs⟩ fun t => c t (Nat.succ m)
  | .am => t.put m ⟨.dead, [.any]⟩ fun t => c t (Nat.succ m)
noncomputable def addT {β : Type} (t : FT Blk) (m : Nat) (l : List Blk) : (FT Blk → Nat → Option β) → Option β :=
  List.rec (fun t m c => c t m) (fun b _ ih t m c => fcL b.cs fun cs => t.put m ⟨b.st, cs⟩ fun t => ih t (Nat.succ m) c) l t m
noncomputable def roT {β : Type} (t : FT Blk) (m : Nat) (l : List Nat) : (FT Blk → Option β) → Option β :=
  List.rec (fun t c => c t) (fun i _ ih t c => match rdT t m i with
    | some ⟨.live, cs⟩ => t.put i ⟨.ro, cs⟩ fun t => ih t c
    | _ => ih t c) l t

/-- how a function is run: arguments, a heap and its size; results, the heap and its size, the blocks that were written -/
abbrev RunsT := FuncId → List PV → FT Blk → Nat → Option (List PV × FT Blk × Nat × List Nat)

noncomputable def calleeD (ρ : Operand → PV) (c : Call) : Option (FuncId × List PV) :=
  match c.callee with
  | .value f => match ρ f with
    | .sc (.func (.func g) ⟨[]⟩ ⟨[]⟩) => some (g, c.args.toList.map ρ)
    | .clos g caps => some (g, c.args.toList.map ρ ++ caps)
    | .bmet g fs => some (g, fs ++ c.args.toList.map ρ)
    | _ => none
  | _ => none

noncomputable def callT {β : Type} (C : Cfg) (run : RunsT) (t : FT Blk) (m : Nat) (g : FuncId) (args : List PV) (c : PV → FT Blk → Nat → FP → Option β) : Option β :=
  fcL args fun args =>
  if C.shared g then
    match run g args t m with
    | some (rs, t', m', w) =>
      bif idfreeL rs && wrBelowD (rdT t' m') m (oldW m w) then fcW (oldW m w) fun w => c (retP rs) t' m ⟨[], w, true, true⟩
      else fcW (oldW m w ++ upto m (m' - m)) fun w => c (retP rs) t' m' ⟨[], w, true, true⟩
    | none => none
  else match mapIds (snapD (rdT t m) snapDepth) args with
    | none => none
    | some (args', ids) =>
      match C.orc g args' with
      | some rs =>
        bif rs.all scalarP then c (retP rs) t m ⟨ids, [], false, false⟩
        else roT t m ids fun t => c (retP rs) t m ⟨ids, ids, false, false⟩
      | none => match run g args' .lf 0 with
        | none => none
        | some (rs, t1, m1, _) => match finishD (rdT t1 m1) [] [] [] rs with
          | none => none
          | some (rs', kept) =>
            bif rs'.all scalarP then c (retP rs') t m ⟨ids, [], false, false⟩
            else roT t m ids fun t => addT t m kept fun t' m' => fcW (ids ++ upto m kept.length) fun w => c (retP (rs'.map (shiftP m))) t' m' ⟨ids, w, !kept.isEmpty, false⟩

noncomputable def wantedD (ops : Array Oper) (rf : Nat → PV) (o : Oper) : Option Bool :=
  match o.guard with
  | none => some true
  | some (j, want) =>
    match (ops[j]?).bind (·.dst) with
    | some d => match rf d with
      | .sc (.bool b) => some (b == want)
      | .any => none
      | _ => some false
    | none => none

noncomputable def adW {β : Type} (l w : List Nat) (c : List Nat → β) : β :=
  match l with
  | [] => c w
  | l => fcW (addW l w) c
noncomputable def operT {β : Type} (C : Cfg) (run : RunsT) (ops : Array Oper) (o : Oper) (n : Nat) (fr : FT PV) (t : FT Blk) (m : Nat) (w : List Nat) (c : FT PV → FT Blk → Nat → List Nat → FP → Option β) : Option β :=
  match wantedD ops (rfT fr n) o with
  | none => none
  | some false => putD fr n o.dst (.sc undef) fun fr => c fr t m w FP.none
  | some true =>
    match isCall o.op with
    | some cl => match calleeD (evT fr n) cl with
      | some (g, args) => callT C run t m g args fun v t m fp => putD fr n o.dst v fun fr => adW fp.wr w fun w => c fr t m w fp
      | none => none
    | none => match stepD o.op C.P C.T (evT fr n) (rdT t m) m with
      | some (v, d, fp) => appT t m d fun t m => putD fr n o.dst v fun fr => adW fp.wr w fun w => c fr t m w fp
      | none => none

noncomputable def goT {β : Type} (C : Cfg) (run : RunsT) (ops : Array Oper) (n : Nat) (l : List Oper) : FT PV → FT Blk → Nat → List Nat → (FT PV → FT Blk → Nat → List Nat → List FP → Option β) → Option β :=
  List.rec (fun fr t m w c => c fr t m w []) (fun o _ ih fr t m w c => operT C run ops o n fr t m w fun fr t m w fp => ih fr t m w fun fr t m w fps => c fr t m w (fp :: fps)) l

abbrev ResT := Option (Ex × FT PV × FT Blk × Nat × List Nat)
noncomputable def goS (C : Cfg) (run : RunsT) (ops : Array Oper) (n : Nat) (l : List Oper) : FT PV → FT Blk → Nat → List Nat → ResT :=
  List.rec (fun fr t m w => some (.normal, fr, t, m, w)) (fun o _ ih fr t m w => operT C run ops o n fr t m w fun fr t m w _ => ih fr t m w) l
noncomputable def regT (C : Cfg) (run : RunsT) (n : Nat) (ops : Array Oper) (dr : Bool) (fr : FT PV) (t : FT Blk) (m : Nat) (w : List Nat) : ResT :=
  bif dr then goT C run ops n ops.toList fr t m w fun fr t m w fps =>
      match number 0 fps with
      | [] => some (.normal, fr, t, m, w)
      | [_] => some (.normal, fr, t, m, w)
      | l => bif pairsOk (Region.before ops) l then some (.normal, fr, t, m, w) else none
  else goS C run ops n ops.toList fr t m w

noncomputable def iterT (f : FT PV → FT Blk → Nat → List Nat → ResT) (k : Nat) : FT PV → FT Blk → Nat → List Nat → ResT :=
  Nat.rec (fun _ _ _ _ => none) (fun _ ih fr t m w => match f fr t m w with
    | some (.normal, fr, t, m, w) => ih fr t m w
    | r => r) k

noncomputable def execT (C : Cfg) (run : RunsT) (n k : Nat) (cd : Code) : FT PV → FT Blk → Nat → List Nat → ResT :=
  match cd with
  | .skip => fun fr t m w => some (.normal, fr, t, m, w)
  | .label _ => fun fr t m w => some (.normal, fr, t, m, w)
  | .region _ ops dr => regT C run n ops dr
  | .seq a b => fun fr t m w => match execT C run n k a fr t m w with
    | some (.normal, fr, t, m, w) => execT C run n k b fr t m w
    | r => r
  | .cond c a b => fun fr t m w => match evT fr n c with
    | .sc (.bool true) => execT C run n k a fr t m w
    | .sc (.bool false) => execT C run n k b fr t m w
    | _ => none
  | .block id b => fun fr t m w => match execT C run n k b fr t m w with
    | some (.exit i, fr, t, m, w) => if i = id then some (.normal, fr, t, m, w) else some (.exit i, fr, t, m, w)
    | r => r
  | .loop b => iterT (execT C run n k b) k
  | .scope b => execT C run n k b
  | .exit id => fun fr t m w => some (.exit id, fr, t, m, w)
  | .ret => fun fr t m w => some (.ret, fr, t, m, w)
  | _ => fun _ _ _ _ => none

noncomputable def putsT {β : Type} (l : List PV) (k : Nat) (fr : FT PV) (c : FT PV → Option β) : Option β :=
  List.rec (fun _ fr c => c fr) (fun a _ ih k fr c => fr.put k a fun fr => ih (Nat.succ k) fr c) l k fr c

noncomputable def bodyT (C : Cfg) (run : RunsT) (k : Nat) : RunsT := fun g args t m =>
  match C.F g with
  | some fn => match fn.body with
    | some c => bif Nat.ble args.length fn.ntmps then putsT args 0 (FT.fill (.sc undef) (Nat.succ (Nat.log2 fn.ntmps))) fun fr => match execT C run fn.ntmps k c fr t m [] with
      | some (.normal, fr, t, m, w) | some (.ret, fr, t, m, w) => match resD C.T (rfT fr fn.ntmps) (rdT t m) fn.results.toList with
        | some rs => fcL rs fun rs => some (rs, t, m, w)
        | none => none
      | _ => none
      else none
    | none => none
  | none => none
noncomputable def sorcT (f : List PV → (Nat → Option Blk) → Option (List PV × Option (Nat × Blk))) (args : List PV) (t : FT Blk) (m : Nat) : Option (List PV × FT Blk × Nat × List Nat) :=
  match f args (rdT t m) with
  | some (rs, none) => fcL rs fun rs => some (rs, t, m, [])
  | some (rs, some (id, b)) => bif Nat.blt id m then fcL rs fun rs => fcN id fun id => fcL b.cs fun cs => t.put id ⟨b.st, cs⟩ fun t => some (rs, t, m, [id]) else none
  | none => none
noncomputable def runT (C : Cfg) (k : Nat) : RunsT := Nat.rec (fun _ _ _ _ => none) (fun k ih => fun g args t m => match C.sorc g with
  | some f => sorcT f args t m
  | none => bodyT C ih k g args t m) k

end Go.Ab
namespace Go.Ab
open Go

theorem FT.get_nd {α : Type} (v : α) (l r : FT α) (k : Nat) : (FT.nd v l r).get k = if k = 0 then some v else if k % 2 = 1 then l.get (k / 2) else r.get (k / 2 - 1) := by
  show (Bool.rec (Bool.rec (r.get (k / 2 - 1)) (l.get (k / 2)) (Nat.beq (k % 2) 1)) (some v) (Nat.beq k 0) : Option α) = _
  cases h : Nat.beq k 0 with
  | true => have := Nat.eq_of_beq_eq_true h; simp [this]
  | false =>
    have hk := Nat.ne_of_beq_eq_false h
    rw [if_neg hk]
    cases h2 : Nat.beq (k % 2) 1 with
    | true => rw [if_pos (Nat.eq_of_beq_eq_true h2)]
    | false => rw [if_neg (Nat.ne_of_beq_eq_false h2)]
theorem FT.put_nd {α β : Type} (a : α) (l r : FT α) (k : Nat) (v : α) (c : FT α → Option β) : (FT.nd a l r).put k v c =
    if k = 0 then c (.nd v l r) else if k % 2 = 1 then l.put (k / 2) v (fun l' => c (.nd a l' r)) else r.put (k / 2 - 1) v (fun r' => c (.nd a l r')) := by
  show (Bool.rec (Bool.rec (r.put (k / 2 - 1) v (fun r' => c (.nd a l r'))) (l.put (k / 2) v (fun l' => c (.nd a l' r))) (Nat.beq (k % 2) 1)) (c (.nd v l r)) (Nat.beq k 0) : Option β) = _
  cases h : Nat.beq k 0 with
  | true => have := Nat.eq_of_beq_eq_true h; simp [this]
  | false =>
    have hk := Nat.ne_of_beq_eq_false h
    rw [if_neg hk]
    cases h2 : Nat.beq (k % 2) 1 with
    | true => rw [if_pos (Nat.eq_of_beq_eq_true h2)]
    | false => rw [if_neg (Nat.ne_of_beq_eq_false h2)]
theorem FT.put_some {α β : Type} {b : β} : ∀ (t : FT α) (k : Nat) (v : α) (c : FT α → Option β), t.put k v c = some b → ∃ t', c t' = some b ∧ ∀ j, t'.get j = if j = k then some v else t.get j
  | .lf, k, v, c, h => by
    have h : (Bool.rec .none (c (.nd v .lf .lf)) (Nat.beq k 0) : Option β) = some b := h
    cases e : Nat.beq k 0 with
    | true =>
      rw [e] at h
      have := Nat.eq_of_beq_eq_true e
      subst this
      refine ⟨_, h, fun j => ?_⟩
      rw [FT.get_nd]
      by_cases hj : j = 0
      · simp [hj]
      · simp [hj]; split <;> rfl
    | false => rw [e] at h; cases h
  | .nd a l r, k, v, c, h => by
    rw [FT.put_nd] at h
    split at h
    · rename_i hk
      subst hk
      exact ⟨_, h, fun j => by rw [FT.get_nd, FT.get_nd]; by_cases hj : j = 0 <;> simp [hj]⟩
    · rename_i hk
      split at h
      · rename_i h2
        obtain ⟨t', h3, h4⟩ := FT.put_some l _ v _ h
        refine ⟨_, h3, fun j => ?_⟩
        rw [FT.get_nd, FT.get_nd, h4]
        by_cases hj : j = k
        · subst hj; simp [hk, h2]
        · rw [if_neg hj]
          by_cases h0 : j = 0
          · simp [h0]
          · rw [if_neg h0, if_neg h0]
            by_cases hm : j % 2 = 1
            · rw [if_pos hm, if_pos hm, if_neg (by omega)]
            · rw [if_neg hm, if_neg hm]
      · rename_i h2
        obtain ⟨t', h3, h4⟩ := FT.put_some r _ v _ h
        refine ⟨_, h3, fun j => ?_⟩
        rw [FT.get_nd, FT.get_nd, h4]
        by_cases hj : j = k
        · subst hj; simp [hk, h2]
        · rw [if_neg hj]
          by_cases h0 : j = 0
          · simp [h0]
          · rw [if_neg h0, if_neg h0]
            by_cases hm : j % 2 = 1
            · rw [if_pos hm, if_pos hm]
            · rw [if_neg hm, if_neg hm, if_neg (by omega)]
theorem FT.fill_get (u : PV) : ∀ (d k : Nat), k + 1 < 2 ^ d → (FT.fill u d).get k = some u
  | 0, k, h => by simp at h
  | d + 1, k, h => by
    show (FT.nd u (FT.fill u d) (FT.fill u d)).get k = _
    rw [FT.get_nd]
    have hp : 2 ^ (d + 1) = 2 * 2 ^ d := by rw [Nat.pow_succ, Nat.mul_comm]
    split
    · rfl
    · split
      · exact FT.fill_get u d _ (by omega)
      · exact FT.fill_get u d _ (by omega)

theorem fcN_eq {β : Type} (n : Nat) (c : Nat → β) : fcN n c = c n := by cases n <;> rfl
theorem fcI_eq {β : Type} (n : Int) (c : Int → β) : fcI n c = c n := by
  cases n with
  | ofNat n => exact fcN_eq n fun n => c (Int.ofNat n)
  | negSucc n => exact fcN_eq n fun n => c (Int.negSucc n)
theorem fcB_eq {β : Type} (b : Bool) (c : Bool → β) : fcB b c = c b := by cases b <;> rfl
theorem fcV_eq {β : Type} (v : PV) (c : PV → β) : fcV v c = c v := by
  unfold fcV
  split <;> simp only [fcN_eq, fcI_eq, fcB_eq]
theorem fcL_eq {β : Type} : ∀ (l : List PV) (c : List PV → β), fcL l c = c l
  | [], c => rfl
  | a :: l, c => by
    show fcV a (fun a => fcL l fun l => c (a :: l)) = _
    rw [fcV_eq, fcL_eq l]
theorem fcW_eq {β : Type} : ∀ (l : List Nat) (c : List Nat → β), fcW l c = c l
  | [], c => rfl
  | a :: l, c => by
    show fcN a (fun a => fcW l fun l => c (a :: l)) = _
    rw [fcN_eq, fcW_eq l]
theorem adW_eq {β : Type} (l w : List Nat) (c : List Nat → β) : adW l w c = c (addW l w) := by
  unfold adW
  split
  · rfl
  · rw [fcW_eq]

/-! a heap as a tree, a frame as a tree -/
def HR (t : FT Blk) (m : Nat) (hp : List Blk) : Prop := m = hp.length ∧ ∀ i, i < m → t.get i = hp[i]?
def RF (t : FT PV) (n : Nat) (fr : List PV) : Prop := n = fr.length ∧ ∀ i, i < n → t.get i = fr[i]?

theorem HR.rd {t : FT Blk} {m : Nat} {hp : List Blk} (h : HR t m hp) : rdT t m = nthB hp := by
  funext i
  show (Bool.rec .none (t.get i) (Nat.blt i m) : Option Blk) = _
  rw [nthB_eq]
  cases e : Nat.blt i m with
  | true => exact h.2 i (blt_iff.1 e)
  | false =>
    have : ¬ i < m := fun hlt => by rw [blt_iff.2 hlt] at e; cases e
    rw [List.getElem?_eq_none (by rw [← h.1]; omega)]
theorem RF.rf {t : FT PV} {n : Nat} {fr : List PV} (h : RF t n fr) : rfT t n = nth fr := by
  funext i
  show (Bool.rec .any ((t.get i).getD .any) (Nat.blt i n) : PV) = _
  rw [nth_eq]
  cases e : Nat.blt i n with
  | true => rw [← h.2 i (blt_iff.1 e)]
  | false =>
    have : ¬ i < n := fun hlt => by rw [blt_iff.2 hlt] at e; cases e
    rw [List.getElem?_eq_none (by rw [← h.1]; omega)]; rfl
theorem RF.ev {t : FT PV} {n : Nat} {fr : List PV} (h : RF t n fr) : evT t n = evalP fr := by
  funext x
  cases x with
  | tmp i => exact congrFun h.rf i
  | const v => rfl
  | global g => rfl
  | func f => rfl
theorem putD_some {β : Type} {b : β} {t : FT PV} {n : Nat} {fr : List PV} {dst : Option Tmp} {v : PV} {c : FT PV → Option β} (h : putD t n dst v c = some b) (hr : RF t n fr) : ∃ t', c t' = some b ∧ RF t' n (putP fr dst v) := by
  unfold putD at h
  unfold putP
  cases dst with
  | none => exact ⟨t, h, hr⟩
  | some d =>
    simp only [fcV_eq] at h
    dsimp only
    cases e : Nat.blt d n with
    | false =>
      rw [e] at h
      refine ⟨t, h, ?_⟩
      have : ¬ d < n := fun hlt => by rw [blt_iff.2 hlt] at e; cases e
      have hle : fr.length ≤ d := hr.1 ▸ Nat.le_of_not_lt this
      rw [setN_eq, List.set_eq_of_length_le hle]
      exact hr
    | true =>
      rw [e] at h
      obtain ⟨t', h1, h2⟩ := FT.put_some t d v c h
      refine ⟨t', h1, ?_, fun i hi => ?_⟩
      · rw [setN_eq, List.length_set]; exact hr.1
      · rw [h2, setN_eq, List.getElem?_set]
        by_cases hid : i = d
        · subst hid; simp [← hr.1, hi]
        · rw [if_neg hid, if_neg (Ne.symm hid)]; exact hr.2 i hi

/-- what a change makes of a heap -/
def Dlt.on (hp : List Blk) : Dlt → List Blk
  | .no => hp
  | .al cs => allocB hp cs
  | .wr id b => setB hp id b
  | .wa id b cs => allocB (setB hp id b) cs
  | .am => hp ++ [⟨.dead, [.any]⟩]
/-- a change fits a heap -/
def Dlt.fit (hp : List Blk) : Dlt → Prop
  | .no => True
  | .al _ => True
  | .wr id _ => id < hp.length
  | .wa id _ _ => id < hp.length
  | .am => True

theorem HR.alloc {t t' : FT Blk} {m : Nat} {hp : List Blk} {cs : List PV} (h : HR t m hp) (h2 : ∀ j, t'.get j = if j = m then some ⟨.live, cs⟩ else t.get j) : HR t' (Nat.succ m) (allocB hp cs) := by
  refine ⟨by simp [allocB, h.1], fun i hi => ?_⟩
  rw [h2, ← nthB_eq, nthB_alloc, h.1]
  split
  · rfl
  · rename_i hne
    rw [nthB_eq]; exact h.2 i (by have := h.1; omega)
theorem HR.set {t t' : FT Blk} {m : Nat} {hp : List Blk} {id : Nat} {b : Blk} (h : HR t m hp) (hid : id < hp.length) (h2 : ∀ j, t'.get j = if j = id then some b else t.get j) : HR t' m (setB hp id b) := by
  refine ⟨by rw [setB_length]; exact h.1, fun i hi => ?_⟩
  rw [h2, setB_eq, List.getElem?_set]
  by_cases hid' : i = id
  · subst hid'; simp [hid]
  · rw [if_neg hid', if_neg (Ne.symm hid')]; exact h.2 i hi
theorem appT_some {β : Type} {b : β} {t : FT Blk} {m : Nat} {hp : List Blk} {d : Dlt} {c : FT Blk → Nat → Option β} (h : appT t m d c = some b) (hr : HR t m hp) (hf : d.fit hp) : ∃ t' m', c t' m' = some b ∧ HR t' m' (d.on hp) := by
  unfold appT at h
  cases d with
  | no => exact ⟨t, m, h, hr⟩
  | al cs =>
    simp only [fcL_eq] at h
    obtain ⟨t', h1, h2⟩ := FT.put_some t m _ _ h
    exact ⟨t', _, h1, hr.alloc h2⟩
  | wr id bl =>
    obtain ⟨st, cs⟩ := bl
    simp only [fcL_eq] at h
    obtain ⟨t', h1, h2⟩ := FT.put_some t id _ _ h
    exact ⟨t', _, h1, hr.set hf h2⟩
  | wa id bl cs =>
    simp only [fcL_eq] at h
    obtain ⟨t', h1, h2⟩ := FT.put_some t id _ _ h
    obtain ⟨t2, h3, h4⟩ := FT.put_some t' m _ _ h1
    have hr1 := hr.set hf h2
    exact ⟨t2, _, h3, hr1.alloc h4⟩
  | am =>
    obtain ⟨t', h1, h2⟩ := FT.put_some t m _ _ h
    refine ⟨t', _, h1, by simp [Dlt.on, hr.1], fun i hi => ?_⟩
    rw [h2]
    show _ = (hp ++ [⟨.dead, [.any]⟩])[i]?
    rw [List.getElem?_append]
    by_cases hi' : i = m
    · subst hi'; simp [hr.1]
    · rw [if_neg hi', if_pos (by have := hr.1; omega)]; exact hr.2 i (by omega)
theorem addT_some {β : Type} {b : β} : ∀ (l : List Blk) (t : FT Blk) (m : Nat) (hp : List Blk) (c : FT Blk → Nat → Option β), addT t m l c = some b → HR t m hp → ∃ t' m', c t' m' = some b ∧ HR t' m' (hp ++ l)
  | [], t, m, hp, c, h, hr => ⟨t, m, h, by simpa using hr⟩
  | bl :: l, t, m, hp, c, h, hr => by
    have h : (fcL bl.cs fun cs => t.put m ⟨bl.st, cs⟩ fun t => addT t (Nat.succ m) l c) = some b := h
    rw [fcL_eq] at h
    obtain ⟨t', h1, h2⟩ := FT.put_some t m _ _ h
    have hr1 : HR t' (Nat.succ m) (hp ++ [bl]) := by
      refine ⟨by simp [hr.1], fun i hi => ?_⟩
      rw [h2, List.getElem?_append]
      by_cases hi' : i = m
      · subst hi'; simp [hr.1]
      · rw [if_neg hi', if_pos (by have := hr.1; omega)]; exact hr.2 i (by omega)
    obtain ⟨t2, m2, h3, h4⟩ := addT_some l t' _ (hp ++ [bl]) c h1 hr1
    exact ⟨t2, m2, h3, by simpa using h4⟩
theorem roT_some {β : Type} {b : β} : ∀ (l : List Nat) (t : FT Blk) (m : Nat) (hp : List Blk) (c : FT Blk → Option β), roT t m l c = some b → HR t m hp → ∃ t', c t' = some b ∧ HR t' m (roB hp l)
  | [], t, m, hp, c, h, hr => ⟨t, h, hr⟩
  | i :: l, t, m, hp, c, h, hr => by
    have h : (match rdT t m i with | some ⟨.live, cs⟩ => t.put i ⟨.ro, cs⟩ fun t => roT t m l c | _ => roT t m l c) = some b := h
    rw [hr.rd] at h
    unfold roB
    split at h
    · rename_i cs e
      obtain ⟨t', h1, h2⟩ := FT.put_some t i _ _ h
      have hid : i < hp.length := get_lt ((nthB_eq hp i).symm.trans e)
      obtain ⟨t2, h3, h4⟩ := roT_some l t' m _ c h1 (hr.set hid h2)
      exact ⟨t2, h3, by simp only [e]; exact h4⟩
    · rename_i hn
      obtain ⟨t2, h3, h4⟩ := roT_some l t m hp c h hr
      refine ⟨t2, h3, ?_⟩
      split
      · rename_i cs e; exact absurd e (hn cs)
      · exact h4

end Go.Ab
namespace Go.Ab
open Go

theorem rdSlD_eq (hp : List Blk) (s : Nat) (x : PV) : rdSlD (nthB hp) s x = rdSl hp s x := rfl
theorem convD_eq (T : Tab) (hp : List Blk) (src dst : TypeId) (x : PV) : convD T (nthB hp) src dst x = convP T hp src dst x := rfl
theorem atAddrD_eq (hp : List Blk) (x : PV) : atAddrD (nthB hp) x = atAddr hp x := rfl
theorem sliceD_eq (T : Tab) (hp : List Blk) (t : TypeId) (x : PV) (lo hi mx : Option PV) : sliceD T (nthB hp) t x lo hi mx = sliceP T hp t x lo hi mx := rfl

theorem snapD_eq (hp : List Blk) : ∀ (d : Nat), snapD (nthB hp) d = snap hp d
  | 0 => by funext x; rfl
  | d + 1 => by
    funext x
    unfold snapD snap
    rw [snapD_eq hp d]
    rfl
theorem finishD_eq (hp : List Blk) : ∀ (rs : List PV) (kept : List Blk) (K F : List Nat), finishD (nthB hp) kept K F rs = finishL hp kept K F rs
  | [], kept, K, F => rfl
  | r :: rs, kept, K, F => by
    unfold finishD finishL
    simp only [snapD_eq, finishD_eq hp rs]
    rfl
theorem resD_eq (T : Tab) (fr : List PV) (hp : List Blk) : ∀ (l : List ResultVar), resD T (nth fr) (nthB hp) l = resP T fr hp l
  | [] => rfl
  | .tmp t :: l => by unfold resD resP; rw [resD_eq T fr hp l]; rfl
  | .cell a t :: l => by unfold resD resP; rw [resD_eq T fr hp l]; rfl
theorem wrBelowD_eq (hp : List Blk) (n : Nat) : ∀ (l : List Nat), wrBelowD (nthB hp) n l = wrBelow hp n l
  | [] => rfl
  | i :: l => by unfold wrBelowD wrBelow; rw [wrBelowD_eq hp n l]; rfl

theorem eqK_spec {a b : IntKind} (h : eqK a b = true) : a = b := by cases a <;> cases b <;> first | rfl | cases h
theorem wrapK_in {k : IntKind} {n : Nat} (h : Nat.ble n (hiN k) = true) : wrapK k (Int.ofNat n) = Int.ofNat n := by
  have h := Nat.le_of_ble_eq_true h
  have : decide (loK k ≤ Int.ofNat n) = true ∧ decide (Int.ofNat n ≤ hiK k) = true := by
    constructor <;> apply decide_eq_true <;> cases k <;> simp only [loK, hiK, hiN, Int.ofNat_eq_natCast] at h ⊢ <;> omega
  unfold wrapK
  rw [this.1, this.2]; rfl
theorem eqlI (a b : Nat) : (Int.ofNat a == Int.ofNat b) = Nat.beq a b := by
  rw [Bool.eq_iff_iff, beq_iff_eq, Nat.beq_eq]; exact ⟨Int.ofNat.inj, fun h => congrArg _ h⟩
theorem lssI (a b : Nat) : decide (Int.ofNat a < Int.ofNat b) = Nat.blt a b := by
  rw [Bool.eq_iff_iff, decide_eq_true_iff, blt_iff]; exact Int.ofNat_lt
theorem leqI (a b : Nat) : decide (Int.ofNat a ≤ Int.ofNat b) = Nat.ble a b := by
  rw [Bool.eq_iff_iff, decide_eq_true_iff, Nat.ble_eq]; exact Int.ofNat_le
theorem binN_ok {op : BinOp} {k : IntKind} {a b : Nat} {v : Value} (h : binN op k a b = some v) : binI op k (Int.ofNat a) (Int.ofNat b) = some v := by
  unfold binN at h
  split at h
  · unfold fAdd at h
    cases e : Nat.ble (Nat.add a b) (hiN k) with
    | true =>
      rw [e] at h
      simp only [cond_true, Option.some.injEq] at h
      subst h
      have := wrapK_in e
      simp only [binI]
      rw [show Int.ofNat a + Int.ofNat b = Int.ofNat (Nat.add a b) from rfl, this]
    | false => rw [e] at h; exact h
  · unfold fSub at h
    cases e : (Nat.ble b a && Nat.ble (Nat.sub a b) (hiN k)) with
    | true =>
      rw [e] at h
      simp only [cond_true, Option.some.injEq] at h
      subst h
      simp only [Bool.and_eq_true] at e
      have := wrapK_in e.2
      have hle := Nat.le_of_ble_eq_true e.1
      simp only [binI]
      rw [show Int.ofNat a - Int.ofNat b = Int.ofNat (Nat.sub a b) from by
        show (a : Int) - (b : Int) = ((a - b : Nat) : Int); omega, this]
    | false => rw [e] at h; exact h
  · unfold fMul at h
    cases e : Nat.ble (Nat.mul a b) (hiN k) with
    | true =>
      rw [e] at h
      simp only [cond_true, Option.some.injEq] at h
      subst h
      have := wrapK_in e
      simp only [binI]
      rw [show Int.ofNat a * Int.ofNat b = Int.ofNat (Nat.mul a b) from rfl, this]
    | false => rw [e] at h; exact h
  · unfold fQuo at h
    cases e0 : Nat.beq b 0 with
    | true => rw [e0] at h; cases h
    | false =>
      rw [e0] at h
      simp only [cond_false] at h
      have hb := Nat.ne_of_beq_eq_false e0
      cases e : Nat.ble (Nat.div a b) (hiN k) with
      | true =>
        rw [e] at h
        simp only [cond_true, Option.some.injEq] at h
        subst h
        have := wrapK_in e
        simp only [binI]
        have hb' : Int.ofNat b ≠ 0 := by simpa using hb
        rw [if_neg hb', show (Int.ofNat a).tdiv (Int.ofNat b) = Int.ofNat (Nat.div a b) from rfl, this]
      | false => rw [e] at h; exact h
  · unfold fRem at h
    cases e0 : Nat.beq b 0 with
    | true => rw [e0] at h; cases h
    | false =>
      rw [e0] at h
      simp only [cond_false, Option.some.injEq] at h
      subst h
      have hb := Nat.ne_of_beq_eq_false e0
      have hb' : Int.ofNat b ≠ 0 := by simpa using hb
      simp only [binI]
      rw [if_neg hb']; rfl
  · simp only [fEql] at h
    simp only [binI, eqlI]; exact h
  · simp only [fNeq] at h
    simp only [binI, bne, eqlI]; exact h
  · simp only [fLss] at h
    simp only [binI, lssI]; exact h
  · simp only [fLeq] at h
    simp only [binI, leqI]; exact h
  · simp only [fGtr] at h
    simp only [binI, gt_iff_lt, lssI]; exact h
  · simp only [fGeq] at h
    simp only [binI, ge_iff_le, leqI]; exact h
  · exact h

theorem binE_ok {P : Program} {T : Tab} {op : BinOp} {t : TypeId} {a b r : PV} (h : binE P T op t a b = some r) : binP P T op t a b = some r := by
  unfold binE at h
  split at h
  · rename_i k m k' n
    cases e : eqK k k' with
    | false => rw [e] at h; exact h
    | true =>
      rw [e] at h
      simp only [cond_true] at h
      split at h
      · rename_i v hv
        have hk := eqK_spec e
        subst hk
        have : binI op k m n = some v := by
          unfold binF at hv
          split at hv
          · exact binN_ok hv
          · exact hv
        unfold binP binInt
        simp only [if_true, this]
        exact h
      · exact h
  · exact h

theorem okV_some {x : Option PV} {v : PV} {d : Dlt} {fp : FP} (h : okV x = some (v, d, fp)) : x = some v ∧ d = .no ∧ fp = FP.none := by
  unfold okV at h
  split at h
  · simp only [Option.some.injEq, Prod.mk.injEq] at h
    obtain ⟨rfl, rfl, rfl⟩ := h
    exact ⟨rfl, rfl, rfl⟩
  · cases h

end Go.Ab
namespace Go.Ab
open Go

theorem appendD_some {hp : List Blk} {s : Nat} {x : PV} {n : Nat} {new : List PV} {v : PV} {d : Dlt} {fp : FP} (h : appendD (nthB hp) hp.length s x n new = some (v, d, fp)) :
    appendP hp s x n new = some (v, d.on hp, fp) ∧ d.fit hp := by
  unfold appendD at h
  unfold appendP
  split at h
  · split at h
    · rename_i hc
      simp only [Option.some.injEq, Prod.mk.injEq] at h
      obtain ⟨rfl, rfl, rfl⟩ := h
      exact ⟨by simp only [if_pos hc]; rfl, trivial⟩
    · rename_i hc
      split at h
      · rename_i hc2
        simp only [Option.some.injEq, Prod.mk.injEq] at h
        obtain ⟨rfl, rfl, rfl⟩ := h
        exact ⟨by simp only [if_neg hc, if_pos hc2]; rfl, trivial⟩
      · cases h
  · split at h
    · rename_i hc
      simp only [Option.some.injEq, Prod.mk.injEq] at h
      obtain ⟨rfl, rfl, rfl⟩ := h
      exact ⟨by simp only [if_pos hc]; rfl, trivial⟩
    · rename_i hc
      split at h
      · rename_i hc2
        simp only [Option.some.injEq, Prod.mk.injEq] at h
        obtain ⟨rfl, rfl, rfl⟩ := h
        exact ⟨by simp only [if_neg hc, if_pos hc2]; rfl, trivial⟩
      · cases h
  · split at h
    · cases h
    · rename_i hs
      split at h
      · rename_i hc
        simp only [Option.some.injEq, Prod.mk.injEq] at h
        obtain ⟨rfl, rfl, rfl⟩ := h
        exact ⟨by simp only [if_neg hs, if_pos hc]; rfl, trivial⟩
      · rename_i hc
        split at h
        · rename_i st cs e
          split at h
          · cases h
          · rename_i hd
            split at h
            · rename_i l hl
              split at h
              · rename_i hm
                simp only [Option.some.injEq, Prod.mk.injEq] at h
                obtain ⟨rfl, rfl, rfl⟩ := h
                exact ⟨by simp only [if_neg hs, if_neg hc, e, if_neg hd, hl, if_pos hm]; rfl, trivial⟩
              · cases h
            · cases h
        · cases h
  · split at h
    · cases h
    · rename_i hs
      split at h
      · rename_i cs e
        split at h
        · rename_i l hl
          split at h
          · rename_i hm
            simp only [Option.some.injEq, Prod.mk.injEq] at h
            obtain ⟨rfl, rfl, rfl⟩ := h
            exact ⟨by simp only [if_neg hs, e, hl, if_pos hm]; rfl, get_lt ((nthB_eq hp _).symm.trans e)⟩
          · cases h
        · cases h
      · cases h
  · cases h

theorem lookD_eq (T : Tab) (hp : List Blk) (t : TypeId) (m k : PV) (ok : Bool) : lookD T (nthB hp) t m k ok = lookP T hp t m k ok := rfl
theorem lenD_eq (T : Tab) (hp : List Blk) (t : TypeId) (m : PV) : lenD T (nthB hp) t m = lenM T hp t m := rfl
theorem updD_some {T : Tab} {hp : List Blk} {t : TypeId} {m k x : PV} {b : Blk} {id : Nat} (h : updD T (nthB hp) t m k x = some (b, id)) : updP T hp t m k x = some (setB hp id b, id) ∧ id < hp.length := by
  unfold updD at h
  unfold updP
  split at h
  · rename_i kt e i e1
    simp only [e1]
    split at h
    · rename_i hk
      rw [if_pos hk]
      split at h
      · rename_i kvs e2
        split at h
        · rename_i l e3
          simp only [Option.some.injEq, Prod.mk.injEq] at h
          obtain ⟨rfl, rfl⟩ := h
          exact ⟨by simp only [e2, e3], get_lt ((nthB_eq hp _).symm.trans e2)⟩
        · cases h
      · cases h
    · cases h
  · cases h
theorem delD_some {T : Tab} {hp : List Blk} {t : TypeId} {m k : PV} {b : Blk} {id : Nat} (h : delD T (nthB hp) t m k = some (b, id)) : delP T hp t m k = some (setB hp id b, id) ∧ id < hp.length := by
  unfold delD at h
  unfold delP
  split at h
  · rename_i kt e i e1
    simp only [e1]
    split at h
    · rename_i hk
      rw [if_pos hk]
      split at h
      · rename_i kvs e2
        split at h
        · rename_i l e3
          simp only [Option.some.injEq, Prod.mk.injEq] at h
          obtain ⟨rfl, rfl⟩ := h
          exact ⟨by simp only [e2, e3], get_lt ((nthB_eq hp _).symm.trans e2)⟩
        · cases h
      · cases h
    · cases h
  · cases h

theorem stepD_some {P : Program} {T : Tab} {fr : List PV} {hp : List Blk} {o : Op} {v : PV} {d : Dlt} {fp : FP} (h : stepD o P T (evalP fr) (nthB hp) hp.length = some (v, d, fp)) :
    stepP P T fr hp o = some (v, d.on hp, fp) ∧ d.fit hp := by
  have ok : ∀ {x : Option PV}, okV x = some (v, d, fp) → (match x with | some x => some (x, hp, FP.none) | none => none) = some (v, d.on hp, fp) ∧ d.fit hp := fun h => by
    obtain ⟨rfl, rfl, rfl⟩ := okV_some h
    exact ⟨rfl, trivial⟩
  have no : ∀ {x : PV} {f : FP}, (some (x, Dlt.no, f) : Rv) = some (v, d, fp) → (some (x, hp, f) : Option (PV × List Blk × FP)) = some (v, d.on hp, fp) ∧ d.fit hp := fun h => by
    simp only [Option.some.injEq, Prod.mk.injEq] at h
    obtain ⟨rfl, rfl, rfl⟩ := h
    exact ⟨rfl, trivial⟩
  unfold stepP
  cases o with
  | move x => exact no h
  | assign x => exact no h
  | pick c a b =>
    simp only [stepD, sPick] at h ⊢
    split at h
    · rename_i e; simp only [e]; exact no h
    · rename_i e; simp only [e]; exact no h
    · cases h
  | alloc e =>
    simp only [stepD, sAlloc] at h ⊢
    split at h
    · rename_i zs ez
      simp only [Option.some.injEq, Prod.mk.injEq] at h
      obtain ⟨rfl, rfl, rfl⟩ := h
      simp only [ez]; exact ⟨rfl, trivial⟩
    · cases h
  | box t x =>
    simp only [stepD, sBox] at h ⊢
    split at h
    · rename_i zs ez
      simp only [Option.some.injEq, Prod.mk.injEq] at h
      obtain ⟨rfl, rfl, rfl⟩ := h
      simp only [ez]; exact ⟨rfl, trivial⟩
    · cases h
  | build t ps => exact ok h
  | buildSlice t n ps =>
    simp only [stepD, sBuildSlice] at h ⊢
    split at h
    · rename_i s cs e
      simp only [e]
      split at h
      · rename_i hi
        rw [if_pos hi]; exact no h
      · rename_i hi
        simp only [Option.some.injEq, Prod.mk.injEq] at h
        obtain ⟨rfl, rfl, rfl⟩ := h
        rw [if_neg hi]; exact ⟨rfl, trivial⟩
    · cases h
  | load t a =>
    simp only [stepD, sLoad, atAddrD_eq] at h ⊢
    split at h
    · rename_i cs ids e
      simp only [e]
      split at h
      · rename_i x ex
        simp only [ex]; exact no h
      · cases h
    · cases h
  | store t a x =>
    simp only [stepD, sStore] at h ⊢
    split at h
    · rename_i id off cs n e1 e2 e3
      simp only [e1, e2, e3]
      split at h
      · rename_i hc
        rw [if_pos hc]
        split at h
        · rename_i old e4
          simp only [e4]
          split at h
          · rename_i l e5
            simp only [Option.some.injEq, Prod.mk.injEq] at h
            obtain ⟨rfl, rfl, rfl⟩ := h
            simp only [e5]
            exact ⟨rfl, get_lt ((nthB_eq hp _).symm.trans e4)⟩
          · cases h
        · cases h
      · cases h
    · cases h
  | nilCheck x =>
    simp only [stepD, sNil] at h ⊢
    split at h
    · rename_i e; simp only [e]; exact no h
    · rename_i e; simp only [e]; exact no h
    · rename_i e; simp only [e]; exact no h
    · rename_i e; simp only [e]; exact no h
    · rename_i e; simp only [e]; exact no h
    · cases h
  | binOp op t x y ty =>
    obtain ⟨h1, rfl, rfl⟩ := okV_some (x := binE P T op t (evalP fr x) (evalP fr y)) h
    simp only [binE_ok h1]
    exact ⟨rfl, trivial⟩
  | unOp op t x => exact ok h
  | convert src dst x =>
    simp only [stepD, sConv, convD_eq] at h ⊢
    split at h
    · rename_i r ids e
      simp only [e]; exact no h
    · cases h
  | makeFunc f first captured =>
    cases f with
    | func f =>
      simp only [stepD, sFunc] at h ⊢
      split at h
      · rename_i hc; rw [if_pos hc]; exact no h
      · rename_i hc
        rw [if_neg hc]
        split at h
        · rename_i hc2; rw [if_pos hc2]; exact no h
        · cases h
    | _ => cases h
  | makeSlice t l c =>
    simp only [stepD, sMake] at h ⊢
    split at h
    · rename_i e1 e2 e3
      simp only [e1, e2, e3]
      split at h
      · rename_i f1 f2 f3
        simp only [f1, f2, f3]
        split at h
        · rename_i hc
          simp only [Option.some.injEq, Prod.mk.injEq] at h
          obtain ⟨rfl, rfl, rfl⟩ := h
          rw [if_pos hc]; exact ⟨rfl, trivial⟩
        · cases h
      · cases h
    · cases h
  | slice t x lo hi mx =>
    simp only [stepD, sSlice, sliceD_eq] at h ⊢
    split at h
    · rename_i r e
      simp only [e]; exact no h
    · cases h
  | fieldAddr t x i => exact ok h
  | field t x i => exact ok h
  | indexAddr t x i => exact ok h
  | index t x i => exact ok h
  | extract x i =>
    simp only [stepD, sExtract] at h ⊢
    split at h
    · rename_i cs e
      simp only [e]
      split at h
      · rename_i c ec
        simp only [ec]; exact no h
      · cases h
    · cases h
  | makeMap t r =>
    simp only [stepD, sMakeMap] at h ⊢
    cases r with
    | none =>
      simp only [Option.some.injEq, Prod.mk.injEq] at h
      obtain ⟨rfl, rfl, rfl⟩ := h
      exact ⟨rfl, trivial⟩
    | some _ => cases h
  | lookup t x k ok =>
    simp only [stepD, sLookup, lookD_eq] at h ⊢
    split at h
    · rename_i r ids e
      simp only [e]; exact no h
    · cases h
  | mapUpdate t m k x =>
    simp only [stepD, sUpdate] at h ⊢
    split at h
    · rename_i b id e
      simp only [Option.some.injEq, Prod.mk.injEq] at h
      obtain ⟨rfl, rfl, rfl⟩ := h
      obtain ⟨q1, q2⟩ := updD_some e
      simp only [q1]
      exact ⟨rfl, q2⟩
    · cases h
  | insert t m k x =>
    simp only [stepD, sUpdate] at h ⊢
    split at h
    · rename_i b id e
      simp only [Option.some.injEq, Prod.mk.injEq] at h
      obtain ⟨rfl, rfl, rfl⟩ := h
      obtain ⟨q1, q2⟩ := updD_some e
      simp only [q1]
      exact ⟨rfl, q2⟩
    · cases h
  | call c =>
    obtain ⟨callee, args, argTypes⟩ := c
    cases callee with
    | value f => cases h
    | invoke r m => cases h
    | builtin b =>
      simp only [stepD, sCall] at h
      cases b <;> simp only [sBuiltin] at h <;> try (cases h; done)
      case len =>
        simp only [sLen] at h
        split at h
        · rename_i x t e1 e2
          simp only [e1, e2]
          split at h
          · rename_i r el
            simp only [el]; exact no h
          · rename_i el
            simp only [el]
            rw [lenD_eq] at h
            split at h
            · rename_i r ids em
              simp only [em]; exact no h
            · cases h
        · cases h
      case delete =>
        simp only [sDelete] at h
        split at h
        · rename_i mm kk t tk e1 e2
          simp only [e1, e2]
          split at h
          · rename_i b id e3
            simp only [Option.some.injEq, Prod.mk.injEq] at h
            obtain ⟨rfl, rfl, rfl⟩ := h
            obtain ⟨q1, q2⟩ := delD_some e3
            simp only [q1]
            exact ⟨rfl, q2⟩
          · cases h
        · cases h
      case max => simp only [sMax] at h; exact ok h
      case min => simp only [sMax] at h; exact ok h
      case append =>
        simp only [sAppend] at h
        split at h
        · rename_i x y t t' e1 e2
          simp only [e1, e2]
          split at h
          · rename_i e e' g1 g2
            simp only [g1, g2]
            split at h
            · rename_i s by_ zs q1 q2 q3
              simp only [q1, q2, q3]
              split at h
              · rename_i hc
                rw [if_pos hc]
                rw [rdSlD_eq] at h
                split at h
                · rename_i n new ids e3
                  simp only [e3]
                  split at h
                  · rename_i hok
                    rw [if_pos hok]
                    split at h
                    · rename_i r dl fp0 e4
                      simp only [Option.some.injEq, Prod.mk.injEq] at h
                      obtain ⟨rfl, rfl, rfl⟩ := h
                      obtain ⟨k1, k2⟩ := appendD_some e4
                      simp only [k1]; exact ⟨trivial, k2⟩
                    · cases h
                  · cases h
                · cases h
              · cases h
            · cases h
          · rename_i e g1 g2
            simp only [g1, g2]
            split at h
            · rename_i str
              split at h
              · rename_i q1 q2 q3 q4
                simp only [q1, q2, q3, q4]
                split at h
                · rename_i r dl fp0 e4
                  simp only [Option.some.injEq, Prod.mk.injEq] at h
                  obtain ⟨rfl, rfl, rfl⟩ := h
                  obtain ⟨k1, k2⟩ := appendD_some e4
                  simp only [k1]; exact ⟨trivial, k2⟩
                · cases h
              · cases h
            · cases h
          · cases h
        · cases h
      case copy =>
        simp only [sCopy] at h
        split at h
        · rename_i x y t t' e1 e2
          simp only [e1, e2]
          split at h
          · rename_i e id s' off len x0 g1
            simp only [g1]
            split at h
            · rename_i s q1
              simp only [q1]
              split at h
              · rename_i hc
                rw [if_pos hc]
                rw [rdSlD_eq] at h
                split at h
                · rename_i n src ids e3
                  simp only [e3]
                  split at h
                  · rename_i old e4
                    simp only [e4]
                    split at h
                    · rename_i new e5
                      simp only [e5]
                      split at h
                      · cases h
                      · rename_i hok
                        rw [if_neg hok]
                        split at h
                        · rename_i l e6
                          simp only [Option.some.injEq, Prod.mk.injEq] at h
                          obtain ⟨rfl, rfl, rfl⟩ := h
                          simp only [e6]
                          exact ⟨rfl, get_lt ((nthB_eq hp _).symm.trans e4)⟩
                        · cases h
                    · cases h
                  · cases h
                · cases h
              · cases h
            · cases h
          · cases h
        · cases h
      case clear =>
        simp only [sClear] at h
        split at h
        · rename_i x t e1 e2
          simp only [e1, e2]
          split at h
          · rename_i e id s' off len x0 g1
            simp only [g1]
            split at h
            · rename_i s zs q1 q2
              simp only [q1, q2]
              split at h
              · rename_i hc
                rw [if_pos hc]
                split at h
                · rename_i old e4
                  simp only [e4]
                  split at h
                  · rename_i l e6
                    simp only [Option.some.injEq, Prod.mk.injEq] at h
                    obtain ⟨rfl, rfl, rfl⟩ := h
                    simp only [e6]
                    exact ⟨rfl, get_lt ((nthB_eq hp _).symm.trans e4)⟩
                  · cases h
                · cases h
              · cases h
            · cases h
          · cases h
        · cases h
  | _ => cases h

end Go.Ab
namespace Go.Ab
open Go

def RunRel (runT : RunsT) (run : Runs) : Prop := ∀ g args t m rs t' m' w, runT g args t m = some (rs, t', m', w) → ∀ hp, HR t m hp → ∃ hp', run g args hp = some (rs, hp', w) ∧ HR t' m' hp'

section
variable {C : Cfg} {runT' : RunsT} {run : Runs}

theorem hr_take {t : FT Blk} {m m' : Nat} {hp hp' : List Blk} (h : HR t m' hp') (hm : m = hp.length) (hl : hp.length ≤ hp'.length) : HR t m (takeB hp.length hp') := by
  rw [takeB_eq]
  refine ⟨by simp [hm, hl], fun i hi => ?_⟩
  rw [List.getElem?_take, if_pos (by omega)]
  exact h.2 i (by have := h.1; omega)

theorem callT_some {β : Type} {b : β} (hr : RunRel runT' run) (hE : RunEff run) {dr : Bool} {t : FT Blk} {m : Nat} {hp : List Blk} {g : FuncId} {args : List PV} {c : PV → FT Blk → Nat → FP → Option β} (h : callT C runT' t m g args c = some b) (hh : HR t m hp) :
    ∃ v hp' fp t' m', callP C run dr hp g args = some (v, hp', fp) ∧ HR t' m' hp' ∧ c v t' m' fp = some b := by
  unfold callT at h
  rw [fcL_eq] at h
  unfold callP
  split at h
  · rename_i hs
    rw [if_pos hs]
    split at h
    · rename_i rs t' m' w e
      obtain ⟨hp', h1, h2⟩ := hr _ _ _ _ _ _ _ _ e hp hh
      obtain ⟨l1, _⟩ := hE _ _ _ _ _ _ h1
      rw [h2.rd, wrBelowD_eq, hh.1] at h
      rw [h1]
      dsimp only
      cases hb : (idfreeL rs && wrBelow hp' hp.length (oldW hp.length w)) with
      | true =>
        rw [hb] at h
        simp only [cond_true, fcW_eq] at h ⊢
        exact ⟨_, _, _, _, _, rfl, hr_take h2 rfl l1, h⟩
      | false =>
        rw [hb] at h
        simp only [cond_false, fcW_eq, h2.1] at h ⊢
        refine ⟨_, _, _, _, _, rfl, ?_, h⟩
        rw [← h2.1]; exact h2
    · cases h
  · rename_i hs
    rw [if_neg hs]
    rw [hh.rd, snapD_eq] at h
    split at h
    · cases h
    · rename_i args' ids e
      simp only [e]
      split at h
      · rename_i rs er
        simp only [er]
        cases hb : rs.all scalarP with
        | true =>
          rw [hb] at h
          simp only [cond_true] at h ⊢
          exact ⟨_, _, _, _, _, rfl, hh, h⟩
        | false =>
          rw [hb] at h
          simp only [cond_false] at h ⊢
          obtain ⟨t', h1, h2⟩ := roT_some _ _ _ _ _ h hh
          exact ⟨_, _, _, _, _, rfl, h2, h1⟩
      · rename_i er
        simp only [er]
        split at h
        · cases h
        · rename_i rs t1 m1 w1 e1
          obtain ⟨hp1, h1, h2⟩ := hr _ _ _ _ _ _ _ _ e1 [] ⟨rfl, fun i hi => absurd hi (Nat.not_lt_zero _)⟩
          rw [h2.rd, finishD_eq] at h
          simp only [h1]
          split at h
          · cases h
          · rename_i rs' kept ek
            simp only [ek]
            cases hb : rs'.all scalarP with
            | true =>
              rw [hb] at h
              simp only [cond_true] at h ⊢
              exact ⟨_, _, _, _, _, rfl, hh, h⟩
            | false =>
              rw [hb] at h
              simp only [cond_false] at h ⊢
              obtain ⟨t2, h3, h4⟩ := roT_some _ _ _ _ _ h hh
              obtain ⟨t3, m3, h5, h6⟩ := addT_some _ _ _ _ _ h3 h4
              simp only [fcW_eq, hh.1] at h5
              exact ⟨_, _, _, _, _, rfl, h6, h5⟩

theorem operT_some {β : Type} {b : β} (hr : RunRel runT' run) (hE : RunEff run) {dr : Bool} {ops : Array Oper} {o : Oper} {n : Nat} {fr : FT PV} {frl : List PV} {t : FT Blk} {m : Nat} {hp : List Blk} {w : List Nat} {c : FT PV → FT Blk → Nat → List Nat → FP → Option β}
    (h : operT C runT' ops o n fr t m w c = some b) (hh : HR t m hp) (hf : RF fr n frl) :
    ∃ st' fp fr' t' m', operP C run dr ops o ⟨frl, hp, w⟩ = some (st', fp) ∧ HR t' m' st'.hp ∧ RF fr' n st'.fr ∧ c fr' t' m' st'.wr fp = some b := by
  unfold operT at h
  rw [hf.rf, hf.ev] at h
  have hw : wantedD ops (nth frl) o = wantedP ops frl o := rfl
  rw [hw] at h
  unfold operP valP
  split at h
  · cases h
  · rename_i ew
    obtain ⟨fr', h1, h2⟩ := putD_some h hf
    simp only [ew]
    exact ⟨_, _, fr', t, m, rfl, hh, h2, h1⟩
  · rename_i ew
    simp only [ew]
    split at h
    · rename_i cl ec
      simp only [ec]
      have hc : calleeD (evalP frl) cl = calleeP frl cl := rfl
      rw [hc] at h
      split at h
      · rename_i g args eg
        simp only [eg]
        obtain ⟨v, hp', fp, t', m', h1, h2, h3⟩ := callT_some (dr := dr) hr hE h hh
        obtain ⟨fr', h4, h5⟩ := putD_some h3 hf
        rw [adW_eq] at h4
        simp only [h1]
        exact ⟨_, _, fr', t', m', rfl, h2, h5, h4⟩
      · cases h
    · rename_i ec
      simp only [ec]
      rw [hh.rd, hh.1] at h
      split at h
      · rename_i v d fp es
        obtain ⟨k1, k2⟩ := stepD_some es
        rw [← hh.1] at h
        obtain ⟨t', m', h1, h2⟩ := appT_some h hh k2
        obtain ⟨fr', h4, h5⟩ := putD_some h1 hf
        rw [adW_eq] at h4
        simp only [k1]
        exact ⟨_, _, fr', t', m', rfl, h2, h5, h4⟩
      · cases h

theorem goT_some {β : Type} {b : β} (hr : RunRel runT' run) (hE : RunEff run) {dr : Bool} {ops : Array Oper} {n : Nat} : ∀ (l : List Oper) (fr : FT PV) (frl : List PV) (t : FT Blk) (m : Nat) (hp : List Blk) (w : List Nat) (c : FT PV → FT Blk → Nat → List Nat → List FP → Option β),
    goT C runT' ops n l fr t m w c = some b → HR t m hp → RF fr n frl → ∃ st' fps fr' t' m', goOps C run dr ops l ⟨frl, hp, w⟩ = some (st', fps) ∧ HR t' m' st'.hp ∧ RF fr' n st'.fr ∧ c fr' t' m' st'.wr fps = some b
  | [], fr, frl, t, m, hp, w, c, h, hh, hf => ⟨_, _, fr, t, m, rfl, hh, hf, h⟩
  | o :: l, fr, frl, t, m, hp, w, c, h, hh, hf => by
    have h : operT C runT' ops o n fr t m w (fun fr t m w fp => goT C runT' ops n l fr t m w fun fr t m w fps => c fr t m w (fp :: fps)) = some b := h
    obtain ⟨st1, fp, fr1, t1, m1, h1, h2, h3, h4⟩ := operT_some (dr := dr) hr hE h hh hf
    obtain ⟨st2, fps, fr2, t2, m2, h5, h6, h7, h8⟩ := goT_some (dr := dr) hr hE l _ _ _ _ _ _ _ h4 h2 h3
    refine ⟨st2, fp :: fps, fr2, t2, m2, ?_, h6, h7, h8⟩
    unfold goOps
    rw [h1]
    dsimp only
    rw [h5]
theorem goS_some (hr : RunRel runT' run) (hE : RunEff run) {dr : Bool} {ops : Array Oper} {n : Nat} {e : Ex} {fr' : FT PV} {t' : FT Blk} {m' : Nat} {w' : List Nat} : ∀ (l : List Oper) (fr : FT PV) (frl : List PV) (t : FT Blk) (m : Nat) (hp : List Blk) (w : List Nat),
    goS C runT' ops n l fr t m w = some (e, fr', t', m', w') → HR t m hp → RF fr n frl → ∃ st' fps, e = .normal ∧ goOps C run dr ops l ⟨frl, hp, w⟩ = some (st', fps) ∧ HR t' m' st'.hp ∧ RF fr' n st'.fr ∧ st'.wr = w'
  | [], fr, frl, t, m, hp, w, h, hh, hf => by
    have h : some (Ex.normal, fr, t, m, w) = some (e, fr', t', m', w') := h
    simp only [Option.some.injEq, Prod.mk.injEq] at h
    obtain ⟨rfl, rfl, rfl, rfl, rfl⟩ := h
    exact ⟨_, _, rfl, rfl, hh, hf, rfl⟩
  | o :: l, fr, frl, t, m, hp, w, h, hh, hf => by
    have h : operT C runT' ops o n fr t m w (fun fr t m w _ => goS C runT' ops n l fr t m w) = some (e, fr', t', m', w') := h
    obtain ⟨st1, fp, fr1, t1, m1, h1, h2, h3, h4⟩ := operT_some (dr := dr) hr hE h hh hf
    obtain ⟨st2, fps, h5, h6, h7, h8, h9⟩ := goS_some (dr := dr) hr hE l _ _ _ _ _ _ h4 h2 h3
    refine ⟨st2, fp :: fps, h5, ?_, h7, h8, h9⟩
    unfold goOps
    rw [h1]
    dsimp only
    rw [h6]

def ExecRel (n : Nat) (f : FT PV → FT Blk → Nat → List Nat → ResT) (f' : St → Option (Ex × St)) : Prop :=
  ∀ fr t m w e fr' t' m' w', f fr t m w = some (e, fr', t', m', w') → ∀ st : St, HR t m st.hp → RF fr n st.fr → st.wr = w → ∃ st', f' st = some (e, st') ∧ HR t' m' st'.hp ∧ RF fr' n st'.fr ∧ st'.wr = w'

theorem regT_some (hr : RunRel runT' run) (hE : RunEff run) {dr : Bool} {ops : Array Oper} {n : Nat} : ExecRel n (regT C runT' n ops dr) fun st => match regP C run ops dr st with | some st' => some (.normal, st') | none => none := by
  rintro fr t m w e fr' t' m' w' h ⟨frl, hp, wr⟩ hh hf rfl
  dsimp only at hh hf h ⊢
  unfold regT at h
  cases dr with
  | false =>
    unfold regP
    simp only [cond_false] at h
    obtain ⟨st', fps, rfl, h1, h2, h3, h4⟩ := goS_some (dr := false) hr hE _ _ _ _ _ _ _ h hh hf
    rw [h1]
    exact ⟨st', rfl, h2, h3, h4⟩
  | true =>
    simp only [cond_true] at h
    obtain ⟨st', fps, fr1, t1, m1, h1, h2, h3, h4⟩ := goT_some (dr := true) hr hE _ _ _ _ _ _ _ _ h hh hf
    have fin : some (Ex.normal, fr1, t1, m1, st'.wr) = some (e, fr', t', m', w') → ∃ st2, some (Ex.normal, st') = some (e, st2) ∧ HR t' m' st2.hp ∧ RF fr' n st2.fr ∧ st2.wr = w' := fun h => by
      simp only [Option.some.injEq, Prod.mk.injEq] at h
      obtain ⟨rfl, rfl, rfl, rfl, rfl⟩ := h
      exact ⟨st', rfl, h2, h3, rfl⟩
    have hin : (match number 0 fps with
      | [] => some st'
      | [_] => some st'
      | l => bif pairsOk (Region.before ops) l then some st' else none) = some st' ∧ some (Ex.normal, fr1, t1, m1, st'.wr) = some (e, fr', t', m', w') := by
      revert h4
      generalize number 0 fps = l
      match l with
      | [] => intro h4; exact ⟨rfl, h4⟩
      | [_] => intro h4; exact ⟨rfl, h4⟩
      | x :: y :: l =>
        intro h4
        dsimp only at h4 ⊢
        cases hq : pairsOk (Region.before ops) (x :: y :: l) with
        | true => rw [hq] at h4; exact ⟨rfl, h4⟩
        | false => rw [hq] at h4; cases h4
    obtain ⟨q1, q2⟩ := hin
    have q3 : regP C run ops true ⟨frl, hp, wr⟩ = some st' := by
      unfold regP
      rw [h1]
      exact q1
    rw [q3]
    exact fin q2

end
end Go.Ab
namespace Go.Ab
open Go

section
variable {C : Cfg} {runT' : RunsT} {run : Runs}

theorem iterT_some {n : Nat} {f : FT PV → FT Blk → Nat → List Nat → ResT} {f' : St → Option (Ex × St)} (hf : ExecRel n f f') : ∀ k, ExecRel n (iterT f k) (iterL f' k)
  | 0 => by
    rintro fr t m w e fr' t' m' w' h
    have h : (Option.none : ResT) = some (e, fr', t', m', w') := h
    cases h
  | k + 1 => by
    intro fr t m w e fr' t' m' w' h st hh hr hw
    have h : (match f fr t m w with | some (.normal, fr, t, m, w) => iterT f k fr t m w | r => r) = some (e, fr', t', m', w') := h
    unfold iterL
    split at h
    · rename_i fr1 t1 m1 w1 e1
      obtain ⟨st1, h1, h2, h3, h4⟩ := hf _ _ _ _ _ _ _ _ _ e1 st hh hr hw
      rw [h1]
      exact iterT_some hf k _ _ _ _ _ _ _ _ _ h st1 h2 h3 h4
    · rename_i hn
      obtain ⟨st1, h1, h2, h3, h4⟩ := hf _ _ _ _ _ _ _ _ _ h st hh hr hw
      rw [h1]
      cases e with
      | normal => exact absurd h (hn _ _ _ _)
      | ret => exact ⟨st1, rfl, h2, h3, h4⟩
      | exit id => exact ⟨st1, rfl, h2, h3, h4⟩

theorem execT_some (hr : RunRel runT' run) (hE : RunEff run) {n k : Nat} : ∀ (cd : Code), ExecRel n (execT C runT' n k cd) (execC C run k cd) := by
  intro cd
  have pure1 : ∀ (x : Ex) (f' : St → Option (Ex × St)), (∀ st, f' st = some (x, st)) → ExecRel n (fun fr t m w => some (x, fr, t, m, w)) f' := fun x f' hf' => by
    intro fr t m w e fr' t' m' w' h st hh hf hw
    simp only [Option.some.injEq, Prod.mk.injEq] at h
    obtain ⟨rfl, rfl, rfl, rfl, rfl⟩ := h
    exact ⟨st, hf' st, hh, hf, hw⟩
  induction cd with
  | region id ops dr =>
    intro fr t m w e fr' t' m' w' h st hh hf hw
    unfold execT at h
    unfold execC
    exact regT_some hr hE _ _ _ _ _ _ _ _ _ h st hh hf hw
  | seq a b iha ihb =>
    intro fr t m w e fr' t' m' w' h st hh hf hw
    unfold execT at h
    unfold execC
    split at h
    · rename_i e1
      obtain ⟨st1, h1, h2, h3, h4⟩ := iha _ _ _ _ _ _ _ _ _ e1 st hh hf hw
      rw [h1]
      exact ihb _ _ _ _ _ _ _ _ _ h st1 h2 h3 h4
    · rename_i hn
      obtain ⟨st1, h1, h2, h3, h4⟩ := iha _ _ _ _ _ _ _ _ _ h st hh hf hw
      rw [h1]
      cases e with
      | normal => exact absurd h (hn _ _ _ _)
      | ret => exact ⟨st1, rfl, h2, h3, h4⟩
      | exit id => exact ⟨st1, rfl, h2, h3, h4⟩
  | cond c a b iha ihb =>
    intro fr t m w e fr' t' m' w' h st hh hf hw
    unfold execT at h
    unfold execC
    rw [hf.ev] at h
    split at h
    · rename_i e1
      rw [e1]
      exact iha _ _ _ _ _ _ _ _ _ h st hh hf hw
    · rename_i e1
      rw [e1]
      exact ihb _ _ _ _ _ _ _ _ _ h st hh hf hw
    · cases h
  | block id b ih =>
    intro fr t m w e fr' t' m' w' h st hh hf hw
    unfold execT at h
    unfold execC
    split at h
    · rename_i i fr1 t1 m1 w1 e1
      obtain ⟨st1, h1, h2, h3, h4⟩ := ih _ _ _ _ _ _ _ _ _ e1 st hh hf hw
      rw [h1]
      dsimp only
      split at h
      · rename_i hi
        simp only [Option.some.injEq, Prod.mk.injEq] at h
        obtain ⟨rfl, rfl, rfl, rfl, rfl⟩ := h
        rw [if_pos hi]
        exact ⟨st1, rfl, h2, h3, h4⟩
      · rename_i hi
        simp only [Option.some.injEq, Prod.mk.injEq] at h
        obtain ⟨rfl, rfl, rfl, rfl, rfl⟩ := h
        rw [if_neg hi]
        exact ⟨st1, rfl, h2, h3, h4⟩
    · rename_i hn
      obtain ⟨st1, h1, h2, h3, h4⟩ := ih _ _ _ _ _ _ _ _ _ h st hh hf hw
      rw [h1]
      cases e with
      | normal => exact ⟨st1, rfl, h2, h3, h4⟩
      | ret => exact ⟨st1, rfl, h2, h3, h4⟩
      | exit id => exact absurd h (hn _ _ _ _ _)
  | loop b ih =>
    intro fr t m w e fr' t' m' w' h st hh hf hw
    unfold execT at h
    unfold execC
    exact iterT_some ih k _ _ _ _ _ _ _ _ _ h st hh hf hw
  | scope b ih =>
    intro fr t m w e fr' t' m' w' h st hh hf hw
    unfold execT at h
    unfold execC
    exact ih _ _ _ _ _ _ _ _ _ h st hh hf hw
  | skip => exact pure1 .normal _ fun st => rfl
  | label l => exact pure1 .normal _ fun st => rfl
  | exit id => exact pure1 (.exit id) _ fun st => rfl
  | ret => exact pure1 .ret _ fun st => rfl
  | _ =>
    intro fr t m w e fr' t' m' w' h st hh hf hw
    unfold execT at h
    cases h

theorem putsT_some {β : Type} {b : β} : ∀ (l : List PV) (k : Nat) (fr : FT PV) (c : FT PV → Option β), putsT l k fr c = some b → ∃ fr', c fr' = some b ∧ ∀ j, fr'.get j = if k ≤ j ∧ j < k + l.length then l[j - k]? else fr.get j
  | [], k, fr, c, h => ⟨fr, h, fun j => by rw [if_neg (fun hh => absurd hh.2 (Nat.not_lt.2 hh.1))]⟩
  | a :: l, k, fr, c, h => by
    have h : (fr.put k a fun fr => putsT l (Nat.succ k) fr c) = some b := h
    obtain ⟨t1, h1, h2⟩ := FT.put_some fr k a _ h
    obtain ⟨t2, h3, h4⟩ := putsT_some l _ t1 c h1
    refine ⟨t2, h3, fun j => ?_⟩
    rw [h4, h2]
    by_cases hj : j = k
    · subst hj
      rw [if_neg (by omega), if_pos rfl, if_pos ⟨Nat.le_refl _, by simp⟩]
      simp
    · rw [if_neg hj]
      by_cases hj2 : k ≤ j ∧ j < k + (a :: l).length
      · rw [if_pos hj2, if_pos (by simp at hj2 ⊢; omega)]
        rw [show j - k = (j - Nat.succ k) + 1 by omega]; simp
      · rw [if_neg hj2, if_neg (by simp at hj2 ⊢; omega)]

theorem bodyT_some (hr : RunRel runT' run) (hE : RunEff run) (k : Nat) : RunRel (bodyT C runT' k) (bodyP C run k) := by
  intro g args t m rs t' m' w h hp hh
  unfold bodyT at h
  unfold bodyP
  split at h
  · rename_i fn hfn
    simp only [hfn]
    split at h
    · rename_i c hc
      simp only [hc]
      cases hle : Nat.ble args.length fn.ntmps with
      | false => rw [hle] at h; cases h
      | true =>
        rw [hle] at h
        simp only [cond_true] at h
        have hl := Nat.le_of_ble_eq_true hle
        obtain ⟨fr0, h1, h2⟩ := putsT_some _ _ _ _ h
        have hf : RF fr0 fn.ntmps (entry fn.ntmps args) := by
          refine ⟨by rw [entry_len]; omega, fun i hi => ?_⟩
          rw [h2]
          have hlen : i < (entry fn.ntmps args).length := by rw [entry_len]; omega
          rw [List.getElem?_eq_getElem hlen]
          rcases entry_get _ _ _ _ (List.getElem?_eq_getElem hlen) with ⟨q1, q2⟩ | ⟨q1, q2⟩
          · rw [if_pos (by omega)]; simpa using q2
          · rw [if_neg (by omega), q2]
            refine FT.fill_get _ _ _ ?_
            have := Nat.lt_log2_self (n := fn.ntmps)
            show i + 1 < 2 ^ (fn.ntmps.log2 + 1)
            omega
        have key : ∀ (e : Ex) (fr1 : FT PV) (t1 : FT Blk) (m1 : Nat) (w1 : List Nat), execT C runT' fn.ntmps k c fr0 t m [] = some (e, fr1, t1, m1, w1) →
            (match resD C.T (rfT fr1 fn.ntmps) (rdT t1 m1) fn.results.toList with | some rs => fcL rs fun rs => some (rs, t1, m1, w1) | none => none) = some (rs, t', m', w) →
            ∃ st', execC C run k c ⟨entry fn.ntmps args, hp, []⟩ = some (e, st') ∧ (match resP C.T st'.fr st'.hp fn.results.toList with | some rs => some (rs, st'.hp, st'.wr) | none => none) = some (rs, st'.hp, w) ∧ HR t' m' st'.hp := fun e fr1 t1 m1 w1 he hh2 => by
          obtain ⟨st', g1, g2, g3, g4⟩ := execT_some hr hE c _ _ _ _ _ _ _ _ _ he ⟨entry fn.ntmps args, hp, []⟩ hh hf rfl
          rw [g3.rf, g2.rd, resD_eq] at hh2
          refine ⟨st', g1, ?_⟩
          split at hh2
          · rename_i rs' er
            rw [fcL_eq] at hh2
            simp only [Option.some.injEq, Prod.mk.injEq] at hh2
            obtain ⟨rfl, rfl, rfl, rfl⟩ := hh2
            exact ⟨by simp only [g4], g2⟩
          · cases hh2
        split at h1
        · rename_i he
          obtain ⟨st', g1, g2, g3⟩ := key _ _ _ _ _ he h1
          exact ⟨st'.hp, by rw [g1]; exact g2, g3⟩
        · rename_i he
          obtain ⟨st', g1, g2, g3⟩ := key _ _ _ _ _ he h1
          exact ⟨st'.hp, by rw [g1]; exact g2, g3⟩
        · cases h1
    · cases h
  · cases h

theorem sorcT_some {f : List PV → (Nat → Option Blk) → Option (List PV × Option (Nat × Blk))} {args rs : List PV} {t t' : FT Blk} {m m' : Nat} {w : List Nat} (h : sorcT f args t m = some (rs, t', m', w)) {hp : List Blk} (hh : HR t m hp) :
    ∃ hp', sorcRun f args hp = some (rs, hp', w) ∧ HR t' m' hp' := by
  unfold sorcT at h
  rw [hh.rd] at h
  unfold sorcRun
  split at h
  · rename_i rs0 e
    rw [fcL_eq] at h
    simp only [Option.some.injEq, Prod.mk.injEq] at h
    obtain ⟨rfl, rfl, rfl, rfl⟩ := h
    rw [e]
    exact ⟨hp, rfl, hh⟩
  · rename_i rs0 id b e
    cases hb : Nat.blt id m with
    | false => rw [hb] at h; cases h
    | true =>
      rw [hb] at h
      simp only [cond_true, fcL_eq, fcN_eq] at h
      have hid : id < hp.length := by rw [← hh.1]; exact blt_iff.1 hb
      obtain ⟨t1, h1, h2⟩ := FT.put_some t id _ _ h
      simp only [Option.some.injEq, Prod.mk.injEq] at h1
      obtain ⟨rfl, rfl, rfl, rfl⟩ := h1
      rw [e]
      simp only [blt_iff.2 hid, cond_true]
      exact ⟨_, rfl, hh.set hid h2⟩
  · cases h

theorem runT_ok (C : Cfg) : ∀ k, RunRel (runT C k) (runK C k)
  | 0 => by
    intro g args t m rs t' m' w h
    have h : (Option.none : Option (List PV × FT Blk × Nat × List Nat)) = some (rs, t', m', w) := h
    cases h
  | k + 1 => by
    intro g args t m rs t' m' w h hp hh
    have h : (match C.sorc g with | some f => sorcT f args t m | none => bodyT C (runT C k) k g args t m) = some (rs, t', m', w) := h
    show ∃ hp', (match C.sorc g with | some f => sorcRun f args hp | none => bodyP C (runK C k) k g args hp) = some (rs, hp', w) ∧ HR t' m' hp'
    cases hf : C.sorc g with
    | some f =>
      rw [hf] at h
      exact sorcT_some h hh
    | none =>
      rw [hf] at h
      exact bodyT_some (runT_ok C k) (runK_eff k) k g args t m rs t' m' w h hp hh

end
end Go.Ab
