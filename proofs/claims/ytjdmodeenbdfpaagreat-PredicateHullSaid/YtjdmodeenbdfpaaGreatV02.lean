/- An abstract interpreter over the model's code and its soundness, part 2; each lemma states its conditions. -/
import Derived.Test.YtjdmodeenbdfpaaGreatV01
import Derived.Deep.AppendSrc
import Derived.Laws.IdiomStrings
import Derived.Laws.MakeOwn
import Derived.Deep.Upon
set_option linter.unusedSimpArgs false
set_option linter.unusedVariables false
namespace Go.Ab
open Go List
theorem xr {P:Program}{α:Type} : ∀ (s:Sem α) (v:α),iT P s=some v→∀ w,s.run P w = .ok v w:=by
 intro s
 induction s with
 | pure a=>intro v h w;simp[iT] at h;simp[h]
 | program k ih=>intro v h w;simp only[iT] at h;simp only[Sem.run];exact ih P v h w
 | mark m k ih=>intro v h w;simp only[iT] at h;simp only[Sem.run];exact ih v h w
 | _=>intro v h w;simp[iT] at h
theorem lK (k:IntKind)(n:Int):bA k n=k.wrap n:=by
 unfold bA
 cases h:(decide (loK k≤n) && decide (n≤hiK k)) with
 | false=>rfl
 | true =>
  simp only[Bool.and_eq_true,decide_eq_true_eq] at h
  obtain⟨h1,h2⟩:=h
  cases k <;> simp only[loK,hiK] at h1 h2 <;> simp only[cond_true,IntKind.wrap,IntKind.bits,IntKind.signed] <;> simp <;> omega
theorem aef {op:BinOp}{k:IntKind}{a b:Int}{v:Value}(h:bf op k a b=some v)(P:Program)(t:TypeId)(x y:Operand)(w:World) :
  (do eqGuard op t x y (.int k a) (.int k b);binOp op t (.int k a) (.int k b)).run P w = .ok v w:=by
 cases op <;> simp only[bf] at h
 case add=>simp at h;subst h;simp[eqGuard,binOp,Op.intArith,lK]
 case sub=>simp at h;subst h;simp[eqGuard,binOp,Op.intArith,lK]
 case mul=>simp at h;subst h;simp[eqGuard,binOp,Op.intArith,lK]
 case quo =>
  split at h
  ·cases h
  ·rename_i hb;simp at h;subst h;simp[eqGuard,binOp,Op.intDiv,lK,hb]
 case rem =>
  split at h
  ·cases h
  ·rename_i hb;simp at h;subst h;simp[eqGuard,binOp,Op.intDiv,hb]
 case eql=>simp at h;subst h;simp[eqGuard,binOp,Op.intCmp]
 case neq=>simp at h;subst h;simp[eqGuard,binOp,Op.intCmp]
 case lss=>simp at h;subst h;simp[eqGuard,binOp,Op.intCmp]
 case leq=>simp at h;subst h;simp[eqGuard,binOp,Op.intCmp]
 case gtr=>simp at h;subst h;simp[eqGuard,binOp,Op.intCmp]
 case geq=>simp at h;subst h;simp[eqGuard,binOp,Op.intCmp]
 all_goals cases h
theorem tC (s:ByteArray):s.toList=bQ s:=by
 unfold bQ
 have key:∀ (n i:Nat) (r:List UInt8),s.size - i=n→ByteArray.toList.loop s i r=r.reverse++s.data.toList.drop i:=by
  intro n
  induction n with
  | zero =>
   intro i r h
   unfold ByteArray.toList.loop
   have : ¬ i<s.size:=by omega
   have h2:s.data.toList.length≤i:=by
    have:s.data.toList.length=s.size:=by rw[Array.length_toList];rfl
    omega
   rw[if_neg this,drop_of_length_le h2]
   simp
  | succ n ih =>
   intro i r h
   unfold ByteArray.toList.loop
   have hi:i<s.size:=by omega
   have hi':i<s.data.toList.length:=by
    have:s.data.toList.length=s.size:=by rw[Array.length_toList];rfl
    omega
   rw[if_pos hi,ih (i+1) _ (by omega),drop_eq_getElem_cons hi']
   simp[ByteArray.get!]
   rw[getElem!_pos s.data i (by simpa using hi')]
 have:=key s.size 0 [] (by omega)
 simpa [ByteArray.toList] using this
theorem tr (a b:List UInt8):eqL a b=(a == b):=by
 induction a generalizing b with
 | nil=>cases b <;> simp[eqL]
 | cons x a ih =>
  cases b with
  | nil=>simp[eqL]
  | cons y b =>
   simp only[eqL,ih]
   have:(x.toNat == y.toNat)=(x == y):=by
    rw[Bool.eq_iff_iff];simp[UInt8.toNat_inj]
   rw[this];rfl
theorem agG (a b:List UInt8):ltL a b=Op.bytesLess a b:=by
 induction a generalizing b with
 | nil=>cases b <;> simp[ltL,Op.bytesLess]
 | cons x a ih =>
  cases b with
  | nil=>simp[ltL,Op.bytesLess]
  | cons y b =>
   simp only[ltL,Op.bytesLess,ih]
   have h1:(x.toNat == y.toNat)=(x == y):=by
    rw[Bool.eq_iff_iff];simp[UInt8.toNat_inj]
   have h2:x.toNat.blt y.toNat=decide (x<y):=by
    rw[Bool.eq_iff_iff];simp[UInt8.lt_iff_toNat_lt,Nat.blt];omega
   rw[h1,h2]
   cases decide (x<y) <;> simp
theorem fU (s:ByteArray):(bQ s).length=s.size:=by
 unfold bQ;rw[Array.length_toList];rfl
theorem fk (l:List UInt8):bQ (mkStr l)=l:=by simp[bQ,mkStr]
theorem gE (s:ByteArray):mkStr (bQ s)=s:=by
 cases s with | mk d=>simp[mkStr,bQ]
theorem Dc (a b:ByteArray):a++b=mkStr (bQ a++bQ b):=by
 have:bQ (a++b)=bQ a++bQ b:=by simp[bQ,ByteArray.data_append]
 rw[← gE (a++b),this]
theorem aed {op:BinOp}{a b:ByteArray}{v:Value}(h:fw op a b=some v)(P:Program)(t:TypeId)(x y:Operand)(w:World) :
  (do eqGuard op t x y (.string a) (.string b);binOp op t (.string a) (.string b)).run P w = .ok v w:=by
 have e:∀ op,binOp op t (.string a) (.string b)=Op.stringOp op a b:=fun op=>by cases op <;> rfl
 cases op <;> simp only[fw] at h
 case add =>
  split at h
  ·cases h
  ·rename_i hn
   simp at h;subst h
   simp only[fU] at hn
   have hn' : ¬ (9223372036854775807:Int)<(a.size:Int)+(b.size:Int):=by omega
   simp[eqGuard,e,Op.stringOp,IntKind.max,IntKind.signed,IntKind.bits,hn',Dc]
 all_goals first
  | (simp at h;subst h;simp[eqGuard,e,Op.stringOp,tC,tr,agG];done)
  | (simp at h;done)
theorem xH {w:World}{M:Nat→Prop}{σ:List Addr}{L:Nat→Prop}(v:Value):V w M σ L (av v) v:=by
 cases v <;> simp only[av] <;> try exact .sc _
 rename_i cs
 refine .agg _ _ (by simp) (fun k c u h1 h2 => ?_)
 rw[getElem?_map] at h1
 have:cs.toList[k]?=some u:=by simpa using h2
 rw[this] at h1
 simp at h1;subst h1;exact .sc u
theorem V.lv {w:World}{M:Nat→Prop}{σ:List Addr}{L:Nat→Prop}{v u:Value}(h:V w M σ L (.sc v) u):u=v:=by cases h;rfl
theorem zJ {w:World}{M:Nat→Prop}{σ:List Addr}{L:Nat→Prop}{cs:Ψ}{l:List Value}(h:kO cs=some l)(vs:List Value)(hl:cs.length=vs.length)
  (hv:∀ (k:Nat) c v,cs[k]?=some c→vs[k]?=some v→V w M σ L c v):vs=l:=by
 induction cs generalizing l vs with
 | nil=>simp[kO] at h;subst h;cases vs with
  | nil=>rfl
  | cons v vs=>simp at hl
 | cons c cs ih =>
  cases c with
  | sc v =>
   simp only[kO] at h
   cases ht:kO cs with
   | none=>simp[ht] at h
   | some l' =>
    simp[ht] at h;subst h
    cases vs with
    | nil=>simp at hl
    | cons u vs =>
     have h0:=hv 0 (.sc v) u (by simp) (by simp)
     cases h0
     rw[ih ht vs (by simpa using hl) (fun k c v h1 h2=>hv (k+1) c v (by simpa using h1) (by simpa using h2))]
  | _=>simp[kO] at h
theorem zL {w:World}{M:Nat→Prop}{σ:List Addr}{L:Nat→Prop}{p:PV}{v:Value}(h:G4 p=true)(hv:V w M σ L p v):∃ a l c,v = .slice (some a) l c:=by
 cases hv <;> simp[G4] at h
 ·exact⟨_,_,_,rfl⟩
 ·exact⟨_,_,_,rfl⟩
theorem QL {P:Program}{w:World}{M:Nat→Prop}{σ:List Addr}{L:Nat→Prop}{op:BinOp}{t:TypeId}{k k':IntKind}{m n:Int}{r:PV}(h:au P op t k m k' n=some r)(x y:Operand) :
  ∃ v,(do eqGuard op t x y (.int k m) (.int k' n);binOp op t (.int k m) (.int k' n)).run P w = .ok v w∧V w M σ L r v:=by
 unfold au at h
 split at h
 ·rename_i v hv
  simp at h;subst h
  split at hv
  ·rename_i e;subst e
   exact⟨v,aef hv P t x y w,.sc v⟩
  ·cases hv
 ·cases hr:iT P (binOp op t (.int k m) (.int k' n)) with
  | none=>simp[hr] at h
  | some v =>
   simp[hr] at h;subst h
   refine⟨v,?_,xH v⟩
   have:=xr _ _ hr w
   have hg:(eqGuard op t x y (.int k m) (.int k' n)).run P w = .ok () w:=by cases op <;> rfl
   simp only[Sem.run_bind,hg,Result.andThen_ok,this]
theorem run_equal_bool {P:Program}{T:Tab}(hT:gq P T){t:TypeId}(hu:und T t=some .bool)(m n:Bool)(w:World):(Op.equal t (.bool m) (.bool n)).run P w = .ok (m == n) w:=by
 have key:∀ d,(Op.equalIn (d+1) t (.bool m) (.bool n)).run P w = .ok (m == n) w:=fun d=>by
  rw[Op.equalIn];simp only[Sem.run_bind,dy hT hu,Result.andThen_ok];rfl
 exact key 9999
theorem yW {P:Program}{T:Tab}(hT:gq P T){t e:TypeId}(hu:und T t=some (.slice e))(a:Option Addr)(l c:Nat)(w:World):(Op.equal t (.slice a l c) (.slice none 0 0)).run P w = .ok a.isNone w:=by
 have key:∀ d,(Op.equalIn (d+1) t (.slice a l c) (.slice none 0 0)).run P w = .ok a.isNone w:=fun d=>by
  rw[Op.equalIn];simp only[Sem.run_bind,dy hT hu,Result.andThen_ok]
  cases a <;> rfl
 exact key 9999
theorem JR {P:Program}{T:Tab}(hT:gq P T){w:World}{M:Nat→Prop}{σ:List Addr}{L:Nat→Prop}{op:BinOp}{t:TypeId}{m n:Bool}{r:PV}(h:dK T op t m n=some r)(x y:Operand) :
  ∃ v,(do eqGuard op t x y (.bool m) (.bool n);binOp op t (.bool m) (.bool n)).run P w = .ok v w∧V w M σ L r v:=by
 unfold dK at h
 split at h
 ·rename_i hu
  simp at h;subst h
  refine⟨.bool (m == n),?_,.sc _⟩
  have hg:(eqGuard .eql t x y (.bool m) (.bool n)).run P w = .ok () w:=rfl
  simp only[Sem.run_bind,hg,Result.andThen_ok]
  simp[binOp,run_equal_bool hT hu]
 ·rename_i hu
  simp at h;subst h
  refine⟨.bool (m != n),?_,.sc _⟩
  have hg:(eqGuard .neq t x y (.bool m) (.bool n)).run P w = .ok () w:=rfl
  simp only[Sem.run_bind,hg,Result.andThen_ok]
  simp[binOp,run_equal_bool hT hu,bne]
 ·cases h
theorem kQ {P:Program}{T:Tab}(hT:gq P T){t e:TypeId}(hu:und T t=some (.slice e))(a:Option Addr)(l c:Nat)(x y:Operand)(w:World) :
  (do eqGuard .eql t x y (.slice a l c) (.slice none 0 0);binOp .eql t (.slice a l c) (.slice none 0 0)).run P w = .ok (.bool a.isNone) w ∧
  (do eqGuard .neq t x y (.slice a l c) (.slice none 0 0);binOp .neq t (.slice a l c) (.slice none 0 0)).run P w = .ok (.bool !a.isNone) w:=by
 have hg:∀ op,(eqGuard op t x y (.slice a l c) (.slice none 0 0)).run P w = .ok () w:=fun op=>by cases op <;> rfl
 have he:=yW hT hu a l c w
 constructor
 ·simp only[Sem.run_bind,hg,Result.andThen_ok];simp[binOp,he]
 ·simp only[Sem.run_bind,hg,Result.andThen_ok];simp[binOp,he]
theorem QK {P:Program}{T:Tab}(hT:gq P T){w:World}{M:Nat→Prop}{σ:List Addr}{L:Nat→Prop}{op:BinOp}{t:TypeId}{p r:PV}{a:Value}(h:JQ T op t p=some r)
  (hp:V w M σ L p a) (x y:Operand):∃ v,(do eqGuard op t x y a (.slice none 0 0);binOp op t a (.slice none 0 0)).run P w = .ok v w∧V w M σ L r v:=by
 unfold JQ at h
 split at h
 ·rename_i e _ hu hs
  simp at h;subst h
  obtain⟨a',l,c,rfl⟩:=zL hs hp
  exact⟨_,(kQ hT hu (some a') l c x y w).1,.sc _⟩
 ·rename_i e _ hu hs
  simp at h;subst h
  obtain⟨a',l,c,rfl⟩:=zL hs hp
  exact⟨_,(kQ hT hu (some a') l c x y w).2,.sc _⟩
 ·rename_i e hu hs hn
  simp at h;subst h
  unfold Cj at hn
  split at hn
  ·cases hp
   exact⟨_,(kQ hT hu none 0 0 x y w).1,.sc _⟩
  ·cases hn
 ·rename_i e hu hs hn
  simp at h;subst h
  unfold Cj at hn
  split at hn
  ·cases hp
   exact⟨_,(kQ hT hu none 0 0 x y w).2,.sc _⟩
  ·cases hn
 ·cases h
theorem QM {P:Program}{w:World}{M:Nat→Prop}{σ:List Addr}{L:Nat→Prop}{op:BinOp}{t:TypeId}{m n:Ψ}{r:PV}{a b:Array Value}(h:JS P op t m n=some r)
  (hm:m.length=a.size∧∀ (k:Nat) c v,m[k]?=some c→a[k]?=some v→V w M σ L c v) (hn:n.length=b.size∧∀ (k:Nat) c v,n[k]?=some c→b[k]?=some v→V w M σ L c v) (x y:Operand) :
  ∃ v,(do eqGuard op t x y (.agg a) (.agg b);binOp op t (.agg a) (.agg b)).run P w = .ok v w∧V w M σ L r v:=by
 unfold JS at h
 split at h
 ·rename_i u v hu hv
  have e1:=zJ hu a.toList (by simpa using hm.1) (fun k c v h1 h2=>hm.2 k c v h1 (by simpa using h2))
  have e2:=zJ hv b.toList (by simpa using hn.1) (fun k c v h1 h2=>hn.2 k c v h1 (by simpa using h2))
  subst e1;subst e2
  cases hr:iT P (do eqGuard op t (.const undef) (.const undef) (.agg a.toList.toArray) (.agg b.toList.toArray);binOp op t (.agg a.toList.toArray) (.agg b.toList.toArray)) with
  | none=>simp[hr] at h
  | some z =>
   simp[hr] at h;subst h
   refine⟨z,?_,xH z⟩
   have:=xr _ _ hr w
   have hg:∀ x y,eqGuard op t x y (.agg a) (.agg b)=eqGuard op t (.const undef) (.const undef) (.agg a) (.agg b):=fun x y=>by cases op <;> rfl
   simp only[Array.toArray_toList] at this
   rw[hg x y]
   exact this
 ·cases h
theorem aee {P:Program}{T:Tab}(hT:gq P T){w:World}{M:Nat→Prop}{σ:List Addr}{L:Nat→Prop}{op:BinOp}{t:TypeId}{p q r:PV}{a b:Value}(h:aZ P T op t p q=some r)
  (hp:V w M σ L p a) (hq:V w M σ L q b) (x y:Operand):∃ v,(do eqGuard op t x y a b;binOp op t a b).run P w = .ok v w∧V w M σ L r v:=by
 unfold aZ at h
 split at h
 ·cases hp;cases hq
  exact QL h x y
 ·cases hp;cases hq
  rename_i m n
  cases hs:fw op m n with
  | none=>simp[hs] at h
  | some v =>
   simp[hs] at h;subst h
   exact⟨v,aed hs P t x y w,.sc v⟩
 ·cases hp;cases hq
  exact JR hT h x y
 ·cases hq
  exact QK hT h hp x y
 ·cases hp with | agg _ a h1 h2=>cases hq with | agg _ b h3 h4=>exact QM h ⟨h1,h2⟩ ⟨h3,h4⟩ x y
 ·cases h
theorem afk {P:Program}{w:World}{M:Nat→Prop}{σ:List Addr}{L:Nat→Prop}{op:UnOp}{p r:PV}{a:Value}(h:unP op p=some r)(hp:V w M σ L p a) :
  ∃ v,(Op.unary op a).run P w = .ok v w∧V w M σ L r v:=by
 unfold unP at h
 split at h
 ·cases hp;simp at h;subst h
  exact⟨_,by simp[Op.unary,Op.intArith,lK],.sc _⟩
 ·cases hp;simp at h;subst h
  exact⟨_,by simp[Op.unary],.sc _⟩
 ·cases h
section
variable {P:Program} {T:Tab} (hT:gq P T) {w:World} {M:Nat→Prop} {L:Nat→Prop} {σ:List Addr}
def Rel (w:World)(M:Nat→Prop)(σ:List Addr)(L:Nat→Prop)(cs:Ψ)(vs:Array Value):Prop :=
 cs.length=vs.size∧∀ (k:Nat) c v,cs[k]?=some c→vs[k]?=some v→V w M σ L c v
theorem Rel.one {p:PV}{v:Value}(h:V w M σ L p v):Rel w M σ L [p] #[v] :=
 ⟨rfl,fun k c u h1 h2=>by
  cases k with
  | zero=>simp at h1 h2;subst h1;subst h2;exact h
  | succ k=>simp at h1⟩
theorem V.yx {p:PV}{v:Value}{cs:Ψ}(h:p.cells?=some cs)(hv:V w M σ L p v):Rel w M σ L cs v.cells:=by
 have hv0:=hv
 cases hv with
 | any=>simp[PV.cells?] at h
 | tup=>simp[PV.cells?] at h
 | agg ds vs hl hd=>simp[PV.cells?] at h;subst h;exact⟨hl,hd⟩
 | sc v =>
  unfold PV.cells? at h
  split at h <;> simp_all
  rename_i hna
  have e:v.cells=#[v]:=by cases v <;> first | rfl | exact absurd rfl (hna _)
  rw[e,← h]
  exact Rel.one (.sc v)
 | _ =>
  simp[PV.cells?] at h
  rw[← h]
  exact Rel.one hv0
theorem BS (z:Array Value):Rel w M σ L (z.toList.map .sc) z :=
 ⟨by simp,fun k c u h1 h2=>by
  rw[getElem?_map] at h1
  have:z.toList[k]?=some u:=by simpa using h2
  rw[this] at h1;simp at h1;subst h1;exact .sc u⟩
theorem A0 (off:Nat):∀ (l:List Value) (n:Nat) (cells:Array Value),off+n+l.length≤cells.size →
  ((l.zipIdx n).foldl (fun cs (x:Value × Nat)=>cs.setIfInBounds (off+x.2) x.1) cells).size=cells.size ∧
  ∀ k,((l.zipIdx n).foldl (fun cs (x:Value × Nat)=>cs.setIfInBounds (off+x.2) x.1) cells)[k]?=if off+n≤k∧k<off+n+l.length then l[k - (off+n)]? else cells[k]?
 | [],n,cells,_=>⟨rfl,fun k=>by rw[if_neg (by simp)];rfl⟩
 | v::l,n,cells,h=>by
  simp only[length_cons] at h
  obtain⟨h1,h2⟩:=A0 off l (n+1) (cells.setIfInBounds (off+n) v) (by simp;omega)
  simp only[zipIdx_cons,foldl_cons]
  refine⟨by rw[h1];simp,fun k => ?_⟩
  rw[h2 k]
  simp only[length_cons]
  by_cases hk:off+(n+1)≤k∧k<off+(n+1)+l.length
  ·rw[if_pos hk,if_pos (by omega)]
   obtain⟨m,hm⟩:∃ m,k - (off+n)=m+1:=⟨k - (off+n) - 1,by omega⟩
   rw[hm,getElem?_cons_succ];congr 1;omega
  ·rw[if_neg hk]
   by_cases hk0:k=off+n
   ·subst hk0
    rw[if_pos (by omega)]
    have:off+n<cells.size:=by omega
    simp[this]
   ·rw[if_neg (by omega),Array.getElem?_setIfInBounds_ne (Ne.symm hk0)]
theorem Tk {cs cs' new:Ψ}{vs nv:Array Value}{vs':Array Value}{off:Nat}(h:ca cs off new=some cs')(hc:Rel w M σ L cs vs)(hn:Rel w M σ L new nv)
  (hs:vs'.size=vs.size) (hv:∀ k,vs'[k]?=if off≤k∧k<off+nv.size then nv[k - off]? else vs[k]?):Rel w M σ L cs' vs':=by
 obtain⟨h1,h2,h3⟩:=kt h
 refine⟨by rw[h2,hs];exact hc.1,fun k c v hk hv' => ?_⟩
 rw[h3] at hk;rw[hv] at hv'
 rw[hn.1] at hk
 split at hk
 ·rename_i hb;rw[if_pos hb] at hv';exact hn.2 _ c v hk hv'
 ·rename_i hb;rw[if_neg hb] at hv';exact hc.2 _ c v hk hv'
def Gp (w:World)(M:Nat→Prop)(σ:List Addr)(L:Nat→Prop):List (Nat × PV)→List (Nat × Value)→Prop
 | [],[]=>True
 | (i,p)::r,(j,v)::r'=>i=j∧V w M σ L p v∧Gp w M σ L r r'
 | _,_=>False
theorem vP (place place':Nat→Option (Nat × Nat))(hp:∀ i x,place i=some x→place' i=some x):∀ (parts:List (Nat × PV)) (vparts:List (Nat × Value)) (cs r:Ψ) (vs:Array Value),
  dH place cs parts=some r→Gp w M σ L parts vparts→Rel w M σ L cs vs→∃ arr,Instr.fill place' vs vparts=some arr∧Rel w M σ L r arr
 | [],[],cs,r,vs,h,_,hc=>by simp[dH] at h;subst h;exact⟨vs,rfl,hc⟩
 | [],_::_,_,_,_,_,h,_=>h.elim
 | _::_,[],_,_,_,_,h,_=>h.elim
 | (i,p)::parts,(j,v)::vparts,cs,r,vs,h,⟨e,hv,hr⟩,hc=>by
  subst e
  simp only[dH] at h
  split at h
  ·rename_i off size ps hpl hps
   split at h
   ·rename_i hsz
    split at h
    ·rename_i l hl
     have hrel:=V.yx hps hv
     obtain⟨h1,h2,h3⟩:=kt hl
     obtain⟨hf1,hf2⟩:=A0 off v.cells.toList 0 vs (by have:=hrel.1;have:=hc.1;simp;omega)
     have hn:Rel w M σ L l (v.cells.zipIdx.foldl (fun cs (x:Value × Nat)=>cs.setIfInBounds (off+x.2) x.1) vs):=by
      have e:v.cells.zipIdx.foldl (fun cs (x:Value × Nat)=>cs.setIfInBounds (off+x.2) x.1) vs=(v.cells.toList.zipIdx 0).foldl (fun cs (x:Value × Nat)=>cs.setIfInBounds (off+x.2) x.1) vs:=by
       rw[← Array.foldl_toList,Array.toList_zipIdx]
      rw[e]
      refine Tk hl hc hrel hf1 (fun k => ?_)
      rw[hf2 k];simp
     obtain⟨arr,ha,hra⟩:=vP place place' hp parts vparts l r _ h hr hn
     refine⟨arr,?_,hra⟩
     simp only[Instr.fill,hp _ _ hpl]
     have c1:(v.cells.size≠size || off+v.cells.size > vs.size)=false:=by
      have:=hrel.1;have:=hc.1
      simp;omega
     rw[if_neg (by simpa using c1)]
     exact ha
    ·cases h
   ·cases h
  ·cases h
include hT in
theorem YL {t:TypeId}{parts:List (Nat × PV)}{vparts:Array (Nat × Value)}{r:PV}(h:eK T t parts=some r)(hp:Gp w M σ L parts vparts.toList) :
  ∃ v,(Instr.build t vparts).run P w = .ok v w∧V w M σ L r v:=by
 unfold eK at h
 split at h
 ·rename_i zs fields hz hu
  split at h
  ·rename_i hall
   obtain⟨z,hz1,hz2⟩:=nQ hT hz w
   cases hf:dH (kr T fields) zs parts with
   | none=>simp[hf] at h
   | some l =>
    simp[hf] at h;subst h
    let places:Array (Nat × Nat):=fields.map fun f=>(f.offset,(de T f.type).getD 0)
    have hpl:(fields.mapM fun f=>do pure (f.offset,← Go.sizeOf f.type):Sem (Array (Nat × Nat))).run P w = .ok places w:=by
     have key:∀ (l:List Field),l.all (fun f=>(de T f.type).isSome)=true →
       (l.mapM (fun f=>do let n ← Go.sizeOf f.type;pure (f.offset,n)):Sem (List (Nat × Nat))).run P w = .ok (l.map fun f=>(f.offset,(de T f.type).getD 0)) w:=by
      intro l
      induction l with
      | nil=>intro _;rfl
      | cons f l ih =>
       intro h
       simp only[all_cons,Bool.and_eq_true] at h
       obtain⟨n,hn⟩:=Option.isSome_iff_exists.1 h.1
       rw[mapM_cons]
       simp only[Sem.run_bind,fL hT hn,Result.andThen_ok,Sem.run_pure,ih h.2,map_cons,hn,Option.getD_some]
     rw[Array.mapM_eq_mapM_toList]
     simp only[Sem.run_map]
     rw[key fields.toList hall]
     simp only[Result.andThen_ok]
     congr 1
     apply Array.ext'
     simp[places]
    have hzr:Rel w M σ L zs z.cells:=by rw[hz2];exact BS _
    obtain⟨arr,h1,h2⟩:=vP (w:=w) (M:=M) (σ:=σ) (L:=L) _ (places[·]?) (fun i x hx=>by
     simp only[places,Array.getElem?_map]
     unfold kr at hx
     cases hfi:fields[i]? with
     | none=>simp[hfi] at hx
     | some f =>
      simp[hfi] at hx
      obtain⟨n,hn,rfl⟩:=hx
      simp[hn]) parts vparts.toList zs l z.cells hf hp hzr
    refine⟨.agg arr,?_,.agg _ _ h2.1 h2.2⟩
    simp only[Instr.build,Sem.run_bind,hz1,Result.andThen_ok,dy hT hu,hpl,h1]
    rfl
  ·cases h
 ·rename_i zs n e hz hu
  split at h
  ·rename_i s hs
   obtain⟨z,hz1,hz2⟩:=nQ hT hz w
   cases hf:dH (fun i=>some (i*s,s)) zs parts with
   | none=>simp[hf] at h
   | some l =>
    simp[hf] at h;subst h
    have hzr:Rel w M σ L zs z.cells:=by rw[hz2];exact BS _
    obtain⟨arr,h1,h2⟩:=vP (w:=w) (M:=M) (σ:=σ) (L:=L) _ (fun i=>some (i*s,s)) (fun i x hx=>hx) parts vparts.toList zs l z.cells hf hp hzr
    refine⟨.agg arr,?_,.agg _ _ h2.1 h2.2⟩
    simp only[Instr.build,Sem.run_bind,hz1,Result.andThen_ok,dy hT hu,fL hT hs,h1]
    rfl
  ·cases h
 ·cases h
theorem vD (n:Nat)(z:Array Value)(m:Nat)(hm:m=n*z.size):Rel w M σ L (rep n (z.toList.map .sc)) ((Array.range m).map (z[· % z.size]!)):=by
 subst hm
 refine⟨by rw[kq];simp,fun k c v h1 h2 => ?_⟩
 have hk:k<n*z.size:=by have:=cN h1;rw[kq] at this;simpa using this
 rw[BR _ _ _ (by simpa using hk)] at h1
 have h0:0<z.size:=by
  rcases Nat.eq_zero_or_pos z.size with h | h
  ·rw[h] at hk;simp at hk
  ·exact h
 have hlt:k % z.size<z.size:=Nat.mod_lt _ h0
 simp at h1
 have hz:z.toList[k % z.size]?=some z[k % z.size]:=by simp[hlt]
 rw[Array.getElem?_map,Array.getElem?_range] at h2
 rw[if_pos hk] at h2
 simp at h2
 rw[getElem!_pos z _ hlt] at h2
 obtain⟨a,ha,rfl⟩:=h1
 rw[Array.getElem?_eq_getElem hlt] at ha
 simp at ha
 rw[← ha,h2]
 exact .sc _
include hT in
theorem agM {t:TypeId}{len s:Nat}{parts:List (Nat × PV)}{vparts:Array (Nat × Value)}{cs:Ψ}(h:fY T t len parts=some (s,cs))(hp:Gp w M σ L parts vparts.toList) :
  ∃ e arr,und T t=some (.slice e)∧de T e=some s∧(Instr.buildSlice t len vparts).run P w = .ok (.slice (some ⟨w.heap.size,0,none⟩) len len) (w.alloc (.cells arr e))∧Rel w M σ L cs arr∧cs.length=len*s:=by
 unfold fY at h
 split at h
 ·rename_i e hu
  split at h
  ·rename_i s' zs hs hz
   split at h
   ·rename_i hle
    obtain⟨z,hz1,hz2⟩:=nQ hT hz w
    cases hf:dH (fun i=>some (i*s',s')) (rep len zs) parts with
    | none=>simp[hf] at h
    | some l =>
     simp[hf] at h
     obtain⟨rfl,rfl⟩:=h
     have hzs:z.cells.size=s':=by have:=hle.2;rw[hz2] at this;simpa using this
     have hzr:Rel w M σ L (rep len zs) ((Array.range (len*s')).map ((if len*s'=0 then #[] else z.cells)[· % (if len*s'=0 then (#[]:Array Value) else z.cells).size]!)):=by
      by_cases h0:len*s'=0
      ·rw[hz2]
       have:=vD (w:=w) (M:=M) (σ:=σ) (L:=L) len z.cells (len*s') (by rw[hzs])
       rw[h0] at this ⊢
       simpa [Array.range_zero'] using this
      ·rw[if_neg h0,hz2]
       exact vD len z.cells (len*s') (by rw[hzs])
     obtain⟨arr,h1,h2⟩:=vP (w:=w) (M:=M) (σ:=σ) (L:=L) _ (fun i=>some (i*s',s')) (fun i x hx=>hx) parts vparts.toList _ l _ hf hp hzr
     refine⟨e,arr,hu,hs,?_,h2,?_⟩
     ·have hn : ¬ (len*s' > 2 ^ 24):=by simp;exact hle.1
      simp only[Instr.buildSlice,Sem.run_bind,dy hT hu,Result.andThen_ok,fL hT hs,if_neg hn]
      by_cases h0:len*s'=0
      ·rw[if_pos h0] at h1
       rw[if_pos h0]
       simp only[pure_bind,h1]
       rfl
      ·rw[if_neg h0] at h1
       rw[if_neg h0]
       simp only[pure_bind]
       rw[Sem.run_bind,hz1]
       simp only[Result.andThen_ok,h1]
       rfl
     ·have key:∀ (ps:List (Nat × PV)) (cs r:Ψ),dH (fun i=>some (i*s',s')) cs ps=some r→r.length=cs.length:=by
       intro ps
       induction ps with
       | nil=>intro cs r h;simp[dH] at h;rw[h]
       | cons x ps ih =>
        intro cs r h
        obtain⟨i,p⟩:=x
        simp only[dH] at h
        split at h
        ·split at h
         ·split at h
          ·rename_i l hl
           rw[ih _ _ h,(kt hl).2.1]
          ·cases h
         ·cases h
        ·cases h
      rw[key _ _ _ hf,kq,hle.2]
   ·cases h
  ·cases h
 ·cases h
end
section
variable {P:Program} {T:Tab} (hT:gq P T) {w:World} {M:Nat→Prop} {L:Nat→Prop} {σ:List Addr}
def OV (w:World)(M:Nat→Prop)(σ:List Addr)(L:Nat→Prop):Option PV→Option Value→Prop
 | none,none=>True
 | some p,some v=>V w M σ L p v
 | _,_=>False
theorem jN {p:PV}{v:Value}{n:Nat}(h:gl p=some n)(hv:V w M σ L p v):∃ k,v = .int k (n:Int):=by
 unfold gl at h
 split at h
 ·cases hv;simp at h;subst h;exact⟨_,rfl⟩
 ·cases h
theorem gB {n y:Nat}(h:n≤y)(k:IntKind)(c:BoundsCode):(Instr.sliceBound (.int k (n:Int)) y c).run P w = .ok n w:=by
 have:(0:Int)≤(n:Int)∧(n:Int)≤(y:Int):=by omega
 simp only[Instr.sliceBound,asIntOf,pure_bind,if_pos this]
 simp
theorem pD {d n:Nat}{o:Option PV}{o':Option Value}(h:fv d o=some n)(ho:OV w M σ L o o'):(o'=none∧n=d)∨∃ k,o'=some (.int k (n:Int)):=by
 cases o with
 | none=>cases o' with
  | none=>simp[fv] at h;exact .inl ⟨rfl,h.symm⟩
  | some v=>exact ho.elim
 | some p=>cases o' with
  | none=>exact ho.elim
  | some v =>
   obtain⟨k,e⟩:=jN h ho
   exact .inr ⟨k,by rw[e]⟩
theorem tD {len l h:Nat}{m:Option Nat}{lo hi mx:Option PV}{lo' hi' mx':Option Value}(hb:bnd len lo hi mx=some (l,h,m))(h1:OV w M σ L lo lo')(h2:OV w M σ L hi hi')(h3:OV w M σ L mx mx')
  (isS:Bool) {cap:Nat} (hcap:len≤cap) :
  (Instr.sliceBounds isS len cap lo' hi' mx').run P w = .ok (l,h,m.getD cap) w∧l≤h∧h≤len∧(∀ k,m=some k→h≤k∧k≤len)∧(m=none→mx'=none):=by
 unfold bnd at hb
 split at hb
 ·rename_i l0 h0 hl hh
  split at hb
  ·rename_i hc
   simp at hb
   obtain⟨rfl,rfl,rfl⟩:=hb
   cases mx' with
   | some v=>exact h3.elim
   | none =>
    refine⟨?_,hc.1,hc.2,(fun k hk=>by cases hk),fun _=>rfl⟩
    rcases pD hl h1 with ⟨e1,e2⟩| ⟨k1,e1⟩ <;> rcases pD hh h2 with ⟨e3,e4⟩| ⟨k2,e3⟩ <;> subst e1 <;> subst e3
    ·subst e2;subst e4;simp[Instr.sliceBounds]
    ·subst e2;simp[Instr.sliceBounds,gB (P:=P) (w:=w) (show h0≤cap by omega)]
    ·subst e4;simp[Instr.sliceBounds,gB (P:=P) (w:=w) hc.1]
    ·simp[Instr.sliceBounds,gB (P:=P) (w:=w) (show h0≤cap by omega),gB (P:=P) (w:=w) hc.1]
  ·cases hb
 ·rename_i l0 h0 pm ph hl hh
  split at hb
  ·rename_i m0 hm0
   split at hb
   ·rename_i hc
    simp at hb
    obtain⟨rfl,rfl,rfl⟩:=hb
    cases mx' with
    | none=>exact h3.elim
    | some vm =>
     obtain⟨km,rfl⟩:=jN hm0 h3
     refine⟨?_,hc.1,by omega,(fun k hk=>by cases hk;exact⟨hc.2.1,hc.2.2⟩),fun e=>by cases e⟩
     rcases pD hh h2 with ⟨e3,e4⟩| ⟨k2,e3⟩
     ·subst e3;exact h2.elim
     ·subst e3
      rcases pD hl h1 with ⟨e1,e2⟩| ⟨k1,e1⟩ <;> subst e1
      ·subst e2;simp[Instr.sliceBounds,gB (P:=P) (w:=w) (show m0≤cap by omega),gB (P:=P) (w:=w) hc.2.1]
      ·simp[Instr.sliceBounds,gB (P:=P) (w:=w) (show m0≤cap by omega),gB (P:=P) (w:=w) hc.2.1,gB (P:=P) (w:=w) hc.1]
   ·cases hb
  ·cases hb
 ·cases hb
theorem At.imm {a:Addr}{cs:Ψ}{len cap:Nat}{x:Bool}(g:Nat→Value)(h:∀ (k:Nat) c,cs[k]?=some c→a.spot=none∧c.cH=true ∧ ¬ M a.block∧w.cell? ⟨a.block,a.off+k,none⟩=some (g k))
  (hv:∀ (k:Nat) c,cs[k]?=some c→V w M σ L c (g k)) (off n:Nat) (hl:len≤cap) (hx:x=true→cap=len) (b:Addr) (hb:0<n→b=a.add off):V w M σ L (.imm len x ((cs.drop off).take n)) (.slice (some b) len cap):=by
 refine .imm len x _ b cap (fun k=>g (off+k)) hl hx (fun k c hk => ?_) (fun k c hk => ?_)
 ·rw[getElem?_take] at hk
  split at hk
  ·rename_i hkn
   rw[getElem?_drop] at hk
   obtain⟨e1,e2,e3,e4⟩:=h _ c hk
   have eb:=hb (by omega)
   rw[gp e1] at eb
   subst eb
   exact⟨rfl,e2,e3,by rw[Nat.add_assoc];exact e4⟩
  ·cases hk
 ·rw[getElem?_take] at hk
  split at hk
  ·rw[getElem?_drop] at hk;exact hv _ c hk
  ·cases hk
include hT in
theorem G9 {t e:TypeId}(hu:und T t=some (.slice e)){p r:PV}{v:Value}{lo hi mx:Option PV}{lo' hi' mx':Option Value}(h:iJ T e p lo hi mx=some r)(hv:V w M σ L p v)
  (h1:OV w M σ L lo lo') (h2:OV w M σ L hi hi') (h3:OV w M σ L mx mx'):∃ u,(Instr.slice t v lo' hi' mx').run P w = .ok u w∧V w M σ L r u:=by
 unfold iJ at h
 cases hs:de T e with
 | none=>simp[hs] at h
 | some s =>
  simp only[hs] at h
  have run:∀ (a:Option Addr) (len cap l h:Nat) (m:Option Nat),(Instr.sliceBounds true len cap lo' hi' mx').run P w = .ok (l,h,m.getD cap) w →
    (Instr.slice t (.slice a len cap) lo' hi' mx').run P w = .ok (.slice (if m.getD cap=l then a else a.map (·.add (l*s))) (h - l) (m.getD cap - l)) w:=by
   intro a len cap l h m hb
   simp only[Instr.slice,Sem.run_bind,dy hT hu,Result.andThen_ok,hb,fL hT hs]
   rfl
  split at h
  ·cases hv
   split at h
   ·rename_i x hb
    obtain⟨l,hh,m⟩:=x
    simp at h;subst h
    obtain⟨hr,hl,hh',hm,hn⟩:=tD (P:=P) hb h1 h2 h3 true (cap:=0) (Nat.le_refl _)
    have e1:hh=0:=by omega
    have e2:l=0:=by omega
    have e3:m.getD 0=0:=by
     cases m with
     | none=>rfl
     | some k=>have:=(hm k rfl).2;simp;omega
    subst e1;subst e2
    refine⟨_,run none 0 0 0 0 m hr,?_⟩
    rw[e3];exact .sc _
   ·cases h
  ·rename_i len x cs
   split at h
   ·rename_i l hh m hb
    split at h
    ·rename_i hcs
     cases ht:bF (bp cs (l*s)) ((hh - l)*s) with
     | none=>simp[ht] at h
     | some c =>
      simp[ht] at h;subst h
      obtain⟨hle,rfl⟩:=fx ht
      rw[cF] at *
      cases hv with
      | nil x =>
       obtain⟨hr,hl,hh',hm,hn⟩:=tD (P:=P) hb h1 h2 h3 true (cap:=0) (Nat.le_refl _)
       have e1:hh=0:=by omega
       have e2:l=0:=by omega
       have e3:m.getD 0=0:=by
        cases m with
        | none=>rfl
        | some k=>have:=(hm k rfl).2;simp;omega
       subst e1;subst e2
       refine⟨_,run none 0 0 0 0 m hr,?_⟩
       rw[e3];simp;exact .nil _
      | imm _ _ _ a cap g g1 g2 g3 g4 =>
       obtain⟨hr,hl,hh',hm,hn⟩:=tD (P:=P) hb h1 h2 h3 true g1
       refine⟨_,run (some a) len cap l hh m hr,?_⟩
       have hmc:hh≤m.getD cap:=by
        cases m with
        | none=>simp;omega
        | some k=>have:=(hm k rfl).1;simp;omega
       have hfull:gK x len hh m=true→m.getD cap - l=hh - l:=by
        intro hf
        cases m with
        | none =>
         simp[gK] at hf
         have:=g2 hf.1
         simp;omega
        | some k=>simp[gK] at hf;simp;omega
       have key:=At.imm (x:=gK x len hh m) (len:=hh - l) (cap:=m.getD cap - l) g g3 g4 (l*s) ((hh - l)*s) (by omega) hfull (if m.getD cap=l then a else a.add (l*s)) (fun hpos=>by
        rw[if_neg]
        intro e
        have:hh - l=0:=by omega
        rw[this] at hpos;simp at hpos)
       have e:(if m.getD cap=l then some a else Option.map (fun x=>x.add (l*s)) (some a))=some (if m.getD cap=l then a else a.add (l*s)):=by split <;> rfl
       rw[e];exact key
    ·cases h
   ·cases h
  ·rename_i id s' off len x
   split at h
   ·rename_i l hh m hb
    split at h
    ·rename_i hss
     simp at h;subst h;subst hss
     cases hv with
     | own _ _ _ _ _ a b cap g1 g2 g3 g4 g5 =>
      obtain⟨hr,hl,hh',hm,hn⟩:=tD (P:=P) hb h1 h2 h3 true g2
      refine⟨_,run (some b) len cap l hh m hr,?_⟩
      have hmc:hh≤m.getD cap∧m.getD cap≤cap:=by
       cases m with
       | none=>simp;omega
       | some k=>have:=hm k rfl;simp;omega
      have hfull:gK x len hh m=true→m.getD cap - l=hh - l:=by
       intro hf
       cases m with
       | none =>
        simp[gK] at hf
        have:=g3 hf.1
        simp;omega
       | some k=>simp[gK] at hf;simp;omega
      have e:(if m.getD cap=l then some b else Option.map (fun x=>x.add (l*s)) (some b))=some (if m.getD cap=l then b else b.add (l*s)):=by split <;> rfl
      rw[e]
      refine .own id s (off+l*s) (hh - l) _ a _ _ g1 (by omega) hfull (fun hpos => ?_) (fun hL => ?_)
      ·rw[if_neg (by omega)]
       have eb:=g4 (by omega)
       subst eb
       rw[gp rfl];simp[Nat.add_assoc]
      ·obtain⟨c,e',hc,hsz⟩:=g5 hL
       refine⟨c,e',hc,?_⟩
       have hm1:(m.getD cap - l)*s+l*s≤cap*s:=by
        rw[← Nat.add_mul];exact Nat.mul_le_mul_right s (by omega)
       omega
    ·cases h
   ·cases h
  ·cases h
end
section
variable {P:Program} {T:Tab} (hT:gq P T) {w:World} {M:Nat→Prop} {L:Nat→Prop} {σ:List Addr}
theorem extract_eq (s:ByteArray)(l h:Nat):s.extract l h=mkStr (((bQ s).take h).drop l):=by
 rw[← gE (s.extract l h)]
 congr 1
 simp[bQ,ByteArray.data_extract]
 rw[drop_take]
include hT in
theorem Dk {t:TypeId}(hu:und T t=some .string){s:ByteArray}{r:PV}{lo hi mx:Option PV}{lo' hi' mx':Option Value}(h:dW s lo hi mx=some r)
  (h1:OV w M σ L lo lo') (h2:OV w M σ L hi hi') (h3:OV w M σ L mx mx'):∃ u,(Instr.slice t (.string s) lo' hi' mx').run P w = .ok u w∧V w M σ L r u:=by
 unfold dW at h
 split at h
 ·rename_i l hh hb
  simp at h;subst h
  rw[fU] at hb
  obtain⟨hr,hl,hh',hm,hn⟩:=tD (P:=P) hb h1 h2 h3 false (Nat.le_refl _)
  have:=hn rfl
  subst this
  refine⟨.string (s.extract l hh),?_,by rw[extract_eq];exact .sc _⟩
  simp only[Instr.slice,Sem.run_bind,dy hT hu,Result.andThen_ok]
  simp[hr]
 ·cases h
theorem yU {H:Nat→Prop}{hp:Θ}(S:Sim w H σ hp){id off:Nat}{a:Addr}{cs:Ψ}(hb:hp[id]?=some ⟨.live,cs⟩)(ha:σ[id]?=some a)(hle:off≤cs.length) :
  ∃ (c:Array Value) (e:TypeId),w.heap[a.block]?=some (Obj.cells c e (0,0))∧a.off+off≤c.size:=by
 obtain⟨c,e,h1,h2⟩:=S.live id a cs hb ha
 exact⟨c,e,h1,by omega⟩
include hT in
theorem Dl {t e:TypeId}{n:Nat}(hu:und T t=some (.array n e)){H:Nat→Prop}{hp:Θ}(S:Sim w H σ hp){p r:PV}{v:Value}{lo hi mx:Option PV}{lo' hi' mx':Option Value}
  (h:qS T hp n e p lo hi mx=some r) (hv:V w (hot H σ hp) σ (aV hp) p v)
  (h1:OV w (hot H σ hp) σ (aV hp) lo lo') (h2:OV w (hot H σ hp) σ (aV hp) hi hi') (h3:OV w (hot H σ hp) σ (aV hp) mx mx') :
  ∃ u,(Instr.sliceAt t v lo' hi' mx').run P w = .ok u w∧V w (hot H σ hp) σ (aV hp) r u:=by
 unfold qS at h
 split at h
 ·rename_i s l hh m hs hb
  obtain⟨hr,hl,hh',hm,hn⟩:=tD (P:=P) hb h1 h2 h3 false (Nat.le_refl _)
  have run:∀ a:Addr,(Instr.sliceAt t (.pointer (some a)) lo' hi' mx').run P w = .ok (.slice (some (if m.getD n=l then a else a.add (l*s))) (hh - l) (m.getD n - l)) w:=by
   intro a
   simp only[Instr.sliceAt,Sem.run_bind,dy hT hu,Result.andThen_ok,Instr.sureAddr,Sem.run_pure,hr,fL hT hs]
  have hmc:hh≤m.getD n∧m.getD n≤n:=by
   cases m with
   | none=>simp;omega
   | some k=>have:=hm k rfl;simp;omega
  have hfull:gK true n hh m=true→m.getD n - l=hh - l:=by
   intro hf
   cases m with
   | none=>simp[gK] at hf;simp;omega
   | some k=>simp[gK] at hf;simp;omega
  split at h
  ·rename_i id off
   cases hv with
   | ptr _ _ a ha =>
    split at h
    ·rename_i cs hcs
     rw[cV] at hcs
     split at h
     ·rename_i hle
      simp at h;subst h
      refine⟨_,run _,.own id s (off+l*s) (hh - l) _ a _ _ ha (by omega) hfull (fun hpos => ?_) (fun _ => ?_)⟩
      ·rw[if_neg (by omega),gp rfl];simp[Nat.add_assoc]
      ·obtain⟨c,e',hc,hsz⟩:=yU S hcs ha hle
       refine⟨c,e',hc,?_⟩
       have hm1:(m.getD n - l)*s+l*s≤n*s:=by
        rw[← Nat.add_mul];exact Nat.mul_le_mul_right s (by omega)
       omega
     ·cases h
    ·cases h
  ·rename_i cs
   cases hv with
   | iptr _ a g g1 g2 =>
    cases ht:bF (bp cs (l*s)) ((hh - l)*s) with
    | none=>simp[ht] at h
    | some c =>
     simp[ht] at h;subst h
     obtain⟨hle,rfl⟩:=fx ht
     rw[cF] at *
     refine⟨_,run a,?_⟩
     exact At.imm g g1 g2 (l*s) ((hh - l)*s) (by omega) hfull _ (fun hpos=>by
      rw[if_neg]
      intro e
      have:hh - l=0:=by omega
      rw[this] at hpos;simp at hpos)
  ·cases h
 ·cases h
include hT in
theorem Nh {t:TypeId}{H:Nat→Prop}{hp:Θ}(S:Sim w H σ hp){p r:PV}{v:Value}{lo hi mx:Option PV}{lo' hi' mx':Option Value}
  (h:dw T hp t p lo hi mx=some r) (hv:V w (hot H σ hp) σ (aV hp) p v)
  (h1:OV w (hot H σ hp) σ (aV hp) lo lo') (h2:OV w (hot H σ hp) σ (aV hp) hi hi') (h3:OV w (hot H σ hp) σ (aV hp) mx mx') :
  ∃ u,(Instr.sliceAt t v lo' hi' mx').run P w = .ok u w∧V w (hot H σ hp) σ (aV hp) r u:=by
 unfold dw at h
 split at h
 ·rename_i hu
  split at h
  ·cases hv
   obtain⟨u,h4,h5⟩:=Dk hT hu h h1 h2 h3
   exact⟨u,by simp only[Instr.sliceAt,Sem.run_bind,dy hT hu,Result.andThen_ok];exact h4,h5⟩
  ·cases h
 ·rename_i e hu
  obtain⟨u,h4,h5⟩:=G9 hT hu h hv h1 h2 h3
  exact⟨u,by simp only[Instr.sliceAt,Sem.run_bind,dy hT hu,Result.andThen_ok];exact h4,h5⟩
 ·rename_i n e hu
  exact Dl hT hu S h hv h1 h2 h3
 ·cases h
theorem tp {cs:Ψ}{a:Addr}{n:Nat}(h:V w M σ L (.iptr cs) (.pointer (some a))):V w M σ L (.iptr (cs.drop n)) (.pointer (some (a.add n))):=by
 cases h with
 | iptr _ _ g g1 g2 =>
  refine .iptr _ _ (fun k=>g (n+k)) (fun k c hk => ?_) (fun k c hk => ?_)
  ·rw[getElem?_drop] at hk
   obtain⟨e1,e2,e3,e4⟩:=g1 _ c hk
   rw[gp e1]
   exact⟨rfl,e2,e3,by simp only[Nat.add_assoc];exact e4⟩
  ·rw[getElem?_drop] at hk;exact g2 _ c hk
theorem V.vF {id off:Nat}{v:Value}(h:V w M σ L (.ptr id off) v):∃ a,σ[id]?=some a∧v = .pointer (some ⟨a.block,a.off+off,none⟩):=by
 cases h with | ptr _ _ a ha=>exact⟨a,ha,rfl⟩
theorem V.xU {cs:Ψ}{v:Value}(h:V w M σ L (.iptr cs) v):∃ a,v = .pointer (some a):=by
 cases h with | iptr _ a=>exact⟨a,rfl⟩
include hT in
theorem zg {t:TypeId}{i:Nat}{p r:PV}{v:Value}(h:bM T t p i=some r)(hv:V w M σ L p v):∃ u,(Instr.fieldAt t v i).run P w = .ok u w∧V w M σ L r u:=by
 unfold bM at h
 split at h
 ·rename_i fields hu
  split at h
  ·rename_i f hf
   have run:∀ (a:Addr) (m:Nat),de T f.type=some (m+1)→(Instr.fieldAt t (.pointer (some a)) i).run P w = .ok (.pointer (some (a.add f.offset))) w:=by
    intro a m hs
    simp[Instr.fieldAt,dy hT hu,hf,Instr.sureAddr,fieldPlace,fL hT hs]
   split at h
   ·rename_i m id off hs
    simp at h;subst h
    obtain⟨a,ha,rfl⟩:=hv.vF
    refine⟨_,run _ m hs,?_⟩
    rw[gp rfl]
    have:=V.ptr (w:=w) (M:=M) (L:=L) id (off+f.offset) a ha
    simpa [Nat.add_assoc] using this
   ·rename_i m cs hs
    simp at h;subst h
    obtain⟨a,rfl⟩:=hv.xU
    rw[cF]
    exact⟨_,run a m hs,tp hv⟩
   ·cases h
  ·cases h
 ·cases h
include hT in
theorem PL {t:TypeId}{i:Nat}{p r:PV}{v:Value}(h:Jl T t p i=some r)(hv:V w M σ L p v):∃ u,(Instr.field t v i).run P w = .ok u w∧V w M σ L r u:=by
 unfold Jl at h
 split at h
 ·rename_i fields cs hu
  split at h
  ·rename_i f hf
   cases hv with
   | agg _ vs h1 h2 =>
    obtain⟨u,h3,h4⟩:=xA (w:=w) hT h h1 h2
    exact⟨u,by simp[Instr.field,dy hT hu,hf,asAgg,h3],h4⟩
  ·cases h
 ·cases h
include hT in
theorem y9 {t:TypeId}{p q r:PV}{v u:Value}(h:bd T t p q=some r)(hv:V w M σ L p v)(hq:V w M σ L q u):∃ z,(Instr.indexAt t v u).run P w = .ok z w∧V w M σ L r z:=by
 unfold bd at h
 split at h
 ·rename_i e i hu hi
  obtain⟨k,rfl⟩:=jN hi hq
  have run:∀ (a:Addr) (len cap s:Nat),de T e=some s→i<len→(Instr.indexAt t (.slice (some a) len cap) (.int k (i:Int))).run P w = .ok (.pointer (some (a.add (i*s)))) w:=by
   intro a len cap s hs hlt
   have:(0:Int)≤(i:Int)∧(i:Int)<(len:Int):=by omega
   simp only[Instr.indexAt,Sem.run_bind,asIntOf,Sem.run_pure,Result.andThen_ok,dy hT hu,if_pos this,fL hT hs]
   rfl
  split at h
  ·rename_i s len x cs hs
   split at h
   ·rename_i hlt
    simp at h;subst h
    rw[cF]
    cases hv with
    | nil=>omega
    | imm _ _ _ a cap g g1 g2 g3 g4 =>
     refine⟨_,run a len cap s hs hlt,tp (.iptr cs a g g3 g4)⟩
   ·cases h
  ·rename_i s id s' off len x hs
   split at h
   ·rename_i hlt
    simp at h;subst h
    cases hv with
    | own _ _ _ _ _ a b cap g1 g2 g3 g4 g5 =>
     have eb:=g4 (by omega)
     subst eb
     refine⟨_,run _ len cap s hs hlt.1,?_⟩
     rw[gp rfl]
     have:=V.ptr (w:=w) (M:=M) (L:=L) id (off+i*s) a g1
     simpa [Nat.add_assoc] using this
   ·cases h
  ·cases h
 ·rename_i n e i hu hi
  obtain⟨k,rfl⟩:=jN hi hq
  have run:∀ (a:Addr) (s:Nat),de T e=some s→i<n→(Instr.indexAt t (.pointer (some a)) (.int k (i:Int))).run P w = .ok (.pointer (some (a.add (i*s)))) w:=by
   intro a s hs hlt
   have:(0:Int)≤(i:Int)∧(i:Int)<(n:Int):=by omega
   simp only[Instr.indexAt,Sem.run_bind,asIntOf,Sem.run_pure,Result.andThen_ok,dy hT hu,Instr.sureAddr,if_pos this,fL hT hs]
   rfl
  split at h
  ·rename_i s id off hs
   split at h
   ·rename_i hlt
    simp at h;subst h
    obtain⟨a,ha,rfl⟩:=hv.vF
    refine⟨_,run _ s hs hlt,?_⟩
    rw[gp rfl]
    have:=V.ptr (w:=w) (M:=M) (L:=L) id (off+i*s) a ha
    simpa [Nat.add_assoc] using this
   ·cases h
  ·rename_i s cs hs
   split at h
   ·rename_i hlt
    simp at h;subst h
    obtain⟨a,rfl⟩:=hv.xU
    rw[cF]
    exact⟨_,run a s hs hlt,tp hv⟩
   ·cases h
  ·cases h
 ·cases h
theorem LD (l:List UInt8)(n:Nat):EU l n=l[n]?:=by
 induction l generalizing n with
 | nil=>simp[EU]
 | cons a l ih=>cases n <;> simp[EU,ih]
include hT in
theorem PA {t:TypeId}{p q r:PV}{v u:Value}(h:im T t p q=some r)(hv:V w M σ L p v)(hq:V w M σ L q u):∃ z,(Instr.index t v u).run P w = .ok z w∧V w M σ L r z:=by
 unfold im at h
 split at h
 ·rename_i n e cs i hu hi
  obtain⟨k,rfl⟩:=jN hi hq
  split at h
  ·rename_i s hs
   split at h
   ·rename_i hlt
    cases hv with
    | agg _ vs h1 h2 =>
     obtain⟨z,h3,h4⟩:=xA (w:=w) hT h h1 h2
     have:(0:Int)≤(i:Int)∧(i:Int)<(n:Int):=by omega
     refine⟨z,?_,h4⟩
     simp only[Instr.index,Sem.run_bind,asIntOf,Sem.run_pure,Result.andThen_ok,dy hT hu,if_pos this,fL hT hs]
     exact h3
   ·cases h
  ·cases h
 ·rename_i s i hu hi
  obtain⟨k,rfl⟩:=jN hi hq
  cases hv
  rw[LD] at h
  cases hb:(bQ s)[i]? with
  | none=>simp[hb] at h
  | some b =>
   simp[hb] at h;subst h
   refine⟨_,?_,.sc _⟩
   have hlt:=cN hb
   rw[fU] at hlt
   have e:s[((i:Nat):Int).toNat]?=some b:=by
    rw[Int.toNat_natCast,getElem?_pos s i hlt]
    have:(bQ s)[i]?=some s[i]:=by
     unfold bQ
     rw[Array.getElem?_toList]
     have hlt':i<s.data.size:=hlt
     rw[Array.getElem?_eq_getElem hlt'];rfl
    rw[this] at hb;exact hb
   simp only[Instr.index,Sem.run_bind,asIntOf,Sem.run_pure,Result.andThen_ok,dy hT hu]
   rw[if_pos (by omega),e]
   rfl
 ·cases h
include hT in
theorem acS {t:TypeId}{p r:PV}{v:Value}(h:bL T t p=some r)(hv:V w M σ L p v)(ty:TypeId):∃ u,(Builtin.len_ #[t] ty #[v]).run P w = .ok u w∧V w M σ L r u:=by
 unfold bL at h
 split at h
 ·rename_i s hu
  simp at h;subst h
  cases hv
  exact⟨_,by simp[Builtin.len_,dy hT hu,fU,goInt],.sc _⟩
 ·rename_i n e hu
  simp at h;subst h
  exact⟨_,by simp[Builtin.len_,dy hT hu,goInt],.sc _⟩
 ·rename_i e hu
  have run:∀ (a:Option Addr) (l c:Nat),(Builtin.len_ #[t] ty #[.slice a l c]).run P w = .ok (.int .i64 (l:Nat)) w:=by
   intro a l c;simp[Builtin.len_,dy hT hu,goInt]
  unfold cX at h
  split at h
  ·cases hv
   simp at h;subst h
   exact⟨_,run none 0 0,.sc _⟩
  ·simp at h;subst h
   cases hv with
   | nil=>exact⟨_,run none 0 0,.sc _⟩
   | imm _ _ _ a cap=>exact⟨_,run _ _ cap,.sc _⟩
  ·simp at h;subst h
   cases hv with | own _ _ _ _ _ a b cap=>exact⟨_,run _ _ cap,.sc _⟩
  ·simp at h
 ·cases h
end
section
variable {P:Program} {T:Tab} (hT:gq P T) {w:World} {H:Nat→Prop} {hp:Θ} {σ:List Addr}
theorem AJ {M:Nat→Prop}{L:Nat→Prop}{b:Bool}{ps:Ψ}{vs:List Value}{r:PV}(h:mR b ps=some r)(hl:ps.length=vs.length)
  (hv:∀ (k:Nat) c v,ps[k]?=some c→vs[k]?=some v→V w M σ L c v) (ats:Array TypeId) (ty:TypeId) :
  ∃ u,(if b then Builtin.max_ ats ty vs.toArray else Builtin.min_ ats ty vs.toArray).run P w = .ok u w∧V w M σ L r u:=by
 unfold mR at h
 split at h
 ·simp at h;subst h
  rename_i x
  match vs,hl with
  | [v],_ =>
   refine⟨v,?_,hv 0 x v (by simp) (by simp)⟩
   cases b <;> simp[Builtin.max_,Builtin.min_]
 ·rename_i k a k' c rest
  split at h
  ·rename_i hk
   split at h
   ·simp at h;subst h
    subst hk
    match vs,hl with
    | [v,u],_ =>
     have e1:=hv 0 (.sc (.int k a)) v (by simp) rfl
     have e2:=hv 1 (.sc (.int k c)) u (by simp) rfl
     cases e1;cases e2
     refine⟨_,?_,.sc _⟩
     cases b <;> simp[Builtin.max_,Builtin.min_,Builtin.max2,Builtin.min2]
   ·cases h
  ·cases h
 ·cases h
theorem oT (S:Sim w H σ hp)(o:Obj):Sim (w.alloc o) H σ hp∧Step w (cQ σ hp) σ (aV hp) (w.alloc o) (cQ σ hp) σ (aV hp):=by
 have hold:∀ (k:Nat),k<w.heap.size→(w.alloc o).heap[k]?=w.heap[k]?:=fun k hk=>Go.RowKit.Below.heap_alloc _ _ _ hk
 have st:Step w (cQ σ hp) σ (aV hp) (w.alloc o) (cQ σ hp) σ (aV hp):=by
  refine⟨rfl,rfl,rfl,by simp,fun _ _ h=>h,fun b hb _=>hold b hb,iL fun b c e' f hb => ?_,fun _ _ h=>h,fun _ _ h=>h⟩
  have:b<w.heap.size:=by
   rcases Nat.lt_or_ge b w.heap.size with h' | h'
   ·exact h'
   ·simp[Array.getElem?_eq_none h'] at hb
  exact⟨c,by rw[hold b this];exact hb,rfl⟩
 refine⟨⟨S.len,fun i a ha=>Nat.lt_of_lt_of_le (S.spot i a ha) (by simp),fun b hb=>Nat.lt_of_lt_of_le (S.foreign b hb) (by simp),fun i s cs a hi hd ha k c hk => ?_,S.own,fun i a cs hi ha => ?_,S.inj,fun i cs a hi ha => ?_,S.injm⟩,st⟩
 ·obtain⟨v,h1,h2⟩:=S.cells i s cs a hi hd ha k c hk
  exact⟨v,by rw[gj (w:=w) (w':=w.alloc o) (a:=⟨a.block,a.off+k,none⟩) (hold _ (S.spot i a ha))];exact h1,h2.step st⟩
 ·obtain⟨c,e,h2,h3⟩:=S.live i a cs hi ha
  exact⟨c,e,by rw[hold _ (S.spot i a ha)];exact h2,h3⟩
 ·obtain⟨h1,es,ck,h2,h3⟩:=S.maps i cs a hi ha
  exact⟨h1,es,ck,by rw[hold _ (S.spot i a ha)];exact h2,h3.step st⟩
theorem EV (S:Sim w H σ hp) : ¬ hot H σ hp w.heap.size:=by
 rintro (h | ⟨i,a,h1,h2,h3⟩)
 ·have:=S.foreign _ h;omega
 ·have:=S.spot i a h2;omega
theorem eH {cs:Ψ}(h:bV cs=true){k:Nat}{c:PV}(hk:cs[k]?=some c):c.cH=true:=by
 induction cs generalizing k with
 | nil=>simp at hk
 | cons d cs ih =>
  simp[bV] at h
  cases k with
  | zero=>simp at hk;subst hk;exact h.1
  | succ k=>simp at hk;exact ih h.2 hk
theorem AW (S:Sim w H σ hp){cs:Ψ}{vs:Array Value}{e:TypeId}{f:Nat × Nat}(hr:cs.length≤vs.size)(hv:∀ (k:Nat) c v,cs[k]?=some c→vs[k]?=some v→V w (hot H σ hp) σ (aV hp) c v)
  (hid:bV cs=true) (len cap:Nat) (x:Bool) (h1:len≤cap) (h2:x=true→cap=len) :
  V (w.alloc (.cells vs e f)) (hot H σ hp) σ (aV hp) (.imm len x cs) (.slice (some ⟨w.heap.size,0,none⟩) len cap):=by
 have st:=(oT S (.cells vs e f)).2
 refine .imm len x cs _ cap (fun k=>vs.getD k undef) h1 h2 (fun k c hk=>⟨rfl,eH hid hk,EV S,?_⟩) (fun k c hk => ?_)
 ·have hk':=cN hk
  have:(w.alloc (.cells vs e f)).heap[w.heap.size]?=some (.cells vs e f):=by
   show (w.heap.push _)[w.heap.size]?=_
   simp
  rw[sf this]
  simp
  rw[Array.getElem?_eq_getElem (by omega)]
  simp[]
 ·have hk':=cN hk
  refine (hv k c _ hk ?_).step st
  rw[Array.getElem?_eq_getElem (by omega)]
  simp[show k<vs.size by omega]
include hT in
theorem Dd {src dst e:TypeId}(hs:und T src=some .string)(hd:und T dst=some (.slice e))(he:und T e=some (.int .u8))(S:Sim w H σ hp)(s:ByteArray):∃ v w',(convert src dst (.string s)).run P w = .ok v w' ∧
  V w' (hot H σ hp) σ (aV hp) (.imm (bQ s).length false ((bQ s).map fun b=>PV.sc (.int .u8 b.toNat))) v∧Sim w' H σ hp∧Step w (cQ σ hp) σ (aV hp) w' (cQ σ hp) σ (aV hp):=by
 have S1:Sim w.drew H σ hp:=zP (w':=w.drew) S rfl rfl rfl rfl
 have st1:Step w (cQ σ hp) σ (aV hp) w.drew (cQ σ hp) σ (aV hp):=ml (w:=w) (w':=w.drew) rfl rfl rfl rfl _ _ _
 refine⟨_,_,run_bytes_of_string w src dst e s (jP hT hs) (jP hT hd) (jP hT he),?_,(oT S1 _).1,st1.trans (oT S1 _).2⟩
 have hcap:s.size≤grownCap w s.size 0 e:=by
  unfold grownCap Question.cut;exact Nat.le_add_right _ _
 rw[fU]
 refine AW S1 (vs:=bytesRow s (grownCap w s.size 0 e)) ?_ (fun k c v hk hv => ?_) ?_ _ _ false hcap (by simp)
 ·simp[bytesRow,bQ]
 ·rw[getElem?_map] at hk
  have hk2:k<(bQ s).length:=by
   rcases Nat.lt_or_ge k (bQ s).length with h | h
   ·exact h
   ·simp[getElem?_eq_none h] at hk
  have hk3:k<s.data.size:=by rw[fU] at hk2;exact hk2
  unfold bytesRow at hv
  rw[Array.getElem?_append_left (by simpa using hk3)] at hv
  simp[bQ] at hk
  simp at hv
  obtain⟨a,ha,rfl⟩:=hk
  obtain⟨b,hb,rfl⟩:=hv
  rw[ha] at hb;cases hb
  exact .sc _
 ·have:∀ l:List UInt8,bV (l.map fun b=>PV.sc (.int .u8 b.toNat))=true:=by
   intro l
   induction l with
   | nil=>rfl
   | cons b l ih=>simp[bV,PV.cH,ih]
  exact this _
theorem JP {cs:Ψ}{l:List UInt8}(h:kI cs=some l):∃ ns:List Int,cs=ns.map (fun n=>.sc (.int .u8 n))∧l=ns.map fun n=>UInt8.ofNat n.toNat:=by
 induction cs generalizing l with
 | nil=>simp[kI] at h;subst h;exact⟨[],rfl,rfl⟩
 | cons c cs ih =>
  unfold kI at h
  split at h
  ·rename_i heq;cases heq
  ·rename_i n r heq
   cases heq
   split at h
   ·rename_i l' hl'
    simp at h;subst h
    obtain⟨ns,e1,e2⟩:=ih hl'
    exact⟨n::ns,by simp[e1],by simp[e2]⟩
   ·cases h
  ·cases h
theorem FD (ns:List Int):ns.foldl (fun r n=>r.push (UInt8.ofNat n.toNat)) ByteArray.empty=mkStr (ns.map fun n=>UInt8.ofNat n.toNat):=by
 have key:∀ (ns:List Int) (r:ByteArray),ns.foldl (fun r n=>r.push (UInt8.ofNat n.toNat)) r=mkStr (bQ r++ns.map fun n=>UInt8.ofNat n.toNat):=by
  intro ns
  induction ns with
  | nil=>intro r;simp[gE]
  | cons n ns ih =>
   intro r
   simp only[foldl_cons,ih,map_cons]
   congr 1
   have:bQ (r.push (UInt8.ofNat n.toNat))=bQ r++[UInt8.ofNat n.toNat]:=by simp[bQ,ByteArray.push]
   rw[this,append_assoc];rfl
 simpa [bQ] using key ns ByteArray.empty
include hT in
theorem X2 {src dst:TypeId}(S:Sim w H σ hp){p r:PV}{v:Value}{ids:Ω}(h:dD T hp src dst p=some (r,ids))(hv:V w (hot H σ hp) σ (aV hp) p v) :
  ∃ u w',(convert src dst v).run P w = .ok u w'∧V w' (hot H σ hp) σ (aV hp) r u∧Sim w' H σ hp∧Step w (cQ σ hp) σ (aV hp) w' (cQ σ hp) σ (aV hp):=by
 unfold dD at h
 split at h
 ·rename_i d k k' n hs hd
  simp at h;obtain⟨rfl,rfl⟩:=h
  cases hv
  exact⟨_,w,by simp[convert,dy hT hs,dy hT hd,Conv.intToInt,lK],.sc _,S,Step.refl _ _ _ _⟩
 ·rename_i d s hs hd
  simp at h;obtain⟨rfl,rfl⟩:=h
  cases hv
  exact⟨_,w,by simp[convert,dy hT hs,dy hT hd],.sc _,S,Step.refl _ _ _ _⟩
 ·rename_i e s hs hd
  split at h
  ·rename_i he
   simp at h;obtain⟨rfl,rfl⟩:=h
   cases hv
   exact Dd hT hs hd he S s
  ·cases h
 ·rename_i e hs0 hd hs
  split at h
  ·rename_i he
   split at h
   ·rename_i n cs ids' hr
    split at h
    ·rename_i l hl
     simp at h;obtain⟨rfl,rfl⟩:=h
     obtain⟨base,cap,rfl,hlen,hnone,hat⟩:=Ln S hr hv
     obtain⟨ns,e1,e2⟩:=JP hl
     refine⟨.string (mkStr l),w,?_,.sc _,S,Step.refl _ _ _ _⟩
     rw[run_convert_bytes_string w src dst e base n cap (jP hT hs0) (jP hT he) (jP hT hd)]
     cases base with
     | none =>
      have:=(hnone rfl).1
      subst this
      cases ns with
      | nil=>subst e2;rfl
      | cons _ _=>simp at e1
     | some a =>
      obtain⟨g,hg⟩:=hat a rfl
      have hload:(loadCells a n).run P w = .ok (ns.map (Value.int .u8)).toArray w:=by
       have hn:cs.length=n:=by simpa using hlen
       rw[run_loadCells w a n (fun k=>(ns.map (Value.int .u8)).getD k undef) (fun j hj => ?_)]
       ·congr 2
        apply ext_getElem?
        intro j
        have hnl:ns.length=n:=by rw[← hn,e1];simp
        by_cases hj:j<n
        ·simp[hj,hnl]
        ·simp[hj,hnl]
       ·have hnl:ns.length=n:=by rw[← hn,e1];simp
        have hc:cs[j]?=some (.sc (.int .u8 (ns[j]'(by omega)))):=by rw[e1];simp[show j<ns.length by omega]
        obtain⟨h1,h2,h3⟩:=hg j _ hc
        rw[gp h1,h2,h3.lv]
        simp[show j<ns.length by omega]
      rw[run_bytesToString w a n cap ns hload,FD,← e2]
    ·cases h
   ·cases h
  ·cases h
 ·cases h
end
section
variable {P:Program} {T:Tab} (hT:gq P T) {w:World} {H:Nat→Prop} {hp:Θ} {σ:List Addr}
theorem OU {M:Nat→Prop}{L:Nat→Prop}{c:PV}{v:Value}(h:eo c=true)(hv:V w M σ L c v):v.oneCell'=true:=by
 cases hv with
 | sc v=>cases v <;> first | rfl | (simp[eo] at h)
 | any=>simp[eo] at h
 | agg=>simp[eo] at h
 | tup=>simp[eo] at h
 | _=>rfl
theorem EL {cs:Ψ}(h:bg cs=true){k:Nat}{c:PV}(hk:cs[k]?=some c):eo c=true:=by
 induction cs generalizing k with
 | nil=>simp at hk
 | cons d cs ih =>
  simp[bg] at h
  cases k with
  | zero=>simp at hk;subst hk;exact h.1
  | succ k=>simp at hk;exact ih h.2 hk
theorem rA {M:Nat→Prop}{L:Nat→Prop}{cs:Ψ}{vs:List Value}(h:bg cs=true)(hl:cs.length=vs.length)(hv:∀ (k:Nat) c v,cs[k]?=some c→vs[k]?=some v→V w M σ L c v) :
  ∀ v ∈ vs,v.oneCell'=true:=by
 intro v hv'
 obtain⟨k,hk,e⟩:=mem_iff_getElem.1 hv'
 have hk2:k<cs.length:=by omega
 exact OU (EL h (List.getElem?_eq_getElem hk2)) (hv k _ v (List.getElem?_eq_getElem hk2) (by rw[List.getElem?_eq_getElem hk,e]))
theorem LJ (S:Sim w H σ hp){cs:Ψ}{vs:Array Value}{e:TypeId}(hr:Rel w (hot H σ hp) σ (aV hp) cs vs) :
  let σ':=σ++[⟨w.heap.size,0,none⟩]
  let hp':=hp++[⟨.live,cs⟩]
  let w':=w.alloc (.cells vs e)
  Sim w' H σ' hp'∧Step w (cQ σ hp) σ (aV hp) w' (cQ σ' hp') σ' (aV hp')∧V w' (hot H σ' hp') σ' (aV hp') (.ptr hp.length 0) (.pointer (some ⟨w.heap.size,0,none⟩)):=by
 obtain⟨h1,h2⟩:=zQ (e:=e) S (Nat.le_of_eq hr.1) hr.2
 refine⟨h1,h2,?_⟩
 have:=V.ptr (w:=w.alloc (.cells vs e)) (M:=hot H (σ++[⟨w.heap.size,0,none⟩]) (hp++[⟨.live,cs⟩])) (σ:=σ++[⟨w.heap.size,0,none⟩]) (L:=aV (hp++[⟨.live,cs⟩])) hp.length 0 ⟨w.heap.size,0,none⟩
  (by rw[← S.len];simp)
 simpa using this
theorem Cc (S:Sim w H σ hp){cs:Ψ}{vs:Array Value}{e:TypeId}(hl:cs.length≤vs.size)(hv:∀ (k:Nat) c v,cs[k]?=some c→vs[k]?=some v→V w (hot H σ hp) σ (aV hp) c v)
  (s len cap:Nat) (x:Bool) (h1:len≤cap) (h2:x=true→cap=len) (h3:cap*s≤vs.size) :
  let σ':=σ++[⟨w.heap.size,0,none⟩]
  let hp':=hp++[⟨.live,cs⟩]
  let w':=w.alloc (.cells vs e)
  Sim w' H σ' hp'∧Step w (cQ σ hp) σ (aV hp) w' (cQ σ' hp') σ' (aV hp')∧V w' (hot H σ' hp') σ' (aV hp') (.own hp.length s 0 len x) (.slice (some ⟨w.heap.size,0,none⟩) len cap):=by
 obtain⟨g1,g2⟩:=zQ (e:=e) S hl hv
 refine⟨g1,g2,.own hp.length s 0 len x ⟨w.heap.size,0,none⟩ _ cap (by rw[← S.len];simp) h1 h2 (fun _=>by simp) (fun _=>⟨vs,e,?_,by simpa using h3⟩)⟩
 show (w.heap.push _)[w.heap.size]?=_
 simp
include hT in
theorem YS {e:TypeId}(S:Sim w H σ hp){zs:Ψ}(h:dU T e=some zs):∃ v w' σ',(Instr.alloc e true (.tuple #[])).run P w = .ok v w' ∧
  V w' (hot H σ' (aO hp zs)) σ' (aV (aO hp zs)) (.ptr hp.length 0) v∧Sim w' H σ' (aO hp zs)∧Step w (cQ σ hp) σ (aV hp) w' (cQ σ' (aO hp zs)) σ' (aV (aO hp zs)):=by
 obtain⟨z,hz1,hz2⟩:=nQ hT h w
 obtain⟨h1,h2,h3⟩:=LJ (e:=e) S (cs:=zs) (vs:=z.cells) (by rw[hz2];exact BS _)
 refine⟨_,_,_,?_,h3,h1,h2⟩
 simp[Instr.alloc,hz1,newVar,newRow]
theorem ahR {e:TypeId}(S:Sim w H σ hp){p:PV}{v:Value}{cs:Ψ}(h:p.cells?=some cs)(hv:V w (hot H σ hp) σ (aV hp) p v):∃ u w' σ',(Instr.box e v).run P w = .ok u w' ∧
  V w' (hot H σ' (aO hp cs)) σ' (aV (aO hp cs)) (.ptr hp.length 0) u∧Sim w' H σ' (aO hp cs)∧Step w (cQ σ hp) σ (aV hp) w' (cQ σ' (aO hp cs)) σ' (aV (aO hp cs)):=by
 obtain⟨h1,h2,h3⟩:=LJ (e:=e) S (V.yx h hv)
 refine⟨_,_,_,?_,h3,h1,h2⟩
 simp[Instr.box,newVar,newRow]
include hT in
theorem acJ {t:TypeId}(S:Sim w H σ hp){p x:PV}{v:Value}{cs:Ψ}{ids:Ω}(h:aU hp p=some (cs,ids))(hx:partOf T t cs=some x)(hv:V w (hot H σ hp) σ (aV hp) p v) :
  ∃ u,(Instr.loadAt t v).run P w = .ok u w∧V w (hot H σ hp) σ (aV hp) x u:=by
 obtain⟨a,rfl,hA⟩:=Bo S h hv
 obtain⟨u,h1,h2⟩:=Az (P:=P) hT hx hA
 exact⟨u,by simp[Instr.loadAt,Instr.sureAddr,h1],h2⟩
theorem vW (S:Sim w H σ hp){id off:Nat}{a:Addr}{old l new:Ψ}{vs:List Value}(hid:hp[id]?=some ⟨.live,old⟩)(ha:σ[id]?=some a)(ho:ca old off new=some l)
  (hl:new.length=vs.length) (hv:∀ (k:Nat) c v,new[k]?=some c→vs[k]?=some v→V w (hot H σ hp) σ (aV hp) c v) (hok:bg new=true) :
  ∃ w',(storeCells ⟨a.block,a.off+off,none⟩ vs).run P w = .ok () w'∧Sim w' H σ (hp.set id ⟨.live,l⟩) ∧
   Step w (cQ σ hp) σ (aV hp) w' (cQ σ (hp.set id ⟨.live,l⟩)) σ (aV (hp.set id ⟨.live,l⟩)):=by
 obtain⟨h1,h2,h3⟩:=kt ho
 obtain⟨c,e,hc,hsz⟩:=S.live id a old hid ha
 obtain⟨w',hw1,hw2⟩:=nR P ⟨a.block,a.off+off,none⟩ rfl vs 0 w c e hc (by simp;omega) (rA hok hl hv)
 obtain⟨g1,g2⟩:=Nl S hid ha (by simpa using hw2) hl hv ⟨h2,h3⟩
 exact⟨w',hw1,g1,g2⟩
include hT in
theorem R2 {t:TypeId}(S:Sim w H σ hp){id off n:Nat}{p:PV}{v u:Value}{cs old l:Ψ}(hv:V w (hot H σ hp) σ (aV hp) (.ptr id off) v)(hu:V w (hot H σ hp) σ (aV hp) p u)
  (hc:p.cells?=some cs) (hs:de T t=some n) (hn:cs.length=n) (hok:bg cs=true) (hid:hp[id]?=some ⟨.live,old⟩) (ho:ca old off cs=some l) :
  ∃ w',(Instr.storeAt t v u).run P w = .ok () w'∧Sim w' H σ (hp.set id ⟨.live,l⟩) ∧
   Step w (cQ σ hp) σ (aV hp) w' (cQ σ (hp.set id ⟨.live,l⟩)) σ (aV (hp.set id ⟨.live,l⟩)):=by
 obtain⟨a,ha,rfl⟩:=hv.vF
 have hr:=V.yx hc hu
 obtain⟨w',h1,h2,h3⟩:=vW (P:=P) S hid ha ho (vs:=u.cells.toList) (by simpa using hr.1) (fun k c v h1 h2=>hr.2 k c v h1 (by simpa using h2)) hok
 refine⟨w',?_,h2,h3⟩
 have hsz:u.cells.size=n:=by rw[← hr.1,hn]
 simp[Instr.storeAt,Instr.sureAddr,storeVar,fL hT hs,hsz,h1]
include hT in
theorem acw {t e:TypeId}(S:Sim w H σ hp)(hu:und T t=some (.slice e)){zs:Ψ}{s by_ l c:Nat}(hz:dU T e=some zs)(hs:de T e=some s)(hb:ja T e=some by_){p q:PV}{v u:Value}
  (hl:gl p=some l) (hc:gl q=some c) (hp':V w (hot H σ hp) σ (aV hp) p v) (hq:V w (hot H σ hp) σ (aV hp) q u) (hle:l≤c∧c≤cS∧by_≤ch∧zs.length=s) :
  ∃ x w' σ',(Instr.makeSlice t v u).run P w = .ok x w' ∧
   V w' (hot H σ' (aO hp (rep l zs))) σ' (aV (aO hp (rep l zs))) (.own hp.length s 0 l (l == c)) x∧Sim w' H σ' (aO hp (rep l zs)) ∧
   Step w (cQ σ hp) σ (aV hp) w' (cQ σ' (aO hp (rep l zs))) σ' (aV (aO hp (rep l zs))):=by
 obtain⟨k1,rfl⟩:=jN hl hp'
 obtain⟨k2,rfl⟩:=jN hc hq
 obtain⟨i,z,hTi,hiz,hzs⟩:∃ i z,T e=some i∧i.zero=some z∧zs=z.cells.toList.map .sc:=by
  unfold dU at hz
  cases hTi:T e with
  | none=>simp[hTi] at hz
  | some i =>
   rw[hTi] at hz
   cases i with
   | mk desc str size bytes hp al fa zero cmp ms =>
    cases zero with
    | none=>simp at hz
    | some z=>simp at hz;exact⟨_,z,rfl,rfl,hz.symm⟩
 have hsi:i.size=s:=by unfold de at hs;rw[hTi] at hs;simpa using hs
 have hbi:i.bytes=by_:=by unfold ja at hb;rw[hTi] at hb;simpa using hb
 obtain⟨h1,h2,h3,h4⟩:=hle
 have hzsz:z.cells.size=s:=by rw[hzs] at h4;simpa using h4
 have hbytes:(i.bytes:Int)*(c:Int)≤281474976710656:=by
  have:i.bytes*c≤128*1099511627776:=Nat.mul_le_mul (by rw[hbi];exact h3) h2
  have e:((i.bytes*c:Nat):Int)=(i.bytes:Int)*(c:Int):=Int.natCast_mul _ _
  rw[← e]
  have:128*1099511627776=140737488355328:=by decide
  omega
 have hc63:(c:Int)≤9223372036854775807:=by unfold cS at h2;omega
 have hrun:=run_make (P:=P) w t e i z (jP hT hu) (hT e i hTi) hiz k1 k2 (l:Int) (c:Int) (by omega) (by omega) hbytes hc63
 simp only[Int.toNat_natCast] at hrun
 have hmade:∀ m,madeCells z.cells m=(Array.range m).map (z.cells[· % z.cells.size]!):=fun m=>rfl
 have hrel:=vD (w:=w) (M:=hot H σ hp) (σ:=σ) (L:=aV hp) c z.cells (c*s) (by rw[hzsz])
 have hcs:l*s≤c*s:=Nat.mul_le_mul_right s h1
 obtain⟨g1,g2,g3⟩:=Cc (e:=e) S (cs:=rep l zs) (vs:=madeCells z.cells (c*i.size)) (by rw[kq,h4,hsi,size_madeCells];exact hcs) (fun k x y hk hy=>by
  rw[hsi,hmade] at hy
  refine hrel.2 k x y ?_ hy
  have hk':=cN hk
  rw[kq,h4] at hk'
  rw[BR _ _ _ (by rw[h4];exact hk')] at hk
  rw[← hzs,BR _ _ _ (by rw[h4];omega)]
  exact hk) s l c (l == c) h1 (fun h=>by simp at h;omega) (by rw[size_madeCells,hsi];exact Nat.le_refl _)
 exact⟨_,_,_,hrun,g3,g1,g2⟩
end
section
variable {P:Program} {T:Tab} (hT:gq P T) {w:World} {H:Nat→Prop} {hp:Θ} {σ:List Addr}
theorem Hd (S:Sim w H σ hp){id off:Nat}{a:Addr}{cs l:Ψ}(hid:hp[id]?=some ⟨.live,cs⟩)(ha:σ[id]?=some a)
  (hfit:∃ (c:Array Value) (e:TypeId),w.heap[a.block]?=some (Obj.cells c e (0,0))∧a.off+off+l.length≤c.size)
  (hl:∀ (k:Nat) c,l[k]?=some c→∃ v,w.cell? ⟨a.block,a.off+off+k,none⟩=some v∧V w (hot H σ hp) σ (aV hp) c v) :
  let σ':=σ++[⟨a.block,a.off+off,none⟩]
  let hp':=hp.set id ⟨.dead,[]⟩++[⟨.live,l⟩]
  Sim w H σ' hp'∧Step w (cQ σ hp) σ (aV hp) w (cQ σ' hp') σ' (aV hp'):=by
 intro σ' hp'
 have hlt:id<hp.length:=cN hid
 have hlen:(hp.set id ⟨.dead,[]⟩).length=σ.length:=by simp[S.len]
 have hliveid:aV hp id:=⟨cs,hid⟩
 have hhotid:cQ σ hp a.block:=⟨id,a,.inl hliveid,ha,rfl⟩
 have hlv:∀ {i:Nat},i<σ.length→aV hp' i→aV hp i∧id≠i:=by
  rintro i hi ⟨ds,hd⟩
  rw[getElem?_append_left (by rw[hlen];exact hi)] at hd
  by_cases e:id=i
  ·subst e;rw[getElem?_set_self hlt] at hd;cases hd
  ·rw[getElem?_set_ne e] at hd;exact⟨⟨ds,hd⟩,e⟩
 have hget:∀ {i:Nat} {b:Addr},σ'[i]?=some b→(i<σ.length∧σ[i]?=some b)∨(i=σ.length∧b=⟨a.block,a.off+off,none⟩):=fun h=>dV h
 have hmp:∀ {i:Nat} {ds:Ψ},hp'[i]?=some ⟨.dead,.any::ds⟩→i<σ.length∧hp[i]?=some ⟨.dead,.any::ds⟩:=by
  intro i ds h
  rcases dV h with ⟨hi,h⟩| ⟨hi,h⟩
  ·rw[hlen] at hi
   by_cases e:id=i
   ·subst e;rw[getElem?_set_self hlt] at h;cases h
   ·rw[getElem?_set_ne e] at h;exact⟨hi,h⟩
  ·cases h
 have hhot:∀ b,cQ σ' hp' b→cQ σ hp b:=by
  rintro b ⟨i,a',h1,h2,h3⟩
  rcases hget h2 with ⟨hi,h2⟩| ⟨hi,h2⟩
  ·refine⟨i,a',?_,h2,h3⟩
   rcases h1 with h1 | ⟨ds,h1⟩
   ·exact .inl (hlv hi h1).1
   ·exact .inr ⟨ds,(hmp h1).2⟩
  ·subst h2;simp at h3;rw[← h3];exact hhotid
 have st:Step w (cQ σ hp) σ (aV hp) w (cQ σ' hp') σ' (aV hp') :=
  ⟨rfl,rfl,rfl,Nat.le_refl _,fun i b h=>by
   show (σ++[_])[i]?=_
   rw[getElem?_append_left (cN h)];exact h,fun _ _ _=>rfl,iL fun _ c _ _ h=>⟨c,h,rfl⟩,fun b _ hm=>hhot b hm,fun i hi hm=>(hlv hi hm).1⟩
 have hblk:∀ {i:Nat} {s:BSt} {ds:Ψ},hp'[i]?=some ⟨s,ds⟩→s ≠ .dead→(i<σ.length∧id≠i∧hp[i]?=some ⟨s,ds⟩)∨(i=σ.length∧s = .live∧ds=l):=by
  intro i s ds h hd
  rcases dV h with ⟨hi,h⟩| ⟨hi,h⟩
  ·rw[hlen] at hi
   by_cases e:id=i
   ·subst e;rw[getElem?_set_self hlt] at h;cases h;exact absurd rfl hd
   ·rw[getElem?_set_ne e] at h;exact .inl ⟨hi,e,h⟩
  ·rw[hlen] at hi;cases h;exact .inr ⟨hi,rfl,rfl⟩
 refine⟨⟨?_,fun i b h => ?_,S.foreign,fun i s ds b hi hd hb k c hk => ?_,fun i s ds b hi hd hb => ?_,fun i b ds hi hb => ?_,fun i j b1 b2 s ds hi hj hd hne h1 h2 => ?_,fun i ds b hi hb => ?_,fun i j b1 b2 hi hj hne h1 h2 => ?_⟩,st⟩
 ·show (σ++[_]).length=(hp.set id ⟨.dead,[]⟩++[_]).length
  simp[S.len]
 ·rcases hget h with ⟨_,h⟩| ⟨_,h⟩
  ·exact S.spot i b h
  ·subst h;exact S.spot id a ha
 ·rcases hblk hi hd with ⟨h1,h2,h3⟩| ⟨h1,h2,h3⟩
  ·rcases hget hb with ⟨_,hb⟩| ⟨h4,_⟩
   ·obtain⟨v,g1,g2⟩:=S.cells i s ds b h3 hd hb k c hk
    exact⟨v,g1,g2.step st⟩
   ·omega
  ·rcases hget hb with ⟨h4,_⟩| ⟨_,hb⟩
   ·omega
   ·subst hb;subst h3
    obtain⟨v,g1,g2⟩:=hl k c hk
    exact⟨v,g1,g2.step st⟩
 ·rcases hblk hi hd with ⟨h1,h2,h3⟩| ⟨h1,h2,h3⟩
  ·rcases hget hb with ⟨_,hb⟩| ⟨h4,_⟩
   ·exact S.own i s ds b h3 hd hb
   ·omega
  ·rcases hget hb with ⟨h4,_⟩| ⟨_,hb⟩
   ·omega
   ·subst hb
    exact S.own id .live cs a hid (by simp) ha
 ·rcases hblk hi (by simp) with ⟨h1,h2,h3⟩| ⟨h1,h2,h3⟩
  ·rcases hget hb with ⟨_,hb⟩| ⟨h4,_⟩
   ·exact S.live i b ds h3 hb
   ·omega
  ·rcases hget hb with ⟨h4,_⟩| ⟨_,hb⟩
   ·omega
   ·subst hb;subst h3
    obtain⟨c,e,hc,hs⟩:=hfit
    exact⟨c,e,hc,hs⟩
 ·obtain⟨ds',hi⟩:=hi
  rcases hblk hi (by simp) with ⟨i1,i2,i3⟩| ⟨i1,i2,i3⟩ <;> rcases hblk hj hd with ⟨j1,j2,j3⟩| ⟨j1,j2,j3⟩
  ·rcases hget h1 with ⟨_,h1⟩| ⟨h4,_⟩
   ·rcases hget h2 with ⟨_,h2⟩| ⟨h4,_⟩
    ·exact S.inj i j b1 b2 s ds ⟨_,i3⟩ j3 hd hne h1 h2
    ·omega
   ·omega
  ·rcases hget h1 with ⟨_,h1⟩| ⟨h4,_⟩
   ·rcases hget h2 with ⟨h4,_⟩| ⟨_,h2⟩
    ·omega
    ·subst h2
     exact S.inj i id b1 a .live cs ⟨_,i3⟩ hid (by simp) (Ne.symm i2) h1 ha
   ·omega
  ·rcases hget h1 with ⟨h4,_⟩| ⟨_,h1⟩
   ·omega
   ·subst h1
    rcases hget h2 with ⟨_,h2⟩| ⟨h4,_⟩
    ·exact S.inj id j a b2 s ds hliveid j3 hd j2 ha h2
    ·omega
  ·omega
 ·obtain⟨hi1,hi2⟩:=hmp hi
  rcases hget hb with ⟨_,hb⟩| ⟨h4,_⟩
  ·obtain⟨h1,es,ck,h2,h3⟩:=S.maps i ds b hi2 hb
   exact⟨h1,es,ck,h2,h3.step st⟩
  ·omega
 ·obtain⟨ds1,hi⟩:=hi
  obtain⟨ds2,hj⟩:=hj
  obtain⟨hi1,hi2⟩:=hmp hi
  obtain⟨hj1,hj2⟩:=hmp hj
  rcases hget h1 with ⟨_,h1⟩| ⟨h4,_⟩
  ·rcases hget h2 with ⟨_,h2⟩| ⟨h4,_⟩
   ·exact S.injm i j b1 b2 ⟨_,hi2⟩ ⟨_,hj2⟩ hne h1 h2
   ·omega
  ·omega
theorem sP {t tx ty e:TypeId}{i:TypeInfo}(ht:P.underlying t=some (.slice e))(hi:P.info? e=some i){a:Addr}{sLen sCap:Nat}{x:Value}{n:Nat}{news:List Value}(hs:Src P i.size tx x n news w)
  (hroom:sLen+n≤sCap) {w':World} (hst:(storeCells (a.add (sLen*i.size)) news).run P w = .ok () w') :
  (Builtin.append_ #[t,tx] ty #[.slice (some a) sLen sCap,x]).run P w = .ok (.slice (some a) (sLen+n) sCap) w':=by
 rcases hs.kind with ⟨e',hk⟩| hk <;> simp[Builtin.append_,run_underlying ht,run_underlying hk,sizeOf,typeInfo,hi,hs.len,hroom,hs.cells,hst]
end
end Go.Ab
