/- An abstract interpreter over the model's code and its soundness, part 2; each lemma states its conditions. -/
import Derived.Test.YtjdmodeenbdfpaaGreatW01
import Derived.Deep.AppendSrc
set_option linter.unusedSimpArgs false
set_option linter.unusedVariables false
namespace Go.Ab
open Go List
def gq (P:Program)(T:Tab):Prop:=∀ t i,T t=some i→P.info? t=some i
section types
variable {P:Program} {T:Tab} (hT:gq P T)
include hT
theorem jL {t:TypeId}{d:TypeDesc}(h:und T t=some d):P.underlying t=some d:=by
 unfold und at h
 unfold Program.underlying
 cases hi:T t with
 | none=>simp[hi] at h
 | some i =>
  rw[hi] at h
  rw[hT t i hi]
  cases i with
  | mk desc str size bytes hp al fa zero cmp ms =>
   cases desc <;> simp at h ⊢ <;> try exact h
   rename_i n u
   obtain⟨j,hj,hd⟩:=h
   exact⟨j,hT u j hj,hd⟩
theorem dB {t:TypeId}{d:TypeDesc}(h:und T t=some d)(w:World):(underlying t).run P w = .ok d w:=run_underlying (jL hT h) w
theorem DN {t:TypeId}{i:TypeInfo}(h:T t=some i)(w:World):(typeInfo t).run P w = .ok i w:=by
 simp[typeInfo,hT t i h]
theorem fI {t:TypeId}{n:Nat}(h:de T t=some n)(w:World):(sizeOf t).run P w = .ok n w:=by
 unfold de at h
 cases hi:T t with
 | none=>simp[hi] at h
 | some i =>
  simp[hi] at h
  simp[Go.sizeOf,DN hT hi,h]
theorem vf {t:TypeId}{b:Bool}(h:fq T t=some b)(w:World):(isAgg t).run P w = .ok b w:=by
 unfold fq at h
 cases hu:und T t with
 | none=>simp[hu] at h
 | some d =>
  simp only[isAgg,Sem.run_bind,dB hT hu,Result.andThen_ok]
  rw[hu] at h
  cases d <;> simp at h ⊢ <;> exact h
theorem ni {t:TypeId}{zs:Ψ}(h:eB T t=some zs)(w:World):∃ z,(zeroValue t).run P w = .ok z w∧zs=z.cells.toList.map .sc:=by
 unfold eB at h
 cases hi:T t with
 | none=>simp[hi] at h
 | some i =>
  rw[hi] at h
  cases i with
  | mk desc str size bytes hp al fa zero cmp ms =>
   cases zero with
   | none=>simp at h
   | some z =>
    simp at h
    exact⟨z,by simp[zeroValue,DN hT hi],h.symm⟩
end types
def fi (P:Program)(s:Sem Next)(w:World)(H:Nat→Prop)(σ:List Addr)(hp:Θ)(r:PV)(hp':Θ):Prop :=
 ∃ n v w' σ',s.run P w = .ok n w'∧(n = .value v∨(n = .skip∧v=undef))∧V w' (hot H σ' hp') σ' (aY hp') r v∧Sim w' H σ' hp' ∧
  Step w (cS σ hp) σ (aY hp) w' (cS σ' hp') σ' (aY hp')
theorem fi.same {P:Program}{s:Sem Next}{w:World}{H:Nat→Prop}{σ:List Addr}{hp:Θ}{r:PV}{v:Value}(S:Sim w H σ hp)
  (h:s.run P w = .ok (.value v) w) (hv:V w (hot H σ hp) σ (aY hp) r v):fi P s w H σ hp r hp :=
 ⟨.value v,v,w,σ,h,.inl rfl,hv,S,Step.refl _ _ _ _⟩
theorem mb {w w':World}(h:w'.heap=w.heap)(ho:w'.os=w.os)(ht:w'.tape=w.tape)(hq:w'.output=w.output)(M:Nat→Prop)(σ:List Addr)(L:Nat→Prop):Step w M σ L w' M σ L :=
 ⟨ho,ht,hq,by rw[h];exact Nat.le_refl _,fun _ _ h=>h,fun _ _ _=>by rw[h],iA fun _ c _ _ hb=>⟨c,by rw[h];exact hb,rfl⟩,fun _ _ h=>h,fun _ _ h=>h⟩
theorem zl {w w':World}{H:Nat→Prop}{σ:List Addr}{hp:Θ}(S:Sim w H σ hp)(h:w'.heap=w.heap)(ho:w'.os=w.os)(ht:w'.tape=w.tape)(hq:w'.output=w.output):Sim w' H σ hp :=
 ⟨S.len,fun i a ha=>by rw[h];exact S.spot i a ha,fun b hb=>by rw[h];exact S.foreign b hb,
 fun i st cs a hi hd ha k c hk=>by
  obtain⟨v,h1,h2⟩:=S.cells i st cs a hi hd ha k c hk
  exact⟨v,by rw[gi (w:=w) (w':=w') (a:=⟨a.block,a.off+k,none⟩) (by rw[h])];exact h1,h2.step (mb h ho ht hq _ _ _)⟩,
 S.own,fun i a cs hi ha=>by rw[h];exact S.live i a cs hi ha,S.inj,
 fun i cs a hi ha=>by
  obtain⟨h1,es,ck,h2,h3⟩:=S.maps i cs a hi ha
  exact⟨h1,es,ck,by rw[h];exact h2,h3.step (mb h ho ht hq _ _ _)⟩,S.injm⟩
def At (w:World)(M:Nat→Prop)(σ:List Addr)(L:Nat→Prop)(a:Addr)(cs:Ψ):Prop :=
 ∃ g:Nat→Value,∀ (k:Nat) c,cs[k]?=some c→a.spot=none∧w.cell? ⟨a.block,a.off+k,none⟩=some (g k)∧V w M σ L c (g k)
theorem At.drop {w:World}{M:Nat→Prop}{σ:List Addr}{L:Nat→Prop}{a:Addr}{cs:Ψ}(h:At w M σ L a cs)(n:Nat):At w M σ L ⟨a.block,a.off+n,none⟩ (cs.drop n):=by
 obtain⟨g,hg⟩:=h
 refine⟨fun k=>g (n+k),fun k c hk => ?_⟩
 rw[getElem?_drop] at hk
 obtain⟨_,h2,h3⟩:=hg _ c hk
 exact⟨rfl,by rw[Nat.add_assoc];exact h2,h3⟩
theorem At.take {w:World}{M:Nat→Prop}{σ:List Addr}{L:Nat→Prop}{a:Addr}{cs:Ψ}(h:At w M σ L a cs)(n:Nat):At w M σ L a (cs.take n):=by
 obtain⟨g,hg⟩:=h
 refine⟨g,fun k c hk=>hg k c ?_⟩
 rw[getElem?_take] at hk
 split at hk
 ·exact hk
 ·cases hk
theorem gp {a:Addr}(h:a.spot=none)(n:Nat):a.add n=⟨a.block,a.off+n,none⟩:=by
 unfold Addr.add
 split
 ·rename_i h';subst h';cases a;simp at h;simp[h]
 ·rfl
theorem At.run {w:World}{M:Nat→Prop}{σ:List Addr}{L:Nat→Prop}{a:Addr}{cs:Ψ}(h:At w M σ L a cs)(P:Program) :
  ∃ vs:Array Value,(loadCells a cs.length).run P w = .ok vs w∧cs.length=vs.size∧∀ (k:Nat) c v,cs[k]?=some c→vs[k]?=some v→V w M σ L c v:=by
 obtain⟨g,hg⟩:=h
 refine⟨((List.range cs.length).map g).toArray,run_loadCells w a cs.length g (fun j hj => ?_),by simp,fun k c v h1 h2 => ?_⟩
 ·obtain⟨h1,h2,_⟩:=hg j _ (List.getElem?_eq_getElem hj)
  rw[gp h1];exact h2
 ·have hk:=cQ h1
  simp[hk] at h2
  subst h2
  exact (hg k c h1).2.2
theorem A3 {w:World}{H:Nat→Prop}{σ:List Addr}{hp:Θ}(S:Sim w H σ hp){p:PV}{v:Value}{cs:Ψ}{ids:Ω}(h:aX hp p=some (cs,ids))
  (hv:V w (hot H σ hp) σ (aY hp) p v):∃ a,v = .pointer (some a)∧At w (hot H σ hp) σ (aY hp) a cs:=by
 cases hv with
 | ptr id off a ha =>
  simp only[aX,cW] at h
  cases hb:hp[id]? with
  | none=>simp[hb] at h
  | some b =>
   cases b with
   | mk st ds =>
    simp only[hb] at h
    split at h
    ·cases h
    ·rename_i hd
     simp only[OiE,PiE,cA] at h
     obtain⟨h1,h2⟩:=h
     subst h1
     refine⟨_,rfl,?_⟩
     have hA:At w (hot H σ hp) σ (aY hp) ⟨a.block,a.off,none⟩ ds:=by
      refine⟨fun k=>(w.cell? ⟨a.block,a.off+k,none⟩).getD undef,fun k c hk => ?_⟩
      obtain⟨v,h1,h2⟩:=S.cells id st ds a hb hd ha k c hk
      exact⟨rfl,by simp[h1],by simpa [h1] using h2⟩
     exact hA.drop off
 | iptr ds a g h1 h2 =>
  simp only[aX,OiE,PiE] at h
  obtain⟨e1,e2⟩:=h
  subst e1
  exact⟨a,rfl,g,fun k c hk=>⟨(h1 k c hk).1,(h1 k c hk).2.2.2,h2 k c hk⟩⟩
 | _=>simp[aX] at h
theorem Aj {P:Program}{T:Tab}(hT:gq P T){w:World}{M:Nat→Prop}{σ:List Addr}{L:Nat→Prop}{a:Addr}{cs:Ψ}{t:TypeId}{x:PV}(h:partOf T t cs=some x)(hA:At w M σ L a cs) :
  ∃ v,(loadVar t a).run P w = .ok v w∧V w M σ L x v:=by
 unfold partOf at h
 split at h
 ·rename_i n hg hs
  cases ht:bD cs n with
  | none=>simp[ht] at h
  | some l =>
   simp[ht] at h
   subst h
   obtain⟨hle,rfl⟩:=fw ht
   obtain⟨vs,hr,hl,hv⟩:=(hA.take n).run P
   rw[length_take,Nat.min_eq_left hle] at hr
   refine⟨.agg vs,?_,.agg _ _ hl hv⟩
   simp only[loadVar,Sem.run_bind,vf hT hg,Result.andThen_ok,if_true,fI hT hs,hr]
   rfl
 ·rename_i n hg hs
  cases cs with
  | nil=>simp at h
  | cons c cs =>
   simp at h;subst h
   obtain⟨g,hgg⟩:=hA
   obtain⟨h1,h2,h3⟩:=hgg 0 c (by simp)
   refine⟨g 0,?_,h3⟩
   simp only[loadVar,Sem.run_bind,vf hT hg,Result.andThen_ok]
   have:w.cell? a=some (g 0):=by
    have:=h2;simp only[Nat.add_zero] at this;cases a;simp at h1;subst h1;exact this
   simp[this]
 ·cases h
theorem xj {P:Program}{T:Tab}(hT:gq P T){w:World}{M:Nat→Prop}{σ:List Addr}{L:Nat→Prop}{cs:Ψ}{vs:Array Value}{t:TypeId}{off:Nat}{x:PV}(h:partOf T t (bq cs off)=some x)
  (hl:cs.length=vs.size) (hv:∀ (k:Nat) c v,cs[k]?=some c→vs[k]?=some v→V w M σ L c v) :
  ∃ v,(part t vs off).run P w = .ok v w∧V w M σ L x v:=by
 rw[cA] at h
 unfold partOf at h
 split at h
 ·rename_i n hg hs
  cases ht:bD (cs.drop off) n with
  | none=>simp[ht] at h
  | some l =>
   simp[ht] at h
   subst h
   obtain⟨hle,rfl⟩:=fw ht
   rw[length_drop] at hle
   refine⟨.agg (vs.extract off (off+n)),?_,.agg _ _ (by simp;omega) (fun k c v h1 h2 => ?_)⟩
   ·simp only[part,Sem.run_bind,vf hT hg,Result.andThen_ok,if_true,fI hT hs]
    rfl
   ·rw[getElem?_take] at h1
    split at h1
    ·rw[getElem?_drop] at h1
     rename_i hk
     have hk2:=cQ h1
     rw[Array.getElem?_extract] at h2
     rw[if_pos (by omega)] at h2
     exact hv _ c v h1 h2
    ·cases h1
 ·rename_i n hg hs
  cases hd:cs.drop off with
  | nil=>simp[hd] at h
  | cons c r =>
   simp[hd] at h;subst h
   have hc:cs[off]?=some c:=by
    have:(cs.drop off)[0]?=some c:=by rw[hd];rfl
    rwa [getElem?_drop] at this
   have ho:off<vs.size:=by have:=cQ hc;omega
   refine⟨vs[off],?_,hv off c _ hc (by simp[ho])⟩
   simp only[part,Sem.run_bind,vf hT hg,Result.andThen_ok]
   simp[ho]
 ·cases h
theorem Ky {w:World}{H:Nat→Prop}{σ:List Addr}{hp:Θ}(S:Sim w H σ hp){s:Nat}{p:PV}{v:Value}{len:Nat}{cs:Ψ}{ids:Ω}(h:fk hp s p=some (len,cs,ids))
  (hv:V w (hot H σ hp) σ (aY hp) p v):∃ base cap,v = .slice base len cap∧cs.length=len*s∧(base=none→cs=[]∧len=0∧cap=0)∧∀ a,base=some a→At w (hot H σ hp) σ (aY hp) a cs:=by
 cases hv with
 | sc v =>
  unfold fk at h
  split at h
  ·rename_i heq
   cases heq
   simp only[OiE,PiE] at h
   obtain⟨rfl,rfl,rfl⟩:=h
   exact⟨none,0,rfl,by simp,fun _=>⟨rfl,rfl,rfl⟩,fun a h=>by cases h⟩
  ·rename_i heq;cases heq
  ·rename_i heq;cases heq
  ·cases h
 | nil x =>
  simp[fk] at h
  obtain⟨rfl,rfl,rfl⟩:=h
  exact⟨none,0,rfl,by simp,fun _=>⟨rfl,rfl,rfl⟩,fun a h=>by cases h⟩
 | imm len' x ds a cap g h1 h2 h3 h4 =>
  simp only[fk] at h
  split at h
  ·rename_i hl
   simp only[OiE,PiE] at h
   obtain⟨rfl,rfl,rfl⟩:=h
   refine⟨some a,cap,rfl,hl,by simp,fun b hb => ?_⟩
   cases hb
   exact⟨g,fun k c hk=>⟨(h3 k c hk).1,(h3 k c hk).2.2.2,h4 k c hk⟩⟩
  ·cases h
 | own id s' off len' x a b cap h1 h2 h3 h4 h5 =>
  simp only[fk,cW] at h
  cases hb:hp[id]? with
  | none=>simp[hb] at h
  | some blk =>
   cases blk with
   | mk st ds =>
    simp only[hb] at h
    split at h
    ·cases h
    ·rename_i hd
     cases ht:bD (bq ds off) (len'*s) with
     | none=>simp[ht] at h
     | some l =>
      simp only[ht,OiE,PiE] at h
      obtain⟨rfl,rfl,rfl⟩:=h
      obtain⟨hle,rfl⟩:=fw ht
      rw[cA] at *
      refine⟨some b,cap,rfl,by simp;simp at hle;omega,by simp,fun b' hb' => ?_⟩
      cases hb'
      have hA:At w (hot H σ hp) σ (aY hp) ⟨a.block,a.off,none⟩ ds:=by
       refine⟨fun k=>(w.cell? ⟨a.block,a.off+k,none⟩).getD undef,fun k c hk => ?_⟩
       obtain⟨v,h1,h2⟩:=S.cells id st ds a hb (fun e=>hd (.inl e)) h1 k c hk
       exact⟨rfl,by simp[h1],by simpa [h1] using h2⟩
      by_cases hc:0<cap
      ·have:=(hA.drop off).take (len'*s)
       rw[← h4 hc] at this
       exact this
      ·have:len'=0:=by omega
       subst this
       simp
       exact⟨fun _=>undef,fun k c hk=>by simp at hk⟩
 | _=>simp[fk] at h
theorem xa {P:Program}{α:Type} : ∀ (s:Sem α) (v:α),iG P s=some v→∀ w,s.run P w = .ok v w:=by
 intro s
 induction s with
 | pure a=>intro v h w;simp[iG] at h;simp[h]
 | program k ih=>intro v h w;simp only[iG] at h;simp only[Sem.run];exact ih P v h w
 | mark m k ih=>intro v h w;simp only[iG] at h;simp only[Sem.run];exact ih v h w
 | _=>intro v h w;simp[iG] at h
theorem lx (k:IntKind)(n:Int):bF k n=k.wrap n:=by
 unfold bF
 cases h:(decide (loK k≤n) && decide (n≤hiK k)) with
 | false=>rfl
 | true =>
  simp only[Bool.and_eq_true,decide_eq_true_eq] at h
  obtain⟨h1,h2⟩:=h
  cases k <;> simp only[loK,hiK] at h1 h2 <;> simp only[cond_true,IntKind.wrap,IntKind.bits,IntKind.signed] <;> simp <;> omega
theorem acp {op:BinOp}{k:IntKind}{a b:Int}{v:Value}(h:bg op k a b=some v)(P:Program)(t:TypeId)(x y:Operand)(w:World) :
  (do eqGuard op t x y (.int k a) (.int k b);binOp op t (.int k a) (.int k b)).run P w = .ok v w:=by
 cases op <;> simp only[bg] at h
 case add=>simp at h;subst h;simp[eqGuard,binOp,Op.intArith,lx]
 case sub=>simp at h;subst h;simp[eqGuard,binOp,Op.intArith,lx]
 case mul=>simp at h;subst h;simp[eqGuard,binOp,Op.intArith,lx]
 case quo =>
  split at h
  ·cases h
  ·rename_i hb;simp at h;subst h;simp[eqGuard,binOp,Op.intDiv,lx,hb]
 case rem =>
  split at h
  ·cases h
  ·rename_i hb;simp at h;subst h;simp[eqGuard,binOp,Op.intDiv,hb]
 case eql=>simp at h;subst h;simp[eqGuard,binOp,Op.intCmp]
 case neq=>simp at h;subst h;simp[eqGuard,binOp,Op.intCmp]
 case lss=>simp at h;subst h;simp[eqGuard,binOp,Op.intCmp]
 case leq=>simp at h;subst h;simp[eqGuard,binOp,Op.intCmp]
 case gtr=>simp at h;subst h;simp[eqGuard,binOp,Op.intCmp]
 case geq=>simp at h;subst h;simp[eqGuard,binOp,Op.intCmp]
 all_goals cases h
theorem tp (s:ByteArray):s.toList=bO s:=by
 unfold bO
 have key:∀ (n i:Nat) (r:List UInt8),s.size - i=n→ByteArray.toList.loop s i r=r.reverse++s.data.toList.drop i:=by
  intro n
  induction n with
  | zero =>
   intro i r h
   unfold ByteArray.toList.loop
   have : ¬ i<s.size:=by omega
   have h2:s.data.toList.length≤i:=by
    have:s.data.toList.length=s.size:=by rw[Array.length_toList];rfl
    omega
   rw[if_neg this,drop_of_length_le h2]
   simp
  | succ n ih =>
   intro i r h
   unfold ByteArray.toList.loop
   have hi:i<s.size:=by omega
   have hi':i<s.data.toList.length:=by
    have:s.data.toList.length=s.size:=by rw[Array.length_toList];rfl
    omega
   rw[if_pos hi,ih (i+1) _ (by omega),drop_eq_getElem_cons hi']
   simp[ByteArray.get!]
   rw[getElem!_pos s.data i (by simpa using hi')]
 have:=key s.size 0 [] (by omega)
 simpa [ByteArray.toList] using this
theorem s9 (a b:List UInt8):eqL a b=(a == b):=by
 induction a generalizing b with
 | nil=>cases b <;> simp[eqL]
 | cons x a ih =>
  cases b with
  | nil=>simp[eqL]
  | cons y b =>
   simp only[eqL,ih]
   have:(x.toNat == y.toNat)=(x == y):=by
    rw[Bool.eq_iff_iff];simp[UInt8.toNat_inj]
   rw[this];rfl
theorem afj (a b:List UInt8):ltL a b=Op.bytesLess a b:=by
 induction a generalizing b with
 | nil=>cases b <;> simp[ltL,Op.bytesLess]
 | cons x a ih =>
  cases b with
  | nil=>simp[ltL,Op.bytesLess]
  | cons y b =>
   simp only[ltL,Op.bytesLess,ih]
   have h1:(x.toNat == y.toNat)=(x == y):=by
    rw[Bool.eq_iff_iff];simp[UInt8.toNat_inj]
   have h2:x.toNat.blt y.toNat=decide (x<y):=by
    rw[Bool.eq_iff_iff];simp[UInt8.lt_iff_toNat_lt,Nat.blt];omega
   rw[h1,h2]
   cases decide (x<y) <;> simp
theorem fU (s:ByteArray):(bO s).length=s.size:=by
 unfold bO;rw[Array.length_toList];rfl
theorem fm (l:List UInt8):bO (mkStr l)=l:=by simp[bO,mkStr]
theorem gE (s:ByteArray):mkStr (bO s)=s:=by
 cases s with | mk d=>simp[mkStr,bO]
theorem Dd (a b:ByteArray):a++b=mkStr (bO a++bO b):=by
 have:bO (a++b)=bO a++bO b:=by simp[bO,ByteArray.data_append]
 rw[← gE (a++b),this]
theorem acn {op:BinOp}{a b:ByteArray}{v:Value}(h:fc op a b=some v)(P:Program)(t:TypeId)(x y:Operand)(w:World) :
  (do eqGuard op t x y (.string a) (.string b);binOp op t (.string a) (.string b)).run P w = .ok v w:=by
 have e:∀ op,binOp op t (.string a) (.string b)=Op.stringOp op a b:=fun op=>by cases op <;> rfl
 cases op <;> simp only[fc] at h
 case add =>
  split at h
  ·cases h
  ·rename_i hn
   simp at h;subst h
   simp only[fU] at hn
   have hn' : ¬ (9223372036854775807:Int)<(a.size:Int)+(b.size:Int):=by omega
   simp[eqGuard,e,Op.stringOp,IntKind.max,IntKind.signed,IntKind.bits,hn',Dd]
 all_goals first
  | (simp at h;subst h;simp[eqGuard,e,Op.stringOp,tp,s9,afj];done)
  | (simp at h;done)
theorem xr {w:World}{M:Nat→Prop}{σ:List Addr}{L:Nat→Prop}(v:Value):V w M σ L (av v) v:=by
 cases v <;> simp only[av] <;> try exact .sc _
 rename_i cs
 refine .agg _ _ (by simp) (fun k c u h1 h2 => ?_)
 rw[getElem?_map] at h1
 have:cs.toList[k]?=some u:=by simpa using h2
 rw[this] at h1
 simp at h1;subst h1;exact .sc u
theorem V.lf {w:World}{M:Nat→Prop}{σ:List Addr}{L:Nat→Prop}{v u:Value}(h:V w M σ L (.sc v) u):u=v:=by cases h;rfl
theorem ze {w:World}{M:Nat→Prop}{σ:List Addr}{L:Nat→Prop}{cs:Ψ}{l:List Value}(h:kG cs=some l)(vs:List Value)(hl:cs.length=vs.length)
  (hv:∀ (k:Nat) c v,cs[k]?=some c→vs[k]?=some v→V w M σ L c v):vs=l:=by
 induction cs generalizing l vs with
 | nil=>simp[kG] at h;subst h;cases vs with
  | nil=>rfl
  | cons v vs=>simp at hl
 | cons c cs ih =>
  cases c with
  | sc v =>
   simp only[kG] at h
   cases ht:kG cs with
   | none=>simp[ht] at h
   | some l' =>
    simp[ht] at h;subst h
    cases vs with
    | nil=>simp at hl
    | cons u vs =>
     have h0:=hv 0 (.sc v) u (by simp) (by simp)
     cases h0
     rw[ih ht vs (by simpa using hl) (fun k c v h1 h2=>hv (k+1) c v (by simpa using h1) (by simpa using h2))]
  | _=>simp[kG] at h
theorem zh {w:World}{M:Nat→Prop}{σ:List Addr}{L:Nat→Prop}{p:PV}{v:Value}(h:GC p=true)(hv:V w M σ L p v):∃ a l c,v = .slice (some a) l c:=by
 cases hv <;> simp[GC] at h
 ·exact⟨_,_,_,rfl⟩
 ·exact⟨_,_,_,rfl⟩
theorem Pv {P:Program}{w:World}{M:Nat→Prop}{σ:List Addr}{L:Nat→Prop}{op:BinOp}{t:TypeId}{k k':IntKind}{m n:Int}{r:PV}(h:au P op t k m k' n=some r)(x y:Operand) :
  ∃ v,(do eqGuard op t x y (.int k m) (.int k' n);binOp op t (.int k m) (.int k' n)).run P w = .ok v w∧V w M σ L r v:=by
 unfold au at h
 split at h
 ·rename_i v hv
  simp at h;subst h
  split at hv
  ·rename_i e;subst e
   exact⟨v,acp hv P t x y w,.sc v⟩
  ·cases hv
 ·cases hr:iG P (binOp op t (.int k m) (.int k' n)) with
  | none=>simp[hr] at h
  | some v =>
   simp[hr] at h;subst h
   refine⟨v,?_,xr v⟩
   have:=xa _ _ hr w
   have hg:(eqGuard op t x y (.int k m) (.int k' n)).run P w = .ok () w:=by cases op <;> rfl
   simp only[Sem.run_bind,hg,Result.andThen_ok,this]
theorem run_equal_bool {P:Program}{T:Tab}(hT:gq P T){t:TypeId}(hu:und T t=some .bool)(m n:Bool)(w:World):(Op.equal t (.bool m) (.bool n)).run P w = .ok (m == n) w:=by
 have key:∀ d,(Op.equalIn (d+1) t (.bool m) (.bool n)).run P w = .ok (m == n) w:=fun d=>by
  rw[Op.equalIn];simp only[Sem.run_bind,dB hT hu,Result.andThen_ok];rfl
 exact key 9999
theorem yE {P:Program}{T:Tab}(hT:gq P T){t e:TypeId}(hu:und T t=some (.slice e))(a:Option Addr)(l c:Nat)(w:World):(Op.equal t (.slice a l c) (.slice none 0 0)).run P w = .ok a.isNone w:=by
 have key:∀ d,(Op.equalIn (d+1) t (.slice a l c) (.slice none 0 0)).run P w = .ok a.isNone w:=fun d=>by
  rw[Op.equalIn];simp only[Sem.run_bind,dB hT hu,Result.andThen_ok]
  cases a <;> rfl
 exact key 9999
theorem I8 {P:Program}{T:Tab}(hT:gq P T){w:World}{M:Nat→Prop}{σ:List Addr}{L:Nat→Prop}{op:BinOp}{t:TypeId}{m n:Bool}{r:PV}(h:dP T op t m n=some r)(x y:Operand) :
  ∃ v,(do eqGuard op t x y (.bool m) (.bool n);binOp op t (.bool m) (.bool n)).run P w = .ok v w∧V w M σ L r v:=by
 unfold dP at h
 split at h
 ·rename_i hu
  simp at h;subst h
  refine⟨.bool (m == n),?_,.sc _⟩
  have hg:(eqGuard .eql t x y (.bool m) (.bool n)).run P w = .ok () w:=rfl
  simp only[Sem.run_bind,hg,Result.andThen_ok]
  simp[binOp,run_equal_bool hT hu]
 ·rename_i hu
  simp at h;subst h
  refine⟨.bool (m != n),?_,.sc _⟩
  have hg:(eqGuard .neq t x y (.bool m) (.bool n)).run P w = .ok () w:=rfl
  simp only[Sem.run_bind,hg,Result.andThen_ok]
  simp[binOp,run_equal_bool hT hu,bne]
 ·cases h
theorem kJ {P:Program}{T:Tab}(hT:gq P T){t e:TypeId}(hu:und T t=some (.slice e))(a:Option Addr)(l c:Nat)(x y:Operand)(w:World) :
  (do eqGuard .eql t x y (.slice a l c) (.slice none 0 0);binOp .eql t (.slice a l c) (.slice none 0 0)).run P w = .ok (.bool a.isNone) w ∧
  (do eqGuard .neq t x y (.slice a l c) (.slice none 0 0);binOp .neq t (.slice a l c) (.slice none 0 0)).run P w = .ok (.bool !a.isNone) w:=by
 have hg:∀ op,(eqGuard op t x y (.slice a l c) (.slice none 0 0)).run P w = .ok () w:=fun op=>by cases op <;> rfl
 have he:=yE hT hu a l c w
 constructor
 ·simp only[Sem.run_bind,hg,Result.andThen_ok];simp[binOp,he]
 ·simp only[Sem.run_bind,hg,Result.andThen_ok];simp[binOp,he]
theorem Pu {P:Program}{T:Tab}(hT:gq P T){w:World}{M:Nat→Prop}{σ:List Addr}{L:Nat→Prop}{op:BinOp}{t:TypeId}{p r:PV}{a:Value}(h:I7 T op t p=some r)
  (hp:V w M σ L p a) (x y:Operand):∃ v,(do eqGuard op t x y a (.slice none 0 0);binOp op t a (.slice none 0 0)).run P w = .ok v w∧V w M σ L r v:=by
 unfold I7 at h
 split at h
 ·rename_i e _ hu hs
  simp at h;subst h
  obtain⟨a',l,c,rfl⟩:=zh hs hp
  exact⟨_,(kJ hT hu (some a') l c x y w).1,.sc _⟩
 ·rename_i e _ hu hs
  simp at h;subst h
  obtain⟨a',l,c,rfl⟩:=zh hs hp
  exact⟨_,(kJ hT hu (some a') l c x y w).2,.sc _⟩
 ·rename_i e hu hs hn
  simp at h;subst h
  unfold Cf at hn
  split at hn
  ·cases hp
   exact⟨_,(kJ hT hu none 0 0 x y w).1,.sc _⟩
  ·cases hn
 ·rename_i e hu hs hn
  simp at h;subst h
  unfold Cf at hn
  split at hn
  ·cases hp
   exact⟨_,(kJ hT hu none 0 0 x y w).2,.sc _⟩
  ·cases hn
 ·cases h
theorem Pw {P:Program}{w:World}{M:Nat→Prop}{σ:List Addr}{L:Nat→Prop}{op:BinOp}{t:TypeId}{m n:Ψ}{r:PV}{a b:Array Value}(h:I9 P op t m n=some r)
  (hm:m.length=a.size∧∀ (k:Nat) c v,m[k]?=some c→a[k]?=some v→V w M σ L c v) (hn:n.length=b.size∧∀ (k:Nat) c v,n[k]?=some c→b[k]?=some v→V w M σ L c v) (x y:Operand) :
  ∃ v,(do eqGuard op t x y (.agg a) (.agg b);binOp op t (.agg a) (.agg b)).run P w = .ok v w∧V w M σ L r v:=by
 unfold I9 at h
 split at h
 ·rename_i u v hu hv
  have e1:=ze hu a.toList (by simpa using hm.1) (fun k c v h1 h2=>hm.2 k c v h1 (by simpa using h2))
  have e2:=ze hv b.toList (by simpa using hn.1) (fun k c v h1 h2=>hn.2 k c v h1 (by simpa using h2))
  subst e1;subst e2
  cases hr:iG P (do eqGuard op t (.const undef) (.const undef) (.agg a.toList.toArray) (.agg b.toList.toArray);binOp op t (.agg a.toList.toArray) (.agg b.toList.toArray)) with
  | none=>simp[hr] at h
  | some z =>
   simp[hr] at h;subst h
   refine⟨z,?_,xr z⟩
   have:=xa _ _ hr w
   have hg:∀ x y,eqGuard op t x y (.agg a) (.agg b)=eqGuard op t (.const undef) (.const undef) (.agg a) (.agg b):=fun x y=>by cases op <;> rfl
   simp only[Array.toArray_toList] at this
   rw[hg x y]
   exact this
 ·cases h
theorem aco {P:Program}{T:Tab}(hT:gq P T){w:World}{M:Nat→Prop}{σ:List Addr}{L:Nat→Prop}{op:BinOp}{t:TypeId}{p q r:PV}{a b:Value}(h:aZ P T op t p q=some r)
  (hp:V w M σ L p a) (hq:V w M σ L q b) (x y:Operand):∃ v,(do eqGuard op t x y a b;binOp op t a b).run P w = .ok v w∧V w M σ L r v:=by
 unfold aZ at h
 split at h
 ·cases hp;cases hq
  exact Pv h x y
 ·cases hp;cases hq
  rename_i m n
  cases hs:fc op m n with
  | none=>simp[hs] at h
  | some v =>
   simp[hs] at h;subst h
   exact⟨v,acn hs P t x y w,.sc v⟩
 ·cases hp;cases hq
  exact I8 hT h x y
 ·cases hq
  exact Pu hT h hp x y
 ·cases hp with | agg _ a h1 h2=>cases hq with | agg _ b h3 h4=>exact Pw h ⟨h1,h2⟩ ⟨h3,h4⟩ x y
 ·cases h
theorem adC {P:Program}{w:World}{M:Nat→Prop}{σ:List Addr}{L:Nat→Prop}{op:UnOp}{p r:PV}{a:Value}(h:unP op p=some r)(hp:V w M σ L p a) :
  ∃ v,(Op.unary op a).run P w = .ok v w∧V w M σ L r v:=by
 unfold unP at h
 split at h
 ·cases hp;simp at h;subst h
  exact⟨_,by simp[Op.unary,Op.intArith,lx],.sc _⟩
 ·cases hp;simp at h;subst h
  exact⟨_,by simp[Op.unary],.sc _⟩
 ·cases h
section
variable {P:Program} {T:Tab} (hT:gq P T) {w:World} {M:Nat→Prop} {L:Nat→Prop} {σ:List Addr}
def Rel (w:World)(M:Nat→Prop)(σ:List Addr)(L:Nat→Prop)(cs:Ψ)(vs:Array Value):Prop :=
 cs.length=vs.size∧∀ (k:Nat) c v,cs[k]?=some c→vs[k]?=some v→V w M σ L c v
theorem Rel.one {p:PV}{v:Value}(h:V w M σ L p v):Rel w M σ L [p] #[v] :=
 ⟨rfl,fun k c u h1 h2=>by
  cases k with
  | zero=>simp at h1 h2;subst h1;subst h2;exact h
  | succ k=>simp at h1⟩
theorem V.yb {p:PV}{v:Value}{cs:Ψ}(h:p.cells?=some cs)(hv:V w M σ L p v):Rel w M σ L cs v.cells:=by
 have hv0:=hv
 cases hv with
 | any=>simp[PV.cells?] at h
 | tup=>simp[PV.cells?] at h
 | agg ds vs hl hd=>simp[PV.cells?] at h;subst h;exact⟨hl,hd⟩
 | sc v =>
  unfold PV.cells? at h
  split at h <;> simp_all
  rename_i hna
  have e:v.cells=#[v]:=by cases v <;> first | rfl | exact absurd rfl (hna _)
  rw[e,← h]
  exact Rel.one (.sc v)
 | _ =>
  simp[PV.cells?] at h
  rw[← h]
  exact Rel.one hv0
theorem BL (z:Array Value):Rel w M σ L (z.toList.map .sc) z :=
 ⟨by simp,fun k c u h1 h2=>by
  rw[getElem?_map] at h1
  have:z.toList[k]?=some u:=by simpa using h2
  rw[this] at h1;simp at h1;subst h1;exact .sc u⟩
theorem AH (off:Nat):∀ (l:List Value) (n:Nat) (cells:Array Value),off+n+l.length≤cells.size →
  ((l.zipIdx n).foldl (fun cs (x:Value × Nat)=>cs.setIfInBounds (off+x.2) x.1) cells).size=cells.size ∧
  ∀ k,((l.zipIdx n).foldl (fun cs (x:Value × Nat)=>cs.setIfInBounds (off+x.2) x.1) cells)[k]?=if off+n≤k∧k<off+n+l.length then l[k - (off+n)]? else cells[k]?
 | [],n,cells,_=>⟨rfl,fun k=>by rw[if_neg (by simp)];rfl⟩
 | v::l,n,cells,h=>by
  simp only[length_cons] at h
  obtain⟨h1,h2⟩:=AH off l (n+1) (cells.setIfInBounds (off+n) v) (by simp;omega)
  simp only[zipIdx_cons,foldl_cons]
  refine⟨by rw[h1];simp,fun k => ?_⟩
  rw[h2 k]
  simp only[length_cons]
  by_cases hk:off+(n+1)≤k∧k<off+(n+1)+l.length
  ·rw[if_pos hk,if_pos (by omega)]
   obtain⟨m,hm⟩:∃ m,k - (off+n)=m+1:=⟨k - (off+n) - 1,by omega⟩
   rw[hm,getElem?_cons_succ];congr 1;omega
  ·rw[if_neg hk]
   by_cases hk0:k=off+n
   ·subst hk0
    rw[if_pos (by omega)]
    have:off+n<cells.size:=by omega
    simp[this]
   ·rw[if_neg (by omega),Array.getElem?_setIfInBounds_ne (Ne.symm hk0)]
theorem Sh {cs cs' new:Ψ}{vs nv:Array Value}{vs':Array Value}{off:Nat}(h:cm cs off new=some cs')(hc:Rel w M σ L cs vs)(hn:Rel w M σ L new nv)
  (hs:vs'.size=vs.size) (hv:∀ k,vs'[k]?=if off≤k∧k<off+nv.size then nv[k - off]? else vs[k]?):Rel w M σ L cs' vs':=by
 obtain⟨h1,h2,h3⟩:=kp h
 refine⟨by rw[h2,hs];exact hc.1,fun k c v hk hv' => ?_⟩
 rw[h3] at hk;rw[hv] at hv'
 rw[hn.1] at hk
 split at hk
 ·rename_i hb;rw[if_pos hb] at hv';exact hn.2 _ c v hk hv'
 ·rename_i hb;rw[if_neg hb] at hv';exact hc.2 _ c v hk hv'
def F3 (w:World)(M:Nat→Prop)(σ:List Addr)(L:Nat→Prop):List (Nat × PV)→List (Nat × Value)→Prop
 | [],[]=>True
 | (i,p)::r,(j,v)::r'=>i=j∧V w M σ L p v∧F3 w M σ L r r'
 | _,_=>False
theorem vu (place place':Nat→Option (Nat × Nat))(hp:∀ i x,place i=some x→place' i=some x):∀ (parts:List (Nat × PV)) (vparts:List (Nat × Value)) (cs r:Ψ) (vs:Array Value),
  dq place cs parts=some r→F3 w M σ L parts vparts→Rel w M σ L cs vs→∃ arr,Instr.fill place' vs vparts=some arr∧Rel w M σ L r arr
 | [],[],cs,r,vs,h,_,hc=>by simp[dq] at h;subst h;exact⟨vs,rfl,hc⟩
 | [],_::_,_,_,_,_,h,_=>h.elim
 | _::_,[],_,_,_,_,h,_=>h.elim
 | (i,p)::parts,(j,v)::vparts,cs,r,vs,h,⟨e,hv,hr⟩,hc=>by
  subst e
  simp only[dq] at h
  split at h
  ·rename_i off size ps hpl hps
   split at h
   ·rename_i hsz
    split at h
    ·rename_i l hl
     have hrel:=V.yb hps hv
     obtain⟨h1,h2,h3⟩:=kp hl
     obtain⟨hf1,hf2⟩:=AH off v.cells.toList 0 vs (by have:=hrel.1;have:=hc.1;simp;omega)
     have hn:Rel w M σ L l (v.cells.zipIdx.foldl (fun cs (x:Value × Nat)=>cs.setIfInBounds (off+x.2) x.1) vs):=by
      have e:v.cells.zipIdx.foldl (fun cs (x:Value × Nat)=>cs.setIfInBounds (off+x.2) x.1) vs=(v.cells.toList.zipIdx 0).foldl (fun cs (x:Value × Nat)=>cs.setIfInBounds (off+x.2) x.1) vs:=by
       rw[← Array.foldl_toList,Array.toList_zipIdx]
      rw[e]
      refine Sh hl hc hrel hf1 (fun k => ?_)
      rw[hf2 k];simp
     obtain⟨arr,ha,hra⟩:=vu place place' hp parts vparts l r _ h hr hn
     refine⟨arr,?_,hra⟩
     simp only[Instr.fill,hp _ _ hpl]
     have c1:(v.cells.size≠size || off+v.cells.size > vs.size)=false:=by
      have:=hrel.1;have:=hc.1
      simp;omega
     rw[if_neg (by simpa using c1)]
     exact ha
    ·cases h
   ·cases h
  ·cases h
include hT in
theorem W5 {t:TypeId}{parts:List (Nat × PV)}{vparts:Array (Nat × Value)}{r:PV}(h:fb T t parts=some r)(hp:F3 w M σ L parts vparts.toList) :
  ∃ v,(Instr.build t vparts).run P w = .ok v w∧V w M σ L r v:=by
 unfold fb at h
 split at h
 ·rename_i zs fields hz hu
  split at h
  ·rename_i hall
   obtain⟨z,hz1,hz2⟩:=ni hT hz w
   cases hf:dq (ko T fields) zs parts with
   | none=>simp[hf] at h
   | some l =>
    simp[hf] at h;subst h
    let places:Array (Nat × Nat):=fields.map fun f=>(f.offset,(de T f.type).getD 0)
    have hpl:(fields.mapM fun f=>do pure (f.offset,← Go.sizeOf f.type):Sem (Array (Nat × Nat))).run P w = .ok places w:=by
     have key:∀ (l:List Field),l.all (fun f=>(de T f.type).isSome)=true →
       (l.mapM (fun f=>do let n ← Go.sizeOf f.type;pure (f.offset,n)):Sem (List (Nat × Nat))).run P w = .ok (l.map fun f=>(f.offset,(de T f.type).getD 0)) w:=by
      intro l
      induction l with
      | nil=>intro _;rfl
      | cons f l ih =>
       intro h
       simp only[all_cons,Bool.and_eq_true] at h
       obtain⟨n,hn⟩:=Option.isSome_iff_exists.1 h.1
       rw[mapM_cons]
       simp only[Sem.run_bind,fI hT hn,Result.andThen_ok,Sem.run_pure,ih h.2,map_cons,hn,Option.getD_some]
     rw[Array.mapM_eq_mapM_toList]
     simp only[Sem.run_map]
     rw[key fields.toList hall]
     simp only[Result.andThen_ok]
     congr 1
     apply Array.ext'
     simp[places]
    have hzr:Rel w M σ L zs z.cells:=by rw[hz2];exact BL _
    obtain⟨arr,h1,h2⟩:=vu (w:=w) (M:=M) (σ:=σ) (L:=L) _ (places[·]?) (fun i x hx=>by
     simp only[places,Array.getElem?_map]
     unfold ko at hx
     cases hfi:fields[i]? with
     | none=>simp[hfi] at hx
     | some f =>
      simp[hfi] at hx
      obtain⟨n,hn,rfl⟩:=hx
      simp[hn]) parts vparts.toList zs l z.cells hf hp hzr
    refine⟨.agg arr,?_,.agg _ _ h2.1 h2.2⟩
    simp only[Instr.build,Sem.run_bind,hz1,Result.andThen_ok,dB hT hu,hpl,h1]
    rfl
  ·cases h
 ·rename_i zs n e hz hu
  split at h
  ·rename_i s hs
   obtain⟨z,hz1,hz2⟩:=ni hT hz w
   cases hf:dq (fun i=>some (i*s,s)) zs parts with
   | none=>simp[hf] at h
   | some l =>
    simp[hf] at h;subst h
    have hzr:Rel w M σ L zs z.cells:=by rw[hz2];exact BL _
    obtain⟨arr,h1,h2⟩:=vu (w:=w) (M:=M) (σ:=σ) (L:=L) _ (fun i=>some (i*s,s)) (fun i x hx=>hx) parts vparts.toList zs l z.cells hf hp hzr
    refine⟨.agg arr,?_,.agg _ _ h2.1 h2.2⟩
    simp only[Instr.build,Sem.run_bind,hz1,Result.andThen_ok,dB hT hu,fI hT hs,h1]
    rfl
  ·cases h
 ·cases h
theorem vg (n:Nat)(z:Array Value)(m:Nat)(hm:m=n*z.size):Rel w M σ L (rep n (z.toList.map .sc)) ((Array.range m).map (z[· % z.size]!)):=by
 subst hm
 refine⟨by rw[kl];simp,fun k c v h1 h2 => ?_⟩
 have hk:k<n*z.size:=by have:=cQ h1;rw[kl] at this;simpa using this
 rw[BK _ _ _ (by simpa using hk)] at h1
 have h0:0<z.size:=by
  rcases Nat.eq_zero_or_pos z.size with h | h
  ·rw[h] at hk;simp at hk
  ·exact h
 have hlt:k % z.size<z.size:=Nat.mod_lt _ h0
 simp at h1
 have hz:z.toList[k % z.size]?=some z[k % z.size]:=by simp[hlt]
 rw[Array.getElem?_map,Array.getElem?_range] at h2
 rw[if_pos hk] at h2
 simp at h2
 rw[getElem!_pos z _ hlt] at h2
 obtain⟨a,ha,rfl⟩:=h1
 rw[Array.getElem?_eq_getElem hlt] at ha
 simp at ha
 rw[← ha,h2]
 exact .sc _
include hT in
theorem afr {t:TypeId}{len s:Nat}{parts:List (Nat × PV)}{vparts:Array (Nat × Value)}{cs:Ψ}(h:eM T t len parts=some (s,cs))(hp:F3 w M σ L parts vparts.toList) :
  ∃ e arr,und T t=some (.slice e)∧de T e=some s∧(Instr.buildSlice t len vparts).run P w = .ok (.slice (some ⟨w.heap.size,0,none⟩) len len) (w.alloc (.cells arr e))∧Rel w M σ L cs arr∧cs.length=len*s:=by
 unfold eM at h
 split at h
 ·rename_i e hu
  split at h
  ·rename_i s' zs hs hz
   split at h
   ·rename_i hle
    obtain⟨z,hz1,hz2⟩:=ni hT hz w
    cases hf:dq (fun i=>some (i*s',s')) (rep len zs) parts with
    | none=>simp[hf] at h
    | some l =>
     simp[hf] at h
     obtain⟨rfl,rfl⟩:=h
     have hzs:z.cells.size=s':=by have:=hle.2;rw[hz2] at this;simpa using this
     have hzr:Rel w M σ L (rep len zs) ((Array.range (len*s')).map ((if len*s'=0 then #[] else z.cells)[· % (if len*s'=0 then (#[]:Array Value) else z.cells).size]!)):=by
      by_cases h0:len*s'=0
      ·rw[hz2]
       have:=vg (w:=w) (M:=M) (σ:=σ) (L:=L) len z.cells (len*s') (by rw[hzs])
       rw[h0] at this ⊢
       simpa [Array.range_zero'] using this
      ·rw[if_neg h0,hz2]
       exact vg len z.cells (len*s') (by rw[hzs])
     obtain⟨arr,h1,h2⟩:=vu (w:=w) (M:=M) (σ:=σ) (L:=L) _ (fun i=>some (i*s',s')) (fun i x hx=>hx) parts vparts.toList _ l _ hf hp hzr
     refine⟨e,arr,hu,hs,?_,h2,?_⟩
     ·have hn : ¬ (len*s' > 2 ^ 24):=by simp;exact hle.1
      simp only[Instr.buildSlice,Sem.run_bind,dB hT hu,Result.andThen_ok,fI hT hs,if_neg hn]
      by_cases h0:len*s'=0
      ·rw[if_pos h0] at h1
       rw[if_pos h0]
       simp only[pure_bind,h1]
       rfl
      ·rw[if_neg h0] at h1
       rw[if_neg h0]
       simp only[pure_bind]
       rw[Sem.run_bind,hz1]
       simp only[Result.andThen_ok,h1]
       rfl
     ·have key:∀ (ps:List (Nat × PV)) (cs r:Ψ),dq (fun i=>some (i*s',s')) cs ps=some r→r.length=cs.length:=by
       intro ps
       induction ps with
       | nil=>intro cs r h;simp[dq] at h;rw[h]
       | cons x ps ih =>
        intro cs r h
        obtain⟨i,p⟩:=x
        simp only[dq] at h
        split at h
        ·split at h
         ·split at h
          ·rename_i l hl
           rw[ih _ _ h,(kp hl).2.1]
          ·cases h
         ·cases h
        ·cases h
      rw[key _ _ _ hf,kl,hle.2]
   ·cases h
  ·cases h
 ·cases h
end
section
variable {P:Program} {T:Tab} (hT:gq P T) {w:World} {M:Nat→Prop} {L:Nat→Prop} {σ:List Addr}
def OV (w:World)(M:Nat→Prop)(σ:List Addr)(L:Nat→Prop):Option PV→Option Value→Prop
 | none,none=>True
 | some p,some v=>V w M σ L p v
 | _,_=>False
theorem jI {p:PV}{v:Value}{n:Nat}(h:gl p=some n)(hv:V w M σ L p v):∃ k,v = .int k (n:Int):=by
 unfold gl at h
 split at h
 ·cases hv;simp at h;subst h;exact⟨_,rfl⟩
 ·cases h
theorem gy {n y:Nat}(h:n≤y)(k:IntKind)(c:BoundsCode):(Instr.sliceBound (.int k (n:Int)) y c).run P w = .ok n w:=by
 have:(0:Int)≤(n:Int)∧(n:Int)≤(y:Int):=by omega
 simp only[Instr.sliceBound,asIntOf,pure_bind,if_pos this]
 simp
theorem pb {d n:Nat}{o:Option PV}{o':Option Value}(h:eD d o=some n)(ho:OV w M σ L o o'):(o'=none∧n=d)∨∃ k,o'=some (.int k (n:Int)):=by
 cases o with
 | none=>cases o' with
  | none=>simp[eD] at h;exact .inl ⟨rfl,h.symm⟩
  | some v=>exact ho.elim
 | some p=>cases o' with
  | none=>exact ho.elim
  | some v =>
   obtain⟨k,e⟩:=jI h ho
   exact .inr ⟨k,by rw[e]⟩
theorem tq {len l h:Nat}{m:Option Nat}{lo hi mx:Option PV}{lo' hi' mx':Option Value}(hb:bnd len lo hi mx=some (l,h,m))(h1:OV w M σ L lo lo')(h2:OV w M σ L hi hi')(h3:OV w M σ L mx mx')
  (isS:Bool) {cap:Nat} (hcap:len≤cap) :
  (Instr.sliceBounds isS len cap lo' hi' mx').run P w = .ok (l,h,m.getD cap) w∧l≤h∧h≤len∧(∀ k,m=some k→h≤k∧k≤len)∧(m=none→mx'=none):=by
 unfold bnd at hb
 split at hb
 ·rename_i l0 h0 hl hh
  split at hb
  ·rename_i hc
   simp at hb
   obtain⟨rfl,rfl,rfl⟩:=hb
   cases mx' with
   | some v=>exact h3.elim
   | none =>
    refine⟨?_,hc.1,hc.2,(fun k hk=>by cases hk),fun _=>rfl⟩
    rcases pb hl h1 with ⟨e1,e2⟩| ⟨k1,e1⟩ <;> rcases pb hh h2 with ⟨e3,e4⟩| ⟨k2,e3⟩ <;> subst e1 <;> subst e3
    ·subst e2;subst e4;simp[Instr.sliceBounds]
    ·subst e2;simp[Instr.sliceBounds,gy (P:=P) (w:=w) (show h0≤cap by omega)]
    ·subst e4;simp[Instr.sliceBounds,gy (P:=P) (w:=w) hc.1]
    ·simp[Instr.sliceBounds,gy (P:=P) (w:=w) (show h0≤cap by omega),gy (P:=P) (w:=w) hc.1]
  ·cases hb
 ·rename_i l0 h0 pm ph hl hh
  split at hb
  ·rename_i m0 hm0
   split at hb
   ·rename_i hc
    simp at hb
    obtain⟨rfl,rfl,rfl⟩:=hb
    cases mx' with
    | none=>exact h3.elim
    | some vm =>
     obtain⟨km,rfl⟩:=jI hm0 h3
     refine⟨?_,hc.1,by omega,(fun k hk=>by cases hk;exact⟨hc.2.1,hc.2.2⟩),fun e=>by cases e⟩
     rcases pb hh h2 with ⟨e3,e4⟩| ⟨k2,e3⟩
     ·subst e3;exact h2.elim
     ·subst e3
      rcases pb hl h1 with ⟨e1,e2⟩| ⟨k1,e1⟩ <;> subst e1
      ·subst e2;simp[Instr.sliceBounds,gy (P:=P) (w:=w) (show m0≤cap by omega),gy (P:=P) (w:=w) hc.2.1]
      ·simp[Instr.sliceBounds,gy (P:=P) (w:=w) (show m0≤cap by omega),gy (P:=P) (w:=w) hc.2.1,gy (P:=P) (w:=w) hc.1]
   ·cases hb
  ·cases hb
 ·cases hb
theorem At.imm {a:Addr}{cs:Ψ}{len cap:Nat}{x:Bool}(g:Nat→Value)(h:∀ (k:Nat) c,cs[k]?=some c→a.spot=none∧c.cF=true ∧ ¬ M a.block∧w.cell? ⟨a.block,a.off+k,none⟩=some (g k))
  (hv:∀ (k:Nat) c,cs[k]?=some c→V w M σ L c (g k)) (off n:Nat) (hl:len≤cap) (hx:x=true→cap=len) (b:Addr) (hb:0<n→b=a.add off):V w M σ L (.imm len x ((cs.drop off).take n)) (.slice (some b) len cap):=by
 refine .imm len x _ b cap (fun k=>g (off+k)) hl hx (fun k c hk => ?_) (fun k c hk => ?_)
 ·rw[getElem?_take] at hk
  split at hk
  ·rename_i hkn
   rw[getElem?_drop] at hk
   obtain⟨e1,e2,e3,e4⟩:=h _ c hk
   have eb:=hb (by omega)
   rw[gp e1] at eb
   subst eb
   exact⟨rfl,e2,e3,by rw[Nat.add_assoc];exact e4⟩
  ·cases hk
 ·rw[getElem?_take] at hk
  split at hk
  ·rw[getElem?_drop] at hk;exact hv _ c hk
  ·cases hk
include hT in
theorem GH {t e:TypeId}(hu:und T t=some (.slice e)){p r:PV}{v:Value}{lo hi mx:Option PV}{lo' hi' mx':Option Value}(h:iy T e p lo hi mx=some r)(hv:V w M σ L p v)
  (h1:OV w M σ L lo lo') (h2:OV w M σ L hi hi') (h3:OV w M σ L mx mx'):∃ u,(Instr.slice t v lo' hi' mx').run P w = .ok u w∧V w M σ L r u:=by
 unfold iy at h
 cases hs:de T e with
 | none=>simp[hs] at h
 | some s =>
  simp only[hs] at h
  have run:∀ (a:Option Addr) (len cap l h:Nat) (m:Option Nat),(Instr.sliceBounds true len cap lo' hi' mx').run P w = .ok (l,h,m.getD cap) w →
    (Instr.slice t (.slice a len cap) lo' hi' mx').run P w = .ok (.slice (if m.getD cap=l then a else a.map (·.add (l*s))) (h - l) (m.getD cap - l)) w:=by
   intro a len cap l h m hb
   simp only[Instr.slice,Sem.run_bind,dB hT hu,Result.andThen_ok,hb,fI hT hs]
   rfl
  split at h
  ·cases hv
   split at h
   ·rename_i x hb
    obtain⟨l,hh,m⟩:=x
    simp at h;subst h
    obtain⟨hr,hl,hh',hm,hn⟩:=tq (P:=P) hb h1 h2 h3 true (cap:=0) (Nat.le_refl _)
    have e1:hh=0:=by omega
    have e2:l=0:=by omega
    have e3:m.getD 0=0:=by
     cases m with
     | none=>rfl
     | some k=>have:=(hm k rfl).2;simp;omega
    subst e1;subst e2
    refine⟨_,run none 0 0 0 0 m hr,?_⟩
    rw[e3];exact .sc _
   ·cases h
  ·rename_i len x cs
   split at h
   ·rename_i l hh m hb
    split at h
    ·rename_i hcs
     cases ht:bD (bq cs (l*s)) ((hh - l)*s) with
     | none=>simp[ht] at h
     | some c =>
      simp[ht] at h;subst h
      obtain⟨hle,rfl⟩:=fw ht
      rw[cA] at *
      cases hv with
      | nil x =>
       obtain⟨hr,hl,hh',hm,hn⟩:=tq (P:=P) hb h1 h2 h3 true (cap:=0) (Nat.le_refl _)
       have e1:hh=0:=by omega
       have e2:l=0:=by omega
       have e3:m.getD 0=0:=by
        cases m with
        | none=>rfl
        | some k=>have:=(hm k rfl).2;simp;omega
       subst e1;subst e2
       refine⟨_,run none 0 0 0 0 m hr,?_⟩
       rw[e3];simp;exact .nil _
      | imm _ _ _ a cap g g1 g2 g3 g4 =>
       obtain⟨hr,hl,hh',hm,hn⟩:=tq (P:=P) hb h1 h2 h3 true g1
       refine⟨_,run (some a) len cap l hh m hr,?_⟩
       have hmc:hh≤m.getD cap:=by
        cases m with
        | none=>simp;omega
        | some k=>have:=(hm k rfl).1;simp;omega
       have hfull:fz x len hh m=true→m.getD cap - l=hh - l:=by
        intro hf
        cases m with
        | none =>
         simp[fz] at hf
         have:=g2 hf.1
         simp;omega
        | some k=>simp[fz] at hf;simp;omega
       have key:=At.imm (x:=fz x len hh m) (len:=hh - l) (cap:=m.getD cap - l) g g3 g4 (l*s) ((hh - l)*s) (by omega) hfull (if m.getD cap=l then a else a.add (l*s)) (fun hpos=>by
        rw[if_neg]
        intro e
        have:hh - l=0:=by omega
        rw[this] at hpos;simp at hpos)
       have e:(if m.getD cap=l then some a else Option.map (fun x=>x.add (l*s)) (some a))=some (if m.getD cap=l then a else a.add (l*s)):=by split <;> rfl
       rw[e];exact key
    ·cases h
   ·cases h
  ·rename_i id s' off len x
   split at h
   ·rename_i l hh m hb
    split at h
    ·rename_i hss
     simp at h;subst h;subst hss
     cases hv with
     | own _ _ _ _ _ a b cap g1 g2 g3 g4 g5 =>
      obtain⟨hr,hl,hh',hm,hn⟩:=tq (P:=P) hb h1 h2 h3 true g2
      refine⟨_,run (some b) len cap l hh m hr,?_⟩
      have hmc:hh≤m.getD cap∧m.getD cap≤cap:=by
       cases m with
       | none=>simp;omega
       | some k=>have:=hm k rfl;simp;omega
      have hfull:fz x len hh m=true→m.getD cap - l=hh - l:=by
       intro hf
       cases m with
       | none =>
        simp[fz] at hf
        have:=g3 hf.1
        simp;omega
       | some k=>simp[fz] at hf;simp;omega
      have e:(if m.getD cap=l then some b else Option.map (fun x=>x.add (l*s)) (some b))=some (if m.getD cap=l then b else b.add (l*s)):=by split <;> rfl
      rw[e]
      refine .own id s (off+l*s) (hh - l) _ a _ _ g1 (by omega) hfull (fun hpos => ?_) (fun hL => ?_)
      ·rw[if_neg (by omega)]
       have eb:=g4 (by omega)
       subst eb
       rw[gp rfl];simp[Nat.add_assoc]
      ·obtain⟨c,e',hc,hsz⟩:=g5 hL
       refine⟨c,e',hc,?_⟩
       have hm1:(m.getD cap - l)*s+l*s≤cap*s:=by
        rw[← Nat.add_mul];exact Nat.mul_le_mul_right s (by omega)
       omega
    ·cases h
   ·cases h
  ·cases h
end
section
variable {P:Program} {T:Tab} (hT:gq P T) {w:World} {M:Nat→Prop} {L:Nat→Prop} {σ:List Addr}
theorem extract_eq (s:ByteArray)(l h:Nat):s.extract l h=mkStr (((bO s).take h).drop l):=by
 rw[← gE (s.extract l h)]
 congr 1
 simp[bO,ByteArray.data_extract]
 rw[drop_take]
include hT in
theorem Dp {t:TypeId}(hu:und T t=some .string){s:ByteArray}{r:PV}{lo hi mx:Option PV}{lo' hi' mx':Option Value}(h:ef s lo hi mx=some r)
  (h1:OV w M σ L lo lo') (h2:OV w M σ L hi hi') (h3:OV w M σ L mx mx'):∃ u,(Instr.slice t (.string s) lo' hi' mx').run P w = .ok u w∧V w M σ L r u:=by
 unfold ef at h
 split at h
 ·rename_i l hh hb
  simp at h;subst h
  rw[fU] at hb
  obtain⟨hr,hl,hh',hm,hn⟩:=tq (P:=P) hb h1 h2 h3 false (Nat.le_refl _)
  have:=hn rfl
  subst this
  refine⟨.string (s.extract l hh),?_,by rw[extract_eq];exact .sc _⟩
  simp only[Instr.slice,Sem.run_bind,dB hT hu,Result.andThen_ok]
  simp[hr]
 ·cases h
theorem yC {H:Nat→Prop}{hp:Θ}(S:Sim w H σ hp){id off:Nat}{a:Addr}{cs:Ψ}(hb:hp[id]?=some ⟨.live,cs⟩)(ha:σ[id]?=some a)(hle:off≤cs.length) :
  ∃ (c:Array Value) (e:TypeId),w.heap[a.block]?=some (Obj.cells c e (0,0))∧a.off+off≤c.size:=by
 obtain⟨c,e,h1,h2⟩:=S.live id a cs hb ha
 exact⟨c,e,h1,by omega⟩
include hT in
theorem Dq {t e:TypeId}{n:Nat}(hu:und T t=some (.array n e)){H:Nat→Prop}{hp:Θ}(S:Sim w H σ hp){p r:PV}{v:Value}{lo hi mx:Option PV}{lo' hi' mx':Option Value}
  (h:iz T hp n e p lo hi mx=some r) (hv:V w (hot H σ hp) σ (aY hp) p v)
  (h1:OV w (hot H σ hp) σ (aY hp) lo lo') (h2:OV w (hot H σ hp) σ (aY hp) hi hi') (h3:OV w (hot H σ hp) σ (aY hp) mx mx') :
  ∃ u,(Instr.sliceAt t v lo' hi' mx').run P w = .ok u w∧V w (hot H σ hp) σ (aY hp) r u:=by
 unfold iz at h
 split at h
 ·rename_i s l hh m hs hb
  obtain⟨hr,hl,hh',hm,hn⟩:=tq (P:=P) hb h1 h2 h3 false (Nat.le_refl _)
  have run:∀ a:Addr,(Instr.sliceAt t (.pointer (some a)) lo' hi' mx').run P w = .ok (.slice (some (if m.getD n=l then a else a.add (l*s))) (hh - l) (m.getD n - l)) w:=by
   intro a
   simp only[Instr.sliceAt,Sem.run_bind,dB hT hu,Result.andThen_ok,Instr.sureAddr,Sem.run_pure,hr,fI hT hs]
  have hmc:hh≤m.getD n∧m.getD n≤n:=by
   cases m with
   | none=>simp;omega
   | some k=>have:=hm k rfl;simp;omega
  have hfull:fz true n hh m=true→m.getD n - l=hh - l:=by
   intro hf
   cases m with
   | none=>simp[fz] at hf;simp;omega
   | some k=>simp[fz] at hf;simp;omega
  split at h
  ·rename_i id off
   cases hv with
   | ptr _ _ a ha =>
    split at h
    ·rename_i cs hcs
     rw[cW] at hcs
     split at h
     ·rename_i hle
      simp at h;subst h
      refine⟨_,run _,.own id s (off+l*s) (hh - l) _ a _ _ ha (by omega) hfull (fun hpos => ?_) (fun _ => ?_)⟩
      ·rw[if_neg (by omega),gp rfl];simp[Nat.add_assoc]
      ·obtain⟨c,e',hc,hsz⟩:=yC S hcs ha hle
       refine⟨c,e',hc,?_⟩
       have hm1:(m.getD n - l)*s+l*s≤n*s:=by
        rw[← Nat.add_mul];exact Nat.mul_le_mul_right s (by omega)
       omega
     ·cases h
    ·cases h
  ·rename_i cs
   cases hv with
   | iptr _ a g g1 g2 =>
    cases ht:bD (bq cs (l*s)) ((hh - l)*s) with
    | none=>simp[ht] at h
    | some c =>
     simp[ht] at h;subst h
     obtain⟨hle,rfl⟩:=fw ht
     rw[cA] at *
     refine⟨_,run a,?_⟩
     exact At.imm g g1 g2 (l*s) ((hh - l)*s) (by omega) hfull _ (fun hpos=>by
      rw[if_neg]
      intro e
      have:hh - l=0:=by omega
      rw[this] at hpos;simp at hpos)
  ·cases h
 ·cases h
include hT in
theorem Mq {t:TypeId}{H:Nat→Prop}{hp:Θ}(S:Sim w H σ hp){p r:PV}{v:Value}{lo hi mx:Option PV}{lo' hi' mx':Option Value}
  (h:dh T hp t p lo hi mx=some r) (hv:V w (hot H σ hp) σ (aY hp) p v)
  (h1:OV w (hot H σ hp) σ (aY hp) lo lo') (h2:OV w (hot H σ hp) σ (aY hp) hi hi') (h3:OV w (hot H σ hp) σ (aY hp) mx mx') :
  ∃ u,(Instr.sliceAt t v lo' hi' mx').run P w = .ok u w∧V w (hot H σ hp) σ (aY hp) r u:=by
 unfold dh at h
 split at h
 ·rename_i hu
  split at h
  ·cases hv
   obtain⟨u,h4,h5⟩:=Dp hT hu h h1 h2 h3
   exact⟨u,by simp only[Instr.sliceAt,Sem.run_bind,dB hT hu,Result.andThen_ok];exact h4,h5⟩
  ·cases h
 ·rename_i e hu
  obtain⟨u,h4,h5⟩:=GH hT hu h hv h1 h2 h3
  exact⟨u,by simp only[Instr.sliceAt,Sem.run_bind,dB hT hu,Result.andThen_ok];exact h4,h5⟩
 ·rename_i n e hu
  exact Dq hT hu S h hv h1 h2 h3
 ·cases h
theorem sZ {cs:Ψ}{a:Addr}{n:Nat}(h:V w M σ L (.iptr cs) (.pointer (some a))):V w M σ L (.iptr (cs.drop n)) (.pointer (some (a.add n))):=by
 cases h with
 | iptr _ _ g g1 g2 =>
  refine .iptr _ _ (fun k=>g (n+k)) (fun k c hk => ?_) (fun k c hk => ?_)
  ·rw[getElem?_drop] at hk
   obtain⟨e1,e2,e3,e4⟩:=g1 _ c hk
   rw[gp e1]
   exact⟨rfl,e2,e3,by simp only[Nat.add_assoc];exact e4⟩
  ·rw[getElem?_drop] at hk;exact g2 _ c hk
theorem V.vi {id off:Nat}{v:Value}(h:V w M σ L (.ptr id off) v):∃ a,σ[id]?=some a∧v = .pointer (some ⟨a.block,a.off+off,none⟩):=by
 cases h with | ptr _ _ a ha=>exact⟨a,ha,rfl⟩
theorem V.xG {cs:Ψ}{v:Value}(h:V w M σ L (.iptr cs) v):∃ a,v = .pointer (some a):=by
 cases h with | iptr _ a=>exact⟨a,rfl⟩
include hT in
theorem yM {t:TypeId}{i:Nat}{p r:PV}{v:Value}(h:bP T t p i=some r)(hv:V w M σ L p v):∃ u,(Instr.fieldAt t v i).run P w = .ok u w∧V w M σ L r u:=by
 unfold bP at h
 split at h
 ·rename_i fields hu
  split at h
  ·rename_i f hf
   have run:∀ (a:Addr) (m:Nat),de T f.type=some (m+1)→(Instr.fieldAt t (.pointer (some a)) i).run P w = .ok (.pointer (some (a.add f.offset))) w:=by
    intro a m hs
    simp[Instr.fieldAt,dB hT hu,hf,Instr.sureAddr,fieldPlace,fI hT hs]
   split at h
   ·rename_i m id off hs
    simp at h;subst h
    obtain⟨a,ha,rfl⟩:=hv.vi
    refine⟨_,run _ m hs,?_⟩
    rw[gp rfl]
    have:=V.ptr (w:=w) (M:=M) (L:=L) id (off+f.offset) a ha
    simpa [Nat.add_assoc] using this
   ·rename_i m cs hs
    simp at h;subst h
    obtain⟨a,rfl⟩:=hv.xG
    rw[cA]
    exact⟨_,run a m hs,sZ hv⟩
   ·cases h
  ·cases h
 ·cases h
include hT in
theorem OX {t:TypeId}{i:Nat}{p r:PV}{v:Value}(h:IA T t p i=some r)(hv:V w M σ L p v):∃ u,(Instr.field t v i).run P w = .ok u w∧V w M σ L r u:=by
 unfold IA at h
 split at h
 ·rename_i fields cs hu
  split at h
  ·rename_i f hf
   cases hv with
   | agg _ vs h1 h2 =>
    obtain⟨u,h3,h4⟩:=xj (w:=w) hT h h1 h2
    exact⟨u,by simp[Instr.field,dB hT hu,hf,asAgg,h3],h4⟩
  ·cases h
 ·cases h
include hT in
theorem yK {t:TypeId}{p q r:PV}{v u:Value}(h:aU T t p q=some r)(hv:V w M σ L p v)(hq:V w M σ L q u):∃ z,(Instr.indexAt t v u).run P w = .ok z w∧V w M σ L r z:=by
 unfold aU at h
 split at h
 ·rename_i e i hu hi
  obtain⟨k,rfl⟩:=jI hi hq
  have run:∀ (a:Addr) (len cap s:Nat),de T e=some s→i<len→(Instr.indexAt t (.slice (some a) len cap) (.int k (i:Int))).run P w = .ok (.pointer (some (a.add (i*s)))) w:=by
   intro a len cap s hs hlt
   have:(0:Int)≤(i:Int)∧(i:Int)<(len:Int):=by omega
   simp only[Instr.indexAt,Sem.run_bind,asIntOf,Sem.run_pure,Result.andThen_ok,dB hT hu,if_pos this,fI hT hs]
   rfl
  split at h
  ·rename_i s len x cs hs
   split at h
   ·rename_i hlt
    simp at h;subst h
    rw[cA]
    cases hv with
    | nil=>omega
    | imm _ _ _ a cap g g1 g2 g3 g4 =>
     refine⟨_,run a len cap s hs hlt,sZ (.iptr cs a g g3 g4)⟩
   ·cases h
  ·rename_i s id s' off len x hs
   split at h
   ·rename_i hlt
    simp at h;subst h
    cases hv with
    | own _ _ _ _ _ a b cap g1 g2 g3 g4 g5 =>
     have eb:=g4 (by omega)
     subst eb
     refine⟨_,run _ len cap s hs hlt.1,?_⟩
     rw[gp rfl]
     have:=V.ptr (w:=w) (M:=M) (L:=L) id (off+i*s) a g1
     simpa [Nat.add_assoc] using this
   ·cases h
  ·cases h
 ·rename_i n e i hu hi
  obtain⟨k,rfl⟩:=jI hi hq
  have run:∀ (a:Addr) (s:Nat),de T e=some s→i<n→(Instr.indexAt t (.pointer (some a)) (.int k (i:Int))).run P w = .ok (.pointer (some (a.add (i*s)))) w:=by
   intro a s hs hlt
   have:(0:Int)≤(i:Int)∧(i:Int)<(n:Int):=by omega
   simp only[Instr.indexAt,Sem.run_bind,asIntOf,Sem.run_pure,Result.andThen_ok,dB hT hu,Instr.sureAddr,if_pos this,fI hT hs]
   rfl
  split at h
  ·rename_i s id off hs
   split at h
   ·rename_i hlt
    simp at h;subst h
    obtain⟨a,ha,rfl⟩:=hv.vi
    refine⟨_,run _ s hs hlt,?_⟩
    rw[gp rfl]
    have:=V.ptr (w:=w) (M:=M) (L:=L) id (off+i*s) a ha
    simpa [Nat.add_assoc] using this
   ·cases h
  ·rename_i s cs hs
   split at h
   ·rename_i hlt
    simp at h;subst h
    obtain⟨a,rfl⟩:=hv.xG
    rw[cA]
    exact⟨_,run a s hs hlt,sZ hv⟩
   ·cases h
  ·cases h
 ·cases h
theorem KM (l:List UInt8)(n:Nat):EO l n=l[n]?:=by
 induction l generalizing n with
 | nil=>simp[EO]
 | cons a l ih=>cases n <;> simp[EO,ih]
include hT in
theorem OO {t:TypeId}{p q r:PV}{v u:Value}(h:ig T t p q=some r)(hv:V w M σ L p v)(hq:V w M σ L q u):∃ z,(Instr.index t v u).run P w = .ok z w∧V w M σ L r z:=by
 unfold ig at h
 split at h
 ·rename_i n e cs i hu hi
  obtain⟨k,rfl⟩:=jI hi hq
  split at h
  ·rename_i s hs
   split at h
   ·rename_i hlt
    cases hv with
    | agg _ vs h1 h2 =>
     obtain⟨z,h3,h4⟩:=xj (w:=w) hT h h1 h2
     have:(0:Int)≤(i:Int)∧(i:Int)<(n:Int):=by omega
     refine⟨z,?_,h4⟩
     simp only[Instr.index,Sem.run_bind,asIntOf,Sem.run_pure,Result.andThen_ok,dB hT hu,if_pos this,fI hT hs]
     exact h3
   ·cases h
  ·cases h
 ·rename_i s i hu hi
  obtain⟨k,rfl⟩:=jI hi hq
  cases hv
  rw[KM] at h
  cases hb:(bO s)[i]? with
  | none=>simp[hb] at h
  | some b =>
   simp[hb] at h;subst h
   refine⟨_,?_,.sc _⟩
   have hlt:=cQ hb
   rw[fU] at hlt
   have e:s[((i:Nat):Int).toNat]?=some b:=by
    rw[Int.toNat_natCast,getElem?_pos s i hlt]
    have:(bO s)[i]?=some s[i]:=by
     unfold bO
     rw[Array.getElem?_toList]
     have hlt':i<s.data.size:=hlt
     rw[Array.getElem?_eq_getElem hlt'];rfl
    rw[this] at hb;exact hb
   simp only[Instr.index,Sem.run_bind,asIntOf,Sem.run_pure,Result.andThen_ok,dB hT hu]
   rw[if_pos (by omega),e]
   rfl
 ·cases h
include hT in
theorem abe {t:TypeId}{p r:PV}{v:Value}(h:bL T t p=some r)(hv:V w M σ L p v)(ty:TypeId):∃ u,(Builtin.len_ #[t] ty #[v]).run P w = .ok u w∧V w M σ L r u:=by
 unfold bL at h
 split at h
 ·rename_i s hu
  simp at h;subst h
  cases hv
  exact⟨_,by simp[Builtin.len_,dB hT hu,fU,goInt],.sc _⟩
 ·rename_i n e hu
  simp at h;subst h
  exact⟨_,by simp[Builtin.len_,dB hT hu,goInt],.sc _⟩
 ·rename_i e hu
  have run:∀ (a:Option Addr) (l c:Nat),(Builtin.len_ #[t] ty #[.slice a l c]).run P w = .ok (.int .i64 (l:Nat)) w:=by
   intro a l c;simp[Builtin.len_,dB hT hu,goInt]
  unfold dy at h
  split at h
  ·cases hv
   simp at h;subst h
   exact⟨_,run none 0 0,.sc _⟩
  ·simp at h;subst h
   cases hv with
   | nil=>exact⟨_,run none 0 0,.sc _⟩
   | imm _ _ _ a cap=>exact⟨_,run _ _ cap,.sc _⟩
  ·simp at h;subst h
   cases hv with | own _ _ _ _ _ a b cap=>exact⟨_,run _ _ cap,.sc _⟩
  ·simp at h
 ·cases h
end
end Go.Ab
