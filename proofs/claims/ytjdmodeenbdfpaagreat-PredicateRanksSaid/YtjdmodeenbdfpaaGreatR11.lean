/- An abstract interpreter over the model's code and its soundness, part 11 of the proof; each lemma states its own conditions. -/
import Derived.Test.YtjdmodeenbdfpaaGreatR10
import Derived.LoopN
import Derived.Scope
set_option linter.unusedSimpArgs false
set_option linter.unusedVariables false
namespace Go.Ab
open Go
section
variable {C:Cfg} {run:ar} {ops:Array Oper} {Φ:List FP}
theorem se (h:uu ops=true){j:Nat}{oj:Oper}(hj:ops[j]?=some oj) :
  (∀ e ∈ oj.after,Region.binds .any e=true→e.on<j)∧∀ i oi,i<j→ops[i]?=some oi→((Region.before ops).getD j 0).testBit i=true∨oi.apart ops oj=true:=by
 unfold uu at h
 have:=(List.all_eq_true.1 h) j (List.mem_range.2 (Array.getElem?_eq_some_iff.1 hj).1)
 simp only[hj,Bool.and_eq_true] at this
 obtain⟨h1,h2⟩:=this
 refine⟨fun e he hb => ?_,fun i oi hi ho => ?_⟩
 ·have:=Array.all_eq_true_iff_forall_mem.1 h1 e he
  simp only[hb,Bool.not_true,Bool.false_or] at this
  exact gB.1 this
 ·have:=(List.all_eq_true.1 h2) i (List.mem_range.2 hi)
  simp only[Bool.or_eq_true,Jr,ho] at this
  exact this
def unl (n:Nat)(listed:Array Bool):List Nat:=(List.range n).filter fun i => !listed.getD i true
theorem sw {n i:Nat}(h:i<n):List.range n=List.range i++i::List.range' (i+1) (n - i - 1):=by
 have h1:n=i+(1+(n - i - 1)):=by omega
 conv=>lhs;rw[List.range_eq_range',h1,← List.range'_append (step:=1)]
 simp only[Nat.zero_add,Nat.one_mul]
 rw[Nat.add_comm 1 (n - i - 1),List.range'_succ,List.range_eq_range']
theorem JE {n i:Nat}{listed:Array Bool}(hi:i<n)(hu:listed.getD i true=false)(hs:listed.size=n) :
  ∃ A B,unl n listed=A++i::B∧unl n (listed.setIfInBounds i true)=A++B∧∀ a ∈ A,a<i∧listed.getD a true=false:=by
 refine⟨(List.range i).filter fun k => !listed.getD k true,(List.range' (i+1) (n - i - 1)).filter fun k => !listed.getD k true,?_,?_,?_⟩
 ·unfold unl
  rw[sw hi,List.filter_append,List.filter_cons,if_pos (by simp[hu])]
 ·unfold unl
  rw[sw hi,List.filter_append,List.filter_cons,if_neg]
  ·congr 1
   ·apply List.filter_congr
    intro k hk
    rw[getD_set_ne true (by simp at hk;omega)]
   ·apply List.filter_congr
    intro k hk
    rw[getD_set_ne true (by simp[List.mem_range'] at hk;omega)]
  ·simp[hs,hi]
 ·intro a ha
  simp only[List.mem_filter,List.mem_range,Bool.not_eq_true'] at ha
  exact ha
def U9 (ops:Array Oper)(listed:Array Bool):Prop :=
 ∀ j,j<ops.size→listed.getD j true=true→∀ i,((Region.before ops).getD j 0).testBit i=true→listed.getD i true=true
theorem Ax {listed:Array Bool}{i:Nat}(h:listed.getD i false=true):listed.getD i true=true:=by
 rcases Nat.lt_or_ge i listed.size with h' | h'
 ·simpa [h'] using h
 ·simp[Array.getElem?_eq_none h']
theorem uP {i:Nat}{listed:Array Bool}(hc:U9 ops listed)(hr:i ∈ Region.ready .any ops listed):i<ops.size∧listed.getD i true=false∧∀ k,((Region.before ops).getD i 0).testBit k=true→listed.getD k true=true:=by
 obtain⟨h0,o,ho,hall⟩:=mem_ready.1 hr
 have hlt:=(Array.getElem?_eq_some_iff.1 ho).1
 refine⟨hlt,h0,fun k hk => ?_⟩
 obtain⟨hb,hs⟩:=DQ ops
 obtain⟨o',h1,e,h2,h3,h4⟩:=hb i (by omega) k hk
 rw[ho] at h1;cases h1
 have hl:=Ax (hall e h2 h3)
 rcases h4 with rfl | ⟨h5,h6⟩
 ·exact hl
 ·exact hc e.on (by omega) hl k h6
theorem adS {Q:Exit→Act→World→Prop}{G:X→Act→World→Prop}(hst:uu ops=true)
  (hcomm:∀ i j,i<j→j<ops.size→((Region.before ops).getD j 0).testBit i=false→Comm C run ops Φ i j)
  (hG:∀ i x y a w K,wX C run ops Φ i x y→G x a w→(∀ a w,G y a w→K a w)→wpOp C.P ops Q i K a w) (z:X) (hQ:∀ a w,G z a w→Q .normal a w) :
  ∀ (fuel:Nat) (listed:Array Bool) (x:X) (a:Act) (w:World),listed.size=ops.size→U9 ops listed→(unl ops.size listed).length≤fuel→Fold C run ops Φ (unl ops.size listed) x z→G x a w→wpAny C.P .any ops Q fuel listed a w:=by
 have hready:∀ listed:Array Bool,listed.size=ops.size→Region.ready .any ops listed=[]→unl ops.size listed=[]:=fun listed hs hr=>by
  have key:∀ m,∀ i,i<m→i<ops.size→listed.getD i true=true:=by
   intro m
   induction m with
   | zero=>intro i h;omega
   | succ m ih =>
    intro i him hi
    cases hl:listed.getD i true with
    | true=>rfl
    | false =>
     have ho:ops[i]?=some ops[i]:=Array.getElem?_eq_getElem hi
     have:i ∈ Region.ready .any ops listed:=mem_ready.2 ⟨hl,ops[i],ho,fun e he hb=>by
      have hlt:=(se hst ho).1 e he hb
      have:=ih e.on (by omega) (by omega)
      have hls:e.on<listed.size:=by omega
      simp[hls] at this
      simp[hls,this]⟩
     rw[hr] at this;cases this
  unfold unl
  rw[List.filter_eq_nil_iff]
  intro i hi
  have:=key (i+1) i (by omega) (List.mem_range.1 hi)
  simp at this
  simp[this]
 intro fuel
 induction fuel with
 | zero =>
  intro listed x a w hs hc hl hf hg
  have hu:unl ops.size listed=[]:=List.length_eq_zero_iff.1 (by omega)
  rw[hu] at hf
  cases hf
  refine⟨?_,hQ _ _ hg⟩
  cases hr:Region.ready .any ops listed with
  | nil=>rfl
  | cons i l =>
   obtain⟨h1,h2,_⟩:=uP hc (i:=i) (by rw[hr];simp)
   have:i ∈ unl ops.size listed:=List.mem_filter.2 ⟨List.mem_range.2 h1,by rw[h2];rfl⟩
   rw[hu] at this;cases this
 | succ fuel ih =>
  intro listed x a w hs hc hl hf hg
  refine⟨fun hr => ?_,fun i hi => ?_⟩
  ·have hu:=hready listed hs hr
   rw[hu] at hf
   cases hf
   exact hQ _ _ hg
  ·obtain⟨h1,h2,h3⟩:=uP hc hi
   obtain⟨A,B,e1,e2,e3⟩:=JE h1 h2 hs
   rw[e1] at hf hl
   obtain⟨y,s1,s2⟩:=UB A x z hf fun b hb=>by
    obtain⟨h4,h5⟩:=e3 b hb
    refine hcomm b i h4 h1 ?_
    cases hbit:((Region.before ops).getD i 0).testBit b with
    | false=>rfl
    | true=>have:=h3 b hbit;rw[h5] at this;cases this
   refine hG i x y a w _ s1 hg fun a' w' hg'=>ih (listed.setIfInBounds i true) y a' w' (by simpa using hs) ?_ ?_ ?_ hg'
   ·intro j hj hlj k hk
    by_cases hji:j=i
    ·subst hji
     have:=h3 k hk
     by_cases hkj:k=j
     ·subst hkj;exact hlj
     ·rw[getD_set_ne true (Ne.symm hkj)];exact this
    ·rw[getD_set_ne true (Ne.symm hji)] at hlj
     have:=hc j hj hlj k hk
     by_cases hki:k=i
     ·subst hki
      rw[h2] at this;cases this
     ·rw[getD_set_ne true (Ne.symm hki)];exact this
   ·rw[e2];simp at hl ⊢;omega
   ·rw[e2];exact s2
theorem I9:∀ (l:List Oper) (st st':St) (fps:List FP) (k:Nat),ao C run true ops l st=some (st',fps)→(∀ j,j<l.length→ops[k+j]?=l[j]?)→(∀ j,j<l.length→Φ[k+j]?=fps[j]?) →
  Fold C run ops Φ (List.range' k l.length) (st.fr,st.hp) (st'.fr,st'.hp)∧fps.length=l.length
 | [],st,st',fps,k,h,_,_=>by
  simp only[ao,Option.some.injEq,Prod.mk.injEq] at h
  obtain⟨rfl,rfl⟩:=h
  exact⟨rfl,rfl⟩
 | o::l,st,st',fps,k,h,h1,h2=>by
  simp only[ao] at h
  split at h
  ·rename_i st1 fp ho
   split at h
   ·rename_i st2 fps' hl
    simp only[Option.some.injEq,Prod.mk.injEq] at h
    obtain⟨rfl,rfl⟩:=h
    obtain⟨h3,h4⟩:=I9 l st1 st2 fps' (k+1) hl (fun j hj=>by have:=h1 (j+1) (by simpa using hj);rw[show k+1+j=k+(j+1) by omega,this];simp)
     (fun j hj=>by have:=h2 (j+1) (by simpa using hj);rw[show k+1+j=k+(j+1) by omega,this];simp)
    refine⟨?_,by simp[h4]⟩
    rw[List.length_cons,List.range'_succ]
    refine⟨(st1.fr,st1.hp),?_,h3⟩
    unfold aq at ho
    split at ho
    ·rename_i v hp fp' e
     simp only[Option.some.injEq,Prod.mk.injEq] at ho
     obtain⟨rfl,rfl⟩:=ho
     exact⟨o,v,fp',by have:=h1 0 (by simp);simpa using this,e,by have:=h2 0 (by simp);simpa using this,rfl⟩
    ·cases ho
   ·cases h
  ·cases h
theorem lW:∀ (fps:List FP) (n i:Nat) (F:FP),fps[i]?=some F→F.free=false→(n+i,F) ∈ number n fps
 | [],n,i,F,h,_=>by simp at h
 | a::l,n,i,F,h,hF=>by
  unfold number
  cases i with
  | zero =>
   simp at h;subst h
   simp[hF]
  | succ i =>
   simp at h
   have:=lW l (n+1) i F h hF
   rw[show n+1+i=n+(i+1) by omega] at this
   cases ha:a.free with
   | true=>simpa using this
   | false=>simp[this]
theorem vH {bs:Array Nat} : ∀ (fps:List FP) (n i j:Nat) (F G:FP),cF bs (number n fps)=true→i<j→fps[i]?=some F→fps[j]?=some G→F.free=false→G.free=false→F.apart G=true∨(bs.getD (n+j) 0).testBit (n+i)=true
 | [],n,i,j,F,G,_,_,h,_,_,_=>by simp at h
 | a::l,n,i,j,F,G,hp,hij,hi,hj,hF,hG=>by
  obtain⟨j,rfl⟩:∃ j',j=j'+1:=⟨j - 1,by omega⟩
  simp at hj
  cases i with
  | zero =>
   simp at hi;subst hi
   unfold number at hp
   simp only[hF,cond_false,cF,Bool.and_eq_true,List.all_eq_true,Bool.or_eq_true] at hp
   have:=hp.1 _ (lW l (n+1) j G hj hG)
   rw[show n+1+j=n+(j+1) by omega] at this
   exact this
  | succ i =>
   simp at hi
   have hp':cF bs (number (n+1) l)=true:=by
    unfold number at hp
    cases ha:a.free with
    | true=>simpa [ha] using hp
    | false=>simp only[ha,cond_false,cF,Bool.and_eq_true] at hp;exact hp.2
   have:=vH l (n+1) i j F G hp' (by omega) hi hj hF hG
   rw[show n+1+j=n+(j+1) by omega,show n+1+i=n+(i+1) by omega] at this
   exact this
theorem sZ {fps:List FP}{n i j:Nat}{F G:FP}(hij:i≠j)(hi:fps[i]?=some F)(hj:fps[j]?=some G)(hF:F.free=false)(hG:G.free=false):2≤(number n fps).length:=by
 have h1:=lW fps n i F hi hF
 have h2:=lW fps n j G hj hG
 cases h:number n fps with
 | nil=>rw[h] at h1;cases h1
 | cons a l=>cases l with
  | nil =>
   rw[h] at h1 h2
   simp at h1 h2
   have:=congrArg Prod.fst (h1.trans h2.symm)
   simp at this
   omega
  | cons b l=>simp
variable {H:Nat→Prop} {w0:World} {σ0:List Addr} {hp0:List Blk}
theorem V.drawn {w:World}{n:Nat}{M:Nat→Prop}{σ:List Addr}{L:Nat→Prop}{p:PV}{v:Value}(h:V w M σ L p v):V { w with drawn:=n } M σ L p v:=by
 have:Step w M σ L { w with drawn:=n } M σ L:=⟨rfl,rfl,rfl,Nat.le_refl _,fun _ _ h=>h,fun _ _ _=>rfl,fN fun _ c _ _ h=>⟨c,h,rfl⟩,fun _ _ h=>h,fun _ _ h=>h⟩
 have h':V w (fun b=>False∨M b) σ L p v:=by simpa using h
 simpa using V.stepG (H:=fun _=>False) this h'
theorem dY.drawn {w:World}{n:Nat}{M:Nat→Prop}{σ:List Addr}{L:Nat→Prop} : ∀ {cs:List PV} {es:List MapEntry},dY w M σ L cs es→dY { w with drawn:=n } M σ L cs es
 | [],[],_=>trivial
 | k::v::r,e::es,hr=>⟨hr.1.drawn,hr.2.1.drawn,dY.drawn hr.2.2⟩
 | [],_::_,hr=>hr.elim
 | [_],[],hr=>hr.elim
 | [_],_::_,hr=>hr.elim
 | _::_::_,[],hr=>hr.elim
theorem Good.drawn {st:St}{a:Act}{w:World}(h:Good H w0 σ0 hp0 st a w)(n:Nat):Good H w0 σ0 hp0 st a { w with drawn:=n } := by
 obtain⟨σ,S,hf,stp,hd⟩:=h
 refine⟨σ,⟨S.len,S.spot,S.foreign,fun i st cs a h1 h2 h3 k c h4 => ?_,S.own,S.live,S.inj,fun i cs a h1 h2 => ?_,S.injm⟩,⟨hf.len,fun k p v h1 h2=>(hf.get k p v h1 h2).drawn⟩,⟨stp.os,stp.tape,stp.output,stp.size,stp.pre,stp.same,stp.shape,stp.hot,stp.live⟩,hd⟩
 ·obtain⟨v,h5,h6⟩:=S.cells i st cs a h1 h2 h3 k c h4
  exact⟨v,h5,h6.drawn⟩
 ·obtain⟨h3,es,ck,h4,h5⟩:=S.maps i cs a h1 h2
  exact⟨h3,es,ck,h4,h5.drawn⟩
theorem Wt (hm:C.P.follows .mixedOrders=true)(hT:fL C.P C.T)(hR:ti C run)(hE:fG run)(hO:tj C){dr:Bool}{id:Nat}{st st':St}{a:Act}{w:World}(hst:dr=true→uu ops=true)(h:aJ C run ops dr st=some st')
  {Q:Exit→Act→World→Prop} (hg:Good H w0 σ0 hp0 st a w) (hQ:∀ a' w',Good H w0 σ0 hp0 st' a' w'→Q .normal a' w'):(Code.region id ops dr).wp C.P Q a w:=by
 unfold aJ at h
 split at h
 ·rename_i st1 fps e
  cases dr with
  | false =>
   simp only[cond_false,Option.some.injEq] at h
   subst h
   exact wp_region_list (Da hT hR hE hO _ _ _ _ _ _ e hg hQ)
  | true =>
   have hst:=hst rfl
   simp only[cond_true] at h
   have hsm:∀ {i:Nat} {o:Oper},ops[i]?=some o→i<ops.size:=fun h=>(Array.getElem?_eq_some_iff.1 h).1
   obtain⟨hfold,hlen⟩:=I9 (Φ:=fps) ops.toList st st1 fps 0 e (fun j hj=>by simp) (fun j hj=>by simp)
   have hst':st'=st1∧∀ i j F G,i<j→fps[i]?=some F→fps[j]?=some G→((Region.before ops).getD j 0).testBit i=false→Em F G:=by
    have hmain:∀ i j F G,i<j→fps[i]?=some F→fps[j]?=some G→((Region.before ops).getD j 0).testBit i=false→(F.free=false→G.free=false→cF (Region.before ops) (number 0 fps)=true)→Em F G:=fun i j F G hij hi hj hb hh=>by
     cases hF:F.free with
     | true=>exact wV (.inl hF)
     | false=>cases hG:G.free with
      | true=>exact wV (.inr hG)
      | false =>
       rcases vH fps 0 i j F G (hh hF hG) hij hi hj hF hG with h1 | h1
       ·exact UG h1
       ·simp only[Nat.zero_add] at h1;rw[hb] at h1;cases h1
    split at h
    ·rename_i en
     refine⟨by simpa using h.symm,fun i j F G hij hi hj hb=>hmain i j F G hij hi hj hb fun hF hG => ?_⟩
     have:=sZ (n:=0) (Nat.ne_of_lt hij) hi hj hF hG
     rw[en] at this;simp at this
    ·rename_i en
     refine⟨by simpa using h.symm,fun i j F G hij hi hj hb=>hmain i j F G hij hi hj hb fun hF hG => ?_⟩
     have:=sZ (n:=0) (Nat.ne_of_lt hij) hi hj hF hG
     rw[en] at this;simp at this
    ·cases hp:cF (Region.before ops) (number 0 fps) with
     | true =>
      rw[hp] at h
      refine⟨by simpa using h.symm,fun i j F G hij hi hj hb=>hmain i j F G hij hi hj hb fun _ _=>hp⟩
     | false=>rw[hp] at h;cases h
   obtain⟨rfl,hap⟩:=hst'
   refine wp_region_any hm ?_
   refine adS (run:=run) (Φ:=fps) (G:=fun x a w=>Good H w0 σ0 hp0 ⟨x.1,x.2,[]⟩ a w) hst ?_ ?_ (st'.fr,st'.hp) (fun a w hg=>hQ a w hg) ops.size _ (st.fr,st.hp) a _ (by simp) ?_ ?_ ?_ (Good.drawn hg _)
   ·intro i j hij hj hb
    have ho1:ops[i]?=some (ops[i]'(by omega)):=Array.getElem?_eq_getElem (by omega)
    have ho2:ops[j]?=some (ops[j]'hj):=Array.getElem?_eq_getElem hj
    have hl:fps.length=ops.size:=by simpa using hlen
    have hf1:fps[i]?=some (fps[i]'(by omega)):=List.getElem?_eq_getElem (by omega)
    have hf2:fps[j]?=some (fps[j]'(by omega)):=List.getElem?_eq_getElem (by omega)
    refine ZS hE ho1 ho2 hf1 hf2 ?_ (hap i j _ _ hij hf1 hf2 hb)
    rcases (se hst ho2).2 i _ hij ho1 with h1 | h1
    ·rw[hb] at h1;cases h1
    ·exact h1
   ·rintro i ⟨fr,hp⟩ ⟨fr',hp'⟩ a w K ⟨o,v,fp,h1,h2,h3,h4⟩ hg hK
    dsimp only at h2 h4 hg hK
    subst h4
    have hop:aq C run true ops o ⟨fr,hp,[]⟩=some (⟨aF fr o.dst v,hp',aC fp.wr []⟩,fp):=by
     unfold aq;rw[h2]
    have:=Cw (Q:=Q) hT hR hE hO hop hg (K:=K) fun a' w' hg'=>hK a' w' hg'
    unfold wpOp
    rw[h1]
    dsimp only
    split
    ·rename_i hw;rw[if_pos hw] at this;exact .inl this
    ·rename_i hw;rw[if_neg hw] at this;exact this
   ·intro j hj hl
    simp[hj] at hl
   ·unfold unl;exact Nat.le_trans (List.length_filter_le _ _) (by simp)
   ·have:unl ops.size (Array.replicate ops.size false)=List.range' 0 ops.toList.length:=by
     unfold unl
     rw[List.filter_eq_self.2]
     ·simp[List.range_eq_range']
     ·intro i hi
      simp[List.mem_range.1 hi]
    rw[this];exact hfold
 ·cases h
end
def qG (f:List Blk→Option (PV × List Blk × FP)):Prop:=∀ hp v hp' F,f hp=some (v,hp',F)→hp.length≤hp'.length
theorem oH (hp:List Blk)(cs:List PV):(aO hp cs).length=hp.length+1:=by simp[aO]
theorem AP {hp:List Blk}{s:Nat}{x:PV}{n:Nat}{new:List PV}{v:PV}{hp':List Blk}{F:FP}(h:df hp s x n new=some (v,hp',F)):hp.length≤hp'.length:=by
  unfold df at h
  repeat' split at h
  all_goals first
    | cases h;done
    | (simp only[Option.some.injEq,Prod.mk.injEq] at h
       obtain⟨_,rfl,_⟩:=h
       first
         | exact Nat.le_refl _
         | (simp only[oH,bF];omega))
theorem N6 {T:Tab}{hp hp':List Blk}{t:TypeId}{m k x:PV}{id:Nat}(h:zE T hp t m k x=some (hp',id)):hp'.length=hp.length:=by
  obtain⟨b,b0,rfl,_,_⟩:=oJ h
  exact bF _ _ _
theorem TR {T:Tab}{hp hp':List Blk}{t:TypeId}{m k:PV}{id:Nat}(h:Dt T hp t m k=some (hp',id)):hp'.length=hp.length:=by
  obtain⟨b,b0,rfl,_,_⟩:=wK h
  exact bF _ _ _
theorem EA {P:Program}{T:Tab}{fr:List PV}{o:Op} : qG fun hp=>aj P T fr hp o:=by
  intro hp v hp' F h
  dsimp only at h
  unfold aj at h
  dsimp only at h
  repeat' split at h
  all_goals first
    | cases h;done
    | (simp only[Option.some.injEq,Prod.mk.injEq] at h
       obtain⟨_,rfl,_⟩:=h
       first
         | exact Nat.le_refl _
         | (simp only[oH,bF];omega)
         | exact AP (by assumption)
         | (simp;done)
         | exact Nat.le_of_eq (N6 (by assumption)).symm
         | exact Nat.le_of_eq (TR (by assumption)).symm)
theorem Hi {C:Cfg}{run:ar}(hE:fG run){dr:Bool}{g:FuncId}{args:List PV} : qG fun hp=>cg C run dr hp g args:=by
  intro hp v hp' F h
  dsimp only at h
  unfold cg at h
  split at h
  · split at h
    · rename_i rs hp1 w e
      obtain⟨e1,_⟩:=hE _ _ _ _ _ _ e
      cases hb:(cq rs && ig hp1 hp.length (kZ hp.length w)) with
      | true =>
        simp only[hb,cond_true,Option.some.injEq,Prod.mk.injEq] at h
        obtain⟨_,rfl,_⟩:=h
        rw[pr];simp;omega
      | false =>
        simp only[hb,cond_false,Option.some.injEq,Prod.mk.injEq] at h
        obtain⟨_,rfl,_⟩:=h
        exact e1
    · cases h
  · split at h
    · cases h
    · split at h
      · rename_i rs er
        cases hb:rs.all eo with
        | true =>
          simp only[hb,cond_true,Option.some.injEq,Prod.mk.injEq] at h
          obtain⟨_,rfl,_⟩:=h
          exact Nat.le_refl _
        | false =>
          simp only[hb,cond_false,Option.some.injEq,Prod.mk.injEq] at h
          obtain⟨_,rfl,_⟩:=h
          rw[eZ];exact Nat.le_refl _
      · split at h
        · cases h
        · split at h
          · cases h
          · rename_i rs' kept ek
            cases hb:rs'.all eo with
            | true =>
              simp only[hb,cond_true,Option.some.injEq,Prod.mk.injEq] at h
              obtain⟨_,rfl,_⟩:=h
              exact Nat.le_refl _
            | false =>
              simp only[hb,cond_false,Option.some.injEq,Prod.mk.injEq] at h
              obtain⟨_,rfl,_⟩:=h
              simp[eZ]
theorem JD {C:Cfg}{run:ar}(hE:fG run){dr:Bool}{ops:Array Oper}{o:Oper}{fr:List PV} : qG fun hp=>aH C run dr ops o fr hp:=by
  intro hp v hp' F h
  dsimp only at h
  unfold aH at h
  split at h
  · cases h
  · simp only[Option.some.injEq,Prod.mk.injEq] at h
    obtain⟨_,rfl,_⟩:=h
    exact Nat.le_refl _
  · split at h
    · split at h
      · exact Hi hE _ _ _ _ h
      · cases h
    · exact EA _ _ _ _ h
structure Eff (st st':St):Prop where
  len:st.hp.length≤st'.hp.length
  wr:∀ i ∈ st.wr,i ∈ st'.wr
  same:∀ i,i<st.hp.length→i ∉ st'.wr→st'.hp[i]?=st.hp[i]?
theorem Eff.refl (st:St):Eff st st:=⟨Nat.le_refl _,fun _ h=>h,fun _ _ _=>rfl⟩
theorem Eff.trans {a b c:St}(h:Eff a b)(h':Eff b c):Eff a c :=
  ⟨Nat.le_trans h.len h'.len,fun i hi=>h'.wr i (h.wr i hi),fun i hi hw=>by rw[h'.same i (Nat.lt_of_lt_of_le hi h.len) hw,h.same i hi fun e=>hw (h'.wr i e)]⟩
theorem jj:∀ (w l:List Nat) (i:Nat),i ∈ aC w l ↔ i ∈ w∨i ∈ l
  | [],l,i=>by simp[aC]
  | j::w,l,i=>by
    unfold aC
    cases h:l.contains j with
    | true =>
      simp only[cond_true,jj w l i,List.mem_cons]
      have:j ∈ l:=by simpa using h
      constructor
      · rintro (h | h) <;> simp[h]
      · rintro ((rfl | h) | h) <;> simp_all
    | false =>
      simp only[cond_false,jj w _ i,List.mem_cons]
      constructor
      · rintro (h | h | h) <;> simp[h]
      · rintro ((h | h) | h) <;> simp[h]
section
variable {C:Cfg} {run:ar}
theorem LV (hE:fG run){dr:Bool}{ops:Array Oper}{o:Oper}{st st':St}{fp:FP}(h:aq C run dr ops o st=some (st',fp)):Eff st st':=by
  unfold aq at h
  split at h
  · rename_i v hp fp' e
    simp only[Option.some.injEq,Prod.mk.injEq] at h
    obtain⟨rfl,_⟩:=h
    obtain⟨h1,_⟩:=(uj hE dr ops o st.fr).E _ _ _ _ e
    refine⟨JD hE _ _ _ _ e,fun i hi=>(jj _ _ _).2 (.inr hi),fun i hi hw => ?_⟩
    have:=h1 i fun hm=>hw ((jj _ _ _).2 (.inl hm))
    rwa [cK,cK] at this
  · cases h
theorem yV (hE:fG run){dr:Bool}{ops:Array Oper} : ∀ {l:List Oper} {st st':St} {fps:List FP},ao C run dr ops l st=some (st',fps)→Eff st st'
  | [],st,st',fps,h=>by
    simp only[ao,Option.some.injEq,Prod.mk.injEq] at h
    obtain⟨rfl,_⟩:=h
    exact .refl _
  | o::l,st,st',fps,h=>by
    simp only[ao] at h
    split at h
    · rename_i st1 fp ho
      split at h
      · rename_i st2 fps' hl
        simp only[Option.some.injEq,Prod.mk.injEq] at h
        obtain⟨rfl,_⟩:=h
        exact (LV hE ho).trans (yV hE hl)
      · cases h
    · cases h
theorem Ph (hE:fG run){dr:Bool}{ops:Array Oper}{st st':St}(h:aJ C run ops dr st=some st'):Eff st st':=by
  unfold aJ at h
  split at h
  · rename_i st1 fps e
    have hh:st'=st1:=by
      cases dr with
      | false=>simpa using h.symm
      | true =>
        simp only[cond_true] at h
        split at h
        · simpa using h.symm
        · simpa using h.symm
        · cases hp:cF (Region.before ops) (number 0 fps) with
          | true=>rw[hp] at h;simpa using h.symm
          | false=>rw[hp] at h;cases h
    subst hh
    exact yV hE e
  · cases h
theorem yS {f:St→Option (Ex × St)}(hf:∀ st e st',f st=some (e,st')→Eff st st'):∀ (n:Nat) (st:St) (e:Ex) (st':St),cl f n st=some (e,st')→Eff st st'
  | 0,_,_,_,h=>by simp[cl] at h
  | n+1,st,e,st',h=>by
    unfold cl at h
    split at h
    · rename_i st1 h1
      exact (hf _ _ _ h1).trans (yS hf n _ _ _ h)
    · exact hf _ _ _ h
theorem MR (hE:fG run){n:Nat} : ∀ (c:Code) (st:St) (e:Ex) (st':St),af C run n c st=some (e,st')→Eff st st':=by
  intro c
  induction c with
  | region id ops dr =>
    intro st e st' h
    unfold af at h
    split at h
    · rename_i st1 h1
      simp only[Option.some.injEq,Prod.mk.injEq] at h
      obtain⟨_,rfl⟩:=h
      exact Ph hE h1
    · cases h
  | seq a b iha ihb =>
    intro st e st' h
    unfold af at h
    split at h
    · rename_i st1 h1
      exact (iha _ _ _ h1).trans (ihb _ _ _ h)
    · exact iha _ _ _ h
  | cond c a b iha ihb =>
    intro st e st' h
    unfold af at h
    split at h
    · exact iha _ _ _ h
    · exact ihb _ _ _ h
    · cases h
  | block id b ih =>
    intro st e st' h
    unfold af at h
    split at h
    · rename_i i st1 h1
      split at h
      · simp only[Option.some.injEq,Prod.mk.injEq] at h
        obtain⟨_,rfl⟩:=h
        exact ih _ _ _ h1
      · simp only[Option.some.injEq,Prod.mk.injEq] at h
        obtain⟨_,rfl⟩:=h
        exact ih _ _ _ h1
    · exact ih _ _ _ h
  | loop b ih =>
    intro st e st' h
    unfold af at h
    exact yS ih _ _ _ _ h
  | scope b ih =>
    intro st e st' h
    unfold af at h
    exact ih _ _ _ h
  | _ =>
    intro st e st' h
    unfold af at h
    first
      | (simp only[Option.some.injEq,Prod.mk.injEq] at h;obtain⟨_,rfl⟩:=h;exact .refl _)
      | cases h
theorem Nn (hE:fG run)(n:Nat):fG (th C run n):=by
  intro g args hp rs hp' wr h
  unfold th at h
  split at h
  · split at h
    · rename_i c _
      have key:∀ e st',af C run n c ⟨entry ‹Func›.ntmps args,hp,[]⟩=some (e,st')→(match aZ C.T st'.fr st'.hp ‹Func›.results.toList with | some rs=>some (rs,st'.hp,st'.wr) | none=>none)=some (rs,hp',wr)→hp.length≤hp'.length∧∀ i,i<hp.length→i ∉ wr→hp'[i]?=hp[i]?:=fun e st' he h=>by
        have:=MR hE _ _ _ _ he
        split at h
        · simp only[Option.some.injEq,Prod.mk.injEq] at h
          obtain⟨_,rfl,rfl⟩:=h
          exact⟨this.len,this.same⟩
        · cases h
      split at h
      · rename_i st he;exact key _ _ he h
      · rename_i st he;exact key _ _ he h
      · cases h
    · cases h
  · cases h
theorem Bk {f:List PV→(Nat→Option Blk)→Option (List PV × Option (Nat × Blk))}{args:List PV}{hp hp':List Blk}{rs:List PV}{wr:List Nat}(h:tF f args hp=some (rs,hp',wr)):hp.length≤hp'.length∧∀ i,i<hp.length→i ∉ wr→hp'[i]?=hp[i]?:=by
  unfold tF at h
  split at h
  · simp only[Option.some.injEq,Prod.mk.injEq] at h
    obtain⟨_,rfl,rfl⟩:=h
    exact⟨Nat.le_refl _,fun _ _ _=>rfl⟩
  · rename_i rs0 id b _
    cases e:id.blt hp.length with
    | false=>rw[e] at h;cases h
    | true =>
      rw[e] at h
      simp only[cond_true,Option.some.injEq,Prod.mk.injEq] at h
      obtain⟨_,rfl,rfl⟩:=h
      rw[fH]
      exact⟨by simp,fun i _ hi=>by rw[List.getElem?_set_ne (by intro e;subst e;simp at hi)]⟩
  · cases h
theorem O5 (k:Nat):fG (runK C k):=by
  induction k with
  | zero=>intro g args hp rs hp' wr h;simp[runK] at h
  | succ k ih =>
    intro g args hp rs hp' wr h
    simp only[runK] at h
    split at h
    · exact Bk h
    · exact Nn ih k g args hp rs hp' wr h
structure tr (C:Cfg):Prop where
  tab:fL C.P C.T
  orders:C.P.follows .mixedOrders=true
  funcs:∀ g fn,C.F g=some fn→C.P.funcs[g]?=some fn∧∀ (args:Array Value) (w:World),(callFunc g args).run C.P w = .ok (.enter g args) w
  draws:∀ g fn c,C.F g=some fn→fn.body=some c→gy c=true
  orc:tj C
  sorc:∀ g f,C.sorc g=some f→SOk C.P g f
variable {H:Nat→Prop} {w0:World} {σ0:List Addr} {hp0:List Blk}
def Ex.zG:Ex→Exit
  | .normal=>.normal
  | .ret=>.ret
  | .exit id=>.exit id
theorem C3 {P:Program}{c:Code}{f:St→Option (Ex × St)}
    (hf:∀ (st:St) (e:Ex) (st':St) (a:Act) (w:World),f st=some (e,st')→Good H w0 σ0 hp0 st a w→∀ Q:Exit→Act→World→Prop,(∀ a' w',Good H w0 σ0 hp0 st' a' w'→Q e.zG a' w')→c.wp P Q a w) :
    ∀ (n:Nat) (st:St) (e:Ex) (st':St) (a:Act) (w:World),cl f n st=some (e,st')→Good H w0 σ0 hp0 st a w→∀ Q:Exit→Act→World→Prop,(∀ a' w',Good H w0 σ0 hp0 st' a' w'→Q e.zG a' w')→Code.rounds P c Q n a w
  | 0,_,_,_,_,_,h,_,_,_=>by simp[cl] at h
  | n+1,st,e,st',a,w,h,hg,Q,hQ=>by
    rw[rounds_succ]
    unfold cl at h
    split at h
    · rename_i st1 h1
      exact hf _ _ _ _ _ h1 hg _ fun a' w' hg'=>C3 hf n _ _ _ _ _ h hg' Q hQ
    · rename_i hn
      refine hf _ _ _ _ _ h hg _ fun a' w' hg' => ?_
      have:=hQ a' w' hg'
      cases e with
      | normal=>exact absurd h (hn st')
      | ret=>exact this
      | exit id=>exact this
theorem Tc (hC:tr C)(hR:ti C run)(hE:fG run){n:Nat} : ∀ (c:Code) (st:St) (e:Ex) (st':St) (a:Act) (w:World),gy c=true→af C run n c st=some (e,st')→Good H w0 σ0 hp0 st a w →
    ∀ Q:Exit→Act→World→Prop,(∀ a' w',Good H w0 σ0 hp0 st' a' w'→Q e.zG a' w')→c.wp C.P Q a w:=by
  intro c
  induction c with
  | region id ops dr =>
    intro st e st' a w hd h hg Q hQ
    unfold af at h
    split at h
    · rename_i st1 h1
      simp only[Option.some.injEq,Prod.mk.injEq] at h
      obtain⟨rfl,rfl⟩:=h
      exact Wt hC.orders hC.tab hR hE hC.orc (fun hdr=>by subst hdr;simpa [gy] using hd) h1 hg hQ
    · cases h
  | seq x y iha ihb =>
    intro st e st' a w hd h hg Q hQ
    simp only[gy,Bool.and_eq_true] at hd
    unfold af at h
    refine wp_seq ?_
    split at h
    · rename_i st1 h1
      exact iha _ _ _ _ _ hd.1 h1 hg _ fun a' w' hg'=>ihb _ _ _ _ _ hd.2 h hg' Q hQ
    · rename_i hn
      refine iha _ _ _ _ _ hd.1 h hg _ fun a' w' hg' => ?_
      have:=hQ a' w' hg'
      cases e with
      | normal=>exact absurd h (hn st')
      | ret=>exact this
      | exit id=>exact this
  | cond c x y iha ihb =>
    intro st e st' a w hd h hg Q hQ
    simp only[gy,Bool.and_eq_true] at hd
    unfold af at h
    obtain⟨σ,S,hf,stp,hdef⟩:=id hg
    have hv:=hf.eval c
    split at h
    · rename_i e1
      rw[e1] at hv
      exact wp_cond_true hv.kz (iha _ _ _ _ _ hd.1 h hg Q hQ)
    · rename_i e1
      rw[e1] at hv
      exact wp_cond_false hv.kz (ihb _ _ _ _ _ hd.2 h hg Q hQ)
    · cases h
  | block id b ih =>
    intro st e st' a w hd h hg Q hQ
    unfold af at h
    refine wp_block ?_
    split at h
    · rename_i i st1 h1
      refine ih _ _ _ _ _ hd h1 hg _ fun a' w' hg' => ?_
      simp only[Ex.zG,Exit.inBlock]
      split at h
      · rename_i hi
        simp only[Option.some.injEq,Prod.mk.injEq] at h
        obtain⟨rfl,rfl⟩:=h
        rw[if_pos hi];exact hQ _ _ hg'
      · rename_i hi
        simp only[Option.some.injEq,Prod.mk.injEq] at h
        obtain⟨rfl,rfl⟩:=h
        rw[if_neg hi];exact hQ _ _ hg'
    · rename_i hn
      refine ih _ _ _ _ _ hd h hg _ fun a' w' hg' => ?_
      have:=hQ a' w' hg'
      cases e with
      | normal=>exact this
      | ret=>exact this
      | exit id=>exact absurd h (hn id st')
  | loop b ih =>
    intro st e st' a w hd h hg Q hQ
    unfold af at h
    exact wp_loop_rounds n (C3 (fun st e st' a w h hg Q hQ=>ih st e st' a w hd h hg Q hQ) n st e st' a w h hg Q hQ)
  | scope b ih =>
    intro st e st' a w hd h hg Q hQ
    unfold af at h
    refine wp_scope_straight (ih _ _ _ _ _ hd h hg _ fun a' w' hg' => ?_)
    have:=hQ a' w' hg'
    cases e <;> exact this
  | skip =>
    intro st e st' a w hd h hg Q hQ
    unfold af at h
    simp only[Option.some.injEq,Prod.mk.injEq] at h;obtain⟨rfl,rfl⟩:=h
    exact wp_skip (hQ _ _ hg)
  | label l =>
    intro st e st' a w hd h hg Q hQ
    unfold af at h
    simp only[Option.some.injEq,Prod.mk.injEq] at h;obtain⟨rfl,rfl⟩:=h
    exact wp_label (hQ _ _ hg)
  | exit id =>
    intro st e st' a w hd h hg Q hQ
    unfold af at h
    simp only[Option.some.injEq,Prod.mk.injEq] at h;obtain⟨rfl,rfl⟩:=h
    exact wp_exit (hQ _ _ hg)
  | ret =>
    intro st e st' a w hd h hg Q hQ
    unfold af at h
    simp only[Option.some.injEq,Prod.mk.injEq] at h;obtain⟨rfl,rfl⟩:=h
    exact wp_ret (hQ _ _ hg)
  | _ =>
    intro st e st' a w hd h hg Q hQ
    unfold af at h
    cases h
def Ws (tmps:Array Value):ResultVar→Sem Value
  | .tmp t=>pure (tmps.getD t undef)
  | .cell a t=>do loadVar t (← asAddr (tmps.getD a undef))
theorem Pe (tmps:Array Value)(t:Tmp):Ws tmps (.tmp t)=pure (tmps.getD t undef):=rfl
theorem KN (tmps:Array Value)(a:Tmp)(t:TypeId):Ws tmps (.cell a t)=(do loadVar t (← asAddr (tmps.getD a undef))):=rfl
theorem Ff (fn:Func)(tmps:Array Value):results fn tmps=(do
    let vs ← fn.results.mapM (Ws tmps)
    pure (if h:vs.size=1 then vs[0] else .tuple vs)):=rfl
theorem CR {P:Program}{f:ResultVar→Sem Value}{x:ResultVar}{l:List ResultVar}{u:Value}{us:List Value}{w:World}(h:(f x).run P w = .ok u w)(h':(l.mapM f).run P w = .ok us w):((x::l).mapM f).run P w = .ok (u::us) w:=by
  rw[List.mapM_cons]
  simp only[Sem.run_bind,h,Result.andThen_ok,h',Sem.run_pure]
theorem zY {P:Program}{T:Tab}(hT:fL P T){w:World}{σ:List Addr}{hp:List Blk}(S:Sim w H σ hp){fr:List PV}{tmps:Array Value}(hf:nJ w (hot H σ hp) σ (aL hp) fr tmps) :
    ∀ (l:List ResultVar) (rs:List PV),aZ T fr hp l=some rs →
      ∃ us,(l.mapM (Ws tmps)).run P w = .ok us w∧Vs w (hot H σ hp) σ (aL hp) rs us
  | [],rs,h=>by
    simp only[aZ,Option.some.injEq] at h
    subst h
    exact⟨[],by simp,rfl,fun k p v h=>by simp at h⟩
  | .tmp t::l,rs,h=>by
    simp only[aZ] at h
    split at h
    · rename_i l' e
      simp only[Option.some.injEq] at h
      subst h
      obtain⟨us,h1,h2⟩:=zY hT S hf l l' e
      refine⟨tmps.getD t undef::us,CR (by rw[Pe];rfl) h1,by simp[h2.1],fun k p v h3 h4 => ?_⟩
      · cases k with
        | zero=>simp at h3 h4;subst h3;subst h4;simpa using hf.nth t
        | succ k=>exact h2.2 k p v (by simpa using h3) (by simpa using h4)
    · cases h
  | .cell a t::l,rs,h=>by
    simp only[aZ] at h
    split at h
    · rename_i cs ids e0
      split at h
      · rename_i x l' e e'
        simp only[Option.some.injEq] at h
        subst h
        obtain⟨us,h1,h2⟩:=zY hT S hf l l' e'
        obtain⟨ad,e1,hA⟩:=zq S e0 (hf.nth a)
        obtain⟨u,h5,h6⟩:=yB hT e hA
        refine⟨u::us,CR (by rw[KN,e1];simp[asAddr,h5]) h1,by simp[h2.1],fun k p v h3 h4 => ?_⟩
        · cases k with
          | zero=>simp at h3 h4;subst h3;subst h4;exact h6
          | succ k=>exact h2.2 k p v (by simpa using h3) (by simpa using h4)
      · cases h
    · cases h
theorem rJ:∀ (n:Nat) (l:List PV),(entry n l).length=l.length+(n - l.length)
  | 0,l=>by simp[entry]
  | n+1,[]=>by simp[entry,rJ n []]
  | n+1,a::l=>by simp[entry,rJ n l];omega
theorem rK:∀ (n:Nat) (l:List PV) (k:Nat) (p:PV),(entry n l)[k]?=some p→(k<l.length∧l[k]?=some p)∨(l.length≤k∧p = .sc undef)
  | 0,l,k,p,h=>.inl ⟨cP h,h⟩
  | n+1,[],k,p,h=>by
    cases k with
    | zero=>simp[entry] at h;exact .inr ⟨by simp,h.symm⟩
    | succ k =>
      simp[entry] at h
      rcases rK n [] k p h with ⟨h1,_⟩| ⟨_,h2⟩
      · simp at h1
      · exact .inr ⟨by simp,h2⟩
  | n+1,a::l,k,p,h=>by
    cases k with
    | zero=>simp[entry] at h;exact .inl ⟨by simp,by simp[h]⟩
    | succ k =>
      simp[entry] at h
      rcases rK n l k p h with ⟨h1,h2⟩| ⟨h1,h2⟩
      · exact .inl ⟨by simp;omega,by simpa using h2⟩
      · exact .inr ⟨by simp;omega,h2⟩
theorem UC (hC:tr C)(hR:ti C run)(hE:fG run)(n:Nat):ti C (th C run n):=by
  intro g args hp rs hp' wr h w H σ vs S hvs
  unfold th at h
  split at h
  · rename_i fn hfn
    split at h
    · rename_i c hc
      obtain⟨hf1,hf2⟩:=hC.funcs g fn hfn
      have hd:=hC.draws g fn c hfn hc
      unfold iX
      have hcall:=hf2 vs.toArray w
      rw[hcall]
      dsimp only
      have hgood:Good H w σ hp ⟨entry fn.ntmps args,hp,[]⟩ { tmps:=vs.toArray++Array.replicate (fn.ntmps - vs.toArray.size) undef,defers:=[] } w:=by
        refine⟨σ,S,⟨?_,fun k p v h1 h2 => ?_⟩,Step.refl _ _ _ _,rfl⟩
        · simp[rJ,hvs.1]
        · rcases rK _ _ _ _ h1 with ⟨h3,h4⟩| ⟨h3,rfl⟩
          · refine hvs.2 k p v h4 ?_
            rw[Array.getElem?_append_left (by simpa [hvs.1] using h3)] at h2
            simpa using h2
          · rw[Array.getElem?_append_right (by simpa [hvs.1] using h3)] at h2
            obtain⟨hlt,h2⟩:=Array.getElem?_eq_some_iff.1 h2
            simp at h2
            subst h2
            exact .sc undef
      have key:∀ e st',(e = .normal∨e = .ret)→af C run n c ⟨entry fn.ntmps args,hp,[]⟩=some (e,st')→(match aZ C.T st'.fr st'.hp fn.results.toList with | some rs=>some (rs,st'.hp,st'.wr) | none=>none)=some (rs,hp',wr) →
          Calls C.P g vs.toArray w fun e w''=>∃ v,e = .returned v∧∃ σ' us,v=zX us∧Vs w'' (hot H σ' hp') σ' (aL hp') rs us∧Sim w'' H σ' hp'∧Step w (cM σ hp) σ (aL hp) w'' (cM σ' hp') σ' (aL hp'):=fun e st' hex he h=>by
        split at h
        · rename_i rs' er
          simp only[Option.some.injEq,Prod.mk.injEq] at h
          obtain⟨rfl,rfl,rfl⟩:=h
          refine calls_of_wp hf1 hc (Tc hC hR hE c _ _ _ _ _ hd he hgood _ fun a' w' hg' => ?_)
          obtain⟨σ',S',hf',stp,hdef⟩:=hg'
          obtain⟨us,h1,h2⟩:=zY hC.tab S' hf' _ _ er
          have hres:(results fn a'.tmps).run C.P w' = .ok (zX us) w':=by
            rw[Ff,Array.mapM_eq_mapM_toList]
            simp only[bind_map_left,Sem.run_bind,h1,Result.andThen_ok,Sem.run_pure]
            congr 1
            match us with
            | []=>rfl
            | [u]=>rfl
            | u::u2::us=>simp[zX]
          rcases hex with rfl | rfl
          · exact⟨hdef,_,hres,_,rfl,σ',us,rfl,h2,S',stp⟩
          · exact⟨hdef,_,hres,_,rfl,σ',us,rfl,h2,S',stp⟩
        · cases h
      split at h
      · rename_i st he;exact key _ _ (.inl rfl) he h
      · rename_i st he;exact key _ _ (.inr rfl) he h
      · cases h
    · cases h
  · cases h
theorem V7 (hC:tr C)(k:Nat):ti C (runK C k):=by
  induction k with
  | zero=>intro g args hp rs hp' wr h;simp[runK] at h
  | succ k ih =>
    intro g args hp rs hp' wr h
    simp only[runK] at h
    split at h
    · rename_i f hf
      exact hC.sorc g f hf args hp rs hp' wr h
    · exact UC hC ih (O5 k) k g args hp rs hp' wr h
end
end Go.Ab
