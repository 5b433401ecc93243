/- An abstract interpreter over the model's code and its soundness, part 6; each lemma states its conditions. -/
import Derived.Test.YtjdmodeenbdfpaaGreatW05
import Derived.LoopN
import Derived.Scope
set_option linter.unusedSimpArgs false
set_option linter.unusedVariables false
namespace Go.Ab
open Go List
section
variable {C:Cfg} {run:aw} {ops:Array Oper} {Φ:List FP}
theorem tF (h:vV ops=true){j:Nat}{oj:Oper}(hj:ops[j]?=some oj) :
  (∀ e ∈ oj.after,Region.binds .any e=true→e.on<j)∧∀ i oi,i<j→ops[i]?=some oi→((Region.before ops).getD j 0).testBit i=true∨oi.apart ops oj=true:=by
 unfold vV at h
 have:=(all_eq_true.1 h) j (mem_range.2 (Array.getElem?_eq_some_iff.1 hj).1)
 simp only[hj,Bool.and_eq_true] at this
 obtain⟨h1,h2⟩:=this
 refine⟨fun e he hb => ?_,fun i oi hi ho => ?_⟩
 ·have:=Array.all_eq_true_iff_forall_mem.1 h1 e he
  simp only[hb,Bool.not_true,Bool.false_or] at this
  exact jW.1 this
 ·have:=(all_eq_true.1 h2) i (mem_range.2 hi)
  simp only[Bool.or_eq_true,LG,ho] at this
  exact this
def unl (n:Nat)(listed:Array Bool):Ω:=(List.range n).filter fun i => !listed.getD i true
theorem tQ {n i:Nat}(h:i<n):List.range n=List.range i++i::List.range' (i+1) (n - i - 1):=by
 have h1:n=i+(1+(n - i - 1)):=by omega
 conv=>lhs;rw[range_eq_range',h1,← range'_append (step:=1)]
 simp only[Nat.zero_add,Nat.one_mul]
 rw[Nat.add_comm 1 (n - i - 1),range'_succ,range_eq_range']
theorem L0 {n i:Nat}{listed:Array Bool}(hi:i<n)(hu:listed.getD i true=false)(hs:listed.size=n) :
  ∃ A B,unl n listed=A++i::B∧unl n (listed.setIfInBounds i true)=A++B∧∀ a ∈ A,a<i∧listed.getD a true=false:=by
 refine⟨(List.range i).filter fun k => !listed.getD k true,(List.range' (i+1) (n - i - 1)).filter fun k => !listed.getD k true,?_,?_,?_⟩
 ·unfold unl
  rw[tQ hi,filter_append,filter_cons,if_pos (by simp[hu])]
 ·unfold unl
  rw[tQ hi,filter_append,filter_cons,if_neg]
  ·congr 1
   ·apply filter_congr
    intro k hk
    rw[getD_set_ne true (by simp at hk;omega)]
   ·apply filter_congr
    intro k hk
    rw[getD_set_ne true (by simp[mem_range'] at hk;omega)]
  ·simp[hs,hi]
 ·intro a ha
  simp only[mem_filter,mem_range,Bool.not_eq_true'] at ha
  exact ha
def XZ (ops:Array Oper)(listed:Array Bool):Prop :=
 ∀ j,j<ops.size→listed.getD j true=true→∀ i,((Region.before ops).getD j 0).testBit i=true→listed.getD i true=true
theorem Cg {listed:Array Bool}{i:Nat}(h:listed.getD i false=true):listed.getD i true=true:=by
 rcases Nat.lt_or_ge i listed.size with h' | h'
 ·simpa [h'] using h
 ·simp[Array.getElem?_eq_none h']
theorem wy {i:Nat}{listed:Array Bool}(hc:XZ ops listed)(hr:i ∈ Region.ready .any ops listed):i<ops.size∧listed.getD i true=false∧∀ k,((Region.before ops).getD i 0).testBit k=true→listed.getD k true=true:=by
 obtain⟨h0,o,ho,hall⟩:=mem_ready.1 hr
 have hlt:=(Array.getElem?_eq_some_iff.1 ho).1
 refine⟨hlt,h0,fun k hk => ?_⟩
 obtain⟨hb,hs⟩:=FY ops
 obtain⟨o',h1,e,h2,h3,h4⟩:=hb i (by omega) k hk
 rw[ho] at h1;cases h1
 have hl:=Cg (hall e h2 h3)
 rcases h4 with rfl | ⟨h5,h6⟩
 ·exact hl
 ·exact hc e.on (by omega) hl k h6
theorem ags {Q:Exit→Act→World→Prop}{G:X→Act→World→Prop}(hst:vV ops=true)
  (hcomm:∀ i j,i<j→j<ops.size→((Region.before ops).getD j 0).testBit i=false→Comm C run ops Φ i j)
  (hG:∀ i x y a w K,yr C run ops Φ i x y→G x a w→(∀ a w,G y a w→K a w)→wpOp C.P ops Q i K a w) (z:X) (hQ:∀ a w,G z a w→Q .normal a w) :
  ∀ (fuel:Nat) (listed:Array Bool) (x:X) (a:Act) (w:World),listed.size=ops.size→XZ ops listed→(unl ops.size listed).length≤fuel→Fold C run ops Φ (unl ops.size listed) x z→G x a w→wpAny C.P .any ops Q fuel listed a w:=by
 have hready:∀ listed:Array Bool,listed.size=ops.size→Region.ready .any ops listed=[]→unl ops.size listed=[]:=fun listed hs hr=>by
  have key:∀ m,∀ i,i<m→i<ops.size→listed.getD i true=true:=by
   intro m
   induction m with
   | zero=>intro i h;omega
   | succ m ih =>
    intro i him hi
    cases hl:listed.getD i true with
    | true=>rfl
    | false =>
     have ho:ops[i]?=some ops[i]:=Array.getElem?_eq_getElem hi
     have:i ∈ Region.ready .any ops listed:=mem_ready.2 ⟨hl,ops[i],ho,fun e he hb=>by
      have hlt:=(tF hst ho).1 e he hb
      have:=ih e.on (by omega) (by omega)
      have hls:e.on<listed.size:=by omega
      simp[hls] at this
      simp[hls,this]⟩
     rw[hr] at this;cases this
  unfold unl
  rw[filter_eq_nil_iff]
  intro i hi
  have:=key (i+1) i (by omega) (mem_range.1 hi)
  simp at this
  simp[this]
 intro fuel
 induction fuel with
 | zero =>
  intro listed x a w hs hc hl hf hg
  have hu:unl ops.size listed=[]:=length_eq_zero_iff.1 (by omega)
  rw[hu] at hf
  cases hf
  refine⟨?_,hQ _ _ hg⟩
  cases hr:Region.ready .any ops listed with
  | nil=>rfl
  | cons i l =>
   obtain⟨h1,h2,_⟩:=wy hc (i:=i) (by rw[hr];simp)
   have:i ∈ unl ops.size listed:=mem_filter.2 ⟨mem_range.2 h1,by rw[h2];rfl⟩
   rw[hu] at this;cases this
 | succ fuel ih =>
  intro listed x a w hs hc hl hf hg
  refine⟨fun hr => ?_,fun i hi => ?_⟩
  ·have hu:=hready listed hs hr
   rw[hu] at hf
   cases hf
   exact hQ _ _ hg
  ·obtain⟨h1,h2,h3⟩:=wy hc hi
   obtain⟨A,B,e1,e2,e3⟩:=L0 h1 h2 hs
   rw[e1] at hf hl
   obtain⟨y,s1,s2⟩:=W6 A x z hf fun b hb=>by
    obtain⟨h4,h5⟩:=e3 b hb
    refine hcomm b i h4 h1 ?_
    cases hbit:((Region.before ops).getD i 0).testBit b with
    | false=>rfl
    | true=>have:=h3 b hbit;rw[h5] at this;cases this
   refine hG i x y a w _ s1 hg fun a' w' hg'=>ih (listed.setIfInBounds i true) y a' w' (by simpa using hs) ?_ ?_ ?_ hg'
   ·intro j hj hlj k hk
    by_cases hji:j=i
    ·subst hji
     have:=h3 k hk
     by_cases hkj:k=j
     ·subst hkj;exact hlj
     ·rw[getD_set_ne true (Ne.symm hkj)];exact this
    ·rw[getD_set_ne true (Ne.symm hji)] at hlj
     have:=hc j hj hlj k hk
     by_cases hki:k=i
     ·subst hki
      rw[h2] at this;cases this
     ·rw[getD_set_ne true (Ne.symm hki)];exact this
   ·rw[e2];simp at hl ⊢;omega
   ·rw[e2];exact s2
theorem Lh:∀ (l:List Oper) (st st':St) (fps:List FP) (k:Nat),ao C run true ops l st=some (st',fps)→(∀ j,j<l.length→ops[k+j]?=l[j]?)→(∀ j,j<l.length→Φ[k+j]?=fps[j]?) →
  Fold C run ops Φ (List.range' k l.length) (st.fr,st.hp) (st'.fr,st'.hp)∧fps.length=l.length
 | [],st,st',fps,k,h,_,_=>by
  simp only[ao,OiE,PiE] at h
  obtain⟨rfl,rfl⟩:=h
  exact⟨rfl,rfl⟩
 | o::l,st,st',fps,k,h,h1,h2=>by
  simp only[ao] at h
  split at h
  ·rename_i st1 fp ho
   split at h
   ·rename_i st2 fps' hl
    simp only[OiE,PiE] at h
    obtain⟨rfl,rfl⟩:=h
    obtain⟨h3,h4⟩:=Lh l st1 st2 fps' (k+1) hl (fun j hj=>by have:=h1 (j+1) (by simpa using hj);rw[show k+1+j=k+(j+1) by omega,this];simp)
     (fun j hj=>by have:=h2 (j+1) (by simpa using hj);rw[show k+1+j=k+(j+1) by omega,this];simp)
    refine⟨?_,by simp[h4]⟩
    rw[length_cons,range'_succ]
    refine⟨(st1.fr,st1.hp),?_,h3⟩
    unfold aq at ho
    split at ho
    ·rename_i v hp fp' e
     simp only[OiE,PiE] at ho
     obtain⟨rfl,rfl⟩:=ho
     exact⟨o,v,fp',by have:=h1 0 (by simp);simpa using this,e,by have:=h2 0 (by simp);simpa using this,rfl⟩
    ·cases ho
   ·cases h
  ·cases h
theorem mz:∀ (fps:List FP) (n i:Nat) (F:FP),fps[i]?=some F→F.free=false→(n+i,F) ∈ number n fps
 | [],n,i,F,h,_=>by simp at h
 | a::l,n,i,F,h,hF=>by
  unfold number
  cases i with
  | zero =>
   simp at h;subst h
   simp[hF]
  | succ i =>
   simp at h
   have:=mz l (n+1) i F h hF
   rw[show n+1+i=n+(i+1) by omega] at this
   cases ha:a.free with
   | true=>simpa using this
   | false=>simp[this]
theorem xk {bs:Array Nat} : ∀ (fps:List FP) (n i j:Nat) (F G:FP),cD bs (number n fps)=true→i<j→fps[i]?=some F→fps[j]?=some G→F.free=false→G.free=false→F.apart G=true∨(bs.getD (n+j) 0).testBit (n+i)=true
 | [],n,i,j,F,G,_,_,h,_,_,_=>by simp at h
 | a::l,n,i,j,F,G,hp,hij,hi,hj,hF,hG=>by
  obtain⟨j,rfl⟩:∃ j',j=j'+1:=⟨j - 1,by omega⟩
  simp at hj
  cases i with
  | zero =>
   simp at hi;subst hi
   unfold number at hp
   simp only[hF,cond_false,cD,Bool.and_eq_true,all_eq_true,Bool.or_eq_true] at hp
   have:=hp.1 _ (mz l (n+1) j G hj hG)
   rw[show n+1+j=n+(j+1) by omega] at this
   exact this
  | succ i =>
   simp at hi
   have hp':cD bs (number (n+1) l)=true:=by
    unfold number at hp
    cases ha:a.free with
    | true=>simpa [ha] using hp
    | false=>simp only[ha,cond_false,cD,Bool.and_eq_true] at hp;exact hp.2
   have:=xk l (n+1) i j F G hp' (by omega) hi hj hF hG
   rw[show n+1+j=n+(j+1) by omega,show n+1+i=n+(i+1) by omega] at this
   exact this
theorem uu {fps:List FP}{n i j:Nat}{F G:FP}(hij:i≠j)(hi:fps[i]?=some F)(hj:fps[j]?=some G)(hF:F.free=false)(hG:G.free=false):2≤(number n fps).length:=by
 have h1:=mz fps n i F hi hF
 have h2:=mz fps n j G hj hG
 cases h:number n fps with
 | nil=>rw[h] at h1;cases h1
 | cons a l=>cases l with
  | nil =>
   rw[h] at h1 h2
   simp at h1 h2
   have:=congrArg Prod.fst (h1.trans h2.symm)
   simp at this
   omega
  | cons b l=>simp
variable {H:Nat→Prop} {w0:World} {σ0:List Addr} {hp0:Θ}
theorem V.drawn {w:World}{n:Nat}{M:Nat→Prop}{σ:List Addr}{L:Nat→Prop}{p:PV}{v:Value}(h:V w M σ L p v):V { w with drawn:=n } M σ L p v:=by
 have:Step w M σ L { w with drawn:=n } M σ L:=⟨rfl,rfl,rfl,Nat.le_refl _,fun _ _ h=>h,fun _ _ _=>rfl,iA fun _ c _ _ h=>⟨c,h,rfl⟩,fun _ _ h=>h,fun _ _ h=>h⟩
 have h':V w (fun b=>False∨M b) σ L p v:=by simpa using h
 simpa using V.stepG (H:=fun _=>False) this h'
theorem gS.drawn {w:World}{n:Nat}{M:Nat→Prop}{σ:List Addr}{L:Nat→Prop} : ∀ {cs:Ψ} {es:List MapEntry},gS w M σ L cs es→gS { w with drawn:=n } M σ L cs es
 | [],[],_=>trivial
 | k::v::r,e::es,hr=>⟨hr.1.drawn,hr.2.1.drawn,gS.drawn hr.2.2⟩
 | [],_::_,hr=>hr.elim
 | [_],[],hr=>hr.elim
 | [_],_::_,hr=>hr.elim
 | _::_::_,[],hr=>hr.elim
theorem Good.drawn {st:St}{a:Act}{w:World}(h:Good H w0 σ0 hp0 st a w)(n:Nat):Good H w0 σ0 hp0 st a { w with drawn:=n } := by
 obtain⟨σ,S,hf,stp,hd⟩:=h
 refine⟨σ,⟨S.len,S.spot,S.foreign,fun i st cs a h1 h2 h3 k c h4 => ?_,S.own,S.live,S.inj,fun i cs a h1 h2 => ?_,S.injm⟩,⟨hf.len,fun k p v h1 h2=>(hf.get k p v h1 h2).drawn⟩,⟨stp.os,stp.tape,stp.output,stp.size,stp.pre,stp.same,stp.shape,stp.hot,stp.live⟩,hd⟩
 ·obtain⟨v,h5,h6⟩:=S.cells i st cs a h1 h2 h3 k c h4
  exact⟨v,h5,h6.drawn⟩
 ·obtain⟨h3,es,ck,h4,h5⟩:=S.maps i cs a h1 h2
  exact⟨h3,es,ck,h4,h5.drawn⟩
theorem Zh (hm:C.P.follows .mixedOrders=true)(hT:gq C.P C.T)(hR:uC C run)(hE:fR run)(hO:uE C){dr:Bool}{id:Nat}{st st':St}{a:Act}{w:World}(hst:dr=true→vV ops=true)(h:aH C run ops dr st=some st')
  {Q:Exit→Act→World→Prop} (hg:Good H w0 σ0 hp0 st a w) (hQ:∀ a' w',Good H w0 σ0 hp0 st' a' w'→Q .normal a' w'):(Code.region id ops dr).wp C.P Q a w:=by
 unfold aH at h
 split at h
 ·rename_i st1 fps e
  cases dr with
  | false =>
   simp only[cond_false,OiE] at h
   subst h
   exact wp_region_list (Fh hT hR hE hO _ _ _ _ _ _ e hg hQ)
  | true =>
   have hst:=hst rfl
   simp only[cond_true] at h
   have hsm:∀ {i:Nat} {o:Oper},ops[i]?=some o→i<ops.size:=fun h=>(Array.getElem?_eq_some_iff.1 h).1
   obtain⟨hfold,hlen⟩:=Lh (Φ:=fps) ops.toList st st1 fps 0 e (fun j hj=>by simp) (fun j hj=>by simp)
   have hst':st'=st1∧∀ i j F G,i<j→fps[i]?=some F→fps[j]?=some G→((Region.before ops).getD j 0).testBit i=false→Gq F G:=by
    have hmain:∀ i j F G,i<j→fps[i]?=some F→fps[j]?=some G→((Region.before ops).getD j 0).testBit i=false→(F.free=false→G.free=false→cD (Region.before ops) (number 0 fps)=true)→Gq F G:=fun i j F G hij hi hj hb hh=>by
     cases hF:F.free with
     | true=>exact yn (.inl hF)
     | false=>cases hG:G.free with
      | true=>exact yn (.inr hG)
      | false =>
       rcases xk fps 0 i j F G (hh hF hG) hij hi hj hF hG with h1 | h1
       ·exact W9 h1
       ·simp only[Nat.zero_add] at h1;rw[hb] at h1;cases h1
    split at h
    ·rename_i en
     refine⟨by simpa using h.symm,fun i j F G hij hi hj hb=>hmain i j F G hij hi hj hb fun hF hG => ?_⟩
     have:=uu (n:=0) (Nat.ne_of_lt hij) hi hj hF hG
     rw[en] at this;simp at this
    ·rename_i en
     refine⟨by simpa using h.symm,fun i j F G hij hi hj hb=>hmain i j F G hij hi hj hb fun hF hG => ?_⟩
     have:=uu (n:=0) (Nat.ne_of_lt hij) hi hj hF hG
     rw[en] at this;simp at this
    ·cases hp:cD (Region.before ops) (number 0 fps) with
     | true =>
      rw[hp] at h
      refine⟨by simpa using h.symm,fun i j F G hij hi hj hb=>hmain i j F G hij hi hj hb fun _ _=>hp⟩
     | false=>rw[hp] at h;cases h
   obtain⟨rfl,hap⟩:=hst'
   refine wp_region_any hm ?_
   refine ags (run:=run) (Φ:=fps) (G:=fun x a w=>Good H w0 σ0 hp0 ⟨x.1,x.2,[]⟩ a w) hst ?_ ?_ (st'.fr,st'.hp) (fun a w hg=>hQ a w hg) ops.size _ (st.fr,st.hp) a _ (by simp) ?_ ?_ ?_ (Good.drawn hg _)
   ·intro i j hij hj hb
    have ho1:ops[i]?=some (ops[i]'(by omega)):=Array.getElem?_eq_getElem (by omega)
    have ho2:ops[j]?=some (ops[j]'hj):=Array.getElem?_eq_getElem hj
    have hl:fps.length=ops.size:=by simpa using hlen
    have hf1:fps[i]?=some (fps[i]'(by omega)):=List.getElem?_eq_getElem (by omega)
    have hf2:fps[j]?=some (fps[j]'(by omega)):=List.getElem?_eq_getElem (by omega)
    refine aca hE ho1 ho2 hf1 hf2 ?_ (hap i j _ _ hij hf1 hf2 hb)
    rcases (tF hst ho2).2 i _ hij ho1 with h1 | h1
    ·rw[hb] at h1;cases h1
    ·exact h1
   ·rintro i ⟨fr,hp⟩ ⟨fr',hp'⟩ a w K ⟨o,v,fp,h1,h2,h3,h4⟩ hg hK
    dsimp only at h2 h4 hg hK
    subst h4
    have hop:aq C run true ops o ⟨fr,hp,[]⟩=some (⟨aF fr o.dst v,hp',aC fp.wr []⟩,fp):=by
     unfold aq;rw[h2]
    have:=EF (Q:=Q) hT hR hE hO hop hg (K:=K) fun a' w' hg'=>hK a' w' hg'
    unfold wpOp
    rw[h1]
    dsimp only
    split
    ·rename_i hw;rw[if_pos hw] at this;exact .inl this
    ·rename_i hw;rw[if_neg hw] at this;exact this
   ·intro j hj hl
    simp[hj] at hl
   ·unfold unl;exact Nat.le_trans (length_filter_le _ _) (by simp)
   ·have:unl ops.size (Array.replicate ops.size false)=List.range' 0 ops.toList.length:=by
     unfold unl
     rw[filter_eq_self.2]
     ·simp[range_eq_range']
     ·intro i hi
      simp[mem_range.1 hi]
    rw[this];exact hfold
 ·cases h
end
def sa (f:Θ→Option (PV × Θ × FP)):Prop:=∀ hp v hp' F,f hp=some (v,hp',F)→hp.length≤hp'.length
theorem px (hp:Θ)(cs:Ψ):(aL hp cs).length=hp.length+1:=by simp[aL]
theorem CB {hp:Θ}{s:Nat}{x:PV}{n:Nat}{new:Ψ}{v:PV}{hp':Θ}{F:FP}(h:cw hp s x n new=some (v,hp',F)):hp.length≤hp'.length:=by
  unfold cw at h
  repeat' split at h
  all_goals first
    | cases h;done
    | (simp only[OiE,PiE] at h
       obtain⟨_,rfl,_⟩:=h
       first
         | exact Nat.le_refl _
         | (simp only[px,bC];omega))
theorem Gz {P:Program}{T:Tab}{fr:Ψ}{o:Op} : sa fun hp=>an P T fr hp o:=by
  intro hp v hp' F h
  dsimp only at h
  unfold an at h
  dsimp only at h
  repeat' split at h
  all_goals first
    | cases h;done
    | (simp only[OiE,PiE] at h
       obtain⟨_,rfl,_⟩:=h
       first
         | exact Nat.le_refl _
         | (simp only[px,bC];omega)
         | exact CB (by assumption)
         | (simp;done))
theorem IZ {C:Cfg}{run:aw}(hE:fR run){dr:Bool}{g:FuncId}{args:Ψ} : sa fun hp=>bU C run dr hp g args:=by
  intro hp v hp' F h
  dsimp only at h
  unfold bU at h
  split at h
  · split at h
    · rename_i rs hp1 w e
      obtain⟨e1,_⟩:=hE _ _ _ _ _ _ e
      cases hb:(bM rs && ir hp1 hp.length (lP hp.length w)) with
      | true =>
        simp only[hb,cond_true,OiE,PiE] at h
        obtain⟨_,rfl,_⟩:=h
        rw[qw];simp;omega
      | false =>
        simp only[hb,cond_false,OiE,PiE] at h
        obtain⟨_,rfl,_⟩:=h
        exact e1
    · cases h
  · split at h
    · cases h
    · split at h
      · rename_i rs er
        cases hb:rs.all ed with
        | true =>
          simp only[hb,cond_true,OiE,PiE] at h
          obtain⟨_,rfl,_⟩:=h
          exact Nat.le_refl _
        | false =>
          simp only[hb,cond_false,OiE,PiE] at h
          obtain⟨_,rfl,_⟩:=h
          rw[eK];exact Nat.le_refl _
      · split at h
        · cases h
        · split at h
          · cases h
          · rename_i rs' kept ek
            cases hb:rs'.all ed with
            | true =>
              simp only[hb,cond_true,OiE,PiE] at h
              obtain⟨_,rfl,_⟩:=h
              exact Nat.le_refl _
            | false =>
              simp only[hb,cond_false,OiE,PiE] at h
              obtain⟨_,rfl,_⟩:=h
              simp[eK]
theorem LZ {C:Cfg}{run:aw}(hE:fR run){dr:Bool}{ops:Array Oper}{o:Oper}{fr:Ψ} : sa fun hp=>aG C run dr ops o fr hp:=by
  intro hp v hp' F h
  dsimp only at h
  unfold aG at h
  split at h
  · cases h
  · simp only[OiE,PiE] at h
    obtain⟨_,rfl,_⟩:=h
    exact Nat.le_refl _
  · split at h
    · split at h
      · exact IZ hE _ _ _ _ h
      · cases h
    · exact Gz _ _ _ _ h
structure Eff (st st':St):Prop where
  len:st.hp.length≤st'.hp.length
  wr:∀ i ∈ st.wr,i ∈ st'.wr
  same:∀ i,i<st.hp.length→i ∉ st'.wr→st'.hp[i]?=st.hp[i]?
theorem Eff.refl (st:St):Eff st st:=⟨Nat.le_refl _,fun _ h=>h,fun _ _ _=>rfl⟩
theorem Eff.trans {a b c:St}(h:Eff a b)(h':Eff b c):Eff a c :=
  ⟨Nat.le_trans h.len h'.len,fun i hi=>h'.wr i (h.wr i hi),fun i hi hw=>by rw[h'.same i (Nat.lt_of_lt_of_le hi h.len) hw,h.same i hi fun e=>hw (h'.wr i e)]⟩
theorem jC:∀ (w l:Ω) (i:Nat),i ∈ aC w l ↔ i ∈ w∨i ∈ l
  | [],l,i=>by simp[aC]
  | j::w,l,i=>by
    unfold aC
    cases h:l.contains j with
    | true =>
      simp only[cond_true,jC w l i,mem_cons]
      have:j ∈ l:=by simpa using h
      constructor
      · rintro (h | h) <;> simp[h]
      · rintro ((rfl | h) | h) <;> simp_all
    | false =>
      simp only[cond_false,jC w _ i,mem_cons]
      constructor
      · rintro (h | h | h) <;> simp[h]
      · rintro ((h | h) | h) <;> simp[h]
section
variable {C:Cfg} {run:aw}
theorem N3 (hE:fR run){dr:Bool}{ops:Array Oper}{o:Oper}{st st':St}{fp:FP}(h:aq C run dr ops o st=some (st',fp)):Eff st st':=by
  unfold aq at h
  split at h
  · rename_i v hp fp' e
    simp only[OiE,PiE] at h
    obtain⟨rfl,_⟩:=h
    obtain⟨h1,_⟩:=(vL hE dr ops o st.fr).E _ _ _ _ e
    refine⟨LZ hE _ _ _ _ e,fun i hi=>(jC _ _ _).2 (.inr hi),fun i hi hw => ?_⟩
    have:=h1 i fun hm=>hw ((jC _ _ _).2 (.inl hm))
    rwa [cW,cW] at this
  · cases h
theorem AE (hE:fR run){dr:Bool}{ops:Array Oper} : ∀ {l:List Oper} {st st':St} {fps:List FP},ao C run dr ops l st=some (st',fps)→Eff st st'
  | [],st,st',fps,h=>by
    simp only[ao,OiE,PiE] at h
    obtain⟨rfl,_⟩:=h
    exact .refl _
  | o::l,st,st',fps,h=>by
    simp only[ao] at h
    split at h
    · rename_i st1 fp ho
      split at h
      · rename_i st2 fps' hl
        simp only[OiE,PiE] at h
        obtain⟨rfl,_⟩:=h
        exact (N3 hE ho).trans (AE hE hl)
      · cases h
    · cases h
theorem Si (hE:fR run){dr:Bool}{ops:Array Oper}{st st':St}(h:aH C run ops dr st=some st'):Eff st st':=by
  unfold aH at h
  split at h
  · rename_i st1 fps e
    have hh:st'=st1:=by
      cases dr with
      | false=>simpa using h.symm
      | true =>
        simp only[cond_true] at h
        split at h
        · simpa using h.symm
        · simpa using h.symm
        · cases hp:cD (Region.before ops) (number 0 fps) with
          | true=>rw[hp] at h;simpa using h.symm
          | false=>rw[hp] at h;cases h
    subst hh
    exact AE hE e
  · cases h
theorem AA {f:St→Option (Ex × St)}(hf:∀ st e st',f st=some (e,st')→Eff st st'):∀ (n:Nat) (st:St) (e:Ex) (st':St),ch f n st=some (e,st')→Eff st st'
  | 0,_,_,_,h=>by simp[ch] at h
  | n+1,st,e,st',h=>by
    unfold ch at h
    split at h
    · rename_i st1 h1
      exact (hf _ _ _ h1).trans (AA hf n _ _ _ h)
    · exact hf _ _ _ h
theorem O0 (hE:fR run){n:Nat} : ∀ (c:Code) (st:St) (e:Ex) (st':St),af C run n c st=some (e,st')→Eff st st':=by
  intro c
  induction c with
  | region id ops dr =>
    intro st e st' h
    unfold af at h
    split at h
    · rename_i st1 h1
      simp only[OiE,PiE] at h
      obtain⟨_,rfl⟩:=h
      exact Si hE h1
    · cases h
  | seq a b iha ihb =>
    intro st e st' h
    unfold af at h
    split at h
    · rename_i st1 h1
      exact (iha _ _ _ h1).trans (ihb _ _ _ h)
    · exact iha _ _ _ h
  | cond c a b iha ihb =>
    intro st e st' h
    unfold af at h
    split at h
    · exact iha _ _ _ h
    · exact ihb _ _ _ h
    · cases h
  | block id b ih =>
    intro st e st' h
    unfold af at h
    split at h
    · rename_i i st1 h1
      split at h
      · simp only[OiE,PiE] at h
        obtain⟨_,rfl⟩:=h
        exact ih _ _ _ h1
      · simp only[OiE,PiE] at h
        obtain⟨_,rfl⟩:=h
        exact ih _ _ _ h1
    · exact ih _ _ _ h
  | loop b ih =>
    intro st e st' h
    unfold af at h
    exact AA ih _ _ _ _ h
  | scope b ih =>
    intro st e st' h
    unfold af at h
    exact ih _ _ _ h
  | _ =>
    intro st e st' h
    unfold af at h
    first
      | (simp only[OiE,PiE] at h;obtain⟨_,rfl⟩:=h;exact .refl _)
      | cases h
theorem Pt (hE:fR run)(n:Nat):fR (uA C run n):=by
  intro g args hp rs hp' wr h
  unfold uA at h
  split at h
  · split at h
    · rename_i c _
      have key:∀ e st',af C run n c ⟨entry ‹Func›.ntmps args,hp,[]⟩=some (e,st')→(match bc C.T st'.fr st'.hp ‹Func›.results.toList with | some rs=>some (rs,st'.hp,st'.wr) | none=>none)=some (rs,hp',wr)→hp.length≤hp'.length∧∀ i,i<hp.length→i ∉ wr→hp'[i]?=hp[i]?:=fun e st' he h=>by
        have:=O0 hE _ _ _ _ he
        split at h
        · simp only[OiE,PiE] at h
          obtain⟨_,rfl,rfl⟩:=h
          exact⟨this.len,this.same⟩
        · cases h
      split at h
      · rename_i st he;exact key _ _ he h
      · rename_i st he;exact key _ _ he h
      · cases h
    · cases h
  · cases h
theorem Dh {f:Ψ→(Nat→Option Blk)→Option (Ψ × Option (Nat × Blk))}{args:Ψ}{hp hp':Θ}{rs:Ψ}{wr:Ω}(h:vc f args hp=some (rs,hp',wr)):hp.length≤hp'.length∧∀ i,i<hp.length→i ∉ wr→hp'[i]?=hp[i]?:=by
  unfold vc at h
  split at h
  · simp only[OiE,PiE] at h
    obtain⟨_,rfl,rfl⟩:=h
    exact⟨Nat.le_refl _,fun _ _ _=>rfl⟩
  · rename_i rs0 id b _
    cases e:id.blt hp.length with
    | false=>rw[e] at h;cases h
    | true =>
      rw[e] at h
      simp only[cond_true,OiE,PiE] at h
      obtain⟨_,rfl,rfl⟩:=h
      rw[jl]
      exact⟨by simp,fun i _ hi=>by rw[getElem?_set_ne (by intro e;subst e;simp at hi)]⟩
  · cases h
theorem R5 (k:Nat):fR (runK C k):=by
  induction k with
  | zero=>intro g args hp rs hp' wr h;simp[runK] at h
  | succ k ih =>
    intro g args hp rs hp' wr h
    simp only[runK] at h
    split at h
    · exact Dh h
    · exact Pt ih k g args hp rs hp' wr h
structure uK (C:Cfg):Prop where
  tab:gq C.P C.T
  orders:C.P.follows .mixedOrders=true
  funcs:∀ g fn,C.F g=some fn→C.P.funcs[g]?=some fn∧∀ (args:Array Value) (w:World),(callFunc g args).run C.P w = .ok (.enter g args) w
  draws:∀ g fn c,C.F g=some fn→fn.body=some c→gG c=true
  orc:uE C
  sorc:∀ g f,C.sorc g=some f→SOk C.P g f
variable {H:Nat→Prop} {w0:World} {σ0:List Addr} {hp0:Θ}
def Ex.Bs:Ex→Exit
  | .normal=>.normal
  | .ret=>.ret
  | .exit id=>.exit id
theorem Fb {P:Program}{c:Code}{f:St→Option (Ex × St)}
    (hf:∀ (st:St) (e:Ex) (st':St) (a:Act) (w:World),f st=some (e,st')→Good H w0 σ0 hp0 st a w→∀ Q:Exit→Act→World→Prop,(∀ a' w',Good H w0 σ0 hp0 st' a' w'→Q e.Bs a' w')→c.wp P Q a w) :
    ∀ (n:Nat) (st:St) (e:Ex) (st':St) (a:Act) (w:World),ch f n st=some (e,st')→Good H w0 σ0 hp0 st a w→∀ Q:Exit→Act→World→Prop,(∀ a' w',Good H w0 σ0 hp0 st' a' w'→Q e.Bs a' w')→Code.rounds P c Q n a w
  | 0,_,_,_,_,_,h,_,_,_=>by simp[ch] at h
  | n+1,st,e,st',a,w,h,hg,Q,hQ=>by
    rw[rounds_succ]
    unfold ch at h
    split at h
    · rename_i st1 h1
      exact hf _ _ _ _ _ h1 hg _ fun a' w' hg'=>Fb hf n _ _ _ _ _ h hg' Q hQ
    · rename_i hn
      refine hf _ _ _ _ _ h hg _ fun a' w' hg' => ?_
      have:=hQ a' w' hg'
      cases e with
      | normal=>exact absurd h (hn st')
      | ret=>exact this
      | exit id=>exact this
theorem VL (hC:uK C)(hR:uC C run)(hE:fR run){n:Nat} : ∀ (c:Code) (st:St) (e:Ex) (st':St) (a:Act) (w:World),gG c=true→af C run n c st=some (e,st')→Good H w0 σ0 hp0 st a w →
    ∀ Q:Exit→Act→World→Prop,(∀ a' w',Good H w0 σ0 hp0 st' a' w'→Q e.Bs a' w')→c.wp C.P Q a w:=by
  intro c
  induction c with
  | region id ops dr =>
    intro st e st' a w hd h hg Q hQ
    unfold af at h
    split at h
    · rename_i st1 h1
      simp only[OiE,PiE] at h
      obtain⟨rfl,rfl⟩:=h
      exact Zh hC.orders hC.tab hR hE hC.orc (fun hdr=>by subst hdr;simpa [gG] using hd) h1 hg hQ
    · cases h
  | seq x y iha ihb =>
    intro st e st' a w hd h hg Q hQ
    simp only[gG,Bool.and_eq_true] at hd
    unfold af at h
    refine wp_seq ?_
    split at h
    · rename_i st1 h1
      exact iha _ _ _ _ _ hd.1 h1 hg _ fun a' w' hg'=>ihb _ _ _ _ _ hd.2 h hg' Q hQ
    · rename_i hn
      refine iha _ _ _ _ _ hd.1 h hg _ fun a' w' hg' => ?_
      have:=hQ a' w' hg'
      cases e with
      | normal=>exact absurd h (hn st')
      | ret=>exact this
      | exit id=>exact this
  | cond c x y iha ihb =>
    intro st e st' a w hd h hg Q hQ
    simp only[gG,Bool.and_eq_true] at hd
    unfold af at h
    obtain⟨σ,S,hf,stp,hdef⟩:=id hg
    have hv:=hf.eval c
    split at h
    · rename_i e1
      rw[e1] at hv
      exact wp_cond_true hv.lf (iha _ _ _ _ _ hd.1 h hg Q hQ)
    · rename_i e1
      rw[e1] at hv
      exact wp_cond_false hv.lf (ihb _ _ _ _ _ hd.2 h hg Q hQ)
    · cases h
  | block id b ih =>
    intro st e st' a w hd h hg Q hQ
    unfold af at h
    refine wp_block ?_
    split at h
    · rename_i i st1 h1
      refine ih _ _ _ _ _ hd h1 hg _ fun a' w' hg' => ?_
      simp only[Ex.Bs,Exit.inBlock]
      split at h
      · rename_i hi
        simp only[OiE,PiE] at h
        obtain⟨rfl,rfl⟩:=h
        rw[if_pos hi];exact hQ _ _ hg'
      · rename_i hi
        simp only[OiE,PiE] at h
        obtain⟨rfl,rfl⟩:=h
        rw[if_neg hi];exact hQ _ _ hg'
    · rename_i hn
      refine ih _ _ _ _ _ hd h hg _ fun a' w' hg' => ?_
      have:=hQ a' w' hg'
      cases e with
      | normal=>exact this
      | ret=>exact this
      | exit id=>exact absurd h (hn id st')
  | loop b ih =>
    intro st e st' a w hd h hg Q hQ
    unfold af at h
    exact wp_loop_rounds n (Fb (fun st e st' a w h hg Q hQ=>ih st e st' a w hd h hg Q hQ) n st e st' a w h hg Q hQ)
  | scope b ih =>
    intro st e st' a w hd h hg Q hQ
    unfold af at h
    refine wp_scope_straight (ih _ _ _ _ _ hd h hg _ fun a' w' hg' => ?_)
    have:=hQ a' w' hg'
    cases e <;> exact this
  | skip =>
    intro st e st' a w hd h hg Q hQ
    unfold af at h
    simp only[OiE,PiE] at h;obtain⟨rfl,rfl⟩:=h
    exact wp_skip (hQ _ _ hg)
  | label l =>
    intro st e st' a w hd h hg Q hQ
    unfold af at h
    simp only[OiE,PiE] at h;obtain⟨rfl,rfl⟩:=h
    exact wp_label (hQ _ _ hg)
  | exit id =>
    intro st e st' a w hd h hg Q hQ
    unfold af at h
    simp only[OiE,PiE] at h;obtain⟨rfl,rfl⟩:=h
    exact wp_exit (hQ _ _ hg)
  | ret =>
    intro st e st' a w hd h hg Q hQ
    unfold af at h
    simp only[OiE,PiE] at h;obtain⟨rfl,rfl⟩:=h
    exact wp_ret (hQ _ _ hg)
  | _ =>
    intro st e st' a w hd h hg Q hQ
    unfold af at h
    cases h
def Zg (tmps:Array Value):ResultVar→Sem Value
  | .tmp t=>pure (tmps.getD t undef)
  | .cell a t=>do loadVar t (← asAddr (tmps.getD a undef))
theorem Sf (tmps:Array Value)(t:Tmp):Zg tmps (.tmp t)=pure (tmps.getD t undef):=rfl
theorem MZ (tmps:Array Value)(a:Tmp)(t:TypeId):Zg tmps (.cell a t)=(do loadVar t (← asAddr (tmps.getD a undef))):=rfl
theorem Ha (fn:Func)(tmps:Array Value):results fn tmps=(do
    let vs ← fn.results.mapM (Zg tmps)
    pure (if h:vs.size=1 then vs[0] else .tuple vs)):=rfl
theorem EW {P:Program}{f:ResultVar→Sem Value}{x:ResultVar}{l:List ResultVar}{u:Value}{us:List Value}{w:World}(h:(f x).run P w = .ok u w)(h':(l.mapM f).run P w = .ok us w):((x::l).mapM f).run P w = .ok (u::us) w:=by
  rw[mapM_cons]
  simp only[Sem.run_bind,h,Result.andThen_ok,h',Sem.run_pure]
theorem BJ {P:Program}{T:Tab}(hT:gq P T){w:World}{σ:List Addr}{hp:Θ}(S:Sim w H σ hp){fr:Ψ}{tmps:Array Value}(hf:oy w (hot H σ hp) σ (aY hp) fr tmps) :
    ∀ (l:List ResultVar) (rs:Ψ),bc T fr hp l=some rs →
      ∃ us,(l.mapM (Zg tmps)).run P w = .ok us w∧Vs w (hot H σ hp) σ (aY hp) rs us
  | [],rs,h=>by
    simp only[bc,OiE] at h
    subst h
    exact⟨[],by simp,rfl,fun k p v h=>by simp at h⟩
  | .tmp t::l,rs,h=>by
    simp only[bc] at h
    split at h
    · rename_i l' e
      simp only[OiE] at h
      subst h
      obtain⟨us,h1,h2⟩:=BJ hT S hf l l' e
      refine⟨tmps.getD t undef::us,EW (by rw[Sf];rfl) h1,by simp[h2.1],fun k p v h3 h4 => ?_⟩
      · cases k with
        | zero=>simp at h3 h4;subst h3;subst h4;simpa using hf.nth t
        | succ k=>exact h2.2 k p v (by simpa using h3) (by simpa using h4)
    · cases h
  | .cell a t::l,rs,h=>by
    simp only[bc] at h
    split at h
    · rename_i cs ids e0
      split at h
      · rename_i x l' e e'
        simp only[OiE] at h
        subst h
        obtain⟨us,h1,h2⟩:=BJ hT S hf l l' e'
        obtain⟨ad,e1,hA⟩:=A3 S e0 (hf.nth a)
        obtain⟨u,h5,h6⟩:=Aj hT e hA
        refine⟨u::us,EW (by rw[MZ,e1];simp[asAddr,h5]) h1,by simp[h2.1],fun k p v h3 h4 => ?_⟩
        · cases k with
          | zero=>simp at h3 h4;subst h3;subst h4;exact h6
          | succ k=>exact h2.2 k p v (by simpa using h3) (by simpa using h4)
      · cases h
    · cases h
theorem ta:∀ (n:Nat) (l:Ψ),(entry n l).length=l.length+(n - l.length)
  | 0,l=>by simp[entry]
  | n+1,[]=>by simp[entry,ta n []]
  | n+1,a::l=>by simp[entry,ta n l];omega
theorem tb:∀ (n:Nat) (l:Ψ) (k:Nat) (p:PV),(entry n l)[k]?=some p→(k<l.length∧l[k]?=some p)∨(l.length≤k∧p = .sc undef)
  | 0,l,k,p,h=>.inl ⟨cQ h,h⟩
  | n+1,[],k,p,h=>by
    cases k with
    | zero=>simp[entry] at h;exact .inr ⟨by simp,h.symm⟩
    | succ k =>
      simp[entry] at h
      rcases tb n [] k p h with ⟨h1,_⟩| ⟨_,h2⟩
      · simp at h1
      · exact .inr ⟨by simp,h2⟩
  | n+1,a::l,k,p,h=>by
    cases k with
    | zero=>simp[entry] at h;exact .inl ⟨by simp,by simp[h]⟩
    | succ k =>
      simp[entry] at h
      rcases tb n l k p h with ⟨h1,h2⟩| ⟨h1,h2⟩
      · exact .inl ⟨by simp;omega,by simpa using h2⟩
      · exact .inr ⟨by simp;omega,h2⟩
theorem W7 (hC:uK C)(hR:uC C run)(hE:fR run)(n:Nat):uC C (uA C run n):=by
  intro g args hp rs hp' wr h w H σ vs S hvs
  unfold uA at h
  split at h
  · rename_i fn hfn
    split at h
    · rename_i c hc
      obtain⟨hf1,hf2⟩:=hC.funcs g fn hfn
      have hd:=hC.draws g fn c hfn hc
      unfold jk
      have hcall:=hf2 vs.toArray w
      rw[hcall]
      dsimp only
      have hgood:Good H w σ hp ⟨entry fn.ntmps args,hp,[]⟩ { tmps:=vs.toArray++Array.replicate (fn.ntmps - vs.toArray.size) undef,defers:=[] } w:=by
        refine⟨σ,S,⟨?_,fun k p v h1 h2 => ?_⟩,Step.refl _ _ _ _,rfl⟩
        · simp[ta,hvs.1]
        · rcases tb _ _ _ _ h1 with ⟨h3,h4⟩| ⟨h3,rfl⟩
          · refine hvs.2 k p v h4 ?_
            rw[Array.getElem?_append_left (by simpa [hvs.1] using h3)] at h2
            simpa using h2
          · rw[Array.getElem?_append_right (by simpa [hvs.1] using h3)] at h2
            obtain⟨hlt,h2⟩:=Array.getElem?_eq_some_iff.1 h2
            simp at h2
            subst h2
            exact .sc undef
      have key:∀ e st',(e = .normal∨e = .ret)→af C run n c ⟨entry fn.ntmps args,hp,[]⟩=some (e,st')→(match bc C.T st'.fr st'.hp fn.results.toList with | some rs=>some (rs,st'.hp,st'.wr) | none=>none)=some (rs,hp',wr) →
          Calls C.P g vs.toArray w fun e w''=>∃ v,e = .returned v∧∃ σ' us,v=BI us∧Vs w'' (hot H σ' hp') σ' (aY hp') rs us∧Sim w'' H σ' hp'∧Step w (cS σ hp) σ (aY hp) w'' (cS σ' hp') σ' (aY hp'):=fun e st' hex he h=>by
        split at h
        · rename_i rs' er
          simp only[OiE,PiE] at h
          obtain⟨rfl,rfl,rfl⟩:=h
          refine calls_of_wp hf1 hc (VL hC hR hE c _ _ _ _ _ hd he hgood _ fun a' w' hg' => ?_)
          obtain⟨σ',S',hf',stp,hdef⟩:=hg'
          obtain⟨us,h1,h2⟩:=BJ hC.tab S' hf' _ _ er
          have hres:(results fn a'.tmps).run C.P w' = .ok (BI us) w':=by
            rw[Ha,Array.mapM_eq_mapM_toList]
            simp only[bind_map_left,Sem.run_bind,h1,Result.andThen_ok,Sem.run_pure]
            congr 1
            match us with
            | []=>rfl
            | [u]=>rfl
            | u::u2::us=>simp[BI]
          rcases hex with rfl | rfl
          · exact⟨hdef,_,hres,_,rfl,σ',us,rfl,h2,S',stp⟩
          · exact⟨hdef,_,hres,_,rfl,σ',us,rfl,h2,S',stp⟩
        · cases h
      split at h
      · rename_i st he;exact key _ _ (.inl rfl) he h
      · rename_i st he;exact key _ _ (.inr rfl) he h
      · cases h
    · cases h
  · cases h
theorem Y3 (hC:uK C)(k:Nat):uC C (runK C k):=by
  induction k with
  | zero=>intro g args hp rs hp' wr h;simp[runK] at h
  | succ k ih =>
    intro g args hp rs hp' wr h
    simp only[runK] at h
    split at h
    · rename_i f hf
      exact hC.sorc g f hf args hp rs hp' wr h
    · exact W7 hC ih (R5 k) k g args hp rs hp' wr h
end
def Spec (P:Program)(g:FuncId)(f:Ψ→Option Ψ):Prop :=
 ∀ args rs,f args=some rs→bM args=true→bM rs=true∧∀ (w:World) (M:Nat→Prop) (vs:List Value),(∀ b,M b→b<w.heap.size)→Vs w M [] NoL args vs →
  jk P g vs.toArray w fun v w'=>∃ us,v=BI us∧Vs w' M [] NoL rs us∧Old w w'
theorem uE.of {C:Cfg}(h:∀ g,Spec C.P g (C.orc g)):uE C:=fun g args rs h1 h2=>h g args rs h1 h2
theorem Spec.no (P:Program)(g:FuncId):Spec P g fun _=>none:=fun _ _ h=>by cases h
theorem Spec.or {P:Program}{g:FuncId}{f f':Ψ→Option Ψ}(h:Spec P g f)(h':Spec P g f'):Spec P g fun a=>match f a with | some r=>some r | none=>f' a:=by
 intro args rs hf hi
 dsimp only at hf
 cases hfa:f args with
 | some r=>rw[hfa] at hf;cases hf;exact h args _ hfa hi
 | none=>rw[hfa] at hf;exact h' args rs hf hi
def Wk (p q:PV):Prop:=q.cF=true∧∀ (w:World) (M:Nat→Prop) (v:Value),V w M [] NoL p v→V w M [] NoL q v
def WkL:Ψ→Ψ→Prop
 | [],[]=>True
 | p::ps,q::qs=>Wk p q∧WkL ps qs
 | _,_=>False
theorem Wk.refl {p:PV}(h:p.cF=true):Wk p p:=⟨h,fun _ _ _ h=>h⟩
theorem Wk.any (p:PV):Wk p .any:=⟨rfl,fun _ _ v _=>.any v⟩
theorem Wk.imm (n:Nat)(x:Bool)(cs:Ψ):Wk (.imm n x cs) (.imm n false cs) :=
 ⟨rfl,fun w M v h=>by
  cases h with
  | nil=>exact .nil false
  | imm _ _ _ a cap g h1 h2 h3 h4=>exact .imm n false cs a cap g h1 (fun h=>by cases h) h3 h4⟩
theorem Wk.nil (x:Bool):Wk (.sc (.slice none 0 0)) (.imm 0 x []):=⟨rfl,fun w M v h=>by cases h with | sc=>exact .nil x⟩
theorem WkL.get:∀ {ps qs:Ψ},WkL ps qs→ps.length=qs.length∧∀ (k:Nat) p q,ps[k]?=some p→qs[k]?=some q→Wk p q
 | [],[],_=>⟨rfl,fun k p q h=>by simp at h⟩
 | p::ps,q::qs,h=>by
  obtain⟨h1,h2⟩:=h
  obtain⟨h3,h4⟩:=WkL.get h2
  refine⟨by simp[h3],fun k p' q' e1 e2 => ?_⟩
  cases k with
  | zero=>simp at e1 e2;subst e1;subst e2;exact h1
  | succ k=>exact h4 k p' q' (by simpa using e1) (by simpa using e2)
 | [],_::_,h=>h.elim
 | _::_,[],h=>h.elim
theorem WkL.cF:∀ {ps qs:Ψ},WkL ps qs→bM qs=true
 | [],[],_=>rfl
 | p::ps,q::qs,h=>by
  obtain⟨h1,h2⟩:=h
  simp only[bM,Bool.and_eq_true]
  exact⟨h1.1,h2.cF⟩
 | [],_::_,h=>h.elim
 | _::_,[],h=>h.elim
theorem WkL.refl:∀ {ps:Ψ},bM ps=true→WkL ps ps
 | [],_=>trivial
 | p::ps,h=>by
  simp only[bM,Bool.and_eq_true] at h
  exact⟨Wk.refl h.1,WkL.refl h.2⟩
theorem Wk.agg {ps qs:Ψ}(h:WkL ps qs):Wk (.agg ps) (.agg qs):=by
 obtain⟨h1,h2⟩:=h.get
 refine⟨by simp only[PV.cF];exact h.cF,fun w M v hv => ?_⟩
 cases hv with
 | agg _ vs g1 g2 =>
  refine .agg qs vs (by rw[← h1];exact g1) fun k c v e1 e2 => ?_
  have hk:k<ps.length:=by rw[h1];exact cQ e1
  exact (h2 k _ c (List.getElem?_eq_getElem hk) e1).2 w M v (g2 k _ v (List.getElem?_eq_getElem hk) e2)
theorem Spec.bN {C:Cfg}(hC:uK C){g:FuncId}{f:Ψ→Option Ψ}
  (h:∀ args rs,f args=some rs→∃ k rs1 hp1 wr rs2 ids,runK C k g args []=some (rs1,hp1,wr)∧bj (snap hp1 bp) rs1=some (rs2,ids)∧WkL rs2 rs):Spec C.P g f:=by
 intro args rs hf hi
 obtain⟨k,rs1,hp1,wr,rs2,ids,hr,hs,hw⟩:=h args rs hf
 refine⟨hw.cF,fun w M vs hM hvs => ?_⟩
 have S0:Sim w M [] []:=JZ hM
 have hvs0:Vs w (hot M [] []) [] (aY []) args vs:=⟨hvs.1,fun k c u h1 h2=>(hvs.2 k c u h1 h2).idf (fun b _ hb=>by
  rcases hb with hb | ⟨i,a,_,h2,_⟩
  ·exact hb
  ·simp at h2) (eN hi h1)⟩
 refine (Y3 hC k g args [] rs1 hp1 wr hr w M [] vs S0 hvs0).mono fun v w' ⟨σ',us,hu,hvs',hs',st⟩ => ?_
 obtain⟨h1,h2⟩:=Di hs' hs (fun x hx=>hx) hvs'
 obtain⟨h3,h4⟩:=hw.get
 refine⟨us,hu,⟨by rw[← h3];exact h1.1,fun k c u e1 e2 => ?_⟩,st.os,st.tape,st.output,st.size,fun b hb=>st.same b hb (fun ⟨i,a,_,h2,_⟩=>by simp at h2)⟩
 have hk:k<rs2.length:=by rw[h3];exact cQ e1
 refine (h4 k _ c (List.getElem?_eq_getElem hk) e1).2 w' M u ?_
 exact (h1.2 k _ u (List.getElem?_eq_getElem hk) e2).idf (fun b _ hb=>.inl hb) (eN h2 (List.getElem?_eq_getElem hk))
theorem Spec.aex {C:Cfg}(hC:uK C){g:FuncId}{args rs:Ψ}{eqv:Ψ→Bool}(heq:∀ a,eqv a=true→a=args)
  (h:∃ k rs1 hp1 wr rs2 ids,runK C k g args []=some (rs1,hp1,wr)∧bj (snap hp1 bp) rs1=some (rs2,ids)∧WkL rs2 rs):Spec C.P g fun a=>bif eqv a then some rs else .none :=
 Spec.bN hC fun a r hr=>by
  cases he:eqv a with
  | false=>rw[he] at hr;cases hr
  | true =>
   rw[he] at hr
   simp only[cond_true,OiE] at hr
   subst hr
   rw[heq a he]
   exact h
inductive Tr (α:Type) where
 | leaf
 | node (k:Nat) (v:α) (l r:Tr α)
def Tr.get {α:Type} : Tr α→Nat→Option α
 | .leaf,_=>none
 | .node k v l r,n=>bif n.beq k then some v else bif n.blt k then l.get n else r.get n
def Tr.All {α:Type}(p:Nat→α→Prop):Tr α→Prop
 | .leaf=>True
 | .node k v l r=>p k v∧l.All p∧r.All p
def Tr.all {α:Type}(p:α→Bool):Tr α→Bool
 | .leaf=>true
 | .node _ v l r=>p v && l.all p && r.all p
theorem Tr.vq {α:Type}{p:Nat→α→Prop} : ∀ (t:Tr α),t.All p→∀ n v,t.get n=some v→p n v
 | .leaf,_,n,v,h=>by simp[Tr.get] at h
 | .node k u l r,hp,n,v,h=>by
  obtain⟨h1,h2,h3⟩:=hp
  simp only[Tr.get] at h
  cases e:n.beq k with
  | true =>
   simp only[e,cond_true,OiE] at h
   have:=Nat.eq_of_beq_eq_true e
   subst this;subst h;exact h1
  | false =>
   simp only[e,cond_false] at h
   cases e2:n.blt k with
   | true=>simp only[e2,cond_true] at h;exact Tr.vq l h2 n v h
   | false=>simp only[e2,cond_false] at h;exact Tr.vq r h3 n v h
theorem Tr.xK {α:Type}{p:α→Bool} : ∀ (t:Tr α),t.all p=true→∀ n v,t.get n=some v→p v=true
 | .leaf,_,n,v,h=>by simp[Tr.get] at h
 | .node k u l r,hp,n,v,h=>by
  simp only[Tr.all,Bool.and_eq_true] at hp
  obtain⟨⟨h1,h2⟩,h3⟩:=hp
  simp only[Tr.get] at h
  cases e:n.beq k with
  | true =>
   simp only[e,cond_true,OiE] at h
   subst h;exact h1
  | false =>
   simp only[e,cond_false] at h
   cases e2:n.blt k with
   | true=>simp only[e2,cond_true] at h;exact Tr.xK l h2 n v h
   | false=>simp only[e2,cond_false] at h;exact Tr.xK r h3 n v h
def W8 (f:Func):Bool :=
 match f.body with
 | some c=>gG c
 | none=>true
structure X2 where
 P:Program
 F:Tr Func
 T:Tr TypeInfo
 shared:FuncId→Bool
structure JH (B:X2):Prop where
 tab:B.T.All fun n i=>B.P.types[n]?=some i
 orders:B.P.follows .mixedOrders=true
 funcs:B.F.All fun n f=>B.P.funcs[n]?=some f∧∀ (args:Array Value) (w:World),(callFunc n args).run B.P w = .ok (.enter n args) w
 draws:B.F.all W8=true
def X2.cfg (B:X2)(orc:FuncId→Ψ→Option Ψ):Cfg:={ P:=B.P,T:=B.T.get,F:=B.F.get,shared:=B.shared,orc:=orc }
theorem abj {P:Program}{n:Nat}{i:TypeInfo}(h:P.types[n]?=some i):P.info? n=some i:=by
 unfold Tables.info?
 rw[if_pos (Array.getElem?_eq_some_iff.1 h).1]
 exact h
theorem JH.cfg {B:X2}(h:JH B){orc:FuncId→Ψ→Option Ψ}(ho:∀ g,Spec B.P g (orc g)):uK (B.cfg orc) where
 tab:=fun t i e=>abj (Tr.vq _ h.tab t i e)
 orders:=h.orders
 funcs:=fun g fn e=>Tr.vq _ h.funcs g fn e
 draws:=fun g fn c e hb=>by
  have:=Tr.xK _ h.draws g fn e
  unfold W8 at this
  rw[hb] at this
  exact this
 orc:=uE.of ho
 sorc:=fun _ _ h=>by cases h
def hiN:IntKind→Nat
 | .i8=>127 | .i16=>32767 | .i32=>2147483647 | .i64=>9223372036854775807
 | .u8=>255 | .u16=>65535 | .u32=>4294967295 | .u64=>18446744073709551615
theorem P7 {k:IntKind}{n:Nat}(h:Nat.ble n (hiN k)=true):bF k (Int.ofNat n)=Int.ofNat n:=by
 have h:=Nat.le_of_ble_eq_true h
 have:decide (loK k≤Int.ofNat n)=true∧decide (Int.ofNat n≤hiK k)=true:=by
  constructor <;> apply decide_eq_true <;> cases k <;> simp only[loK,hiK,hiN,Int.ofNat_eq_natCast] at h ⊢ <;> omega
 unfold bF
 rw[this.1,this.2];rfl
def val:Ω→Nat
 | []=>0
 | a::l=>a+1000000000*val l
def jE:Nat→Nat→Ω
 | 0,_=>[]
 | k+1,n=>if n=0 then [] else n % 1000000000::jE k (n / 1000000000)
def aK (n:Nat):Ω:=jE (n.log2+1) n
def Dok (l:Ω):Prop:=∀ x ∈ l,x<1000000000
def fj (l:Ω):Ω:=(l.reverse.dropWhile (· == 0)).reverse
theorem Dok.nil:Dok []:=fun _ h=>by cases h
theorem Dok.cons {a:Nat}{l:Ω}(h:a<1000000000)(h':Dok l):Dok (a::l):=fun x hx=>by
 rcases mem_cons.1 hx with rfl | hx
 ·exact h
 ·exact h' x hx
theorem Dok.head {a:Nat}{l:Ω}(h:Dok (a::l)):a<1000000000:=h a (by simp)
theorem Dok.tail {a:Nat}{l:Ω}(h:Dok (a::l)):Dok l:=fun x hx=>h x (by simp[hx])
theorem Dok.append {l m:Ω}(h:Dok l)(h':Dok m):Dok (l++m):=fun x hx=>by
 rcases mem_append.1 hx with hx | hx
 ·exact h x hx
 ·exact h' x hx
theorem Dok.left {l m:Ω}(h:Dok (l++m)):Dok l:=fun x hx=>h x (by simp[hx])
theorem Dok.right {l m:Ω}(h:Dok (l++m)):Dok m:=fun x hx=>h x (by simp[hx])
theorem Dok.get {l:Ω}(h:Dok l){i:Nat}(hi:i<l.length):l[i]<1000000000:=h _ (getElem_mem hi)
theorem Dok.set {l:Ω}(h:Dok l)(i:Nat){y:Nat}(hy:y<1000000000):Dok (l.set i y):=fun x hx=>by
 rcases mem_or_eq_of_mem_set hx with hx | rfl
 ·exact h x hx
 ·exact hy
theorem Dok.JJ (n:Nat):Dok (List.replicate n 0):=fun x hx=>by
 rw[(mem_replicate.1 hx).2];omega
theorem Dok.take {l:Ω}(h:Dok l)(n:Nat):Dok (l.take n):=fun x hx=>h x (mem_of_mem_take hx)
theorem Dok.drop {l:Ω}(h:Dok l)(n:Nat):Dok (l.drop n):=fun x hx=>h x (mem_of_mem_drop hx)
theorem ie (l m:Ω):val (l++m)=val l+1000000000 ^ l.length*val m:=by
 induction l with
 | nil=>simp[val]
 | cons a l ih =>
  simp only[cons_append,val,ih,length_cons,Nat.pow_succ]
  grind
theorem dL (l:Ω)(a:Nat):val (l++[a])=val l+1000000000 ^ l.length*a:=by
 rw[ie];simp[val]
theorem oB (n:Nat):val (List.replicate n 0)=0:=by
 induction n with
 | zero=>rfl
 | succ n ih=>simp[replicate_succ,val,ih]
theorem qn (l:Ω)(i y:Nat)(hi:i<l.length):val (l.set i y)+l[i]*1000000000 ^ i=val l+y*1000000000 ^ i:=by
 induction l generalizing i with
 | nil=>simp at hi
 | cons a l ih =>
  cases i with
  | zero=>simp[val];omega
  | succ i =>
   have:=ih i (by simpa using hi)
   simp only[set_cons_succ,val,getElem_cons_succ,Nat.pow_succ]
   grind
theorem gT (l:Ω)(i:Nat)(hi:i<l.length):val (l.take (i+1))=val (l.take i)+l[i]*1000000000 ^ i:=by
 rw[take_succ_eq_append_getElem hi,dL,length_take,Nat.min_eq_left (by omega),Nat.mul_comm]
theorem eX {l:Ω}(h:Dok l):val l<1000000000 ^ l.length:=by
 induction l with
 | nil=>simp[val]
 | cons a l ih =>
  have h1:=ih h.tail
  have h2:=h.head
  simp only[val,length_cons,Nat.pow_succ]
  omega
theorem lB (l:Ω)(i:Nat)(hi:i≤l.length):val l=val (l.take i)+1000000000 ^ i*val (l.drop i):=by
 have h:=ie (l.take i) (l.drop i)
 rw[take_append_drop,length_take,Nat.min_eq_left hi] at h
 exact h
theorem nR (n:Nat)(h:n≠0):(n / 1000000000).log2+1≤n.log2∨n / 1000000000=0:=by
 by_cases h0:n / 1000000000=0
 ·exact .inr h0
 ·left
  have h1:2 ^ (n / 1000000000).log2≤n / 1000000000:=Nat.log2_self_le h0
  have h2:2 ^ ((n / 1000000000).log2+1)≤n:=by
   rw[Nat.pow_succ];omega
  exact (Nat.le_log2 h).2 h2
theorem oc:∀ (k j n:Nat),n.log2<k→n.log2<j→jE k n=jE j n
 | 0,j,n,h,_=>by omega
 | k+1,0,n,_,h=>by omega
 | k+1,j+1,n,h,h'=>by
  unfold jE
  by_cases hn:n=0
  ·rw[if_pos hn,if_pos hn]
  ·rw[if_neg hn,if_neg hn]
   congr 1
   rcases nR n hn with h1 | h1
   ·exact oc k j _ (by omega) (by omega)
   ·rw[h1]
    cases k <;> cases j <;> simp[jE]
theorem ft:aK 0=[]:=rfl
theorem eo {n:Nat}(h:n≠0):aK n=n % 1000000000::aK (n / 1000000000):=by
 unfold aK
 rw[jE,if_neg h]
 congr 1
 rcases nR n h with h1 | h1
 ·exact oc _ _ _ (by omega) (by omega)
 ·rw[h1]
  cases n.log2 <;> simp[jE]
theorem th {a:Nat}{l:Ω}(ha:a<1000000000)(h:a+1000000000*val l≠0):aK (a+1000000000*val l)=a::aK (val l):=by
 rw[eo h,Nat.add_mul_mod_self_left,Nat.mod_eq_of_lt ha,Nat.add_mul_div_left _ _ (by omega),Nat.div_eq_of_lt ha,Nat.zero_add]
theorem bV (n:Nat):val (aK n)=n:=by
 induction n using Nat.strongRecOn with
 | _ n ih =>
  by_cases h:n=0
  ·subst h;rfl
  ·rw[eo h,val,ih _ (by omega)]
   omega
theorem bS (n:Nat):Dok (aK n):=by
 induction n using Nat.strongRecOn with
 | _ n ih =>
  by_cases h:n=0
  ·subst h;exact Dok.nil
  ·rw[eo h]
   exact (ih _ (by omega)).cons (by omega)
theorem eI (l:Ω)(a:Nat):fj (l++[a])=if a=0 then fj l else l++[a]:=by
 unfold fj
 rw[reverse_append]
 by_cases h:a=0 <;> simp[h]
theorem jv {P:Ω→Prop}(h0:P [])(h1:∀ l a,P l→P (l++[a])):∀ l,P l:=by
 intro l
 have:∀ m:Ω,P m.reverse:=by
  intro m
  induction m with
  | nil=>exact h0
  | cons a m ih=>rw[reverse_cons];exact h1 _ a ih
 have:=this l.reverse
 rwa [reverse_reverse] at this
theorem sh (l:Ω):val (fj l)=val l:=by
 induction l using jv with
 | h0=>rfl
 | h1 l a ih =>
  rw[eI]
  by_cases h:a=0
  ·rw[if_pos h,ih,h,dL,Nat.mul_zero,Nat.add_zero]
  ·rw[if_neg h]
theorem vQ {l:Ω}(h:Dok l):Dok (fj l):=by
 induction l using jv with
 | h0=>exact Dok.nil
 | h1 l a ih =>
  rw[eI]
  by_cases h':a=0
  ·rw[if_pos h'];exact ih h.left
  ·rw[if_neg h'];exact h
def Top (l:Ω):Prop:=∀ m a,l=m++[a]→a≠0
theorem lE (l:Ω):Top (fj l):=by
 induction l using jv with
 | h0=>intro m a h;simp[fj] at h
 | h1 l a ih =>
  rw[eI]
  by_cases h:a=0
  ·rw[if_pos h];exact ih
  ·rw[if_neg h]
   intro m b e
   have:=append_inj' e rfl
   simp at this
   rw[← this.2];exact h
theorem Top.tail {a:Nat}{l:Ω}(h:Top (a::l)):Top l:=fun m b e=>h (a::m) b (by rw[e];rfl)
theorem Top.qo {l:Ω}(h:Top l)(hl:l≠[]):val l≠0:=by
 obtain⟨m,a,rfl⟩:∃ m a,l=m++[a]:=⟨l.dropLast,l.getLast hl,(dropLast_concat_getLast hl).symm⟩
 have ha:=h m a rfl
 rw[dL]
 have:0<1000000000 ^ m.length*a:=Nat.mul_pos (Nat.pow_pos (by omega)) (by omega)
 omega
theorem ku {l:Ω}(h:Dok l)(ht:Top l):aK (val l)=l:=by
 induction l with
 | nil=>rfl
 | cons a l ih =>
  rw[val,th h.head,ih h.tail ht.tail]
  exact ht.qo (by simp)
theorem eJ {l:Ω}(h:Dok l):fj l=aK (val l):=by
 rw[← sh l,ku (vQ h) (lE l)]
theorem jD (n:Nat):Top (aK n):=by
 have h:=eJ (bS n)
 rw[bV] at h
 rw[← h]
 exact lE _
theorem cT {n:Nat} : 0<(aK n).length ↔ n≠0:=by
 by_cases h:n=0
 ·subst h;simp[ft]
 ·rw[eo h];simp[h]
theorem x8 {n:Nat}(h:aK n=[]):n=0:=by
 rw[← bV n,h];rfl
theorem di {n k:Nat}(h:n<1000000000 ^ k):(aK n).length≤k:=by
 by_cases h0:aK n=[]
 ·rw[h0];simp
 ·obtain⟨m,a,e⟩:∃ m a,aK n=m++[a]:=⟨(aK n).dropLast,(aK n).getLast h0,(dropLast_concat_getLast h0).symm⟩
  have ha:=jD n m a e
  have hv:=bV n
  rw[e,dL] at hv
  rw[e,length_append,length_singleton]
  have h1:1000000000 ^ m.length≤n:=by
   have:1000000000 ^ m.length*1≤1000000000 ^ m.length*a:=Nat.mul_le_mul_left _ (by omega)
   omega
  have h2:1000000000 ^ m.length<1000000000 ^ k:=by omega
  exact Nat.lt_of_not_le fun h3=>absurd (Nat.pow_le_pow_right (n:=1000000000) (by omega) h3) (by omega)
theorem fD (n:Nat):n<1000000000 ^ (aK n).length:=by
 have:=eX (bS n)
 rwa [bV] at this
def dg (n:Nat):PV:=.sc (.int .u32 n)
def aO (l:Ω):PV:=.imm l.length false (l.map dg)
def wh (neg:Bool)(l:Ω):PV:=.agg [.sc (.bool neg),aO l]
def bw:Int→Bool
 | .ofNat _=>false
 | .negSucc _=>true
def br (z:Int):PV:=wh (bw z) (aK z.natAbs)
def bJ (z:Int):PV:=.sc (.int .i64 z)
mutual
def canon:PV→PV
 | .sc v=>match v with
  | .slice none 0 0=>.imm 0 false []
  | v=>.sc v
 | .imm n _ cs=>.imm n false (aJ cs)
 | .agg cs=>.agg (aJ cs)
 | v=>v
def aJ:Ψ→Ψ
 | []=>[]
 | c::cs=>canon c::aJ cs
end
theorem kC:∀ (cs:Ψ) (k:Nat),(aJ cs)[k]?=(cs[k]?).map canon
 | [],k=>by simp[aJ]
 | c::cs,0=>by simp[aJ]
 | c::cs,k+1=>by simpa [aJ] using kC cs k
theorem lq:∀ (cs:Ψ),(aJ cs).length=cs.length
 | []=>rfl
 | c::cs=>by simp[aJ,lq cs]
mutual
theorem yd:(p:PV)→p.cF=true→Wk p (canon p)
 | .any,h=>by rw[canon];exact Wk.refl h;all_goals (intros;contradiction)
 | .sc v,h=>by
  unfold canon
  split
  ·exact Wk.nil false
  ·exact Wk.refl h
 | .imm n x cs,h=>by
  unfold canon
  refine⟨rfl,fun w M v hv => ?_⟩
  cases hv with
  | nil=>exact .nil false
  | imm _ _ _ a cap g h1 h2 h3 h4 =>
   refine .imm n false _ a cap g h1 (fun h=>by cases h) (fun k c hk => ?_) (fun k c hk => ?_)
   ·rw[kC] at hk
    obtain⟨c',h5,rfl⟩:=Option.map_eq_some_iff.1 hk
    obtain⟨h6,h7,h8,h9⟩:=h3 k c' h5
    exact⟨h6,(l7 cs k c' h5 h7).1,h8,h9⟩
   ·rw[kC] at hk
    obtain⟨c',h5,rfl⟩:=Option.map_eq_some_iff.1 hk
    obtain⟨h6,h7,h8,h9⟩:=h3 k c' h5
    exact (l7 cs k c' h5 h7).2 w M _ (h4 k c' h5)
 | .agg cs,h=>by
  unfold canon
  have hi:bM cs=true:=by simpa [PV.cF] using h
  refine⟨?_,fun w M v hv => ?_⟩
  ·simp only[PV.cF]
   exact lr cs hi
  ·cases hv with
   | agg _ vs g1 g2 =>
    refine .agg _ vs (by rw[lq];exact g1) fun k c v e1 e2 => ?_
    rw[kC] at e1
    obtain⟨c',h5,rfl⟩:=Option.map_eq_some_iff.1 e1
    exact (l7 cs k c' h5 (eN hi h5)).2 w M v (g2 k c' v h5 e2)
 | .own ..,h=>by simp[PV.cF] at h
 | .ptr ..,h=>by simp[PV.cF] at h
 | .iptr cs,h=>by rw[canon];exact Wk.refl h;all_goals (intros;contradiction)
 | .clos f cs,h=>by rw[canon];exact Wk.refl h;all_goals (intros;contradiction)
 | .bmet ..,h=>by simp[PV.cF] at h
 | .tup cs,h=>by rw[canon];exact Wk.refl h;all_goals (intros;contradiction)
theorem l7:(cs:Ψ)→(k:Nat)→(c:PV)→cs[k]?=some c→c.cF=true→Wk c (canon c)
 | [],k,c,h,_=>by simp at h
 | d::cs,k,c,h,hc=>by
  cases k with
  | zero=>simp at h;subst h;exact yd d hc
  | succ k=>exact l7 cs k c (by simpa using h) hc
theorem lr:(cs:Ψ)→bM cs=true→bM (aJ cs)=true
 | [],_=>rfl
 | c::cs,h=>by
  simp only[bM,Bool.and_eq_true] at h
  simp only[aJ,bM,Bool.and_eq_true]
  exact⟨(yd c h.1).1,lr cs h.2⟩
end
theorem Spec.canon {P:Program}{g:FuncId}{f:Ψ→Option Ψ}(h:Spec P g f):Spec P g fun a=>f (aJ a):=by
 intro args rs hf hi
 obtain⟨h1,h2⟩:=h (aJ args) rs hf (lr args hi)
 refine⟨h1,fun w M vs hM hvs=>h2 w M vs hM ⟨by rw[lq];exact hvs.1,fun k c v e1 e2 => ?_⟩⟩
 rw[kC] at e1
 obtain⟨c',h5,rfl⟩:=Option.map_eq_some_iff.1 e1
 exact (l7 args k c' h5 (eN hi h5)).2 w M v (hvs.2 k c' v h5 e2)
def FC:Ψ→Option Ω
 | []=>some []
 | .sc (.int .u32 (.ofNat n))::r=>bif n.blt 1000000000 then (match FC r with
  | some l=>some (n::l)
  | none=>none) else none
 | _=>none
def ia:PV→Option Ω
 | .imm n false cs=>match FC cs with
  | some l=>bif n.beq l.length && n.blt 1000000 then some l else none
  | none=>none
 | _=>none
def uM:Ω→Bool
 | []=>true
 | [a] => !(a.beq 0)
 | _::l=>uM l
def fM:PV→Option Int
 | .agg [.sc (.bool neg),p]=>match ia p with
  | some l=>bif uM l && l.length.blt 400000 then
    (match neg,l with
    | true,[]=>none
    | true,l=>some (Int.negOfNat (val l))
    | false,l=>some (Int.ofNat (val l)))
   else none
  | none=>none
 | _=>none
theorem AR:∀ {cs:Ψ} {l:Ω},FC cs=some l→cs=l.map dg∧Dok l
 | [],l,h=>by simp[FC] at h;subst h;exact⟨rfl,Dok.nil⟩
 | c::cs,l,h=>by
  unfold FC at h
  split at h
  ·rename_i e;cases e
  ·rename_i n r e
   cases e
   cases hb:n.blt 1000000000 with
   | false=>rw[hb] at h;cases h
   | true =>
    rw[hb] at h
    simp only[cond_true] at h
    split at h
    ·rename_i l' e'
     simp at h;subst h
     obtain⟨h1,h2⟩:=AR e'
     rw[h1]
     refine⟨rfl,h2.cons ?_⟩
     simpa [Nat.blt_eq] using hb
    ·cases h
  ·cases h
theorem FB:∀ {l:Ω},Dok l→FC (l.map dg)=some l
 | [],_=>rfl
 | a::l,h=>by
  have h1:a.blt 1000000000=true:=by rw[Nat.blt_eq];exact h.head
  show FC (PV.sc (.int .u32 (Int.ofNat a))::l.map dg)=_
  simp only[FC,FB h.tail,h1,cond_true]
theorem dz {p:PV}{l:Ω}(h:ia p=some l):p=aO l∧Dok l∧l.length<1000000:=by
 unfold ia at h
 split at h
 ·split at h
  ·rename_i n cs _ l' e
   obtain⟨h1,h2⟩:=AR e
   cases hb:n.beq l'.length && n.blt 1000000 with
   | false=>rw[hb] at h;cases h
   | true =>
    rw[hb] at h
    simp at h
    subst h
    simp[Nat.blt_eq] at hb
    exact⟨by rw[hb.1,h1];rfl,h2,by omega⟩
  ·cases h
 ·cases h
theorem cX {l:Ω}(h:Dok l)(hl:l.length<1000000):ia (aO l)=some l:=by
 have h1:l.length.blt 1000000=true:=by rw[Nat.blt_eq];exact hl
 simp[ia,aO,FB h,h1]
theorem m6:∀ {l:Ω},uM l=true→Top l
 | [],_=>fun m a e=>by simp at e
 | [b],h=>fun m a e=>by
  cases m with
  | nil =>
   simp at e;subst e
   cases b with
   | zero=>simp[uM] at h
   | succ b=>simp
  | cons c m=>simp at e
 | b::c::l,h=>fun m a e=>by
  cases m with
  | nil=>simp at e
  | cons d m =>
   simp only[cons_append,List.cons.injEq] at e
   exact m6 (l:=c::l) (by simpa [uM] using h) m a e.2
theorem qv:∀ {l:Ω},Top l→uM l=true
 | [],_=>rfl
 | [b],h=>by
  have:=h [] b rfl
  cases b with
  | zero=>simp at this
  | succ b=>rfl
 | b::c::l,h=>by
  have:=qv h.tail
  simpa [uM] using this
theorem xV (n:Nat):br (Int.ofNat n)=wh false (aK n):=rfl
theorem cK (z:Int):bw z=decide (z<0):=by
 cases z with
 | ofNat n=>simp[bw]
 | negSucc n=>simp[bw]
theorem Fu {n:Nat}(h:n≠0):br (Int.negOfNat n)=wh true (aK n):=by
 cases n with
 | zero=>simp at h
 | succ n=>rfl
theorem IU {p:PV}{z:Int}(h:fM p=some z):p=br z∧(aK z.natAbs).length<400000:=by
 unfold fM at h
 split at h
 ·rename_i neg q
  split at h
  ·rename_i l e
   obtain⟨h1,h2,h3⟩:=dz e
   subst h1
   cases ht:uM l && l.length.blt 400000 with
   | false=>rw[ht] at h;cases h
   | true =>
    rw[ht] at h
    simp only[cond_true] at h
    simp only[Bool.and_eq_true,Nat.blt_eq] at ht
    obtain⟨ht,h3⟩:=ht
    have hd:=ku h2 (m6 ht)
    split at h
    ·cases h
    ·rename_i hne
     simp only[OiE] at h
     subst h
     have hv:val l≠0:=(m6 ht).qo (by intro h;exact hne h)
     refine⟨?_,?_⟩
     ·rw[Fu hv,hd];rfl
     ·have:(Int.negOfNat (val l)).natAbs=val l:=Int.natAbs_negOfNat _
      rw[this,hd];exact h3
    ·simp only[OiE] at h
     subst h
     refine⟨?_,?_⟩
     ·rw[xV,hd];rfl
     ·have:(Int.ofNat (val l)).natAbs=val l:=rfl
      rw[this,hd];exact h3
  ·cases h
 ·cases h
theorem O5 (z:Int)(hl:(aK z.natAbs).length<400000):fM (br z)=some z:=by
 have h1:=cX (bS z.natAbs) (Nat.lt_trans hl (by decide))
 have h3:(aK z.natAbs).length.blt 400000=true:=by rw[Nat.blt_eq];exact hl
 have h2:=qv (jD z.natAbs)
 cases z with
 | ofNat n =>
  rw[xV]
  have e:(Int.ofNat n).natAbs=n:=rfl
  rw[e] at h1 h2 h3
  simp only[fM,wh,h1,h2,h3,Bool.and_self,cond_true,bV]
 | negSucc n =>
  have e:br (Int.negSucc n)=wh true (aK (n+1)):=rfl
  rw[e]
  have e:(Int.negSucc n).natAbs=n+1:=rfl
  rw[e] at h1 h2 h3
  have hd:aK (n+1)=(n+1) % 1000000000::aK ((n+1) / 1000000000):=eo (by omega)
  simp only[fM,wh,h1,h2,h3,Bool.and_self,cond_true]
  rw[hd]
  simp only
  rw[← hd,bV]
  rfl
end Go.Ab
