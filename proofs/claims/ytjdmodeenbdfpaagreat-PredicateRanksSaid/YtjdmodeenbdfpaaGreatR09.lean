/- An abstract interpreter over the model's code and its soundness, part 9 of the proof; each lemma states its own conditions. -/
import Derived.Test.YtjdmodeenbdfpaaGreatR08
set_option linter.unusedSimpArgs false
set_option linter.unusedVariables false
namespace Go.Ab
open Go
def Good (H:Nat→Prop)(w0:World)(σ0:List Addr)(hp0:List Blk)(st:St)(a:Act)(w:World):Prop :=
 ∃ σ,Sim w H σ st.hp∧nJ w (hot H σ st.hp) σ (aL st.hp) st.fr a.tmps∧Step w0 (cM σ0 hp0) σ0 (aL hp0) w (cM σ st.hp) σ (aL st.hp)∧a.defers=[]
section
variable {C:Cfg} {run:ar} {H:Nat→Prop} {w0:World} {σ0:List Addr} {hp0:List Blk}
theorem Yh {w:World}{M:Nat→Prop}{σ:List Addr}{L:Nat→Prop}{p:PV}{v:Value}(hv:V w M σ L p v)(h1:p ≠ .any)(h2:∀ b,p ≠ .sc (.bool b)):∀ b,v ≠ .bool b:=by
 intro b e
 subst e
 cases hv with
 | any=>exact h1 rfl
 | sc=>exact h2 b rfl
theorem uh {w:World}{M:Nat→Prop}{σ:List Addr}{L:Nat→Prop}{ops:Array Oper}{fr:List PV}{tmps:Array Value}{o:Oper}{b:Bool}(hf:nJ w M σ L fr tmps)(h:ag ops fr o=some b) :
  Region.wanted o (yielded ops tmps)=b:=by
 unfold ag at h
 unfold Region.wanted
 cases hg:o.guard with
 | none=>simp[hg] at h;simp[h]
 | some g =>
  obtain⟨j,want⟩:=g
  simp only[hg] at h
  cases hd:(ops[j]?).bind (·.dst) with
  | none=>simp[hd] at h
  | some d =>
   simp only[hd] at h
   have hv:=hf.nth d
   unfold yielded
   simp only[hd,Option.bind_some]
   have hlt:nth fr d ≠ .any→d<tmps.size:=by
    intro hne
    rcases Nat.lt_or_ge d tmps.size with h' | h'
    ·exact h'
    ·rw[rA,List.getElem?_eq_none (by rw[hf.len];exact h')] at hne
     exact absurd rfl hne
   split at h
   ·rename_i b' e
    rw[e] at hv
    have hl:=hlt (by rw[e];simp)
    have:=hv.kz
    simp[hl] at this
    simp at h
    rw[Array.getElem?_eq_getElem hl,this,← h]
    simp
   ·cases h
   ·rename_i h1 h2
    simp at h
    have hl:=hlt (fun e=>h2 e)
    have hnb:=Yh hv (fun e=>h2 e) (fun b e=>h1 b e)
    rw[Array.getElem?_eq_getElem hl]
    have e0:tmps.getD d undef=tmps[d]:=by simp[hl]
    rw[e0] at hnb
    subst h
    split
    ·rename_i b' e
     simp at e
     exact absurd e (hnb b')
    ·rfl
theorem Hg {w:World}{M:Nat→Prop}{σ:List Addr}{L:Nat→Prop}{fr:List PV}{a:Act}{c:Call}{g:FuncId}{args:List PV}(hf:nJ w M σ L fr a.tmps)(h:aQ fr c=some (g,args)) :
  ∃ vs:List Value,Vs w M σ L args vs∧∀ P ty,(do let d ← resolve a.eval c ty;invoke d.target d.args:Sem Next).run P w=(callFunc g vs.toArray).run P w:=by
 have hargs:Vs w M σ L (c.args.toList.map (an fr)) (c.args.toList.map a.eval):=⟨by simp,fun k p v h1 h2=>by
  rw[List.getElem?_map] at h1 h2
  cases hk:c.args.toList[k]? with
  | none=>simp[hk] at h1
  | some x=>simp[hk] at h1 h2;subst h1;subst h2;exact hf.eval x⟩
 unfold aQ at h
 split at h
 ·rename_i f hc
  have hvf:=hf.eval f
  split at h
  ·rename_i g' e
   rw[e] at hvf
   have hv:=hvf.kz
   simp only[Option.some.injEq,Prod.mk.injEq] at h
   obtain⟨rfl,rfl⟩:=h
   refine⟨_,hargs,fun P ty => ?_⟩
   have e2:(c.args.toList.map a.eval).toArray=c.args.map a.eval:=by apply Array.ext';simp
   rw[e2]
   simp[resolve,hc,hv,Deferred.ofValue,invoke]
  ·rename_i g' caps e
   rw[e] at hvf
   obtain⟨cv,hv,hrel⟩:=hvf.Dx
   simp only[Option.some.injEq,Prod.mk.injEq] at h
   obtain⟨rfl,rfl⟩:=h
   refine⟨c.args.toList.map a.eval++cv.toList,⟨by simp[hrel.1],fun k p v h1 h2 => ?_⟩,fun P ty => ?_⟩
   ·rcases Nat.lt_or_ge k c.args.toList.length with hk | hk
    ·rw[List.getElem?_append_left (by simpa using hk)] at h1 h2
     exact hargs.2 k p v h1 h2
    ·rw[List.getElem?_append_right (by simpa using hk)] at h1 h2
     simp only[List.length_map] at h1 h2
     exact hrel.2 _ p v h1 (by simpa using h2)
   ·have e2:(c.args.toList.map a.eval++cv.toList).toArray=c.args.map a.eval++cv:=by apply Array.ext';simp
    rw[e2]
    simp[resolve,hc,hv,Deferred.ofValue,invoke]
  ·rename_i g' caps e
   rw[e] at hvf
   obtain⟨cv,hv,hrel⟩:=hvf.DP
   simp only[Option.some.injEq,Prod.mk.injEq] at h
   obtain⟨rfl,rfl⟩:=h
   refine⟨cv.toList++c.args.toList.map a.eval,⟨by simp[hrel.1],fun k p v h1 h2 => ?_⟩,fun P ty => ?_⟩
   ·have hl:=hrel.1
    rcases Nat.lt_or_ge k caps.length with hk | hk
    ·rw[List.getElem?_append_left hk] at h1
     rw[List.getElem?_append_left (by simpa [hl] using hk)] at h2
     exact hrel.2 _ p v h1 (by simpa using h2)
    ·rw[List.getElem?_append_right hk] at h1
     rw[List.getElem?_append_right (by simpa [hl] using hk)] at h2
     refine hargs.2 (k - caps.length) p v h1 ?_
     simpa [hl] using h2
   ·have e2:(cv.toList++c.args.toList.map a.eval).toArray=cv++c.args.map a.eval:=by apply Array.ext';simp
    rw[e2]
    simp[resolve,hc,hv,Deferred.ofValue,invoke]
  ·cases h
 ·cases h
theorem Cw (hT:fL C.P C.T)(hR:ti C run)(hE:fG run)(hO:tj C){dr:Bool}{ops:Array Oper}{o:Oper}{st st':St}{fp:FP}{a:Act}{w:World}(h:aq C run dr ops o st=some (st',fp))
  (hg:Good H w0 σ0 hp0 st a w) {K:Act→World→Prop} {Q:Exit→Act→World→Prop} (hK:∀ a' w',Good H w0 σ0 hp0 st' a' w'→K a' w') :
  if Region.wanted o (yielded ops a.tmps) then o.wp C.P a w K Q else K (a.put o.dst undef) w:=by
 obtain⟨σ,S,hf,stp,hdef⟩:=hg
 have hputd:∀ (dst:Option Tmp) (v:Value),(a.put dst v).defers=[]:=fun dst v=>by cases dst <;> exact hdef
 unfold aq at h
 split at h
 ·rename_i v hp' fp' he
  simp only[Option.some.injEq,Prod.mk.injEq] at h
  obtain⟨rfl,_⟩:=h
  unfold aH at he
  split at he
  ·cases he
  ·rename_i hw
   rw[uh hf hw]
   simp only[Option.some.injEq,Prod.mk.injEq] at he
   obtain⟨rfl,rfl,_⟩:=he
   simp only[Bool.false_eq_true,if_false]
   exact hK _ _ ⟨σ,S,hf.put o.dst (.sc undef),stp,hputd _ _⟩
  ·rename_i hw
   rw[uh hf hw]
   simp only[if_true]
   split at he
   ·rename_i c hc
    split at he
    ·rename_i g args hcal
     obtain⟨vs,hvs,hrun⟩:=Hg hf hcal
     have hcall:=Uu hR hE hO he S hvs
     have hex:∀ ρ,execOp ρ o=(do let d ← resolve ρ c o.type;invoke d.target d.args):=by
      intro ρ
      unfold ai at hc
      split at hc
      ·rename_i c' e
       split at hc
       ·simp at hc;subst hc
        unfold execOp;rw[e]
       ·cases hc
      ·cases hc
     unfold Oper.wp
     rw[hex,hrun]
     unfold iX at hcall
     split at hcall
     ·rename_i u w' e
      rw[e]
      obtain⟨σ',h1,h2,h3⟩:=hcall
      exact hK _ _ ⟨σ',h2,(hf.step h3).put o.dst h1,stp.trans h3,hputd _ _⟩
     ·rename_i f as w' e
      rw[e]
      refine hcall.mono fun en w'' ⟨u,e1,σ',h1,h2,h3⟩ => ?_
      subst e1
      exact hK _ _ ⟨σ',h2,(hf.step h3).put o.dst h1,stp.trans h3,hputd _ _⟩
     ·exact hcall.elim
    ·cases he
   ·obtain⟨n,u,w',σ',h1,h2,h3,h4,h5⟩:=Ok hT S hf (o:=o) he
    unfold Oper.wp
    rw[h1]
    rcases h2 with rfl | ⟨rfl,rfl⟩
    ·exact hK _ _ ⟨σ',h4,(hf.step h5).put o.dst h3,stp.trans h5,hputd _ _⟩
    ·exact hK _ _ ⟨σ',h4,(hf.step h5).put o.dst h3,stp.trans h5,hputd _ _⟩
 ·cases h
theorem Da (hT:fL C.P C.T)(hR:ti C run)(hE:fG run)(hO:tj C){dr:Bool}{ops:Array Oper}{Q:Exit→Act→World→Prop} : ∀ (l:List Oper) (st st':St) (fps:List FP) (a:Act) (w:World),
  ao C run dr ops l st=some (st',fps)→Good H w0 σ0 hp0 st a w→(∀ a' w',Good H w0 σ0 hp0 st' a' w'→Q .normal a' w')→wpList C.P ops Q l a w
 | [],st,st',fps,a,w,h,hg,hQ=>by
  simp only[ao,Option.some.injEq,Prod.mk.injEq] at h
  obtain⟨rfl,_⟩:=h
  exact hQ a w hg
 | o::l,st,st',fps,a,w,h,hg,hQ=>by
  simp only[ao] at h
  split at h
  ·rename_i st1 fp ho
   split at h
   ·rename_i st2 fps' hl
    simp only[Option.some.injEq,Prod.mk.injEq] at h
    obtain⟨rfl,_⟩:=h
    have:=Cw (Q:=Q) hT hR hE hO ho hg (K:=wpList C.P ops Q l) (fun a' w' hg'=>Da hT hR hE hO l st1 st2 fps' a' w' hl hg' hQ)
    unfold wpList
    split
    ·rename_i hw;rw[if_pos hw] at this;exact .inl this
    ·rename_i hw;rw[if_neg hw] at this;exact this
   ·cases h
  ·cases h
end
def Ag (hp hp2:List Blk)(ids:List Nat):Prop:=∀ i ∈ ids,aV hp2 i=aV hp i
theorem Ag.left {hp hp2:List Blk}{a b:List Nat}(h:Ag hp hp2 (a++b)):Ag hp hp2 a:=fun i hi=>h i (by simp[hi])
theorem Ag.right {hp hp2:List Blk}{a b:List Nat}(h:Ag hp hp2 (a++b)):Ag hp hp2 b:=fun i hi=>h i (by simp[hi])
theorem oL {hp hp2:List Blk}{s:Nat}{x:PV}{n:Nat}{cs:List PV}{ids:List Nat}(h:fO hp s x=some (n,cs,ids))(ha:Ag hp hp2 ids):fO hp2 s x=some (n,cs,ids):=by
 unfold fO at *
 split at h
 ·exact h
 ·exact h
 ·rename_i id s' off len x
  split at h
  ·rename_i st cs' e
   split at h
   ·cases h
   ·rename_i hn
    split at h
    ·rename_i l hl
     simp only[Option.some.injEq,Prod.mk.injEq] at h
     obtain⟨rfl,rfl,rfl⟩:=h
     have:=ha id (by simp)
     simp only[this,e,if_neg hn,hl]
    ·cases h
  ·cases h
 ·cases h
theorem AO {hp hp2:List Blk}{x:PV}{cs:List PV}{ids:List Nat}(h:aU hp x=some (cs,ids))(ha:Ag hp hp2 ids):aU hp2 x=some (cs,ids):=by
 unfold aU at *
 split at h
 ·rename_i id off
  split at h
  ·rename_i st cs' e
   split at h
   ·cases h
   ·rename_i hn
    simp only[Option.some.injEq,Prod.mk.injEq] at h
    obtain⟨rfl,rfl⟩:=h
    have:=ha id (by simp)
    simp only[this,e,if_neg hn]
  ·cases h
 ·exact h
 ·cases h
theorem l7 {f g:PV→Option (PV × List Nat)}{P:List Nat→Prop}(hP:∀ a b,P (a++b)→P a∧P b)(hf:∀ c r ids,f c=some (r,ids)→P ids→g c=some (r,ids)):∀ {cs l:List PV} {ids:List Nat},bt f cs=some (l,ids)→P ids→bt g cs=some (l,ids)
 | [],l,ids,h,_=>by simpa [bt] using h
 | c::cs,l,ids,h,ha=>by
  simp only[bt] at h ⊢
  split at h
  ·rename_i c' i1 e1
   split at h
   ·rename_i l' i2 e2
    simp only[Option.some.injEq,Prod.mk.injEq] at h
    obtain⟨rfl,rfl⟩:=h
    obtain⟨p1,p2⟩:=hP _ _ ha
    rw[hf c c' i1 e1 p1,l7 hP hf e2 p2]
   ·cases h
  ·cases h
theorem uy {hp hp2:List Blk} : ∀ (d:Nat) {x r:PV} {ids:List Nat},snap hp d x=some (r,ids)→Ag hp hp2 ids→snap hp2 d x=some (r,ids)
 | 0,_,_,_,h,_=>by simp[snap] at h
 | d+1,x,r,ids,h,ha=>by
  have hm:∀ {cs l:List PV} {ids:List Nat},bt (snap hp d) cs=some (l,ids)→Ag hp hp2 ids→bt (snap hp2 d) cs=some (l,ids) :=
   fun h1 h2=>l7 (P:=Ag hp hp2) (fun _ _ h=>⟨h.left,h.right⟩) (fun c r ids h h'=>uy d h h') h1 h2
  unfold snap at h ⊢
  split at h
  ·rename_i id s off len x
   split at h
   ·rename_i st cs' e
    split at h
    ·cases h
    ·rename_i hn
     split at h
     ·rename_i l hl
      split at h
      ·rename_i l' i2 e2
       simp only[Option.some.injEq,Prod.mk.injEq] at h
       obtain⟨rfl,rfl⟩:=h
       have h1:=ha id (by simp)
       have h2:Ag hp hp2 i2:=fun i hi=>ha i (by simp[hi])
       simp only[h1,e,if_neg hn,hl,hm e2 h2]
      ·cases h
     ·cases h
   ·cases h
  ·split at h
   ·rename_i l' i2 e2
    simp only[Option.some.injEq,Prod.mk.injEq] at h
    obtain⟨rfl,rfl⟩:=h
    simp only[hm e2 ha]
   ·cases h
  ·cases h
  ·cases h
  ·simpa using h
  ·cases h
  ·cases h
  ·rename_i h1 h2 h3 h4 h5 h6 h7
   simpa using h
theorem cQ {hp:List Blk}{id:Nat}{b b0:Blk}(h:aV hp id=some b0)(i:Nat):aV (bO hp id b) i=if i=id then some b else aV hp i:=by
 rw[cK] at h
 simp only[cK,fH]
 rw[List.getElem?_set]
 by_cases hi:i=id
 ·subst hi;simp[cP h]
 ·simp[hi,Ne.symm hi]
theorem bF (hp:List Blk)(id:Nat)(b:Blk):(bO hp id b).length=hp.length:=by rw[fH];simp
theorem bN (hp:List Blk)(cs:List PV)(i:Nat):aV (aO hp cs) i=if i=hp.length then some ⟨.live,cs⟩ else aV hp i:=by
 simp only[cK,aO]
 rw[List.getElem?_append]
 split
 ·rename_i h;rw[if_neg (by omega)]
 ·rename_i h
  by_cases e:i=hp.length
  ·simp[e]
  ·rw[if_neg e,List.getElem?_eq_none (l:=hp) (by omega),List.getElem?_eq_none (by simp;omega)]
theorem MP {a b:List Blk}(h:∀ i,aV a i=aV b i):a=b:=by
 apply List.ext_getElem?
 intro i
 have:=h i
 rwa [cK,cK] at this
structure Loc (f:List Blk→Option (PV × List Blk × FP)):Prop where
 E:∀ hp v hp' F,f hp=some (v,hp',F)→(∀ i,i ∉ F.wr→aV hp' i=aV hp i)∧(F.all=false→F.al=false→hp'.length=hp.length)∧(F.all=false→F.wr=[]→F.al=false)
 D:∀ hp hp2 v hp' F,f hp=some (v,hp',F)→F.all=false→Ag hp hp2 F.rd→Ag hp hp2 F.wr→(F.al=true→hp2.length=hp.length) →
  ∃ hp2',f hp2=some (v,hp2',F)∧∀ i ∈ F.wr,aV hp2' i=aV hp' i
theorem Loc.no:Loc fun _=>(.none:Option (PV × List Blk × FP)):=⟨(fun _ _ _ _ h=>nomatch h),(fun _ _ _ _ _ h=>nomatch h)⟩
theorem Loc.read {g:List Blk→Option (PV × List Nat)}(hg:∀ hp hp2 v ids,g hp=some (v,ids)→Ag hp hp2 ids→g hp2=some (v,ids)) :
  Loc fun hp=>match g hp with | some (v,ids)=>some (v,hp,⟨ids,[],false,false⟩) | .none=>.none:=by
 constructor
 ·intro hp v hp' F h
  try dsimp only at h
  split at h
  ·simp only[Option.some.injEq,Prod.mk.injEq] at h
   obtain⟨rfl,rfl,rfl⟩:=h
   exact⟨fun _ _=>rfl,fun _ _=>rfl,fun _ _=>rfl⟩
  ·cases h
 ·intro hp hp2 v hp' F h _ hr hw hl
  try dsimp only at h
  split at h
  ·rename_i v' ids e
   simp only[Option.some.injEq,Prod.mk.injEq] at h
   obtain⟨rfl,rfl,rfl⟩:=h
   exact⟨hp2,by simp only[hg hp hp2 _ _ e hr],by simp⟩
  ·cases h
theorem Loc.pure (v:PV):Loc fun hp=>some (v,hp,FP.none):=Loc.read (g:=fun _=>some (v,[])) fun _ _ _ _ h _=>h
theorem Loc.opt (v:Option PV):Loc fun hp=>match v with | some x=>some (x,hp,FP.none) | .none=>.none:=by
 cases v with
 | none=>exact Loc.no
 | some v=>exact Loc.pure v
theorem Loc.alloc (mk:Nat→PV)(cs:List PV):Loc fun hp=>some (mk hp.length,aO hp cs,⟨[],[hp.length],true,false⟩):=by
 constructor
 ·intro hp v hp' F h
  simp only[Option.some.injEq,Prod.mk.injEq] at h
  obtain⟨rfl,rfl,rfl⟩:=h
  refine⟨fun i hi => ?_,fun _ h=>by simp at h,fun _ h=>by simp at h⟩
  rw[bN,if_neg (by simpa using hi)]
 ·intro hp hp2 v hp' F h _ hr hw hl
  simp only[Option.some.injEq,Prod.mk.injEq] at h
  obtain⟨rfl,rfl,rfl⟩:=h
  have:=hl rfl
  refine⟨aO hp2 cs,by simp[this],fun i hi => ?_⟩
  simp at hi
  rw[bN,bN,if_pos hi,if_pos (by omega)]
theorem nF (s:Nat)(x:PV)(n:Nat)(new:List PV):Loc fun hp=>df hp s x n new:=by
 unfold df
 split
 ·split
  ·exact Loc.pure _
  ·split
   ·exact Loc.alloc (fun k=>.own k s 0 n false) new
   ·exact Loc.no
 ·split
  ·exact Loc.pure _
  ·rename_i len cs _
   split
   ·exact Loc.alloc (fun k=>.own k s 0 (len+n) false) (cs++new)
   ·exact Loc.no
 ·rename_i id s' off len
  split
  ·exact Loc.no
  ·split
   ·exact Loc.pure _
   ·constructor
    ·intro hp v hp' F h
     try dsimp only at h
     repeat' split at h
     all_goals first | cases h;done | skip
     simp only[Option.some.injEq,Prod.mk.injEq] at h
     obtain⟨rfl,rfl,rfl⟩:=h
     refine⟨fun i hi => ?_,fun _ h=>by simp at h,fun _ h=>by simp at h⟩
     rw[bN,if_neg (by simpa using hi)]
    ·intro hp hp2 v hp' F h _ hr hw hl
     try dsimp only at h
     split at h
     ·rename_i st cs e
      split at h
      ·cases h
      ·rename_i hn
       split at h
       ·rename_i l hl'
        split at h
        ·rename_i hm
         simp only[Option.some.injEq,Prod.mk.injEq] at h
         obtain⟨rfl,rfl,rfl⟩:=h
         have h0:=hl rfl
         have h1:=hr id (by simp)
         refine⟨aO hp2 (l++new),by simp only[h1,e,if_neg hn,hl',if_pos hm,h0],fun i hi => ?_⟩
         simp at hi
         rw[bN,bN,if_pos hi,if_pos (by omega)]
        ·cases h
       ·cases h
     ·cases h
 ·rename_i id s' off len
  split
  ·exact Loc.no
  ·constructor
   ·intro hp v hp' F h
    try dsimp only at h
    split at h
    ·rename_i cs e
     split at h
     ·split at h
      ·simp only[Option.some.injEq,Prod.mk.injEq] at h
       obtain⟨rfl,rfl,rfl⟩:=h
       refine⟨fun i hi => ?_,fun _ h=>by simp at h,fun _ h=>by simp at h⟩
       simp at hi
       rw[bN,bF,if_neg hi.2,cQ e,if_neg hi.1]
      ·cases h
     ·cases h
    ·cases h
   ·intro hp hp2 v hp' F h _ hr hw hl
    try dsimp only at h
    split at h
    ·rename_i cs e
     split at h
     ·rename_i l hl'
      split at h
      ·rename_i hm
       simp only[Option.some.injEq,Prod.mk.injEq] at h
       obtain⟨rfl,rfl,rfl⟩:=h
       have h0:=hl rfl
       have h1:=hw id (by simp)
       refine⟨aO (bO hp2 id ⟨.dead,[]⟩) (l++new),by simp only[h1,e,hl',if_pos hm,h0],fun i hi => ?_⟩
       rw[bN,bN,bF,bF,cQ e,cQ (h1.trans e),h0]
       simp at hi
       rcases hi with hi | hi
       ·subst hi
        have:i≠hp.length:=by have:=cP ((cK _ _).symm.trans e);omega
        simp[this]
       ·simp[hi]
      ·cases h
     ·cases h
    ·cases h
 ·exact Loc.no
theorem vV {a n i:Nat} : i ∈ upto a n ↔ a≤i∧i<a+n:=by
 induction n generalizing a with
 | zero=>simp[upto]
 | succ n ih=>simp only[upto,List.mem_cons,ih];omega
theorem iY:∀ (ids:List Nat) (hp:List Blk) (i:Nat),aV (roB hp ids) i=if i ∈ ids then (aV hp i).map (fun b=>if b.st = .live then ⟨.ro,b.cs⟩ else b) else aV hp i
 | [],hp,i=>by simp[roB]
 | j::ids,hp,i=>by
  simp only[roB]
  split
  ·rename_i cs e
   rw[iY ids,cQ e]
   by_cases hij:i=j
   ·subst hij;simp[e]
   ·simp[hij]
  ·rename_i hn
   rw[iY ids]
   by_cases hij:i=j
   ·subst hij
    cases hb:aV hp i with
    | none=>simp
    | some b =>
     obtain⟨st,cs⟩:=b
     cases st <;> simp_all
   ·simp[hij]
theorem eZ:∀ (ids:List Nat) (hp:List Blk),(roB hp ids).length=hp.length
 | [],hp=>rfl
 | j::ids,hp=>by
  simp only[roB]
  split
  ·rw[eZ ids,bF]
  ·rw[eZ ids]
theorem ki (a b:List Blk)(i:Nat):aV (a++b) i=if i<a.length then aV a i else aV b (i - a.length):=by
 simp only[cK,List.getElem?_append]
theorem n7 {a:List Blk}{i:Nat}(h:a.length≤i):aV a i=none:=by rw[cK];exact List.getElem?_eq_none h
theorem nk (hp:List Blk):∀ (rs:List PV) (kept:List Blk) (K F:List Nat) (rs':List PV) (kept':List Blk),dS hp kept K F rs=some (rs',kept') →
  kept.length≤kept'.length∧(kept'.length=kept.length→∀ n,rs'.map (qO n)=rs')
 | [],kept,K,F,rs',kept',h=>by
  simp only[dS,Option.some.injEq,Prod.mk.injEq] at h
  obtain⟨rfl,rfl⟩:=h
  simp
 | r::rs,kept,K,F,rs',kept',h=>by
  have hsn:∀ {r':PV} {ids:List Nat},snap hp bp r=some (r',ids)→∀ n,qO n r'=r':=fun {r' _} e n=>by
   have:=mH hp _ e
   cases r' <;> first | rfl | simp[PV.cO] at this
  have hrest:∀ {r':PV} {ids:List Nat},(match snap hp bp r with
    | some (r',ids) =>
     if ids.any K.contains then none
     else match dS hp kept K (ids++F) rs with
      | some (rs',k)=>some (r'::rs',k)
      | none=>none
    | none=>none)=some (rs',kept')→kept.length≤kept'.length∧(kept'.length=kept.length→∀ n,rs'.map (qO n)=rs'):=fun {_ _} h=>by
   split at h
   ·rename_i r' ids e
    split at h
    ·cases h
    ·split at h
     ·rename_i rs1 k1 e1
      simp only[Option.some.injEq,Prod.mk.injEq] at h
      obtain⟨rfl,rfl⟩:=h
      obtain⟨h1,h2⟩:=nk hp rs _ _ _ _ _ e1
      exact⟨h1,fun hl n=>by rw[List.map_cons,h2 hl n,hsn e n]⟩
     ·cases h
   ·cases h
  unfold dS at h
  split at h
  ·split at h
   ·split at h
    ·split at h
     ·cases h
     ·split at h
      ·rename_i rs1 k1 e1
       simp only[Option.some.injEq,Prod.mk.injEq] at h
       obtain⟨rfl,rfl⟩:=h
       obtain⟨h1,h2⟩:=nk hp rs _ _ _ _ _ e1
       simp at h1
       exact⟨by omega,fun hl=>by omega⟩
      ·cases h
    ·cases h
   ·exact hrest (r':=.any) (ids:=[]) h
  ·exact hrest (r':=.any) (ids:=[]) h
theorem Nf {C:Cfg}{run:ar}(hE:fG run)(dr:Bool)(g:FuncId)(args:List PV):Loc fun hp=>cg C run dr hp g args:=by
 unfold cg
 split
 ·constructor
  ·intro hp v hp' F h
   try dsimp only at h
   split at h
   ·rename_i rs hp1 w e
    obtain⟨e1,e2⟩:=hE _ _ _ _ _ _ e
    cases hb:(cq rs && ig hp1 hp.length (kZ hp.length w)) with
    | true =>
     simp only[hb,cond_true,Option.some.injEq,Prod.mk.injEq] at h
     obtain⟨rfl,rfl,rfl⟩:=h
     refine⟨fun i hi => ?_,fun h=>by simp at h,fun h=>by simp at h⟩
     rw[pr,cK,cK,List.getElem?_take]
     split
     ·rename_i hlt
      exact e2 i hlt fun hm=>hi (pM.2 ⟨hm,hlt⟩)
     ·rw[List.getElem?_eq_none (by omega)]
    | false =>
     simp only[hb,cond_false,Option.some.injEq,Prod.mk.injEq] at h
     obtain⟨rfl,rfl,rfl⟩:=h
     refine⟨fun i hi => ?_,fun h=>by simp at h,fun h=>by simp at h⟩
     simp only[List.mem_append,pM,vV,not_or] at hi
     rw[cK,cK]
     rcases Nat.lt_or_ge i hp.length with hlt | hge
     ·exact e2 i hlt fun hm=>hi.1 ⟨hm,hlt⟩
     ·rw[List.getElem?_eq_none (l:=hp) hge,List.getElem?_eq_none (by omega)]
   ·cases h
  ·intro hp hp2 v hp' F h hall
   try dsimp only at h
   split at h
   ·rename_i rs hp1 w e
    cases hb:(cq rs && ig hp1 hp.length (kZ hp.length w)) with
    | true=>simp only[hb,cond_true,Option.some.injEq,Prod.mk.injEq] at h;rw[← h.2.2] at hall;simp at hall
    | false=>simp only[hb,cond_false,Option.some.injEq,Prod.mk.injEq] at h;rw[← h.2.2] at hall;simp at hall
   ·cases h
 ·have hsn:∀ {hp hp2:List Blk} {l:List PV} {ids:List Nat},bt (snap hp bp) args=some (l,ids)→Ag hp hp2 ids→bt (snap hp2 bp) args=some (l,ids) :=
   fun {hp hp2} _ _ h1 h2=>l7 (P:=Ag hp hp2) (fun _ _ h=>⟨h.left,h.right⟩) (fun c r ids h h'=>uy _ h h') h1 h2
  constructor
  ·intro hp v hp' F h
   try dsimp only at h
   split at h
   ·cases h
   ·rename_i args' ids e
    split at h
    ·rename_i rs er
     cases hb:rs.all eo with
     | true =>
      simp only[hb,cond_true,Option.some.injEq,Prod.mk.injEq] at h
      obtain⟨rfl,rfl,rfl⟩:=h
      exact⟨fun _ _=>rfl,fun _ _=>rfl,fun _ _=>rfl⟩
     | false =>
      simp only[hb,cond_false,Option.some.injEq,Prod.mk.injEq] at h
      obtain⟨rfl,rfl,rfl⟩:=h
      exact⟨fun i hi=>by rw[iY,if_neg hi],fun _ _=>eZ _ _,fun _ _=>rfl⟩
    ·split at h
     ·cases h
     ·split at h
      ·cases h
      ·rename_i rs' kept ek
       cases hb:rs'.all eo with
       | true =>
        simp only[hb,cond_true,Option.some.injEq,Prod.mk.injEq] at h
        obtain⟨rfl,rfl,rfl⟩:=h
        exact⟨fun _ _=>rfl,fun _ _=>rfl,fun _ _=>rfl⟩
       | false =>
        simp only[hb,cond_false,Option.some.injEq,Prod.mk.injEq] at h
        obtain⟨rfl,rfl,rfl⟩:=h
        refine⟨fun i hi => ?_,fun _ h => ?_,fun _ h => ?_⟩
        ·simp only[List.mem_append,vV,not_or] at hi
         rw[ki,eZ]
         split
         ·rw[iY,if_neg hi.1]
         ·rw[n7 (by omega),n7 (by omega)]
        ·simp at h;simp[h,eZ]
        ·cases kept with
         | nil=>rfl
         | cons=>simp[upto] at h
  ·intro hp hp2 v hp' F h _ hr hw hl
   try dsimp only at h
   split at h
   ·cases h
   ·rename_i args' ids e
    split at h
    ·rename_i rs er
     cases hb:rs.all eo with
     | true =>
      simp only[hb,cond_true,Option.some.injEq,Prod.mk.injEq] at h
      obtain⟨rfl,rfl,rfl⟩:=h
      exact⟨hp2,by simp only[hsn e hr,er,hb,cond_true],by simp⟩
     | false =>
      simp only[hb,cond_false,Option.some.injEq,Prod.mk.injEq] at h
      obtain⟨rfl,rfl,rfl⟩:=h
      refine⟨roB hp2 ids,by simp only[hsn e hr,er,hb,cond_false],fun i hi => ?_⟩
      rw[iY,iY,hr i hi]
    ·rename_i er
     split at h
     ·cases h
     ·rename_i e2
      split at h
      ·cases h
      ·rename_i rs' kept ek
       cases hb:rs'.all eo with
       | true =>
        simp only[hb,cond_true,Option.some.injEq,Prod.mk.injEq] at h
        obtain⟨rfl,rfl,rfl⟩:=h
        exact⟨hp2,by simp only[hsn e hr,er,e2,ek,hb,cond_true],by simp⟩
       | false =>
        simp only[hb,cond_false,Option.some.injEq,Prod.mk.injEq] at h
        obtain⟨rfl,rfl,rfl⟩:=h
        have hlen:(!kept.isEmpty)=true→hp2.length=hp.length:=hl
        obtain⟨_,hsh⟩:=nk _ _ _ _ _ _ _ ek
        cases hk:kept with
        | nil =>
         subst hk
         have s1:=hsh rfl
         refine⟨roB hp2 ids++[],by simp only[hsn e hr,er,e2,ek,hb,cond_false,s1];rfl,fun i hi => ?_⟩
         simp only[List.length_nil,upto,List.append_nil] at hi ⊢
         rw[iY,iY,hr i hi]
        | cons b bs =>
         subst hk
         have h0:=hlen rfl
         refine⟨roB hp2 ids++(b::bs),by simp only[hsn e hr,er,e2,ek,hb,cond_false,h0],fun i hi => ?_⟩
         rw[ki,ki,eZ,eZ,h0,iY,iY]
         split
         ·rename_i hlt
          split
          ·rename_i hm;rw[hr i hm]
          ·rename_i hm
           simp only[List.mem_append,vV] at hi
           exact absurd hi (by intro hi;rcases hi with hi | hi;exact hm hi;omega)
         ·rfl
end Go.Ab
