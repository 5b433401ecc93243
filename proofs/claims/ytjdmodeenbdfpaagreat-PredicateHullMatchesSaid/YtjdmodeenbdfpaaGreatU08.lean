/- An abstract interpreter over the model's code and its soundness, part 8; each lemma states its conditions. -/
import Derived.Test.YtjdmodeenbdfpaaGreatU07
set_option linter.unusedSimpArgs false
set_option linter.unusedVariables false
namespace Go.Ab
open Go List
def Good (H:Nat→Prop)(w0:World)(σ0:List Addr)(hp0:Θ)(st:St)(a:Act)(w:World):Prop :=
 ∃ σ,Sim w H σ st.hp∧ov w (hot H σ st.hp) σ (aQ st.hp) st.fr a.tmps∧Step w0 (cS σ0 hp0) σ0 (aQ hp0) w (cS σ st.hp) σ (aQ st.hp)∧a.defers=[]
section
variable {C:Cfg} {run:av} {H:Nat→Prop} {w0:World} {σ0:List Addr} {hp0:Θ}
theorem abA {w:World}{M:Nat→Prop}{σ:List Addr}{L:Nat→Prop}{p:PV}{v:Value}(hv:V w M σ L p v)(h1:p ≠ .any)(h2:∀ b,p ≠ .sc (.bool b)):∀ b,v ≠ .bool b:=by
 intro b e
 subst e
 cases hv with
 | any=>exact h1 rfl
 | sc=>exact h2 b rfl
theorem vP {w:World}{M:Nat→Prop}{σ:List Addr}{L:Nat→Prop}{ops:Array Oper}{fr:Ψ}{tmps:Array Value}{o:Oper}{b:Bool}(hf:ov w M σ L fr tmps)(h:ag ops fr o=some b) :
  Region.wanted o (yielded ops tmps)=b:=by
 unfold ag at h
 unfold Region.wanted
 cases hg:o.guard with
 | none=>simp[hg] at h;simp[h]
 | some g =>
  obtain⟨j,want⟩:=g
  simp only[hg] at h
  cases hd:(ops[j]?).bind (·.dst) with
  | none=>simp[hd] at h
  | some d =>
   simp only[hd] at h
   have hv:=hf.nth d
   unfold yielded
   simp only[hd,Option.bind_some]
   have hlt:nth fr d ≠ .any→d<tmps.size:=by
    intro hne
    rcases Nat.lt_or_ge d tmps.size with h' | h'
    ·exact h'
    ·rw[sX,getElem?_eq_none (by rw[hf.len];exact h')] at hne
     exact absurd rfl hne
   split at h
   ·rename_i b' e
    rw[e] at hv
    have hl:=hlt (by rw[e];simp)
    have:=hv.kR
    simp[hl] at this
    simp at h
    rw[Array.getElem?_eq_getElem hl,this,← h]
    simp
   ·cases h
   ·rename_i h1 h2
    simp at h
    have hl:=hlt (fun e=>h2 e)
    have hnb:=abA hv (fun e=>h2 e) (fun b e=>h1 b e)
    rw[Array.getElem?_eq_getElem hl]
    have e0:tmps.getD d undef=tmps[d]:=by simp[hl]
    rw[e0] at hnb
    subst h
    split
    ·rename_i b' e
     simp at e
     exact absurd e (hnb b')
    ·rfl
theorem Jm {w:World}{M:Nat→Prop}{σ:List Addr}{L:Nat→Prop}{fr:Ψ}{a:Act}{c:Call}{g:FuncId}{args:Ψ}(hf:ov w M σ L fr a.tmps)(h:aM fr c=some (g,args)) :
  ∃ vs:List Value,Vs w M σ L args vs∧∀ P ty,(do let d ← resolve a.eval c ty;invoke d.target d.args:Sem Next).run P w=(callFunc g vs.toArray).run P w:=by
 have hargs:Vs w M σ L (c.args.toList.map (aj fr)) (c.args.toList.map a.eval):=⟨by simp,fun k p v h1 h2=>by
  rw[getElem?_map] at h1 h2
  cases hk:c.args.toList[k]? with
  | none=>simp[hk] at h1
  | some x=>simp[hk] at h1 h2;subst h1;subst h2;exact hf.eval x⟩
 unfold aM at h
 split at h
 ·rename_i f hc
  have hvf:=hf.eval f
  split at h
  ·rename_i g' e
   rw[e] at hvf
   have hv:=hvf.kR
   simp only[OiE,PiE] at h
   obtain⟨rfl,rfl⟩:=h
   refine⟨_,hargs,fun P ty => ?_⟩
   have e2:(c.args.toList.map a.eval).toArray=c.args.map a.eval:=by apply Array.ext';simp
   rw[e2]
   simp[resolve,hc,hv,Deferred.ofValue,invoke]
  ·rename_i g' caps e
   rw[e] at hvf
   obtain⟨cv,hv,hrel⟩:=hvf.FD
   simp only[OiE,PiE] at h
   obtain⟨rfl,rfl⟩:=h
   refine⟨c.args.toList.map a.eval++cv.toList,⟨by simp[hrel.1],fun k p v h1 h2 => ?_⟩,fun P ty => ?_⟩
   ·rcases Nat.lt_or_ge k c.args.toList.length with hk | hk
    ·rw[getElem?_append_left (by simpa using hk)] at h1 h2
     exact hargs.2 k p v h1 h2
    ·rw[getElem?_append_right (by simpa using hk)] at h1 h2
     simp only[length_map] at h1 h2
     exact hrel.2 _ p v h1 (by simpa using h2)
   ·have e2:(c.args.toList.map a.eval++cv.toList).toArray=c.args.map a.eval++cv:=by apply Array.ext';simp
    rw[e2]
    simp[resolve,hc,hv,Deferred.ofValue,invoke]
  ·rename_i g' caps e
   rw[e] at hvf
   obtain⟨cv,hv,hrel⟩:=hvf.FY
   simp only[OiE,PiE] at h
   obtain⟨rfl,rfl⟩:=h
   refine⟨cv.toList++c.args.toList.map a.eval,⟨by simp[hrel.1],fun k p v h1 h2 => ?_⟩,fun P ty => ?_⟩
   ·have hl:=hrel.1
    rcases Nat.lt_or_ge k caps.length with hk | hk
    ·rw[getElem?_append_left hk] at h1
     rw[getElem?_append_left (by simpa [hl] using hk)] at h2
     exact hrel.2 _ p v h1 (by simpa using h2)
    ·rw[getElem?_append_right hk] at h1
     rw[getElem?_append_right (by simpa [hl] using hk)] at h2
     refine hargs.2 (k - caps.length) p v h1 ?_
     simpa [hl] using h2
   ·have e2:(cv.toList++c.args.toList.map a.eval).toArray=cv++c.args.map a.eval:=by apply Array.ext';simp
    rw[e2]
    simp[resolve,hc,hv,Deferred.ofValue,invoke]
  ·cases h
 ·cases h
theorem Es (hT:gh C.P C.T)(hR:uF C run)(hE:fQ run)(hO:uG C){dr:Bool}{ops:Array Oper}{o:Oper}{st st':St}{fp:FP}{a:Act}{w:World}(h:ar C run dr ops o st=some (st',fp))
  (hg:Good H w0 σ0 hp0 st a w) {K:Act→World→Prop} {Q:Exit→Act→World→Prop} (hK:∀ a' w',Good H w0 σ0 hp0 st' a' w'→K a' w') :
  if Region.wanted o (yielded ops a.tmps) then o.wp C.P a w K Q else K (a.put o.dst undef) w:=by
 obtain⟨σ,S,hf,stp,hdef⟩:=hg
 have hputd:∀ (dst:Option Tmp) (v:Value),(a.put dst v).defers=[]:=fun dst v=>by cases dst <;> exact hdef
 unfold ar at h
 split at h
 ·rename_i v hp' fp' he
  simp only[OiE,PiE] at h
  obtain⟨rfl,_⟩:=h
  unfold aF at he
  split at he
  ·cases he
  ·rename_i hw
   rw[vP hf hw]
   simp only[OiE,PiE] at he
   obtain⟨rfl,rfl,_⟩:=he
   simp only[Bool.false_eq_true,if_false]
   exact hK _ _ ⟨σ,S,hf.put o.dst (.sc undef),stp,hputd _ _⟩
  ·rename_i hw
   rw[vP hf hw]
   simp only[if_true]
   split at he
   ·rename_i c hc
    split at he
    ·rename_i g args hcal
     obtain⟨vs,hvs,hrun⟩:=Jm hf hcal
     have hcall:=Xu hR hE hO he S hvs
     have hex:∀ ρ,execOp ρ o=(do let d ← resolve ρ c o.type;invoke d.target d.args):=by
      intro ρ
      unfold ah at hc
      split at hc
      ·rename_i c' e
       split at hc
       ·simp at hc;subst hc
        unfold execOp;rw[e]
       ·cases hc
      ·cases hc
     unfold Oper.wp
     rw[hex,hrun]
     unfold jf at hcall
     split at hcall
     ·rename_i u w' e
      rw[e]
      obtain⟨σ',h1,h2,h3⟩:=hcall
      exact hK _ _ ⟨σ',h2,(hf.step h3).put o.dst h1,stp.trans h3,hputd _ _⟩
     ·rename_i f as w' e
      rw[e]
      refine hcall.mono fun en w'' ⟨u,e1,σ',h1,h2,h3⟩ => ?_
      subst e1
      exact hK _ _ ⟨σ',h2,(hf.step h3).put o.dst h1,stp.trans h3,hputd _ _⟩
     ·exact hcall.elim
    ·cases he
   ·obtain⟨n,u,w',σ',h1,h2,h3,h4,h5⟩:=Q7 hT S hf (o:=o) he
    unfold Oper.wp
    rw[h1]
    rcases h2 with rfl | ⟨rfl,rfl⟩
    ·exact hK _ _ ⟨σ',h4,(hf.step h5).put o.dst h3,stp.trans h5,hputd _ _⟩
    ·exact hK _ _ ⟨σ',h4,(hf.step h5).put o.dst h3,stp.trans h5,hputd _ _⟩
 ·cases h
theorem Fb (hT:gh C.P C.T)(hR:uF C run)(hE:fQ run)(hO:uG C){dr:Bool}{ops:Array Oper}{Q:Exit→Act→World→Prop} : ∀ (l:List Oper) (st st':St) (fps:List FP) (a:Act) (w:World),
  aq C run dr ops l st=some (st',fps)→Good H w0 σ0 hp0 st a w→(∀ a' w',Good H w0 σ0 hp0 st' a' w'→Q .normal a' w')→wpList C.P ops Q l a w
 | [],st,st',fps,a,w,h,hg,hQ=>by
  simp only[aq,OiE,PiE] at h
  obtain⟨rfl,_⟩:=h
  exact hQ a w hg
 | o::l,st,st',fps,a,w,h,hg,hQ=>by
  simp only[aq] at h
  split at h
  ·rename_i st1 fp ho
   split at h
   ·rename_i st2 fps' hl
    simp only[OiE,PiE] at h
    obtain⟨rfl,_⟩:=h
    have:=Es (Q:=Q) hT hR hE hO ho hg (K:=wpList C.P ops Q l) (fun a' w' hg'=>Fb hT hR hE hO l st1 st2 fps' a' w' hl hg' hQ)
    unfold wpList
    split
    ·rename_i hw;rw[if_pos hw] at this;exact .inl this
    ·rename_i hw;rw[if_neg hw] at this;exact this
   ·cases h
  ·cases h
end
def Ag (hp hp2:Θ)(ids:Ω):Prop:=∀ i ∈ ids,aX hp2 i=aX hp i
theorem Ag.left {hp hp2:Θ}{a b:Ω}(h:Ag hp hp2 (a++b)):Ag hp hp2 a:=fun i hi=>h i (by simp[hi])
theorem Ag.right {hp hp2:Θ}{a b:Ω}(h:Ag hp hp2 (a++b)):Ag hp hp2 b:=fun i hi=>h i (by simp[hi])
theorem wI {hp hp2:Θ}{s:Nat}{x:PV}{n:Nat}{cs:Ψ}{ids:Ω}(h:eY hp s x=some (n,cs,ids))(ha:Ag hp hp2 ids):eY hp2 s x=some (n,cs,ids):=by
 unfold eY at *
 split at h
 ·exact h
 ·exact h
 ·rename_i id s' off len x
  split at h
  ·rename_i st cs' e
   split at h
   ·cases h
   ·rename_i hn
    split at h
    ·rename_i l hl
     simp only[OiE,PiE] at h
     obtain⟨rfl,rfl,rfl⟩:=h
     have:=ha id (by simp)
     simp only[this,e,if_neg hn,hl]
    ·cases h
  ·cases h
 ·cases h
theorem Co {hp hp2:Θ}{x:PV}{cs:Ψ}{ids:Ω}(h:aV hp x=some (cs,ids))(ha:Ag hp hp2 ids):aV hp2 x=some (cs,ids):=by
 unfold aV at *
 split at h
 ·rename_i id off
  split at h
  ·rename_i st cs' e
   split at h
   ·cases h
   ·rename_i hn
    simp only[OiE,PiE] at h
    obtain⟨rfl,rfl⟩:=h
    have:=ha id (by simp)
    simp only[this,e,if_neg hn]
  ·cases h
 ·exact h
 ·cases h
theorem mw {f g:PV→Option (PV × Ω)}{P:Ω→Prop}(hP:∀ a b,P (a++b)→P a∧P b)(hf:∀ c r ids,f c=some (r,ids)→P ids→g c=some (r,ids)):∀ {cs l:Ψ} {ids:Ω},bu f cs=some (l,ids)→P ids→bu g cs=some (l,ids)
 | [],l,ids,h,_=>by simpa [bu] using h
 | c::cs,l,ids,h,ha=>by
  simp only[bu] at h ⊢
  split at h
  ·rename_i c' i1 e1
   split at h
   ·rename_i l' i2 e2
    simp only[OiE,PiE] at h
    obtain⟨rfl,rfl⟩:=h
    obtain⟨p1,p2⟩:=hP _ _ ha
    rw[hf c c' i1 e1 p1,mw hP hf e2 p2]
   ·cases h
  ·cases h
theorem wa {hp hp2:Θ} : ∀ (d:Nat) {x r:PV} {ids:Ω},snap hp d x=some (r,ids)→Ag hp hp2 ids→snap hp2 d x=some (r,ids)
 | 0,_,_,_,h,_=>by simp[snap] at h
 | d+1,x,r,ids,h,ha=>by
  have hm:∀ {cs l:Ψ} {ids:Ω},bu (snap hp d) cs=some (l,ids)→Ag hp hp2 ids→bu (snap hp2 d) cs=some (l,ids) :=
   fun h1 h2=>mw (P:=Ag hp hp2) (fun _ _ h=>⟨h.left,h.right⟩) (fun c r ids h h'=>wa d h h') h1 h2
  unfold snap at h ⊢
  split at h
  ·rename_i id s off len x
   split at h
   ·rename_i st cs' e
    split at h
    ·cases h
    ·rename_i hn
     split at h
     ·rename_i l hl
      split at h
      ·rename_i l' i2 e2
       simp only[OiE,PiE] at h
       obtain⟨rfl,rfl⟩:=h
       have h1:=ha id (by simp)
       have h2:Ag hp hp2 i2:=fun i hi=>ha i (by simp[hi])
       simp only[h1,e,if_neg hn,hl,hm e2 h2]
      ·cases h
     ·cases h
   ·cases h
  ·split at h
   ·rename_i l' i2 e2
    simp only[OiE,PiE] at h
    obtain⟨rfl,rfl⟩:=h
    simp only[hm e2 ha]
   ·cases h
  ·cases h
  ·cases h
  ·simpa using h
  ·cases h
  ·cases h
  ·rename_i h1 h2 h3 h4 h5 h6 h7
   simpa using h
theorem cN {hp:Θ}{id:Nat}{b b0:Blk}(h:aX hp id=some b0)(i:Nat):aX (cF hp id b) i=if i=id then some b else aX hp i:=by
 rw[cY] at h
 simp only[cY,jh]
 rw[getElem?_set]
 by_cases hi:i=id
 ·subst hi;simp[cO h]
 ·simp[hi,Ne.symm hi]
theorem bQ (hp:Θ)(id:Nat)(b:Blk):(cF hp id b).length=hp.length:=by rw[jh];simp
theorem bP (hp:Θ)(cs:Ψ)(i:Nat):aX (bd hp cs) i=if i=hp.length then some ⟨.live,cs⟩ else aX hp i:=by
 simp only[cY,bd]
 rw[getElem?_append]
 split
 ·rename_i h;rw[if_neg (by omega)]
 ·rename_i h
  by_cases e:i=hp.length
  ·simp[e]
  ·rw[if_neg e,getElem?_eq_none (l:=hp) (by omega),getElem?_eq_none (by simp;omega)]
theorem O9 {a b:Θ}(h:∀ i,aX a i=aX b i):a=b:=by
 apply ext_getElem?
 intro i
 have:=h i
 rwa [cY,cY] at this
structure Loc (f:Θ→Option (PV × Θ × FP)):Prop where
 E:∀ hp v hp' F,f hp=some (v,hp',F)→(∀ i,i ∉ F.wr→aX hp' i=aX hp i)∧(F.all=false→F.al=false→hp'.length=hp.length)∧(F.all=false→F.wr=[]→F.al=false)
 D:∀ hp hp2 v hp' F,f hp=some (v,hp',F)→F.all=false→Ag hp hp2 F.rd→Ag hp hp2 F.wr→(F.al=true→hp2.length=hp.length) →
  ∃ hp2',f hp2=some (v,hp2',F)∧∀ i ∈ F.wr,aX hp2' i=aX hp' i
theorem Loc.no:Loc fun _=>(.none:Option (PV × Θ × FP)):=⟨(fun _ _ _ _ h=>nomatch h),(fun _ _ _ _ _ h=>nomatch h)⟩
theorem Loc.read {g:Θ→Option (PV × Ω)}(hg:∀ hp hp2 v ids,g hp=some (v,ids)→Ag hp hp2 ids→g hp2=some (v,ids)) :
  Loc fun hp=>match g hp with | some (v,ids)=>some (v,hp,⟨ids,[],false,false⟩) | .none=>.none:=by
 constructor
 ·intro hp v hp' F h
  try dsimp only at h
  split at h
  ·simp only[OiE,PiE] at h
   obtain⟨rfl,rfl,rfl⟩:=h
   exact⟨fun _ _=>rfl,fun _ _=>rfl,fun _ _=>rfl⟩
  ·cases h
 ·intro hp hp2 v hp' F h _ hr hw hl
  try dsimp only at h
  split at h
  ·rename_i v' ids e
   simp only[OiE,PiE] at h
   obtain⟨rfl,rfl,rfl⟩:=h
   exact⟨hp2,by simp only[hg hp hp2 _ _ e hr],by simp⟩
  ·cases h
theorem Loc.pure (v:PV):Loc fun hp=>some (v,hp,FzZ):=Loc.read (g:=fun _=>some (v,[])) fun _ _ _ _ h _=>h
theorem Loc.opt (v:Option PV):Loc fun hp=>match v with | some x=>some (x,hp,FzZ) | .none=>.none:=by
 cases v with
 | none=>exact Loc.no
 | some v=>exact Loc.pure v
theorem Loc.alloc (mk:Nat→PV)(cs:Ψ):Loc fun hp=>some (mk hp.length,bd hp cs,⟨[],[hp.length],true,false⟩):=by
 constructor
 ·intro hp v hp' F h
  simp only[OiE,PiE] at h
  obtain⟨rfl,rfl,rfl⟩:=h
  refine⟨fun i hi => ?_,fun _ h=>by simp at h,fun _ h=>by simp at h⟩
  rw[bP,if_neg (by simpa using hi)]
 ·intro hp hp2 v hp' F h _ hr hw hl
  simp only[OiE,PiE] at h
  obtain⟨rfl,rfl,rfl⟩:=h
  have:=hl rfl
  refine⟨bd hp2 cs,by simp[this],fun i hi => ?_⟩
  simp at hi
  rw[bP,bP,if_pos hi,if_pos (by omega)]
theorem om (s:Nat)(x:PV)(n:Nat)(new:Ψ):Loc fun hp=>cU hp s x n new:=by
 unfold cU
 split
 ·split
  ·exact Loc.pure _
  ·split
   ·exact Loc.alloc (fun k=>.own k s 0 n false) new
   ·exact Loc.no
 ·split
  ·exact Loc.pure _
  ·rename_i len cs _
   split
   ·exact Loc.alloc (fun k=>.own k s 0 (len+n) false) (cs++new)
   ·exact Loc.no
 ·rename_i id s' off len
  split
  ·exact Loc.no
  ·split
   ·exact Loc.pure _
   ·constructor
    ·intro hp v hp' F h
     try dsimp only at h
     repeat' split at h
     all_goals first | cases h;done | skip
     simp only[OiE,PiE] at h
     obtain⟨rfl,rfl,rfl⟩:=h
     refine⟨fun i hi => ?_,fun _ h=>by simp at h,fun _ h=>by simp at h⟩
     rw[bP,if_neg (by simpa using hi)]
    ·intro hp hp2 v hp' F h _ hr hw hl
     try dsimp only at h
     split at h
     ·rename_i st cs e
      split at h
      ·cases h
      ·rename_i hn
       split at h
       ·rename_i l hl'
        split at h
        ·rename_i hm
         simp only[OiE,PiE] at h
         obtain⟨rfl,rfl,rfl⟩:=h
         have h0:=hl rfl
         have h1:=hr id (by simp)
         refine⟨bd hp2 (l++new),by simp only[h1,e,if_neg hn,hl',if_pos hm,h0],fun i hi => ?_⟩
         simp at hi
         rw[bP,bP,if_pos hi,if_pos (by omega)]
        ·cases h
       ·cases h
     ·cases h
 ·rename_i id s' off len
  split
  ·exact Loc.no
  ·constructor
   ·intro hp v hp' F h
    try dsimp only at h
    split at h
    ·rename_i cs e
     split at h
     ·split at h
      ·simp only[OiE,PiE] at h
       obtain⟨rfl,rfl,rfl⟩:=h
       refine⟨fun i hi => ?_,fun _ h=>by simp at h,fun _ h=>by simp at h⟩
       simp at hi
       rw[bP,bQ,if_neg hi.2,cN e,if_neg hi.1]
      ·cases h
     ·cases h
    ·cases h
   ·intro hp hp2 v hp' F h _ hr hw hl
    try dsimp only at h
    split at h
    ·rename_i cs e
     split at h
     ·rename_i l hl'
      split at h
      ·rename_i hm
       simp only[OiE,PiE] at h
       obtain⟨rfl,rfl,rfl⟩:=h
       have h0:=hl rfl
       have h1:=hw id (by simp)
       refine⟨bd (cF hp2 id ⟨.dead,[]⟩) (l++new),by simp only[h1,e,hl',if_pos hm,h0],fun i hi => ?_⟩
       rw[bP,bP,bQ,bQ,cN e,cN (h1.trans e),h0]
       simp at hi
       rcases hi with hi | hi
       ·subst hi
        have:i≠hp.length:=by have:=cO ((cY _ _).symm.trans e);omega
        simp[this]
       ·simp[hi]
      ·cases h
     ·cases h
    ·cases h
 ·exact Loc.no
theorem xE {a n i:Nat} : i ∈ upto a n ↔ a≤i∧i<a+n:=by
 induction n generalizing a with
 | zero=>simp[upto]
 | succ n ih=>simp only[upto,mem_cons,ih];omega
theorem ji:∀ (ids:Ω) (hp:Θ) (i:Nat),aX (roB hp ids) i=if i ∈ ids then (aX hp i).map (fun b=>if b.st = .live then ⟨.ro,b.cs⟩ else b) else aX hp i
 | [],hp,i=>by simp[roB]
 | j::ids,hp,i=>by
  simp only[roB]
  split
  ·rename_i cs e
   rw[ji ids,cN e]
   by_cases hij:i=j
   ·subst hij;simp[e]
   ·simp[hij]
  ·rename_i hn
   rw[ji ids]
   by_cases hij:i=j
   ·subst hij
    cases hb:aX hp i with
    | none=>simp
    | some b =>
     obtain⟨st,cs⟩:=b
     cases st <;> simp_all
   ·simp[hij]
theorem eX:∀ (ids:Ω) (hp:Θ),(roB hp ids).length=hp.length
 | [],hp=>rfl
 | j::ids,hp=>by
  simp only[roB]
  split
  ·rw[eX ids,bQ]
  ·rw[eX ids]
theorem nJ (a b:Θ)(i:Nat):aX (a++b) i=if i<a.length then aX a i else aX b (i - a.length):=by
 simp only[cY,getElem?_append]
theorem Ao {a:Θ}{i:Nat}(h:a.length≤i):aX a i=none:=by rw[cY];exact getElem?_eq_none h
theorem nX (hp:Θ):∀ (rs:Ψ) (kept:Θ) (K F:Ω) (rs':Ψ) (kept':Θ),eK hp kept K F rs=some (rs',kept') →
  kept.length≤kept'.length∧(kept'.length=kept.length→∀ n,rs'.map (sx n)=rs')
 | [],kept,K,F,rs',kept',h=>by
  simp only[eK,OiE,PiE] at h
  obtain⟨rfl,rfl⟩:=h
  simp
 | r::rs,kept,K,F,rs',kept',h=>by
  have hsn:∀ {r':PV} {ids:Ω},snap hp bn r=some (r',ids)→∀ n,sx n r'=r':=fun {r' _} e n=>by
   have:=nc hp _ e
   cases r' <;> first | rfl | simp[PV.cG] at this
  have hrest:∀ {r':PV} {ids:Ω},(match snap hp bn r with
    | some (r',ids) =>
     if ids.any K.contains then none
     else match eK hp kept K (ids++F) rs with
      | some (rs',k)=>some (r'::rs',k)
      | none=>none
    | none=>none)=some (rs',kept')→kept.length≤kept'.length∧(kept'.length=kept.length→∀ n,rs'.map (sx n)=rs'):=fun {_ _} h=>by
   split at h
   ·rename_i r' ids e
    split at h
    ·cases h
    ·split at h
     ·rename_i rs1 k1 e1
      simp only[OiE,PiE] at h
      obtain⟨rfl,rfl⟩:=h
      obtain⟨h1,h2⟩:=nX hp rs _ _ _ _ _ e1
      exact⟨h1,fun hl n=>by rw[map_cons,h2 hl n,hsn e n]⟩
     ·cases h
   ·cases h
  unfold eK at h
  split at h
  ·split at h
   ·split at h
    ·split at h
     ·cases h
     ·split at h
      ·rename_i rs1 k1 e1
       simp only[OiE,PiE] at h
       obtain⟨rfl,rfl⟩:=h
       obtain⟨h1,h2⟩:=nX hp rs _ _ _ _ _ e1
       simp at h1
       exact⟨by omega,fun hl=>by omega⟩
      ·cases h
    ·cases h
   ·exact hrest (r':=.any) (ids:=[]) h
  ·exact hrest (r':=.any) (ids:=[]) h
theorem Ps {C:Cfg}{run:av}(hE:fQ run)(dr:Bool)(g:FuncId)(args:Ψ):Loc fun hp=>bS C run dr hp g args:=by
 unfold bS
 split
 ·constructor
  ·intro hp v hp' F h
   try dsimp only at h
   split at h
   ·rename_i rs hp1 w e
    obtain⟨e1,e2⟩:=hE _ _ _ _ _ _ e
    cases hb:(bT rs && gW hp1 hp.length (lC hp.length w)) with
    | true =>
     simp only[hb,cond_true,OiE,PiE] at h
     obtain⟨rfl,rfl,rfl⟩:=h
     refine⟨fun i hi => ?_,fun h=>by simp at h,fun h=>by simp at h⟩
     rw[qv,cY,cY,getElem?_take]
     split
     ·rename_i hlt
      exact e2 i hlt fun hm=>hi (qW.2 ⟨hm,hlt⟩)
     ·rw[getElem?_eq_none (by omega)]
    | false =>
     simp only[hb,cond_false,OiE,PiE] at h
     obtain⟨rfl,rfl,rfl⟩:=h
     refine⟨fun i hi => ?_,fun h=>by simp at h,fun h=>by simp at h⟩
     simp only[mem_append,qW,xE,not_or] at hi
     rw[cY,cY]
     rcases Nat.lt_or_ge i hp.length with hlt | hge
     ·exact e2 i hlt fun hm=>hi.1 ⟨hm,hlt⟩
     ·rw[getElem?_eq_none (l:=hp) hge,getElem?_eq_none (by omega)]
   ·cases h
  ·intro hp hp2 v hp' F h hall
   try dsimp only at h
   split at h
   ·rename_i rs hp1 w e
    cases hb:(bT rs && gW hp1 hp.length (lC hp.length w)) with
    | true=>simp only[hb,cond_true,OiE,PiE] at h;rw[← h.2.2] at hall;simp at hall
    | false=>simp only[hb,cond_false,OiE,PiE] at h;rw[← h.2.2] at hall;simp at hall
   ·cases h
 ·have hsn:∀ {hp hp2:Θ} {l:Ψ} {ids:Ω},bu (snap hp bn) args=some (l,ids)→Ag hp hp2 ids→bu (snap hp2 bn) args=some (l,ids) :=
   fun {hp hp2} _ _ h1 h2=>mw (P:=Ag hp hp2) (fun _ _ h=>⟨h.left,h.right⟩) (fun c r ids h h'=>wa _ h h') h1 h2
  constructor
  ·intro hp v hp' F h
   try dsimp only at h
   split at h
   ·cases h
   ·rename_i args' ids e
    split at h
    ·rename_i rs er
     cases hb:rs.all eg with
     | true =>
      simp only[hb,cond_true,OiE,PiE] at h
      obtain⟨rfl,rfl,rfl⟩:=h
      exact⟨fun _ _=>rfl,fun _ _=>rfl,fun _ _=>rfl⟩
     | false =>
      simp only[hb,cond_false,OiE,PiE] at h
      obtain⟨rfl,rfl,rfl⟩:=h
      exact⟨fun i hi=>by rw[ji,if_neg hi],fun _ _=>eX _ _,fun _ _=>rfl⟩
    ·split at h
     ·cases h
     ·split at h
      ·cases h
      ·rename_i rs' kept ek
       cases hb:rs'.all eg with
       | true =>
        simp only[hb,cond_true,OiE,PiE] at h
        obtain⟨rfl,rfl,rfl⟩:=h
        exact⟨fun _ _=>rfl,fun _ _=>rfl,fun _ _=>rfl⟩
       | false =>
        simp only[hb,cond_false,OiE,PiE] at h
        obtain⟨rfl,rfl,rfl⟩:=h
        refine⟨fun i hi => ?_,fun _ h => ?_,fun _ h => ?_⟩
        ·simp only[mem_append,xE,not_or] at hi
         rw[nJ,eX]
         split
         ·rw[ji,if_neg hi.1]
         ·rw[Ao (by omega),Ao (by omega)]
        ·simp at h;simp[h,eX]
        ·cases kept with
         | nil=>rfl
         | cons=>simp[upto] at h
  ·intro hp hp2 v hp' F h _ hr hw hl
   try dsimp only at h
   split at h
   ·cases h
   ·rename_i args' ids e
    split at h
    ·rename_i rs er
     cases hb:rs.all eg with
     | true =>
      simp only[hb,cond_true,OiE,PiE] at h
      obtain⟨rfl,rfl,rfl⟩:=h
      exact⟨hp2,by simp only[hsn e hr,er,hb,cond_true],by simp⟩
     | false =>
      simp only[hb,cond_false,OiE,PiE] at h
      obtain⟨rfl,rfl,rfl⟩:=h
      refine⟨roB hp2 ids,by simp only[hsn e hr,er,hb,cond_false],fun i hi => ?_⟩
      rw[ji,ji,hr i hi]
    ·rename_i er
     split at h
     ·cases h
     ·rename_i e2
      split at h
      ·cases h
      ·rename_i rs' kept ek
       cases hb:rs'.all eg with
       | true =>
        simp only[hb,cond_true,OiE,PiE] at h
        obtain⟨rfl,rfl,rfl⟩:=h
        exact⟨hp2,by simp only[hsn e hr,er,e2,ek,hb,cond_true],by simp⟩
       | false =>
        simp only[hb,cond_false,OiE,PiE] at h
        obtain⟨rfl,rfl,rfl⟩:=h
        have hlen:(!kept.isEmpty)=true→hp2.length=hp.length:=hl
        obtain⟨_,hsh⟩:=nX _ _ _ _ _ _ _ ek
        cases hk:kept with
        | nil =>
         subst hk
         have s1:=hsh rfl
         refine⟨roB hp2 ids++[],by simp only[hsn e hr,er,e2,ek,hb,cond_false,s1];rfl,fun i hi => ?_⟩
         simp only[length_nil,upto,append_nil] at hi ⊢
         rw[ji,ji,hr i hi]
        | cons b bs =>
         subst hk
         have h0:=hlen rfl
         refine⟨roB hp2 ids++(b::bs),by simp only[hsn e hr,er,e2,ek,hb,cond_false,h0],fun i hi => ?_⟩
         rw[nJ,nJ,eX,eX,h0,ji,ji]
         split
         ·rename_i hlt
          split
          ·rename_i hm;rw[hr i hm]
          ·rename_i hm
           simp only[mem_append,xE] at hi
           exact absurd hi (by intro hi;rcases hi with hi | hi;exact hm hi;omega)
         ·rfl
theorem FC {T:Tab}{hp hp2:Θ}{src dst:TypeId}{a v:PV}{ids:Ω}(h:dF T hp src dst a=some (v,ids))(ha:Ag hp hp2 ids):dF T hp2 src dst a=some (v,ids):=by
 unfold dF at *
 split at h
 ·exact h
 ·exact h
 ·exact h
 ·split at h
  ·rename_i e1
   split at h
   ·rename_i n cs ids' e2
    split at h
    ·rename_i l e3
     simp only[OiE,PiE] at h
     obtain⟨rfl,rfl⟩:=h
     simp only[wI e2 ha,e3]
    ·cases h
   ·cases h
  ·cases h
 ·cases h
theorem Loc.BU {f:Θ→Option (PV × Θ × FP)}(h:∀ hp v hp' F,f hp=some (v,hp',F)→hp'=hp∧F.wr=[]∧F.al=false∧∀ hp2,Ag hp hp2 F.rd→f hp2=some (v,hp2,F)):Loc f:=by
 constructor
 ·intro hp v hp' F e
  obtain⟨rfl,h1,h2,h3⟩:=h _ _ _ _ e
  exact⟨fun _ _=>rfl,fun _ _=>rfl,fun _ _=>h2⟩
 ·intro hp hp2 v hp' F e _ hr hw hl
  obtain⟨rfl,h1,h2,h3⟩:=h _ _ _ _ e
  exact⟨hp2,h3 hp2 hr,by simp[h1]⟩
theorem Loc.Eu {f:Θ→Option (PV × Θ × FP)}(h:∀ hp v hp' F,f hp=some (v,hp',F)→∃ id b b0,hp'=cF hp id b∧aX hp id=some b0∧F.wr=[id]∧F.al=false ∧
  ∀ hp2,Ag hp hp2 F.rd→aX hp2 id=aX hp id→f hp2=some (v,cF hp2 id b,F)):Loc f:=by
 constructor
 ·intro hp v hp' F e
  obtain⟨id,b,b0,rfl,h1,h2,h3,h4⟩:=h _ _ _ _ e
  exact⟨fun i hi=>by rw[cN h1,if_neg (by rw[h2] at hi;simpa using hi)],fun _ _=>bQ _ _ _,fun _ _=>h3⟩
 ·intro hp hp2 v hp' F e _ hr hw hl
  obtain⟨id,b,b0,rfl,h1,h2,h3,h4⟩:=h _ _ _ _ e
  have e1:aX hp2 id=aX hp id:=hw id (by simp[h2])
  refine⟨_,h4 hp2 hr e1,fun i hi => ?_⟩
  rw[h2] at hi
  simp at hi
  rw[cN h1,cN (e1.trans h1),if_pos hi,if_pos hi]
theorem GU (T:Tab)(t:TypeId)(x:PV)(lo hi mx:Option PV):Loc fun hp=>match dH T hp t x lo hi mx with
  | some r=>some (r,hp,match x with | .ptr id _=>⟨[id],[],false,false⟩| _=>FzZ)
  | none=>none:=by
 refine Loc.BU fun hp v hp' F h => ?_
 split at h
 ·rename_i r e
  simp only[OiE,PiE] at h
  obtain⟨rfl,rfl,rfl⟩:=h
  refine⟨rfl,by split <;> rfl,by split <;> rfl,fun hp2 ha => ?_⟩
  have:dH T hp2 t x lo hi mx=dH T hp t x lo hi mx:=by
   unfold dH
   split
   ·rfl
   ·rfl
   ·unfold qA
    split
    ·split
     ·rename_i id off
      rw[ha id (by simp)]
     ·rfl
     ·rfl
    ·rfl
   ·rfl
  rw[this,e]
 ·cases h
theorem Mx (P:Program)(T:Tab)(fr:Ψ)(o:Op):Loc fun hp=>an P T fr hp o:=by
 unfold an
 cases o with
 | move x=>exact Loc.pure _
 | assign x=>exact Loc.pure _
 | pick c a b =>
  dsimp only
  split
  ·exact Loc.pure _
  ·exact Loc.pure _
  ·exact Loc.no
 | alloc e =>
  dsimp only
  split
  ·exact Loc.alloc (fun k=>.ptr k 0) _
  ·exact Loc.no
 | box t x =>
  dsimp only
  split
  ·exact Loc.alloc (fun k=>.ptr k 0) _
  ·exact Loc.no
 | build t ps=>exact Loc.opt _
 | buildSlice t n ps =>
  dsimp only
  split
  ·rename_i s cs _
   split
   ·exact Loc.pure _
   ·exact Loc.alloc (fun k=>.own k s 0 n true) _
  ·exact Loc.no
 | load t a =>
  dsimp only
  refine Loc.BU fun hp v hp' F h => ?_
  split at h
  ·rename_i cs ids e
   split at h
   ·rename_i x ex
    simp only[OiE,PiE] at h
    obtain⟨rfl,rfl,rfl⟩:=h
    exact⟨rfl,rfl,rfl,fun hp2 ha=>by rw[Co e ha];simp only[ex]⟩
   ·cases h
  ·cases h
 | store t a x =>
  dsimp only
  refine Loc.Eu fun hp v hp' F h => ?_
  split at h
  ·rename_i id off cs n e1 e2 e3
   split at h
   ·rename_i hc
    split at h
    ·rename_i old e4
     split at h
     ·rename_i l e5
      simp only[OiE,PiE] at h
      obtain⟨rfl,rfl,rfl⟩:=h
      exact⟨id,_,_,rfl,e4,rfl,rfl,fun hp2 ha hb=>by simp only[if_pos hc,hb,e4,e5]⟩
     ·cases h
    ·cases h
   ·cases h
  ·cases h
 | nilCheck x =>
  dsimp only
  split
  ·exact Loc.pure _
  ·exact Loc.pure _
  ·exact Loc.pure _
  ·exact Loc.pure _
  ·exact Loc.pure _
  ·exact Loc.no
 | binOp op t x y ty=>exact Loc.opt _
 | unOp op t x=>exact Loc.opt _
 | convert src dst x =>
  dsimp only
  refine Loc.BU fun hp v hp' F h => ?_
  split at h
  ·rename_i r ids e
   simp only[OiE,PiE] at h
   obtain⟨rfl,rfl,rfl⟩:=h
   exact⟨rfl,rfl,rfl,fun hp2 ha=>by rw[FC e ha]⟩
  ·cases h
 | makeFunc f first captured =>
  cases f with
  | func f =>
   dsimp only
   split
   ·exact Loc.pure _
   ·split
    ·exact Loc.pure _
    ·exact Loc.no
  | _=>exact Loc.no
 | makeSlice t l c =>
  dsimp only
  split
  ·split
   ·split
    ·rename_i s _ _ _ _ _
     exact Loc.alloc (fun k=>.own k _ 0 _ _) _
    ·exact Loc.no
   ·exact Loc.no
  ·exact Loc.no
 | slice t x lo hi mx=>exact GU T t _ _ _ _
 | fieldAddr t x i=>exact Loc.opt _
 | field t x i=>exact Loc.opt _
 | indexAddr t x i=>exact Loc.opt _
 | index t x i=>exact Loc.opt _
 | extract x i =>
  dsimp only
  split
  ·split
   ·exact Loc.pure _
   ·exact Loc.no
  ·exact Loc.no
 | call c =>
  obtain⟨callee,args,argTypes⟩:=c
  cases callee with
  | builtin b =>
   dsimp only
   split
   ·split
    ·exact Loc.pure _
    ·exact Loc.no
   ·exact Loc.opt _
   ·exact Loc.opt _
   ·rename_i x y t t' _ _
    split
    ·rename_i e e' _ _
     split
     ·rename_i s by_ zs _ _ _
      split
      ·rename_i hc
       constructor
       ·intro hp v hp' F h
        try dsimp only at h
        split at h
        ·rename_i n new ids e1
         split at h
         ·split at h
          ·rename_i r hp1 fp e2
           simp only[OiE,PiE] at h
           obtain⟨rfl,rfl,rfl⟩:=h
           have h2:=(om s x n new).E _ _ _ _ e2
           have hall:fp.all=false:=by
            revert e2
            unfold cU
            repeat' split
            all_goals (intro h;first | cases h;done | (simp only[OiE,PiE] at h;rw[← h.2.2];try rfl))
           exact⟨h2.1,fun _=>h2.2.1 hall,fun _=>h2.2.2 hall⟩
          ·cases h
         ·cases h
        ·cases h
       ·intro hp hp2 v hp' F h _ hr hw hl
        try dsimp only at h
        split at h
        ·rename_i n new ids e1
         split at h
         ·rename_i hok
          split at h
          ·rename_i r hp1 fp e2
           simp only[OiE,PiE] at h
           obtain⟨rfl,rfl,rfl⟩:=h
           have hall:fp.all=false:=by
            revert e2
            unfold cU
            repeat' split
            all_goals (intro h;first | cases h;done | (simp only[OiE,PiE] at h;rw[← h.2.2];try rfl))
           obtain⟨hp2',h3,h4⟩:=(om s x n new).D _ hp2 _ _ _ e2 hall hr.right hw hl
           try dsimp only at h3
           refine⟨hp2',?_,h4⟩
           try dsimp only
           rw[wI e1 hr.left]
           simp only[if_pos hok,h3]
          ·cases h
         ·cases h
        ·cases h
      ·exact Loc.no
     ·exact Loc.no
    ·split
     ·split
      ·have:=om 1 x
       refine⟨fun hp v hp' F h => ?_,fun hp hp2 v hp' F h ha hr hw hl => ?_⟩
       ·try dsimp only at h
        split at h
        ·rename_i e
         simp only[OiE,PiE] at h
         obtain⟨rfl,rfl,rfl⟩:=h
         exact (this _ _).E _ _ _ _ e
        ·cases h
       ·try dsimp only at h
        split at h
        ·rename_i e
         simp only[OiE,PiE] at h
         obtain⟨rfl,rfl,rfl⟩:=h
         obtain⟨hp2',h3,h4⟩:=(this _ _).D _ hp2 _ _ _ e ha hr hw hl
         try dsimp only at h3
         exact⟨hp2',by simp only[h3],h4⟩
        ·cases h
      ·exact Loc.no
     ·exact Loc.no
    ·exact Loc.no
   ·rename_i x t _ _
    split
    ·split
     ·split
      ·refine Loc.Eu fun hp v hp' F h => ?_
       split at h
       ·rename_i old e2
        split at h
        ·rename_i l e4
         simp only[OiE,PiE] at h
         obtain⟨rfl,rfl,rfl⟩:=h
         exact⟨_,_,_,rfl,e2,rfl,rfl,fun hp2 ha hb=>by simp only[hb,e2,e4]⟩
        ·cases h
       ·cases h
      ·exact Loc.no
     ·exact Loc.no
    ·exact Loc.no
   ·exact Loc.no
  | value f=>exact Loc.no
  | invoke r m=>exact Loc.no
 | _=>exact Loc.no
theorem vU {C:Cfg}{run:av}(hE:fQ run)(dr:Bool)(ops:Array Oper)(o:Oper)(fr:Ψ):Loc fun hp=>aF C run dr ops o fr hp:=by
 unfold aF
 split
 ·exact Loc.no
 ·exact Loc.pure _
 ·split
  ·split
   ·exact Ps hE dr _ _
   ·exact Loc.no
  ·exact Mx _ _ _ _
theorem C2 {P:Program}{T:Tab}{fr fr2:Ψ}{hp:Θ}{o:Op}(h:∀ x ∈ o.operands,aj fr2 x=aj fr x):an P T fr2 hp o=an P T fr hp o:=by
 have pairs:∀ ps:Array (Nat × Operand),(∀ x ∈ ps.map (·.2),aj fr2 x=aj fr x)→(ps.toList.map fun (i,x)=>(i,aj fr2 x))=(ps.toList.map fun (i,x)=>(i,aj fr x)):=fun ps hp =>
  map_congr_left fun p hm=>by
   obtain⟨i,x⟩:=p
   simp only[hp x (Array.mem_map.2 ⟨(i,x),by simpa using hm,rfl⟩)]
 cases o <;> simp only[Op.operands] at h <;> unfold an
 case build t ps=>simp only[pairs ps fun x hx=>h x (by simpa using hx)]
 case buildSlice t n ps=>simp only[pairs ps fun x hx=>h x (by simpa using hx)]
 case makeFunc fn first captured =>
  have:captured.toList.map (aj fr2)=captured.toList.map (aj fr):=map_congr_left fun x hx=>h x (by simp at hx;simp[hx])
  have t2:first.toList.map (aj fr2)=first.toList.map (aj fr):=map_congr_left fun x hx=>h x (by simp at hx;simp[hx])
  cases fn <;> simp only[this,t2]
 case makeMap t r=>cases r <;> rfl
 case slice t x lo hi mx=>cases lo <;> cases hi <;> cases mx <;> simp_all
 case call c =>
  obtain⟨callee,args,argTypes⟩:=c
  have:args.toList.map (aj fr2)=args.toList.map (aj fr):=map_congr_left fun x hx=>h x (by simp at hx;simp[Call.operands,hx])
  cases callee <;> simp only[this]
 all_goals (first | rfl | (simp_all;done))
theorem y5 {fr fr2:Ψ}{c:Call}(h:∀ x ∈ c.operands,aj fr2 x=aj fr x):aM fr2 c=aM fr c:=by
 have hargs:c.args.toList.map (aj fr2)=c.args.toList.map (aj fr):=map_congr_left fun x hx=>h x (by simp at hx;simp[Call.operands,hx])
 unfold aM
 simp only[hargs]
 cases hc:c.callee with
 | value f=>simp only[h f (by simp[Call.operands,hc])]
 | invoke r m=>rfl
 | builtin b=>rfl
theorem j9 {fr:Ψ}{d t:Nat}{v:PV}(h:t≠d):nth (eS fr d v) t=nth fr t:=by
 rw[sX,sX,jK,getElem?_set_ne (Ne.symm h)]
theorem EA {fr:Ψ}{dst:Option Tmp}{v:PV}{t:Nat}(h:dst≠some t):nth (aC fr dst v) t=nth fr t:=by
 unfold aC
 cases dst with
 | none=>rfl
 | some d=>exact j9 (fun e=>h (by rw[e]))
theorem CT {C:Cfg}{run:av}{dr:Bool}{ops:Array Oper}{o:Oper}{fr:Ψ}{hp:Θ}{dst:Option Tmp}{v:PV}(h:∀ d,dst=some d→d ∉ o.looksAt ops) :
  aF C run dr ops o (aC fr dst v) hp=aF C run dr ops o fr hp:=by
 have hop:∀ x ∈ o.op.operands,aj (aC fr dst v) x=aj fr x:=fun x hx=>by
  cases x with
  | tmp t =>
   exact EA fun e=>h t e (mem_append_left _ (mem_filterMap.2 ⟨.tmp t,by simpa using hx,rfl⟩))
  | const _=>rfl
  | global _=>rfl
  | func _=>rfl
 have hw:ag ops (aC fr dst v) o=ag ops fr o:=by
  unfold ag
  cases hg:o.guard with
  | none=>rfl
  | some g =>
   obtain⟨j,want⟩:=g
   dsimp only
   cases hd:(ops[j]?).bind (·.dst) with
   | none=>rfl
   | some d =>
    dsimp only
    rw[EA (fun e=>h d e (mem_append_right _ (by simp[hg,hd])))]
 unfold aF
 rw[hw]
 split
 ·rfl
 ·rfl
 ·split
  ·rename_i c hc
   have:o.op = .call c:=by
    unfold ah at hc
    split at hc
    ·rename_i c' e
     split at hc
     ·simp at hc;subst hc;exact e
     ·cases hc
    ·cases hc
   rw[y5 fun x hx=>hop x (by rw[this];exact hx)]
  ·exact C2 hop
end Go.Ab
