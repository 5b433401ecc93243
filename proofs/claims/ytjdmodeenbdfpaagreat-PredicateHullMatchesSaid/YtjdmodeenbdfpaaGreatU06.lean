/- An abstract interpreter over the model's code and its soundness, part 6; each lemma states its conditions. -/
import Derived.Test.YtjdmodeenbdfpaaGreatU05
set_option linter.unusedSimpArgs false
set_option linter.unusedVariables false
namespace Go.Ab
open Go List
structure ov (w:World) (M:Nat→Prop) (σ:List Addr) (L:Nat→Prop) (fr:Ψ) (tmps:Array Value):Prop where
 len:fr.length=tmps.size
 get:∀ (t:Nat) p v,fr[t]?=some p→tmps[t]?=some v→V w M σ L p v
section
variable {P:Program} {T:Tab} (hT:gh P T) {w:World} {H:Nat→Prop} {hp:Θ} {σ:List Addr}
theorem ov.step {w w':World}{H:Nat→Prop}{σ σ':List Addr}{hp hp':Θ}(h:Step w (cS σ hp) σ (aQ hp) w' (cS σ' hp') σ' (aQ hp')){fr:Ψ}{tmps:Array Value}(hf:ov w (hot H σ hp) σ (aQ hp) fr tmps):ov w' (hot H σ' hp') σ' (aQ hp') fr tmps :=
 ⟨hf.len,fun t p v h1 h2=>(hf.get t p v h1 h2).step h⟩
theorem ov.nth {M:Nat→Prop}{L:Nat→Prop}{fr:Ψ}{tmps:Array Value}(hf:ov w M σ L fr tmps)(t:Nat):V w M σ L (nth fr t) (tmps.getD t undef):=by
 rw[sX]
 rcases Nat.lt_or_ge t fr.length with h | h
 ·have h2:t<tmps.size:=by rw[← hf.len];exact h
  rw[getElem?_eq_getElem h]
  have:=hf.get t fr[t] tmps[t] (getElem?_eq_getElem h) (Array.getElem?_eq_getElem h2)
  simpa [h2] using this
 ·rw[getElem?_eq_none h];exact .any _
theorem ov.eval {M:Nat→Prop}{L:Nat→Prop}{fr:Ψ}{a:Act}(hf:ov w M σ L fr a.tmps)(x:Operand):V w M σ L (aj fr x) (a.eval x):=by
 cases x with
 | tmp t=>exact hf.nth t
 | const v=>exact xz v
 | global g=>exact .any _
 | func f=>exact .sc _
theorem ov.put {M:Nat→Prop}{L:Nat→Prop}{fr:Ψ}{a:Act}(hf:ov w M σ L fr a.tmps)(dst:Option Tmp){p:PV}{v:Value}(hv:V w M σ L p v):ov w M σ L (aC fr dst p) (a.put dst v).tmps:=by
 cases dst with
 | none=>exact hf
 | some d =>
  refine⟨by simp[aC,jK,Act.put,hf.len],fun t q u h1 h2 => ?_⟩
  simp only[aC,jK] at h1
  simp only[Act.put] at h2
  by_cases e:d=t
  ·subst e
   have hlt:d<fr.length:=by have:=cO h1;simpa using this
   rw[getElem?_set_self hlt] at h1
   have hlt2:d<a.tmps.size:=by rw[← hf.len];exact hlt
   simp[hlt2] at h2
   cases h1;subst h2;exact hv
  ·rw[getElem?_set_ne e] at h1
   rw[Array.getElem?_setIfInBounds_ne e] at h2
   exact hf.get t q u h1 h2
theorem xp {M:Nat→Prop}{L:Nat→Prop}{fr:Ψ}{a:Act}(hf:ov w M σ L fr a.tmps):∀ l:List (Nat × Operand),F6 w M σ L (l.map fun (i,x)=>(i,aj fr x)) (l.map fun (i,x)=>(i,a.eval x))
 | []=>trivial
 | (i,x)::l=>⟨rfl,hf.eval x,xp hf l⟩
theorem Ub {M:Nat→Prop}{L:Nat→Prop}{fr:Ψ}{a:Act}(hf:ov w M σ L fr a.tmps)(o:Option Operand):OV w M σ L (o.map (aj fr)) (o.map a.eval):=by
 cases o with
 | none=>trivial
 | some x=>exact hf.eval x
theorem V.FD {M:Nat→Prop}{L:Nat→Prop}{f:FuncId}{cs:Ψ}{v:Value}(h:V w M σ L (.clos f cs) v):∃ vs:Array Value,v = .func (.func f) #[] vs∧Rel w M σ L cs vs:=by
 cases h with | clos _ _ vs h1 h2=>exact⟨vs,rfl,h1,h2⟩
theorem V.FY {M:Nat→Prop}{L:Nat→Prop}{f:FuncId}{cs:Ψ}{v:Value}(h:V w M σ L (.bmet f cs) v):∃ vs:Array Value,v = .func (.func f) vs #[]∧Rel w M σ L cs vs:=by
 cases h with | bmet _ _ vs h1 h2=>exact⟨vs,rfl,h1,h2⟩
theorem V.YM {M:Nat→Prop}{L:Nat→Prop}{cs:Ψ}{v:Value}(h:V w M σ L (.tup cs) v):∃ vs:Array Value,v = .tuple vs∧Rel w M σ L cs vs:=by
 cases h with | tup _ vs h1 h2=>exact⟨vs,rfl,h1,h2⟩
theorem aiG {α β:Type}{f:α→β}{l:Array α}{x:β}(h:l.toList.map f=[x]):∃ y,l=#[y]∧f y=x:=by
 obtain⟨l⟩:=l
 match l,h with
 | [y],h=>simp at h;exact⟨y,rfl,h⟩
theorem aj4 {α β:Type}{f:α→β}{l:Array α}{x y:β}(h:l.toList.map f=[x,y]):∃ u v,l=#[u,v]∧f u=x∧f v=y:=by
 obtain⟨l⟩:=l
 match l,h with
 | [u,v],h=>simp at h;exact⟨u,v,rfl,h.1,h.2⟩
theorem ajw {α:Type}{l:Array α}{x:α}(h:l.toList=[x]):l=#[x]:=by
 obtain⟨l⟩:=l;simp at h;rw[h]
theorem akr {α:Type}{l:Array α}{x y:α}(h:l.toList=[x,y]):l=#[x,y]:=by
 obtain⟨l⟩:=l;simp at h;rw[h]
theorem fc.of {s:Sem Value}{r:PV}{hp':Θ}{v:Value}{w':World}{σ':List Addr}(h:s.run P w = .ok v w')(hv:V w' (hot H σ' hp') σ' (aQ hp') r v)(S:Sim w' H σ' hp')
  (st:Step w (cS σ hp) σ (aQ hp) w' (cS σ' hp') σ' (aQ hp')):fc P (do pure (.value (← s))) w H σ hp r hp' :=
 ⟨.value v,v,w',σ',by simp[h],.inl rfl,hv,S,st⟩
theorem fc.of0 {s:Sem Value}{r:PV}{v:Value}(S:Sim w H σ hp)(h:s.run P w = .ok v w)(hv:V w (hot H σ hp) σ (aQ hp) r v):fc P (do pure (.value (← s))) w H σ hp r hp :=
 fc.of h hv S (Step.refl _ _ _ _)
include hT in
theorem Q7 (S:Sim w H σ hp){fr:Ψ}{a:Act}(hf:ov w (hot H σ hp) σ (aQ hp) fr a.tmps){o:Oper}{r:PV}{hp':Θ}{fp:FP}(h:an P T fr hp o.op=some (r,hp',fp)) :
  fc P (execOp a.eval o) w H σ hp r hp':=by
 obtain⟨dst,op,type,pos,after,guard⟩:=o
 cases op with
 | move x =>
  simp only[an,OiE,PiE] at h
  obtain⟨rfl,rfl,rfl⟩:=h
  exact fc.same S rfl (hf.eval x)
 | assign x =>
  simp only[an,OiE,PiE] at h
  obtain⟨rfl,rfl,rfl⟩:=h
  exact fc.same S rfl (hf.eval x)
 | pick c x y =>
  simp only[an] at h
  have hc:=hf.eval c
  split at h
  ·rename_i e
   rw[e] at hc
   simp only[OiE,PiE] at h
   obtain⟨rfl,rfl,rfl⟩:=h
   exact fc.same S (by simp[execOp,hc.kR,asBool]) (hf.eval x)
  ·rename_i e
   rw[e] at hc
   simp only[OiE,PiE] at h
   obtain⟨rfl,rfl,rfl⟩:=h
   exact fc.same S (by simp[execOp,hc.kR,asBool]) (hf.eval y)
  ·cases h
 | alloc e =>
  simp only[an] at h
  split at h
  ·rename_i zs hz
   simp only[OiE,PiE] at h
   obtain⟨rfl,rfl,rfl⟩:=h
   obtain⟨v,w',σ',h1,h2,h3,h4⟩:=XL hT S hz
   exact fc.of h1 h2 h3 h4
  ·cases h
 | box e x =>
  simp only[an] at h
  split at h
  ·rename_i cs hc
   simp only[OiE,PiE] at h
   obtain⟨rfl,rfl,rfl⟩:=h
   obtain⟨v,w',σ',h1,h2,h3,h4⟩:=agH (P:=P) (e:=e) S hc (hf.eval x)
   exact fc.of h1 h2 h3 h4
  ·cases h
 | build t parts =>
  simp only[an] at h
  split at h
  ·rename_i x hb
   simp only[OiE,PiE] at h
   obtain⟨rfl,rfl,rfl⟩:=h
   obtain⟨v,h1,h2⟩:=XC (vparts:=parts.map fun (i,x)=>(i,a.eval x)) hT hb (by simpa using xp hf parts.toList)
   exact fc.of0 S h1 h2
  ·cases h
 | buildSlice t len parts =>
  simp only[an] at h
  split at h
  ·rename_i s cs hb
   obtain⟨e,arr,hu,hs,h1,h2,h3⟩:=afS (w:=w) (M:=hot H σ hp) (σ:=σ) (L:=aQ hp) (vparts:=parts.map fun (i,x)=>(i,a.eval x)) hT hb (by simpa using xp hf parts.toList)
   split at h
   ·rename_i hid
    simp only[OiE,PiE] at h
    obtain⟨rfl,rfl,rfl⟩:=h
    obtain⟨g1,g2⟩:=oC S (.cells arr e)
    exact fc.of h1 (AG S (Nat.le_of_eq h2.1) h2.2 hid len len true (Nat.le_refl _) (fun _=>rfl)) g1 g2
   ·simp only[OiE,PiE] at h
    obtain⟨rfl,rfl,rfl⟩:=h
    obtain⟨g1,g2,g3⟩:=BV (e:=e) S (Nat.le_of_eq h2.1) h2.2 s len len true (Nat.le_refl _) (fun _=>rfl) (by rw[← h2.1,h3];exact Nat.le_refl _)
    exact fc.of h1 g3 g1 g2
  ·cases h
 | load t x =>
  simp only[an] at h
  split at h
  ·rename_i cs ids hc
   split at h
   ·rename_i y hx
    simp only[OiE,PiE] at h
    obtain⟨rfl,rfl,rfl⟩:=h
    obtain⟨u,h1,h2⟩:=abV (P:=P) hT S hc hx (hf.eval x)
    exact fc.of0 S h1 h2
   ·cases h
  ·cases h
 | store t x y =>
  simp only[an] at h
  have hx:=hf.eval x
  split at h
  ·rename_i id off cs n e1 e2 e3
   split at h
   ·rename_i hc
    split at h
    ·rename_i old hid
     split at h
     ·rename_i l hl
      simp only[OiE,PiE] at h
      obtain⟨rfl,rfl,rfl⟩:=h
      rw[e1] at hx
      rw[cY] at hid
      obtain⟨w',h1,h2,h3⟩:=Q6 (P:=P) hT S hx (hf.eval y) e2 e3 hc.1 hc.2 hid hl
      rw[jh]
      exact⟨.skip,undef,w',σ,by simp[execOp,h1],.inr ⟨rfl,rfl⟩,.sc _,h2,h3⟩
     ·cases h
    ·cases h
   ·cases h
  ·cases h
 | nilCheck x =>
  simp only[an] at h
  have hx:=hf.eval x
  split at h
  ·rename_i e
   simp only[OiE,PiE] at h
   obtain⟨rfl,rfl,rfl⟩:=h
   rw[e] at hx
   obtain⟨b,_,hb⟩:=hx.vt
   exact fc.same S (v:=a.eval x) (by simp[execOp,hb]) hx
  ·rename_i e
   simp only[OiE,PiE] at h
   obtain⟨rfl,rfl,rfl⟩:=h
   rw[e] at hx
   obtain⟨b,hb⟩:=hx.xL
   exact fc.same S (v:=a.eval x) (by simp[execOp,hb]) hx
  ·rename_i e
   simp only[OiE,PiE] at h
   obtain⟨rfl,rfl,rfl⟩:=h
   rw[e] at hx
   obtain⟨vs,hb,_⟩:=hx.FD
   exact fc.same S (v:=a.eval x) (by simp[execOp,hb]) hx
  ·rename_i e
   simp only[OiE,PiE] at h
   obtain⟨rfl,rfl,rfl⟩:=h
   rw[e] at hx
   obtain⟨vs,hb,_⟩:=hx.FY
   exact fc.same S (v:=a.eval x) (by simp[execOp,hb]) hx
  ·rename_i e
   simp only[OiE,PiE] at h
   obtain⟨rfl,rfl,rfl⟩:=h
   rw[e] at hx
   have hb:=hx.kR
   exact fc.same S (v:=a.eval x) (by simp[execOp,hb]) hx
  ·cases h
 | binOp op t x y t' =>
  simp only[an] at h
  split at h
  ·rename_i z hb
   simp only[OiE,PiE] at h
   obtain⟨rfl,rfl,rfl⟩:=h
   obtain⟨v,h1,h2⟩:=adf hT hb (hf.eval x) (hf.eval y) x y
   exact fc.of0 S h1 h2
  ·cases h
 | unOp op t x =>
  simp only[an] at h
  split at h
  ·rename_i z hb
   simp only[OiE,PiE] at h
   obtain⟨rfl,rfl,rfl⟩:=h
   obtain⟨v,h1,h2⟩:=aek (P:=P) hb (hf.eval x)
   exact fc.of0 S h1 h2
  ·cases h
 | convert src dst' x =>
  simp only[an] at h
  split at h
  ·rename_i z ids hb
   simp only[OiE,PiE] at h
   obtain⟨rfl,rfl,rfl⟩:=h
   obtain⟨v,w',h1,h2,h3,h4⟩:=WM (P:=P) hT S hb (hf.eval x)
   exact fc.of h1 h2 h3 h4
  ·cases h
 | makeFunc fn first captured =>
  cases fn with
  | func f =>
   simp only[an] at h
   split at h
   ·rename_i h0
    simp only[OiE,PiE] at h
    obtain⟨rfl,rfl,rfl⟩:=h
    have e:first=#[]:=Array.size_eq_zero_iff.1 h0
    subst e
    refine fc.of0 S (v:=.func (.func f) #[] (captured.map a.eval)) (by simp[Instr.makeFunc]) (.clos f _ _ (by simp) (fun k c v h1 h2 => ?_))
    rw[getElem?_map] at h1
    rw[Array.getElem?_map] at h2
    cases hk:captured[k]? with
    | none=>simp[hk] at h2
    | some y =>
     have hk':captured.toList[k]?=some y:=by simpa using hk
     simp[hk'] at h1;simp[hk] at h2
     subst h1;subst h2;exact hf.eval y
   ·split at h
    ·rename_i h0
     simp only[OiE,PiE] at h
     obtain⟨rfl,rfl,rfl⟩:=h
     have e:captured=#[]:=Array.size_eq_zero_iff.1 h0
     subst e
     refine fc.of0 S (v:=.func (.func f) (first.map a.eval) #[]) (by simp[Instr.makeFunc]) (.bmet f _ _ (by simp) (fun k c v h1 h2 => ?_))
     rw[getElem?_map] at h1
     rw[Array.getElem?_map] at h2
     cases hk:first[k]? with
     | none=>simp[hk] at h2
     | some y =>
      have hk':first.toList[k]?=some y:=by simpa using hk
      simp[hk'] at h1;simp[hk] at h2
      subst h1;subst h2;exact hf.eval y
    ·cases h
  | _=>simp[an] at h
 | makeSlice t l c =>
  simp only[an] at h
  split at h
  ·rename_i e l' c' hu hl hc
   split at h
   ·rename_i zs s by_ hz hs hb
    split at h
    ·rename_i hle
     simp only[OiE,PiE] at h
     obtain⟨rfl,rfl,rfl⟩:=h
     obtain⟨x,w',σ',h1,h2,h3,h4⟩:=abI (P:=P) hT S hu hz hs hb hl hc (hf.eval l) (hf.eval c) hle
     exact fc.of h1 h2 h3 h4
    ·cases h
   ·cases h
  ·cases h
 | slice t x lo hi mx =>
  simp only[an] at h
  split at h
  ·rename_i z hb
   simp only[OiE,PiE] at h
   obtain⟨rfl,rfl,_⟩:=h
   obtain⟨u,h1,h2⟩:=MD (P:=P) hT S hb (hf.eval x) (Ub hf lo) (Ub hf hi) (Ub hf mx)
   exact fc.of0 S h1 h2
  ·cases h
 | fieldAddr t x i =>
  simp only[an] at h
  split at h
  ·rename_i z hb
   simp only[OiE,PiE] at h
   obtain⟨rfl,rfl,rfl⟩:=h
   obtain⟨v,h1,h2⟩:=yX (P:=P) hT hb (hf.eval x)
   exact fc.of0 S h1 h2
  ·cases h
 | field t x i =>
  simp only[an] at h
  split at h
  ·rename_i z hb
   simp only[OiE,PiE] at h
   obtain⟨rfl,rfl,rfl⟩:=h
   obtain⟨v,h1,h2⟩:=O8 (P:=P) hT hb (hf.eval x)
   exact fc.of0 S h1 h2
  ·cases h
 | indexAddr t x i =>
  simp only[an] at h
  split at h
  ·rename_i z hb
   simp only[OiE,PiE] at h
   obtain⟨rfl,rfl,rfl⟩:=h
   obtain⟨v,h1,h2⟩:=yU (P:=P) hT hb (hf.eval x) (hf.eval i)
   exact fc.of0 S h1 h2
  ·cases h
 | index t x i =>
  simp only[an] at h
  split at h
  ·rename_i z hb
   simp only[OiE,PiE] at h
   obtain⟨rfl,rfl,rfl⟩:=h
   obtain⟨v,h1,h2⟩:=OY (P:=P) hT hb (hf.eval x) (hf.eval i)
   exact fc.of0 S h1 h2
  ·cases h
 | extract x i =>
  simp only[an] at h
  have hx:=hf.eval x
  split at h
  ·rename_i cs e
   split at h
   ·rename_i c hc
    simp only[OiE,PiE] at h
    obtain⟨rfl,rfl,rfl⟩:=h
    rw[e] at hx
    obtain⟨vs,ev,hl,hv⟩:=hx.YM
    have hi:i<vs.size:=by have:=cO hc;omega
    refine fc.of0 S (v:=vs[i]) ?_ (hv i c _ hc (Array.getElem?_eq_getElem hi))
    simp[ev,Instr.extract,hi]
   ·cases h
  ·cases h
 | call c =>
  obtain⟨callee,args,argTypes⟩:=c
  cases callee with
  | value f=>simp[an] at h
  | invoke r m=>simp[an] at h
  | builtin b =>
   have key:∀ (f:Array TypeId→TypeId→Array Value→Sem Value),(∀ cs vs,builtin b argTypes type cs vs=(do pure (.value (← f argTypes type vs))))→∀ CO,args.map a.eval=CO →
     fc P (do pure (.value (← f argTypes type CO))) w H σ hp r hp'→fc P (execOp a.eval ⟨dst,.call ⟨.builtin b,args,argTypes⟩,type,pos,after,guard⟩) w H σ hp r hp':=by
    intro f hb CO hv d
    have e:execOp a.eval ⟨dst,.call ⟨.builtin b,args,argTypes⟩,type,pos,after,guard⟩=builtin b argTypes type (args.map fun | .const _=>true | _=>false) (args.map a.eval):=rfl
    rw[e,hb,hv]
    exact d
   simp only[an] at h
   split at h
   ·rename_i x t e1 e2
    split at h
    ·rename_i z hb
     simp only[OiE,PiE] at h
     obtain⟨rfl,rfl,rfl⟩:=h
     obtain⟨ax,rfl,rfl⟩:=aiG e1
     obtain rfl:=ajw e2
     obtain⟨u,h1,h2⟩:=ab0 (P:=P) hT hb (hf.eval ax) type
     exact key Builtin.len_ (fun _ _=>rfl) #[a.eval ax] (by simp) (fc.of0 S h1 h2)
    ·cases h
   ·split at h
    ·rename_i z hb
     simp only[OiE,PiE] at h
     obtain⟨rfl,rfl,rfl⟩:=h
     obtain⟨u,h1,h2⟩:=Ar (P:=P) (b:=true) (vs:=args.toList.map a.eval) hb (by simp) (fun k c v h1 h2=>by
      rw[getElem?_map] at h1 h2
      cases hk:args.toList[k]? with
      | none=>simp[hk] at h1
      | some y=>simp[hk] at h1 h2;subst h1;subst h2;exact hf.eval y) argTypes type
     have e:(args.toList.map a.eval).toArray=args.map a.eval:=by apply Array.ext';simp
     rw[e] at h1
     exact key Builtin.max_ (fun _ _=>rfl) _ rfl (fc.of0 S h1 h2)
    ·cases h
   ·split at h
    ·rename_i z hb
     simp only[OiE,PiE] at h
     obtain⟨rfl,rfl,rfl⟩:=h
     obtain⟨u,h1,h2⟩:=Ar (P:=P) (b:=false) (vs:=args.toList.map a.eval) hb (by simp) (fun k c v h1 h2=>by
      rw[getElem?_map] at h1 h2
      cases hk:args.toList[k]? with
      | none=>simp[hk] at h1
      | some y=>simp[hk] at h1 h2;subst h1;subst h2;exact hf.eval y) argTypes type
     have e:(args.toList.map a.eval).toArray=args.map a.eval:=by apply Array.ext';simp
     rw[e] at h1
     exact key Builtin.min_ (fun _ _=>rfl) _ rfl (fc.of0 S h1 h2)
    ·cases h
   ·rename_i x y t t' e1 e2
    obtain⟨ax,ay,rfl,rfl,rfl⟩:=aj4 e1
    obtain rfl:=akr e2
    split at h
    ·rename_i e e' hu hu'
     split at h
     ·rename_i s by_ zs hs hb hz
      split at h
      ·rename_i hle
       split at h
       ·rename_i n new ids hr
        split at h
        ·rename_i hok
         split at h
         ·rename_i r' hp2 fp' hap
          simp only[OiE,PiE] at h
          obtain⟨rfl,rfl,rfl⟩:=h
          obtain⟨i,z,hTi,hiz,hzs⟩:=tE hz
          have hsi:i.size=s:=by unfold dm at hs;rw[hTi] at hs;simpa using hs
          have hbi:i.bytes=by_:=by unfold iG at hb;rw[hTi] at hb;simpa using hb
          subst hsi;subst hbi
          have hzz:z.cells.size=i.size:=by have:=hle.2;rw[hzs] at this;simpa using this
          obtain⟨news,q1,q2,q3,q4⟩:=aes (P:=P) S (jD hT hu') hr hok (hf.eval ay)
          obtain⟨u,w',σ',k1,k2,k3,k4⟩:=yx (ty:=type) S (jD hT hu) (hT e i hTi) hiz hzz hle.1 hap (hf.eval ax) q1 hok ⟨q2,q3⟩ q4
          exact key Builtin.append_ (fun _ _=>rfl) #[a.eval ax,a.eval ay] (by simp) (fc.of k1 k2 k3 k4)
         ·cases h
        ·cases h
       ·cases h
      ·cases h
     ·cases h
    ·rename_i e hu hu'
     split at h
     ·rename_i str he
      split at h
      ·rename_i z0 hu8 hs hb hz
       split at h
       ·rename_i r' hp2 fp' hap
        simp only[OiE,PiE] at h
        obtain⟨rfl,rfl,rfl⟩:=h
        obtain⟨i,z,hTi,hiz,hzs⟩:=tE hz
        have hsi:i.size=1:=by unfold dm at hs;rw[hTi] at hs;simpa using hs
        have hbi:i.bytes=1:=by unfold iG at hb;rw[hTi] at hb;simpa using hb
        have hzz:z.cells.size=i.size:=by
         have:=congrArg List.length hzs
         rw[hsi];simpa using this.symm
        have hay:=hf.eval ay
        rw[he] at hay
        have hv:=hay.kR
        have hsrc:=Src.ofString w (jD hT hu') str
        rw[← hsi] at hap hsrc
        obtain⟨u,w',σ',k1,k2,k3,k4⟩:=yx (ty:=type) S (jD hT hu) (hT e i hTi) hiz hzz (by omega) hap (hf.eval ax) (n:=(bO str).length) (news:=byteCells str) (by rw[fS];exact hsrc)
         (by
          have:∀ l:List UInt8,bj (l.map fun b=>PV.sc (.int .u8 b.toNat))=true:=by
           intro l
           induction l with
           | nil=>rfl
           | cons b l ih=>simp[bj,dZ,ih]
          exact this _)
         ⟨by simp[byteCells,bO],fun k c u h1 h2=>by
          unfold byteCells at h2
          unfold bO at h1
          rw[getElem?_map] at h1 h2
          cases hk:str.data.toList[k]? with
          | none=>simp[hk] at h1
          | some y=>simp[hk] at h1 h2;subst h1;subst h2;exact .sc _⟩ (by rw[hsi];simp)
        rw[← hv] at k1
        exact key Builtin.append_ (fun _ _=>rfl) #[a.eval ax,a.eval ay] (by simp) (fc.of k1 k2 k3 k4)
       ·cases h
      ·cases h
     ·cases h
    ·cases h
   ·rename_i x t e1 e2
    obtain⟨ax,rfl,rfl⟩:=aiG e1
    obtain rfl:=ajw e2
    have hax:=hf.eval ax
    split at h
    ·rename_i e id s' off len x hu hx
     split at h
     ·rename_i s zs hs hz
      split at h
      ·rename_i hc
       obtain⟨hss,hzs,hok⟩:=hc
       subst hss
       split at h
       ·rename_i old hid
        split at h
        ·rename_i l hl
         simp only[OiE,PiE] at h
         obtain⟨rfl,rfl,rfl⟩:=h
         rw[hx] at hax
         rw[cY] at hid
         obtain⟨w',h1,h2,h3⟩:=WV (P:=P) (ty:=type) hT S hu hz hzs hax hid hok hl
         rw[← jh] at h2 h3
         exact key Builtin.clear_ (fun _ _=>rfl) #[a.eval ax] (by simp) (fc.of (σ':=σ) h1 (.tup _ _ rfl (fun k c v h=>by simp at h)) h2 h3)
        ·cases h
       ·cases h
      ·cases h
     ·cases h
    ·cases h
   ·cases h
 | _=>simp[an] at h
end
section
variable {P:Program} {T:Tab} {w:World} {H:Nat→Prop} {hp:Θ} {σ:List Addr}
def NoL:Nat→Prop:=fun _=>False
theorem V.idf {M M':Nat→Prop}{L L':Nat→Prop}{σ':List Addr}(hM:∀ b,b<w.heap.size→M' b→M b){p:PV}{v:Value}(hv:V w M σ L p v)(h:p.cG=true):V w M' σ' L' p v:=by
 induction hv with
 | any v=>exact .any v
 | sc v=>exact .sc v
 | agg cs vs hl _ ih =>
  simp only[PV.cG] at h
  exact .agg cs vs hl (fun k c v h1 h2=>ih k c v h1 h2 (eG h h1))
 | tup cs vs hl _ ih =>
  simp only[PV.cG] at h
  exact .tup cs vs hl (fun k c v h1 h2=>ih k c v h1 h2 (eG h h1))
 | nil x=>exact .nil x
 | imm len x cs a cap g h1 h2 h3 _ ih =>
  refine .imm len x cs a cap g h1 h2 (fun k c hk => ?_) (fun k c hk=>ih k c hk (h3 k c hk).2.1)
  obtain⟨e1,e2,e3,e4⟩:=h3 k c hk
  exact⟨e1,e2,fun hm=>e3 (hM _ (World.block_lt_of_cell? _ ⟨a.block,a.off+k,none⟩ e4) hm),e4⟩
 | own=>simp[PV.cG] at h
 | ptr=>simp[PV.cG] at h
 | iptr cs a g h3 _ ih =>
  refine .iptr cs a g (fun k c hk => ?_) (fun k c hk=>ih k c hk (h3 k c hk).2.1)
  obtain⟨e1,e2,e3,e4⟩:=h3 k c hk
  exact⟨e1,e2,fun hm=>e3 (hM _ (World.block_lt_of_cell? _ ⟨a.block,a.off+k,none⟩ e4) hm),e4⟩
 | clos f cs vs hl _ ih =>
  simp only[PV.cG] at h
  exact .clos f cs vs hl (fun k c v h1 h2=>ih k c v h1 h2 (eG h h1))
 | bmet=>simp[PV.cG] at h
 | mp=>simp[PV.cG] at h
def but (H:Nat→Prop)(σ:List Addr)(hp:Θ)(ids:Ω)(b:Nat):Prop:=H b∨∃ i a,((aQ hp i∧i ∉ ids)∨iR hp i)∧σ[i]?=some a∧a.block=b
theorem adb {ids:Ω}{b:Nat}(h:but H σ hp ids b):hot H σ hp b:=by
 rcases h with h | ⟨i,a,h1,h2,h3⟩
 ·exact .inl h
 ·exact .inr ⟨i,a,h1.imp (fun h=>h.1) id,h2,h3⟩
theorem eU {f:PV→Option (PV × Ω)} : ∀ {cs l:Ψ} {ids:Ω},bu f cs=some (l,ids) →
  l.length=cs.length∧∀ (k:Nat) c,cs[k]?=some c→∃ c' i',l[k]?=some c'∧f c=some (c',i')∧∀ x ∈ i',x ∈ ids
 | [],l,ids,h=>by
  simp[bu] at h;obtain⟨rfl,rfl⟩:=h
  exact⟨rfl,fun k c hk=>by simp at hk⟩
 | c::cs,l,ids,h=>by
  simp only[bu] at h
  cases hf:f c with
  | none=>simp[hf] at h
  | some x =>
   obtain⟨c',i1⟩:=x
   simp only[hf] at h
   cases hm:bu f cs with
   | none=>simp[hm] at h
   | some y =>
    obtain⟨l',i2⟩:=y
    simp only[hm,OiE,PiE] at h
    obtain⟨rfl,rfl⟩:=h
    obtain⟨h1,h2⟩:=eU hm
    refine⟨by simp[h1],fun k d hk => ?_⟩
    cases k with
    | zero=>simp at hk;subst hk;exact⟨c',i1,rfl,hf,fun x hx=>mem_append_left _ hx⟩
    | succ k =>
     simp at hk
     obtain⟨c2,i3,e1,e2,e3⟩:=h2 k d hk
     exact⟨c2,i3,by simpa using e1,e2,fun x hx=>mem_append_right _ (e3 x hx)⟩
theorem mA {cs:Ψ}(h:∀ (k:Nat) c,cs[k]?=some c→c.cG=true):bT cs=true:=by
 induction cs with
 | nil=>rfl
 | cons c cs ih =>
  simp only[bT,Bool.and_eq_true]
  exact⟨h 0 c rfl,ih (fun k d hk=>h (k+1) d (by simpa using hk))⟩
theorem oB (S:Sim w H σ hp){all:Ω} : ∀ (d:Nat) {p p':PV} {ids:Ω} {v:Value},snap hp d p=some (p',ids)→(∀ x ∈ ids,x ∈ all)→V w (hot H σ hp) σ (aQ hp) p v →
  V w (but H σ hp all) [] NoL p' v∧p'.cG=true
 | 0,p,p',ids,v,h,_,_=>by simp[snap] at h
 | d+1,p,p',ids,v,h,hi,hv=>by
  have list:∀ {cs l:Ψ} {ids:Ω},bu (snap hp d) cs=some (l,ids)→(∀ x ∈ ids,x ∈ all)→∀ (k:Nat) c v,cs[k]?=some c→V w (hot H σ hp) σ (aQ hp) c v →
    ∃ c',l[k]?=some c'∧V w (but H σ hp all) [] NoL c' v∧c'.cG=true:=by
   intro cs l ids hm hi k c v hk hv
   obtain⟨_,h2⟩:=eU hm
   obtain⟨c',i',e1,e2,e3⟩:=h2 k c hk
   obtain⟨r1,r2⟩:=oB S d e2 (fun x hx=>hi x (e3 x hx)) hv
   exact⟨c',e1,r1,r2⟩
  have rest:p'=p→p.cG=true→V w (but H σ hp all) [] NoL p' v∧p'.cG=true:=by
   intro e hf
   subst e
   exact⟨hv.idf (fun b _ hb=>adb hb) hf,hf⟩
  cases p with
  | own id s off len x =>
   simp only[snap,cY] at h
   cases hb:hp[id]? with
   | none=>simp[hb] at h
   | some blk =>
    cases blk with
    | mk st cs =>
     simp only[hb] at h
     split at h
     ·cases h
     ·rename_i hd
      cases ht:bF (bz cs off) (len*s) with
      | none=>simp[ht] at h
      | some l =>
       simp only[ht] at h
       cases hm:bu (snap hp d) l with
       | none=>simp[hm] at h
       | some y =>
        obtain⟨l',ids'⟩:=y
        simp only[hm,OiE,PiE] at h
        obtain⟨rfl,rfl⟩:=h
        obtain⟨hle,rfl⟩:=ft ht
        rw[cD] at *
        obtain⟨hlen',_⟩:=eU hm
        have hid:id ∈ all:=hi id (by simp)
        cases hv with
        | own _ _ _ _ _ a b cap g1 g2 g3 g4 g5 =>
         obtain⟨gA,hgA⟩:=oN S (off:=off) (m:=len*s) hb hd g1
         have hcap:∀ (k:Nat) c,l'[k]?=some c→0<cap:=by
          intro k c hk
          have:=cO hk
          rw[hlen',length_take] at this
          rcases Nat.eq_zero_or_pos cap with h0 | h0
          ·have:len=0:=by omega
           subst this;simp at this
          ·exact h0
         have hcell:∀ (k:Nat) c',l'[k]?=some c'→∃ c,((cs.drop off).take (len*s))[k]?=some c:=by
          intro k c' hk
          have:=cO hk
          rw[hlen'] at this
          exact⟨_,getElem?_eq_getElem this⟩
         refine⟨.imm len x l' b cap gA g2 g3 (fun k c' hk => ?_) (fun k c' hk => ?_),rfl⟩
         ·obtain⟨c,hc⟩:=hcell k c' hk
          obtain⟨e1,e2,e3⟩:=hgA k c hc
          obtain⟨c2,f1,f2,f3⟩:=list hm (fun x hx=>hi x (mem_cons_of_mem _ hx)) k c _ hc e3
          rw[hk] at f1;cases f1
          have eb:=g4 (hcap k c' hk)
          subst eb
          refine⟨rfl,f3,?_,e2⟩
          rintro (hh | ⟨i,a',⟨i1,i2⟩| ⟨ds,hds⟩,i3,i4⟩)
          ·exact S.own id st cs a hb hd g1 hh
          rotate_left
          ·obtain⟨-,es,ck,hb',-⟩:=S.maps i ds a' hds i3
           simp only at i4
           rw[i4] at hb'
           simp[World.cell?,hb'] at e2
          ·by_cases e:i=id
           ·subst e;exact i2 hid
           ·exact S.inj i id a' a st cs i1 hb hd e i3 g1 i4
         ·obtain⟨c,hc⟩:=hcell k c' hk
          obtain⟨e1,e2,e3⟩:=hgA k c hc
          obtain⟨c2,f1,f2,f3⟩:=list hm (fun x hx=>hi x (mem_cons_of_mem _ hx)) k c _ hc e3
          rw[hk] at f1;cases f1
          exact f2
  | agg cs =>
   simp only[snap] at h
   cases hm:bu (snap hp d) cs with
   | none=>simp[hm] at h
   | some y =>
    obtain⟨l',ids'⟩:=y
    simp only[hm,OiE,PiE] at h
    obtain⟨rfl,rfl⟩:=h
    obtain⟨hlen',_⟩:=eU hm
    cases hv with
    | agg _ vs h1 h2 =>
     have key:∀ (k:Nat) c',l'[k]?=some c'→∃ v,vs[k]?=some v∧V w (but H σ hp all) [] NoL c' v∧c'.cG=true:=by
      intro k c' hk
      have hk':=cO hk
      have hk1:k<cs.length:=by omega
      have hk2:k<vs.size:=by omega
      obtain⟨c2,f1,f2,f3⟩:=list hm hi k cs[k] vs[k] (getElem?_eq_getElem hk1) (h2 k _ _ (getElem?_eq_getElem hk1) (Array.getElem?_eq_getElem hk2))
      rw[hk] at f1;cases f1
      exact⟨_,Array.getElem?_eq_getElem hk2,f2,f3⟩
     refine⟨.agg l' vs (by omega) (fun k c v hk hv => ?_),?_⟩
     ·obtain⟨v',e1,e2,_⟩:=key k c hk
      rw[hv] at e1;cases e1;exact e2
     ·simp only[PV.cG]
      exact mA (fun k c hk=>(key k c hk).choose_spec.2.2)
  | ptr=>simp[snap] at h
  | mp=>simp[snap] at h
  | bmet=>simp[snap] at h
  | clos f caps =>
   simp only[snap] at h
   split at h
   ·rename_i hf
    simp only[OiE,PiE] at h
    exact rest h.1.symm (by simp only[PV.cG];exact hf)
   ·cases h
  | tup=>simp[snap] at h
  | any=>simp only[snap,OiE,PiE] at h;exact rest h.1.symm rfl
  | sc v=>simp only[snap,OiE,PiE] at h;exact rest h.1.symm rfl
  | imm=>simp only[snap,OiE,PiE] at h;exact rest h.1.symm rfl
  | iptr=>simp only[snap,OiE,PiE] at h;exact rest h.1.symm rfl
theorem C4 (S:Sim w H σ hp){ps ps':Ψ}{ids all:Ω}{vs:List Value}{d:Nat}(h:bu (snap hp d) ps=some (ps',ids))(hi:∀ x ∈ ids,x ∈ all)(hv:Vs w (hot H σ hp) σ (aQ hp) ps vs) :
  Vs w (but H σ hp all) [] NoL ps' vs∧bT ps'=true:=by
 obtain⟨hl,h2⟩:=eU h
 have key:∀ (k:Nat) c',ps'[k]?=some c'→∃ c i',ps[k]?=some c∧snap hp d c=some (c',i')∧∀ x ∈ i',x ∈ all:=by
  intro k c' hk
  have hk':=cO hk
  have hk1:k<ps.length:=by omega
  obtain⟨c2,i',e1,e2,e3⟩:=h2 k _ (getElem?_eq_getElem hk1)
  rw[hk] at e1;cases e1
  exact⟨_,i',getElem?_eq_getElem hk1,e2,fun x hx=>hi x (e3 x hx)⟩
 refine⟨⟨by rw[hl];exact hv.1,fun k c' v hk hvk => ?_⟩,mA (fun k c' hk => ?_)⟩
 ·obtain⟨c,i',e1,e2,e3⟩:=key k c' hk
  exact (oB S d e2 e3 (hv.2 k c v e1 hvk)).1
 ·obtain⟨c,i',e1,e2,e3⟩:=key k c' hk
  have hk1:=cO e1
  have hk2:k<vs.length:=by rw[← hv.1];exact hk1
  exact (oB S d e2 e3 (hv.2 k c _ e1 (getElem?_eq_getElem hk2))).2
end
def BA:List Value→Value
 | [v]=>v
 | vs=>.tuple vs.toArray
def jf (P:Program)(g:FuncId)(vs:Array Value)(w:World)(R:Value→World→Prop):Prop :=
 match (callFunc g vs).run P w with
 | .ok (.value v) w'=>R v w'
 | .ok (.enter f args) w'=>Calls P f args w' fun e w''=>∃ v,e = .returned v∧R v w''
 | _=>False
theorem jf.mono {P:Program}{g:FuncId}{vs:Array Value}{w:World}{R R':Value→World→Prop}(h:jf P g vs w R)(hr:∀ v w',R v w'→R' v w'):jf P g vs w R':=by
 unfold jf at *
 split
 ·rename_i e;rw[e] at h;exact hr _ _ h
 ·rename_i e;rw[e] at h;exact h.mono fun e w'' ⟨v,h1,h2⟩=>⟨v,h1,hr _ _ h2⟩
 ·rename_i h1 h2
  split at h
  ·rename_i e;exact (h1 _ _ e).elim
  ·rename_i e;exact (h2 _ _ _ e).elim
  ·exact h
section
variable {P:Program} {T:Tab} {w:World} {H:Nat→Prop} {hp:Θ} {σ:List Addr}
theorem Vs.one {M:Nat→Prop}{L:Nat→Prop}{p:PV}{v:Value}(h:Vs w M σ L [p] [v]):V w M σ L p v:=h.2 0 p v rfl rfl
theorem sJ {M:Nat→Prop}{L:Nat→Prop}{rs:Ψ}{vs:List Value}(h:Vs w M σ L rs vs):V w M σ L (iL rs) (BA vs):=by
 have tup:V w M σ L (.tup rs) (.tuple vs.toArray):=.tup rs vs.toArray (by simpa using h.1) (fun k c v h1 h2=>h.2 k c v h1 (by simpa using h2))
 match rs,vs,h with
 | [],[],h=>exact tup
 | [r],[v],h=>exact h.one
 | _::_::_,_::_::_,h=>exact tup
 | [],_::_,h=>simp[Vs] at h
 | _::_,[],h=>simp[Vs] at h
 | [_],_::_::_,h=>simp[Vs] at h
 | _::_::_,[_],h=>simp[Vs] at h
theorem Dw {cs:Ψ}(h:qD cs=true){k:Nat}{c:PV}(hk:cs[k]?=some c):∃ v,c = .sc v:=by
 induction cs generalizing k with
 | nil=>simp at hk
 | cons d cs ih =>
  cases d with
  | sc v =>
   simp only[qD] at h
   cases k with
   | zero=>simp at hk;exact⟨v,hk.symm⟩
   | succ k=>simp at hk;exact ih h hk
  | _=>simp[qD] at h
theorem zE {w':World}{M M':Nat→Prop}{L L':Nat→Prop}{σ':List Addr}{p:PV}{v:Value}(h:eg p=true)(hv:V w M σ L p v):V w' M' σ' L' p v:=by
 cases hv with
 | sc v=>exact .sc v
 | agg cs vs h1 h2 =>
  refine .agg cs vs h1 (fun k c v hk hv => ?_)
  obtain⟨u,rfl⟩:=Dw h hk
  have:=(h2 k _ v hk hv).kR
  subst this;exact .sc _
 | _=>simp[eg] at h
theorem nk:∀ (ids:Ω) (hp:Θ),(roB hp ids).length=hp.length∧(∀ i,aQ (roB hp ids) i→aQ hp i∧i ∉ ids)∧(∀ i,iR (roB hp ids) i→iR hp i)
 | [],hp=>⟨rfl,fun i h=>⟨h,by simp⟩,fun _ h=>h⟩
 | id::ids,hp=>by
  simp only[roB,cY]
  split
  ·rename_i cs hb
   rw[jh]
   obtain⟨h1,h2,hm⟩:=nk ids (hp.set id ⟨.ro,cs⟩)
   refine⟨by rw[h1];simp,fun i hi => ?_,fun i hi=>by
    obtain⟨ds,hd⟩:=hm i hi
    by_cases e:id=i
    ·subst e;rw[getElem?_set_self (cO hb)] at hd;cases hd
    ·rw[getElem?_set_ne e] at hd;exact⟨ds,hd⟩⟩
   obtain⟨h3,h4⟩:=h2 i hi
   have h5:=pM (b:=⟨.ro,cs⟩) (fun e=>by cases e) h3
   refine⟨h5,fun hm => ?_⟩
   rcases mem_cons.1 hm with e | e
   ·subst e
    obtain⟨ds,hd⟩:=h3
    rw[getElem?_set_self (cO hb)] at hd
    cases hd
   ·exact h4 e
  ·rename_i hb
   obtain⟨h1,h2,hmm⟩:=nk ids hp
   refine⟨h1,fun i hi => ?_,hmm⟩
   obtain⟨h3,h4⟩:=h2 i hi
   refine⟨h3,fun hm => ?_⟩
   rcases mem_cons.1 hm with e | e
   ·subst e
    obtain⟨ds,hd⟩:=h3
    exact hb ds hd
   ·exact h4 e
theorem GW:∀ (ids:Ω) {hp:Θ},Sim w H σ hp→Sim w H σ (roB hp ids)∧Step w (cS σ hp) σ (aQ hp) w (cS σ (roB hp ids)) σ (aQ (roB hp ids))
 | [],hp,S=>⟨S,Step.refl _ _ _ _⟩
 | id::ids,hp,S=>by
  simp only[roB,cY]
  split
  ·rename_i cs hb
   rw[jh]
   obtain⟨h1,h2⟩:=Da (st':=.ro) (cs':=cs) S hb (.inr ⟨by simp,rfl,rfl⟩)
   obtain⟨h3,h4⟩:=GW ids h1
   exact⟨h3,h2.trans h4⟩
  ·exact GW ids S
structure Old (w w':World):Prop where
 os:w'.os=w.os
 tape:w'.tape=w.tape
 output:w'.output=w.output
 size:w.heap.size≤w'.heap.size
 same:∀ (b:Nat),b<w.heap.size→w'.heap[b]?=w.heap[b]?
theorem Old.shape {w w':World}(h:Old w w')(σ:List Addr)(L:Nat→Prop):Shape w σ w' L:=ir fun b c e f hb=>by
  have:b<w.heap.size:=by
   rcases Nat.lt_or_ge b w.heap.size with h' | h'
   ·exact h'
   ·simp[Array.getElem?_eq_none h'] at hb
  exact⟨c,by rw[h.same b this];exact hb,rfl⟩
theorem Old.step {w w':World}(h:Old w w')(M:Nat→Prop)(σ:List Addr)(L:Nat→Prop):Step w M σ L w' M σ L :=
 ⟨h.os,h.tape,h.output,h.size,fun _ _ h=>h,fun b hb _=>h.same b hb,h.shape _ _,fun _ _ h=>h,fun _ _ h=>h⟩
theorem Br {w w':World}(S:Sim w H σ hp)(h:Old w w'):Sim w' H σ hp :=
 ⟨S.len,fun i a ha=>Nat.lt_of_lt_of_le (S.spot i a ha) h.size,fun b hb=>Nat.lt_of_lt_of_le (S.foreign b hb) h.size,fun i s cs a hi hd ha k c hk=>by
  obtain⟨v,h1,h2⟩:=S.cells i s cs a hi hd ha k c hk
  exact⟨v,by rw[fZ (w:=w) (w':=w') (a:=⟨a.block,a.off+k,none⟩) (h.same _ (S.spot i a ha))];exact h1,h2.step (h.step _ _ _)⟩,
 S.own,fun i a cs hi ha=>by
  obtain⟨c,e,h2,h3⟩:=S.live i a cs hi ha
  exact⟨c,e,by rw[h.same _ (S.spot i a ha)];exact h2,h3⟩,S.inj,fun i cs a hi ha=>by
  obtain⟨h1,es,ck,h2,h3⟩:=S.maps i cs a hi ha
  exact⟨h1,es,ck,by rw[h.same _ (S.spot i a ha)];exact h2,h3.step (h.step _ _ _)⟩,S.injm⟩
theorem KE (hH:∀ b,H b→b<w.heap.size):Sim w H [] [] :=
 ⟨rfl,fun i a h=>by simp at h,hH,fun i s cs a h=>by simp at h,fun i s cs a h=>by simp at h,fun i a cs h=>by simp at h,fun i j a b s cs h=>by obtain⟨ds,hd⟩:=h;simp at hd,fun i cs a h=>by simp at h,fun i j a b h=>by obtain⟨ds,hd⟩:=h;simp at hd⟩
end
end Go.Ab
