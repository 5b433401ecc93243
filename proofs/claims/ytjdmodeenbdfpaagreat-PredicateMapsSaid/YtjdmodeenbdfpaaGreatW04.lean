/- An abstract interpreter over the model's code and its soundness, part 4; each lemma states its conditions. -/
import Derived.Test.YtjdmodeenbdfpaaGreatW03
set_option linter.unusedSimpArgs false
set_option linter.unusedVariables false
namespace Go.Ab
open Go List
structure oy (w:World) (M:Nat→Prop) (σ:List Addr) (L:Nat→Prop) (fr:Ψ) (tmps:Array Value):Prop where
 len:fr.length=tmps.size
 get:∀ (t:Nat) p v,fr[t]?=some p→tmps[t]?=some v→V w M σ L p v
section
variable {P:Program} {T:Tab} (hT:gq P T) {w:World} {H:Nat→Prop} {hp:Θ} {σ:List Addr}
theorem oy.step {w w':World}{H:Nat→Prop}{σ σ':List Addr}{hp hp':Θ}(h:Step w (cS σ hp) σ (aY hp) w' (cS σ' hp') σ' (aY hp')){fr:Ψ}{tmps:Array Value}(hf:oy w (hot H σ hp) σ (aY hp) fr tmps):oy w' (hot H σ' hp') σ' (aY hp') fr tmps :=
 ⟨hf.len,fun t p v h1 h2=>(hf.get t p v h1 h2).step h⟩
theorem oy.nth {M:Nat→Prop}{L:Nat→Prop}{fr:Ψ}{tmps:Array Value}(hf:oy w M σ L fr tmps)(t:Nat):V w M σ L (nth fr t) (tmps.getD t undef):=by
 rw[sQ]
 rcases Nat.lt_or_ge t fr.length with h | h
 ·have h2:t<tmps.size:=by rw[← hf.len];exact h
  rw[List.getElem?_eq_getElem h]
  have:=hf.get t fr[t] tmps[t] (List.getElem?_eq_getElem h) (Array.getElem?_eq_getElem h2)
  simpa [h2] using this
 ·rw[getElem?_eq_none h];exact .any _
theorem oy.eval {M:Nat→Prop}{L:Nat→Prop}{fr:Ψ}{a:Act}(hf:oy w M σ L fr a.tmps)(x:Operand):V w M σ L (aj fr x) (a.eval x):=by
 cases x with
 | tmp t=>exact hf.nth t
 | const v=>exact xr v
 | global g=>exact .any _
 | func f=>exact .sc _
theorem oy.put {M:Nat→Prop}{L:Nat→Prop}{fr:Ψ}{a:Act}(hf:oy w M σ L fr a.tmps)(dst:Option Tmp){p:PV}{v:Value}(hv:V w M σ L p v):oy w M σ L (aF fr dst p) (a.put dst v).tmps:=by
 cases dst with
 | none=>exact hf
 | some d =>
  refine⟨by simp[aF,jQ,Act.put,hf.len],fun t q u h1 h2 => ?_⟩
  simp only[aF,jQ] at h1
  simp only[Act.put] at h2
  by_cases e:d=t
  ·subst e
   have hlt:d<fr.length:=by have:=cQ h1;simpa using this
   rw[getElem?_set_self hlt] at h1
   have hlt2:d<a.tmps.size:=by rw[← hf.len];exact hlt
   simp[hlt2] at h2
   cases h1;subst h2;exact hv
  ·rw[getElem?_set_ne e] at h1
   rw[Array.getElem?_setIfInBounds_ne e] at h2
   exact hf.get t q u h1 h2
theorem xh {M:Nat→Prop}{L:Nat→Prop}{fr:Ψ}{a:Act}(hf:oy w M σ L fr a.tmps):∀ l:List (Nat × Operand),F3 w M σ L (l.map fun (i,x)=>(i,aj fr x)) (l.map fun (i,x)=>(i,a.eval x))
 | []=>trivial
 | (i,x)::l=>⟨rfl,hf.eval x,xh hf l⟩
theorem TS {M:Nat→Prop}{L:Nat→Prop}{fr:Ψ}{a:Act}(hf:oy w M σ L fr a.tmps)(o:Option Operand):OV w M σ L (o.map (aj fr)) (o.map a.eval):=by
 cases o with
 | none=>trivial
 | some x=>exact hf.eval x
theorem V.FG {M:Nat→Prop}{L:Nat→Prop}{f:FuncId}{cs:Ψ}{v:Value}(h:V w M σ L (.clos f cs) v):∃ vs:Array Value,v = .func (.func f) #[] vs∧Rel w M σ L cs vs:=by
 cases h with | clos _ _ vs h1 h2=>exact⟨vs,rfl,h1,h2⟩
theorem V.FX {M:Nat→Prop}{L:Nat→Prop}{f:FuncId}{cs:Ψ}{v:Value}(h:V w M σ L (.bmet f cs) v):∃ vs:Array Value,v = .func (.func f) vs #[]∧Rel w M σ L cs vs:=by
 cases h with | bmet _ _ vs h1 h2=>exact⟨vs,rfl,h1,h2⟩
theorem V.Yw {M:Nat→Prop}{L:Nat→Prop}{cs:Ψ}{v:Value}(h:V w M σ L (.tup cs) v):∃ vs:Array Value,v = .tuple vs∧Rel w M σ L cs vs:=by
 cases h with | tup _ vs h1 h2=>exact⟨vs,rfl,h1,h2⟩
theorem aih {α β:Type}{f:α→β}{l:Array α}{x:β}(h:l.toList.map f=[x]):∃ y,l=#[y]∧f y=x:=by
 obtain⟨l⟩:=l
 match l,h with
 | [y],h=>simp at h;exact⟨y,rfl,h⟩
theorem ajE {α β:Type}{f:α→β}{l:Array α}{x y:β}(h:l.toList.map f=[x,y]):∃ u v,l=#[u,v]∧f u=x∧f v=y:=by
 obtain⟨l⟩:=l
 match l,h with
 | [u,v],h=>simp at h;exact⟨u,v,rfl,h.1,h.2⟩
theorem aiQ {α:Type}{l:Array α}{x:α}(h:l.toList=[x]):l=#[x]:=by
 obtain⟨l⟩:=l;simp at h;rw[h]
theorem ajT {α:Type}{l:Array α}{x y:α}(h:l.toList=[x,y]):l=#[x,y]:=by
 obtain⟨l⟩:=l;simp at h;rw[h]
theorem fi.of {s:Sem Value}{r:PV}{hp':Θ}{v:Value}{w':World}{σ':List Addr}(h:s.run P w = .ok v w')(hv:V w' (hot H σ' hp') σ' (aY hp') r v)(S:Sim w' H σ' hp')
  (st:Step w (cS σ hp) σ (aY hp) w' (cS σ' hp') σ' (aY hp')):fi P (do pure (.value (← s))) w H σ hp r hp' :=
 ⟨.value v,v,w',σ',by simp[h],.inl rfl,hv,S,st⟩
theorem fi.of0 {s:Sem Value}{r:PV}{v:Value}(S:Sim w H σ hp)(h:s.run P w = .ok v w)(hv:V w (hot H σ hp) σ (aY hp) r v):fi P (do pure (.value (← s))) w H σ hp r hp :=
 fi.of h hv S (Step.refl _ _ _ _)
include hT in
theorem QY (S:Sim w H σ hp){fr:Ψ}{a:Act}(hf:oy w (hot H σ hp) σ (aY hp) fr a.tmps){o:Oper}{r:PV}{hp':Θ}{fp:FP}(h:an P T fr hp o.op=some (r,hp',fp)) :
  fi P (execOp a.eval o) w H σ hp r hp':=by
 obtain⟨dst,op,type,pos,after,guard⟩:=o
 cases op with
 | move x =>
  simp only[an,OiE,PiE] at h
  obtain⟨rfl,rfl,rfl⟩:=h
  exact fi.same S rfl (hf.eval x)
 | assign x =>
  simp only[an,OiE,PiE] at h
  obtain⟨rfl,rfl,rfl⟩:=h
  exact fi.same S rfl (hf.eval x)
 | pick c x y =>
  simp only[an] at h
  have hc:=hf.eval c
  split at h
  ·rename_i e
   rw[e] at hc
   simp only[OiE,PiE] at h
   obtain⟨rfl,rfl,rfl⟩:=h
   exact fi.same S (by simp[execOp,hc.lf,asBool]) (hf.eval x)
  ·rename_i e
   rw[e] at hc
   simp only[OiE,PiE] at h
   obtain⟨rfl,rfl,rfl⟩:=h
   exact fi.same S (by simp[execOp,hc.lf,asBool]) (hf.eval y)
  ·cases h
 | alloc e =>
  simp only[an] at h
  split at h
  ·rename_i zs hz
   simp only[OiE,PiE] at h
   obtain⟨rfl,rfl,rfl⟩:=h
   obtain⟨v,w',σ',h1,h2,h3,h4⟩:=Xt hT S hz
   exact fi.of h1 h2 h3 h4
  ·cases h
 | box e x =>
  simp only[an] at h
  split at h
  ·rename_i cs hc
   simp only[OiE,PiE] at h
   obtain⟨rfl,rfl,rfl⟩:=h
   obtain⟨v,w',σ',h1,h2,h3,h4⟩:=agp (P:=P) (e:=e) S hc (hf.eval x)
   exact fi.of h1 h2 h3 h4
  ·cases h
 | build t parts =>
  simp only[an] at h
  split at h
  ·rename_i x hb
   simp only[OiE,PiE] at h
   obtain⟨rfl,rfl,rfl⟩:=h
   obtain⟨v,h1,h2⟩:=W5 (vparts:=parts.map fun (i,x)=>(i,a.eval x)) hT hb (by simpa using xh hf parts.toList)
   exact fi.of0 S h1 h2
  ·cases h
 | buildSlice t len parts =>
  simp only[an] at h
  split at h
  ·rename_i s cs hb
   obtain⟨e,arr,hu,hs,h1,h2,h3⟩:=afr (w:=w) (M:=hot H σ hp) (σ:=σ) (L:=aY hp) (vparts:=parts.map fun (i,x)=>(i,a.eval x)) hT hb (by simpa using xh hf parts.toList)
   split at h
   ·rename_i hid
    rw[Bool.and_eq_true] at hid
    simp only[OiE,PiE] at h
    obtain⟨rfl,rfl,rfl⟩:=h
    obtain⟨g1,g2⟩:=oE S (.cells arr e)
    exact fi.of h1 (AD S (Nat.le_of_eq h2.1) h2.2 hid.1 len len true (Nat.le_refl _) (fun _=>rfl)) g1 g2
   ·simp only[OiE,PiE] at h
    obtain⟨rfl,rfl,rfl⟩:=h
    obtain⟨g1,g2,g3⟩:=Ca (e:=e) S (Nat.le_of_eq h2.1) h2.2 s len len true (Nat.le_refl _) (fun _=>rfl) (by rw[← h2.1,h3];exact Nat.le_refl _)
    exact fi.of h1 g3 g1 g2
  ·cases h
 | load t x =>
  simp only[an] at h
  split at h
  ·rename_i cs ids hc
   split at h
   ·rename_i y hx
    simp only[OiE,PiE] at h
    obtain⟨rfl,rfl,rfl⟩:=h
    obtain⟨u,h1,h2⟩:=aa9 (P:=P) hT S hc hx (hf.eval x)
    exact fi.of0 S h1 h2
   ·cases h
  ·cases h
 | store t x y =>
  simp only[an] at h
  have hx:=hf.eval x
  split at h
  ·rename_i id off cs n e1 e2 e3
   split at h
   ·rename_i hc
    split at h
    ·rename_i old hid
     split at h
     ·rename_i l hl
      simp only[OiE,PiE] at h
      obtain⟨rfl,rfl,rfl⟩:=h
      rw[e1] at hx
      rw[cW] at hid
      obtain⟨w',h1,h2,h3⟩:=QX (P:=P) hT S hx (hf.eval y) e2 e3 hc.1 hc.2 hid hl
      rw[jl]
      exact⟨.skip,undef,w',σ,by simp[execOp,h1],.inr ⟨rfl,rfl⟩,.sc _,h2,h3⟩
     ·cases h
    ·cases h
   ·cases h
  ·cases h
 | nilCheck x =>
  simp only[an] at h
  have hx:=hf.eval x
  split at h
  ·rename_i e
   simp only[OiE,PiE] at h
   obtain⟨rfl,rfl,rfl⟩:=h
   rw[e] at hx
   obtain⟨b,_,hb⟩:=hx.vi
   exact fi.same S (v:=a.eval x) (by simp[execOp,hb]) hx
  ·rename_i e
   simp only[OiE,PiE] at h
   obtain⟨rfl,rfl,rfl⟩:=h
   rw[e] at hx
   obtain⟨b,hb⟩:=hx.xG
   exact fi.same S (v:=a.eval x) (by simp[execOp,hb]) hx
  ·rename_i e
   simp only[OiE,PiE] at h
   obtain⟨rfl,rfl,rfl⟩:=h
   rw[e] at hx
   obtain⟨vs,hb,_⟩:=hx.FG
   exact fi.same S (v:=a.eval x) (by simp[execOp,hb]) hx
  ·rename_i e
   simp only[OiE,PiE] at h
   obtain⟨rfl,rfl,rfl⟩:=h
   rw[e] at hx
   obtain⟨vs,hb,_⟩:=hx.FX
   exact fi.same S (v:=a.eval x) (by simp[execOp,hb]) hx
  ·rename_i e
   simp only[OiE,PiE] at h
   obtain⟨rfl,rfl,rfl⟩:=h
   rw[e] at hx
   have hb:=hx.lf
   exact fi.same S (v:=a.eval x) (by simp[execOp,hb]) hx
  ·cases h
 | binOp op t x y t' =>
  simp only[an] at h
  split at h
  ·rename_i z hb
   simp only[OiE,PiE] at h
   obtain⟨rfl,rfl,rfl⟩:=h
   obtain⟨v,h1,h2⟩:=aco hT hb (hf.eval x) (hf.eval y) x y
   exact fi.of0 S h1 h2
  ·cases h
 | unOp op t x =>
  simp only[an] at h
  split at h
  ·rename_i z hb
   simp only[OiE,PiE] at h
   obtain⟨rfl,rfl,rfl⟩:=h
   obtain⟨v,h1,h2⟩:=adC (P:=P) hb (hf.eval x)
   exact fi.of0 S h1 h2
  ·cases h
 | convert src dst' x =>
  simp only[an] at h
  split at h
  ·rename_i z ids hb
   simp only[OiE,PiE] at h
   obtain⟨rfl,rfl,rfl⟩:=h
   obtain⟨v,w',h1,h2,h3,h4⟩:=WE (P:=P) hT S hb (hf.eval x)
   exact fi.of h1 h2 h3 h4
  ·cases h
 | makeFunc fn first captured =>
  cases fn with
  | func f =>
   simp only[an] at h
   split at h
   ·rename_i h0
    simp only[OiE,PiE] at h
    obtain⟨rfl,rfl,rfl⟩:=h
    have e:first=#[]:=Array.size_eq_zero_iff.1 h0
    subst e
    refine fi.of0 S (v:=.func (.func f) #[] (captured.map a.eval)) (by simp[Instr.makeFunc]) (.clos f _ _ (by simp) (fun k c v h1 h2 => ?_))
    rw[getElem?_map] at h1
    rw[Array.getElem?_map] at h2
    cases hk:captured[k]? with
    | none=>simp[hk] at h2
    | some y =>
     have hk':captured.toList[k]?=some y:=by simpa using hk
     simp[hk'] at h1;simp[hk] at h2
     subst h1;subst h2;exact hf.eval y
   ·split at h
    ·rename_i h0
     simp only[OiE,PiE] at h
     obtain⟨rfl,rfl,rfl⟩:=h
     have e:captured=#[]:=Array.size_eq_zero_iff.1 h0
     subst e
     refine fi.of0 S (v:=.func (.func f) (first.map a.eval) #[]) (by simp[Instr.makeFunc]) (.bmet f _ _ (by simp) (fun k c v h1 h2 => ?_))
     rw[getElem?_map] at h1
     rw[Array.getElem?_map] at h2
     cases hk:first[k]? with
     | none=>simp[hk] at h2
     | some y =>
      have hk':first.toList[k]?=some y:=by simpa using hk
      simp[hk'] at h1;simp[hk] at h2
      subst h1;subst h2;exact hf.eval y
    ·cases h
  | _=>simp[an] at h
 | makeSlice t l c =>
  simp only[an] at h
  split at h
  ·rename_i e l' c' hu hl hc
   split at h
   ·rename_i zs s by_ hz hs hb
    split at h
    ·rename_i hle
     simp only[OiE,PiE] at h
     obtain⟨rfl,rfl,rfl⟩:=h
     obtain⟨x,w',σ',h1,h2,h3,h4⟩:=aaY (P:=P) hT S hu hz hs hb hl hc (hf.eval l) (hf.eval c) hle
     exact fi.of h1 h2 h3 h4
    ·cases h
   ·cases h
  ·cases h
 | slice t x lo hi mx =>
  simp only[an] at h
  split at h
  ·rename_i z hb
   simp only[OiE,PiE] at h
   obtain⟨rfl,rfl,_⟩:=h
   obtain⟨u,h1,h2⟩:=Mq (P:=P) hT S hb (hf.eval x) (TS hf lo) (TS hf hi) (TS hf mx)
   exact fi.of0 S h1 h2
  ·cases h
 | fieldAddr t x i =>
  simp only[an] at h
  split at h
  ·rename_i z hb
   simp only[OiE,PiE] at h
   obtain⟨rfl,rfl,rfl⟩:=h
   obtain⟨v,h1,h2⟩:=yM (P:=P) hT hb (hf.eval x)
   exact fi.of0 S h1 h2
  ·cases h
 | field t x i =>
  simp only[an] at h
  split at h
  ·rename_i z hb
   simp only[OiE,PiE] at h
   obtain⟨rfl,rfl,rfl⟩:=h
   obtain⟨v,h1,h2⟩:=OX (P:=P) hT hb (hf.eval x)
   exact fi.of0 S h1 h2
  ·cases h
 | indexAddr t x i =>
  simp only[an] at h
  split at h
  ·rename_i z hb
   simp only[OiE,PiE] at h
   obtain⟨rfl,rfl,rfl⟩:=h
   obtain⟨v,h1,h2⟩:=yK (P:=P) hT hb (hf.eval x) (hf.eval i)
   exact fi.of0 S h1 h2
  ·cases h
 | index t x i =>
  simp only[an] at h
  split at h
  ·rename_i z hb
   simp only[OiE,PiE] at h
   obtain⟨rfl,rfl,rfl⟩:=h
   obtain⟨v,h1,h2⟩:=OO (P:=P) hT hb (hf.eval x) (hf.eval i)
   exact fi.of0 S h1 h2
  ·cases h
 | extract x i =>
  simp only[an] at h
  have hx:=hf.eval x
  split at h
  ·rename_i cs e
   split at h
   ·rename_i c hc
    simp only[OiE,PiE] at h
    obtain⟨rfl,rfl,rfl⟩:=h
    rw[e] at hx
    obtain⟨vs,ev,hl,hv⟩:=hx.Yw
    have hi:i<vs.size:=by have:=cQ hc;omega
    refine fi.of0 S (v:=vs[i]) ?_ (hv i c _ hc (Array.getElem?_eq_getElem hi))
    simp[ev,Instr.extract,hi]
   ·cases h
  ·cases h
 | call c =>
  obtain⟨callee,args,argTypes⟩:=c
  cases callee with
  | value f=>simp[an] at h
  | invoke r m=>simp[an] at h
  | builtin b =>
   have key:∀ (f:Array TypeId→TypeId→Array Value→Sem Value),(∀ cs vs,builtin b argTypes type cs vs=(do pure (.value (← f argTypes type vs))))→∀ CX,args.map a.eval=CX →
     fi P (do pure (.value (← f argTypes type CX))) w H σ hp r hp'→fi P (execOp a.eval ⟨dst,.call ⟨.builtin b,args,argTypes⟩,type,pos,after,guard⟩) w H σ hp r hp':=by
    intro f hb CX hv d
    have e:execOp a.eval ⟨dst,.call ⟨.builtin b,args,argTypes⟩,type,pos,after,guard⟩=builtin b argTypes type (args.map fun | .const _=>true | _=>false) (args.map a.eval):=rfl
    rw[e,hb,hv]
    exact d
   simp only[an] at h
   split at h
   ·rename_i x t e1 e2
    split at h
    ·rename_i z hb
     simp only[OiE,PiE] at h
     obtain⟨rfl,rfl,rfl⟩:=h
     obtain⟨ax,rfl,rfl⟩:=aih e1
     obtain rfl:=aiQ e2
     obtain⟨u,h1,h2⟩:=abe (P:=P) hT hb (hf.eval ax) type
     exact key Builtin.len_ (fun _ _=>rfl) #[a.eval ax] (by simp) (fi.of0 S h1 h2)
    ·cases h
   ·split at h
    ·rename_i z hb
     simp only[OiE,PiE] at h
     obtain⟨rfl,rfl,rfl⟩:=h
     obtain⟨u,h1,h2⟩:=Au (P:=P) (b:=true) (vs:=args.toList.map a.eval) hb (by simp) (fun k c v h1 h2=>by
      rw[getElem?_map] at h1 h2
      cases hk:args.toList[k]? with
      | none=>simp[hk] at h1
      | some y=>simp[hk] at h1 h2;subst h1;subst h2;exact hf.eval y) argTypes type
     have e:(args.toList.map a.eval).toArray=args.map a.eval:=by apply Array.ext';simp
     rw[e] at h1
     exact key Builtin.max_ (fun _ _=>rfl) _ rfl (fi.of0 S h1 h2)
    ·cases h
   ·split at h
    ·rename_i z hb
     simp only[OiE,PiE] at h
     obtain⟨rfl,rfl,rfl⟩:=h
     obtain⟨u,h1,h2⟩:=Au (P:=P) (b:=false) (vs:=args.toList.map a.eval) hb (by simp) (fun k c v h1 h2=>by
      rw[getElem?_map] at h1 h2
      cases hk:args.toList[k]? with
      | none=>simp[hk] at h1
      | some y=>simp[hk] at h1 h2;subst h1;subst h2;exact hf.eval y) argTypes type
     have e:(args.toList.map a.eval).toArray=args.map a.eval:=by apply Array.ext';simp
     rw[e] at h1
     exact key Builtin.min_ (fun _ _=>rfl) _ rfl (fi.of0 S h1 h2)
    ·cases h
   ·rename_i x y t t' e1 e2
    obtain⟨ax,ay,rfl,rfl,rfl⟩:=ajE e1
    obtain rfl:=ajT e2
    split at h
    ·rename_i e e' hu hu'
     split at h
     ·rename_i s by_ zs hs hb hz
      split at h
      ·rename_i hle
       split at h
       ·rename_i n new ids hr
        split at h
        ·rename_i hok
         split at h
         ·rename_i r' hp2 fp' hap
          simp only[OiE,PiE] at h
          obtain⟨rfl,rfl,rfl⟩:=h
          obtain⟨i,z,hTi,hiz,hzs⟩:=tE hz
          have hsi:i.size=s:=by unfold de at hs;rw[hTi] at hs;simpa using hs
          have hbi:i.bytes=by_:=by unfold fQ at hb;rw[hTi] at hb;simpa using hb
          subst hsi;subst hbi
          have hzz:z.cells.size=i.size:=by have:=hle.2;rw[hzs] at this;simpa using this
          obtain⟨news,q1,q2,q3,q4⟩:=adH (P:=P) S (jL hT hu') hr hok (hf.eval ay)
          obtain⟨u,w',σ',k1,k2,k3,k4⟩:=ym (ty:=type) S (jL hT hu) (hT e i hTi) hiz hzz hle.1 hap (hf.eval ax) q1 hok ⟨q2,q3⟩ q4
          exact key Builtin.append_ (fun _ _=>rfl) #[a.eval ax,a.eval ay] (by simp) (fi.of k1 k2 k3 k4)
         ·cases h
        ·cases h
       ·cases h
      ·cases h
     ·cases h
    ·rename_i e hu hu'
     split at h
     ·rename_i str he
      split at h
      ·rename_i z0 hu8 hs hb hz
       split at h
       ·rename_i r' hp2 fp' hap
        simp only[OiE,PiE] at h
        obtain⟨rfl,rfl,rfl⟩:=h
        obtain⟨i,z,hTi,hiz,hzs⟩:=tE hz
        have hsi:i.size=1:=by unfold de at hs;rw[hTi] at hs;simpa using hs
        have hbi:i.bytes=1:=by unfold fQ at hb;rw[hTi] at hb;simpa using hb
        have hzz:z.cells.size=i.size:=by
         have:=congrArg List.length hzs
         rw[hsi];simpa using this.symm
        have hay:=hf.eval ay
        rw[he] at hay
        have hv:=hay.lf
        have hsrc:=Src.ofString w (jL hT hu') str
        rw[← hsi] at hap hsrc
        obtain⟨u,w',σ',k1,k2,k3,k4⟩:=ym (ty:=type) S (jL hT hu) (hT e i hTi) hiz hzz (by omega) hap (hf.eval ax) (n:=(bO str).length) (news:=byteCells str) (by rw[fU];exact hsrc)
         (by
          have:∀ l:List UInt8,bd (l.map fun b=>PV.sc (.int .u8 b.toNat))=true:=by
           intro l
           induction l with
           | nil=>rfl
           | cons b l ih=>simp[bd,dK,ih]
          exact this _)
         ⟨by simp[byteCells,bO],fun k c u h1 h2=>by
          unfold byteCells at h2
          unfold bO at h1
          rw[getElem?_map] at h1 h2
          cases hk:str.data.toList[k]? with
          | none=>simp[hk] at h1
          | some y=>simp[hk] at h1 h2;subst h1;subst h2;exact .sc _⟩ (by rw[hsi];simp)
        rw[← hv] at k1
        exact key Builtin.append_ (fun _ _=>rfl) #[a.eval ax,a.eval ay] (by simp) (fi.of k1 k2 k3 k4)
       ·cases h
      ·cases h
     ·cases h
    ·cases h
   ·rename_i x t e1 e2
    obtain⟨ax,rfl,rfl⟩:=aih e1
    obtain rfl:=aiQ e2
    have hax:=hf.eval ax
    split at h
    ·rename_i e id s' off len x hu hx
     split at h
     ·rename_i s zs hs hz
      split at h
      ·rename_i hc
       obtain⟨hss,hzs,hok⟩:=hc
       subst hss
       split at h
       ·rename_i old hid
        split at h
        ·rename_i l hl
         simp only[OiE,PiE] at h
         obtain⟨rfl,rfl,rfl⟩:=h
         rw[hx] at hax
         rw[cW] at hid
         obtain⟨w',h1,h2,h3⟩:=WJ (P:=P) (ty:=type) hT S hu hz hzs hax hid hok hl
         rw[← jl] at h2 h3
         exact key Builtin.clear_ (fun _ _=>rfl) #[a.eval ax] (by simp) (fi.of (σ':=σ) h1 (.tup _ _ rfl (fun k c v h=>by simp at h)) h2 h3)
        ·cases h
       ·cases h
      ·cases h
     ·cases h
    ·cases h
   ·cases h
 | _=>simp[an] at h
end
section
variable {P:Program} {T:Tab} {w:World} {H:Nat→Prop} {hp:Θ} {σ:List Addr}
def NoL:Nat→Prop:=fun _=>False
theorem V.idf {M M':Nat→Prop}{L L':Nat→Prop}{σ':List Addr}(hM:∀ b,b<w.heap.size→M' b→M b){p:PV}{v:Value}(hv:V w M σ L p v)(h:p.cF=true):V w M' σ' L' p v:=by
 induction hv with
 | any v=>exact .any v
 | sc v=>exact .sc v
 | agg cs vs hl _ ih =>
  simp only[PV.cF] at h
  exact .agg cs vs hl (fun k c v h1 h2=>ih k c v h1 h2 (eN h h1))
 | tup cs vs hl _ ih =>
  simp only[PV.cF] at h
  exact .tup cs vs hl (fun k c v h1 h2=>ih k c v h1 h2 (eN h h1))
 | nil x=>exact .nil x
 | imm len x cs a cap g h1 h2 h3 _ ih =>
  refine .imm len x cs a cap g h1 h2 (fun k c hk => ?_) (fun k c hk=>ih k c hk (h3 k c hk).2.1)
  obtain⟨e1,e2,e3,e4⟩:=h3 k c hk
  exact⟨e1,e2,fun hm=>e3 (hM _ (World.block_lt_of_cell? _ ⟨a.block,a.off+k,none⟩ e4) hm),e4⟩
 | own=>simp[PV.cF] at h
 | ptr=>simp[PV.cF] at h
 | iptr cs a g h3 _ ih =>
  refine .iptr cs a g (fun k c hk => ?_) (fun k c hk=>ih k c hk (h3 k c hk).2.1)
  obtain⟨e1,e2,e3,e4⟩:=h3 k c hk
  exact⟨e1,e2,fun hm=>e3 (hM _ (World.block_lt_of_cell? _ ⟨a.block,a.off+k,none⟩ e4) hm),e4⟩
 | clos f cs vs hl _ ih =>
  simp only[PV.cF] at h
  exact .clos f cs vs hl (fun k c v h1 h2=>ih k c v h1 h2 (eN h h1))
 | bmet=>simp[PV.cF] at h
 | mp=>simp[PV.cF] at h
def but (H:Nat→Prop)(σ:List Addr)(hp:Θ)(ids:Ω)(b:Nat):Prop:=H b∨∃ i a,((aY hp i∧i ∉ ids)∨iT hp i)∧σ[i]?=some a∧a.block=b
theorem acm {ids:Ω}{b:Nat}(h:but H σ hp ids b):hot H σ hp b:=by
 rcases h with h | ⟨i,a,h1,h2,h3⟩
 ·exact .inl h
 ·exact .inr ⟨i,a,h1.imp (fun h=>h.1) id,h2,h3⟩
theorem ff {f:PV→Option (PV × Ω)} : ∀ {cs l:Ψ} {ids:Ω},bj f cs=some (l,ids) →
  l.length=cs.length∧∀ (k:Nat) c,cs[k]?=some c→∃ c' i',l[k]?=some c'∧f c=some (c',i')∧∀ x ∈ i',x ∈ ids
 | [],l,ids,h=>by
  simp[bj] at h;obtain⟨rfl,rfl⟩:=h
  exact⟨rfl,fun k c hk=>by simp at hk⟩
 | c::cs,l,ids,h=>by
  simp only[bj] at h
  cases hf:f c with
  | none=>simp[hf] at h
  | some x =>
   obtain⟨c',i1⟩:=x
   simp only[hf] at h
   cases hm:bj f cs with
   | none=>simp[hm] at h
   | some y =>
    obtain⟨l',i2⟩:=y
    simp only[hm,OiE,PiE] at h
    obtain⟨rfl,rfl⟩:=h
    obtain⟨h1,h2⟩:=ff hm
    refine⟨by simp[h1],fun k d hk => ?_⟩
    cases k with
    | zero=>simp at hk;subst hk;exact⟨c',i1,rfl,hf,fun x hx=>mem_append_left _ hx⟩
    | succ k =>
     simp at hk
     obtain⟨c2,i3,e1,e2,e3⟩:=h2 k d hk
     exact⟨c2,i3,by simpa using e1,e2,fun x hx=>mem_append_right _ (e3 x hx)⟩
theorem mG {cs:Ψ}(h:∀ (k:Nat) c,cs[k]?=some c→c.cF=true):bM cs=true:=by
 induction cs with
 | nil=>rfl
 | cons c cs ih =>
  simp only[bM,Bool.and_eq_true]
  exact⟨h 0 c rfl,ih (fun k d hk=>h (k+1) d (by simpa using hk))⟩
theorem oD (S:Sim w H σ hp){all:Ω} : ∀ (d:Nat) {p p':PV} {ids:Ω} {v:Value},snap hp d p=some (p',ids)→(∀ x ∈ ids,x ∈ all)→V w (hot H σ hp) σ (aY hp) p v →
  V w (but H σ hp all) [] NoL p' v∧p'.cF=true
 | 0,p,p',ids,v,h,_,_=>by simp[snap] at h
 | d+1,p,p',ids,v,h,hi,hv=>by
  have list:∀ {cs l:Ψ} {ids:Ω},bj (snap hp d) cs=some (l,ids)→(∀ x ∈ ids,x ∈ all)→∀ (k:Nat) c v,cs[k]?=some c→V w (hot H σ hp) σ (aY hp) c v →
    ∃ c',l[k]?=some c'∧V w (but H σ hp all) [] NoL c' v∧c'.cF=true:=by
   intro cs l ids hm hi k c v hk hv
   obtain⟨_,h2⟩:=ff hm
   obtain⟨c',i',e1,e2,e3⟩:=h2 k c hk
   obtain⟨r1,r2⟩:=oD S d e2 (fun x hx=>hi x (e3 x hx)) hv
   exact⟨c',e1,r1,r2⟩
  have rest:p'=p→p.cF=true→V w (but H σ hp all) [] NoL p' v∧p'.cF=true:=by
   intro e hf
   subst e
   exact⟨hv.idf (fun b _ hb=>acm hb) hf,hf⟩
  cases p with
  | own id s off len x =>
   simp only[snap,cW] at h
   cases hb:hp[id]? with
   | none=>simp[hb] at h
   | some blk =>
    cases blk with
    | mk st cs =>
     simp only[hb] at h
     split at h
     ·cases h
     ·rename_i hd
      cases ht:bD (bq cs off) (len*s) with
      | none=>simp[ht] at h
      | some l =>
       simp only[ht] at h
       cases hm:bj (snap hp d) l with
       | none=>simp[hm] at h
       | some y =>
        obtain⟨l',ids'⟩:=y
        simp only[hm,OiE,PiE] at h
        obtain⟨rfl,rfl⟩:=h
        obtain⟨hle,rfl⟩:=fw ht
        rw[cA] at *
        obtain⟨hlen',_⟩:=ff hm
        have hid:id ∈ all:=hi id (by simp)
        cases hv with
        | own _ _ _ _ _ a b cap g1 g2 g3 g4 g5 =>
         obtain⟨gA,hgA⟩:=oP S (off:=off) (m:=len*s) hb hd g1
         have hcap:∀ (k:Nat) c,l'[k]?=some c→0<cap:=by
          intro k c hk
          have:=cQ hk
          rw[hlen',length_take] at this
          rcases Nat.eq_zero_or_pos cap with h0 | h0
          ·have:len=0:=by omega
           subst this;simp at this
          ·exact h0
         have hcell:∀ (k:Nat) c',l'[k]?=some c'→∃ c,((cs.drop off).take (len*s))[k]?=some c:=by
          intro k c' hk
          have:=cQ hk
          rw[hlen'] at this
          exact⟨_,List.getElem?_eq_getElem this⟩
         refine⟨.imm len x l' b cap gA g2 g3 (fun k c' hk => ?_) (fun k c' hk => ?_),rfl⟩
         ·obtain⟨c,hc⟩:=hcell k c' hk
          obtain⟨e1,e2,e3⟩:=hgA k c hc
          obtain⟨c2,f1,f2,f3⟩:=list hm (fun x hx=>hi x (mem_cons_of_mem _ hx)) k c _ hc e3
          rw[hk] at f1;cases f1
          have eb:=g4 (hcap k c' hk)
          subst eb
          refine⟨rfl,f3,?_,e2⟩
          rintro (hh | ⟨i,a',⟨i1,i2⟩| ⟨ds,hds⟩,i3,i4⟩)
          ·exact S.own id st cs a hb hd g1 hh
          rotate_left
          ·obtain⟨-,es,ck,hb',-⟩:=S.maps i ds a' hds i3
           simp only at i4
           rw[i4] at hb'
           simp[World.cell?,hb'] at e2
          ·by_cases e:i=id
           ·subst e;exact i2 hid
           ·exact S.inj i id a' a st cs i1 hb hd e i3 g1 i4
         ·obtain⟨c,hc⟩:=hcell k c' hk
          obtain⟨e1,e2,e3⟩:=hgA k c hc
          obtain⟨c2,f1,f2,f3⟩:=list hm (fun x hx=>hi x (mem_cons_of_mem _ hx)) k c _ hc e3
          rw[hk] at f1;cases f1
          exact f2
  | agg cs =>
   simp only[snap] at h
   cases hm:bj (snap hp d) cs with
   | none=>simp[hm] at h
   | some y =>
    obtain⟨l',ids'⟩:=y
    simp only[hm,OiE,PiE] at h
    obtain⟨rfl,rfl⟩:=h
    obtain⟨hlen',_⟩:=ff hm
    cases hv with
    | agg _ vs h1 h2 =>
     have key:∀ (k:Nat) c',l'[k]?=some c'→∃ v,vs[k]?=some v∧V w (but H σ hp all) [] NoL c' v∧c'.cF=true:=by
      intro k c' hk
      have hk':=cQ hk
      have hk1:k<cs.length:=by omega
      have hk2:k<vs.size:=by omega
      obtain⟨c2,f1,f2,f3⟩:=list hm hi k cs[k] vs[k] (List.getElem?_eq_getElem hk1) (h2 k _ _ (List.getElem?_eq_getElem hk1) (Array.getElem?_eq_getElem hk2))
      rw[hk] at f1;cases f1
      exact⟨_,Array.getElem?_eq_getElem hk2,f2,f3⟩
     refine⟨.agg l' vs (by omega) (fun k c v hk hv => ?_),?_⟩
     ·obtain⟨v',e1,e2,_⟩:=key k c hk
      rw[hv] at e1;cases e1;exact e2
     ·simp only[PV.cF]
      exact mG (fun k c hk=>(key k c hk).choose_spec.2.2)
  | ptr=>simp[snap] at h
  | mp=>simp[snap] at h
  | bmet=>simp[snap] at h
  | clos f caps =>
   simp only[snap] at h
   split at h
   ·rename_i hf
    simp only[OiE,PiE] at h
    exact rest h.1.symm (by simp only[PV.cF];exact hf)
   ·cases h
  | tup=>simp[snap] at h
  | any=>simp only[snap,OiE,PiE] at h;exact rest h.1.symm rfl
  | sc v=>simp only[snap,OiE,PiE] at h;exact rest h.1.symm rfl
  | imm=>simp only[snap,OiE,PiE] at h;exact rest h.1.symm rfl
  | iptr=>simp only[snap,OiE,PiE] at h;exact rest h.1.symm rfl
theorem Di (S:Sim w H σ hp){ps ps':Ψ}{ids all:Ω}{vs:List Value}{d:Nat}(h:bj (snap hp d) ps=some (ps',ids))(hi:∀ x ∈ ids,x ∈ all)(hv:Vs w (hot H σ hp) σ (aY hp) ps vs) :
  Vs w (but H σ hp all) [] NoL ps' vs∧bM ps'=true:=by
 obtain⟨hl,h2⟩:=ff h
 have key:∀ (k:Nat) c',ps'[k]?=some c'→∃ c i',ps[k]?=some c∧snap hp d c=some (c',i')∧∀ x ∈ i',x ∈ all:=by
  intro k c' hk
  have hk':=cQ hk
  have hk1:k<ps.length:=by omega
  obtain⟨c2,i',e1,e2,e3⟩:=h2 k _ (List.getElem?_eq_getElem hk1)
  rw[hk] at e1;cases e1
  exact⟨_,i',List.getElem?_eq_getElem hk1,e2,fun x hx=>hi x (e3 x hx)⟩
 refine⟨⟨by rw[hl];exact hv.1,fun k c' v hk hvk => ?_⟩,mG (fun k c' hk => ?_)⟩
 ·obtain⟨c,i',e1,e2,e3⟩:=key k c' hk
  exact (oD S d e2 e3 (hv.2 k c v e1 hvk)).1
 ·obtain⟨c,i',e1,e2,e3⟩:=key k c' hk
  have hk1:=cQ e1
  have hk2:k<vs.length:=by rw[← hv.1];exact hk1
  exact (oD S d e2 e3 (hv.2 k c _ e1 (List.getElem?_eq_getElem hk2))).2
end
def BI:List Value→Value
 | [v]=>v
 | vs=>.tuple vs.toArray
def jk (P:Program)(g:FuncId)(vs:Array Value)(w:World)(R:Value→World→Prop):Prop :=
 match (callFunc g vs).run P w with
 | .ok (.value v) w'=>R v w'
 | .ok (.enter f args) w'=>Calls P f args w' fun e w''=>∃ v,e = .returned v∧R v w''
 | _=>False
theorem jk.mono {P:Program}{g:FuncId}{vs:Array Value}{w:World}{R R':Value→World→Prop}(h:jk P g vs w R)(hr:∀ v w',R v w'→R' v w'):jk P g vs w R':=by
 unfold jk at *
 split
 ·rename_i e;rw[e] at h;exact hr _ _ h
 ·rename_i e;rw[e] at h;exact h.mono fun e w'' ⟨v,h1,h2⟩=>⟨v,h1,hr _ _ h2⟩
 ·rename_i h1 h2
  split at h
  ·rename_i e;exact (h1 _ _ e).elim
  ·rename_i e;exact (h2 _ _ _ e).elim
  ·exact h
section
variable {P:Program} {T:Tab} {w:World} {H:Nat→Prop} {hp:Θ} {σ:List Addr}
theorem Vs.one {M:Nat→Prop}{L:Nat→Prop}{p:PV}{v:Value}(h:Vs w M σ L [p] [v]):V w M σ L p v:=h.2 0 p v rfl rfl
theorem sz {M:Nat→Prop}{L:Nat→Prop}{rs:Ψ}{vs:List Value}(h:Vs w M σ L rs vs):V w M σ L (ja rs) (BI vs):=by
 have tup:V w M σ L (.tup rs) (.tuple vs.toArray):=.tup rs vs.toArray (by simpa using h.1) (fun k c v h1 h2=>h.2 k c v h1 (by simpa using h2))
 match rs,vs,h with
 | [],[],h=>exact tup
 | [r],[v],h=>exact h.one
 | _::_::_,_::_::_,h=>exact tup
 | [],_::_,h=>simp[Vs] at h
 | _::_,[],h=>simp[Vs] at h
 | [_],_::_::_,h=>simp[Vs] at h
 | _::_::_,[_],h=>simp[Vs] at h
theorem DM {cs:Ψ}(h:qH cs=true){k:Nat}{c:PV}(hk:cs[k]?=some c):∃ v,c = .sc v:=by
 induction cs generalizing k with
 | nil=>simp at hk
 | cons d cs ih =>
  cases d with
  | sc v =>
   simp only[qH] at h
   cases k with
   | zero=>simp at hk;exact⟨v,hk.symm⟩
   | succ k=>simp at hk;exact ih h hk
  | _=>simp[qH] at h
theorem zv {w':World}{M M':Nat→Prop}{L L':Nat→Prop}{σ':List Addr}{p:PV}{v:Value}(h:ed p=true)(hv:V w M σ L p v):V w' M' σ' L' p v:=by
 cases hv with
 | sc v=>exact .sc v
 | agg cs vs h1 h2 =>
  refine .agg cs vs h1 (fun k c v hk hv => ?_)
  obtain⟨u,rfl⟩:=DM h hk
  have:=(h2 k _ v hk hv).lf
  subst this;exact .sc _
 | _=>simp[ed] at h
theorem nt:∀ (ids:Ω) (hp:Θ),(roB hp ids).length=hp.length∧(∀ i,aY (roB hp ids) i→aY hp i∧i ∉ ids)∧(∀ i,iT (roB hp ids) i→iT hp i)
 | [],hp=>⟨rfl,fun i h=>⟨h,by simp⟩,fun _ h=>h⟩
 | id::ids,hp=>by
  simp only[roB,cW]
  split
  ·rename_i cs hb
   rw[jl]
   obtain⟨h1,h2,hm⟩:=nt ids (hp.set id ⟨.ro,cs⟩)
   refine⟨by rw[h1];simp,fun i hi => ?_,fun i hi=>by
    obtain⟨ds,hd⟩:=hm i hi
    by_cases e:id=i
    ·subst e;rw[getElem?_set_self (cQ hb)] at hd;cases hd
    ·rw[getElem?_set_ne e] at hd;exact⟨ds,hd⟩⟩
   obtain⟨h3,h4⟩:=h2 i hi
   have h5:=pM (b:=⟨.ro,cs⟩) (fun e=>by cases e) h3
   refine⟨h5,fun hm => ?_⟩
   rcases mem_cons.1 hm with e | e
   ·subst e
    obtain⟨ds,hd⟩:=h3
    rw[getElem?_set_self (cQ hb)] at hd
    cases hd
   ·exact h4 e
  ·rename_i hb
   obtain⟨h1,h2,hmm⟩:=nt ids hp
   refine⟨h1,fun i hi => ?_,hmm⟩
   obtain⟨h3,h4⟩:=h2 i hi
   refine⟨h3,fun hm => ?_⟩
   rcases mem_cons.1 hm with e | e
   ·subst e
    obtain⟨ds,hd⟩:=h3
    exact hb ds hd
   ·exact h4 e
theorem GL:∀ (ids:Ω) {hp:Θ},Sim w H σ hp→Sim w H σ (roB hp ids)∧Step w (cS σ hp) σ (aY hp) w (cS σ (roB hp ids)) σ (aY (roB hp ids))
 | [],hp,S=>⟨S,Step.refl _ _ _ _⟩
 | id::ids,hp,S=>by
  simp only[roB,cW]
  split
  ·rename_i cs hb
   rw[jl]
   obtain⟨h1,h2⟩:=Dr (st':=.ro) (cs':=cs) S hb (.inr ⟨by simp,rfl,rfl⟩)
   obtain⟨h3,h4⟩:=GL ids h1
   exact⟨h3,h2.trans h4⟩
  ·exact GL ids S
structure Old (w w':World):Prop where
 os:w'.os=w.os
 tape:w'.tape=w.tape
 output:w'.output=w.output
 size:w.heap.size≤w'.heap.size
 same:∀ (b:Nat),b<w.heap.size→w'.heap[b]?=w.heap[b]?
theorem Old.shape {w w':World}(h:Old w w')(σ:List Addr)(L:Nat→Prop):Shape w σ w' L:=iA fun b c e f hb=>by
  have:b<w.heap.size:=by
   rcases Nat.lt_or_ge b w.heap.size with h' | h'
   ·exact h'
   ·simp[Array.getElem?_eq_none h'] at hb
  exact⟨c,by rw[h.same b this];exact hb,rfl⟩
theorem Old.step {w w':World}(h:Old w w')(M:Nat→Prop)(σ:List Addr)(L:Nat→Prop):Step w M σ L w' M σ L :=
 ⟨h.os,h.tape,h.output,h.size,fun _ _ h=>h,fun b hb _=>h.same b hb,h.shape _ _,fun _ _ h=>h,fun _ _ h=>h⟩
theorem Bx {w w':World}(S:Sim w H σ hp)(h:Old w w'):Sim w' H σ hp :=
 ⟨S.len,fun i a ha=>Nat.lt_of_lt_of_le (S.spot i a ha) h.size,fun b hb=>Nat.lt_of_lt_of_le (S.foreign b hb) h.size,fun i s cs a hi hd ha k c hk=>by
  obtain⟨v,h1,h2⟩:=S.cells i s cs a hi hd ha k c hk
  exact⟨v,by rw[gi (w:=w) (w':=w') (a:=⟨a.block,a.off+k,none⟩) (h.same _ (S.spot i a ha))];exact h1,h2.step (h.step _ _ _)⟩,
 S.own,fun i a cs hi ha=>by
  obtain⟨c,e,h2,h3⟩:=S.live i a cs hi ha
  exact⟨c,e,by rw[h.same _ (S.spot i a ha)];exact h2,h3⟩,S.inj,fun i cs a hi ha=>by
  obtain⟨h1,es,ck,h2,h3⟩:=S.maps i cs a hi ha
  exact⟨h1,es,ck,by rw[h.same _ (S.spot i a ha)];exact h2,h3.step (h.step _ _ _)⟩,S.injm⟩
theorem JZ (hH:∀ b,H b→b<w.heap.size):Sim w H [] [] :=
 ⟨rfl,fun i a h=>by simp at h,hH,fun i s cs a h=>by simp at h,fun i s cs a h=>by simp at h,fun i a cs h=>by simp at h,fun i j a b s cs h=>by obtain⟨ds,hd⟩:=h;simp at hd,fun i cs a h=>by simp at h,fun i j a b h=>by obtain⟨ds,hd⟩:=h;simp at hd⟩
end
structure Fin (hp:Θ) (kept:Θ) (K F:Ω):Prop where
 len:kept.length=K.length
 blk:∀ (j:Nat) id,K[j]?=some id→∃ cs cs' ids,hp[id]?=some ⟨.live,cs⟩∧bj (snap hp bp) cs=some (cs',ids)∧(∀ x ∈ ids,x ∈ F)∧kept[j]?=some ⟨.live,cs'⟩
 nodup:K.Nodup
 apart:∀ x ∈ K,x ∉ F
theorem Fin.more {hp kept:Θ}{K F:Ω}(h:Fin hp kept K F){ids:Ω}(hi:∀ x ∈ ids,x ∉ K):Fin hp kept K (ids++F) :=
 ⟨h.len,fun j id hj=>by
  obtain⟨cs,cs',i',e1,e2,e3,e4⟩:=h.blk j id hj
  exact⟨cs,cs',i',e1,e2,fun x hx=>mem_append_right _ (e3 x hx),e4⟩,h.nodup,fun x hx hm=>by
  rcases mem_append.1 hm with hm | hm
  ·exact hi x hm hx
  ·exact h.apart x hx hm⟩
theorem Fin.snoc {hp kept:Θ}{K F:Ω}(h:Fin hp kept K F){id:Nat}{cs cs':Ψ}{ids:Ω}(hb:hp[id]?=some ⟨.live,cs⟩)(hs:bj (snap hp bp) cs=some (cs',ids))
  (h1:id ∉ K) (h2:id ∉ F) (h3:id ∉ ids) (h4:∀ x ∈ ids,x ∉ K):Fin hp (kept++[⟨.live,cs'⟩]) (K++[id]) (ids++F):=by
 refine⟨by simp[h.len],fun j i hj => ?_,?_,fun x hx hm => ?_⟩
 ·rcases ee hj with ⟨hlt,hj⟩| ⟨hlt,hj⟩
  ·obtain⟨ds,ds',i',e1,e2,e3,e4⟩:=h.blk j i hj
   exact⟨ds,ds',i',e1,e2,fun x hx=>mem_append_right _ (e3 x hx),by rw[getElem?_append_left (by rw[h.len];exact hlt)];exact e4⟩
  ·subst hj
   exact⟨cs,cs',ids,hb,hs,fun x hx=>mem_append_left _ hx,by rw[hlt,← h.len];simp⟩
 ·rw[nodup_append]
  exact⟨h.nodup,by simp,fun a ha b hb e=>by simp at hb;subst hb;subst e;exact h1 ha⟩
 ·rcases mem_append.1 hx with hx | hx
  ·rcases mem_append.1 hm with hm | hm
   ·exact h4 x hm hx
   ·exact h.apart x hx hm
  ·simp at hx;subst hx
   rcases mem_append.1 hm with hm | hm
   ·exact h3 hm
   ·exact h2 hm
theorem rZ {l m:Ω}(h:l.any m.contains=false):∀ x ∈ l,x ∉ m:=by
 intro x hx hm
 have:l.any m.contains=true:=any_eq_true.2 ⟨x,hx,by simpa using hm⟩
 rw[h] at this;cases this
def Hand (hp:Θ)(K F:Ω)(r r':PV):Prop :=
 (∃ id s off len x j,r = .own id s off len x∧r' = .own j s off len x∧K[j]?=some id)∨∃ ids,snap hp bp r=some (r',ids)∧∀ x ∈ ids,x ∈ F
theorem pR (hp:Θ):∀ (rs:Ψ) (kept:Θ) (K K0 F:Ω) (rs':Ψ) (kept':Θ),eW hp kept K F rs=some (rs',kept')→(∀ x,x ∈ K ↔ x ∈ K0)→Fin hp kept K0 F →
  ∃ K1 F1,Fin hp kept' (K0++K1) F1∧(∀ x ∈ F,x ∈ F1)∧rs'.length=rs.length∧∀ (k:Nat) r r',rs[k]?=some r→rs'[k]?=some r'→Hand hp (K0++K1) F1 r r'
 | [],kept,K,K0,F,rs',kept',h,_,hF=>by
  simp[eW] at h
  obtain⟨rfl,rfl⟩:=h
  exact⟨[],F,by simpa using hF,fun _ h=>h,rfl,fun k r r' h=>by simp at h⟩
 | r::rs,kept,K,K0,F,rs',kept',h,hK,hF=>by
  have other:∀ (r':PV) (ids:Ω) (rs2:Ψ),snap hp bp r=some (r',ids)→ids.any K.contains=false→eW hp kept K (ids++F) rs=some (rs2,kept')→rs'=r'::rs2 →
    ∃ K1 F1,Fin hp kept' (K0++K1) F1∧(∀ x ∈ F,x ∈ F1)∧rs'.length=(r::rs).length∧∀ (k:Nat) r1 r1',(r::rs)[k]?=some r1→rs'[k]?=some r1'→Hand hp (K0++K1) F1 r1 r1':=by
   intro r' ids rs2 hs ha hf e
   subst e
   obtain⟨K1,F1,g1,g2,g3,g4⟩:=pR hp rs kept K K0 (ids++F) rs2 kept' hf hK (hF.more (fun x hx hm=>rZ ha x hx ((hK x).2 hm)))
   refine⟨K1,F1,g1,fun x hx=>g2 x (mem_append_right _ hx),by simp[g3],fun k r1 r1' h1 h2 => ?_⟩
   cases k with
   | zero =>
    simp at h1 h2;subst h1;subst h2
    exact .inr ⟨ids,hs,fun x hx=>g2 x (mem_append_left _ hx)⟩
   | succ k=>simp at h1 h2;exact g4 k r1 r1' h1 h2
  have other':(match snap hp bp r with
    | some (r',ids)=>if ids.any K.contains then none else match eW hp kept K (ids++F) rs with
     | some (rs',k)=>some (r'::rs',k)
     | none=>none
    | none=>none)=some (rs',kept') →
    ∃ K1 F1,Fin hp kept' (K0++K1) F1∧(∀ x ∈ F,x ∈ F1)∧rs'.length=(r::rs).length∧∀ (k:Nat) r1 r1',(r::rs)[k]?=some r1→rs'[k]?=some r1'→Hand hp (K0++K1) F1 r1 r1':=by
   intro h
   split at h
   ·rename_i r' ids hs
    split at h
    ·cases h
    ·rename_i ha
     split at h
     ·rename_i rs2 k hf
      simp only[OiE,PiE] at h
      obtain⟨rfl,rfl⟩:=h
      exact other r' ids rs2 hs (by simpa using ha) hf rfl
     ·cases h
   ·cases h
  cases r with
  | own id s off len x =>
   simp only[eW,cW] at h
   split at h
   ·rename_i cs hb
    split at h
    ·rename_i cs' ids hs
     split at h
     ·cases h
     ·rename_i hc
      split at h
      ·rename_i rs2 k hf
       simp only[OiE,PiE] at h
       obtain⟨rfl,rfl⟩:=h
       simp only[Bool.or_eq_true,not_or,Bool.not_eq_true] at hc
       obtain⟨⟨⟨c1,c2⟩,c3⟩,c4⟩:=hc
       have n1:id ∉ K0:=fun hm=>by
        have:K.contains id=true:=by simpa using (hK id).2 hm
        rw[c1] at this;cases this
       have n2:id ∉ F:=fun hm=>by
        have:F.contains id=true:=by simpa using hm
        rw[c2] at this;cases this
       have n3:id ∉ ids:=fun hm=>by
        have:ids.contains id=true:=by simpa using hm
        rw[c3] at this;cases this
       have n4:∀ x ∈ ids,x ∉ K0:=fun x hx hm=>rZ c4 x hx ((hK x).2 hm)
       obtain⟨K1,F1,g1,g2,g3,g4⟩:=pR hp rs _ (id::K) (K0++[id]) (ids++F) rs2 k hf (fun x=>by simp[hK x];exact or_comm) (hF.snoc hb hs n1 n2 n3 n4)
       have e:K0++[id]++K1=K0++(id::K1):=by simp
       rw[e] at g1 g4
       refine⟨id::K1,F1,g1,fun x hx=>g2 x (mem_append_right _ hx),by simp[g3],fun k r1 r1' h1 h2 => ?_⟩
       cases k with
       | zero =>
        simp at h1 h2;subst h1;subst h2
        exact .inl ⟨id,s,off,len,x,kept.length,rfl,rfl,by rw[hF.len];simp⟩
       | succ k=>simp at h1 h2;exact g4 k r1 r1' h1 h2
      ·cases h
    ·cases h
   ·exact other' h
  | _ =>
   simp only[eW] at h
   exact other' h
section
variable {w:World} {H:Nat→Prop} {hp:Θ} {σ:List Addr}
theorem Vw (S:Sim w H σ hp){kept:Θ}{K F:Ω}(hF:Fin hp kept K F):∃ σk,Sim w H σk kept∧(∀ (j:Nat) id,K[j]?=some id→σk[j]?=σ[id]?)∧(∀ b,cS σk kept b→cS σ hp b) ∧
  (∀ b,hot H σk kept b→but H σ hp F b):=by
 have hid:∀ (j:Nat) id,K[j]?=some id→∃ a,σ[id]?=some a∧aY hp id:=by
  intro j id hj
  obtain⟨cs,cs',ids,e1,_⟩:=hF.blk j id hj
  have hlt:=cQ e1
  rw[← S.len] at hlt
  exact⟨σ[id],List.getElem?_eq_getElem hlt,cs,e1⟩
 let σk:List Addr:=K.map fun id=>(σ[id]?).getD ⟨0,0,none⟩
 have hσ:∀ (j:Nat) id,K[j]?=some id→σk[j]?=σ[id]?:=by
  intro j id hj
  obtain⟨a,ha,_⟩:=hid j id hj
  simp[σk,hj,ha]
 have hσ':∀ (j:Nat) a,σk[j]?=some a→∃ id,K[j]?=some id∧σ[id]?=some a∧aY hp id:=by
  intro j a ha
  have hlt:=cQ ha
  simp[σk] at hlt
  have hj:K[j]?=some K[j]:=List.getElem?_eq_getElem hlt
  obtain⟨a',ha',hl⟩:=hid j _ hj
  rw[hσ j _ hj,ha'] at ha
  cases ha
  exact⟨_,hj,ha',hl⟩
 have hown:∀ b,cS σk kept b→∃ i a,aY hp i∧i ∈ K∧σ[i]?=some a∧a.block=b:=by
  rintro b ⟨j,a,h1,h2,h3⟩
  obtain⟨id,k1,k2,k3⟩:=hσ' j a h2
  exact⟨id,a,k3,mem_of_getElem? k1,k2,h3⟩
 have hbut:∀ b,hot H σk kept b→but H σ hp F b:=by
  rintro b (h | h)
  ·exact .inl h
  ·obtain⟨i,a,h1,h2,h3,h4⟩:=hown b h
   exact .inr ⟨i,a,.inl ⟨h1,hF.apart i h2⟩,h3,h4⟩
 have cellV:∀ (j:Nat) id cs cs' ids a,K[j]?=some id→hp[id]?=some ⟨.live,cs⟩→bj (snap hp bp) cs=some (cs',ids)→(∀ x ∈ ids,x ∈ F)→σ[id]?=some a→∀ (k:Nat) c,cs'[k]?=some c →
   ∃ v,w.cell? ⟨a.block,a.off+k,none⟩=some v∧V w (hot H σk kept) σk (aY kept) c v:=by
  intro j id cs cs' ids a hj hb hs hi ha k c hk
  obtain⟨hl,h2⟩:=ff hs
  have hk1:k<cs.length:=by have:=cQ hk;omega
  obtain⟨c',i',e1,e2,e3⟩:=h2 k _ (List.getElem?_eq_getElem hk1)
  rw[hk] at e1;cases e1
  obtain⟨v,g1,g2⟩:=S.cells id .live cs a hb (by simp) ha k _ (List.getElem?_eq_getElem hk1)
  obtain⟨r1,r2⟩:=oD S bp e2 (fun x hx=>hi x (e3 x hx)) g2
  exact⟨v,g1,r1.idf (fun b _ hb=>hbut b hb) r2⟩
 have nomap:∀ {i:Nat} {cs:Ψ} {a:Addr},kept[i]?=some ⟨.dead,.any::cs⟩→σk[i]?=some a→False:=by
  intro i cs a hi ha
  obtain⟨id,k1,k2,k3⟩:=hσ' i a ha
  obtain⟨ds,ds',ids,e1,e2,e3,e4⟩:=hF.blk i id k1
  rw[hi] at e4;cases e4
 refine⟨σk,⟨?_,fun j a ha => ?_,S.foreign,fun j st cs a hj hd ha k c hk => ?_,fun j st cs a hj hd ha => ?_,fun j a cs hj ha => ?_,fun i j a b st cs hi hj hd hne ha hb => ?_,fun i cs a hi ha=>(nomap hi ha).elim,fun i j a b hi hj hne ha hb=>by obtain⟨ds,hi⟩:=hi;exact (nomap hi ha).elim⟩,hσ,fun b hb => ?_,hbut⟩
 ·simp[σk,hF.len]
 ·obtain⟨id,k1,k2,k3⟩:=hσ' j a ha;exact S.spot id a k2
 ·obtain⟨id,k1,k2,k3⟩:=hσ' j a ha
  obtain⟨ds,ds',ids,e1,e2,e3,e4⟩:=hF.blk j id k1
  rw[hj] at e4;cases e4
  exact cellV j id ds cs ids a k1 e1 e2 e3 k2 k c hk
 ·obtain⟨id,k1,k2,ds,k3⟩:=hσ' j a ha
  exact S.own id .live ds a k3 (by simp) k2
 ·obtain⟨id,k1,k2,k3⟩:=hσ' j a ha
  obtain⟨ds,ds',ids,e1,e2,e3,e4⟩:=hF.blk j id k1
  rw[hj] at e4;cases e4
  obtain⟨c,e,h1,h2⟩:=S.live id a ds e1 k2
  exact⟨c,e,h1,by rw[(ff e2).1];exact h2⟩
 ·obtain⟨id1,k1,k2,k3⟩:=hσ' i a ha
  obtain⟨id2,l1,l2,ds,l3⟩:=hσ' j b hb
  refine S.inj id1 id2 a b .live ds k3 l3 (by simp) (fun e => ?_) k2 l2
  subst e
  have h1:=cQ k1
  have h2:=cQ l1
  have e1:K[i]=id1:=by rw[List.getElem?_eq_getElem h1] at k1;simpa using k1
  have e2:K[j]=id1:=by rw[List.getElem?_eq_getElem h2] at l1;simpa using l1
  exact hne ((getElem_inj hF.nodup).1 (e1.trans e2.symm))
 ·obtain⟨i,a,h1,h2,h3,h4⟩:=hown b hb
  exact⟨i,a,.inl h1,h3,h4⟩
theorem m8 (hp:Θ):∀ (d:Nat) {p p':PV} {ids:Ω},snap hp d p=some (p',ids)→p'.cF=true
 | 0,p,p',ids,h=>by simp[snap] at h
 | d+1,p,p',ids,h=>by
  have list:∀ {cs l:Ψ} {ids:Ω},bj (snap hp d) cs=some (l,ids)→bM l=true:=by
   intro cs l ids hm
   obtain⟨h1,h2⟩:=ff hm
   refine mG (fun k c hk => ?_)
   have hk1:k<cs.length:=by have:=cQ hk;omega
   obtain⟨c',i',e1,e2,_⟩:=h2 k _ (List.getElem?_eq_getElem hk1)
   rw[hk] at e1;cases e1
   exact m8 hp d e2
  cases p with
  | own id s off len x =>
   simp only[snap,cW] at h
   split at h
   ·split at h
    ·cases h
    ·split at h
     ·split at h
      ·simp only[OiE,PiE] at h
       obtain⟨rfl,_⟩:=h;rfl
      ·cases h
     ·cases h
   ·cases h
  | agg cs =>
   simp only[snap] at h
   split at h
   ·rename_i hm
    simp only[OiE,PiE] at h
    obtain⟨rfl,_⟩:=h
    simp only[PV.cF]
    exact list hm
   ·cases h
  | clos f caps =>
   simp only[snap] at h
   split at h
   ·rename_i hf
    simp only[OiE,PiE] at h
    obtain⟨rfl,_⟩:=h
    simp only[PV.cF];exact hf
   ·cases h
  | ptr=>simp[snap] at h
  | mp=>simp[snap] at h
  | bmet=>simp[snap] at h
  | tup=>simp[snap] at h
  | any=>simp only[snap,OiE,PiE] at h;obtain⟨rfl,_⟩:=h;rfl
  | sc v=>simp only[snap,OiE,PiE] at h;obtain⟨rfl,_⟩:=h;rfl
  | imm=>simp only[snap,OiE,PiE] at h;obtain⟨rfl,_⟩:=h;rfl
  | iptr=>simp only[snap,OiE,PiE] at h;obtain⟨rfl,_⟩:=h;rfl
theorem AI (S:Sim w H σ hp){rs rs':Ψ}{kept:Θ}{vs:List Value}(h:eW hp [] [] [] rs=some (rs',kept))(hv:Vs w (hot H σ hp) σ (aY hp) rs vs) :
  ∃ σk,Sim w H σk kept∧Vs w (hot H σk kept) σk (aY kept) rs' vs∧(∀ b,cS σk kept b→cS σ hp b)∧(∀ (k:Nat) r,rs'[k]?=some r→r.cF=true∨∃ id s off len x,r = .own id s off len x)∧∀ (i:Nat) b,kept[i]?=some b→b.st = .live∧bM b.cs=true:=by
 obtain⟨K1,F1,g1,g2,g3,g4⟩:=pR hp rs [] [] [] [] rs' kept h (fun x=>Iff.rfl) ⟨rfl,fun j id h=>by simp at h,by simp,fun x h=>by simp at h⟩
 simp only[nil_append] at g1 g4
 obtain⟨σk,h1,h2,h3,h4⟩:=Vw S g1
 have key:∀ (k:Nat) r' ,rs'[k]?=some r'→∃ r v,rs[k]?=some r∧vs[k]?=some v∧Hand hp K1 F1 r r'∧V w (hot H σ hp) σ (aY hp) r v:=by
  intro k r' hk
  have hk1:k<rs.length:=by have:=cQ hk;omega
  have hk2:k<vs.length:=by have:=hv.1;omega
  exact⟨_,_,List.getElem?_eq_getElem hk1,List.getElem?_eq_getElem hk2,g4 k _ r' (List.getElem?_eq_getElem hk1) hk,hv.2 k _ _ (List.getElem?_eq_getElem hk1) (List.getElem?_eq_getElem hk2)⟩
 refine⟨σk,h1,⟨by rw[g3];exact hv.1,fun k r' v hk hvk => ?_⟩,h3,fun k r' hk => ?_,fun i b hb => ?_⟩
 ·obtain⟨r,v',e1,e2,e3,e4⟩:=key k r' hk
  rw[hvk] at e2;cases e2
  rcases e3 with ⟨id,s,off,len,x,j,rfl,rfl,hj⟩| ⟨ids,hs,hi⟩
  ·cases e4 with
   | own _ _ _ _ _ a b cap q1 q2 q3 q4 q5 =>
    refine .own j s off len x a b cap (by rw[h2 j id hj];exact q1) q2 q3 q4 (fun _=>q5 ?_)
    obtain⟨cs,cs',ids,f1,_⟩:=g1.blk j id hj
    exact⟨cs,f1⟩
  ·obtain⟨r1,r2⟩:=oD S bp hs hi e4
   exact r1.idf (fun b _ hb=>h4 b hb) r2
 ·obtain⟨r,v',e1,e2,e3,e4⟩:=key k r' hk
  rcases e3 with ⟨id,s,off,len,x,j,rfl,rfl,hj⟩| ⟨ids,hs,hi⟩
  ·exact .inr ⟨j,s,off,len,x,rfl⟩
  ·exact .inl (oD S bp hs hi e4).2
 ·have hi:i<K1.length:=by rw[← g1.len];exact cQ hb
  obtain⟨cs,cs',ids,e1,e2,e3,e4⟩:=g1.blk i _ (List.getElem?_eq_getElem hi)
  rw[hb] at e4;cases e4
  refine⟨rfl,mG (fun k c hk => ?_)⟩
  obtain⟨q1,q2⟩:=ff e2
  have hk1:k<cs.length:=by have:k<cs'.length:=cQ hk;omega
  obtain⟨c',i',f1,f2,_⟩:=q2 k _ (List.getElem?_eq_getElem hk1)
  rw[hk] at f1;cases f1
  exact m8 hp _ f2
theorem Q9 {w':World}{H':Nat→Prop}{σk:List Addr}{kept:Θ}(S:Sim w H σ hp)(ho:Old w w')(Sk:Sim w' H' σk kept)(hH:∀ b,hot H σ hp b→H' b)
  (hnew:∀ b,cS σk kept b→w.heap.size≤b) (hkl:∀ (i:Nat) b,kept[i]?=some b→b.st = .live) (hidf:∀ (i:Nat) b,kept[i]?=some b→bM b.cs=true) :
  Sim w' H (σ++σk) (hp++kept)∧Step w (cS σ hp) σ (aY hp) w' (cS (σ++σk) (hp++kept)) (σ++σk) (aY (hp++kept))∧(∀ b,hot H (σ++σk) (hp++kept) b→hot H' σk kept b):=by
 have hget:∀ {i:Nat} {a:Addr},(σ++σk)[i]?=some a→(i<hp.length∧σ[i]?=some a)∨(hp.length≤i∧σk[i - hp.length]?=some a):=by
  intro i a h
  rcases Nat.lt_or_ge i hp.length with h' | h'
  ·rw[getElem?_append_left (by rw[S.len];exact h')] at h;exact .inl ⟨h',h⟩
  ·rw[getElem?_append_right (by rw[S.len];exact h'),S.len] at h;exact .inr ⟨h',h⟩
 have hblk:∀ {i:Nat} {b:Blk},(hp++kept)[i]?=some b→(i<hp.length∧hp[i]?=some b)∨(hp.length≤i∧kept[i - hp.length]?=some b):=by
  intro i b h
  rcases Nat.lt_or_ge i hp.length with h' | h'
  ·rw[getElem?_append_left h'] at h;exact .inl ⟨h',h⟩
  ·rw[getElem?_append_right h'] at h;exact .inr ⟨h',h⟩
 have hlv:∀ {i:Nat},aY (hp++kept) i→(i<hp.length∧aY hp i)∨(hp.length≤i∧aY kept (i - hp.length)):=by
  rintro i ⟨cs,h⟩
  rcases hblk h with ⟨h1,h2⟩| ⟨h1,h2⟩
  ·exact .inl ⟨h1,cs,h2⟩
  ·exact .inr ⟨h1,cs,h2⟩
 have hmp:∀ {i:Nat},iT (hp++kept) i→i<hp.length∧iT hp i:=by
  rintro i ⟨cs,h⟩
  rcases hblk h with ⟨h1,h2⟩| ⟨h1,h2⟩
  ·exact⟨h1,cs,h2⟩
  ·have:=hkl _ _ h2;cases this
 have hov:∀ {i:Nat},xm (hp++kept) i→(i<hp.length∧xm hp i)∨(hp.length≤i∧xm kept (i - hp.length)):=by
  rintro i (h | h)
  ·exact (hlv h).imp (fun h=>⟨h.1,.inl h.2⟩) (fun h=>⟨h.1,.inl h.2⟩)
  ·exact .inl ⟨(hmp h).1,.inr (hmp h).2⟩
 have kown:∀ {i:Nat} {a:Addr} {b:Blk},kept[i]?=some b→σk[i]?=some a→cS σk kept a.block:=by
  intro i a b h1 h2
  refine⟨i,a,.inl ⟨b.cs,?_⟩,h2,rfl⟩
  rw[h1]
  have:=hkl i b h1
  cases b;simp at this;simp[this]
 have hown:∀ b,cS (σ++σk) (hp++kept) b→cS σ hp b∨cS σk kept b:=by
  rintro b ⟨i,a,h1,h2,h3⟩
  rcases hov h1 with ⟨l1,h1⟩| ⟨l1,h1⟩ <;> rcases hget h2 with ⟨l2,h2⟩| ⟨l2,h2⟩
  ·exact .inl ⟨i,a,h1,h2,h3⟩
  ·omega
  ·omega
  ·exact .inr ⟨_,a,h1,h2,h3⟩
 have hhot:∀ b,hot H (σ++σk) (hp++kept) b→hot H' σk kept b:=by
  rintro b (h | h)
  ·exact .inl (hH b (.inl h))
  ·rcases hown b h with h | h
   ·exact .inl (hH b (.inr h))
   ·exact .inr h
 have st0:=ho.step (cS σ hp) σ (aY hp)
 have st:Step w (cS σ hp) σ (aY hp) w' (cS (σ++σk) (hp++kept)) (σ++σk) (aY (hp++kept)):=by
  refine⟨st0.os,st0.tape,st0.output,st0.size,fun i a ha => ?_,fun b hb _=>ho.same b hb,ho.shape _ _,fun b hb hm => ?_,fun i hi hm => ?_⟩
  ·rw[getElem?_append_left (cQ ha)];exact ha
  ·rcases hown b hm with h | h
   ·exact h
   ·have:=hnew b h;omega
  ·rcases hlv hm with ⟨_,h⟩| ⟨h,_⟩
   ·exact h
   ·rw[S.len] at hi;omega
 refine⟨⟨by simp[S.len,Sk.len],fun i a ha => ?_,fun b hb=>Nat.lt_of_lt_of_le (S.foreign b hb) ho.size,fun i s cs a hi hd ha k c hk => ?_,fun i s cs a hi hd ha => ?_,fun i a cs hi ha => ?_,fun i j a b s cs hi hj hd hne ha hb => ?_,fun i cs a hi ha => ?_,fun i j a b hi hj hne ha hb => ?_⟩,st,hhot⟩
 ·rcases hget ha with ⟨_,h⟩| ⟨_,h⟩
  ·exact Nat.lt_of_lt_of_le (S.spot i a h) ho.size
  ·exact Sk.spot _ a h
 ·rcases hblk hi with ⟨l1,hi⟩| ⟨l1,hi⟩ <;> rcases hget ha with ⟨l2,ha⟩| ⟨l2,ha⟩
  ·obtain⟨v,h1,h2⟩:=S.cells i s cs a hi hd ha k c hk
   exact⟨v,by rw[gi (w:=w) (w':=w') (a:=⟨a.block,a.off+k,none⟩) (ho.same _ (S.spot i a ha))];exact h1,h2.step st⟩
  ·omega
  ·omega
  ·obtain⟨v,h1,h2⟩:=Sk.cells _ s cs a hi hd ha k c hk
   exact⟨v,h1,h2.idf (fun b _ hb=>hhot b hb) (eN (hidf _ _ hi) hk)⟩
 ·rcases hblk hi with ⟨l1,hi⟩| ⟨l1,hi⟩ <;> rcases hget ha with ⟨l2,ha⟩| ⟨l2,ha⟩
  ·exact S.own i s cs a hi hd ha
  ·omega
  ·omega
  ·intro hh
   have h1:=hnew _ (kown hi ha)
   have h2:=S.foreign _ hh
   omega
 ·rcases hblk hi with ⟨l1,hi⟩| ⟨l1,hi⟩ <;> rcases hget ha with ⟨l2,ha⟩| ⟨l2,ha⟩
  ·obtain⟨c,e,h1,h2⟩:=S.live i a cs hi ha
   exact⟨c,e,by rw[ho.same _ (S.spot i a ha)];exact h1,h2⟩
  ·omega
  ·omega
  ·exact Sk.live _ a cs hi ha
 ·rcases hlv hi with ⟨l1,hi⟩| ⟨l1,hi⟩ <;> rcases hget ha with ⟨l2,ha⟩| ⟨l2,ha⟩ <;> rcases hblk hj with ⟨l3,hj⟩| ⟨l3,hj⟩ <;> rcases hget hb with ⟨l4,hb⟩| ⟨l4,hb⟩ <;> first | omega | skip
  ·exact S.inj i j a b s cs hi hj hd hne ha hb
  ·have h1:=S.spot i a ha
   have h2:=hnew _ (kown hj hb)
   omega
  ·obtain⟨ds,hi⟩:=hi
   have h1:=S.spot j b hb
   have h2:=hnew _ (kown hi ha)
   omega
  ·exact Sk.inj _ _ a b s cs hi hj hd (by omega) ha hb
 ·obtain⟨l1,_⟩:=hmp ⟨cs,hi⟩
  rcases hblk hi with ⟨_,hi⟩| ⟨l2,_⟩
  ·rcases hget ha with ⟨_,ha⟩| ⟨l2,_⟩
   ·obtain⟨h1,es,ck,h2,h3⟩:=S.maps i cs a hi ha
    exact⟨h1,es,ck,by rw[ho.same _ (S.spot i a ha)];exact h2,h3.step st⟩
   ·omega
  ·omega
 ·obtain⟨l1,hi⟩:=hmp hi
  obtain⟨l2,hj⟩:=hmp hj
  rcases hget ha with ⟨_,ha⟩| ⟨l3,_⟩
  ·rcases hget hb with ⟨_,hb⟩| ⟨l3,_⟩
   ·exact S.injm i j a b hi hj hne ha hb
   ·omega
  ·omega
end
end Go.Ab
