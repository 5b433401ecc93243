/- An abstract interpreter over the model's code and its soundness, part 14; each lemma states its conditions. -/
import Derived.Test.YtjdmodeenbdfpaaGreatU13
import Derived.Test.YtjdmodeenbdfpaaGreatU12
import Derived.Test.YtjdmodeenbdfpaaGreatU10
import Derived.KernelRfl
import Derived.Test.YtjdmodeenbdfpaaGreatU11
set_option linter.unusedSimpArgs false
set_option linter.unusedVariables false
namespace Go.Ab
open Go List
theorem Pc {x:Nat}(h:lL x=true):dv x+48=x:=by rw[dE] at h;unfold dv;omega
theorem V8 {ds:Ω}(h:eH ds=true):(dvs ds).reverse.map (· + 48)=ds:=by
 rw[dvs,reverse_reverse,map_map]
 conv=>rhs;rw[← map_id ds]
 refine map_congr_left fun x hx => ?_
 exact Pc (fE h hx)
theorem acO {ds:Ω}(hd:eH ds=true)(h2:∀ a l,ds=a::l→a≠48):T.Top (dvs ds):=by
 intro m a e
 cases ds with
 | nil=>simp[dvs] at e
 | cons b l =>
  rw[yc] at e
  have:=(append_inj' e rfl).2
  simp only[List.cons.injEq,and_true] at this
  subst this
  have h3:=dE.1 (fE hd (mem_cons_self))
  have h4:=h2 b l rfl
  unfold dv
  omega
theorem LY {m:Bool}{ds:Ω}(hd:eH ds=true)(h0:ds≠[])(h1:m=true→ds≠[48])(h2:∀ a b l,ds=a::b::l→a≠48):(bif m then [45] else [])++ds=ztx (gD m (dec 0 ds)):=by
 rw[← vA]
 by_cases h:ds=[48]
 ·subst h
  cases m with
  | true=>exact absurd rfl (h1 rfl)
  | false=>rfl
 ·have hh:∀ a l,ds=a::l→a≠48:=by
   intro a l e
   cases l with
   | nil=>rw[e] at h;intro ea;exact h (by rw[ea])
   | cons b l=>exact h2 a b l e
  have ht:=acO hd hh
  have hne:dvs ds≠[]:=by
   intro e
   have:=congrArg List.length e
   rw[mF] at this
   exact h0 (length_eq_zero_iff.1 this)
  have hv:=ht.qn hne
  rw[vc] at hv
  unfold itx
  rw[if_neg hv,← vc,T.ke (I9 hd) ht,V8 hd]
theorem Wj (n:Nat):dtx n≠[]:=by
 intro e
 have:=congrArg List.length e
 unfold dtx at this
 split at this
 ·simp at this
 ·rename_i h
  have h2:=T.cT.2 h
  rw[length_map,length_reverse,length_nil] at this
  omega
theorem Wl {n:Nat}{a:Nat}{l:Ω}(h:dtx n=a::l)(hn:n≠0):a≠48:=by
 unfold dtx at h
 rw[if_neg hn] at h
 have ht:=T.jx n
 have e:T.aJ n=l.reverse.map (· - 48)++[a - 48]:=by
  have h3:=congrArg (fun x=>(x.map (· - 48)).reverse) h
  simp only[map_map,reverse_cons,map_cons] at h3
  have h4:((fun x=>x - 48) ∘ fun x=>x+48)=(id:Nat→Nat):=by funext x;simp
  rw[h4,map_id,reverse_reverse] at h3
  rw[h3,map_reverse]
 have h5:=ht _ _ e
 omega
theorem V9 {n:Nat}(h:dtx n=[48]):n=0:=by
 by_cases hn:n=0
 ·exact hn
 ·exact absurd rfl (Wl h hn)
theorem rF {n a b:Nat}{l:Ω}(h:dtx n=a::b::l):a≠48:=by
 by_cases hn:n=0
 ·subst hn;simp[dtx] at h
 ·exact Wl h hn
theorem acQ {n m:Nat}(h:dtx n=dtx m):n=m:=by rw[← oZ n,← oZ m,h]
theorem qi {x y:Int}(h:ztx x=ztx y):x=y:=by
 obtain⟨m,h1,rfl⟩:=nh x
 obtain⟨k,h2,rfl⟩:=nh y
 rw[h,h2] at h1
 simp only[OiE,PiE] at h1
 have h3:=acQ h1.2
 rw[← ie x,← ie y,h1.1,h3]
theorem Ld {z:Int}(h:bw z=true):dtx z.natAbs≠[48]:=by
 intro e
 have:=V9 e
 rw[cK] at h
 simp at h
 omega
theorem IH {l m:Ω}(hl:Bok l)(hm:Bok m)(h:tx l=tx m):l=m:=by
 rw[← jH hl,← jH hm,h]
def eqK:IntKind→IntKind→Bool
 | .i8,.i8 | .i16,.i16 | .i32,.i32 | .i64,.i64 | .u8,.u8 | .u16,.u16 | .u32,.u32 | .u64,.u64=>true
 | _,_=>false
theorem V1 {a b:IntKind}(h:eqK a b=true):a=b:=by cases a <;> cases b <;> first | rfl | cases h
def adW:Int→Int→Bool
 | .ofNat a,.ofNat b=>a.beq b
 | .negSucc a,.negSucc b=>a.beq b
 | _,_=>false
theorem V4:∀ {a b:Int},adW a b=true→a=b
 | .ofNat a,.ofNat b,h=>by rw[Nat.eq_of_beq_eq_true h]
 | .negSucc a,.negSucc b,h=>by rw[Nat.eq_of_beq_eq_true h]
 | .ofNat _,.negSucc _,h=>by cases h
 | .negSucc _,.ofNat _,h=>by cases h
def eqB:Bool→Bool→Bool
 | true,true=>true
 | false,false=>true
 | _,_=>false
theorem V5:∀ {a b:Bool},eqB a b=true→a=b
 | true,true,_=>rfl
 | false,false,_=>rfl
 | true,false,h=>by cases h
 | false,true,h=>by cases h
theorem AV:∀ {a b:List UInt8},eqL a b=true→a=b
 | [],[],_=>rfl
 | a::x,b::y,h=>by
  simp only[eqL,Bool.and_eq_true,beq_iff_eq] at h
  rw[AV h.2,UInt8.toNat_inj.1 h.1]
 | [],_::_,h=>by simp[eqL] at h
 | _::_,[],h=>by simp[eqL] at h
def rE (e:PV→PV→Bool):Ψ→Ψ→Bool
 | [],[]=>true
 | a::x,b::y=>e a b && rE e x y
 | _,_=>false
theorem rD {e:PV→PV→Bool}(h:∀ a b,e a b=true→a=b):∀ {x y:Ψ},rE e x y=true→x=y
 | [],[],_=>rfl
 | a::x,b::y,hh=>by
  simp only[rE,Bool.and_eq_true] at hh
  rw[h a b hh.1,rD h hh.2]
 | [],_::_,hh=>by simp[rE] at hh
 | _::_,[],hh=>by simp[rE] at hh
def eqP:Nat→PV→PV→Bool
 | 0,_,_=>false
 | k+1,a,b=>match a,b with
  | .sc (.int i m),.sc (.int j n)=>eqK i j && adW m n
  | .sc (.bool m),.sc (.bool n)=>eqB m n
  | .sc (.string s),.sc (.string t)=>eqL (bO s) (bO t)
  | .imm m x cs,.imm n y ds=>m.beq n && (eqB x y && rE (eqP k) cs ds)
  | .agg cs,.agg ds=>rE (eqP k) cs ds
  | _,_=>false
theorem I5:∀ (k:Nat) (a b:PV),eqP k a b=true→a=b
 | 0,a,b,h=>by cases h
 | k+1,a,b,h=>by
  unfold eqP at h
  split at h
  ·simp only[Bool.and_eq_true] at h
   rw[V1 h.1,V4 h.2]
  ·rw[V5 h]
  ·rename_i s t
   have:=AV h
   rw[← gq s,← gq t,this]
  ·simp only[Bool.and_eq_true] at h
   rw[Nat.eq_of_beq_eq_true h.1,V5 h.2.1,rD (I5 k) h.2.2]
  ·rw[rD (I5 k) h]
  ·cases h
def ig (args:Ψ):Ψ→Option Ψ:=fun a=>bif rE (eqP 8) (aK a) args then some [.sc (.bool true)] else none
def orF (f f':Ψ→Option Ψ):Ψ→Option Ψ:=fun a=>match f a with
 | some r=>some r
 | none=>f' a
def pC:List Oper→Nat→Bool
 | [],_=>false
 | o::r,t=>(match o.dst with
  | some d=>d.beq t
  | none=>false) || pC r t
def df:Code→Nat→Bool
 | .region _ ops _,t=>pC ops.toList t
 | .seq a b,t=>df a t || df b t
 | .cond _ a b,t=>df a t || df b t
 | .block _ b,t=>df b t
 | .loop b,t=>df b t
 | .scope b,t=>df b t
 | _,_=>false
def dX (w:Nat→Bool)(f g:Ψ):Prop:=g.length=f.length∧∀ t,w t=false→nth g t=nth f t
theorem dX.refl (w:Nat→Bool)(f:Ψ):dX w f f:=⟨rfl,fun _ _=>rfl⟩
theorem dX.trans {w:Nat→Bool}{f g h:Ψ}(a:dX w f g)(b:dX w g h):dX w f h :=
 ⟨b.1.trans a.1,fun t ht=>(b.2 t ht).trans (a.2 t ht)⟩
theorem dX.mono {w v:Nat→Bool}{f g:Ψ}(a:dX w f g)(h:∀ t,v t=false→w t=false):dX v f g :=
 ⟨a.1,fun t ht=>a.2 t (h t ht)⟩
theorem dX.len {w:Nat→Bool}{f g:Ψ}{n:Nat}(a:dX w f g)(h:f.length=n):g.length=n:=a.1.trans h
theorem dX.at {w:Nat→Bool}{f g:Ψ}{t:Nat}{v:PV}(a:dX w f g)(h:nth f t=v)(hw:w t=false:=by kernel_rfl):nth g t=v:=(a.2 t hw).trans h
theorem xU {C:Cfg}{run:av}{dr:Bool}{ops:Array Oper} : ∀ (l:List Oper) {st st':St} {fps:List FP},aq C run dr ops l st=some (st',fps)→dX (pC l) st.fr st'.fr
 | [],st,st',fps,h=>by
  simp only[aq,OiE,PiE] at h
  rw[← h.1];exact dX.refl _ _
 | o::r,st,st',fps,h=>by
  unfold aq at h
  cases h1:ar C run dr ops o st with
  | none=>rw[h1] at h;cases h
  | some x =>
   obtain⟨st1,fp⟩:=x
   rw[h1] at h
   dsimp only at h
   cases h2:aq C run dr ops r st1 with
   | none=>rw[h2] at h;cases h
   | some y =>
    obtain⟨st2,fs⟩:=y
    rw[h2] at h
    simp only[OiE,PiE] at h
    rw[← h.1]
    have ih:=xU r h2
    unfold ar at h1
    split at h1
    ·simp only[OiE,PiE] at h1
     rw[← h1.1] at ih
     refine⟨?_,fun t ht => ?_⟩
     ·rw[ih.1]
      dsimp only[aC]
      split
      ·rw[jK];simp
      ·rfl
     ·simp only[pC,Bool.or_eq_false_iff] at ht
      rw[ih.2 t ht.2]
      dsimp only[aC]
      cases hd:o.dst with
      | none=>rfl
      | some d =>
       rw[hd] at ht
       dsimp only at ht ⊢
       exact j9 (fun e=>by rw[e] at ht;simp at ht)
    ·cases h1
theorem Nl {C:Cfg}{run:av}{ops:Array Oper}{dr:Bool}{st st':St}(h:aH C run ops dr st=some st'):dX (pC ops.toList) st.fr st'.fr:=by
 unfold aH at h
 cases h1:aq C run dr ops ops.toList st with
 | none=>rw[h1] at h;cases h
 | some x =>
  obtain⟨st1,fps⟩:=x
  rw[h1] at h
  dsimp only at h
  have hk:=xU _ h1
  have:st1=st':=by
   cases dr with
   | false=>simpa using h
   | true =>
    simp only[cond_true] at h
    split at h
    ·simpa using h
    ·simpa using h
    ·cases hp:cC (Region.before ops) (number 0 fps) <;> rw[hp] at h
     ·cases h
     ·simpa using h
  rw[← this];exact hk
theorem AE {w:Nat→Bool}{f:St→Option (Ex × St)}(hf:∀ {st e st'},f st=some (e,st')→dX w st.fr st'.fr):∀ (n:Nat) {st st':St} {e:Ex},cg f n st=some (e,st')→dX w st.fr st'.fr
 | 0,_,_,_,h=>by cases h
 | n+1,st,st',e,h=>by
  unfold cg at h
  split at h
  ·rename_i st1 h1
   exact (hf h1).trans (AE hf n h)
  ·exact hf h
theorem aP {C:Cfg}{run:av}{n:Nat} : ∀ (c:Code) {st st':St} {e:Ex},ae C run n c st=some (e,st')→dX (df c) st.fr st'.fr
 | .skip,st,st',e,h=>by
  simp only[ae,OiE,PiE] at h;rw[← h.2];exact dX.refl _ _
 | .label _,st,st',e,h=>by
  simp only[ae,OiE,PiE] at h;rw[← h.2];exact dX.refl _ _
 | .region _ ops dr,st,st',e,h=>by
  unfold ae at h
  split at h
  ·rename_i st1 h1
   simp only[OiE,PiE] at h
   rw[← h.2];exact Nl h1
  ·cases h
 | .seq a b,st,st',e,h=>by
  unfold ae at h
  split at h
  ·rename_i st1 h1
   exact ((aP a h1).mono fun t ht=>by simp only[df,Bool.or_eq_false_iff] at ht;exact ht.1).trans ((aP b h).mono fun t ht=>by simp only[df,Bool.or_eq_false_iff] at ht;exact ht.2)
  ·exact (aP a h).mono fun t ht=>by simp only[df,Bool.or_eq_false_iff] at ht;exact ht.1
 | .cond c a b,st,st',e,h=>by
  unfold ae at h
  split at h
  ·exact (aP a h).mono fun t ht=>by simp only[df,Bool.or_eq_false_iff] at ht;exact ht.1
  ·exact (aP b h).mono fun t ht=>by simp only[df,Bool.or_eq_false_iff] at ht;exact ht.2
  ·cases h
 | .block id b,st,st',e,h=>by
  unfold ae at h
  split at h
  ·rename_i i st1 h1
   have:=aP b h1
   split at h <;> simp only[OiE,PiE] at h <;> rw[← h.2] <;> exact this
  ·exact aP b h
 | .loop b,st,st',e,h=>by
  unfold ae at h
  exact AE (fun h=>aP b h) n h
 | .scope b,st,st',e,h=>by
  unfold ae at h
  exact aP b h
 | .exit id,st,st',e,h=>by
  simp only[ae,OiE,PiE] at h;rw[← h.2];exact dX.refl _ _
 | .ret,st,st',e,h=>by
  simp only[ae,OiE,PiE] at h;rw[← h.2];exact dX.refl _ _
 | .rangeFunc ..,st,st',e,h=>by simp[ae] at h
theorem Fk {f:St→Option (Ex × St)}{e n:Nat}{Inv:Nat→St→Prop}{Q:St→Prop}(go:∀ i st,i<n→Inv i st→∃ st',f st=some (.normal,st')∧Inv (i+1) st')(stop:∀ st,Inv n st→∃ st',f st=some (.exit e,st')∧Q st'):∀ (d i:Nat) {st:St},i+d=n→Inv i st→∃ st',cg f (d+1) st=some (.exit e,st')∧Q st'
 | 0,i,st,hi,h=>by
  obtain⟨st',h1,h2⟩:=stop st (by rw[show n=i by omega];exact h)
  exact⟨st',br h1,h2⟩
 | d+1,i,st,hi,h=>by
  obtain⟨st1,h1,h2⟩:=go i st (by omega) h
  obtain⟨st',h3,h4⟩:=Fk go stop d (i+1) (by omega) h2
  exact⟨st',by rw[bU h1];exact h3,h4⟩
theorem lK {C:Cfg}{run:av}{k e n:Nat}{b:Code}{Inv:Nat→St→Prop}{Q:St→Prop}(hk:n<k)(go:∀ i st,i<n→Inv i st→∃ st',ae C run k b st=some (.normal,st')∧Inv (i+1) st')(stop:∀ st,Inv n st→∃ st',ae C run k b st=some (.exit e,st')∧Q st'){st:St}(h:Inv 0 st):∃ st',ae C run k (.block e (.loop b)) st=some (.normal,st')∧Q st':=by
 obtain⟨st',h1,h2⟩:=Fk go stop n 0 (by omega) h
 exact⟨st',bD (bG h1 (by omega)),h2⟩
structure Lp where
 (r1 r3 e e2 i x a b c d u v:Nat)
 (t q1 q2 q3 q4 q5 q6 q7 qa qb qc qd:TypeId)
 (s1 s2 s3 s4 s5 s6 s7:String)
 (g1 g2 g3 g4 g5 g6 g7:Array Edge)
 deriving Inhabited
def pf:Code→Lp
 | .seq (.seq (.region r1 o1 _) (.cond _ _ (.exit e))) (.seq (.block e2 _) (.region r3 o3 _)) =>
  match o1.toList,o3.toList with
  | [⟨some a,.move (.tmp i),q1,s1,g1,_⟩,⟨some b,.move (.tmp x),q2,s2,g2,_⟩,⟨some c,.call ⟨_,_,ts⟩,q3,s3,g3,_⟩,⟨some d,.binOp _ qa _ _ qb,q4,s4,g4,_⟩],[⟨some u,_,q5,s5,g5,_⟩,⟨some v,.binOp _ qc _ _ qd,q6,s6,g6,_⟩,⟨_,_,q7,s7,g7,_⟩] =>
   ⟨r1,r3,e,e2,i,x,a,b,c,d,u,v,ts.getD 0 0,q1,q2,q3,q4,q5,q6,q7,qa,qb,qc,qd,s1,s2,s3,s4,s5,s6,s7,g1,g2,g3,g4,g5,g6,g7⟩
  | _,_=>default
 | _=>default
def cI:Code→Code
 | .seq _ (.seq (.block _ b) _)=>b
 | c=>c
def Lp.code (l:Lp)(body:Code):Code :=
 .seq (.seq (.region l.r1 #[
  { dst:=some l.a,op:=.move (.tmp l.i),type:=l.q1,pos:=l.s1,after:=l.g1,guard:=none },
  { dst:=some l.b,op:=.move (.tmp l.x),type:=l.q2,pos:=l.s2,after:=l.g2,guard:=none },
  { dst:=some l.c,op:=.call { callee:=.builtin .len,args:=#[.tmp l.b],argTypes:=#[l.t] },type:=l.q3,pos:=l.s3,after:=l.g3,guard:=none },
  { dst:=some l.d,op:=.binOp .lss l.qa (.tmp l.a) (.tmp l.c) l.qb,type:=l.q4,pos:=l.s4,after:=l.g4,guard:=none }] false)
  (.cond (.tmp l.d) .skip (.exit l.e)))
 (.seq (.block l.e2 body) (.region l.r3 #[
  { dst:=some l.u,op:=.move (.tmp l.i),type:=l.q5,pos:=l.s5,after:=l.g5,guard:=none },
  { dst:=some l.v,op:=.binOp .add l.qc (.tmp l.u) (.const (.int .i64 1)) l.qd,type:=l.q6,pos:=l.s6,after:=l.g6,guard:=none },
  { dst:=some l.i,op:=.assign (.tmp l.v),type:=l.q7,pos:=l.s7,after:=l.g7,guard:=none }] false))
def Lp.ok (l:Lp)(m:Nat):Bool :=
 decide (l.i<m∧l.x<m∧l.a<m∧l.b<m∧l.c<m∧l.d<m∧l.u<m∧l.v<m∧l.a≠l.b∧l.a≠l.c∧l.x≠l.i∧l.x≠l.a∧l.x≠l.b∧l.x≠l.c∧l.x≠l.d∧l.x≠l.u∧l.x≠l.v∧l.i≠l.a∧l.i≠l.b∧l.i≠l.c∧l.i≠l.d)
def Lp.own (l:Lp)(t:Nat):Bool:=t.beq l.i || t.beq l.a || t.beq l.b || t.beq l.c || t.beq l.d || t.beq l.u || t.beq l.v
theorem mq (fr:Ψ)(d t:Nat)(v:PV)(hd:d<fr.length):nth (eS fr d v) t=if t=d then v else nth fr t:=by
 by_cases h:t=d
 ·subst h;rw[if_pos rfl,sX,jK];simp[hd]
 ·rw[if_neg h];exact j9 h
theorem jL (fr:Ψ)(d:Nat)(v:PV):(eS fr d v).length=fr.length:=by rw[jK];simp
section
variable {C:Cfg} {run:av} {k m:Nat} {l:Lp} {body:Code}
theorem Lp.test (hok:l.ok m=true)(hu:∃ el,und C.T l.t=some (.slice el)){fr:Ψ}{hp:Θ}{wr:Ω}{j n:Nat}{p:PV}(h0:fr.length=m)(hi:nth fr l.i = .sc (.int .i64 (j:Int)))(hx:nth fr l.x=p)(hp':dc p=some n) :
  ∃ fr',ae C run k (seq1 (l.code body)) ⟨fr,hp,wr⟩=some (bif j.blt n then .normal else .exit l.e,⟨fr',hp,wr⟩):=by
 obtain⟨el,hu⟩:=hu
 have hok':=of_decide_eq_true hok
 clear hok
 obtain⟨o1,o2,o3,o4,o5,o6,o7,o8,n1,n2,n3,n4,n5,n6,n7,n8,n9,n10,n11,n12,n13⟩:=hok'
 rw[← h0] at o1 o2 o3 o4 o5 o6 o7 o8
 have e1:nth (eS fr l.a (.sc (.int .i64 (j:Int)))) l.x=p:=by rw[j9 n4];exact hx
 have e2:nth (eS (eS fr l.a (.sc (.int .i64 (j:Int)))) l.b p) l.b=p:=by rw[mq _ _ _ _ (by rw[jL];exact o4),if_pos rfl]
 have e3:nth (eS (eS (eS fr l.a (.sc (.int .i64 (j:Int)))) l.b p) l.c (.sc (.int .i64 (n:Int)))) l.a = .sc (.int .i64 (j:Int)):=by
  rw[j9 n2,j9 n1,mq _ _ _ _ o3,if_pos rfl]
 have e4:nth (eS (eS (eS fr l.a (.sc (.int .i64 (j:Int)))) l.b p) l.c (.sc (.int .i64 (n:Int)))) l.c = .sc (.int .i64 (n:Int)):=by
  rw[mq _ _ _ _ (by rw[jL,jL];exact o5),if_pos rfl]
 have e5:∀ v,nth (eS (eS (eS (eS fr l.a (.sc (.int .i64 (j:Int)))) l.b p) l.c (.sc (.int .i64 (n:Int)))) l.d v) l.d=v:=fun v=>by
  rw[mq _ _ _ _ (by rw[jL,jL,jL];exact o6),if_pos rfl]
 have hl:((j:Int)<(n:Int)) ↔ j<n:=Int.ofNat_lt
 by_cases hj:j<n
 ·have hb:j.blt n=true:=by rw[Nat.blt_eq];exact hj
  simp[Lp.code,seq1,ae,aH,aq,ar,aF,ag,ah,an,aj,aC,ba,aw,bg,bM,FzZ,aG,hu,hp',hi,e1,e2,e3,e4,e5,hj,hb]
 ·have hb:j.blt n=false:=by cases e:j.blt n with | false=>rfl | true=>rw[Nat.blt_eq] at e;exact absurd e hj
  simp[Lp.code,seq1,ae,aH,aq,ar,aF,ag,ah,an,aj,aC,ba,aw,bg,bM,FzZ,aG,hu,hp',hi,e1,e2,e3,e4,e5,hj,hb]
theorem Lp.inc (hok:l.ok m=true){fr:Ψ}{hp:Θ}{wr:Ω}{j:Nat}(h0:fr.length=m)(hi:nth fr l.i = .sc (.int .i64 (j:Int)))(hj:j<9223372036854775807) :
  ∃ fr',ae C run k (aO (aO (l.code body))) ⟨fr,hp,wr⟩=some (.normal,⟨fr',hp,wr⟩)∧nth fr' l.i = .sc (.int .i64 ((j+1:Nat):Int)):=by
 have hok':=of_decide_eq_true hok
 clear hok
 obtain⟨o1,o2,o3,o4,o5,o6,o7,o8,-⟩:=hok'
 rw[← h0] at o1 o7 o8
 have hw:=bE j hj
 have e1:nth (eS fr l.u (.sc (.int .i64 (j:Int)))) l.u = .sc (.int .i64 (j:Int)):=by rw[mq _ _ _ _ o7,if_pos rfl]
 have e2:∀ v,nth (eS (eS fr l.u (.sc (.int .i64 (j:Int)))) l.v v) l.v=v:=fun v=>by rw[mq _ _ _ _ (by rw[jL];exact o8),if_pos rfl]
 have e3:∀ v w,nth (eS (eS (eS fr l.u (.sc (.int .i64 (j:Int)))) l.v v) l.i w) l.i=w:=fun v w=>by rw[mq _ _ _ _ (by rw[jL,jL];exact o1),if_pos rfl]
 simp[Lp.code,aO,ae,aH,aq,ar,aF,ag,ah,an,aj,aC,ba,aw,bg,au,FzZ,aG,hi,e1,e2,e3,hw]
theorem Lp.split (b:Code):l.code b = .seq (seq1 (l.code b)) (.seq (.block l.e2 b) (aO (aO (l.code b)))):=rfl
theorem Lp.R7 {B:Code}(hB:B=l.code body)(hok:l.ok m=true)(htb:df body l.i=false)(hxt:df B l.x=false)(hu:∃ el,und C.T l.t=some (.slice el)){n j0:Nat}(hk:n - j0<k)(hn:n<9223372036854775807)(hj0:j0≤n){J:Nat→(Nat→PV)→Θ→Prop}{R:St→Prop}{fr0:Ψ}{hp0:Θ}{wr0:Ω}{p:PV}(h0:fr0.length=m)(hx:nth fr0 l.x=p)(hp':dc p=some n)(hi:nth fr0 l.i = .sc (.int .i64 (j0:Int)))
  (hJ:∀ j f g hp,(∀ t,l.own t=false→f t=g t)→J j f hp→J j g hp)
  (step:∀ j fr hp wr,j0≤j→j<n→dX (df B) fr0 fr→nth fr l.i = .sc (.int .i64 (j:Int))→J j (nth fr) hp→∃ e st',ae C run k (.block l.e2 body) ⟨fr,hp,wr⟩=some (e,st')∧((e = .normal∧J (j+1) (nth st'.fr) st'.hp)∨(e = .ret∧R st')))
  (hI:J j0 (nth fr0) hp0) :
  ∃ e st',ae C run k (.block l.e (.loop B)) ⟨fr0,hp0,wr0⟩=some (e,st')∧((e = .normal∧dX (df B) fr0 st'.fr∧J n (nth st'.fr) st'.hp)∨(e = .ret∧R st')):=by
 subst hB
 have t1:∀ t,l.own t=false→df (seq1 (l.code body)) t=false∧df (aO (aO (l.code body))) t=false:=fun t ht=>by
  simp only[Lp.own,Bool.or_eq_false_iff] at ht
  obtain⟨⟨⟨⟨⟨⟨h1,h2⟩,h3⟩,h4⟩,h5⟩,h6⟩,h7⟩:=ht
  have c:∀ {x:Nat},t.beq x=false→x.beq t=false:=fun {x} h=>by
   cases e:x.beq t with
   | false=>rfl
   | true=>rw[Nat.eq_of_beq_eq_true e,Nat.beq_refl] at h;cases h
  simp only[Lp.code,seq1,aO,df,pC,c h1,c h2,c h3,c h4,c h5,c h6,c h7,Bool.or_self,and_self]
 have kk:∀ {c:Code},(∀ t,df (l.code body) t=false→df c t=false)→∀ {st st':St} {e:Ex},ae C run k c st=some (e,st')→dX (df (l.code body)) st.fr st'.fr:=fun hc _ _ _ h=>(aP _ h).mono hc
 have ks:∀ t,df (l.code body) t=false→df (seq1 (l.code body)) t=false∧df (.block l.e2 body) t=false∧df (aO (aO (l.code body))) t=false:=fun t ht=>by
  rw[Lp.split body] at ht
  simp only[df,Bool.or_eq_false_iff] at ht
  exact⟨ht.1,ht.2.1,ht.2.2⟩
 have round:∀ j fr hp wr,j0≤j→j<n→dX (df (l.code body)) fr0 fr→nth fr l.i = .sc (.int .i64 (j:Int))→J j (nth fr) hp→∃ e st',ae C run k (l.code body) ⟨fr,hp,wr⟩=some (e,st')∧((e = .normal∧dX (df (l.code body)) fr0 st'.fr∧nth st'.fr l.i = .sc (.int .i64 ((j+1:Nat):Int))∧J (j+1) (nth st'.fr) st'.hp)∨(e = .ret∧R st')):=by
  intro j fr hp wr hj hjn hK hij hJj
  obtain⟨fr1,a1⟩:=Lp.test (C:=C) (run:=run) (k:=k) (body:=body) hok hu (wr:=wr) (hp:=hp) (hK.len h0) hij (hK.at hx hxt) hp'
  have hb:j.blt n=true:=by rw[Nat.blt_eq];exact hjn
  rw[hb,cond_true] at a1
  have k1:=aP _ a1
  have i1:nth fr1 l.i = .sc (.int .i64 (j:Int)):=by
   refine k1.at hij ?_
   have hok':=of_decide_eq_true hok
   obtain⟨-,-,-,-,-,-,-,-,-,-,-,-,-,-,-,-,-,n10,n11,n12,n13⟩:=hok'
   have c:∀ {x y:Nat},x≠y→y.beq x=false:=fun {x y} h=>by
    cases e:y.beq x with
    | false=>rfl
    | true=>exact absurd (Nat.eq_of_beq_eq_true e).symm h
   simp only[Lp.code,seq1,df,pC,c n10,c n11,c n12,c n13,Bool.or_self]
  have K1:=hK.trans (kk (fun t ht=>(ks t ht).1) a1)
  obtain⟨e,st,b1,b2⟩:=step j fr1 hp wr hj hjn K1 i1 (hJ j _ _ hp (fun t ht=>(k1.2 t (t1 t ht).1).symm) hJj)
  rcases b2 with ⟨rfl,b2⟩| ⟨rfl,b2⟩
  ·obtain⟨fr2,hp2,wr2⟩:=st
   have k2:=aP _ b1
   have K2:=K1.trans (kk (fun t ht=>(ks t ht).2.1) b1)
   obtain⟨fr3,c1,c2⟩:=Lp.inc (C:=C) (run:=run) (k:=k) (body:=body) hok (wr:=wr2) (hp:=hp2) (K2.len h0) (k2.at i1 htb) (by omega)
   have k3:=aP _ c1
   refine⟨.normal,⟨fr3,hp2,wr2⟩,?_,.inl ⟨rfl,K2.trans (kk (fun t ht=>(ks t ht).2.2) c1),c2,hJ (j+1) _ _ hp2 (fun t ht=>(k3.2 t (t1 t ht).2).symm) b2⟩⟩
   rw[Lp.split body,ao a1,ao b1];exact c1
  ·refine⟨.ret,st,?_,.inr ⟨rfl,b2⟩⟩
   rw[Lp.split body,ao a1]
   simp only[ae] at b1 ⊢
   rw[b1]
 have loop:∀ (d j:Nat) (fr:Ψ) (hp:Θ) (wr:Ω),j+d=n→j0≤j→dX (df (l.code body)) fr0 fr→nth fr l.i = .sc (.int .i64 (j:Int))→J j (nth fr) hp→∃ e st',cg (ae C run k (l.code body)) (d+1) ⟨fr,hp,wr⟩=some (e,st')∧((e = .exit l.e∧dX (df (l.code body)) fr0 st'.fr∧J n (nth st'.fr) st'.hp)∨(e = .ret∧R st')):=by
  intro d
  induction d with
  | zero =>
   intro j fr hp wr hjn hj hK hij hJj
   have e:j=n:=by omega
   subst e
   obtain⟨fr1,a1⟩:=Lp.test (C:=C) (run:=run) (k:=k) (body:=body) hok hu (wr:=wr) (hp:=hp) (hK.len h0) hij (hK.at hx hxt) hp'
   have hb:j.blt j=false:=by cases e:j.blt j with | false=>rfl | true=>rw[Nat.blt_eq] at e;omega
   rw[hb,cond_false] at a1
   have k1:=aP _ a1
   refine⟨.exit l.e,⟨fr1,hp,wr⟩,br ?_,.inl ⟨rfl,hK.trans (kk (fun t ht=>(ks t ht).1) a1),hJ j _ _ hp (fun t ht=>(k1.2 t (t1 t ht).1).symm) hJj⟩⟩
   rw[Lp.split body]
   have:=a1
   rw[ae]
   rw[this]
  | succ d ih =>
   intro j fr hp wr hjn hj hK hij hJj
   obtain⟨e,st,a1,a2⟩:=round j fr hp wr hj (by omega) hK hij hJj
   rcases a2 with ⟨rfl,a2,a3,a4⟩| ⟨rfl,a2⟩
   ·obtain⟨e',st',b1,b2⟩:=ih (j+1) st.fr st.hp st.wr (by omega) (by omega) a2 a3 a4
    exact⟨e',st',by rw[bU a1];exact b1,b2⟩
   ·exact⟨.ret,st,dD a1,.inr ⟨rfl,a2⟩⟩
 obtain⟨e,st,a1,a2⟩:=loop (n - j0) j0 fr0 hp0 wr0 (by omega) (Nat.le_refl _) (dX.refl _ _) hi hI
 have a1':=bG a1 (show n - j0+1≤k by omega)
 rcases a2 with ⟨rfl,a2⟩| ⟨rfl,a2⟩
 ·exact⟨.normal,st,bD a1',.inl ⟨rfl,a2⟩⟩
 ·exact⟨.ret,st,by simp only[ae,a1'],.inr ⟨rfl,a2⟩⟩
theorem Lp.go {B:Code}(hB:B=l.code body)(hok:l.ok m=true)(htb:df body l.i=false)(hxt:df B l.x=false)(hu:∃ el,und C.T l.t=some (.slice el)){n j0:Nat}(hk:n - j0<k)(hn:n<9223372036854775807)(hj0:j0≤n){J:Nat→(Nat→PV)→Θ→Prop}{fr0:Ψ}{hp0:Θ}{wr0:Ω}{p:PV}(h0:fr0.length=m)(hx:nth fr0 l.x=p)(hp':dc p=some n)(hi:nth fr0 l.i = .sc (.int .i64 (j0:Int)))
  (hJ:∀ j f g hp,(∀ t,l.own t=false→f t=g t)→J j f hp→J j g hp)
  (step:∀ j fr hp wr,j0≤j→j<n→dX (df B) fr0 fr→nth fr l.i = .sc (.int .i64 (j:Int))→J j (nth fr) hp→∃ fr' hp' wr',ae C run k (.block l.e2 body) ⟨fr,hp,wr⟩=some (.normal,⟨fr',hp',wr'⟩)∧J (j+1) (nth fr') hp')
  (hI:J j0 (nth fr0) hp0) :
  ∃ fr' hp' wr',ae C run k (.block l.e (.loop B)) ⟨fr0,hp0,wr0⟩=some (.normal,⟨fr',hp',wr'⟩)∧dX (df B) fr0 fr'∧J n (nth fr') hp':=by
 obtain⟨e,st,a1,a2⟩:=Lp.R7 (R:=fun _=>False) hB hok htb hxt hu hk hn hj0 h0 hx hp' hi hJ (fun j fr hp wr a b c d e=>by
  obtain⟨fr',hp',wr',x1,x2⟩:=step j fr hp wr a b c d e
  exact⟨.normal,⟨fr',hp',wr'⟩,x1,.inl ⟨rfl,x2⟩⟩) hI (wr0:=wr0)
 rcases a2 with ⟨rfl,a2⟩| ⟨-,a2⟩
 ·exact⟨st.fr,st.hp,st.wr,a1,a2⟩
 ·exact a2.elim
end
end Go.Ab
namespace Go.Ab
open List
abbrev V2:=Rat × Rat
def cr (a b p:V2):Rat:=(b.1 - a.1)*(p.2 - a.2) - (b.2 - a.2)*(p.1 - a.1)
def lx (a b:V2):Prop:=a.1<b.1∨a.1=b.1∧a.2<b.2
theorem GR {ux uy vx vy wx wy:Rat}(hu:0<ux∨ux=0∧0<uy)(hv:0<vx∨vx=0∧0<vy)(hw:0<wx∨wx=0∧0<wy)(h1:0≤ux*vy - uy*vx)(h2:0≤vx*wy - vy*wx):0≤ux*wy - uy*wx:=by
 have ux0:0≤ux:=by grind
 have wx0:0≤wx:=by grind
 rcases hv with hv | ⟨hv,hv'⟩
 ·have a:=Rat.mul_nonneg ux0 h2
  have b:=Rat.mul_nonneg wx0 h1
  have id:vx*(ux*wy - uy*wx)=ux*(vx*wy - vy*wx)+wx*(ux*vy - uy*vx):=by grind
  by_cases h:0≤ux*wy - uy*wx
  ·exact h
  ·have c:=Rat.mul_pos (a:=vx) (b := -(ux*wy - uy*wx)) hv (by grind)
   grind
 ·subst hv
  have k:wx=0:=by
   by_cases h:wx=0
   ·exact h
   ·have:=Rat.mul_pos (a:=vy) (b:=wx) hv' (by grind)
    grind
  have wy0:0≤wy:=by grind
  have:=Rat.mul_nonneg ux0 wy0
  subst k
  grind
theorem Rj {ux uy vx vy wx wy:Rat}(hu:0<ux∨ux=0∧0<uy)(hv:0<vx∨vx=0∧0<vy)(hw:0<wx∨wx=0∧0<wy)(h1:0<ux*vy - uy*vx)(h2:0≤vx*wy - vy*wx):0<ux*wy - uy*wx:=by
 have h0:=GR hu hv hw (by grind) h2
 by_cases he:ux*wy - uy*wx=0
 ·exfalso
  have ux0:0≤ux:=by grind
  have wx0:0≤wx:=by grind
  have vx0:0≤vx:=by grind
  have id:vx*(ux*wy - uy*wx)=ux*(vx*wy - vy*wx)+wx*(ux*vy - uy*vx):=by grind
  have a:=Rat.mul_nonneg ux0 h2
  have b:=Rat.mul_nonneg wx0 (b:=ux*vy - uy*vx) (by grind)
  rw[he,Rat.mul_zero] at id
  rcases hw with hw | ⟨hw,hw'⟩
  ·have c:=Rat.mul_pos hw h1
   grind
  ·subst hw
   rcases hu with hu | ⟨hu,hu'⟩
   ·have c:=Rat.mul_pos hu hw'
    grind
   ·subst hu
    have c:=Rat.mul_nonneg vx0 (b:=uy) (by grind)
    grind
 ·grind
theorem GQ {ux uy vx vy wx wy:Rat}(hu:0<ux∨ux=0∧0<uy)(hv:0<vx∨vx=0∧0<vy)(hw:0<wx∨wx=0∧0<wy)(h1:0≤ux*vy - uy*vx)(h2:0<vx*wy - vy*wx):0<ux*wy - uy*wx:=by
 have h0:=GR hu hv hw h1 (by grind)
 by_cases he:ux*wy - uy*wx=0
 ·exfalso
  have ux0:0≤ux:=by grind
  have wx0:0≤wx:=by grind
  have vx0:0≤vx:=by grind
  have id:vx*(ux*wy - uy*wx)=ux*(vx*wy - vy*wx)+wx*(ux*vy - uy*vx):=by grind
  have a:=Rat.mul_nonneg ux0 (b:=vx*wy - vy*wx) (by grind)
  have b:=Rat.mul_nonneg wx0 h1
  rw[he,Rat.mul_zero] at id
  rcases hu with hu | ⟨hu,hu'⟩
  ·have c:=Rat.mul_pos hu h2
   grind
  ·subst hu
   rcases hw with hw | ⟨hw,hw'⟩
   ·have c:=Rat.mul_pos hu' hw
    grind
   ·subst hw
    by_cases e:vx=0
    ·subst e;grind
    ·have c:=Rat.mul_pos (a:=uy) (b:=vx) hu' (by grind)
     grind
 ·grind
theorem eZ {a b:V2}(h:lx a b):0<b.1 - a.1∨b.1 - a.1=0∧0<b.2 - a.2:=by
 unfold lx at h
 grind
theorem eD {a b c:V2}(h:lx a b)(k:lx b c):lx a c:=by
 unfold lx at *
 grind
theorem ee (a:V2) : ¬ lx a a:=by
 unfold lx
 grind
theorem kW (a b:V2):lx a b∨a=b∨lx b a:=by
 obtain⟨x,y⟩:=a
 obtain⟨z,w⟩:=b
 unfold lx
 simp only[PiE]
 grind
end Go.Ab
namespace Go.Ab
open List
def qT (p:V2):List V2→List V2
 | b::a::r=>if 0<cr a b p then b::a::r else qT p (a::r)
 | l=>l
def fg (s:List V2)(p:V2):List V2:=p::qT p s
def Cvx (Q:List V2):List V2→Prop
 | b::a::r=>lx a b∧(∀ q ∈ Q,0≤cr a b q)∧(∀ z ∈ r.head?,0<cr z a b)∧Cvx Q (a::r)
 | _=>True
theorem agt {a b c p:V2}(h1:lx a b)(h2:lx b c)(h3:lx c p)(t1:0<cr a b c)(t2:0<cr b c p):0<cr a b p:=by
 have s:=GQ (eZ h1) (eZ h2) (eZ h3) (by unfold cr at t1;grind) (by unfold cr at t2;grind)
 unfold cr at *
 grind
theorem Cvx.add {Q:List V2}{p:V2} : ∀ {r:List V2} {a b:V2},Cvx Q (b::a::r)→0<cr a b p→lx b p→Cvx (p::Q) (b::a::r)
 | [],a,b,h,t,hb=>by
  obtain⟨h1,h2,h3,-⟩:=h
  refine⟨h1,fun q hq => ?_,h3,trivial⟩
  rcases mem_cons.1 hq with rfl | hq
  ·grind
  ·exact h2 q hq
 | z::r,a,b,h,t,hb=>by
  obtain⟨h1,h2,h3,h4⟩:=h
  have h5:=h3 z rfl
  have hza:lx z a:=by cases r <;> exact h4.1
  refine⟨h1,fun q hq => ?_,h3,Cvx.add h4 (agt hza h1 hb h5 t) (eD h1 hb)⟩
  rcases mem_cons.1 hq with rfl | hq
  ·grind
  ·exact h2 q hq
theorem Pg {a b p q:V2}(h1:lx a b)(h2:lx b p)(hq:lx q b)(t:0<cr a b p)(hs:0≤cr a b q):0≤cr b p q:=by
 have s:=GQ (eZ hq) (eZ h1) (eZ h2) (by unfold cr at hs;grind) (by unfold cr at t;grind)
 unfold cr at *
 grind
theorem WK {a b p q:V2}(h1:lx a b)(h2:lx b p)(hq:lx a q)(t : ¬ 0<cr a b p)(hs:0≤cr a b q):0≤cr a p q:=by
 have s:=GR (eZ (eD h1 h2)) (eZ h1) (eZ hq) (by unfold cr at t;grind) (by unfold cr at hs;grind)
 unfold cr at *
 grind
theorem LS (a p:V2):cr a p a=0:=by unfold cr;grind
theorem FB (a p:V2):cr a p p=0:=by unfold cr;grind
theorem TQ {Q:List V2}{p m:V2}(hQp:∀ q ∈ Q,lx q p)(hm:∀ q ∈ Q,q=m∨lx m q):∀ {s:List V2},s.getLast?=some m→Cvx Q s→(∀ x ∈ s,x ∈ Q)→(∀ b ∈ s.head?,∀ q ∈ Q,lx b q→0≤cr b p q)→Cvx (p::Q) (p::qT p s)∧(qT p s).getLast?=some m
 | [],h,_,_,_=>by cases h
 | [b],h,_,hs,hK=>by
  have hbm:b=m:=by simpa using h
  subst hbm
  have hb:=hs b (by simp)
  refine⟨⟨hQp b hb,fun q hq => ?_,(fun z hz=>by cases hz),trivial⟩,rfl⟩
  rcases mem_cons.1 hq with rfl | hq
  ·rw[FB];exact Rat.le_refl
  ·rcases hm q hq with rfl | h'
   ·rw[LS];exact Rat.le_refl
   ·exact hK b rfl q hq h'
 | b::a::r,h,hc,hs,hK=>by
  have hb:=hs b (by simp)
  have hbp:=hQp b hb
  obtain⟨h1,h2,h3,h4⟩:=id hc
  unfold qT
  by_cases t:0<cr a b p
  ·rw[if_pos t]
   refine⟨⟨hbp,fun q hq => ?_,fun z hz => ?_,hc.add t hbp⟩,h⟩
   ·rcases mem_cons.1 hq with rfl | hq
    ·rw[FB];exact Rat.le_refl
    ·rcases kW b q with h' | rfl | h'
     ·exact hK b rfl q hq h'
     ·rw[LS];exact Rat.le_refl
     ·exact Pg h1 hbp h' t (h2 q hq)
   ·obtain rfl:a=z:=by simpa using hz
    exact t
  ·rw[if_neg t]
   refine TQ hQp hm (s:=a::r) (by simpa using h) h4 (fun x hx=>hs x (mem_cons_of_mem _ hx)) (fun b' hb' q hq hlt => ?_)
   obtain rfl:a=b':=by simpa using hb'
   exact WK h1 hbp hlt t (h2 q hq)
theorem Eg {p:V2} : ∀ {s:List V2} {x:V2},x ∈ qT p s→x ∈ s
 | [],_,h=>h
 | [_],_,h=>h
 | b::a::r,x,h=>by
  unfold qT at h
  by_cases t:0<cr a b p
  ·rw[if_pos t] at h;exact h
  ·rw[if_neg t] at h;exact mem_cons_of_mem _ (Eg h)
end Go.Ab
namespace Go.Ab
open List
structure ChI (Q s:List V2) (m c:V2):Prop where
 last:s.getLast?=some m
 head:s.head?=some c
 cvx:Cvx Q s
 sub:∀ x ∈ s,x ∈ Q
 low:∀ q ∈ Q,q=m∨lx m q
 top:∀ q ∈ Q,q=c∨lx q c
theorem ChI.one (p:V2):ChI [p] [p] p p:=⟨rfl,rfl,trivial,fun _ h=>h,fun q h=>.inl (by simpa using h),fun q h=>.inl (by simpa using h)⟩
theorem ChI.step {Q s:List V2}{m c p:V2}(h:ChI Q s m c)(hp:∀ q ∈ Q,lx q p):ChI (p::Q) (fg s p) m p:=by
 have hK:∀ b ∈ s.head?,∀ q ∈ Q,lx b q→0≤cr b p q:=fun b hb q hq hlt=>by
  obtain rfl:c=b:=by rw[h.head] at hb;simpa using hb
  rcases h.top q hq with rfl | h'
  ·exact absurd hlt (ee _)
  ·exact absurd (eD hlt h') (ee _)
 obtain⟨a1,a2⟩:=TQ hp h.low h.last h.cvx h.sub hK
 have hm:m ∈ Q:=h.sub m (mem_of_getLast? h.last)
 refine⟨?_,rfl,a1,fun x hx => ?_,fun q hq => ?_,fun q hq => ?_⟩
 ·unfold fg
  rw[getLast?_cons,a2];rfl
 ·rcases mem_cons.1 hx with rfl | hx
  ·exact mem_cons_self
  ·exact mem_cons_of_mem _ (h.sub x (Eg hx))
 ·rcases mem_cons.1 hq with rfl | hq
  ·exact .inr (hp m hm)
  ·exact h.low q hq
 ·rcases mem_cons.1 hq with rfl | hq
  ·exact .inl rfl
  ·exact .inr (hp q hq)
theorem ChI.fold {m:V2} : ∀ {l Q s:List V2} {c:V2},ChI Q s m c→(∀ p ∈ l,∀ q ∈ Q,lx q p)→l.Pairwise lx→∃ c',ChI (l.reverse++Q) (l.foldl fg s) m c'
 | [],Q,s,c,h,_,_=>⟨c,h⟩
 | p::l,Q,s,c,h,hp,hl=>by
  have h1:=h.step (hp p (by simp))
  obtain⟨k1,k2⟩:=pairwise_cons.1 hl
  obtain⟨c',h2⟩:=h1.fold (l:=l) (fun p' hp' q hq=>by
   rcases mem_cons.1 hq with rfl | hq
   ·exact k1 p' hp'
   ·exact hp p' (mem_cons_of_mem _ hp') q hq) k2
  exact⟨c',by simpa using h2⟩
theorem FG {p:V2}{l:List V2}(h:(p::l).Pairwise lx):∃ c,ChI (l.reverse++[p]) ((p::l).foldl fg []) p c:=by
 obtain⟨k1,k2⟩:=pairwise_cons.1 h
 exact ChI.fold (ChI.one p) (fun q hq x hx=>by
  obtain rfl:x=p:=by simpa using hx
  exact k1 q hq) k2
end Go.Ab
namespace Go.Ab
open List
theorem afI {a b a' b' x:V2}(h1:lx a x)(h2:lx x b)(h3:lx a' x)(h4:lx x b')(t1:0≤cr a b x)(t2:0≤cr b' a' x) :
  cr a b x=0∨cr b' a' x=0∨cr a b' x=0∨(0<cr a b x∧0<cr b b' x∧0<cr b' a x)∨(0<cr a b' x∧0<cr b' a' x∧0<cr a' a x):=by
 by_cases e1:cr a b x=0
 ·exact .inl e1
 by_cases e2:cr b' a' x=0
 ·exact .inr (.inl e2)
 by_cases e3:cr a b' x=0
 ·exact .inr (.inr (.inl e3))
 have p1:0<cr a b x:=by grind
 have p2:0<cr b' a' x:=by grind
 by_cases s:0<cr a b' x
 ·refine .inr (.inr (.inr (.inr ⟨s,p2,?_⟩)))
  have k:=Rj (eZ h3) (eZ h4) (eZ h1) (by unfold cr at p2;grind) (by unfold cr at s;grind)
  unfold cr at *
  grind
 ·have s':0<cr b' a x:=by unfold cr at *;grind
  refine .inr (.inr (.inr (.inl ⟨p1,?_,s'⟩)))
  have k:=Rj (eZ h2) (eZ h1) (eZ h4) (by unfold cr at p1;grind) (by unfold cr at s';grind)
  unfold cr at *
  grind
theorem aeC {a b x:V2}(h1:lx a x)(h2:lx x b)(t:cr a b x=0):(a.1 - x.1)*(b.1 - x.1)+(a.2 - x.2)*(b.2 - x.2)≤0:=by
 have u:=eZ h1
 have v:=eZ h2
 have id:(x.1 - a.1)*(b.2 - x.2)=(x.2 - a.2)*(b.1 - x.1):=by unfold cr at t;grind
 have k1:0≤(x.1 - a.1)*(b.1 - x.1):=Rat.mul_nonneg (by grind) (by grind)
 have k2:0≤(x.2 - a.2)*(b.2 - x.2):=by
  rcases u with u | ⟨u,u'⟩
  ·rcases v with v | ⟨v,v'⟩
   ·have m1:=Rat.mul_nonneg (a:=(x.2 - a.2)*(x.2 - a.2)) (b:=(x.1 - a.1)*(b.1 - x.1)) (by
     by_cases h:0≤x.2 - a.2
     ·exact Rat.mul_nonneg h h
     ·have:=Rat.mul_nonneg (a := -(x.2 - a.2)) (b := -(x.2 - a.2)) (by grind) (by grind)
      grind) k1
    by_cases h:0≤(x.2 - a.2)*(b.2 - x.2)
    ·exact h
    ·exfalso
     have m2:=Rat.mul_pos (a:=(x.1 - a.1)*(x.1 - a.1)) (b := -((x.2 - a.2)*(b.2 - x.2))) (Rat.mul_pos u u) (by grind)
     have id2:(x.1 - a.1)*(x.1 - a.1)*((x.2 - a.2)*(b.2 - x.2))=(x.2 - a.2)*(x.2 - a.2)*((x.1 - a.1)*(b.1 - x.1)):=by
      have:(x.1 - a.1)*(x.1 - a.1)*((x.2 - a.2)*(b.2 - x.2))=(x.1 - a.1)*(x.2 - a.2)*((x.1 - a.1)*(b.2 - x.2)):=by grind
      rw[this,id]
      grind
     grind
   ·have z:(x.1 - a.1)*(b.2 - x.2)=0:=by rw[id,v];exact Rat.mul_zero _
    have:=Rat.mul_pos u v'
    grind
  ·rcases v with v | ⟨v,v'⟩
   ·have:=Rat.mul_pos u' v
    rw[u,Rat.zero_mul] at id
    grind
   ·exact Rat.mul_nonneg (by grind) (by grind)
 grind
end Go.Ab
namespace Go.Ab
open List
def ng (p:V2):V2:=(-p.1,-p.2)
theorem qY (p:V2):ng (ng p)=p:=by simp[ng]
theorem rN (a b p:V2):cr (ng a) (ng b) (ng p)=cr a b p:=by unfold cr ng;grind
theorem EL {a b:V2} : lx (ng a) (ng b) ↔ lx b a:=by unfold lx ng;grind
theorem nK {a b:V2}(h:ng a=ng b):a=b:=by rw[← qY a,h,qY]
theorem KU (p:V2):∀ s:List V2,qT (ng p) (s.map ng)=(qT p s).map ng
 | []=>rfl
 | [_]=>rfl
 | b::a::r=>by
  show qT (ng p) (ng b::ng a::r.map ng)=_
  unfold qT
  rw[rN]
  by_cases t:0<cr a b p
  ·rw[if_pos t,if_pos t];rfl
  ·rw[if_neg t,if_neg t];exact KU p (a::r)
theorem LD:∀ (l s:List V2),(l.map ng).foldl fg (s.map ng)=(l.foldl fg s).map ng
 | [],_=>rfl
 | p::l,s=>by
  rw[map_cons,foldl_cons,foldl_cons]
  have:fg (s.map ng) (ng p)=(fg s p).map ng:=by
   show ng p::qT (ng p) (s.map ng)=_
   rw[KU];rfl
  rw[this]
  exact LD l (fg s p)
theorem W2 {p:V2}{l:List V2}(h:(p::l).Pairwise fun a b=>lx b a):∃ c,ChI ((l.reverse++[p]).map ng) (((p::l).foldl fg []).map ng) (ng p) (ng c):=by
 have h':((p::l).map ng).Pairwise lx:=by
  rw[pairwise_map]
  exact h.imp fun h=>EL.2 h
 obtain⟨c,k⟩:=FG (p:=ng p) (l:=l.map ng) h'
 refine⟨ng c,?_⟩
 rw[qY]
 have e:(ng p::l.map ng).foldl fg []=((p::l).foldl fg []).map ng:=LD (p::l) []
 rw[e] at k
 rw[map_append,map_reverse]
 exact k
end Go.Ab
namespace Go.Ab
open List
theorem LJ {Q:List V2}{x m:V2}(hm:lx m x):∀ {s:List V2} {c:V2},s.head?=some c→s.getLast?=some m→Cvx Q s→x ∈ Q→x ∉ s→lx x c→∃ a b,a ∈ s∧b ∈ s∧lx a x∧lx x b∧0≤cr a b x
 | [],_,h,_,_,_,_,_=>by cases h
 | [b],c,h,hl,_,_,_,hc=>by
  have e1:b=c:=by simpa using h
  have e2:b=m:=by simpa using hl
  subst e1;subst e2
  exact absurd (eD hm hc) (ee _)
 | b::a::r,c,h,hl,hv,hx,hn,hc=>by
  have e1:b=c:=by simpa using h
  subst e1
  obtain⟨h1,h2,-,h4⟩:=hv
  rcases kW a x with k | rfl | k
  ·exact⟨a,b,by simp,by simp,k,hc,h2 x hx⟩
  ·exact absurd (by simp) hn
  ·obtain⟨a',b',k1,k2,k3⟩:=LJ hm (s:=a::r) rfl (by simpa using hl) h4 hx (fun h=>hn (mem_cons_of_mem _ h)) k
   exact⟨a',b',mem_cons_of_mem _ k1,mem_cons_of_mem _ k2,k3⟩
theorem ChI.ajj {Q s:List V2}{m c x:V2}(h:ChI Q s m c)(hx:x ∈ Q)(hn:x ∉ s):∃ a b,a ∈ s∧b ∈ s∧lx a x∧lx x b∧0≤cr a b x:=by
 have hm:lx m x:=by
  rcases h.low x hx with rfl | k
  ·exact absurd (mem_of_getLast? h.last) hn
  ·exact k
 have hc:lx x c:=by
  rcases h.top x hx with rfl | k
  ·exact absurd (mem_of_mem_head? (by rw[h.head];rfl)) hn
  ·exact k
 exact LJ hm h.head h.last h.cvx hx hn hc
def uQ (a b x:V2):Prop:=cr a b x=0∧(a.1 - x.1)*(b.1 - x.1)+(a.2 - x.2)*(b.2 - x.2)≤0
def pA (a b c x:V2):Prop:=(0<cr a b x∧0<cr b c x∧0<cr c a x)∨(cr a b x<0∧cr b c x<0∧cr c a x<0)
def InV (S:V2→Prop)(x:V2):Prop:=∃ a b,S a∧S b∧(uQ a b x∨∃ c,S c∧pA a b c x)
theorem sq_pos {p q:Rat}(h:p≠0∨q≠0):0<p*p+q*q:=by
 have k:∀ z:Rat,0≤z*z:=fun z=>by
  by_cases h:0≤z
  ·exact Rat.mul_nonneg h h
  ·have:=Rat.mul_nonneg (a := -z) (b := -z) (by grind) (by grind)
   grind
 have k1:=k p
 have k2:=k q
 by_cases e:p*p+q*q=0
 ·exfalso
  have e1:p*p=0:=by grind
  have e2:q*q=0:=by grind
  rcases Rat.mul_eq_zero.1 e1 with a | a <;> rcases Rat.mul_eq_zero.1 e2 with b | b <;> rcases h with h | h <;> contradiction
 ·grind
theorem vw {p1 p2 q1 q2 g1 g2:Rat}(hc:p1*q2 - p2*q1=0)(hd:p1*q1+p2*q2≤0)(hp:p1≠0∨p2≠0)(hg:0≤g1*p1+g2*p2)(hh:0≤g1*q1+g2*q2):g1*q1+g2*q2=0:=by
 have s:=sq_pos hp
 have id:(p1*p1+p2*p2)*(g1*q1+g2*q2)=(p1*q1+p2*q2)*(g1*p1+g2*p2)+(p1*q2 - p2*q1)*(g2*p1 - g1*p2):=by grind
 rw[hc,Rat.zero_mul,Rat.add_zero] at id
 by_cases e:g1*q1+g2*q2=0
 ·exact e
 ·have a:=Rat.mul_pos s (b:=g1*q1+g2*q2) (by grind)
  have b:=Rat.mul_nonneg (a := -(p1*q1+p2*q2)) (by grind) hg
  grind
theorem oS {α β γ a b c:Rat}(h:α*a+β*b+γ*c=0)(h1:0<α)(h2:0<β)(h3:0<γ)(ha:0≤a)(hb:0≤b)(hc:0≤c):a=0∧b=0∧c=0:=by
 have ka:=Rat.mul_nonneg (a:=α) (by grind) ha
 have kb:=Rat.mul_nonneg (a:=β) (by grind) hb
 have kc:=Rat.mul_nonneg (a:=γ) (by grind) hc
 have ea:α*a=0:=by grind
 have eb:β*b=0:=by grind
 have ec:γ*c=0:=by grind
 refine⟨?_,?_,?_⟩
 ·rcases Rat.mul_eq_zero.1 ea with e | e
  ·grind
  ·exact e
 ·rcases Rat.mul_eq_zero.1 eb with e | e
  ·grind
  ·exact e
 ·rcases Rat.mul_eq_zero.1 ec with e | e
  ·grind
  ·exact e
end Go.Ab
