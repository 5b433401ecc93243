/- Ranks by elimination and by minors, part 41 of the proof; each lemma states its own conditions. -/
import Derived.Test.YtjdmodeenbdfpaaGreatR40
import Derived.Test.YtjdmodeenbdfpaaGreatR34
set_option linter.unusedSimpArgs false
set_option linter.unusedVariables false
namespace Go.Proofs.YtjdmodeenbdfpaaGreat
open Go Go.Ab
theorem H4 (L:Lst)(run:ar)(k:Nat)(hp:List Blk)(mid off len:Nat)(x:Bool)(ps:List PV)(g:Nat)(caps:List PV)(w:Nat→PV)(b:Nat→Bool)(h9:len<1000000)(hm:aV hp mid=some ⟨.live,ps⟩)(hc:∀ i,i<len→(br ps (off+i)).head?=some (w i)∧dw (w i)=true∧∀ dr,cg (CC L) run dr hp g ([w i]++caps)=some (.sc (.bool (b i)),hp,⟨[],[],true,true⟩)):∀ (n i:Nat) (fr:List PV),i+n=len→(∀ t,t<i→b t=false)→VfF fr (.own mid 1 off len x) (.clos g caps) len i →
  ((∀ t,t<len→b t=false)∧∃ fr',cl (af (CC L) run k vfB) (n+1) ⟨fr,hp,[]⟩=some (.exit 0,⟨fr',hp,[]⟩)∧fr'.length=19)∨∃ fr' j,j<len∧b j=true∧(∀ t,t<j→b t=false)∧cl (af (CC L) run k vfB) (n+1) ⟨fr,hp,[]⟩=some (.ret,⟨fr',hp,[]⟩)∧nth fr' 4=iv j
 | 0,i,fr,hin,hb,h=>by
  have e:i=len:=by omega
  subst e
  obtain⟨fr',q1,q2⟩:=N4 L run k fr hp _ _ i h
  exact .inl ⟨hb,fr',bD q1,q2⟩
 | n+1,i,fr,hin,hb,h=>by
  have hi:i<len:=by omega
  obtain⟨c1,c2,c3⟩:=hc i hi
  obtain⟨fr1,q1,q2,q3⟩:=N2 L run k fr hp mid off len x ps g caps i (w i) (b i) hi h9 hm c1 c2 c3 h
  cases hv:b i with
  | true =>
   rw[hv] at q1 q2
   exact .inr ⟨fr1,i,hi,hv,hb,eF q1,q2 rfl⟩
  | false =>
   rw[hv] at q1 q3
   rw[ch q1]
   exact H4 L run k hp mid off len x ps g caps w b h9 hm hc n (i+1) fr1 (by omega) (fun t ht=>by
    by_cases e:t=i
    ·rw[e];exact hv
    ·exact hb t (by omega)) (q3 rfl)
noncomputable def JC:Code:=seq1 (seq1 (ah 1 vfC))
theorem Ep:ah 1 vfC = .seq (.seq JC (.block 0 (.loop vfB))) (ah 2 vfC):=rfl
theorem N3 (L:Lst)(run:ar)(k:Nat)(p f:PV)(n:Nat)(hl:ef p=some n)(hp:List Blk):∃ fr fr',aY (CC L) run k 1 vfC ⟨entry 19 [p,f],hp,[]⟩=some ⟨fr,hp,[]⟩∧af (CC L) run k JC ⟨fr,hp,[]⟩=some (.normal,⟨fr',hp,[]⟩)∧VfF fr' p f n 0:=by
 obtain⟨e1,e2,e3⟩:=cC 17 p f
 generalize entry 19 [p,f]=fr0 at *
 obtain⟨fr,a1,a2,a3,a4⟩:∃ fr,aY (CC L) run k 1 vfC ⟨fr0,hp,[]⟩=some ⟨fr,hp,[]⟩∧fr.length=19∧nth fr 0=p∧nth fr 1=f:=by
  simp[vfC,Tryz.f52,aY,e1,e2,e3,af,aJ,ao,aq,aH,ag,ai,aj,an,aF,aC,FP.none,aw,ae,ab]
 refine⟨fr,?_⟩
 rw[a1]
 simp[VfF,iv,JC,seq1,ah,vfC,Tryz.f52,a2,a3,a4,af,aJ,ao,aq,aH,ag,ai,aj,an,aF,aC,FP.none,aw,bM,aa,ae,ab,bh,hl,kQ]
theorem H3 (L:Lst)(run:ar)(k:Nat)(fr:List PV)(hp:List Blk)(h0:fr.length=19):∃ st,af (CC L) run k (ah 2 vfC) ⟨fr,hp,[]⟩=some (.ret,st)∧st.hp=hp∧st.wr=[]∧aZ TT st.fr st.hp Tryz.f52.results.toList=some [.sc (.int .i64 (-1))]:=by
 simp[vfC,ah,Tryz.f52,h0,af,aJ,ao,aq,aH,ag,ai,aj,an,aF,aC,FP.none,aw,aa,aZ]
theorem aaZ (fr:List PV)(hp:List Blk)(n:Nat)(h:nth fr 4=iv n):aZ TT fr hp Tryz.f52.results.toList=some [iv n]:=by
 simp[Tryz.f52,aZ,h]
theorem aaY (L:Lst)(k:Nat)(hp:List Blk)(mid off len:Nat)(x:Bool)(ps:List PV)(g:Nat)(caps:List PV)(w:Nat→PV)(b:Nat→Bool)(hk:len<k)(h9:len<1000000)(hm:aV hp mid=some ⟨.live,ps⟩)(hc:∀ i,i<len→(br ps (off+i)).head?=some (w i)∧dw (w i)=true∧∀ dr,cg (CC L) (runK (CC L) k) dr hp g ([w i]++caps)=some (.sc (.bool (b i)),hp,⟨[],[],true,true⟩)) :
  ((∀ t,t<len→b t=false)∧runK (CC L) (k+1) 52 [.own mid 1 off len x,.clos g caps] hp=some ([.sc (.int .i64 (-1))],hp,[]))∨∃ j,j<len∧b j=true∧(∀ t,t<j→b t=false)∧runK (CC L) (k+1) 52 [.own mid 1 off len x,.clos g caps] hp=some ([iv j],hp,[]):=by
 obtain⟨fr,fr1,a1,a2,a3⟩:=N3 L (runK (CC L) k) k (.own mid 1 off len x) (.clos g caps) len rfl hp
 rcases H4 L (runK (CC L) k) k hp mid off len x ps g caps w b h9 hm hc len 0 fr1 (by omega) (fun t ht=>by omega) a3 with ⟨h0,fr2,b1,b2⟩| ⟨fr2,j,hj,hbj,hlt,b1,b2⟩
 ·have:af (CC L) (runK (CC L) k) k (.seq JC (.block 0 (.loop vfB))) ⟨fr,hp,[]⟩=some (.normal,⟨fr2,hp,[]⟩):=by
   rw[av a2];exact bH (ca b1 (by omega))
  obtain⟨st,c1,c2,c3,c4⟩:=H3 L (runK (CC L) k) k fr2 hp b2
  have hx:af (CC L) (runK (CC L) k) k vfC ⟨entry 19 [.own mid 1 off len x,.clos g caps],hp,[]⟩=some (.ret,st):=by
   rw[aP 1 a1,Ep,av this,c1]
  have:=jb pd rfl hx c4
  rw[c2,c3] at this
  exact .inl ⟨h0,this⟩
 ·have:af (CC L) (runK (CC L) k) k (.seq JC (.block 0 (.loop vfB))) ⟨fr,hp,[]⟩=some (.ret,⟨fr2,hp,[]⟩):=by
   rw[av a2];exact da (ca b1 (by omega))
  have hx:af (CC L) (runK (CC L) k) k vfC ⟨entry 19 [.own mid 1 off len x,.clos g caps],hp,[]⟩=some (.ret,⟨fr2,hp,[]⟩):=by
   rw[aP 1 a1,Ep,cB this]
  have:=jb pd rfl hx (aaZ fr2 hp j b2)
  exact .inr ⟨j,hj,hbj,hlt,this⟩
end Go.Proofs.YtjdmodeenbdfpaaGreat
namespace Go.Ab
open Go
def uo:List Oper→Nat→Bool
 | [],_=>false
 | o::r,t=>(match o.dst with
  | some d=>d.beq t
  | none=>false) || uo r t
def gL:Code→Nat→Bool
 | .region _ ops _,t=>uo ops.toList t
 | .seq a b,t=>gL a t || gL b t
 | .cond _ a b,t=>gL a t || gL b t
 | .block _ b,t=>gL b t
 | .loop b,t=>gL b t
 | .scope b,t=>gL b t
 | _,_=>false
def gD (w:Nat→Bool)(f g:List PV):Prop:=g.length=f.length∧∀ t,w t=false→nth g t=nth f t
theorem gD.refl (w:Nat→Bool)(f:List PV):gD w f f:=⟨rfl,fun _ _=>rfl⟩
theorem gD.trans {w:Nat→Bool}{f g h:List PV}(a:gD w f g)(b:gD w g h):gD w f h :=
 ⟨b.1.trans a.1,fun t ht=>(b.2 t ht).trans (a.2 t ht)⟩
theorem gD.mono {w v:Nat→Bool}{f g:List PV}(a:gD w f g)(h:∀ t,v t=false→w t=false):gD v f g :=
 ⟨a.1,fun t ht=>a.2 t (h t ht)⟩
theorem gD.len {w:Nat→Bool}{f g:List PV}{n:Nat}(a:gD w f g)(h:f.length=n):g.length=n:=a.1.trans h
theorem gD.at {w:Nat→Bool}{f g:List PV}{t:Nat}{v:PV}(a:gD w f g)(h:nth f t=v)(hw:w t=false):nth g t=v:=(a.2 t hw).trans h
theorem wj {C:Cfg}{run:ar}{dr:Bool}{ops:Array Oper} : ∀ (l:List Oper) {st st':St} {fps:List FP},ao C run dr ops l st=some (st',fps)→gD (uo l) st.fr st'.fr
 | [],st,st',fps,h=>by
  simp only[ao,Option.some.injEq,Prod.mk.injEq] at h
  rw[← h.1];exact gD.refl _ _
 | o::r,st,st',fps,h=>by
  unfold ao at h
  cases h1:aq C run dr ops o st with
  | none=>rw[h1] at h;cases h
  | some x =>
   obtain⟨st1,fp⟩:=x
   rw[h1] at h
   dsimp only at h
   cases h2:ao C run dr ops r st1 with
   | none=>rw[h2] at h;cases h
   | some y =>
    obtain⟨st2,fs⟩:=y
    rw[h2] at h
    simp only[Option.some.injEq,Prod.mk.injEq] at h
    rw[← h.1]
    have ih:=wj r h2
    unfold aq at h1
    split at h1
    ·simp only[Option.some.injEq,Prod.mk.injEq] at h1
     rw[← h1.1] at ih
     refine⟨?_,fun t ht => ?_⟩
     ·rw[ih.1]
      dsimp only[aF]
      split
      ·rw[lJ];simp
      ·rfl
     ·simp only[uo,Bool.or_eq_false_iff] at ht
      rw[ih.2 t ht.2]
      dsimp only[aF]
      cases hd:o.dst with
      | none=>rfl
      | some d =>
       rw[hd] at ht
       dsimp only at ht ⊢
       exact vS (fun e=>by rw[e] at ht;simp at ht)
    ·cases h1
theorem KO {C:Cfg}{run:ar}{ops:Array Oper}{dr:Bool}{st st':St}(h:aJ C run ops dr st=some st'):gD (uo ops.toList) st.fr st'.fr:=by
 unfold aJ at h
 cases h1:ao C run dr ops ops.toList st with
 | none=>rw[h1] at h;cases h
 | some x =>
  obtain⟨st1,fps⟩:=x
  rw[h1] at h
  dsimp only at h
  have hk:=wj _ h1
  have:st1=st':=by
   cases dr with
   | false=>simpa using h
   | true =>
    simp only[cond_true] at h
    split at h
    ·simpa using h
    ·simpa using h
    ·cases hp:cF (Region.before ops) (number 0 fps) <;> rw[hp] at h
     ·cases h
     ·simpa using h
  rw[← this];exact hk
theorem yR {w:Nat→Bool}{f:St→Option (Ex × St)}(hf:∀ {st e st'},f st=some (e,st')→gD w st.fr st'.fr):∀ (n:Nat) {st st':St} {e:Ex},cl f n st=some (e,st')→gD w st.fr st'.fr
 | 0,_,_,_,h=>by cases h
 | n+1,st,st',e,h=>by
  unfold cl at h
  split at h
  ·rename_i st1 h1
   exact (hf h1).trans (yR hf n h)
  ·exact hf h
theorem bT {C:Cfg}{run:ar}{n:Nat} : ∀ (c:Code) {st st':St} {e:Ex},af C run n c st=some (e,st')→gD (gL c) st.fr st'.fr
 | .skip,st,st',e,h=>by
  simp only[af,Option.some.injEq,Prod.mk.injEq] at h;rw[← h.2];exact gD.refl _ _
 | .label _,st,st',e,h=>by
  simp only[af,Option.some.injEq,Prod.mk.injEq] at h;rw[← h.2];exact gD.refl _ _
 | .region _ ops dr,st,st',e,h=>by
  unfold af at h
  split at h
  ·rename_i st1 h1
   simp only[Option.some.injEq,Prod.mk.injEq] at h
   rw[← h.2];exact KO h1
  ·cases h
 | .seq a b,st,st',e,h=>by
  unfold af at h
  split at h
  ·rename_i st1 h1
   exact ((bT a h1).mono fun t ht=>by simp only[gL,Bool.or_eq_false_iff] at ht;exact ht.1).trans ((bT b h).mono fun t ht=>by simp only[gL,Bool.or_eq_false_iff] at ht;exact ht.2)
  ·exact (bT a h).mono fun t ht=>by simp only[gL,Bool.or_eq_false_iff] at ht;exact ht.1
 | .cond c a b,st,st',e,h=>by
  unfold af at h
  split at h
  ·exact (bT a h).mono fun t ht=>by simp only[gL,Bool.or_eq_false_iff] at ht;exact ht.1
  ·exact (bT b h).mono fun t ht=>by simp only[gL,Bool.or_eq_false_iff] at ht;exact ht.2
  ·cases h
 | .block id b,st,st',e,h=>by
  unfold af at h
  split at h
  ·rename_i i st1 h1
   have:=bT b h1
   split at h <;> simp only[Option.some.injEq,Prod.mk.injEq] at h <;> rw[← h.2] <;> exact this
  ·exact bT b h
 | .loop b,st,st',e,h=>by
  unfold af at h
  exact yR (fun h=>bT b h) n h
 | .scope b,st,st',e,h=>by
  unfold af at h
  exact bT b h
 | .exit id,st,st',e,h=>by
  simp only[af,Option.some.injEq,Prod.mk.injEq] at h;rw[← h.2];exact gD.refl _ _
 | .ret,st,st',e,h=>by
  simp only[af,Option.some.injEq,Prod.mk.injEq] at h;rw[← h.2];exact gD.refl _ _
 | .rangeFunc ..,st,st',e,h=>by simp[af] at h
theorem Di {f:St→Option (Ex × St)}{e n:Nat}{Inv:Nat→St→Prop}{Q:St→Prop}(go:∀ i st,i<n→Inv i st→∃ st',f st=some (.normal,st')∧Inv (i+1) st')(stop:∀ st,Inv n st→∃ st',f st=some (.exit e,st')∧Q st'):∀ (d i:Nat) {st:St},i+d=n→Inv i st→∃ st',cl f (d+1) st=some (.exit e,st')∧Q st'
 | 0,i,st,hi,h=>by
  obtain⟨st',h1,h2⟩:=stop st (by rw[show n=i by omega];exact h)
  exact⟨st',bD h1,h2⟩
 | d+1,i,st,hi,h=>by
  obtain⟨st1,h1,h2⟩:=go i st (by omega) h
  obtain⟨st',h3,h4⟩:=Di go stop d (i+1) (by omega) h2
  exact⟨st',by rw[ch h1];exact h3,h4⟩
theorem pX {C:Cfg}{run:ar}{k e n:Nat}{b:Code}{Inv:Nat→St→Prop}{Q:St→Prop}(hk:n<k)(go:∀ i st,i<n→Inv i st→∃ st',af C run k b st=some (.normal,st')∧Inv (i+1) st')(stop:∀ st,Inv n st→∃ st',af C run k b st=some (.exit e,st')∧Q st'){st:St}(h:Inv 0 st):∃ st',af C run k (.block e (.loop b)) st=some (.normal,st')∧Q st':=by
 obtain⟨st',h1,h2⟩:=Di go stop n 0 (by omega) h
 exact⟨st',bH (ca h1 (by omega)),h2⟩
end Go.Ab
namespace Go.Proofs.YtjdmodeenbdfpaaGreat
open Go Go.Ab
theorem pb:base.F.get 17=some Tryz.f17:=by kernel_rfl
theorem OB:base.shared 17=false:=by kernel_rfl
noncomputable def nkC:Code:=Tryz.f17.body.getD .skip
noncomputable def nkB:Code:=(az nkC).getD .skip
noncomputable def nkI:Code:=blk (seq1 (ah 2 nkB))
noncomputable def gZ:Code:=(az (ah 7 nkI)).getD .skip
noncomputable def nkJ:Code:=blk (seq1 (ah 2 gZ))
noncomputable def nkT:Code:=jS (ah 2 nkJ)
noncomputable def ou:Code:=(az (seq1 (ah 2 nkT))).getD .skip
noncomputable def IK:Code:=seq1 (blk (seq1 (ah 2 ou)))
noncomputable def yH:Code:=cA (blk (seq1 (ah 2 ou)))
def tB (hp:List Blk)(mid:Nat)(p:PV)(X:List Rat):Prop:=p=eu true X∨∃ id,id≠mid∧p = .own id 4 0 X.length true∧aV hp id=some ⟨.live,X.flatMap rcs⟩
theorem tB.at {hp:List Blk}{mid:Nat}{p:PV}{X:List Rat}(h:tB hp mid p X):eg hp p X:=by
 rcases h with h | ⟨id,-,h1,h2⟩
 ·exact .inl h
 ·exact .inr ⟨id,h1,h2⟩
theorem fI {hp:List Blk}{i:Nat}{b:Blk}(h:aV hp i=some b):i<hp.length:=by
 rw[cK] at h
 exact (List.getElem?_eq_some_iff.1 h).1
theorem tB.mono {hp hp':List Blk}{mid:Nat}{p:PV}{X:List Rat}(h:tB hp mid p X)(hh:∀ i,i<hp.length→i≠mid→aV hp' i=aV hp i):tB hp' mid p X:=by
 rcases h with h | ⟨id,h0,h1,h2⟩
 ·exact .inl h
 ·exact .inr ⟨id,h0,h1,by rw[hh id (fI h2) h0,h2]⟩
theorem eg.len {hp:List Blk}{p:PV}{X:List Rat}(h:eg hp p X):ef p=some X.length:=by
 rcases h with rfl | ⟨id,rfl,-⟩ <;> rfl
theorem eg.ok {hp:List Blk}{p:PV}{X:List Rat}(h:eg hp p X):dw p=true:=by
 rcases h with rfl | ⟨id,rfl,-⟩ <;> rfl
theorem eg.cells {hp:List Blk}{p:PV}{X:List Rat}(h:eg hp p X):p.cells?=some [p]:=by
 rcases h with rfl | ⟨id,rfl,-⟩ <;> rfl
theorem eg.ix {hp:List Blk}{p:PV}{X:List Rat}(h:eg hp p X)(i:Nat)(hi:i<X.length):∃ a r ids,bc TT 84 p (.sc (.int .i64 (i:Int)))=some a∧aU hp a=some (r,ids)∧bG r 4=some (rcs X[i]):=by
 rcases h with rfl | ⟨id,rfl,hid⟩
 ·obtain⟨r,x1,x2⟩:=m9 true X i hi
  exact⟨_,r,[],x1,rfl,x2⟩
 ·refine⟨_,_,[id],rG id X.length i true hi,?_,vJ X i hi⟩
  simp only[aU,hid]
  rw[if_neg (by simp)]
theorem ab0 (L:Lst)(run:ar)(k:Nat)(fr:List PV)(hp:List Blk)(wr:List Nat)(p:PV)(X:List Rat)(j:Nat)(hj:j<X.length)(hv:eg hp p X)(h0:fr.length=126)(h98:nth fr 98=p)(h100:nth fr 100=iv j) :
  ∃ fr' wr',af (CC L) run k IK ⟨fr,hp,wr⟩=some (.normal,⟨fr',bO (aO hp rz) hp.length ⟨.live,rcs X[j]⟩,wr'⟩)∧nth fr' 16=iv j∧nth fr' 17 = .ptr hp.length 0:=by
 obtain⟨a,r,ids,x1,x2,x3⟩:=hv.ix j hj
 have hx:=al1 hp rz
 have hx1:=ee rz (rcs X[j]) (by rw[cG.len];rfl)
 have hok:=cG.okc X[j]
 have hlx:=cG.len X[j]
 have zR':=zRz
 generalize rcs X[j]=cx at *
 simp only[iv] at h100
 simp[iv,IK,ou,nkT,nkJ,gZ,nkI,nkB,nkC,Tryz.f17,ah,seq1,jS,blk,az,af,aJ,ao,aq,aH,ag,ai,aj,an,aF,aC,FP.none,partOf,aa,ae,ab,bh,and_assoc,bn,h0,h98,h100,x1,x2,x3,hx,hx1,hok,hlx,zR',aR,sR]
theorem acj:((Region.before (gJ yH))[11]?.getD 0)=2047:=by kernel_rfl
theorem Hs {hp:List Blk}{id:Nat}{cs:List PV}(h:aV hp id=some ⟨.live,cs⟩):aU hp (.ptr id 0)=some (cs,[id]):=by
 simp[aU,h,br]
theorem abZ (L:Lst)(run:ar)(k:Nat)(fr:List PV)(hp:List Blk)(wr:List Nat)(p:PV)(P:List Rat)(c fb wb n m j:Nat)(f x:Rat)(A:List PV)(hj:j<P.length)(hn:P.length=n)(hp':eg hp p P)(hc:aV hp c=some ⟨.live,rcs x⟩)(hf:aV hp fb=some ⟨.live,rcs f⟩)(hw:aV hp wb=some ⟨.live,A++rep (m+1) rz⟩)(hA:A.length=j*4)(gm:aA L run 56 [rv (some f),rv (some P[j])] (rv (some (f*P[j]))))(gs:aA L run 55 [rv (some x),rv (some (f*P[j]))] (rv (some (x - f*P[j]))))(h0:fr.length=126)(h11:nth fr 11=p)(h14:nth fr 14 = .ptr fb 0)(h15:nth fr 15 = .own wb 4 0 n true)(h16:nth fr 16=iv j)(h17:nth fr 17 = .ptr c 0) :
  ∃ fr' wr',af (CC L) run k yH ⟨fr,hp,wr⟩=some (.normal,⟨fr',bO hp wb ⟨.live,(A++rcs (x - f*P[j]))++rep m rz⟩,wr'⟩):=by
 obtain⟨a,r,ids,x1,x2,x3⟩:=hp'.ix j hj
 have x4:=rG wb n j true (by omega)
 have ho:=ru A m (rcs (x - f*P[j])) (cG.len _) j hA
 have ht1:=ed (rcs x) (cG.len _)
 have ht2:=ed (rcs f) (cG.len _)
 have hok:=cG.okc (x - f*P[j])
 have hlx:=cG.len (x - f*P[j])
 rw[js,js,js] at gm gs
 unfold aA at gm gs
 generalize rcs (x - f*P[j])=cd at *
 generalize rcs (f*P[j])=cm at *
 generalize rcs P[j]=cp at *
 generalize rcs x=cx at *
 generalize rcs f=cf at *
 generalize A++rep (m+1) rz=Z at *
 generalize A++cd++rep m rz=Z' at *
 have hb:=acj
 simp[yH,ou,nkT,nkJ,gZ,nkI,nkB,nkC,Tryz.f17,ah,seq1,cA,jS,blk,az,gJ] at hb
 have t2:Nat.testBit 2047 2=true:=by decide
 have t3:Nat.testBit 2047 3=true:=by decide
 have t7:Nat.testBit 2047 7=true:=by decide
 simp only[iv] at h16
 have hc':=Hs hc
 have hf':=Hs hf
 rcases ids with _ | ⟨i0,ids⟩ <;> simp[-Nat.testBit_zero,hb,t2,t3,t7,yH,ou,nkT,nkJ,gZ,nkI,nkB,nkC,Tryz.f17,ah,seq1,cA,jS,blk,az,af,aJ,ao,aq,aH,ag,ai,aQ,aj,an,aF,aC,FP.none,partOf,aa,ae,ab,bh,bn,h0,h11,h14,h15,h16,h17,x1,x2,x3,x4,ho,ht1,ht2,hok,hlx,hc',hf',hw,gm,gs,aR,sR,number,FP.free,cF,FP.apart]
theorem ae9:(Region.before (gJ y7))[6]?.getD 0=63:=by kernel_rfl
theorem afa:(Region.before (gJ y7))[4]?.getD 0=14:=by kernel_rfl
def YF (fr:List PV)(b row n i x:Nat)(neg:Bool):Prop:=XF fr b row n i neg∧nth fr 8=iv i∧nth fr 9 = .ptr x 0
theorem IB (S:List Bool)(i:Nat)(v:Bool)(hi:i<S.length):cj (S.map bl) i [.sc (.bool v)]=some ((S.set i v).map bl):=jN (e:=bl) S i v hi
theorem aff (L:Lst)(run:ar)(k:Nat)(fr:List PV)(hp:List Blk)(wr:List Nat)(b row n i x:Nat)(neg:Bool)(S:List Bool)(hi:i<n)(hS:S.length=n)(h:YF fr b row n i x neg)(k2:aV hp 2=some ⟨.live,S.map bl⟩)(k3:aV hp 3=some ⟨.live,[.own 2 1 0 n true]⟩) :
  ∃ fr',af (CC L) run k Tg ⟨fr,hp,wr⟩=some (.normal,⟨fr',bO hp 2 ⟨.live,(S.set i true).map bl⟩,aC [2] wr⟩)∧YF fr' b row n i x neg:=by
 obtain⟨⟨h0,h1,h2,h3,h4,h5,h6,h7,h8,h9⟩,h10,h11⟩:=h
 have hx:=SK n i hi
 have ho:=IB S i true (by omega)
 simp only[iv] at h1 h8 h9 h10
 generalize S.map bl=cs at *
 generalize (S.set i true).map bl=cs' at *
 simp[YF,XF,iv,Tg,exT,jS,nm,ow,blk,seq1,cA,exL,exC,Tryz.f109,az,af,aJ,ao,aq,aH,ag,ai,aj,an,aF,FP.none,aw,partOf,aa,ae,ab,bh,and_assoc,jT,bC,bg,ez,h0,h1,h2,h3,h4,h5,h6,h7,h8,h9,h10,h11,k2,k3,hx,ho,AQ,uK,sB,aU,br]
theorem afd (L:Lst)(run:ar)(k:Nat)(fr:List PV)(hp:List Blk)(wr:List Nat)(b row n i x:Nat)(neg:Bool)(S:List Bool)(hi:i<n)(hS:S.length=n)(h:YF fr b row n i x neg)(k2:aV hp 2=some ⟨.live,S.map bl⟩)(k3:aV hp 3=some ⟨.live,[.own 2 1 0 n true]⟩) :
  ∃ fr',af (CC L) run k Tf ⟨fr,hp,wr⟩=some (.normal,⟨fr',bO hp 2 ⟨.live,(S.set i false).map bl⟩,aC [2] wr⟩)∧YF fr' b row n i x neg:=by
 obtain⟨⟨h0,h1,h2,h3,h4,h5,h6,h7,h8,h9⟩,h10,h11⟩:=h
 have hx:=SK n i hi
 have ho:=IB S i false (by omega)
 simp only[iv] at h1 h8 h9 h10
 generalize S.map bl=cs at *
 generalize (S.set i false).map bl=cs' at *
 simp[YF,XF,iv,Tf,exT,jS,nm,ow,blk,seq1,cA,exL,exC,Tryz.f109,az,af,aJ,ao,aq,aH,ag,ai,aj,an,aF,FP.none,aw,partOf,aa,ae,ab,bh,and_assoc,jT,bC,bg,ez,h0,h1,h2,h3,h4,h5,h6,h7,h8,h9,h10,h11,k2,k3,hx,ho,AQ,uK,sB,aU,br]
set_option maxHeartbeats 2000000 in
theorem afe (L:Lst)(run:ar)(k:Nat)(fr:List PV)(hp:List Blk)(wr:List Nat)(b row n i x m:Nat)(neg:Bool)(cx cr cp:List PV)(hlx:cx.length=4)(hlp:cp.length=4)(hop:bg cp=true)(h9':row<1000)(hx2:2≠x)(hcall:cg (CC L) run true hp 109 [.sc (.int .i64 ((row:Int)+1)),.ptr 0 0,.ptr 3 0,.ptr 4 0]=some (.agg cr,hp,⟨[],List.replicate m 2,true,true⟩))(g:aA L run 56 [.agg cx,.agg cr] (.agg cp))(h:YF fr b row n i x neg)(k4:aV hp 4=some ⟨.live,[fnP]⟩)(kx:aV hp x=some ⟨.live,cx⟩) :
  ∃ fr',af (CC L) run k y7 ⟨fr,hp,wr⟩=some (.normal,⟨fr',bO hp x ⟨.live,cp⟩,aC [x] (aC (List.replicate m 2) wr)⟩)∧YF fr' b row n i x neg:=by
 obtain⟨⟨h0,h1,h2,h3,h4,h5,h6,h7,h8,h9⟩,h10,h11⟩:=h
 have hw:=bE row (by omega)
 have ht:=ed cx hlx
 have ho:=ee cx cp (by omega)
 have hb6:=ae9
 have hb4:=afa
 simp[y7,exT,jS,nm,ow,blk,seq1,cA,exL,exC,Tryz.f109,az,gJ] at hb6 hb4
 have t0:Nat.testBit 63 0=true:=by decide
 have t1:Nat.testBit 63 1=true:=by decide
 have t4:Nat.testBit 63 4=true:=by decide
 have t5:Nat.testBit 14 1=true:=by decide
 have t6:Nat.testBit 14 0=false:=by decide
 have hx3 : ¬ (2=x):=hx2
 have hx4 : ¬ (x=2):=fun e=>hx2 e.symm
 unfold aA at g
 unfold fnP at k4
 simp only[iv] at h1 h8 h9 h10
 simp[-Nat.testBit_zero,hb6,hb4,t0,t1,t4,t5,t6,YF,XF,iv,y7,exT,jS,nm,ow,blk,seq1,cA,exL,exC,Tryz.f109,az,af,aJ,ao,aq,aH,ag,ai,aQ,aj,an,aF,FP.none,bd,au,bj,aw,partOf,aa,ae,ab,bh,and_assoc,bn,ez,h0,h1,h2,h3,h4,h5,h6,h7,h8,h9,h10,h11,k4,kx,ht,ho,hw,hcall,g,hop,hlp,hx3,aR,sR,sFn,aFn,aU,br,number,FP.free,cF,FP.apart]
theorem adj (L:Lst)(run:ar)(k:Nat)(fr:List PV)(hp:List Blk)(wr:List Nat)(b row n i x:Nat)(cx cp:List PV)(hlx:cx.length=4)(hlp:cp.length=4)(hop:bg cp=true)(g:aA L run 106 [.agg cx] (.agg cp))(h:YF fr b row n i x true)(kx:aV hp x=some ⟨.live,cx⟩) :
  ∃ fr',af (CC L) run k y6 ⟨fr,hp,wr⟩=some (.normal,⟨fr',bO hp x ⟨.live,cp⟩,aC [x] wr⟩)∧YF fr' b row n i x true:=by
 obtain⟨⟨h0,h1,h2,h3,h4,h5,h6,h7,h8,h9⟩,h10,h11⟩:=h
 have ht:=ed cx hlx
 have ho:=ee cx cp (by omega)
 unfold aA at g
 simp only[iv] at h1 h8 h9 h10
 simp[YF,XF,iv,y6,exT,jS,nm,ow,blk,seq1,cA,exL,exC,Tryz.f109,az,af,aJ,ao,aq,aH,ag,ai,aQ,aj,an,aF,FP.none,partOf,aa,ae,ab,bh,and_assoc,bn,ez,h0,h1,h2,h3,h4,h5,h6,h7,h8,h9,h10,h11,kx,ht,ho,g,hop,hlp,aR,sR,aU,br]
theorem adi (L:Lst)(run:ar)(k:Nat)(fr:List PV)(hp:List Blk)(wr:List Nat)(b row n i x:Nat)(h:YF fr b row n i x false) :
  ∃ fr',af (CC L) run k y6 ⟨fr,hp,wr⟩=some (.normal,⟨fr',hp,wr⟩)∧YF fr' b row n i x false:=by
 obtain⟨⟨h0,h1,h2,h3,h4,h5,h6,h7,h8,h9⟩,h10,h11⟩:=h
 simp only[iv] at h1 h8 h9 h10
 simp[YF,XF,iv,y6,exT,jS,nm,ow,blk,seq1,cA,exL,exC,Tryz.f109,az,af,aJ,ao,aq,aH,ag,ai,aj,an,aF,FP.none,aa,ae,ab,and_assoc,ez,h0,h1,h2,h3,h4,h5,h6,h7,h8,h9,h10,h11]
theorem afc (L:Lst)(run:ar)(k:Nat)(fr:List PV)(hp:List Blk)(wr:List Nat)(b row n i x:Nat)(neg:Bool)(sc cx cp:List PV)(hls:sc.length=4)(hlx:cx.length=4)(hlp:cp.length=4)(hop:bg cp=true)(g:aA L run 87 [.agg sc,.agg cx] (.agg cp))(h:YF fr b row n i x neg)(kx:aV hp x=some ⟨.live,cx⟩)(ks:aV hp (b+1)=some ⟨.live,sc⟩) :
  ∃ fr',af (CC L) run k Te ⟨fr,hp,wr⟩=some (.normal,⟨fr',bO hp (b+1) ⟨.live,cp⟩,aC [b+1] wr⟩)∧XF fr' b row n i neg:=by
 obtain⟨⟨h0,h1,h2,h3,h4,h5,h6,h7,h8,h9⟩,h10,h11⟩:=h
 have ht:=ed cx hlx
 have hts:=ed sc hls
 have ho:=ee sc cp (by omega)
 unfold aA at g
 simp only[iv] at h1 h8 h9 h10
 simp[XF,iv,Te,exT,jS,nm,ow,blk,seq1,cA,exL,exC,Tryz.f109,az,af,aJ,ao,aq,aH,ag,ai,aQ,aj,an,aF,partOf,aa,ae,ab,bh,bn,ez,h0,h1,h2,h3,h4,h5,h6,h7,h8,h9,h11,kx,ks,ht,hts,ho,g,hop,hlp,aR,sR,aU,br]
def XH (hp0 hp:List Blk)(sc:List PV):Prop:=hp0.length+2≤hp.length∧(∀ i,i<hp0.length→aV hp i=aV hp0 i)∧aV hp hp0.length=some ⟨.live,rz⟩∧aV hp (hp0.length+1)=some ⟨.live,sc⟩
def WB (b:Nat)(w:List Nat):Prop:=∀ i ∈ w,i=2∨b≤i
theorem WB.add {b:Nat}{w l:List Nat}(h:WB b w)(h':WB b l):WB b (aC l w):=fun i hi=>by
 rcases jj hi with hi | hi
 ·exact h' i hi
 ·exact h i hi
theorem WB.one {b x:Nat}(h:x=2∨b≤x):WB b [x]:=fun i hi=>by
 rw[List.mem_singleton] at hi;subst hi;exact h
theorem WB.rep {b m:Nat} : WB b (List.replicate m 2):=fun i hi=>.inl (List.mem_replicate.1 hi).2
theorem lI {hp:List Blk}{i j:Nat}{b b0:Blk}(h:aV hp i=some b0)(hij:j≠i):aV (bO hp i b) j=aV hp j:=by rw[cQ h,if_neg hij]
theorem jG {hp:List Blk}{i:Nat}{b b0:Blk}(h:aV hp i=some b0):aV (bO hp i b) i=some b:=by rw[cQ h,if_pos rfl]
theorem O0 (S:List Bool)(i:Nat)(hi:i<S.length)(h:S.getD i false=false):(S.set i true).set i false=S:=by
 rw[List.set_set]
 have:S[i]=false:=by rw[← h,List.getD_eq_getElem?_getD,List.getElem?_eq_getElem hi];rfl
 rw[← this,List.set_getElem_self]
theorem Zs (L:Lst)(run:ar)(k:Nat)(gm:bw L 56=fun a=>j8 (aK a))(ga:bw L 87=fun a=>iG (aK a))(gn:bw L 106=fun a=>jI (aK a))(hp0 hp:List Blk)(fr:List PV)(wr:List Nat)(row n i x:Nat)(neg:Bool)(M:List (List Rat))(S:List Bool)(sc:List PV)(u:Option Rat)(e f:Rat)(cr:List PV)(uf:Option Rat){j k1 k2:Nat}
  (hi:i<n) (hS:S.length=n) (h9':row<1000) (hSi:S.getD i false=false) (h5:5≤hp0.length) (hH:H0 hp0 M n S) (hX:XH hp0 hp sc) (hx:hp0.length+2≤x) (hx':x<hp.length) (kx:aV hp x=some ⟨.live,rcs e⟩) (hY:YF fr hp0.length row n i x neg) (hc:Rc sc u) (hcr:Rc cr uf) (hf:vv uf=f)
  (hb1:Rb j (vv u)) (hb2:Rb k1 e) (hb3:Rb k2 f) (h6:j+k1+k2≤1000000) (hw:WB hp0.length wr)
  (hcall:∀ hp1:List Blk,hp0.length≤hp1.length→(∀ i,i<hp0.length→i≠2→aV hp1 i=aV hp0 i)→aV hp1 2=some ⟨.live,(S.set i true).map bl⟩→∃ m,cg (CC L) run true hp1 109 [.sc (.int .i64 ((row:Int)+1)),.ptr 0 0,.ptr 3 0,.ptr 4 0]=some (.agg cr,hp1,⟨[],List.replicate m 2,true,true⟩)) :
  ∃ fr' hp' wr' sc',af (CC L) run k exT ⟨fr,hp,wr⟩=some (.normal,⟨fr',hp',wr'⟩)∧XF fr' hp0.length row n i neg∧XH hp0 hp' sc'∧WB hp0.length wr'∧Rc sc' (some (vv u+(bif neg then -(e*f) else e*f))):=by
 obtain⟨q1,q2,q3,q4⟩:=hX
 obtain⟨p0,p2,p3,p4⟩:=hH
 have k2':aV hp 2=some ⟨.live,S.map bl⟩:=by rw[q2 2 (by omega),p2]
 have k3':aV hp 3=some ⟨.live,[.own 2 1 0 n true]⟩:=by rw[q2 3 (by omega),p3]
 have k4':aV hp 4=some ⟨.live,[fnP]⟩:=by rw[q2 4 (by omega),p4]
 obtain⟨fr1,a1,a2⟩:=aff L run k fr hp wr hp0.length row n i x neg S hi hS hY k2' k3'
 generalize hg1:bO hp 2 ⟨.live,(S.set i true).map bl⟩=hp1 at *
 have l1:hp1.length=hp.length:=by rw[← hg1,bF]
 have n1:∀ t,t≠2→aV hp1 t=aV hp t:=fun t ht=>by rw[← hg1];exact lI k2' ht
 have n12:aV hp1 2=some ⟨.live,(S.set i true).map bl⟩:=by rw[← hg1];exact jG k2'
 obtain⟨m,hcm⟩:=hcall hp1 (by omega) (fun t ht ht2=>by rw[n1 t ht2,q2 t ht]) n12
 have SS:=Hz gm run (p:=.agg (rcs e)) (q:=.agg cr) (u:=some e) (v:=uf) (.inl rfl) hcr.p hb2 (by rw[hf];exact hb3) (by omega)
 rw[hf] at SS
 obtain⟨fr2,b1,b2⟩:=afe L run k fr1 hp1 (aC [2] wr) hp0.length row n i x m neg (rcs e) cr (rcs (e*f)) (cG.len _) (cG.len _) (cG.okc _) h9' (by omega) hcm SS a2 (by rw[n1 4 (by omega),k4']) (by rw[n1 x (by omega),kx])
 have kx1:aV hp1 x=some ⟨.live,rcs e⟩:=by rw[n1 x (by omega),kx]
 generalize hg2:bO hp1 x ⟨.live,rcs (e*f)⟩=hp2 at *
 have l2:hp2.length=hp.length:=by rw[← hg2,bF,l1]
 have n2:∀ t,t≠x→aV hp2 t=aV hp1 t:=fun t ht=>by rw[← hg2];exact lI kx1 ht
 have n2x:aV hp2 x=some ⟨.live,rcs (e*f)⟩:=by rw[← hg2];exact jG kx1
 have n22:aV hp2 2=some ⟨.live,(S.set i true).map bl⟩:=by rw[n2 2 (by omega),n12]
 obtain⟨fr3,c1,c2⟩:=afd L run k fr2 hp2 (aC [x] (aC (List.replicate m 2) (aC [2] wr))) hp0.length row n i x neg (S.set i true) hi (by rw[List.length_set];exact hS) b2 n22 (by rw[n2 3 (by omega),n1 3 (by omega),k3'])
 rw[O0 S i (by omega) hSi] at c1
 generalize hg3:bO hp2 2 ⟨.live,S.map bl⟩=hp3 at *
 have l3:hp3.length=hp.length:=by rw[← hg3,bF,l2]
 have n3:∀ t,t≠2→aV hp3 t=aV hp2 t:=fun t ht=>by rw[← hg3];exact lI n22 ht
 have n32:aV hp3 2=some ⟨.live,S.map bl⟩:=by rw[← hg3];exact jG n22
 have n3x:aV hp3 x=some ⟨.live,rcs (e*f)⟩:=by rw[n3 x (by omega),n2x]
 have w3:WB hp0.length (aC [2] (aC [x] (aC (List.replicate m 2) (aC [2] wr)))):=(((hw.add (WB.one (.inl rfl))).add WB.rep).add (WB.one (.inr (by omega)))).add (WB.one (.inl rfl))
 have old3:∀ t,t<hp0.length→aV hp3 t=aV hp0 t:=fun t ht=>by
  by_cases e2:t=2
  ·subst e2;rw[n32,p2]
  ·rw[n3 t e2,n2 t (by omega),n1 t e2,q2 t ht]
 have s3:aV hp3 (hp0.length+1)=some ⟨.live,sc⟩:=by rw[n3 _ (by omega),n2 _ (by omega),n1 _ (by omega),q4]
 have r3:aV hp3 hp0.length=some ⟨.live,rz⟩:=by rw[n3 _ (by omega),n2 _ (by omega),n1 _ (by omega),q3]
 have fin:∀ (fr4:List PV) (hp4:List Blk) (wr4:List Nat) (t:Rat),Rb (k1+k2) t→af (CC L) run k y6 ⟨fr3,hp3,aC [2] (aC [x] (aC (List.replicate m 2) (aC [2] wr)))⟩=some (.normal,⟨fr4,hp4,wr4⟩)→YF fr4 hp0.length row n i x neg→hp4.length=hp.length→(∀ s,s≠x→aV hp4 s=aV hp3 s)→aV hp4 x=some ⟨.live,rcs t⟩→WB hp0.length wr4→(bif neg then -(e*f) else e*f)=t →
   ∃ fr' hp' wr' sc',af (CC L) run k exT ⟨fr,hp,wr⟩=some (.normal,⟨fr',hp',wr'⟩)∧XF fr' hp0.length row n i neg∧XH hp0 hp' sc'∧WB hp0.length wr'∧Rc sc' (some (vv u+(bif neg then -(e*f) else e*f))):=by
  intro fr4 hp4 wr4 t hbt d1 d2 l4 n4 n4x w4 ht
  have gadd:=UR ga run (p:=.agg sc) (q:=.agg (rcs t)) (u:=u) (v:=some t) hc.p (.inl rfl) hb1 hbt (by omega)
  have s4:aV hp4 (hp0.length+1)=some ⟨.live,sc⟩:=by rw[n4 _ (by omega),s3]
  obtain⟨fr5,e1,e2⟩:=afc L run k fr4 hp4 wr4 hp0.length row n i x neg sc (rcs t) (rcs (vv u+t)) hc.len (cG.len _) (cG.len _) (cG.okc _) gadd d2 n4x s4
  refine⟨fr5,bO hp4 (hp0.length+1) ⟨.live,rcs (vv u+t)⟩,aC [hp0.length+1] wr4,rcs (vv u+t),?_,e2,⟨?_,?_,?_,?_⟩,w4.add (WB.one (x:=hp0.length+1) (.inr (by omega))),?_⟩
  ·rw[adk,av a1,av b1,av c1,av d1];exact e1
  ·rw[bF];omega
  ·intro t' ht';rw[lI (j:=t') s4 (by omega),n4 t' (by omega),old3 t' ht']
  ·rw[lI (j:=hp0.length) s4 (by omega),n4 hp0.length (by omega),r3]
  ·rw[jG s4]
  ·rw[ht];exact .inl rfl
 cases neg with
 | false =>
  obtain⟨fr4,d1,d2⟩:=adi L run k fr3 hp3 (aC [2] (aC [x] (aC (List.replicate m 2) (aC [2] wr)))) hp0.length row n i x c2
  exact fin fr4 hp3 _ (e*f) (hb2.mul hb3) d1 d2 l3 (fun _ _=>rfl) n3x w3 rfl
 | true =>
  have gneg:=aeb gn run (p:=.agg (rcs (e*f))) (u:=some (e*f)) (.inl rfl) (hb2.mul hb3) (by omega)
  obtain⟨fr4,d1,d2⟩:=adj L run k fr3 hp3 (aC [2] (aC [x] (aC (List.replicate m 2) (aC [2] wr)))) hp0.length row n i x (rcs (e*f)) (rcs (-(e*f))) (cG.len _) (cG.len _) (cG.okc _) gneg c2 n3x
  exact fin fr4 _ _ (-(e*f)) (hb2.mul hb3).neg d1 d2 (by rw[bF,l3]) (fun s hs=>lI n3x hs) (jG n3x) (w3.add (WB.one (.inr (by omega)))) rfl
noncomputable def RQ:Code:=seq1 (seq1 (ah 2 nkT))
noncomputable def RP:Code:=cA (ah 2 ou)
theorem afP:seq1 (ah 2 nkT) = .seq RQ (.block 4 (.loop ou)):=rfl
theorem acn:ah 2 ou = .seq (.block 5 (.seq IK yH)) RP:=rfl
theorem acd (L:Lst)(run:ar)(k:Nat)(fr:List PV)(hp:List Blk)(wr:List Nat)(n j:Nat)(hj:j<n)(h0:fr.length=126)(h99:nth fr 99=iv n)(h100:nth fr 100=iv j):aY (CC L) run k 2 ou ⟨fr,hp,wr⟩=some ⟨fm fr 101 (.sc (.bool true)),hp,wr⟩:=by
 simp only[iv] at h99 h100
 simp[aY,ou,nkT,nkJ,gZ,nkI,nkB,nkC,Tryz.f17,ah,seq1,jS,blk,az,af,aJ,ao,aq,aH,ag,ai,aj,an,aF,aC,FP.none,bd,au,bj,aa,h0,h99,h100,hj]
theorem Yq (L:Lst)(run:ar)(k:Nat)(fr:List PV)(hp:List Blk)(wr:List Nat)(n:Nat)(h0:fr.length=126)(h99:nth fr 99=iv n)(h100:nth fr 100=iv n):af (CC L) run k ou ⟨fr,hp,wr⟩=some (.exit 4,⟨fm fr 101 (.sc (.bool false)),hp,wr⟩):=by
 simp only[iv] at h99 h100
 simp[ou,nkT,nkJ,gZ,nkI,nkB,nkC,Tryz.f17,ah,seq1,jS,blk,az,af,aJ,ao,aq,aH,ag,ai,aj,an,aF,aC,FP.none,bd,au,bj,aa,h0,h99,h100]
theorem Yn (L:Lst)(run:ar)(k:Nat)(fr:List PV)(hp:List Blk)(wr:List Nat)(j:Nat)(hj:j<1000)(h0:fr.length=126)(h100:nth fr 100=iv j):∃ fr',af (CC L) run k RP ⟨fr,hp,wr⟩=some (.normal,⟨fr',hp,wr⟩)∧nth fr' 100=iv (j+1):=by
 have hw:=bE j (by omega)
 simp only[iv] at h100
 simp[iv,RP,ou,nkT,nkJ,gZ,nkI,nkB,nkC,Tryz.f17,ah,seq1,cA,jS,blk,az,af,aJ,ao,aq,aH,ag,ai,aj,an,aF,aC,FP.none,bd,au,bj,aw,aa,ab,h0,h100,hw]
theorem ab1 (L:Lst)(run:ar)(k:Nat)(fr:List PV)(hp:List Blk)(wr:List Nat)(p:PV)(n:Nat)(hl:ef p=some n)(h0:fr.length=126)(h13:nth fr 13=p):∃ fr',af (CC L) run k RQ ⟨fr,hp,wr⟩=some (.normal,⟨fr',hp,wr⟩)∧nth fr' 98=p∧nth fr' 99=iv n∧nth fr' 100=iv 0:=by
 simp[iv,RQ,nkT,nkJ,gZ,nkI,nkB,nkC,Tryz.f17,ah,seq1,jS,blk,az,af,aJ,ao,aq,aH,ag,ai,aj,an,aF,aC,FP.none,aw,bM,aa,ae,ab,bh,h0,h13,hl,Bd]
def lA (f:Rat)(V P:List Rat):List Rat:=List.zipWith (fun x q=>x - f*q) V P
def Hex (hp hp':List Blk)(w:Nat):Prop:=hp.length≤hp'.length∧∀ i,i<hp.length→i≠w→aV hp' i=aV hp i
theorem Hex.trans {a b c:List Blk}{w:Nat}(h:Hex a b w)(h':Hex b c w):Hex a c w :=
 ⟨Nat.le_trans h.1 h'.1,fun i hi hn=>by rw[h'.2 i (Nat.lt_of_lt_of_le hi h.1) hn,h.2 i hi hn]⟩
theorem Hex.refl (a:List Blk)(w:Nat):Hex a a w:=⟨Nat.le_refl _,fun _ _ _=>rfl⟩
theorem Hex.set {a:List Blk}{w:Nat}{b b0:Blk}(h:aV a w=some b0):Hex a (bO a w b) w:=⟨by rw[bF];exact Nat.le_refl _,fun i _ hn=>lI h hn⟩
theorem Hex.alloc {a:List Blk}(w:Nat)(z:List PV)(b:Blk):Hex a (bO (aO a z) a.length b) w:=⟨by rw[al4];omega,fun i hi _=>al3 a z b i hi⟩
theorem eg.mono {hp hp':List Blk}{w:Nat}{p:PV}{X:List Rat}(h:eg hp p X)(ho:Hex hp hp' w)(hw:p = .own w 4 0 X.length true→False):eg hp' p X:=by
 rcases h with h | ⟨id,h1,h2⟩
 ·exact .inl h
 ·exact .inr ⟨id,h1,by rw[ho.2 id (fI h2) (fun e=>hw (by rw[h1,e])),h2]⟩
theorem mF {f:Rat}{V P:List Rat}(h:V.length=P.length):(lA f V P).length=P.length:=by
 unfold lA;rw[List.length_zipWith];omega
theorem A6 {f:Rat}{V P:List Rat}{j:Nat}(h1:j<V.length)(h2:j<P.length)(h3:j<(lA f V P).length):(lA f V P)[j]=V[j] - f*P[j]:=by
 exact List.getElem_zipWith (f:=fun x q=>x - f*q) (h:=h3)
theorem RL (L:Lst)(run:ar)(k:Nat)(fr:List PV)(hp:List Blk)(wr:List Nat)(p q:PV)(P V:List Rat)(n fb wb:Nat)(f:Rat)(hP:P.length=n)(hV:V.length=n)(hn:n≤3)(hk:n<k)(hp':eg hp p P)(hq:eg hp q V)(hpw:p ≠ .own wb 4 0 n true)(hqw:q ≠ .own wb 4 0 n true)(hfw:fb≠wb)(hf:aV hp fb=some ⟨.live,rcs f⟩)(hw:aV hp wb=some ⟨.live,rep n rz⟩)
  (gm:∀ j (h:j<P.length),aA L run 56 [rv (some f),rv (some P[j])] (rv (some (f*P[j])))) (gs:∀ j (h:j<P.length) (h':j<V.length),aA L run 55 [rv (some V[j]),rv (some (f*P[j]))] (rv (some (V[j] - f*P[j]))))
  (h0:fr.length=126) (h11:nth fr 11=p) (h13:nth fr 13=q) (h14:nth fr 14 = .ptr fb 0) (h15:nth fr 15 = .own wb 4 0 n true) :
  ∃ fr' hp' wr',af (CC L) run k (seq1 (ah 2 nkT)) ⟨fr,hp,wr⟩=some (.normal,⟨fr',hp',wr'⟩)∧Hex hp hp' wb∧aV hp' wb=some ⟨.live,(lA f V P).flatMap rcs⟩:=by
 obtain⟨fr1,a1,a2,a3,a4⟩:=ab1 L run k fr hp wr q n (by rw[hq.len,hV]) h0 h13
 have K1:=bT _ a1
 have hl:(lA f V P).length=n:=by rw[mF (by omega)];exact hP
 have i1:nth fr1 11=p:=K1.at h11 (by kernel_rfl)
 have i2:nth fr1 14 = .ptr fb 0:=K1.at h14 (by kernel_rfl)
 have i3:nth fr1 15 = .own wb 4 0 n true:=K1.at h15 (by kernel_rfl)
 have i0:fr1.length=126:=K1.len h0
 clear K1
 obtain⟨st,b1,b2⟩:=pX (C:=CC L) (run:=run) (k:=k) (e:=4) (b:=ou) (n:=n) (st:=⟨fr1,hp,wr⟩)
  (Inv:=fun j st=>gD (gL ou) fr1 st.fr∧nth st.fr 100=iv j∧Hex hp st.hp wb∧aV st.hp wb=some ⟨.live,((lA f V P).take j).flatMap rcs++rep (n - j) rz⟩)
  (Q:=fun st=>Hex hp st.hp wb∧aV st.hp wb=some ⟨.live,(lA f V P).flatMap rcs⟩) hk
  (fun j st hj ⟨k1,k2,k3,k4⟩=>by
   obtain⟨fr,hp2,wr⟩:=st
   dsimp only at k1 k2 k3 k4
   have c0:=k1.len i0
   have e99:nth fr 99=iv n:=k1.at a3 (by kernel_rfl)
   have e98:nth fr 98=q:=k1.at a2 (by kernel_rfl)
   have e11:nth fr 11=p:=k1.at i1 (by kernel_rfl)
   have e14:nth fr 14 = .ptr fb 0:=k1.at i2 (by kernel_rfl)
   have e15:nth fr 15 = .own wb 4 0 n true:=k1.at i3 (by kernel_rfl)
   have g:=acd L run k fr hp2 wr n j hj c0 e99 k2
   have hjV:j<V.length:=by omega
   have hjP:j<P.length:=by omega
   have hv2:eg hp2 q V:=hq.mono k3 (by rw[hV];exact hqw)
   obtain⟨fr3,wr3,d1,d2,d3⟩:=ab0 L run k (fm fr 101 (.sc (.bool true))) hp2 wr q V j hjV hv2 (by rw[ab];exact c0) (by rw[ae (by omega)];exact e98) (by rw[ae (by omega)];exact k2)
   have K3:=bT _ d1
   have O3:Hex hp2 (bO (aO hp2 rz) hp2.length ⟨.live,rcs V[j]⟩) wb:=Hex.alloc _ _ _
   have O4:=k3.trans O3
   have hc:=al2 hp2 rz ⟨.live,rcs V[j]⟩
   have hwl:=fI k4
   have hw3:=(al3 hp2 rz ⟨.live,rcs V[j]⟩ wb hwl).trans k4
   have hf3:aV (bO (aO hp2 rz) hp2.length ⟨.live,rcs V[j]⟩) fb=some ⟨.live,rcs f⟩:=(O4.2 fb (fI hf) hfw).trans hf
   have hp3:eg (bO (aO hp2 rz) hp2.length ⟨.live,rcs V[j]⟩) p P:=hp'.mono O4 (by rw[hP];exact hpw)
   generalize bO (aO hp2 rz) hp2.length ⟨.live,rcs V[j]⟩=hp3' at *
   rw[show n - j=(n - (j+1))+1 by omega] at hw3
   have s0:(fm fr 101 (.sc (.bool true))).length=126:=by rw[ab];exact c0
   have s1:∀ t,t≠101→nth (fm fr 101 (.sc (.bool true))) t=nth fr t:=fun t ht=>ae ht
   obtain⟨fr4,wr4,f1⟩:=abZ L run k fr3 hp3' wr3 p P hp2.length fb wb n (n - (j+1)) j f V[j] (((lA f V P).take j).flatMap rcs) hjP hP hp3 hc hf3 hw3 (by rw[iP,List.length_take,Nat.min_eq_left (by omega)]) (gm j hjP) (gs j hjP hjV) (K3.len s0) (K3.at (s1 11 (by omega)|>.trans e11) (by kernel_rfl)) (K3.at (s1 14 (by omega)|>.trans e14) (by kernel_rfl)) (K3.at (s1 15 (by omega)|>.trans e15) (by kernel_rfl)) d2 d3
   have K4:=bT _ f1
   have hx:af (CC L) run k (.block 5 (.seq IK yH)) ⟨fm fr 101 (.sc (.bool true)),hp2,wr⟩=some (.normal,⟨fr4,bO hp3' wb ⟨.live,((lA f V P).take j).flatMap rcs++rcs (V[j] - f*P[j])++rep (n - (j+1)) rz⟩,wr4⟩):=by
    refine dW ?_
    rw[av d1];exact f1
   have h100:nth fr4 100=iv j:=K4.at (K3.at (s1 100 (by omega)|>.trans k2) (by kernel_rfl)) (by kernel_rfl)
   obtain⟨fr5,g1,g2⟩:=Yn L run k fr4 (bO hp3' wb ⟨.live,((lA f V P).take j).flatMap rcs++rcs (V[j] - f*P[j])++rep (n - (j+1)) rz⟩) wr4 j (by omega) (K4.len (K3.len s0)) h100
   have hall:af (CC L) run k ou ⟨fr,hp2,wr⟩=some (.normal,⟨fr5,bO hp3' wb ⟨.live,((lA f V P).take j).flatMap rcs++rcs (V[j] - f*P[j])++rep (n - (j+1)) rz⟩,wr4⟩):=by
    rw[aP 2 g,acn,av hx];exact g1
   refine⟨_,hall,k1.trans (bT _ hall),g2,O4.trans (Hex.set hw3),?_⟩
   dsimp only
   rw[jG hw3,List.take_succ_eq_append_getElem (by omega),List.flatMap_append,A6 hjV hjP]
   simp)
  (fun st ⟨k1,k2,k3,k4⟩=>by
   obtain⟨fr,hp2,wr⟩:=st
   dsimp only at k1 k2 k3 k4
   have g:=Yq L run k fr hp2 wr n (k1.len i0) (k1.at a3 (by kernel_rfl)) k2
   refine⟨_,g,k3,?_⟩
   dsimp only
   rw[k4,Nat.sub_self,List.take_of_length_le (by omega)]
   simp[rep])
  ⟨gD.refl _ _,a4,Hex.refl _ _,by dsimp only;rw[hw];simp⟩
 obtain⟨fr',hp2,wr'⟩:=st
 exact⟨fr',hp2,wr',by rw[afP,av a1];exact b1,b2⟩
end Go.Proofs.YtjdmodeenbdfpaaGreat
