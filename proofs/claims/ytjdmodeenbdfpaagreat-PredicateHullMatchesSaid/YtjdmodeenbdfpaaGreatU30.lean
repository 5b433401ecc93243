/- Contracts of numbers kept as digits in text, part 30; each lemma states its conditions. -/
import Derived.Test.YtjdmodeenbdfpaaGreatU29
import Derived.Test.YtjdmodeenbdfpaaGreatU13
set_option linter.unusedSimpArgs false
set_option linter.unusedVariables false
noncomputable section
namespace Go.Proofs.YtjdmodeenbdfpaaGreat
open Go Go.Ab List Tryz
attribute [local simp] FzZ aC aF aG aH aY aa ab ae af ag ah ai aj an aq ar au aw bM ba bf bg dM uAI
variable(L:Lst)(run:av)(k:Nat)(fr:Ψ)(hp:Θ)(wr:Ω)
def uk:Code:=((f115.body).bind az).getD .skip
def qS:Code:=f115.body.getD .skip
theorem u8T:und TT 5=some (.int .u8):=by kernel_rfl
theorem TJ(h37:fr.length=37)(h6:nth fr 6 = .sc (.int .i64 (-1))) :
  ∃ fr',ae (CC L) run k uk ⟨fr,hp,wr⟩=some (.exit 0,⟨fr',hp,wr⟩)∧fr'.length=37∧nth fr' 4=nth fr 4∧nth fr' 5=nth fr 5:=by
 simp[uk,f115,az,h37,h6]
set_option maxHeartbeats 1000000 in
theorem N2(l:Ω)(i:Nat)(hl:Bok l)(hi:i<l.length)(hi9:i<20000000)(h45:at0 l i=45)(h37:fr.length=37)(h0:nth fr 0 = .sc (.string (tx l)))(h6:nth fr 6=iv i) :
  ∃ fr',ae (CC L) run k uk ⟨fr,hp,wr⟩=some (.normal,⟨fr',hp,wr⟩)∧fr'.length=37∧nth fr' 0 = .sc (.string (tx l))∧nth fr' 4=nth fr 4∧nth fr' 5=nth fr 5∧nth fr' 6 = .sc (.int .i64 ((i:Int) - 1)):=by
 have hx:=eW uAI hl .i64 i hi
 have hw:=cM i (by omega)
 rw[h45] at hx
 simp only[iv] at h6
 simp[uk,f115,az,h37,h0,h6,hx,hw]
set_option maxHeartbeats 1000000 in
theorem aaD(l out:Ω)(i:Nat)(hl:Bok l)(hi:i<l.length)(hi9:i<20000000)(h45:lL (at0 l i)=true)(ho9:out.length<20000000)(h37:fr.length=37)(h0:nth fr 0 = .sc (.string (tx l)))(h6:nth fr 6=iv i)(hO:dw iv 0 hp out (nth fr 5)) :
  ∃ fr' hp' wr',ae (CC L) run k uk ⟨fr,hp,wr⟩=some (.normal,⟨fr',hp',wr'⟩)∧fr'.length=37∧nth fr' 0 = .sc (.string (tx l))∧nth fr' 4=nth fr 4∧dw iv 0 hp' (out++[dv (at0 l i)]) (nth fr' 5)∧nth fr' 6 = .sc (.int .i64 ((i:Int) - 1)):=by
 have hx:=eW uAI hl .i64 i hi
 rw[dE] at h45
 generalize at0 l i=b at *
 obtain⟨d,hd⟩:∃ d,d=dv b:=⟨_,rfl⟩
 rw[← hd]
 have hd2:b=d+48:=by rw[hd];unfold dv;omega
 obtain⟨p',hp',fp,g1,g2,-⟩:=hO.app d (by omega)
 have hw:=cM i (by omega)
 have hw1:=cp .i64 b (hiI (by omega))
 have hw2:=Bd .i64 b d hd2 (hiI (by omega))
 have hne:((b:Int) == 45)=false:=by rw[beq_eq_false_iff_ne];omega
 have hne2 : ¬ ((b:Int)=45):=by omega
 have hlX:fP TT 24 1 [(0,.sc (.int .i64 (d:Int)))]=some (1,[iv d]):=kH d
 simp only[iv] at h6
 simp[uk,f115,az,and_assoc,bj,dP,h37,h0,h6,hx,hne,bne,u8T,uI,dF,hw,hw1,hw2,hlX,lu,iA,uL,sI,bI,zI,bZ,g1,g2]
theorem sU (L:Lst)(run:av)(k:Nat)(m:Bool)(ds:Ω)(hd:eH ds=true)(hl9:ds.length<10000000):∀ (n:Nat) (fr:Ψ) (hp:Θ) (wr:Ω) (out:Ω),n≤((bif m then [45] else [])++ds).length →
  fr.length=37→nth fr 0 = .sc (.string (tx ((bif m then [45] else [])++ds)))→nth fr 6 = .sc (.int .i64 ((n:Int) - 1))→dw iv 0 hp out (nth fr 5)→out=dvs (ds.drop (n - (bif m then 1 else 0))) →
  ∃ (fr':Ψ) (hp':Θ) (wr':Ω),cg (ae (CC L) run k uk) (n+1) ⟨fr,hp,wr⟩=some (.exit 0,⟨fr',hp',wr'⟩)∧fr'.length=37∧nth fr' 4=nth fr 4∧dw iv 0 hp' (dvs ds) (nth fr' 5)
 | 0,fr,hp,wr,out,hn,h37,h0,h6,hO,ho=>by
  obtain⟨fr',q1,q2,q3,q4⟩:=TJ L run k fr hp wr h37 (by rw[h6];rfl)
  refine⟨fr',hp,wr,br q1,q2,q3,?_⟩
  rw[q4]
  simp only[Nat.zero_sub,drop_zero] at ho
  rw[← ho];exact hO
 | n+1,fr,hp,wr,out,hn,h37,h0,h6,hO,ho=>by
  have h6':nth fr 6=iv n:=by rw[h6];simp[iv]
  have hB:Bok ((bif m then [45] else [])++ds):=by
   refine Bok.append ?_ ?_
   ·cases m
    ·exact Bok.nil
    ·exact Bok.nil.cons (by omega)
   ·intro x hx
    have:=dE.1 (fE hd hx)
    omega
  have hlen:((bif m then [45] else [])++ds).length=(bif m then 1 else 0)+ds.length:=by cases m <;> simp;omega
  rw[hlen] at hn
  by_cases hs:m=true∧n=0
  ·obtain⟨rfl,rfl⟩:=hs
   obtain⟨fr1,g1,g2,g3,g4,g5,g6⟩:=N2 L run k fr hp wr _ 0 hB (by rw[hlen];simp;omega) (by omega) rfl h37 h0 h6'
   obtain⟨fr',hp',wr',q1,q2,q3,q4⟩:=sU L run k true ds hd hl9 0 fr1 hp wr out (by omega) g2 g3 g6 (by rw[g5];exact hO) (by simpa using ho)
   exact⟨fr',hp',wr',by rw[bU g1];exact q1,q2,by rw[q3,g4],q4⟩
  ·obtain⟨j,hj,hj2⟩:∃ j,n=(bif m then 1 else 0)+j∧j<ds.length:=by
    cases m with
    | false=>exact⟨n,by simp,by simp at hn;omega⟩
    | true =>
     have:n≠0:=fun h=>hs ⟨rfl,h⟩
     exact⟨n - 1,by simp;omega,by simp at hn;omega⟩
   have hat:at0 ((bif m then [45] else [])++ds) n=ds[j]:=by
    unfold at0
    cases m with
    | false=>simp only[cond_false,nil_append,Nat.zero_add] at hj ⊢;subst hj;simp[hj2]
    | true=>simp only[cond_true] at hj ⊢;subst hj;rw[Nat.add_comm];simp[hj2]
   have hdb:lL (at0 ((bif m then [45] else [])++ds) n)=true:=by rw[hat];exact fE hd (getElem_mem hj2)
   have hdr:n+1 - (bif m then 1 else 0)=j+1:=by rw[hj];cases m <;> simp <;> omega
   have hdr2:n - (bif m then 1 else 0)=j:=by rw[hj];cases m <;> simp
   rw[hdr] at ho
   have hol:out.length<20000000:=by rw[ho,mF,length_drop];omega
   have hn9:n<20000000:=by cases m <;> simp at hn <;> omega
   obtain⟨fr1,hp1,wr1,g1,g2,g3,g4,g5,g6⟩:=aaD L run k fr hp wr _ out n hB (by rw[hlen];omega) hn9 hdb hol h37 h0 h6' hO
   rw[hat] at g5
   obtain⟨fr',hp',wr',q1,q2,q3,q4⟩:=sU L run k m ds hd hl9 n fr1 hp1 wr1 _ (by rw[hlen];omega) g2 g3 g6 g5 (by rw[hdr2,ho,← yc,← drop_eq_getElem_cons hj2])
   exact⟨fr',hp',wr',by rw[bU g1];exact q1,q2,by rw[q3,g4],q4⟩
def TK:Code:=seq1 (seq1 (ai 3 qS))
theorem Ih:ai 3 qS = .seq (.seq TK (.block 0 (.loop uk))) (ai 4 qS):=rfl
set_option maxHeartbeats 1000000 in
theorem TI (L:Lst)(run:av)(k:Nat)(a:Nat)(l:Ω)(hl:Bok (a::l)) :
  ∃ fr,bh (CC L) run k 3 qS ⟨entry 37 [.sc (.string (tx (a::l)))],[],[]⟩=some ⟨fr,[],[]⟩∧fr.length=37∧nth fr 0 = .sc (.string (tx (a::l)))∧nth fr 4 = .sc (.bool (decide (a=45)))∧nth fr 5 = .sc (.slice none 0 0):=by
 obtain⟨e1,e2⟩:=cV 36 (.sc (.string (tx (a::l))))
 generalize entry 37 [.sc (.string (tx (a::l)))]=fr0 at *
 have hx:ic TT 94 (.sc (.string (tx (a::l)))) (.sc (.int .i64 0))=some (.sc (.int .u8 (a:Int))):=eW uAI hl .i64 0 (by simp)
 have hb:((a:Int) == 45)=decide (a=45):=by
  by_cases h:a=45
  ·subst h;rfl
  ·rw[decide_eq_false h,beq_eq_false_iff_ne];omega
 have hp:(0:Int)<(l.length:Int)+1:=by omega
 simp[qS,f115,bh,e1,e2,hx,hb,hp]
theorem ae4(l:Ω)(hl:l.length<20000000)(h37:fr.length=37)(h0:nth fr 0 = .sc (.string (tx l))) :
  ∃ fr',ae (CC L) run k TK ⟨fr,hp,wr⟩=some (.normal,⟨fr',hp,wr⟩)∧fr'.length=37∧nth fr' 0 = .sc (.string (tx l))∧nth fr' 4=nth fr 4∧nth fr' 5=nth fr 5∧nth fr' 6 = .sc (.int .i64 ((l.length:Int) - 1)):=by
 have hw:=cM l.length (by omega)
 simp[TK,qS,seq1,f115,h37,h0,hw]
theorem N3 (run:av)(k:Nat)(fr:Ψ)(hp hp':Θ)(wr:Ω)(p q:PV)(m:Bool)(fp:FP)(h37:fr.length=37)(h4:nth fr 4 = .sc (.bool m))(h5:nth fr 5=p)(hc:bS (CC LT1) run false hp 156 [p]=some (q,hp',fp)) :
  ∃ st,ae (CC LT1) run k (ai 4 qS) ⟨fr,hp,wr⟩=some (.ret,st)∧aY TT st.fr st.hp f115.results.toList=some [.sc (.bool m),q]:=by
 simp[qS,f115,aM,h37,h4,h5,hc]
def uj:Ψ→Option Ψ
 | [.sc (.string s)]=>match yN (bys s) with
  | some (m,ds)=>bif ds.length.blt 9000000 then some [.sc (.bool m),bA (T.aJ (dec 0 ds))] else none
  | none=>none
 | _=>none
theorem Ah:Ab.Spec base.P 115 uj:=Ab.Spec.bL (C:=CC LT1) (cP JF) fun args rs h=>by
 unfold uj at h
 split at h
 ·rename_i s
  split at h
  ·rename_i m ds e
   cases hb:ds.length.blt 9000000 with
   | false=>rw[hb] at h;cases h
   | true =>
    rw[hb] at h
    simp only[cond_true,OiE] at h
    subst h
    rw[Nat.blt_eq] at hb
    obtain⟨e1,e2,e3⟩:=sA e
    have hok:=mK s
    have hs:s=tx (bys s):=(im s).symm
    obtain⟨a,l,hal⟩:∃ a l,bys s=a::l:=by
     cases h:bys s with
     | nil=>exact absurd h e3
     | cons a l=>exact⟨a,l,rfl⟩
    have hlen:(bys s).length<20000000:=by rw[e1];cases m <;> simp <;> omega
    have hm:decide (a=45)=m:=by
     rw[hal] at e1
     cases m with
     | true=>simp at e1;simp[e1.1]
     | false =>
      simp only[cond_false,nil_append] at e1
      subst e1
      have:=dE.1 (fE e2 (mem_cons_self ..))
      simp;omega
    rw[hs,hal]
    rw[hal] at hok hlen
    obtain⟨f1,p1,p2,p3,p4,p5⟩:=TI LT1 (runK (CC LT1) ((a::l).length+1)) ((a::l).length+1) a l hok
    obtain⟨f2,q1,q2,q3,q4,q5,q6⟩:=ae4 LT1 (runK (CC LT1) ((a::l).length+1)) ((a::l).length+1) f1 [] [] (a::l) hlen p2 p3
    have e1':a::l=(bif m then [45] else [])++ds:=by rw[← hal];exact e1
    obtain⟨f3,hp3,wr3,r1,r2,r3,r4⟩:=sU LT1 (runK (CC LT1) ((a::l).length+1)) ((a::l).length+1) m ds e2 (by omega) (a::l).length f2 [] [] [] (by rw[e1'];exact Nat.le_refl _) q2 (by rw[q3,e1']) q6 (by rw[q5,p5];exact dw.nil (Nat.le_refl _)) (by rw[drop_eq_nil_of_le];rfl;rw[e1'];cases m <;> simp <;> omega)
    obtain⟨hp4,fp,c1,-⟩:=tr lr xA (runK (CC LT1) ((a::l).length+1)) false iX r4.s [bA (T.ff (dvs ds))] (by
     have:=dQ (I9 e2) (show (dvs ds).length<10000000 by rw[mF];omega)
     simp only[bA] at this
     simp only[iw,this])
    rw[T.eA (I9 e2),vc] at c1
    obtain⟨st,x1,x2⟩:=N3 (runK (CC LT1) ((a::l).length+1)) ((a::l).length+1) f3 hp3 hp4 wr3 _ _ m fp r2 (by rw[r3,q4,p4,hm]) rfl c1
    have hx:ae (CC LT1) (runK (CC LT1) ((a::l).length+1)) ((a::l).length+1) qS ⟨entry 37 [.sc (.string (tx (a::l)))],[],[]⟩=some (.ret,st):=by
     rw[aU 3 p1,Ih,ao ((ao q1).trans (bD r1))]
     exact x1
    exact⟨(a::l).length+2,_,_,_,_,_,aZ y7 rfl hx x2,rfl,Wk.refl rfl,Wk.refl rfl,trivial⟩
  ·cases h
 ·cases h
def zV:Code:=((f116.body).bind az).getD .skip
def gQ:Code:=f116.body.getD .skip
theorem qp:und TT 43=some (.slice 5):=by kernel_rfl
theorem sU8:dm TT 5=some 1:=by kernel_rfl
theorem bU8:iG TT 5=some 1:=by kernel_rfl
theorem zU8:ef TT 5=some [u8v 0]:=by kernel_rfl
theorem Lu (n:Nat):fP TT 43 1 [(0,.sc (.int .u8 (n:Int)))]=some (1,[u8v n]):=afR qp sU8 zU8 n
theorem Tb(h34:fr.length=34)(h6:nth fr 6 = .sc (.int .i64 (-1))) :
  ∃ fr',ae (CC L) run k zV ⟨fr,hp,wr⟩=some (.exit 0,⟨fr',hp,wr⟩)∧fr'.length=34∧nth fr' 5=nth fr 5:=by
 simp[zV,f116,az,h34,h6]
set_option maxHeartbeats 1000000 in
theorem HD(t out:Ω)(i:Nat)(ht:T.Dok t)(hi:i<t.length)(hi9:t.length<20000000)(ho9:out.length<20000001)(h34:fr.length=34)(h1:nth fr 1=bA t)(h6:nth fr 6=iv i)(hO:dw u8v 0 hp out (nth fr 5)) :
  ∃ fr' hp' wr',ae (CC L) run k zV ⟨fr,hp,wr⟩=some (.normal,⟨fr',hp',wr'⟩)∧fr'.length=34∧nth fr' 1=bA t∧dw u8v 0 hp' (out++[at0 t i+48]) (nth fr' 5)∧nth fr' 6 = .sc (.int .i64 ((i:Int) - 1)):=by
 have hda:=fB t i hi
 have hd9:=T.cn ht i
 generalize at0 t i=d at *
 obtain⟨b,hb⟩:∃ b,b=d+48:=⟨_,rfl⟩
 rw[← hb]
 obtain⟨p',hp',fp,g1,g2,-⟩:=hO.app b (by omega)
 have hw:=cM i (by omega)
 have hw1:bB .i64 (48+(d:Int))=(b:Int):=by rw[show (48+(d:Int))=(b:Int) by omega];exact cp .i64 b (hiI (by omega))
 have hw2:bB .u8 (b:Int)=(b:Int):=cp .u8 b (show b≤255 by omega)
 have hlX:=Lu b
 have e1:bA t = .imm t.length false (t.map iv):=rfl
 rw[e1] at h1 ⊢
 simp only[iv] at h6
 simp[zV,f116,az,bc,bm,partOf,and_assoc,bj,lD,h34,h1,h6,hi,hda,aV,uL,uI,sI,aI,u8T,dF,hw,hw1,hw2,hlX,KN,td,qp,sU8,bU8,zU8,bZ,g1,g2]
theorem zU (L:Lst)(run:av)(k:Nat)(t pre:Ω)(ht:T.Dok t)(h9:t.length<10000000)(hp9:pre.length≤1):∀ (n:Nat) (fr:Ψ) (hp:Θ) (wr:Ω) (out:Ω),n≤t.length →
  fr.length=34→nth fr 1=bA t→nth fr 6 = .sc (.int .i64 ((n:Int) - 1))→dw u8v 0 hp out (nth fr 5)→out=pre++(t.drop n).reverse.map (· + 48) →
  ∃ (fr':Ψ) (hp':Θ) (wr':Ω),cg (ae (CC L) run k zV) (n+1) ⟨fr,hp,wr⟩=some (.exit 0,⟨fr',hp',wr'⟩)∧fr'.length=34∧dw u8v 0 hp' (pre++t.reverse.map (· + 48)) (nth fr' 5)
 | 0,fr,hp,wr,out,hn,h34,h1,h6,hO,ho=>by
  obtain⟨fr',q1,q2,q3⟩:=Tb L run k fr hp wr h34 (by rw[h6];rfl)
  refine⟨fr',hp,wr,br q1,q2,?_⟩
  rw[q3]
  rw[drop_zero] at ho
  rw[← ho];exact hO
 | n+1,fr,hp,wr,out,hn,h34,h1,h6,hO,ho=>by
  have h6':nth fr 6=iv n:=by rw[h6];simp[iv]
  obtain⟨fr1,hp1,wr1,g1,g2,g3,g4,g5⟩:=HD L run k fr hp wr t out n ht (by omega) (by omega) (by rw[ho];simp;omega) h34 h1 h6' hO
  obtain⟨fr',hp',wr',q1,q2,q3⟩:=zU L run k t pre ht h9 hp9 n fr1 hp1 wr1 _ (by omega) g2 g3 g5 g4 (by
   rw[ho,drop_eq_getElem_cons (show n<t.length by omega),de (show n<t.length by omega),reverse_cons,map_append]
   simp only[map_cons,map_nil,append_assoc])
  exact⟨fr',hp',wr',by rw[bU g1];exact q1,q2,q3⟩
def BI:Code:=seq1 (ai 4 gQ)
def HE:Code:=seq1 (seq1 (ai 5 gQ))
theorem DJ:ai 4 gQ = .seq BI (ai 5 gQ):=rfl
theorem DI:ai 5 gQ = .seq (.seq HE (.block 0 (.loop zV))) (ai 6 gQ):=rfl
theorem FN (run:av)(dr:Bool)(hp:Θ)(l:Ω)(hd:T.Dok l)(hl:l.length<10000000):bS (CC LT1) run dr hp 156 [bA l]=some (bA (T.aJ (T.val l)),hp,⟨[],[],false,false⟩) :=
 bq lr xA run dr hp _ [bA (T.aJ (T.val l))] (pJ hp l) (by simp only[aK,pW]) (by simp only[iw,dQ hd hl,T.eA hd])
theorem SZ (run:av)(k:Nat)(m:Bool)(l t:Ω)(hc:∀ hp,bS (CC LT1) run false hp 156 [bA l]=some (bA t,hp,⟨[],[],false,false⟩)) :
  ∃ fr,bh (CC LT1) run k 2 gQ ⟨entry 34 [.sc (.bool m),bA l],[],[]⟩=some ⟨fr,[],[]⟩∧fr.length=34∧nth fr 0 = .sc (.bool m)∧nth fr 1=bA t:=by
 obtain⟨e1,e2,e3⟩:=cb 32 (.sc (.bool m)) (bA l)
 generalize entry 34 [.sc (.bool m),bA l]=fr0 at *
 simp[gQ,f116,bh,e1,e2,e3,aM,hc]
theorem Nz(h34:fr.length=34)(h1:nth fr 1=bA []) :
  ∃ st,ae (CC L) run k (ai 2 gQ) ⟨fr,hp,wr⟩=some (.ret,st)∧aY TT st.fr st.hp f116.results.toList=some [.sc (.string (tx [48]))]:=by
 have:(tx [48])={ data:=#[48] } := rfl
 rw[this]
 simp[gQ,f116,dN,h34,h1,uL]
theorem Ta(m:Bool)(t:Ω)(ht:0<t.length)(h34:fr.length=34)(h0:nth fr 0 = .sc (.bool m))(h1:nth fr 1=bA t) :
  ∃ fr',bh (CC L) run k 2 (ai 2 gQ) ⟨fr,hp,wr⟩=some ⟨fr',hp,wr⟩∧fr'.length=34∧nth fr' 0 = .sc (.bool m)∧nth fr' 1=bA t∧nth fr' 5 = .sc (.slice none 0 0):=by
 have h:((t.length:Int) == 0)=false:=by rw[beq_eq_false_iff_ne];omega
 have h2 : ¬ (t.length=0):=by omega
 have h3:t≠[]:=by intro e;subst e;simp at ht
 simp[gQ,f116,bh,dN,h34,h0,h1,uL,h]
theorem aaj(m:Bool)(t:Ω)(h34:fr.length=34)(h0:nth fr 0 = .sc (.bool m))(h1:nth fr 1=bA t)(h5:nth fr 5 = .sc (.slice none 0 0)) :
  ∃ fr' hp' wr',ae (CC L) run k BI ⟨fr,[],[]⟩=some (.normal,⟨fr',hp',wr'⟩)∧fr'.length=34∧nth fr' 1=bA t∧dw u8v 0 hp' (bif m then [45] else []) (nth fr' 5):=by
 cases m with
 | false =>
  have hO:dw u8v 0 [] [] (.sc (.slice none 0 0)):=dw.nil (Nat.le_refl _)
  simp[BI,gQ,seq1,f116,and_assoc,h34,h0,h1,h5,hO]
 | true =>
  obtain⟨p',hp',fp,g1,g2,-⟩:=(dw.nil (e:=u8v) (b:=0) (hp:=[]) (Nat.le_refl _)).app 45 (by simp)
  rw[nil_append] at g2
  have hlX:fP TT 43 1 [(0,.sc (.int .u8 45))]=some (1,[u8v 45]):=Lu 45
  simp[BI,gQ,seq1,f116,and_assoc,bj,lD,h34,h0,h1,h5,hlX,KN,td,qp,sU8,bU8,zU8,bZ,g1,g2]
theorem aai(t:Ω)(ht:t.length<20000000)(h34:fr.length=34)(h1:nth fr 1=bA t) :
  ∃ fr',ae (CC L) run k HE ⟨fr,hp,wr⟩=some (.normal,⟨fr',hp,wr⟩)∧fr'.length=34∧nth fr' 1=bA t∧nth fr' 5=nth fr 5∧nth fr' 6 = .sc (.int .i64 ((t.length:Int) - 1)):=by
 have hw:=cM t.length (by omega)
 simp[HE,gQ,seq1,f116,dN,h34,h1,uL,hw]
theorem NA(l:Ω)(hl:Bok l)(h34:fr.length=34)(hO:dw u8v 0 hp l (nth fr 5)) :
  ∃ st,ae (CC L) run k (ai 6 gQ) ⟨fr,hp,wr⟩=some (.ret,st)∧aY TT st.fr st.hp f116.results.toList=some [.sc (.string (tx l))]:=by
 obtain⟨ids,h1⟩:=hO.s.rd
 have h2:=FW hl
 have hcv:dF TT hp 43 94 (nth fr 5)=some (.sc (.string (tx l)),ids):=by
  have h3:tx l=mkStr (l.map UInt8.ofNat):=rfl
  rw[h3]
  obtain⟨-,h⟩:=hO
  rcases h with ⟨rfl,h⟩| ⟨id,m,-,-,h,-⟩
  ·rw[h] at h1 ⊢
   simp only[dF,qp,uAI,u8T,h1,h2]
  ·rw[h] at h1 ⊢
   simp only[dF,qp,uAI,u8T,h1,h2]
 simp[gQ,f116,h34,hcv]
def mP:Ψ→Option Ψ
 | [.sc (.bool m),p]=>match mT p with
  | some l=>some [.sc (.string (tx (itx m (T.val l))))]
  | none=>none
 | _=>none
theorem KV(s:ByteArray):bu (snap hp bn) [.sc (.string s)]=some ([.sc (.string s)],[]):=rfl
theorem sM:Ab.Spec base.P 116 mP:=Ab.Spec.bL (C:=CC LT1) (cP JF) fun args rs h=>by
 unfold mP at h
 split at h
 ·split at h
  ·rename_i m p _ l e
   obtain⟨rfl,hd,hl⟩:=fW e
   simp only[OiE] at h
   subst h
   have hlt:=T.di (T.eM hd)
   obtain⟨f1,p1,p2,p3,p4⟩:=SZ (runK (CC LT1) (l.length+1)) (l.length+1) m l _ (fun hp=>FN (runK (CC LT1) (l.length+1)) false hp l hd hl)
   by_cases h0:T.val l=0
   ·rw[h0] at p4
    obtain⟨st,x1,x2⟩:=Nz LT1 (runK (CC LT1) (l.length+1)) (l.length+1) f1 [] [] p2 p4
    have hx:ae (CC LT1) (runK (CC LT1) (l.length+1)) (l.length+1) gQ ⟨entry 34 [.sc (.bool m),bA l],[],[]⟩=some (.ret,st):=by
     rw[aU 2 p1];exact x1
    rw[h0]
    exact⟨l.length+2,_,_,_,_,_,aZ uJ rfl hx x2,KV _ _,Wk.refl rfl,trivial⟩
   ·obtain⟨f2,q1,q2,q3,q4,q5⟩:=Ta LT1 (runK (CC LT1) (l.length+1)) (l.length+1) f1 [] [] m _ (T.cT.2 h0) p2 p3 p4
    obtain⟨f3,hp3,wr3,r1,r2,r3,r4⟩:=aaj LT1 (runK (CC LT1) (l.length+1)) (l.length+1) f2 m _ q2 q3 q4 q5
    obtain⟨f4,s1,s2,s3,s4,s5⟩:=aai LT1 (runK (CC LT1) (l.length+1)) (l.length+1) f3 hp3 wr3 _ (by omega) r2 r3
    obtain⟨f5,hp5,wr5,t1,t2,t3⟩:=zU LT1 (runK (CC LT1) (l.length+1)) (l.length+1) (T.aJ (T.val l)) (bif m then [45] else []) (T.bV _) (by omega) (by cases m <;> simp) _ f4 hp3 wr3 _ (Nat.le_refl _) s2 s3 s5 (by rw[s4];exact r4) (by simp)
    have hitx:itx m (T.val l)=(bif m then [45] else [])++(T.aJ (T.val l)).reverse.map (· + 48):=by rw[itx,if_neg h0]
    rw[← hitx] at t3
    obtain⟨st,x1,x2⟩:=NA LT1 (runK (CC LT1) (l.length+1)) (l.length+1) f5 hp5 wr5 _ (VH _ _) t2 t3
    have hx:ae (CC LT1) (runK (CC LT1) (l.length+1)) (l.length+1) gQ ⟨entry 34 [.sc (.bool m),bA l],[],[]⟩=some (.ret,st):=by
     rw[aU 2 p1,aU 2 q1,show ai 2 (ai 2 gQ)=ai 4 gQ from rfl,DJ,ao r1,DI,ao ((ao s1).trans (bD (bG t1 (by omega))))]
     exact x1
    exact⟨l.length+2,_,_,_,_,_,aZ uJ rfl hx x2,KV _ _,Wk.refl rfl,trivial⟩
  ·cases h
 ·cases h
def eQ:Ω→Nat
 | []=>0
 | a::l=>bif a.beq 45 then l.length else (a::l).length
theorem agj (a:Nat):((a:Int) == 45)=a.beq 45:=by
 cases h:a.beq 45 with
 | true=>rw[Nat.eq_of_beq_eq_true h];rfl
 | false =>
  rw[beq_eq_false_iff_ne]
  intro e
  have:a=45:=by omega
  subst this;cases h
theorem yS(l:Ω)(hl:Bok l)(h9:l.length<100000000) :
  ∃ st,ae (CC L) run k (f147.body.getD .skip) ⟨entry 16 [.sc (.string (tx l))],[],[]⟩=some (.ret,st)∧aY TT st.fr st.hp f147.results.toList=some [iv (eQ l)]:=by
 obtain⟨e1,e2⟩:=cV 15 (.sc (.string (tx l)))
 generalize entry 16 [.sc (.string (tx l))]=fr0 at *
 cases l with
 | nil=>simp[f147,e1,e2,undef,eQ,iv]
 | cons a l =>
  have hx:ic TT 94 (.sc (.string (tx (a::l)))) (.sc (.int .i64 0))=some (.sc (.int .u8 (a:Int))):=eW uAI hl .i64 0 (by simp)
  have hp:(0:Int)<(l.length:Int)+1:=by omega
  have hw:=cp .i64 l.length (hiI (by simp at h9;omega))
  have hb:=agj a
  cases h:a.beq 45 <;> rw[h] at hb <;> simp[f147,e1,e2,hx,hb,hp,hw,eQ,h,iv]
def lB:Ψ→Option Ψ
 | [.sc (.string s)]=>bif (bys s).length.blt 100000000 then some [iv (eQ (bys s))] else none
 | _=>none
theorem yR:Ab.Spec base.P 147 lB:=Ab.Spec.bL (C:=CC []) (cP trivial) fun args rs h=>by
 unfold lB at h
 split at h
 ·rename_i s
  cases hb:(bys s).length.blt 100000000 with
  | false=>rw[hb] at h;cases h
  | true =>
   rw[hb] at h
   simp only[cond_true,OiE] at h
   subst h
   rw[Nat.blt_eq] at hb
   obtain⟨st,x1,x2⟩:=yS [] (runK (CC []) 1) 1 (bys s) (mK s) hb
   rw[im] at x1
   exact⟨2,_,_,_,_,_,aZ y8 rfl x1 x2,rfl,Wk.refl rfl,trivial⟩
 ·cases h
def LT2:Lst:=[(147,lB)]
theorem XS:dt base.P LT2:=⟨yR,trivial⟩
theorem aba:bC LT2 147=fun a=>lB (aK a):=rfl
theorem pX (run:av)(dr:Bool)(hp:Θ)(l:Ω)(hl:Bok l)(h9:l.length<100000000):bS (CC LT2) run dr hp 147 [.sc (.string (tx l))]=some (.sc (.int .i64 (eQ l:Int)),hp,⟨[],[],false,false⟩) :=
 bq Dj aba run dr hp _ [iv (eQ l)] rfl rfl (by
  have h:l.length.blt 100000000=true:=by rw[Nat.blt_eq];exact h9
  simp only[lB,jH hl,h,cond_true])
theorem Eb(l:Ω)(hl:Bok l)(h9:l.length<100000000) :
  ∃ st,ae (CC LT2) run k (f100.body.getD .skip) ⟨entry 6 [.sc (.string (tx l))],[],[]⟩=some (.ret,st)∧aY TT st.fr st.hp f100.results.toList=some [.sc (.bool (decide (1000<eQ l)))]:=by
 obtain⟨e1,e2⟩:=cV 5 (.sc (.string (tx l)))
 generalize entry 6 [.sc (.string (tx l))]=fr0 at *
 have hc:=fun dr hp=>pX run dr hp l hl h9
 generalize eQ l=d at *
 have h1:((1000:Int)<(d:Int))=(1000<d):=by apply propext;omega
 simp[f100,e1,e2,aM,hc,h1]
def oM:Ψ→Option Ψ
 | [.sc (.string s)]=>bif (bys s).length.blt 100000000 then some [.sc (.bool (decide (1000<eQ (bys s))))] else none
 | _=>none
theorem um:Ab.Spec base.P 100 oM:=Ab.Spec.bL (C:=CC LT2) (cP XS) fun args rs h=>by
 unfold oM at h
 split at h
 ·rename_i s
  cases hb:(bys s).length.blt 100000000 with
  | false=>rw[hb] at h;cases h
  | true =>
   rw[hb] at h
   simp only[cond_true,OiE] at h
   subst h
   rw[Nat.blt_eq] at hb
   obtain⟨st,x1,x2⟩:=Eb (runK (CC LT2) 1) 1 (bys s) (mK s) hb
   rw[im] at x1
   exact⟨2,_,_,_,_,_,aZ Gh rfl x1 x2,rfl,Wk.refl rfl,trivial⟩
 ·cases h
def ud:Code:=((f113.body).bind az).getD .skip
def mQ:Code:=f113.body.getD .skip
theorem Tm(l:Ω)(h38:fr.length=38)(h0:nth fr 0 = .sc (.string (tx l)))(h5:nth fr 5=iv l.length) :
  ∃ fr',ae (CC L) run k ud ⟨fr,[],[]⟩=some (.exit 0,⟨fr',[],[]⟩)∧fr'.length=38∧nth fr' 0 = .sc (.string (tx l))∧nth fr' 4=nth fr 4:=by
 simp only[iv] at h5
 simp[ud,f113,az,h38,h0,h5]
set_option maxHeartbeats 1000000 in
theorem NL(l:Ω)(i:Nat)(hl:Bok l)(hi:i<l.length)(hi9:i<20000000)(h45:at0 l i=45)(h38:fr.length=38)(h0:nth fr 0 = .sc (.string (tx l)))(h5:nth fr 5=iv i) :
  ∃ fr',ae (CC L) run k ud ⟨fr,[],[]⟩=some (.normal,⟨fr',[],[]⟩)∧fr'.length=38∧nth fr' 0 = .sc (.string (tx l))∧nth fr' 4=nth fr 4∧nth fr' 5=iv (i+1):=by
 have hx:=eW uAI hl .i64 i hi
 have hw:=bE i (by omega)
 rw[h45] at hx
 simp only[iv] at h5 ⊢
 simp[ud,f113,az,h38,h0,h5,hi,hx,hw]
set_option maxHeartbeats 1000000 in
theorem aar(l:Ω)(i n:Nat)(hl:Bok l)(hi:i<l.length)(hi9:i<20000000)(hd:lL (at0 l i)=true)(hn:n<1000000000)(h38:fr.length=38)(h0:nth fr 0 = .sc (.string (tx l)))(h4:nth fr 4=iv n)(h5:nth fr 5=iv i) :
  ∃ fr',ae (CC L) run k ud ⟨fr,[],[]⟩=some (.normal,⟨fr',[],[]⟩)∧fr'.length=38∧nth fr' 0 = .sc (.string (tx l))∧nth fr' 4=iv (stp n (at0 l i))∧nth fr' 5=iv (i+1):=by
 have hx:=eW uAI hl .i64 i hi
 rw[dE] at hd
 have hw:=bE i (by omega)
 generalize at0 l i=b at *
 obtain⟨s1,hs1⟩:∃ s1,s1=10*n:=⟨_,rfl⟩
 obtain⟨s2,hs2⟩:∃ s2,s2=s1+b:=⟨_,rfl⟩
 obtain⟨s3,hs3⟩:∃ s3,s3=stp n b:=⟨_,rfl⟩
 have hs4:s2=s3+48:=by rw[hs3,hs2,hs1];unfold stp dv;omega
 rw[← hs3]
 have hw1:=J9 .i64 n s1 hs1 (hiI (by omega))
 have hw2:=cp .i64 b (hiI (by omega))
 have hw3:=dx .i64 s1 b s2 hs2 (hiI (by omega))
 have hw4:=Bd .i64 s2 s3 hs4 (hiI (by omega))
 have hne:((b:Int) == 45)=false:=by rw[beq_eq_false_iff_ne];omega
 have hne2 : ¬ ((b:Int)=45):=by omega
 simp only[iv] at h4 h5 ⊢
 simp[ud,f113,az,h38,h0,h4,h5,uI,u8T,dF,hi,hx,hne,bne,hw,hw1,hw2,hw3,hw4]
theorem sN (L:Lst)(run:av)(k:Nat)(m:Bool)(ds:Ω)(hd:eH ds=true)(h9:ds.length≤9):∀ (n i:Nat) (fr:Ψ) (x:Nat),i+n=((bif m then [45] else [])++ds).length →
  fr.length=38→nth fr 0 = .sc (.string (tx ((bif m then [45] else [])++ds)))→nth fr 4=iv x→nth fr 5=iv i→x=dec 0 (ds.take (i - (bif m then 1 else 0))) →
  ∃ (fr':Ψ),cg (ae (CC L) run k ud) (n+1) ⟨fr,[],[]⟩=some (.exit 0,⟨fr',[],[]⟩)∧fr'.length=38∧nth fr' 0 = .sc (.string (tx ((bif m then [45] else [])++ds)))∧nth fr' 4=iv (dec 0 ds)
 | 0,i,fr,x,hin,h38,h0,h4,h5,hx=>by
  have e:i=((bif m then [45] else [])++ds).length:=by omega
  rw[e] at h5
  obtain⟨fr',q1,q2,q3,q4⟩:=Tm L run k fr _ h38 h0 h5
  refine⟨fr',br q1,q2,q3,?_⟩
  rw[q4,h4,hx,take_of_length_le (by rw[e];cases m <;> simp)]
 | n+1,i,fr,x,hin,h38,h0,h4,h5,hx=>by
  have hB:Bok ((bif m then [45] else [])++ds):=by
   refine Bok.append ?_ ?_
   ·cases m
    ·exact Bok.nil
    ·exact Bok.nil.cons (by omega)
   ·intro x hx
    have:=dE.1 (fE hd hx)
    omega
  have hlen:((bif m then [45] else [])++ds).length=(bif m then 1 else 0)+ds.length:=by cases m <;> simp;omega
  rw[hlen] at hin
  have hil:i<(bif m then 1 else 0)+ds.length:=by omega
  have hi9:i<20000000:=by cases m <;> simp at hil <;> omega
  by_cases hs:m=true∧i=0
  ·obtain⟨rfl,rfl⟩:=hs
   obtain⟨fr1,g1,g2,g3,g4,g5⟩:=NL L run k fr _ 0 hB (by rw[hlen];exact hil) hi9 rfl h38 h0 h5
   obtain⟨fr',q1,q2⟩:=sN L run k true ds hd h9 n 1 fr1 x (by rw[hlen];omega) g2 g3 (by rw[g4,h4]) g5 (by simpa using hx)
   exact⟨fr',by rw[bU g1];exact q1,q2⟩
  ·obtain⟨j,hj,hj2⟩:∃ j,i=(bif m then 1 else 0)+j∧j<ds.length:=by
    cases m with
    | false=>exact⟨i,by simp,by simp at hil;exact hil⟩
    | true =>
     have:i≠0:=fun h=>hs ⟨rfl,h⟩
     exact⟨i - 1,by simp;omega,by simp at hil;omega⟩
   have hat:at0 ((bif m then [45] else [])++ds) i=ds[j]:=by
    unfold at0
    cases m with
    | false=>simp only[cond_false,nil_append,Nat.zero_add] at hj ⊢;subst hj;simp[hj2]
    | true=>simp only[cond_true] at hj ⊢;subst hj;rw[Nat.add_comm];simp[hj2]
   have hdb:lL (at0 ((bif m then [45] else [])++ds) i)=true:=by rw[hat];exact fE hd (getElem_mem hj2)
   have hdr:i - (bif m then 1 else 0)=j:=by rw[hj];cases m <;> simp
   have hdr2:i+1 - (bif m then 1 else 0)=j+1:=by rw[hj];cases m <;> simp <;> omega
   rw[hdr] at hx
   have hx9:x<1000000000:=by
    have h1:eH (ds.take j)=true:=by
     have:=fV (ds.take j) (ds.drop j)
     rw[take_append_drop,hd] at this
     have h2:=this.symm
     rw[Bool.and_eq_true] at h2
     exact h2.1
    have h2:=dec_lt _ h1
    rw[hx]
    refine Nat.lt_of_lt_of_le h2 (Nat.le_trans (Nat.pow_le_pow_right (by omega) (show (ds.take j).length≤9 by rw[length_take];omega)) (by decide))
   obtain⟨fr1,g1,g2,g3,g4,g5⟩:=aar L run k fr _ i x hB (by rw[hlen];exact hil) hi9 hdb hx9 h38 h0 h4 h5
   rw[hat] at g4
   obtain⟨fr',q1,q2⟩:=sN L run k m ds hd h9 n (i+1) fr1 _ (by rw[hlen];omega) g2 g3 g4 g5 (by
    rw[hdr2,take_succ_eq_append_getElem hj2,mI,← hx];rfl)
   exact⟨fr',by rw[bU g1];exact q1,q2⟩
theorem Jf {s:Ω}{m:Bool}{ds:Ω}(h:yN s=some (m,ds)):eQ s=ds.length:=by
 obtain⟨h1,h2,h3⟩:=sA h
 cases m with
 | true=>subst h1;rfl
 | false =>
  simp only[cond_false,nil_append] at h1
  subst h1
  cases s with
  | nil=>rfl
  | cons a l =>
   have:=dE.1 (fE h2 (mem_cons_self ..))
   have hb:a.beq 45=false:=by
    cases e:a.beq 45 with
    | false=>rfl
    | true=>have:=Nat.eq_of_beq_eq_true e;omega
   simp[eQ,hb]
def HN:Code:=seq1 (seq1 (ai 3 mQ))
theorem DU:ai 3 mQ = .seq (.seq HN (.block 0 (.loop ud))) (ai 4 mQ):=rfl
theorem NN(l:Ω)(hl:Bok l)(h9:l.length<100000000)(hd:9<eQ l) :
  ∃ st,ae (CC LT2) run k mQ ⟨entry 38 [.sc (.string (tx l))],[],[]⟩=some (.ret,st)∧aY TT st.fr st.hp f113.results.toList=some [Ab.bJ 0,.sc (.bool false)]:=by
 obtain⟨e1,e2⟩:=cV 37 (.sc (.string (tx l)))
 generalize entry 38 [.sc (.string (tx l))]=fr0 at *
 have hc:=fun dr hp=>pX run dr hp l hl h9
 generalize eQ l=d at *
 have h1:((9:Int)<(d:Int)):=by omega
 simp[mQ,f113,e1,e2,aM,hc,h1,Ab.bJ]
theorem NM (run:av)(k:Nat)(l:Ω)(hl:Bok l)(h9:l.length<100000000)(hd:eQ l≤9) :
  ∃ fr,bh (CC LT2) run k 3 mQ ⟨entry 38 [.sc (.string (tx l))],[],[]⟩=some ⟨fr,[],[]⟩∧fr.length=38∧nth fr 0 = .sc (.string (tx l))∧nth fr 4=iv 0:=by
 obtain⟨e1,e2⟩:=cV 37 (.sc (.string (tx l)))
 generalize entry 38 [.sc (.string (tx l))]=fr0 at *
 have hc:=fun dr hp=>pX run dr hp l hl h9
 generalize eQ l=d at *
 have h1 : ¬ ((9:Int)<(d:Int)):=by omega
 simp[mQ,f113,bh,e1,e2,aM,hc,h1,iv]
theorem aaq(h38:fr.length=38) :
  ∃ fr',ae (CC L) run k HN ⟨fr,[],[]⟩=some (.normal,⟨fr',[],[]⟩)∧fr'.length=38∧nth fr' 0=nth fr 0∧nth fr' 4=nth fr 4∧nth fr' 5=iv 0:=by
 simp[HN,mQ,seq1,f113,h38,iv]
theorem NO(a:Nat)(l:Ω)(x:Nat)(hl:Bok (a::l))(hx9:x<1000000000)(h38:fr.length=38)(h0:nth fr 0 = .sc (.string (tx (a::l))))(h4:nth fr 4=iv x) :
  ∃ st,ae (CC L) run k (ai 4 mQ) ⟨fr,[],[]⟩=some (.ret,st)∧aY TT st.fr st.hp f113.results.toList=some [Ab.bJ (gD (a.beq 45) x),.sc (.bool true)]:=by
 have hx:ic TT 94 (.sc (.string (tx (a::l)))) (.sc (.int .i64 0))=some (.sc (.int .u8 (a:Int))):=eW uAI hl .i64 0 (by simp)
 have hp:(0:Int)<(l.length:Int)+1:=by omega
 have hb:=agj a
 have hw:bB .i64 (-(x:Int)) = -(x:Int):=fi _ (by omega) (by omega)
 simp only[iv] at h4
 cases h:a.beq 45 with
 | true =>
  rw[h] at hb
  have e:gD true x = -(x:Int):=by cases x <;> rfl
  rw[e]
  simp[mQ,f113,unP,h38,h0,h4,hx,hp,hb,hw,Ab.bJ]
 | false =>
  rw[h] at hb
  have e:gD false x=(x:Int):=rfl
  rw[e]
  simp[mQ,f113,h38,h0,h4,hx,hp,hb,Ab.bJ]
def uc:Ψ→Option Ψ
 | [.sc (.string s)]=>match yN (bys s) with
  | some (m,ds)=>bif (bys s).length.blt 100000000 then (bif ds.length.ble 9 then some [Ab.bJ (gD m (dec 0 ds)),.sc (.bool true)] else some [Ab.bJ 0,.sc (.bool false)]) else none
  | none=>none
 | _=>none
theorem zZ:Ab.Spec base.P 113 uc:=Ab.Spec.bL (C:=CC LT2) (cP XS) fun args rs h=>by
 unfold uc at h
 split at h
 ·rename_i s
  split at h
  ·rename_i m ds e
   cases hb:(bys s).length.blt 100000000 with
   | false=>rw[hb] at h;cases h
   | true =>
    rw[hb] at h
    simp only[cond_true] at h
    rw[Nat.blt_eq] at hb
    have hs:s=tx (bys s):=(im s).symm
    have hok:=mK s
    have hdn:=Jf e
    obtain⟨e1,e2,e3⟩:=sA e
    cases hc:ds.length.ble 9 with
    | false =>
     rw[hc] at h
     simp only[cond_false,OiE] at h
     subst h
     have hd:9<eQ (bys s):=by
      rw[hdn]
      rcases Nat.lt_or_ge 9 ds.length with h | h
      ·exact h
      ·rw[show ds.length.ble 9=true by rw[Nat.ble_eq];exact h] at hc;cases hc
     obtain⟨st,x1,x2⟩:=NN (runK (CC LT2) 1) 1 (bys s) hok hb hd
     rw[← hs] at x1
     exact⟨2,_,_,_,_,_,aZ se rfl x1 x2,rfl,Wk.refl rfl,Wk.refl rfl,trivial⟩
    | true =>
     rw[hc] at h
     simp only[cond_true,OiE] at h
     subst h
     rw[Nat.ble_eq] at hc
     obtain⟨f1,p1,p2,p3,p4⟩:=NM (runK (CC LT2) ((bys s).length+1)) ((bys s).length+1) (bys s) hok hb (by rw[hdn];exact hc)
     obtain⟨f2,q1,q2,q3,q4,q5⟩:=aaq LT2 (runK (CC LT2) ((bys s).length+1)) ((bys s).length+1) f1 p2
     obtain⟨f3,r1,r2,r3,r4⟩:=sN LT2 (runK (CC LT2) ((bys s).length+1)) ((bys s).length+1) m ds e2 hc (bys s).length 0 f2 0 (by rw[← e1];omega) q2 (by rw[q3,p3,← e1]) (by rw[q4,p4]) q5 (by cases m <;> rfl)
     rw[← e1] at r3
     obtain⟨a,l,hal⟩:∃ a l,bys s=a::l:=by
      cases h:bys s with
      | nil=>exact absurd h e3
      | cons a l=>exact⟨a,l,rfl⟩
     have hm:a.beq 45=m:=by
      rw[hal] at e1
      cases m with
      | true=>simp at e1;rw[e1.1];rfl
      | false =>
       simp only[cond_false,nil_append] at e1
       subst e1
       have:=dE.1 (fE e2 (mem_cons_self ..))
       cases h:a.beq 45 with
       | false=>rfl
       | true=>have:=Nat.eq_of_beq_eq_true h;omega
     have hx9:dec 0 ds<1000000000:=Nat.lt_of_lt_of_le (dec_lt _ e2) (Nat.le_trans (Nat.pow_le_pow_right (by omega) hc) (by decide))
     rw[hal] at hok r3
     obtain⟨st,x1,x2⟩:=NO LT2 (runK (CC LT2) ((bys s).length+1)) ((bys s).length+1) f3 a l _ hok hx9 r2 r3 r4
     rw[hm] at x2
     have hx:ae (CC LT2) (runK (CC LT2) ((bys s).length+1)) ((bys s).length+1) mQ ⟨entry 38 [.sc (.string s)],[],[]⟩=some (.ret,st):=by
      rw[im] at p1
      rw[aU 3 p1,DU,ao ((ao q1).trans (bD r1))]
      exact x1
     exact⟨(bys s).length+2,_,_,_,_,_,aZ se rfl hx x2,rfl,Wk.refl rfl,Wk.refl rfl,trivial⟩
  ·cases h
 ·cases h
end Go.Proofs.YtjdmodeenbdfpaaGreat
end
