/- Contracts of the reference and of the law, part 49 of the proof; each lemma states its own conditions. -/
import Derived.Test.YtjdmodeenbdfpaaGreatT48
set_option linter.unusedSimpArgs false
set_option linter.unusedVariables false
noncomputable section
namespace Go.Proofs.YtjdmodeenbdfpaaGreat
open Go Go.Ab List
attribute [local simp] FzZ aA aC aF aG aH aa ab ae af ag ai aj an ao aq aw az bc bj db
variable(L:Lst)(run:ar)(k:Nat)(fr:List PV)(hp:List Blk)(wr:List Nat)
theorem uT:base.F.get 99=some Tryz.f99:=by kernel_rfl
theorem sv:base.shared 99=false:=by kernel_rfl
def mtC:Code:=Tryz.f99.body.getD .skip
def mtB:Code:=(aC mtC).getD .skip
def mtI:Code:=db mtB
def H6:Code:=(aC mtI).getD .skip
def pC:Code:=db H6
theorem uZ:und TT 55=some (.slice 38):=by kernel_rfl
theorem sRs:dt TT 38=some 1:=by kernel_rfl
theorem aRs:fZ TT 38=some false:=by kernel_rfl
theorem bRs:ie TT 38=some 24:=by kernel_rfl
theorem zRs:eK TT 38=some [.sc (.slice none 0 0)]:=by kernel_rfl
theorem afz:((Region.before (fx pC))[16]?.getD 0).testBit 8=true:=by kernel_rfl
theorem afy:((Region.before (fx pC))[17]?.getD 0).testBit 8=true:=by kernel_rfl
theorem abh:((Region.before (fx pC))[17]?.getD 0).testBit 16=true:=by kernel_rfl
theorem afx:((Region.before (fx pC))[18]?.getD 0).testBit 8=true:=by kernel_rfl
theorem abg:((Region.before (fx pC))[18]?.getD 0).testBit 16=true:=by kernel_rfl
theorem abf:((Region.before (fx pC))[18]?.getD 0).testBit 17=true:=by kernel_rfl
def jU (k:Nat)(r:List Rat):List Rat:=r.take k++r.drop (k+1)
theorem ap2(A B:List PV)(h:A.length+B.length≠0)(h9:A.length+B.length≤1000) :
  ∃ p1 hp1 fp1 r hp2 fp2,cJ hp 1 (.imm 0 true []) A.length A=some (p1,hp1,fp1)∧cJ hp1 1 p1 B.length B=some (.own r 1 0 (A.length+B.length) false,hp2,fp2)∧Hgr hp hp2∧hp.length≤r∧r<hp2.length∧aY hp2 r=some ⟨.live,A++B⟩:=by
 have hm:A.length+B.length≤cS:=Nat.le_trans h9 (by decide)
 have hm2:A.length≤cS:=by omega
 by_cases hA:A.length=0
 ·have e:A=[]:=eq_nil_of_length_eq_zero hA
  subst e
  have hB:B.length≠0:=by simpa using h
  refine⟨.imm 0 true [],hp,FzZ,hp.length,aM hp B,⟨[],[hp.length],true,false⟩,by simp[cJ],?_,Hgr.new hp B,Nat.le_refl _,by simp[aM],al1 hp B⟩
  simp only[cJ]
  rw[if_neg hB,if_pos ⟨by simpa using hm,rfl⟩]
  simp
 ·refine⟨.own hp.length 1 0 A.length false,aM hp A,⟨[],[hp.length],true,false⟩,hp.length+1,aM (bZ (aM hp A) hp.length ⟨.dead,[]⟩) (A++B),⟨[],[hp.length,hp.length+1],true,false⟩,?_,?_,?_,by omega,by simp[aM,bL],?_⟩
  ·simp only[cJ]
   rw[if_neg hA,if_pos ⟨by simpa using hm2,rfl⟩]
   simp
  ·have ht:bF (br A 0) (A.length*1)=some A:=by rw[cA,drop_zero,Nat.mul_one,dh (Nat.le_refl _),take_length]
   simp only[cJ,al1]
   rw[if_neg (by simp),ht]
   simp only
   rw[if_pos hm]
   simp[aM]
  ·exact (Hgr.afo hp A ⟨.dead,[]⟩).trans (Hgr.new _ _)
  ·have:hp.length+1=(bZ (aM hp A) hp.length ⟨.dead,[]⟩).length:=by rw[al4]
   rw[this];exact al1 _ _
theorem uu (X:List Rat):qL X = .imm X.length false (X.map qt):=by
 have e:∀ X:List Rat,(X.map qb).flatMap es=X.map qt:=fun X=>by
  induction X with
  | nil=>rfl
  | cons a X ih=>rw[map_cons,flatMap_cons,ih];rfl
 unfold qL pE fg
 rw[e,length_map]
theorem ahL (hp:List Blk)(X:List Rat)(k:Nat)(hk:k≤X.length):dq TT hp 38 (qL X) none (some (.sc (.int .i64 (k:Int)))) none=some (.imm k false ((X.take k).map qt)):=by
 have ht:bF (X.map qt) k=some ((X.take k).map qt):=by rw[dh (by simpa using hk),map_take]
 rw[uu]
 simp only[dq,uRs,gQ,iQ,bnd,fk,bm]
 rw[if_pos ⟨Nat.zero_le _,hk⟩]
 simp[gE,cA,ht]
theorem ahM (hp:List Blk)(X:List Rat)(k:Nat)(hk:k+1≤X.length):dq TT hp 38 (qL X) (some (.sc (.int .i64 ((k:Int)+1)))) none none=some (.imm (X.length - (k+1)) false ((X.drop (k+1)).map qt)):=by
 have ht:bF ((X.map qt).drop (k+1)) (X.length - (k+1))=some ((X.drop (k+1)).map qt):=by
  rw[dh (by simp),← map_drop,take_of_length_le (by simp)]
 have e:((k:Int)+1)=((k+1:Nat):Int):=by omega
 rw[uu,e]
 simp only[dq,uRs,gQ,iQ,bnd,fk,bm]
 rw[if_pos ⟨hk,Nat.le_refl _⟩]
 simp[gE,cA,ht]
def Rst (hp:List Blk)(rows:List (List Rat))(p:PV):Prop:=(rows=[]∧p = .sc (.slice none 0 0))∨∃ id ps,p = .own id 1 0 rows.length false∧aY hp id=some ⟨.live,ps⟩∧ps.length=rows.length∧∀ t (h:t<rows.length),∃ r,r≠id∧ps[t]?=some (.own r 1 0 rows[t].length false)∧aY hp r=some ⟨.live,rows[t].map qt⟩
theorem Rst.app {hp hp3:List Blk}{rows:List (List Rat)}{p:PV}{X:List Rat}{r:Nat}(h:Rst hp rows p)(hg:Hgr hp hp3)(hr:hp.length≤r)(hX:aY hp3 r=some ⟨.live,X.map qt⟩)(h9:rows.length≤1000):∃ p' hp4 fp4,cJ hp3 1 p 1 [.own r 1 0 X.length false]=some (p',hp4,fp4)∧Rst hp4 (rows++[X]) p':=by
 have hrl:=eO hX
 rcases h with ⟨rfl,rfl⟩| ⟨id,ps,rfl,h1,h2,h3⟩
 ·refine⟨.own hp3.length 1 0 1 false,aM hp3 [.own r 1 0 X.length false],⟨[],[hp3.length],true,false⟩,by simp[cJ,cS],.inr ⟨hp3.length,_,rfl,al1 _ _,rfl,fun t ht => ?_⟩⟩
  have e:t=0:=by simp at ht;omega
  subst e
  exact⟨r,by omega,rfl,by rw[bK,if_neg (by omega)];exact hX⟩
 ·have hid:=eO h1
  have h1':aY hp3 id=some ⟨.live,ps⟩:=by rw[hg.2 id hid,h1]
  have ht:bF (br ps 0) (rows.length*1)=some ps:=by rw[cA,drop_zero,Nat.mul_one,dh (by omega),← h2,take_length]
  have hm:rows.length+1≤cS:=Nat.le_trans (Nat.succ_le_succ h9) (by decide)
  have hl:hp3.length=(bZ hp3 id ⟨.dead,[]⟩).length:=(bL _ _ _).symm
  refine⟨.own hp3.length 1 0 (rows.length+1) false,aM (bZ hp3 id ⟨.dead,[]⟩) (ps++[.own r 1 0 X.length false]),⟨[],[id,hp3.length],true,false⟩,?_,.inr ⟨hp3.length,ps++[.own r 1 0 X.length false],by simp,?_,by simp[h2],fun t ht => ?_⟩⟩
  ·simp only[cJ,h1']
   rw[if_neg (by simp),ht]
   simp only
   rw[if_pos hm]
  ·rw[hl];exact al1 _ _
  ·by_cases e:t<rows.length
   ·obtain⟨q,q1,q2,q3⟩:=h3 t e
    have hq:=eO q3
    have hgl:=hg.1
    refine⟨q,by omega,by rw[getElem?_append_left (by omega),getElem_append_left e];exact q2,?_⟩
    rw[getElem_append_left e,bK,if_neg (by rw[← hl];omega),jS h1' q1,hg.2 q hq,q3]
   ·have e2:t=rows.length:=by simp at ht;omega
    subst e2
    refine⟨r,by omega,by rw[getElem?_append_right (by omega),h2];simp,?_⟩
    rw[bK,if_neg (by rw[← hl];omega),jS h1' (by omega),hX]
    simp
theorem KV (M:List (List Rat))(i:Nat)(hi:i<M.length):∃ r,bg TT 55 (qC M) (.sc (.int .i64 (i:Int)))=some (.iptr r)∧r.head?=some (qL M[i]):=by
 have hi':i<(M.map fun P=>P.map qb).length:=by simpa using hi
 refine⟨br ((M.map fun P=>P.map qb).flatMap ep) (i*1),?_,?_⟩
 ·unfold qC cE fg
  simp only[bg,uZ,bm,sRs,hi',if_true]
 ·rw[lh VT.toEl _ i hi',getElem_map];rfl
theorem ac5:∃ el,und TT 55=some (.slice el):=⟨_,uZ⟩
set_option maxHeartbeats 4000000 in
theorem afu (L:Lst)(run:ar)(k0:Nat)(fr:List PV)(hp:List Blk)(wr:List Nat)(M rows:List (List Rat))(p:PV)(k i n:Nat)(hi:i<M.length)(hn:M[i].length=n)(hk:k<n)(h2:2≤n)(h9:n≤100)(hr9:rows.length≤100)(hR:Rst hp rows p)(h0:fr.length=60)(h00:nth fr 0=qC M)(h4:nth fr 4=iv k)(h5:nth fr 5=p)(h6:nth fr 6=iv i) :
  ∃ fr' hp' wr',af (CC L) run k0 (.block 3 pC) ⟨fr,hp,wr⟩=some (.normal,⟨fr',hp',wr'⟩)∧Rst hp' (rows++[jU k M[i]]) (nth fr' 5):=by
 obtain⟨r,x1,x2⟩:=KV M i hi
 have s1:=ahL hp M[i] k (by omega)
 have s2:=fun hp=>ahM hp M[i] k (by omega)
 obtain⟨p1,hp1,fp1,q,hp2,fp2,a1,a2,a3,a4,a5,a6⟩:=ap2 hp ((M[i].take k).map qt) ((M[i].drop (k+1)).map qt) (by rw[length_map,length_map,length_take,length_drop];omega) (by rw[length_map,length_map,length_take,length_drop];omega)
 have l1:((M[i].take k).map qt).length=k:=by simp;omega
 have l2:((M[i].drop (k+1)).map qt).length=n - (k+1):=by simp[hn]
 have l3:k+(n - (k+1))=(jU k M[i]).length:=by unfold jU;simp[hn];omega
 rw[l1] at a1 a2
 rw[l2] at a2
 rw[l3] at a2
 rw[← map_append] at a6
 have a6':aY (aM hp2 [.own q 1 0 (jU k M[i]).length false]) q=some ⟨.live,(jU k M[i]).map qt⟩:=by rw[bK,if_neg (by omega)];exact a6
 obtain⟨p',hp4,fp4,b1,b2⟩:=hR.app (a3.trans (Hgr.new hp2 [.own q 1 0 (jU k M[i]).length false])) a4 a6' (by omega)
 have hw:=bH k (by omega)
 have d1:∀ hp,ew hp 1 (.imm k false ((M[i].take k).map qt))=some (k,(M[i].take k).map qt,[]):=fun hp=>by simp only[ew,l1,Nat.mul_one,if_true]
 have d2:∀ hp,ew hp 1 (.imm (n - (k+1)) false ((M[i].drop (k+1)).map qt))=some (n - (k+1),(M[i].drop (k+1)).map qt,[]):=fun hp=>by simp only[ew,l2,Nat.mul_one,if_true]
 have ok1:bh ((M[i].take k).map qt)=true:=(show Sc1 qt from fun x=>.inr (.inl ⟨_,rfl⟩)).yR _
 have ok2:bh ((M[i].drop (k+1)).map qt)=true:=(show Sc1 qt from fun x=>.inr (.inl ⟨_,rfl⟩)).yR _
 have lt0:eL TT 38 0 []=some (1,[]):=by simp[eL,uRs,iQ,qw,rep,dA]
 have lt1:∀ v:PV,v.cells?=some [v]→eL TT 55 1 [(0,v)]=some (1,[v]):=fun v hv=>by simp[eL,uZ,sRs,zRs,rep,dA,hv,cq]
 have lt1':=lt1 (.own q 1 0 (jU k M[i]).length false) rfl
 have id0:bU []=true:=rfl
 have id1:bU [PV.own q 1 0 (jU k M[i]).length false]=false:=rfl
 have rd3:ew (aM hp2 [PV.own q 1 0 (jU k M[i]).length false]) 1 (.own hp2.length 1 0 1 true)=some (1,[PV.own q 1 0 (jU k M[i]).length false],[hp2.length]):=by
  simp[ew,al1,br,bF]
 have ok3:bh [PV.own q 1 0 (jU k M[i]).length false]=true:=rfl
 rw[hn] at s2
 have hq:=uu M[i]
 rw[hn] at hq
 rw[hq] at x2 s1
 simp only[hq] at s2
 clear hq
 generalize M[i].map qt=cs at *
 generalize (jU k M[i]).length=w at *
 generalize (M[i].take k).map qt=A at *
 generalize (M[i].drop (k+1)).map qt=B at *
 generalize hm:n - (k+1)=m at *
 have c1:=afz
 have c2:=afy
 have c3:=abh
 have c4:=afx
 have c5:=abg
 have c6:=abf
 simp[-Nat.testBit_zero,pC,H6,mtI,mtB,mtC,Tryz.f99,fx] at c1 c2 c3 c4 c5 c6
 have fr0':=fr0
 have f17:FP.free ⟨[],[hp2.length],true,false⟩=false:=rfl
 have f18:FP.free ⟨hp2.length::fp4.rd,fp4.wr,fp4.al,false⟩=false:=rfl
 simp only[iv] at h4 h6
 cases e1:FP.free ⟨fp1.rd,fp1.wr,fp1.al,false⟩ <;> cases e2:FP.free ⟨fp2.rd,fp2.wr,fp2.al,false⟩ <;> simp[-Nat.testBit_zero,c1,c2,c3,c4,c5,c6,pC,H6,mtI,mtB,mtC,Tryz.f99,partOf,bd,and_assoc,kC,bh,h0,h00,h4,h5,h6,x1,x2,s1,s2,d1,d2,ok1,ok2,lt0,lt1',id0,id1,rd3,a1,a2,b1,b2,hw,uZ,uRs,sRs,aRs,bRs,zRs,iQ,Lx,qw,cg,aV,number,fr0',f17,f18,e1,e2,cH]
def dMs (f:List (List Rat)→Rat)(M:List (List Rat)):Nat→Rat
 | 0=>0
 | k+1=>dMs f M k+(if k % 2=1 then -((M.headD []).getD k 0*f ((M.drop 1).map (jU k))) else (M.headD []).getD k 0*f ((M.drop 1).map (jU k)))
def dMv:Nat→List (List Rat)→Rat
 | 0,_=>1
 | n+1,M=>dMs (dMv n) M (n+1)
def dB:Nat→Nat
 | 0=>1
 | n+1=>(n+1)*(1000+dB n+1)+1
def SqM (n:Nat)(M:List (List Rat)):Prop:=M.length=n∧∀ R ∈ M,R.length=n∧RbL 1000 R
theorem SqM.minor {n k:Nat}{M:List (List Rat)}(h:SqM (n+1) M)(hk:k<n+1):SqM n ((M.drop 1).map (jU k)):=by
 refine⟨by rw[length_map,length_drop,h.1];rfl,fun R hR => ?_⟩
 obtain⟨S,hS,rfl⟩:=mem_map.1 hR
 obtain⟨s1,s2⟩:=h.2 S (mem_of_mem_drop hS)
 refine⟨by unfold jU;rw[length_append,length_take,length_drop];omega,fun x hx => ?_⟩
 unfold jU at hx
 rcases mem_append.1 hx with hx | hx
 ·exact s2 x (mem_of_mem_take hx)
 ·exact s2 x (mem_of_mem_drop hx)
theorem SqM.hd {n k:Nat}{M:List (List Rat)}(h:SqM (n+1) M):Rb 1000 ((M.headD []).getD k 0):=by
 cases M with
 | nil=>exact (Rb.zero 0).mono (by omega)
 | cons R M=>exact (h.2 R mem_cons_self).2.at (by omega) k
theorem IM {n b:Nat}{M:List (List Rat)}{f:List (List Rat)→Rat}(h:SqM (n+1) M)(hf:∀ k,k<n+1→Rb b (f ((M.drop 1).map (jU k)))):∀ k,k≤n+1→Rb (k*(1000+b+1)+1) (dMs f M k)
 | 0,_=>Rb.zero _
 | k+1,hk=>by
  have ih:=IM h hf k (by omega)
  have e:(k+1)*(1000+b+1)=k*(1000+b+1)+(1000+b+1):=Nat.succ_mul k _
  have hm:=(h.hd (k:=k)).mul (hf k (by omega))
  unfold dMs
  split
  ·exact (ih.add hm.neg).mono (by rw[e];omega)
  ·exact (ih.add hm).mono (by rw[e];omega)
theorem yk:∀ (n:Nat) {M:List (List Rat)},SqM n M→Rb (dB n) (dMv n M)
 | 0,_,_=>Rb.one 0
 | n+1,_,h=>IM h (fun k hk=>yk n (h.minor hk)) (n+1) (Nat.le_refl _)
theorem QT(d r:Nat)(X:List Rat)(h:aY hp r=some ⟨.live,X.map qt⟩):snap hp (d+2) (.own r 1 0 X.length false)=some (qL X,[r]):=by
 have hs:Sc1 qt:=fun x=>.inr (.inl ⟨_,rfl⟩)
 have ht:bF (br (X.map qt) 0) (X.length*1)=some (X.map qt):=by rw[cA,drop_zero,Nat.mul_one,dh (by simp),take_of_length_le (by simp)]
 rw[snap]
 simp only[h]
 rw[if_neg (by simp),ht]
 simp only[hs.CU hp d X,uu]
theorem zv (hp:List Blk)(d:Nat):∀ (rows:List (List Rat)) (ps:List PV),ps.length=rows.length→(∀ t (h:t<rows.length),∃ r,ps[t]?=some (.own r 1 0 rows[t].length false)∧aY hp r=some ⟨.live,rows[t].map qt⟩)→∃ ids,bq (snap hp (d+2)) ps=some (rows.map qL,ids)
 | [],[],_,_=>⟨[],rfl⟩
 | X::rows,p::ps,hl,h=>by
  obtain⟨r,h1,h2⟩:=h 0 (by simp)
  have h1':p = .own r 1 0 X.length false:=by simpa using h1
  obtain⟨ids,ih⟩:=zv hp d rows ps (by simpa using hl) (fun t ht=>by
   obtain⟨r,q1,q2⟩:=h (t+1) (by simpa using ht)
   exact⟨r,by simpa using q1,by simpa using q2⟩)
  refine⟨[r]++ids,?_⟩
  subst h1'
  simp only[bq,QT hp d r X h2,ih,map_cons]
 | [],_::_,hl,_=>by simp at hl
 | _::_,[],hl,_=>by simp at hl
theorem adg (M:List (List Rat)):qC M = .imm M.length false (M.map qL):=by
 have e:∀ M:List (List Rat),(M.map fun P=>P.map qb).flatMap ep=M.map qL:=fun M=>by
  induction M with
  | nil=>rfl
  | cons a M ih=>rw[map_cons,flatMap_cons,ih];rfl
 unfold qC cE fg
 rw[e,length_map]
theorem Rst.snap {hp:List Blk}{rows:List (List Rat)}{p:PV}(h:Rst hp rows p):∃ q ids,bq (Ab.snap hp bn) [p]=some ([q],ids)∧aJ [q]=[qC rows]:=by
 rcases h with ⟨rfl,rfl⟩| ⟨id,ps,rfl,h1,h2,h3⟩
 ·exact⟨.sc (.slice none 0 0),[],rfl,rfl⟩
 ·obtain⟨ids,hi⟩:=zv hp 9 rows ps h2 (fun t ht=>by
   obtain⟨r,-,q1,q2⟩:=h3 t ht
   exact⟨r,q1,q2⟩)
  have ht:bF (br ps 0) (rows.length*1)=some ps:=by rw[cA,drop_zero,Nat.mul_one,dh (by omega),← h2,take_length]
  have hs:Ab.snap hp 12 (.own id 1 0 rows.length false)=some (qC rows,id::ids):=by
   rw[Ab.snap]
   simp only[h1]
   rw[if_neg (by simp),ht]
   simp only[hi,adg]
  refine⟨qC rows,id::ids++[],?_,by simp only[aJ,qC,fV]⟩
  show bq (Ab.snap hp 12) _=_
  simp only[bq,hs]
theorem aij (L:Lst)(run:ar)(k0:Nat)(fr:List PV)(hp:List Blk)(wr:List Nat)(h0:fr.length=60):∃ fr',aX (CC L) run k0 1 mtI ⟨fr,hp,wr⟩=some ⟨fr',hp,wr⟩∧af (CC L) run k0 (seq1 mtI) ⟨fr,hp,wr⟩=some (.normal,⟨fr',hp,wr⟩)∧nth fr' 5 = .sc (.slice none 0 0):=by
 simp[aX,seq1,mtI,mtB,mtC,Tryz.f99,h0]
theorem aii (L:Lst)(run:ar)(k0:Nat)(fr:List PV)(hp:List Blk)(wr:List Nat)(h0:fr.length=60):∃ fr',af (CC L) run k0 (seq1 (seq1 (ah 1 mtI))) ⟨fr,hp,wr⟩=some (.normal,⟨fr',hp,wr⟩)∧nth fr' 6=iv 1:=by
 simp[iv,seq1,ah,mtI,mtB,mtC,Tryz.f99,h0]
theorem ajw:ah 1 mtI = .seq (.seq (seq1 (seq1 (ah 1 mtI))) (.block 2 (.loop H6))) (.seq (seq1 (ah 2 mtI)) (.seq (seq1 (ah 3 mtI)) (ah 4 mtI))):=rfl
theorem aft (L:Lst)(run:ar)(k0:Nat)(fr:List PV)(hp:List Blk)(wr:List Nat)(M:List (List Rat))(p:PV)(k:Nat)(t u:ByteArray)(ids:List Nat)(hM:0<M.length)(hk:k<M[0].length)(hc:∀ dr,bX (CC L) run dr hp 99 [p]=some (.sc (.string t),hp,⟨ids,[],false,false⟩))(g:au L run 34 [qt M[0][k],.sc (.string t)] (.sc (.string u)))(h0:fr.length=60)(h00:nth fr 0=qC M)(h4:nth fr 4=iv k)(h5:nth fr 5=p) :
  ∃ fr' wr',af (CC L) run k0 (seq1 (ah 2 mtI)) ⟨fr,hp,wr⟩=some (.normal,⟨fr',hp,wr'⟩)∧nth fr' 7 = .sc (.string u):=by
 obtain⟨r,x1,x2⟩:=KV M 0 hM
 obtain⟨r2,y1,y2⟩:=EI M[0] k hk
 have y1':bg TT 38 (qL M[0]) (.sc (.int .i64 (k:Int)))=some (.iptr r2):=by
  have:bg TT 38 (qL M[0]) (.sc (.int .i64 (k:Int)))=bg TT 39 (qL M[0]) (.sc (.int .i64 (k:Int))):=by
   unfold bg
   rw[uRs,uPt]
  rw[this];exact y1
 unfold qt at g
 unfold au at g
 generalize qb M[0][k]=s1 at *
 generalize qL M[0]=q at *
 rw[show (((0:Nat):Int))=(0:Int) from rfl] at x1
 have fr0':=fr0
 simp only[iv] at h4
 cases e1:FP.free ⟨ids,[],false,false⟩ <;> simp[seq1,ah,mtI,mtB,mtC,Tryz.f99,aL,partOf,bd,and_assoc,h0,h00,h4,h5,x1,x2,y1',y2,hc,g,aRs,sRs,uM,iQ,aV,number,fr0',e1]
theorem abc (L:Lst)(run:ar)(k0:Nat)(fr:List PV)(hp:List Blk)(wr:List Nat)(k:Nat)(s u v:ByteArray)(hk:k % 2=1)(g1:au L run 122 [.sc (.string u)] (.sc (.string v)))(h0:fr.length=60)(h4:nth fr 4=iv k)(h7:nth fr 7 = .sc (.string u)) :
  ∃ fr',af (CC L) run k0 (seq1 (ah 3 mtI)) ⟨fr,hp,wr⟩=some (.normal,⟨fr',hp,wr⟩)∧nth fr' 7 = .sc (.string v):=by
 have htm:=wa k 2 1 hk.symm
 simp only[iv] at h4
 unfold au at g1
 rw[show (((2:Nat):Int))=(2:Int) from rfl,show (((1:Nat):Int))=(1:Int) from rfl] at htm
 simp[seq1,ah,mtI,mtB,mtC,Tryz.f99,aL,h0,h4,h7,g1,htm]
theorem abd (L:Lst)(run:ar)(k0:Nat)(fr:List PV)(hp:List Blk)(wr:List Nat)(k:Nat)(hk:k % 2=0)(h0:fr.length=60)(h4:nth fr 4=iv k) :
  ∃ fr',af (CC L) run k0 (seq1 (ah 3 mtI)) ⟨fr,hp,wr⟩=some (.normal,⟨fr',hp,wr⟩)∧nth fr' 7=nth fr 7:=by
 have htm:=wa k 2 0 hk.symm
 simp only[iv] at h4
 rw[show (((2:Nat):Int))=(2:Int) from rfl,show (((0:Nat):Int))=(0:Int) from rfl] at htm
 simp[seq1,ah,mtI,mtB,mtC,Tryz.f99,h0,h4,htm]
theorem afs (L:Lst)(run:ar)(k0:Nat)(fr:List PV)(hp:List Blk)(wr:List Nat)(s u v:ByteArray)(g:au L run 24 [.sc (.string s),.sc (.string u)] (.sc (.string v)))(h0:fr.length=60)(h3:nth fr 3 = .sc (.string s))(h7:nth fr 7 = .sc (.string u)) :
  ∃ fr',af (CC L) run k0 (ah 4 mtI) ⟨fr,hp,wr⟩=some (.normal,⟨fr',hp,wr⟩)∧nth fr' 3 = .sc (.string v):=by
 unfold au at g
 simp[ah,mtI,mtB,mtC,Tryz.f99,aL,h0,h3,h7,g]
def aaa (n:Nat)(M:List (List Rat)):Prop:=n≤4∧M.length≤n∧SqM M.length M
def xK (n:Nat):List PV→Option (List PV):=ctr (fun M:List (List Rat)=>[qC M]) (aaa n) fun M=>[qt (dMv M.length M)]
theorem BQ {n:Nat}{M:List (List Rat)}(h:aaa n M):xK n [qC M]=some [qt (dMv M.length M)] :=
 jn (e:=fun M:List (List Rat)=>[qC M]) (ok:=aaa n) (f:=fun M=>[qt (dMv M.length M)]) (fun x y _ _ h=>by
  simp only[List.cons.injEq,and_true] at h
  rw[xn h]) h
theorem abb:∃ st,af (CC L) run k mtC ⟨entry 60 [qC []],[],[]⟩=some (.ret,st)∧aU TT st.fr st.hp Tryz.f99.results.toList=some [.sc (.string ⟨#[49]⟩)]:=by
 obtain⟨e1,e2⟩:=cW 59 (qC [])
 generalize entry 60 [qC []]=fr0 at *
 have hl:dn (qC [])=some 0:=rfl
 simp[mtC,Tryz.f99,bO,bd,e1,e2,hl,uZ,aU]
theorem afv (L:Lst)(run:ar)(k:Nat)(M:List (List Rat))(hM:M.length≠0):∃ fr wr,aX (CC L) run k 3 mtC ⟨entry 60 [qC M],[],[]⟩=some ⟨fr,[],wr⟩∧fr.length=60∧nth fr 0=qC M∧nth fr 3 = .sc (.string ⟨#[48]⟩):=by
 obtain⟨e1,e2⟩:=cW 59 (qC M)
 generalize entry 60 [qC M]=fr0 at *
 have hl:=xQ M
 generalize M.length=n at *
 have hz:((n:Int) == 0)=false:=by rw[beq_eq_false_iff_ne];omega
 simp[mtC,Tryz.f99,aX,bO,bd,and_assoc,e1,e2,hl,hz,uZ]
theorem aik(h0:fr.length=60):∃ fr',af (CC L) run k (seq1 (seq1 (ah 3 mtC))) ⟨fr,hp,wr⟩=some (.normal,⟨fr',hp,wr⟩)∧nth fr' 4=iv 0:=by
 simp[iv,seq1,ah,mtC,Tryz.f99,h0]
theorem abe(p:PV)(h0:fr.length=60)(h3:nth fr 3=p):∃ st,af (CC L) run k (ah 4 mtC) ⟨fr,hp,wr⟩=some (.ret,st)∧aU TT st.fr st.hp Tryz.f99.results.toList=some [p]:=by
 simp[mtC,ah,Tryz.f99,h0,h3,aU]
theorem ajx:ah 3 mtC = .seq (.seq (seq1 (seq1 (ah 3 mtC))) (.block 0 (.loop mtB))) (ah 4 mtC):=rfl
def LMt (n:Nat):Lst:=[(99,xK n),(34,wU),(122,nN),(24,tU)]
theorem ag4 {n:Nat}(h:Ab.Spec base.P 99 (xK n)):dw base.P (LMt n):=⟨h,zO,pO,sJ,trivial⟩
theorem SqM.m0 {n:Nat}{M:List (List Rat)}(h:SqM (n+1) M):∃ hM:0<M.length,M[0].length=n+1∧M.headD []=M[0]:=by
 have hM:0<M.length:=by rw[h.1];omega
 exact⟨hM,(h.2 _ (getElem_mem hM)).1,by cases M with | nil=>simp at hM | cons=>rfl⟩
theorem aiS {t:Nat}(h:t≤3):dB t≤20000:=by
 have:t=0∨t=1∨t=2∨t=3:=by omega
 rcases this with rfl | rfl | rfl | rfl <;> decide
theorem afw {n t:Nat}(M:List (List Rat))(hS:SqM (t+1) M)(ht:t≤n)(hn:n≤3)(fr:List PV)(hp:List Blk)(wr:List Nat)(k:Nat)(hk:k<t+1)(h0:fr.length=60)(h00:nth fr 0=qC M)(h3:nth fr 3=qt (dMs (dMv t) M k))(h4:nth fr 4=iv k) :
  ∃ fr' hp' wr',af (CC (LMt n)) (runK (CC (LMt n)) 20) 20 (.block 1 mtI) ⟨fr,hp,wr⟩=some (.normal,⟨fr',hp',wr'⟩)∧nth fr' 3=qt (dMs (dMv t) M (k+1)):=by
 obtain⟨hM,hM0,hMh⟩:=hS.m0
 obtain⟨fr1,-,a1,a2⟩:=aij (LMt n) (runK (CC (LMt n)) 20) 20 fr hp wr h0
 have K1:=bJ _ a1
 have l1:=K1.len h0
 obtain⟨fr2,b1,b2⟩:=aii (LMt n) (runK (CC (LMt n)) 20) 20 fr1 hp wr l1
 have K2:=bJ _ b1
 have l2:=K2.len l1
 have i0:nth fr2 0=qC M:=K2.at (K1.at h00 (by kernel_rfl)) (by kernel_rfl)
 have i3:nth fr2 3=qt (dMs (dMv t) M k):=K2.at (K1.at h3 (by kernel_rfl)) (by kernel_rfl)
 have i4:nth fr2 4=iv k:=K2.at (K1.at h4 (by kernel_rfl)) (by kernel_rfl)
 have i5:nth fr2 5 = .sc (.slice none 0 0):=K2.at a2 (by kernel_rfl)
 obtain⟨fr3,hp3,wr3,c1,c2,c3⟩:=Lp.go (C:=CC (LMt n)) (run:=runK (CC (LMt n)) 20) (k:=20) (l:=xL H6) (body:=pC) (m:=60) (B:=H6) rfl (by kernel_rfl) (by kernel_rfl) (by kernel_rfl) ac5 (n:=M.length) (j0:=1) (by rw[hS.1];omega) (by rw[hS.1];omega) hM
  (J:=fun j f hp=>Rst hp (((M.drop 1).take (j - 1)).map (jU k)) (f 5)) (fr0:=fr2) (hp0:=hp) (wr0:=wr) (p:=qC M) l2 i0 (xQ M) b2
  (fun j f g hp h hJ=>by rw[← h 5 (by kernel_rfl)];exact hJ)
  (fun j fr hp wr hj1 hj hK hij hJ=>by
   have hjM:=hS.2 M[j] (getElem_mem hj)
   have hj':=hj
   rw[hS.1] at hj'
   obtain⟨fr',hp',wr',x1,x2⟩:=afu (LMt n) (runK (CC (LMt n)) 20) 20 fr hp wr M _ _ k j (t+1) hj hjM.1 hk (by omega) (by omega) (by rw[length_map,length_take];omega) hJ (hK.len l2) (hK.at i0 (by kernel_rfl)) (hK.at i4 (by kernel_rfl)) rfl hij
   refine⟨fr',hp',wr',x1,?_⟩
   have e:(M.drop 1).take (j+1 - 1)=(M.drop 1).take (j - 1)++[M[j]]:=by
    have hd:j - 1<(M.drop 1).length:=by rw[length_drop];omega
    rw[show j+1 - 1=(j - 1)+1 by omega,take_succ_eq_append_getElem hd,getElem_drop]
    simp only[show 1+(j - 1)=j by omega]
   rw[e,map_append]
   exact x2)
  (by rw[i5];exact .inl ⟨rfl,rfl⟩)
 have e3:(M.drop 1).take (M.length - 1)=M.drop 1:=take_of_length_le (by rw[length_drop];omega)
 rw[e3] at c3
 obtain⟨q,ids,s1,s2⟩:=c3.snap
 have hmin:=hS.minor hk
 have hF:xK n [qC ((M.drop 1).map (jU k))]=some [qt (dMv t ((M.drop 1).map (jU k)))]:=by
  have:=BQ (n:=n) (M:=(M.drop 1).map (jU k)) ⟨by omega,by rw[hmin.1];exact ht,by rw[hmin.1];exact hmin⟩
  rw[hmin.1] at this
  exact this
 have hc:=fun dr=>fC (L:=LMt n) sv rfl (runK (CC (LMt n)) 20) dr hp3 [nth fr3 5] _ _ _ _ s1 s2 hF rfl
 have hD:=yk t hmin
 have hDb:=aiS (show t≤3 by omega)
 have hx:Rb 1000 (M[0][k]'(by omega)):=(hS.2 _ (getElem_mem hM)).2 _ (getElem_mem _)
 have l3:=c2.len l2
 have g1:=ai6 (L:=LMt n) rfl (runK (CC (LMt n)) 20) hx hD (by omega)
 obtain⟨fr4,wr4,d1,d2⟩:=aft (LMt n) (runK (CC (LMt n)) 20) 20 fr3 hp3 wr3 M _ k _ _ ids hM (by omega) hc g1 l3 (c2.at i0 (by kernel_rfl)) (c2.at i4 (by kernel_rfl)) rfl
 have K4:=bJ _ d1
 have l4:=K4.len l3
 have hxm:=hx.mul hD
 have hs:=IM hS (f:=dMv t) (b:=dB t) (fun k hk=>yk t (hS.minor hk)) k (by omega)
 have hsb:Rb 200000 (dMs (dMv t) M k):=hs.mono (by
  have:k*(1000+dB t+1)≤4*(1000+dB t+1):=Nat.mul_le_mul_right _ (by omega)
  omega)
 have i3':nth fr4 3=qt (dMs (dMv t) M k):=K4.at (c2.at i3 (by kernel_rfl)) (by kernel_rfl)
 have i4':nth fr4 4=iv k:=K4.at (c2.at i4 (by kernel_rfl)) (by kernel_rfl)
 have hhd:(M.headD []).getD k 0=M[0][k]'(by omega):=by rw[hMh,gj]
 have fin:∀ (fr5:List PV) (z:Rat),af (CC (LMt n)) (runK (CC (LMt n)) 20) 20 (seq1 (ah 3 mtI)) ⟨fr4,hp3,wr4⟩=some (.normal,⟨fr5,hp3,wr4⟩)→nth fr5 7=qt z→Rb 30000 z→dMs (dMv t) M (k+1)=dMs (dMv t) M k+z→∃ fr' hp' wr',af (CC (LMt n)) (runK (CC (LMt n)) 20) 20 (.block 1 mtI) ⟨fr,hp,wr⟩=some (.normal,⟨fr',hp',wr'⟩)∧nth fr' 3=qt (dMs (dMv t) M (k+1)):=by
  intro fr5 z u1 u2 u3 u4
  have K5:=bJ _ u1
  obtain⟨fr6,v1,v2⟩:=afs (LMt n) (runK (CC (LMt n)) 20) 20 fr5 hp3 wr4 _ _ _ (ahj rfl _ hsb u3 (by omega)) (K5.len l4) (K5.at i3' (by kernel_rfl)) u2
  refine⟨fr6,hp3,wr4,dH ?_,by rw[u4];exact v2⟩
  have e:mtI = .seq (seq1 mtI) (ah 1 mtI):=rfl
  have hl:af (CC (LMt n)) (runK (CC (LMt n)) 20) 20 (.seq (seq1 (seq1 (ah 1 mtI))) (.block 2 (.loop H6))) ⟨fr1,hp,wr⟩=some (.normal,⟨fr3,hp3,wr3⟩):=by rw[av b1];exact c1
  rw[e,av a1,ajw,av hl,av d1,av u1]
  exact v1
 by_cases hpar:k % 2=1
 ·obtain⟨fr5,u1,u2⟩:=abc (LMt n) (runK (CC (LMt n)) 20) 20 fr4 hp3 wr4 k ⟨#[]⟩ _ _ hpar (adA rfl _ hxm (by omega)) l4 i4' d2
  refine fin fr5 _ u1 u2 (hxm.neg.mono (by omega)) ?_
  show dMs (dMv t) M k+(if k % 2=1 then _ else _)=_
  rw[if_pos hpar,hhd]
 ·obtain⟨fr5,u1,u2⟩:=abd (LMt n) (runK (CC (LMt n)) 20) 20 fr4 hp3 wr4 k (by omega) l4 i4'
  refine fin fr5 _ u1 (u2.trans d2) (hxm.mono (by omega)) ?_
  show dMs (dMv t) M k+(if k % 2=1 then _ else _)=_
  rw[if_neg hpar,hhd]
theorem qt1:qt 1 = .sc (.string ⟨#[49]⟩):=congrArg (fun s=>PV.sc (.string s)) (by decide +kernel)
theorem aev:qt 0 = .sc (.string ⟨#[48]⟩):=congrArg (fun s=>PV.sc (.string s)) qb0
theorem Ey (n:Nat)(hn:n≤4){L:Lst}(hL:dw base.P L)(h:∀ M,aaa n M→M≠[]→∃ st,af (CC L) (runK (CC L) 20) 20 mtC ⟨entry 60 [qC M],[],[]⟩=some (.ret,st)∧aU TT st.fr st.hp Tryz.f99.results.toList=some [qt (dMv M.length M)]):Ab.Spec base.P 99 (xK n):=Ab.Spec.bM (C:=CC L) (cP hL) fun args rs hh=>by
 obtain⟨M,hok,rfl,rfl⟩:=cN hh
 by_cases hM:M=[]
 ·subst hM
  obtain⟨st,x1,x2⟩:=abb L (runK (CC L) 20) 20
  rw[← qt1] at x2
  exact⟨_,_,_,_,[qt 1],[],aP uT rfl x1 x2,rfl,Wk.refl rfl,trivial⟩
 ·obtain⟨st,x1,x2⟩:=h M hok hM
  exact⟨_,_,_,_,[qt (dMv M.length M)],[],aP uT rfl x1 x2,rfl,Wk.refl rfl,trivial⟩
theorem rm:∀ n,n≤4→Ab.Spec base.P 99 (xK n)
 | 0,hn=>Ey 0 hn (L:=LYa) Je fun M hok hM=>absurd (eq_nil_of_length_eq_zero (Nat.le_zero.1 hok.2.1)) hM
 | n+1,hn=>Ey (n+1) hn (L:=LMt n) (ag4 (rm n (by omega))) fun M hok hM=>by
  obtain⟨-,h1,h2⟩:=hok
  obtain⟨t,ht⟩:∃ t,M.length=t+1:=⟨M.length - 1,by have:=length_pos_iff.2 hM;omega⟩
  rw[ht] at h2
  obtain⟨fr1,wr1,a1,a2,a3,a4⟩:=afv (LMt n) (runK (CC (LMt n)) 20) 20 M (by omega)
  obtain⟨fr2,b1,b2⟩:=aik (LMt n) (runK (CC (LMt n)) 20) 20 fr1 [] wr1 a2
  have K2:=bJ _ b1
  have l2:=K2.len a2
  have i0:nth fr2 0=qC M:=K2.at a3 (by kernel_rfl)
  have i3:nth fr2 3 = .sc (.string ⟨#[48]⟩):=K2.at a4 (by kernel_rfl)
  obtain⟨fr3,hp3,wr3,c1,c2,c3⟩:=Lp.go (C:=CC (LMt n)) (run:=runK (CC (LMt n)) 20) (k:=20) (l:=xL mtB) (body:=mtI) (m:=60) (B:=mtB) rfl (by kernel_rfl) (by kernel_rfl) (by kernel_rfl) ac5 (n:=M.length) (j0:=0) (by omega) (by omega) (by omega)
   (J:=fun j f hp=>f 3=qt (dMs (dMv t) M j)) (fr0:=fr2) (hp0:=[]) (wr0:=wr1) (p:=qC M) l2 i0 (xQ M) b2
   (fun j f g hp h hJ=>by rw[← h 3 (by kernel_rfl)];exact hJ)
   (fun j fr hp wr _ hj hK hij hJ=>afw M h2 (by omega) (by omega) fr hp wr j (by omega) (hK.len l2) (hK.at i0 (by kernel_rfl)) hJ hij)
   (by rw[i3];exact aev.symm)
  obtain⟨st,d1,d2⟩:=abe (LMt n) (runK (CC (LMt n)) 20) 20 fr3 hp3 wr3 _ (c2.len l2) c3
  refine⟨st,?_,?_⟩
  ·have hs:af (CC (LMt n)) (runK (CC (LMt n)) 20) 20 (.seq (seq1 (seq1 (ah 3 mtC))) (.block 0 (.loop mtB))) ⟨fr1,[],wr1⟩=some (.normal,⟨fr3,hp3,wr3⟩):=by rw[av b1];exact c1
   rw[aO 3 a1,ajx,av hs];exact d1
  ·rw[d2,ht];rfl
theorem Cn:base.F.get 45=some Tryz.f45:=by kernel_rfl
theorem GG:base.shared 45=false:=by kernel_rfl
def liC:Code:=Tryz.f45.body.getD .skip
def liB:Code:=(aC liC).getD .skip
theorem vY:∃ el,und TT 24=some (.slice el):=⟨_,jA⟩
theorem aiq:ah 4 liC = .seq (.seq (seq1 (seq1 (ah 4 liC))) (.block 0 (.loop liB))) (ah 5 liC):=rfl
theorem abC(c:List (List ByteArray))(l:List Int)(j:Nat)(hj:j<l.length)(h0:fr.length=42)(h00:nth fr 0=cE c)(h1:nth fr 1=aE l)(h8:nth fr 8=iv j) :
  ∃ fr' wr',af (CC L) run k (.block 1 (db liB)) ⟨fr,[],wr⟩=some (bif pt c.length l[j] then .ret else .normal,⟨fr',[],wr'⟩)∧(pt c.length l[j]=true→nth fr' 6=iv 4):=by
 obtain⟨r,x1,x2⟩:=nm l j hj
 have hl:=gD c
 generalize l[j]=z at *
 generalize c.length=n at *
 simp only[iv] at h8
 unfold pt
 by_cases hz:z<0
 ·simp[iv,liB,liC,Tryz.f45,partOf,bd,and_assoc,h0,h1,h8,x1,x2,hz,aI,sI,aV,undef]
 ·by_cases hn:(n:Int)≤z
  ·simp[iv,liB,liC,Tryz.f45,bO,partOf,bd,and_assoc,h0,h00,h1,h8,x1,x2,hl,hz,hn,aI,sI,uCl,aV]
  ·simp[iv,liB,liC,Tryz.f45,bO,partOf,bd,h0,h00,h1,h8,x1,x2,hl,hz,hn,aI,sI,uCl,aV]
theorem ajA(c:List (List ByteArray))(l:List Int)(n:Int)(e:Nat)(he:e≠0)(g:au L run 22 [cE c] (iv e)) :
  ∃ st,af (CC L) run k liC ⟨entry 42 [cE c,aE l,.sc (.int .i64 n)],[],[]⟩=some (.ret,st)∧aU TT st.fr st.hp Tryz.f45.results.toList=some [iv e]:=by
 obtain⟨e0,e1,e2,e3⟩:=jY 39 (cE c) (aE l) (.sc (.int .i64 n))
 generalize entry 42 [cE c,aE l,.sc (.int .i64 n)]=fr0 at *
 have hb:((e:Int) != 0)=true:=by simp;omega
 unfold au at g
 simp only[iv] at g ⊢
 simp[liC,Tryz.f45,aL,e0,e1,g,hb,aU]
theorem ajz(c:List (List ByteArray))(l:List Int)(n:Int)(hn:0≤n)(hl:(l.length:Int)≠n)(g:au L run 22 [cE c] (iv 0)) :
  ∃ st,af (CC L) run k liC ⟨entry 42 [cE c,aE l,.sc (.int .i64 n)],[],[]⟩=some (.ret,st)∧aU TT st.fr st.hp Tryz.f45.results.toList=some [iv 10]:=by
 obtain⟨e0,e1,e2,e3⟩:=jY 39 (cE c) (aE l) (.sc (.int .i64 n))
 generalize entry 42 [cE c,aE l,.sc (.int .i64 n)]=fr0 at *
 have hll:dn (aE l)=some l.length:=by simp[aE,fg,dn]
 have hb:((l.length:Int) != n)=true:=by simpa using hl
 generalize l.length=m at *
 unfold au at g
 simp only[iv,Int.cast_ofNat_Int] at g ⊢
 simp[liC,Tryz.f45,aL,bO,bd,e0,e1,e2,e3,g,hn,hll,hb,jA,aU]
theorem afR (L:Lst)(run:ar)(k:Nat)(c:List (List ByteArray))(l:List Int)(n:Int)(hn : ¬ (0≤n∧(l.length:Int)≠n))(g:au L run 22 [cE c] (iv 0)) :
  ∃ fr wr,aX (CC L) run k 4 liC ⟨entry 42 [cE c,aE l,.sc (.int .i64 n)],[],[]⟩=some ⟨fr,[],wr⟩∧fr.length=42∧nth fr 0=cE c∧nth fr 1=aE l:=by
 obtain⟨e0,e1,e2,e3⟩:=jY 39 (cE c) (aE l) (.sc (.int .i64 n))
 generalize entry 42 [cE c,aE l,.sc (.int .i64 n)]=fr0 at *
 have hll:dn (aE l)=some l.length:=by simp[aE,fg,dn]
 generalize l.length=m at *
 unfold au at g
 simp only[iv,Int.cast_ofNat_Int] at g
 by_cases h:0≤n
 ·have e:(m:Int)=n:=Classical.byContradiction fun e=>hn ⟨h,e⟩
  have hb:((m:Int) != n)=false:=by rw[e];simp
  simp[liC,Tryz.f45,aX,aL,bO,bd,and_assoc,e0,e1,e2,e3,g,h,hll,hb,jA]
 ·simp[liC,Tryz.f45,aX,aL,and_assoc,e0,e1,e2,e3,g,h,undef]
theorem aip(h0:fr.length=42):∃ fr',af (CC L) run k (seq1 (seq1 (ah 4 liC))) ⟨fr,hp,wr⟩=some (.normal,⟨fr',hp,wr⟩)∧nth fr' 8=iv 0:=by
 simp[iv,seq1,ah,liC,Tryz.f45,h0]
theorem abB(h0:fr.length=42):∃ st,af (CC L) run k (ah 5 liC) ⟨fr,hp,wr⟩=some (.ret,st)∧aU TT st.fr st.hp Tryz.f45.results.toList=some [iv 0]:=by
 simp[iv,liC,ah,Tryz.f45,h0,aU]
def LLi:Lst:=[(22,IQ)]
theorem XJ:dw base.P LLi:=⟨zN,trivial⟩
theorem KS:Ab.Spec base.P 45 uv:=Ab.Spec.bM (C:=CC LLi) (cP XJ) fun args rs h=>by
 obtain⟨⟨c,l,n⟩,⟨hF,h9⟩,rfl,rfl⟩:=cN h
 dsimp only at hF h9
 have g:=XQ (L:=LLi) rfl (runK (CC LLi) (l.length+2)) c hF
 have fin:∀ {st:St} {z:Nat},af (CC LLi) (runK (CC LLi) (l.length+2)) (l.length+2) liC ⟨entry 42 [cE c,aE l,.sc (.int .i64 n)],[],[]⟩=some (.ret,st)→aU TT st.fr st.hp Tryz.f45.results.toList=some [iv z]→z=gw c l n→∃ k rs1 hp1 wr rs2 ids,runK (CC LLi) k 45 [cE c,aE l,.sc (.int .i64 n)] []=some (rs1,hp1,wr)∧bq (Ab.snap hp1 bn) rs1=some (rs2,ids)∧WkL rs2 [iv (gw c l n)]:=fun x1 x2 e =>
  ⟨_,_,_,_,_,_,aP Cn rfl x1 x2,rfl,by rw[← e];exact Wk.refl rfl,trivial⟩
 show ∃ k rs1 hp1 wr rs2 ids,runK (CC LLi) k 45 [cE c,aE l,.sc (.int .i64 n)] []=some (rs1,hp1,wr)∧bq (Ab.snap hp1 bn) rs1=some (rs2,ids)∧WkL rs2 [iv (gw c l n)]
 by_cases h1:chk c=0
 ·rw[h1] at g
  by_cases h2:0≤n∧(l.length:Int)≠n
  ·obtain⟨st,x1,x2⟩:=ajz LLi (runK (CC LLi) (l.length+2)) (l.length+2) c l n h2.1 h2.2 g
   exact fin x1 x2 (by unfold gw;rw[if_neg (fun e=>e h1),if_pos h2])
  ·obtain⟨fr1,wr1,a1,a2,a3,a4⟩:=afR LLi (runK (CC LLi) (l.length+2)) (l.length+2) c l n h2 g
   obtain⟨fr2,b1,b2⟩:=aip LLi (runK (CC LLi) (l.length+2)) (l.length+2) fr1 [] wr1 a2
   have K2:=bJ _ b1
   have l2:=K2.len a2
   have hc:gw c l n=bif l.any (pt c.length) then 4 else 0:=by unfold gw;rw[if_neg (fun e=>e h1),if_neg h2]
   obtain⟨e,st,c1,c2⟩:=Lp.ahT (C:=CC LLi) (run:=runK (CC LLi) (l.length+2)) (k:=l.length+2) (l:=xL liB) (body:=db liB) (m:=42) (B:=liB) rfl (by kernel_rfl) (by kernel_rfl) (by kernel_rfl) vY (n:=l.length) (j0:=0) (by omega) (by omega) (by omega)
    (J:=fun j f hp=>hp=[]∧(l.take j).any (pt c.length)=false) (R:=fun st=>nth st.fr 6=iv 4∧l.any (pt c.length)=true) (fr0:=fr2) (hp0:=[]) (wr0:=wr1) (p:=aE l) l2 (K2.at a4 (by kernel_rfl)) (by simp[aE,fg,dn]) b2
    (fun j f g hp h hJ=>hJ)
    (fun j fr hp wr _ hj hK hij hJ=>by
     obtain⟨rfl,hJ⟩:=hJ
     obtain⟨fr',wr',x1,x2⟩:=abC LLi (runK (CC LLi) (l.length+2)) (l.length+2) fr wr c l j hj (hK.len l2) (hK.at (K2.at a3 (by kernel_rfl)) (by kernel_rfl)) (hK.at (K2.at a4 (by kernel_rfl)) (by kernel_rfl)) hij
     cases hb:pt c.length l[j] with
     | true =>
      rw[hb] at x1 x2
      exact⟨_,_,x1,.inr ⟨rfl,x2 rfl,any_eq_true.2 ⟨_,getElem_mem hj,hb⟩⟩⟩
     | false =>
      rw[hb] at x1
      refine⟨_,_,x1,.inl ⟨rfl,rfl,?_⟩⟩
      rw[take_succ_eq_append_getElem hj,any_append,hJ]
      simp[hb])
    ⟨rfl,rfl⟩
   obtain⟨fr3,hp3,wr3⟩:=st
   have ent:∀ {e:Ex} {st:St},af (CC LLi) (runK (CC LLi) (l.length+2)) (l.length+2) (.block 0 (.loop liB)) ⟨fr2,[],wr1⟩=some (e,st)→af (CC LLi) (runK (CC LLi) (l.length+2)) (l.length+2) (.seq (seq1 (seq1 (ah 4 liC))) (.block 0 (.loop liB))) ⟨fr1,[],wr1⟩=some (e,st):=fun h=>by rw[av b1];exact h
   rcases c2 with ⟨rfl,k3,-,c3⟩| ⟨rfl,c3,c4⟩
   ·obtain⟨st,d1,d2⟩:=abB LLi (runK (CC LLi) (l.length+2)) (l.length+2) fr3 hp3 wr3 (k3.len l2)
    refine fin (st:=st) ?_ d2 ?_
    ·rw[aO 4 a1,aiq,av (ent c1)];exact d1
    ·rw[take_length] at c3
     rw[hc,c3];rfl
   ·refine fin (st:=⟨fr3,hp3,wr3⟩) (z:=4) ?_ ?_ ?_
    ·rw[aO 4 a1,aiq,cC (ent c1)]
    ·simp[Tryz.f45,aU,c3]
    ·rw[hc,c4];rfl
 ·obtain⟨st,x1,x2⟩:=ajA LLi (runK (CC LLi) (l.length+2)) (l.length+2) c l n _ h1 g
  exact fin x1 x2 (by unfold gw;rw[if_pos h1])
theorem ahm {L:Lst}(hL:bu L 45=fun a=>uv (aJ a))(run:ar)(c:List (List ByteArray))(l:List Int)(n:Int)(hF:Fit c)(h9:l.length≤1000):au L run 45 [cE c,aE l,.sc (.int .i64 n)] (iv (gw c l n)) :=
 fH GG (e:=eCL) (f:=fun p=>[iv (gw p.1 p.2.1 p.2.2)]) hL (fun x y _ _ h=>by rw[BZ h]) run (c,l,n) ⟨hF,h9⟩ (fun _=>rfl) (by simp only[eCL,aJ,fV,ja];rfl)
end Go.Proofs.YtjdmodeenbdfpaaGreat
end
