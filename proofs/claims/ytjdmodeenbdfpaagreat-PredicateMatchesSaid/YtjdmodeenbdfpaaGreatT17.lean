/- Contracts of num's integers, part 17 of the proof; each lemma states its own conditions. -/
import Derived.Test.YtjdmodeenbdfpaaGreatT15
import Derived.Test.YtjdmodeenbdfpaaGreatT16
set_option linter.unusedSimpArgs false
set_option linter.unusedVariables false
namespace Go.Proofs.YtjdmodeenbdfpaaGreat
open Go Go.Ab Tryz
attribute [local simp] FzZ aA aF aG aH aa ab ae af ag ai aj an ao aq az bd uD
variable(L:Lst)(run:ar)(k:Nat)(fr:List PV)(hp:List Blk)(wr:List Nat)
noncomputable def gR:Code:=f190.body.getD .skip
noncomputable def oP:Code:=((f190.body).bind aC).getD .skip
theorem FL:base.F.get 190=some f190:=by kernel_rfl
theorem Mw:base.shared 190=false:=by kernel_rfl
theorem GV(n:Nat)(h40:fr.length=40)
  (h14:nth fr 14 = .sc (.int .i64 (n:Int))) (h15:nth fr 15 = .sc (.int .i64 (n:Int))) :
  ∃ fr',af (CC L) run k oP ⟨fr,hp,wr⟩=some (.exit 0,⟨fr',hp,wr⟩)∧fr'.length=40∧nth fr' 5=nth fr 5∧nth fr' 6=nth fr 6:=by
 simp[oP,f190,aC,bc,aw,bj,h40,h14,h15]
set_option maxHeartbeats 2000000 in
theorem Bn(a out:List Nat)(i c b s:Nat)(ha:Dok a)(hb:b<1000000000)(hc:c<1000000000)(hi:i<a.length)(hl:a.length<1000000)
  (h40:fr.length=40) (h13:nth fr 13=aQ a) (h14:nth fr 14 = .sc (.int .i64 (a.length:Int))) (h15:nth fr 15 = .sc (.int .i64 (i:Int))) (h1:nth fr 1=dg b)
  (h6:nth fr 6 = .sc (.int .u64 (c:Int))) (hO:dU 0 hp out (nth fr 5)) (ho:out.length=i) (hs:s=c+at0 a i*b) :
  ∃ fr' hp' wr',af (CC L) run k oP ⟨fr,hp,wr⟩=some (.normal,⟨fr',hp',wr'⟩)∧fr'.length=40∧nth fr' 13=aQ a∧nth fr' 14 = .sc (.int .i64 (a.length:Int))
   ∧ nth fr' 15 = .sc (.int .i64 ((i+1:Nat):Int))∧nth fr' 1=dg b∧nth fr' 6 = .sc (.int .u64 ((s / 1000000000:Nat):Int))∧dU 0 hp' (out++[s % 1000000000]) (nth fr' 5):=by
 have hda:=de a i hi
 have hax:=cF ha i
 generalize at0 a i=x at *
 have e1:aQ a = .imm a.length false (a.map dg):=rfl
 have hdb:dg b = .sc (.int .u32 (b:Int)):=rfl
 rw[e1] at h13 ⊢;rw[hdb] at h1 ⊢
 have hxy:x*b≤999999999*999999999:=Nat.mul_le_mul (by omega) (by omega)
 obtain⟨s1,hs1⟩:∃ s1,s1=x*b:=⟨_,rfl⟩
 rw[← hs1] at hs hxy
 have hw0:=cG .u64 x (dK (by omega))
 have hw1:=cG .u64 b (dK (by omega))
 have hw2:=wrapM .u64 x b s1 hs1 (dK (by omega))
 have hw3:=dD .u64 c s1 s hs (dK (by omega))
 have hwi:=bH i (by omega)
 obtain⟨q,hq⟩:∃ q,q=s / 1000000000:=⟨_,rfl⟩
 obtain⟨r,hr⟩:∃ r,r=s % 1000000000:=⟨_,rfl⟩
 have hw4:bE .u64 ((s:Int) / 1000000000)=(q:Int):=jQ .u64 s q hq (dK (by omega))
 have hw5:=lO s r hr
 have hw6:bE .u32 (r:Int)=(r:Int):=cG .u32 r (iZ (by omega))
 obtain⟨p',hp',fp,h7,h8,h9⟩:=hO.app r (ho ▸ Nat.lt_trans hi (Nat.lt_trans hl (by decide)))
 rw[← hq,← hr]
 simp[oP,f190,aC,bc,aw,bj,bg,bm,partOf,and_assoc,bh,dE,h40,h13,h14,h15,h1,h6,u32,u64,s32,b32,z32,a32,dS,hi,hda,aV,hw0,hw1,hw2,hw3,hw4,hw5,hw6,hwi,il r,oh,nM,jV,cg,h7,h8]
theorem Dg {vo va c x b P s q r:Nat}(h:vo+c*P=va*b)(hs:s=c+x*b)(hq:q=s / 1000000000)(hr:r=s % 1000000000) :
  vo+P*r+q*(P*1000000000)=(va+x*P)*b:=by
 have e:s=r+1000000000*q:=by omega
 have e2:s*P=(r+1000000000*q)*P:=by rw[e]
 subst hs
 simp only[Nat.add_mul] at e2 ⊢
 have e3:1000000000*q*P=q*(P*1000000000):=by grind
 have e4:r*P=P*r:=Nat.mul_comm _ _
 have e5:x*b*P=x*P*b:=by grind
 omega
theorem tN (L:Lst)(run:ar)(k:Nat)(a:List Nat)(b:Nat)(ha:Dok a)(hb:b<1000000000)(hl:a.length<1000000):∀ (n i:Nat) (fr:List PV) (hp:List Blk) (wr:List Nat) (out:List Nat) (c:Nat),i+n=a.length →
  fr.length=40→nth fr 13=aQ a→nth fr 14 = .sc (.int .i64 (a.length:Int))→nth fr 15 = .sc (.int .i64 (i:Int))→nth fr 1=dg b→nth fr 6 = .sc (.int .u64 (c:Int))→dU 0 hp out (nth fr 5)→out.length=i →
  Dok out→c<1000000000→val out+c*1000000000 ^ i=val (a.take i)*b →
  ∃ (fr':List PV) (hp':List Blk) (wr':List Nat) (out':List Nat) (c':Nat),cu (af (CC L) run k oP) (n+1) ⟨fr,hp,wr⟩=some (.exit 0,⟨fr',hp',wr'⟩)∧fr'.length=40∧nth fr' 6 = .sc (.int .u64 (c':Int))∧dU 0 hp' out' (nth fr' 5)∧out'.length=a.length
   ∧ Dok out'∧c'<1000000000∧val out'+c'*1000000000 ^ a.length=val a*b
 | 0,i,fr,hp,wr,out,c,hi,h40,h13,h14,h15,h1,h6,hO,ho,hd,hc,hv=>by
  have:i=a.length:=by omega
  subst this
  obtain⟨fr',g1,g2,g3,g4⟩:=GV L run k fr hp wr a.length h40 h14 h15
  exact⟨fr',hp,wr,out,c,bD g1,g2,by rw[g4,h6],by rw[g3];exact hO,ho,hd,hc,by rw[hv,List.take_length]⟩
 | n+1,i,fr,hp,wr,out,c,hi,h40,h13,h14,h15,h1,h6,hO,ho,hd,hc,hv=>by
  obtain⟨fr1,hp1,wr1,g1,g2,g3,g4,g5,g6,g7,g8⟩:=Bn L run k fr hp wr a out i c b _ ha hb hc (by omega) hl h40 h13 h14 h15 h1 h6 hO ho rfl
  obtain⟨fr',hp',wr',out',c',q1,q2⟩:=tN L run k a b ha hb hl n (i+1) fr1 hp1 wr1 _ _ (by omega) g2 g3 g4 g5 g6 g7 g8 (by simp[ho]) (hd.append (Dok.nil.cons (Nat.mod_lt _ (by omega))))
   (by
    have:=cF ha i
    have:at0 a i*b≤999999999*999999999:=Nat.mul_le_mul (by omega) (by omega)
    omega)
   (by
    rw[cI,dP,ho,Nat.pow_succ]
    exact Dg hv rfl rfl rfl)
  exact⟨fr',hp',wr',out',c',by rw[ct g1];exact q1,q2⟩
noncomputable def Bo:Code:=seq1 (seq1 (ah 2 gR))
theorem Bm:ah 2 gR = .seq (.seq Bo (.block 0 (.loop oP))) (ah 3 gR):=rfl
theorem Di (L:Lst)(run:ar)(k:Nat)(p q:PV) :
  ∃ fr wr,aX (CC L) run k 1 gR ⟨entry 40 [p,q],[],[]⟩=some ⟨fr,[],wr⟩∧fr.length=40∧nth fr 0=p∧nth fr 1=q:=by
 obtain⟨e1,e2,e3⟩:=cn 38 p q
 generalize entry 40 [p,q]=fr0 at *
 simp[gR,f190,aX,e1,e2,e3,and_assoc]
theorem Dh (L:Lst)(run:ar)(k:Nat)(a:List Nat)(fr0:List PV)(wr0:List Nat)(hl:a.length<1000000)(e1:fr0.length=40)(e2:nth fr0 0=aQ a) :
  ∃ fr hp wr,aX (CC L) run k 1 (ah 1 gR) ⟨fr0,[],wr0⟩=some ⟨fr,hp,wr⟩∧fr.length=40∧nth fr 0=aQ a∧nth fr 1=nth fr0 1∧nth fr 6 = .sc (.int .u64 (0:Nat))∧dU 0 hp [] (nth fr 5):=by
 have hO:∀ n,dU 0 [⟨.live,rep n [dg 0]⟩] [] (.own 0 1 0 0 false):=fun n=>⟨Nat.zero_le _,.inr ⟨0,List.replicate n 0,Nat.le_refl _,by simp,rfl,by rw[sF];rfl⟩⟩
 have hw:=bH a.length (by omega)
 have h1:a.length+1≤cS:=Nat.le_trans (show a.length+1≤1000000 by assumption) (by decide)
 simp[gR,ah,f190,aX,e1,e2,bc,aw,bj,bO,ke,jr,and_assoc,cB,hw,s32,b32,z32,cg,h1,aM,hO]
theorem RP(a:List Nat)(h40:fr.length=40)(h0:nth fr 0=aQ a) :
  ∃ fr',af (CC L) run k Bo ⟨fr,hp,wr⟩=some (.normal,⟨fr',hp,wr⟩)∧fr'.length=40∧nth fr' 13=aQ a∧nth fr' 14 = .sc (.int .i64 (a.length:Int))∧nth fr' 15 = .sc (.int .i64 (0:Nat))
   ∧ nth fr' 1=nth fr 1∧nth fr' 6=nth fr 6∧nth fr' 5=nth fr 5:=by
 simp[Bo,gR,ah,seq1,f190,bO,cB,h40,h0]
theorem Dj(out:List Nat)(c:Nat)(hc:c<1000000000)(hl:out.length<1000000)(h40:fr.length=40)(h6:nth fr 6 = .sc (.int .u64 (c:Int)))(hO:dU 0 hp out (nth fr 5)) :
  ∃ st id,af (CC L) run k (ah 3 gR) ⟨fr,hp,wr⟩=some (.ret,st)∧aU TT st.fr st.hp f190.results.toList=some [.own id 1 0 (out.length+1) false]∧aY st.hp id=some ⟨.live,(out++[c]).map dg⟩:=by
 obtain⟨id,hp',fp,h7,h8⟩:=hO.ajQ c (by omega)
 have hw6:bE .u32 (c:Int)=(c:Int):=cG .u32 c (iZ (by omega))
 refine (fun ⟨st,h⟩=>⟨st,id,h⟩:(∃ st,_)→_) ?_
 have h8':aY hp' id=some ⟨.live,out.map dg++[dg c]⟩:=by simpa using h8
 simp[gR,ah,f190,bh,dE,u32,u64,dS,h40,h6,hw6,s32,b32,z32,il c,oh,nM,jV,cg,h7,h8',aU]
theorem GU (L:Lst)(hs:∀ g,(CC L).sorc g=none)(a:List Nat)(b k:Nat)(ha:Dok a)(hb:b<1000000000)(hl:a.length<1000000)(hk:a.length<k) :
  ∃ hp wr id,runK (CC L) (k+1) 190 [aQ a,dg b] []=some ([.own id 1 0 (a.length+1) false],hp,wr)∧aY hp id=some ⟨.live,(di (a.length+1) (val a*b)).map dg⟩:=by
 obtain⟨fr9,wr9,h1,h91,h92,h93⟩:=Di L (runK (CC L) k) k (aQ a) (dg b)
 obtain⟨fr0,hp0,wr0,h1',h2,h3,h4,h5,h6⟩:=Dh L (runK (CC L) k) k a fr9 wr9 hl h91 h92
 obtain⟨fr1,g1,g2,g3,g4,g5,g6,g7,g8⟩:=RP L (runK (CC L) k) k fr0 hp0 wr0 a h2 h3
 obtain⟨fr2,hp2,wr2,out,c,q1,q2,q3,q4,q5,q6,q7,q8⟩:=tN L (runK (CC L) k) k a b ha hb hl a.length 0 fr1 hp0 wr0 [] 0 (by simp) g2 g3 g4 g5 (by rw[g6,h4,h93]) (by rw[g7,h5]) (by rw[g8];exact h6) rfl Dok.nil (by omega) (by simp[val])
 obtain⟨st,id,e1,e2,e3⟩:=Dj L (runK (CC L) k) k fr2 hp2 wr2 out c q7 (by omega) q2 q3 q4
 have hx:af (CC L) (runK (CC L) k) k gR ⟨entry 40 [aQ a,dg b],[],[]⟩=some (.ret,st):=by
  rw[aO 1 h1,aO 1 h1',show ah 1 (ah 1 gR)=ah 2 gR from rfl,Bm,av ((av g1).trans (bN (ca q1 (by omega))))]
  exact e1
 have hout:out++[c]=di (a.length+1) (val a*b):=by
  refine (q6.append (Dok.nil.cons (by omega))).pZ (by simp[q5]) ?_
  rw[dP,q5,Nat.mul_comm,q8]
 rw[hout] at e3
 rw[q5] at e2
 exact⟨st.hp,st.wr,id,aP FL rfl hx e2 (hs _),e3⟩
end Go.Proofs.YtjdmodeenbdfpaaGreat
