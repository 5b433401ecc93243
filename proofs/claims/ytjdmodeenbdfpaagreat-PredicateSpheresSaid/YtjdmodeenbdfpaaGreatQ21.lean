/- An abstract interpreter over the model's code and its soundness, part 21 of the proof; each lemma states its own conditions. -/
import Derived.Test.YtjdmodeenbdfpaaGreatQ20
set_option linter.unusedSimpArgs false
set_option linter.unusedVariables false
namespace Go.Ab
open Go
theorem cT (l:List Nat)(i:Nat)(h:i<l.length):(br (l.map dg) i).head?=some (.sc (.int .u32 (at0 l i:Int))):=by
 rw[eK l i h,cY h];rfl
theorem ft (z:Int)(h : -9223372036854775808≤z)(h2:z≤9223372036854775807):bA .i64 z=z:=by
 unfold bA
 have h1:decide (loK .i64≤z)=true:=decide_eq_true (by simp only[loK];omega)
 have h2:decide (z≤hiK .i64)=true:=decide_eq_true (by simp only[hiK];omega)
 rw[h1,h2];rfl
theorem BP (u:List Nat)(j m:Nat):val ((u.drop j).take (m+3))=((at0 u (j+m+2)*1000000000+at0 u (j+m+1))*1000000000+at0 u (j+m))*1000000000 ^ m+val ((u.drop j).take m):=by
 rw[gl u j (m+2),gl u j (m+1),gl u j m]
 rw[show j+(m+2)=j+m+2 by omega,show j+(m+1)=j+m+1 by omega]
 simp only[Nat.pow_succ]
 generalize 1000000000 ^ m=P
 grind
theorem o9 (v:List Nat)(m:Nat)(h:v.length=m+2):val v=(at0 v (m+1)*1000000000+at0 v m)*1000000000 ^ m+val (v.take m):=by
 have e:val v=val (v.take (m+2)):=by rw[cA _ _ (by omega)]
 rw[e,cq v (m+1),cq v m,Nat.pow_succ]
 generalize 1000000000 ^ m=P
 grind
theorem tG {c:List Nat}(h:Dok c)(n:Nat):val (c.take n)<1000000000 ^ n:=by
 have:=Ax h 0 n
 simpa using this
theorem Tf {top u2 v1 v2 U ul vl V P:Nat}(h1:U=(top*1000000000+u2)*P+ul)(h2:V=(v1*1000000000+v2)*P+vl)(h3:vl<P)(h4:v2<1000000000)(hlt:U<V*1000000000):top≤v1*1000000000+999999999:=by
 have h5:V<(v1+1)*1000000000*P:=by
  have:(v1*1000000000+v2+1)*P≤(v1+1)*1000000000*P:=Nat.mul_le_mul_right _ (by omega)
  rw[Nat.add_mul _ 1,Nat.one_mul] at this
  omega
 have h6:top*1000000000*P≤U:=by
  rw[h1,Nat.add_mul]
  omega
 have h7:top*(1000000000*P)<(v1+1)*1000000000*(1000000000*P):=by
  rw[← Nat.mul_assoc]
  refine Nat.lt_of_le_of_lt h6 (Nat.lt_trans hlt ?_)
  have:V*1000000000<(v1+1)*1000000000*P*1000000000:=Nat.mul_lt_mul_of_pos_right h5 (by omega)
  rw[Nat.mul_assoc _ P,Nat.mul_comm P] at this
  exact this
 have h8:=Nat.lt_of_mul_lt_mul_right h7
 omega
theorem Nj {u v:List Nat}{j m:Nat}(hv:Dok v)(hvl:v.length=m+2)(hlt:val ((u.drop j).take (m+3))<val v*1000000000) :
  at0 u (j+m+2)*1000000000+at0 u (j+m+1)≤at0 v (m+1)*1000000000+999999999 :=
 Tf (BP u j m) (o9 v m hvl) (tG hv m) (cj hv m) hlt
theorem Nk {u v:List Nat}{j m g:Nat}(hu:Dok u)(hv:Dok v)(hvl:v.length=m+2)(hv1:0<at0 v (m+1))(hlt:val ((u.drop j).take (m+3))<val v*1000000000)
  (hg:GF (at0 u (j+m+2)*1000000000+at0 u (j+m+1)) (at0 v (m+1)) (at0 v m) (at0 u (j+m)) g) :
  g=val ((u.drop j).take (m+3)) / val v∨g=val ((u.drop j).take (m+3)) / val v+1:=by
 refine AY (BP u j m) (Ax hu j m) (o9 v m hvl) (tG hv m) ?_ hlt hg.1 hg.2.1 hg.2.2
 rw[o9 v m hvl]
 have:1000000000*1000000000 ^ m≤(at0 v (m+1)*1000000000+at0 v m)*1000000000 ^ m:=Nat.mul_le_mul_right _ (by omega)
 omega
theorem GI.le {top v1 v2 u2:Nat}(h5:500000000≤v1)(ht:top≤v1*1000000000+999999999):top / v1≤1000000001:=by
 have h1:top / v1*v1≤top:=Nat.div_mul_le_self _ _
 rcases Nat.lt_or_ge 1000000001 (top / v1) with h | h
 ·have:=Nat.mul_le_mul_right v1 (show 1000000002≤top / v1 from h)
  omega
 ·exact h
theorem dE.agp {b:Nat}{hp:List Blk}{l:List Nat}{p:PV}(h:dE b hp l p)(a:Nat)(hl:l.length<100000000) :
  ∃ id hp' fp,cV hp 1 p 1 [dg a]=some (.own id 1 0 (l.length+1) false,hp',fp)∧aZ hp' id=some ⟨.live,(l++[a]).map dg⟩:=by
 obtain⟨hb,h⟩:=h
 rcases h with ⟨rfl,rfl⟩| ⟨id,m,hid,hid2,rfl,h⟩
 ·refine⟨hp.length,aP hp [dg a],⟨[],[hp.length],true,false⟩,by simp[cV,cL],?_⟩
  rw[bO,if_pos rfl];rfl
 ·have ht:bE (br ((l++m).map dg) 0) (l.length*1)=some (l.map dg):=by
   rw[cM,dS (by simp)]
   simp
  refine⟨hp.length,aP (cf hp id ⟨.dead,[]⟩) (l.map dg++[dg a]),⟨[],[id,hp.length],true,false⟩,?_,?_⟩
  ·simp only[cV,h]
   rw[ht]
   simp[cL]
   omega
  ·rw[bO,bG,if_pos rfl];simp
theorem IP {b:List Nat}{n1:Nat}(ht:Top b)(hn:b.length=n1+1):0<at0 b n1:=by
 obtain⟨m,a,e,hm⟩:=Ar hn
 have h1:=ht m a e
 subst e
 have:at0 (m++[a]) n1=a:=by
  unfold at0
  rw[List.getElem?_append_right (by omega),hm,Nat.sub_self]
  rfl
 rw[this]
 omega
theorem BN (b:List Nat)(n1:Nat)(hn:b.length=n1+1):val b=at0 b n1*1000000000 ^ n1+val (b.take n1):=by
 have e:val b=val (b.take (n1+1)):=by rw[cA _ _ (by omega)]
 rw[e,cq]
 omega
theorem Lk {b:List Nat}{n1 k:Nat}(hb:Dok b)(ht:Top b)(hn:b.length=n1+1)(hk:k=1000000000 / (at0 b n1+1)) :
  0<k∧k<1000000000∧1000000000 ^ (n1+1)≤val b*1000000000∧val b*k<1000000000 ^ (n1+1)∧(aA (val b*k)).length=n1+1∧500000000≤at0 (aA (val b*k)) n1:=by
 obtain⟨s1,s2,s3,s4⟩:=Lj (IP ht hn) (cj hb n1) hk
 have hlow:=tG hb n1
 have hv:=BN b n1 hn
 have h0:=IP ht hn
 have hd:=bP (val b*k)
 have hvd:=bQ (val b*k)
 have hpow:(1000000000:Nat) ^ (n1+1)=1000000000 ^ n1*1000000000:=Nat.pow_succ ..
 clear hk
 generalize at0 b n1=t at *
 generalize val (b.take n1)=low at *
 generalize val b=V at *
 have hP:0<1000000000 ^ n1:=Nat.pow_pos (by omega)
 have e1:1000000000 ^ n1≤t*1000000000 ^ n1:=Nat.le_mul_of_pos_left _ h0
 have e2:V*k<1000000000 ^ (n1+1):=by
  have h1:V<(t+1)*1000000000 ^ n1:=by rw[Nat.add_mul,Nat.one_mul];omega
  have h2:V*k<(t+1)*1000000000 ^ n1*k:=Nat.mul_lt_mul_of_pos_right h1 s1
  have h3:(t+1)*1000000000 ^ n1*k=k*(t+1)*1000000000 ^ n1:=by rw[Nat.mul_comm _ k,Nat.mul_assoc]
  have h4:k*(t+1)*1000000000 ^ n1≤1000000000*1000000000 ^ n1:=Nat.mul_le_mul_right _ s3
  rw[hpow,Nat.mul_comm _ 1000000000]
  omega
 have e3:k*t*1000000000 ^ n1≤V*k:=by
  rw[hv,Nat.add_mul,Nat.mul_comm k t,Nat.mul_right_comm]
  omega
 have e4:500000000*1000000000 ^ n1≤V*k:=Nat.le_trans (Nat.mul_le_mul_right _ (by omega)) e3
 have e5:(aA (V*k)).length=n1+1:=by
  refine Nat.le_antisymm (da e2) ?_
  rcases Nat.lt_or_ge n1 (aA (V*k)).length with h | h
  ·exact h
  ·exfalso
   have h1:=fy (V*k)
   have h2:(1000000000:Nat) ^ (aA (V*k)).length≤1000000000 ^ n1:=Nat.pow_le_pow_right (by omega) h
   omega
 refine⟨s1,s2,?_,e2,e5,?_⟩
 ·rw[hpow]
  exact Nat.mul_le_mul_right _ (by omega)
 ·have h1:=BN _ n1 e5
  rw[hvd] at h1
  have h2:=tG hd n1
  rcases Nat.lt_or_ge (at0 (aA (V*k)) n1) 500000000 with h | h
  ·exfalso
   have h3:(at0 (aA (V*k)) n1+1)*1000000000 ^ n1≤500000000*1000000000 ^ n1:=Nat.mul_le_mul_right _ h
   rw[Nat.add_mul,Nat.one_mul] at h3
   omega
  ·exact h
theorem uk {u:List Nat}{n:Nat}(h:val u<1000000000 ^ n):val (u.take n)=val u:=by
 have h1:=np u n
 rcases Nat.eq_zero_or_pos (val (u.drop n)) with h2 | h2
 ·rw[h2] at h1;omega
 ·have:1000000000 ^ n≤1000000000 ^ n*val (u.drop n):=Nat.le_mul_of_pos_right _ h2
  omega
end Go.Ab
namespace Go.Proofs.YtjdmodeenbdfpaaGreat
open Go Go.Ab
noncomputable def gp:Code:=Tryz.f190.body.getD .skip
noncomputable def nC:Code:=((Tryz.f190.body).bind aF).getD .skip
theorem ES:base.F.get 190=some Tryz.f190:=by kernel_rfl
theorem K6:base.shared 190=false:=by kernel_rfl
theorem FQ (L:Lst)(run:aq)(k:Nat)(fr:List PV)(hp:List Blk)(wr:List Nat)(n:Nat)(h40:fr.length=40)
  (h14:nth fr 14 = .sc (.int .i64 (n:Int))) (h15:nth fr 15 = .sc (.int .i64 (n:Int))) :
  ∃ fr',af (CC L) run k nC ⟨fr,hp,wr⟩=some (.exit 0,⟨fr',hp,wr⟩)∧fr'.length=40∧nth fr' 5=nth fr 5∧nth fr' 6=nth fr 6:=by
 simp[nC,Tryz.f190,aF,af,aH,an,ao,aG,ag,ai,aj,ak,aC,az,FP.none,aY,au,bf,aa,ae,ab,h40,h14,h15]
set_option maxHeartbeats 2000000 in
theorem Az (L:Lst)(run:aq)(k:Nat)(fr:List PV)(hp:List Blk)(wr:List Nat)(a out:List Nat)(i c b s:Nat)(ha:Dok a)(hb:b<1000000000)(hc:c<1000000000)(hi:i<a.length)(hl:a.length<1000000)
  (h40:fr.length=40) (h13:nth fr 13=aL a) (h14:nth fr 14 = .sc (.int .i64 (a.length:Int))) (h15:nth fr 15 = .sc (.int .i64 (i:Int))) (h1:nth fr 1=dg b)
  (h6:nth fr 6 = .sc (.int .u64 (c:Int))) (hO:dE 0 hp out (nth fr 5)) (ho:out.length=i) (hs:s=c+at0 a i*b) :
  ∃ fr' hp' wr',af (CC L) run k nC ⟨fr,hp,wr⟩=some (.normal,⟨fr',hp',wr'⟩)∧fr'.length=40∧nth fr' 13=aL a∧nth fr' 14 = .sc (.int .i64 (a.length:Int))
   ∧ nth fr' 15 = .sc (.int .i64 ((i+1:Nat):Int))∧nth fr' 1=dg b∧nth fr' 6 = .sc (.int .u64 ((s / 1000000000:Nat):Int))∧dE 0 hp' (out++[s % 1000000000]) (nth fr' 5):=by
 have hda:=cT a i hi
 have hax:=cj ha i
 generalize at0 a i=x at *
 have e1:aL a = .imm a.length false (a.map dg):=rfl
 have hdb:dg b = .sc (.int .u32 (b:Int)):=rfl
 rw[e1] at h13 ⊢;rw[hdb] at h1 ⊢
 have hxy:x*b≤999999999*999999999:=Nat.mul_le_mul (by omega) (by omega)
 obtain⟨s1,hs1⟩:∃ s1,s1=x*b:=⟨_,rfl⟩
 rw[← hs1] at hs hxy
 have hw0:=ch .u64 x (dt (by omega))
 have hw1:=ch .u64 b (dt (by omega))
 have hw2:=wrapM .u64 x b s1 hs1 (dt (by omega))
 have hw3:=dq .u64 c s1 s hs (dt (by omega))
 have hwi:=bJ i (by omega)
 obtain⟨q,hq⟩:∃ q,q=s / 1000000000:=⟨_,rfl⟩
 obtain⟨r,hr⟩:∃ r,r=s % 1000000000:=⟨_,rfl⟩
 have hw4:bA .u64 ((s:Int) / 1000000000)=(q:Int):=ji .u64 s q hq (dt (by omega))
 have hw5:=kK s r hr
 have hw6:bA .u32 (r:Int)=(r:Int):=ch .u32 r (im (by omega))
 obtain⟨p',hp',fp,h7,h8,h9⟩:=hO.app r (ho ▸ Nat.lt_trans hi (Nat.lt_trans hl (by decide)))
 rw[← hq,← hr]
 simp[nC,Tryz.f190,aF,af,aH,an,ao,aG,ag,ai,aj,ak,aC,az,FP.none,aY,au,bf,av,bg,bk,partOf,aa,ae,ab,bh,and_assoc,bc,dj,h40,h13,h14,h15,h1,h6,uD,u32,u64,s32,b32,z32,a32,dy,hi,hda,aU,hw0,hw1,hw2,hw3,hw4,hw5,hw6,hwi,gM r,mM,mv,jk,bZ,h7,h8]
theorem Co {vo va c x b P s q r:Nat}(h:vo+c*P=va*b)(hs:s=c+x*b)(hq:q=s / 1000000000)(hr:r=s % 1000000000) :
  vo+P*r+q*(P*1000000000)=(va+x*P)*b:=by
 have e:s=r+1000000000*q:=by omega
 have e2:s*P=(r+1000000000*q)*P:=by rw[e]
 subst hs
 simp only[Nat.add_mul] at e2 ⊢
 have e3:1000000000*q*P=q*(P*1000000000):=by grind
 have e4:r*P=P*r:=Nat.mul_comm _ _
 have e5:x*b*P=x*P*b:=by grind
 omega
theorem sd (L:Lst)(run:aq)(k:Nat)(a:List Nat)(b:Nat)(ha:Dok a)(hb:b<1000000000)(hl:a.length<1000000):∀ (n i:Nat) (fr:List PV) (hp:List Blk) (wr:List Nat) (out:List Nat) (c:Nat),i+n=a.length →
  fr.length=40→nth fr 13=aL a→nth fr 14 = .sc (.int .i64 (a.length:Int))→nth fr 15 = .sc (.int .i64 (i:Int))→nth fr 1=dg b→nth fr 6 = .sc (.int .u64 (c:Int))→dE 0 hp out (nth fr 5)→out.length=i →
  Dok out→c<1000000000→val out+c*1000000000 ^ i=val (a.take i)*b →
  ∃ (fr':List PV) (hp':List Blk) (wr':List Nat) (out':List Nat) (c':Nat),ca (af (CC L) run k nC) (n+1) ⟨fr,hp,wr⟩=some (.exit 0,⟨fr',hp',wr'⟩)∧fr'.length=40∧nth fr' 6 = .sc (.int .u64 (c':Int))∧dE 0 hp' out' (nth fr' 5)∧out'.length=a.length
   ∧ Dok out'∧c'<1000000000∧val out'+c'*1000000000 ^ a.length=val a*b
 | 0,i,fr,hp,wr,out,c,hi,h40,h13,h14,h15,h1,h6,hO,ho,hd,hc,hv=>by
  have:i=a.length:=by omega
  subst this
  obtain⟨fr',g1,g2,g3,g4⟩:=FQ L run k fr hp wr a.length h40 h14 h15
  exact⟨fr',hp,wr,out,c,bz g1,g2,by rw[g4,h6],by rw[g3];exact hO,ho,hd,hc,by rw[hv,List.take_length]⟩
 | n+1,i,fr,hp,wr,out,c,hi,h40,h13,h14,h15,h1,h6,hO,ho,hd,hc,hv=>by
  obtain⟨fr1,hp1,wr1,g1,g2,g3,g4,g5,g6,g7,g8⟩:=Az L run k fr hp wr a out i c b _ ha hb hc (by omega) hl h40 h13 h14 h15 h1 h6 hO ho rfl
  obtain⟨fr',hp',wr',out',c',q1,q2⟩:=sd L run k a b ha hb hl n (i+1) fr1 hp1 wr1 _ _ (by omega) g2 g3 g4 g5 g6 g7 g8 (by simp[ho]) (hd.append (Dok.nil.cons (Nat.mod_lt _ (by omega))))
   (by
    have:=cj ha i
    have:at0 a i*b≤999999999*999999999:=Nat.mul_le_mul (by omega) (by omega)
    omega)
   (by
    rw[cq,dz,ho,Nat.pow_succ]
    exact Co hv rfl rfl rfl)
  exact⟨fr',hp',wr',out',c',by rw[bU g1];exact q1,q2⟩
noncomputable def AA:Code:=seq1 (seq1 (ah 2 gp))
theorem Ay:ah 2 gp = .seq (.seq AA (.block 0 (.loop nC))) (ah 3 gp):=rfl
theorem Cq (L:Lst)(run:aq)(k:Nat)(p q:PV) :
  ∃ fr wr,aX (CC L) run k 1 gp ⟨entry 40 [p,q],[],[]⟩=some ⟨fr,[],wr⟩∧fr.length=40∧nth fr 0=p∧nth fr 1=q:=by
 obtain⟨e1,e2,e3⟩:=cn 38 p q
 generalize entry 40 [p,q]=fr0 at *
 simp[gp,Tryz.f190,aX,e1,e2,e3,af,aH,an,ao,aG,ag,ai,aj,ak,aC,az,FP.none,av,ae,ab,and_assoc]
theorem Cp (L:Lst)(run:aq)(k:Nat)(a:List Nat)(fr0:List PV)(wr0:List Nat)(hl:a.length<1000000)(e1:fr0.length=40)(e2:nth fr0 0=aL a) :
  ∃ fr hp wr,aX (CC L) run k 1 (ah 1 gp) ⟨fr0,[],wr0⟩=some ⟨fr,hp,wr⟩∧fr.length=40∧nth fr 0=aL a∧nth fr 1=nth fr0 1∧nth fr 6 = .sc (.int .u64 (0:Nat))∧dE 0 hp [] (nth fr 5):=by
 have hO:∀ n,dE 0 [⟨.live,rep n [dg 0]⟩] [] (.own 0 1 0 0 false):=fun n=>⟨Nat.zero_le _,.inr ⟨0,List.replicate n 0,Nat.le_refl _,by simp,rfl,by rw[qW];rfl⟩⟩
 have hw:=bJ a.length (by omega)
 have h1:a.length+1≤cL:=Nat.le_trans (show a.length+1≤1000000 by assumption) (by decide)
 simp[gp,ah,Tryz.f190,aX,e1,e2,af,aH,an,ao,aG,ag,ai,aj,ak,aC,az,FP.none,aY,au,bf,av,bK,jx,iG,aa,ae,ab,bh,and_assoc,cg,uD,hw,s32,b32,z32,bZ,h1,aP,hO]
theorem Pz (L:Lst)(run:aq)(k:Nat)(fr:List PV)(hp:List Blk)(wr:List Nat)(a:List Nat)(h40:fr.length=40)(h0:nth fr 0=aL a) :
  ∃ fr',af (CC L) run k AA ⟨fr,hp,wr⟩=some (.normal,⟨fr',hp,wr⟩)∧fr'.length=40∧nth fr' 13=aL a∧nth fr' 14 = .sc (.int .i64 (a.length:Int))∧nth fr' 15 = .sc (.int .i64 (0:Nat))
   ∧ nth fr' 1=nth fr 1∧nth fr' 6=nth fr 6∧nth fr' 5=nth fr 5:=by
 simp[AA,gp,ah,seq1,Tryz.f190,af,aH,an,ao,aG,ag,ai,aj,ak,aC,az,FP.none,av,bK,aa,ae,ab,bh,cg,uD,h40,h0]
theorem Cr (L:Lst)(run:aq)(k:Nat)(fr:List PV)(hp:List Blk)(wr:List Nat)(out:List Nat)(c:Nat)(hc:c<1000000000)(hl:out.length<1000000)(h40:fr.length=40)(h6:nth fr 6 = .sc (.int .u64 (c:Int)))(hO:dE 0 hp out (nth fr 5)) :
  ∃ st id,af (CC L) run k (ah 3 gp) ⟨fr,hp,wr⟩=some (.ret,st)∧aV TT st.fr st.hp Tryz.f190.results.toList=some [.own id 1 0 (out.length+1) false]∧aZ st.hp id=some ⟨.live,(out++[c]).map dg⟩:=by
 obtain⟨id,hp',fp,h7,h8⟩:=hO.agp c (by omega)
 have hw6:bA .u32 (c:Int)=(c:Int):=ch .u32 c (im (by omega))
 refine (fun ⟨st,h⟩=>⟨st,id,h⟩:(∃ st,_)→_) ?_
 have h8':aZ hp' id=some ⟨.live,out.map dg++[dg c]⟩:=by simpa using h8
 simp[gp,ah,Tryz.f190,af,aH,an,ao,aG,ag,ai,aj,ak,aC,az,FP.none,av,aa,ae,ab,bh,bc,dj,uD,u32,u64,dy,h40,h6,hw6,s32,b32,z32,gM c,mM,mv,jk,bZ,h7,h8',aV]
theorem FO (L:Lst)(hs:∀ g,(CC L).sorc g=none)(a:List Nat)(b k:Nat)(ha:Dok a)(hb:b<1000000000)(hl:a.length<1000000)(hk:a.length<k) :
  ∃ hp wr id,runK (CC L) (k+1) 190 [aL a,dg b] []=some ([.own id 1 0 (a.length+1) false],hp,wr)∧aZ hp id=some ⟨.live,(cX (a.length+1) (val a*b)).map dg⟩:=by
 obtain⟨fr9,wr9,h1,h91,h92,h93⟩:=Cq L (runK (CC L) k) k (aL a) (dg b)
 obtain⟨fr0,hp0,wr0,h1',h2,h3,h4,h5,h6⟩:=Cp L (runK (CC L) k) k a fr9 wr9 hl h91 h92
 obtain⟨fr1,g1,g2,g3,g4,g5,g6,g7,g8⟩:=Pz L (runK (CC L) k) k fr0 hp0 wr0 a h2 h3
 obtain⟨fr2,hp2,wr2,out,c,q1,q2,q3,q4,q5,q6,q7,q8⟩:=sd L (runK (CC L) k) k a b ha hb hl a.length 0 fr1 hp0 wr0 [] 0 (by simp) g2 g3 g4 g5 (by rw[g6,h4,h93]) (by rw[g7,h5]) (by rw[g8];exact h6) rfl Dok.nil (by omega) (by simp[val])
 obtain⟨st,id,e1,e2,e3⟩:=Cr L (runK (CC L) k) k fr2 hp2 wr2 out c q7 (by omega) q2 q3 q4
 have hx:af (CC L) (runK (CC L) k) k gp ⟨entry 40 [aL a,dg b],[],[]⟩=some (.ret,st):=by
  rw[aM 1 h1,aM 1 h1',show ah 1 (ah 1 gp)=ah 2 gp from rfl,Ay,aw ((aw g1).trans (bF (bT q1 (by omega))))]
  exact e1
 have hout:out++[c]=cX (a.length+1) (val a*b):=by
  refine (q6.append (Dok.nil.cons (by omega))).oL (by simp[q5]) ?_
  rw[dz,q5,Nat.mul_comm,q8]
 rw[hout] at e3
 rw[q5] at e2
 exact⟨st.hp,st.wr,id,aQ ES rfl hx e2 (hs _),e3⟩
end Go.Proofs.YtjdmodeenbdfpaaGreat
