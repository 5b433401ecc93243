/- Contracts of num's integers, part 21; each lemma states its conditions. -/
import Derived.Test.YtjdmodeenbdfpaaGreatU20
import Derived.Test.YtjdmodeenbdfpaaGreatU12
set_option linter.unusedSimpArgs false
set_option linter.unusedVariables false
noncomputable section
namespace Go.Proofs.YtjdmodeenbdfpaaGreat
open Go Go.Ab Tryz
attribute [local simp] FzZ aC aF aG aH aa ab ae af ag ah ai aj an aq ar au aw az ba bf bg uD
variable(L:Lst)(run:av)(k:Nat)(fr:Ψ)(hp:Θ)(wr:Ω)
def qj:Code:=f165.body.getD .skip
def zh:Code:=((f165.body).bind az).getD .skip
theorem QG(h21:fr.length=21)(h4:nth fr 4 = .sc (.int .i64 (-1))) :
  ∃ fr',ae (CC L) run k zh ⟨fr,hp,wr⟩=some (.exit 0,⟨fr',hp,wr⟩)∧fr'.length=21∧nth fr' 3=nth fr 3:=by
 simp[zh,f165,h21,h4]
theorem Gy(a:Ω)(m N M:Nat)(ha:Dok a)(hm:m<a.length)(hl:a.length<1000000)(hM:M=N*1000000000+at0 a m)(hM2:M<9223372036854775808)
  (h21:fr.length=21) (h0:nth fr 0=aL a) (h3:nth fr 3 = .sc (.int .i64 (N:Int))) (h4:nth fr 4 = .sc (.int .i64 (m:Int))) :
  ∃ fr',ae (CC L) run k zh ⟨fr,hp,wr⟩=some (.normal,⟨fr',hp,wr⟩)∧fr'.length=21∧nth fr' 0=aL a∧nth fr' 3 = .sc (.int .i64 (M:Int))∧nth fr' 4 = .sc (.int .i64 ((m:Int) - 1)):=by
 have hda:=eJ a m hm
 have hax:=ha.get hm
 rw[de hm] at hM
 generalize a[m]=x at *
 have e1:aL a = .imm a.length false (a.map dg):=rfl
 have hdx:dg x = .sc (.int .u32 (x:Int)):=rfl
 rw[e1] at h0 ⊢;rw[hdx] at hda
 obtain⟨s1,hs1⟩:∃ s1,s1=N*1000000000:=⟨_,rfl⟩
 rw[← hs1] at hM
 have hw0:bB .i64 (x:Int)=(x:Int):=cp .i64 x (hiI (by omega))
 have hw1:=lS .i64 N s1 hs1 (hiI (by omega))
 have hw2:=dx .i64 s1 x M hM (hiI (by omega))
 have hwm:=cM m (by omega)
 simp[zh,f165,bc,bm,partOf,h21,h0,h3,h4,uI,u32,s32,a32,dF,hm,hda,aV,hw0,hw1,hw2,hwm]
theorem zg (L:Lst)(run:av)(k:Nat)(a:Ω)(ha:Dok a)(hl:a.length≤2):∀ (m:Nat) (fr:Ψ) (hp:Θ) (wr:Ω),m≤a.length →
  fr.length=21→nth fr 0=aL a→nth fr 3 = .sc (.int .i64 ((val (a.drop m):Nat):Int))→nth fr 4 = .sc (.int .i64 ((m:Int) - 1)) →
  ∃ (fr':Ψ),cg (ae (CC L) run k zh) (m+1) ⟨fr,hp,wr⟩=some (.exit 0,⟨fr',hp,wr⟩)∧fr'.length=21∧nth fr' 3 = .sc (.int .i64 ((val a:Nat):Int))
 | 0,fr,hp,wr,hm,h21,h0,h3,h4=>by
  obtain⟨fr',g1,g2,g3⟩:=QG L run k fr hp wr h21 (by rw[h4];rfl)
  exact⟨fr',br g1,g2,by rw[g3,h3,List.drop_zero]⟩
 | m+1,fr,hp,wr,hm,h21,h0,h3,h4=>by
  have h4':nth fr 4 = .sc (.int .i64 (m:Int)):=by rw[h4];simp
  have hb:val (a.drop m)<9223372036854775808:=by
   have h1:=eM (ha.drop m)
   have h2:(a.drop m).length≤2:=by rw[List.length_drop];omega
   have h3:=Nat.pow_le_pow_right (n:=1000000000) (by omega) h2
   have h4:1000000000 ^ 2<9223372036854775808:=by decide
   omega
  obtain⟨fr1,g1,g2,g3,g4,g5⟩:=Gy L run k fr hp wr a m (val (a.drop (m+1))) (val (a.drop m)) ha (by omega) (by omega) (by rw[il a m (by omega)];omega) hb h21 h0 h3 h4'
  obtain⟨fr',q1,q2⟩:=zg L run k a ha hl m fr1 hp wr (by omega) g2 g3 g4 g5
  exact⟨fr',by rw[bU g1];exact q1,q2⟩
def QH:Code:=seq1 (seq1 (ai 2 qj))
theorem Gx:ai 2 qj = .seq (.seq QH (.block 0 (.loop zh))) (ai 3 qj):=rfl
theorem QE (L:Lst)(run:av)(k:Nat)(p:PV) :
  ∃ fr,bh (CC L) run k 2 qj ⟨entry 21 [p],[],[]⟩=some ⟨fr,[],[]⟩∧fr.length=21∧nth fr 0=p∧nth fr 3 = .sc (.int .i64 (0:Nat)):=by
 obtain⟨e1,e2⟩:=cV 20 p
 generalize entry 21 [p]=fr0 at *
 simp[qj,f165,bh,e1,e2]
theorem aeh(a:Ω)(hl:a.length<1000000)(h21:fr.length=21)(h0:nth fr 0=aL a) :
  ∃ fr',ae (CC L) run k QH ⟨fr,[],[]⟩=some (.normal,⟨fr',[],[]⟩)∧fr'.length=21∧nth fr' 0=aL a∧nth fr' 3=nth fr 3∧nth fr' 4 = .sc (.int .i64 ((a.length:Int) - 1)):=by
 have hw:=cM a.length (by omega)
 simp[QH,qj,f165,seq1,bM,cl,h21,h0,hw]
theorem Mm(p:PV)(h21:fr.length=21)(h3:nth fr 3=p) :
  ∃ st,ae (CC L) run k (ai 3 qj) ⟨fr,[],[]⟩=some (.ret,st)∧aY TT st.fr st.hp f165.results.toList=some [p]:=by
 simp[qj,f165,h21,h3,aY]
def CL:Ψ→Option Ψ
 | [p]=>match gU p with
  | some a=>bif a.length.ble 2 then some [Ab.bJ (Int.ofNat (val a))] else none
  | _=>none
 | _=>none
theorem Ml:Ab.Spec base.P 165 CL:=Ab.Spec.bL (C:=CC []) (cP trivial) fun args rs h=>by
 unfold CL at h
 split at h
 ·split at h
  ·rename_i a ea
   obtain⟨rfl,ha,hla⟩:=dy ea
   cases hb:a.length.ble 2 with
   | false=>rw[hb] at h;cases h
   | true =>
    rw[hb] at h
    simp only[cond_true,OiE] at h
    subst h
    rw[Nat.ble_eq] at hb
    obtain⟨f1,p1,p2,p3,p4⟩:=QE [] (runK (CC []) 3) 3 (aL a)
    obtain⟨f2,q1,q2,q3,q4,q5⟩:=aeh [] (runK (CC []) 3) 3 f1 a hla p2 p3
    obtain⟨f3,r1,r2,r3⟩:=zg [] (runK (CC []) 3) 3 a ha hb a.length f2 [] [] (Nat.le_refl _) q2 q3 (by rw[q4,p4];simp[val]) q5
    obtain⟨st,e1,e2⟩:=Mm [] (runK (CC []) 3) 3 f3 _ r2 r3
    have hx:ae (CC []) (runK (CC []) 3) 3 qj ⟨entry 21 [aL a],[],[]⟩=some (.ret,st):=by
     rw[aU 2 p1,Gx,ao ((ao q1).trans (bD (bG r1 (by omega))))]
     exact e1
    exact⟨4,_,_,_,_,_,aZ PK rfl hx e2,eB _ (val a),Wk.refl rfl,trivial⟩
  ·cases h
 ·cases h
def pD:Code:=f164.body.getD .skip
def sv:Code:=((f164.body).bind az).getD .skip
theorem Mz(h12:fr.length=12)(h1:nth fr 1 = .sc (.int .i64 (0:Nat))) :
  ∃ fr',ae (CC L) run k sv ⟨fr,[],[]⟩=some (.exit 0,⟨fr',[],[]⟩)∧fr'.length=12∧nth fr' 0=nth fr 0:=by
 simp[sv,f164,h12,h1]
theorem C7(x y r:Nat)(hy:0<y)(hr:r=x % y)(h12:fr.length=12)(h0:nth fr 0 = .sc (.int .i64 (x:Int)))(h1:nth fr 1 = .sc (.int .i64 (y:Int))) :
  ∃ fr',ae (CC L) run k sv ⟨fr,[],[]⟩=some (.normal,⟨fr',[],[]⟩)∧fr'.length=12∧nth fr' 0 = .sc (.int .i64 (y:Int))∧nth fr' 1 = .sc (.int .i64 (r:Int)):=by
 have hw:=QW x y r hr
 have hy0 : ¬ (y=0):=by omega
 simp[sv,f164,h12,h0,h1,hy,hy0,hw,number,FP.free]
theorem wc (L:Lst)(run:av)(k:Nat):∀ (n y x:Nat) (fr:Ψ),y<n→fr.length=12→nth fr 0 = .sc (.int .i64 (x:Int))→nth fr 1 = .sc (.int .i64 (y:Int)) →
  ∃ fr',cg (ae (CC L) run k sv) n ⟨fr,[],[]⟩=some (.exit 0,⟨fr',[],[]⟩)∧fr'.length=12∧nth fr' 0 = .sc (.int .i64 ((Nat.gcd x y:Nat):Int))
 | 0,y,x,fr,hn,h12,h0,h1=>by omega
 | n+1,y,x,fr,hn,h12,h0,h1=>by
  by_cases hy:y=0
  ·subst hy
   obtain⟨fr',g1,g2,g3⟩:=Mz L run k fr h12 h1
   exact⟨fr',br g1,g2,by rw[g3,h0,Nat.gcd_zero_right]⟩
  ·obtain⟨fr1,g1,g2,g3,g4⟩:=C7 L run k fr x y _ (by omega) rfl h12 h0 h1
   obtain⟨fr',q1,q2,q3⟩:=wc L run k n (x % y) y fr1 (by have:=Nat.mod_lt x (show 0<y by omega);omega) g2 g3 g4
   refine⟨fr',by rw[bU g1];exact q1,q2,?_⟩
   rw[q3,Nat.gcd_comm y (x % y),← Nat.gcd_rec,Nat.gcd_comm]
theorem C6:ai 1 pD = .seq (.block 0 (.loop sv)) (ai 2 pD):=rfl
theorem My (L:Lst)(run:av)(k:Nat)(p q:PV) :
  ∃ fr,bh (CC L) run k 1 pD ⟨entry 12 [p,q],[],[]⟩=some ⟨fr,[],[]⟩∧fr.length=12∧nth fr 0=p∧nth fr 1=q:=by
 obtain⟨e1,e2,e3⟩:=cb 10 p q
 generalize entry 12 [p,q]=fr0 at *
 simp[pD,f164,bh,e1,e2,e3]
theorem GP(p:PV)(h12:fr.length=12)(h0:nth fr 0=p) :
  ∃ st,ae (CC L) run k (ai 2 pD) ⟨fr,[],[]⟩=some (.ret,st)∧aY TT st.fr st.hp f164.results.toList=some [p]:=by
 simp[pD,f164,h12,h0,aY]
def Bq:Ψ→Option Ψ
 | [.sc (.int .i64 (.ofNat x)),.sc (.int .i64 (.ofNat y))]=>some [Ab.bJ (Int.ofNat (Nat.gcd x y))]
 | _=>none
theorem GN:Ab.Spec base.P 164 Bq:=Ab.Spec.bL (C:=CC []) (cP trivial) fun args rs h=>by
 unfold Bq at h
 split at h
 ·rename_i x y
  simp only[OiE] at h
  subst h
  obtain⟨f1,p1,p2,p3,p4⟩:=My [] (runK (CC []) (y+1)) (y+1) (.sc (.int .i64 (x:Int))) (.sc (.int .i64 (y:Int)))
  obtain⟨f2,q1,q2,q3⟩:=wc [] (runK (CC []) (y+1)) (y+1) (y+1) y x f1 (by omega) p2 p3 p4
  obtain⟨st,e1,e2⟩:=GP [] (runK (CC []) (y+1)) (y+1) f2 _ q2 q3
  have hx:ae (CC []) (runK (CC []) (y+1)) (y+1) pD ⟨entry 12 [.sc (.int .i64 (x:Int)),.sc (.int .i64 (y:Int))],[],[]⟩=some (.ret,st):=by
   rw[aU 1 p1,C6,ao (bD q1)]
   exact e1
  exact⟨y+2,_,_,_,_,_,aZ JJ rfl hx e2,eB _ (Nat.gcd x y),Wk.refl rfl,trivial⟩
 ·cases h
def gk:Code:=f190.body.getD .skip
def oE:Code:=((f190.body).bind az).getD .skip
theorem Gc:base.F.get 190=some f190:=by kernel_rfl
theorem MM:base.shared 190=false:=by kernel_rfl
theorem Hi(n:Nat)(h40:fr.length=40)
  (h14:nth fr 14 = .sc (.int .i64 (n:Int))) (h15:nth fr 15 = .sc (.int .i64 (n:Int))) :
  ∃ fr',ae (CC L) run k oE ⟨fr,hp,wr⟩=some (.exit 0,⟨fr',hp,wr⟩)∧fr'.length=40∧nth fr' 5=nth fr 5∧nth fr' 6=nth fr 6:=by
 simp[oE,f190,h40,h14,h15]
set_option maxHeartbeats 2000000 in
theorem Bv(a out:Ω)(i c b s:Nat)(ha:Dok a)(hb:b<1000000000)(hc:c<1000000000)(hi:i<a.length)(hl:a.length<1000000)
  (h40:fr.length=40) (h13:nth fr 13=aL a) (h14:nth fr 14 = .sc (.int .i64 (a.length:Int))) (h15:nth fr 15 = .sc (.int .i64 (i:Int))) (h1:nth fr 1=dg b)
  (h6:nth fr 6 = .sc (.int .u64 (c:Int))) (hO:dL 0 hp out (nth fr 5)) (ho:out.length=i) (hs:s=c+at0 a i*b) :
  ∃ fr' hp' wr',ae (CC L) run k oE ⟨fr,hp,wr⟩=some (.normal,⟨fr',hp',wr'⟩)∧fr'.length=40∧nth fr' 13=aL a∧nth fr' 14 = .sc (.int .i64 (a.length:Int))
   ∧ nth fr' 15 = .sc (.int .i64 ((i+1:Nat):Int))∧nth fr' 1=dg b∧nth fr' 6 = .sc (.int .u64 ((s / 1000000000:Nat):Int))∧dL 0 hp' (out++[s % 1000000000]) (nth fr' 5):=by
 have hda:=da a i hi
 have hax:=cn ha i
 generalize at0 a i=x at *
 have e1:aL a = .imm a.length false (a.map dg):=rfl
 have hdb:dg b = .sc (.int .u32 (b:Int)):=rfl
 rw[e1] at h13 ⊢;rw[hdb] at h1 ⊢
 have hxy:x*b≤999999999*999999999:=Nat.mul_le_mul (by omega) (by omega)
 obtain⟨s1,hs1⟩:∃ s1,s1=x*b:=⟨_,rfl⟩
 rw[← hs1] at hs hxy
 have hw0:=cp .u64 x (dA (by omega))
 have hw1:=cp .u64 b (dA (by omega))
 have hw2:=wrapM .u64 x b s1 hs1 (dA (by omega))
 have hw3:=dx .u64 c s1 s hs (dA (by omega))
 have hwi:=bE i (by omega)
 obtain⟨q,hq⟩:∃ q,q=s / 1000000000:=⟨_,rfl⟩
 obtain⟨r,hr⟩:∃ r,r=s % 1000000000:=⟨_,rfl⟩
 have hw4:bB .u64 ((s:Int) / 1000000000)=(q:Int):=jC .u64 s q hq (dA (by omega))
 have hw5:=ll s r hr
 have hw6:bB .u32 (r:Int)=(r:Int):=cp .u32 r (iC (by omega))
 obtain⟨p',hp',fp,h7,h8,h9⟩:=hO.app r (ho ▸ Nat.lt_trans hi (Nat.lt_trans hl (by decide)))
 rw[← hq,← hr]
 simp[oE,f190,bc,bm,partOf,and_assoc,bj,du,h40,h13,h14,h15,h1,h6,u32,u64,s32,b32,z32,a32,dF,hi,hda,aV,hw0,hw1,hw2,hw3,hw4,hw5,hw6,hwi,gM r,nS,nA,jF,bZ,h7,h8]
theorem Ds {vo va c x b P s q r:Nat}(h:vo+c*P=va*b)(hs:s=c+x*b)(hq:q=s / 1000000000)(hr:r=s % 1000000000) :
  vo+P*r+q*(P*1000000000)=(va+x*P)*b:=by
 have e:s=r+1000000000*q:=by omega
 have e2:s*P=(r+1000000000*q)*P:=by rw[e]
 subst hs
 simp only[Nat.add_mul] at e2 ⊢
 have e3:1000000000*q*P=q*(P*1000000000):=by grind
 have e4:r*P=P*r:=Nat.mul_comm _ _
 have e5:x*b*P=x*P*b:=by grind
 omega
theorem tK (L:Lst)(run:av)(k:Nat)(a:Ω)(b:Nat)(ha:Dok a)(hb:b<1000000000)(hl:a.length<1000000):∀ (n i:Nat) (fr:Ψ) (hp:Θ) (wr:Ω) (out:Ω) (c:Nat),i+n=a.length →
  fr.length=40→nth fr 13=aL a→nth fr 14 = .sc (.int .i64 (a.length:Int))→nth fr 15 = .sc (.int .i64 (i:Int))→nth fr 1=dg b→nth fr 6 = .sc (.int .u64 (c:Int))→dL 0 hp out (nth fr 5)→out.length=i →
  Dok out→c<1000000000→val out+c*1000000000 ^ i=val (a.take i)*b →
  ∃ (fr':Ψ) (hp':Θ) (wr':Ω) (out':Ω) (c':Nat),cg (ae (CC L) run k oE) (n+1) ⟨fr,hp,wr⟩=some (.exit 0,⟨fr',hp',wr'⟩)∧fr'.length=40∧nth fr' 6 = .sc (.int .u64 (c':Int))∧dL 0 hp' out' (nth fr' 5)∧out'.length=a.length
   ∧ Dok out'∧c'<1000000000∧val out'+c'*1000000000 ^ a.length=val a*b
 | 0,i,fr,hp,wr,out,c,hi,h40,h13,h14,h15,h1,h6,hO,ho,hd,hc,hv=>by
  have:i=a.length:=by omega
  subst this
  obtain⟨fr',g1,g2,g3,g4⟩:=Hi L run k fr hp wr a.length h40 h14 h15
  exact⟨fr',hp,wr,out,c,br g1,g2,by rw[g4,h6],by rw[g3];exact hO,ho,hd,hc,by rw[hv,List.take_length]⟩
 | n+1,i,fr,hp,wr,out,c,hi,h40,h13,h14,h15,h1,h6,hO,ho,hd,hc,hv=>by
  obtain⟨fr1,hp1,wr1,g1,g2,g3,g4,g5,g6,g7,g8⟩:=Bv L run k fr hp wr a out i c b _ ha hb hc (by omega) hl h40 h13 h14 h15 h1 h6 hO ho rfl
  obtain⟨fr',hp',wr',out',c',q1,q2⟩:=tK L run k a b ha hb hl n (i+1) fr1 hp1 wr1 _ _ (by omega) g2 g3 g4 g5 g6 g7 g8 (by simp[ho]) (hd.append (Dok.nil.cons (Nat.mod_lt _ (by omega))))
   (by
    have:=cn ha i
    have:at0 a i*b≤999999999*999999999:=Nat.mul_le_mul (by omega) (by omega)
    omega)
   (by
    rw[cu,dI,ho,Nat.pow_succ]
    exact Ds hv rfl rfl rfl)
  exact⟨fr',hp',wr',out',c',by rw[bU g1];exact q1,q2⟩
def Bw:Code:=seq1 (seq1 (ai 2 gk))
theorem Bu:ai 2 gk = .seq (.seq Bw (.block 0 (.loop oE))) (ai 3 gk):=rfl
theorem Du (L:Lst)(run:av)(k:Nat)(p q:PV) :
  ∃ fr wr,bh (CC L) run k 1 gk ⟨entry 40 [p,q],[],[]⟩=some ⟨fr,[],wr⟩∧fr.length=40∧nth fr 0=p∧nth fr 1=q:=by
 obtain⟨e1,e2,e3⟩:=cb 38 p q
 generalize entry 40 [p,q]=fr0 at *
 simp[gk,f190,bh,e1,e2,e3,and_assoc]
theorem Dt (L:Lst)(run:av)(k:Nat)(a:Ω)(fr0:Ψ)(wr0:Ω)(hl:a.length<1000000)(e1:fr0.length=40)(e2:nth fr0 0=aL a) :
  ∃ fr hp wr,bh (CC L) run k 1 (ai 1 gk) ⟨fr0,[],wr0⟩=some ⟨fr,hp,wr⟩∧fr.length=40∧nth fr 0=aL a∧nth fr 1=nth fr0 1∧nth fr 6 = .sc (.int .u64 (0:Nat))∧dL 0 hp [] (nth fr 5):=by
 have hO:∀ n,dL 0 [⟨.live,rep n [dg 0]⟩] [] (.own 0 1 0 0 false):=fun n=>⟨Nat.zero_le _,.inr ⟨0,List.replicate n 0,Nat.le_refl _,by simp,rfl,by rw[sK];rfl⟩⟩
 have hw:=bE a.length (by omega)
 have h1:a.length+1≤cW:=Nat.le_trans (show a.length+1≤1000000 by assumption) (by decide)
 simp[gk,f190,bh,e1,e2,bM,jQ,je,and_assoc,cl,hw,s32,b32,z32,bZ,h1,bd,hO]
theorem R6(a:Ω)(h40:fr.length=40)(h0:nth fr 0=aL a) :
  ∃ fr',ae (CC L) run k Bw ⟨fr,hp,wr⟩=some (.normal,⟨fr',hp,wr⟩)∧fr'.length=40∧nth fr' 13=aL a∧nth fr' 14 = .sc (.int .i64 (a.length:Int))∧nth fr' 15 = .sc (.int .i64 (0:Nat))
   ∧ nth fr' 1=nth fr 1∧nth fr' 6=nth fr 6∧nth fr' 5=nth fr 5:=by
 simp[Bw,gk,seq1,f190,bM,cl,h40,h0]
theorem Dv(out:Ω)(c:Nat)(hc:c<1000000000)(hl:out.length<1000000)(h40:fr.length=40)(h6:nth fr 6 = .sc (.int .u64 (c:Int)))(hO:dL 0 hp out (nth fr 5)) :
  ∃ st id,ae (CC L) run k (ai 3 gk) ⟨fr,hp,wr⟩=some (.ret,st)∧aY TT st.fr st.hp f190.results.toList=some [.own id 1 0 (out.length+1) false]∧aX st.hp id=some ⟨.live,(out++[c]).map dg⟩:=by
 obtain⟨id,hp',fp,h7,h8⟩:=hO.aks c (by omega)
 have hw6:bB .u32 (c:Int)=(c:Int):=cp .u32 c (iC (by omega))
 refine (fun ⟨st,h⟩=>⟨st,id,h⟩:(∃ st,_)→_) ?_
 have h8':aX hp' id=some ⟨.live,out.map dg++[dg c]⟩:=by simpa using h8
 simp[gk,f190,bj,du,u32,u64,dF,h40,h6,hw6,s32,b32,z32,gM c,nS,nA,jF,bZ,h7,h8',aY]
theorem Hh (L:Lst)(hs:∀ g,(CC L).sorc g=none)(a:Ω)(b k:Nat)(ha:Dok a)(hb:b<1000000000)(hl:a.length<1000000)(hk:a.length<k) :
  ∃ hp wr id,runK (CC L) (k+1) 190 [aL a,dg b] []=some ([.own id 1 0 (a.length+1) false],hp,wr)∧aX hp id=some ⟨.live,(db (a.length+1) (val a*b)).map dg⟩:=by
 obtain⟨fr9,wr9,h1,h91,h92,h93⟩:=Du L (runK (CC L) k) k (aL a) (dg b)
 obtain⟨fr0,hp0,wr0,h1',h2,h3,h4,h5,h6⟩:=Dt L (runK (CC L) k) k a fr9 wr9 hl h91 h92
 obtain⟨fr1,g1,g2,g3,g4,g5,g6,g7,g8⟩:=R6 L (runK (CC L) k) k fr0 hp0 wr0 a h2 h3
 obtain⟨fr2,hp2,wr2,out,c,q1,q2,q3,q4,q5,q6,q7,q8⟩:=tK L (runK (CC L) k) k a b ha hb hl a.length 0 fr1 hp0 wr0 [] 0 (by simp) g2 g3 g4 g5 (by rw[g6,h4,h93]) (by rw[g7,h5]) (by rw[g8];exact h6) rfl Dok.nil (by omega) (by simp[val])
 obtain⟨st,id,e1,e2,e3⟩:=Dv L (runK (CC L) k) k fr2 hp2 wr2 out c q7 (by omega) q2 q3 q4
 have hx:ae (CC L) (runK (CC L) k) k gk ⟨entry 40 [aL a,dg b],[],[]⟩=some (.ret,st):=by
  rw[aU 1 h1,aU 1 h1',show ai 1 (ai 1 gk)=ai 2 gk from rfl,Bu,ao ((ao g1).trans (bD (bG q1 (by omega))))]
  exact e1
 have hout:out++[c]=db (a.length+1) (val a*b):=by
  refine (q6.append (Dok.nil.cons (by omega))).pQ (by simp[q5]) ?_
  rw[dI,q5,Nat.mul_comm,q8]
 rw[hout] at e3
 rw[q5] at e2
 exact⟨st.hp,st.wr,id,aZ Gc rfl hx e2 (hs _),e3⟩
end Go.Proofs.YtjdmodeenbdfpaaGreat
end
