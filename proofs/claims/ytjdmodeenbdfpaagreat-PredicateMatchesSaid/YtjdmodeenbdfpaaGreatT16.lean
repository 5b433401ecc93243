/- Contracts of num's integers, part 16 of the proof; each lemma states its own conditions. -/
import Derived.Test.YtjdmodeenbdfpaaGreatT15
import Derived.Test.YtjdmodeenbdfpaaGreatT13
set_option linter.unusedSimpArgs false
set_option linter.unusedVariables false
noncomputable section
namespace Go.Proofs.YtjdmodeenbdfpaaGreat
open Go Go.Ab List Tryz
attribute [local simp] FzZ aA aF aG aH aa ab ae af ag ai aj an ao aq az
variable(L:Lst)(run:ar)(k:Nat)(fr:List PV)(hp:List Blk)(wr:List Nat)
def qz:Code:=f165.body.getD .skip
def zh:Code:=((f165.body).bind aC).getD .skip
theorem P2(h21:fr.length=21)(h4:nth fr 4 = .sc (.int .i64 (-1))) :
  ∃ fr',af (CC L) run k zh ⟨fr,hp,wr⟩=some (.exit 0,⟨fr',hp,wr⟩)∧fr'.length=21∧nth fr' 3=nth fr 3:=by
 simp[zh,f165,aC,bc,aw,bj,h21,h4]
theorem Gc(a:List Nat)(m N M:Nat)(ha:Dok a)(hm:m<a.length)(hl:a.length<1000000)(hM:M=N*1000000000+at0 a m)(hM2:M<9223372036854775808)
  (h21:fr.length=21) (h0:nth fr 0=aQ a) (h3:nth fr 3 = .sc (.int .i64 (N:Int))) (h4:nth fr 4 = .sc (.int .i64 (m:Int))) :
  ∃ fr',af (CC L) run k zh ⟨fr,hp,wr⟩=some (.normal,⟨fr',hp,wr⟩)∧fr'.length=21∧nth fr' 0=aQ a∧nth fr' 3 = .sc (.int .i64 (M:Int))∧nth fr' 4 = .sc (.int .i64 ((m:Int) - 1)):=by
 have hda:=ff a m hm
 have hax:=ha.get hm
 rw[dm hm] at hM
 generalize a[m]=x at *
 have e1:aQ a = .imm a.length false (a.map dg):=rfl
 have hdx:dg x = .sc (.int .u32 (x:Int)):=rfl
 rw[e1] at h0 ⊢;rw[hdx] at hda
 obtain⟨s1,hs1⟩:∃ s1,s1=N*1000000000:=⟨_,rfl⟩
 rw[← hs1] at hM
 have hw0:bE .i64 (x:Int)=(x:Int):=cG .i64 x (hiI (by omega))
 have hw1:=mf .i64 N s1 hs1 (hiI (by omega))
 have hw2:=dD .i64 s1 x M hM (hiI (by omega))
 have hwm:=cU m (by omega)
 simp[zh,f165,aC,bc,aw,bj,bg,bm,partOf,bd,h21,h0,h3,h4,uD,uI,u32,s32,a32,dS,hm,hda,aV,hw0,hw1,hw2,hwm]
theorem zg (L:Lst)(run:ar)(k:Nat)(a:List Nat)(ha:Dok a)(hl:a.length≤2):∀ (m:Nat) (fr:List PV) (hp:List Blk) (wr:List Nat),m≤a.length →
  fr.length=21→nth fr 0=aQ a→nth fr 3 = .sc (.int .i64 ((val (a.drop m):Nat):Int))→nth fr 4 = .sc (.int .i64 ((m:Int) - 1)) →
  ∃ (fr':List PV),cu (af (CC L) run k zh) (m+1) ⟨fr,hp,wr⟩=some (.exit 0,⟨fr',hp,wr⟩)∧fr'.length=21∧nth fr' 3 = .sc (.int .i64 ((val a:Nat):Int))
 | 0,fr,hp,wr,hm,h21,h0,h3,h4=>by
  obtain⟨fr',g1,g2,g3⟩:=P2 L run k fr hp wr h21 (by rw[h4];rfl)
  exact⟨fr',bD g1,g2,by rw[g3,h3,drop_zero]⟩
 | m+1,fr,hp,wr,hm,h21,h0,h3,h4=>by
  have h4':nth fr 4 = .sc (.int .i64 (m:Int)):=by rw[h4];simp
  have hb:val (a.drop m)<9223372036854775808:=by
   have h1:=fh (ha.drop m)
   have h2:(a.drop m).length≤2:=by rw[length_drop];omega
   have h3:=Nat.pow_le_pow_right (n:=1000000000) (by omega) h2
   have h4:1000000000 ^ 2<9223372036854775808:=by decide
   omega
  obtain⟨fr1,g1,g2,g3,g4,g5⟩:=Gc L run k fr hp wr a m (val (a.drop (m+1))) (val (a.drop m)) ha (by omega) (by omega) (by rw[iM a m (by omega)];omega) hb h21 h0 h3 h4'
  obtain⟨fr',q1,q2⟩:=zg L run k a ha hl m fr1 hp wr (by omega) g2 g3 g4 g5
  exact⟨fr',by rw[ct g1];exact q1,q2⟩
def P3:Code:=seq1 (seq1 (ah 2 qz))
theorem Gb:ah 2 qz = .seq (.seq P3 (.block 0 (.loop zh))) (ah 3 qz):=rfl
theorem P1 (L:Lst)(run:ar)(k:Nat)(p:PV) :
  ∃ fr,aX (CC L) run k 2 qz ⟨entry 21 [p],[],[]⟩=some ⟨fr,[],[]⟩∧fr.length=21∧nth fr 0=p∧nth fr 3 = .sc (.int .i64 (0:Nat)):=by
 obtain⟨e1,e2⟩:=cW 20 p
 generalize entry 21 [p]=fr0 at *
 simp[qz,f165,aX,e1,e2]
theorem adR(a:List Nat)(hl:a.length<1000000)(h21:fr.length=21)(h0:nth fr 0=aQ a) :
  ∃ fr',af (CC L) run k P3 ⟨fr,[],[]⟩=some (.normal,⟨fr',[],[]⟩)∧fr'.length=21∧nth fr' 0=aQ a∧nth fr' 3=nth fr 3∧nth fr' 4 = .sc (.int .i64 ((a.length:Int) - 1)):=by
 have hw:=cU a.length (by omega)
 simp[P3,qz,f165,ah,seq1,bc,aw,bj,bO,bd,cB,uD,h21,h0,hw]
theorem LU(p:PV)(h21:fr.length=21)(h3:nth fr 3=p) :
  ∃ st,af (CC L) run k (ah 3 qz) ⟨fr,[],[]⟩=some (.ret,st)∧aU TT st.fr st.hp f165.results.toList=some [p]:=by
 simp[qz,f165,ah,h21,h3,aU]
def Cy:List PV→Option (List PV)
 | [p]=>match iw p with
  | some a=>bif a.length.ble 2 then some [Ab.bz (Int.ofNat (val a))] else none
  | _=>none
 | _=>none
theorem LS:Ab.Spec base.P 165 Cy:=Ab.Spec.bM (C:=CC []) (cP trivial) fun args rs h=>by
 unfold Cy at h
 split at h
 ·split at h
  ·rename_i a ea
   obtain⟨rfl,ha,hla⟩:=dI ea
   cases hb:a.length.ble 2 with
   | false=>rw[hb] at h;cases h
   | true =>
    rw[hb] at h
    simp only[cond_true,OiE] at h
    subst h
    rw[Nat.ble_eq] at hb
    obtain⟨f1,p1,p2,p3,p4⟩:=P1 [] (runK (CC []) 3) 3 (aQ a)
    obtain⟨f2,q1,q2,q3,q4,q5⟩:=adR [] (runK (CC []) 3) 3 f1 a hla p2 p3
    obtain⟨f3,r1,r2,r3⟩:=zg [] (runK (CC []) 3) 3 a ha hb a.length f2 [] [] (Nat.le_refl _) q2 q3 (by rw[q4,p4];simp[val]) q5
    obtain⟨st,e1,e2⟩:=LU [] (runK (CC []) 3) 3 f3 _ r2 r3
    have hx:af (CC []) (runK (CC []) 3) 3 qz ⟨entry 21 [aQ a],[],[]⟩=some (.ret,st):=by
     rw[aO 2 p1,Gb,av ((av q1).trans (bN (ca r1 (by omega))))]
     exact e1
    exact⟨4,_,_,_,_,_,aP PC rfl hx e2,eY _ (val a),Wk.refl rfl,trivial⟩
  ·cases h
 ·cases h
def pL:Code:=f164.body.getD .skip
def sj:Code:=((f164.body).bind aC).getD .skip
theorem Mj(h12:fr.length=12)(h1:nth fr 1 = .sc (.int .i64 (0:Nat))) :
  ∃ fr',af (CC L) run k sj ⟨fr,[],[]⟩=some (.exit 0,⟨fr',[],[]⟩)∧fr'.length=12∧nth fr' 0=nth fr 0:=by
 simp[sj,f164,aC,bc,aw,bj,h12,h1]
theorem CW(x y r:Nat)(hy:0<y)(hr:r=x % y)(h12:fr.length=12)(h0:nth fr 0 = .sc (.int .i64 (x:Int)))(h1:nth fr 1 = .sc (.int .i64 (y:Int))) :
  ∃ fr',af (CC L) run k sj ⟨fr,[],[]⟩=some (.normal,⟨fr',[],[]⟩)∧fr'.length=12∧nth fr' 0 = .sc (.int .i64 (y:Int))∧nth fr' 1 = .sc (.int .i64 (r:Int)):=by
 have hw:=wa x y r hr
 have hy0 : ¬ (y=0):=by omega
 simp[sj,f164,aC,bc,aw,bj,h12,h0,h1,hy,hy0,hw,number,FP.free]
theorem wq (L:Lst)(run:ar)(k:Nat):∀ (n y x:Nat) (fr:List PV),y<n→fr.length=12→nth fr 0 = .sc (.int .i64 (x:Int))→nth fr 1 = .sc (.int .i64 (y:Int)) →
  ∃ fr',cu (af (CC L) run k sj) n ⟨fr,[],[]⟩=some (.exit 0,⟨fr',[],[]⟩)∧fr'.length=12∧nth fr' 0 = .sc (.int .i64 ((Nat.gcd x y:Nat):Int))
 | 0,y,x,fr,hn,h12,h0,h1=>by omega
 | n+1,y,x,fr,hn,h12,h0,h1=>by
  by_cases hy:y=0
  ·subst hy
   obtain⟨fr',g1,g2,g3⟩:=Mj L run k fr h12 h1
   exact⟨fr',bD g1,g2,by rw[g3,h0,Nat.gcd_zero_right]⟩
  ·obtain⟨fr1,g1,g2,g3,g4⟩:=CW L run k fr x y _ (by omega) rfl h12 h0 h1
   obtain⟨fr',q1,q2,q3⟩:=wq L run k n (x % y) y fr1 (by have:=Nat.mod_lt x (show 0<y by omega);omega) g2 g3 g4
   refine⟨fr',by rw[ct g1];exact q1,q2,?_⟩
   rw[q3,Nat.gcd_comm y (x % y),← Nat.gcd_rec,Nat.gcd_comm]
theorem CV:ah 1 pL = .seq (.block 0 (.loop sj)) (ah 2 pL):=rfl
theorem Mi (L:Lst)(run:ar)(k:Nat)(p q:PV) :
  ∃ fr,aX (CC L) run k 1 pL ⟨entry 12 [p,q],[],[]⟩=some ⟨fr,[],[]⟩∧fr.length=12∧nth fr 0=p∧nth fr 1=q:=by
 obtain⟨e1,e2,e3⟩:=cn 10 p q
 generalize entry 12 [p,q]=fr0 at *
 simp[pL,f164,aX,e1,e2,e3]
theorem Gr(p:PV)(h12:fr.length=12)(h0:nth fr 0=p) :
  ∃ st,af (CC L) run k (ah 2 pL) ⟨fr,[],[]⟩=some (.ret,st)∧aU TT st.fr st.hp f164.results.toList=some [p]:=by
 simp[pL,f164,ah,h12,h0,aU]
def Bh:List PV→Option (List PV)
 | [.sc (.int .i64 (.ofNat x)),.sc (.int .i64 (.ofNat y))]=>some [Ab.bz (Int.ofNat (Nat.gcd x y))]
 | _=>none
theorem Gq:Ab.Spec base.P 164 Bh:=Ab.Spec.bM (C:=CC []) (cP trivial) fun args rs h=>by
 unfold Bh at h
 split at h
 ·rename_i x y
  simp only[OiE] at h
  subst h
  obtain⟨f1,p1,p2,p3,p4⟩:=Mi [] (runK (CC []) (y+1)) (y+1) (.sc (.int .i64 (x:Int))) (.sc (.int .i64 (y:Int)))
  obtain⟨f2,q1,q2,q3⟩:=wq [] (runK (CC []) (y+1)) (y+1) (y+1) y x f1 (by omega) p2 p3 p4
  obtain⟨st,e1,e2⟩:=Gr [] (runK (CC []) (y+1)) (y+1) f2 _ q2 q3
  have hx:af (CC []) (runK (CC []) (y+1)) (y+1) pL ⟨entry 12 [.sc (.int .i64 (x:Int)),.sc (.int .i64 (y:Int))],[],[]⟩=some (.ret,st):=by
   rw[aO 1 p1,CV,av (bN q1)]
   exact e1
  exact⟨y+2,_,_,_,_,_,aP Jk rfl hx e2,eY _ (Nat.gcd x y),Wk.refl rfl,trivial⟩
 ·cases h
end Go.Proofs.YtjdmodeenbdfpaaGreat
namespace Go.Ab
open Go List
def GI (top v1 v2 u2 g rest:Nat):Prop:=g*v1+rest=top∧∀ q,q<1000000000→q*(v1*1000000000+v2)≤top*1000000000+u2→q≤g
def GF (top v1 v2 u2 g:Nat):Prop:=g<1000000000∧g*(v1*1000000000+v2)≤top*1000000000+u2∧∀ q,q<1000000000→q*(v1*1000000000+v2)≤top*1000000000+u2→q≤g
theorem GI.init {top v1 v2 u2:Nat}(hv:0<v1)(hu:u2<1000000000):GI top v1 v2 u2 (top / v1) (top % v1):=by
 refine⟨by rw[Nat.mul_comm];exact Nat.div_add_mod _ _,fun q hq h => ?_⟩
 rw[Nat.le_div_iff_mul_le hv]
 have:q*(v1*1000000000+v2)=q*v1*1000000000+q*v2:=by rw[Nat.mul_add,Nat.mul_assoc]
 rw[this] at h
 omega
theorem Vw (g v1 v2:Nat):g*(v1*1000000000+v2)=g*v1*1000000000+g*v2:=by rw[Nat.mul_add,Nat.mul_assoc]
theorem GI.step {top v1 v2 u2 g rest:Nat}(h:GI top v1 v2 u2 g rest)(hc:1000000000≤g∨rest*1000000000+u2<g*v2):0<g∧GI top v1 v2 u2 (g - 1) (rest+v1):=by
 obtain⟨h1,h2⟩:=h
 have hg:0<g:=by
  rcases hc with hc | hc
  ·omega
  ·cases g with
   | zero=>simp at hc
   | succ g=>omega
 refine⟨hg,?_,fun q hq h => ?_⟩
 ·obtain⟨g',rfl⟩:∃ g',g=g'+1:=⟨g - 1,by omega⟩
  rw[Nat.add_mul,Nat.one_mul] at h1
  simp only[Nat.add_sub_cancel]
  omega
 ·have h3:=h2 q hq h
  rcases hc with hc | hc
  ·omega
  ·rcases Nat.lt_or_ge q g with h4 | h4
   ·omega
   ·have e:q=g:=by omega
    subst e
    rw[Vw] at h
    omega
theorem GI.stop {top v1 v2 u2 g rest:Nat}(h:GI top v1 v2 u2 g rest)(hc:g<1000000000)(hc2:g*v2≤rest*1000000000+u2):GF top v1 v2 u2 g:=by
 refine⟨hc,?_,h.2⟩
 have:=h.1
 rw[Vw]
 omega
theorem GI.brk {top v1 v2 u2 g rest:Nat}(h:GI top v1 v2 u2 g rest)(hr:1000000000≤rest)(ht:top≤v1*1000000000+999999999)(hv:v2<1000000000):GF top v1 v2 u2 g:=by
 have hg:g<1000000000:=by
  rcases Nat.lt_or_ge g 1000000000 with h' | h'
  ·exact h'
  ·have h1:=h.1
   have:=Nat.mul_le_mul_right v1 h'
   rw[Nat.mul_comm 1000000000 v1] at this
   omega
 refine h.stop hg ?_
 have:g*v2≤999999999*999999999:=Nat.mul_le_mul (by omega) (by omega)
 omega
theorem BK {U V T3 V2 P ulow vlow g:Nat}(hU:U=T3*P+ulow)(hul:ulow<P)(hV:V=V2*P+vlow)(hvl:vlow<P)(hVB:1000000000*P≤V)(hUV:U<V*1000000000)(hg:g<1000000000)
  (hg1:g*V2≤T3) (hg2:∀ q,q<1000000000→q*V2≤T3→q≤g):g=U / V∨g=U / V+1:=by
 have hV0:0<V:=by
  have:0<P:=by omega
  omega
 have hq1:U / V<1000000000:=Nat.div_lt_of_lt_mul hUV
 have hdm:=Nat.div_add_mod U V
 have hmod:=Nat.mod_lt U hV0
 generalize U / V=q at *
 generalize U % V=r at *
 have hqg:q≤g:=by
  refine hg2 q hq1 ?_
  have h1:q*V2*P<(T3+1)*P:=by
   have h2:q*V2*P≤V*q:=by
    rw[hV,Nat.add_mul,Nat.mul_comm (V2*P) q,← Nat.mul_assoc];exact Nat.le_add_right _ _
   rw[Nat.add_mul,Nat.one_mul]
   omega
  exact Nat.le_of_lt_succ (Nat.lt_of_mul_lt_mul_right h1)
 have hgV:g*V<U+V:=by
  have h1:g*V2*P≤T3*P:=Nat.mul_le_mul_right _ hg1
  have h2:g*vlow≤999999999*P:=Nat.mul_le_mul (by omega) (by omega)
  have h3:g*V=g*V2*P+g*vlow:=by rw[hV,Nat.mul_add,Nat.mul_assoc]
  omega
 rcases Nat.lt_or_ge g (q+2) with h | h
 ·omega
 ·have h1:(q+2)*V≤g*V:=Nat.mul_le_mul_right _ h
  rw[Nat.add_mul,Nat.mul_comm q V] at h1
  omega
def msS (u v g bo:Nat):Nat:=bo+g*v+(999999999 - u)
def msX (u v g bo:Nat):Nat:=999999999 - msS u v g bo % 1000000000
def msB (u v g bo:Nat):Nat:=msS u v g bo / 1000000000
theorem adj {u v g bo:Nat}(hu:u<1000000000):u+msB u v g bo*1000000000=msX u v g bo+bo+g*v:=by
 unfold msX msB
 have h1:msS u v g bo=bo+g*v+(999999999 - u):=rfl
 generalize msS u v g bo=s at *
 generalize g*v=p at *
 omega
theorem H7 (u v g bo:Nat):msX u v g bo<1000000000:=by unfold msX;omega
theorem afE {u v g bo:Nat}(hu:u<1000000000)(hv:v<1000000000)(hb:bo≤g):msB u v g bo≤g:=by
 have h1:=adj (v:=v) (g:=g) (bo:=bo) hu
 have h2:=H7 u v g bo
 have h3:g*v≤g*999999999:=Nat.mul_le_mul_left _ (by omega)
 generalize msB u v g bo=b at *
 generalize msX u v g bo=x at *
 generalize g*v=p at *
 omega
theorem abi {u v g bo p:Nat}(hp:p=g*v)(hu:u<1000000000)(hg:g<1000000000)(hb:bo≤g) :
  (bo+p % 1000000000≤u∧msX u v g bo=u - (bo+p % 1000000000)∧msB u v g bo=p / 1000000000) ∨
  (u<bo+p % 1000000000∧bo+p % 1000000000≤u+1000000000∧msX u v g bo=u+1000000000 - (bo+p % 1000000000)∧msB u v g bo=p / 1000000000+1) ∨
  (u+1000000000<bo+p % 1000000000∧msX u v g bo=u+2000000000 - (bo+p % 1000000000)∧msB u v g bo=p / 1000000000+2):=by
 unfold msX msB
 have h1:msS u v g bo=bo+p+(999999999 - u):=by rw[hp];rfl
 generalize msS u v g bo=s at *
 clear hp
 omega
theorem tF (u:List Nat)(j i x:Nat)(h:j+i<u.length):val (((u.set (j+i) x).drop j).take (i+1))=val ((u.drop j).take i)+x*1000000000 ^ i:=by
 have e:(u.set (j+i) x).drop j=(u.drop j).set i x:=by
  rw[drop_set,if_neg (by omega)]
  congr 1
  omega
 rw[e,cI]
 congr 1
 ·congr 1
  rw[take_set_of_le (by omega)]
 ·congr 1
  unfold at0
  rw[getElem?_set_self (by simp;omega)]
  rfl
theorem gP (u:List Nat)(j i:Nat):val ((u.drop j).take (i+1))=val ((u.drop j).take i)+at0 u (j+i)*1000000000 ^ i:=by
 rw[cI]
 congr 2
 unfold at0
 rw[getElem?_drop]
structure MS (u v c:List Nat) (j g i bo:Nat):Prop where
 len:c.length=u.length
 ok:Dok c
 low:c.take j=u.take j
 high:c.drop (j+i)=u.drop (j+i)
 le:bo≤g
 eq:val ((u.drop j).take i)+bo*1000000000 ^ i=val ((c.drop j).take i)+g*val (v.take i)
theorem MS.init {u v:List Nat}(hu:Dok u)(j g:Nat):MS u v u j g 0 0:=⟨rfl,hu,rfl,rfl,by omega,by simp[Ab.val]⟩
theorem MS.at {u v c:List Nat}{j g i bo:Nat}(h:MS u v c j g i bo):at0 c (j+i)=at0 u (j+i):=by
 have h1:at0 c (j+i)=at0 (c.drop (j+i)) 0:=by simp[at0]
 have h2:at0 u (j+i)=at0 (u.drop (j+i)) 0:=by simp[at0]
 rw[h1,h2,h.high]
theorem MS.step {u v c:List Nat}{j g i bo:Nat}(h:MS u v c j g i bo)(hu:Dok u)(hv:Dok v)(hl:j+i<u.length) :
  MS u v (c.set (j+i) (msX (at0 u (j+i)) (at0 v i) g bo)) j g (i+1) (msB (at0 u (j+i)) (at0 v i) g bo):=by
 have hx:=cF hu (j+i)
 refine⟨by simp[h.len],h.ok.set _ (H7 _ _ _ _),?_,?_,afE hx (cF hv i) h.le,?_⟩
 ·rw[take_set_of_le (by omega),h.low]
 ·rw[show j+(i+1)=j+i+1 by omega,drop_set_of_lt (by omega),← drop_drop,h.high,drop_drop]
 ·have h1:=adj (v:=at0 v i) (g:=g) (bo:=bo) hx
  have h2:=h.eq
  rw[tF _ _ _ _ (by rw[h.len];exact hl),gP,cI]
  generalize at0 u (j+i)=d at *
  generalize at0 v i=e at *
  generalize msX d e g bo=x at *
  generalize msB d e g bo=b at *
  have h3:(d+b*1000000000)*1000000000 ^ i=(x+bo+g*e)*1000000000 ^ i:=by rw[h1]
  rw[Nat.pow_succ,Nat.mul_add,← Nat.mul_assoc g]
  simp only[Nat.add_mul] at h3
  rw[show b*(1000000000 ^ i*1000000000)=b*1000000000*1000000000 ^ i by rw[Nat.mul_comm (1000000000 ^ i),Nat.mul_assoc]]
  omega
structure AB (u v c:List Nat) (j i cy:Nat):Prop where
 len:c.length=u.length
 ok:Dok c
 low:c.take j=u.take j
 high:c.drop (j+i)=u.drop (j+i)
 le:cy≤1
 eq:val ((u.drop j).take i)+val (v.take i)=val ((c.drop j).take i)+cy*1000000000 ^ i
theorem AB.init {u v:List Nat}(hu:Dok u)(j:Nat):AB u v u j 0 0:=⟨rfl,hu,rfl,rfl,by omega,by simp[Ab.val]⟩
theorem AB.at {u v c:List Nat}{j i cy:Nat}(h:AB u v c j i cy):at0 c (j+i)=at0 u (j+i):=by
 have h1:at0 c (j+i)=at0 (c.drop (j+i)) 0:=by simp[at0]
 have h2:at0 u (j+i)=at0 (u.drop (j+i)) 0:=by simp[at0]
 rw[h1,h2,h.high]
theorem AB.step {u v c:List Nat}{j i cy:Nat}(h:AB u v c j i cy)(hu:Dok u)(hv:Dok v)(hl:j+i<u.length) :
  AB u v (c.set (j+i) ((at0 u (j+i)+at0 v i+cy) % 1000000000)) j (i+1) ((at0 u (j+i)+at0 v i+cy) / 1000000000):=by
 have hx:=cF hu (j+i)
 have hy:=cF hv i
 have hc:=h.le
 refine⟨by simp[h.len],h.ok.set _ (Nat.mod_lt _ (by omega)),?_,?_,by omega,?_⟩
 ·rw[take_set_of_le (by omega),h.low]
 ·rw[show j+(i+1)=j+i+1 by omega,drop_set_of_lt (by omega),← drop_drop,h.high,drop_drop]
 ·have h2:=h.eq
  rw[tF _ _ _ _ (by rw[h.len];exact hl),gP,cI]
  generalize at0 u (j+i)=d at *
  generalize at0 v i=e at *
  have h1:d+e+cy=(d+e+cy) % 1000000000+(d+e+cy) / 1000000000*1000000000:=by omega
  generalize (d+e+cy) % 1000000000=x at *
  generalize (d+e+cy) / 1000000000=b at *
  have h3:(d+e+cy)*1000000000 ^ i=(x+b*1000000000)*1000000000 ^ i:=by rw[h1]
  rw[Nat.pow_succ]
  simp only[Nat.add_mul] at h3
  rw[show b*(1000000000 ^ i*1000000000)=b*1000000000*1000000000 ^ i by rw[Nat.mul_comm (1000000000 ^ i),Nat.mul_assoc]]
  omega
theorem Bk {c:List Nat}(h:Dok c)(j n:Nat):val ((c.drop j).take n)<1000000000 ^ n:=by
 refine Nat.lt_of_lt_of_le (fh ((h.drop j).take n)) (Nat.pow_le_pow_right (by omega) ?_)
 rw[length_take];omega
theorem Eu {un Ul R r g V bo Pn:Nat}(hR:R<Pn)(hr:r<Pn)(h1:Ul+bo*Pn=R+g*V)(h2:un*Pn+Ul=g*V+r):bo=un∧R=r:=by
 generalize g*V=p at *
 have h3:un*Pn+R=bo*Pn+r:=by omega
 rcases Nat.lt_trichotomy un bo with h | h | h
 ·have:=Nat.mul_le_mul_right Pn (show un+1≤bo from h)
  rw[Nat.add_mul,Nat.one_mul] at this
  omega
 ·subst h
  exact⟨rfl,by omega⟩
 ·have:=Nat.mul_le_mul_right Pn (show bo+1≤un from h)
  rw[Nat.add_mul,Nat.one_mul] at this
  omega
theorem KQ {un Ul R r q V bo Pn:Nat}(hR:R<Pn)(hr:r<V)(hV:V<Pn)(h1:Ul+bo*Pn=R+(q+1)*V)(h2:un*Pn+Ul=q*V+r):bo=un+1∧R+V=Pn+r:=by
 rw[Nat.add_mul,Nat.one_mul] at h1
 generalize q*V=p at *
 have h3:un*Pn+(R+V)=bo*Pn+r:=by omega
 rcases Nat.lt_trichotomy (un+1) bo with h | h | h
 ·have:=Nat.mul_le_mul_right Pn (show un+2≤bo from h)
  rw[Nat.add_mul] at this
  omega
 ·subst h
  rw[Nat.add_mul,Nat.one_mul] at h3
  exact⟨rfl,by omega⟩
 ·have:=Nat.mul_le_mul_right Pn (show bo≤un by omega)
  omega
theorem agP {R V r R' cy Pn:Nat}(hR:R'<Pn)(hr:r<V)(hV:V<Pn)(h1:R+V=Pn+r)(h2:R+V=R'+cy*Pn)(hc:cy≤1):R'=r:=by
 have:cy=0∨cy=1:=by omega
 rcases this with h | h <;> subst h <;> omega
structure LI (A V n L:Nat) (u q:List Nat) (c:Nat):Prop where
 ul:u.length=L
 uok:Dok u
 lt:val u<V*1000000000 ^ c
 ql:q.length+n=L
 qok:Dok q
 eq:A=V*(1000000000 ^ c*val (q.drop c))+val u
theorem oL (u:List Nat)(j:Nat):val u=val (u.take j)+1000000000 ^ j*val (u.drop j):=by
 rcases Nat.lt_or_ge u.length j with hl | hl
 ·rw[take_of_length_le (Nat.le_of_lt hl),drop_eq_nil_of_le (Nat.le_of_lt hl)];simp[val]
 ·exact lL u _ hl
theorem LI.seg {A V n L:Nat}{u q:List Nat}{j:Nat}(h:LI A V n L u q (j+1))(hV:V<1000000000 ^ n) :
  val u=val (u.take j)+1000000000 ^ j*val ((u.drop j).take (n+1))∧val (u.drop (j+n+1))=0∧val ((u.drop j).take (n+1))<V*1000000000:=by
 have h1:=oL u (j+n+1)
 have h2:val u<1000000000 ^ (j+n+1):=by
  refine Nat.lt_of_lt_of_le h.lt (?_:V*1000000000 ^ (j+1)≤1000000000 ^ (j+n+1))
  rw[show j+n+1=n+(j+1) from (Nat.add_right_comm j n 1).trans (Nat.add_comm _ _),Nat.pow_add 1000000000 n (j+1)]
  exact Nat.mul_le_mul_right _ (Nat.le_of_lt hV)
 have h3:val (u.drop (j+n+1))=0:=by
  rcases Nat.eq_zero_or_pos (val (u.drop (j+n+1))) with h | h
  ·exact h
  ·have h0:=Nat.mul_le_mul_left (1000000000 ^ (j+n+1)) h
   rw[Nat.mul_one] at h0
   exact absurd (Nat.le_trans h0 (Nat.le_trans (Nat.le_add_left _ _) (Nat.le_of_eq h1.symm))) (Nat.not_le_of_lt h2)
 have h4:=oL u j
 have h5:val (u.drop j)=val ((u.drop j).take (n+1)):=by
  have:=oL (u.drop j) (n+1)
  rw[drop_drop,← Nat.add_assoc,h3,Nat.mul_zero,Nat.add_zero] at this
  exact this
 rw[h5] at h4
 refine⟨h4,h3,?_⟩
 have h6:=h.lt
 rw[h4,Nat.pow_succ,Nat.mul_comm (1000000000 ^ j) 1000000000,← Nat.mul_assoc] at h6
 have h7:val ((u.drop j).take (n+1))*1000000000 ^ j<V*1000000000*1000000000 ^ j:=by
  rw[Nat.mul_comm (val _)]
  exact Nat.lt_of_le_of_lt (Nat.le_add_left _ _) h6
 exact Nat.lt_of_mul_lt_mul_right h7
theorem LI.next {A V n L:Nat}{u q u':List Nat}{j:Nat}(h:LI A V n L u q (j+1))(hV:V<1000000000 ^ n)(hV0:0<V)(hl:j+n<L)(hl':u'.length=L)(hok:Dok u')(hlow:u'.take j=u.take j)(hhigh:u'.drop (j+n+1)=u.drop (j+n+1))
  (htop:at0 u' (j+n)=0) (hseg:val ((u'.drop j).take n)=val ((u.drop j).take (n+1)) % V) (hd:val ((u.drop j).take (n+1)) / V<1000000000) :
  LI A V n L u' (q.set j (val ((u.drop j).take (n+1)) / V)) j:=by
 obtain⟨h1,h2,h3⟩:=h.seg hV
 have e1:val u'=val (u.take j)+1000000000 ^ j*(val ((u.drop j).take (n+1)) % V):=by
  rw[lL u' j (by omega),hlow]
  congr 2
  have h4:n≤(u'.drop j).length:=by rw[length_drop];omega
  rw[lL (u'.drop j) n h4,hseg,drop_drop]
  have h5:val (u'.drop (j+n))=0:=by
   rw[iM u' (j+n) (by omega),htop,hhigh,h2]
  rw[h5];simp
 have hdm:=Nat.div_add_mod (val ((u.drop j).take (n+1))) V
 have hm:=Nat.mod_lt (val ((u.drop j).take (n+1))) hV0
 have hq:=h.ql
 generalize val ((u.drop j).take (n+1)) / V=d at *
 generalize val ((u.drop j).take (n+1)) % V=r at *
 generalize val ((u.drop j).take (n+1))=U at *
 have hlo:val (u.take j)<1000000000 ^ j:=by
  refine Nat.lt_of_lt_of_le (fh (h.uok.take j)) (Nat.pow_le_pow_right (by omega) ?_)
  rw[length_take];omega
 refine⟨hl',hok,?_,by simp;omega,h.qok.set _ hd,?_⟩
 ·rw[e1]
  have h5:1000000000 ^ j*(r+1)≤1000000000 ^ j*V:=Nat.mul_le_mul_left _ hm
  rw[Nat.mul_add,Nat.mul_one] at h5
  rw[Nat.mul_comm V]
  clear e1 h1 h2 h3 h
  generalize 1000000000 ^ j*V=a1 at *
  generalize 1000000000 ^ j*r=a2 at *
  generalize 1000000000 ^ j=a3 at *
  omega
 ·rw[h.eq,e1,h1,lE (by omega),val]
  generalize val (u.take j)=lo at *
  generalize val (q.drop (j+1))=X at *
  rw[Nat.pow_succ]
  clear h h1 h2 h3 hlow hhigh htop hlo e1 hV
  generalize 1000000000 ^ j=Pj at *
  subst hdm
  have a1:Pj*(V*d+r)=V*(Pj*d)+Pj*r:=by
   rw[Nat.mul_add,← Nat.mul_assoc,Nat.mul_comm Pj V,Nat.mul_assoc]
  have a2:V*(Pj*(d+1000000000*X))=V*(Pj*d)+V*(Pj*1000000000*X):=by
   rw[Nat.mul_add Pj,Nat.mul_add V,Nat.mul_assoc Pj]
  rw[a1,a2]
  omega
theorem LI.init {a b k n la:Nat}{u:List Nat}(hu:val u=k*a)(hok:Dok u)(hl:u.length=la+1)(ha:a<1000000000 ^ la)(hb:1000000000 ^ n≤b*1000000000)(hk:0<k)(hn:n≤la+1) :
  LI (k*a) (k*b) n (la+1) u (List.replicate (la+1 - n) 0) (la+1 - n):=by
 refine⟨hl,hok,?_,by simp;omega,Dok.JH _,?_⟩
 ·rw[hu,Nat.mul_assoc]
  refine Nat.mul_lt_mul_of_pos_left ?_ hk
  refine Nat.lt_of_mul_lt_mul_right (a:=1000000000) ?_
  rw[Nat.mul_right_comm]
  refine Nat.lt_of_lt_of_le ?_ (Nat.mul_le_mul_right _ hb)
  rw[← Nat.pow_add,show n+(la+1 - n)=la+1 by omega,Nat.pow_succ]
  exact Nat.mul_lt_mul_of_pos_right ha (by omega)
 ·rw[drop_eq_nil_of_le (by simp),hu];simp[val]
theorem LI.done {a b k n L:Nat}{u q:List Nat}(h:LI (k*a) (k*b) n L u q 0)(hk:0<k)(hb:0<b):val q=a / b∧val u=k*(a % b):=by
 have h1:=h.eq
 have h2:=h.lt
 simp only[Nat.pow_zero,Nat.mul_one,Nat.one_mul,drop_zero] at h1 h2
 have hkb:0<k*b:=Nat.mul_pos hk hb
 constructor
 ·rw[← Nat.mul_div_mul_left a b hk,h1,Nat.mul_add_div hkb,Nat.div_eq_of_lt h2,Nat.add_zero]
 ·rw[← Nat.mul_mod_mul_left,h1,Nat.mul_add_mod,Nat.mod_eq_of_lt h2]
theorem MN {t k:Nat}(ht:0<t)(ht2:t<1000000000)(hk:k=1000000000 / (t+1)):0<k∧k<1000000000∧k*(t+1)≤1000000000∧1000000000≤2*(k*t):=by
 have h1:=Nat.div_mul_le_self 1000000000 (t+1)
 have h2:=Nat.div_add_mod 1000000000 (t+1)
 have h3:=Nat.mod_lt 1000000000 (show 0<t+1 by omega)
 have h4:0<k:=by rw[hk];exact Nat.div_pos (by omega) (by omega)
 have h5:k<1000000000:=by rw[hk];exact Nat.div_lt_self (by omega) (by omega)
 rw[← hk] at h1 h2
 refine⟨h4,h5,h1,?_⟩
 rcases Nat.lt_or_ge t 500000000 with h | h
 ·
  have e1:k*(t+1)=k*t+k:=by rw[Nat.mul_add,Nat.mul_one]
  have e2:(t+1)*k=k*t+k:=by rw[Nat.mul_comm,e1]
  rw[e2] at h2
  rcases Nat.lt_or_ge t 2 with ht1 | ht1
  ·have:t=1:=by omega
   subst this
   omega
  ·have h6:k≤333333333:=by
    have:k*3≤k*(t+1):=Nat.mul_le_mul_left _ (by omega)
    omega
   rcases Nat.lt_or_ge t 160000000 with h7 | h7
   ·omega
   ·have h8:k*160000001≤k*(t+1):=Nat.mul_le_mul_left _ (by omega)
    have h9:k≤6:=by omega
    have h10:1*t≤k*t:=Nat.mul_le_mul_right _ h4
    have:k=1∨k=2∨k=3∨k=4∨k=5∨k=6:=by omega
    rcases this with e | e | e | e | e | e <;> subst e <;> omega
 ·have:=Nat.mul_le_mul_right t (show 1≤k from h4)
  omega
theorem de (l:List Nat)(i:Nat)(h:i<l.length):(br (l.map dg) i).head?=some (.sc (.int .u32 (at0 l i:Int))):=by
 rw[ff l i h,dm h];rfl
theorem fI (z:Int)(h : -9223372036854775808≤z)(h2:z≤9223372036854775807):bE .i64 z=z:=by
 unfold bE
 have h1:decide (loK .i64≤z)=true:=decide_eq_true (by simp only[loK];omega)
 have h2:decide (z≤hiK .i64)=true:=decide_eq_true (by simp only[hiK];omega)
 rw[h1,h2];rfl
theorem CH (u:List Nat)(j m:Nat):val ((u.drop j).take (m+3))=((at0 u (j+m+2)*1000000000+at0 u (j+m+1))*1000000000+at0 u (j+m))*1000000000 ^ m+val ((u.drop j).take m):=by
 rw[gP u j (m+2),gP u j (m+1),gP u j m]
 rw[show j+(m+2)=j+m+2 by omega,show j+(m+1)=j+m+1 by omega]
 simp only[Nat.pow_succ]
 generalize 1000000000 ^ m=P
 grind
theorem qA (v:List Nat)(m:Nat)(h:v.length=m+2):val v=(at0 v (m+1)*1000000000+at0 v m)*1000000000 ^ m+val (v.take m):=by
 have e:val v=val (v.take (m+2)):=by rw[cL _ _ (by omega)]
 rw[e,cI v (m+1),cI v m,Nat.pow_succ]
 generalize 1000000000 ^ m=P
 grind
theorem vn {c:List Nat}(h:Dok c)(n:Nat):val (c.take n)<1000000000 ^ n:=by
 have:=Bk h 0 n
 simpa using this
theorem U8 {top u2 v1 v2 U ul vl V P:Nat}(h1:U=(top*1000000000+u2)*P+ul)(h2:V=(v1*1000000000+v2)*P+vl)(h3:vl<P)(h4:v2<1000000000)(hlt:U<V*1000000000):top≤v1*1000000000+999999999:=by
 have h5:V<(v1+1)*1000000000*P:=by
  have:(v1*1000000000+v2+1)*P≤(v1+1)*1000000000*P:=Nat.mul_le_mul_right _ (by omega)
  rw[Nat.add_mul _ 1,Nat.one_mul] at this
  omega
 have h6:top*1000000000*P≤U:=by
  rw[h1,Nat.add_mul]
  omega
 have h7:top*(1000000000*P)<(v1+1)*1000000000*(1000000000*P):=by
  rw[← Nat.mul_assoc]
  refine Nat.lt_of_le_of_lt h6 (Nat.lt_trans hlt ?_)
  have:V*1000000000<(v1+1)*1000000000*P*1000000000:=Nat.mul_lt_mul_of_pos_right h5 (by omega)
  rw[Nat.mul_assoc _ P,Nat.mul_comm P] at this
  exact this
 have h8:=Nat.lt_of_mul_lt_mul_right h7
 omega
theorem OK {u v:List Nat}{j m:Nat}(hv:Dok v)(hvl:v.length=m+2)(hlt:val ((u.drop j).take (m+3))<val v*1000000000) :
  at0 u (j+m+2)*1000000000+at0 u (j+m+1)≤at0 v (m+1)*1000000000+999999999 :=
 U8 (CH u j m) (qA v m hvl) (vn hv m) (cF hv m) hlt
theorem OL {u v:List Nat}{j m g:Nat}(hu:Dok u)(hv:Dok v)(hvl:v.length=m+2)(hv1:0<at0 v (m+1))(hlt:val ((u.drop j).take (m+3))<val v*1000000000)
  (hg:GF (at0 u (j+m+2)*1000000000+at0 u (j+m+1)) (at0 v (m+1)) (at0 v m) (at0 u (j+m)) g) :
  g=val ((u.drop j).take (m+3)) / val v∨g=val ((u.drop j).take (m+3)) / val v+1:=by
 refine BK (CH u j m) (Bk hu j m) (qA v m hvl) (vn hv m) ?_ hlt hg.1 hg.2.1 hg.2.2
 rw[qA v m hvl]
 have:1000000000*1000000000 ^ m≤(at0 v (m+1)*1000000000+at0 v m)*1000000000 ^ m:=Nat.mul_le_mul_right _ (by omega)
 omega
theorem GI.le {top v1 v2 u2:Nat}(h5:500000000≤v1)(ht:top≤v1*1000000000+999999999):top / v1≤1000000001:=by
 have h1:top / v1*v1≤top:=Nat.div_mul_le_self _ _
 rcases Nat.lt_or_ge 1000000001 (top / v1) with h | h
 ·have:=Nat.mul_le_mul_right v1 (show 1000000002≤top / v1 from h)
  omega
 ·exact h
theorem dU.ajQ {b:Nat}{hp:List Blk}{l:List Nat}{p:PV}(h:dU b hp l p)(a:Nat)(hl:l.length<100000000) :
  ∃ id hp' fp,cJ hp 1 p 1 [dg a]=some (.own id 1 0 (l.length+1) false,hp',fp)∧aY hp' id=some ⟨.live,(l++[a]).map dg⟩:=by
 obtain⟨hb,h⟩:=h
 rcases h with ⟨rfl,rfl⟩| ⟨id,m,hid,hid2,rfl,h⟩
 ·refine⟨hp.length,aM hp [dg a],⟨[],[hp.length],true,false⟩,by simp[cJ,cS],?_⟩
  rw[bK,if_pos rfl];rfl
 ·have ht:bF (br ((l++m).map dg) 0) (l.length*1)=some (l.map dg):=by
   rw[cA,dh (by simp)]
   simp
  refine⟨hp.length,aM (bZ hp id ⟨.dead,[]⟩) (l.map dg++[dg a]),⟨[],[id,hp.length],true,false⟩,?_,?_⟩
  ·simp only[cJ,h]
   rw[ht]
   simp[cS]
   omega
  ·rw[bK,bL,if_pos rfl];simp
theorem JS {b:List Nat}{n1:Nat}(ht:Top b)(hn:b.length=n1+1):0<at0 b n1:=by
 obtain⟨m,a,e,hm⟩:=Bg hn
 have h1:=ht m a e
 subst e
 have:at0 (m++[a]) n1=a:=by
  unfold at0
  rw[getElem?_append_right (by omega),hm,Nat.sub_self]
  rfl
 rw[this]
 omega
theorem CE (b:List Nat)(n1:Nat)(hn:b.length=n1+1):val b=at0 b n1*1000000000 ^ n1+val (b.take n1):=by
 have e:val b=val (b.take (n1+1)):=by rw[cL _ _ (by omega)]
 rw[e,cI]
 omega
theorem MO {b:List Nat}{n1 k:Nat}(hb:Dok b)(ht:Top b)(hn:b.length=n1+1)(hk:k=1000000000 / (at0 b n1+1)) :
  0<k∧k<1000000000∧1000000000 ^ (n1+1)≤val b*1000000000∧val b*k<1000000000 ^ (n1+1)∧(aK (val b*k)).length=n1+1∧500000000≤at0 (aK (val b*k)) n1:=by
 obtain⟨s1,s2,s3,s4⟩:=MN (JS ht hn) (cF hb n1) hk
 have hlow:=vn hb n1
 have hv:=CE b n1 hn
 have h0:=JS ht hn
 have hd:=cb (val b*k)
 have hvd:=cj (val b*k)
 have hpow:(1000000000:Nat) ^ (n1+1)=1000000000 ^ n1*1000000000:=Nat.pow_succ ..
 clear hk
 generalize at0 b n1=t at *
 generalize val (b.take n1)=low at *
 generalize val b=V at *
 have hP:0<1000000000 ^ n1:=Nat.pow_pos (by omega)
 have e1:1000000000 ^ n1≤t*1000000000 ^ n1:=Nat.le_mul_of_pos_left _ h0
 have e2:V*k<1000000000 ^ (n1+1):=by
  have h1:V<(t+1)*1000000000 ^ n1:=by rw[Nat.add_mul,Nat.one_mul];omega
  have h2:V*k<(t+1)*1000000000 ^ n1*k:=Nat.mul_lt_mul_of_pos_right h1 s1
  have h3:(t+1)*1000000000 ^ n1*k=k*(t+1)*1000000000 ^ n1:=by rw[Nat.mul_comm _ k,Nat.mul_assoc]
  have h4:k*(t+1)*1000000000 ^ n1≤1000000000*1000000000 ^ n1:=Nat.mul_le_mul_right _ s3
  rw[hpow,Nat.mul_comm _ 1000000000]
  omega
 have e3:k*t*1000000000 ^ n1≤V*k:=by
  rw[hv,Nat.add_mul,Nat.mul_comm k t,Nat.mul_right_comm]
  omega
 have e4:500000000*1000000000 ^ n1≤V*k:=Nat.le_trans (Nat.mul_le_mul_right _ (by omega)) e3
 have e5:(aK (V*k)).length=n1+1:=by
  refine Nat.le_antisymm (du e2) ?_
  rcases Nat.lt_or_ge n1 (aK (V*k)).length with h | h
  ·exact h
  ·exfalso
   have h1:=fL (V*k)
   have h2:(1000000000:Nat) ^ (aK (V*k)).length≤1000000000 ^ n1:=Nat.pow_le_pow_right (by omega) h
   omega
 refine⟨s1,s2,?_,e2,e5,?_⟩
 ·rw[hpow]
  exact Nat.mul_le_mul_right _ (by omega)
 ·have h1:=CE _ n1 e5
  rw[hvd] at h1
  have h2:=vn hd n1
  rcases Nat.lt_or_ge (at0 (aK (V*k)) n1) 500000000 with h | h
  ·exfalso
   have h3:(at0 (aK (V*k)) n1+1)*1000000000 ^ n1≤500000000*1000000000 ^ n1:=Nat.mul_le_mul_right _ h
   rw[Nat.add_mul,Nat.one_mul] at h3
   omega
  ·exact h
theorem vV {u:List Nat}{n:Nat}(h:val u<1000000000 ^ n):val (u.take n)=val u:=by
 have h1:=oL u n
 rcases Nat.eq_zero_or_pos (val (u.drop n)) with h2 | h2
 ·rw[h2] at h1;omega
 ·have:1000000000 ^ n≤1000000000 ^ n*val (u.drop n):=Nat.le_mul_of_pos_right _ h2
  omega
end Go.Ab
end
