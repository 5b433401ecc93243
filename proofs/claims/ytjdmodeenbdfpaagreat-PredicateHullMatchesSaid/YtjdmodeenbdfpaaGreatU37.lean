/- Contracts of fractions, clouds and predicates, part 37; each lemma states its conditions. -/
import Derived.Test.YtjdmodeenbdfpaaGreatU36
set_option linter.unusedSimpArgs false
set_option linter.unusedVariables false
noncomputable section
namespace Go.Proofs.YtjdmodeenbdfpaaGreat
open Go Go.Ab List Tryz
attribute [local simp] FzZ aC aD aF aG aH aM aV aX aY aa ab ae af ag ah ai aj an aq ar au aw b9 bH bM bN ba bd bf bg bj bp bz cF cf cl partOf sD sR uD uW undef wf0 wf1 wxC zR
variable(L:Lst)(run:av)(k:Nat)(fr:Ψ)(hp:Θ)(wr:Ω)
theorem CS:∀ {ds:Ω},Dok ds→T.val (ds.flatMap (T.db 9))=val ds
 | [],_=>rfl
 | a::l,h=>by
  have h1:T.val (T.db 9 a)=a:=T.fj 9 a (Nat.lt_of_lt_of_le h.head (by decide))
  rw[flatMap_cons,T.gZ,h1,T.dq,CS h.tail]
  rfl
theorem Lb:∀ (ds:Ω),T.Dok (ds.flatMap (T.db 9))
 | []=>T.Dok.nil
 | a::l=>by rw[flatMap_cons];exact (T.gn 9 a).append (Lb l)
theorem zj {F:Ω}(h:∀ m,m<F.length→at0 F m=0):T.val F=0:=by
 have:F=List.replicate F.length 0:=Cb (by simp) fun m hm=>by rw[h m hm,de (by simpa using hm)];simp
 rw[this,T.oy]
theorem QQ {F:Ω}(h:T.val F≠0):∃ m,m<F.length∧at0 F m≠0:=by
 apply Classical.byContradiction
 intro hn
 refine h (zj fun m hm => ?_)
 apply Classical.byContradiction
 intro he
 exact hn ⟨m,hm,he⟩
theorem adm (F:Ω)(m:Nat)(h:m<F.length):at0 (F.map (· + 48)) m=at0 F m+48:=by
 rw[de (by simpa using h),de h];simp
theorem Mw {F:Ω}(hF:T.Dok F){c:Nat}(hc:c<F.length)(h1:at0 F c≠0)(h2:∀ j,c<j→j<F.length→at0 F j=0):F.take (c+1)=T.aJ (T.val F):=by
 have e:=(take_append_drop (c+1) F)
 have hz:T.val (F.drop (c+1))=0:=zj fun m hm=>by
  have:at0 (F.drop (c+1)) m=at0 F (c+1+m):=by unfold at0;rw[getElem?_drop]
  rw[this]
  rw[length_drop] at hm
  exact h2 _ (by omega) (by omega)
 have hv:T.val F=T.val (F.take (c+1)):=by
  conv=>lhs;rw[← e]
  rw[T.gZ,hz,Nat.mul_zero,Nat.add_zero]
 rw[hv]
 refine (T.ke (hF.take _) ?_).symm
 intro m a ea
 have hl:=congrArg List.length ea
 rw[length_take,Nat.min_eq_left (by omega),length_append] at hl
 simp only[length_cons,length_nil] at hl
 have h3:at0 (F.take (c+1)) c=a:=by
  rw[ea];unfold at0
  rw[getElem?_append_right (by omega)]
  have:c - m.length=0:=by omega
  rw[this];rfl
 have h4:at0 (F.take (c+1)) c=at0 F c:=by unfold at0;rw[getElem?_take_of_lt (by omega)]
 rw[← h3,h4]
 exact h1
def Ys:Code:=seq1 (seq1 (ai 3 wxC))
def J8:Code:=seq1 (seq1 (ai 6 wxC))
theorem ad6:ai 3 wxC = .seq (.seq Ys (.block 0 (.loop wxO))) (ai 4 wxC):=rfl
theorem ad5:ai 4 wxC = .seq (.block 4 (.loop wxT)) (ai 5 wxC):=rfl
theorem ad4:ai 5 wxC = .seq wxN (ai 6 wxC):=rfl
theorem ad3:ai 6 wxC = .seq (.seq J8 (.block 6 (.loop wxS))) (ai 7 wxC):=rfl
theorem Yo(m:Bool):∃ st,ae (CC L) run k wxC ⟨entry 81 [.agg [.sc (.bool m),aL []]],[],[]⟩=some (.ret,st)∧aY TT st.fr st.hp f98.results.toList=some [zs 0]:=by
 obtain⟨e1,e2⟩:=cV 80 (.agg [.sc (.bool m),aL []])
 generalize entry 81 [.agg [.sc (.bool m),aL []]]=fr0 at *
 have hz:zs 0 = .sc (.string { data:=#[48] }):=rfl
 rw[hz]
 simp[f98,e1,e2]
theorem ad9 (L:Lst)(run:av)(k:Nat)(m:Bool)(l:Ω)(hl:l≠[]) :
  ∃ fr wr,bh (CC L) run k 2 wxC ⟨entry 81 [.agg [.sc (.bool m),aL l]],[],[]⟩=some ⟨fr,[⟨.live,[.sc (.bool m),aL l]⟩],wr⟩∧fr.length=81∧nth fr 1 = .ptr 0 0:=by
 obtain⟨e1,e2⟩:=cV 80 (.agg [.sc (.bool m),aL l])
 generalize entry 81 [.agg [.sc (.bool m),aL l]]=fr0 at *
 have hl0:((l.length:Int) == 0)=false:=by
  rw[beq_eq_false_iff_ne]
  have:l.length≠0:=fun e=>hl (length_eq_zero_iff.1 e)
  omega
 simp[f98,bh,e1,e2,and_assoc,hl0]
def aea:Code:=seq1 (ai 2 wxC)
theorem ad7:ai 2 wxC = .seq aea (ai 3 wxC):=rfl
theorem ahq (L:Lst)(run:av)(k:Nat)(fr:Ψ)(b:Blk)(wr:Ω)(m:Bool)(l:Ω)(c:Nat)(hb:b=⟨.live,[.sc (.bool m),aL l]⟩)(hw1:bB .i64 (9*(l.length:Int))=(c:Int))(hw2:bB .i64 ((c:Int)+1)=(c:Int)+1)(hm2:c+1≤cW)(h0:fr.length=81)(h1:nth fr 1 = .ptr 0 0) :
  ∃ fr' wr',ae (CC L) run k aea ⟨fr,[b],wr⟩=some (.normal,⟨fr',[b,⟨.live,[]⟩],wr'⟩)∧fr'.length=81∧nth fr' 1 = .ptr 0 0∧nth fr' 3 = .own 1 1 0 0 false:=by
 subst hb
 simp[aea,seq1,f98,h0,h1,jQ,je,and_assoc,hw1,hw2,hm2,qp,sU8,bU8,zU8,bZ,rep]
theorem ahp(m:Bool)(l:Ω)(h0:fr.length=81)(h1:nth fr 1 = .ptr 0 0)(hb:aX hp 0=some ⟨.live,[.sc (.bool m),aL l]⟩) :
  ∃ fr',ae (CC L) run k Ys ⟨fr,hp,wr⟩=some (.normal,⟨fr',hp,wr⟩)∧WF fr' l 0∧nth fr' 3=nth fr 3:=by
 simp[WF,iv,Ys,seq1,f98,h0,h1,hb,and_assoc]
theorem ad8(n:Nat)(hn9:n<100000000)(h0:fr.length=81)(h3:dc (nth fr 3)=some n) :
  ∃ fr',ae (CC L) run k J8 ⟨fr,hp,wr⟩=some (.normal,⟨fr',hp,wr⟩)∧fr'.length=81∧nth fr' 3=nth fr 3∧nth fr' 6=iv 0∧nth fr' 7 = .sc (.int .i64 ((n:Int) - 1)):=by
 have hw:=cM n (by omega)
 simp[iv,J8,seq1,f98,h0,h3,qp,hw]
theorem Yp(l:Ω)(hl:Bok l)(h0:fr.length=81)(hO:dw u8v 1 hp l (nth fr 3)) :
  ∃ st,ae (CC L) run k (ai 7 wxC) ⟨fr,hp,wr⟩=some (.ret,st)∧aY TT st.fr st.hp f98.results.toList=some [.sc (.string (tx l))]:=by
 obtain⟨ids,h1⟩:=hO.s.rd
 have h2:=FW hl
 have hcv:dF TT hp 43 94 (nth fr 3)=some (.sc (.string (tx l)),ids):=by
  have h3:tx l=mkStr (l.map UInt8.ofNat):=rfl
  rw[h3]
  obtain⟨-,h⟩:=hO
  rcases h with ⟨rfl,h⟩| ⟨id,m,-,-,h,-⟩
  ·rw[h] at h1 ⊢
   simp only[dF,qp,uAI,u8T,h1,h2]
  ·rw[h] at h1 ⊢
   simp only[dF,qp,uAI,u8T,h1,h2]
 simp[f98,h0,hcv]
theorem CI (L:Lst)(run:av)(k:Nat)(l z:Ω)(id n:Nat)(hn9:n<100000000)(hn:l.length=n):∀ (d i:Nat) (fr:Ψ) (hp:Θ) (wr cur:Ω),i+d=n / 2→cur.length=n→id<hp.length→aX hp id=some ⟨.live,(cur++z).map u8v⟩ →
  (∀ m,m<n→at0 cur m=if m<i∨n - i≤m then at0 l (n - 1 - m) else at0 l m)→fr.length=81→nth fr 3 = .own id 1 0 n false→nth fr 6=iv i→nth fr 7 = .sc (.int .i64 ((n:Int) - 1 - i)) →
  ∃ (fr':Ψ) (hp':Θ) (wr':Ω),cg (ae (CC L) run k wxS) (d+1) ⟨fr,hp,wr⟩=some (.exit 6,⟨fr',hp',wr'⟩)∧fr'.length=81∧nth fr' 3 = .own id 1 0 n false∧id<hp'.length∧aX hp' id=some ⟨.live,(l.reverse++z).map u8v⟩
 | 0,i,fr,hp,wr,cur,hd,hc,hid,hb,hI,h0,h3,h6,h7=>by
  obtain⟨fr',g1,g2,g3⟩:=Yr L run k fr hp wr i (n - i) (by omega) h0 h6 (by rw[h7];congr 2;omega)
  have e:cur=l.reverse:=Cb (by simp[hc,hn]) fun m hm=>by
   rw[hc] at hm
   rw[hI m hm,LZ l m (by omega),hn]
   by_cases h1:m<i∨n - i≤m
   ·rw[if_pos h1]
   ·rw[if_neg h1]
    congr 1
    omega
  refine⟨fr',hp,wr,br g1,g2,by rw[g3,h3],hid,?_⟩
  rw[← e];exact hb
 | d+1,i,fr,hp,wr,cur,hd,hc,hid,hb,hI,h0,h3,h6,h7=>by
  obtain⟨j,hj⟩:∃ j,n=i+j+1:=⟨n - i - 1,by omega⟩
  have hij:i<j:=by omega
  obtain⟨fr1,wr1,g1,g2,g3,g4,g5⟩:=Mj L run k fr hp wr (cur++z) id n i j hn9 (by simp;omega) hb hij (by omega) h0 h3 h6 (by rw[h7];congr 2;omega)
  have ha:at0 (cur++z) i=at0 cur i:=by unfold at0;rw[getElem?_append_left (by omega)]
  have hb':at0 (cur++z) j=at0 cur j:=by unfold at0;rw[getElem?_append_left (by omega)]
  have e1:((cur++z).set i (at0 cur j)).set j (at0 cur i)=((cur.set i (at0 cur j)).set j (at0 cur i))++z:=by
   rw[set_append_left _ _ (by omega),set_append_left _ _ (by rw[length_set];omega)]
  rw[ha,hb',e1] at g1
  have hb1:aX (cF (cF hp id ⟨.live,((cur++z).set i (at0 cur j)).map u8v⟩) id ⟨.live,(((cur.set i (at0 cur j)).set j (at0 cur i))++z).map u8v⟩) id=some ⟨.live,(((cur.set i (at0 cur j)).set j (at0 cur i))++z).map u8v⟩:=by
   rw[cN (b0:=⟨.live,((cur++z).set i (at0 cur j)).map u8v⟩) (by rw[cN hb,if_pos rfl]),if_pos rfl]
  have hai:=hI i (by omega)
  have haj:=hI j (by omega)
  rw[if_neg (by omega)] at hai haj
  obtain⟨fr',hp',wr',q1,q2⟩:=CI L run k l z id n hn9 hn d (i+1) fr1 _ wr1 ((cur.set i (at0 cur j)).set j (at0 cur i)) (by omega) (by simp[hc]) (by rw[bQ,bQ];exact hid) hb1
   (fun m hm=>by
    rw[mM _ _ _ _ (by rw[length_set];omega),mM _ _ _ _ (by omega)]
    by_cases e2:m=j
    ·rw[if_pos e2,hai,if_pos (by omega)]
     congr 1
     omega
    ·rw[if_neg e2]
     by_cases e3:m=i
     ·rw[if_pos e3,haj,if_pos (by omega)]
      congr 1
      omega
     ·rw[if_neg e3,hI m hm]
      by_cases e4:m<i∨n - i≤m
      ·rw[if_pos e4,if_pos (by omega)]
      ·rw[if_neg e4,if_neg (by omega)]) g2 g3 g4 (by rw[g5];congr 2;omega)
  exact⟨fr',hp',wr',by rw[bU g1];exact q1,q2⟩
theorem Mv(z:Int)(hz:z≠0)(h9:(aJ z.natAbs).length<1000000)(hk:9*(aJ z.natAbs).length+20≤k) :
  ∃ st,ae (CC L) run k wxC ⟨entry 81 [bt z],[],[]⟩=some (.ret,st)∧aY TT st.fr st.hp f98.results.toList=some [zs z]:=by
 have hne:aJ z.natAbs≠[]:=fun e=>hz (by have:=yg e;omega)
 have hv:val (aJ z.natAbs)=z.natAbs:=bX _
 have hok:=bV z.natAbs
 have hm:∃ m,m=bw z:=⟨_,rfl⟩
 obtain⟨m,hm⟩:=hm
 have hz2:=ie z
 rw[← hm] at hz2
 show ∃ st,ae (CC L) run k wxC ⟨entry 81 [.agg [.sc (.bool (bw z)),aL (aJ z.natAbs)]],[],[]⟩=some (.ret,st)∧_
 rw[← hm]
 have hz3:z.natAbs≠0:=by omega
 generalize aJ z.natAbs=ds at *
 obtain⟨fra,wra,z1,z2,z3⟩:=ad9 L run k m ds hne
 rw[aU 2 z1,ad7]
 obtain⟨fr,wr,a1,a2,a3,a4⟩:=ahq L run k fra _ wra m ds (9*ds.length) rfl (by rw[show 9*(ds.length:Int)=((9*ds.length:Nat):Int) by omega];exact cp .i64 _ (hiI (Nat.le_trans (show 9*ds.length≤9000000 by omega) (by decide)))) (bE _ (Nat.lt_of_le_of_lt (show 9*ds.length≤9000000 by omega) (by decide))) (Nat.le_trans (show 9*ds.length+1≤9000001 by omega) (by decide)) z2 z3
 rw[ao a1,ad6]
 obtain⟨fr1,b1,b2,b3⟩:=ahp L run k fr [⟨.live,[.sc (.bool m),aL ds]⟩,⟨.live,[]⟩] wr m ds a2 a3 rfl
 have hO:dw u8v 1 [⟨.live,[.sc (.bool m),aL ds]⟩,⟨.live,[]⟩] [] (nth fr1 3):=by
  rw[b3,a4]
  exact⟨by simp,.inr ⟨1,[],by simp,by simp,rfl,rfl⟩⟩
 obtain⟨fr2,hp2,wr2,c1,c2,c3,c4⟩:=CJ L run k (by omega) ds hok h9 ds.length 0 fr1 _ wr [] (by omega) rfl b2 hO
 have hgo:=bD (i:=0) (bG c1 (show ds.length+1≤k by omega))
 have hA:ae (CC L) run k (.seq Ys (.block 0 (.loop wxO))) ⟨fr,[⟨.live,[.sc (.bool m),aL ds]⟩,⟨.live,[]⟩],wr⟩=some (.normal,⟨fr2,hp2,wr2⟩):=by
  rw[ao b1];exact hgo
 rw[ao hA,ad5]
 obtain⟨h0,h1,-⟩:=c2
 rw[nil_append,drop_zero] at c3
 have hF:=Lb ds
 have hFv:=CS hok
 have hFl:(ds.flatMap (T.db 9)).length=9*ds.length:=by
  have:=(Sc1.ec iX)
  rw[length_flatMap]
  simp only[T.dq]
  rw[map_const',sum_replicate_nat,Nat.mul_comm]
 generalize ds.flatMap (T.db 9)=F at *
 obtain⟨-,hO2⟩:=c3
 rcases hO2 with ⟨e,-⟩| ⟨id,mm,i1,i2,i3,i4⟩
 ·have:F.length=0:=by have:=congrArg List.length e;simpa using this
  have:ds.length≠0:=fun e=>hne (length_eq_zero_iff.1 e)
  omega
 ·have hdl:ds.length≠0:=fun e=>hne (length_eq_zero_iff.1 e)
  rw[length_map] at i3
  obtain⟨n,hn⟩:∃ n,F.length=n+1:=⟨F.length - 1,by omega⟩
  obtain⟨p,hp1,hp2'⟩:=QQ (F:=F) (by rw[hFv,hv];exact hz3)
  have at_lz:∀ j,j<F.length→at0 (F.map (· + 48)++mm) j=at0 F j+48:=fun j hj=>by
   rw[← adm F j hj]
   unfold at0
   rw[getElem?_append_left (by simpa using hj)]
  rw[hn] at i3
  obtain⟨fr3,c,s1,s2,s3,s4,s5,s6,s7⟩:=CH L run k hp2 wr2 (F.map (· + 48)++mm) id i4 n fr2 (by simp;omega) (by omega) ⟨p,by omega,by rw[at_lz p hp1];omega⟩ h0 h1 i3
  rw[ao (bD (i:=4) (bG s1 (show n+1≤k by omega))),ad4]
  have hcF:c<F.length:=by omega
  have hT:F.take (c+1)=T.aJ z.natAbs:=by
   rw[← hv,← hFv]
   refine Mw hF hcF ?_ fun j h1 h2 => ?_
   ·rw[at_lz c hcF] at s6;omega
   ·have:=s7 j h1 (by omega)
    rw[at_lz j h2] at this
    omega
  have hO3:dw u8v 1 hp2 ((T.aJ z.natAbs).map (· + 48)) (nth fr3 3):=by
   refine⟨by omega,.inr ⟨id,(F.drop (c+1)).map (· + 48)++mm,i1,i2,?_,?_⟩⟩
   ·rw[s4,← hT];simp;omega
   ·rw[i4,← hT,← append_assoc,← map_append,take_append_drop]
  have hlen:(T.aJ z.natAbs).length<90000000:=by rw[← hT,length_take];omega
  have hb0:aX hp2 0=some ⟨.live,[.sc (.bool m),aL ds]⟩:=by rw[c4];rfl
  obtain⟨fr4,hp4,wr4,t1,t2,t3⟩:=QA L run k fr3 hp2 wr2 m _ ds (by simpa using hlen) s2 s3 hb0 hO3
  rw[ao t1,ad3]
  generalize hl:(T.aJ z.natAbs).map (· + 48)++(bif m then [45] else [])=l at *
  have hll:l.length≤(T.aJ z.natAbs).length+1:=by
   rw[← hl];cases m <;> simp
  have hlk:(T.aJ z.natAbs).length≤9*ds.length:=by rw[← hT,length_take];omega
  obtain⟨fr5,u1,u2,u3,u4,u5⟩:=ad8 L run k fr4 hp4 wr4 l.length (by omega) t2 t3.s.len
  have hO4:=t3
  obtain⟨-,hO4⟩:=hO4
  rcases hO4 with ⟨e,-⟩| ⟨id',z',j1,j2,j3,j4⟩
  ·have h2:(T.aJ z.natAbs).length≤l.length:=by rw[← hl];simp
   rw[e,length_nil] at h2
   have:=T.cT.2 hz3
   omega
  ·obtain⟨fr6,hp6,wr6,v1,v2,v3,v4,v5⟩:=CI L run k l z' id' l.length (by omega) rfl (l.length / 2) 0 fr5 hp4 wr4 l (by omega) rfl j2 j4 (fun m hm=>by rw[if_neg (by omega)]) u2 (by rw[u3,j3]) u4 (by rw[u5];simp)
   have hB:ae (CC L) run k (.seq J8 (.block 6 (.loop wxS))) ⟨fr4,hp4,wr4⟩=some (.normal,⟨fr6,hp6,wr6⟩):=by
    rw[ao u1];exact bD (i:=6) (bG v1 (show l.length / 2+1≤k by omega))
   rw[ao hB]
   have hr:l.reverse=ztx z:=by
    rw[← hl,reverse_append,← map_reverse]
    have:ztx z=itx m z.natAbs:=by rw[vA,hz2]
    rw[this,itx,if_neg hz3]
    cases m <;> rfl
   have hO5:dw u8v 1 hp6 (ztx z) (nth fr6 3):=by
    refine⟨by omega,.inr ⟨id',z',j1,v4,?_,?_⟩⟩
    ·rw[v3,← hr,length_reverse]
    ·rw[v5,hr]
   exact Yp L run k fr6 hp6 wr6 (ztx z) (kO z) v2 hO5
def adA:Ψ→Option Ψ:=ctr (fun z:Int=>[bt z]) (fun z=>Nb 2000000 z) fun z=>[zs z]
theorem Mu:Ab.Spec base.P 98 adA:=Ab.Spec.bL (C:=CC []) (cP trivial) fun args rs h=>by
 obtain⟨z,hz,rfl,rfl⟩:=cX h
 have h9:(aJ z.natAbs).length<400000:=hz.sm (by omega)
 by_cases h0:z=0
 ·subst h0
  obtain⟨st,x1,x2⟩:=Yo [] (runK (CC []) 1) 1 false
  exact⟨2,_,_,_,_,_,aZ Bc rfl x1 x2,rfl,Wk.refl rfl,trivial⟩
 ·obtain⟨st,x1,x2⟩:=Mv [] (runK (CC []) (9*(aJ z.natAbs).length+20)) (9*(aJ z.natAbs).length+20) z h0 (by omega) (by omega)
  exact⟨_,_,_,_,_,_,aZ Bc rfl x1 x2,rfl,Wk.refl rfl,trivial⟩
theorem adO:∀ (k x:Nat),x<10 ^ k→x<10 ^ nd k x
 | 0,x,h=>by simpa [nd] using h
 | k+1,x,h=>by
  by_cases h0:x=0
  ·subst h0;simp[nd]
  ·have:=adO k (x / 10) (by rw[Nat.pow_succ] at h;omega)
   rw[nd,qe h0,cond_false,Nat.pow_succ]
   omega
theorem adN:∀ (k x:Nat),x≠0→x<10 ^ k→∃ e,nd k x=e+1∧10 ^ e≤x
 | 0,x,h0,h=>by simp at h;exact absurd h h0
 | k+1,x,h0,h=>by
  rw[nd,qe h0,cond_false]
  by_cases h1:x / 10=0
  ·refine⟨0,?_,by omega⟩
   rw[h1]
   cases k <;> simp[nd]
  ·obtain⟨e,he,hl⟩:=adN k (x / 10) h1 (by rw[Nat.pow_succ] at h;omega)
   refine⟨e+1,by rw[he],?_⟩
   rw[Nat.pow_succ]
   omega
theorem Wt (m:Nat){j:Nat}(hj:0<j):pR (aJ m)≤j ↔ m<10 ^ j:=by
 have hok:=bV m
 have ht:=jx m
 have hv:=bX m
 unfold pR
 cases hl:(aJ m).getLast? with
 | none =>
  have:aJ m=[]:=by simpa using hl
  have:=yg this
  subst this
  simp
  exact Nat.pow_pos (by omega)
 | some a =>
  obtain⟨l,e⟩:∃ l,aJ m=l++[a]:=⟨(aJ m).dropLast,by rw[getLast?_eq_some_iff] at hl;obtain⟨ys,h⟩:=hl;rw[h];simp⟩
  rw[e] at hok hv ⊢
  have ha0:=ht l a e
  have ha9:a<10 ^ 9:=Nat.lt_of_lt_of_le (hok a (by simp)) (by decide)
  have h1:=adO 9 a ha9
  obtain⟨q,h2,h3⟩:=adN 9 a ha0 ha9
  rw[dI] at hv
  have hvl:=eM hok.left
  have e9:(1000000000:Nat) ^ l.length=10 ^ (9*l.length):=by
   have:(1000000000:Nat)=10 ^ 9:=by decide
   rw[this,← Nat.pow_mul]
  rw[e9] at hv hvl
  have hp:0<10 ^ (9*l.length):=Nat.pow_pos (by omega)
  simp only[length_append,length_cons,length_nil,Nat.zero_add,Nat.add_sub_cancel]
  have hup:m<10 ^ (9*l.length+nd 9 a):=by
   rw[Nat.pow_add,← hv]
   calc val l+10 ^ (9*l.length)*a<10 ^ (9*l.length)+10 ^ (9*l.length)*a:=by omega
    _=10 ^ (9*l.length)*(a+1):=by rw[Nat.mul_succ];omega
    _≤_:=Nat.mul_le_mul_left _ h1
  have hlo:10 ^ (9*l.length+q)≤m:=by
   rw[Nat.pow_add,← hv]
   exact Nat.le_trans (Nat.mul_le_mul_left _ h3) (by omega)
  constructor
  ·intro h
   exact Nat.lt_of_lt_of_le hup (Nat.pow_le_pow_right (by omega) h)
  ·intro h
   have h4:=Nat.lt_of_le_of_lt hlo h
   have:=(Nat.pow_lt_pow_iff_right (by omega:1<10)).1 h4
   omega
theorem Wu (z:Int):decide (1000<pR (aJ z.natAbs)) = !pB (Nb 1000 z):=by
 have h:=Wt z.natAbs (j:=1000) (by omega)
 by_cases hn:Nb 1000 z
 ·have:=h.2 hn
  rw[gF hn,decide_eq_false (by omega)];rfl
 ·have : ¬ pR (aJ z.natAbs)≤1000:=fun e=>hn (h.1 e)
  rw[fT hn,decide_eq_true (by omega)];rfl
theorem XO {k:Nat} : Nb (k+1) 1:=Nat.one_lt_pow (by omega) (by omega)
theorem vJ {k:Nat} : Nb k 0:=Nat.pow_pos (by omega)
theorem Ni {u:Option Rat}{j:Nat}(hu:Rb j (vv u))(h:j≤1000000):np [rv u]=some [.sc (.bool (!pB (Rb 1000 (vv u))))]:=by
 obtain⟨b,b1,b2,b3,b4⟩:=qF hu (by omega)
 simp only[np,b3,Wu]
 have hb:Nb 1000 b ↔ Nb 1000 (vv u).den:=by
  rw[← b2]
  unfold dB
  split
  ·rename_i e
   subst e
   exact⟨fun _=>XO,fun _=>vJ⟩
  ·exact Iff.rfl
 by_cases h1:Nb 1000 (vv u).num
 ·by_cases h2:Nb 1000 b
  ·rw[gF h1,gF h2,gF ⟨h1,hb.1 h2⟩];rfl
  ·rw[gF h1,fT h2,fT fun e=>h2 (hb.2 e.2)];rfl
 ·have h3 : ¬ Rb 1000 (vv u):=fun e=>h1 e.1
  rw[fT h1,fT h3];simp
theorem sL {s:ByteArray}{z:Int}(h:bys s=ztx z):eT s=z∧iu s=true:=by
 unfold eT iu
 rw[Hy h]
 exact⟨rfl,rfl⟩
theorem l9 {s:ByteArray}(h:iu s=true):bys s=ztx (eT s):=by
 unfold iu at h
 cases e:gE s with
 | none=>rw[e] at h;cases h
 | some z=>rw[tP e];unfold eT;rw[e]
theorem JE {l:Ω}{z:Int}{k:Nat}(h:l=ztx z)(h9:l.length≤k):Nb k z:=by
 rw[h,gV] at h9
 have:=vK z
 unfold Ab.ew at h9 this
 exact (tj (by omega)).1 (by omega)
theorem F9 (s:ByteArray){k:Nat}(h9:(bys s).length≤k):Nb k (eT s):=by
 unfold eT
 cases e:gE s with
 | none=>exact vJ
 | some z=>exact JE (tP e) h9
theorem Nb.gcd {k:Nat}{d:Int}(h:Nb k d)(n:Int)(h0:d≠0):Nb k (Int.ofNat (Nat.gcd n.natAbs d.natAbs)):=by
 unfold Nb at *
 refine Nat.lt_of_le_of_lt ?_ h
 exact Nat.le_of_dvd (by omega) (Nat.gcd_dvd_right _ _)
theorem Nb.akf {k:Nat}{n:Int}(h:Nb k n)(d:Int)(h0:n≠0):Nb k (Int.ofNat (Nat.gcd n.natAbs d.natAbs)):=by
 unfold Nb at *
 refine Nat.lt_of_le_of_lt ?_ h
 exact Nat.le_of_dvd (by omega) (Nat.gcd_dvd_left _ _)
theorem Nb.ake {k:Nat}{n d:Int}(h:Nb k n)(h':Nb k d):Nb k (Int.ofNat (Nat.gcd n.natAbs d.natAbs)):=by
 by_cases h0:n=0
 ·by_cases h1:d=0
  ·subst h0;subst h1;exact h
  ·exact h'.gcd n h1
 ·exact h.akf d h0
theorem ah0 (s:ByteArray)(h9:(bys s).length≤1000000):∃ n d,rrF [.sc (.string s)]=some [ch n d,.sc (.bool (pB (IsQ s)))]∧(∀ x,s=qb x→ch n d=rv (some x))∧Nb 1000000 n∧Nb 1000000 d:=by
 obtain⟨c1,c2,c3,c4⟩:=acW s (by omega)
 have hl:=ve (bys s)
 have hb:(bys s).length.blt 3000000=true:=by rw[Nat.blt_eq];omega
 have hnA:Nb 1000000 (eT (jA s)):=F9 _ (by rw[c2];omega)
 simp only[rrF,hb,c1,Bool.and_self,cond_true]
 cases hk:iu (jA s) && uV s with
 | false =>
  rw[cond_false]
  refine⟨eT (jA s),1,?_,?_,hnA,(XO (k:=0)).mono (by omega)⟩
  ·have e:iu (jA s)=pB (IsQ s):=by
    cases hA:iu (jA s) with
    | false =>
     rw[fT]
     rintro⟨x,hx⟩
     have h1:=kQ x
     rw[← hx] at h1
     have h2:=(sL (s:=jA s) (z:=x.num) (by rw[c2,h1])).2
     rw[hA] at h2;cases h2
    | true =>
     rw[hA,Bool.true_and] at hk
     rw[gF]
     exact⟨_,Lo (by rw[← c3,hk]) (by rw[← c2];exact l9 hA)⟩
   rw[e]
  ·intro x hx
   have h1:=kQ x
   rw[← hx] at h1
   have h2:=sL (s:=jA s) (z:=x.num) (by rw[c2,h1])
   rw[h2.2,Bool.true_and,c3,h1] at hk
   have h3:(x.den:Int)=1:=by simpa using hk
   rw[h2.1,oG,h3]
 | true =>
  rw[cond_true]
  simp only[Bool.and_eq_true] at hk
  have hB:=c4 hk.2
  have hzA:=l9 hk.1
  rw[c2] at hzA
  have hs2:(spl (bys s)).2.2=true:=by rw[← c3];exact hk.2
  have hnB:Nb 1000000 (eT (jz s)):=by
   refine F9 _ ?_
   rw[hB]
   unfold spl at hs2 ⊢
   cases e:fK (bys s) with
   | none=>rw[e] at hs2;cases hs2
   | some j=>simp only[length_drop];omega
  generalize eT (jA s)=n at *
  unfold aeL
  rw[hnA.smB (by omega),hnB.smB (by omega),(hnA.ake hnB).smB (by omega)]
  simp only[Bool.and_self,cond_true]
  cases hbad:wz (iu (jz s)) n.sign (fX (eT (jz s)) 1) (fX (Int.ofNat (Nat.gcd n.natAbs (eT (jz s)).natAbs)) 1) with
  | true =>
   rw[cond_true]
   have hno : ¬ IsQ s:=by
    intro hq
    cases hkB:iu (jz s) with
    | false =>
     obtain⟨x,hx⟩:=hq
     have h1:=kQ x
     rw[← hx] at h1
     have:=(sL (s:=jz s) (z:=x.den) (by rw[hB,h1])).2
     rw[hkB] at this;cases this
    | true =>
     have hzB:=l9 hkB
     rw[hB] at hzB
     obtain⟨q1,q2,q3⟩:=E0 hs2 hzA hzB hq
     rw[hkB,q3] at hbad
     have e1:(n.sign == 0)=false:=by rw[beq_eq_false_iff_ne];exact fun e=>q1 (Int.sign_eq_zero_iff_zero.1 e)
     have e2:decide (fX (eT (jz s)) 1≤0)=false:=by
      rw[decide_eq_false_iff_not]
      unfold fX
      rw[if_neg (by omega),if_neg (by omega)];decide
     unfold wz at hbad
     rw[e1,e2] at hbad
     revert hbad
     decide
   refine⟨0,0,by rw[fT hno],fun x hx=>absurd ⟨x,hx⟩ hno,vJ,vJ⟩
  | false =>
   rw[cond_false]
   unfold wz at hbad
   simp only[Bool.or_eq_false_iff,Bool.not_eq_false',beq_eq_false_iff_ne,decide_eq_false_iff_not,bne_eq_false_iff_eq] at hbad
   obtain⟨hkB,-,h2,h3⟩:=hbad
   have hzB:=l9 hkB
   rw[hB] at hzB
   have hd:2≤eT (jz s):=by
    unfold fX at h2
    by_cases h4:eT (jz s)<1
    ·rw[if_pos h4] at h2;exact absurd (by decide) h2
    ·rw[if_neg h4] at h2
     by_cases h5:eT (jz s)=1
     ·rw[if_pos h5] at h2;exact absurd (by decide) h2
     ·omega
   have hg:Nat.gcd n.natAbs (eT (jz s)).natAbs=1:=by
    unfold fX at h3
    generalize Nat.gcd n.natAbs (eT (jz s)).natAbs=g at *
    by_cases h4:Int.ofNat g<1
    ·rw[if_pos h4] at h3;exact absurd h3 (by decide)
    ·rw[if_neg h4] at h3
     by_cases h5:Int.ofNat g=1
     ·exact Int.ofNat.inj h5
     ·rw[if_neg h5] at h3;exact absurd h3 (by decide)
   obtain⟨x,hx,e1,e2⟩:=EZ hs2 hzA hzB hd hg
   refine⟨n,eT (jz s),by rw[gF ⟨x,hx⟩],fun y hy => ?_,hnA,hnB⟩
   have:x=y:=pL (by rw[← hx,← hy])
   subst this
   rw[oG,e1,e2]
theorem P7:base.F.get 110=some f110:=by kernel_rfl
theorem yJ:base.F.get 133=some f133:=by kernel_rfl
theorem RQ:base.shared 133=false:=by kernel_rfl
theorem Gn:base.F.get 77=some f77:=by kernel_rfl
theorem MY:base.shared 77=false:=by kernel_rfl
theorem Hc:base.shared 108=false:=by kernel_rfl
theorem RS:base.shared 43=false:=by kernel_rfl
def LQ2:Lst:=[(95,FA),(97,ofF),(96,uX),(98,adA),(105,EE),(104,pn),(108,rrF),(43,np)]
theorem JG:dt base.P LQ2:=⟨rJ,ml,oc,Mu,re,oO,vp,pG,trivial⟩
theorem ahj {L:Lst}(hL:bC L 104=fun a=>pn (aK a))(run:av)(x y:Int)(hx:Sm x)(hy:Sm y)(h0:y≠0):aA L run 104 [bt x,bt y] (rv (some (Rat.divInt x y))):=fun dr hp =>
 bq KI hL run dr hp _ [rv (some (Rat.divInt x y))] (gY hp x y) (fN x y) (by
  have h:(!(y.natAbs.beq 0))=true:=by rw[qe (by omega)];rfl
  simp only[pn,cQ hx,cQ hy,h,cond_true,oG,(ur x y h0).1,(ur x y h0).2])
theorem aeF {u v:Option Rat}{j:Nat}(hu:Rb j (vv u))(hv:Rb j (vv v))(h9:j≤2000000)(h:rv u=rv v):u=v:=by
 cases u with
 | none =>
  cases v with
  | none=>rfl
  | some y =>
   have h1:gC (ch 0 0)=some (0,0):=gT (by unfold Sm;decide) (by unfold Sm;decide)
   have h2:gC (ch y.num y.den)=some (y.num,(y.den:Int)):=gT (hv.1.sm h9) (hv.2.sm h9)
   have h3:ch 0 0=ch y.num y.den:=h
   rw[h3,h2] at h1
   simp only[OiE,PiE] at h1
   exact absurd h1.2 (Wy y)
 | some x =>
  have h2:gC (ch x.num x.den)=some (x.num,(x.den:Int)):=gT (hu.1.sm h9) (hu.2.sm h9)
  cases v with
  | none =>
   have h1:gC (ch 0 0)=some (0,0):=gT (by unfold Sm;decide) (by unfold Sm;decide)
   have h3:ch x.num x.den=ch 0 0:=h
   rw[← h3,h2] at h1
   simp only[OiE,PiE] at h1
   exact absurd h1.2 (Wy x)
  | some y =>
   have h1:gC (ch y.num y.den)=some (y.num,(y.den:Int)):=gT (hv.1.sm h9) (hv.2.sm h9)
   have h3:ch x.num x.den=ch y.num y.den:=h
   rw[← h3,h2] at h1
   simp only[OiE,PiE] at h1
   congr 1
   exact Rat.ext h1.1 (by omega)
theorem O7(a b x y n m:Int)(g1:aA L run 97 [.sc (.int .i64 a)] (bt x))(g2:aA L run 97 [.sc (.int .i64 b)] (bt y))(g3:aA L run 104 [bt x,bt y] (ch n m)) :
  ∃ st,ae (CC L) run k (f110.body.getD .skip) ⟨entry 10 [.sc (.int .i64 a),.sc (.int .i64 b)],[],[]⟩=some (.ret,st)∧aY TT st.fr st.hp f110.results.toList=some [ch n m]:=by
 obtain⟨h1,h2,h3⟩:=cb 8 (.sc (.int .i64 a)) (.sc (.int .i64 b))
 generalize entry 10 [.sc (.int .i64 a),.sc (.int .i64 b)]=fr0 at *
 unfold aA at *
 simp only[whW,gr] at *
 simp[f110,h1,h2,h3,g1,g2,g3,aR,bF,number,FP.free]
def VW:Ψ→Option Ψ
 | [.sc (.int .i64 1),.sc (.int .i64 1)]=>some [rv (some 1)]
 | [.sc (.int .i64 1),.sc (.int .i64 2)]=>some [rv (some (1 / 2))]
 | [.sc (.int .i64 2),.sc (.int .i64 1)]=>some [rv (some 2)]
 | _=>none
theorem x8 (a b:Nat)(h0:b≠0)(ha:(a:Int)=1∨(a:Int)=2)(hb:(b:Int)=1∨(b:Int)=2):∃ k rs1 hp1 wr rs2 ids,runK (CC LQ2) k 110 [.sc (.int .i64 (a:Int)),.sc (.int .i64 (b:Int))] []=some (rs1,hp1,wr)∧bu (snap hp1 bn) rs1=some (rs2,ids)∧WkL rs2 [rv (some (Rat.divInt a b))]:=by
 have go:∀ z:Int,z=1∨z=2→aA LQ2 (runK (CC LQ2) 1) 97 [.sc (.int .i64 z)] (bt z):=fun z hz dr hp =>
  bq (L:=LQ2) (f:=ofF) Dq rfl _ dr hp _ [bt z] rfl rfl (by rcases hz with rfl | rfl <;> rfl)
 have gv:=ahj (L:=LQ2) rfl (runK (CC LQ2) 1) a b (by rcases ha with h | h <;> rw[h] <;> unfold Sm <;> decide) (by rcases hb with h | h <;> rw[h] <;> unfold Sm <;> decide) (by omega)
 obtain⟨st,x1,x2⟩:=O7 LQ2 (runK (CC LQ2) 1) 1 a b a b _ _ (go _ ha) (go _ hb) gv
 exact⟨2,_,_,_,_,_,aZ P7 rfl x1 x2,rfl,Wk.refl rfl,trivial⟩
theorem O6:Ab.Spec base.P 110 VW:=Ab.Spec.bL (C:=CC LQ2) (cP JG) fun args rs h=>by
 unfold VW at h
 split at h
 ·simp only[OiE] at h
  subst h
  exact x8 1 1 (by omega) (.inl rfl) (.inl rfl)
 ·simp only[OiE] at h
  subst h
  have e:(1 / 2:Rat)=Rat.divInt (1:Nat) (2:Nat):=by rw[Ja];rfl
  rw[e]
  exact x8 1 2 (by omega) (.inl rfl) (.inr rfl)
 ·simp only[OiE] at h
  subst h
  exact x8 2 1 (by omega) (.inr rfl) (.inl rfl)
 ·cases h
def IsV (s:ByteArray):Prop:=∃ x:Rat,s=qb x∧Rb 1000 x
def rrP (s:ByteArray):Int × Int:=@Classical.epsilon (Int × Int) ⟨(0,0)⟩ fun p=>rrF [.sc (.string s)]=some [ch p.1 p.2,.sc (.bool (pB (IsQ s)))]
theorem Ho (s:ByteArray)(h9:(bys s).length≤1000000):rrF [.sc (.string s)]=some [ch (rrP s).1 (rrP s).2,.sc (.bool (pB (IsQ s)))]∧∀ x,s=qb x→ch (rrP s).1 (rrP s).2=rv (some x):=by
 obtain⟨n,d,h1,h2,-⟩:=ah0 s h9
 have h3:rrF [.sc (.string s)]=some [ch (rrP s).1 (rrP s).2,.sc (.bool (pB (IsQ s)))]:=Classical.epsilon_spec (p:=fun p:Int × Int=>rrF [.sc (.string s)]=some [ch p.1 p.2,.sc (.bool (pB (IsQ s)))]) ⟨(n,d),h1⟩
 refine⟨h3,fun x hx => ?_⟩
 rw[h1] at h3
 simp only[OiE,List.cons.injEq,and_true] at h3
 rw[← h3]
 exact h2 x hx
theorem ajG {L:Lst}(hL:bC L 108=fun a=>rrF (aK a))(run:av)(s:ByteArray)(h9:(bys s).length≤1000000):aA L run 108 [.sc (.string s)] (.tup [ch (rrP s).1 (rrP s).2,.sc (.bool (pB (IsQ s)))]):=fun dr hp =>
 bq Hc hL run dr hp _ [ch (rrP s).1 (rrP s).2,.sc (.bool (pB (IsQ s)))] rfl rfl (Ho s h9).1
theorem ae5 {x:Rat}{k:Nat}(h:Rb k x):(bys (qb x)).length≤2*k+5:=by
 rw[Ju]
 unfold qtx
 have l1:=h.1.ew
 have l2:=h.2.ew
 have hl:∀ z:Int,(ztx z).length≤Ab.ew z+1:=fun z=>by rw[gV];cases bw z <;> simp <;> omega
 have m1:=hl x.num
 have m2:=hl x.den
 split
 ·omega
 ·simp;omega
theorem ajF {L:Lst}(hL:bC L 108=fun a=>rrF (aK a))(run:av){x:Rat}{k:Nat}(hx:Rb k x)(hk:k≤400000):aA L run 108 [qt x] (.tup [rv (some x),.sc (.bool true)]):=by
 have h9:(bys (qb x)).length≤1000000:=Nat.le_trans (ae5 hx) (by omega)
 have h:=ajG hL run (qb x) h9
 rw[(Ho (qb x) h9).2 x rfl,gF ⟨x,rfl⟩] at h
 exact h
theorem adq {L:Lst}(hL:bC L 43=fun a=>np (aK a))(run:av){u:Option Rat}{j:Nat}(hu:Rb j (vv u))(h:j≤1000000):aA L run 43 [rv u] (.sc (.bool (!pB (Rb 1000 (vv u))))):=fun dr hp =>
 bq RS hL run dr hp _ [.sc (.bool (!pB (Rb 1000 (vv u))))] (Q9 hp u) (Pp u) (Ni hu h)
theorem Z6(s:ByteArray)(n d:Int)(g1:aA L run 108 [.sc (.string s)] (.tup [ch n d,.sc (.bool false)])) :
  ∃ st,ae (CC L) run k (f133.body.getD .skip) ⟨entry 18 [.sc (.string s)],[],[]⟩=some (.ret,st)∧aY TT st.fr st.hp f133.results.toList=some [ch n d,.sc (.bool false)]:=by
 obtain⟨h1,h2⟩:=cV 17 (.sc (.string s))
 generalize entry 18 [.sc (.string s)]=fr0 at *
 unfold aA at *
 simp only[gr] at *
 simp[f133,h1,h2,g1,aR,bF,number,FP.free,cC,FP.apart]
theorem Sx(s:ByteArray)(n d:Int)(lg:Bool)(g1:aA L run 108 [.sc (.string s)] (.tup [ch n d,.sc (.bool true)]))(g2:aA L run 43 [ch n d] (.sc (.bool lg))) :
  ∃ st,ae (CC L) run k (f133.body.getD .skip) ⟨entry 18 [.sc (.string s)],[],[]⟩=some (.ret,st)∧aY TT st.fr st.hp f133.results.toList=some [ch n d,.sc (.bool (!lg))]:=by
 obtain⟨h1,h2⟩:=cV 17 (.sc (.string s))
 generalize entry 18 [.sc (.string s)]=fr0 at *
 unfold aA at *
 simp only[gr] at *
 simp[f133,h1,h2,unP,g1,g2,aR,bF,number,FP.free,cC,FP.apart]
def adz:Ψ→Option Ψ:=ctr (fun s:ByteArray=>[.sc (.string s)]) (fun s=>(bys s).length≤100000) fun s=>[ch (rrP s).1 (rrP s).2,.sc (.bool (pB (IsV s)))]
theorem adI {x:Rat}{k:Nat}(h:(bys (qb x)).length≤k):Rb (k+1) x:=by
 have h2:=ve (bys (qb x))
 rw[kQ] at h2
 dsimp only at h2
 exact⟨JE rfl (by omega),JE rfl (by omega)⟩
theorem GD:Ab.Spec base.P 133 adz:=Ab.Spec.bL (C:=CC LQ2) (cP JG) fun args rs h=>by
 obtain⟨s,h9,rfl,rfl⟩:=cX h
 have g1:=ajG (L:=LQ2) rfl (runK (CC LQ2) 1) s (by omega)
 show ∃ k rs1 hp1 wr rs2 ids,_∧_∧WkL rs2 [ch (rrP s).1 (rrP s).2,.sc (.bool (pB (IsV s)))]
 by_cases hq:IsQ s
 ·rw[gF hq] at g1
  obtain⟨x,hx⟩:=hq
  have hb:Rb 100001 x:=adI (by rw[← hx];exact h9)
  have g2:=adq (L:=LQ2) rfl (runK (CC LQ2) 1) (u:=some x) hb (by omega)
  have e:=(Ho s (by omega)).2 x hx
  rw[← e] at g2
  obtain⟨st,x1,x2⟩:=Sx LQ2 (runK (CC LQ2) 1) 1 s _ _ _ g1 g2
  refine⟨2,_,_,_,_,_,aZ yJ rfl x1 x2,rfl,Wk.refl rfl,?_,trivial⟩
  have:pB (IsV s)=pB (Rb 1000 x):=by
   by_cases h1:Rb 1000 x
   ·rw[gF h1,gF ⟨x,hx,h1⟩]
   ·rw[fT h1,fT]
    rintro⟨y,hy,h2⟩
    have:=pL (hx.symm.trans hy)
    subst this
    exact h1 h2
  rw[this,Bool.not_not]
  exact Wk.refl rfl
 ·rw[fT hq] at g1
  have : ¬ IsV s:=fun ⟨x,hx,_⟩=>hq ⟨x,hx⟩
  rw[fT this]
  obtain⟨st,x1,x2⟩:=Z6 LQ2 (runK (CC LQ2) 1) 1 s _ _ g1
  exact⟨2,_,_,_,_,_,aZ yJ rfl x1 x2,rfl,Wk.refl rfl,Wk.refl rfl,trivial⟩
def LQ3:Lst:=(133,adz)::LQ2
theorem ag7:dt base.P LQ3:=⟨GD,JG⟩
theorem QN(s:ByteArray)(n d:Int)(v:Bool)(g1:aA L run 133 [.sc (.string s)] (.tup [ch n d,.sc (.bool v)])) :
  ∃ st,ae (CC L) run k (f77.body.getD .skip) ⟨entry 11 [.sc (.string s)],[],[]⟩=some (.ret,st)∧aY TT st.fr st.hp f77.results.toList=some [.sc (.bool v)]:=by
 obtain⟨h1,h2⟩:=cV 10 (.sc (.string s))
 generalize entry 11 [.sc (.string s)]=fr0 at *
 unfold aA at *
 simp only[gr] at *
 simp[f77,h1,h2,g1]
def Bf:Ψ→Option Ψ:=ctr (fun s:ByteArray=>[.sc (.string s)]) (fun s=>(bys s).length≤100000) fun s=>[.sc (.bool (pB (IsV s)))]
theorem qz {s t:ByteArray}(h:[PV.sc (.string s)]=[PV.sc (.string t)]):s=t:=by simpa using h
theorem vS:Ab.Spec base.P 77 Bf:=Ab.Spec.bL (C:=CC LQ3) (cP ag7) fun args rs h=>by
 obtain⟨s,h9,rfl,rfl⟩:=cX h
 have g1:aA LQ3 (runK (CC LQ3) 1) 133 [.sc (.string s)] (.tup [ch (rrP s).1 (rrP s).2,.sc (.bool (pB (IsV s)))]) :=
  gi RQ (L:=LQ3) (e:=fun s:ByteArray=>[.sc (.string s)]) (f:=fun s=>[ch (rrP s).1 (rrP s).2,.sc (.bool (pB (IsV s)))]) (ok:=fun s=>(bys s).length≤100000) rfl (fun x y _ _ h=>by rw[qz h]) _ s h9 (fun _=>rfl) rfl
 obtain⟨st,x1,x2⟩:=QN LQ3 (runK (CC LQ3) 1) 1 s _ _ _ g1
 exact⟨2,_,_,_,_,_,aZ Gn rfl x1 x2,rfl,Wk.refl rfl,trivial⟩
theorem Cq {L:Lst}(hL:bC L 77=fun a=>Bf (aK a))(run:av)(s:ByteArray)(h9:(bys s).length≤100000):aA L run 77 [.sc (.string s)] (.sc (.bool (pB (IsV s)))) :=
 gi MY (e:=fun s:ByteArray=>[.sc (.string s)]) hL (fun x y _ _ h=>by rw[qz h]) run s h9 (fun _=>rfl) rfl
def LQ4:Lst:=[(48,oL),(64,isF)]
theorem ag6:dt base.P LQ4:=⟨tS,aca,trivial⟩
theorem Na(s:ByteArray)(lg v:Bool)(g1:aA L run 48 [.sc (.string s)] (.sc (.bool lg)))(g2:aA L run 64 [.sc (.string s)] (.sc (.bool v))) :
  ∃ st,ae (CC L) run k (f23.body.getD .skip) ⟨entry 10 [.sc (.string s)],[],[]⟩=some (.ret,st)∧aY TT st.fr st.hp f23.results.toList=some [.sc (.bool (!lg && v))]:=by
 obtain⟨h1,h2⟩:=cV 9 (.sc (.string s))
 generalize entry 10 [.sc (.string s)]=fr0 at *
 unfold aA at *
 cases lg <;> simp[f23,h1,h2,unP,g1,g2]
theorem Je (z:Int):eQ (ztx z)=Ab.ew z:=by
 have h3:ztx z=(bif bw z then [45] else [])++dtx z.natAbs:=si z
 rw[h3]
 unfold Ab.ew
 have hd:=ob z.natAbs
 cases bw z with
 | true=>rfl
 | false =>
  rw[cond_false,nil_append]
  cases e:dtx z.natAbs with
  | nil=>rfl
  | cons a l =>
   rw[e] at hd
   have ha:=dE.1 (fE hd mem_cons_self)
   show (bif a.beq 45 then l.length else (a::l).length)=_
   rw[qe (show a≠45 by omega)];rfl
theorem EM (z:Int):decide (1000<eQ (ztx z)) = !pB (Nb 1000 z):=by
 rw[Je]
 unfold Ab.ew
 have h:=tj (n:=z.natAbs) (k:=1000) (by omega)
 by_cases hn:Nb 1000 z
 ·rw[gF hn,decide_eq_false (by have:=h.2 hn;omega)];rfl
 ·rw[fT hn,decide_eq_true (by
   have : ¬ (dtx z.natAbs).length≤1000:=fun e=>hn (h.1 e)
   omega)];rfl
theorem Vo (x:Rat):Aw (bys (qb x)) = !pB (Rb 1000 x):=by
 unfold Aw
 rw[kQ,EM,EM]
 by_cases h1:Nb 1000 x.num
 ·by_cases h2:Nb 1000 x.den
  ·rw[gF h1,gF h2,gF (show Rb 1000 x from ⟨h1,h2⟩)];rfl
  ·rw[gF h1,fT h2,fT (show ¬ Rb 1000 x from fun e=>h2 e.2)];rfl
 ·rw[fT h1,fT (show ¬ Rb 1000 x from fun e=>h1 e.1)];simp
def KJ:Ψ→Option Ψ:=ctr (fun s:ByteArray=>[.sc (.string s)]) (fun s=>(bys s).length≤100000) fun s=>[.sc (.bool (pB (IsV s)))]
theorem zF:Ab.Spec base.P 23 KJ:=Ab.Spec.bL (C:=CC LQ4) (cP ag6) fun args rs h=>by
 obtain⟨s,h9,rfl,rfl⟩:=cX h
 have g1:aA LQ4 (runK (CC LQ4) 1) 48 [.sc (.string s)] (.sc (.bool (Aw (bys s)))):=fun dr hp =>
  bq (L:=LQ4) (f:=oL) MO rfl _ dr hp _ [.sc (.bool (Aw (bys s)))] rfl rfl (by
   have:(bys s).length.blt 20000000=true:=by rw[Nat.blt_eq];omega
   simp only[oL,this,cond_true])
 have g2:aA LQ4 (runK (CC LQ4) 1) 64 [.sc (.string s)] (.sc (.bool (pB (IsQ s)))) :=
  gi Y1 (L:=LQ4) (e:=fun s:ByteArray=>[.sc (.string s)]) (ok:=fun s=>(bys s).length<1000000) (f:=fun s=>[.sc (.bool (pB (IsQ s)))]) rfl (fun x y _ _ h=>by rw[qz h]) _ s (show (bys s).length<1000000 by omega) (fun _=>rfl) rfl
 obtain⟨st,x1,x2⟩:=Na LQ4 (runK (CC LQ4) 1) 1 s _ _ g1 g2
 refine⟨2,_,_,_,_,_,aZ Cw rfl x1 x2,rfl,?_,trivial⟩
 have:pB (IsV s)=(!Aw (bys s) && pB (IsQ s)):=by
  by_cases hq:IsQ s
  ·obtain⟨x,hx⟩:=hq
   subst hx
   rw[Vo,Bool.not_not,gF (show IsQ (qb x) from ⟨x,rfl⟩),Bool.and_true]
   by_cases h1:Rb 1000 x
   ·rw[gF h1,gF ⟨x,rfl,h1⟩]
   ·rw[fT h1,fT]
    rintro⟨y,hy,h2⟩
    have:=pL hy
    subst this
    exact h1 h2
  ·rw[fT hq,Bool.and_false,fT fun ⟨x,hx,_⟩=>hq ⟨x,hx⟩]
 rw[this]
 exact Wk.refl rfl
theorem yE {L:Lst}(hL:bC L 23=fun a=>KJ (aK a))(run:av)(s:ByteArray)(h9:(bys s).length≤100000):aA L run 23 [.sc (.string s)] (.sc (.bool (pB (IsV s)))) :=
 gi G0 (e:=fun s:ByteArray=>[.sc (.string s)]) hL (fun x y _ _ h=>by rw[qz h]) run s h9 (fun _=>rfl) rfl
end Go.Proofs.YtjdmodeenbdfpaaGreat
end
