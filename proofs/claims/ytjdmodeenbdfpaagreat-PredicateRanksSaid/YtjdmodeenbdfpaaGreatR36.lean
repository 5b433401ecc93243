/- Contracts of fractions, clouds and predicates, part 36 of the proof; each lemma states its own conditions. -/
import Derived.Test.YtjdmodeenbdfpaaGreatR35
set_option linter.unusedSimpArgs false
set_option linter.unusedVariables false
namespace Go.Proofs.YtjdmodeenbdfpaaGreat
open Go Go.Ab
theorem Ba:∀ {ds:List Nat},Dok ds→T.val (ds.flatMap (T.db 9))=val ds
 | [],_=>rfl
 | a::l,h=>by
  have h1:T.val (T.db 9 a)=a:=T.fi 9 a (Nat.lt_of_lt_of_le h.head (by decide))
  rw[List.flatMap_cons,T.gY,h1,T.dn,Ba h.tail]
  rfl
theorem IL:∀ (ds:List Nat),T.Dok (ds.flatMap (T.db 9))
 | []=>T.Dok.nil
 | a::l=>by rw[List.flatMap_cons];exact (T.gp 9 a).append (IL l)
theorem xK {F:List Nat}(h:∀ m,m<F.length→at0 F m=0):T.val F=0:=by
 have:F=List.replicate F.length 0:=AD (by simp) fun m hm=>by rw[h m hm,de (by simpa using hm)];simp
 rw[this,T.nM]
theorem N8 {F:List Nat}(h:T.val F≠0):∃ m,m<F.length∧at0 F m≠0:=by
 apply Classical.byContradiction
 intro hn
 refine h (xK fun m hm => ?_)
 apply Classical.byContradiction
 intro he
 exact hn ⟨m,hm,he⟩
theorem Z8 (F:List Nat)(m:Nat)(h:m<F.length):at0 (F.map (· + 48)) m=at0 F m+48:=by
 rw[de (by simpa using h),de h];simp
theorem JJ {F:List Nat}(hF:T.Dok F){c:Nat}(hc:c<F.length)(h1:at0 F c≠0)(h2:∀ j,c<j→j<F.length→at0 F j=0):F.take (c+1)=T.aG (T.val F):=by
 have e:=(List.take_append_drop (c+1) F)
 have hz:T.val (F.drop (c+1))=0:=xK fun m hm=>by
  have:at0 (F.drop (c+1)) m=at0 F (c+1+m):=by unfold at0;rw[List.getElem?_drop]
  rw[this]
  rw[List.length_drop] at hm
  exact h2 _ (by omega) (by omega)
 have hv:T.val F=T.val (F.take (c+1)):=by
  conv=>lhs;rw[← e]
  rw[T.gY,hz,Nat.mul_zero,Nat.add_zero]
 rw[hv]
 refine (T.jR (hF.take _) ?_).symm
 intro m a ea
 have hl:=congrArg List.length ea
 rw[List.length_take,Nat.min_eq_left (by omega),List.length_append] at hl
 simp only[List.length_cons,List.length_nil] at hl
 have h3:at0 (F.take (c+1)) c=a:=by
  rw[ea];unfold at0
  rw[List.getElem?_append_right (by omega)]
  have:c - m.length=0:=by omega
  rw[this];rfl
 have h4:at0 (F.take (c+1)) c=at0 F c:=by unfold at0;rw[List.getElem?_take_of_lt (by omega)]
 rw[← h3,h4]
 exact h1
noncomputable def Vu:Code:=seq1 (seq1 (ah 3 wxC))
noncomputable def HY:Code:=seq1 (seq1 (ah 6 wxC))
theorem aaO:ah 3 wxC = .seq (.seq Vu (.block 0 (.loop wxO))) (ah 4 wxC):=rfl
theorem aaN:ah 4 wxC = .seq (.block 4 (.loop wxT)) (ah 5 wxC):=rfl
theorem aaM:ah 5 wxC = .seq wxN (ah 6 wxC):=rfl
theorem aaL:ah 6 wxC = .seq (.seq HY (.block 6 (.loop wxS))) (ah 7 wxC):=rfl
theorem Vp (L:Lst)(run:ar)(k:Nat)(m:Bool):∃ st,af (CC L) run k wxC ⟨entry 81 [.agg [.sc (.bool m),aM []]],[],[]⟩=some (.ret,st)∧aZ TT st.fr st.hp Tryz.f98.results.toList=some [zs 0]:=by
 obtain⟨e1,e2⟩:=cW 80 (.agg [.sc (.bool m),aM []])
 generalize entry 81 [.agg [.sc (.bool m),aM []]]=fr0 at *
 have hz:zs 0 = .sc (.string { data:=#[48] }):=rfl
 rw[hz]
 simp[wxC,Tryz.f98,e1,e2,af,aJ,ao,aq,aH,ag,ai,aj,an,aF,aC,FP.none,bd,au,bj,aw,bM,bL,partOf,aa,ae,ab,bh,ct,bn,aO,aV,aU,br,uW,uD,wf0,wf1,sD,aD,aZ]
theorem aaR (L:Lst)(run:ar)(k:Nat)(m:Bool)(l:List Nat)(hl:l≠[]) :
  ∃ fr wr,aY (CC L) run k 2 wxC ⟨entry 81 [.agg [.sc (.bool m),aM l]],[],[]⟩=some ⟨fr,[⟨.live,[.sc (.bool m),aM l]⟩],wr⟩∧fr.length=81∧nth fr 1 = .ptr 0 0:=by
 obtain⟨e1,e2⟩:=cW 80 (.agg [.sc (.bool m),aM l])
 generalize entry 81 [.agg [.sc (.bool m),aM l]]=fr0 at *
 have hl0:((l.length:Int) == 0)=false:=by
  rw[beq_eq_false_iff_ne]
  have:l.length≠0:=fun e=>hl (List.length_eq_zero_iff.1 e)
  omega
 simp[wxC,Tryz.f98,aY,e1,e2,af,aJ,ao,aq,aH,ag,ai,aj,an,aF,aC,FP.none,bd,au,bj,aw,bM,bL,partOf,aa,ae,ab,bh,and_assoc,ct,bn,aO,aV,aU,br,uW,uD,wf0,wf1,sD,aD,hl0]
noncomputable def aaS:Code:=seq1 (ah 2 wxC)
theorem aaP:ah 2 wxC = .seq aaS (ah 3 wxC):=rfl
theorem aep (L:Lst)(run:ar)(k:Nat)(fr:List PV)(b:Blk)(wr:List Nat)(m:Bool)(l:List Nat)(c:Nat)(hb:b=⟨.live,[.sc (.bool m),aM l]⟩)(hw1:bA .i64 (9*(l.length:Int))=(c:Int))(hw2:bA .i64 ((c:Int)+1)=(c:Int)+1)(hm2:c+1≤cY)(h0:fr.length=81)(h1:nth fr 1 = .ptr 0 0) :
  ∃ fr' wr',af (CC L) run k aaS ⟨fr,[b],wr⟩=some (.normal,⟨fr',[b,⟨.live,[]⟩],wr'⟩)∧fr'.length=81∧nth fr' 1 = .ptr 0 0∧nth fr' 3 = .own 1 1 0 0 false:=by
 subst hb
 simp[aaS,wxC,seq1,ah,Tryz.f98,h0,h1,af,aJ,ao,aq,aH,ag,ai,aj,an,aF,aC,FP.none,bd,au,bj,aw,bM,bL,jA,iW,partOf,aa,ae,ab,bh,and_assoc,ct,aO,aV,aU,br,uW,uD,wf0,wf1,sD,aD,hw1,hw2,hm2,po,sU8,bU8,zU8,cn,rep]
theorem aeo (L:Lst)(run:ar)(k:Nat)(fr:List PV)(hp:List Blk)(wr:List Nat)(m:Bool)(l:List Nat)(h0:fr.length=81)(h1:nth fr 1 = .ptr 0 0)(hb:aV hp 0=some ⟨.live,[.sc (.bool m),aM l]⟩) :
  ∃ fr',af (CC L) run k Vu ⟨fr,hp,wr⟩=some (.normal,⟨fr',hp,wr⟩)∧WF fr' l 0∧nth fr' 3=nth fr 3:=by
 simp[WF,iv,Vu,wxC,ah,seq1,Tryz.f98,h0,h1,hb,af,aJ,ao,aq,aH,ag,ai,aj,an,aF,aC,FP.none,aw,bM,bL,partOf,aa,ae,ab,bh,and_assoc,ct,aU,br,uW,uD,wf0,wf1,sD,aD]
theorem aaQ (L:Lst)(run:ar)(k:Nat)(fr:List PV)(hp:List Blk)(wr:List Nat)(n:Nat)(hn9:n<100000000)(h0:fr.length=81)(h3:ef (nth fr 3)=some n) :
  ∃ fr',af (CC L) run k HY ⟨fr,hp,wr⟩=some (.normal,⟨fr',hp,wr⟩)∧fr'.length=81∧nth fr' 3=nth fr 3∧nth fr' 6=iv 0∧nth fr' 7 = .sc (.int .i64 ((n:Int) - 1)):=by
 have hw:=cR n (by omega)
 simp[iv,HY,wxC,ah,seq1,Tryz.f98,h0,h3,af,aJ,ao,aq,aH,ag,ai,aj,an,aF,aC,FP.none,bd,au,bj,aw,bM,aa,ae,ab,bh,po,hw]
theorem Vq (L:Lst)(run:ar)(k:Nat)(fr:List PV)(hp:List Blk)(wr:List Nat)(l:List Nat)(hl:Bok l)(h0:fr.length=81)(hO:dx u8v 1 hp l (nth fr 3)) :
  ∃ st,af (CC L) run k (ah 7 wxC) ⟨fr,hp,wr⟩=some (.ret,st)∧aZ TT st.fr st.hp Tryz.f98.results.toList=some [.sc (.string (tx l))]:=by
 obtain⟨ids,h1⟩:=hO.s.rd
 have h2:=DM hl
 have hcv:dF TT hp 43 94 (nth fr 3)=some (.sc (.string (tx l)),ids):=by
  have h3:tx l=mkStr (l.map UInt8.ofNat):=rfl
  rw[h3]
  obtain⟨-,h⟩:=hO
  rcases h with ⟨rfl,h⟩| ⟨id,m,-,-,h,-⟩
  ·rw[h] at h1 ⊢
   simp only[dF,po,uAI,u8T,h1,h2]
  ·rw[h] at h1 ⊢
   simp only[dF,po,uAI,u8T,h1,h2]
 simp[wxC,ah,Tryz.f98,af,aJ,ao,aq,aH,ag,ai,aj,an,aF,aC,FP.none,aa,ab,bh,h0,hcv,aZ]
theorem A2 (L:Lst)(run:ar)(k:Nat)(l z:List Nat)(id n:Nat)(hn9:n<100000000)(hn:l.length=n):∀ (d i:Nat) (fr:List PV) (hp:List Blk) (wr cur:List Nat),i+d=n / 2→cur.length=n→id<hp.length→aV hp id=some ⟨.live,(cur++z).map u8v⟩ →
  (∀ m,m<n→at0 cur m=if m<i∨n - i≤m then at0 l (n - 1 - m) else at0 l m)→fr.length=81→nth fr 3 = .own id 1 0 n false→nth fr 6=iv i→nth fr 7 = .sc (.int .i64 ((n:Int) - 1 - i)) →
  ∃ (fr':List PV) (hp':List Blk) (wr':List Nat),cl (af (CC L) run k wxS) (d+1) ⟨fr,hp,wr⟩=some (.exit 6,⟨fr',hp',wr'⟩)∧fr'.length=81∧nth fr' 3 = .own id 1 0 n false∧id<hp'.length∧aV hp' id=some ⟨.live,(l.reverse++z).map u8v⟩
 | 0,i,fr,hp,wr,cur,hd,hc,hid,hb,hI,h0,h3,h6,h7=>by
  obtain⟨fr',g1,g2,g3⟩:=Vt L run k fr hp wr i (n - i) (by omega) h0 h6 (by rw[h7];congr 2;omega)
  have e:cur=l.reverse:=AD (by simp[hc,hn]) fun m hm=>by
   rw[hc] at hm
   rw[hI m hm,Jp l m (by omega),hn]
   by_cases h1:m<i∨n - i≤m
   ·rw[if_pos h1]
   ·rw[if_neg h1]
    congr 1
    omega
  refine⟨fr',hp,wr,bD g1,g2,by rw[g3,h3],hid,?_⟩
  rw[← e];exact hb
 | d+1,i,fr,hp,wr,cur,hd,hc,hid,hb,hI,h0,h3,h6,h7=>by
  obtain⟨j,hj⟩:∃ j,n=i+j+1:=⟨n - i - 1,by omega⟩
  have hij:i<j:=by omega
  obtain⟨fr1,wr1,g1,g2,g3,g4,g5⟩:=Jy L run k fr hp wr (cur++z) id n i j hn9 (by simp;omega) hb hij (by omega) h0 h3 h6 (by rw[h7];congr 2;omega)
  have ha:at0 (cur++z) i=at0 cur i:=by unfold at0;rw[List.getElem?_append_left (by omega)]
  have hb':at0 (cur++z) j=at0 cur j:=by unfold at0;rw[List.getElem?_append_left (by omega)]
  have e1:((cur++z).set i (at0 cur j)).set j (at0 cur i)=((cur.set i (at0 cur j)).set j (at0 cur i))++z:=by
   rw[List.set_append_left _ _ (by omega),List.set_append_left _ _ (by rw[List.length_set];omega)]
  rw[ha,hb',e1] at g1
  have hb1:aV (bO (bO hp id ⟨.live,((cur++z).set i (at0 cur j)).map u8v⟩) id ⟨.live,(((cur.set i (at0 cur j)).set j (at0 cur i))++z).map u8v⟩) id=some ⟨.live,(((cur.set i (at0 cur j)).set j (at0 cur i))++z).map u8v⟩:=by
   rw[cQ (b0:=⟨.live,((cur++z).set i (at0 cur j)).map u8v⟩) (by rw[cQ hb,if_pos rfl]),if_pos rfl]
  have hai:=hI i (by omega)
  have haj:=hI j (by omega)
  rw[if_neg (by omega)] at hai haj
  obtain⟨fr',hp',wr',q1,q2⟩:=A2 L run k l z id n hn9 hn d (i+1) fr1 _ wr1 ((cur.set i (at0 cur j)).set j (at0 cur i)) (by omega) (by simp[hc]) (by rw[bF,bF];exact hid) hb1
   (fun m hm=>by
    rw[mj _ _ _ _ (by rw[List.length_set];omega),mj _ _ _ _ (by omega)]
    by_cases e2:m=j
    ·rw[if_pos e2,hai,if_pos (by omega)]
     congr 1
     omega
    ·rw[if_neg e2]
     by_cases e3:m=i
     ·rw[if_pos e3,haj,if_pos (by omega)]
      congr 1
      omega
     ·rw[if_neg e3,hI m hm]
      by_cases e4:m<i∨n - i≤m
      ·rw[if_pos e4,if_pos (by omega)]
      ·rw[if_neg e4,if_neg (by omega)]) g2 g3 g4 (by rw[g5];congr 2;omega)
  exact⟨fr',hp',wr',by rw[ch g1];exact q1,q2⟩
theorem JI (L:Lst)(run:ar)(k:Nat)(z:Int)(hz:z≠0)(h9:(aG z.natAbs).length<1000000)(hk:9*(aG z.natAbs).length+20≤k) :
  ∃ st,af (CC L) run k wxC ⟨entry 81 [bq z],[],[]⟩=some (.ret,st)∧aZ TT st.fr st.hp Tryz.f98.results.toList=some [zs z]:=by
 have hne:aG z.natAbs≠[]:=fun e=>hz (by have:=wI e;omega)
 have hv:val (aG z.natAbs)=z.natAbs:=bZ _
 have hok:=bU z.natAbs
 have hm:∃ m,m=bx z:=⟨_,rfl⟩
 obtain⟨m,hm⟩:=hm
 have hz2:=ia z
 rw[← hm] at hz2
 show ∃ st,af (CC L) run k wxC ⟨entry 81 [.agg [.sc (.bool (bx z)),aM (aG z.natAbs)]],[],[]⟩=some (.ret,st)∧_
 rw[← hm]
 have hz3:z.natAbs≠0:=by omega
 generalize aG z.natAbs=ds at *
 obtain⟨fra,wra,z1,z2,z3⟩:=aaR L run k m ds hne
 rw[aP 2 z1,aaP]
 obtain⟨fr,wr,a1,a2,a3,a4⟩:=aep L run k fra _ wra m ds (9*ds.length) rfl (by rw[show 9*(ds.length:Int)=((9*ds.length:Nat):Int) by omega];exact cu .i64 _ (hiI (Nat.le_trans (show 9*ds.length≤9000000 by omega) (by decide)))) (bE _ (Nat.lt_of_le_of_lt (show 9*ds.length≤9000000 by omega) (by decide))) (Nat.le_trans (show 9*ds.length+1≤9000001 by omega) (by decide)) z2 z3
 rw[av a1,aaO]
 obtain⟨fr1,b1,b2,b3⟩:=aeo L run k fr [⟨.live,[.sc (.bool m),aM ds]⟩,⟨.live,[]⟩] wr m ds a2 a3 rfl
 have hO:dx u8v 1 [⟨.live,[.sc (.bool m),aM ds]⟩,⟨.live,[]⟩] [] (nth fr1 3):=by
  rw[b3,a4]
  exact⟨by simp,.inr ⟨1,[],by simp,by simp,rfl,rfl⟩⟩
 obtain⟨fr2,hp2,wr2,c1,c2,c3,c4⟩:=A3 L run k (by omega) ds hok h9 ds.length 0 fr1 _ wr [] (by omega) rfl b2 hO
 have hgo:=bH (i:=0) (ca c1 (show ds.length+1≤k by omega))
 have hA:af (CC L) run k (.seq Vu (.block 0 (.loop wxO))) ⟨fr,[⟨.live,[.sc (.bool m),aM ds]⟩,⟨.live,[]⟩],wr⟩=some (.normal,⟨fr2,hp2,wr2⟩):=by
  rw[av b1];exact hgo
 rw[av hA,aaN]
 obtain⟨h0,h1,-⟩:=c2
 rw[List.nil_append,List.drop_zero] at c3
 have hF:=IL ds
 have hFv:=Ba hok
 have hFl:(ds.flatMap (T.db 9)).length=9*ds.length:=by
  have:=(Sc1.ec iM)
  rw[List.length_flatMap]
  simp only[T.dn]
  rw[List.map_const',List.sum_replicate_nat,Nat.mul_comm]
 generalize ds.flatMap (T.db 9)=F at *
 obtain⟨-,hO2⟩:=c3
 rcases hO2 with ⟨e,-⟩| ⟨id,mm,i1,i2,i3,i4⟩
 ·have:F.length=0:=by have:=congrArg List.length e;simpa using this
  have:ds.length≠0:=fun e=>hne (List.length_eq_zero_iff.1 e)
  omega
 ·have hdl:ds.length≠0:=fun e=>hne (List.length_eq_zero_iff.1 e)
  rw[List.length_map] at i3
  obtain⟨n,hn⟩:∃ n,F.length=n+1:=⟨F.length - 1,by omega⟩
  obtain⟨p,hp1,hp2'⟩:=N8 (F:=F) (by rw[hFv,hv];exact hz3)
  have at_lz:∀ j,j<F.length→at0 (F.map (· + 48)++mm) j=at0 F j+48:=fun j hj=>by
   rw[← Z8 F j hj]
   unfold at0
   rw[List.getElem?_append_left (by simpa using hj)]
  rw[hn] at i3
  obtain⟨fr3,c,s1,s2,s3,s4,s5,s6,s7⟩:=A1 L run k hp2 wr2 (F.map (· + 48)++mm) id i4 n fr2 (by simp;omega) (by omega) ⟨p,by omega,by rw[at_lz p hp1];omega⟩ h0 h1 i3
  rw[av (bH (i:=4) (ca s1 (show n+1≤k by omega))),aaM]
  have hcF:c<F.length:=by omega
  have hT:F.take (c+1)=T.aG z.natAbs:=by
   rw[← hv,← hFv]
   refine JJ hF hcF ?_ fun j h1 h2 => ?_
   ·rw[at_lz c hcF] at s6;omega
   ·have:=s7 j h1 (by omega)
    rw[at_lz j h2] at this
    omega
  have hO3:dx u8v 1 hp2 ((T.aG z.natAbs).map (· + 48)) (nth fr3 3):=by
   refine⟨by omega,.inr ⟨id,(F.drop (c+1)).map (· + 48)++mm,i1,i2,?_,?_⟩⟩
   ·rw[s4,← hT];simp;omega
   ·rw[i4,← hT,← List.append_assoc,← List.map_append,List.take_append_drop]
  have hlen:(T.aG z.natAbs).length<90000000:=by rw[← hT,List.length_take];omega
  have hb0:aV hp2 0=some ⟨.live,[.sc (.bool m),aM ds]⟩:=by rw[c4];rfl
  obtain⟨fr4,hp4,wr4,t1,t2,t3⟩:=NT L run k fr3 hp2 wr2 m _ ds (by simpa using hlen) s2 s3 hb0 hO3
  rw[av t1,aaL]
  generalize hl:(T.aG z.natAbs).map (· + 48)++(bif m then [45] else [])=l at *
  have hll:l.length≤(T.aG z.natAbs).length+1:=by
   rw[← hl];cases m <;> simp
  have hlk:(T.aG z.natAbs).length≤9*ds.length:=by rw[← hT,List.length_take];omega
  obtain⟨fr5,u1,u2,u3,u4,u5⟩:=aaQ L run k fr4 hp4 wr4 l.length (by omega) t2 t3.s.len
  have hO4:=t3
  obtain⟨-,hO4⟩:=hO4
  rcases hO4 with ⟨e,-⟩| ⟨id',z',j1,j2,j3,j4⟩
  ·have h2:(T.aG z.natAbs).length≤l.length:=by rw[← hl];simp
   rw[e,List.length_nil] at h2
   have:=T.cU.2 hz3
   omega
  ·obtain⟨fr6,hp6,wr6,v1,v2,v3,v4,v5⟩:=A2 L run k l z' id' l.length (by omega) rfl (l.length / 2) 0 fr5 hp4 wr4 l (by omega) rfl j2 j4 (fun m hm=>by rw[if_neg (by omega)]) u2 (by rw[u3,j3]) u4 (by rw[u5];simp)
   have hB:af (CC L) run k (.seq HY (.block 6 (.loop wxS))) ⟨fr4,hp4,wr4⟩=some (.normal,⟨fr6,hp6,wr6⟩):=by
    rw[av u1];exact bH (i:=6) (ca v1 (show l.length / 2+1≤k by omega))
   rw[av hB]
   have hr:l.reverse=ztx z:=by
    rw[← hl,List.reverse_append,← List.map_reverse]
    have:ztx z=itx m z.natAbs:=by rw[tQ,hz2]
    rw[this,itx,if_neg hz3]
    cases m <;> rfl
   have hO5:dx u8v 1 hp6 (ztx z) (nth fr6 3):=by
    refine⟨by omega,.inr ⟨id',z',j1,v4,?_,?_⟩⟩
    ·rw[v3,← hr,List.length_reverse]
    ·rw[v5,hr]
   exact Vq L run k fr6 hp6 wr6 (ztx z) (kr z) v2 hO5
noncomputable def Oc:List PV→Option (List PV):=ctr (fun z:Int=>[bq z]) (fun z=>Nb 2000000 z) fun z=>[zs z]
theorem Tn {x y:Int}(hx:Sm x)(hy:Sm y)(h:bq x=bq y):x=y:=by
 have h1:=cJ hx
 rw[h,cJ hy] at h1
 exact (Option.some.inj h1).symm
theorem JH:Ab.Spec base.P 98 Oc:=Ab.Spec.bQ (C:=CC []) (cV trivial) fun args rs h=>by
 obtain⟨z,hz,rfl,rfl⟩:=dz h
 have h9:(aG z.natAbs).length<400000:=hz.sm (by omega)
 by_cases h0:z=0
 ·subst h0
  obtain⟨st,x1,x2⟩:=Vp [] (runK (CC []) 1) 1 false
  exact⟨2,_,_,_,_,_,aX zz rfl x1 x2,rfl,Wk.refl rfl,trivial⟩
 ·obtain⟨st,x1,x2⟩:=JI [] (runK (CC []) (9*(aG z.natAbs).length+20)) (9*(aG z.natAbs).length+20) z h0 (by omega) (by omega)
  exact⟨_,_,_,_,_,_,aX zz rfl x1 x2,rfl,Wk.refl rfl,trivial⟩
theorem UT {L:Lst}(hL:bw L 98=fun a=>Oc (aK a))(run:ar)(z:Int){k:Nat}(hz:Nb k z)(hk:k≤2000000):aA L run 98 [bq z] (zs z) :=
 jZ VT hL (fun x y hx hy h=>by
  have h1:bq x=bq y:=by simpa using h
  rw[Tn (hx.sm (by omega)) (hy.sm (by omega)) h1]) run z (hz.mono hk) (ml · z) (jy z)
theorem aay:∀ (k x:Nat),x<10 ^ k→x<10 ^ nd k x
 | 0,x,h=>by simpa [nd] using h
 | k+1,x,h=>by
  by_cases h0:x=0
  ·subst h0;simp[nd]
  ·have:=aay k (x / 10) (by rw[Nat.pow_succ] at h;omega)
   rw[nd,o9 h0,cond_false,Nat.pow_succ]
   omega
theorem aax:∀ (k x:Nat),x≠0→x<10 ^ k→∃ e,nd k x=e+1∧10 ^ e≤x
 | 0,x,h0,h=>by simp at h;exact absurd h h0
 | k+1,x,h0,h=>by
  rw[nd,o9 h0,cond_false]
  by_cases h1:x / 10=0
  ·refine⟨0,?_,by omega⟩
   rw[h1]
   cases k <;> simp[nd]
  ·obtain⟨e,he,hl⟩:=aax k (x / 10) h1 (by rw[Nat.pow_succ] at h;omega)
   refine⟨e+1,by rw[he],?_⟩
   rw[Nat.pow_succ]
   omega
theorem TC (m:Nat){j:Nat}(hj:0<j):oV (aG m)≤j ↔ m<10 ^ j:=by
 have hok:=bU m
 have ht:=jk m
 have hv:=bZ m
 unfold oV
 cases hl:(aG m).getLast? with
 | none =>
  have:aG m=[]:=by simpa using hl
  have:=wI this
  subst this
  simp
  exact Nat.pow_pos (by omega)
 | some a =>
  obtain⟨l,e⟩:∃ l,aG m=l++[a]:=⟨(aG m).dropLast,by rw[List.getLast?_eq_some_iff] at hl;obtain⟨ys,h⟩:=hl;rw[h];simp⟩
  rw[e] at hok hv ⊢
  have ha0:=ht l a e
  have ha9:a<10 ^ 9:=Nat.lt_of_lt_of_le (hok a (by simp)) (by decide)
  have h1:=aay 9 a ha9
  obtain⟨q,h2,h3⟩:=aax 9 a ha0 ha9
  rw[dG] at hv
  have hvl:=eL hok.left
  have e9:(1000000000:Nat) ^ l.length=10 ^ (9*l.length):=by
   have:(1000000000:Nat)=10 ^ 9:=by decide
   rw[this,← Nat.pow_mul]
  rw[e9] at hv hvl
  have hp:0<10 ^ (9*l.length):=Nat.pow_pos (by omega)
  simp only[List.length_append,List.length_cons,List.length_nil,Nat.zero_add,Nat.add_sub_cancel]
  have hup:m<10 ^ (9*l.length+nd 9 a):=by
   rw[Nat.pow_add,← hv]
   calc val l+10 ^ (9*l.length)*a<10 ^ (9*l.length)+10 ^ (9*l.length)*a:=by omega
    _=10 ^ (9*l.length)*(a+1):=by rw[Nat.mul_succ];omega
    _≤_:=Nat.mul_le_mul_left _ h1
  have hlo:10 ^ (9*l.length+q)≤m:=by
   rw[Nat.pow_add,← hv]
   exact Nat.le_trans (Nat.mul_le_mul_left _ h3) (by omega)
  constructor
  ·intro h
   exact Nat.lt_of_lt_of_le hup (Nat.pow_le_pow_right (by omega) h)
  ·intro h
   have h4:=Nat.lt_of_le_of_lt hlo h
   have:=(Nat.pow_lt_pow_iff_right (by omega:1<10)).1 h4
   omega
theorem TD (z:Int):decide (1000<oV (aG z.natAbs)) = !pB (Nb 1000 z):=by
 have h:=TC z.natAbs (j:=1000) (by omega)
 by_cases hn:Nb 1000 z
 ·have:=h.2 hn
  rw[j0 hn,decide_eq_false (by omega)];rfl
 ·have : ¬ oV (aG z.natAbs)≤1000:=fun e=>hn (h.1 e)
  rw[jw hn,decide_eq_true (by omega)];rfl
theorem UL {k:Nat} : Nb (k+1) 1:=Nat.one_lt_pow (by omega) (by omega)
theorem tZ {k:Nat} : Nb k 0:=Nat.pow_pos (by omega)
theorem KL {u:Option Rat}{j:Nat}(hu:Rb j (vv u))(h:j≤1000000):lL [rv u]=some [.sc (.bool (!pB (Rb 1000 (vv u))))]:=by
 obtain⟨b,b1,b2,b3,b4⟩:=mq hu (by omega)
 simp only[lL,b3,TD]
 have hb:Nb 1000 b ↔ Nb 1000 (vv u).den:=by
  rw[← b2]
  unfold dC
  split
  ·rename_i e
   subst e
   exact⟨fun _=>UL,fun _=>tZ⟩
  ·exact Iff.rfl
 by_cases h1:Nb 1000 (vv u).num
 ·by_cases h2:Nb 1000 b
  ·rw[j0 h1,j0 h2,j0 ⟨h1,hb.1 h2⟩];rfl
  ·rw[j0 h1,jw h2,jw fun e=>h2 (hb.2 e.2)];rfl
 ·have h3 : ¬ Rb 1000 (vv u):=fun e=>h1 e.1
  rw[jw h1,jw h3];simp
theorem qX {s:ByteArray}{z:Int}(h:bys s=ztx z):eQ s=z∧ir s=true:=by
 unfold eQ ir
 rw[Fk h]
 exact⟨rfl,rfl⟩
theorem lO {s:ByteArray}(h:ir s=true):bys s=ztx (eQ s):=by
 unfold ir at h
 cases e:gH s with
 | none=>rw[e] at h;cases h
 | some z=>rw[ss e];unfold eQ;rw[e]
theorem Hx {l:List Nat}{z:Int}{k:Nat}(h:l=ztx z)(h9:l.length≤k):Nb k z:=by
 rw[h,fZ] at h9
 have:=uc z
 unfold Ab.eh at h9 this
 exact (rL (by omega)).1 (by omega)
theorem DV (s:ByteArray){k:Nat}(h9:(bys s).length≤k):Nb k (eQ s):=by
 unfold eQ
 cases e:gH s with
 | none=>exact tZ
 | some z=>exact Hx (ss e) h9
theorem Nb.gcd {k:Nat}{d:Int}(h:Nb k d)(n:Int)(h0:d≠0):Nb k (Int.ofNat (Nat.gcd n.natAbs d.natAbs)):=by
 unfold Nb at *
 refine Nat.lt_of_le_of_lt ?_ h
 exact Nat.le_of_dvd (by omega) (Nat.gcd_dvd_right _ _)
theorem Nb.afZ {k:Nat}{n:Int}(h:Nb k n)(d:Int)(h0:n≠0):Nb k (Int.ofNat (Nat.gcd n.natAbs d.natAbs)):=by
 unfold Nb at *
 refine Nat.lt_of_le_of_lt ?_ h
 exact Nat.le_of_dvd (by omega) (Nat.gcd_dvd_left _ _)
theorem Nb.afY {k:Nat}{n d:Int}(h:Nb k n)(h':Nb k d):Nb k (Int.ofNat (Nat.gcd n.natAbs d.natAbs)):=by
 by_cases h0:n=0
 ·by_cases h1:d=0
  ·subst h0;subst h1;exact h
  ·exact h'.gcd n h1
 ·exact h.afZ d h0
theorem aeD (s:ByteArray)(h9:(bys s).length≤1000000):∃ n d,rrF [.sc (.string s)]=some [cb n d,.sc (.bool (pB (IsQ s)))]∧(∀ x,s=qb x→cb n d=rv (some x))∧Nb 1000000 n∧Nb 1000000 d:=by
 obtain⟨c1,c2,c3,c4⟩:=ZO s (by omega)
 have hl:=tE (bys s)
 have hb:(bys s).length.blt 3000000=true:=by rw[Nat.blt_eq];omega
 have hnA:Nb 1000000 (eQ (jn s)):=DV _ (by rw[c2];omega)
 simp only[rrF,hb,c1,Bool.and_self,cond_true]
 cases hk:ir (jn s) && tw s with
 | false =>
  rw[cond_false]
  refine⟨eQ (jn s),1,?_,?_,hnA,(UL (k:=0)).mono (by omega)⟩
  ·have e:ir (jn s)=pB (IsQ s):=by
    cases hA:ir (jn s) with
    | false =>
     rw[jw]
     rintro⟨x,hx⟩
     have h1:=ky x
     rw[← hx] at h1
     have h2:=(qX (s:=jn s) (z:=x.num) (by rw[c2,h1])).2
     rw[hA] at h2;cases h2
    | true =>
     rw[hA,Bool.true_and] at hk
     rw[j0]
     exact⟨_,IZ (by rw[← c3,hk]) (by rw[← c2];exact lO hA)⟩
   rw[e]
  ·intro x hx
   have h1:=ky x
   rw[← hx] at h1
   have h2:=qX (s:=jn s) (z:=x.num) (by rw[c2,h1])
   rw[h2.2,Bool.true_and,c3,h1] at hk
   have h3:(x.den:Int)=1:=by simpa using hk
   rw[h2.1,nS,h3]
 | true =>
  rw[cond_true]
  simp only[Bool.and_eq_true] at hk
  have hB:=c4 hk.2
  have hzA:=lO hk.1
  rw[c2] at hzA
  have hs2:(spl (bys s)).2.2=true:=by rw[← c3];exact hk.2
  have hnB:Nb 1000000 (eQ (jm s)):=by
   refine DV _ ?_
   rw[hB]
   unfold spl at hs2 ⊢
   cases e:fC (bys s) with
   | none=>rw[e] at hs2;cases hs2
   | some j=>simp only[List.length_drop];omega
  generalize eQ (jn s)=n at *
  unfold abb
  rw[hnA.smB (by omega),hnB.smB (by omega),(hnA.afY hnB).smB (by omega)]
  simp only[Bool.and_self,cond_true]
  cases hbad:uN (ir (jm s)) n.sign (fF (eQ (jm s)) 1) (fF (Int.ofNat (Nat.gcd n.natAbs (eQ (jm s)).natAbs)) 1) with
  | true =>
   rw[cond_true]
   have hno : ¬ IsQ s:=by
    intro hq
    cases hkB:ir (jm s) with
    | false =>
     obtain⟨x,hx⟩:=hq
     have h1:=ky x
     rw[← hx] at h1
     have:=(qX (s:=jm s) (z:=x.den) (by rw[hB,h1])).2
     rw[hkB] at this;cases this
    | true =>
     have hzB:=lO hkB
     rw[hB] at hzB
     obtain⟨q1,q2,q3⟩:=C5 hs2 hzA hzB hq
     rw[hkB,q3] at hbad
     have e1:(n.sign == 0)=false:=by rw[beq_eq_false_iff_ne];exact fun e=>q1 (Int.sign_eq_zero_iff_zero.1 e)
     have e2:decide (fF (eQ (jm s)) 1≤0)=false:=by
      rw[decide_eq_false_iff_not]
      unfold fF
      rw[if_neg (by omega),if_neg (by omega)];decide
     unfold uN at hbad
     rw[e1,e2] at hbad
     revert hbad
     decide
   refine⟨0,0,by rw[jw hno],fun x hx=>absurd ⟨x,hx⟩ hno,tZ,tZ⟩
  | false =>
   rw[cond_false]
   unfold uN at hbad
   simp only[Bool.or_eq_false_iff,Bool.not_eq_false',beq_eq_false_iff_ne,decide_eq_false_iff_not,bne_eq_false_iff_eq] at hbad
   obtain⟨hkB,-,h2,h3⟩:=hbad
   have hzB:=lO hkB
   rw[hB] at hzB
   have hd:2≤eQ (jm s):=by
    unfold fF at h2
    by_cases h4:eQ (jm s)<1
    ·rw[if_pos h4] at h2;exact absurd (by decide) h2
    ·rw[if_neg h4] at h2
     by_cases h5:eQ (jm s)=1
     ·rw[if_pos h5] at h2;exact absurd (by decide) h2
     ·omega
   have hg:Nat.gcd n.natAbs (eQ (jm s)).natAbs=1:=by
    unfold fF at h3
    generalize Nat.gcd n.natAbs (eQ (jm s)).natAbs=g at *
    by_cases h4:Int.ofNat g<1
    ·rw[if_pos h4] at h3;exact absurd h3 (by decide)
    ·rw[if_neg h4] at h3
     by_cases h5:Int.ofNat g=1
     ·exact Int.ofNat.inj h5
     ·rw[if_neg h5] at h3;exact absurd h3 (by decide)
   obtain⟨x,hx,e1,e2⟩:=C4 hs2 hzA hzB hd hg
   refine⟨n,eQ (jm s),by rw[j0 ⟨x,hx⟩],fun y hy => ?_,hnA,hnB⟩
   have:x=y:=vy (by rw[← hx,← hy])
   subst this
   rw[nS,e1,e2]
end Go.Proofs.YtjdmodeenbdfpaaGreat
