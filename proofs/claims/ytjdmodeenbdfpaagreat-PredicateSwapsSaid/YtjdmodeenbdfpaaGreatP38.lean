/- Contracts of fractions, clouds and predicates, part 38 of the proof; each lemma states its own conditions. -/
import Derived.Test.YtjdmodeenbdfpaaGreatP37
set_option linter.unusedSimpArgs false
set_option linter.unusedVariables false
namespace Go.Proofs.YtjdmodeenbdfpaaGreat
open Go Go.Ab
theorem Br:∀ {ds:List Nat},Dok ds→T.val (ds.flatMap (T.cT 9))=val ds
 | [],_=>rfl
 | a::l,h=>by
  have h1:T.val (T.cT 9 a)=a:=T.fc 9 a (Nat.lt_of_lt_of_le h.head (by decide))
  rw[List.flatMap_cons,T.gQ,h1,T.de,Br h.tail]
  rfl
theorem I1:∀ (ds:List Nat),T.Dok (ds.flatMap (T.cT 9))
 | []=>T.Dok.nil
 | a::l=>by rw[List.flatMap_cons];exact (T.fY 9 a).append (I1 l)
theorem xO {F:List Nat}(h:∀ m,m<F.length→at0 F m=0):T.val F=0:=by
 have:F=List.replicate F.length 0:=AR (by simp) fun m hm=>by rw[h m hm,cV (by simpa using hm)];simp
 rw[this,T.mX]
theorem N9 {F:List Nat}(h:T.val F≠0):∃ m,m<F.length∧at0 F m≠0:=by
 apply Classical.byContradiction
 intro hn
 refine h (xO fun m hm => ?_)
 apply Classical.byContradiction
 intro he
 exact hn ⟨m,hm,he⟩
theorem Zn (F:List Nat)(m:Nat)(h:m<F.length):at0 (F.map (· + 48)) m=at0 F m+48:=by
 rw[cV (by simpa using h),cV h];simp
theorem J1 {F:List Nat}(hF:T.Dok F){c:Nat}(hc:c<F.length)(h1:at0 F c≠0)(h2:∀ j,c<j→j<F.length→at0 F j=0):F.take (c+1)=T.aA (T.val F):=by
 have e:=(List.take_append_drop (c+1) F)
 have hz:T.val (F.drop (c+1))=0:=xO fun m hm=>by
  have:at0 (F.drop (c+1)) m=at0 F (c+1+m):=by unfold at0;rw[List.getElem?_drop]
  rw[this]
  rw[List.length_drop] at hm
  exact h2 _ (by omega) (by omega)
 have hv:T.val F=T.val (F.take (c+1)):=by
  conv=>lhs;rw[← e]
  rw[T.gQ,hz,Nat.mul_zero,Nat.add_zero]
 rw[hv]
 refine (T.jE (hF.take _) ?_).symm
 intro m a ea
 have hl:=congrArg List.length ea
 rw[List.length_take,Nat.min_eq_left (by omega),List.length_append] at hl
 simp only[List.length_cons,List.length_nil] at hl
 have h3:at0 (F.take (c+1)) c=a:=by
  rw[ea];unfold at0
  rw[List.getElem?_append_right (by omega)]
  have:c - m.length=0:=by omega
  rw[this];rfl
 have h4:at0 (F.take (c+1)) c=at0 F c:=by unfold at0;rw[List.getElem?_take_of_lt (by omega)]
 rw[← h3,h4]
 exact h1
noncomputable def U6:Code:=seq1 (seq1 (ah 3 wxC))
noncomputable def H9:Code:=seq1 (seq1 (ah 6 wxC))
theorem aag:ah 3 wxC = .seq (.seq U6 (.block 0 (.loop wxO))) (ah 4 wxC):=rfl
theorem aaf:ah 4 wxC = .seq (.block 4 (.loop wxT)) (ah 5 wxC):=rfl
theorem aae:ah 5 wxC = .seq wxN (ah 6 wxC):=rfl
theorem aad:ah 6 wxC = .seq (.seq H9 (.block 6 (.loop wxS))) (ah 7 wxC):=rfl
theorem U2 (L:Lst)(run:aq)(k:Nat)(m:Bool):∃ st,af (CC L) run k wxC ⟨entry 81 [.agg [.sc (.bool m),aL []]],[],[]⟩=some (.ret,st)∧aZ TT st.fr st.hp Tryz.f98.results.toList=some [zs 0]:=by
 obtain⟨e1,e2⟩:=cP 80 (.agg [.sc (.bool m),aL []])
 generalize entry 81 [.agg [.sc (.bool m),aL []]]=fr0 at *
 have hz:zs 0 = .sc (.string { data:=#[48] }):=rfl
 rw[hz]
 simp[wxC,Tryz.f98,e1,e2,af,aH,an,ao,aG,ag,ai,aj,ak,aC,az,FP.none,bc,ar,bd,au,bH,bG,partOf,aa,ae,ab,bf,ca,bg,aM,aV,aU,bn,uW,uD,wf0,wf1,sD,aD,aZ]
theorem aaj (L:Lst)(run:aq)(k:Nat)(m:Bool)(l:List Nat)(hl:l≠[]) :
  ∃ fr wr,aY (CC L) run k 2 wxC ⟨entry 81 [.agg [.sc (.bool m),aL l]],[],[]⟩=some ⟨fr,[⟨.live,[.sc (.bool m),aL l]⟩],wr⟩∧fr.length=81∧nth fr 1 = .ptr 0 0:=by
 obtain⟨e1,e2⟩:=cP 80 (.agg [.sc (.bool m),aL l])
 generalize entry 81 [.agg [.sc (.bool m),aL l]]=fr0 at *
 have hl0:((l.length:Int) == 0)=false:=by
  rw[beq_eq_false_iff_ne]
  have:l.length≠0:=fun e=>hl (List.length_eq_zero_iff.1 e)
  omega
 simp[wxC,Tryz.f98,aY,e1,e2,af,aH,an,ao,aG,ag,ai,aj,ak,aC,az,FP.none,bc,ar,bd,au,bH,bG,partOf,aa,ae,ab,bf,and_assoc,ca,bg,aM,aV,aU,bn,uW,uD,wf0,wf1,sD,aD,hl0]
noncomputable def aak:Code:=seq1 (ah 2 wxC)
theorem aah:ah 2 wxC = .seq aak (ah 3 wxC):=rfl
theorem ado (L:Lst)(run:aq)(k:Nat)(fr:List PV)(b:Blk)(wr:List Nat)(m:Bool)(l:List Nat)(c:Nat)(hb:b=⟨.live,[.sc (.bool m),aL l]⟩)(hw1:bu .i64 (9*(l.length:Int))=(c:Int))(hw2:bu .i64 ((c:Int)+1)=(c:Int)+1)(hm2:c+1≤cI)(h0:fr.length=81)(h1:nth fr 1 = .ptr 0 0) :
  ∃ fr' wr',af (CC L) run k aak ⟨fr,[b],wr⟩=some (.normal,⟨fr',[b,⟨.live,[]⟩],wr'⟩)∧fr'.length=81∧nth fr' 1 = .ptr 0 0∧nth fr' 3 = .own 1 1 0 0 false:=by
 subst hb
 simp[aak,wxC,seq1,ah,Tryz.f98,h0,h1,af,aH,an,ao,aG,ag,ai,aj,ak,aC,az,FP.none,bc,ar,bd,au,bH,bG,jo,iw,partOf,aa,ae,ab,bf,and_assoc,ca,aM,aV,aU,bn,uW,uD,wf0,wf1,sD,aD,hw1,hw2,hm2,oS,sU8,bU8,zU8,bS,rep]
theorem adn (L:Lst)(run:aq)(k:Nat)(fr:List PV)(hp:List Blk)(wr:List Nat)(m:Bool)(l:List Nat)(h0:fr.length=81)(h1:nth fr 1 = .ptr 0 0)(hb:aV hp 0=some ⟨.live,[.sc (.bool m),aL l]⟩) :
  ∃ fr',af (CC L) run k U6 ⟨fr,hp,wr⟩=some (.normal,⟨fr',hp,wr⟩)∧WF fr' l 0∧nth fr' 3=nth fr 3:=by
 simp[WF,iv,U6,wxC,ah,seq1,Tryz.f98,h0,h1,hb,af,aH,an,ao,aG,ag,ai,aj,ak,aC,az,FP.none,au,bH,bG,partOf,aa,ae,ab,bf,and_assoc,ca,aU,bn,uW,uD,wf0,wf1,sD,aD]
theorem aai (L:Lst)(run:aq)(k:Nat)(fr:List PV)(hp:List Blk)(wr:List Nat)(n:Nat)(hn9:n<100000000)(h0:fr.length=81)(h3:eM (nth fr 3)=some n) :
  ∃ fr',af (CC L) run k H9 ⟨fr,hp,wr⟩=some (.normal,⟨fr',hp,wr⟩)∧fr'.length=81∧nth fr' 3=nth fr 3∧nth fr' 6=iv 0∧nth fr' 7 = .sc (.int .i64 ((n:Int) - 1)):=by
 have hw:=cG n (by omega)
 simp[iv,H9,wxC,ah,seq1,Tryz.f98,h0,h3,af,aH,an,ao,aG,ag,ai,aj,ak,aC,az,FP.none,bc,ar,bd,au,bH,aa,ae,ab,bf,oS,hw]
theorem U3 (L:Lst)(run:aq)(k:Nat)(fr:List PV)(hp:List Blk)(wr:List Nat)(l:List Nat)(hl:Bok l)(h0:fr.length=81)(hO:dh u8v 1 hp l (nth fr 3)) :
  ∃ st,af (CC L) run k (ah 7 wxC) ⟨fr,hp,wr⟩=some (.ret,st)∧aZ TT st.fr st.hp Tryz.f98.results.toList=some [.sc (.string (tx l))]:=by
 obtain⟨ids,h1⟩:=hO.s.rd
 have h2:=Ej hl
 have hcv:dn TT hp 43 94 (nth fr 3)=some (.sc (.string (tx l)),ids):=by
  have h3:tx l=mkStr (l.map UInt8.ofNat):=rfl
  rw[h3]
  obtain⟨-,h⟩:=hO
  rcases h with ⟨rfl,h⟩| ⟨id,m,-,-,h,-⟩
  ·rw[h] at h1 ⊢
   simp only[dn,oS,uAI,u8T,h1,h2]
  ·rw[h] at h1 ⊢
   simp only[dn,oS,uAI,u8T,h1,h2]
 simp[wxC,ah,Tryz.f98,af,aH,an,ao,aG,ag,ai,aj,ak,aC,az,FP.none,aa,ab,bf,h0,hcv,aZ]
theorem Bk (L:Lst)(run:aq)(k:Nat)(l z:List Nat)(id n:Nat)(hn9:n<100000000)(hn:l.length=n):∀ (d i:Nat) (fr:List PV) (hp:List Blk) (wr cur:List Nat),i+d=n / 2→cur.length=n→id<hp.length→aV hp id=some ⟨.live,(cur++z).map u8v⟩ →
  (∀ m,m<n→at0 cur m=if m<i∨n - i≤m then at0 l (n - 1 - m) else at0 l m)→fr.length=81→nth fr 3 = .own id 1 0 n false→nth fr 6=iv i→nth fr 7 = .sc (.int .i64 ((n:Int) - 1 - i)) →
  ∃ (fr':List PV) (hp':List Blk) (wr':List Nat),bX (af (CC L) run k wxS) (d+1) ⟨fr,hp,wr⟩=some (.exit 6,⟨fr',hp',wr'⟩)∧fr'.length=81∧nth fr' 3 = .own id 1 0 n false∧id<hp'.length∧aV hp' id=some ⟨.live,(l.reverse++z).map u8v⟩
 | 0,i,fr,hp,wr,cur,hd,hc,hid,hb,hI,h0,h3,h6,h7=>by
  obtain⟨fr',g1,g2,g3⟩:=U5 L run k fr hp wr i (n - i) (by omega) h0 h6 (by rw[h7];congr 2;omega)
  have e:cur=l.reverse:=AR (by simp[hc,hn]) fun m hm=>by
   rw[hc] at hm
   rw[hI m hm,JH l m (by omega),hn]
   by_cases h1:m<i∨n - i≤m
   ·rw[if_pos h1]
   ·rw[if_neg h1]
    congr 1
    omega
  refine⟨fr',hp,wr,bw g1,g2,by rw[g3,h3],hid,?_⟩
  rw[← e];exact hb
 | d+1,i,fr,hp,wr,cur,hd,hc,hid,hb,hI,h0,h3,h6,h7=>by
  obtain⟨j,hj⟩:∃ j,n=i+j+1:=⟨n - i - 1,by omega⟩
  have hij:i<j:=by omega
  obtain⟨fr1,wr1,g1,g2,g3,g4,g5⟩:=JS L run k fr hp wr (cur++z) id n i j hn9 (by simp;omega) hb hij (by omega) h0 h3 h6 (by rw[h7];congr 2;omega)
  have ha:at0 (cur++z) i=at0 cur i:=by unfold at0;rw[List.getElem?_append_left (by omega)]
  have hb':at0 (cur++z) j=at0 cur j:=by unfold at0;rw[List.getElem?_append_left (by omega)]
  have e1:((cur++z).set i (at0 cur j)).set j (at0 cur i)=((cur.set i (at0 cur j)).set j (at0 cur i))++z:=by
   rw[List.set_append_left _ _ (by omega),List.set_append_left _ _ (by rw[List.length_set];omega)]
  rw[ha,hb',e1] at g1
  have hb1:aV (bP (bP hp id ⟨.live,((cur++z).set i (at0 cur j)).map u8v⟩) id ⟨.live,(((cur.set i (at0 cur j)).set j (at0 cur i))++z).map u8v⟩) id=some ⟨.live,(((cur.set i (at0 cur j)).set j (at0 cur i))++z).map u8v⟩:=by
   rw[cD (b0:=⟨.live,((cur++z).set i (at0 cur j)).map u8v⟩) (by rw[cD hb,if_pos rfl]),if_pos rfl]
  have hai:=hI i (by omega)
  have haj:=hI j (by omega)
  rw[if_neg (by omega)] at hai haj
  obtain⟨fr',hp',wr',q1,q2⟩:=Bk L run k l z id n hn9 hn d (i+1) fr1 _ wr1 ((cur.set i (at0 cur j)).set j (at0 cur i)) (by omega) (by simp[hc]) (by rw[bz,bz];exact hid) hb1
   (fun m hm=>by
    rw[lI _ _ _ _ (by rw[List.length_set];omega),lI _ _ _ _ (by omega)]
    by_cases e2:m=j
    ·rw[if_pos e2,hai,if_pos (by omega)]
     congr 1
     omega
    ·rw[if_neg e2]
     by_cases e3:m=i
     ·rw[if_pos e3,haj,if_pos (by omega)]
      congr 1
      omega
     ·rw[if_neg e3,hI m hm]
      by_cases e4:m<i∨n - i≤m
      ·rw[if_pos e4,if_pos (by omega)]
      ·rw[if_neg e4,if_neg (by omega)]) g2 g3 g4 (by rw[g5];congr 2;omega)
  exact⟨fr',hp',wr',by rw[bV g1];exact q1,q2⟩
theorem J0 (L:Lst)(run:aq)(k:Nat)(z:Int)(hz:z≠0)(h9:(aA z.natAbs).length<1000000)(hk:9*(aA z.natAbs).length+20≤k) :
  ∃ st,af (CC L) run k wxC ⟨entry 81 [bk z],[],[]⟩=some (.ret,st)∧aZ TT st.fr st.hp Tryz.f98.results.toList=some [zs z]:=by
 have hne:aA z.natAbs≠[]:=fun e=>hz (by have:=wI e;omega)
 have hv:val (aA z.natAbs)=z.natAbs:=bN _
 have hok:=bM z.natAbs
 have hm:∃ m,m=bq z:=⟨_,rfl⟩
 obtain⟨m,hm⟩:=hm
 have hz2:=gR z
 rw[← hm] at hz2
 show ∃ st,af (CC L) run k wxC ⟨entry 81 [.agg [.sc (.bool (bq z)),aL (aA z.natAbs)]],[],[]⟩=some (.ret,st)∧_
 rw[← hm]
 have hz3:z.natAbs≠0:=by omega
 generalize aA z.natAbs=ds at *
 obtain⟨fra,wra,z1,z2,z3⟩:=aaj L run k m ds hne
 rw[aO 2 z1,aah]
 obtain⟨fr,wr,a1,a2,a3,a4⟩:=ado L run k fra _ wra m ds (9*ds.length) rfl (by rw[show 9*(ds.length:Int)=((9*ds.length:Nat):Int) by omega];exact cb .i64 _ (hiI (Nat.le_trans (show 9*ds.length≤9000000 by omega) (by decide)))) (bF _ (Nat.lt_of_le_of_lt (show 9*ds.length≤9000000 by omega) (by decide))) (Nat.le_trans (show 9*ds.length+1≤9000001 by omega) (by decide)) z2 z3
 rw[aw a1,aag]
 obtain⟨fr1,b1,b2,b3⟩:=adn L run k fr [⟨.live,[.sc (.bool m),aL ds]⟩,⟨.live,[]⟩] wr m ds a2 a3 rfl
 have hO:dh u8v 1 [⟨.live,[.sc (.bool m),aL ds]⟩,⟨.live,[]⟩] [] (nth fr1 3):=by
  rw[b3,a4]
  exact⟨by simp,.inr ⟨1,[],by simp,by simp,rfl,rfl⟩⟩
 obtain⟨fr2,hp2,wr2,c1,c2,c3,c4⟩:=Bm L run k (by omega) ds hok h9 ds.length 0 fr1 _ wr [] (by omega) rfl b2 hO
 have hgo:=bE (i:=0) (bQ c1 (show ds.length+1≤k by omega))
 have hA:af (CC L) run k (.seq U6 (.block 0 (.loop wxO))) ⟨fr,[⟨.live,[.sc (.bool m),aL ds]⟩,⟨.live,[]⟩],wr⟩=some (.normal,⟨fr2,hp2,wr2⟩):=by
  rw[aw b1];exact hgo
 rw[aw hA,aaf]
 obtain⟨h0,h1,-⟩:=c2
 rw[List.nil_append,List.drop_zero] at c3
 have hF:=I1 ds
 have hFv:=Br hok
 have hFl:(ds.flatMap (T.cT 9)).length=9*ds.length:=by
  have:=(Sc1.ec il)
  rw[List.length_flatMap]
  simp only[T.de]
  rw[List.map_const',List.sum_replicate_nat,Nat.mul_comm]
 generalize ds.flatMap (T.cT 9)=F at *
 obtain⟨-,hO2⟩:=c3
 rcases hO2 with ⟨e,-⟩| ⟨id,mm,i1,i2,i3,i4⟩
 ·have:F.length=0:=by have:=congrArg List.length e;simpa using this
  have:ds.length≠0:=fun e=>hne (List.length_eq_zero_iff.1 e)
  omega
 ·have hdl:ds.length≠0:=fun e=>hne (List.length_eq_zero_iff.1 e)
  rw[List.length_map] at i3
  obtain⟨n,hn⟩:∃ n,F.length=n+1:=⟨F.length - 1,by omega⟩
  obtain⟨p,hp1,hp2'⟩:=N9 (F:=F) (by rw[hFv,hv];exact hz3)
  have at_lz:∀ j,j<F.length→at0 (F.map (· + 48)++mm) j=at0 F j+48:=fun j hj=>by
   rw[← Zn F j hj]
   unfold at0
   rw[List.getElem?_append_left (by simpa using hj)]
  rw[hn] at i3
  obtain⟨fr3,c,s1,s2,s3,s4,s5,s6,s7⟩:=Bj L run k hp2 wr2 (F.map (· + 48)++mm) id i4 n fr2 (by simp;omega) (by omega) ⟨p,by omega,by rw[at_lz p hp1];omega⟩ h0 h1 i3
  rw[aw (bE (i:=4) (bQ s1 (show n+1≤k by omega))),aae]
  have hcF:c<F.length:=by omega
  have hT:F.take (c+1)=T.aA z.natAbs:=by
   rw[← hv,← hFv]
   refine J1 hF hcF ?_ fun j h1 h2 => ?_
   ·rw[at_lz c hcF] at s6;omega
   ·have:=s7 j h1 (by omega)
    rw[at_lz j h2] at this
    omega
  have hO3:dh u8v 1 hp2 ((T.aA z.natAbs).map (· + 48)) (nth fr3 3):=by
   refine⟨by omega,.inr ⟨id,(F.drop (c+1)).map (· + 48)++mm,i1,i2,?_,?_⟩⟩
   ·rw[s4,← hT];simp;omega
   ·rw[i4,← hT,← List.append_assoc,← List.map_append,List.take_append_drop]
  have hlen:(T.aA z.natAbs).length<90000000:=by rw[← hT,List.length_take];omega
  have hb0:aV hp2 0=some ⟨.live,[.sc (.bool m),aL ds]⟩:=by rw[c4];rfl
  obtain⟨fr4,hp4,wr4,t1,t2,t3⟩:=NZ L run k fr3 hp2 wr2 m _ ds (by simpa using hlen) s2 s3 hb0 hO3
  rw[aw t1,aad]
  generalize hl:(T.aA z.natAbs).map (· + 48)++(bif m then [45] else [])=l at *
  have hll:l.length≤(T.aA z.natAbs).length+1:=by
   rw[← hl];cases m <;> simp
  have hlk:(T.aA z.natAbs).length≤9*ds.length:=by rw[← hT,List.length_take];omega
  obtain⟨fr5,u1,u2,u3,u4,u5⟩:=aai L run k fr4 hp4 wr4 l.length (by omega) t2 t3.s.len
  have hO4:=t3
  obtain⟨-,hO4⟩:=hO4
  rcases hO4 with ⟨e,-⟩| ⟨id',z',j1,j2,j3,j4⟩
  ·have h2:(T.aA z.natAbs).length≤l.length:=by rw[← hl];simp
   rw[e,List.length_nil] at h2
   have:=T.cN.2 hz3
   omega
  ·obtain⟨fr6,hp6,wr6,v1,v2,v3,v4,v5⟩:=Bk L run k l z' id' l.length (by omega) rfl (l.length / 2) 0 fr5 hp4 wr4 l (by omega) rfl j2 j4 (fun m hm=>by rw[if_neg (by omega)]) u2 (by rw[u3,j3]) u4 (by rw[u5];simp)
   have hB:af (CC L) run k (.seq H9 (.block 6 (.loop wxS))) ⟨fr4,hp4,wr4⟩=some (.normal,⟨fr6,hp6,wr6⟩):=by
    rw[aw u1];exact bE (i:=6) (bQ v1 (show l.length / 2+1≤k by omega))
   rw[aw hB]
   have hr:l.reverse=ztx z:=by
    rw[← hl,List.reverse_append,← List.map_reverse]
    have:ztx z=itx m z.natAbs:=by rw[tC,hz2]
    rw[this,itx,if_neg hz3]
    cases m <;> rfl
   have hO5:dh u8v 1 hp6 (ztx z) (nth fr6 3):=by
    refine⟨by omega,.inr ⟨id',z',j1,v4,?_,?_⟩⟩
    ·rw[v3,← hr,List.length_reverse]
    ·rw[v5,hr]
   exact U3 L run k fr6 hp6 wr6 (ztx z) (j5 z) v2 hO5
noncomputable def Oc:List PV→Option (List PV):=ctr (fun z:Int=>[bk z]) (fun z=>Nb 2000000 z) fun z=>[zs z]
theorem Te {x y:Int}(hx:Sm x)(hy:Sm y)(h:bk x=bk y):x=y:=by
 have h1:=cC hx
 rw[h,cC hy] at h1
 exact (Option.some.inj h1).symm
theorem JZ:Ab.Spec base.P 98 Oc:=Ab.Spec.bL (C:=CC []) (cU trivial) fun args rs h=>by
 obtain⟨z,hz,rfl,rfl⟩:=dj h
 have h9:(aA z.natAbs).length<400000:=hz.sm (by omega)
 by_cases h0:z=0
 ·subst h0
  obtain⟨st,x1,x2⟩:=U2 [] (runK (CC []) 1) 1 false
  exact⟨2,_,_,_,_,_,aQ zP rfl x1 x2,rfl,Wk.refl rfl,trivial⟩
 ·obtain⟨st,x1,x2⟩:=J0 [] (runK (CC []) (9*(aA z.natAbs).length+20)) (9*(aA z.natAbs).length+20) z h0 (by omega) (by omega)
  exact⟨_,_,_,_,_,_,aQ zP rfl x1 x2,rfl,Wk.refl rfl,trivial⟩
theorem UH {L:Lst}(hL:bt L 98=fun a=>Oc (aJ a))(run:aq)(z:Int){k:Nat}(hz:Nb k z)(hk:k≤2000000):av L run 98 [bk z] (zs z) :=
 jf VP hL (fun x y hx hy h=>by
  have h1:bk x=bk y:=by simpa using h
  rw[Te (hx.sm (by omega)) (hy.sm (by omega)) h1]) run z (hz.mono hk) (lJ · z) (jm z)
theorem ZU:∀ (k x:Nat),x<10 ^ k→x<10 ^ nd k x
 | 0,x,h=>by simpa [nd] using h
 | k+1,x,h=>by
  by_cases h0:x=0
  ·subst h0;simp[nd]
  ·have:=ZU k (x / 10) (by rw[Nat.pow_succ] at h;omega)
   rw[nd,oH h0,cond_false,Nat.pow_succ]
   omega
theorem ZT:∀ (k x:Nat),x≠0→x<10 ^ k→∃ e,nd k x=e+1∧10 ^ e≤x
 | 0,x,h0,h=>by simp at h;exact absurd h h0
 | k+1,x,h0,h=>by
  rw[nd,oH h0,cond_false]
  by_cases h1:x / 10=0
  ·refine⟨0,?_,by omega⟩
   rw[h1]
   cases k <;> simp[nd]
  ·obtain⟨e,he,hl⟩:=ZT k (x / 10) h1 (by rw[Nat.pow_succ] at h;omega)
   refine⟨e+1,by rw[he],?_⟩
   rw[Nat.pow_succ]
   omega
theorem Tq (m:Nat){j:Nat}(hj:0<j):oy (aA m)≤j ↔ m<10 ^ j:=by
 have hok:=bM m
 have ht:=iP m
 have hv:=bN m
 unfold oy
 cases hl:(aA m).getLast? with
 | none =>
  have:aA m=[]:=by simpa using hl
  have:=wI this
  subst this
  simp
  exact Nat.pow_pos (by omega)
 | some a =>
  obtain⟨l,e⟩:∃ l,aA m=l++[a]:=⟨(aA m).dropLast,by rw[List.getLast?_eq_some_iff] at hl;obtain⟨ys,h⟩:=hl;rw[h];simp⟩
  rw[e] at hok hv ⊢
  have ha0:=ht l a e
  have ha9:a<10 ^ 9:=Nat.lt_of_lt_of_le (hok a (by simp)) (by decide)
  have h1:=ZU 9 a ha9
  obtain⟨q,h2,h3⟩:=ZT 9 a ha0 ha9
  rw[dw] at hv
  have hvl:=eG hok.left
  have e9:(1000000000:Nat) ^ l.length=10 ^ (9*l.length):=by
   have:(1000000000:Nat)=10 ^ 9:=by decide
   rw[this,← Nat.pow_mul]
  rw[e9] at hv hvl
  have hp:0<10 ^ (9*l.length):=Nat.pow_pos (by omega)
  simp only[List.length_append,List.length_cons,List.length_nil,Nat.zero_add,Nat.add_sub_cancel]
  have hup:m<10 ^ (9*l.length+nd 9 a):=by
   rw[Nat.pow_add,← hv]
   calc val l+10 ^ (9*l.length)*a<10 ^ (9*l.length)+10 ^ (9*l.length)*a:=by omega
    _=10 ^ (9*l.length)*(a+1):=by rw[Nat.mul_succ];omega
    _≤_:=Nat.mul_le_mul_left _ h1
  have hlo:10 ^ (9*l.length+q)≤m:=by
   rw[Nat.pow_add,← hv]
   exact Nat.le_trans (Nat.mul_le_mul_left _ h3) (by omega)
  constructor
  ·intro h
   exact Nat.lt_of_lt_of_le hup (Nat.pow_le_pow_right (by omega) h)
  ·intro h
   have h4:=Nat.lt_of_le_of_lt hlo h
   have:=(Nat.pow_lt_pow_iff_right (by omega:1<10)).1 h4
   omega
theorem Ts (z:Int):decide (1000<oy (aA z.natAbs)) = !pB (Nb 1000 z):=by
 have h:=Tq z.natAbs (j:=1000) (by omega)
 by_cases hn:Nb 1000 z
 ·have:=h.2 hn
  rw[ji hn,decide_eq_false (by omega)];rfl
 ·have : ¬ oy (aA z.natAbs)≤1000:=fun e=>hn (h.1 e)
  rw[jj hn,decide_eq_true (by omega)];rfl
theorem Uy {k:Nat} : Nb (k+1) 1:=Nat.one_lt_pow (by omega) (by omega)
theorem tL {k:Nat} : Nb k 0:=Nat.pow_pos (by omega)
theorem K3 {u:Option Rat}{j:Nat}(hu:Rb j (vv u))(h:j≤1000000):mf [rv u]=some [.sc (.bool (!pB (Rb 1000 (vv u))))]:=by
 obtain⟨b,b1,b2,b3,b4⟩:=nS hu (by omega)
 simp only[mf,b3,Ts]
 have hb:Nb 1000 b ↔ Nb 1000 (vv u).den:=by
  rw[← b2]
  unfold dq
  split
  ·rename_i e
   subst e
   exact⟨fun _=>Uy,fun _=>tL⟩
  ·exact Iff.rfl
 by_cases h1:Nb 1000 (vv u).num
 ·by_cases h2:Nb 1000 b
  ·rw[ji h1,ji h2,ji ⟨h1,hb.1 h2⟩];rfl
  ·rw[ji h1,jj h2,jj fun e=>h2 (hb.2 e.2)];rfl
 ·have h3 : ¬ Rb 1000 (vv u):=fun e=>h1 e.1
  rw[jj h1,jj h3];simp
theorem qF {s:ByteArray}{z:Int}(h:bys s=ztx z):eK s=z∧gX s=true:=by
 unfold eK gX
 rw[FG h]
 exact⟨rfl,rfl⟩
theorem lh {s:ByteArray}(h:gX s=true):bys s=ztx (eK s):=by
 unfold gX at h
 cases e:gu s with
 | none=>rw[e] at h;cases h
 | some z=>rw[rT e];unfold eK;rw[e]
theorem HH {l:List Nat}{z:Int}{k:Nat}(h:l=ztx z)(h9:l.length≤k):Nb k z:=by
 rw[h,fT] at h9
 have:=tP z
 unfold Ab.dQ at h9 this
 exact (rh (by omega)).1 (by omega)
theorem Eu (s:ByteArray){k:Nat}(h9:(bys s).length≤k):Nb k (eK s):=by
 unfold eK
 cases e:gu s with
 | none=>exact tL
 | some z=>exact HH (rT e) h9
theorem Nb.gcd {k:Nat}{d:Int}(h:Nb k d)(n:Int)(h0:d≠0):Nb k (Int.ofNat (Nat.gcd n.natAbs d.natAbs)):=by
 unfold Nb at *
 refine Nat.lt_of_le_of_lt ?_ h
 exact Nat.le_of_dvd (by omega) (Nat.gcd_dvd_right _ _)
theorem Nb.afc {k:Nat}{n:Int}(h:Nb k n)(d:Int)(h0:n≠0):Nb k (Int.ofNat (Nat.gcd n.natAbs d.natAbs)):=by
 unfold Nb at *
 refine Nat.lt_of_le_of_lt ?_ h
 exact Nat.le_of_dvd (by omega) (Nat.gcd_dvd_left _ _)
theorem Nb.afb {k:Nat}{n d:Int}(h:Nb k n)(h':Nb k d):Nb k (Int.ofNat (Nat.gcd n.natAbs d.natAbs)):=by
 by_cases h0:n=0
 ·by_cases h1:d=0
  ·subst h0;subst h1;exact h
  ·exact h'.gcd n h1
 ·exact h.afc d h0
theorem adM (s:ByteArray)(h9:(bys s).length≤1000000):∃ n d,rrF [.sc (.string s)]=some [bT n d,.sc (.bool (pB (IsQ s)))]∧(∀ x,s=qb x→bT n d=rv (some x))∧Nb 1000000 n∧Nb 1000000 d:=by
 obtain⟨c1,c2,c3,c4⟩:=YY s (by omega)
 have hl:=tq (bys s)
 have hb:(bys s).length.blt 3000000=true:=by rw[Nat.blt_eq];omega
 have hnA:Nb 1000000 (eK (iT s)):=Eu _ (by rw[c2];omega)
 simp only[rrF,hb,c1,Bool.and_self,cond_true]
 cases hk:gX (iT s) && th s with
 | false =>
  rw[cond_false]
  refine⟨eK (iT s),1,?_,?_,hnA,(Uy (k:=0)).mono (by omega)⟩
  ·have e:gX (iT s)=pB (IsQ s):=by
    cases hA:gX (iT s) with
    | false =>
     rw[jj]
     rintro⟨x,hx⟩
     have h1:=j7 x
     rw[← hx] at h1
     have h2:=(qF (s:=iT s) (z:=x.num) (by rw[c2,h1])).2
     rw[hA] at h2;cases h2
    | true =>
     rw[hA,Bool.true_and] at hk
     rw[ji]
     exact⟨_,Jb (by rw[← c3,hk]) (by rw[← c2];exact lh hA)⟩
   rw[e]
  ·intro x hx
   have h1:=j7 x
   rw[← hx] at h1
   have h2:=qF (s:=iT s) (z:=x.num) (by rw[c2,h1])
   rw[h2.2,Bool.true_and,c3,h1] at hk
   have h3:(x.den:Int)=1:=by simpa using hk
   rw[h2.1,m9,h3]
 | true =>
  rw[cond_true]
  simp only[Bool.and_eq_true] at hk
  have hB:=c4 hk.2
  have hzA:=lh hk.1
  rw[c2] at hzA
  have hs2:(spl (bys s)).2.2=true:=by rw[← c3];exact hk.2
  have hnB:Nb 1000000 (eK (iR s)):=by
   refine Eu _ ?_
   rw[hB]
   unfold spl at hs2 ⊢
   cases e:fA (bys s) with
   | none=>rw[e] at hs2;cases hs2
   | some j=>simp only[List.length_drop];omega
  generalize eK (iT s)=n at *
  unfold aaO
  rw[hnA.smB (by omega),hnB.smB (by omega),(hnA.afb hnB).smB (by omega)]
  simp only[Bool.and_self,cond_true]
  cases hbad:uC (gX (iR s)) n.sign (fE (eK (iR s)) 1) (fE (Int.ofNat (Nat.gcd n.natAbs (eK (iR s)).natAbs)) 1) with
  | true =>
   rw[cond_true]
   have hno : ¬ IsQ s:=by
    intro hq
    cases hkB:gX (iR s) with
    | false =>
     obtain⟨x,hx⟩:=hq
     have h1:=j7 x
     rw[← hx] at h1
     have:=(qF (s:=iR s) (z:=x.den) (by rw[hB,h1])).2
     rw[hkB] at this;cases this
    | true =>
     have hzB:=lh hkB
     rw[hB] at hzB
     obtain⟨q1,q2,q3⟩:=Dr hs2 hzA hzB hq
     rw[hkB,q3] at hbad
     have e1:(n.sign == 0)=false:=by rw[beq_eq_false_iff_ne];exact fun e=>q1 (Int.sign_eq_zero_iff_zero.1 e)
     have e2:decide (fE (eK (iR s)) 1≤0)=false:=by
      rw[decide_eq_false_iff_not]
      unfold fE
      rw[if_neg (by omega),if_neg (by omega)];decide
     unfold uC at hbad
     rw[e1,e2] at hbad
     revert hbad
     decide
   refine⟨0,0,by rw[jj hno],fun x hx=>absurd ⟨x,hx⟩ hno,tL,tL⟩
  | false =>
   rw[cond_false]
   unfold uC at hbad
   simp only[Bool.or_eq_false_iff,Bool.not_eq_false',beq_eq_false_iff_ne,decide_eq_false_iff_not,bne_eq_false_iff_eq] at hbad
   obtain⟨hkB,-,h2,h3⟩:=hbad
   have hzB:=lh hkB
   rw[hB] at hzB
   have hd:2≤eK (iR s):=by
    unfold fE at h2
    by_cases h4:eK (iR s)<1
    ·rw[if_pos h4] at h2;exact absurd (by decide) h2
    ·rw[if_neg h4] at h2
     by_cases h5:eK (iR s)=1
     ·rw[if_pos h5] at h2;exact absurd (by decide) h2
     ·omega
   have hg:Nat.gcd n.natAbs (eK (iR s)).natAbs=1:=by
    unfold fE at h3
    generalize Nat.gcd n.natAbs (eK (iR s)).natAbs=g at *
    by_cases h4:Int.ofNat g<1
    ·rw[if_pos h4] at h3;exact absurd h3 (by decide)
    ·rw[if_neg h4] at h3
     by_cases h5:Int.ofNat g=1
     ·exact Int.ofNat.inj h5
     ·rw[if_neg h5] at h3;exact absurd h3 (by decide)
   obtain⟨x,hx,e1,e2⟩:=Dq hs2 hzA hzB hd hg
   refine⟨n,eK (iR s),by rw[ji ⟨x,hx⟩],fun y hy => ?_,hnA,hnB⟩
   have:x=y:=qQ (by rw[← hx,← hy])
   subst this
   rw[m9,e1,e2]
end Go.Proofs.YtjdmodeenbdfpaaGreat
