/- Contracts of fractions, clouds and predicates, part 24; each lemma states its conditions. -/
import Derived.Test.YtjdmodeenbdfpaaGreatW23
set_option linter.unusedSimpArgs false
set_option linter.unusedVariables false
noncomputable section
namespace Go.Proofs.YtjdmodeenbdfpaaGreat
open Go Go.Ab List Tryz
attribute [local simp] FzZ aA aC aF aG aH aX aZ aa ab ae af ah ai aj an ao aq au av bL bc bf bg iv partOf seq1
variable(L:Lst)(run:aw)(k:Nat)(fr:Ψ)(hp:Ω)(wr:Θ)
theorem C4:∀ {ds:Ω},Dok ds→T.val (ds.flatMap (T.db 9))=val ds
 | [],_=>rfl
 | a::l,h=>by
  have h1:T.val (T.db 9 a)=a:=T.fo 9 a (Nat.lt_of_lt_of_le h.head (by decide))
  rw[flatMap_cons,T.ie,h1,T.dp,C4 h.tail]
  rfl
theorem KN:∀ (ds:Ω),T.Dok (ds.flatMap (T.db 9))
 | []=>T.Dok.nil
 | a::l=>by rw[flatMap_cons];exact (T.gD 9 a).append (KN l)
theorem y7 {F:Ω}(h:∀ m,m<F.length→at0 F m=0):T.val F=0:=by
 have:F=List.replicate F.length 0:=Ci (by simp) fun m hm=>by rw[h m hm,df (by simpa using hm)];simp
 rw[this,T.oB]
theorem QK {F:Ω}(h:T.val F≠0):∃ m,m<F.length∧at0 F m≠0:=by
 apply Classical.byContradiction
 intro hn
 refine h (y7 fun m hm => ?_)
 apply Classical.byContradiction
 intro he
 exact hn ⟨m,hm,he⟩
theorem acu (F:Ω)(m:Nat)(h:m<F.length):at0 (F.map (· + 48)) m=at0 F m+48:=by
 rw[df (by simpa using h),df h];simp
theorem Mj {F:Ω}(hF:T.Dok F){c:Nat}(hc:c<F.length)(h1:at0 F c≠0)(h2:∀ j,c<j→j<F.length→at0 F j=0):F.take (c+1)=T.aK (T.val F):=by
 have e:=(take_append_drop (c+1) F)
 have hz:T.val (F.drop (c+1))=0:=y7 fun m hm=>by
  have:at0 (F.drop (c+1)) m=at0 F (c+1+m):=by unfold at0;rw[getElem?_drop]
  rw[this]
  rw[length_drop] at hm
  exact h2 _ (by omega) (by omega)
 have hv:T.val F=T.val (F.take (c+1)):=by
  conv=>lhs;rw[← e]
  rw[T.ie,hz,Nat.mul_zero,Nat.add_zero]
 rw[hv]
 refine (T.ku (hF.take _) ?_).symm
 intro m a ea
 have hl:=congrArg List.length ea
 rw[length_take,Nat.min_eq_left (by omega),length_append] at hl
 simp only[length_cons,length_nil] at hl
 have h3:at0 (F.take (c+1)) c=a:=by
  rw[ea];unfold at0
  rw[getElem?_append_right (by omega)]
  have:c - m.length=0:=by omega
  rw[this];rfl
 have h4:at0 (F.take (c+1)) c=at0 F c:=by unfold at0;rw[getElem?_take_of_lt (by omega)]
 rw[← h3,h4]
 exact h1
def Yl:Code:=seq1 (seq1 (ag 3 wxC))
def JK:Code:=seq1 (seq1 (ag 6 wxC))
theorem ads:ag 3 wxC = .seq (.seq Yl (.block 0 (.loop wxO))) (ag 4 wxC):=rfl
theorem adr:ag 4 wxC = .seq (.block 4 (.loop wxT)) (ag 5 wxC):=rfl
theorem adq:ag 5 wxC = .seq wxN (ag 6 wxC):=rfl
theorem adp:ag 6 wxC = .seq (.seq JK (.block 6 (.loop wxS))) (ag 7 wxC):=rfl
theorem X6(m:Bool):∃ st,af (CC L) run k wxC ⟨entry 81 [.agg [.sc (.bool m),aO []]],[],[]⟩=some (.ret,st)∧bc TT st.fr st.hp f98.results.toList=some [zs 0]:=by
 obtain⟨e1,e2⟩:=cL 80 (.agg [.sc (.bool m),aO []])
 generalize entry 81 [.agg [.sc (.bool m),aO []]]=fr0 at *
 have hz:zs 0 = .sc (.string { data:=#[48] }):=rfl
 rw[hz]
 simp[wxC,f98,e1,e2,bP,cn,bm,aL,aP,bq,uW,uD,wf0,wf1,sD,aD]
theorem adv (L:Lst)(run:aw)(k:Nat)(m:Bool)(l:Ω)(hl:l≠[]) :
  ∃ fr wr,ba (CC L) run k 2 wxC ⟨entry 81 [.agg [.sc (.bool m),aO l]],[],[]⟩=some ⟨fr,[⟨.live,[.sc (.bool m),aO l]⟩],wr⟩∧fr.length=81∧nth fr 1 = .ptr 0 0:=by
 obtain⟨e1,e2⟩:=cL 80 (.agg [.sc (.bool m),aO l])
 generalize entry 81 [.agg [.sc (.bool m),aO l]]=fr0 at *
 have hl0:((l.length:Int) == 0)=false:=by
  rw[beq_eq_false_iff_ne]
  have:l.length≠0:=fun e=>hl (length_eq_zero_iff.1 e)
  omega
 simp[wxC,f98,ba,e1,e2,bP,and_assoc,cn,bm,aL,aP,bq,uW,uD,wf0,wf1,sD,aD,hl0]
def adw:Code:=seq1 (ag 2 wxC)
theorem adt:ag 2 wxC = .seq adw (ag 3 wxC):=rfl
theorem ahi (L:Lst)(run:aw)(k:Nat)(fr:Ψ)(b:Blk)(wr:Ω)(m:Bool)(l:Ω)(c:Nat)(hb:b=⟨.live,[.sc (.bool m),aO l]⟩)(hw1:bF .i64 (9*(l.length:Int))=(c:Int))(hw2:bF .i64 ((c:Int)+1)=(c:Int)+1)(hm2:c+1≤cN)(h0:fr.length=81)(h1:nth fr 1 = .ptr 0 0) :
  ∃ fr' wr',af (CC L) run k adw ⟨fr,[b],wr⟩=some (.normal,⟨fr',[b,⟨.live,[]⟩],wr'⟩)∧fr'.length=81∧nth fr' 1 = .ptr 0 0∧nth fr' 3 = .own 1 1 0 0 false:=by
 subst hb
 simp[adw,wxC,ag,f98,h0,h1,bP,jX,ji,and_assoc,cn,aL,aP,bq,uW,uD,wf0,wf1,sD,aD,hw1,hw2,hm2,qu,sU8,bU8,zU8,bQ,rep]
theorem ahh (L:Lst)(run:aw)(k:Nat)(fr:Ψ)(hp:Θ)(wr:Ω)(m:Bool)(l:Ω)(h0:fr.length=81)(h1:nth fr 1 = .ptr 0 0)(hb:aP hp 0=some ⟨.live,[.sc (.bool m),aO l]⟩) :
  ∃ fr',af (CC L) run k Yl ⟨fr,hp,wr⟩=some (.normal,⟨fr',hp,wr⟩)∧WF fr' l 0∧nth fr' 3=nth fr 3:=by
 simp[WF,Yl,wxC,ag,f98,h0,h1,hb,bP,and_assoc,cn,bq,uW,uD,wf0,wf1,sD,aD]
theorem adu (L:Lst)(run:aw)(k:Nat)(fr:Ψ)(hp:Θ)(wr:Ω)(n:Nat)(hn9:n<100000000)(h0:fr.length=81)(h3:dy (nth fr 3)=some n) :
  ∃ fr',af (CC L) run k JK ⟨fr,hp,wr⟩=some (.normal,⟨fr',hp,wr⟩)∧fr'.length=81∧nth fr' 3=nth fr 3∧nth fr' 6=iv 0∧nth fr' 7 = .sc (.int .i64 ((n:Int) - 1)):=by
 have hw:=cM n (by omega)
 simp[JK,wxC,ag,f98,h0,h3,qu,hw]
theorem X7 (L:Lst)(run:aw)(k:Nat)(fr:Ψ)(hp:Θ)(wr:Ω)(l:Ω)(hl:Bok l)(h0:fr.length=81)(hO:dw u8v 1 hp l (nth fr 3)) :
  ∃ st,af (CC L) run k (ag 7 wxC) ⟨fr,hp,wr⟩=some (.ret,st)∧bc TT st.fr st.hp f98.results.toList=some [.sc (.string (tx l))]:=by
 obtain⟨ids,h1⟩:=hO.s.rd
 have h2:=FV hl
 have hcv:dI TT hp 43 94 (nth fr 3)=some (.sc (.string (tx l)),ids):=by
  have h3:tx l=mkStr (l.map UInt8.ofNat):=rfl
  rw[h3]
  obtain⟨-,h⟩:=hO
  rcases h with ⟨rfl,h⟩| ⟨id,m,-,-,h,-⟩
  ·rw[h] at h1 ⊢
   simp only[dI,qu,uAI,u8T,h1,h2]
  ·rw[h] at h1 ⊢
   simp only[dI,qu,uAI,u8T,h1,h2]
 simp[wxC,ag,f98,h0,hcv]
theorem CS (L:Lst)(run:aw)(k:Nat)(l z:Ω)(id n:Nat)(hn9:n<100000000)(hn:l.length=n):∀ (d i:Nat) (fr:Ψ) (hp:Θ) (wr cur:Ω),i+d=n / 2→cur.length=n→id<hp.length→aP hp id=some ⟨.live,(cur++z).map u8v⟩ →
  (∀ m,m<n→at0 cur m=if m<i∨n - i≤m then at0 l (n - 1 - m) else at0 l m)→fr.length=81→nth fr 3 = .own id 1 0 n false→nth fr 6=iv i→nth fr 7 = .sc (.int .i64 ((n:Int) - 1 - i)) →
  ∃ (fr':Ψ) (hp':Θ) (wr':Ω),ch (af (CC L) run k wxS) (d+1) ⟨fr,hp,wr⟩=some (.exit 6,⟨fr',hp',wr'⟩)∧fr'.length=81∧nth fr' 3 = .own id 1 0 n false∧id<hp'.length∧aP hp' id=some ⟨.live,(l.reverse++z).map u8v⟩
 | 0,i,fr,hp,wr,cur,hd,hc,hid,hb,hI,h0,h3,h6,h7=>by
  obtain⟨fr',g1,g2,g3⟩:=X9 L run k fr hp wr i (n - i) (by omega) h0 h6 (by rw[h7];congr 2;omega)
  have e:cur=l.reverse:=Ci (by simp[hc,hn]) fun m hm=>by
   rw[hc] at hm
   rw[hI m hm,LC l m (by omega),hn]
   by_cases h1:m<i∨n - i≤m
   ·rw[if_pos h1]
   ·rw[if_neg h1]
    congr 1
    omega
  refine⟨fr',hp,wr,bE g1,g2,by rw[g3,h3],hid,?_⟩
  rw[← e];exact hb
 | d+1,i,fr,hp,wr,cur,hd,hc,hid,hb,hI,h0,h3,h6,h7=>by
  obtain⟨j,hj⟩:∃ j,n=i+j+1:=⟨n - i - 1,by omega⟩
  have hij:i<j:=by omega
  obtain⟨fr1,wr1,g1,g2,g3,g4,g5⟩:=LV L run k fr hp wr (cur++z) id n i j hn9 (by simp;omega) hb hij (by omega) h0 h3 h6 (by rw[h7];congr 2;omega)
  have ha:at0 (cur++z) i=at0 cur i:=by unfold at0;rw[getElem?_append_left (by omega)]
  have hb':at0 (cur++z) j=at0 cur j:=by unfold at0;rw[getElem?_append_left (by omega)]
  have e1:((cur++z).set i (at0 cur j)).set j (at0 cur i)=((cur.set i (at0 cur j)).set j (at0 cur i))++z:=by
   rw[set_append_left _ _ (by omega),set_append_left _ _ (by rw[length_set];omega)]
  rw[ha,hb',e1] at g1
  have hb1:aP (bZ (bZ hp id ⟨.live,((cur++z).set i (at0 cur j)).map u8v⟩) id ⟨.live,(((cur.set i (at0 cur j)).set j (at0 cur i))++z).map u8v⟩) id=some ⟨.live,(((cur.set i (at0 cur j)).set j (at0 cur i))++z).map u8v⟩:=by
   rw[cI (b0:=⟨.live,((cur++z).set i (at0 cur j)).map u8v⟩) (by rw[cI hb,if_pos rfl]),if_pos rfl]
  have hai:=hI i (by omega)
  have haj:=hI j (by omega)
  rw[if_neg (by omega)] at hai haj
  obtain⟨fr',hp',wr',q1,q2⟩:=CS L run k l z id n hn9 hn d (i+1) fr1 _ wr1 ((cur.set i (at0 cur j)).set j (at0 cur i)) (by omega) (by simp[hc]) (by rw[bC,bC];exact hid) hb1
   (fun m hm=>by
    rw[mP _ _ _ _ (by rw[length_set];omega),mP _ _ _ _ (by omega)]
    by_cases e2:m=j
    ·rw[if_pos e2,hai,if_pos (by omega)]
     congr 1
     omega
    ·rw[if_neg e2]
     by_cases e3:m=i
     ·rw[if_pos e3,haj,if_pos (by omega)]
      congr 1
      omega
     ·rw[if_neg e3,hI m hm]
      by_cases e4:m<i∨n - i≤m
      ·rw[if_pos e4,if_pos (by omega)]
      ·rw[if_neg e4,if_neg (by omega)]) g2 g3 g4 (by rw[g5];congr 2;omega)
  exact⟨fr',hp',wr',by rw[ca g1];exact q1,q2⟩
theorem Mi(z:Int)(hz:z≠0)(h9:(aK z.natAbs).length<1000000)(hk:9*(aK z.natAbs).length+20≤k) :
  ∃ st,af (CC L) run k wxC ⟨entry 81 [br z],[],[]⟩=some (.ret,st)∧bc TT st.fr st.hp f98.results.toList=some [zs z]:=by
 have hne:aK z.natAbs≠[]:=fun e=>hz (by have:=x8 e;omega)
 have hv:val (aK z.natAbs)=z.natAbs:=bV _
 have hok:=bS z.natAbs
 have hm:∃ m,m=bw z:=⟨_,rfl⟩
 obtain⟨m,hm⟩:=hm
 have hz2:=ik z
 rw[← hm] at hz2
 show ∃ st,af (CC L) run k wxC ⟨entry 81 [.agg [.sc (.bool (bw z)),aO (aK z.natAbs)]],[],[]⟩=some (.ret,st)∧_
 rw[← hm]
 have hz3:z.natAbs≠0:=by omega
 generalize aK z.natAbs=ds at *
 obtain⟨fra,wra,z1,z2,z3⟩:=adv L run k m ds hne
 rw[aQ 2 z1,adt]
 obtain⟨fr,wr,a1,a2,a3,a4⟩:=ahi L run k fra _ wra m ds (9*ds.length) rfl (by rw[show 9*(ds.length:Int)=((9*ds.length:Nat):Int) by omega];exact cq .i64 _ (hiI (Nat.le_trans (show 9*ds.length≤9000000 by omega) (by decide)))) (bA _ (Nat.lt_of_le_of_lt (show 9*ds.length≤9000000 by omega) (by decide))) (Nat.le_trans (show 9*ds.length+1≤9000001 by omega) (by decide)) z2 z3
 rw[ar a1,ads]
 obtain⟨fr1,b1,b2,b3⟩:=ahh L run k fr [⟨.live,[.sc (.bool m),aO ds]⟩,⟨.live,[]⟩] wr m ds a2 a3 rfl
 have hO:dw u8v 1 [⟨.live,[.sc (.bool m),aO ds]⟩,⟨.live,[]⟩] [] (nth fr1 3):=by
  rw[b3,a4]
  exact⟨by simp,.inr ⟨1,[],by simp,by simp,rfl,rfl⟩⟩
 obtain⟨fr2,hp2,wr2,c1,c2,c3,c4⟩:=CT L run k (by omega) ds hok h9 ds.length 0 fr1 _ wr [] (by omega) rfl b2 hO
 have hgo:=bK (i:=0) (bT c1 (show ds.length+1≤k by omega))
 have hA:af (CC L) run k (.seq Yl (.block 0 (.loop wxO))) ⟨fr,[⟨.live,[.sc (.bool m),aO ds]⟩,⟨.live,[]⟩],wr⟩=some (.normal,⟨fr2,hp2,wr2⟩):=by
  rw[ar b1];exact hgo
 rw[ar hA,adr]
 obtain⟨h0,h1,-⟩:=c2
 rw[nil_append,drop_zero] at c3
 have hF:=KN ds
 have hFv:=C4 hok
 have hFl:(ds.flatMap (T.db 9)).length=9*ds.length:=by
  have:=(Sc1.ec iY)
  rw[length_flatMap]
  simp only[T.dp]
  rw[map_const',sum_replicate_nat,Nat.mul_comm]
 generalize ds.flatMap (T.db 9)=F at *
 obtain⟨-,hO2⟩:=c3
 rcases hO2 with ⟨e,-⟩| ⟨id,mm,i1,i2,i3,i4⟩
 ·have:F.length=0:=by have:=congrArg List.length e;simpa using this
  have:ds.length≠0:=fun e=>hne (length_eq_zero_iff.1 e)
  omega
 ·have hdl:ds.length≠0:=fun e=>hne (length_eq_zero_iff.1 e)
  rw[length_map] at i3
  obtain⟨n,hn⟩:∃ n,F.length=n+1:=⟨F.length - 1,by omega⟩
  obtain⟨p,hp1,hp2'⟩:=QK (F:=F) (by rw[hFv,hv];exact hz3)
  have at_lz:∀ j,j<F.length→at0 (F.map (· + 48)++mm) j=at0 F j+48:=fun j hj=>by
   rw[← acu F j hj]
   unfold at0
   rw[getElem?_append_left (by simpa using hj)]
  rw[hn] at i3
  obtain⟨fr3,c,s1,s2,s3,s4,s5,s6,s7⟩:=CR L run k hp2 wr2 (F.map (· + 48)++mm) id i4 n fr2 (by simp;omega) (by omega) ⟨p,by omega,by rw[at_lz p hp1];omega⟩ h0 h1 i3
  rw[ar (bK (i:=4) (bT s1 (show n+1≤k by omega))),adq]
  have hcF:c<F.length:=by omega
  have hT:F.take (c+1)=T.aK z.natAbs:=by
   rw[← hv,← hFv]
   refine Mj hF hcF ?_ fun j h1 h2 => ?_
   ·rw[at_lz c hcF] at s6;omega
   ·have:=s7 j h1 (by omega)
    rw[at_lz j h2] at this
    omega
  have hO3:dw u8v 1 hp2 ((T.aK z.natAbs).map (· + 48)) (nth fr3 3):=by
   refine⟨by omega,.inr ⟨id,(F.drop (c+1)).map (· + 48)++mm,i1,i2,?_,?_⟩⟩
   ·rw[s4,← hT];simp;omega
   ·rw[i4,← hT,← append_assoc,← map_append,take_append_drop]
  have hlen:(T.aK z.natAbs).length<90000000:=by rw[← hT,length_take];omega
  have hb0:aP hp2 0=some ⟨.live,[.sc (.bool m),aO ds]⟩:=by rw[c4];rfl
  obtain⟨fr4,hp4,wr4,t1,t2,t3⟩:=P6 L run k fr3 hp2 wr2 m _ ds (by simpa using hlen) s2 s3 hb0 hO3
  rw[ar t1,adp]
  generalize hl:(T.aK z.natAbs).map (· + 48)++(bif m then [45] else [])=l at *
  have hll:l.length≤(T.aK z.natAbs).length+1:=by
   rw[← hl];cases m <;> simp
  have hlk:(T.aK z.natAbs).length≤9*ds.length:=by rw[← hT,length_take];omega
  obtain⟨fr5,u1,u2,u3,u4,u5⟩:=adu L run k fr4 hp4 wr4 l.length (by omega) t2 t3.s.len
  have hO4:=t3
  obtain⟨-,hO4⟩:=hO4
  rcases hO4 with ⟨e,-⟩| ⟨id',z',j1,j2,j3,j4⟩
  ·have h2:(T.aK z.natAbs).length≤l.length:=by rw[← hl];simp
   rw[e,length_nil] at h2
   have:=T.cT.2 hz3
   omega
  ·obtain⟨fr6,hp6,wr6,v1,v2,v3,v4,v5⟩:=CS L run k l z' id' l.length (by omega) rfl (l.length / 2) 0 fr5 hp4 wr4 l (by omega) rfl j2 j4 (fun m hm=>by rw[if_neg (by omega)]) u2 (by rw[u3,j3]) u4 (by rw[u5];simp)
   have hB:af (CC L) run k (.seq JK (.block 6 (.loop wxS))) ⟨fr4,hp4,wr4⟩=some (.normal,⟨fr6,hp6,wr6⟩):=by
    rw[ar u1];exact bK (i:=6) (bT v1 (show l.length / 2+1≤k by omega))
   rw[ar hB]
   have hr:l.reverse=ztx z:=by
    rw[← hl,reverse_append,← map_reverse]
    have:ztx z=itx m z.natAbs:=by rw[vk,hz2]
    rw[this,itx,if_neg hz3]
    cases m <;> rfl
   have hO5:dw u8v 1 hp6 (ztx z) (nth fr6 3):=by
    refine⟨by omega,.inr ⟨id',z',j1,v4,?_,?_⟩⟩
    ·rw[v3,← hr,length_reverse]
    ·rw[v5,hr]
   exact X7 L run k fr6 hp6 wr6 (ztx z) (kX z) v2 hO5
def QR:Ψ→Option Ψ:=ctr (fun z:Int=>[br z]) (fun z=>Nb 2000000 z) fun z=>[zs z]
theorem VX {x y:Int}(hx:Sm x)(hy:Sm y)(h:br x=br y):x=y:=by
 have h1:=cJ hx
 rw[h,cJ hy] at h1
 exact (Option.some.inj h1).symm
theorem Mh:Ab.Spec base.P 98 QR:=Ab.Spec.bN (C:=CC []) (cP trivial) fun args rs h=>by
 obtain⟨z,hz,rfl,rfl⟩:=cV h
 have h9:(aK z.natAbs).length<400000:=hz.sm (by omega)
 by_cases h0:z=0
 ·subst h0
  obtain⟨st,x1,x2⟩:=X6 [] (runK (CC []) 1) 1 false
  exact⟨2,_,_,_,_,_,aV A7 rfl x1 x2,rfl,Wk.refl rfl,trivial⟩
 ·obtain⟨st,x1,x2⟩:=Mi [] (runK (CC []) (9*(aK z.natAbs).length+20)) (9*(aK z.natAbs).length+20) z h0 (by omega) (by omega)
  exact⟨_,_,_,_,_,_,aV A7 rfl x1 x2,rfl,Wk.refl rfl,trivial⟩
theorem XI {L:Lst}(hL:bt L 98=fun a=>QR (aJ a))(run:aw)(z:Int){k:Nat}(hz:Nb k z)(hk:k≤2000000):az L run 98 [br z] (zs z) :=
 fT YS hL (fun x y hx hy h=>by
  have h1:br x=br y:=by simpa using h
  rw[VX (hx.sm (by omega)) (hy.sm (by omega)) h1]) run z (hz.mono hk) (mQ · z) (jU z)
theorem acW:∀ (k x:Nat),x<10 ^ k→x<10 ^ nd k x
 | 0,x,h=>by simpa [nd] using h
 | k+1,x,h=>by
  by_cases h0:x=0
  ·subst h0;simp[nd]
  ·have:=acW k (x / 10) (by rw[Nat.pow_succ] at h;omega)
   rw[nd,qf h0,cond_false,Nat.pow_succ]
   omega
theorem acV:∀ (k x:Nat),x≠0→x<10 ^ k→∃ e,nd k x=e+1∧10 ^ e≤x
 | 0,x,h0,h=>by simp at h;exact absurd h h0
 | k+1,x,h0,h=>by
  rw[nd,qf h0,cond_false]
  by_cases h1:x / 10=0
  ·refine⟨0,?_,by omega⟩
   rw[h1]
   cases k <;> simp[nd]
  ·obtain⟨e,he,hl⟩:=acV k (x / 10) h1 (by rw[Nat.pow_succ] at h;omega)
   refine⟨e+1,by rw[he],?_⟩
   rw[Nat.pow_succ]
   omega
theorem Wl (m:Nat){j:Nat}(hj:0<j):pU (aK m)≤j ↔ m<10 ^ j:=by
 have hok:=bS m
 have ht:=jD m
 have hv:=bV m
 unfold pU
 cases hl:(aK m).getLast? with
 | none =>
  have:aK m=[]:=by simpa using hl
  have:=x8 this
  subst this
  simp
  exact Nat.pow_pos (by omega)
 | some a =>
  obtain⟨l,e⟩:∃ l,aK m=l++[a]:=⟨(aK m).dropLast,by rw[getLast?_eq_some_iff] at hl;obtain⟨ys,h⟩:=hl;rw[h];simp⟩
  rw[e] at hok hv ⊢
  have ha0:=ht l a e
  have ha9:a<10 ^ 9:=Nat.lt_of_lt_of_le (hok a (by simp)) (by decide)
  have h1:=acW 9 a ha9
  obtain⟨q,h2,h3⟩:=acV 9 a ha0 ha9
  rw[dL] at hv
  have hvl:=eX hok.left
  have e9:(1000000000:Nat) ^ l.length=10 ^ (9*l.length):=by
   have:(1000000000:Nat)=10 ^ 9:=by decide
   rw[this,← Nat.pow_mul]
  rw[e9] at hv hvl
  have hp:0<10 ^ (9*l.length):=Nat.pow_pos (by omega)
  simp only[length_append,length_cons,length_nil,Nat.zero_add,Nat.add_sub_cancel]
  have hup:m<10 ^ (9*l.length+nd 9 a):=by
   rw[Nat.pow_add,← hv]
   calc val l+10 ^ (9*l.length)*a<10 ^ (9*l.length)+10 ^ (9*l.length)*a:=by omega
    _=10 ^ (9*l.length)*(a+1):=by rw[Nat.mul_succ];omega
    _≤_:=Nat.mul_le_mul_left _ h1
  have hlo:10 ^ (9*l.length+q)≤m:=by
   rw[Nat.pow_add,← hv]
   exact Nat.le_trans (Nat.mul_le_mul_left _ h3) (by omega)
  constructor
  ·intro h
   exact Nat.lt_of_lt_of_le hup (Nat.pow_le_pow_right (by omega) h)
  ·intro h
   have h4:=Nat.lt_of_le_of_lt hlo h
   have:=(Nat.pow_lt_pow_iff_right (by omega:1<10)).1 h4
   omega
theorem Wm (z:Int):decide (1000<pU (aK z.natAbs)) = !pB (Nb 1000 z):=by
 have h:=Wl z.natAbs (j:=1000) (by omega)
 by_cases hn:Nb 1000 z
 ·have:=h.2 hn
  rw[jd hn,decide_eq_false (by omega)];rfl
 ·have : ¬ pU (aK z.natAbs)≤1000:=fun e=>hn (h.1 e)
  rw[jR hn,decide_eq_true (by omega)];rfl
theorem Xx {k:Nat} : Nb (k+1) 1:=Nat.one_lt_pow (by omega) (by omega)
theorem vy {k:Nat} : Nb k 0:=Nat.pow_pos (by omega)
theorem MX {u:Option Rat}{j:Nat}(hu:Rb j (vv u))(h:j≤1000000):jM [rv u]=some [.sc (.bool (!pB (Rb 1000 (vv u))))]:=by
 obtain⟨b,b1,b2,b3,b4⟩:=pj hu (by omega)
 simp only[jM,b3,Wm]
 have hb:Nb 1000 b ↔ Nb 1000 (vv u).den:=by
  rw[← b2]
  unfold dE
  split
  ·rename_i e
   subst e
   exact⟨fun _=>Xx,fun _=>vy⟩
  ·exact Iff.rfl
 by_cases h1:Nb 1000 (vv u).num
 ·by_cases h2:Nb 1000 b
  ·rw[jd h1,jd h2,jd ⟨h1,hb.1 h2⟩];rfl
  ·rw[jd h1,jR h2,jR fun e=>h2 (hb.2 e.2)];rfl
 ·have h3 : ¬ Rb 1000 (vv u):=fun e=>h1 e.1
  rw[jR h1,jR h3];simp
theorem sC {s:ByteArray}{z:Int}(h:bys s=ztx z):fe s=z∧iB s=true:=by
 unfold fe iB
 rw[Hf h]
 exact⟨rfl,rfl⟩
theorem mj {s:ByteArray}(h:iB s=true):bys s=ztx (fe s):=by
 unfold iB at h
 cases e:gM s with
 | none=>rw[e] at h;cases h
 | some z=>rw[tN e];unfold fe;rw[e]
theorem Je {l:Ω}{z:Int}{k:Nat}(h:l=ztx z)(h9:l.length≤k):Nb k z:=by
 rw[h,gu] at h9
 have:=vB z
 unfold Ab.eA at h9 this
 exact (tg (by omega)).1 (by omega)
theorem F5 (s:ByteArray){k:Nat}(h9:(bys s).length≤k):Nb k (fe s):=by
 unfold fe
 cases e:gM s with
 | none=>exact vy
 | some z=>exact Je (tN e) h9
theorem Nb.gcd {k:Nat}{d:Int}(h:Nb k d)(n:Int)(h0:d≠0):Nb k (Int.ofNat (Nat.gcd n.natAbs d.natAbs)):=by
 unfold Nb at *
 refine Nat.lt_of_le_of_lt ?_ h
 exact Nat.le_of_dvd (by omega) (Nat.gcd_dvd_right _ _)
theorem Nb.ajM {k:Nat}{n:Int}(h:Nb k n)(d:Int)(h0:n≠0):Nb k (Int.ofNat (Nat.gcd n.natAbs d.natAbs)):=by
 unfold Nb at *
 refine Nat.lt_of_le_of_lt ?_ h
 exact Nat.le_of_dvd (by omega) (Nat.gcd_dvd_left _ _)
theorem Nb.ajL {k:Nat}{n d:Int}(h:Nb k n)(h':Nb k d):Nb k (Int.ofNat (Nat.gcd n.natAbs d.natAbs)):=by
 by_cases h0:n=0
 ·by_cases h1:d=0
  ·subst h0;subst h1;exact h
  ·exact h'.gcd n h1
 ·exact h.ajM d h0
theorem ahB (s:ByteArray)(h9:(bys s).length≤1000000):∃ n d,rrF [.sc (.string s)]=some [cf n d,.sc (.bool (pB (IsQ s)))]∧(∀ x,s=qb x→cf n d=rv (some x))∧Nb 1000000 n∧Nb 1000000 d:=by
 obtain⟨c1,c2,c3,c4⟩:=ab7 s (by omega)
 have hl:=uZ (bys s)
 have hb:(bys s).length.blt 3000000=true:=by rw[Nat.blt_eq];omega
 have hnA:Nb 1000000 (fe (jG s)):=F5 _ (by rw[c2];omega)
 simp only[rrF,hb,c1,Bool.and_self,cond_true]
 cases hk:iB (jG s) && uQ s with
 | false =>
  rw[cond_false]
  refine⟨fe (jG s),1,?_,?_,hnA,(Xx (k:=0)).mono (by omega)⟩
  ·have e:iB (jG s)=pB (IsQ s):=by
    cases hA:iB (jG s) with
    | false =>
     rw[jR]
     rintro⟨x,hx⟩
     have h1:=kZ x
     rw[← hx] at h1
     have h2:=(sC (s:=jG s) (z:=x.num) (by rw[c2,h1])).2
     rw[hA] at h2;cases h2
    | true =>
     rw[hA,Bool.true_and] at hk
     rw[jd]
     exact⟨_,KY (by rw[← c3,hk]) (by rw[← c2];exact mj hA)⟩
   rw[e]
  ·intro x hx
   have h1:=kZ x
   rw[← hx] at h1
   have h2:=sC (s:=jG s) (z:=x.num) (by rw[c2,h1])
   rw[h2.2,Bool.true_and,c3,h1] at hk
   have h3:(x.den:Int)=1:=by simpa using hk
   rw[h2.1,oI,h3]
 | true =>
  rw[cond_true]
  simp only[Bool.and_eq_true] at hk
  have hB:=c4 hk.2
  have hzA:=mj hk.1
  rw[c2] at hzA
  have hs2:(spl (bys s)).2.2=true:=by rw[← c3];exact hk.2
  have hnB:Nb 1000000 (fe (jF s)):=by
   refine F5 _ ?_
   rw[hB]
   unfold spl at hs2 ⊢
   cases e:fK (bys s) with
   | none=>rw[e] at hs2;cases hs2
   | some j=>simp only[length_drop];omega
  generalize fe (jG s)=n at *
  unfold adX
  rw[hnA.smB (by omega),hnB.smB (by omega),(hnA.ajL hnB).smB (by omega)]
  simp only[Bool.and_self,cond_true]
  cases hbad:wq (iB (jF s)) n.sign (fP (fe (jF s)) 1) (fP (Int.ofNat (Nat.gcd n.natAbs (fe (jF s)).natAbs)) 1) with
  | true =>
   rw[cond_true]
   have hno : ¬ IsQ s:=by
    intro hq
    cases hkB:iB (jF s) with
    | false =>
     obtain⟨x,hx⟩:=hq
     have h1:=kZ x
     rw[← hx] at h1
     have:=(sC (s:=jF s) (z:=x.den) (by rw[hB,h1])).2
     rw[hkB] at this;cases this
    | true =>
     have hzB:=mj hkB
     rw[hB] at hzB
     obtain⟨q1,q2,q3⟩:=Fe hs2 hzA hzB hq
     rw[hkB,q3] at hbad
     have e1:(n.sign == 0)=false:=by rw[beq_eq_false_iff_ne];exact fun e=>q1 (Int.sign_eq_zero_iff_zero.1 e)
     have e2:decide (fP (fe (jF s)) 1≤0)=false:=by
      rw[decide_eq_false_iff_not]
      unfold fP
      rw[if_neg (by omega),if_neg (by omega)];decide
     unfold wq at hbad
     rw[e1,e2] at hbad
     revert hbad
     decide
   refine⟨0,0,by rw[jR hno],fun x hx=>absurd ⟨x,hx⟩ hno,vy,vy⟩
  | false =>
   rw[cond_false]
   unfold wq at hbad
   simp only[Bool.or_eq_false_iff,Bool.not_eq_false',beq_eq_false_iff_ne,decide_eq_false_iff_not,bne_eq_false_iff_eq] at hbad
   obtain⟨hkB,-,h2,h3⟩:=hbad
   have hzB:=mj hkB
   rw[hB] at hzB
   have hd:2≤fe (jF s):=by
    unfold fP at h2
    by_cases h4:fe (jF s)<1
    ·rw[if_pos h4] at h2;exact absurd (by decide) h2
    ·rw[if_neg h4] at h2
     by_cases h5:fe (jF s)=1
     ·rw[if_pos h5] at h2;exact absurd (by decide) h2
     ·omega
   have hg:Nat.gcd n.natAbs (fe (jF s)).natAbs=1:=by
    unfold fP at h3
    generalize Nat.gcd n.natAbs (fe (jF s)).natAbs=g at *
    by_cases h4:Int.ofNat g<1
    ·rw[if_pos h4] at h3;exact absurd h3 (by decide)
    ·rw[if_neg h4] at h3
     by_cases h5:Int.ofNat g=1
     ·exact Int.ofNat.inj h5
     ·rw[if_neg h5] at h3;exact absurd h3 (by decide)
   obtain⟨x,hx,e1,e2⟩:=Fc hs2 hzA hzB hd hg
   refine⟨n,fe (jF s),by rw[jd ⟨x,hx⟩],fun y hy => ?_,hnA,hnB⟩
   have:x=y:=pI (by rw[← hx,← hy])
   subst this
   rw[oI,e1,e2]
theorem yz:base.F.get 44=some f44:=by kernel_rfl
theorem RH:base.shared 44=false:=by kernel_rfl
theorem P1:base.F.get 110=some f110:=by kernel_rfl
theorem YX:base.shared 110=false:=by kernel_rfl
theorem yy:base.F.get 133=some f133:=by kernel_rfl
theorem RG:base.shared 133=false:=by kernel_rfl
theorem Gi:base.F.get 77=some f77:=by kernel_rfl
theorem MH:base.shared 77=false:=by kernel_rfl
theorem GY:base.shared 108=false:=by kernel_rfl
theorem RI:base.shared 43=false:=by kernel_rfl
def LQ2:Lst:=[(95,yO),(97,ofF),(96,rN),(98,QR),(105,ES),(104,pn),(108,rrF),(43,jM)]
theorem CG:dt base.P LQ2:=⟨rK,mw,og,Mh,rf,oQ,qJ,kj,trivial⟩
theorem MR(a b e1 o:Int)(s:ByteArray)(g1:az L run 95 [cf a b] (br e1))(g2:az L run 97 [.sc (.int .i64 1)] (br o))(g3:az L run 96 [br e1,br o] (Ab.bJ 0))(g4:az L run 98 [br a] (.sc (.string s))) :
  ∃ st,af (CC L) run k (f44.body.getD .skip) ⟨entry 20 [cf a b],[],[]⟩=some (.ret,st)∧bc TT st.fr st.hp f44.results.toList=some [.sc (.string s)]:=by
 obtain⟨h1,h2⟩:=cL 19 (cf a b)
 generalize entry 20 [cf a b]=fr0 at *
 unfold az at *
 simp only[whW,fG,Ab.bJ] at *
 simp[f44,h1,h2,aM,bP,bm,bX,bH,bd,g1,g2,g3,g4,uR,sR,sW,aR,aW,zW,rf0,rf1,aL,aP,bZ,cm,bD,bq,number,FP.free,cD,FP.apart,undef]
theorem G5(a b e1 c o:Int)(s t r1 r2:ByteArray)(hc:c≠0)(h1:fc .add s { data:=#[47] } = some (.string r1))(h2:fc .add r1 t=some (.string r2))(g1:az L run 95 [cf a b] (br e1))(g2:az L run 97 [.sc (.int .i64 1)] (br o))(g3:az L run 96 [br e1,br o] (Ab.bJ c))(g4:az L run 98 [br a] (.sc (.string s)))(g5:az L run 98 [br e1] (.sc (.string t))) :
  ∃ st,af (CC L) run k (f44.body.getD .skip) ⟨entry 20 [cf a b],[],[]⟩=some (.ret,st)∧bc TT st.fr st.hp f44.results.toList=some [.sc (.string r2)]:=by
 obtain⟨e1,e2⟩:=cL 19 (cf a b)
 generalize entry 20 [cf a b]=fr0 at *
 unfold az at *
 simp only[whW,fG,Ab.bJ] at *
 have hc2:(c != 0)=true:=by simp[hc]
 simp[f44,e1,e2,aM,bP,bm,bX,bH,bd,g1,g2,g3,g4,g5,h1,h2,hc2,uR,sR,sW,aR,aW,zW,rf0,rf1,aL,aP,bZ,cm,bD,bq,number,FP.free,cD,FP.apart,undef]
theorem aji {L:Lst}(hL:bt L 95=fun a=>yO (aJ a))(run:aw){u:Option Rat}{j:Nat}(hu:Rb j (vv u))(h:j≤2000000):az L run 95 [rv u] (br (vv u).den):=by
 obtain⟨b,b1,b2,b3,b4⟩:=pj hu h
 intro dr hp
 rw[b1]
 exact bu RN hL run dr hp _ [br (vv u).den] (ur hp _ _) (yh _ _) (by
  rw[b1] at b3
  simp only[yO,b3,b2])
theorem ajh {L:Lst}(hL:bt L 97=fun a=>ofF (aJ a))(run:aw):az L run 97 [.sc (.int .i64 1)] (br 1):=fun dr hp =>
 bu zu hL run dr hp _ [br 1] rfl rfl rfl
theorem agX {L:Lst}(hL:bt L 96=fun a=>rN (aJ a))(run:aw)(x y:Int)(hx:Sm x)(hy:Sm y):az L run 96 [br x,br y] (Ab.bJ (fP x y)):=fun dr hp =>
 bu G1 hL run dr hp _ [Ab.bJ (fP x y)] (gI hp x y) (fv x y) (by simp only[rN,cJ hx,cJ hy])
theorem ag6 {L:Lst}(hL:bt L 104=fun a=>pn (aJ a))(run:aw)(x y:Int)(hx:Sm x)(hy:Sm y)(h0:y≠0):az L run 104 [br x,br y] (rv (some (Rat.divInt x y))):=fun dr hp =>
 bu J6 hL run dr hp _ [rv (some (Rat.divInt x y))] (gI hp x y) (fv x y) (by
  have h:(!(y.natAbs.beq 0))=true:=by rw[qf (by omega)];rfl
  simp only[pn,cJ hx,cJ hy,h,cond_true,oI,(uq x y h0).1,(uq x y h0).2])
theorem R4 {u v:Option Rat}{j:Nat}(hu:Rb j (vv u))(hv:Rb j (vv v))(h9:j≤2000000)(h:rv u=rv v):u=v:=by
 cases u with
 | none =>
  cases v with
  | none=>rfl
  | some y =>
   have h1:gK (cf 0 0)=some (0,0):=hZ (by unfold Sm;decide) (by unfold Sm;decide)
   have h2:gK (cf y.num y.den)=some (y.num,(y.den:Int)):=hZ (hv.1.sm h9) (hv.2.sm h9)
   have h3:cf 0 0=cf y.num y.den:=h
   rw[h3,h2] at h1
   simp only[OiE,PiE] at h1
   exact absurd h1.2 (Cs y)
 | some x =>
  have h2:gK (cf x.num x.den)=some (x.num,(x.den:Int)):=hZ (hu.1.sm h9) (hu.2.sm h9)
  cases v with
  | none =>
   have h1:gK (cf 0 0)=some (0,0):=hZ (by unfold Sm;decide) (by unfold Sm;decide)
   have h3:cf x.num x.den=cf 0 0:=h
   rw[← h3,h2] at h1
   simp only[OiE,PiE] at h1
   exact absurd h1.2 (Cs x)
  | some y =>
   have h1:gK (cf y.num y.den)=some (y.num,(y.den:Int)):=hZ (hv.1.sm h9) (hv.2.sm h9)
   have h3:cf x.num x.den=cf y.num y.den:=h
   rw[← h3,h2] at h1
   simp only[OiE,PiE] at h1
   congr 1
   exact Rat.ext h1.1 (by omega)
def rtF:Ψ→Option Ψ:=ctr (fun u:Option Rat=>[rv u]) (fun u=>Rb 1000000 (vv u)) fun u=>[qt (vv u)]
theorem J9:Ab.Spec base.P 44 rtF:=Ab.Spec.bN (C:=CC LQ2) (cP CG) fun args rs h=>by
 obtain⟨u,hu,rfl,rfl⟩:=cV h
 obtain⟨b,b1,b2,b3,b4⟩:=pj hu (by omega)
 have gd:=aji (L:=LQ2) rfl (runK (CC LQ2) 1) hu (by omega)
 have go:=ajh (L:=LQ2) rfl (runK (CC LQ2) 1)
 have gn:=XI (L:=LQ2) rfl (runK (CC LQ2) 1) (vv u).num hu.1 (by omega)
 have gt:=XI (L:=LQ2) rfl (runK (CC LQ2) 1) (vv u).den hu.2 (by omega)
 have gc:=agX (L:=LQ2) rfl (runK (CC LQ2) 1) (vv u).den 1 (hu.2.sm (by omega)) CE
 have hp:=(vv u).den_pos
 show ∃ k rs1 hp1 wr rs2 ids,runK (CC LQ2) k 44 [rv u] []=_∧_∧WkL rs2 [qt (vv u)]
 rw[b1] at gd ⊢
 generalize vv u=x at *
 by_cases h1:(x.den:Int)=1
 ·rw[h1] at gd gc
  obtain⟨st,x1,x2⟩:=MR LQ2 (runK (CC LQ2) 1) 1 x.num b 1 1 _ gd go gc gn
  refine⟨2,_,_,_,_,_,aV yz rfl x1 x2,rfl,?_,trivial⟩
  have:qt x = .sc (.string (tx (ztx x.num))):=by unfold qt qb qtx;rw[if_pos h1]
  rw[this]
  exact Wk.refl rfl
 ·have hc:fP x.den 1≠0:=by
   unfold fP
   rw[if_neg (by omega),if_neg h1];decide
  have l1:=hu.1.eA
  have l2:=hu.2.eA
  have hl:∀ z:Int,(ztx z).length≤Ab.eA z+1:=fun z=>by rw[gu];cases bw z <;> simp <;> omega
  have m1:=hl x.num
  have m2:=hl x.den
  obtain⟨st,x1,x2⟩:=G5 LQ2 (runK (CC LQ2) 1) 1 x.num b x.den _ 1 _ _ _ _ hc (PE (ztx x.num) [47] (by simp;omega)) (PE (ztx x.num++[47]) (ztx x.den) (by simp;omega)) gd go gc gn gt
  refine⟨2,_,_,_,_,_,aV yz rfl x1 x2,rfl,?_,trivial⟩
  have:qt x = .sc (.string (tx (ztx x.num++[47]++ztx x.den))):=by unfold qt qb qtx;rw[if_neg h1];simp
  rw[this]
  exact Wk.refl rfl
theorem LQ {L:Lst}(hL:bt L 44=fun a=>rtF (aJ a))(run:aw){u:Option Rat}{j:Nat}(hu:Rb j (vv u))(h:j≤1000000):az L run 44 [rv u] (qt (vv u)) :=
 fT RH hL (fun x y hx hy h=>by
  have h1:rv x=rv y:=by simpa using h
  rw[R4 hx hy (by omega) h1]) run u (hu.mono h) (qB · u) (tm u)
abbrev UU:=Option Rat × Option Rat
theorem OW(a b x y n m:Int)(g1:az L run 97 [.sc (.int .i64 a)] (br x))(g2:az L run 97 [.sc (.int .i64 b)] (br y))(g3:az L run 104 [br x,br y] (cf n m)) :
  ∃ st,af (CC L) run k (f110.body.getD .skip) ⟨entry 10 [.sc (.int .i64 a),.sc (.int .i64 b)],[],[]⟩=some (.ret,st)∧bc TT st.fr st.hp f110.results.toList=some [cf n m]:=by
 obtain⟨h1,h2,h3⟩:=cC 8 (.sc (.int .i64 a)) (.sc (.int .i64 b))
 generalize entry 10 [.sc (.int .i64 a),.sc (.int .i64 b)]=fr0 at *
 unfold az at *
 simp only[whW,fG] at *
 simp[f110,h1,h2,h3,aM,bm,bX,bH,bd,g1,g2,g3,sR,aR,zR,aL,aP,bZ,cm,bD,bq,number,FP.free]
def Fq:Ψ→Option Ψ
 | [.sc (.int .i64 1),.sc (.int .i64 1)]=>some [rv (some 1)]
 | [.sc (.int .i64 1),.sc (.int .i64 2)]=>some [rv (some (1 / 2))]
 | [.sc (.int .i64 2),.sc (.int .i64 1)]=>some [rv (some 2)]
 | _=>none
theorem xR (a b:Nat)(h0:b≠0)(ha:(a:Int)=1∨(a:Int)=2)(hb:(b:Int)=1∨(b:Int)=2):∃ k rs1 hp1 wr rs2 ids,runK (CC LQ2) k 110 [.sc (.int .i64 (a:Int)),.sc (.int .i64 (b:Int))] []=some (rs1,hp1,wr)∧bj (snap hp1 bp) rs1=some (rs2,ids)∧WkL rs2 [rv (some (Rat.divInt a b))]:=by
 have go:∀ z:Int,z=1∨z=2→az LQ2 (runK (CC LQ2) 1) 97 [.sc (.int .i64 z)] (br z):=fun z hz dr hp =>
  bu (L:=LQ2) (f:=ofF) zu rfl _ dr hp _ [br z] rfl rfl (by rcases hz with rfl | rfl <;> rfl)
 have gv:=ag6 (L:=LQ2) rfl (runK (CC LQ2) 1) a b (by rcases ha with h | h <;> rw[h] <;> unfold Sm <;> decide) (by rcases hb with h | h <;> rw[h] <;> unfold Sm <;> decide) (by omega)
 obtain⟨st,x1,x2⟩:=OW LQ2 (runK (CC LQ2) 1) 1 a b a b _ _ (go _ ha) (go _ hb) gv
 exact⟨2,_,_,_,_,_,aV P1 rfl x1 x2,rfl,Wk.refl rfl,trivial⟩
theorem OU:Ab.Spec base.P 110 Fq:=Ab.Spec.bN (C:=CC LQ2) (cP CG) fun args rs h=>by
 unfold Fq at h
 split at h
 ·simp only[OiE] at h
  subst h
  exact xR 1 1 (by omega) (.inl rfl) (.inl rfl)
 ·simp only[OiE] at h
  subst h
  have e:(1 / 2:Rat)=Rat.divInt (1:Nat) (2:Nat):=by rw[IJ];rfl
  rw[e]
  exact xR 1 2 (by omega) (.inl rfl) (.inr rfl)
 ·simp only[OiE] at h
  subst h
  exact xR 2 1 (by omega) (.inr rfl) (.inl rfl)
 ·cases h
theorem ahc {L:Lst}(hL:bt L 110=fun a=>Fq (aJ a))(run:aw):az L run 110 [.sc (.int .i64 1),.sc (.int .i64 1)] (rv (some 1)):=fun dr hp =>
 bu YX hL run dr hp _ [rv (some 1)] rfl rfl rfl
def IsV (s:ByteArray):Prop:=∃ x:Rat,s=qb x∧Rb 1000 x
def rrP (s:ByteArray):Int × Int:=@Classical.epsilon (Int × Int) ⟨(0,0)⟩ fun p=>rrF [.sc (.string s)]=some [cf p.1 p.2,.sc (.bool (pB (IsQ s)))]
theorem G7 (s:ByteArray)(h9:(bys s).length≤1000000):rrF [.sc (.string s)]=some [cf (rrP s).1 (rrP s).2,.sc (.bool (pB (IsQ s)))]∧∀ x,s=qb x→cf (rrP s).1 (rrP s).2=rv (some x):=by
 obtain⟨n,d,h1,h2,-⟩:=ahB s h9
 have h3:rrF [.sc (.string s)]=some [cf (rrP s).1 (rrP s).2,.sc (.bool (pB (IsQ s)))]:=Classical.epsilon_spec (p:=fun p:Int × Int=>rrF [.sc (.string s)]=some [cf p.1 p.2,.sc (.bool (pB (IsQ s)))]) ⟨(n,d),h1⟩
 refine⟨h3,fun x hx => ?_⟩
 rw[h1] at h3
 simp only[OiE,List.cons.injEq,and_true] at h3
 rw[← h3]
 exact h2 x hx
theorem ajg {L:Lst}(hL:bt L 108=fun a=>rrF (aJ a))(run:aw)(s:ByteArray)(h9:(bys s).length≤1000000):az L run 108 [.sc (.string s)] (.tup [cf (rrP s).1 (rrP s).2,.sc (.bool (pB (IsQ s)))]):=fun dr hp =>
 bu GY hL run dr hp _ [cf (rrP s).1 (rrP s).2,.sc (.bool (pB (IsQ s)))] rfl rfl (G7 s h9).1
theorem sN {x:Rat}{k:Nat}(h:Rb k x):(bys (qb x)).length≤2*k+5:=by
 rw[W4]
 unfold qtx
 have l1:=h.1.eA
 have l2:=h.2.eA
 have hl:∀ z:Int,(ztx z).length≤Ab.eA z+1:=fun z=>by rw[gu];cases bw z <;> simp <;> omega
 have m1:=hl x.num
 have m2:=hl x.den
 split
 ·omega
 ·simp;omega
theorem adi {L:Lst}(hL:bt L 108=fun a=>rrF (aJ a))(run:aw){x:Rat}{k:Nat}(hx:Rb k x)(hk:k≤400000):az L run 108 [qt x] (.tup [rv (some x),.sc (.bool true)]):=by
 have h9:(bys (qb x)).length≤1000000:=Nat.le_trans (sN hx) (by omega)
 have h:=ajg hL run (qb x) h9
 rw[(G7 (qb x) h9).2 x rfl,jd ⟨x,rfl⟩] at h
 exact h
theorem CH {L:Lst}(hL:bt L 43=fun a=>jM (aJ a))(run:aw){u:Option Rat}{j:Nat}(hu:Rb j (vv u))(h:j≤1000000):az L run 43 [rv u] (.sc (.bool (!pB (Rb 1000 (vv u))))):=fun dr hp =>
 bu RI hL run dr hp _ [.sc (.bool (!pB (Rb 1000 (vv u))))] (qB hp u) (tm u) (MX hu h)
theorem Zk(s:ByteArray)(n d:Int)(g1:az L run 108 [.sc (.string s)] (.tup [cf n d,.sc (.bool false)])) :
  ∃ st,af (CC L) run k (f133.body.getD .skip) ⟨entry 18 [.sc (.string s)],[],[]⟩=some (.ret,st)∧bc TT st.fr st.hp f133.results.toList=some [cf n d,.sc (.bool false)]:=by
 obtain⟨h1,h2⟩:=cL 17 (.sc (.string s))
 generalize entry 18 [.sc (.string s)]=fr0 at *
 unfold az at *
 simp only[fG] at *
 simp[f133,h1,h2,aM,bm,bX,bH,bd,g1,sR,aR,zR,aL,aP,bZ,cm,bD,bq,number,FP.free,cD,FP.apart,undef]
theorem Sn(s:ByteArray)(n d:Int)(lg:Bool)(g1:az L run 108 [.sc (.string s)] (.tup [cf n d,.sc (.bool true)]))(g2:az L run 43 [cf n d] (.sc (.bool lg))) :
  ∃ st,af (CC L) run k (f133.body.getD .skip) ⟨entry 18 [.sc (.string s)],[],[]⟩=some (.ret,st)∧bc TT st.fr st.hp f133.results.toList=some [cf n d,.sc (.bool (!lg))]:=by
 obtain⟨h1,h2⟩:=cL 17 (.sc (.string s))
 generalize entry 18 [.sc (.string s)]=fr0 at *
 unfold az at *
 simp only[fG] at *
 simp[f133,h1,h2,aM,unP,bm,bX,bH,bd,g1,g2,sR,aR,zR,aL,aP,bZ,cm,bD,bq,number,FP.free,cD,FP.apart,undef]
def acN:Ψ→Option Ψ:=ctr (fun s:ByteArray=>[.sc (.string s)]) (fun s=>(bys s).length≤100000) fun s=>[cf (rrP s).1 (rrP s).2,.sc (.bool (pB (IsV s)))]
theorem acT {x:Rat}{k:Nat}(h:(bys (qb x)).length≤k):Rb (k+1) x:=by
 have h2:=uZ (bys (qb x))
 rw[kZ] at h2
 dsimp only at h2
 exact⟨Je rfl (by omega),Je rfl (by omega)⟩
theorem Gw:Ab.Spec base.P 133 acN:=Ab.Spec.bN (C:=CC LQ2) (cP CG) fun args rs h=>by
 obtain⟨s,h9,rfl,rfl⟩:=cV h
 have g1:=ajg (L:=LQ2) rfl (runK (CC LQ2) 1) s (by omega)
 show ∃ k rs1 hp1 wr rs2 ids,_∧_∧WkL rs2 [cf (rrP s).1 (rrP s).2,.sc (.bool (pB (IsV s)))]
 by_cases hq:IsQ s
 ·rw[jd hq] at g1
  obtain⟨x,hx⟩:=hq
  have hb:Rb 100001 x:=acT (by rw[← hx];exact h9)
  have g2:=CH (L:=LQ2) rfl (runK (CC LQ2) 1) (u:=some x) hb (by omega)
  have e:=(G7 s (by omega)).2 x hx
  rw[← e] at g2
  obtain⟨st,x1,x2⟩:=Sn LQ2 (runK (CC LQ2) 1) 1 s _ _ _ g1 g2
  refine⟨2,_,_,_,_,_,aV yy rfl x1 x2,rfl,Wk.refl rfl,?_,trivial⟩
  have:pB (IsV s)=pB (Rb 1000 x):=by
   by_cases h1:Rb 1000 x
   ·rw[jd h1,jd ⟨x,hx,h1⟩]
   ·rw[jR h1,jR]
    rintro⟨y,hy,h2⟩
    have:=pI (hx.symm.trans hy)
    subst this
    exact h1 h2
  rw[this,Bool.not_not]
  exact Wk.refl rfl
 ·rw[jR hq] at g1
  have : ¬ IsV s:=fun ⟨x,hx,_⟩=>hq ⟨x,hx⟩
  rw[jR this]
  obtain⟨st,x1,x2⟩:=Zk LQ2 (runK (CC LQ2) 1) 1 s _ _ g1
  exact⟨2,_,_,_,_,_,aV yy rfl x1 x2,rfl,Wk.refl rfl,Wk.refl rfl,trivial⟩
def LQ3:Lst:=(133,acN)::LQ2
theorem agI:dt base.P LQ3:=⟨Gw,CG⟩
theorem QG(s:ByteArray)(n d:Int)(v:Bool)(g1:az L run 133 [.sc (.string s)] (.tup [cf n d,.sc (.bool v)])) :
  ∃ st,af (CC L) run k (f77.body.getD .skip) ⟨entry 11 [.sc (.string s)],[],[]⟩=some (.ret,st)∧bc TT st.fr st.hp f77.results.toList=some [.sc (.bool v)]:=by
 obtain⟨h1,h2⟩:=cL 10 (.sc (.string s))
 generalize entry 11 [.sc (.string s)]=fr0 at *
 unfold az at *
 simp only[fG] at *
 simp[f77,h1,h2,aM,bm,bX,bH,bd,g1,sR,zR,aL,aP,bZ,cm,undef]
def vJ:Ψ→Option Ψ:=ctr (fun s:ByteArray=>[.sc (.string s)]) (fun s=>(bys s).length≤100000) fun s=>[.sc (.bool (pB (IsV s)))]
theorem qz {s t:ByteArray}(h:[PV.sc (.string s)]=[PV.sc (.string t)]):s=t:=by simpa using h
theorem vI:Ab.Spec base.P 77 vJ:=Ab.Spec.bN (C:=CC LQ3) (cP agI) fun args rs h=>by
 obtain⟨s,h9,rfl,rfl⟩:=cV h
 have g1:az LQ3 (runK (CC LQ3) 1) 133 [.sc (.string s)] (.tup [cf (rrP s).1 (rrP s).2,.sc (.bool (pB (IsV s)))]) :=
  fT RG (L:=LQ3) (e:=fun s:ByteArray=>[.sc (.string s)]) (f:=fun s=>[cf (rrP s).1 (rrP s).2,.sc (.bool (pB (IsV s)))]) (ok:=fun s=>(bys s).length≤100000) rfl (fun x y _ _ h=>by rw[qz h]) _ s h9 (fun _=>rfl) rfl
 obtain⟨st,x1,x2⟩:=QG LQ3 (runK (CC LQ3) 1) 1 s _ _ _ g1
 exact⟨2,_,_,_,_,_,aV Gi rfl x1 x2,rfl,Wk.refl rfl,trivial⟩
theorem LP {L:Lst}(hL:bt L 77=fun a=>vJ (aJ a))(run:aw)(s:ByteArray)(h9:(bys s).length≤100000):az L run 77 [.sc (.string s)] (.sc (.bool (pB (IsV s)))) :=
 fT MH (e:=fun s:ByteArray=>[.sc (.string s)]) hL (fun x y _ _ h=>by rw[qz h]) run s h9 (fun _=>rfl) rfl
def LQ4:Lst:=[(48,oN),(64,isF)]
theorem agH:dt base.P LQ4:=⟨tR,abh,trivial⟩
theorem MQ(s:ByteArray)(lg v:Bool)(g1:az L run 48 [.sc (.string s)] (.sc (.bool lg)))(g2:az L run 64 [.sc (.string s)] (.sc (.bool v))) :
  ∃ st,af (CC L) run k (f23.body.getD .skip) ⟨entry 10 [.sc (.string s)],[],[]⟩=some (.ret,st)∧bc TT st.fr st.hp f23.results.toList=some [.sc (.bool (!lg && v))]:=by
 obtain⟨h1,h2⟩:=cL 9 (.sc (.string s))
 generalize entry 10 [.sc (.string s)]=fr0 at *
 unfold az at *
 cases lg <;> simp[f23,h1,h2,aM,unP,g1,g2,undef]
theorem IP (z:Int):eZ (ztx z)=Ab.eA z:=by
 have h3:ztx z=(bif bw z then [45] else [])++dtx z.natAbs:=vA z
 rw[h3]
 unfold Ab.eA
 have hd:=rH z.natAbs
 cases bw z with
 | true=>rfl
 | false =>
  rw[cond_false,nil_append]
  cases e:dtx z.natAbs with
  | nil=>rfl
  | cons a l =>
   rw[e] at hd
   have ha:=dN.1 (fS hd mem_cons_self)
   show (bif a.beq 45 then l.length else (a::l).length)=_
   rw[qf (show a≠45 by omega)];rfl
theorem EY (z:Int):decide (1000<eZ (ztx z)) = !pB (Nb 1000 z):=by
 rw[IP]
 unfold Ab.eA
 have h:=tg (n:=z.natAbs) (k:=1000) (by omega)
 by_cases hn:Nb 1000 z
 ·rw[jd hn,decide_eq_false (by have:=h.2 hn;omega)];rfl
 ·rw[jR hn,decide_eq_true (by
   have : ¬ (dtx z.natAbs).length≤1000:=fun e=>hn (h.1 e)
   omega)];rfl
theorem U8 (x:Rat):Aw (bys (qb x)) = !pB (Rb 1000 x):=by
 unfold Aw
 rw[kZ,EY,EY]
 by_cases h1:Nb 1000 x.num
 ·by_cases h2:Nb 1000 x.den
  ·rw[jd h1,jd h2,jd (show Rb 1000 x from ⟨h1,h2⟩)];rfl
  ·rw[jd h1,jR h2,jR (show ¬ Rb 1000 x from fun e=>h2 e.2)];rfl
 ·rw[jR h1,jR (show ¬ Rb 1000 x from fun e=>h1 e.1)];simp
def J8:Ψ→Option Ψ:=ctr (fun s:ByteArray=>[.sc (.string s)]) (fun s=>(bys s).length≤100000) fun s=>[.sc (.bool (pB (IsV s)))]
theorem zy:Ab.Spec base.P 23 J8:=Ab.Spec.bN (C:=CC LQ4) (cP agH) fun args rs h=>by
 obtain⟨s,h9,rfl,rfl⟩:=cV h
 have g1:az LQ4 (runK (CC LQ4) 1) 48 [.sc (.string s)] (.sc (.bool (Aw (bys s)))):=fun dr hp =>
  bu (L:=LQ4) (f:=oN) MC rfl _ dr hp _ [.sc (.bool (Aw (bys s)))] rfl rfl (by
   have:(bys s).length.blt 20000000=true:=by rw[Nat.blt_eq];omega
   simp only[oN,this,cond_true])
 have g2:az LQ4 (runK (CC LQ4) 1) 64 [.sc (.string s)] (.sc (.bool (pB (IsQ s)))) :=
  fT YI (L:=LQ4) (e:=fun s:ByteArray=>[.sc (.string s)]) (ok:=fun s=>(bys s).length<1000000) (f:=fun s=>[.sc (.bool (pB (IsQ s)))]) rfl (fun x y _ _ h=>by rw[qz h]) _ s (show (bys s).length<1000000 by omega) (fun _=>rfl) rfl
 obtain⟨st,x1,x2⟩:=MQ LQ4 (runK (CC LQ4) 1) 1 s _ _ g1 g2
 refine⟨2,_,_,_,_,_,aV CI rfl x1 x2,rfl,?_,trivial⟩
 have:pB (IsV s)=(!Aw (bys s) && pB (IsQ s)):=by
  by_cases hq:IsQ s
  ·obtain⟨x,hx⟩:=hq
   subst hx
   rw[U8,Bool.not_not,jd (show IsQ (qb x) from ⟨x,rfl⟩),Bool.and_true]
   by_cases h1:Rb 1000 x
   ·rw[jd h1,jd ⟨x,rfl,h1⟩]
   ·rw[jR h1,jR]
    rintro⟨y,hy,h2⟩
    have:=pI hy
    subst this
    exact h1 h2
  ·rw[jR hq,Bool.and_false,jR fun ⟨x,hx,_⟩=>hq ⟨x,hx⟩]
 rw[this]
 exact Wk.refl rfl
theorem XK {L:Lst}(hL:bt L 23=fun a=>J8 (aJ a))(run:aw)(s:ByteArray)(h9:(bys s).length≤100000):az L run 23 [.sc (.string s)] (.sc (.bool (pB (IsV s)))) :=
 fT GQ (e:=fun s:ByteArray=>[.sc (.string s)]) hL (fun x y _ _ h=>by rw[qz h]) run s h9 (fun _=>rfl) rfl
def es (s:ByteArray):Ψ:=[.sc (.string s)]
theorem uP:Ec 1 es where
 len:=fun _=>rfl
 okc:=fun _=>rfl
 can:=fun _=>rfl
 idf:=fun _=>rfl
 sn:=fun _ _ _=>rfl
def pE (p:List ByteArray):PV:=dj es p
def ep (p:List ByteArray):Ψ:=[pE p]
theorem abT:Ec 1 ep:=uP.list
def cE (c:List (List ByteArray)):PV:=dj ep c
theorem uPt:und TT 39=some (.slice 27):=by kernel_rfl
theorem uCl:und TT 23=some (.slice 39):=by kernel_rfl
theorem uRs:und TT 38=some (.slice 27):=by kernel_rfl
theorem fV:de TT 27=some 1:=by kernel_rfl
theorem pz:fq TT 27=some false:=by kernel_rfl
theorem sPt:de TT 39=some 1:=by kernel_rfl
theorem sCl:de TT 23=some 1:=by kernel_rfl
theorem aCl:fq TT 23=some false:=by kernel_rfl
theorem aPt:fq TT 39=some false:=by kernel_rfl
theorem fh (p:List ByteArray):dy (pE p)=some p.length:=rfl
theorem gP (c:List (List ByteArray)):dy (cE c)=some c.length:=rfl
theorem rR (c:List (List ByteArray)):(cE c).cells?=some [cE c]:=rfl
theorem kA (p:List ByteArray):canon (pE p)=pE p:=uP.IX p
theorem gj (c:List (List ByteArray)):canon (cE c)=cE c:=abT.IX c
theorem uv {t:Nat}(hu:und TT t=some (.slice 27))(p:List ByteArray)(i:Nat)(hi:i<p.length):∃ r,aU TT t (pE p) (.sc (.int .i64 (i:Int)))=some (.iptr r)∧r.head?=some (.sc (.string p[i])):=by
 have h:=jT uP.toEl p i hi
 refine⟨bq (p.flatMap es) (i*1),?_,by rw[h];rfl⟩
 unfold pE dj
 simp only[aU,hu,bh,fV,hi,if_true]
theorem iJ {t:Nat}(hu:und TT t=some (.slice 39))(c:List (List ByteArray))(i:Nat)(hi:i<c.length):∃ r,aU TT t (cE c) (.sc (.int .i64 (i:Int)))=some (.iptr r)∧r.head?=some (pE c[i]):=by
 have h:=jT abT.toEl c i hi
 refine⟨bq (c.flatMap ep) (i*1),?_,by rw[h];rfl⟩
 unfold cE dj
 simp only[aU,hu,bh,sPt,hi,if_true]
theorem HV:∀ {p q:List ByteArray},pE p=pE q→p=q
 | p,q,h=>by
  unfold pE dj at h
  simp only[PV.imm.injEq,true_and] at h
  have:∀ (p q:List ByteArray),p.flatMap es=q.flatMap es→p=q:=by
   intro p
   induction p with
   | nil=>intro q h;cases q with
    | nil=>rfl
    | cons a q=>simp[es] at h
   | cons a p ih=>intro q h;cases q with
    | nil=>simp[es] at h
    | cons b q =>
     simp only[flatMap_cons,es,cons_append,nil_append,List.cons.injEq,PV.sc.injEq,Value.string.injEq] at h
     rw[h.1,ih q h.2]
  exact this p q h.2
theorem yk {c d:List (List ByteArray)}(h:cE c=cE d):c=d:=by
 unfold cE dj at h
 simp only[PV.imm.injEq,true_and] at h
 have:∀ (p q:List (List ByteArray)),p.flatMap ep=q.flatMap ep→p=q:=by
  intro p
  induction p with
  | nil=>intro q h;cases q with
   | nil=>rfl
   | cons a q=>simp[ep] at h
  | cons a p ih=>intro q h;cases q with
   | nil=>simp[ep] at h
   | cons b q =>
    simp only[flatMap_cons,ep,cons_append,nil_append,List.cons.injEq] at h
    rw[HV h.1,ih q h.2]
 exact this c d h.2
def pe (m:Nat)(p:List ByteArray):Nat:=if p.length=0∨3<p.length∨p.length≠m then 10 else bif p.all (fun s=>pB (IsV s)) then 0 else 1
def jH (m:Nat):List (List ByteArray)→Nat
 | []=>0
 | p::r=>if pe m p=0 then jH m r else pe m p
def hdL (c:List (List ByteArray)):Nat:=match c with
 | []=>0
 | p::_=>p.length
def chk (c:List (List ByteArray)):Nat:=if 64<c.length then 3 else jH (hdL c) c
def Fit (c:List (List ByteArray)):Prop:=c.length≤100∧∀ p ∈ c,p.length≤100∧∀ s ∈ p,(bys s).length≤100000
theorem Gp:base.F.get 80=some f80:=by kernel_rfl
theorem MN:base.shared 80=false:=by kernel_rfl
def ckC:Code:=f80.body.getD .skip
def ckO:Code:=(aA ckC).getD .skip
def ckI:Code:=(aA ckO).getD .skip
def CF (fr:Ψ)(c:List (List ByteArray))(j:Nat):Prop:=fr.length=44∧nth fr 0=cE c∧nth fr 10=cE c∧nth fr 11=iv c.length∧nth fr 12=iv j
theorem ach(c:List (List ByteArray))(j:Nat)(n:Nat)(h:CF fr c j)(h34:nth fr 34=iv n)(h35:nth fr 35=iv n) :
  ∃ fr',af (CC L) run k ckI ⟨fr,[],[]⟩=some (.exit 2,⟨fr',[],[]⟩)∧CF fr' c j:=by
 obtain⟨h0,h1,h10,h11,h12⟩:=h
 simp only[iv] at h34 h35 h11 h12
 simp[CF,ckI,ckO,ckC,f80,h0,h1,h10,h11,h12,h34,h35]
theorem Pb(c:List (List ByteArray))(j:Nat)(p:List ByteArray)(i:Nat)(hi:i<p.length)(h9:p.length≤100)(v:Bool)(g:az L run 77 [.sc (.string p[i])] (.sc (.bool v)))(h:CF fr c j)(h33:nth fr 33=pE p)(h34:nth fr 34=iv p.length)(h35:nth fr 35=iv i) :
  ∃ fr',af (CC L) run k ckI ⟨fr,[],[]⟩=some (bif v then .normal else .ret,⟨fr',[],[]⟩)∧(v=true→CF fr' c j∧nth fr' 33=pE p∧nth fr' 34=iv p.length∧nth fr' 35=iv (i+1))∧(v=false→nth fr' 2=iv 1):=by
 obtain⟨h0,h1,h10,h11,h12⟩:=h
 obtain⟨r,x1,x2⟩:=uv uPt p i hi
 have hw:=bA i (by omega)
 unfold az at g
 generalize p[i]=s at *
 simp only[iv] at h34 h35 h11 h12
 cases v <;> simp[CF,ckI,ckO,ckC,f80,aM,unP,and_assoc,h0,h1,h10,h11,h12,h33,h34,h35,hi,x1,x2,g,hw,pz,fV]
theorem FI (L:Lst)(run:aw)(k:Nat)(c:List (List ByteArray))(j:Nat)(p:List ByteArray)(h9:p.length≤100)(g:∀ s ∈ p,az L run 77 [.sc (.string s)] (.sc (.bool (pB (IsV s))))):∀ (n i:Nat) (fr:Ψ),i+n=p.length→CF fr c j→nth fr 33=pE p→nth fr 34=iv p.length→nth fr 35=iv i →
  ∃ fr',ch (af (CC L) run k ckI) (n+1) ⟨fr,[],[]⟩=some (bif (p.drop i).all (fun s=>pB (IsV s)) then .exit 2 else .ret,⟨fr',[],[]⟩)∧((p.drop i).all (fun s=>pB (IsV s))=true→CF fr' c j)∧((p.drop i).all (fun s=>pB (IsV s))=false→nth fr' 2=iv 1)
 | 0,i,fr,hin,h,h33,h34,h35=>by
  have e:i=p.length:=by omega
  subst e
  obtain⟨fr',q1,q2⟩:=ach L run k fr c j p.length h h34 h35
  rw[drop_length]
  exact⟨fr',bE q1,fun _=>q2,nofun⟩
 | n+1,i,fr,hin,h,h33,h34,h35=>by
  have hi:i<p.length:=by omega
  obtain⟨fr1,q1,q2,q3⟩:=Pb L run k fr c j p i hi h9 _ (g _ (getElem_mem hi)) h h33 h34 h35
  rw[drop_eq_getElem_cons hi,all_cons]
  cases hv:pB (IsV p[i]) with
  | false =>
   rw[hv] at q1 q3
   exact⟨fr1,ez q1,nofun,fun _=>q3 rfl⟩
  | true =>
   rw[hv] at q1 q2
   obtain⟨a1,a2,a3,a4⟩:=q2 rfl
   obtain⟨fr',s1,s2⟩:=FI L run k c j p h9 g n (i+1) fr1 (by omega) a1 a2 a3 a4
   rw[Bool.true_and]
   exact⟨fr',by rw[ca q1];exact s1,s2⟩
def agj:Code:=seq1 ckO
def agi:Code:=seq1 (bn ckO)
def ckB:Code:=blk (seq1 (bn (bn ckO)))
def WO:Code:=seq1 ckB
def yP:Code:=seq1 (bn ckB)
def WN:Code:=seq1 (bn (bn ckB))
def WM:Code:=bn (bn (bn ckO))
theorem WL:ckO = .seq agj (.seq agi (.seq (.block 1 (.seq WO (.seq yP (.seq WN (.block 2 (.loop ckI)))))) WM)):=rfl
theorem acg(c:List (List ByteArray))(h:CF fr c c.length) :
  ∃ fr',af (CC L) run k ckO ⟨fr,[],[]⟩=some (.exit 0,⟨fr',[],[]⟩)∧fr'.length=44:=by
 obtain⟨h0,h1,h10,h11,h12⟩:=h
 simp only[iv] at h11 h12
 simp[ckO,ckC,f80,h0,h11,h12]
theorem aiJ(c:List (List ByteArray))(j:Nat)(hj:j<c.length)(h:CF fr c j) :
  ∃ fr1 fr2,af (CC L) run k agj ⟨fr,[],[]⟩=some (.normal,⟨fr1,[],[]⟩)∧af (CC L) run k agi ⟨fr1,[],[]⟩=some (.normal,⟨fr1,[],[]⟩)∧af (CC L) run k WO ⟨fr1,[],[]⟩=some (.normal,⟨fr2,[],[]⟩)∧CF fr2 c j∧nth fr2 4=pE c[j]:=by
 obtain⟨h0,h1,h10,h11,h12⟩:=h
 obtain⟨r,x1,x2⟩:=iJ uCl c j hj
 generalize c[j]=p at *
 simp only[iv] at h11 h12
 refine⟨eY fr 13 (.sc (.bool true)),?_⟩
 simp[CF,agj,agi,WO,ckB,blk,bn,ckO,ckC,f80,and_assoc,h0,h1,h10,h11,h12,hj,x1,x2,aPt,sPt]
theorem afZ (m:Nat):((m:Int) == 0)=decide (m=0):=by
 by_cases h:m=0
 ·subst h;rfl
 ·rw[decide_eq_false h,beq_eq_false_iff_ne];omega
theorem gt3 (m:Nat):((m:Int) > 3)=(3<m):=by apply propext;omega
set_option maxHeartbeats 1000000 in
theorem aci(c:List (List ByteArray))(j:Nat)(p:List ByteArray)(hc:0<c.length)(hb:p.length=0∨3<p.length∨p.length≠c[0].length)(h:CF fr c j)(h4:nth fr 4=pE p) :
  ∃ fr',af (CC L) run k yP ⟨fr,[],[]⟩=some (.ret,⟨fr',[],[]⟩)∧nth fr' 2=iv 10:=by
 obtain⟨h0,h1,h10,h11,h12⟩:=h
 obtain⟨r,x1,x2⟩:=iJ uCl c 0 hc
 rw[show (((0:Nat):Int))=(0:Int) from rfl] at x1
 generalize c[0]=q at *
 have hl:=fh p
 have hl2:=fh q
 generalize p.length=m at *
 generalize q.length=m0 at *
 by_cases b1:m=0
 ·subst b1
  simp[yP,ckB,blk,bn,ckO,ckC,f80,h0,h4,hl,uPt,undef]
 ·by_cases b2:3<m
  ·simp[yP,ckB,blk,bn,ckO,ckC,f80,h0,h4,hl,uPt,undef,b1,b2,afZ,gt3]
  ·have b3:m≠m0:=by rcases hb with hb | hb | hb <;> first | exact absurd hb b1 | exact absurd hb b2 | exact hb
   simp[yP,ckB,blk,bn,ckO,ckC,f80,FW,h0,h1,h4,hl,hl2,uPt,x1,x2,aPt,sPt,b1,b2,b3,afZ,gt3]
set_option maxHeartbeats 1000000 in
theorem agk(c:List (List ByteArray))(j:Nat)(p:List ByteArray)(hc:0<c.length)(b1:p.length≠0)(b2 : ¬ 3<p.length)(b3:p.length=c[0].length)(h:CF fr c j)(h4:nth fr 4=pE p) :
  ∃ fr1 fr',af (CC L) run k yP ⟨fr,[],[]⟩=some (.normal,⟨fr1,[],[]⟩)∧af (CC L) run k WN ⟨fr1,[],[]⟩=some (.normal,⟨fr',[],[]⟩)∧CF fr' c j∧nth fr' 33=pE p∧nth fr' 34=iv p.length∧nth fr' 35=iv 0:=by
 obtain⟨h0,h1,h10,h11,h12⟩:=h
 obtain⟨r,x1,x2⟩:=iJ uCl c 0 hc
 rw[show (((0:Nat):Int))=(0:Int) from rfl] at x1
 generalize c[0]=q at *
 have hl:=fh p
 have hl2:=fh q
 rw[← b3] at hl2
 clear b3
 generalize p.length=m at *
 obtain⟨fr1,g1,g2,g3,g4⟩:∃ fr1,af (CC L) run k yP ⟨fr,[],[]⟩=some (.normal,⟨fr1,[],[]⟩)∧CF fr1 c j∧nth fr1 4=pE p∧True:=by
  simp only[CF]
  simp[h10,h11,h12,yP,ckB,blk,bn,ckO,ckC,f80,and_assoc,h0,h1,h4,hl,hl2,uPt,x1,x2,aPt,sPt,b1,b2,afZ,gt3]
 obtain⟨k0,k1,k10,k11,k12⟩:=g2
 refine⟨fr1,?_⟩
 rw[g1]
 simp[CF,WN,ckB,blk,bn,ckO,ckC,f80,and_assoc,k0,k1,k10,k11,k12,g3,hl,uPt]
theorem aiI(c:List (List ByteArray))(j:Nat)(hj:j<1000)(h:CF fr c j) :
  ∃ fr',af (CC L) run k WM ⟨fr,[],[]⟩=some (.normal,⟨fr',[],[]⟩)∧CF fr' c (j+1):=by
 obtain⟨h0,h1,h10,h11,h12⟩:=h
 have hw:=bA j (by omega)
 simp only[iv] at h11 h12
 simp[CF,WM,bn,ckO,ckC,f80,h0,h1,h10,h11,h12,hw]
theorem FH (L:Lst)(run:aw)(k:Nat)(hk:200≤k)(c:List (List ByteArray))(hF:Fit c)(g:∀ s:ByteArray,(bys s).length≤100000→az L run 77 [.sc (.string s)] (.sc (.bool (pB (IsV s))))):∀ (n j:Nat) (fr:Ψ),j+n=c.length→CF fr c j →
  (∃ fr',jH (hdL c) (c.drop j)=0∧ch (af (CC L) run k ckO) (n+1) ⟨fr,[],[]⟩=some (.exit 0,⟨fr',[],[]⟩)∧fr'.length=44)∨∃ fr',jH (hdL c) (c.drop j)≠0∧ch (af (CC L) run k ckO) (n+1) ⟨fr,[],[]⟩=some (.ret,⟨fr',[],[]⟩)∧nth fr' 2=iv (jH (hdL c) (c.drop j))
 | 0,j,fr,hjn,h=>by
  have e:j=c.length:=by omega
  subst e
  obtain⟨fr',q1,q2⟩:=acg L run k fr c h
  rw[drop_length]
  exact .inl ⟨fr',rfl,bE q1,q2⟩
 | n+1,j,fr,hjn,h=>by
  have hj:j<c.length:=by omega
  have hc:0<c.length:=by omega
  have hh:hdL c=c[0].length:=by
   cases c with
   | nil=>simp at hc
   | cons p r=>rfl
  obtain⟨fr1,fr2,a1,a2,a3,a4,a5⟩:=aiJ L run k fr c j hj h
  have hFp:=hF.2 c[j] (getElem_mem hj)
  have hFc:=hF.1
  rw[drop_eq_getElem_cons hj]
  have run_ret:∀ {fr'},af (CC L) run k (.seq WO (.seq yP (.seq WN (.block 2 (.loop ckI))))) ⟨fr1,[],[]⟩=some (.ret,⟨fr',[],[]⟩)→ch (af (CC L) run k ckO) (n+1+1) ⟨fr,[],[]⟩=some (.ret,⟨fr',[],[]⟩):=by
   intro fr' hr
   refine ez ?_
   rw[WL,ar a1,ar a2]
   exact cj (kt hr)
  by_cases hb:c[j].length=0∨3<c[j].length∨c[j].length≠c[0].length
  ·obtain⟨fr',b1,b2⟩:=aci L run k fr2 c j c[j] hc hb a4 a5
   have hcp:pe (hdL c) c[j]=10:=by unfold pe;rw[hh,if_pos hb]
   refine .inr ⟨fr',?_,run_ret ?_,?_⟩
   ·rw[jH,hcp];simp
   ·rw[ar a3,cj b1]
   ·rw[jH,hcp];exact b2
  ·have n1:c[j].length≠0:=fun e=>hb (.inl e)
   have n2 : ¬ 3<c[j].length:=fun e=>hb (.inr (.inl e))
   have n3:c[j].length=c[0].length:=Classical.byContradiction fun e=>hb (.inr (.inr e))
   obtain⟨fr3,fr4,b1,b2,b3,b4,b5,b6⟩:=agk L run k fr2 c j c[j] hc n1 n2 n3 a4 a5
   obtain⟨fr5,d1,d2,d3⟩:=FI L run k c j c[j] hFp.1 (fun s hs=>g s (hFp.2 s hs)) c[j].length 0 fr4 (by omega) b3 b4 b5 b6
   rw[drop_zero] at d1 d2 d3
   have hcp:pe (hdL c) c[j]=bif c[j].all (fun s=>pB (IsV s)) then 0 else 1:=by unfold pe;rw[hh,if_neg hb]
   cases hv:c[j].all (fun s=>pB (IsV s)) with
   | false =>
    rw[hv] at d1 hcp
    have d4:=d3 hv
    refine .inr ⟨fr5,?_,run_ret ?_,?_⟩
    ·rw[jH,hcp];simp
    ·rw[ar a3,ar b1,ar b2]
     exact da (bT d1 (by omega))
    ·rw[jH,hcp];exact d4
   | true =>
    rw[hv] at d1 hcp
    have d4:=d2 hv
    obtain⟨fr6,e1,e2⟩:=aiI L run k fr5 c j (by omega) d4
    have hgo:af (CC L) run k ckO ⟨fr,[],[]⟩=some (.normal,⟨fr6,[],[]⟩):=by
     rw[WL,ar a1,ar a2]
     have:af (CC L) run k (.seq WO (.seq yP (.seq WN (.block 2 (.loop ckI))))) ⟨fr1,[],[]⟩=some (.normal,⟨fr5,[],[]⟩):=by
      rw[ar a3,ar b1,ar b2]
      exact bK (bT d1 (by omega))
     rw[ar (fF this)]
     exact e1
    have hce:jH (hdL c) (c[j]::c.drop (j+1))=jH (hdL c) (c.drop (j+1)):=by rw[jH,hcp];rfl
    rw[hce,ca hgo]
    exact FH L run k hk c hF g n (j+1) fr6 (by omega) e2
def WK:Code:=seq1 (seq1 (ag 2 ckC))
theorem age:ag 2 ckC = .seq (.seq WK (.block 0 (.loop ckO))) (ag 3 ckC):=rfl
theorem ace(c:List (List ByteArray))(h:64<c.length):∃ st,af (CC L) run k ckC ⟨entry 44 [cE c],[],[]⟩=some (.ret,st)∧bc TT st.fr st.hp f80.results.toList=some [iv 3]:=by
 obtain⟨e1,e2⟩:=cL 43 (cE c)
 generalize entry 44 [cE c]=fr0 at *
 have hl:=gP c
 generalize c.length=m at *
 have h2:((m:Int) > 64)=True:=by simp;omega
 have h3:((64:Int)<m)=True:=by simp;omega
 simp[ckC,f80,e1,e2,hl,uCl,h2]
theorem agh (L:Lst)(run:aw)(k:Nat)(c:List (List ByteArray))(h : ¬ 64<c.length):∃ fr fr',ba (CC L) run k 2 ckC ⟨entry 44 [cE c],[],[]⟩=some ⟨fr,[],[]⟩∧af (CC L) run k WK ⟨fr,[],[]⟩=some (.normal,⟨fr',[],[]⟩)∧CF fr' c 0:=by
 obtain⟨e1,e2⟩:=cL 43 (cE c)
 generalize entry 44 [cE c]=fr0 at *
 have hl:=gP c
 have h2:((c.length:Int) > 64)=False:=by simp;omega
 have h3:((64:Int)<c.length)=False:=by simp;omega
 obtain⟨fr,a1,a2,a3⟩:∃ fr,ba (CC L) run k 2 ckC ⟨fr0,[],[]⟩=some ⟨fr,[],[]⟩∧fr.length=44∧nth fr 0=cE c:=by
  simp[ckC,f80,ba,e1,e2,hl,uCl,h2]
 refine⟨fr,?_⟩
 rw[a1]
 simp[CF,WK,ag,ckC,f80,a2,a3,hl,uCl]
theorem acd(h0:fr.length=44):∃ st,af (CC L) run k (ag 3 ckC) ⟨fr,[],[]⟩=some (.ret,st)∧bc TT st.fr st.hp f80.results.toList=some [iv 0]:=by
 simp[ckC,ag,f80,h0]
theorem agf(n:Nat)(h:nth fr 2=iv n):bc TT fr [] f80.results.toList=some [iv n]:=by
 simp[f80,h]
def rP:Ψ→Option Ψ:=ctr (fun c=>[cE c]) Fit fun c=>[iv (chk c)]
theorem acf(hk:200≤k)(c:List (List ByteArray))(hF:Fit c)(g:∀ s:ByteArray,(bys s).length≤100000→az L run 77 [.sc (.string s)] (.sc (.bool (pB (IsV s))))) :
  ∃ st,af (CC L) run k ckC ⟨entry 44 [cE c],[],[]⟩=some (.ret,st)∧bc TT st.fr st.hp f80.results.toList=some [iv (chk c)]:=by
 unfold chk
 by_cases h:64<c.length
 ·rw[if_pos h];exact ace L run k c h
 ·rw[if_neg h]
  obtain⟨fr,fr1,a1,a2,a3⟩:=agh L run k c h
  rw[aQ 2 a1,age]
  have hl:=FH L run k hk c hF g c.length 0 fr1 (by omega) a3
  rw[drop_zero] at hl
  rcases hl with ⟨fr2,h0,b1,b2⟩| ⟨fr3,b0,b1,b2⟩
  ·have:af (CC L) run k (.seq WK (.block 0 (.loop ckO))) ⟨fr,[],[]⟩=some (.normal,⟨fr2,[],[]⟩):=by
    rw[ar a2];exact bK (bT b1 (by have:=hF.1;omega))
   rw[ar this,h0]
   exact acd L run k fr2 b2
  ·have:af (CC L) run k (.seq WK (.block 0 (.loop ckO))) ⟨fr,[],[]⟩=some (.ret,⟨fr3,[],[]⟩):=by
    rw[ar a2];exact da (bT b1 (by have:=hF.1;omega))
   rw[cj this]
   exact⟨_,rfl,agf fr3 _ b2⟩
end Go.Proofs.YtjdmodeenbdfpaaGreat
end
