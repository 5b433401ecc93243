/- An abstract interpreter over the model's code and its soundness, part 7 of the proof; each lemma states its own conditions. -/
import Derived.Test.YtjdmodeenbdfpaaGreatT06
set_option linter.unusedSimpArgs false
set_option linter.unusedVariables false
namespace Go.Ab
open Go List
structure Fin (hp:List Blk) (kept:List Blk) (K F:List Nat):Prop where
 len:kept.length=K.length
 blk:∀ (j:Nat) id,K[j]?=some id→∃ cs cs' ids,hp[id]?=some ⟨.live,cs⟩∧bq (snap hp bn) cs=some (cs',ids)∧(∀ x ∈ ids,x ∈ F)∧kept[j]?=some ⟨.live,cs'⟩
 nodup:K.Nodup
 apart:∀ x ∈ K,x ∉ F
theorem Fin.more {hp kept:List Blk}{K F:List Nat}(h:Fin hp kept K F){ids:List Nat}(hi:∀ x ∈ ids,x ∉ K):Fin hp kept K (ids++F) :=
 ⟨h.len,fun j id hj=>by
  obtain⟨cs,cs',i',e1,e2,e3,e4⟩:=h.blk j id hj
  exact⟨cs,cs',i',e1,e2,fun x hx=>mem_append_right _ (e3 x hx),e4⟩,h.nodup,fun x hx hm=>by
  rcases mem_append.1 hm with hm | hm
  ·exact hi x hm hx
  ·exact h.apart x hx hm⟩
theorem Fin.snoc {hp kept:List Blk}{K F:List Nat}(h:Fin hp kept K F){id:Nat}{cs cs':List PV}{ids:List Nat}(hb:hp[id]?=some ⟨.live,cs⟩)(hs:bq (snap hp bn) cs=some (cs',ids))
  (h1:id ∉ K) (h2:id ∉ F) (h3:id ∉ ids) (h4:∀ x ∈ ids,x ∉ K):Fin hp (kept++[⟨.live,cs'⟩]) (K++[id]) (ids++F):=by
 refine⟨by simp[h.len],fun j i hj => ?_,?_,fun x hx hm => ?_⟩
 ·rcases et hj with ⟨hlt,hj⟩| ⟨hlt,hj⟩
  ·obtain⟨ds,ds',i',e1,e2,e3,e4⟩:=h.blk j i hj
   exact⟨ds,ds',i',e1,e2,fun x hx=>mem_append_right _ (e3 x hx),by rw[getElem?_append_left (by rw[h.len];exact hlt)];exact e4⟩
  ·subst hj
   exact⟨cs,cs',ids,hb,hs,fun x hx=>mem_append_left _ hx,by rw[hlt,← h.len];simp⟩
 ·rw[nodup_append]
  exact⟨h.nodup,by simp,fun a ha b hb e=>by simp at hb;subst hb;subst e;exact h1 ha⟩
 ·rcases mem_append.1 hx with hx | hx
  ·rcases mem_append.1 hm with hm | hm
   ·exact h4 x hm hx
   ·exact h.apart x hx hm
  ·simp at hx;subst hx
   rcases mem_append.1 hm with hm | hm
   ·exact h3 hm
   ·exact h2 hm
theorem rY {l m:List Nat}(h:l.any m.contains=false):∀ x ∈ l,x ∉ m:=by
 intro x hx hm
 have:l.any m.contains=true:=any_eq_true.2 ⟨x,hx,by simpa using hm⟩
 rw[h] at this;cases this
def Hand (hp:List Blk)(K F:List Nat)(r r':PV):Prop :=
 (∃ id s off len x j,r = .own id s off len x∧r' = .own j s off len x∧K[j]?=some id)∨∃ ids,snap hp bn r=some (r',ids)∧∀ x ∈ ids,x ∈ F
theorem pY (hp:List Blk):∀ (rs:List PV) (kept:List Blk) (K K0 F:List Nat) (rs':List PV) (kept':List Blk),eh hp kept K F rs=some (rs',kept')→(∀ x,x ∈ K ↔ x ∈ K0)→Fin hp kept K0 F →
  ∃ K1 F1,Fin hp kept' (K0++K1) F1∧(∀ x ∈ F,x ∈ F1)∧rs'.length=rs.length∧∀ (k:Nat) r r',rs[k]?=some r→rs'[k]?=some r'→Hand hp (K0++K1) F1 r r'
 | [],kept,K,K0,F,rs',kept',h,_,hF=>by
  simp[eh] at h
  obtain⟨rfl,rfl⟩:=h
  exact⟨[],F,by simpa using hF,fun _ h=>h,rfl,fun k r r' h=>by simp at h⟩
 | r::rs,kept,K,K0,F,rs',kept',h,hK,hF=>by
  have other:∀ (r':PV) (ids:List Nat) (rs2:List PV),snap hp bn r=some (r',ids)→ids.any K.contains=false→eh hp kept K (ids++F) rs=some (rs2,kept')→rs'=r'::rs2 →
    ∃ K1 F1,Fin hp kept' (K0++K1) F1∧(∀ x ∈ F,x ∈ F1)∧rs'.length=(r::rs).length∧∀ (k:Nat) r1 r1',(r::rs)[k]?=some r1→rs'[k]?=some r1'→Hand hp (K0++K1) F1 r1 r1':=by
   intro r' ids rs2 hs ha hf e
   subst e
   obtain⟨K1,F1,g1,g2,g3,g4⟩:=pY hp rs kept K K0 (ids++F) rs2 kept' hf hK (hF.more (fun x hx hm=>rY ha x hx ((hK x).2 hm)))
   refine⟨K1,F1,g1,fun x hx=>g2 x (mem_append_right _ hx),by simp[g3],fun k r1 r1' h1 h2 => ?_⟩
   cases k with
   | zero =>
    simp at h1 h2;subst h1;subst h2
    exact .inr ⟨ids,hs,fun x hx=>g2 x (mem_append_left _ hx)⟩
   | succ k=>simp at h1 h2;exact g4 k r1 r1' h1 h2
  have other':(match snap hp bn r with
    | some (r',ids)=>if ids.any K.contains then none else match eh hp kept K (ids++F) rs with
     | some (rs',k)=>some (r'::rs',k)
     | none=>none
    | none=>none)=some (rs',kept') →
    ∃ K1 F1,Fin hp kept' (K0++K1) F1∧(∀ x ∈ F,x ∈ F1)∧rs'.length=(r::rs).length∧∀ (k:Nat) r1 r1',(r::rs)[k]?=some r1→rs'[k]?=some r1'→Hand hp (K0++K1) F1 r1 r1':=by
   intro h
   split at h
   ·rename_i r' ids hs
    split at h
    ·cases h
    ·rename_i ha
     split at h
     ·rename_i rs2 k hf
      simp only[OiE,PiE] at h
      obtain⟨rfl,rfl⟩:=h
      exact other r' ids rs2 hs (by simpa using ha) hf rfl
     ·cases h
   ·cases h
  cases r with
  | own id s off len x =>
   simp only[eh,cZ] at h
   split at h
   ·rename_i cs hb
    split at h
    ·rename_i cs' ids hs
     split at h
     ·cases h
     ·rename_i hc
      split at h
      ·rename_i rs2 k hf
       simp only[OiE,PiE] at h
       obtain⟨rfl,rfl⟩:=h
       simp only[Bool.or_eq_true,not_or,Bool.not_eq_true] at hc
       obtain⟨⟨⟨c1,c2⟩,c3⟩,c4⟩:=hc
       have n1:id ∉ K0:=fun hm=>by
        have:K.contains id=true:=by simpa using (hK id).2 hm
        rw[c1] at this;cases this
       have n2:id ∉ F:=fun hm=>by
        have:F.contains id=true:=by simpa using hm
        rw[c2] at this;cases this
       have n3:id ∉ ids:=fun hm=>by
        have:ids.contains id=true:=by simpa using hm
        rw[c3] at this;cases this
       have n4:∀ x ∈ ids,x ∉ K0:=fun x hx hm=>rY c4 x hx ((hK x).2 hm)
       obtain⟨K1,F1,g1,g2,g3,g4⟩:=pY hp rs _ (id::K) (K0++[id]) (ids++F) rs2 k hf (fun x=>by simp[hK x];exact or_comm) (hF.snoc hb hs n1 n2 n3 n4)
       have e:K0++[id]++K1=K0++(id::K1):=by simp
       rw[e] at g1 g4
       refine⟨id::K1,F1,g1,fun x hx=>g2 x (mem_append_right _ hx),by simp[g3],fun k r1 r1' h1 h2 => ?_⟩
       cases k with
       | zero =>
        simp at h1 h2;subst h1;subst h2
        exact .inl ⟨id,s,off,len,x,kept.length,rfl,rfl,by rw[hF.len];simp⟩
       | succ k=>simp at h1 h2;exact g4 k r1 r1' h1 h2
      ·cases h
    ·cases h
   ·exact other' h
  | _ =>
   simp only[eh] at h
   exact other' h
section
variable {w:World} {H:Nat→Prop} {hp:List Blk} {σ:List Addr}
theorem U9 (S:Sim w H σ hp){kept:List Blk}{K F:List Nat}(hF:Fin hp kept K F):∃ σk,Sim w H σk kept∧(∀ (j:Nat) id,K[j]?=some id→σk[j]?=σ[id]?)∧(∀ b,cY σk kept b→cY σ hp b) ∧
  (∀ b,hot H σk kept b→but H σ hp F b):=by
 have hid:∀ (j:Nat) id,K[j]?=some id→∃ a,σ[id]?=some a∧aZ hp id:=by
  intro j id hj
  obtain⟨cs,cs',ids,e1,_⟩:=hF.blk j id hj
  have hlt:=cV e1
  rw[← S.len] at hlt
  exact⟨σ[id],getElem?_eq_getElem hlt,cs,e1⟩
 let σk:List Addr:=K.map fun id=>(σ[id]?).getD ⟨0,0,none⟩
 have hσ:∀ (j:Nat) id,K[j]?=some id→σk[j]?=σ[id]?:=by
  intro j id hj
  obtain⟨a,ha,_⟩:=hid j id hj
  simp[σk,hj,ha]
 have hσ':∀ (j:Nat) a,σk[j]?=some a→∃ id,K[j]?=some id∧σ[id]?=some a∧aZ hp id:=by
  intro j a ha
  have hlt:=cV ha
  simp[σk] at hlt
  have hj:K[j]?=some K[j]:=getElem?_eq_getElem hlt
  obtain⟨a',ha',hl⟩:=hid j _ hj
  rw[hσ j _ hj,ha'] at ha
  cases ha
  exact⟨_,hj,ha',hl⟩
 have hown:∀ b,cY σk kept b→∃ i a,aZ hp i∧i ∈ K∧σ[i]?=some a∧a.block=b:=by
  rintro b ⟨j,a,h1,h2,h3⟩
  obtain⟨id,k1,k2,k3⟩:=hσ' j a h2
  exact⟨id,a,k3,mem_of_getElem? k1,k2,h3⟩
 have hbut:∀ b,hot H σk kept b→but H σ hp F b:=by
  rintro b (h | h)
  ·exact .inl h
  ·obtain⟨i,a,h1,h2,h3,h4⟩:=hown b h
   exact .inr ⟨i,a,.inl ⟨h1,hF.apart i h2⟩,h3,h4⟩
 have cellV:∀ (j:Nat) id cs cs' ids a,K[j]?=some id→hp[id]?=some ⟨.live,cs⟩→bq (snap hp bn) cs=some (cs',ids)→(∀ x ∈ ids,x ∈ F)→σ[id]?=some a→∀ (k:Nat) c,cs'[k]?=some c →
   ∃ v,w.cell? ⟨a.block,a.off+k,none⟩=some v∧V w (hot H σk kept) σk (aZ kept) c v:=by
  intro j id cs cs' ids a hj hb hs hi ha k c hk
  obtain⟨hl,h2⟩:=fm hs
  have hk1:k<cs.length:=by have:=cV hk;omega
  obtain⟨c',i',e1,e2,e3⟩:=h2 k _ (getElem?_eq_getElem hk1)
  rw[hk] at e1;cases e1
  obtain⟨v,g1,g2⟩:=S.cells id .live cs a hb (by simp) ha k _ (getElem?_eq_getElem hk1)
  obtain⟨r1,r2⟩:=oM S bn e2 (fun x hx=>hi x (e3 x hx)) g2
  exact⟨v,g1,r1.idf (fun b _ hb=>hbut b hb) r2⟩
 have nomap:∀ {i:Nat} {cs:List PV} {a:Addr},kept[i]?=some ⟨.dead,.any::cs⟩→σk[i]?=some a→False:=by
  intro i cs a hi ha
  obtain⟨id,k1,k2,k3⟩:=hσ' i a ha
  obtain⟨ds,ds',ids,e1,e2,e3,e4⟩:=hF.blk i id k1
  rw[hi] at e4;cases e4
 refine⟨σk,⟨?_,fun j a ha => ?_,S.foreign,fun j st cs a hj hd ha k c hk => ?_,fun j st cs a hj hd ha => ?_,fun j a cs hj ha => ?_,fun i j a b st cs hi hj hd hne ha hb => ?_,fun i cs a hi ha=>(nomap hi ha).elim,fun i j a b hi hj hne ha hb=>by obtain⟨ds,hi⟩:=hi;exact (nomap hi ha).elim⟩,hσ,fun b hb => ?_,hbut⟩
 ·simp[σk,hF.len]
 ·obtain⟨id,k1,k2,k3⟩:=hσ' j a ha;exact S.spot id a k2
 ·obtain⟨id,k1,k2,k3⟩:=hσ' j a ha
  obtain⟨ds,ds',ids,e1,e2,e3,e4⟩:=hF.blk j id k1
  rw[hj] at e4;cases e4
  exact cellV j id ds cs ids a k1 e1 e2 e3 k2 k c hk
 ·obtain⟨id,k1,k2,ds,k3⟩:=hσ' j a ha
  exact S.own id .live ds a k3 (by simp) k2
 ·obtain⟨id,k1,k2,k3⟩:=hσ' j a ha
  obtain⟨ds,ds',ids,e1,e2,e3,e4⟩:=hF.blk j id k1
  rw[hj] at e4;cases e4
  obtain⟨c,e,h1,h2⟩:=S.live id a ds e1 k2
  exact⟨c,e,h1,by rw[(fm e2).1];exact h2⟩
 ·obtain⟨id1,k1,k2,k3⟩:=hσ' i a ha
  obtain⟨id2,l1,l2,ds,l3⟩:=hσ' j b hb
  refine S.inj id1 id2 a b .live ds k3 l3 (by simp) (fun e => ?_) k2 l2
  subst e
  have h1:=cV k1
  have h2:=cV l1
  have e1:K[i]=id1:=by rw[getElem?_eq_getElem h1] at k1;simpa using k1
  have e2:K[j]=id1:=by rw[getElem?_eq_getElem h2] at l1;simpa using l1
  exact hne ((getElem_inj hF.nodup).1 (e1.trans e2.symm))
 ·obtain⟨i,a,h1,h2,h3,h4⟩:=hown b hb
  exact⟨i,a,.inl h1,h3,h4⟩
theorem nD (hp:List Blk):∀ (d:Nat) {p p':PV} {ids:List Nat},snap hp d p=some (p',ids)→p'.cO=true
 | 0,p,p',ids,h=>by simp[snap] at h
 | d+1,p,p',ids,h=>by
  have list:∀ {cs l:List PV} {ids:List Nat},bq (snap hp d) cs=some (l,ids)→bU l=true:=by
   intro cs l ids hm
   obtain⟨h1,h2⟩:=fm hm
   refine mP (fun k c hk => ?_)
   have hk1:k<cs.length:=by have:=cV hk;omega
   obtain⟨c',i',e1,e2,_⟩:=h2 k _ (getElem?_eq_getElem hk1)
   rw[hk] at e1;cases e1
   exact nD hp d e2
  cases p with
  | own id s off len x =>
   simp only[snap,cZ] at h
   split at h
   ·split at h
    ·cases h
    ·split at h
     ·split at h
      ·simp only[OiE,PiE] at h
       obtain⟨rfl,_⟩:=h;rfl
      ·cases h
     ·cases h
   ·cases h
  | agg cs =>
   simp only[snap] at h
   split at h
   ·rename_i hm
    simp only[OiE,PiE] at h
    obtain⟨rfl,_⟩:=h
    simp only[PV.cO]
    exact list hm
   ·cases h
  | clos f caps =>
   simp only[snap] at h
   split at h
   ·rename_i hf
    simp only[OiE,PiE] at h
    obtain⟨rfl,_⟩:=h
    simp only[PV.cO];exact hf
   ·cases h
  | ptr=>simp[snap] at h
  | mp=>simp[snap] at h
  | bmet=>simp[snap] at h
  | tup=>simp[snap] at h
  | any=>simp only[snap,OiE,PiE] at h;obtain⟨rfl,_⟩:=h;rfl
  | sc v=>simp only[snap,OiE,PiE] at h;obtain⟨rfl,_⟩:=h;rfl
  | imm=>simp only[snap,OiE,PiE] at h;obtain⟨rfl,_⟩:=h;rfl
  | iptr=>simp only[snap,OiE,PiE] at h;obtain⟨rfl,_⟩:=h;rfl
theorem AL (S:Sim w H σ hp){rs rs':List PV}{kept:List Blk}{vs:List Value}(h:eh hp [] [] [] rs=some (rs',kept))(hv:Vs w (hot H σ hp) σ (aZ hp) rs vs) :
  ∃ σk,Sim w H σk kept∧Vs w (hot H σk kept) σk (aZ kept) rs' vs∧(∀ b,cY σk kept b→cY σ hp b)∧(∀ (k:Nat) r,rs'[k]?=some r→r.cO=true∨∃ id s off len x,r = .own id s off len x)∧∀ (i:Nat) b,kept[i]?=some b→b.st = .live∧bU b.cs=true:=by
 obtain⟨K1,F1,g1,g2,g3,g4⟩:=pY hp rs [] [] [] [] rs' kept h (fun x=>Iff.rfl) ⟨rfl,fun j id h=>by simp at h,by simp,fun x h=>by simp at h⟩
 simp only[nil_append] at g1 g4
 obtain⟨σk,h1,h2,h3,h4⟩:=U9 S g1
 have key:∀ (k:Nat) r' ,rs'[k]?=some r'→∃ r v,rs[k]?=some r∧vs[k]?=some v∧Hand hp K1 F1 r r'∧V w (hot H σ hp) σ (aZ hp) r v:=by
  intro k r' hk
  have hk1:k<rs.length:=by have:=cV hk;omega
  have hk2:k<vs.length:=by have:=hv.1;omega
  exact⟨_,_,getElem?_eq_getElem hk1,getElem?_eq_getElem hk2,g4 k _ r' (getElem?_eq_getElem hk1) hk,hv.2 k _ _ (getElem?_eq_getElem hk1) (getElem?_eq_getElem hk2)⟩
 refine⟨σk,h1,⟨by rw[g3];exact hv.1,fun k r' v hk hvk => ?_⟩,h3,fun k r' hk => ?_,fun i b hb => ?_⟩
 ·obtain⟨r,v',e1,e2,e3,e4⟩:=key k r' hk
  rw[hvk] at e2;cases e2
  rcases e3 with ⟨id,s,off,len,x,j,rfl,rfl,hj⟩| ⟨ids,hs,hi⟩
  ·cases e4 with
   | own _ _ _ _ _ a b cap q1 q2 q3 q4 q5 =>
    refine .own j s off len x a b cap (by rw[h2 j id hj];exact q1) q2 q3 q4 (fun _=>q5 ?_)
    obtain⟨cs,cs',ids,f1,_⟩:=g1.blk j id hj
    exact⟨cs,f1⟩
  ·obtain⟨r1,r2⟩:=oM S bn hs hi e4
   exact r1.idf (fun b _ hb=>h4 b hb) r2
 ·obtain⟨r,v',e1,e2,e3,e4⟩:=key k r' hk
  rcases e3 with ⟨id,s,off,len,x,j,rfl,rfl,hj⟩| ⟨ids,hs,hi⟩
  ·exact .inr ⟨j,s,off,len,x,rfl⟩
  ·exact .inl (oM S bn hs hi e4).2
 ·have hi:i<K1.length:=by rw[← g1.len];exact cV hb
  obtain⟨cs,cs',ids,e1,e2,e3,e4⟩:=g1.blk i _ (getElem?_eq_getElem hi)
  rw[hb] at e4;cases e4
  refine⟨rfl,mP (fun k c hk => ?_)⟩
  obtain⟨q1,q2⟩:=fm e2
  have hk1:k<cs.length:=by have:k<cs'.length:=cV hk;omega
  obtain⟨c',i',f1,f2,_⟩:=q2 k _ (getElem?_eq_getElem hk1)
  rw[hk] at f1;cases f1
  exact nD hp _ f2
theorem QW {w':World}{H':Nat→Prop}{σk:List Addr}{kept:List Blk}(S:Sim w H σ hp)(ho:Old w w')(Sk:Sim w' H' σk kept)(hH:∀ b,hot H σ hp b→H' b)
  (hnew:∀ b,cY σk kept b→w.heap.size≤b) (hkl:∀ (i:Nat) b,kept[i]?=some b→b.st = .live) (hidf:∀ (i:Nat) b,kept[i]?=some b→bU b.cs=true) :
  Sim w' H (σ++σk) (hp++kept)∧Step w (cY σ hp) σ (aZ hp) w' (cY (σ++σk) (hp++kept)) (σ++σk) (aZ (hp++kept))∧(∀ b,hot H (σ++σk) (hp++kept) b→hot H' σk kept b):=by
 have hget:∀ {i:Nat} {a:Addr},(σ++σk)[i]?=some a→(i<hp.length∧σ[i]?=some a)∨(hp.length≤i∧σk[i - hp.length]?=some a):=by
  intro i a h
  rcases Nat.lt_or_ge i hp.length with h' | h'
  ·rw[getElem?_append_left (by rw[S.len];exact h')] at h;exact .inl ⟨h',h⟩
  ·rw[getElem?_append_right (by rw[S.len];exact h'),S.len] at h;exact .inr ⟨h',h⟩
 have hblk:∀ {i:Nat} {b:Blk},(hp++kept)[i]?=some b→(i<hp.length∧hp[i]?=some b)∨(hp.length≤i∧kept[i - hp.length]?=some b):=by
  intro i b h
  rcases Nat.lt_or_ge i hp.length with h' | h'
  ·rw[getElem?_append_left h'] at h;exact .inl ⟨h',h⟩
  ·rw[getElem?_append_right h'] at h;exact .inr ⟨h',h⟩
 have hlv:∀ {i:Nat},aZ (hp++kept) i→(i<hp.length∧aZ hp i)∨(hp.length≤i∧aZ kept (i - hp.length)):=by
  rintro i ⟨cs,h⟩
  rcases hblk h with ⟨h1,h2⟩| ⟨h1,h2⟩
  ·exact .inl ⟨h1,cs,h2⟩
  ·exact .inr ⟨h1,cs,h2⟩
 have hmp:∀ {i:Nat},je (hp++kept) i→i<hp.length∧je hp i:=by
  rintro i ⟨cs,h⟩
  rcases hblk h with ⟨h1,h2⟩| ⟨h1,h2⟩
  ·exact⟨h1,cs,h2⟩
  ·have:=hkl _ _ h2;cases this
 have hov:∀ {i:Nat},xB (hp++kept) i→(i<hp.length∧xB hp i)∨(hp.length≤i∧xB kept (i - hp.length)):=by
  rintro i (h | h)
  ·exact (hlv h).imp (fun h=>⟨h.1,.inl h.2⟩) (fun h=>⟨h.1,.inl h.2⟩)
  ·exact .inl ⟨(hmp h).1,.inr (hmp h).2⟩
 have kown:∀ {i:Nat} {a:Addr} {b:Blk},kept[i]?=some b→σk[i]?=some a→cY σk kept a.block:=by
  intro i a b h1 h2
  refine⟨i,a,.inl ⟨b.cs,?_⟩,h2,rfl⟩
  rw[h1]
  have:=hkl i b h1
  cases b;simp at this;simp[this]
 have hown:∀ b,cY (σ++σk) (hp++kept) b→cY σ hp b∨cY σk kept b:=by
  rintro b ⟨i,a,h1,h2,h3⟩
  rcases hov h1 with ⟨l1,h1⟩| ⟨l1,h1⟩ <;> rcases hget h2 with ⟨l2,h2⟩| ⟨l2,h2⟩
  ·exact .inl ⟨i,a,h1,h2,h3⟩
  ·omega
  ·omega
  ·exact .inr ⟨_,a,h1,h2,h3⟩
 have hhot:∀ b,hot H (σ++σk) (hp++kept) b→hot H' σk kept b:=by
  rintro b (h | h)
  ·exact .inl (hH b (.inl h))
  ·rcases hown b h with h | h
   ·exact .inl (hH b (.inr h))
   ·exact .inr h
 have st0:=ho.step (cY σ hp) σ (aZ hp)
 have st:Step w (cY σ hp) σ (aZ hp) w' (cY (σ++σk) (hp++kept)) (σ++σk) (aZ (hp++kept)):=by
  refine⟨st0.os,st0.tape,st0.output,st0.size,fun i a ha => ?_,fun b hb _=>ho.same b hb,ho.shape _ _,fun b hb hm => ?_,fun i hi hm => ?_⟩
  ·rw[getElem?_append_left (cV ha)];exact ha
  ·rcases hown b hm with h | h
   ·exact h
   ·have:=hnew b h;omega
  ·rcases hlv hm with ⟨_,h⟩| ⟨h,_⟩
   ·exact h
   ·rw[S.len] at hi;omega
 refine⟨⟨by simp[S.len,Sk.len],fun i a ha => ?_,fun b hb=>Nat.lt_of_lt_of_le (S.foreign b hb) ho.size,fun i s cs a hi hd ha k c hk => ?_,fun i s cs a hi hd ha => ?_,fun i a cs hi ha => ?_,fun i j a b s cs hi hj hd hne ha hb => ?_,fun i cs a hi ha => ?_,fun i j a b hi hj hne ha hb => ?_⟩,st,hhot⟩
 ·rcases hget ha with ⟨_,h⟩| ⟨_,h⟩
  ·exact Nat.lt_of_lt_of_le (S.spot i a h) ho.size
  ·exact Sk.spot _ a h
 ·rcases hblk hi with ⟨l1,hi⟩| ⟨l1,hi⟩ <;> rcases hget ha with ⟨l2,ha⟩| ⟨l2,ha⟩
  ·obtain⟨v,h1,h2⟩:=S.cells i s cs a hi hd ha k c hk
   exact⟨v,by rw[gI (w:=w) (w':=w') (a:=⟨a.block,a.off+k,none⟩) (ho.same _ (S.spot i a ha))];exact h1,h2.step st⟩
  ·omega
  ·omega
  ·obtain⟨v,h1,h2⟩:=Sk.cells _ s cs a hi hd ha k c hk
   exact⟨v,h1,h2.idf (fun b _ hb=>hhot b hb) (eZ (hidf _ _ hi) hk)⟩
 ·rcases hblk hi with ⟨l1,hi⟩| ⟨l1,hi⟩ <;> rcases hget ha with ⟨l2,ha⟩| ⟨l2,ha⟩
  ·exact S.own i s cs a hi hd ha
  ·omega
  ·omega
  ·intro hh
   have h1:=hnew _ (kown hi ha)
   have h2:=S.foreign _ hh
   omega
 ·rcases hblk hi with ⟨l1,hi⟩| ⟨l1,hi⟩ <;> rcases hget ha with ⟨l2,ha⟩| ⟨l2,ha⟩
  ·obtain⟨c,e,h1,h2⟩:=S.live i a cs hi ha
   exact⟨c,e,by rw[ho.same _ (S.spot i a ha)];exact h1,h2⟩
  ·omega
  ·omega
  ·exact Sk.live _ a cs hi ha
 ·rcases hlv hi with ⟨l1,hi⟩| ⟨l1,hi⟩ <;> rcases hget ha with ⟨l2,ha⟩| ⟨l2,ha⟩ <;> rcases hblk hj with ⟨l3,hj⟩| ⟨l3,hj⟩ <;> rcases hget hb with ⟨l4,hb⟩| ⟨l4,hb⟩ <;> first | omega | skip
  ·exact S.inj i j a b s cs hi hj hd hne ha hb
  ·have h1:=S.spot i a ha
   have h2:=hnew _ (kown hj hb)
   omega
  ·obtain⟨ds,hi⟩:=hi
   have h1:=S.spot j b hb
   have h2:=hnew _ (kown hi ha)
   omega
  ·exact Sk.inj _ _ a b s cs hi hj hd (by omega) ha hb
 ·obtain⟨l1,_⟩:=hmp ⟨cs,hi⟩
  rcases hblk hi with ⟨_,hi⟩| ⟨l2,_⟩
  ·rcases hget ha with ⟨_,ha⟩| ⟨l2,_⟩
   ·obtain⟨h1,es,ck,h2,h3⟩:=S.maps i cs a hi ha
    exact⟨h1,es,ck,by rw[ho.same _ (S.spot i a ha)];exact h2,h3.step st⟩
   ·omega
  ·omega
 ·obtain⟨l1,hi⟩:=hmp hi
  obtain⟨l2,hj⟩:=hmp hj
  rcases hget ha with ⟨_,ha⟩| ⟨l3,_⟩
  ·rcases hget hb with ⟨_,hb⟩| ⟨l3,_⟩
   ·exact S.injm i j a b hi hj hne ha hb
   ·omega
  ·omega
end
def gh (run:ar):Prop:=∀ g args hp rs hp' wr,run g args hp=some (rs,hp',wr)→hp.length≤hp'.length∧∀ i,i<hp.length→i ∉ wr→hp'[i]?=hp[i]?
def uN (C:Cfg)(run:ar):Prop:=∀ g args hp rs hp' wr,run g args hp=some (rs,hp',wr)→∀ (w:World) (H:Nat→Prop) (σ:List Addr) (vs:List Value),Sim w H σ hp→Vs w (hot H σ hp) σ (aZ hp) args vs →
  js C.P g vs.toArray w fun v w'=>∃ σ' us,v=Bu us∧Vs w' (hot H σ' hp') σ' (aZ hp') rs us∧Sim w' H σ' hp'∧Step w (cY σ hp) σ (aZ hp) w' (cY σ' hp') σ' (aZ hp')
def SOk (P:Program)(g:FuncId)(f:List PV→(Nat→Option Blk)→Option (List PV × Option (Nat × Blk))):Prop:=∀ args hp rs hp' wr,vq f args hp=some (rs,hp',wr)→∀ (w:World) (H:Nat→Prop) (σ:List Addr) (vs:List Value),Sim w H σ hp→Vs w (hot H σ hp) σ (aZ hp) args vs →
  js P g vs.toArray w fun v w'=>∃ σ' us,v=Bu us∧Vs w' (hot H σ' hp') σ' (aZ hp') rs us∧Sim w' H σ' hp'∧Step w (cY σ hp) σ (aZ hp) w' (cY σ' hp') σ' (aZ hp')
def uO (C:Cfg):Prop:=∀ g args rs,C.orc g args=some rs→bU args=true→bU rs=true∧∀ (w:World) (M:Nat→Prop) (vs:List Value),(∀ b,M b→b<w.heap.size)→Vs w M [] NoL args vs →
  js C.P g vs.toArray w fun v w'=>∃ us,v=Bu us∧Vs w' M [] NoL rs us∧Old w w'
theorem kd {a n:Nat} : Nat.blt a n=true ↔ a<n:=by
 unfold Nat.blt;rw[Nat.ble_eq];exact Iff.rfl
section
variable {w:World} {H:Nat→Prop} {hp:List Blk} {σ:List Addr}
theorem lY {n:Nat}{cs:List PV}(h:eP n cs=true){k:Nat}{c:PV}(hk:cs[k]?=some c):c.fG n=true:=by
 induction cs generalizing k with
 | nil=>simp at hk
 | cons d cs ih =>
  simp[eP] at h
  cases k with
  | zero=>simp at hk;subst hk;exact h.1
  | succ k=>simp at hk;exact ih h.2 hk
theorem oe {n:Nat}{cs:List PV}(h:∀ (k:Nat) c,cs[k]?=some c→c.fG n=true):eP n cs=true:=by
 induction cs with
 | nil=>rfl
 | cons c cs ih =>
  simp only[eP,Bool.and_eq_true]
  exact⟨h 0 c rfl,ih (fun k d hk=>h (k+1) d (by simpa using hk))⟩
theorem V.fG {M:Nat→Prop}{L:Nat→Prop}{p:PV}{v:Value}(hv:V w M σ L p v):p.fG σ.length=true:=by
 induction hv with
 | any=>rfl
 | sc=>rfl
 | agg cs vs hl _ ih =>
  simp only[PV.fG]
  exact oe (fun k c hk=>by
   have hk1:=cV hk
   exact ih k c _ hk (Array.getElem?_eq_getElem (show k<vs.size by omega)))
 | tup cs vs hl _ ih =>
  simp only[PV.fG]
  exact oe (fun k c hk=>by
   have hk1:=cV hk
   exact ih k c _ hk (Array.getElem?_eq_getElem (show k<vs.size by omega)))
 | nil=>rfl
 | imm=>rfl
 | own id s off len x a b cap h1=>simp only[PV.fG,kd];exact cV h1
 | ptr id off a h1=>simp only[PV.fG,kd];exact cV h1
 | iptr=>rfl
 | clos f cs vs hl _ ih =>
  simp only[PV.fG]
  exact oe (fun k c hk=>by
   have hk1:=cV hk
   exact ih k c _ hk (Array.getElem?_eq_getElem (show k<vs.size by omega)))
 | bmet f cs vs hl _ ih =>
  simp only[PV.fG]
  exact oe (fun k c hk=>by
   have hk1:=cV hk
   exact ih k c _ hk (Array.getElem?_eq_getElem (show k<vs.size by omega)))
 | mp id a h1=>simp only[PV.fG,kd];exact cV h1
theorem V.zk {M M':Nat→Prop}{L L':Nat→Prop}{σ':List Addr}{n:Nat}(hσ:∀ (i:Nat) a,i<n→σ[i]?=some a→σ'[i]?=some a)(hM:∀ b,M' b→M b)(hL:∀ i,i<n→L' i→L i)
  {p:PV} {v:Value} (hv:V w M σ L p v) (h:p.fG n=true):V w M' σ' L' p v:=by
 induction hv with
 | any v=>exact .any v
 | sc v=>exact .sc v
 | agg cs vs hl _ ih =>
  simp only[PV.fG] at h
  exact .agg cs vs hl (fun k c v h1 h2=>ih k c v h1 h2 (lY h h1))
 | tup cs vs hl _ ih =>
  simp only[PV.fG] at h
  exact .tup cs vs hl (fun k c v h1 h2=>ih k c v h1 h2 (lY h h1))
 | nil x=>exact .nil x
 | imm len x cs a cap g h1 h2 h3 h4 _ =>
  exact .imm len x cs a cap g h1 h2 (fun k c hk=>⟨(h3 k c hk).1,(h3 k c hk).2.1,fun hm=>(h3 k c hk).2.2.1 (hM _ hm),(h3 k c hk).2.2.2⟩) (fun k c hk=>(h4 k c hk).idf (fun b _ hb=>hM b hb) (h3 k c hk).2.1)
 | own id s off len x a b cap h1 h2 h3 h4 h5 =>
  have hid:id<n:=by simpa only[PV.fG,kd] using h
  exact .own id s off len x a b cap (hσ id a hid h1) h2 h3 h4 (fun hl=>h5 (hL id hid hl))
 | ptr id off a h1 =>
  have hid:id<n:=by simpa only[PV.fG,kd] using h
  exact .ptr id off a (hσ id a hid h1)
 | iptr cs a g h3 h4 _ =>
  exact .iptr cs a g (fun k c hk=>⟨(h3 k c hk).1,(h3 k c hk).2.1,fun hm=>(h3 k c hk).2.2.1 (hM _ hm),(h3 k c hk).2.2.2⟩) (fun k c hk=>(h4 k c hk).idf (fun b _ hb=>hM b hb) (h3 k c hk).2.1)
 | clos f cs vs hl _ ih =>
  simp only[PV.fG] at h
  exact .clos f cs vs hl (fun k c v h1 h2=>ih k c v h1 h2 (lY h h1))
 | bmet f cs vs hl _ ih =>
  simp only[PV.fG] at h
  exact .bmet f cs vs hl (fun k c v h1 h2=>ih k c v h1 h2 (lY h h1))
 | mp id a h1 =>
  have hid:id<n:=by simpa only[PV.fG,kd] using h
  exact .mp id a (hσ id a hid h1)
theorem ig.zk {M M':Nat→Prop}{L L':Nat→Prop}{σ':List Addr}{n:Nat}(hσ:∀ (i:Nat) a,i<n→σ[i]?=some a→σ'[i]?=some a)(hM:∀ b,M' b→M b)(hL:∀ i,i<n→L' i→L i) :
  ∀ {cs:List PV} {es:List MapEntry},ig w M σ L cs es→eP n cs=true→ig w M' σ' L' cs es
 | [],[],_,_=>trivial
 | k::v::r,e::es,hr,h=>by
  simp only[eP,Bool.and_eq_true] at h
  exact⟨hr.1.zk hσ hM hL h.1,hr.2.1.zk hσ hM hL h.2.1,ig.zk hσ hM hL hr.2.2 h.2.2⟩
 | [],_::_,hr,_=>hr.elim
 | [_],[],hr,_=>hr.elim
 | [_],_::_,hr,_=>hr.elim
 | _::_::_,[],hr,_=>hr.elim
theorem ig.fG {M:Nat→Prop}{L:Nat→Prop} : ∀ {cs:List PV} {es:List MapEntry},ig w M σ L cs es→eP σ.length cs=true
 | [],[],_=>rfl
 | k::v::r,e::es,hr=>by
  simp only[eP,Bool.and_eq_true]
  exact⟨hr.1.fG,hr.2.1.fG,ig.fG hr.2.2⟩
 | [],_::_,hr=>hr.elim
 | [_],[],hr=>hr.elim
 | [_],_::_,hr=>hr.elim
 | _::_::_,[],hr=>hr.elim
theorem eF {α:Type}{l:List α}{n i:Nat}{a:α}(h:(l.take n)[i]?=some a):i<n∧l[i]?=some a:=by
 rw[getElem?_take] at h
 split at h
 ·rename_i hi;exact⟨hi,h⟩
 ·cases h
theorem Ms (S:Sim w H σ hp){n:Nat}(hn:∀ (i:Nat) st cs,i<n→hp[i]?=some ⟨st,cs⟩→st ≠ .dead→eP n cs=true)(hnm:∀ (i:Nat) cs,i<n→hp[i]?=some ⟨.dead,.any::cs⟩→eP n cs=true) :
  Sim w H (σ.take n) (hp.take n)∧(∀ b,hot H (σ.take n) (hp.take n) b→hot H σ hp b)∧(∀ b,cY (σ.take n) (hp.take n) b→cY σ hp b)∧∀ i,aZ (hp.take n) i→aZ hp i:=by
 have hlv:∀ i,aZ (hp.take n) i→aZ hp i:=fun i ⟨cs,h⟩=>⟨cs,(eF h).2⟩
 have hmp:∀ i,je (hp.take n) i→je hp i:=fun i ⟨cs,h⟩=>⟨cs,(eF h).2⟩
 have hown:∀ b,cY (σ.take n) (hp.take n) b→cY σ hp b:=by
  rintro b ⟨i,a,h1,h2,h3⟩
  exact⟨i,a,h1.imp (hlv i) (hmp i),(eF h2).2,h3⟩
 have hhot:∀ b,hot H (σ.take n) (hp.take n) b→hot H σ hp b:=by
  rintro b (h | h)
  ·exact .inl h
  ·exact .inr (hown b h)
 refine⟨⟨by simp[S.len],fun i a ha=>S.spot i a (eF ha).2,S.foreign,fun i st cs a hi hd ha k c hk => ?_,fun i st cs a hi hd ha=>S.own i st cs a (eF hi).2 hd (eF ha).2,
  fun i a cs hi ha=>S.live i a cs (eF hi).2 (eF ha).2,fun i j a b st cs hi hj hd hne ha hb=>S.inj i j a b st cs (hlv i hi) (eF hj).2 hd hne (eF ha).2 (eF hb).2,fun i cs a hi ha => ?_,fun i j a b hi hj hne ha hb=>S.injm i j a b (hmp i hi) (hmp j hj) hne (eF ha).2 (eF hb).2⟩,hhot,hown,hlv⟩
 rotate_left
 ·obtain⟨hin,hi⟩:=eF hi
  obtain⟨h1,es,ck,h2,h3⟩:=S.maps i cs a hi (eF ha).2
  exact⟨h1,es,ck,h2,h3.zk (n:=n) (fun j b hj hb=>by rw[getElem?_take,if_pos hj];exact hb) hhot (fun j _=>hlv j) (hnm i cs hin hi)⟩
 obtain⟨hin,hi⟩:=eF hi
 obtain⟨v,h1,h2⟩:=S.cells i st cs a hi hd (eF ha).2 k c hk
 refine⟨v,h1,h2.zk (n:=n) (fun j b hj hb => ?_) hhot (fun j _=>hlv j) (lY (hn i st cs hin hi hd) hk)⟩
 rw[getElem?_take,if_pos hj];exact hb
theorem rb {n i:Nat}{l:List Nat} : i ∈ lU n l ↔ i ∈ l∧i<n:=by
 induction l with
 | nil=>simp[lU]
 | cons a l ih =>
  simp only[lU]
  cases h:Nat.blt a n with
  | true =>
   have:a<n:=kd.1 h
   simp only[cond_true,mem_cons,ih]
   constructor
   ·rintro (rfl | ⟨h1,h2⟩)
    ·exact⟨.inl rfl,this⟩
    ·exact⟨.inr h1,h2⟩
   ·rintro⟨rfl | h1,h2⟩
    ·exact .inl rfl
    ·exact .inr ⟨h1,h2⟩
  | false =>
   have : ¬ a<n:=fun hh=>by rw[kd.2 hh] at h;cases h
   simp only[cond_false,mem_cons,ih]
   constructor
   ·rintro⟨h1,h2⟩;exact⟨.inr h1,h2⟩
   ·rintro⟨rfl | h1,h2⟩
    ·exact absurd h2 this
    ·exact⟨h1,h2⟩
theorem vS {hp:List Blk}{n:Nat}{l:List Nat}(h:iL hp n l=true):∀ i ∈ l,∀ b,hp[i]?=some b→eP n b.cs=true:=by
 induction l with
 | nil=>intro i hi;simp at hi
 | cons a l ih =>
  simp only[iL,Bool.and_eq_true,cZ] at h
  intro i hi b hb
  rcases mem_cons.1 hi with rfl | hi
  ·rw[hb] at h;exact h.1
  ·exact ih h.2 i hi b hb
theorem W3 {C:Cfg}{run:ar}(hR:uN C run)(hE:gh run)(hO:uO C){dr:Bool}{g:FuncId}{args:List PV}{r:PV}{hp':List Blk}{fp:FP}(h:bX C run dr hp g args=some (r,hp',fp))
  (S:Sim w H σ hp) {vs:List Value} (hv:Vs w (hot H σ hp) σ (aZ hp) args vs) :
  js C.P g vs.toArray w fun v w'=>∃ σ',V w' (hot H σ' hp') σ' (aZ hp') r v∧Sim w' H σ' hp'∧Step w (cY σ hp) σ (aZ hp) w' (cY σ' hp') σ' (aZ hp'):=by
 unfold bX at h
 split at h
 ·split at h
  ·rename_i rs hp1 wr hrun
   have h0:=hR g args hp rs hp1 wr hrun w H σ vs S hv
   obtain⟨e1,e2⟩:=hE g args hp rs hp1 wr hrun
   cases hc:bU rs && iL hp1 hp.length (lU hp.length wr) with
   | false =>
    rw[hc] at h
    simp only[cond_false,OiE,PiE] at h
    obtain⟨rfl,rfl,_⟩:=h
    refine h0.mono fun v w' ⟨σ',us,hu,hvs,hs,st⟩ => ?_
    subst hu
    exact⟨σ',sE hvs,hs,st⟩
   | true =>
    rw[hc] at h
    simp only[cond_true,OiE,PiE] at h
    obtain⟨rfl,rfl,_⟩:=h
    simp only[Bool.and_eq_true] at hc
    refine h0.mono fun v w' ⟨σ',us,hu,hvs,hs,st⟩ => ?_
    subst hu
    have hn:∀ (i:Nat) st0 cs,i<hp.length→hp1[i]?=some ⟨st0,cs⟩→st0 ≠ .dead→eP hp.length cs=true:=by
     intro i st0 cs hi hb hd
     by_cases hw:i ∈ wr
     ·exact vS hc.2 i (rb.2 ⟨hw,hi⟩) _ hb
     ·rw[e2 i hi hw] at hb
      refine oe (fun k c hk => ?_)
      have hlt:=hi
      rw[← S.len] at hlt
      obtain⟨u,_,h2⟩:=S.cells i st0 cs _ hb hd (getElem?_eq_getElem hlt) k c hk
      have:=h2.fG
      rwa [S.len] at this
    have hnm:∀ (i:Nat) cs,i<hp.length→hp1[i]?=some ⟨.dead,.any::cs⟩→eP hp.length cs=true:=by
     intro i cs hi hb
     by_cases hw:i ∈ wr
     ·have:=vS hc.2 i (rb.2 ⟨hw,hi⟩) _ hb
      simp only[eP,Bool.and_eq_true] at this
      exact this.2
     ·rw[e2 i hi hw] at hb
      have hlt:=hi
      rw[← S.len] at hlt
      obtain⟨-,es,ck,-,h3⟩:=S.maps i cs _ hb (getElem?_eq_getElem hlt)
      have:=h3.fG
      rwa [S.len] at this
    obtain⟨t1,t2,t3,t4⟩:=Ms hs hn hnm
    have eσ:σ'.take hp.length=σ:=by
     rw[← S.len]
     apply ext_getElem?
     intro i
     rw[getElem?_take]
     split
     ·rename_i hi
      rw[getElem?_eq_getElem hi]
      exact st.pre i _ (getElem?_eq_getElem hi)
     ·rename_i hi
      rw[getElem?_eq_none (by omega)]
    rw[qH]
    refine⟨σ'.take hp.length,?_,t1,?_⟩
    ·have hr:=sE hvs
     have hid:(jk rs).cO=true:=by
      have:bU rs=true:=hc.1
      unfold jk
      split
      ·simp[bU] at this;exact this
      ·simp only[PV.cO];exact this
     exact hr.idf (fun b _ hb=>t2 b hb) hid
    ·exact⟨st.os,st.tape,st.output,st.size,fun i a ha=>by rw[eσ];exact ha,st.same,fun i a c e hl hσ hb=>st.shape i a c e (t4 i hl) hσ hb,fun b hb hm=>st.hot b hb (t3 b hm),fun i hi hm=>st.live i hi (t4 i hm)⟩
  ·cases h
 ·split at h
  ·cases h
  ·rename_i args' ids hsn
   obtain⟨hv',hidf⟩:=CT S hsn (fun x hx=>hx) hv
   have hbut:∀ b,but H σ hp ids b→b<w.heap.size:=by
    rintro b (hb | ⟨i,a,_,h2,h3⟩)
    ·exact S.foreign b hb
    ·rw[← h3];exact S.spot i a h2
   have noroB:∀ b,hot H σ (roB hp ids) b→but H σ hp ids b:=by
    rintro b (hb | ⟨i,a,h1,h2,h3⟩)
    ·exact .inl hb
    ·refine .inr ⟨i,a,?_,h2,h3⟩
     rcases h1 with h1 | h1
     ·exact .inl ((nK ids hp).2.1 i h1)
     ·exact .inr ((nK ids hp).2.2 i h1)
   obtain⟨Sro,stro⟩:=Gv ids S
   split at h
   ·rename_i rs ho
    obtain⟨hrid,hcall⟩:=hO g args' rs ho hidf
    have h0:=hcall w (but H σ hp ids) vs hbut hv'
    cases hsc:rs.all eE with
    | true =>
     rw[hsc] at h
     simp only[cond_true,OiE,PiE] at h
     obtain⟨rfl,rfl,_⟩:=h
     refine h0.mono fun v w' ⟨us,hu,hvs,hold⟩ => ?_
     subst hu
     refine⟨σ,sE ⟨hvs.1,fun k c u h1 h2=>zG (all_eq_true.1 hsc c (mem_of_getElem? h1)) (hvs.2 k c u h1 h2)⟩,Bi S hold,hold.step _ _ _⟩
    | false =>
     rw[hsc] at h
     simp only[cond_false,OiE,PiE] at h
     obtain⟨rfl,rfl,_⟩:=h
     refine h0.mono fun v w' ⟨us,hu,hvs,hold⟩ => ?_
     subst hu
     refine⟨σ,sE ⟨hvs.1,fun k c u h1 h2=>(hvs.2 k c u h1 h2).idf (fun b _ hb=>noroB b hb) (eZ hrid h1)⟩,Bi Sro hold,stro.trans (hold.step _ _ _)⟩
   ·split at h
    ·cases h
    ·rename_i rs hp1 wr hrun
     have S0:Sim w (but H σ hp ids) [] []:=JY hbut
     have hvs0:Vs w (hot (but H σ hp ids) [] []) [] (aZ []) args' vs:=⟨hv'.1,fun k c u h1 h2=>(hv'.2 k c u h1 h2).idf (fun b _ hb=>by
      rcases hb with hb | ⟨i,a,_,h2,_⟩
      ·exact hb
      ·simp at h2) (eZ hidf h1)⟩
     have h0:=hR g args' [] rs hp1 wr hrun w (but H σ hp ids) [] vs S0 hvs0
     split at h
     ·cases h
     ·rename_i rs' kept hfin
      have hOld:∀ {w':World} {σ':List Addr},Step w (cY [] []) [] (aZ []) w' (cY σ' hp1) σ' (aZ hp1)→Old w w':=fun st =>
       ⟨st.os,st.tape,st.output,st.size,fun b hb=>st.same b hb (fun ⟨i,a,_,h2,_⟩=>by simp at h2)⟩
      cases hsc:rs'.all eE with
      | true =>
       rw[hsc] at h
       simp only[cond_true,OiE,PiE] at h
       obtain⟨rfl,rfl,_⟩:=h
       refine h0.mono fun v w' ⟨σ',us,hu,hvs,hs,st⟩ => ?_
       subst hu
       obtain⟨σk,f1,f2,f3,f4,_⟩:=AL hs hfin hvs
       exact⟨σ,sE ⟨f2.1,fun k c u h1 h2=>zG (all_eq_true.1 hsc c (mem_of_getElem? h1)) (f2.2 k c u h1 h2)⟩,Bi S (hOld st),(hOld st).step _ _ _⟩
      | false =>
       rw[hsc] at h
       simp only[cond_false,OiE,PiE] at h
       obtain⟨rfl,rfl,_⟩:=h
       refine h0.mono fun v w' ⟨σ',us,hu,hvs,hs,st⟩ => ?_
       subst hu
       obtain⟨σk,f1,f2,f3,f4,hkl⟩:=AL hs hfin hvs
       obtain⟨j1,j2,j3⟩:=QW Sro (hOld st) f1 noroB (fun b hb=>by
        rcases Nat.lt_or_ge b w.heap.size with hlt | hge
        ·obtain⟨i,a,_,h2,_⟩:=st.hot b hlt (f3 b hb)
         simp at h2
        ·exact hge) (fun i b hb=>(hkl i b hb).1) (fun i b hb=>(hkl i b hb).2)
       refine⟨σ++σk,sE ⟨by simp[f2.1],fun k c u h1 h2 => ?_⟩,j1,stro.trans j2⟩
       rw[getElem?_map] at h1
       cases hk:rs'[k]? with
       | none=>simp[hk] at h1
       | some c0 =>
        simp[hk] at h1;subst h1
        have hvk:=f2.2 k c0 u hk h2
        rcases f4 k c0 hk with hid | ⟨id,s,off,len,x,rfl⟩
        ·have e:so hp.length c0=c0:=by cases c0 <;> first | rfl | (simp[PV.cO] at hid)
         rw[e]
         exact hvk.idf (fun b _ hb=>j3 b hb) hid
        ·cases hvk with
         | own _ _ _ _ _ a b cap q1 q2 q3 q4 q5 =>
          have hl:(roB hp ids).length=hp.length:=(nK ids hp).1
          refine .own (hp.length+id) s off len x a b cap ?_ q2 q3 q4 (fun hlv=>q5 ?_)
          ·rw[getElem?_append_right (by rw[S.len];omega),S.len]
           simpa using q1
          ·obtain⟨cs,hcs⟩:=hlv
           rw[getElem?_append_right (by rw[hl];omega),hl] at hcs
           exact⟨cs,by simpa using hcs⟩
end
end Go.Ab
