/- An abstract interpreter over the model's code and its soundness, part 7; each lemma states its conditions. -/
import Derived.Test.YtjdmodeenbdfpaaGreatU06
set_option linter.unusedSimpArgs false
set_option linter.unusedVariables false
namespace Go.Ab
open Go List
structure Fin (hp:Θ) (kept:Θ) (K F:Ω):Prop where
 len:kept.length=K.length
 blk:∀ (j:Nat) id,K[j]?=some id→∃ cs cs' ids,hp[id]?=some ⟨.live,cs⟩∧bu (snap hp bn) cs=some (cs',ids)∧(∀ x ∈ ids,x ∈ F)∧kept[j]?=some ⟨.live,cs'⟩
 nodup:K.Nodup
 apart:∀ x ∈ K,x ∉ F
theorem Fin.more {hp kept:Θ}{K F:Ω}(h:Fin hp kept K F){ids:Ω}(hi:∀ x ∈ ids,x ∉ K):Fin hp kept K (ids++F) :=
 ⟨h.len,fun j id hj=>by
  obtain⟨cs,cs',i',e1,e2,e3,e4⟩:=h.blk j id hj
  exact⟨cs,cs',i',e1,e2,fun x hx=>mem_append_right _ (e3 x hx),e4⟩,h.nodup,fun x hx hm=>by
  rcases mem_append.1 hm with hm | hm
  ·exact hi x hm hx
  ·exact h.apart x hx hm⟩
theorem Fin.snoc {hp kept:Θ}{K F:Ω}(h:Fin hp kept K F){id:Nat}{cs cs':Ψ}{ids:Ω}(hb:hp[id]?=some ⟨.live,cs⟩)(hs:bu (snap hp bn) cs=some (cs',ids))
  (h1:id ∉ K) (h2:id ∉ F) (h3:id ∉ ids) (h4:∀ x ∈ ids,x ∉ K):Fin hp (kept++[⟨.live,cs'⟩]) (K++[id]) (ids++F):=by
 refine⟨by simp[h.len],fun j i hj => ?_,?_,fun x hx hm => ?_⟩
 ·rcases dS hj with ⟨hlt,hj⟩| ⟨hlt,hj⟩
  ·obtain⟨ds,ds',i',e1,e2,e3,e4⟩:=h.blk j i hj
   exact⟨ds,ds',i',e1,e2,fun x hx=>mem_append_right _ (e3 x hx),by rw[getElem?_append_left (by rw[h.len];exact hlt)];exact e4⟩
  ·subst hj
   exact⟨cs,cs',ids,hb,hs,fun x hx=>mem_append_left _ hx,by rw[hlt,← h.len];simp⟩
 ·rw[nodup_append]
  exact⟨h.nodup,by simp,fun a ha b hb e=>by simp at hb;subst hb;subst e;exact h1 ha⟩
 ·rcases mem_append.1 hx with hx | hx
  ·rcases mem_append.1 hm with hm | hm
   ·exact h4 x hm hx
   ·exact h.apart x hx hm
  ·simp at hx;subst hx
   rcases mem_append.1 hm with hm | hm
   ·exact h3 hm
   ·exact h2 hm
theorem rX {l m:Ω}(h:l.any m.contains=false):∀ x ∈ l,x ∉ m:=by
 intro x hx hm
 have:l.any m.contains=true:=any_eq_true.2 ⟨x,hx,by simpa using hm⟩
 rw[h] at this;cases this
def Hand (hp:Θ)(K F:Ω)(r r':PV):Prop :=
 (∃ id s off len x j,r = .own id s off len x∧r' = .own j s off len x∧K[j]?=some id)∨∃ ids,snap hp bn r=some (r',ids)∧∀ x ∈ ids,x ∈ F
theorem pP (hp:Θ):∀ (rs:Ψ) (kept:Θ) (K K0 F:Ω) (rs':Ψ) (kept':Θ),eK hp kept K F rs=some (rs',kept')→(∀ x,x ∈ K ↔ x ∈ K0)→Fin hp kept K0 F →
  ∃ K1 F1,Fin hp kept' (K0++K1) F1∧(∀ x ∈ F,x ∈ F1)∧rs'.length=rs.length∧∀ (k:Nat) r r',rs[k]?=some r→rs'[k]?=some r'→Hand hp (K0++K1) F1 r r'
 | [],kept,K,K0,F,rs',kept',h,_,hF=>by
  simp[eK] at h
  obtain⟨rfl,rfl⟩:=h
  exact⟨[],F,by simpa using hF,fun _ h=>h,rfl,fun k r r' h=>by simp at h⟩
 | r::rs,kept,K,K0,F,rs',kept',h,hK,hF=>by
  have other:∀ (r':PV) (ids:Ω) (rs2:Ψ),snap hp bn r=some (r',ids)→ids.any K.contains=false→eK hp kept K (ids++F) rs=some (rs2,kept')→rs'=r'::rs2 →
    ∃ K1 F1,Fin hp kept' (K0++K1) F1∧(∀ x ∈ F,x ∈ F1)∧rs'.length=(r::rs).length∧∀ (k:Nat) r1 r1',(r::rs)[k]?=some r1→rs'[k]?=some r1'→Hand hp (K0++K1) F1 r1 r1':=by
   intro r' ids rs2 hs ha hf e
   subst e
   obtain⟨K1,F1,g1,g2,g3,g4⟩:=pP hp rs kept K K0 (ids++F) rs2 kept' hf hK (hF.more (fun x hx hm=>rX ha x hx ((hK x).2 hm)))
   refine⟨K1,F1,g1,fun x hx=>g2 x (mem_append_right _ hx),by simp[g3],fun k r1 r1' h1 h2 => ?_⟩
   cases k with
   | zero =>
    simp at h1 h2;subst h1;subst h2
    exact .inr ⟨ids,hs,fun x hx=>g2 x (mem_append_left _ hx)⟩
   | succ k=>simp at h1 h2;exact g4 k r1 r1' h1 h2
  have other':(match snap hp bn r with
    | some (r',ids)=>if ids.any K.contains then none else match eK hp kept K (ids++F) rs with
     | some (rs',k)=>some (r'::rs',k)
     | none=>none
    | none=>none)=some (rs',kept') →
    ∃ K1 F1,Fin hp kept' (K0++K1) F1∧(∀ x ∈ F,x ∈ F1)∧rs'.length=(r::rs).length∧∀ (k:Nat) r1 r1',(r::rs)[k]?=some r1→rs'[k]?=some r1'→Hand hp (K0++K1) F1 r1 r1':=by
   intro h
   split at h
   ·rename_i r' ids hs
    split at h
    ·cases h
    ·rename_i ha
     split at h
     ·rename_i rs2 k hf
      simp only[OiE,PiE] at h
      obtain⟨rfl,rfl⟩:=h
      exact other r' ids rs2 hs (by simpa using ha) hf rfl
     ·cases h
   ·cases h
  cases r with
  | own id s off len x =>
   simp only[eK,cY] at h
   split at h
   ·rename_i cs hb
    split at h
    ·rename_i cs' ids hs
     split at h
     ·cases h
     ·rename_i hc
      split at h
      ·rename_i rs2 k hf
       simp only[OiE,PiE] at h
       obtain⟨rfl,rfl⟩:=h
       simp only[Bool.or_eq_true,not_or,Bool.not_eq_true] at hc
       obtain⟨⟨⟨c1,c2⟩,c3⟩,c4⟩:=hc
       have n1:id ∉ K0:=fun hm=>by
        have:K.contains id=true:=by simpa using (hK id).2 hm
        rw[c1] at this;cases this
       have n2:id ∉ F:=fun hm=>by
        have:F.contains id=true:=by simpa using hm
        rw[c2] at this;cases this
       have n3:id ∉ ids:=fun hm=>by
        have:ids.contains id=true:=by simpa using hm
        rw[c3] at this;cases this
       have n4:∀ x ∈ ids,x ∉ K0:=fun x hx hm=>rX c4 x hx ((hK x).2 hm)
       obtain⟨K1,F1,g1,g2,g3,g4⟩:=pP hp rs _ (id::K) (K0++[id]) (ids++F) rs2 k hf (fun x=>by simp[hK x];exact or_comm) (hF.snoc hb hs n1 n2 n3 n4)
       have e:K0++[id]++K1=K0++(id::K1):=by simp
       rw[e] at g1 g4
       refine⟨id::K1,F1,g1,fun x hx=>g2 x (mem_append_right _ hx),by simp[g3],fun k r1 r1' h1 h2 => ?_⟩
       cases k with
       | zero =>
        simp at h1 h2;subst h1;subst h2
        exact .inl ⟨id,s,off,len,x,kept.length,rfl,rfl,by rw[hF.len];simp⟩
       | succ k=>simp at h1 h2;exact g4 k r1 r1' h1 h2
      ·cases h
    ·cases h
   ·exact other' h
  | _ =>
   simp only[eK] at h
   exact other' h
section
variable {w:World} {H:Nat→Prop} {hp:Θ} {σ:List Addr}
theorem VC (S:Sim w H σ hp){kept:Θ}{K F:Ω}(hF:Fin hp kept K F):∃ σk,Sim w H σk kept∧(∀ (j:Nat) id,K[j]?=some id→σk[j]?=σ[id]?)∧(∀ b,cS σk kept b→cS σ hp b) ∧
  (∀ b,hot H σk kept b→but H σ hp F b):=by
 have hid:∀ (j:Nat) id,K[j]?=some id→∃ a,σ[id]?=some a∧aQ hp id:=by
  intro j id hj
  obtain⟨cs,cs',ids,e1,_⟩:=hF.blk j id hj
  have hlt:=cO e1
  rw[← S.len] at hlt
  exact⟨σ[id],getElem?_eq_getElem hlt,cs,e1⟩
 let σk:List Addr:=K.map fun id=>(σ[id]?).getD ⟨0,0,none⟩
 have hσ:∀ (j:Nat) id,K[j]?=some id→σk[j]?=σ[id]?:=by
  intro j id hj
  obtain⟨a,ha,_⟩:=hid j id hj
  simp[σk,hj,ha]
 have hσ':∀ (j:Nat) a,σk[j]?=some a→∃ id,K[j]?=some id∧σ[id]?=some a∧aQ hp id:=by
  intro j a ha
  have hlt:=cO ha
  simp[σk] at hlt
  have hj:K[j]?=some K[j]:=getElem?_eq_getElem hlt
  obtain⟨a',ha',hl⟩:=hid j _ hj
  rw[hσ j _ hj,ha'] at ha
  cases ha
  exact⟨_,hj,ha',hl⟩
 have hown:∀ b,cS σk kept b→∃ i a,aQ hp i∧i ∈ K∧σ[i]?=some a∧a.block=b:=by
  rintro b ⟨j,a,h1,h2,h3⟩
  obtain⟨id,k1,k2,k3⟩:=hσ' j a h2
  exact⟨id,a,k3,mem_of_getElem? k1,k2,h3⟩
 have hbut:∀ b,hot H σk kept b→but H σ hp F b:=by
  rintro b (h | h)
  ·exact .inl h
  ·obtain⟨i,a,h1,h2,h3,h4⟩:=hown b h
   exact .inr ⟨i,a,.inl ⟨h1,hF.apart i h2⟩,h3,h4⟩
 have cellV:∀ (j:Nat) id cs cs' ids a,K[j]?=some id→hp[id]?=some ⟨.live,cs⟩→bu (snap hp bn) cs=some (cs',ids)→(∀ x ∈ ids,x ∈ F)→σ[id]?=some a→∀ (k:Nat) c,cs'[k]?=some c →
   ∃ v,w.cell? ⟨a.block,a.off+k,none⟩=some v∧V w (hot H σk kept) σk (aQ kept) c v:=by
  intro j id cs cs' ids a hj hb hs hi ha k c hk
  obtain⟨hl,h2⟩:=eU hs
  have hk1:k<cs.length:=by have:=cO hk;omega
  obtain⟨c',i',e1,e2,e3⟩:=h2 k _ (getElem?_eq_getElem hk1)
  rw[hk] at e1;cases e1
  obtain⟨v,g1,g2⟩:=S.cells id .live cs a hb (by simp) ha k _ (getElem?_eq_getElem hk1)
  obtain⟨r1,r2⟩:=oB S bn e2 (fun x hx=>hi x (e3 x hx)) g2
  exact⟨v,g1,r1.idf (fun b _ hb=>hbut b hb) r2⟩
 have nomap:∀ {i:Nat} {cs:Ψ} {a:Addr},kept[i]?=some ⟨.dead,.any::cs⟩→σk[i]?=some a→False:=by
  intro i cs a hi ha
  obtain⟨id,k1,k2,k3⟩:=hσ' i a ha
  obtain⟨ds,ds',ids,e1,e2,e3,e4⟩:=hF.blk i id k1
  rw[hi] at e4;cases e4
 refine⟨σk,⟨?_,fun j a ha => ?_,S.foreign,fun j st cs a hj hd ha k c hk => ?_,fun j st cs a hj hd ha => ?_,fun j a cs hj ha => ?_,fun i j a b st cs hi hj hd hne ha hb => ?_,fun i cs a hi ha=>(nomap hi ha).elim,fun i j a b hi hj hne ha hb=>by obtain⟨ds,hi⟩:=hi;exact (nomap hi ha).elim⟩,hσ,fun b hb => ?_,hbut⟩
 ·simp[σk,hF.len]
 ·obtain⟨id,k1,k2,k3⟩:=hσ' j a ha;exact S.spot id a k2
 ·obtain⟨id,k1,k2,k3⟩:=hσ' j a ha
  obtain⟨ds,ds',ids,e1,e2,e3,e4⟩:=hF.blk j id k1
  rw[hj] at e4;cases e4
  exact cellV j id ds cs ids a k1 e1 e2 e3 k2 k c hk
 ·obtain⟨id,k1,k2,ds,k3⟩:=hσ' j a ha
  exact S.own id .live ds a k3 (by simp) k2
 ·obtain⟨id,k1,k2,k3⟩:=hσ' j a ha
  obtain⟨ds,ds',ids,e1,e2,e3,e4⟩:=hF.blk j id k1
  rw[hj] at e4;cases e4
  obtain⟨c,e,h1,h2⟩:=S.live id a ds e1 k2
  exact⟨c,e,h1,by rw[(eU e2).1];exact h2⟩
 ·obtain⟨id1,k1,k2,k3⟩:=hσ' i a ha
  obtain⟨id2,l1,l2,ds,l3⟩:=hσ' j b hb
  refine S.inj id1 id2 a b .live ds k3 l3 (by simp) (fun e => ?_) k2 l2
  subst e
  have h1:=cO k1
  have h2:=cO l1
  have e1:K[i]=id1:=by rw[getElem?_eq_getElem h1] at k1;simpa using k1
  have e2:K[j]=id1:=by rw[getElem?_eq_getElem h2] at l1;simpa using l1
  exact hne ((getElem_inj hF.nodup).1 (e1.trans e2.symm))
 ·obtain⟨i,a,h1,h2,h3,h4⟩:=hown b hb
  exact⟨i,a,.inl h1,h3,h4⟩
theorem nc (hp:Θ):∀ (d:Nat) {p p':PV} {ids:Ω},snap hp d p=some (p',ids)→p'.cG=true
 | 0,p,p',ids,h=>by simp[snap] at h
 | d+1,p,p',ids,h=>by
  have list:∀ {cs l:Ψ} {ids:Ω},bu (snap hp d) cs=some (l,ids)→bT l=true:=by
   intro cs l ids hm
   obtain⟨h1,h2⟩:=eU hm
   refine mA (fun k c hk => ?_)
   have hk1:k<cs.length:=by have:=cO hk;omega
   obtain⟨c',i',e1,e2,_⟩:=h2 k _ (getElem?_eq_getElem hk1)
   rw[hk] at e1;cases e1
   exact nc hp d e2
  cases p with
  | own id s off len x =>
   simp only[snap,cY] at h
   split at h
   ·split at h
    ·cases h
    ·split at h
     ·split at h
      ·simp only[OiE,PiE] at h
       obtain⟨rfl,_⟩:=h;rfl
      ·cases h
     ·cases h
   ·cases h
  | agg cs =>
   simp only[snap] at h
   split at h
   ·rename_i hm
    simp only[OiE,PiE] at h
    obtain⟨rfl,_⟩:=h
    simp only[PV.cG]
    exact list hm
   ·cases h
  | clos f caps =>
   simp only[snap] at h
   split at h
   ·rename_i hf
    simp only[OiE,PiE] at h
    obtain⟨rfl,_⟩:=h
    simp only[PV.cG];exact hf
   ·cases h
  | ptr=>simp[snap] at h
  | mp=>simp[snap] at h
  | bmet=>simp[snap] at h
  | tup=>simp[snap] at h
  | any=>simp only[snap,OiE,PiE] at h;obtain⟨rfl,_⟩:=h;rfl
  | sc v=>simp only[snap,OiE,PiE] at h;obtain⟨rfl,_⟩:=h;rfl
  | imm=>simp only[snap,OiE,PiE] at h;obtain⟨rfl,_⟩:=h;rfl
  | iptr=>simp only[snap,OiE,PiE] at h;obtain⟨rfl,_⟩:=h;rfl
theorem AR (S:Sim w H σ hp){rs rs':Ψ}{kept:Θ}{vs:List Value}(h:eK hp [] [] [] rs=some (rs',kept))(hv:Vs w (hot H σ hp) σ (aQ hp) rs vs) :
  ∃ σk,Sim w H σk kept∧Vs w (hot H σk kept) σk (aQ kept) rs' vs∧(∀ b,cS σk kept b→cS σ hp b)∧(∀ (k:Nat) r,rs'[k]?=some r→r.cG=true∨∃ id s off len x,r = .own id s off len x)∧∀ (i:Nat) b,kept[i]?=some b→b.st = .live∧bT b.cs=true:=by
 obtain⟨K1,F1,g1,g2,g3,g4⟩:=pP hp rs [] [] [] [] rs' kept h (fun x=>Iff.rfl) ⟨rfl,fun j id h=>by simp at h,by simp,fun x h=>by simp at h⟩
 simp only[nil_append] at g1 g4
 obtain⟨σk,h1,h2,h3,h4⟩:=VC S g1
 have key:∀ (k:Nat) r' ,rs'[k]?=some r'→∃ r v,rs[k]?=some r∧vs[k]?=some v∧Hand hp K1 F1 r r'∧V w (hot H σ hp) σ (aQ hp) r v:=by
  intro k r' hk
  have hk1:k<rs.length:=by have:=cO hk;omega
  have hk2:k<vs.length:=by have:=hv.1;omega
  exact⟨_,_,getElem?_eq_getElem hk1,getElem?_eq_getElem hk2,g4 k _ r' (getElem?_eq_getElem hk1) hk,hv.2 k _ _ (getElem?_eq_getElem hk1) (getElem?_eq_getElem hk2)⟩
 refine⟨σk,h1,⟨by rw[g3];exact hv.1,fun k r' v hk hvk => ?_⟩,h3,fun k r' hk => ?_,fun i b hb => ?_⟩
 ·obtain⟨r,v',e1,e2,e3,e4⟩:=key k r' hk
  rw[hvk] at e2;cases e2
  rcases e3 with ⟨id,s,off,len,x,j,rfl,rfl,hj⟩| ⟨ids,hs,hi⟩
  ·cases e4 with
   | own _ _ _ _ _ a b cap q1 q2 q3 q4 q5 =>
    refine .own j s off len x a b cap (by rw[h2 j id hj];exact q1) q2 q3 q4 (fun _=>q5 ?_)
    obtain⟨cs,cs',ids,f1,_⟩:=g1.blk j id hj
    exact⟨cs,f1⟩
  ·obtain⟨r1,r2⟩:=oB S bn hs hi e4
   exact r1.idf (fun b _ hb=>h4 b hb) r2
 ·obtain⟨r,v',e1,e2,e3,e4⟩:=key k r' hk
  rcases e3 with ⟨id,s,off,len,x,j,rfl,rfl,hj⟩| ⟨ids,hs,hi⟩
  ·exact .inr ⟨j,s,off,len,x,rfl⟩
  ·exact .inl (oB S bn hs hi e4).2
 ·have hi:i<K1.length:=by rw[← g1.len];exact cO hb
  obtain⟨cs,cs',ids,e1,e2,e3,e4⟩:=g1.blk i _ (getElem?_eq_getElem hi)
  rw[hb] at e4;cases e4
  refine⟨rfl,mA (fun k c hk => ?_)⟩
  obtain⟨q1,q2⟩:=eU e2
  have hk1:k<cs.length:=by have:k<cs'.length:=cO hk;omega
  obtain⟨c',i',f1,f2,_⟩:=q2 k _ (getElem?_eq_getElem hk1)
  rw[hk] at f1;cases f1
  exact nc hp _ f2
theorem Rv {w':World}{H':Nat→Prop}{σk:List Addr}{kept:Θ}(S:Sim w H σ hp)(ho:Old w w')(Sk:Sim w' H' σk kept)(hH:∀ b,hot H σ hp b→H' b)
  (hnew:∀ b,cS σk kept b→w.heap.size≤b) (hkl:∀ (i:Nat) b,kept[i]?=some b→b.st = .live) (hidf:∀ (i:Nat) b,kept[i]?=some b→bT b.cs=true) :
  Sim w' H (σ++σk) (hp++kept)∧Step w (cS σ hp) σ (aQ hp) w' (cS (σ++σk) (hp++kept)) (σ++σk) (aQ (hp++kept))∧(∀ b,hot H (σ++σk) (hp++kept) b→hot H' σk kept b):=by
 have hget:∀ {i:Nat} {a:Addr},(σ++σk)[i]?=some a→(i<hp.length∧σ[i]?=some a)∨(hp.length≤i∧σk[i - hp.length]?=some a):=by
  intro i a h
  rcases Nat.lt_or_ge i hp.length with h' | h'
  ·rw[getElem?_append_left (by rw[S.len];exact h')] at h;exact .inl ⟨h',h⟩
  ·rw[getElem?_append_right (by rw[S.len];exact h'),S.len] at h;exact .inr ⟨h',h⟩
 have hblk:∀ {i:Nat} {b:Blk},(hp++kept)[i]?=some b→(i<hp.length∧hp[i]?=some b)∨(hp.length≤i∧kept[i - hp.length]?=some b):=by
  intro i b h
  rcases Nat.lt_or_ge i hp.length with h' | h'
  ·rw[getElem?_append_left h'] at h;exact .inl ⟨h',h⟩
  ·rw[getElem?_append_right h'] at h;exact .inr ⟨h',h⟩
 have hlv:∀ {i:Nat},aQ (hp++kept) i→(i<hp.length∧aQ hp i)∨(hp.length≤i∧aQ kept (i - hp.length)):=by
  rintro i ⟨cs,h⟩
  rcases hblk h with ⟨h1,h2⟩| ⟨h1,h2⟩
  ·exact .inl ⟨h1,cs,h2⟩
  ·exact .inr ⟨h1,cs,h2⟩
 have hmp:∀ {i:Nat},iR (hp++kept) i→i<hp.length∧iR hp i:=by
  rintro i ⟨cs,h⟩
  rcases hblk h with ⟨h1,h2⟩| ⟨h1,h2⟩
  ·exact⟨h1,cs,h2⟩
  ·have:=hkl _ _ h2;cases this
 have hov:∀ {i:Nat},xu (hp++kept) i→(i<hp.length∧xu hp i)∨(hp.length≤i∧xu kept (i - hp.length)):=by
  rintro i (h | h)
  ·exact (hlv h).imp (fun h=>⟨h.1,.inl h.2⟩) (fun h=>⟨h.1,.inl h.2⟩)
  ·exact .inl ⟨(hmp h).1,.inr (hmp h).2⟩
 have kown:∀ {i:Nat} {a:Addr} {b:Blk},kept[i]?=some b→σk[i]?=some a→cS σk kept a.block:=by
  intro i a b h1 h2
  refine⟨i,a,.inl ⟨b.cs,?_⟩,h2,rfl⟩
  rw[h1]
  have:=hkl i b h1
  cases b;simp at this;simp[this]
 have hown:∀ b,cS (σ++σk) (hp++kept) b→cS σ hp b∨cS σk kept b:=by
  rintro b ⟨i,a,h1,h2,h3⟩
  rcases hov h1 with ⟨l1,h1⟩| ⟨l1,h1⟩ <;> rcases hget h2 with ⟨l2,h2⟩| ⟨l2,h2⟩
  ·exact .inl ⟨i,a,h1,h2,h3⟩
  ·omega
  ·omega
  ·exact .inr ⟨_,a,h1,h2,h3⟩
 have hhot:∀ b,hot H (σ++σk) (hp++kept) b→hot H' σk kept b:=by
  rintro b (h | h)
  ·exact .inl (hH b (.inl h))
  ·rcases hown b h with h | h
   ·exact .inl (hH b (.inr h))
   ·exact .inr h
 have st0:=ho.step (cS σ hp) σ (aQ hp)
 have st:Step w (cS σ hp) σ (aQ hp) w' (cS (σ++σk) (hp++kept)) (σ++σk) (aQ (hp++kept)):=by
  refine⟨st0.os,st0.tape,st0.output,st0.size,fun i a ha => ?_,fun b hb _=>ho.same b hb,ho.shape _ _,fun b hb hm => ?_,fun i hi hm => ?_⟩
  ·rw[getElem?_append_left (cO ha)];exact ha
  ·rcases hown b hm with h | h
   ·exact h
   ·have:=hnew b h;omega
  ·rcases hlv hm with ⟨_,h⟩| ⟨h,_⟩
   ·exact h
   ·rw[S.len] at hi;omega
 refine⟨⟨by simp[S.len,Sk.len],fun i a ha => ?_,fun b hb=>Nat.lt_of_lt_of_le (S.foreign b hb) ho.size,fun i s cs a hi hd ha k c hk => ?_,fun i s cs a hi hd ha => ?_,fun i a cs hi ha => ?_,fun i j a b s cs hi hj hd hne ha hb => ?_,fun i cs a hi ha => ?_,fun i j a b hi hj hne ha hb => ?_⟩,st,hhot⟩
 ·rcases hget ha with ⟨_,h⟩| ⟨_,h⟩
  ·exact Nat.lt_of_lt_of_le (S.spot i a h) ho.size
  ·exact Sk.spot _ a h
 ·rcases hblk hi with ⟨l1,hi⟩| ⟨l1,hi⟩ <;> rcases hget ha with ⟨l2,ha⟩| ⟨l2,ha⟩
  ·obtain⟨v,h1,h2⟩:=S.cells i s cs a hi hd ha k c hk
   exact⟨v,by rw[fZ (w:=w) (w':=w') (a:=⟨a.block,a.off+k,none⟩) (ho.same _ (S.spot i a ha))];exact h1,h2.step st⟩
  ·omega
  ·omega
  ·obtain⟨v,h1,h2⟩:=Sk.cells _ s cs a hi hd ha k c hk
   exact⟨v,h1,h2.idf (fun b _ hb=>hhot b hb) (eG (hidf _ _ hi) hk)⟩
 ·rcases hblk hi with ⟨l1,hi⟩| ⟨l1,hi⟩ <;> rcases hget ha with ⟨l2,ha⟩| ⟨l2,ha⟩
  ·exact S.own i s cs a hi hd ha
  ·omega
  ·omega
  ·intro hh
   have h1:=hnew _ (kown hi ha)
   have h2:=S.foreign _ hh
   omega
 ·rcases hblk hi with ⟨l1,hi⟩| ⟨l1,hi⟩ <;> rcases hget ha with ⟨l2,ha⟩| ⟨l2,ha⟩
  ·obtain⟨c,e,h1,h2⟩:=S.live i a cs hi ha
   exact⟨c,e,by rw[ho.same _ (S.spot i a ha)];exact h1,h2⟩
  ·omega
  ·omega
  ·exact Sk.live _ a cs hi ha
 ·rcases hlv hi with ⟨l1,hi⟩| ⟨l1,hi⟩ <;> rcases hget ha with ⟨l2,ha⟩| ⟨l2,ha⟩ <;> rcases hblk hj with ⟨l3,hj⟩| ⟨l3,hj⟩ <;> rcases hget hb with ⟨l4,hb⟩| ⟨l4,hb⟩ <;> first | omega | skip
  ·exact S.inj i j a b s cs hi hj hd hne ha hb
  ·have h1:=S.spot i a ha
   have h2:=hnew _ (kown hj hb)
   omega
  ·obtain⟨ds,hi⟩:=hi
   have h1:=S.spot j b hb
   have h2:=hnew _ (kown hi ha)
   omega
  ·exact Sk.inj _ _ a b s cs hi hj hd (by omega) ha hb
 ·obtain⟨l1,_⟩:=hmp ⟨cs,hi⟩
  rcases hblk hi with ⟨_,hi⟩| ⟨l2,_⟩
  ·rcases hget ha with ⟨_,ha⟩| ⟨l2,_⟩
   ·obtain⟨h1,es,ck,h2,h3⟩:=S.maps i cs a hi ha
    exact⟨h1,es,ck,by rw[ho.same _ (S.spot i a ha)];exact h2,h3.step st⟩
   ·omega
  ·omega
 ·obtain⟨l1,hi⟩:=hmp hi
  obtain⟨l2,hj⟩:=hmp hj
  rcases hget ha with ⟨_,ha⟩| ⟨l3,_⟩
  ·rcases hget hb with ⟨_,hb⟩| ⟨l3,_⟩
   ·exact S.injm i j a b hi hj hne ha hb
   ·omega
  ·omega
end
def fQ (run:av):Prop:=∀ g args hp rs hp' wr,run g args hp=some (rs,hp',wr)→hp.length≤hp'.length∧∀ i,i<hp.length→i ∉ wr→hp'[i]?=hp[i]?
def uF (C:Cfg)(run:av):Prop:=∀ g args hp rs hp' wr,run g args hp=some (rs,hp',wr)→∀ (w:World) (H:Nat→Prop) (σ:List Addr) (vs:List Value),Sim w H σ hp→Vs w (hot H σ hp) σ (aQ hp) args vs →
  jf C.P g vs.toArray w fun v w'=>∃ σ' us,v=BA us∧Vs w' (hot H σ' hp') σ' (aQ hp') rs us∧Sim w' H σ' hp'∧Step w (cS σ hp) σ (aQ hp) w' (cS σ' hp') σ' (aQ hp')
def SOk (P:Program)(g:FuncId)(f:Ψ→(Nat→Option Blk)→Option (Ψ × Option (Nat × Blk))):Prop:=∀ args hp rs hp' wr,vf f args hp=some (rs,hp',wr)→∀ (w:World) (H:Nat→Prop) (σ:List Addr) (vs:List Value),Sim w H σ hp→Vs w (hot H σ hp) σ (aQ hp) args vs →
  jf P g vs.toArray w fun v w'=>∃ σ' us,v=BA us∧Vs w' (hot H σ' hp') σ' (aQ hp') rs us∧Sim w' H σ' hp'∧Step w (cS σ hp) σ (aQ hp) w' (cS σ' hp') σ' (aQ hp')
def uG (C:Cfg):Prop:=∀ g args rs,C.orc g args=some rs→bT args=true→bT rs=true∧∀ (w:World) (M:Nat→Prop) (vs:List Value),(∀ b,M b→b<w.heap.size)→Vs w M [] NoL args vs →
  jf C.P g vs.toArray w fun v w'=>∃ us,v=BA us∧Vs w' M [] NoL rs us∧Old w w'
theorem jP {a n:Nat} : Nat.blt a n=true ↔ a<n:=by
 unfold Nat.blt;rw[Nat.ble_eq];exact Iff.rfl
section
variable {w:World} {H:Nat→Prop} {hp:Θ} {σ:List Addr}
theorem lG {n:Nat}{cs:Ψ}(h:eN n cs=true){k:Nat}{c:PV}(hk:cs[k]?=some c):c.fw n=true:=by
 induction cs generalizing k with
 | nil=>simp at hk
 | cons d cs ih =>
  simp[eN] at h
  cases k with
  | zero=>simp at hk;subst hk;exact h.1
  | succ k=>simp at hk;exact ih h.2 hk
theorem nR {n:Nat}{cs:Ψ}(h:∀ (k:Nat) c,cs[k]?=some c→c.fw n=true):eN n cs=true:=by
 induction cs with
 | nil=>rfl
 | cons c cs ih =>
  simp only[eN,Bool.and_eq_true]
  exact⟨h 0 c rfl,ih (fun k d hk=>h (k+1) d (by simpa using hk))⟩
theorem V.fw {M:Nat→Prop}{L:Nat→Prop}{p:PV}{v:Value}(hv:V w M σ L p v):p.fw σ.length=true:=by
 induction hv with
 | any=>rfl
 | sc=>rfl
 | agg cs vs hl _ ih =>
  simp only[PV.fw]
  exact nR (fun k c hk=>by
   have hk1:=cO hk
   exact ih k c _ hk (Array.getElem?_eq_getElem (show k<vs.size by omega)))
 | tup cs vs hl _ ih =>
  simp only[PV.fw]
  exact nR (fun k c hk=>by
   have hk1:=cO hk
   exact ih k c _ hk (Array.getElem?_eq_getElem (show k<vs.size by omega)))
 | nil=>rfl
 | imm=>rfl
 | own id s off len x a b cap h1=>simp only[PV.fw,jP];exact cO h1
 | ptr id off a h1=>simp only[PV.fw,jP];exact cO h1
 | iptr=>rfl
 | clos f cs vs hl _ ih =>
  simp only[PV.fw]
  exact nR (fun k c hk=>by
   have hk1:=cO hk
   exact ih k c _ hk (Array.getElem?_eq_getElem (show k<vs.size by omega)))
 | bmet f cs vs hl _ ih =>
  simp only[PV.fw]
  exact nR (fun k c hk=>by
   have hk1:=cO hk
   exact ih k c _ hk (Array.getElem?_eq_getElem (show k<vs.size by omega)))
 | mp id a h1=>simp only[PV.fw,jP];exact cO h1
theorem V.zk {M M':Nat→Prop}{L L':Nat→Prop}{σ':List Addr}{n:Nat}(hσ:∀ (i:Nat) a,i<n→σ[i]?=some a→σ'[i]?=some a)(hM:∀ b,M' b→M b)(hL:∀ i,i<n→L' i→L i)
  {p:PV} {v:Value} (hv:V w M σ L p v) (h:p.fw n=true):V w M' σ' L' p v:=by
 induction hv with
 | any v=>exact .any v
 | sc v=>exact .sc v
 | agg cs vs hl _ ih =>
  simp only[PV.fw] at h
  exact .agg cs vs hl (fun k c v h1 h2=>ih k c v h1 h2 (lG h h1))
 | tup cs vs hl _ ih =>
  simp only[PV.fw] at h
  exact .tup cs vs hl (fun k c v h1 h2=>ih k c v h1 h2 (lG h h1))
 | nil x=>exact .nil x
 | imm len x cs a cap g h1 h2 h3 h4 _ =>
  exact .imm len x cs a cap g h1 h2 (fun k c hk=>⟨(h3 k c hk).1,(h3 k c hk).2.1,fun hm=>(h3 k c hk).2.2.1 (hM _ hm),(h3 k c hk).2.2.2⟩) (fun k c hk=>(h4 k c hk).idf (fun b _ hb=>hM b hb) (h3 k c hk).2.1)
 | own id s off len x a b cap h1 h2 h3 h4 h5 =>
  have hid:id<n:=by simpa only[PV.fw,jP] using h
  exact .own id s off len x a b cap (hσ id a hid h1) h2 h3 h4 (fun hl=>h5 (hL id hid hl))
 | ptr id off a h1 =>
  have hid:id<n:=by simpa only[PV.fw,jP] using h
  exact .ptr id off a (hσ id a hid h1)
 | iptr cs a g h3 h4 _ =>
  exact .iptr cs a g (fun k c hk=>⟨(h3 k c hk).1,(h3 k c hk).2.1,fun hm=>(h3 k c hk).2.2.1 (hM _ hm),(h3 k c hk).2.2.2⟩) (fun k c hk=>(h4 k c hk).idf (fun b _ hb=>hM b hb) (h3 k c hk).2.1)
 | clos f cs vs hl _ ih =>
  simp only[PV.fw] at h
  exact .clos f cs vs hl (fun k c v h1 h2=>ih k c v h1 h2 (lG h h1))
 | bmet f cs vs hl _ ih =>
  simp only[PV.fw] at h
  exact .bmet f cs vs hl (fun k c v h1 h2=>ih k c v h1 h2 (lG h h1))
 | mp id a h1 =>
  have hid:id<n:=by simpa only[PV.fw,jP] using h
  exact .mp id a (hσ id a hid h1)
theorem gJ.zk {M M':Nat→Prop}{L L':Nat→Prop}{σ':List Addr}{n:Nat}(hσ:∀ (i:Nat) a,i<n→σ[i]?=some a→σ'[i]?=some a)(hM:∀ b,M' b→M b)(hL:∀ i,i<n→L' i→L i) :
  ∀ {cs:Ψ} {es:List MapEntry},gJ w M σ L cs es→eN n cs=true→gJ w M' σ' L' cs es
 | [],[],_,_=>trivial
 | k::v::r,e::es,hr,h=>by
  simp only[eN,Bool.and_eq_true] at h
  exact⟨hr.1.zk hσ hM hL h.1,hr.2.1.zk hσ hM hL h.2.1,gJ.zk hσ hM hL hr.2.2 h.2.2⟩
 | [],_::_,hr,_=>hr.elim
 | [_],[],hr,_=>hr.elim
 | [_],_::_,hr,_=>hr.elim
 | _::_::_,[],hr,_=>hr.elim
theorem gJ.fw {M:Nat→Prop}{L:Nat→Prop} : ∀ {cs:Ψ} {es:List MapEntry},gJ w M σ L cs es→eN σ.length cs=true
 | [],[],_=>rfl
 | k::v::r,e::es,hr=>by
  simp only[eN,Bool.and_eq_true]
  exact⟨hr.1.fw,hr.2.1.fw,gJ.fw hr.2.2⟩
 | [],_::_,hr=>hr.elim
 | [_],[],hr=>hr.elim
 | [_],_::_,hr=>hr.elim
 | _::_::_,[],hr=>hr.elim
theorem dY {α:Type}{l:List α}{n i:Nat}{a:α}(h:(l.take n)[i]?=some a):i<n∧l[i]?=some a:=by
 rw[getElem?_take] at h
 split at h
 ·rename_i hi;exact⟨hi,h⟩
 ·cases h
theorem MI (S:Sim w H σ hp){n:Nat}(hn:∀ (i:Nat) st cs,i<n→hp[i]?=some ⟨st,cs⟩→st ≠ .dead→eN n cs=true)(hnm:∀ (i:Nat) cs,i<n→hp[i]?=some ⟨.dead,.any::cs⟩→eN n cs=true) :
  Sim w H (σ.take n) (hp.take n)∧(∀ b,hot H (σ.take n) (hp.take n) b→hot H σ hp b)∧(∀ b,cS (σ.take n) (hp.take n) b→cS σ hp b)∧∀ i,aQ (hp.take n) i→aQ hp i:=by
 have hlv:∀ i,aQ (hp.take n) i→aQ hp i:=fun i ⟨cs,h⟩=>⟨cs,(dY h).2⟩
 have hmp:∀ i,iR (hp.take n) i→iR hp i:=fun i ⟨cs,h⟩=>⟨cs,(dY h).2⟩
 have hown:∀ b,cS (σ.take n) (hp.take n) b→cS σ hp b:=by
  rintro b ⟨i,a,h1,h2,h3⟩
  exact⟨i,a,h1.imp (hlv i) (hmp i),(dY h2).2,h3⟩
 have hhot:∀ b,hot H (σ.take n) (hp.take n) b→hot H σ hp b:=by
  rintro b (h | h)
  ·exact .inl h
  ·exact .inr (hown b h)
 refine⟨⟨by simp[S.len],fun i a ha=>S.spot i a (dY ha).2,S.foreign,fun i st cs a hi hd ha k c hk => ?_,fun i st cs a hi hd ha=>S.own i st cs a (dY hi).2 hd (dY ha).2,
  fun i a cs hi ha=>S.live i a cs (dY hi).2 (dY ha).2,fun i j a b st cs hi hj hd hne ha hb=>S.inj i j a b st cs (hlv i hi) (dY hj).2 hd hne (dY ha).2 (dY hb).2,fun i cs a hi ha => ?_,fun i j a b hi hj hne ha hb=>S.injm i j a b (hmp i hi) (hmp j hj) hne (dY ha).2 (dY hb).2⟩,hhot,hown,hlv⟩
 rotate_left
 ·obtain⟨hin,hi⟩:=dY hi
  obtain⟨h1,es,ck,h2,h3⟩:=S.maps i cs a hi (dY ha).2
  exact⟨h1,es,ck,h2,h3.zk (n:=n) (fun j b hj hb=>by rw[getElem?_take,if_pos hj];exact hb) hhot (fun j _=>hlv j) (hnm i cs hin hi)⟩
 obtain⟨hin,hi⟩:=dY hi
 obtain⟨v,h1,h2⟩:=S.cells i st cs a hi hd (dY ha).2 k c hk
 refine⟨v,h1,h2.zk (n:=n) (fun j b hj hb => ?_) hhot (fun j _=>hlv j) (lG (hn i st cs hin hi hd) hk)⟩
 rw[getElem?_take,if_pos hj];exact hb
theorem qW {n i:Nat}{l:Ω} : i ∈ lC n l ↔ i ∈ l∧i<n:=by
 induction l with
 | nil=>simp[lC]
 | cons a l ih =>
  simp only[lC]
  cases h:Nat.blt a n with
  | true =>
   have:a<n:=jP.1 h
   simp only[cond_true,mem_cons,ih]
   constructor
   ·rintro (rfl | ⟨h1,h2⟩)
    ·exact⟨.inl rfl,this⟩
    ·exact⟨.inr h1,h2⟩
   ·rintro⟨rfl | h1,h2⟩
    ·exact .inl rfl
    ·exact .inr ⟨h1,h2⟩
  | false =>
   have : ¬ a<n:=fun hh=>by rw[jP.2 hh] at h;cases h
   simp only[cond_false,mem_cons,ih]
   constructor
   ·rintro⟨h1,h2⟩;exact⟨.inr h1,h2⟩
   ·rintro⟨rfl | h1,h2⟩
    ·exact absurd h2 this
    ·exact⟨h1,h2⟩
theorem vN {hp:Θ}{n:Nat}{l:Ω}(h:gW hp n l=true):∀ i ∈ l,∀ b,hp[i]?=some b→eN n b.cs=true:=by
 induction l with
 | nil=>intro i hi;simp at hi
 | cons a l ih =>
  simp only[gW,Bool.and_eq_true,cY] at h
  intro i hi b hb
  rcases mem_cons.1 hi with rfl | hi
  ·rw[hb] at h;exact h.1
  ·exact ih h.2 i hi b hb
theorem Xu {C:Cfg}{run:av}(hR:uF C run)(hE:fQ run)(hO:uG C){dr:Bool}{g:FuncId}{args:Ψ}{r:PV}{hp':Θ}{fp:FP}(h:bS C run dr hp g args=some (r,hp',fp))
  (S:Sim w H σ hp) {vs:List Value} (hv:Vs w (hot H σ hp) σ (aQ hp) args vs) :
  jf C.P g vs.toArray w fun v w'=>∃ σ',V w' (hot H σ' hp') σ' (aQ hp') r v∧Sim w' H σ' hp'∧Step w (cS σ hp) σ (aQ hp) w' (cS σ' hp') σ' (aQ hp'):=by
 unfold bS at h
 split at h
 ·split at h
  ·rename_i rs hp1 wr hrun
   have h0:=hR g args hp rs hp1 wr hrun w H σ vs S hv
   obtain⟨e1,e2⟩:=hE g args hp rs hp1 wr hrun
   cases hc:bT rs && gW hp1 hp.length (lC hp.length wr) with
   | false =>
    rw[hc] at h
    simp only[cond_false,OiE,PiE] at h
    obtain⟨rfl,rfl,_⟩:=h
    refine h0.mono fun v w' ⟨σ',us,hu,hvs,hs,st⟩ => ?_
    subst hu
    exact⟨σ',sJ hvs,hs,st⟩
   | true =>
    rw[hc] at h
    simp only[cond_true,OiE,PiE] at h
    obtain⟨rfl,rfl,_⟩:=h
    simp only[Bool.and_eq_true] at hc
    refine h0.mono fun v w' ⟨σ',us,hu,hvs,hs,st⟩ => ?_
    subst hu
    have hn:∀ (i:Nat) st0 cs,i<hp.length→hp1[i]?=some ⟨st0,cs⟩→st0 ≠ .dead→eN hp.length cs=true:=by
     intro i st0 cs hi hb hd
     by_cases hw:i ∈ wr
     ·exact vN hc.2 i (qW.2 ⟨hw,hi⟩) _ hb
     ·rw[e2 i hi hw] at hb
      refine nR (fun k c hk => ?_)
      have hlt:=hi
      rw[← S.len] at hlt
      obtain⟨u,_,h2⟩:=S.cells i st0 cs _ hb hd (getElem?_eq_getElem hlt) k c hk
      have:=h2.fw
      rwa [S.len] at this
    have hnm:∀ (i:Nat) cs,i<hp.length→hp1[i]?=some ⟨.dead,.any::cs⟩→eN hp.length cs=true:=by
     intro i cs hi hb
     by_cases hw:i ∈ wr
     ·have:=vN hc.2 i (qW.2 ⟨hw,hi⟩) _ hb
      simp only[eN,Bool.and_eq_true] at this
      exact this.2
     ·rw[e2 i hi hw] at hb
      have hlt:=hi
      rw[← S.len] at hlt
      obtain⟨-,es,ck,-,h3⟩:=S.maps i cs _ hb (getElem?_eq_getElem hlt)
      have:=h3.fw
      rwa [S.len] at this
    obtain⟨t1,t2,t3,t4⟩:=MI hs hn hnm
    have eσ:σ'.take hp.length=σ:=by
     rw[← S.len]
     apply ext_getElem?
     intro i
     rw[getElem?_take]
     split
     ·rename_i hi
      rw[getElem?_eq_getElem hi]
      exact st.pre i _ (getElem?_eq_getElem hi)
     ·rename_i hi
      rw[getElem?_eq_none (by omega)]
    rw[qv]
    refine⟨σ'.take hp.length,?_,t1,?_⟩
    ·have hr:=sJ hvs
     have hid:(iL rs).cG=true:=by
      have:bT rs=true:=hc.1
      unfold iL
      split
      ·simp[bT] at this;exact this
      ·simp only[PV.cG];exact this
     exact hr.idf (fun b _ hb=>t2 b hb) hid
    ·exact⟨st.os,st.tape,st.output,st.size,fun i a ha=>by rw[eσ];exact ha,st.same,fun i a c e hl hσ hb=>st.shape i a c e (t4 i hl) hσ hb,fun b hb hm=>st.hot b hb (t3 b hm),fun i hi hm=>st.live i hi (t4 i hm)⟩
  ·cases h
 ·split at h
  ·cases h
  ·rename_i args' ids hsn
   obtain⟨hv',hidf⟩:=C4 S hsn (fun x hx=>hx) hv
   have hbut:∀ b,but H σ hp ids b→b<w.heap.size:=by
    rintro b (hb | ⟨i,a,_,h2,h3⟩)
    ·exact S.foreign b hb
    ·rw[← h3];exact S.spot i a h2
   have noroB:∀ b,hot H σ (roB hp ids) b→but H σ hp ids b:=by
    rintro b (hb | ⟨i,a,h1,h2,h3⟩)
    ·exact .inl hb
    ·refine .inr ⟨i,a,?_,h2,h3⟩
     rcases h1 with h1 | h1
     ·exact .inl ((nk ids hp).2.1 i h1)
     ·exact .inr ((nk ids hp).2.2 i h1)
   obtain⟨Sro,stro⟩:=GW ids S
   split at h
   ·rename_i rs ho
    obtain⟨hrid,hcall⟩:=hO g args' rs ho hidf
    have h0:=hcall w (but H σ hp ids) vs hbut hv'
    cases hsc:rs.all eg with
    | true =>
     rw[hsc] at h
     simp only[cond_true,OiE,PiE] at h
     obtain⟨rfl,rfl,_⟩:=h
     refine h0.mono fun v w' ⟨us,hu,hvs,hold⟩ => ?_
     subst hu
     refine⟨σ,sJ ⟨hvs.1,fun k c u h1 h2=>zE (all_eq_true.1 hsc c (mem_of_getElem? h1)) (hvs.2 k c u h1 h2)⟩,Br S hold,hold.step _ _ _⟩
    | false =>
     rw[hsc] at h
     simp only[cond_false,OiE,PiE] at h
     obtain⟨rfl,rfl,_⟩:=h
     refine h0.mono fun v w' ⟨us,hu,hvs,hold⟩ => ?_
     subst hu
     refine⟨σ,sJ ⟨hvs.1,fun k c u h1 h2=>(hvs.2 k c u h1 h2).idf (fun b _ hb=>noroB b hb) (eG hrid h1)⟩,Br Sro hold,stro.trans (hold.step _ _ _)⟩
   ·split at h
    ·cases h
    ·rename_i rs hp1 wr hrun
     have S0:Sim w (but H σ hp ids) [] []:=KE hbut
     have hvs0:Vs w (hot (but H σ hp ids) [] []) [] (aQ []) args' vs:=⟨hv'.1,fun k c u h1 h2=>(hv'.2 k c u h1 h2).idf (fun b _ hb=>by
      rcases hb with hb | ⟨i,a,_,h2,_⟩
      ·exact hb
      ·simp at h2) (eG hidf h1)⟩
     have h0:=hR g args' [] rs hp1 wr hrun w (but H σ hp ids) [] vs S0 hvs0
     split at h
     ·cases h
     ·rename_i rs' kept hfin
      have hOld:∀ {w':World} {σ':List Addr},Step w (cS [] []) [] (aQ []) w' (cS σ' hp1) σ' (aQ hp1)→Old w w':=fun st =>
       ⟨st.os,st.tape,st.output,st.size,fun b hb=>st.same b hb (fun ⟨i,a,_,h2,_⟩=>by simp at h2)⟩
      cases hsc:rs'.all eg with
      | true =>
       rw[hsc] at h
       simp only[cond_true,OiE,PiE] at h
       obtain⟨rfl,rfl,_⟩:=h
       refine h0.mono fun v w' ⟨σ',us,hu,hvs,hs,st⟩ => ?_
       subst hu
       obtain⟨σk,f1,f2,f3,f4,_⟩:=AR hs hfin hvs
       exact⟨σ,sJ ⟨f2.1,fun k c u h1 h2=>zE (all_eq_true.1 hsc c (mem_of_getElem? h1)) (f2.2 k c u h1 h2)⟩,Br S (hOld st),(hOld st).step _ _ _⟩
      | false =>
       rw[hsc] at h
       simp only[cond_false,OiE,PiE] at h
       obtain⟨rfl,rfl,_⟩:=h
       refine h0.mono fun v w' ⟨σ',us,hu,hvs,hs,st⟩ => ?_
       subst hu
       obtain⟨σk,f1,f2,f3,f4,hkl⟩:=AR hs hfin hvs
       obtain⟨j1,j2,j3⟩:=Rv Sro (hOld st) f1 noroB (fun b hb=>by
        rcases Nat.lt_or_ge b w.heap.size with hlt | hge
        ·obtain⟨i,a,_,h2,_⟩:=st.hot b hlt (f3 b hb)
         simp at h2
        ·exact hge) (fun i b hb=>(hkl i b hb).1) (fun i b hb=>(hkl i b hb).2)
       refine⟨σ++σk,sJ ⟨by simp[f2.1],fun k c u h1 h2 => ?_⟩,j1,stro.trans j2⟩
       rw[getElem?_map] at h1
       cases hk:rs'[k]? with
       | none=>simp[hk] at h1
       | some c0 =>
        simp[hk] at h1;subst h1
        have hvk:=f2.2 k c0 u hk h2
        rcases f4 k c0 hk with hid | ⟨id,s,off,len,x,rfl⟩
        ·have e:sx hp.length c0=c0:=by cases c0 <;> first | rfl | (simp[PV.cG] at hid)
         rw[e]
         exact hvk.idf (fun b _ hb=>j3 b hb) hid
        ·cases hvk with
         | own _ _ _ _ _ a b cap q1 q2 q3 q4 q5 =>
          have hl:(roB hp ids).length=hp.length:=(nk ids hp).1
          refine .own (hp.length+id) s off len x a b cap ?_ q2 q3 q4 (fun hlv=>q5 ?_)
          ·rw[getElem?_append_right (by rw[S.len];omega),S.len]
           simpa using q1
          ·obtain⟨cs,hcs⟩:=hlv
           rw[getElem?_append_right (by rw[hl];omega),hl] at hcs
           exact⟨cs,by simpa using hcs⟩
end
end Go.Ab
