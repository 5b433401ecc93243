/- An abstract interpreter over the model's code and its soundness, part 5; each lemma states its conditions. -/
import Derived.Test.YtjdmodeenbdfpaaGreatW04
set_option linter.unusedSimpArgs false
set_option linter.unusedVariables false
namespace Go.Ab
open Go List
def fR (run:aw):Prop:=∀ g args hp rs hp' wr,run g args hp=some (rs,hp',wr)→hp.length≤hp'.length∧∀ i,i<hp.length→i ∉ wr→hp'[i]?=hp[i]?
def uC (C:Cfg)(run:aw):Prop:=∀ g args hp rs hp' wr,run g args hp=some (rs,hp',wr)→∀ (w:World) (H:Nat→Prop) (σ:List Addr) (vs:List Value),Sim w H σ hp→Vs w (hot H σ hp) σ (aY hp) args vs →
  jk C.P g vs.toArray w fun v w'=>∃ σ' us,v=BI us∧Vs w' (hot H σ' hp') σ' (aY hp') rs us∧Sim w' H σ' hp'∧Step w (cS σ hp) σ (aY hp) w' (cS σ' hp') σ' (aY hp')
def SOk (P:Program)(g:FuncId)(f:Ψ→(Nat→Option Blk)→Option (Ψ × Option (Nat × Blk))):Prop:=∀ args hp rs hp' wr,vc f args hp=some (rs,hp',wr)→∀ (w:World) (H:Nat→Prop) (σ:List Addr) (vs:List Value),Sim w H σ hp→Vs w (hot H σ hp) σ (aY hp) args vs →
  jk P g vs.toArray w fun v w'=>∃ σ' us,v=BI us∧Vs w' (hot H σ' hp') σ' (aY hp') rs us∧Sim w' H σ' hp'∧Step w (cS σ hp) σ (aY hp) w' (cS σ' hp') σ' (aY hp')
def uE (C:Cfg):Prop:=∀ g args rs,C.orc g args=some rs→bM args=true→bM rs=true∧∀ (w:World) (M:Nat→Prop) (vs:List Value),(∀ b,M b→b<w.heap.size)→Vs w M [] NoL args vs →
  jk C.P g vs.toArray w fun v w'=>∃ us,v=BI us∧Vs w' M [] NoL rs us∧Old w w'
theorem jW {a n:Nat} : Nat.blt a n=true ↔ a<n:=by
 unfold Nat.blt;rw[Nat.ble_eq];exact Iff.rfl
section
variable {w:World} {H:Nat→Prop} {hp:Θ} {σ:List Addr}
theorem lV {n:Nat}{cs:Ψ}(h:eF n cs=true){k:Nat}{c:PV}(hk:cs[k]?=some c):c.fy n=true:=by
 induction cs generalizing k with
 | nil=>simp at hk
 | cons d cs ih =>
  simp[eF] at h
  cases k with
  | zero=>simp at hk;subst hk;exact h.1
  | succ k=>simp at hk;exact ih h.2 hk
theorem nS {n:Nat}{cs:Ψ}(h:∀ (k:Nat) c,cs[k]?=some c→c.fy n=true):eF n cs=true:=by
 induction cs with
 | nil=>rfl
 | cons c cs ih =>
  simp only[eF,Bool.and_eq_true]
  exact⟨h 0 c rfl,ih (fun k d hk=>h (k+1) d (by simpa using hk))⟩
theorem V.fy {M:Nat→Prop}{L:Nat→Prop}{p:PV}{v:Value}(hv:V w M σ L p v):p.fy σ.length=true:=by
 induction hv with
 | any=>rfl
 | sc=>rfl
 | agg cs vs hl _ ih =>
  simp only[PV.fy]
  exact nS (fun k c hk=>by
   have hk1:=cQ hk
   exact ih k c _ hk (Array.getElem?_eq_getElem (show k<vs.size by omega)))
 | tup cs vs hl _ ih =>
  simp only[PV.fy]
  exact nS (fun k c hk=>by
   have hk1:=cQ hk
   exact ih k c _ hk (Array.getElem?_eq_getElem (show k<vs.size by omega)))
 | nil=>rfl
 | imm=>rfl
 | own id s off len x a b cap h1=>simp only[PV.fy,jW];exact cQ h1
 | ptr id off a h1=>simp only[PV.fy,jW];exact cQ h1
 | iptr=>rfl
 | clos f cs vs hl _ ih =>
  simp only[PV.fy]
  exact nS (fun k c hk=>by
   have hk1:=cQ hk
   exact ih k c _ hk (Array.getElem?_eq_getElem (show k<vs.size by omega)))
 | bmet f cs vs hl _ ih =>
  simp only[PV.fy]
  exact nS (fun k c hk=>by
   have hk1:=cQ hk
   exact ih k c _ hk (Array.getElem?_eq_getElem (show k<vs.size by omega)))
 | mp id a h1=>simp only[PV.fy,jW];exact cQ h1
theorem V.y8 {M M':Nat→Prop}{L L':Nat→Prop}{σ':List Addr}{n:Nat}(hσ:∀ (i:Nat) a,i<n→σ[i]?=some a→σ'[i]?=some a)(hM:∀ b,M' b→M b)(hL:∀ i,i<n→L' i→L i)
  {p:PV} {v:Value} (hv:V w M σ L p v) (h:p.fy n=true):V w M' σ' L' p v:=by
 induction hv with
 | any v=>exact .any v
 | sc v=>exact .sc v
 | agg cs vs hl _ ih =>
  simp only[PV.fy] at h
  exact .agg cs vs hl (fun k c v h1 h2=>ih k c v h1 h2 (lV h h1))
 | tup cs vs hl _ ih =>
  simp only[PV.fy] at h
  exact .tup cs vs hl (fun k c v h1 h2=>ih k c v h1 h2 (lV h h1))
 | nil x=>exact .nil x
 | imm len x cs a cap g h1 h2 h3 h4 _ =>
  exact .imm len x cs a cap g h1 h2 (fun k c hk=>⟨(h3 k c hk).1,(h3 k c hk).2.1,fun hm=>(h3 k c hk).2.2.1 (hM _ hm),(h3 k c hk).2.2.2⟩) (fun k c hk=>(h4 k c hk).idf (fun b _ hb=>hM b hb) (h3 k c hk).2.1)
 | own id s off len x a b cap h1 h2 h3 h4 h5 =>
  have hid:id<n:=by simpa only[PV.fy,jW] using h
  exact .own id s off len x a b cap (hσ id a hid h1) h2 h3 h4 (fun hl=>h5 (hL id hid hl))
 | ptr id off a h1 =>
  have hid:id<n:=by simpa only[PV.fy,jW] using h
  exact .ptr id off a (hσ id a hid h1)
 | iptr cs a g h3 h4 _ =>
  exact .iptr cs a g (fun k c hk=>⟨(h3 k c hk).1,(h3 k c hk).2.1,fun hm=>(h3 k c hk).2.2.1 (hM _ hm),(h3 k c hk).2.2.2⟩) (fun k c hk=>(h4 k c hk).idf (fun b _ hb=>hM b hb) (h3 k c hk).2.1)
 | clos f cs vs hl _ ih =>
  simp only[PV.fy] at h
  exact .clos f cs vs hl (fun k c v h1 h2=>ih k c v h1 h2 (lV h h1))
 | bmet f cs vs hl _ ih =>
  simp only[PV.fy] at h
  exact .bmet f cs vs hl (fun k c v h1 h2=>ih k c v h1 h2 (lV h h1))
 | mp id a h1 =>
  have hid:id<n:=by simpa only[PV.fy,jW] using h
  exact .mp id a (hσ id a hid h1)
theorem gS.y8 {M M':Nat→Prop}{L L':Nat→Prop}{σ':List Addr}{n:Nat}(hσ:∀ (i:Nat) a,i<n→σ[i]?=some a→σ'[i]?=some a)(hM:∀ b,M' b→M b)(hL:∀ i,i<n→L' i→L i) :
  ∀ {cs:Ψ} {es:List MapEntry},gS w M σ L cs es→eF n cs=true→gS w M' σ' L' cs es
 | [],[],_,_=>trivial
 | k::v::r,e::es,hr,h=>by
  simp only[eF,Bool.and_eq_true] at h
  exact⟨hr.1.y8 hσ hM hL h.1,hr.2.1.y8 hσ hM hL h.2.1,gS.y8 hσ hM hL hr.2.2 h.2.2⟩
 | [],_::_,hr,_=>hr.elim
 | [_],[],hr,_=>hr.elim
 | [_],_::_,hr,_=>hr.elim
 | _::_::_,[],hr,_=>hr.elim
theorem gS.fy {M:Nat→Prop}{L:Nat→Prop} : ∀ {cs:Ψ} {es:List MapEntry},gS w M σ L cs es→eF σ.length cs=true
 | [],[],_=>rfl
 | k::v::r,e::es,hr=>by
  simp only[eF,Bool.and_eq_true]
  exact⟨hr.1.fy,hr.2.1.fy,gS.fy hr.2.2⟩
 | [],_::_,hr=>hr.elim
 | [_],[],hr=>hr.elim
 | [_],_::_,hr=>hr.elim
 | _::_::_,[],hr=>hr.elim
theorem ew {α:Type}{l:List α}{n i:Nat}{a:α}(h:(l.take n)[i]?=some a):i<n∧l[i]?=some a:=by
 rw[getElem?_take] at h
 split at h
 ·rename_i hi;exact⟨hi,h⟩
 ·cases h
theorem Mw (S:Sim w H σ hp){n:Nat}(hn:∀ (i:Nat) st cs,i<n→hp[i]?=some ⟨st,cs⟩→st ≠ .dead→eF n cs=true)(hnm:∀ (i:Nat) cs,i<n→hp[i]?=some ⟨.dead,.any::cs⟩→eF n cs=true) :
  Sim w H (σ.take n) (hp.take n)∧(∀ b,hot H (σ.take n) (hp.take n) b→hot H σ hp b)∧(∀ b,cS (σ.take n) (hp.take n) b→cS σ hp b)∧∀ i,aY (hp.take n) i→aY hp i:=by
 have hlv:∀ i,aY (hp.take n) i→aY hp i:=fun i ⟨cs,h⟩=>⟨cs,(ew h).2⟩
 have hmp:∀ i,iT (hp.take n) i→iT hp i:=fun i ⟨cs,h⟩=>⟨cs,(ew h).2⟩
 have hown:∀ b,cS (σ.take n) (hp.take n) b→cS σ hp b:=by
  rintro b ⟨i,a,h1,h2,h3⟩
  exact⟨i,a,h1.imp (hlv i) (hmp i),(ew h2).2,h3⟩
 have hhot:∀ b,hot H (σ.take n) (hp.take n) b→hot H σ hp b:=by
  rintro b (h | h)
  ·exact .inl h
  ·exact .inr (hown b h)
 refine⟨⟨by simp[S.len],fun i a ha=>S.spot i a (ew ha).2,S.foreign,fun i st cs a hi hd ha k c hk => ?_,fun i st cs a hi hd ha=>S.own i st cs a (ew hi).2 hd (ew ha).2,
  fun i a cs hi ha=>S.live i a cs (ew hi).2 (ew ha).2,fun i j a b st cs hi hj hd hne ha hb=>S.inj i j a b st cs (hlv i hi) (ew hj).2 hd hne (ew ha).2 (ew hb).2,fun i cs a hi ha => ?_,fun i j a b hi hj hne ha hb=>S.injm i j a b (hmp i hi) (hmp j hj) hne (ew ha).2 (ew hb).2⟩,hhot,hown,hlv⟩
 rotate_left
 ·obtain⟨hin,hi⟩:=ew hi
  obtain⟨h1,es,ck,h2,h3⟩:=S.maps i cs a hi (ew ha).2
  exact⟨h1,es,ck,h2,h3.y8 (n:=n) (fun j b hj hb=>by rw[getElem?_take,if_pos hj];exact hb) hhot (fun j _=>hlv j) (hnm i cs hin hi)⟩
 obtain⟨hin,hi⟩:=ew hi
 obtain⟨v,h1,h2⟩:=S.cells i st cs a hi hd (ew ha).2 k c hk
 refine⟨v,h1,h2.y8 (n:=n) (fun j b hj hb => ?_) hhot (fun j _=>hlv j) (lV (hn i st cs hin hi hd) hk)⟩
 rw[getElem?_take,if_pos hj];exact hb
theorem qZ {n i:Nat}{l:Ω} : i ∈ lP n l ↔ i ∈ l∧i<n:=by
 induction l with
 | nil=>simp[lP]
 | cons a l ih =>
  simp only[lP]
  cases h:Nat.blt a n with
  | true =>
   have:a<n:=jW.1 h
   simp only[cond_true,mem_cons,ih]
   constructor
   ·rintro (rfl | ⟨h1,h2⟩)
    ·exact⟨.inl rfl,this⟩
    ·exact⟨.inr h1,h2⟩
   ·rintro⟨rfl | h1,h2⟩
    ·exact .inl rfl
    ·exact .inr ⟨h1,h2⟩
  | false =>
   have : ¬ a<n:=fun hh=>by rw[jW.2 hh] at h;cases h
   simp only[cond_false,mem_cons,ih]
   constructor
   ·rintro⟨h1,h2⟩;exact⟨.inr h1,h2⟩
   ·rintro⟨rfl | h1,h2⟩
    ·exact absurd h2 this
    ·exact⟨h1,h2⟩
theorem vE {hp:Θ}{n:Nat}{l:Ω}(h:ir hp n l=true):∀ i ∈ l,∀ b,hp[i]?=some b→eF n b.cs=true:=by
 induction l with
 | nil=>intro i hi;simp at hi
 | cons a l ih =>
  simp only[ir,Bool.and_eq_true,cW] at h
  intro i hi b hb
  rcases mem_cons.1 hi with rfl | hi
  ·rw[hb] at h;exact h.1
  ·exact ih h.2 i hi b hb
theorem WZ {C:Cfg}{run:aw}(hR:uC C run)(hE:fR run)(hO:uE C){dr:Bool}{g:FuncId}{args:Ψ}{r:PV}{hp':Θ}{fp:FP}(h:bU C run dr hp g args=some (r,hp',fp))
  (S:Sim w H σ hp) {vs:List Value} (hv:Vs w (hot H σ hp) σ (aY hp) args vs) :
  jk C.P g vs.toArray w fun v w'=>∃ σ',V w' (hot H σ' hp') σ' (aY hp') r v∧Sim w' H σ' hp'∧Step w (cS σ hp) σ (aY hp) w' (cS σ' hp') σ' (aY hp'):=by
 unfold bU at h
 split at h
 ·split at h
  ·rename_i rs hp1 wr hrun
   have h0:=hR g args hp rs hp1 wr hrun w H σ vs S hv
   obtain⟨e1,e2⟩:=hE g args hp rs hp1 wr hrun
   cases hc:bM rs && ir hp1 hp.length (lP hp.length wr) with
   | false =>
    rw[hc] at h
    simp only[cond_false,OiE,PiE] at h
    obtain⟨rfl,rfl,_⟩:=h
    refine h0.mono fun v w' ⟨σ',us,hu,hvs,hs,st⟩ => ?_
    subst hu
    exact⟨σ',sz hvs,hs,st⟩
   | true =>
    rw[hc] at h
    simp only[cond_true,OiE,PiE] at h
    obtain⟨rfl,rfl,_⟩:=h
    simp only[Bool.and_eq_true] at hc
    refine h0.mono fun v w' ⟨σ',us,hu,hvs,hs,st⟩ => ?_
    subst hu
    have hn:∀ (i:Nat) st0 cs,i<hp.length→hp1[i]?=some ⟨st0,cs⟩→st0 ≠ .dead→eF hp.length cs=true:=by
     intro i st0 cs hi hb hd
     by_cases hw:i ∈ wr
     ·exact vE hc.2 i (qZ.2 ⟨hw,hi⟩) _ hb
     ·rw[e2 i hi hw] at hb
      refine nS (fun k c hk => ?_)
      have hlt:=hi
      rw[← S.len] at hlt
      obtain⟨u,_,h2⟩:=S.cells i st0 cs _ hb hd (List.getElem?_eq_getElem hlt) k c hk
      have:=h2.fy
      rwa [S.len] at this
    have hnm:∀ (i:Nat) cs,i<hp.length→hp1[i]?=some ⟨.dead,.any::cs⟩→eF hp.length cs=true:=by
     intro i cs hi hb
     by_cases hw:i ∈ wr
     ·have:=vE hc.2 i (qZ.2 ⟨hw,hi⟩) _ hb
      simp only[eF,Bool.and_eq_true] at this
      exact this.2
     ·rw[e2 i hi hw] at hb
      have hlt:=hi
      rw[← S.len] at hlt
      obtain⟨-,es,ck,-,h3⟩:=S.maps i cs _ hb (List.getElem?_eq_getElem hlt)
      have:=h3.fy
      rwa [S.len] at this
    obtain⟨t1,t2,t3,t4⟩:=Mw hs hn hnm
    have eσ:σ'.take hp.length=σ:=by
     rw[← S.len]
     apply ext_getElem?
     intro i
     rw[getElem?_take]
     split
     ·rename_i hi
      rw[List.getElem?_eq_getElem hi]
      exact st.pre i _ (List.getElem?_eq_getElem hi)
     ·rename_i hi
      rw[getElem?_eq_none (by omega)]
    rw[qw]
    refine⟨σ'.take hp.length,?_,t1,?_⟩
    ·have hr:=sz hvs
     have hid:(ja rs).cF=true:=by
      have:bM rs=true:=hc.1
      unfold ja
      split
      ·simp[bM] at this;exact this
      ·simp only[PV.cF];exact this
     exact hr.idf (fun b _ hb=>t2 b hb) hid
    ·exact⟨st.os,st.tape,st.output,st.size,fun i a ha=>by rw[eσ];exact ha,st.same,fun i a c e hl hσ hb=>st.shape i a c e (t4 i hl) hσ hb,fun b hb hm=>st.hot b hb (t3 b hm),fun i hi hm=>st.live i hi (t4 i hm)⟩
  ·cases h
 ·split at h
  ·cases h
  ·rename_i args' ids hsn
   obtain⟨hv',hidf⟩:=Di S hsn (fun x hx=>hx) hv
   have hbut:∀ b,but H σ hp ids b→b<w.heap.size:=by
    rintro b (hb | ⟨i,a,_,h2,h3⟩)
    ·exact S.foreign b hb
    ·rw[← h3];exact S.spot i a h2
   have noroB:∀ b,hot H σ (roB hp ids) b→but H σ hp ids b:=by
    rintro b (hb | ⟨i,a,h1,h2,h3⟩)
    ·exact .inl hb
    ·refine .inr ⟨i,a,?_,h2,h3⟩
     rcases h1 with h1 | h1
     ·exact .inl ((nt ids hp).2.1 i h1)
     ·exact .inr ((nt ids hp).2.2 i h1)
   obtain⟨Sro,stro⟩:=GL ids S
   split at h
   ·rename_i rs ho
    obtain⟨hrid,hcall⟩:=hO g args' rs ho hidf
    have h0:=hcall w (but H σ hp ids) vs hbut hv'
    cases hsc:rs.all ed with
    | true =>
     rw[hsc] at h
     simp only[cond_true,OiE,PiE] at h
     obtain⟨rfl,rfl,_⟩:=h
     refine h0.mono fun v w' ⟨us,hu,hvs,hold⟩ => ?_
     subst hu
     refine⟨σ,sz ⟨hvs.1,fun k c u h1 h2=>zv (all_eq_true.1 hsc c (mem_of_getElem? h1)) (hvs.2 k c u h1 h2)⟩,Bx S hold,hold.step _ _ _⟩
    | false =>
     rw[hsc] at h
     simp only[cond_false,OiE,PiE] at h
     obtain⟨rfl,rfl,_⟩:=h
     refine h0.mono fun v w' ⟨us,hu,hvs,hold⟩ => ?_
     subst hu
     refine⟨σ,sz ⟨hvs.1,fun k c u h1 h2=>(hvs.2 k c u h1 h2).idf (fun b _ hb=>noroB b hb) (eN hrid h1)⟩,Bx Sro hold,stro.trans (hold.step _ _ _)⟩
   ·split at h
    ·cases h
    ·rename_i rs hp1 wr hrun
     have S0:Sim w (but H σ hp ids) [] []:=JZ hbut
     have hvs0:Vs w (hot (but H σ hp ids) [] []) [] (aY []) args' vs:=⟨hv'.1,fun k c u h1 h2=>(hv'.2 k c u h1 h2).idf (fun b _ hb=>by
      rcases hb with hb | ⟨i,a,_,h2,_⟩
      ·exact hb
      ·simp at h2) (eN hidf h1)⟩
     have h0:=hR g args' [] rs hp1 wr hrun w (but H σ hp ids) [] vs S0 hvs0
     split at h
     ·cases h
     ·rename_i rs' kept hfin
      have hOld:∀ {w':World} {σ':List Addr},Step w (cS [] []) [] (aY []) w' (cS σ' hp1) σ' (aY hp1)→Old w w':=fun st =>
       ⟨st.os,st.tape,st.output,st.size,fun b hb=>st.same b hb (fun ⟨i,a,_,h2,_⟩=>by simp at h2)⟩
      cases hsc:rs'.all ed with
      | true =>
       rw[hsc] at h
       simp only[cond_true,OiE,PiE] at h
       obtain⟨rfl,rfl,_⟩:=h
       refine h0.mono fun v w' ⟨σ',us,hu,hvs,hs,st⟩ => ?_
       subst hu
       obtain⟨σk,f1,f2,f3,f4,_⟩:=AI hs hfin hvs
       exact⟨σ,sz ⟨f2.1,fun k c u h1 h2=>zv (all_eq_true.1 hsc c (mem_of_getElem? h1)) (f2.2 k c u h1 h2)⟩,Bx S (hOld st),(hOld st).step _ _ _⟩
      | false =>
       rw[hsc] at h
       simp only[cond_false,OiE,PiE] at h
       obtain⟨rfl,rfl,_⟩:=h
       refine h0.mono fun v w' ⟨σ',us,hu,hvs,hs,st⟩ => ?_
       subst hu
       obtain⟨σk,f1,f2,f3,f4,hkl⟩:=AI hs hfin hvs
       obtain⟨j1,j2,j3⟩:=Q9 Sro (hOld st) f1 noroB (fun b hb=>by
        rcases Nat.lt_or_ge b w.heap.size with hlt | hge
        ·obtain⟨i,a,_,h2,_⟩:=st.hot b hlt (f3 b hb)
         simp at h2
        ·exact hge) (fun i b hb=>(hkl i b hb).1) (fun i b hb=>(hkl i b hb).2)
       refine⟨σ++σk,sz ⟨by simp[f2.1],fun k c u h1 h2 => ?_⟩,j1,stro.trans j2⟩
       rw[getElem?_map] at h1
       cases hk:rs'[k]? with
       | none=>simp[hk] at h1
       | some c0 =>
        simp[hk] at h1;subst h1
        have hvk:=f2.2 k c0 u hk h2
        rcases f4 k c0 hk with hid | ⟨id,s,off,len,x,rfl⟩
        ·have e:sk hp.length c0=c0:=by cases c0 <;> first | rfl | (simp[PV.cF] at hid)
         rw[e]
         exact hvk.idf (fun b _ hb=>j3 b hb) hid
        ·cases hvk with
         | own _ _ _ _ _ a b cap q1 q2 q3 q4 q5 =>
          have hl:(roB hp ids).length=hp.length:=(nt ids hp).1
          refine .own (hp.length+id) s off len x a b cap ?_ q2 q3 q4 (fun hlv=>q5 ?_)
          ·rw[getElem?_append_right (by rw[S.len];omega),S.len]
           simpa using q1
          ·obtain⟨cs,hcs⟩:=hlv
           rw[getElem?_append_right (by rw[hl];omega),hl] at hcs
           exact⟨cs,by simpa using hcs⟩
end
def Good (H:Nat→Prop)(w0:World)(σ0:List Addr)(hp0:Θ)(st:St)(a:Act)(w:World):Prop :=
 ∃ σ,Sim w H σ st.hp∧oy w (hot H σ st.hp) σ (aY st.hp) st.fr a.tmps∧Step w0 (cS σ0 hp0) σ0 (aY hp0) w (cS σ st.hp) σ (aY st.hp)∧a.defers=[]
section
variable {C:Cfg} {run:aw} {H:Nat→Prop} {w0:World} {σ0:List Addr} {hp0:Θ}
theorem aaI {w:World}{M:Nat→Prop}{σ:List Addr}{L:Nat→Prop}{p:PV}{v:Value}(hv:V w M σ L p v)(h1:p ≠ .any)(h2:∀ b,p ≠ .sc (.bool b)):∀ b,v ≠ .bool b:=by
 intro b e
 subst e
 cases hv with
 | any=>exact h1 rfl
 | sc=>exact h2 b rfl
theorem vG {w:World}{M:Nat→Prop}{σ:List Addr}{L:Nat→Prop}{ops:Array Oper}{fr:Ψ}{tmps:Array Value}{o:Oper}{b:Bool}(hf:oy w M σ L fr tmps)(h:ah ops fr o=some b) :
  Region.wanted o (yielded ops tmps)=b:=by
 unfold ah at h
 unfold Region.wanted
 cases hg:o.guard with
 | none=>simp[hg] at h;simp[h]
 | some g =>
  obtain⟨j,want⟩:=g
  simp only[hg] at h
  cases hd:(ops[j]?).bind (·.dst) with
  | none=>simp[hd] at h
  | some d =>
   simp only[hd] at h
   have hv:=hf.nth d
   unfold yielded
   simp only[hd,Option.bind_some]
   have hlt:nth fr d ≠ .any→d<tmps.size:=by
    intro hne
    rcases Nat.lt_or_ge d tmps.size with h' | h'
    ·exact h'
    ·rw[sQ,getElem?_eq_none (by rw[hf.len];exact h')] at hne
     exact absurd rfl hne
   split at h
   ·rename_i b' e
    rw[e] at hv
    have hl:=hlt (by rw[e];simp)
    have:=hv.lf
    simp[hl] at this
    simp at h
    rw[Array.getElem?_eq_getElem hl,this,← h]
    simp
   ·cases h
   ·rename_i h1 h2
    simp at h
    have hl:=hlt (fun e=>h2 e)
    have hnb:=aaI hv (fun e=>h2 e) (fun b e=>h1 b e)
    rw[Array.getElem?_eq_getElem hl]
    have e0:tmps.getD d undef=tmps[d]:=by simp[hl]
    rw[e0] at hnb
    subst h
    split
    ·rename_i b' e
     simp at e
     exact absurd e (hnb b')
    ·rfl
theorem IY {w:World}{M:Nat→Prop}{σ:List Addr}{L:Nat→Prop}{fr:Ψ}{a:Act}{c:Call}{g:FuncId}{args:Ψ}(hf:oy w M σ L fr a.tmps)(h:aM fr c=some (g,args)) :
  ∃ vs:List Value,Vs w M σ L args vs∧∀ P ty,(do let d ← resolve a.eval c ty;invoke d.target d.args:Sem Next).run P w=(callFunc g vs.toArray).run P w:=by
 have hargs:Vs w M σ L (c.args.toList.map (aj fr)) (c.args.toList.map a.eval):=⟨by simp,fun k p v h1 h2=>by
  rw[getElem?_map] at h1 h2
  cases hk:c.args.toList[k]? with
  | none=>simp[hk] at h1
  | some x=>simp[hk] at h1 h2;subst h1;subst h2;exact hf.eval x⟩
 unfold aM at h
 split at h
 ·rename_i f hc
  have hvf:=hf.eval f
  split at h
  ·rename_i g' e
   rw[e] at hvf
   have hv:=hvf.lf
   simp only[OiE,PiE] at h
   obtain⟨rfl,rfl⟩:=h
   refine⟨_,hargs,fun P ty => ?_⟩
   have e2:(c.args.toList.map a.eval).toArray=c.args.map a.eval:=by apply Array.ext';simp
   rw[e2]
   simp[resolve,hc,hv,Deferred.ofValue,invoke]
  ·rename_i g' caps e
   rw[e] at hvf
   obtain⟨cv,hv,hrel⟩:=hvf.FG
   simp only[OiE,PiE] at h
   obtain⟨rfl,rfl⟩:=h
   refine⟨c.args.toList.map a.eval++cv.toList,⟨by simp[hrel.1],fun k p v h1 h2 => ?_⟩,fun P ty => ?_⟩
   ·rcases Nat.lt_or_ge k c.args.toList.length with hk | hk
    ·rw[getElem?_append_left (by simpa using hk)] at h1 h2
     exact hargs.2 k p v h1 h2
    ·rw[getElem?_append_right (by simpa using hk)] at h1 h2
     simp only[length_map] at h1 h2
     exact hrel.2 _ p v h1 (by simpa using h2)
   ·have e2:(c.args.toList.map a.eval++cv.toList).toArray=c.args.map a.eval++cv:=by apply Array.ext';simp
    rw[e2]
    simp[resolve,hc,hv,Deferred.ofValue,invoke]
  ·rename_i g' caps e
   rw[e] at hvf
   obtain⟨cv,hv,hrel⟩:=hvf.FX
   simp only[OiE,PiE] at h
   obtain⟨rfl,rfl⟩:=h
   refine⟨cv.toList++c.args.toList.map a.eval,⟨by simp[hrel.1],fun k p v h1 h2 => ?_⟩,fun P ty => ?_⟩
   ·have hl:=hrel.1
    rcases Nat.lt_or_ge k caps.length with hk | hk
    ·rw[getElem?_append_left hk] at h1
     rw[getElem?_append_left (by simpa [hl] using hk)] at h2
     exact hrel.2 _ p v h1 (by simpa using h2)
    ·rw[getElem?_append_right hk] at h1
     rw[getElem?_append_right (by simpa [hl] using hk)] at h2
     refine hargs.2 (k - caps.length) p v h1 ?_
     simpa [hl] using h2
   ·have e2:(cv.toList++c.args.toList.map a.eval).toArray=cv++c.args.map a.eval:=by apply Array.ext';simp
    rw[e2]
    simp[resolve,hc,hv,Deferred.ofValue,invoke]
  ·cases h
 ·cases h
theorem EF (hT:gq C.P C.T)(hR:uC C run)(hE:fR run)(hO:uE C){dr:Bool}{ops:Array Oper}{o:Oper}{st st':St}{fp:FP}{a:Act}{w:World}(h:aq C run dr ops o st=some (st',fp))
  (hg:Good H w0 σ0 hp0 st a w) {K:Act→World→Prop} {Q:Exit→Act→World→Prop} (hK:∀ a' w',Good H w0 σ0 hp0 st' a' w'→K a' w') :
  if Region.wanted o (yielded ops a.tmps) then o.wp C.P a w K Q else K (a.put o.dst undef) w:=by
 obtain⟨σ,S,hf,stp,hdef⟩:=hg
 have hputd:∀ (dst:Option Tmp) (v:Value),(a.put dst v).defers=[]:=fun dst v=>by cases dst <;> exact hdef
 unfold aq at h
 split at h
 ·rename_i v hp' fp' he
  simp only[OiE,PiE] at h
  obtain⟨rfl,_⟩:=h
  unfold aG at he
  split at he
  ·cases he
  ·rename_i hw
   rw[vG hf hw]
   simp only[OiE,PiE] at he
   obtain⟨rfl,rfl,_⟩:=he
   simp only[Bool.false_eq_true,if_false]
   exact hK _ _ ⟨σ,S,hf.put o.dst (.sc undef),stp,hputd _ _⟩
  ·rename_i hw
   rw[vG hf hw]
   simp only[if_true]
   split at he
   ·rename_i c hc
    split at he
    ·rename_i g args hcal
     obtain⟨vs,hvs,hrun⟩:=IY hf hcal
     have hcall:=WZ hR hE hO he S hvs
     have hex:∀ ρ,execOp ρ o=(do let d ← resolve ρ c o.type;invoke d.target d.args):=by
      intro ρ
      unfold ai at hc
      split at hc
      ·rename_i c' e
       split at hc
       ·simp at hc;subst hc
        unfold execOp;rw[e]
       ·cases hc
      ·cases hc
     unfold Oper.wp
     rw[hex,hrun]
     unfold jk at hcall
     split at hcall
     ·rename_i u w' e
      rw[e]
      obtain⟨σ',h1,h2,h3⟩:=hcall
      exact hK _ _ ⟨σ',h2,(hf.step h3).put o.dst h1,stp.trans h3,hputd _ _⟩
     ·rename_i f as w' e
      rw[e]
      refine hcall.mono fun en w'' ⟨u,e1,σ',h1,h2,h3⟩ => ?_
      subst e1
      exact hK _ _ ⟨σ',h2,(hf.step h3).put o.dst h1,stp.trans h3,hputd _ _⟩
     ·exact hcall.elim
    ·cases he
   ·obtain⟨n,u,w',σ',h1,h2,h3,h4,h5⟩:=QY hT S hf (o:=o) he
    unfold Oper.wp
    rw[h1]
    rcases h2 with rfl | ⟨rfl,rfl⟩
    ·exact hK _ _ ⟨σ',h4,(hf.step h5).put o.dst h3,stp.trans h5,hputd _ _⟩
    ·exact hK _ _ ⟨σ',h4,(hf.step h5).put o.dst h3,stp.trans h5,hputd _ _⟩
 ·cases h
theorem Fh (hT:gq C.P C.T)(hR:uC C run)(hE:fR run)(hO:uE C){dr:Bool}{ops:Array Oper}{Q:Exit→Act→World→Prop} : ∀ (l:List Oper) (st st':St) (fps:List FP) (a:Act) (w:World),
  ao C run dr ops l st=some (st',fps)→Good H w0 σ0 hp0 st a w→(∀ a' w',Good H w0 σ0 hp0 st' a' w'→Q .normal a' w')→wpList C.P ops Q l a w
 | [],st,st',fps,a,w,h,hg,hQ=>by
  simp only[ao,OiE,PiE] at h
  obtain⟨rfl,_⟩:=h
  exact hQ a w hg
 | o::l,st,st',fps,a,w,h,hg,hQ=>by
  simp only[ao] at h
  split at h
  ·rename_i st1 fp ho
   split at h
   ·rename_i st2 fps' hl
    simp only[OiE,PiE] at h
    obtain⟨rfl,_⟩:=h
    have:=EF (Q:=Q) hT hR hE hO ho hg (K:=wpList C.P ops Q l) (fun a' w' hg'=>Fh hT hR hE hO l st1 st2 fps' a' w' hl hg' hQ)
    unfold wpList
    split
    ·rename_i hw;rw[if_pos hw] at this;exact .inl this
    ·rename_i hw;rw[if_neg hw] at this;exact this
   ·cases h
  ·cases h
end
def Ag (hp hp2:Θ)(ids:Ω):Prop:=∀ i ∈ ids,aP hp2 i=aP hp i
theorem Ag.left {hp hp2:Θ}{a b:Ω}(h:Ag hp hp2 (a++b)):Ag hp hp2 a:=fun i hi=>h i (by simp[hi])
theorem Ag.right {hp hp2:Θ}{a b:Ω}(h:Ag hp hp2 (a++b)):Ag hp hp2 b:=fun i hi=>h i (by simp[hi])
theorem wD {hp hp2:Θ}{s:Nat}{x:PV}{n:Nat}{cs:Ψ}{ids:Ω}(h:fk hp s x=some (n,cs,ids))(ha:Ag hp hp2 ids):fk hp2 s x=some (n,cs,ids):=by
 unfold fk at *
 split at h
 ·exact h
 ·exact h
 ·rename_i id s' off len x
  split at h
  ·rename_i st cs' e
   split at h
   ·cases h
   ·rename_i hn
    split at h
    ·rename_i l hl
     simp only[OiE,PiE] at h
     obtain⟨rfl,rfl,rfl⟩:=h
     have:=ha id (by simp)
     simp only[this,e,if_neg hn,hl]
    ·cases h
  ·cases h
 ·cases h
theorem Cz {hp hp2:Θ}{x:PV}{cs:Ψ}{ids:Ω}(h:aX hp x=some (cs,ids))(ha:Ag hp hp2 ids):aX hp2 x=some (cs,ids):=by
 unfold aX at *
 split at h
 ·rename_i id off
  split at h
  ·rename_i st cs' e
   split at h
   ·cases h
   ·rename_i hn
    simp only[OiE,PiE] at h
    obtain⟨rfl,rfl⟩:=h
    have:=ha id (by simp)
    simp only[this,e,if_neg hn]
  ·cases h
 ·exact h
 ·cases h
theorem mF {f g:PV→Option (PV × Ω)}{P:Ω→Prop}(hP:∀ a b,P (a++b)→P a∧P b)(hf:∀ c r ids,f c=some (r,ids)→P ids→g c=some (r,ids)):∀ {cs l:Ψ} {ids:Ω},bj f cs=some (l,ids)→P ids→bj g cs=some (l,ids)
 | [],l,ids,h,_=>by simpa [bj] using h
 | c::cs,l,ids,h,ha=>by
  simp only[bj] at h ⊢
  split at h
  ·rename_i c' i1 e1
   split at h
   ·rename_i l' i2 e2
    simp only[OiE,PiE] at h
    obtain⟨rfl,rfl⟩:=h
    obtain⟨p1,p2⟩:=hP _ _ ha
    rw[hf c c' i1 e1 p1,mF hP hf e2 p2]
   ·cases h
  ·cases h
theorem vY {hp hp2:Θ} : ∀ (d:Nat) {x r:PV} {ids:Ω},snap hp d x=some (r,ids)→Ag hp hp2 ids→snap hp2 d x=some (r,ids)
 | 0,_,_,_,h,_=>by simp[snap] at h
 | d+1,x,r,ids,h,ha=>by
  have hm:∀ {cs l:Ψ} {ids:Ω},bj (snap hp d) cs=some (l,ids)→Ag hp hp2 ids→bj (snap hp2 d) cs=some (l,ids) :=
   fun h1 h2=>mF (P:=Ag hp hp2) (fun _ _ h=>⟨h.left,h.right⟩) (fun c r ids h h'=>vY d h h') h1 h2
  unfold snap at h ⊢
  split at h
  ·rename_i id s off len x
   split at h
   ·rename_i st cs' e
    split at h
    ·cases h
    ·rename_i hn
     split at h
     ·rename_i l hl
      split at h
      ·rename_i l' i2 e2
       simp only[OiE,PiE] at h
       obtain⟨rfl,rfl⟩:=h
       have h1:=ha id (by simp)
       have h2:Ag hp hp2 i2:=fun i hi=>ha i (by simp[hi])
       simp only[h1,e,if_neg hn,hl,hm e2 h2]
      ·cases h
     ·cases h
   ·cases h
  ·split at h
   ·rename_i l' i2 e2
    simp only[OiE,PiE] at h
    obtain⟨rfl,rfl⟩:=h
    simp only[hm e2 ha]
   ·cases h
  ·cases h
  ·cases h
  ·simpa using h
  ·cases h
  ·cases h
  ·rename_i h1 h2 h3 h4 h5 h6 h7
   simpa using h
theorem cI {hp:Θ}{id:Nat}{b b0:Blk}(h:aP hp id=some b0)(i:Nat):aP (bZ hp id b) i=if i=id then some b else aP hp i:=by
 rw[cW] at h
 simp only[cW,jl]
 rw[getElem?_set]
 by_cases hi:i=id
 ·subst hi;simp[cQ h]
 ·simp[hi,Ne.symm hi]
theorem bC (hp:Θ)(id:Nat)(b:Blk):(bZ hp id b).length=hp.length:=by rw[jl];simp
theorem bz (hp:Θ)(cs:Ψ)(i:Nat):aP (aL hp cs) i=if i=hp.length then some ⟨.live,cs⟩ else aP hp i:=by
 simp only[cW,aL]
 rw[getElem?_append]
 split
 ·rename_i h;rw[if_neg (by omega)]
 ·rename_i h
  by_cases e:i=hp.length
  ·simp[e]
  ·rw[if_neg e,getElem?_eq_none (l:=hp) (by omega),getElem?_eq_none (by simp;omega)]
theorem OY {a b:Θ}(h:∀ i,aP a i=aP b i):a=b:=by
 apply ext_getElem?
 intro i
 have:=h i
 rwa [cW,cW] at this
structure Loc (f:Θ→Option (PV × Θ × FP)):Prop where
 E:∀ hp v hp' F,f hp=some (v,hp',F)→(∀ i,i ∉ F.wr→aP hp' i=aP hp i)∧(F.all=false→F.al=false→hp'.length=hp.length)∧(F.all=false→F.wr=[]→F.al=false)
 D:∀ hp hp2 v hp' F,f hp=some (v,hp',F)→F.all=false→Ag hp hp2 F.rd→Ag hp hp2 F.wr→(F.al=true→hp2.length=hp.length) →
  ∃ hp2',f hp2=some (v,hp2',F)∧∀ i ∈ F.wr,aP hp2' i=aP hp' i
theorem Loc.no:Loc fun _=>(.none:Option (PV × Θ × FP)):=⟨(fun _ _ _ _ h=>nomatch h),(fun _ _ _ _ _ h=>nomatch h)⟩
theorem Loc.read {g:Θ→Option (PV × Ω)}(hg:∀ hp hp2 v ids,g hp=some (v,ids)→Ag hp hp2 ids→g hp2=some (v,ids)) :
  Loc fun hp=>match g hp with | some (v,ids)=>some (v,hp,⟨ids,[],false,false⟩) | .none=>.none:=by
 constructor
 ·intro hp v hp' F h
  try dsimp only at h
  split at h
  ·simp only[OiE,PiE] at h
   obtain⟨rfl,rfl,rfl⟩:=h
   exact⟨fun _ _=>rfl,fun _ _=>rfl,fun _ _=>rfl⟩
  ·cases h
 ·intro hp hp2 v hp' F h _ hr hw hl
  try dsimp only at h
  split at h
  ·rename_i v' ids e
   simp only[OiE,PiE] at h
   obtain⟨rfl,rfl,rfl⟩:=h
   exact⟨hp2,by simp only[hg hp hp2 _ _ e hr],by simp⟩
  ·cases h
theorem Loc.pure (v:PV):Loc fun hp=>some (v,hp,FzZ):=Loc.read (g:=fun _=>some (v,[])) fun _ _ _ _ h _=>h
theorem Loc.opt (v:Option PV):Loc fun hp=>match v with | some x=>some (x,hp,FzZ) | .none=>.none:=by
 cases v with
 | none=>exact Loc.no
 | some v=>exact Loc.pure v
theorem Loc.alloc (mk:Nat→PV)(cs:Ψ):Loc fun hp=>some (mk hp.length,aL hp cs,⟨[],[hp.length],true,false⟩):=by
 constructor
 ·intro hp v hp' F h
  simp only[OiE,PiE] at h
  obtain⟨rfl,rfl,rfl⟩:=h
  refine⟨fun i hi => ?_,fun _ h=>by simp at h,fun _ h=>by simp at h⟩
  rw[bz,if_neg (by simpa using hi)]
 ·intro hp hp2 v hp' F h _ hr hw hl
  simp only[OiE,PiE] at h
  obtain⟨rfl,rfl,rfl⟩:=h
  have:=hl rfl
  refine⟨aL hp2 cs,by simp[this],fun i hi => ?_⟩
  simp at hi
  rw[bz,bz,if_pos hi,if_pos (by omega)]
theorem oo (s:Nat)(x:PV)(n:Nat)(new:Ψ):Loc fun hp=>cw hp s x n new:=by
 unfold cw
 split
 ·split
  ·exact Loc.pure _
  ·split
   ·exact Loc.alloc (fun k=>.own k s 0 n false) new
   ·exact Loc.no
 ·split
  ·exact Loc.pure _
  ·rename_i len cs _
   split
   ·exact Loc.alloc (fun k=>.own k s 0 (len+n) false) (cs++new)
   ·exact Loc.no
 ·rename_i id s' off len
  split
  ·exact Loc.no
  ·split
   ·exact Loc.pure _
   ·constructor
    ·intro hp v hp' F h
     try dsimp only at h
     repeat' split at h
     all_goals first | cases h;done | skip
     simp only[OiE,PiE] at h
     obtain⟨rfl,rfl,rfl⟩:=h
     refine⟨fun i hi => ?_,fun _ h=>by simp at h,fun _ h=>by simp at h⟩
     rw[bz,if_neg (by simpa using hi)]
    ·intro hp hp2 v hp' F h _ hr hw hl
     try dsimp only at h
     split at h
     ·rename_i st cs e
      split at h
      ·cases h
      ·rename_i hn
       split at h
       ·rename_i l hl'
        split at h
        ·rename_i hm
         simp only[OiE,PiE] at h
         obtain⟨rfl,rfl,rfl⟩:=h
         have h0:=hl rfl
         have h1:=hr id (by simp)
         refine⟨aL hp2 (l++new),by simp only[h1,e,if_neg hn,hl',if_pos hm,h0],fun i hi => ?_⟩
         simp at hi
         rw[bz,bz,if_pos hi,if_pos (by omega)]
        ·cases h
       ·cases h
     ·cases h
 ·rename_i id s' off len
  split
  ·exact Loc.no
  ·constructor
   ·intro hp v hp' F h
    try dsimp only at h
    split at h
    ·rename_i cs e
     split at h
     ·split at h
      ·simp only[OiE,PiE] at h
       obtain⟨rfl,rfl,rfl⟩:=h
       refine⟨fun i hi => ?_,fun _ h=>by simp at h,fun _ h=>by simp at h⟩
       simp at hi
       rw[bz,bC,if_neg hi.2,cI e,if_neg hi.1]
      ·cases h
     ·cases h
    ·cases h
   ·intro hp hp2 v hp' F h _ hr hw hl
    try dsimp only at h
    split at h
    ·rename_i cs e
     split at h
     ·rename_i l hl'
      split at h
      ·rename_i hm
       simp only[OiE,PiE] at h
       obtain⟨rfl,rfl,rfl⟩:=h
       have h0:=hl rfl
       have h1:=hw id (by simp)
       refine⟨aL (bZ hp2 id ⟨.dead,[]⟩) (l++new),by simp only[h1,e,hl',if_pos hm,h0],fun i hi => ?_⟩
       rw[bz,bz,bC,bC,cI e,cI (h1.trans e),h0]
       simp at hi
       rcases hi with hi | hi
       ·subst hi
        have:i≠hp.length:=by have:=cQ ((cW _ _).symm.trans e);omega
        simp[this]
       ·simp[hi]
      ·cases h
     ·cases h
    ·cases h
 ·exact Loc.no
theorem xx {a n i:Nat} : i ∈ upto a n ↔ a≤i∧i<a+n:=by
 induction n generalizing a with
 | zero=>simp[upto]
 | succ n ih=>simp only[upto,mem_cons,ih];omega
theorem ib:∀ (ids:Ω) (hp:Θ) (i:Nat),aP (roB hp ids) i=if i ∈ ids then (aP hp i).map (fun b=>if b.st = .live then ⟨.ro,b.cs⟩ else b) else aP hp i
 | [],hp,i=>by simp[roB]
 | j::ids,hp,i=>by
  simp only[roB]
  split
  ·rename_i cs e
   rw[ib ids,cI e]
   by_cases hij:i=j
   ·subst hij;simp[e]
   ·simp[hij]
  ·rename_i hn
   rw[ib ids]
   by_cases hij:i=j
   ·subst hij
    cases hb:aP hp i with
    | none=>simp
    | some b =>
     obtain⟨st,cs⟩:=b
     cases st <;> simp_all
   ·simp[hij]
theorem eK:∀ (ids:Ω) (hp:Θ),(roB hp ids).length=hp.length
 | [],hp=>rfl
 | j::ids,hp=>by
  simp only[roB]
  split
  ·rw[eK ids,bC]
  ·rw[eK ids]
theorem nL (a b:Θ)(i:Nat):aP (a++b) i=if i<a.length then aP a i else aP b (i - a.length):=by
 simp only[cW,getElem?_append]
theorem Ap {a:Θ}{i:Nat}(h:a.length≤i):aP a i=none:=by rw[cW];exact getElem?_eq_none h
theorem nY (hp:Θ):∀ (rs:Ψ) (kept:Θ) (K F:Ω) (rs':Ψ) (kept':Θ),eW hp kept K F rs=some (rs',kept') →
  kept.length≤kept'.length∧(kept'.length=kept.length→∀ n,rs'.map (sk n)=rs')
 | [],kept,K,F,rs',kept',h=>by
  simp only[eW,OiE,PiE] at h
  obtain⟨rfl,rfl⟩:=h
  simp
 | r::rs,kept,K,F,rs',kept',h=>by
  have hsn:∀ {r':PV} {ids:Ω},snap hp bp r=some (r',ids)→∀ n,sk n r'=r':=fun {r' _} e n=>by
   have:=m8 hp _ e
   cases r' <;> first | rfl | simp[PV.cF] at this
  have hrest:∀ {r':PV} {ids:Ω},(match snap hp bp r with
    | some (r',ids) =>
     if ids.any K.contains then none
     else match eW hp kept K (ids++F) rs with
      | some (rs',k)=>some (r'::rs',k)
      | none=>none
    | none=>none)=some (rs',kept')→kept.length≤kept'.length∧(kept'.length=kept.length→∀ n,rs'.map (sk n)=rs'):=fun {_ _} h=>by
   split at h
   ·rename_i r' ids e
    split at h
    ·cases h
    ·split at h
     ·rename_i rs1 k1 e1
      simp only[OiE,PiE] at h
      obtain⟨rfl,rfl⟩:=h
      obtain⟨h1,h2⟩:=nY hp rs _ _ _ _ _ e1
      exact⟨h1,fun hl n=>by rw[map_cons,h2 hl n,hsn e n]⟩
     ·cases h
   ·cases h
  unfold eW at h
  split at h
  ·split at h
   ·split at h
    ·split at h
     ·cases h
     ·split at h
      ·rename_i rs1 k1 e1
       simp only[OiE,PiE] at h
       obtain⟨rfl,rfl⟩:=h
       obtain⟨h1,h2⟩:=nY hp rs _ _ _ _ _ e1
       simp at h1
       exact⟨by omega,fun hl=>by omega⟩
      ·cases h
    ·cases h
   ·exact hrest (r':=.any) (ids:=[]) h
  ·exact hrest (r':=.any) (ids:=[]) h
theorem Pl {C:Cfg}{run:aw}(hE:fR run)(dr:Bool)(g:FuncId)(args:Ψ):Loc fun hp=>bU C run dr hp g args:=by
 unfold bU
 split
 ·constructor
  ·intro hp v hp' F h
   try dsimp only at h
   split at h
   ·rename_i rs hp1 w e
    obtain⟨e1,e2⟩:=hE _ _ _ _ _ _ e
    cases hb:(bM rs && ir hp1 hp.length (lP hp.length w)) with
    | true =>
     simp only[hb,cond_true,OiE,PiE] at h
     obtain⟨rfl,rfl,rfl⟩:=h
     refine⟨fun i hi => ?_,fun h=>by simp at h,fun h=>by simp at h⟩
     rw[qw,cW,cW,getElem?_take]
     split
     ·rename_i hlt
      exact e2 i hlt fun hm=>hi (qZ.2 ⟨hm,hlt⟩)
     ·rw[getElem?_eq_none (by omega)]
    | false =>
     simp only[hb,cond_false,OiE,PiE] at h
     obtain⟨rfl,rfl,rfl⟩:=h
     refine⟨fun i hi => ?_,fun h=>by simp at h,fun h=>by simp at h⟩
     simp only[mem_append,qZ,xx,not_or] at hi
     rw[cW,cW]
     rcases Nat.lt_or_ge i hp.length with hlt | hge
     ·exact e2 i hlt fun hm=>hi.1 ⟨hm,hlt⟩
     ·rw[getElem?_eq_none (l:=hp) hge,getElem?_eq_none (by omega)]
   ·cases h
  ·intro hp hp2 v hp' F h hall
   try dsimp only at h
   split at h
   ·rename_i rs hp1 w e
    cases hb:(bM rs && ir hp1 hp.length (lP hp.length w)) with
    | true=>simp only[hb,cond_true,OiE,PiE] at h;rw[← h.2.2] at hall;simp at hall
    | false=>simp only[hb,cond_false,OiE,PiE] at h;rw[← h.2.2] at hall;simp at hall
   ·cases h
 ·have hsn:∀ {hp hp2:Θ} {l:Ψ} {ids:Ω},bj (snap hp bp) args=some (l,ids)→Ag hp hp2 ids→bj (snap hp2 bp) args=some (l,ids) :=
   fun {hp hp2} _ _ h1 h2=>mF (P:=Ag hp hp2) (fun _ _ h=>⟨h.left,h.right⟩) (fun c r ids h h'=>vY _ h h') h1 h2
  constructor
  ·intro hp v hp' F h
   try dsimp only at h
   split at h
   ·cases h
   ·rename_i args' ids e
    split at h
    ·rename_i rs er
     cases hb:rs.all ed with
     | true =>
      simp only[hb,cond_true,OiE,PiE] at h
      obtain⟨rfl,rfl,rfl⟩:=h
      exact⟨fun _ _=>rfl,fun _ _=>rfl,fun _ _=>rfl⟩
     | false =>
      simp only[hb,cond_false,OiE,PiE] at h
      obtain⟨rfl,rfl,rfl⟩:=h
      exact⟨fun i hi=>by rw[ib,if_neg hi],fun _ _=>eK _ _,fun _ _=>rfl⟩
    ·split at h
     ·cases h
     ·split at h
      ·cases h
      ·rename_i rs' kept ek
       cases hb:rs'.all ed with
       | true =>
        simp only[hb,cond_true,OiE,PiE] at h
        obtain⟨rfl,rfl,rfl⟩:=h
        exact⟨fun _ _=>rfl,fun _ _=>rfl,fun _ _=>rfl⟩
       | false =>
        simp only[hb,cond_false,OiE,PiE] at h
        obtain⟨rfl,rfl,rfl⟩:=h
        refine⟨fun i hi => ?_,fun _ h => ?_,fun _ h => ?_⟩
        ·simp only[mem_append,xx,not_or] at hi
         rw[nL,eK]
         split
         ·rw[ib,if_neg hi.1]
         ·rw[Ap (by omega),Ap (by omega)]
        ·simp at h;simp[h,eK]
        ·cases kept with
         | nil=>rfl
         | cons=>simp[upto] at h
  ·intro hp hp2 v hp' F h _ hr hw hl
   try dsimp only at h
   split at h
   ·cases h
   ·rename_i args' ids e
    split at h
    ·rename_i rs er
     cases hb:rs.all ed with
     | true =>
      simp only[hb,cond_true,OiE,PiE] at h
      obtain⟨rfl,rfl,rfl⟩:=h
      exact⟨hp2,by simp only[hsn e hr,er,hb,cond_true],by simp⟩
     | false =>
      simp only[hb,cond_false,OiE,PiE] at h
      obtain⟨rfl,rfl,rfl⟩:=h
      refine⟨roB hp2 ids,by simp only[hsn e hr,er,hb,cond_false],fun i hi => ?_⟩
      rw[ib,ib,hr i hi]
    ·rename_i er
     split at h
     ·cases h
     ·rename_i e2
      split at h
      ·cases h
      ·rename_i rs' kept ek
       cases hb:rs'.all ed with
       | true =>
        simp only[hb,cond_true,OiE,PiE] at h
        obtain⟨rfl,rfl,rfl⟩:=h
        exact⟨hp2,by simp only[hsn e hr,er,e2,ek,hb,cond_true],by simp⟩
       | false =>
        simp only[hb,cond_false,OiE,PiE] at h
        obtain⟨rfl,rfl,rfl⟩:=h
        have hlen:(!kept.isEmpty)=true→hp2.length=hp.length:=hl
        obtain⟨_,hsh⟩:=nY _ _ _ _ _ _ _ ek
        cases hk:kept with
        | nil =>
         subst hk
         have s1:=hsh rfl
         refine⟨roB hp2 ids++[],by simp only[hsn e hr,er,e2,ek,hb,cond_false,s1];rfl,fun i hi => ?_⟩
         simp only[length_nil,upto,append_nil] at hi ⊢
         rw[ib,ib,hr i hi]
        | cons b bs =>
         subst hk
         have h0:=hlen rfl
         refine⟨roB hp2 ids++(b::bs),by simp only[hsn e hr,er,e2,ek,hb,cond_false,h0],fun i hi => ?_⟩
         rw[nL,nL,eK,eK,h0,ib,ib]
         split
         ·rename_i hlt
          split
          ·rename_i hm;rw[hr i hm]
          ·rename_i hm
           simp only[mem_append,xx] at hi
           exact absurd hi (by intro hi;rcases hi with hi | hi;exact hm hi;omega)
         ·rfl
theorem FD {T:Tab}{hp hp2:Θ}{src dst:TypeId}{a v:PV}{ids:Ω}(h:dI T hp src dst a=some (v,ids))(ha:Ag hp hp2 ids):dI T hp2 src dst a=some (v,ids):=by
 unfold dI at *
 split at h
 ·exact h
 ·exact h
 ·exact h
 ·split at h
  ·rename_i e1
   split at h
   ·rename_i n cs ids' e2
    split at h
    ·rename_i l e3
     simp only[OiE,PiE] at h
     obtain⟨rfl,rfl⟩:=h
     simp only[wD e2 ha,e3]
    ·cases h
   ·cases h
  ·cases h
 ·cases h
theorem Loc.B9 {f:Θ→Option (PV × Θ × FP)}(h:∀ hp v hp' F,f hp=some (v,hp',F)→hp'=hp∧F.wr=[]∧F.al=false∧∀ hp2,Ag hp hp2 F.rd→f hp2=some (v,hp2,F)):Loc f:=by
 constructor
 ·intro hp v hp' F e
  obtain⟨rfl,h1,h2,h3⟩:=h _ _ _ _ e
  exact⟨fun _ _=>rfl,fun _ _=>rfl,fun _ _=>h2⟩
 ·intro hp hp2 v hp' F e _ hr hw hl
  obtain⟨rfl,h1,h2,h3⟩:=h _ _ _ _ e
  exact⟨hp2,h3 hp2 hr,by simp[h1]⟩
theorem Loc.EI {f:Θ→Option (PV × Θ × FP)}(h:∀ hp v hp' F,f hp=some (v,hp',F)→∃ id b b0,hp'=bZ hp id b∧aP hp id=some b0∧F.wr=[id]∧F.al=false ∧
  ∀ hp2,Ag hp hp2 F.rd→aP hp2 id=aP hp id→f hp2=some (v,bZ hp2 id b,F)):Loc f:=by
 constructor
 ·intro hp v hp' F e
  obtain⟨id,b,b0,rfl,h1,h2,h3,h4⟩:=h _ _ _ _ e
  exact⟨fun i hi=>by rw[cI h1,if_neg (by rw[h2] at hi;simpa using hi)],fun _ _=>bC _ _ _,fun _ _=>h3⟩
 ·intro hp hp2 v hp' F e _ hr hw hl
  obtain⟨id,b,b0,rfl,h1,h2,h3,h4⟩:=h _ _ _ _ e
  have e1:aP hp2 id=aP hp id:=hw id (by simp[h2])
  refine⟨_,h4 hp2 hr e1,fun i hi => ?_⟩
  rw[h2] at hi
  simp at hi
  rw[cI h1,cI (e1.trans h1),if_pos hi,if_pos hi]
theorem GJ (T:Tab)(t:TypeId)(x:PV)(lo hi mx:Option PV):Loc fun hp=>match dh T hp t x lo hi mx with
  | some r=>some (r,hp,match x with | .ptr id _=>⟨[id],[],false,false⟩| _=>FzZ)
  | none=>none:=by
 refine Loc.B9 fun hp v hp' F h => ?_
 split at h
 ·rename_i r e
  simp only[OiE,PiE] at h
  obtain⟨rfl,rfl,rfl⟩:=h
  refine⟨rfl,by split <;> rfl,by split <;> rfl,fun hp2 ha => ?_⟩
  have:dh T hp2 t x lo hi mx=dh T hp t x lo hi mx:=by
   unfold dh
   split
   ·rfl
   ·rfl
   ·unfold iz
    split
    ·split
     ·rename_i id off
      rw[ha id (by simp)]
     ·rfl
     ·rfl
    ·rfl
   ·rfl
  rw[this,e]
 ·cases h
theorem Mk (P:Program)(T:Tab)(fr:Ψ)(o:Op):Loc fun hp=>an P T fr hp o:=by
 unfold an
 cases o with
 | move x=>exact Loc.pure _
 | assign x=>exact Loc.pure _
 | pick c a b =>
  dsimp only
  split
  ·exact Loc.pure _
  ·exact Loc.pure _
  ·exact Loc.no
 | alloc e =>
  dsimp only
  split
  ·exact Loc.alloc (fun k=>.ptr k 0) _
  ·exact Loc.no
 | box t x =>
  dsimp only
  split
  ·exact Loc.alloc (fun k=>.ptr k 0) _
  ·exact Loc.no
 | build t ps=>exact Loc.opt _
 | buildSlice t n ps =>
  dsimp only
  split
  ·rename_i s cs _
   split
   ·exact Loc.pure _
   ·exact Loc.alloc (fun k=>.own k s 0 n true) _
  ·exact Loc.no
 | load t a =>
  dsimp only
  refine Loc.B9 fun hp v hp' F h => ?_
  split at h
  ·rename_i cs ids e
   split at h
   ·rename_i x ex
    simp only[OiE,PiE] at h
    obtain⟨rfl,rfl,rfl⟩:=h
    exact⟨rfl,rfl,rfl,fun hp2 ha=>by rw[Cz e ha];simp only[ex]⟩
   ·cases h
  ·cases h
 | store t a x =>
  dsimp only
  refine Loc.EI fun hp v hp' F h => ?_
  split at h
  ·rename_i id off cs n e1 e2 e3
   split at h
   ·rename_i hc
    split at h
    ·rename_i old e4
     split at h
     ·rename_i l e5
      simp only[OiE,PiE] at h
      obtain⟨rfl,rfl,rfl⟩:=h
      exact⟨id,_,_,rfl,e4,rfl,rfl,fun hp2 ha hb=>by simp only[if_pos hc,hb,e4,e5]⟩
     ·cases h
    ·cases h
   ·cases h
  ·cases h
 | nilCheck x =>
  dsimp only
  split
  ·exact Loc.pure _
  ·exact Loc.pure _
  ·exact Loc.pure _
  ·exact Loc.pure _
  ·exact Loc.pure _
  ·exact Loc.no
 | binOp op t x y ty=>exact Loc.opt _
 | unOp op t x=>exact Loc.opt _
 | convert src dst x =>
  dsimp only
  refine Loc.B9 fun hp v hp' F h => ?_
  split at h
  ·rename_i r ids e
   simp only[OiE,PiE] at h
   obtain⟨rfl,rfl,rfl⟩:=h
   exact⟨rfl,rfl,rfl,fun hp2 ha=>by rw[FD e ha]⟩
  ·cases h
 | makeFunc f first captured =>
  cases f with
  | func f =>
   dsimp only
   split
   ·exact Loc.pure _
   ·split
    ·exact Loc.pure _
    ·exact Loc.no
  | _=>exact Loc.no
 | makeSlice t l c =>
  dsimp only
  split
  ·split
   ·split
    ·rename_i s _ _ _ _ _
     exact Loc.alloc (fun k=>.own k _ 0 _ _) _
    ·exact Loc.no
   ·exact Loc.no
  ·exact Loc.no
 | slice t x lo hi mx=>exact GJ T t _ _ _ _
 | fieldAddr t x i=>exact Loc.opt _
 | field t x i=>exact Loc.opt _
 | indexAddr t x i=>exact Loc.opt _
 | index t x i=>exact Loc.opt _
 | extract x i =>
  dsimp only
  split
  ·split
   ·exact Loc.pure _
   ·exact Loc.no
  ·exact Loc.no
 | call c =>
  obtain⟨callee,args,argTypes⟩:=c
  cases callee with
  | builtin b =>
   dsimp only
   split
   ·split
    ·exact Loc.pure _
    ·exact Loc.no
   ·exact Loc.opt _
   ·exact Loc.opt _
   ·rename_i x y t t' _ _
    split
    ·rename_i e e' _ _
     split
     ·rename_i s by_ zs _ _ _
      split
      ·rename_i hc
       constructor
       ·intro hp v hp' F h
        try dsimp only at h
        split at h
        ·rename_i n new ids e1
         split at h
         ·split at h
          ·rename_i r hp1 fp e2
           simp only[OiE,PiE] at h
           obtain⟨rfl,rfl,rfl⟩:=h
           have h2:=(oo s x n new).E _ _ _ _ e2
           have hall:fp.all=false:=by
            revert e2
            unfold cw
            repeat' split
            all_goals (intro h;first | cases h;done | (simp only[OiE,PiE] at h;rw[← h.2.2];try rfl))
           exact⟨h2.1,fun _=>h2.2.1 hall,fun _=>h2.2.2 hall⟩
          ·cases h
         ·cases h
        ·cases h
       ·intro hp hp2 v hp' F h _ hr hw hl
        try dsimp only at h
        split at h
        ·rename_i n new ids e1
         split at h
         ·rename_i hok
          split at h
          ·rename_i r hp1 fp e2
           simp only[OiE,PiE] at h
           obtain⟨rfl,rfl,rfl⟩:=h
           have hall:fp.all=false:=by
            revert e2
            unfold cw
            repeat' split
            all_goals (intro h;first | cases h;done | (simp only[OiE,PiE] at h;rw[← h.2.2];try rfl))
           obtain⟨hp2',h3,h4⟩:=(oo s x n new).D _ hp2 _ _ _ e2 hall hr.right hw hl
           try dsimp only at h3
           refine⟨hp2',?_,h4⟩
           try dsimp only
           rw[wD e1 hr.left]
           simp only[if_pos hok,h3]
          ·cases h
         ·cases h
        ·cases h
      ·exact Loc.no
     ·exact Loc.no
    ·split
     ·split
      ·have:=oo 1 x
       refine⟨fun hp v hp' F h => ?_,fun hp hp2 v hp' F h ha hr hw hl => ?_⟩
       ·try dsimp only at h
        split at h
        ·rename_i e
         simp only[OiE,PiE] at h
         obtain⟨rfl,rfl,rfl⟩:=h
         exact (this _ _).E _ _ _ _ e
        ·cases h
       ·try dsimp only at h
        split at h
        ·rename_i e
         simp only[OiE,PiE] at h
         obtain⟨rfl,rfl,rfl⟩:=h
         obtain⟨hp2',h3,h4⟩:=(this _ _).D _ hp2 _ _ _ e ha hr hw hl
         try dsimp only at h3
         exact⟨hp2',by simp only[h3],h4⟩
        ·cases h
      ·exact Loc.no
     ·exact Loc.no
    ·exact Loc.no
   ·rename_i x t _ _
    split
    ·split
     ·split
      ·refine Loc.EI fun hp v hp' F h => ?_
       split at h
       ·rename_i old e2
        split at h
        ·rename_i l e4
         simp only[OiE,PiE] at h
         obtain⟨rfl,rfl,rfl⟩:=h
         exact⟨_,_,_,rfl,e2,rfl,rfl,fun hp2 ha hb=>by simp only[hb,e2,e4]⟩
        ·cases h
       ·cases h
      ·exact Loc.no
     ·exact Loc.no
    ·exact Loc.no
   ·exact Loc.no
  | value f=>exact Loc.no
  | invoke r m=>exact Loc.no
 | _=>exact Loc.no
theorem vL {C:Cfg}{run:aw}(hE:fR run)(dr:Bool)(ops:Array Oper)(o:Oper)(fr:Ψ):Loc fun hp=>aG C run dr ops o fr hp:=by
 unfold aG
 split
 ·exact Loc.no
 ·exact Loc.pure _
 ·split
  ·split
   ·exact Pl hE dr _ _
   ·exact Loc.no
  ·exact Mk _ _ _ _
theorem Df {P:Program}{T:Tab}{fr fr2:Ψ}{hp:Θ}{o:Op}(h:∀ x ∈ o.operands,aj fr2 x=aj fr x):an P T fr2 hp o=an P T fr hp o:=by
 have pairs:∀ ps:Array (Nat × Operand),(∀ x ∈ ps.map (·.2),aj fr2 x=aj fr x)→(ps.toList.map fun (i,x)=>(i,aj fr2 x))=(ps.toList.map fun (i,x)=>(i,aj fr x)):=fun ps hp =>
  map_congr_left fun p hm=>by
   obtain⟨i,x⟩:=p
   simp only[hp x (Array.mem_map.2 ⟨(i,x),by simpa using hm,rfl⟩)]
 cases o <;> simp only[Op.operands] at h <;> unfold an
 case build t ps=>simp only[pairs ps fun x hx=>h x (by simpa using hx)]
 case buildSlice t n ps=>simp only[pairs ps fun x hx=>h x (by simpa using hx)]
 case makeFunc fn first captured =>
  have:captured.toList.map (aj fr2)=captured.toList.map (aj fr):=map_congr_left fun x hx=>h x (by simp at hx;simp[hx])
  have t2:first.toList.map (aj fr2)=first.toList.map (aj fr):=map_congr_left fun x hx=>h x (by simp at hx;simp[hx])
  cases fn <;> simp only[this,t2]
 case makeMap t r=>cases r <;> rfl
 case slice t x lo hi mx=>cases lo <;> cases hi <;> cases mx <;> simp_all
 case call c =>
  obtain⟨callee,args,argTypes⟩:=c
  have:args.toList.map (aj fr2)=args.toList.map (aj fr):=map_congr_left fun x hx=>h x (by simp at hx;simp[Call.operands,hx])
  cases callee <;> simp only[this]
 all_goals (first | rfl | (simp_all;done))
theorem yR {fr fr2:Ψ}{c:Call}(h:∀ x ∈ c.operands,aj fr2 x=aj fr x):aM fr2 c=aM fr c:=by
 have hargs:c.args.toList.map (aj fr2)=c.args.toList.map (aj fr):=map_congr_left fun x hx=>h x (by simp at hx;simp[Call.operands,hx])
 unfold aM
 simp only[hargs]
 cases hc:c.callee with
 | value f=>simp only[h f (by simp[Call.operands,hc])]
 | invoke r m=>rfl
 | builtin b=>rfl
theorem kq {fr:Ψ}{d t:Nat}{v:PV}(h:t≠d):nth (eY fr d v) t=nth fr t:=by
 rw[sQ,sQ,jQ,getElem?_set_ne (Ne.symm h)]
theorem EN {fr:Ψ}{dst:Option Tmp}{v:PV}{t:Nat}(h:dst≠some t):nth (aF fr dst v) t=nth fr t:=by
 unfold aF
 cases dst with
 | none=>rfl
 | some d=>exact kq (fun e=>h (by rw[e]))
theorem C5 {C:Cfg}{run:aw}{dr:Bool}{ops:Array Oper}{o:Oper}{fr:Ψ}{hp:Θ}{dst:Option Tmp}{v:PV}(h:∀ d,dst=some d→d ∉ o.looksAt ops) :
  aG C run dr ops o (aF fr dst v) hp=aG C run dr ops o fr hp:=by
 have hop:∀ x ∈ o.op.operands,aj (aF fr dst v) x=aj fr x:=fun x hx=>by
  cases x with
  | tmp t =>
   exact EN fun e=>h t e (mem_append_left _ (mem_filterMap.2 ⟨.tmp t,by simpa using hx,rfl⟩))
  | const _=>rfl
  | global _=>rfl
  | func _=>rfl
 have hw:ah ops (aF fr dst v) o=ah ops fr o:=by
  unfold ah
  cases hg:o.guard with
  | none=>rfl
  | some g =>
   obtain⟨j,want⟩:=g
   dsimp only
   cases hd:(ops[j]?).bind (·.dst) with
   | none=>rfl
   | some d =>
    dsimp only
    rw[EN (fun e=>h d e (mem_append_right _ (by simp[hg,hd])))]
 unfold aG
 rw[hw]
 split
 ·rfl
 ·rfl
 ·split
  ·rename_i c hc
   have:o.op = .call c:=by
    unfold ai at hc
    split at hc
    ·rename_i c' e
     split at hc
     ·simp at hc;subst hc;exact e
     ·cases hc
    ·cases hc
   rw[yR fun x hx=>hop x (by rw[this];exact hx)]
  ·exact Df hop
abbrev X:=Ψ × Θ
section
variable {C:Cfg} {run:aw} {ops:Array Oper} {Φ:List FP}
def yr (C:Cfg)(run:aw)(ops:Array Oper)(Φ:List FP)(i:Nat)(x y:X):Prop :=
 ∃ o v fp,ops[i]?=some o∧aG C run true ops o x.1 x.2=some (v,y.2,fp)∧Φ[i]?=some fp∧y.1=aF x.1 o.dst v
def Fold (C:Cfg)(run:aw)(ops:Array Oper)(Φ:List FP):Ω→X→X→Prop
 | [],x,y=>x=y
 | i::l,x,y=>∃ z,yr C run ops Φ i x z∧Fold C run ops Φ l z y
def Comm (C:Cfg)(run:aw)(ops:Array Oper)(Φ:List FP)(i j:Nat):Prop :=
 ∀ x y z,yr C run ops Φ i x y→yr C run ops Φ j y z→∃ y',yr C run ops Φ j x y'∧yr C run ops Φ i y' z
theorem W6 {i:Nat}{B:Ω} : ∀ (A:Ω) (x z:X),Fold C run ops Φ (A++i::B) x z→(∀ a ∈ A,Comm C run ops Φ a i)→∃ y,yr C run ops Φ i x y∧Fold C run ops Φ (A++B) y z
 | [],x,z,h,_=>h
 | a::A,x,z,h,hc=>by
  obtain⟨y,h1,h2⟩:=h
  obtain⟨y2,h3,h4⟩:=W6 A y z h2 fun b hb=>hc b (by simp[hb])
  obtain⟨y3,h5,h6⟩:=hc a (by simp) x y y2 h1 h3
  exact⟨y3,h5,y2,h6,h4⟩
theorem NS {fr:Ψ}{d1 d2:Option Tmp}{v1 v2:PV}(h:∀ d,d1=some d→d2≠some d):aF (aF fr d1 v1) d2 v2=aF (aF fr d2 v2) d1 v1:=by
 cases d1 with
 | none=>rfl
 | some a=>cases d2 with
  | none=>rfl
  | some b =>
   have:a≠b:=fun e=>h a rfl (by rw[e])
   simp only[aF,jQ]
   exact set_comm _ _ this
theorem sS {l m:Ω}(h:(l.any fun i=>m.contains i)=false){i:Nat}(h1:i ∈ l):i ∉ m:=by
 intro h2
 have:(l.any fun i=>m.contains i)=true:=any_eq_true.2 ⟨i,h1,by simpa using h2⟩
 rw[h] at this;cases this
structure Gq (a b:FP):Prop where
 wr:∀ i ∈ a.wr,i ∉ b.rd
 ww:∀ i ∈ a.wr,i ∉ b.wr
 rw:∀ i ∈ b.wr,i ∉ a.rd
 al:a.al=true→b.al=false
 alla:a.all=true→b.wr=[]
 allb:b.all=true→a.wr=[]
theorem W9 {a b:FP}(h:a.apart b=true):Gq a b:=by
 unfold FP.apart at h
 simp only[Bool.and_eq_true,Bool.not_eq_true'] at h
 obtain⟨⟨⟨⟨h1,h2⟩,h3⟩,h4⟩,h5⟩:=h
 have key:∀ i ∈ a.wr,i ∉ b.rd∧i ∉ b.wr:=fun i hi=>by
  have:=(any_eq_false.1 h1) i hi
  simp at this
  exact this
 refine⟨fun i hi=>(key i hi).1,fun i hi=>(key i hi).2,fun i hi=>sS h2 hi,fun e => ?_,fun e => ?_,fun e => ?_⟩
 ·rw[e] at h3;simpa using h3
 ·rw[e] at h4;simpa using h4
 ·rw[e] at h5;simpa using h5
theorem yn {a b:FP}(h:a.free=true∨b.free=true):Gq a b:=by
 rcases h with h | h <;> (simp only[FP.free,Bool.and_eq_true,isEmpty_iff,Bool.not_eq_true'] at h;obtain⟨⟨⟨h1,h2⟩,h3⟩,h4⟩:=h)
 ·exact⟨by simp[h2],by simp[h2],by simp[h1],by simp[h3],by simp[h4],fun _=>h2⟩
 ·exact⟨by simp[h1],by simp[h2],by simp[h2],fun _=>h3,fun _=>h2,by simp[h4]⟩
theorem aca (hE:fR run){i j:Nat}{o1 o2:Oper}{F1 F2:FP}(h1:ops[i]?=some o1)(h2:ops[j]?=some o2)(hf1:Φ[i]?=some F1)(hf2:Φ[j]?=some F2)(ht:o1.apart ops o2=true)(hA:Gq F1 F2) :
  Comm C run ops Φ i j:=by
 rintro⟨fr,hp⟩ ⟨fr1,hp1⟩ ⟨fr2,hp2⟩ ⟨o1',v1,F1',e1,s1,g1,p1⟩ ⟨o2',v2,F2',e2,s2,g2,p2⟩
 rw[h1] at e1;cases e1
 rw[h2] at e2;cases e2
 rw[hf1] at g1;cases g1
 rw[hf2] at g2;cases g2
 obtain⟨t1,t2,t3⟩:=Oper.apart_spec ht
 dsimp only at s1 s2 p1 p2
 subst p1;subst p2
 rw[C5 t1] at s2
 have L1:=vL (C:=C) hE true ops o1 fr
 have L2:=vL (C:=C) hE true ops o2 fr
 obtain⟨E1,E1l,E1w⟩:=L1.E _ _ _ _ s1
 obtain⟨E2,E2l,E2w⟩:=L2.E _ _ _ _ s2
 suffices hs:∃ hp',aG C run true ops o2 fr hp=some (v2,hp',F2)∧aG C run true ops o1 fr hp'=some (v1,hp2,F1) by
  obtain⟨hp',q1,q2⟩:=hs
  refine⟨(aF fr o2.dst v2,hp'),⟨o2,v2,F2,h2,q1,hf2,rfl⟩,o1,v1,F1,h1,?_,hf1,(NS t2)⟩
  dsimp only
  rw[C5 t3];exact q2
 by_cases ha1:F1.all=true
 ·have w2:=hA.alla ha1
  have e2:hp2=hp1:=OY fun i=>E2 i (by simp[w2])
  subst e2
  by_cases ha2:F2.all=true
  ·have w1:=hA.allb ha2
   have e1:hp2=hp:=OY fun i=>E1 i (by simp[w1])
   subst e1
   exact⟨hp2,s2,s1⟩
  ·have ha2:F2.all=false:=by simpa using ha2
   have hal:=E2w ha2 w2
   obtain⟨hp',q1,_⟩:=L2.D hp2 hp v2 hp2 F2 s2 ha2 (fun i hi=>(E1 i fun hw=>hA.wr i hw hi).symm) (by simp[Ag,w2]) (by simp[hal])
   have:hp'=hp:=OY fun i=>(L2.E _ _ _ _ q1).1 i (by simp[w2])
   subst this
   exact⟨hp',q1,s1⟩
 ·have ha1:F1.all=false:=by simpa using ha1
  by_cases ha2:F2.all=true
  ·have w1:=hA.allb ha2
   have e1:hp1=hp:=OY fun i=>E1 i (by simp[w1])
   subst e1
   have hal:=E1w ha1 w1
   obtain⟨hp',q1,_⟩:=L1.D hp1 hp2 v1 hp1 F1 s1 ha1 (fun i hi=>E2 i fun hw=>hA.rw i hw hi) (by simp[Ag,w1]) (by simp[hal])
   have:hp'=hp2:=OY fun i=>(L1.E _ _ _ _ q1).1 i (by simp[w1])
   subst this
   exact⟨hp',s2,q1⟩
  ·have ha2:F2.all=false:=by simpa using ha2
   obtain⟨h2',q1,q1w⟩:=L2.D hp1 hp v2 hp2 F2 s2 ha2 (fun i hi=>(E1 i fun hw=>hA.wr i hw hi).symm) (fun i hi=>(E1 i fun hw=>hA.ww i hw hi).symm) (fun hal=>by
    have:F1.al=false:=by
     cases h:F1.al with
     | false=>rfl
     | true=>rw[hA.al h] at hal;cases hal
    exact (E1l ha1 this).symm)
   obtain⟨E3,E3l,_⟩:=L2.E _ _ _ _ q1
   obtain⟨h2'',q2,q2w⟩:=L1.D hp h2' v1 hp1 F1 s1 ha1 (fun i hi=>E3 i fun hw=>hA.rw i hw hi) (fun i hi=>E3 i fun hw=>hA.ww i hi hw) (fun hal=>E3l ha2 (hA.al hal))
   obtain⟨E4,_,_⟩:=L1.E _ _ _ _ q2
   have:h2''=hp2:=OY fun i=>by
    by_cases i1:i ∈ F1.wr
    ·rw[q2w i i1,E2 i (hA.ww i i1)]
    ·rw[E4 i i1]
     by_cases i2:i ∈ F2.wr
     ·exact q1w i i2
     ·rw[E3 i i2,E2 i i2,E1 i i1]
   subst this
   exact⟨h2',q1,q2⟩
def JG (ops:Array Oper)(bs:Array Nat):Prop:=∀ j,j<bs.size→∀ i,(bs.getD j 0).testBit i=true→∃ o,ops[j]?=some o∧∃ e ∈ o.after,Region.binds .any e=true∧(i=e.on∨(e.on<bs.size∧(bs.getD e.on 0).testBit i=true))
theorem xH (acc:Array Nat)(i:Nat):∀ (l:List Edge) (s:Nat),(l.foldl (fun s e=>if Region.binds .any e then s ||| 2 ^ e.on ||| acc.getD e.on 0 else s) s).testBit i=true →
  s.testBit i=true∨∃ e ∈ l,Region.binds .any e=true∧(i=e.on∨(acc.getD e.on 0).testBit i=true)
 | [],s,h=>.inl h
 | e::l,s,h=>by
  rw[foldl_cons] at h
  rcases xH acc i l _ h with h1 | ⟨e',h1,h2⟩
  ·split at h1
   ·rename_i hb
    rw[Nat.testBit_or,Nat.testBit_or,Bool.or_eq_true,Bool.or_eq_true] at h1
    rcases h1 with (h1 | h1) | h1
    ·exact .inl h1
    ·rw[Nat.testBit_two_pow] at h1
     exact .inr ⟨e,by simp,hb,.inl (by simpa using (of_decide_eq_true h1).symm)⟩
    ·exact .inr ⟨e,by simp,hb,.inr h1⟩
   ·exact .inl h1
  ·exact .inr ⟨e',by simp[h1],h2⟩
theorem A1:∀ (l:List Oper) (acc:Array Nat),(∀ k,k<l.length→ops[acc.size+k]?=l[k]?)→JG ops acc →
  JG ops (l.foldl (fun acc o=>acc.push (o.after.foldl (fun s e=>if Region.binds .any e then s ||| 2 ^ e.on ||| acc.getD e.on 0 else s) 0)) acc) ∧
  (l.foldl (fun acc o=>acc.push (o.after.foldl (fun s e=>if Region.binds .any e then s ||| 2 ^ e.on ||| acc.getD e.on 0 else s) 0)) acc).size=acc.size+l.length
 | [],acc,_,h=>⟨h,by simp⟩
 | o::l,acc,hl,h=>by
  rw[foldl_cons]
  have key:∀ (v:Nat) (k:Nat),k<acc.size→(acc.push v).getD k 0=acc.getD k 0:=fun v k hk=>by
   rw[Array.getD_eq_getD_getElem?,Array.getD_eq_getD_getElem?,Array.getElem?_push_lt hk,Array.getElem?_eq_getElem hk]
  generalize hv:o.after.foldl (fun s e=>if Region.binds .any e then s ||| 2 ^ e.on ||| acc.getD e.on 0 else s) 0=v
  have:=A1 l (acc.push v) (fun k hk=>by
   have:=hl (k+1) (by simpa using hk)
   simp only[Array.size_push]
   rw[show acc.size+1+k=acc.size+(k+1) by omega,this];simp) (fun j hj i hb=>by
    rw[Array.size_push] at hj ⊢
    by_cases hjl:j<acc.size
    ·rw[key v j hjl] at hb
     obtain⟨o',h1,e,h2,h3,h4⟩:=h j hjl i hb
     refine⟨o',h1,e,h2,h3,h4.imp id fun ⟨h5,h6⟩=>⟨by omega,by rw[key v _ h5];exact h6⟩⟩
    ·have hj:j=acc.size:=by omega
     subst hj
     have e0:(acc.push v).getD acc.size 0=v:=by simp
     rw[e0,← hv,← Array.foldl_toList] at hb
     refine⟨o,by have:=hl 0 (by simp);simpa using this,?_⟩
     rcases xH acc i _ _ hb with h1 | ⟨e,h1,h2,h3⟩
     ·simp at h1
     ·refine⟨e,by simpa using h1,h2,h3.imp id fun h4 => ?_⟩
      have hlt:e.on<acc.size:=by
       rcases Nat.lt_or_ge e.on acc.size with h' | h'
       ·exact h'
       ·rw[Array.getD_eq_getD_getElem?,Array.getElem?_eq_none h'] at h4;simp at h4
      exact⟨by omega,by rw[key v _ hlt];exact h4⟩)
  rw[Array.size_push] at this
  exact⟨this.1,by rw[this.2];simp;omega⟩
theorem FY (ops:Array Oper):JG ops (Region.before ops)∧(Region.before ops).size=ops.size:=by
 unfold Region.before
 have:=A1 (ops:=ops) ops.toList #[] (fun k hk=>by simp) (fun j hj=>by simp at hj)
 rw[Array.foldl_toList] at this
 simpa using this
end
end Go.Ab
