/- An abstract interpreter over the model's code and its soundness, part 3; each lemma states its conditions. -/
import Derived.Test.YtjdmodeenbdfpaaGreatV02
import Derived.MapKept
import Derived.WideKeyRuns
set_option linter.unusedSimpArgs false
set_option linter.unusedVariables false
namespace Go.Ab
open Go List
section
variable {P:Program} {T:Tab} (hT:gq P T) {w:World} {H:Nat→Prop} {hp:Θ} {σ:List Addr}
theorem At.C2 {M:Nat→Prop}{L:Nat→Prop}{a:Addr}{cs:Ψ}(h:At w M σ L a cs):∃ vs:List Value,cs.length=vs.length∧(∀ j v,vs[j]?=some v→w.cell? (a.add j)=some v) ∧
  ∀ (k:Nat) c v,cs[k]?=some c→vs[k]?=some v→V w M σ L c v:=by
 obtain⟨g,hg⟩:=h
 refine⟨(List.range cs.length).map g,by simp,fun j v hj => ?_,fun k c v hk hv => ?_⟩
 ·have hj':=cN hj
  simp at hj'
  simp[hj'] at hj
  subst hj
  obtain⟨h1,h2,_⟩:=hg j _ (List.getElem?_eq_getElem hj')
  rw[gp h1];exact h2
 ·have hk':=cN hk
  simp[hk'] at hv
  subst hv
  exact (hg k c hk).2.2
theorem afo (S:Sim w H σ hp){tx e':TypeId}(hk:P.underlying tx=some (.slice e')){s:Nat}{p:PV}{v:Value}{n:Nat}{new:Ψ}{ids:Ω}(h:fW hp s p=some (n,new,ids))
  (hok:bg new=true) (hv:V w (hot H σ hp) σ (aV hp) p v) :
  ∃ news:List Value,Src P s tx v n news w∧new.length=news.length∧(∀ (k:Nat) c u,new[k]?=some c→news[k]?=some u→V w (hot H σ hp) σ (aV hp) c u)∧new.length=n*s:=by
 obtain⟨base,cap,rfl,hlen,hnone,hat⟩:=Ln S h hv
 cases base with
 | none =>
  obtain⟨e1,e2,e3⟩:=hnone rfl
  subst e1;subst e2;subst e3
  exact⟨[],Src.ofNil w hk 0,rfl,fun k c u h1 h2=>by simp at h2,by simp⟩
 | some a =>
  obtain⟨news,h1,h2,h3⟩:=(hat a rfl).C2
  exact⟨news,Src.ofSlice w hk a n cap news (by rw[← h1,hlen]) h2 (rA hok h1 h3),h1,h3,hlen⟩
def aiq (P:Program)(t tx ty:TypeId)(v x:Value)(w:World)(H:Nat→Prop)(σ:List Addr)(hp:Θ)(r:PV)(hp':Θ):Prop :=
 ∃ u w' σ',(Builtin.append_ #[t,tx] ty #[v,x]).run P w = .ok u w'∧V w' (hot H σ' hp') σ' (aV hp') r u∧Sim w' H σ' hp'∧Step w (cQ σ hp) σ (aV hp) w' (cQ σ' hp') σ' (aV hp')
theorem ot (S:Sim w H σ hp){t tx ty e:TypeId}{i:TypeInfo}{z:Value}(ht:P.underlying t=some (.slice e))(hi:P.info? e=some i)(hz:i.zero=some z)(hzs:z.cells.size=i.size)(hby:i.bytes≤128)
  {base:Option Addr} {sLen sCap:Nat} {l new:Ψ} {olds news:List Value} (hold:(Builtin.firstCells i.size sLen (.slice base sLen sCap)).run P w.drew = .ok olds.toArray w.drew)
  {x:Value} {n:Nat} (hs:Src P i.size tx x n news w) (hg:sCap<sLen+n) (hmax:sLen+n≤1099511627776)
  (hl:l.length=olds.length∧∀ (k:Nat) c u,l[k]?=some c→olds[k]?=some u→V w (hot H σ hp) σ (aV hp) c u) (hln:l.length=sLen*i.size)
  (hn:new.length=news.length∧∀ (k:Nat) c u,new[k]?=some c→news[k]?=some u→V w (hot H σ hp) σ (aV hp) c u) (hnn:new.length=n*i.size) :
  aiq P t tx ty (.slice base sLen sCap) x w H σ hp (.own hp.length i.size 0 (sLen+n) false) (hp++[⟨.live,l++new⟩]):=by
 have hfit:Builtin.nextslicecap (sLen+n) sCap*i.bytes≤281474976710656:=growslice_fits hg (by
  have:(sLen+n)*i.bytes≤1099511627776*128:=Nat.mul_le_mul hmax hby
  have e:1099511627776*128=140737488355328:=by decide
  omega)
 have hrun:=run_append_grow_src (P:=P) w t tx ty e i z ht hi hz base sLen sCap olds hold x n news hs hg (by omega) hfit
 have hcap:sLen+n≤grownCap w (sLen+n) sCap e:=by unfold grownCap Question.cut;exact Nat.le_add_right _ _
 generalize grownCap w (sLen+n) sCap e=cap at hrun hcap
 have S1:Sim w.drew H σ hp:=zP (w':=w.drew) S rfl rfl rfl rfl
 have st1:Step w (cQ σ hp) σ (aV hp) w.drew (cQ σ hp) σ (aV hp):=ml (w:=w) (w':=w.drew) rfl rfl rfl rfl _ _ _
 have hzc:(Builtin.zeroCells z.cells (cap - (sLen+n))).size=(cap - (sLen+n))*i.size:=by simp[Builtin.zeroCells,hzs]
 have hsize:((olds++news).toArray++Builtin.zeroCells z.cells (cap - (sLen+n))).size=cap*i.size:=by
  rw[Array.size_append,hzc,size_toArray,length_append,← hl.1,← hn.1,hln,hnn,← Nat.add_mul,← Nat.add_mul]
  congr 1;omega
 obtain⟨g1,g2,g3⟩:=Cc (e:=e) S1 (cs:=l++new) (vs:=(olds++news).toArray++Builtin.zeroCells z.cells (cap - (sLen+n)))
  (by rw[hsize,length_append,hln,hnn,← Nat.add_mul];exact Nat.mul_le_mul_right _ hcap) (fun k c u hk hu=>by
   have hk':=cN hk
   rw[length_append] at hk'
   rw[Array.getElem?_append_left (by simp[← hl.1,← hn.1];omega)] at hu
   have hu':(olds++news)[k]?=some u:=by simpa using hu
   refine V.step st1 ?_
   rcases Nat.lt_or_ge k l.length with h | h
   ·rw[getElem?_append_left h] at hk
    rw[getElem?_append_left (by rw[← hl.1];exact h)] at hu'
    exact hl.2 k c u hk hu'
   ·rw[getElem?_append_right h] at hk
    rw[getElem?_append_right (by rw[← hl.1];exact h)] at hu'
    rw[← hl.1] at hu'
    exact hn.2 _ c u hk hu') i.size (sLen+n) cap false hcap (by simp) (by rw[hsize];exact Nat.le_refl _)
 exact⟨_,_,_,hrun,g3,g1,st1.trans g2⟩
theorem Src.oG {t tx ty e:TypeId}{i:TypeInfo}(ht:P.underlying t=some (.slice e))(hi:P.info? e=some i){base:Option Addr}{sLen sCap:Nat}(hle:sLen≤sCap){x:Value}{news:List Value}(hs:Src P i.size tx x 0 news w) :
  (Builtin.append_ #[t,tx] ty #[.slice base sLen sCap,x]).run P w = .ok (.slice base sLen sCap) w:=by
 have:news=[]:=by have:=hs.newsLen;simpa using this
 subst this
 exact run_append_nothing w t tx ty e i ht hi base sLen sCap hle x hs
theorem pd (S:Sim w H σ hp){id off m:Nat}{a:Addr}{st:BSt}{cs:Ψ}(hid:hp[id]?=some ⟨st,cs⟩)(hd:st ≠ .dead)(ha:σ[id]?=some a) :
  At w (hot H σ hp) σ (aV hp) ⟨a.block,a.off+off,none⟩ ((cs.drop off).take m):=by
 have hA:At w (hot H σ hp) σ (aV hp) ⟨a.block,a.off,none⟩ cs:=by
  refine⟨fun k=>(w.cell? ⟨a.block,a.off+k,none⟩).getD undef,fun k c hk => ?_⟩
  obtain⟨v,h1,h2⟩:=S.cells id st cs a hid hd ha k c hk
  exact⟨rfl,by simp[h1],by simpa [h1] using h2⟩
 exact (hA.drop off).take m
theorem yg (P:Program){a:Addr}{size n len cap:Nat}{olds:List Value}(hl:olds.length=n*size)(h:∀ j v,olds[j]?=some v→w.cell? (a.add j)=some v) :
  (Builtin.firstCells size n (.slice (some a) len cap)).run P w.drew = .ok olds.toArray w.drew:=by
 have:=run_loadCells_list (P:=P) w.drew a olds (fun j v hj=>by simpa using h j v hj)
 rw[hl] at this
 simpa [Builtin.firstCells] using this
theorem UO {l vs:Ψ}{n:Nat}(h:n+vs.length≤l.length):∃ r,ca l n vs=some r:=by
 induction l generalizing n vs with
 | nil =>
  simp at h
  obtain⟨rfl,h⟩:=h
  cases vs with
  | nil=>exact⟨[],rfl⟩
  | cons v vs=>simp at h
 | cons a l ih =>
  cases n with
  | zero =>
   cases vs with
   | nil=>exact⟨_,rfl⟩
   | cons v vs =>
    obtain⟨r,hr⟩:=ih (n:=0) (vs:=vs) (by simp at h;omega)
    exact⟨v::r,by simp[ca,hr]⟩
  | succ n =>
   obtain⟨r,hr⟩:=ih (n:=n) (vs:=vs) (by simp at h;omega)
   exact⟨a::r,by simp[ca,hr]⟩
theorem OQ {l new ys:Ψ}(h:ys.length=new.length):ca (l++ys) l.length new=some (l++new):=by
 obtain⟨r,hr⟩:=UO (l:=l++ys) (n:=l.length) (vs:=new) (by simp;omega)
 obtain⟨h1,h2,h3⟩:=kt hr
 rw[hr];congr 1
 apply ext_getElem?
 intro k
 rw[h3]
 rcases Nat.lt_or_ge k l.length with hk | hk
 ·rw[if_neg (by omega),getElem?_append_left hk,getElem?_append_left hk]
 ·rw[getElem?_append_right (l₂:=new) hk]
  by_cases hk2:k<l.length+new.length
  ·rw[if_pos ⟨hk,hk2⟩]
  ·rw[if_neg (by omega),getElem?_eq_none (by simp;omega),getElem?_eq_none (by omega)]
theorem yG (S:Sim w H σ hp){t tx ty e:TypeId}{i:TypeInfo}{z:Value}(ht:P.underlying t=some (.slice e))(hi:P.info? e=some i)(hz:i.zero=some z)(hzs:z.cells.size=i.size)(hby:i.bytes≤128)
  {p r:PV} {v x:Value} {n:Nat} {new:Ψ} {hp':Θ} {fp:FP} (h:cU hp i.size p n new=some (r,hp',fp)) (hv:V w (hot H σ hp) σ (aV hp) p v) {news:List Value} (hs:Src P i.size tx x n news w)
  (hok:bg new=true) (hn:new.length=news.length∧∀ (k:Nat) c u,new[k]?=some c→news[k]?=some u→V w (hot H σ hp) σ (aV hp) c u) (hnn:new.length=n*i.size) :
  aiq P t tx ty v x w H σ hp r hp':=by
 have same:∀ {base:Option Addr} {sLen sCap:Nat},n=0→sLen≤sCap→v = .slice base sLen sCap→r=p→hp'=hp→aiq P t tx ty v x w H σ hp r hp':=by
  intro base sLen sCap h0 hle e1 e2 e3
  subst h0;subst e1;subst e2;subst e3
  exact⟨_,w,σ,Src.oG ht hi hle hs,hv,S,Step.refl _ _ _ _⟩
 unfold cU at h
 split at h
 ·cases hv
  split at h
  ·rename_i h0
   simp only[OiE,PiE] at h
   obtain⟨rfl,rfl,rfl⟩:=h
   exact same h0 (Nat.le_refl 0) rfl rfl rfl
  ·rename_i h0
   split at h
   ·rename_i hm
    simp only[OiE,PiE] at h
    obtain⟨rfl,rfl,rfl⟩:=h
    have:=ot (ty:=ty) S ht hi hz hzs hby (base:=none) (sLen:=0) (sCap:=0) (l:=[]) (olds:=[]) (by simp[Builtin.firstCells]) hs (by omega) (by unfold cS at hm;omega) ⟨rfl,fun k c u h=>by simp at h⟩ (by simp) hn hnn
    simpa [aO] using this
   ·cases h
 ·rename_i len cs
  split at h
  ·rename_i h0
   simp only[OiE,PiE] at h
   obtain⟨rfl,rfl,rfl⟩:=h
   cases hv with
   | nil=>exact same h0 (Nat.le_refl 0) rfl rfl rfl
   | imm _ _ _ a cap g g1 g2 g3 g4=>exact same h0 g1 rfl rfl rfl
  ·rename_i h0
   split at h
   ·rename_i hm
    simp only[OiE,PiE] at h
    obtain⟨rfl,rfl,rfl⟩:=h
    cases hv with
    | nil =>
     have:=ot (ty:=ty) S ht hi hz hzs hby (base:=none) (sLen:=0) (sCap:=0) (l:=[]) (olds:=[]) (by simp[Builtin.firstCells]) hs (by omega) (by unfold cS at hm;omega) ⟨rfl,fun k c u h=>by simp at h⟩ (by simp) hn hnn
     simpa [aO] using this
    | imm _ _ _ a cap g g1 g2 g3 g4 =>
     have hA:At w (hot H σ hp) σ (aV hp) a cs:=⟨g,fun k c hk=>⟨(g3 k c hk).1,(g3 k c hk).2.2.2,g4 k c hk⟩⟩
     obtain⟨olds,e1,e2,e3⟩:=hA.C2
     have hcap:cap=len:=g2 rfl
     have:=ot (ty:=ty) S ht hi hz hzs hby (base:=some a) (sLen:=len) (sCap:=cap) (l:=cs) (olds:=olds) (yg P (by rw[← e1,hm.2]) e2) hs (by omega) (by have:=hm.1;unfold cS at this;omega) ⟨e1,e3⟩ hm.2 hn hnn
     simpa [aO] using this
   ·cases h
 ·rename_i id s' off len
  split at h
  ·cases h
  ·rename_i hss
   have hss:i.size=s':=by simpa using hss
   subst hss
   split at h
   ·rename_i h0
    simp only[OiE,PiE] at h
    obtain⟨rfl,rfl,rfl⟩:=h
    cases hv with
    | own _ _ _ _ _ a b cap g1 g2 g3 g4 g5=>exact same h0 g2 rfl rfl rfl
   ·rename_i h0
    cases hb:aL hp id with
    | none=>simp[hb] at h
    | some blk =>
     cases blk with
     | mk st cs =>
      simp only[hb] at h
      split at h
      ·cases h
      ·rename_i hd
       cases htk:bF (bp cs off) (len*i.size) with
       | none=>simp[htk] at h
       | some l =>
        simp only[htk] at h
        split at h
        ·rename_i hm
         simp only[OiE,PiE] at h
         obtain⟨rfl,rfl,rfl⟩:=h
         obtain⟨hle,rfl⟩:=fx htk
         rw[cF] at *
         rw[cV] at hb
         cases hv with
         | own _ _ _ _ _ a b cap g1 g2 g3 g4 g5 =>
          have hcap:cap=len:=g3 rfl
          have hln:((cs.drop off).take (len*i.size)).length=len*i.size:=by rw[length_take];omega
          obtain⟨olds,e1,e2,e3⟩:∃ olds:List Value,((cs.drop off).take (len*i.size)).length=olds.length∧(∀ j v,olds[j]?=some v→w.cell? (b.add j)=some v) ∧
            ∀ (k:Nat) c v,((cs.drop off).take (len*i.size))[k]?=some c→olds[k]?=some v→V w (hot H σ hp) σ (aV hp) c v:=by
           by_cases hc:0<cap
           ·have:=pd S (off:=off) (m:=len*i.size) hb hd g1
            rw[← g4 hc] at this
            exact this.C2
           ·have:len=0:=by omega
            subst this
            exact⟨[],by simp,fun j v h=>by simp at h,fun k c v h=>by simp at h⟩
          have:=ot (ty:=ty) S ht hi hz hzs hby (base:=some b) (sLen:=len) (sCap:=cap) (olds:=olds) (yg P (by rw[← e1,hln]) e2) hs (by omega) (by unfold cS at hm;omega) ⟨e1,e3⟩ hln hn hnn
          simpa [aO] using this
        ·cases h
 ·rename_i id s' off len
  split at h
  ·cases h
  ·rename_i hss
   have hss:i.size=s':=by simpa using hss
   subst hss
   split at h
   ·rename_i cs hb
    cases htk:bF (bp cs off) (len*i.size) with
    | none=>simp[htk] at h
    | some l =>
     simp only[htk] at h
     split at h
     ·rename_i hm
      simp only[OiE,PiE] at h
      obtain⟨rfl,rfl,rfl⟩:=h
      obtain⟨hle,rfl⟩:=fx htk
      rw[cF] at *
      rw[cV] at hb
      rw[jt]
      have hln:((cs.drop off).take (len*i.size)).length=len*i.size:=by rw[length_take];omega
      cases hv with
      | own _ _ _ _ _ a b cap g1 g2 g3 g4 g5 =>
       obtain⟨c0,e0,hc0,hsz0⟩:=g5 ⟨cs,hb⟩
       have hlt:id<hp.length:=cN hb
       by_cases hroom:len+n≤cap
       ·
        have hA:=pd S (off:=off) (m:=len*i.size) hb (by simp) g1
        obtain⟨gA,hgA⟩:=hA
        have hcs:(len+n)*i.size≤cap*i.size:=Nat.mul_le_mul_right _ hroom
        have hmul:(len+n)*i.size=len*i.size+n*i.size:=Nat.add_mul _ _ _
        obtain⟨r1,r2⟩:=Hd S (off:=off) (l:=(cs.drop off).take (len*i.size)++List.replicate (n*i.size) PV.any) hb g1
         ⟨c0,e0,hc0,by rw[length_append,hln,length_replicate];omega⟩ (fun k c hk=>by
          rcases Nat.lt_or_ge k (len*i.size) with h | h
          ·rw[getElem?_append_left (by rw[hln];exact h)] at hk
           obtain⟨q1,q2,q3⟩:=hgA k c hk
           exact⟨_,q2,q3⟩
          ·rw[getElem?_append_right (by rw[hln];exact h),getElem?_replicate] at hk
           split at hk
           ·rename_i hk2
            simp at hk;subst hk
            rw[hln] at hk2
            rw[sf hc0]
            exact⟨c0[a.off+off+k]'(by omega),Array.getElem?_eq_getElem _,.any _⟩
           ·cases hk)
        have hnewid:(hp.set id ⟨.dead,[]⟩++[(⟨.live,(cs.drop off).take (len*i.size)++List.replicate (n*i.size) PV.any⟩:Blk)])[hp.length]?=some ⟨.live,(cs.drop off).take (len*i.size)++List.replicate (n*i.size) PV.any⟩:=by
         rw[getElem?_append_right (by simp)];simp
        have hnews:(σ++[(⟨a.block,a.off+off,none⟩:Addr)])[hp.length]?=some ⟨a.block,a.off+off,none⟩:=by
         rw[← S.len];simp
        have hover:ca ((cs.drop off).take (len*i.size)++List.replicate (n*i.size) PV.any) (len*i.size) new=some ((cs.drop off).take (len*i.size)++new):=by
         have:=OQ (l:=(cs.drop off).take (len*i.size)) (new:=new) (ys:=List.replicate (n*i.size) PV.any) (by rw[length_replicate,hnn])
         rwa [hln] at this
        obtain⟨w',k1,k2,k3⟩:=vW (P:=P) r1 hnewid hnews hover hn.1 (fun k c u h1 h2=>(hn.2 k c u h1 h2).step r2) hok
        have hset:(hp.set id ⟨.dead,[]⟩++[(⟨.live,(cs.drop off).take (len*i.size)++List.replicate (n*i.size) PV.any⟩:Blk)]).set hp.length ⟨.live,(cs.drop off).take (len*i.size)++new⟩=hp.set id ⟨.dead,[]⟩++[⟨.live,(cs.drop off).take (len*i.size)++new⟩]:=by
         rw[set_append_right _ _ (by simp)];simp
        rw[hset] at k2 k3
        refine⟨.slice (some b) (len+n) cap,w',_,?_,?_,k2,r2.trans k3⟩
        ·by_cases hc:0<cap
         ·have eb:=g4 hc
          subst eb
          refine sP ht hi hs hroom ?_
          rw[gp rfl]
          exact k1
         ·have h0:n=0:=by omega
          subst h0
          have hnil:news=[]:=by have:=hs.newsLen;simpa using this
          subst hnil
          simp[storeCells] at k1
          subst k1
          have:=Src.oG (ty:=ty) ht hi (base:=some b) g2 hs
          simpa using this
        ·refine .own _ _ _ _ _ ⟨a.block,a.off+off,none⟩ b cap (by rw[← S.len];simp) hroom (by simp) (fun hc=>by simpa using g4 hc) (fun _ => ?_)
         obtain⟨c',hc',hsz'⟩:=k3.shape hp.length ⟨a.block,a.off+off,none⟩ c0 e0 ⟨_,by rw[getElem?_append_right (by simp)];simp;rfl⟩ hnews hc0
         exact⟨c',e0,hc',by simp;omega⟩
       ·
        obtain⟨olds,e1,e2,e3⟩:∃ olds:List Value,((cs.drop off).take (len*i.size)).length=olds.length∧(∀ j v,olds[j]?=some v→w.cell? (b.add j)=some v) ∧
          ∀ (k:Nat) c v,((cs.drop off).take (len*i.size))[k]?=some c→olds[k]?=some v→V w (hot H σ hp) σ (aV hp) c v:=by
         by_cases hc:0<cap
         ·have:=pd S (off:=off) (m:=len*i.size) hb (by simp) g1
          rw[← g4 hc] at this
          exact this.C2
         ·have:len=0:=by omega
          subst this
          exact⟨[],by simp,fun j v h=>by simp at h,fun k c v h=>by simp at h⟩
        obtain⟨u,w',σ',q1,q2,q3,q4⟩:=ot (ty:=ty) S ht hi hz hzs hby (base:=some b) (sLen:=len) (sCap:=cap) (olds:=olds) (yg P (by rw[← e1,hln]) e2) hs (by omega) (by unfold cS at hm;omega) ⟨e1,e3⟩ hln hn hnn
        obtain⟨m1,m2⟩:=Dm (id:=id) (s:=.live) (cs:=cs) (st':=.dead) (cs':=[]) q3 (by rw[getElem?_append_left hlt];exact hb) (.inl ⟨rfl,rfl⟩)
        have hset:(hp++[(⟨.live,(cs.drop off).take (len*i.size)++new⟩:Blk)]).set id ⟨.dead,[]⟩=hp.set id ⟨.dead,[]⟩++[⟨.live,(cs.drop off).take (len*i.size)++new⟩]:=by
         rw[set_append_left _ _ hlt]
        rw[hset] at m1 m2
        exact⟨u,w',σ',q1,q2.step m2,m1,q4.trans m2⟩
     ·cases h
   ·cases h
 ·cases h
end
section
variable {P:Program} {T:Tab} (hT:gq P T) {w:World} {H:Nat→Prop} {hp:Θ} {σ:List Addr}
theorem tN {e:TypeId}{zs:Ψ}(hz:dU T e=some zs):∃ i z,T e=some i∧i.zero=some z∧zs=z.cells.toList.map .sc:=by
 unfold dU at hz
 cases hTi:T e with
 | none=>simp[hTi] at hz
 | some i =>
  rw[hTi] at hz
  cases i with
  | mk desc str size bytes hp al fa zero cmp ms =>
   cases zero with
   | none=>simp at hz
   | some z=>simp at hz;exact⟨_,z,rfl,rfl,hz.symm⟩
include hT in
theorem X8 {t ty e:TypeId}(S:Sim w H σ hp)(hu:und T t=some (.slice e)){s:Nat}{zs:Ψ}(hz:dU T e=some zs)(hzs:zs.length=s){id off len:Nat}{x:Bool}{v:Value}{old l:Ψ}
  (hv:V w (hot H σ hp) σ (aV hp) (.own id s off len x) v) (hid:hp[id]?=some ⟨.live,old⟩) (hok:bg zs=true) (ho:ca old off (rep len zs)=some l) :
  ∃ w',(Builtin.clear_ #[t] ty #[v]).run P w = .ok (.tuple #[]) w'∧Sim w' H σ (hp.set id ⟨.live,l⟩) ∧
   Step w (cQ σ hp) σ (aV hp) w' (cQ σ (hp.set id ⟨.live,l⟩)) σ (aV (hp.set id ⟨.live,l⟩)):=by
 cases hv with
 | own _ _ _ _ _ a b cap g1 g2 g3 g4 g5 =>
  obtain⟨z,hz1,hz2⟩:=nQ hT hz w
  have hzz:z.cells.size=s:=by rw[hz2] at hzs;simpa using hzs
  have hrel:=vD (w:=w) (M:=hot H σ hp) (σ:=σ) (L:=aV hp) len z.cells (len*z.cells.size) rfl
  rw[← hz2] at hrel
  have hok':bg (rep len zs)=true:=by
   have happ:∀ a b,bg a=true→bg b=true→bg (a++b)=true:=by
    intro a b ha hb
    induction a with
    | nil=>exact hb
    | cons c a ih=>simp[bg] at ha ⊢;exact⟨ha.1,ih ha.2⟩
   induction len with
   | zero=>rfl
   | succ n ih =>
    have:∀ n,bg (rep n zs)=true:=by
     intro n
     induction n with
     | zero=>rfl
     | succ n ih=>exact happ _ _ hok ih
    exact this _
  obtain⟨w',k1,k2,k3⟩:=vW (P:=P) S hid g1 ho (vs:=(Builtin.zeroCells z.cells len).toList) (by have:=hrel.1;simpa [Builtin.zeroCells] using this) (fun k c v h1 h2=>hrel.2 k c v h1 (by
   have:(Builtin.zeroCells z.cells len)[k]?=some v:=by simpa using h2
   simpa [Builtin.zeroCells] using this)) hok'
  refine⟨w',?_,k2,k3⟩
  cases len with
  | zero =>
   have:w'=w:=by simp[Builtin.zeroCells,storeCells] at k1;exact k1.symm
   subst this
   simp only[Builtin.clear_,getElem?_toArray,getElem?_cons_zero,Sem.run_bind,dy hT hu,Result.andThen_ok]
   rfl
  | succ m =>
   have eb:=g4 (by omega)
   subst eb
   simp only[Builtin.clear_,getElem?_toArray,getElem?_cons_zero,Sem.run_bind,dy hT hu,Result.andThen_ok,hz1,k1]
   rfl
end
structure aiD (same:Value→Bool→Prop) (F:List MapEntry→Nat→Option (Nat × Value)→Prop):Prop where
 nil:∀ i,F [] i none
 hit:∀ e es i,same e.key true→F (e::es) i (some (i,e.val))
 miss:∀ e es i r,same e.key false→F es (i+1) r→F (e::es) i r
section
variable {w:World} {M:Nat→Prop} {σ:List Addr} {L:Nat→Prop} {p:PV} {kv:Value} {same:Value→Bool→Prop} {F:List MapEntry→Nat→Option (Nat × Value)→Prop} (hF:aiD same F)
 (hE:∀ a ka b,V w M σ L a ka→akf p a=some b→same ka b∧(b=true→ka=kv))
include hF hE
end
structure oL (w:World) (M:Nat→Prop) (σ:List Addr) (L:Nat→Prop) (fr:Ψ) (tmps:Array Value):Prop where
 len:fr.length=tmps.size
 get:∀ (t:Nat) p v,fr[t]?=some p→tmps[t]?=some v→V w M σ L p v
section
variable {P:Program} {T:Tab} (hT:gq P T) {w:World} {H:Nat→Prop} {hp:Θ} {σ:List Addr}
theorem oL.step {w w':World}{H:Nat→Prop}{σ σ':List Addr}{hp hp':Θ}(h:Step w (cQ σ hp) σ (aV hp) w' (cQ σ' hp') σ' (aV hp')){fr:Ψ}{tmps:Array Value}(hf:oL w (hot H σ hp) σ (aV hp) fr tmps):oL w' (hot H σ' hp') σ' (aV hp') fr tmps :=
 ⟨hf.len,fun t p v h1 h2=>(hf.get t p v h1 h2).step h⟩
theorem oL.nth {M:Nat→Prop}{L:Nat→Prop}{fr:Ψ}{tmps:Array Value}(hf:oL w M σ L fr tmps)(t:Nat):V w M σ L (nth fr t) (tmps.getD t undef):=by
 rw[th]
 rcases Nat.lt_or_ge t fr.length with h | h
 ·have h2:t<tmps.size:=by rw[← hf.len];exact h
  rw[List.getElem?_eq_getElem h]
  have:=hf.get t fr[t] tmps[t] (List.getElem?_eq_getElem h) (Array.getElem?_eq_getElem h2)
  simpa [h2] using this
 ·rw[getElem?_eq_none h];exact .any _
theorem oL.eval {M:Nat→Prop}{L:Nat→Prop}{fr:Ψ}{a:Act}(hf:oL w M σ L fr a.tmps)(x:Operand):V w M σ L (aj fr x) (a.eval x):=by
 cases x with
 | tmp t=>exact hf.nth t
 | const v=>exact xH v
 | global g=>exact .any _
 | func f=>exact .sc _
theorem oL.put {M:Nat→Prop}{L:Nat→Prop}{fr:Ψ}{a:Act}(hf:oL w M σ L fr a.tmps)(dst:Option Tmp){p:PV}{v:Value}(hv:V w M σ L p v):oL w M σ L (aF fr dst p) (a.put dst v).tmps:=by
 cases dst with
 | none=>exact hf
 | some d =>
  refine⟨by simp[aF,jZ,Act.put,hf.len],fun t q u h1 h2 => ?_⟩
  simp only[aF,jZ] at h1
  simp only[Act.put] at h2
  by_cases e:d=t
  ·subst e
   have hlt:d<fr.length:=by have:=cN h1;simpa using this
   rw[getElem?_set_self hlt] at h1
   have hlt2:d<a.tmps.size:=by rw[← hf.len];exact hlt
   simp[hlt2] at h2
   cases h1;subst h2;exact hv
  ·rw[getElem?_set_ne e] at h1
   rw[Array.getElem?_setIfInBounds_ne e] at h2
   exact hf.get t q u h1 h2
theorem xy {M:Nat→Prop}{L:Nat→Prop}{fr:Ψ}{a:Act}(hf:oL w M σ L fr a.tmps):∀ l:List (Nat × Operand),Gp w M σ L (l.map fun (i,x)=>(i,aj fr x)) (l.map fun (i,x)=>(i,a.eval x))
 | []=>trivial
 | (i,x)::l=>⟨rfl,hf.eval x,xy hf l⟩
theorem UP {M:Nat→Prop}{L:Nat→Prop}{fr:Ψ}{a:Act}(hf:oL w M σ L fr a.tmps)(o:Option Operand):OV w M σ L (o.map (aj fr)) (o.map a.eval):=by
 cases o with
 | none=>trivial
 | some x=>exact hf.eval x
theorem V.FV {M:Nat→Prop}{L:Nat→Prop}{f:FuncId}{cs:Ψ}{v:Value}(h:V w M σ L (.clos f cs) v):∃ vs:Array Value,v = .func (.func f) #[] vs∧Rel w M σ L cs vs:=by
 cases h with | clos _ _ vs h1 h2=>exact⟨vs,rfl,h1,h2⟩
theorem V.Gi {M:Nat→Prop}{L:Nat→Prop}{f:FuncId}{cs:Ψ}{v:Value}(h:V w M σ L (.bmet f cs) v):∃ vs:Array Value,v = .func (.func f) vs #[]∧Rel w M σ L cs vs:=by
 cases h with | bmet _ _ vs h1 h2=>exact⟨vs,rfl,h1,h2⟩
theorem V.Z3 {M:Nat→Prop}{L:Nat→Prop}{cs:Ψ}{v:Value}(h:V w M σ L (.tup cs) v):∃ vs:Array Value,v = .tuple vs∧Rel w M σ L cs vs:=by
 cases h with | tup _ vs h1 h2=>exact⟨vs,rfl,h1,h2⟩
theorem ajy {α β:Type}{f:α→β}{l:Array α}{x:β}(h:l.toList.map f=[x]):∃ y,l=#[y]∧f y=x:=by
 obtain⟨l⟩:=l
 match l,h with
 | [y],h=>simp at h;exact⟨y,rfl,h⟩
theorem ak8 {α β:Type}{f:α→β}{l:Array α}{x y:β}(h:l.toList.map f=[x,y]):∃ u v,l=#[u,v]∧f u=x∧f v=y:=by
 obtain⟨l⟩:=l
 match l,h with
 | [u,v],h=>simp at h;exact⟨u,v,rfl,h.1,h.2⟩
theorem akw {α:Type}{l:Array α}{x:α}(h:l.toList=[x]):l=#[x]:=by
 obtain⟨l⟩:=l;simp at h;rw[h]
theorem alz {α:Type}{l:Array α}{x y:α}(h:l.toList=[x,y]):l=#[x,y]:=by
 obtain⟨l⟩:=l;simp at h;rw[h]
theorem fh.of {s:Sem Value}{r:PV}{hp':Θ}{v:Value}{w':World}{σ':List Addr}(h:s.run P w = .ok v w')(hv:V w' (hot H σ' hp') σ' (aV hp') r v)(S:Sim w' H σ' hp')
  (st:Step w (cQ σ hp) σ (aV hp) w' (cQ σ' hp') σ' (aV hp')):fh P (do pure (.value (← s))) w H σ hp r hp' :=
 ⟨.value v,v,w',σ',by simp[h],.inl rfl,hv,S,st⟩
theorem fh.of0 {s:Sem Value}{r:PV}{v:Value}(S:Sim w H σ hp)(h:s.run P w = .ok v w)(hv:V w (hot H σ hp) σ (aV hp) r v):fh P (do pure (.value (← s))) w H σ hp r hp :=
 fh.of h hv S (Step.refl _ _ _ _)
include hT in
theorem R3 (S:Sim w H σ hp){fr:Ψ}{a:Act}(hf:oL w (hot H σ hp) σ (aV hp) fr a.tmps){o:Oper}{r:PV}{hp':Θ}{fp:FP}(h:an P T fr hp o.op=some (r,hp',fp)) :
  fh P (execOp a.eval o) w H σ hp r hp':=by
 obtain⟨dst,op,type,pos,after,guard⟩:=o
 cases op with
 | move x =>
  simp only[an,OiE,PiE] at h
  obtain⟨rfl,rfl,rfl⟩:=h
  exact fh.same S rfl (hf.eval x)
 | assign x =>
  simp only[an,OiE,PiE] at h
  obtain⟨rfl,rfl,rfl⟩:=h
  exact fh.same S rfl (hf.eval x)
 | pick c x y =>
  simp only[an] at h
  have hc:=hf.eval c
  split at h
  ·rename_i e
   rw[e] at hc
   simp only[OiE,PiE] at h
   obtain⟨rfl,rfl,rfl⟩:=h
   exact fh.same S (by simp[execOp,hc.lv,asBool]) (hf.eval x)
  ·rename_i e
   rw[e] at hc
   simp only[OiE,PiE] at h
   obtain⟨rfl,rfl,rfl⟩:=h
   exact fh.same S (by simp[execOp,hc.lv,asBool]) (hf.eval y)
  ·cases h
 | alloc e =>
  simp only[an] at h
  split at h
  ·rename_i zs hz
   simp only[OiE,PiE] at h
   obtain⟨rfl,rfl,rfl⟩:=h
   obtain⟨v,w',σ',h1,h2,h3,h4⟩:=YS hT S hz
   exact fh.of h1 h2 h3 h4
  ·cases h
 | box e x =>
  simp only[an] at h
  split at h
  ·rename_i cs hc
   simp only[OiE,PiE] at h
   obtain⟨rfl,rfl,rfl⟩:=h
   obtain⟨v,w',σ',h1,h2,h3,h4⟩:=ahR (P:=P) (e:=e) S hc (hf.eval x)
   exact fh.of h1 h2 h3 h4
  ·cases h
 | build t parts =>
  simp only[an] at h
  split at h
  ·rename_i x hb
   simp only[OiE,PiE] at h
   obtain⟨rfl,rfl,rfl⟩:=h
   obtain⟨v,h1,h2⟩:=YL (vparts:=parts.map fun (i,x)=>(i,a.eval x)) hT hb (by simpa using xy hf parts.toList)
   exact fh.of0 S h1 h2
  ·cases h
 | buildSlice t len parts =>
  simp only[an] at h
  split at h
  ·rename_i s cs hb
   obtain⟨e,arr,hu,hs,h1,h2,h3⟩:=agM (w:=w) (M:=hot H σ hp) (σ:=σ) (L:=aV hp) (vparts:=parts.map fun (i,x)=>(i,a.eval x)) hT hb (by simpa using xy hf parts.toList)
   split at h
   ·rename_i hid
    simp only[OiE,PiE] at h
    obtain⟨rfl,rfl,rfl⟩:=h
    obtain⟨g1,g2⟩:=oT S (.cells arr e)
    exact fh.of h1 (AW S (Nat.le_of_eq h2.1) h2.2 hid len len true (Nat.le_refl _) (fun _=>rfl)) g1 g2
   ·simp only[OiE,PiE] at h
    obtain⟨rfl,rfl,rfl⟩:=h
    obtain⟨g1,g2,g3⟩:=Cc (e:=e) S (Nat.le_of_eq h2.1) h2.2 s len len true (Nat.le_refl _) (fun _=>rfl) (by rw[← h2.1,h3];exact Nat.le_refl _)
    exact fh.of h1 g3 g1 g2
  ·cases h
 | load t x =>
  simp only[an] at h
  split at h
  ·rename_i cs ids hc
   split at h
   ·rename_i y hx
    simp only[OiE,PiE] at h
    obtain⟨rfl,rfl,rfl⟩:=h
    obtain⟨u,h1,h2⟩:=acJ (P:=P) hT S hc hx (hf.eval x)
    exact fh.of0 S h1 h2
   ·cases h
  ·cases h
 | store t x y =>
  simp only[an] at h
  have hx:=hf.eval x
  split at h
  ·rename_i id off cs n e1 e2 e3
   split at h
   ·rename_i hc
    split at h
    ·rename_i old hid
     split at h
     ·rename_i l hl
      simp only[OiE,PiE] at h
      obtain⟨rfl,rfl,rfl⟩:=h
      rw[e1] at hx
      rw[cV] at hid
      obtain⟨w',h1,h2,h3⟩:=R2 (P:=P) hT S hx (hf.eval y) e2 e3 hc.1 hc.2 hid hl
      rw[jt]
      exact⟨.skip,undef,w',σ,by simp[execOp,h1],.inr ⟨rfl,rfl⟩,.sc _,h2,h3⟩
     ·cases h
    ·cases h
   ·cases h
  ·cases h
 | nilCheck x =>
  simp only[an] at h
  have hx:=hf.eval x
  split at h
  ·rename_i e
   simp only[OiE,PiE] at h
   obtain⟨rfl,rfl,rfl⟩:=h
   rw[e] at hx
   obtain⟨b,_,hb⟩:=hx.vF
   exact fh.same S (v:=a.eval x) (by simp[execOp,hb]) hx
  ·rename_i e
   simp only[OiE,PiE] at h
   obtain⟨rfl,rfl,rfl⟩:=h
   rw[e] at hx
   obtain⟨b,hb⟩:=hx.xU
   exact fh.same S (v:=a.eval x) (by simp[execOp,hb]) hx
  ·rename_i e
   simp only[OiE,PiE] at h
   obtain⟨rfl,rfl,rfl⟩:=h
   rw[e] at hx
   obtain⟨vs,hb,_⟩:=hx.FV
   exact fh.same S (v:=a.eval x) (by simp[execOp,hb]) hx
  ·rename_i e
   simp only[OiE,PiE] at h
   obtain⟨rfl,rfl,rfl⟩:=h
   rw[e] at hx
   obtain⟨vs,hb,_⟩:=hx.Gi
   exact fh.same S (v:=a.eval x) (by simp[execOp,hb]) hx
  ·rename_i e
   simp only[OiE,PiE] at h
   obtain⟨rfl,rfl,rfl⟩:=h
   rw[e] at hx
   have hb:=hx.lv
   exact fh.same S (v:=a.eval x) (by simp[execOp,hb]) hx
  ·cases h
 | binOp op t x y t' =>
  simp only[an] at h
  split at h
  ·rename_i z hb
   simp only[OiE,PiE] at h
   obtain⟨rfl,rfl,rfl⟩:=h
   obtain⟨v,h1,h2⟩:=aee hT hb (hf.eval x) (hf.eval y) x y
   exact fh.of0 S h1 h2
  ·cases h
 | unOp op t x =>
  simp only[an] at h
  split at h
  ·rename_i z hb
   simp only[OiE,PiE] at h
   obtain⟨rfl,rfl,rfl⟩:=h
   obtain⟨v,h1,h2⟩:=afk (P:=P) hb (hf.eval x)
   exact fh.of0 S h1 h2
  ·cases h
 | convert src dst' x =>
  simp only[an] at h
  split at h
  ·rename_i z ids hb
   simp only[OiE,PiE] at h
   obtain⟨rfl,rfl,rfl⟩:=h
   obtain⟨v,w',h1,h2,h3,h4⟩:=X2 (P:=P) hT S hb (hf.eval x)
   exact fh.of h1 h2 h3 h4
  ·cases h
 | makeFunc fn first captured =>
  cases fn with
  | func f =>
   simp only[an] at h
   split at h
   ·rename_i h0
    simp only[OiE,PiE] at h
    obtain⟨rfl,rfl,rfl⟩:=h
    have e:first=#[]:=Array.size_eq_zero_iff.1 h0
    subst e
    refine fh.of0 S (v:=.func (.func f) #[] (captured.map a.eval)) (by simp[Instr.makeFunc]) (.clos f _ _ (by simp) (fun k c v h1 h2 => ?_))
    rw[getElem?_map] at h1
    rw[Array.getElem?_map] at h2
    cases hk:captured[k]? with
    | none=>simp[hk] at h2
    | some y =>
     have hk':captured.toList[k]?=some y:=by simpa using hk
     simp[hk'] at h1;simp[hk] at h2
     subst h1;subst h2;exact hf.eval y
   ·split at h
    ·rename_i h0
     simp only[OiE,PiE] at h
     obtain⟨rfl,rfl,rfl⟩:=h
     have e:captured=#[]:=Array.size_eq_zero_iff.1 h0
     subst e
     refine fh.of0 S (v:=.func (.func f) (first.map a.eval) #[]) (by simp[Instr.makeFunc]) (.bmet f _ _ (by simp) (fun k c v h1 h2 => ?_))
     rw[getElem?_map] at h1
     rw[Array.getElem?_map] at h2
     cases hk:first[k]? with
     | none=>simp[hk] at h2
     | some y =>
      have hk':first.toList[k]?=some y:=by simpa using hk
      simp[hk'] at h1;simp[hk] at h2
      subst h1;subst h2;exact hf.eval y
    ·cases h
  | _=>simp[an] at h
 | makeSlice t l c =>
  simp only[an] at h
  split at h
  ·rename_i e l' c' hu hl hc
   split at h
   ·rename_i zs s by_ hz hs hb
    split at h
    ·rename_i hle
     simp only[OiE,PiE] at h
     obtain⟨rfl,rfl,rfl⟩:=h
     obtain⟨x,w',σ',h1,h2,h3,h4⟩:=acw (P:=P) hT S hu hz hs hb hl hc (hf.eval l) (hf.eval c) hle
     exact fh.of h1 h2 h3 h4
    ·cases h
   ·cases h
  ·cases h
 | slice t x lo hi mx =>
  simp only[an] at h
  split at h
  ·rename_i z hb
   simp only[OiE,PiE] at h
   obtain⟨rfl,rfl,_⟩:=h
   obtain⟨u,h1,h2⟩:=Nh (P:=P) hT S hb (hf.eval x) (UP hf lo) (UP hf hi) (UP hf mx)
   exact fh.of0 S h1 h2
  ·cases h
 | fieldAddr t x i =>
  simp only[an] at h
  split at h
  ·rename_i z hb
   simp only[OiE,PiE] at h
   obtain⟨rfl,rfl,rfl⟩:=h
   obtain⟨v,h1,h2⟩:=zg (P:=P) hT hb (hf.eval x)
   exact fh.of0 S h1 h2
  ·cases h
 | field t x i =>
  simp only[an] at h
  split at h
  ·rename_i z hb
   simp only[OiE,PiE] at h
   obtain⟨rfl,rfl,rfl⟩:=h
   obtain⟨v,h1,h2⟩:=PL (P:=P) hT hb (hf.eval x)
   exact fh.of0 S h1 h2
  ·cases h
 | indexAddr t x i =>
  simp only[an] at h
  split at h
  ·rename_i z hb
   simp only[OiE,PiE] at h
   obtain⟨rfl,rfl,rfl⟩:=h
   obtain⟨v,h1,h2⟩:=y9 (P:=P) hT hb (hf.eval x) (hf.eval i)
   exact fh.of0 S h1 h2
  ·cases h
 | index t x i =>
  simp only[an] at h
  split at h
  ·rename_i z hb
   simp only[OiE,PiE] at h
   obtain⟨rfl,rfl,rfl⟩:=h
   obtain⟨v,h1,h2⟩:=PA (P:=P) hT hb (hf.eval x) (hf.eval i)
   exact fh.of0 S h1 h2
  ·cases h
 | extract x i =>
  simp only[an] at h
  have hx:=hf.eval x
  split at h
  ·rename_i cs e
   split at h
   ·rename_i c hc
    simp only[OiE,PiE] at h
    obtain⟨rfl,rfl,rfl⟩:=h
    rw[e] at hx
    obtain⟨vs,ev,hl,hv⟩:=hx.Z3
    have hi:i<vs.size:=by have:=cN hc;omega
    refine fh.of0 S (v:=vs[i]) ?_ (hv i c _ hc (Array.getElem?_eq_getElem hi))
    simp[ev,Instr.extract,hi]
   ·cases h
  ·cases h
 | call c =>
  obtain⟨callee,args,argTypes⟩:=c
  cases callee with
  | value f=>simp[an] at h
  | invoke r m=>simp[an] at h
  | builtin b =>
   have key:∀ (f:Array TypeId→TypeId→Array Value→Sem Value),(∀ cs vs,builtin b argTypes type cs vs=(do pure (.value (← f argTypes type vs))))→∀ C2,args.map a.eval=C2 →
     fh P (do pure (.value (← f argTypes type C2))) w H σ hp r hp'→fh P (execOp a.eval ⟨dst,.call ⟨.builtin b,args,argTypes⟩,type,pos,after,guard⟩) w H σ hp r hp':=by
    intro f hb C2 hv d
    have e:execOp a.eval ⟨dst,.call ⟨.builtin b,args,argTypes⟩,type,pos,after,guard⟩=builtin b argTypes type (args.map fun | .const _=>true | _=>false) (args.map a.eval):=rfl
    rw[e,hb,hv]
    exact d
   simp only[an] at h
   split at h
   ·rename_i x t e1 e2
    split at h
    ·rename_i z hb
     simp only[OiE,PiE] at h
     obtain⟨rfl,rfl,rfl⟩:=h
     obtain⟨ax,rfl,rfl⟩:=ajy e1
     obtain rfl:=akw e2
     obtain⟨u,h1,h2⟩:=acS (P:=P) hT hb (hf.eval ax) type
     exact key Builtin.len_ (fun _ _=>rfl) #[a.eval ax] (by simp) (fh.of0 S h1 h2)
    ·cases h
   ·split at h
    ·rename_i z hb
     simp only[OiE,PiE] at h
     obtain⟨rfl,rfl,rfl⟩:=h
     obtain⟨u,h1,h2⟩:=AJ (P:=P) (b:=true) (vs:=args.toList.map a.eval) hb (by simp) (fun k c v h1 h2=>by
      rw[getElem?_map] at h1 h2
      cases hk:args.toList[k]? with
      | none=>simp[hk] at h1
      | some y=>simp[hk] at h1 h2;subst h1;subst h2;exact hf.eval y) argTypes type
     have e:(args.toList.map a.eval).toArray=args.map a.eval:=by apply Array.ext';simp
     rw[e] at h1
     exact key Builtin.max_ (fun _ _=>rfl) _ rfl (fh.of0 S h1 h2)
    ·cases h
   ·split at h
    ·rename_i z hb
     simp only[OiE,PiE] at h
     obtain⟨rfl,rfl,rfl⟩:=h
     obtain⟨u,h1,h2⟩:=AJ (P:=P) (b:=false) (vs:=args.toList.map a.eval) hb (by simp) (fun k c v h1 h2=>by
      rw[getElem?_map] at h1 h2
      cases hk:args.toList[k]? with
      | none=>simp[hk] at h1
      | some y=>simp[hk] at h1 h2;subst h1;subst h2;exact hf.eval y) argTypes type
     have e:(args.toList.map a.eval).toArray=args.map a.eval:=by apply Array.ext';simp
     rw[e] at h1
     exact key Builtin.min_ (fun _ _=>rfl) _ rfl (fh.of0 S h1 h2)
    ·cases h
   ·rename_i x y t t' e1 e2
    obtain⟨ax,ay,rfl,rfl,rfl⟩:=ak8 e1
    obtain rfl:=alz e2
    split at h
    ·rename_i e e' hu hu'
     split at h
     ·rename_i s by_ zs hs hb hz
      split at h
      ·rename_i hle
       split at h
       ·rename_i n new ids hr
        split at h
        ·rename_i hok
         split at h
         ·rename_i r' hp2 fp' hap
          simp only[OiE,PiE] at h
          obtain⟨rfl,rfl,rfl⟩:=h
          obtain⟨i,z,hTi,hiz,hzs⟩:=tN hz
          have hsi:i.size=s:=by unfold de at hs;rw[hTi] at hs;simpa using hs
          have hbi:i.bytes=by_:=by unfold ja at hb;rw[hTi] at hb;simpa using hb
          subst hsi;subst hbi
          have hzz:z.cells.size=i.size:=by have:=hle.2;rw[hzs] at this;simpa using this
          obtain⟨news,q1,q2,q3,q4⟩:=afo (P:=P) S (jP hT hu') hr hok (hf.eval ay)
          obtain⟨u,w',σ',k1,k2,k3,k4⟩:=yG (ty:=type) S (jP hT hu) (hT e i hTi) hiz hzz hle.1 hap (hf.eval ax) q1 hok ⟨q2,q3⟩ q4
          exact key Builtin.append_ (fun _ _=>rfl) #[a.eval ax,a.eval ay] (by simp) (fh.of k1 k2 k3 k4)
         ·cases h
        ·cases h
       ·cases h
      ·cases h
     ·cases h
    ·rename_i e hu hu'
     split at h
     ·rename_i str he
      split at h
      ·rename_i z0 hu8 hs hb hz
       split at h
       ·rename_i r' hp2 fp' hap
        simp only[OiE,PiE] at h
        obtain⟨rfl,rfl,rfl⟩:=h
        obtain⟨i,z,hTi,hiz,hzs⟩:=tN hz
        have hsi:i.size=1:=by unfold de at hs;rw[hTi] at hs;simpa using hs
        have hbi:i.bytes=1:=by unfold ja at hb;rw[hTi] at hb;simpa using hb
        have hzz:z.cells.size=i.size:=by
         have:=congrArg List.length hzs
         rw[hsi];simpa using this.symm
        have hay:=hf.eval ay
        rw[he] at hay
        have hv:=hay.lv
        have hsrc:=Src.ofString w (jP hT hu') str
        rw[← hsi] at hap hsrc
        obtain⟨u,w',σ',k1,k2,k3,k4⟩:=yG (ty:=type) S (jP hT hu) (hT e i hTi) hiz hzz (by omega) hap (hf.eval ax) (n:=(bQ str).length) (news:=byteCells str) (by rw[fU];exact hsrc)
         (by
          have:∀ l:List UInt8,bg (l.map fun b=>PV.sc (.int .u8 b.toNat))=true:=by
           intro l
           induction l with
           | nil=>rfl
           | cons b l ih=>simp[bg,eo,ih]
          exact this _)
         ⟨by simp[byteCells,bQ],fun k c u h1 h2=>by
          unfold byteCells at h2
          unfold bQ at h1
          rw[getElem?_map] at h1 h2
          cases hk:str.data.toList[k]? with
          | none=>simp[hk] at h1
          | some y=>simp[hk] at h1 h2;subst h1;subst h2;exact .sc _⟩ (by rw[hsi];simp)
        rw[← hv] at k1
        exact key Builtin.append_ (fun _ _=>rfl) #[a.eval ax,a.eval ay] (by simp) (fh.of k1 k2 k3 k4)
       ·cases h
      ·cases h
     ·cases h
    ·cases h
   ·rename_i x t e1 e2
    obtain⟨ax,rfl,rfl⟩:=ajy e1
    obtain rfl:=akw e2
    have hax:=hf.eval ax
    split at h
    ·rename_i e id s' off len x hu hx
     split at h
     ·rename_i s zs hs hz
      split at h
      ·rename_i hc
       obtain⟨hss,hzs,hok⟩:=hc
       subst hss
       split at h
       ·rename_i old hid
        split at h
        ·rename_i l hl
         simp only[OiE,PiE] at h
         obtain⟨rfl,rfl,rfl⟩:=h
         rw[hx] at hax
         rw[cV] at hid
         obtain⟨w',h1,h2,h3⟩:=X8 (P:=P) (ty:=type) hT S hu hz hzs hax hid hok hl
         rw[← jt] at h2 h3
         exact key Builtin.clear_ (fun _ _=>rfl) #[a.eval ax] (by simp) (fh.of (σ':=σ) h1 (.tup _ _ rfl (fun k c v h=>by simp at h)) h2 h3)
        ·cases h
       ·cases h
      ·cases h
     ·cases h
    ·cases h
   ·cases h
 | _=>simp[an] at h
end
section
variable {P:Program} {T:Tab} {w:World} {H:Nat→Prop} {hp:Θ} {σ:List Addr}
def NoL:Nat→Prop:=fun _=>False
theorem V.idf {M M':Nat→Prop}{L L':Nat→Prop}{σ':List Addr}(hM:∀ b,b<w.heap.size→M' b→M b){p:PV}{v:Value}(hv:V w M σ L p v)(h:p.cH=true):V w M' σ' L' p v:=by
 induction hv with
 | any v=>exact .any v
 | sc v=>exact .sc v
 | agg cs vs hl _ ih =>
  simp only[PV.cH] at h
  exact .agg cs vs hl (fun k c v h1 h2=>ih k c v h1 h2 (eH h h1))
 | tup cs vs hl _ ih =>
  simp only[PV.cH] at h
  exact .tup cs vs hl (fun k c v h1 h2=>ih k c v h1 h2 (eH h h1))
 | nil x=>exact .nil x
 | imm len x cs a cap g h1 h2 h3 _ ih =>
  refine .imm len x cs a cap g h1 h2 (fun k c hk => ?_) (fun k c hk=>ih k c hk (h3 k c hk).2.1)
  obtain⟨e1,e2,e3,e4⟩:=h3 k c hk
  exact⟨e1,e2,fun hm=>e3 (hM _ (World.block_lt_of_cell? _ ⟨a.block,a.off+k,none⟩ e4) hm),e4⟩
 | own=>simp[PV.cH] at h
 | ptr=>simp[PV.cH] at h
 | iptr cs a g h3 _ ih =>
  refine .iptr cs a g (fun k c hk => ?_) (fun k c hk=>ih k c hk (h3 k c hk).2.1)
  obtain⟨e1,e2,e3,e4⟩:=h3 k c hk
  exact⟨e1,e2,fun hm=>e3 (hM _ (World.block_lt_of_cell? _ ⟨a.block,a.off+k,none⟩ e4) hm),e4⟩
 | clos f cs vs hl _ ih =>
  simp only[PV.cH] at h
  exact .clos f cs vs hl (fun k c v h1 h2=>ih k c v h1 h2 (eH h h1))
 | bmet=>simp[PV.cH] at h
 | mp=>simp[PV.cH] at h
def but (H:Nat→Prop)(σ:List Addr)(hp:Θ)(ids:Ω)(b:Nat):Prop:=H b∨∃ i a,((aV hp i∧i ∉ ids)∨jh hp i)∧σ[i]?=some a∧a.block=b
theorem aec {ids:Ω}{b:Nat}(h:but H σ hp ids b):hot H σ hp b:=by
 rcases h with h | ⟨i,a,h1,h2,h3⟩
 ·exact .inl h
 ·exact .inr ⟨i,a,h1.imp (fun h=>h.1) id,h2,h3⟩
theorem fb {f:PV→Option (PV × Ω)} : ∀ {cs l:Ψ} {ids:Ω},bw f cs=some (l,ids) →
  l.length=cs.length∧∀ (k:Nat) c,cs[k]?=some c→∃ c' i',l[k]?=some c'∧f c=some (c',i')∧∀ x ∈ i',x ∈ ids
 | [],l,ids,h=>by
  simp[bw] at h;obtain⟨rfl,rfl⟩:=h
  exact⟨rfl,fun k c hk=>by simp at hk⟩
 | c::cs,l,ids,h=>by
  simp only[bw] at h
  cases hf:f c with
  | none=>simp[hf] at h
  | some x =>
   obtain⟨c',i1⟩:=x
   simp only[hf] at h
   cases hm:bw f cs with
   | none=>simp[hm] at h
   | some y =>
    obtain⟨l',i2⟩:=y
    simp only[hm,OiE,PiE] at h
    obtain⟨rfl,rfl⟩:=h
    obtain⟨h1,h2⟩:=fb hm
    refine⟨by simp[h1],fun k d hk => ?_⟩
    cases k with
    | zero=>simp at hk;subst hk;exact⟨c',i1,rfl,hf,fun x hx=>mem_append_left _ hx⟩
    | succ k =>
     simp at hk
     obtain⟨c2,i3,e1,e2,e3⟩:=h2 k d hk
     exact⟨c2,i3,by simpa using e1,e2,fun x hx=>mem_append_right _ (e3 x hx)⟩
theorem mU {cs:Ψ}(h:∀ (k:Nat) c,cs[k]?=some c→c.cH=true):bV cs=true:=by
 induction cs with
 | nil=>rfl
 | cons c cs ih =>
  simp only[bV,Bool.and_eq_true]
  exact⟨h 0 c rfl,ih (fun k d hk=>h (k+1) d (by simpa using hk))⟩
theorem oS (S:Sim w H σ hp){all:Ω} : ∀ (d:Nat) {p p':PV} {ids:Ω} {v:Value},snap hp d p=some (p',ids)→(∀ x ∈ ids,x ∈ all)→V w (hot H σ hp) σ (aV hp) p v →
  V w (but H σ hp all) [] NoL p' v∧p'.cH=true
 | 0,p,p',ids,v,h,_,_=>by simp[snap] at h
 | d+1,p,p',ids,v,h,hi,hv=>by
  have list:∀ {cs l:Ψ} {ids:Ω},bw (snap hp d) cs=some (l,ids)→(∀ x ∈ ids,x ∈ all)→∀ (k:Nat) c v,cs[k]?=some c→V w (hot H σ hp) σ (aV hp) c v →
    ∃ c',l[k]?=some c'∧V w (but H σ hp all) [] NoL c' v∧c'.cH=true:=by
   intro cs l ids hm hi k c v hk hv
   obtain⟨_,h2⟩:=fb hm
   obtain⟨c',i',e1,e2,e3⟩:=h2 k c hk
   obtain⟨r1,r2⟩:=oS S d e2 (fun x hx=>hi x (e3 x hx)) hv
   exact⟨c',e1,r1,r2⟩
  have rest:p'=p→p.cH=true→V w (but H σ hp all) [] NoL p' v∧p'.cH=true:=by
   intro e hf
   subst e
   exact⟨hv.idf (fun b _ hb=>aec hb) hf,hf⟩
  cases p with
  | own id s off len x =>
   simp only[snap,cV] at h
   cases hb:hp[id]? with
   | none=>simp[hb] at h
   | some blk =>
    cases blk with
    | mk st cs =>
     simp only[hb] at h
     split at h
     ·cases h
     ·rename_i hd
      cases ht:bF (bp cs off) (len*s) with
      | none=>simp[ht] at h
      | some l =>
       simp only[ht] at h
       cases hm:bw (snap hp d) l with
       | none=>simp[hm] at h
       | some y =>
        obtain⟨l',ids'⟩:=y
        simp only[hm,OiE,PiE] at h
        obtain⟨rfl,rfl⟩:=h
        obtain⟨hle,rfl⟩:=fx ht
        rw[cF] at *
        obtain⟨hlen',_⟩:=fb hm
        have hid:id ∈ all:=hi id (by simp)
        cases hv with
        | own _ _ _ _ _ a b cap g1 g2 g3 g4 g5 =>
         obtain⟨gA,hgA⟩:=pd S (off:=off) (m:=len*s) hb hd g1
         have hcap:∀ (k:Nat) c,l'[k]?=some c→0<cap:=by
          intro k c hk
          have:=cN hk
          rw[hlen',length_take] at this
          rcases Nat.eq_zero_or_pos cap with h0 | h0
          ·have:len=0:=by omega
           subst this;simp at this
          ·exact h0
         have hcell:∀ (k:Nat) c',l'[k]?=some c'→∃ c,((cs.drop off).take (len*s))[k]?=some c:=by
          intro k c' hk
          have:=cN hk
          rw[hlen'] at this
          exact⟨_,List.getElem?_eq_getElem this⟩
         refine⟨.imm len x l' b cap gA g2 g3 (fun k c' hk => ?_) (fun k c' hk => ?_),rfl⟩
         ·obtain⟨c,hc⟩:=hcell k c' hk
          obtain⟨e1,e2,e3⟩:=hgA k c hc
          obtain⟨c2,f1,f2,f3⟩:=list hm (fun x hx=>hi x (mem_cons_of_mem _ hx)) k c _ hc e3
          rw[hk] at f1;cases f1
          have eb:=g4 (hcap k c' hk)
          subst eb
          refine⟨rfl,f3,?_,e2⟩
          rintro (hh | ⟨i,a',⟨i1,i2⟩| ⟨ds,hds⟩,i3,i4⟩)
          ·exact S.own id st cs a hb hd g1 hh
          rotate_left
          ·obtain⟨-,es,ck,hb',-⟩:=S.maps i ds a' hds i3
           simp only at i4
           rw[i4] at hb'
           simp[World.cell?,hb'] at e2
          ·by_cases e:i=id
           ·subst e;exact i2 hid
           ·exact S.inj i id a' a st cs i1 hb hd e i3 g1 i4
         ·obtain⟨c,hc⟩:=hcell k c' hk
          obtain⟨e1,e2,e3⟩:=hgA k c hc
          obtain⟨c2,f1,f2,f3⟩:=list hm (fun x hx=>hi x (mem_cons_of_mem _ hx)) k c _ hc e3
          rw[hk] at f1;cases f1
          exact f2
  | agg cs =>
   simp only[snap] at h
   cases hm:bw (snap hp d) cs with
   | none=>simp[hm] at h
   | some y =>
    obtain⟨l',ids'⟩:=y
    simp only[hm,OiE,PiE] at h
    obtain⟨rfl,rfl⟩:=h
    obtain⟨hlen',_⟩:=fb hm
    cases hv with
    | agg _ vs h1 h2 =>
     have key:∀ (k:Nat) c',l'[k]?=some c'→∃ v,vs[k]?=some v∧V w (but H σ hp all) [] NoL c' v∧c'.cH=true:=by
      intro k c' hk
      have hk':=cN hk
      have hk1:k<cs.length:=by omega
      have hk2:k<vs.size:=by omega
      obtain⟨c2,f1,f2,f3⟩:=list hm hi k cs[k] vs[k] (List.getElem?_eq_getElem hk1) (h2 k _ _ (List.getElem?_eq_getElem hk1) (Array.getElem?_eq_getElem hk2))
      rw[hk] at f1;cases f1
      exact⟨_,Array.getElem?_eq_getElem hk2,f2,f3⟩
     refine⟨.agg l' vs (by omega) (fun k c v hk hv => ?_),?_⟩
     ·obtain⟨v',e1,e2,_⟩:=key k c hk
      rw[hv] at e1;cases e1;exact e2
     ·simp only[PV.cH]
      exact mU (fun k c hk=>(key k c hk).choose_spec.2.2)
  | ptr=>simp[snap] at h
  | mp=>simp[snap] at h
  | bmet=>simp[snap] at h
  | clos f caps =>
   simp only[snap] at h
   split at h
   ·rename_i hf
    simp only[OiE,PiE] at h
    exact rest h.1.symm (by simp only[PV.cH];exact hf)
   ·cases h
  | tup=>simp[snap] at h
  | any=>simp only[snap,OiE,PiE] at h;exact rest h.1.symm rfl
  | sc v=>simp only[snap,OiE,PiE] at h;exact rest h.1.symm rfl
  | imm=>simp only[snap,OiE,PiE] at h;exact rest h.1.symm rfl
  | iptr=>simp only[snap,OiE,PiE] at h;exact rest h.1.symm rfl
theorem Dg (S:Sim w H σ hp){ps ps':Ψ}{ids all:Ω}{vs:List Value}{d:Nat}(h:bw (snap hp d) ps=some (ps',ids))(hi:∀ x ∈ ids,x ∈ all)(hv:Vs w (hot H σ hp) σ (aV hp) ps vs) :
  Vs w (but H σ hp all) [] NoL ps' vs∧bV ps'=true:=by
 obtain⟨hl,h2⟩:=fb h
 have key:∀ (k:Nat) c',ps'[k]?=some c'→∃ c i',ps[k]?=some c∧snap hp d c=some (c',i')∧∀ x ∈ i',x ∈ all:=by
  intro k c' hk
  have hk':=cN hk
  have hk1:k<ps.length:=by omega
  obtain⟨c2,i',e1,e2,e3⟩:=h2 k _ (List.getElem?_eq_getElem hk1)
  rw[hk] at e1;cases e1
  exact⟨_,i',List.getElem?_eq_getElem hk1,e2,fun x hx=>hi x (e3 x hx)⟩
 refine⟨⟨by rw[hl];exact hv.1,fun k c' v hk hvk => ?_⟩,mU (fun k c' hk => ?_)⟩
 ·obtain⟨c,i',e1,e2,e3⟩:=key k c' hk
  exact (oS S d e2 e3 (hv.2 k c v e1 hvk)).1
 ·obtain⟨c,i',e1,e2,e3⟩:=key k c' hk
  have hk1:=cN e1
  have hk2:k<vs.length:=by rw[← hv.1];exact hk1
  exact (oS S d e2 e3 (hv.2 k c _ e1 (List.getElem?_eq_getElem hk2))).2
end
def BP:List Value→Value
 | [v]=>v
 | vs=>.tuple vs.toArray
def js (P:Program)(g:FuncId)(vs:Array Value)(w:World)(R:Value→World→Prop):Prop :=
 match (callFunc g vs).run P w with
 | .ok (.value v) w'=>R v w'
 | .ok (.enter f args) w'=>Calls P f args w' fun e w''=>∃ v,e = .returned v∧R v w''
 | _=>False
theorem js.mono {P:Program}{g:FuncId}{vs:Array Value}{w:World}{R R':Value→World→Prop}(h:js P g vs w R)(hr:∀ v w',R v w'→R' v w'):js P g vs w R':=by
 unfold js at *
 split
 ·rename_i e;rw[e] at h;exact hr _ _ h
 ·rename_i e;rw[e] at h;exact h.mono fun e w'' ⟨v,h1,h2⟩=>⟨v,h1,hr _ _ h2⟩
 ·rename_i h1 h2
  split at h
  ·rename_i e;exact (h1 _ _ e).elim
  ·rename_i e;exact (h2 _ _ _ e).elim
  ·exact h
section
variable {P:Program} {T:Tab} {w:World} {H:Nat→Prop} {hp:Θ} {σ:List Addr}
theorem Vs.one {M:Nat→Prop}{L:Nat→Prop}{p:PV}{v:Value}(h:Vs w M σ L [p] [v]):V w M σ L p v:=h.2 0 p v rfl rfl
theorem sS {M:Nat→Prop}{L:Nat→Prop}{rs:Ψ}{vs:List Value}(h:Vs w M σ L rs vs):V w M σ L (jm rs) (BP vs):=by
 have tup:V w M σ L (.tup rs) (.tuple vs.toArray):=.tup rs vs.toArray (by simpa using h.1) (fun k c v h1 h2=>h.2 k c v h1 (by simpa using h2))
 match rs,vs,h with
 | [],[],h=>exact tup
 | [r],[v],h=>exact h.one
 | _::_::_,_::_::_,h=>exact tup
 | [],_::_,h=>simp[Vs] at h
 | _::_,[],h=>simp[Vs] at h
 | [_],_::_::_,h=>simp[Vs] at h
 | _::_::_,[_],h=>simp[Vs] at h
theorem DH {cs:Ψ}(h:qV cs=true){k:Nat}{c:PV}(hk:cs[k]?=some c):∃ v,c = .sc v:=by
 induction cs generalizing k with
 | nil=>simp at hk
 | cons d cs ih =>
  cases d with
  | sc v =>
   simp only[qV] at h
   cases k with
   | zero=>simp at hk;exact⟨v,hk.symm⟩
   | succ k=>simp at hk;exact ih h hk
  | _=>simp[qV] at h
theorem zV {w':World}{M M':Nat→Prop}{L L':Nat→Prop}{σ':List Addr}{p:PV}{v:Value}(h:eh p=true)(hv:V w M σ L p v):V w' M' σ' L' p v:=by
 cases hv with
 | sc v=>exact .sc v
 | agg cs vs h1 h2 =>
  refine .agg cs vs h1 (fun k c v hk hv => ?_)
  obtain⟨u,rfl⟩:=DH h hk
  have:=(h2 k _ v hk hv).lv
  subst this;exact .sc _
 | _=>simp[eh] at h
theorem nS:∀ (ids:Ω) (hp:Θ),(roB hp ids).length=hp.length∧(∀ i,aV (roB hp ids) i→aV hp i∧i ∉ ids)∧(∀ i,jh (roB hp ids) i→jh hp i)
 | [],hp=>⟨rfl,fun i h=>⟨h,by simp⟩,fun _ h=>h⟩
 | id::ids,hp=>by
  simp only[roB,cV]
  split
  ·rename_i cs hb
   rw[jt]
   obtain⟨h1,h2,hm⟩:=nS ids (hp.set id ⟨.ro,cs⟩)
   refine⟨by rw[h1];simp,fun i hi => ?_,fun i hi=>by
    obtain⟨ds,hd⟩:=hm i hi
    by_cases e:id=i
    ·subst e;rw[getElem?_set_self (cN hb)] at hd;cases hd
    ·rw[getElem?_set_ne e] at hd;exact⟨ds,hd⟩⟩
   obtain⟨h3,h4⟩:=h2 i hi
   have h5:=pZ (b:=⟨.ro,cs⟩) (fun e=>by cases e) h3
   refine⟨h5,fun hm => ?_⟩
   rcases mem_cons.1 hm with e | e
   ·subst e
    obtain⟨ds,hd⟩:=h3
    rw[getElem?_set_self (cN hb)] at hd
    cases hd
   ·exact h4 e
  ·rename_i hb
   obtain⟨h1,h2,hmm⟩:=nS ids hp
   refine⟨h1,fun i hi => ?_,hmm⟩
   obtain⟨h3,h4⟩:=h2 i hi
   refine⟨h3,fun hm => ?_⟩
   rcases mem_cons.1 hm with e | e
   ·subst e
    obtain⟨ds,hd⟩:=h3
    exact hb ds hd
   ·exact h4 e
theorem Hc:∀ (ids:Ω) {hp:Θ},Sim w H σ hp→Sim w H σ (roB hp ids)∧Step w (cQ σ hp) σ (aV hp) w (cQ σ (roB hp ids)) σ (aV (roB hp ids))
 | [],hp,S=>⟨S,Step.refl _ _ _ _⟩
 | id::ids,hp,S=>by
  simp only[roB,cV]
  split
  ·rename_i cs hb
   rw[jt]
   obtain⟨h1,h2⟩:=Dm (st':=.ro) (cs':=cs) S hb (.inr ⟨by simp,rfl,rfl⟩)
   obtain⟨h3,h4⟩:=Hc ids h1
   exact⟨h3,h2.trans h4⟩
  ·exact Hc ids S
structure Old (w w':World):Prop where
 os:w'.os=w.os
 tape:w'.tape=w.tape
 output:w'.output=w.output
 size:w.heap.size≤w'.heap.size
 same:∀ (b:Nat),b<w.heap.size→w'.heap[b]?=w.heap[b]?
theorem Old.shape {w w':World}(h:Old w w')(σ:List Addr)(L:Nat→Prop):Shape w σ w' L:=iL fun b c e f hb=>by
  have:b<w.heap.size:=by
   rcases Nat.lt_or_ge b w.heap.size with h' | h'
   ·exact h'
   ·simp[Array.getElem?_eq_none h'] at hb
  exact⟨c,by rw[h.same b this];exact hb,rfl⟩
theorem Old.step {w w':World}(h:Old w w')(M:Nat→Prop)(σ:List Addr)(L:Nat→Prop):Step w M σ L w' M σ L :=
 ⟨h.os,h.tape,h.output,h.size,fun _ _ h=>h,fun b hb _=>h.same b hb,h.shape _ _,fun _ _ h=>h,fun _ _ h=>h⟩
theorem BI {w w':World}(S:Sim w H σ hp)(h:Old w w'):Sim w' H σ hp :=
 ⟨S.len,fun i a ha=>Nat.lt_of_lt_of_le (S.spot i a ha) h.size,fun b hb=>Nat.lt_of_lt_of_le (S.foreign b hb) h.size,fun i s cs a hi hd ha k c hk=>by
  obtain⟨v,h1,h2⟩:=S.cells i s cs a hi hd ha k c hk
  exact⟨v,by rw[gj (w:=w) (w':=w') (a:=⟨a.block,a.off+k,none⟩) (h.same _ (S.spot i a ha))];exact h1,h2.step (h.step _ _ _)⟩,
 S.own,fun i a cs hi ha=>by
  obtain⟨c,e,h2,h3⟩:=S.live i a cs hi ha
  exact⟨c,e,by rw[h.same _ (S.spot i a ha)];exact h2,h3⟩,S.inj,fun i cs a hi ha=>by
  obtain⟨h1,es,ck,h2,h3⟩:=S.maps i cs a hi ha
  exact⟨h1,es,ck,by rw[h.same _ (S.spot i a ha)];exact h2,h3.step (h.step _ _ _)⟩,S.injm⟩
theorem La (hH:∀ b,H b→b<w.heap.size):Sim w H [] [] :=
 ⟨rfl,fun i a h=>by simp at h,hH,fun i s cs a h=>by simp at h,fun i s cs a h=>by simp at h,fun i a cs h=>by simp at h,fun i j a b s cs h=>by obtain⟨ds,hd⟩:=h;simp at hd,fun i cs a h=>by simp at h,fun i j a b h=>by obtain⟨ds,hd⟩:=h;simp at hd⟩
end
structure Fin (hp:Θ) (kept:Θ) (K F:Ω):Prop where
 len:kept.length=K.length
 blk:∀ (j:Nat) id,K[j]?=some id→∃ cs cs' ids,hp[id]?=some ⟨.live,cs⟩∧bw (snap hp bq) cs=some (cs',ids)∧(∀ x ∈ ids,x ∈ F)∧kept[j]?=some ⟨.live,cs'⟩
 nodup:K.Nodup
 apart:∀ x ∈ K,x ∉ F
theorem Fin.more {hp kept:Θ}{K F:Ω}(h:Fin hp kept K F){ids:Ω}(hi:∀ x ∈ ids,x ∉ K):Fin hp kept K (ids++F) :=
 ⟨h.len,fun j id hj=>by
  obtain⟨cs,cs',i',e1,e2,e3,e4⟩:=h.blk j id hj
  exact⟨cs,cs',i',e1,e2,fun x hx=>mem_append_right _ (e3 x hx),e4⟩,h.nodup,fun x hx hm=>by
  rcases mem_append.1 hm with hm | hm
  ·exact hi x hm hx
  ·exact h.apart x hx hm⟩
theorem Fin.snoc {hp kept:Θ}{K F:Ω}(h:Fin hp kept K F){id:Nat}{cs cs':Ψ}{ids:Ω}(hb:hp[id]?=some ⟨.live,cs⟩)(hs:bw (snap hp bq) cs=some (cs',ids))
  (h1:id ∉ K) (h2:id ∉ F) (h3:id ∉ ids) (h4:∀ x ∈ ids,x ∉ K):Fin hp (kept++[⟨.live,cs'⟩]) (K++[id]) (ids++F):=by
 refine⟨by simp[h.len],fun j i hj => ?_,?_,fun x hx hm => ?_⟩
 ·rcases dV hj with ⟨hlt,hj⟩| ⟨hlt,hj⟩
  ·obtain⟨ds,ds',i',e1,e2,e3,e4⟩:=h.blk j i hj
   exact⟨ds,ds',i',e1,e2,fun x hx=>mem_append_right _ (e3 x hx),by rw[getElem?_append_left (by rw[h.len];exact hlt)];exact e4⟩
  ·subst hj
   exact⟨cs,cs',ids,hb,hs,fun x hx=>mem_append_left _ hx,by rw[hlt,← h.len];simp⟩
 ·rw[nodup_append]
  exact⟨h.nodup,by simp,fun a ha b hb e=>by simp at hb;subst hb;subst e;exact h1 ha⟩
 ·rcases mem_append.1 hx with hx | hx
  ·rcases mem_append.1 hm with hm | hm
   ·exact h4 x hm hx
   ·exact h.apart x hx hm
  ·simp at hx;subst hx
   rcases mem_append.1 hm with hm | hm
   ·exact h3 hm
   ·exact h2 hm
theorem so {l m:Ω}(h:l.any m.contains=false):∀ x ∈ l,x ∉ m:=by
 intro x hx hm
 have:l.any m.contains=true:=any_eq_true.2 ⟨x,hx,by simpa using hm⟩
 rw[h] at this;cases this
def Hand (hp:Θ)(K F:Ω)(r r':PV):Prop :=
 (∃ id s off len x j,r = .own id s off len x∧r' = .own j s off len x∧K[j]?=some id)∨∃ ids,snap hp bq r=some (r',ids)∧∀ x ∈ ids,x ∈ F
theorem qi (hp:Θ):∀ (rs:Ψ) (kept:Θ) (K K0 F:Ω) (rs':Ψ) (kept':Θ),eN hp kept K F rs=some (rs',kept')→(∀ x,x ∈ K ↔ x ∈ K0)→Fin hp kept K0 F →
  ∃ K1 F1,Fin hp kept' (K0++K1) F1∧(∀ x ∈ F,x ∈ F1)∧rs'.length=rs.length∧∀ (k:Nat) r r',rs[k]?=some r→rs'[k]?=some r'→Hand hp (K0++K1) F1 r r'
 | [],kept,K,K0,F,rs',kept',h,_,hF=>by
  simp[eN] at h
  obtain⟨rfl,rfl⟩:=h
  exact⟨[],F,by simpa using hF,fun _ h=>h,rfl,fun k r r' h=>by simp at h⟩
 | r::rs,kept,K,K0,F,rs',kept',h,hK,hF=>by
  have other:∀ (r':PV) (ids:Ω) (rs2:Ψ),snap hp bq r=some (r',ids)→ids.any K.contains=false→eN hp kept K (ids++F) rs=some (rs2,kept')→rs'=r'::rs2 →
    ∃ K1 F1,Fin hp kept' (K0++K1) F1∧(∀ x ∈ F,x ∈ F1)∧rs'.length=(r::rs).length∧∀ (k:Nat) r1 r1',(r::rs)[k]?=some r1→rs'[k]?=some r1'→Hand hp (K0++K1) F1 r1 r1':=by
   intro r' ids rs2 hs ha hf e
   subst e
   obtain⟨K1,F1,g1,g2,g3,g4⟩:=qi hp rs kept K K0 (ids++F) rs2 kept' hf hK (hF.more (fun x hx hm=>so ha x hx ((hK x).2 hm)))
   refine⟨K1,F1,g1,fun x hx=>g2 x (mem_append_right _ hx),by simp[g3],fun k r1 r1' h1 h2 => ?_⟩
   cases k with
   | zero =>
    simp at h1 h2;subst h1;subst h2
    exact .inr ⟨ids,hs,fun x hx=>g2 x (mem_append_left _ hx)⟩
   | succ k=>simp at h1 h2;exact g4 k r1 r1' h1 h2
  have other':(match snap hp bq r with
    | some (r',ids)=>if ids.any K.contains then none else match eN hp kept K (ids++F) rs with
     | some (rs',k)=>some (r'::rs',k)
     | none=>none
    | none=>none)=some (rs',kept') →
    ∃ K1 F1,Fin hp kept' (K0++K1) F1∧(∀ x ∈ F,x ∈ F1)∧rs'.length=(r::rs).length∧∀ (k:Nat) r1 r1',(r::rs)[k]?=some r1→rs'[k]?=some r1'→Hand hp (K0++K1) F1 r1 r1':=by
   intro h
   split at h
   ·rename_i r' ids hs
    split at h
    ·cases h
    ·rename_i ha
     split at h
     ·rename_i rs2 k hf
      simp only[OiE,PiE] at h
      obtain⟨rfl,rfl⟩:=h
      exact other r' ids rs2 hs (by simpa using ha) hf rfl
     ·cases h
   ·cases h
  cases r with
  | own id s off len x =>
   simp only[eN,cV] at h
   split at h
   ·rename_i cs hb
    split at h
    ·rename_i cs' ids hs
     split at h
     ·cases h
     ·rename_i hc
      split at h
      ·rename_i rs2 k hf
       simp only[OiE,PiE] at h
       obtain⟨rfl,rfl⟩:=h
       simp only[Bool.or_eq_true,not_or,Bool.not_eq_true] at hc
       obtain⟨⟨⟨c1,c2⟩,c3⟩,c4⟩:=hc
       have n1:id ∉ K0:=fun hm=>by
        have:K.contains id=true:=by simpa using (hK id).2 hm
        rw[c1] at this;cases this
       have n2:id ∉ F:=fun hm=>by
        have:F.contains id=true:=by simpa using hm
        rw[c2] at this;cases this
       have n3:id ∉ ids:=fun hm=>by
        have:ids.contains id=true:=by simpa using hm
        rw[c3] at this;cases this
       have n4:∀ x ∈ ids,x ∉ K0:=fun x hx hm=>so c4 x hx ((hK x).2 hm)
       obtain⟨K1,F1,g1,g2,g3,g4⟩:=qi hp rs _ (id::K) (K0++[id]) (ids++F) rs2 k hf (fun x=>by simp[hK x];exact or_comm) (hF.snoc hb hs n1 n2 n3 n4)
       have e:K0++[id]++K1=K0++(id::K1):=by simp
       rw[e] at g1 g4
       refine⟨id::K1,F1,g1,fun x hx=>g2 x (mem_append_right _ hx),by simp[g3],fun k r1 r1' h1 h2 => ?_⟩
       cases k with
       | zero =>
        simp at h1 h2;subst h1;subst h2
        exact .inl ⟨id,s,off,len,x,kept.length,rfl,rfl,by rw[hF.len];simp⟩
       | succ k=>simp at h1 h2;exact g4 k r1 r1' h1 h2
      ·cases h
    ·cases h
   ·exact other' h
  | _ =>
   simp only[eN] at h
   exact other' h
section
variable {w:World} {H:Nat→Prop} {hp:Θ} {σ:List Addr}
theorem Wv (S:Sim w H σ hp){kept:Θ}{K F:Ω}(hF:Fin hp kept K F):∃ σk,Sim w H σk kept∧(∀ (j:Nat) id,K[j]?=some id→σk[j]?=σ[id]?)∧(∀ b,cQ σk kept b→cQ σ hp b) ∧
  (∀ b,hot H σk kept b→but H σ hp F b):=by
 have hid:∀ (j:Nat) id,K[j]?=some id→∃ a,σ[id]?=some a∧aV hp id:=by
  intro j id hj
  obtain⟨cs,cs',ids,e1,_⟩:=hF.blk j id hj
  have hlt:=cN e1
  rw[← S.len] at hlt
  exact⟨σ[id],List.getElem?_eq_getElem hlt,cs,e1⟩
 let σk:List Addr:=K.map fun id=>(σ[id]?).getD ⟨0,0,none⟩
 have hσ:∀ (j:Nat) id,K[j]?=some id→σk[j]?=σ[id]?:=by
  intro j id hj
  obtain⟨a,ha,_⟩:=hid j id hj
  simp[σk,hj,ha]
 have hσ':∀ (j:Nat) a,σk[j]?=some a→∃ id,K[j]?=some id∧σ[id]?=some a∧aV hp id:=by
  intro j a ha
  have hlt:=cN ha
  simp[σk] at hlt
  have hj:K[j]?=some K[j]:=List.getElem?_eq_getElem hlt
  obtain⟨a',ha',hl⟩:=hid j _ hj
  rw[hσ j _ hj,ha'] at ha
  cases ha
  exact⟨_,hj,ha',hl⟩
 have hown:∀ b,cQ σk kept b→∃ i a,aV hp i∧i ∈ K∧σ[i]?=some a∧a.block=b:=by
  rintro b ⟨j,a,h1,h2,h3⟩
  obtain⟨id,k1,k2,k3⟩:=hσ' j a h2
  exact⟨id,a,k3,mem_of_getElem? k1,k2,h3⟩
 have hbut:∀ b,hot H σk kept b→but H σ hp F b:=by
  rintro b (h | h)
  ·exact .inl h
  ·obtain⟨i,a,h1,h2,h3,h4⟩:=hown b h
   exact .inr ⟨i,a,.inl ⟨h1,hF.apart i h2⟩,h3,h4⟩
 have cellV:∀ (j:Nat) id cs cs' ids a,K[j]?=some id→hp[id]?=some ⟨.live,cs⟩→bw (snap hp bq) cs=some (cs',ids)→(∀ x ∈ ids,x ∈ F)→σ[id]?=some a→∀ (k:Nat) c,cs'[k]?=some c →
   ∃ v,w.cell? ⟨a.block,a.off+k,none⟩=some v∧V w (hot H σk kept) σk (aV kept) c v:=by
  intro j id cs cs' ids a hj hb hs hi ha k c hk
  obtain⟨hl,h2⟩:=fb hs
  have hk1:k<cs.length:=by have:=cN hk;omega
  obtain⟨c',i',e1,e2,e3⟩:=h2 k _ (List.getElem?_eq_getElem hk1)
  rw[hk] at e1;cases e1
  obtain⟨v,g1,g2⟩:=S.cells id .live cs a hb (by simp) ha k _ (List.getElem?_eq_getElem hk1)
  obtain⟨r1,r2⟩:=oS S bq e2 (fun x hx=>hi x (e3 x hx)) g2
  exact⟨v,g1,r1.idf (fun b _ hb=>hbut b hb) r2⟩
 have nomap:∀ {i:Nat} {cs:Ψ} {a:Addr},kept[i]?=some ⟨.dead,.any::cs⟩→σk[i]?=some a→False:=by
  intro i cs a hi ha
  obtain⟨id,k1,k2,k3⟩:=hσ' i a ha
  obtain⟨ds,ds',ids,e1,e2,e3,e4⟩:=hF.blk i id k1
  rw[hi] at e4;cases e4
 refine⟨σk,⟨?_,fun j a ha => ?_,S.foreign,fun j st cs a hj hd ha k c hk => ?_,fun j st cs a hj hd ha => ?_,fun j a cs hj ha => ?_,fun i j a b st cs hi hj hd hne ha hb => ?_,fun i cs a hi ha=>(nomap hi ha).elim,fun i j a b hi hj hne ha hb=>by obtain⟨ds,hi⟩:=hi;exact (nomap hi ha).elim⟩,hσ,fun b hb => ?_,hbut⟩
 ·simp[σk,hF.len]
 ·obtain⟨id,k1,k2,k3⟩:=hσ' j a ha;exact S.spot id a k2
 ·obtain⟨id,k1,k2,k3⟩:=hσ' j a ha
  obtain⟨ds,ds',ids,e1,e2,e3,e4⟩:=hF.blk j id k1
  rw[hj] at e4;cases e4
  exact cellV j id ds cs ids a k1 e1 e2 e3 k2 k c hk
 ·obtain⟨id,k1,k2,ds,k3⟩:=hσ' j a ha
  exact S.own id .live ds a k3 (by simp) k2
 ·obtain⟨id,k1,k2,k3⟩:=hσ' j a ha
  obtain⟨ds,ds',ids,e1,e2,e3,e4⟩:=hF.blk j id k1
  rw[hj] at e4;cases e4
  obtain⟨c,e,h1,h2⟩:=S.live id a ds e1 k2
  exact⟨c,e,h1,by rw[(fb e2).1];exact h2⟩
 ·obtain⟨id1,k1,k2,k3⟩:=hσ' i a ha
  obtain⟨id2,l1,l2,ds,l3⟩:=hσ' j b hb
  refine S.inj id1 id2 a b .live ds k3 l3 (by simp) (fun e => ?_) k2 l2
  subst e
  have h1:=cN k1
  have h2:=cN l1
  have e1:K[i]=id1:=by rw[List.getElem?_eq_getElem h1] at k1;simpa using k1
  have e2:K[j]=id1:=by rw[List.getElem?_eq_getElem h2] at l1;simpa using l1
  exact hne ((getElem_inj hF.nodup).1 (e1.trans e2.symm))
 ·obtain⟨i,a,h1,h2,h3,h4⟩:=hown b hb
  exact⟨i,a,.inl h1,h3,h4⟩
theorem nN (hp:Θ):∀ (d:Nat) {p p':PV} {ids:Ω},snap hp d p=some (p',ids)→p'.cH=true
 | 0,p,p',ids,h=>by simp[snap] at h
 | d+1,p,p',ids,h=>by
  have list:∀ {cs l:Ψ} {ids:Ω},bw (snap hp d) cs=some (l,ids)→bV l=true:=by
   intro cs l ids hm
   obtain⟨h1,h2⟩:=fb hm
   refine mU (fun k c hk => ?_)
   have hk1:k<cs.length:=by have:=cN hk;omega
   obtain⟨c',i',e1,e2,_⟩:=h2 k _ (List.getElem?_eq_getElem hk1)
   rw[hk] at e1;cases e1
   exact nN hp d e2
  cases p with
  | own id s off len x =>
   simp only[snap,cV] at h
   split at h
   ·split at h
    ·cases h
    ·split at h
     ·split at h
      ·simp only[OiE,PiE] at h
       obtain⟨rfl,_⟩:=h;rfl
      ·cases h
     ·cases h
   ·cases h
  | agg cs =>
   simp only[snap] at h
   split at h
   ·rename_i hm
    simp only[OiE,PiE] at h
    obtain⟨rfl,_⟩:=h
    simp only[PV.cH]
    exact list hm
   ·cases h
  | clos f caps =>
   simp only[snap] at h
   split at h
   ·rename_i hf
    simp only[OiE,PiE] at h
    obtain⟨rfl,_⟩:=h
    simp only[PV.cH];exact hf
   ·cases h
  | ptr=>simp[snap] at h
  | mp=>simp[snap] at h
  | bmet=>simp[snap] at h
  | tup=>simp[snap] at h
  | any=>simp only[snap,OiE,PiE] at h;obtain⟨rfl,_⟩:=h;rfl
  | sc v=>simp only[snap,OiE,PiE] at h;obtain⟨rfl,_⟩:=h;rfl
  | imm=>simp only[snap,OiE,PiE] at h;obtain⟨rfl,_⟩:=h;rfl
  | iptr=>simp only[snap,OiE,PiE] at h;obtain⟨rfl,_⟩:=h;rfl
theorem A4 (S:Sim w H σ hp){rs rs':Ψ}{kept:Θ}{vs:List Value}(h:eN hp [] [] [] rs=some (rs',kept))(hv:Vs w (hot H σ hp) σ (aV hp) rs vs) :
  ∃ σk,Sim w H σk kept∧Vs w (hot H σk kept) σk (aV kept) rs' vs∧(∀ b,cQ σk kept b→cQ σ hp b)∧(∀ (k:Nat) r,rs'[k]?=some r→r.cH=true∨∃ id s off len x,r = .own id s off len x)∧∀ (i:Nat) b,kept[i]?=some b→b.st = .live∧bV b.cs=true:=by
 obtain⟨K1,F1,g1,g2,g3,g4⟩:=qi hp rs [] [] [] [] rs' kept h (fun x=>Iff.rfl) ⟨rfl,fun j id h=>by simp at h,by simp,fun x h=>by simp at h⟩
 simp only[nil_append] at g1 g4
 obtain⟨σk,h1,h2,h3,h4⟩:=Wv S g1
 have key:∀ (k:Nat) r' ,rs'[k]?=some r'→∃ r v,rs[k]?=some r∧vs[k]?=some v∧Hand hp K1 F1 r r'∧V w (hot H σ hp) σ (aV hp) r v:=by
  intro k r' hk
  have hk1:k<rs.length:=by have:=cN hk;omega
  have hk2:k<vs.length:=by have:=hv.1;omega
  exact⟨_,_,List.getElem?_eq_getElem hk1,List.getElem?_eq_getElem hk2,g4 k _ r' (List.getElem?_eq_getElem hk1) hk,hv.2 k _ _ (List.getElem?_eq_getElem hk1) (List.getElem?_eq_getElem hk2)⟩
 refine⟨σk,h1,⟨by rw[g3];exact hv.1,fun k r' v hk hvk => ?_⟩,h3,fun k r' hk => ?_,fun i b hb => ?_⟩
 ·obtain⟨r,v',e1,e2,e3,e4⟩:=key k r' hk
  rw[hvk] at e2;cases e2
  rcases e3 with ⟨id,s,off,len,x,j,rfl,rfl,hj⟩| ⟨ids,hs,hi⟩
  ·cases e4 with
   | own _ _ _ _ _ a b cap q1 q2 q3 q4 q5 =>
    refine .own j s off len x a b cap (by rw[h2 j id hj];exact q1) q2 q3 q4 (fun _=>q5 ?_)
    obtain⟨cs,cs',ids,f1,_⟩:=g1.blk j id hj
    exact⟨cs,f1⟩
  ·obtain⟨r1,r2⟩:=oS S bq hs hi e4
   exact r1.idf (fun b _ hb=>h4 b hb) r2
 ·obtain⟨r,v',e1,e2,e3,e4⟩:=key k r' hk
  rcases e3 with ⟨id,s,off,len,x,j,rfl,rfl,hj⟩| ⟨ids,hs,hi⟩
  ·exact .inr ⟨j,s,off,len,x,rfl⟩
  ·exact .inl (oS S bq hs hi e4).2
 ·have hi:i<K1.length:=by rw[← g1.len];exact cN hb
  obtain⟨cs,cs',ids,e1,e2,e3,e4⟩:=g1.blk i _ (List.getElem?_eq_getElem hi)
  rw[hb] at e4;cases e4
  refine⟨rfl,mU (fun k c hk => ?_)⟩
  obtain⟨q1,q2⟩:=fb e2
  have hk1:k<cs.length:=by have:k<cs'.length:=cN hk;omega
  obtain⟨c',i',f1,f2,_⟩:=q2 k _ (List.getElem?_eq_getElem hk1)
  rw[hk] at f1;cases f1
  exact nN hp _ f2
theorem Sf {w':World}{H':Nat→Prop}{σk:List Addr}{kept:Θ}(S:Sim w H σ hp)(ho:Old w w')(Sk:Sim w' H' σk kept)(hH:∀ b,hot H σ hp b→H' b)
  (hnew:∀ b,cQ σk kept b→w.heap.size≤b) (hkl:∀ (i:Nat) b,kept[i]?=some b→b.st = .live) (hidf:∀ (i:Nat) b,kept[i]?=some b→bV b.cs=true) :
  Sim w' H (σ++σk) (hp++kept)∧Step w (cQ σ hp) σ (aV hp) w' (cQ (σ++σk) (hp++kept)) (σ++σk) (aV (hp++kept))∧(∀ b,hot H (σ++σk) (hp++kept) b→hot H' σk kept b):=by
 have hget:∀ {i:Nat} {a:Addr},(σ++σk)[i]?=some a→(i<hp.length∧σ[i]?=some a)∨(hp.length≤i∧σk[i - hp.length]?=some a):=by
  intro i a h
  rcases Nat.lt_or_ge i hp.length with h' | h'
  ·rw[getElem?_append_left (by rw[S.len];exact h')] at h;exact .inl ⟨h',h⟩
  ·rw[getElem?_append_right (by rw[S.len];exact h'),S.len] at h;exact .inr ⟨h',h⟩
 have hblk:∀ {i:Nat} {b:Blk},(hp++kept)[i]?=some b→(i<hp.length∧hp[i]?=some b)∨(hp.length≤i∧kept[i - hp.length]?=some b):=by
  intro i b h
  rcases Nat.lt_or_ge i hp.length with h' | h'
  ·rw[getElem?_append_left h'] at h;exact .inl ⟨h',h⟩
  ·rw[getElem?_append_right h'] at h;exact .inr ⟨h',h⟩
 have hlv:∀ {i:Nat},aV (hp++kept) i→(i<hp.length∧aV hp i)∨(hp.length≤i∧aV kept (i - hp.length)):=by
  rintro i ⟨cs,h⟩
  rcases hblk h with ⟨h1,h2⟩| ⟨h1,h2⟩
  ·exact .inl ⟨h1,cs,h2⟩
  ·exact .inr ⟨h1,cs,h2⟩
 have hmp:∀ {i:Nat},jh (hp++kept) i→i<hp.length∧jh hp i:=by
  rintro i ⟨cs,h⟩
  rcases hblk h with ⟨h1,h2⟩| ⟨h1,h2⟩
  ·exact⟨h1,cs,h2⟩
  ·have:=hkl _ _ h2;cases this
 have hov:∀ {i:Nat},xD (hp++kept) i→(i<hp.length∧xD hp i)∨(hp.length≤i∧xD kept (i - hp.length)):=by
  rintro i (h | h)
  ·exact (hlv h).imp (fun h=>⟨h.1,.inl h.2⟩) (fun h=>⟨h.1,.inl h.2⟩)
  ·exact .inl ⟨(hmp h).1,.inr (hmp h).2⟩
 have kown:∀ {i:Nat} {a:Addr} {b:Blk},kept[i]?=some b→σk[i]?=some a→cQ σk kept a.block:=by
  intro i a b h1 h2
  refine⟨i,a,.inl ⟨b.cs,?_⟩,h2,rfl⟩
  rw[h1]
  have:=hkl i b h1
  cases b;simp at this;simp[this]
 have hown:∀ b,cQ (σ++σk) (hp++kept) b→cQ σ hp b∨cQ σk kept b:=by
  rintro b ⟨i,a,h1,h2,h3⟩
  rcases hov h1 with ⟨l1,h1⟩| ⟨l1,h1⟩ <;> rcases hget h2 with ⟨l2,h2⟩| ⟨l2,h2⟩
  ·exact .inl ⟨i,a,h1,h2,h3⟩
  ·omega
  ·omega
  ·exact .inr ⟨_,a,h1,h2,h3⟩
 have hhot:∀ b,hot H (σ++σk) (hp++kept) b→hot H' σk kept b:=by
  rintro b (h | h)
  ·exact .inl (hH b (.inl h))
  ·rcases hown b h with h | h
   ·exact .inl (hH b (.inr h))
   ·exact .inr h
 have st0:=ho.step (cQ σ hp) σ (aV hp)
 have st:Step w (cQ σ hp) σ (aV hp) w' (cQ (σ++σk) (hp++kept)) (σ++σk) (aV (hp++kept)):=by
  refine⟨st0.os,st0.tape,st0.output,st0.size,fun i a ha => ?_,fun b hb _=>ho.same b hb,ho.shape _ _,fun b hb hm => ?_,fun i hi hm => ?_⟩
  ·rw[getElem?_append_left (cN ha)];exact ha
  ·rcases hown b hm with h | h
   ·exact h
   ·have:=hnew b h;omega
  ·rcases hlv hm with ⟨_,h⟩| ⟨h,_⟩
   ·exact h
   ·rw[S.len] at hi;omega
 refine⟨⟨by simp[S.len,Sk.len],fun i a ha => ?_,fun b hb=>Nat.lt_of_lt_of_le (S.foreign b hb) ho.size,fun i s cs a hi hd ha k c hk => ?_,fun i s cs a hi hd ha => ?_,fun i a cs hi ha => ?_,fun i j a b s cs hi hj hd hne ha hb => ?_,fun i cs a hi ha => ?_,fun i j a b hi hj hne ha hb => ?_⟩,st,hhot⟩
 ·rcases hget ha with ⟨_,h⟩| ⟨_,h⟩
  ·exact Nat.lt_of_lt_of_le (S.spot i a h) ho.size
  ·exact Sk.spot _ a h
 ·rcases hblk hi with ⟨l1,hi⟩| ⟨l1,hi⟩ <;> rcases hget ha with ⟨l2,ha⟩| ⟨l2,ha⟩
  ·obtain⟨v,h1,h2⟩:=S.cells i s cs a hi hd ha k c hk
   exact⟨v,by rw[gj (w:=w) (w':=w') (a:=⟨a.block,a.off+k,none⟩) (ho.same _ (S.spot i a ha))];exact h1,h2.step st⟩
  ·omega
  ·omega
  ·obtain⟨v,h1,h2⟩:=Sk.cells _ s cs a hi hd ha k c hk
   exact⟨v,h1,h2.idf (fun b _ hb=>hhot b hb) (eH (hidf _ _ hi) hk)⟩
 ·rcases hblk hi with ⟨l1,hi⟩| ⟨l1,hi⟩ <;> rcases hget ha with ⟨l2,ha⟩| ⟨l2,ha⟩
  ·exact S.own i s cs a hi hd ha
  ·omega
  ·omega
  ·intro hh
   have h1:=hnew _ (kown hi ha)
   have h2:=S.foreign _ hh
   omega
 ·rcases hblk hi with ⟨l1,hi⟩| ⟨l1,hi⟩ <;> rcases hget ha with ⟨l2,ha⟩| ⟨l2,ha⟩
  ·obtain⟨c,e,h1,h2⟩:=S.live i a cs hi ha
   exact⟨c,e,by rw[ho.same _ (S.spot i a ha)];exact h1,h2⟩
  ·omega
  ·omega
  ·exact Sk.live _ a cs hi ha
 ·rcases hlv hi with ⟨l1,hi⟩| ⟨l1,hi⟩ <;> rcases hget ha with ⟨l2,ha⟩| ⟨l2,ha⟩ <;> rcases hblk hj with ⟨l3,hj⟩| ⟨l3,hj⟩ <;> rcases hget hb with ⟨l4,hb⟩| ⟨l4,hb⟩ <;> first | omega | skip
  ·exact S.inj i j a b s cs hi hj hd hne ha hb
  ·have h1:=S.spot i a ha
   have h2:=hnew _ (kown hj hb)
   omega
  ·obtain⟨ds,hi⟩:=hi
   have h1:=S.spot j b hb
   have h2:=hnew _ (kown hi ha)
   omega
  ·exact Sk.inj _ _ a b s cs hi hj hd (by omega) ha hb
 ·obtain⟨l1,_⟩:=hmp ⟨cs,hi⟩
  rcases hblk hi with ⟨_,hi⟩| ⟨l2,_⟩
  ·rcases hget ha with ⟨_,ha⟩| ⟨l2,_⟩
   ·obtain⟨h1,es,ck,h2,h3⟩:=S.maps i cs a hi ha
    exact⟨h1,es,ck,by rw[ho.same _ (S.spot i a ha)];exact h2,h3.step st⟩
   ·omega
  ·omega
 ·obtain⟨l1,hi⟩:=hmp hi
  obtain⟨l2,hj⟩:=hmp hj
  rcases hget ha with ⟨_,ha⟩| ⟨l3,_⟩
  ·rcases hget hb with ⟨_,hb⟩| ⟨l3,_⟩
   ·exact S.injm i j a b hi hj hne ha hb
   ·omega
  ·omega
end
end Go.Ab
