/- An abstract interpreter over the model's code and its soundness, part 5; each lemma states its conditions. -/
import Derived.Test.YtjdmodeenbdfpaaGreatU04
import Derived.Deep.Upon
import Derived.MapKept
import Derived.WideKeyRuns
set_option linter.unusedSimpArgs false
set_option linter.unusedVariables false
namespace Go.Ab
open Go List
section
variable {P:Program} {T:Tab} (hT:gh P T) {w:World} {H:Nat→Prop} {hp:Θ} {σ:List Addr}
theorem GX (S:Sim w H σ hp){id off:Nat}{a:Addr}{cs l:Ψ}(hid:hp[id]?=some ⟨.live,cs⟩)(ha:σ[id]?=some a)
  (hfit:∃ (c:Array Value) (e:TypeId),w.heap[a.block]?=some (Obj.cells c e (0,0))∧a.off+off+l.length≤c.size)
  (hl:∀ (k:Nat) c,l[k]?=some c→∃ v,w.cell? ⟨a.block,a.off+off+k,none⟩=some v∧V w (hot H σ hp) σ (aQ hp) c v) :
  let σ':=σ++[⟨a.block,a.off+off,none⟩]
  let hp':=hp.set id ⟨.dead,[]⟩++[⟨.live,l⟩]
  Sim w H σ' hp'∧Step w (cS σ hp) σ (aQ hp) w (cS σ' hp') σ' (aQ hp'):=by
 intro σ' hp'
 have hlt:id<hp.length:=cO hid
 have hlen:(hp.set id ⟨.dead,[]⟩).length=σ.length:=by simp[S.len]
 have hliveid:aQ hp id:=⟨cs,hid⟩
 have hhotid:cS σ hp a.block:=⟨id,a,.inl hliveid,ha,rfl⟩
 have hlv:∀ {i:Nat},i<σ.length→aQ hp' i→aQ hp i∧id≠i:=by
  rintro i hi ⟨ds,hd⟩
  rw[getElem?_append_left (by rw[hlen];exact hi)] at hd
  by_cases e:id=i
  ·subst e;rw[getElem?_set_self hlt] at hd;cases hd
  ·rw[getElem?_set_ne e] at hd;exact⟨⟨ds,hd⟩,e⟩
 have hget:∀ {i:Nat} {b:Addr},σ'[i]?=some b→(i<σ.length∧σ[i]?=some b)∨(i=σ.length∧b=⟨a.block,a.off+off,none⟩):=fun h=>dS h
 have hmp:∀ {i:Nat} {ds:Ψ},hp'[i]?=some ⟨.dead,.any::ds⟩→i<σ.length∧hp[i]?=some ⟨.dead,.any::ds⟩:=by
  intro i ds h
  rcases dS h with ⟨hi,h⟩| ⟨hi,h⟩
  ·rw[hlen] at hi
   by_cases e:id=i
   ·subst e;rw[getElem?_set_self hlt] at h;cases h
   ·rw[getElem?_set_ne e] at h;exact⟨hi,h⟩
  ·cases h
 have hhot:∀ b,cS σ' hp' b→cS σ hp b:=by
  rintro b ⟨i,a',h1,h2,h3⟩
  rcases hget h2 with ⟨hi,h2⟩| ⟨hi,h2⟩
  ·refine⟨i,a',?_,h2,h3⟩
   rcases h1 with h1 | ⟨ds,h1⟩
   ·exact .inl (hlv hi h1).1
   ·exact .inr ⟨ds,(hmp h1).2⟩
  ·subst h2;simp at h3;rw[← h3];exact hhotid
 have st:Step w (cS σ hp) σ (aQ hp) w (cS σ' hp') σ' (aQ hp') :=
  ⟨rfl,rfl,rfl,Nat.le_refl _,fun i b h=>by
   show (σ++[_])[i]?=_
   rw[getElem?_append_left (cO h)];exact h,fun _ _ _=>rfl,ir fun _ c _ _ h=>⟨c,h,rfl⟩,fun b _ hm=>hhot b hm,fun i hi hm=>(hlv hi hm).1⟩
 have hblk:∀ {i:Nat} {s:BSt} {ds:Ψ},hp'[i]?=some ⟨s,ds⟩→s ≠ .dead→(i<σ.length∧id≠i∧hp[i]?=some ⟨s,ds⟩)∨(i=σ.length∧s = .live∧ds=l):=by
  intro i s ds h hd
  rcases dS h with ⟨hi,h⟩| ⟨hi,h⟩
  ·rw[hlen] at hi
   by_cases e:id=i
   ·subst e;rw[getElem?_set_self hlt] at h;cases h;exact absurd rfl hd
   ·rw[getElem?_set_ne e] at h;exact .inl ⟨hi,e,h⟩
  ·rw[hlen] at hi;cases h;exact .inr ⟨hi,rfl,rfl⟩
 refine⟨⟨?_,fun i b h => ?_,S.foreign,fun i s ds b hi hd hb k c hk => ?_,fun i s ds b hi hd hb => ?_,fun i b ds hi hb => ?_,fun i j b1 b2 s ds hi hj hd hne h1 h2 => ?_,fun i ds b hi hb => ?_,fun i j b1 b2 hi hj hne h1 h2 => ?_⟩,st⟩
 ·show (σ++[_]).length=(hp.set id ⟨.dead,[]⟩++[_]).length
  simp[S.len]
 ·rcases hget h with ⟨_,h⟩| ⟨_,h⟩
  ·exact S.spot i b h
  ·subst h;exact S.spot id a ha
 ·rcases hblk hi hd with ⟨h1,h2,h3⟩| ⟨h1,h2,h3⟩
  ·rcases hget hb with ⟨_,hb⟩| ⟨h4,_⟩
   ·obtain⟨v,g1,g2⟩:=S.cells i s ds b h3 hd hb k c hk
    exact⟨v,g1,g2.step st⟩
   ·omega
  ·rcases hget hb with ⟨h4,_⟩| ⟨_,hb⟩
   ·omega
   ·subst hb;subst h3
    obtain⟨v,g1,g2⟩:=hl k c hk
    exact⟨v,g1,g2.step st⟩
 ·rcases hblk hi hd with ⟨h1,h2,h3⟩| ⟨h1,h2,h3⟩
  ·rcases hget hb with ⟨_,hb⟩| ⟨h4,_⟩
   ·exact S.own i s ds b h3 hd hb
   ·omega
  ·rcases hget hb with ⟨h4,_⟩| ⟨_,hb⟩
   ·omega
   ·subst hb
    exact S.own id .live cs a hid (by simp) ha
 ·rcases hblk hi (by simp) with ⟨h1,h2,h3⟩| ⟨h1,h2,h3⟩
  ·rcases hget hb with ⟨_,hb⟩| ⟨h4,_⟩
   ·exact S.live i b ds h3 hb
   ·omega
  ·rcases hget hb with ⟨h4,_⟩| ⟨_,hb⟩
   ·omega
   ·subst hb;subst h3
    obtain⟨c,e,hc,hs⟩:=hfit
    exact⟨c,e,hc,hs⟩
 ·obtain⟨ds',hi⟩:=hi
  rcases hblk hi (by simp) with ⟨i1,i2,i3⟩| ⟨i1,i2,i3⟩ <;> rcases hblk hj hd with ⟨j1,j2,j3⟩| ⟨j1,j2,j3⟩
  ·rcases hget h1 with ⟨_,h1⟩| ⟨h4,_⟩
   ·rcases hget h2 with ⟨_,h2⟩| ⟨h4,_⟩
    ·exact S.inj i j b1 b2 s ds ⟨_,i3⟩ j3 hd hne h1 h2
    ·omega
   ·omega
  ·rcases hget h1 with ⟨_,h1⟩| ⟨h4,_⟩
   ·rcases hget h2 with ⟨h4,_⟩| ⟨_,h2⟩
    ·omega
    ·subst h2
     exact S.inj i id b1 a .live cs ⟨_,i3⟩ hid (by simp) (Ne.symm i2) h1 ha
   ·omega
  ·rcases hget h1 with ⟨h4,_⟩| ⟨_,h1⟩
   ·omega
   ·subst h1
    rcases hget h2 with ⟨_,h2⟩| ⟨h4,_⟩
    ·exact S.inj id j a b2 s ds hliveid j3 hd j2 ha h2
    ·omega
  ·omega
 ·obtain⟨hi1,hi2⟩:=hmp hi
  rcases hget hb with ⟨_,hb⟩| ⟨h4,_⟩
  ·obtain⟨h1,es,ck,h2,h3⟩:=S.maps i ds b hi2 hb
   exact⟨h1,es,ck,h2,h3.step st⟩
  ·omega
 ·obtain⟨ds1,hi⟩:=hi
  obtain⟨ds2,hj⟩:=hj
  obtain⟨hi1,hi2⟩:=hmp hi
  obtain⟨hj1,hj2⟩:=hmp hj
  rcases hget h1 with ⟨_,h1⟩| ⟨h4,_⟩
  ·rcases hget h2 with ⟨_,h2⟩| ⟨h4,_⟩
   ·exact S.injm i j b1 b2 ⟨_,hi2⟩ ⟨_,hj2⟩ hne h1 h2
   ·omega
  ·omega
theorem sF {t tx ty e:TypeId}{i:TypeInfo}(ht:P.underlying t=some (.slice e))(hi:P.info? e=some i){a:Addr}{sLen sCap:Nat}{x:Value}{n:Nat}{news:List Value}(hs:Src P i.size tx x n news w)
  (hroom:sLen+n≤sCap) {w':World} (hst:(storeCells (a.add (sLen*i.size)) news).run P w = .ok () w') :
  (Builtin.append_ #[t,tx] ty #[.slice (some a) sLen sCap,x]).run P w = .ok (.slice (some a) (sLen+n) sCap) w':=by
 rcases hs.kind with ⟨e',hk⟩| hk <;> simp[Builtin.append_,run_underlying ht,run_underlying hk,sizeOf,typeInfo,hi,hs.len,hroom,hs.cells,hst]
end
section
variable {P:Program} {T:Tab} (hT:gh P T) {w:World} {H:Nat→Prop} {hp:Θ} {σ:List Addr}
theorem At.CO {M:Nat→Prop}{L:Nat→Prop}{a:Addr}{cs:Ψ}(h:At w M σ L a cs):∃ vs:List Value,cs.length=vs.length∧(∀ j v,vs[j]?=some v→w.cell? (a.add j)=some v) ∧
  ∀ (k:Nat) c v,cs[k]?=some c→vs[k]?=some v→V w M σ L c v:=by
 obtain⟨g,hg⟩:=h
 refine⟨(List.range cs.length).map g,by simp,fun j v hj => ?_,fun k c v hk hv => ?_⟩
 ·have hj':=cO hj
  simp at hj'
  simp[hj'] at hj
  subst hj
  obtain⟨h1,h2,_⟩:=hg j _ (getElem?_eq_getElem hj')
  rw[gf h1];exact h2
 ·have hk':=cO hk
  simp[hk'] at hv
  subst hv
  exact (hg k c hk).2.2
theorem aes (S:Sim w H σ hp){tx e':TypeId}(hk:P.underlying tx=some (.slice e')){s:Nat}{p:PV}{v:Value}{n:Nat}{new:Ψ}{ids:Ω}(h:eY hp s p=some (n,new,ids))
  (hok:bj new=true) (hv:V w (hot H σ hp) σ (aQ hp) p v) :
  ∃ news:List Value,Src P s tx v n news w∧new.length=news.length∧(∀ (k:Nat) c u,new[k]?=some c→news[k]?=some u→V w (hot H σ hp) σ (aQ hp) c u)∧new.length=n*s:=by
 obtain⟨base,cap,rfl,hlen,hnone,hat⟩:=KO S h hv
 cases base with
 | none =>
  obtain⟨e1,e2,e3⟩:=hnone rfl
  subst e1;subst e2;subst e3
  exact⟨[],Src.ofNil w hk 0,rfl,fun k c u h1 h2=>by simp at h2,by simp⟩
 | some a =>
  obtain⟨news,h1,h2,h3⟩:=(hat a rfl).CO
  exact⟨news,Src.ofSlice w hk a n cap news (by rw[← h1,hlen]) h2 (qX hok h1 h3),h1,h3,hlen⟩
def ahd (P:Program)(t tx ty:TypeId)(v x:Value)(w:World)(H:Nat→Prop)(σ:List Addr)(hp:Θ)(r:PV)(hp':Θ):Prop :=
 ∃ u w' σ',(Builtin.append_ #[t,tx] ty #[v,x]).run P w = .ok u w'∧V w' (hot H σ' hp') σ' (aQ hp') r u∧Sim w' H σ' hp'∧Step w (cS σ hp) σ (aQ hp) w' (cS σ' hp') σ' (aQ hp')
theorem nU (S:Sim w H σ hp){t tx ty e:TypeId}{i:TypeInfo}{z:Value}(ht:P.underlying t=some (.slice e))(hi:P.info? e=some i)(hz:i.zero=some z)(hzs:z.cells.size=i.size)(hby:i.bytes≤128)
  {base:Option Addr} {sLen sCap:Nat} {l new:Ψ} {olds news:List Value} (hold:(Builtin.firstCells i.size sLen (.slice base sLen sCap)).run P w.drew = .ok olds.toArray w.drew)
  {x:Value} {n:Nat} (hs:Src P i.size tx x n news w) (hg:sCap<sLen+n) (hmax:sLen+n≤1099511627776)
  (hl:l.length=olds.length∧∀ (k:Nat) c u,l[k]?=some c→olds[k]?=some u→V w (hot H σ hp) σ (aQ hp) c u) (hln:l.length=sLen*i.size)
  (hn:new.length=news.length∧∀ (k:Nat) c u,new[k]?=some c→news[k]?=some u→V w (hot H σ hp) σ (aQ hp) c u) (hnn:new.length=n*i.size) :
  ahd P t tx ty (.slice base sLen sCap) x w H σ hp (.own hp.length i.size 0 (sLen+n) false) (hp++[⟨.live,l++new⟩]):=by
 have hfit:Builtin.nextslicecap (sLen+n) sCap*i.bytes≤281474976710656:=growslice_fits hg (by
  have:(sLen+n)*i.bytes≤1099511627776*128:=Nat.mul_le_mul hmax hby
  have e:1099511627776*128=140737488355328:=by decide
  omega)
 have hrun:=run_append_grow_src (P:=P) w t tx ty e i z ht hi hz base sLen sCap olds hold x n news hs hg (by omega) hfit
 have hcap:sLen+n≤grownCap w (sLen+n) sCap e:=by unfold grownCap Question.cut;exact Nat.le_add_right _ _
 generalize grownCap w (sLen+n) sCap e=cap at hrun hcap
 have S1:Sim w.drew H σ hp:=zy (w':=w.drew) S rfl rfl rfl rfl
 have st1:Step w (cS σ hp) σ (aQ hp) w.drew (cS σ hp) σ (aQ hp):=lU (w:=w) (w':=w.drew) rfl rfl rfl rfl _ _ _
 have hzc:(Builtin.zeroCells z.cells (cap - (sLen+n))).size=(cap - (sLen+n))*i.size:=by simp[Builtin.zeroCells,hzs]
 have hsize:((olds++news).toArray++Builtin.zeroCells z.cells (cap - (sLen+n))).size=cap*i.size:=by
  rw[Array.size_append,hzc,size_toArray,length_append,← hl.1,← hn.1,hln,hnn,← Nat.add_mul,← Nat.add_mul]
  congr 1;omega
 obtain⟨g1,g2,g3⟩:=BV (e:=e) S1 (cs:=l++new) (vs:=(olds++news).toArray++Builtin.zeroCells z.cells (cap - (sLen+n)))
  (by rw[hsize,length_append,hln,hnn,← Nat.add_mul];exact Nat.mul_le_mul_right _ hcap) (fun k c u hk hu=>by
   have hk':=cO hk
   rw[length_append] at hk'
   rw[Array.getElem?_append_left (by simp[← hl.1,← hn.1];omega)] at hu
   have hu':(olds++news)[k]?=some u:=by simpa using hu
   refine V.step st1 ?_
   rcases Nat.lt_or_ge k l.length with h | h
   ·rw[getElem?_append_left h] at hk
    rw[getElem?_append_left (by rw[← hl.1];exact h)] at hu'
    exact hl.2 k c u hk hu'
   ·rw[getElem?_append_right h] at hk
    rw[getElem?_append_right (by rw[← hl.1];exact h)] at hu'
    rw[← hl.1] at hu'
    exact hn.2 _ c u hk hu') i.size (sLen+n) cap false hcap (by simp) (by rw[hsize];exact Nat.le_refl _)
 exact⟨_,_,_,hrun,g3,g1,st1.trans g2⟩
theorem Src.oh {t tx ty e:TypeId}{i:TypeInfo}(ht:P.underlying t=some (.slice e))(hi:P.info? e=some i){base:Option Addr}{sLen sCap:Nat}(hle:sLen≤sCap){x:Value}{news:List Value}(hs:Src P i.size tx x 0 news w) :
  (Builtin.append_ #[t,tx] ty #[.slice base sLen sCap,x]).run P w = .ok (.slice base sLen sCap) w:=by
 have:news=[]:=by have:=hs.newsLen;simpa using this
 subst this
 exact run_append_nothing w t tx ty e i ht hi base sLen sCap hle x hs
theorem oN (S:Sim w H σ hp){id off m:Nat}{a:Addr}{st:BSt}{cs:Ψ}(hid:hp[id]?=some ⟨st,cs⟩)(hd:st ≠ .dead)(ha:σ[id]?=some a) :
  At w (hot H σ hp) σ (aQ hp) ⟨a.block,a.off+off,none⟩ ((cs.drop off).take m):=by
 have hA:At w (hot H σ hp) σ (aQ hp) ⟨a.block,a.off,none⟩ cs:=by
  refine⟨fun k=>(w.cell? ⟨a.block,a.off+k,none⟩).getD undef,fun k c hk => ?_⟩
  obtain⟨v,h1,h2⟩:=S.cells id st cs a hid hd ha k c hk
  exact⟨rfl,by simp[h1],by simpa [h1] using h2⟩
 exact (hA.drop off).take m
theorem x9 (P:Program){a:Addr}{size n len cap:Nat}{olds:List Value}(hl:olds.length=n*size)(h:∀ j v,olds[j]?=some v→w.cell? (a.add j)=some v) :
  (Builtin.firstCells size n (.slice (some a) len cap)).run P w.drew = .ok olds.toArray w.drew:=by
 have:=run_loadCells_list (P:=P) w.drew a olds (fun j v hj=>by simpa using h j v hj)
 rw[hl] at this
 simpa [Builtin.firstCells] using this
theorem Ua {l vs:Ψ}{n:Nat}(h:n+vs.length≤l.length):∃ r,b9 l n vs=some r:=by
 induction l generalizing n vs with
 | nil =>
  simp at h
  obtain⟨rfl,h⟩:=h
  cases vs with
  | nil=>exact⟨[],rfl⟩
  | cons v vs=>simp at h
 | cons a l ih =>
  cases n with
  | zero =>
   cases vs with
   | nil=>exact⟨_,rfl⟩
   | cons v vs =>
    obtain⟨r,hr⟩:=ih (n:=0) (vs:=vs) (by simp at h;omega)
    exact⟨v::r,by simp[b9,hr]⟩
  | succ n =>
   obtain⟨r,hr⟩:=ih (n:=n) (vs:=vs) (by simp at h;omega)
   exact⟨a::r,by simp[b9,hr]⟩
theorem Od {l new ys:Ψ}(h:ys.length=new.length):b9 (l++ys) l.length new=some (l++new):=by
 obtain⟨r,hr⟩:=Ua (l:=l++ys) (n:=l.length) (vs:=new) (by simp;omega)
 obtain⟨h1,h2,h3⟩:=j7 hr
 rw[hr];congr 1
 apply ext_getElem?
 intro k
 rw[h3]
 rcases Nat.lt_or_ge k l.length with hk | hk
 ·rw[if_neg (by omega),getElem?_append_left hk,getElem?_append_left hk]
 ·rw[getElem?_append_right (l₂:=new) hk]
  by_cases hk2:k<l.length+new.length
  ·rw[if_pos ⟨hk,hk2⟩]
  ·rw[if_neg (by omega),getElem?_eq_none (by simp;omega),getElem?_eq_none (by omega)]
theorem yx (S:Sim w H σ hp){t tx ty e:TypeId}{i:TypeInfo}{z:Value}(ht:P.underlying t=some (.slice e))(hi:P.info? e=some i)(hz:i.zero=some z)(hzs:z.cells.size=i.size)(hby:i.bytes≤128)
  {p r:PV} {v x:Value} {n:Nat} {new:Ψ} {hp':Θ} {fp:FP} (h:cU hp i.size p n new=some (r,hp',fp)) (hv:V w (hot H σ hp) σ (aQ hp) p v) {news:List Value} (hs:Src P i.size tx x n news w)
  (hok:bj new=true) (hn:new.length=news.length∧∀ (k:Nat) c u,new[k]?=some c→news[k]?=some u→V w (hot H σ hp) σ (aQ hp) c u) (hnn:new.length=n*i.size) :
  ahd P t tx ty v x w H σ hp r hp':=by
 have same:∀ {base:Option Addr} {sLen sCap:Nat},n=0→sLen≤sCap→v = .slice base sLen sCap→r=p→hp'=hp→ahd P t tx ty v x w H σ hp r hp':=by
  intro base sLen sCap h0 hle e1 e2 e3
  subst h0;subst e1;subst e2;subst e3
  exact⟨_,w,σ,Src.oh ht hi hle hs,hv,S,Step.refl _ _ _ _⟩
 unfold cU at h
 split at h
 ·cases hv
  split at h
  ·rename_i h0
   simp only[OiE,PiE] at h
   obtain⟨rfl,rfl,rfl⟩:=h
   exact same h0 (Nat.le_refl 0) rfl rfl rfl
  ·rename_i h0
   split at h
   ·rename_i hm
    simp only[OiE,PiE] at h
    obtain⟨rfl,rfl,rfl⟩:=h
    have:=nU (ty:=ty) S ht hi hz hzs hby (base:=none) (sLen:=0) (sCap:=0) (l:=[]) (olds:=[]) (by simp[Builtin.firstCells]) hs (by omega) (by unfold cW at hm;omega) ⟨rfl,fun k c u h=>by simp at h⟩ (by simp) hn hnn
    simpa [bd] using this
   ·cases h
 ·rename_i len cs
  split at h
  ·rename_i h0
   simp only[OiE,PiE] at h
   obtain⟨rfl,rfl,rfl⟩:=h
   cases hv with
   | nil=>exact same h0 (Nat.le_refl 0) rfl rfl rfl
   | imm _ _ _ a cap g g1 g2 g3 g4=>exact same h0 g1 rfl rfl rfl
  ·rename_i h0
   split at h
   ·rename_i hm
    simp only[OiE,PiE] at h
    obtain⟨rfl,rfl,rfl⟩:=h
    cases hv with
    | nil =>
     have:=nU (ty:=ty) S ht hi hz hzs hby (base:=none) (sLen:=0) (sCap:=0) (l:=[]) (olds:=[]) (by simp[Builtin.firstCells]) hs (by omega) (by unfold cW at hm;omega) ⟨rfl,fun k c u h=>by simp at h⟩ (by simp) hn hnn
     simpa [bd] using this
    | imm _ _ _ a cap g g1 g2 g3 g4 =>
     have hA:At w (hot H σ hp) σ (aQ hp) a cs:=⟨g,fun k c hk=>⟨(g3 k c hk).1,(g3 k c hk).2.2.2,g4 k c hk⟩⟩
     obtain⟨olds,e1,e2,e3⟩:=hA.CO
     have hcap:cap=len:=g2 rfl
     have:=nU (ty:=ty) S ht hi hz hzs hby (base:=some a) (sLen:=len) (sCap:=cap) (l:=cs) (olds:=olds) (x9 P (by rw[← e1,hm.2]) e2) hs (by omega) (by have:=hm.1;unfold cW at this;omega) ⟨e1,e3⟩ hm.2 hn hnn
     simpa [bd] using this
   ·cases h
 ·rename_i id s' off len
  split at h
  ·cases h
  ·rename_i hss
   have hss:i.size=s':=by simpa using hss
   subst hss
   split at h
   ·rename_i h0
    simp only[OiE,PiE] at h
    obtain⟨rfl,rfl,rfl⟩:=h
    cases hv with
    | own _ _ _ _ _ a b cap g1 g2 g3 g4 g5=>exact same h0 g2 rfl rfl rfl
   ·rename_i h0
    cases hb:aX hp id with
    | none=>simp[hb] at h
    | some blk =>
     cases blk with
     | mk st cs =>
      simp only[hb] at h
      split at h
      ·cases h
      ·rename_i hd
       cases htk:bF (bz cs off) (len*i.size) with
       | none=>simp[htk] at h
       | some l =>
        simp only[htk] at h
        split at h
        ·rename_i hm
         simp only[OiE,PiE] at h
         obtain⟨rfl,rfl,rfl⟩:=h
         obtain⟨hle,rfl⟩:=ft htk
         rw[cD] at *
         rw[cY] at hb
         cases hv with
         | own _ _ _ _ _ a b cap g1 g2 g3 g4 g5 =>
          have hcap:cap=len:=g3 rfl
          have hln:((cs.drop off).take (len*i.size)).length=len*i.size:=by rw[length_take];omega
          obtain⟨olds,e1,e2,e3⟩:∃ olds:List Value,((cs.drop off).take (len*i.size)).length=olds.length∧(∀ j v,olds[j]?=some v→w.cell? (b.add j)=some v) ∧
            ∀ (k:Nat) c v,((cs.drop off).take (len*i.size))[k]?=some c→olds[k]?=some v→V w (hot H σ hp) σ (aQ hp) c v:=by
           by_cases hc:0<cap
           ·have:=oN S (off:=off) (m:=len*i.size) hb hd g1
            rw[← g4 hc] at this
            exact this.CO
           ·have:len=0:=by omega
            subst this
            exact⟨[],by simp,fun j v h=>by simp at h,fun k c v h=>by simp at h⟩
          have:=nU (ty:=ty) S ht hi hz hzs hby (base:=some b) (sLen:=len) (sCap:=cap) (olds:=olds) (x9 P (by rw[← e1,hln]) e2) hs (by omega) (by unfold cW at hm;omega) ⟨e1,e3⟩ hln hn hnn
          simpa [bd] using this
        ·cases h
 ·rename_i id s' off len
  split at h
  ·cases h
  ·rename_i hss
   have hss:i.size=s':=by simpa using hss
   subst hss
   split at h
   ·rename_i cs hb
    cases htk:bF (bz cs off) (len*i.size) with
    | none=>simp[htk] at h
    | some l =>
     simp only[htk] at h
     split at h
     ·rename_i hm
      simp only[OiE,PiE] at h
      obtain⟨rfl,rfl,rfl⟩:=h
      obtain⟨hle,rfl⟩:=ft htk
      rw[cD] at *
      rw[cY] at hb
      rw[jh]
      have hln:((cs.drop off).take (len*i.size)).length=len*i.size:=by rw[length_take];omega
      cases hv with
      | own _ _ _ _ _ a b cap g1 g2 g3 g4 g5 =>
       obtain⟨c0,e0,hc0,hsz0⟩:=g5 ⟨cs,hb⟩
       have hlt:id<hp.length:=cO hb
       by_cases hroom:len+n≤cap
       ·
        have hA:=oN S (off:=off) (m:=len*i.size) hb (by simp) g1
        obtain⟨gA,hgA⟩:=hA
        have hcs:(len+n)*i.size≤cap*i.size:=Nat.mul_le_mul_right _ hroom
        have hmul:(len+n)*i.size=len*i.size+n*i.size:=Nat.add_mul _ _ _
        obtain⟨r1,r2⟩:=GX S (off:=off) (l:=(cs.drop off).take (len*i.size)++List.replicate (n*i.size) PV.any) hb g1
         ⟨c0,e0,hc0,by rw[length_append,hln,length_replicate];omega⟩ (fun k c hk=>by
          rcases Nat.lt_or_ge k (len*i.size) with h | h
          ·rw[getElem?_append_left (by rw[hln];exact h)] at hk
           obtain⟨q1,q2,q3⟩:=hgA k c hk
           exact⟨_,q2,q3⟩
          ·rw[getElem?_append_right (by rw[hln];exact h),getElem?_replicate] at hk
           split at hk
           ·rename_i hk2
            simp at hk;subst hk
            rw[hln] at hk2
            rw[rQ hc0]
            exact⟨c0[a.off+off+k]'(by omega),Array.getElem?_eq_getElem _,.any _⟩
           ·cases hk)
        have hnewid:(hp.set id ⟨.dead,[]⟩++[(⟨.live,(cs.drop off).take (len*i.size)++List.replicate (n*i.size) PV.any⟩:Blk)])[hp.length]?=some ⟨.live,(cs.drop off).take (len*i.size)++List.replicate (n*i.size) PV.any⟩:=by
         rw[getElem?_append_right (by simp)];simp
        have hnews:(σ++[(⟨a.block,a.off+off,none⟩:Addr)])[hp.length]?=some ⟨a.block,a.off+off,none⟩:=by
         rw[← S.len];simp
        have hover:b9 ((cs.drop off).take (len*i.size)++List.replicate (n*i.size) PV.any) (len*i.size) new=some ((cs.drop off).take (len*i.size)++new):=by
         have:=Od (l:=(cs.drop off).take (len*i.size)) (new:=new) (ys:=List.replicate (n*i.size) PV.any) (by rw[length_replicate,hnn])
         rwa [hln] at this
        obtain⟨w',k1,k2,k3⟩:=vL (P:=P) r1 hnewid hnews hover hn.1 (fun k c u h1 h2=>(hn.2 k c u h1 h2).step r2) hok
        have hset:(hp.set id ⟨.dead,[]⟩++[(⟨.live,(cs.drop off).take (len*i.size)++List.replicate (n*i.size) PV.any⟩:Blk)]).set hp.length ⟨.live,(cs.drop off).take (len*i.size)++new⟩=hp.set id ⟨.dead,[]⟩++[⟨.live,(cs.drop off).take (len*i.size)++new⟩]:=by
         rw[set_append_right _ _ (by simp)];simp
        rw[hset] at k2 k3
        refine⟨.slice (some b) (len+n) cap,w',_,?_,?_,k2,r2.trans k3⟩
        ·by_cases hc:0<cap
         ·have eb:=g4 hc
          subst eb
          refine sF ht hi hs hroom ?_
          rw[gf rfl]
          exact k1
         ·have h0:n=0:=by omega
          subst h0
          have hnil:news=[]:=by have:=hs.newsLen;simpa using this
          subst hnil
          simp[storeCells] at k1
          subst k1
          have:=Src.oh (ty:=ty) ht hi (base:=some b) g2 hs
          simpa using this
        ·refine .own _ _ _ _ _ ⟨a.block,a.off+off,none⟩ b cap (by rw[← S.len];simp) hroom (by simp) (fun hc=>by simpa using g4 hc) (fun _ => ?_)
         obtain⟨c',hc',hsz'⟩:=k3.shape hp.length ⟨a.block,a.off+off,none⟩ c0 e0 ⟨_,by rw[getElem?_append_right (by simp)];simp;rfl⟩ hnews hc0
         exact⟨c',e0,hc',by simp;omega⟩
       ·
        obtain⟨olds,e1,e2,e3⟩:∃ olds:List Value,((cs.drop off).take (len*i.size)).length=olds.length∧(∀ j v,olds[j]?=some v→w.cell? (b.add j)=some v) ∧
          ∀ (k:Nat) c v,((cs.drop off).take (len*i.size))[k]?=some c→olds[k]?=some v→V w (hot H σ hp) σ (aQ hp) c v:=by
         by_cases hc:0<cap
         ·have:=oN S (off:=off) (m:=len*i.size) hb (by simp) g1
          rw[← g4 hc] at this
          exact this.CO
         ·have:len=0:=by omega
          subst this
          exact⟨[],by simp,fun j v h=>by simp at h,fun k c v h=>by simp at h⟩
        obtain⟨u,w',σ',q1,q2,q3,q4⟩:=nU (ty:=ty) S ht hi hz hzs hby (base:=some b) (sLen:=len) (sCap:=cap) (olds:=olds) (x9 P (by rw[← e1,hln]) e2) hs (by omega) (by unfold cW at hm;omega) ⟨e1,e3⟩ hln hn hnn
        obtain⟨m1,m2⟩:=Da (id:=id) (s:=.live) (cs:=cs) (st':=.dead) (cs':=[]) q3 (by rw[getElem?_append_left hlt];exact hb) (.inl ⟨rfl,rfl⟩)
        have hset:(hp++[(⟨.live,(cs.drop off).take (len*i.size)++new⟩:Blk)]).set id ⟨.dead,[]⟩=hp.set id ⟨.dead,[]⟩++[⟨.live,(cs.drop off).take (len*i.size)++new⟩]:=by
         rw[set_append_left _ _ hlt]
        rw[hset] at m1 m2
        exact⟨u,w',σ',q1,q2.step m2,m1,q4.trans m2⟩
     ·cases h
   ·cases h
 ·cases h
end
section
variable {P:Program} {T:Tab} (hT:gh P T) {w:World} {H:Nat→Prop} {hp:Θ} {σ:List Addr}
theorem tE {e:TypeId}{zs:Ψ}(hz:ef T e=some zs):∃ i z,T e=some i∧i.zero=some z∧zs=z.cells.toList.map .sc:=by
 unfold ef at hz
 cases hTi:T e with
 | none=>simp[hTi] at hz
 | some i =>
  rw[hTi] at hz
  cases i with
  | mk desc str size bytes hp al fa zero cmp ms =>
   cases zero with
   | none=>simp at hz
   | some z=>simp at hz;exact⟨_,z,rfl,rfl,hz.symm⟩
include hT in
theorem WV {t ty e:TypeId}(S:Sim w H σ hp)(hu:und T t=some (.slice e)){s:Nat}{zs:Ψ}(hz:ef T e=some zs)(hzs:zs.length=s){id off len:Nat}{x:Bool}{v:Value}{old l:Ψ}
  (hv:V w (hot H σ hp) σ (aQ hp) (.own id s off len x) v) (hid:hp[id]?=some ⟨.live,old⟩) (hok:bj zs=true) (ho:b9 old off (rep len zs)=some l) :
  ∃ w',(Builtin.clear_ #[t] ty #[v]).run P w = .ok (.tuple #[]) w'∧Sim w' H σ (hp.set id ⟨.live,l⟩) ∧
   Step w (cS σ hp) σ (aQ hp) w' (cS σ (hp.set id ⟨.live,l⟩)) σ (aQ (hp.set id ⟨.live,l⟩)):=by
 cases hv with
 | own _ _ _ _ _ a b cap g1 g2 g3 g4 g5 =>
  obtain⟨z,hz1,hz2⟩:=ni hT hz w
  have hzz:z.cells.size=s:=by rw[hz2] at hzs;simpa using hzs
  have hrel:=vq (w:=w) (M:=hot H σ hp) (σ:=σ) (L:=aQ hp) len z.cells (len*z.cells.size) rfl
  rw[← hz2] at hrel
  have hok':bj (rep len zs)=true:=by
   have happ:∀ a b,bj a=true→bj b=true→bj (a++b)=true:=by
    intro a b ha hb
    induction a with
    | nil=>exact hb
    | cons c a ih=>simp[bj] at ha ⊢;exact⟨ha.1,ih ha.2⟩
   induction len with
   | zero=>rfl
   | succ n ih =>
    have:∀ n,bj (rep n zs)=true:=by
     intro n
     induction n with
     | zero=>rfl
     | succ n ih=>exact happ _ _ hok ih
    exact this _
  obtain⟨w',k1,k2,k3⟩:=vL (P:=P) S hid g1 ho (vs:=(Builtin.zeroCells z.cells len).toList) (by have:=hrel.1;simpa [Builtin.zeroCells] using this) (fun k c v h1 h2=>hrel.2 k c v h1 (by
   have:(Builtin.zeroCells z.cells len)[k]?=some v:=by simpa using h2
   simpa [Builtin.zeroCells] using this)) hok'
  refine⟨w',?_,k2,k3⟩
  cases len with
  | zero =>
   have:w'=w:=by simp[Builtin.zeroCells,storeCells] at k1;exact k1.symm
   subst this
   simp only[Builtin.clear_,getElem?_toArray,getElem?_cons_zero,Sem.run_bind,dz hT hu,Result.andThen_ok]
   rfl
  | succ m =>
   have eb:=g4 (by omega)
   subst eb
   simp only[Builtin.clear_,getElem?_toArray,getElem?_cons_zero,Sem.run_bind,dz hT hu,Result.andThen_ok,hz1,k1]
   rfl
end
structure ahn (same:Value→Bool→Prop) (F:List MapEntry→Nat→Option (Nat × Value)→Prop):Prop where
 nil:∀ i,F [] i none
 hit:∀ e es i,same e.key true→F (e::es) i (some (i,e.val))
 miss:∀ e es i r,same e.key false→F es (i+1) r→F (e::es) i r
section
variable {w:World} {M:Nat→Prop} {σ:List Addr} {L:Nat→Prop} {p:PV} {kv:Value} {same:Value→Bool→Prop} {F:List MapEntry→Nat→Option (Nat × Value)→Prop} (hF:ahn same F)
 (hE:∀ a ka b,V w M σ L a ka→ajg p a=some b→same ka b∧(b=true→ka=kv))
include hF hE
end
end Go.Ab
