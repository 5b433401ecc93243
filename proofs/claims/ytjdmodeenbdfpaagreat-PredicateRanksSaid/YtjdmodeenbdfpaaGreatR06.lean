/- An abstract interpreter over the model's code and its soundness, part 6 of the proof; each lemma states its own conditions. -/
import Derived.Test.YtjdmodeenbdfpaaGreatR05
import Derived.MapKept
import Derived.WideKeyRuns
set_option linter.unusedSimpArgs false
set_option linter.unusedVariables false
namespace Go.Ab
open Go
theorem V.tI {w:World}{M:Nat→Prop}{σ:List Addr}{L:Nat→Prop}{a v:Value}(h:V w M σ L (.sc a) v):v=a:=by
 cases h;rfl
theorem GX {d:TypeDesc}{p a:PV}{kv ka:Value}(hk:oP d p=true)(hp:p = .sc kv)(ha:a = .sc ka){b:Bool}(h:pY p a=some b):Instr.sameNow d kv ka=some b∧(b=true→ka=kv):=by
 subst hp;subst ha
 unfold pY at h
 split at h
 ·rename_i i m j n e1 e2
  cases e1;cases e2
  by_cases hij:i=j
  ·rw[if_pos hij] at h
   simp only[Option.some.injEq] at h
   subst hij
   cases d <;> simp[oP] at hk
   refine⟨by simp[Instr.sameNow,h],fun hb => ?_⟩
   rw[hb] at h
   rw[beq_iff_eq.1 h]
  ·rw[if_neg hij] at h;cases h
 ·rename_i s t e1 e2
  cases e1;cases e2
  simp only[Option.some.injEq] at h
  cases d <;> simp[oP] at hk
  have hbb:(s == t)=eqL (bK s) (bK t):=by
   rw[oT]
   by_cases e:s=t
   ·subst e
    rw[(Go.MapKept.bytes_beq s s).2 rfl];simp
   ·have h1:(s == t)=false:=by
     cases e2:(s == t) with
     | false=>rfl
     | true=>exact absurd ((Go.MapKept.bytes_beq s t).1 e2) e
    have h2:(bK s == bK t)=false:=by
     cases e2:(bK s == bK t) with
     | false=>rfl
     | true=>exact absurd (by rw[← fx s,← fx t,beq_iff_eq.1 e2]) e
    rw[h1,h2]
  refine⟨by simp only[Instr.sameNow,hbb,h],fun hb => ?_⟩
  rw[hb] at h
  rw[h] at hbb
  rw[(Go.MapKept.bytes_beq s t).1 hbb]
 ·rename_i x y e1 e2
  cases e1;cases e2
  simp only[Option.some.injEq] at h
  cases d <;> simp[oP] at hk
  refine⟨by simp[Instr.sameNow,h],fun hb => ?_⟩
  rw[hb] at h
  rw[beq_iff_eq.1 h]
 ·rename_i e1 e2;cases e1
 ·cases h
structure U1 (same:Value→Bool→Prop) (F:List MapEntry→Nat→Option (Nat × Value)→Prop):Prop where
 nil:∀ i,F [] i none
 hit:∀ e es i,same e.key true→F (e::es) i (some (i,e.val))
 miss:∀ e es i r,same e.key false→F es (i+1) r→F (e::es) i r
structure afB (P:Program) (w:World) (M:Nat→Prop) (σ:List Addr) (L:Nat→Prop) (kt:TypeId) (p:PV) (kv:Value):Prop where
 check:∀ em,(Instr.checkKey em 10000 kt kv).run P w = .ok () w
 stays:(Instr.keyThatStays kv kv).run P w = .ok kv w
 v:V w M σ L p kv
 find:∃ same F,U1 same F∧(∀ a ka b,V w M σ L a ka→pY p a=some b→same ka b∧(b=true→ka=kv))∧∀ es r,F es 0 r→(Instr.findKey kt kv es).run P w = .ok r w
section
variable {w:World} {M:Nat→Prop} {σ:List Addr} {L:Nat→Prop} {p:PV} {kv:Value} {same:Value→Bool→Prop} {F:List MapEntry→Nat→Option (Nat × Value)→Prop} (hF:U1 same F)
 (hE:∀ a ka b,V w M σ L a ka→pY p a=some b→same ka b∧(b=true→ka=kv))
include hF hE
theorem AA:∀ {kvs:List PV} {es:List MapEntry} {r:Option PV} (i:Nat),dY w M σ L kvs es→Dk p kvs=some r→match r with
   | none=>F es i none
   | some x=>∃ (j:Nat) (e:MapEntry),F es i (some (i+j,e.val))∧V w M σ L x e.val
 | [],[],r,i,_,h=>by simp[Dk] at h;subst h;exact hF.nil i
 | a::x::kvs,e::es,r,i,hr,h=>by
  obtain⟨h1,h2,h3⟩:=hr
  unfold Dk at h
  split at h
  ·rename_i he
   simp only[Option.some.injEq] at h
   subst h
   exact⟨0,e,hF.hit e es i (hE a e.key true h1 he).1,h2⟩
  ·rename_i he
   have g1:=(hE a e.key false h1 he).1
   have ih:=AA (i+1) h3 h
   cases r with
   | none=>exact hF.miss e es i none g1 ih
   | some y =>
    obtain⟨j,e',q1,q2⟩:=ih
    exact⟨j+1,e',by rw[show i+(j+1)=i+1+j by omega];exact hF.miss e es i _ g1 q1,q2⟩
  ·cases h
 | [],_::_,_,_,hr,_=>hr.elim
 | [_],[],_,_,hr,_=>hr.elim
 | [_],_::_,_,_,hr,_=>hr.elim
 | _::_::_,[],_,_,hr,_=>hr.elim
theorem QN (hp:V w M σ L p kv){x:PV}{v:Value}(hv:V w M σ L x v):∀ {kvs:List PV} {es:List MapEntry} {l:List PV} (i:Nat),
  dY w M σ L kvs es→Cn p x kvs=some l →
   (F es i none∧∀ b,dY w M σ L l (es++[{ key:=kv,val:=v,born:=b }])) ∨
   ∃ (j:Nat) (e:MapEntry),F es i (some (i+j,e.val))∧es[j]?=some e∧e.key=kv∧dY w M σ L l (es.set j { e with key:=kv,val:=v })
 | [],[],l,i,_,h=>by
  simp only[Cn,Option.some.injEq] at h
  subst h
  exact .inl ⟨hF.nil i,fun b=>⟨hp,hv,trivial⟩⟩
 | a::y::kvs,e::es,l,i,hr,h=>by
  obtain⟨h1,h2,h3⟩:=hr
  unfold Cn at h
  split at h
  ·rename_i he
   simp only[Option.some.injEq] at h
   subst h
   obtain⟨g1,g2⟩:=hE a e.key true h1 he
   exact .inr ⟨0,e,hF.hit e es i g1,rfl,g2 rfl,⟨hp,hv,h3⟩⟩
  ·rename_i he
   split at h
   ·rename_i l' hl
    simp only[Option.some.injEq] at h
    subst h
    obtain⟨g1,g2⟩:=hE a e.key false h1 he
    rcases QN hp hv (i+1) h3 hl with ⟨q1,q2⟩| ⟨j,e',q1,q2,q3,q4⟩
    ·exact .inl ⟨hF.miss e es i none g1 q1,fun b=>⟨h1,h2,q2 b⟩⟩
    ·exact .inr ⟨j+1,e',by rw[show i+(j+1)=i+1+j by omega];exact hF.miss e es i _ g1 q1,by simpa using q2,q3,⟨h1,h2,q4⟩⟩
   ·cases h
  ·cases h
 | [],_::_,_,_,hr,_=>hr.elim
 | [_],[],_,_,hr,_=>hr.elim
 | [_],_::_,_,_,hr,_=>hr.elim
 | _::_::_,[],_,_,hr,_=>hr.elim
theorem TQ:∀ {kvs:List PV} {es:List MapEntry} {l:List PV} (i:Nat),
  dY w M σ L kvs es→Du p kvs=some l →
   (F es i none∧dY w M σ L l es) ∨
   ∃ (j:Nat) (e:MapEntry),F es i (some (i+j,e.val))∧es[j]?=some e∧dY w M σ L l (es.eraseIdx j)
 | [],[],l,i,_,h=>by
  simp only[Du,Option.some.injEq] at h
  subst h
  exact .inl ⟨hF.nil i,trivial⟩
 | a::y::kvs,e::es,l,i,hr,h=>by
  obtain⟨h1,h2,h3⟩:=hr
  unfold Du at h
  split at h
  ·rename_i he
   simp only[Option.some.injEq] at h
   subst h
   exact .inr ⟨0,e,hF.hit e es i (hE a e.key true h1 he).1,rfl,h3⟩
  ·rename_i he
   split at h
   ·rename_i l' hl
    simp only[Option.some.injEq] at h
    subst h
    obtain⟨g1,g2⟩:=hE a e.key false h1 he
    rcases TQ (i+1) h3 hl with ⟨q1,q2⟩| ⟨j,e',q1,q2,q3⟩
    ·exact .inl ⟨hF.miss e es i none g1 q1,⟨h1,h2,q2⟩⟩
    ·exact .inr ⟨j+1,e',by rw[show i+(j+1)=i+1+j by omega];exact hF.miss e es i _ g1 q1,by simpa using q2,⟨h1,h2,q3⟩⟩
   ·cases h
  ·cases h
 | [],_::_,_,_,hr,_=>hr.elim
 | [_],[],_,_,hr,_=>hr.elim
 | [_],_::_,_,_,hr,_=>hr.elim
 | _::_::_,[],_,_,hr,_=>hr.elim
end
theorem I2 {w:World}{M:Nat→Prop}{σ:List Addr}{L:Nat→Prop} : ∀ {kvs:List PV} {es:List MapEntry},dY w M σ L kvs es→C9 kvs=es.length
 | [],[],_=>rfl
 | _::_::r,_::es,h=>by simp[C9,I2 h.2.2]
 | [],_::_,hr=>hr.elim
 | [_],[],hr=>hr.elim
 | [_],_::_,hr=>hr.elim
 | _::_::_,[],hr=>hr.elim
theorem EL {w:World}{H:Nat→Prop}{σ:List Addr}{hp:List Blk}(S:Sim w H σ hp) :
  Sim (w.alloc (.map #[] 0)) H (σ++[⟨w.heap.size,0,none⟩]) (hp++[⟨.dead,[.any]⟩]) ∧
  Step w (cM σ hp) σ (aL hp) (w.alloc (.map #[] 0)) (cM (σ++[⟨w.heap.size,0,none⟩]) (hp++[⟨.dead,[.any]⟩])) (σ++[⟨w.heap.size,0,none⟩]) (aL (hp++[⟨.dead,[.any]⟩])):=by
 have hold:∀ (k:Nat),k<w.heap.size→(w.alloc (.map #[] 0)).heap[k]?=w.heap[k]?:=fun k hk=>Go.RowKit.Below.heap_alloc _ _ _ hk
 have hnew:(w.alloc (.map #[] 0)).heap[w.heap.size]?=some (.map #[] 0):=by
  show (w.heap.push _)[w.heap.size]?=_
  simp
 have st:Step w (cM σ hp) σ (aL hp) (w.alloc (.map #[] 0)) (cM (σ++[⟨w.heap.size,0,none⟩]) (hp++[⟨.dead,[.any]⟩])) (σ++[⟨w.heap.size,0,none⟩]) (aL (hp++[⟨.dead,[.any]⟩])):=by
  refine⟨rfl,rfl,rfl,by simp,fun i a ha => ?_,fun b hb _=>hold b hb,fN fun b c e' f hb => ?_,fun b hb hm => ?_,fun i hi hm => ?_⟩
  ·rw[List.getElem?_append_left (cP ha)];exact ha
  ·have:b<w.heap.size:=by
    rcases Nat.lt_or_ge b w.heap.size with h' | h'
    ·exact h'
    ·simp[Array.getElem?_eq_none h'] at hb
   exact⟨c,by rw[hold b this];exact hb,rfl⟩
  ·obtain⟨i,a,h1,h2,h3⟩:=hm
   rcases dh h2 with ⟨hi,h2⟩| ⟨hi,h2⟩
   ·exact⟨i,a,(yC (by rw[← S.len];exact hi)).1 h1,h2,h3⟩
   ·subst h2;simp at h3;omega
  ·exact (l8 (by rw[← S.len];exact hi)).1 hm
 have hblk:∀ {i:Nat} {s:BSt} {ds:List PV},(hp++[⟨.dead,[.any]⟩])[i]?=some ⟨s,ds⟩→s ≠ .dead→i<σ.length∧hp[i]?=some ⟨s,ds⟩:=by
  intro i s ds h hd
  rcases dh h with ⟨hi,h⟩| ⟨hi,h⟩
  ·rw[← S.len] at hi;exact⟨hi,h⟩
  ·cases h;exact absurd rfl hd
 have hget:∀ {i:Nat} {b:Addr},(σ++[⟨w.heap.size,0,none⟩])[i]?=some b→i<σ.length→σ[i]?=some b:=by
  intro i b h hi
  rwa [List.getElem?_append_left hi] at h
 refine⟨⟨by simp[S.len],fun i a ha => ?_,fun b hb=>Nat.lt_of_lt_of_le (S.foreign b hb) (by simp),fun i s cs' a hi hd ha k c hk => ?_,fun i s cs' a hi hd ha => ?_,fun i a cs0 hi ha => ?_,fun i j a b s cs' hi hj hd hne ha hb => ?_,fun i cs' a hi ha => ?_,fun i j a b hi hj hne ha hb => ?_⟩,st⟩
 ·rcases dh ha with ⟨_,h⟩| ⟨_,h⟩
  ·exact Nat.lt_of_lt_of_le (S.spot i a h) (by simp)
  ·subst h;simp
 ·obtain⟨h1,h2⟩:=hblk hi hd
  have ha:=hget ha h1
  obtain⟨v,g1,g2⟩:=S.cells i s cs' a h2 hd ha k c hk
  exact⟨v,by rw[fc (a:=⟨a.block,a.off+k,none⟩) (hold _ (S.spot i a ha))];exact g1,g2.step st⟩
 ·obtain⟨h1,h2⟩:=hblk hi hd
  exact S.own i s cs' a h2 hd (hget ha h1)
 ·obtain⟨h1,h2⟩:=hblk hi (by simp)
  have ha:=hget ha h1
  obtain⟨c,e,g1,g2⟩:=S.live i a cs0 h2 ha
  exact⟨c,e,by rw[hold _ (S.spot i a ha)];exact g1,g2⟩
 ·obtain⟨ds,hi⟩:=hi
  obtain⟨h1,h2⟩:=hblk hi (by simp)
  obtain⟨h3,h4⟩:=hblk hj hd
  exact S.inj i j a b s cs' ⟨ds,h2⟩ h4 hd hne (hget ha h1) (hget hb h3)
 ·rcases dh hi with ⟨hlt,h⟩| ⟨hlt,h⟩
  ·rw[← S.len] at hlt
   have ha:=hget ha hlt
   obtain⟨h1,es,ck,h2,h3⟩:=S.maps i cs' a h ha
   exact⟨h1,es,ck,by rw[hold _ (S.spot i a ha)];exact h2,h3.step st⟩
  ·cases h
   rcases dh ha with ⟨h',_⟩| ⟨_,ha⟩
   ·rw[S.len] at h';omega
   ·subst ha
    exact⟨fun hh=>by have:=S.foreign _ hh;simp at this,#[],0,hnew,trivial⟩
 ·rcases dh ha with ⟨hlt,ha⟩| ⟨hlt,ha⟩ <;> rcases dh hb with ⟨hlt',hb⟩| ⟨hlt',hb⟩
  ·exact S.injm i j a b ((rD (by rw[← S.len];exact hlt)).1 hi) ((rD (by rw[← S.len];exact hlt')).1 hj) hne ha hb
  ·subst hb;have:=S.spot i a ha;simp;omega
  ·subst ha;have:=S.spot j b hb;simp;omega
  ·omega
theorem lE {w:World}{H:Nat→Prop}{σ:List Addr}{hp:List Blk}(S:Sim w H σ hp){id:Nat}{a:Addr}{cs l:List PV}{es':Array MapEntry}{ck':Nat}
  (hid:hp[id]?=some ⟨.dead,.any::cs⟩) (ha:σ[id]?=some a) (hr:dY w (hot H σ hp) σ (aL hp) l es'.toList) :
  Sim { w with heap:=w.heap.setIfInBounds a.block (.map es' ck') } H σ (hp.set id ⟨.dead,.any::l⟩) ∧
  Step w (cM σ hp) σ (aL hp) { w with heap:=w.heap.setIfInBounds a.block (.map es' ck') } (cM σ (hp.set id ⟨.dead,.any::l⟩)) σ (aL (hp.set id ⟨.dead,.any::l⟩)):=by
 obtain⟨hH,es,ck,hb,hrel⟩:=S.maps id cs a hid ha
 obtain⟨hset,hoth⟩:=Go.MapKept.heap_set (o':=.map es' ck') hb
 have hlt:id<hp.length:=cP hid
 have hmid:gR hp id:=⟨cs,hid⟩
 have hlv:∀ {i:Nat},aL (hp.set id ⟨.dead,.any::l⟩) i→aL hp i∧id≠i:=by
  rintro i ⟨ds,hd⟩
  by_cases e:id=i
  ·subst e;rw[List.getElem?_set_self hlt] at hd;cases hd
  ·rw[List.getElem?_set_ne e] at hd;exact⟨⟨ds,hd⟩,e⟩
 have hmp:∀ {i:Nat},gR (hp.set id ⟨.dead,.any::l⟩) i→gR hp i:=by
  rintro i ⟨ds,hd⟩
  by_cases e:id=i
  ·subst e;exact hmid
  ·rw[List.getElem?_set_ne e] at hd;exact⟨ds,hd⟩
 have hhotid:cM σ hp a.block:=⟨id,a,.inr hmid,ha,rfl⟩
 have st:Step w (cM σ hp) σ (aL hp) { w with heap:=w.heap.setIfInBounds a.block (.map es' ck') } (cM σ (hp.set id ⟨.dead,.any::l⟩)) σ (aL (hp.set id ⟨.dead,.any::l⟩)):=by
  refine⟨rfl,rfl,rfl,by simp,fun _ _ h=>h,fun b _ hm=>hoth b (fun e=>hm (e ▸ hhotid)),fN fun b c e f hc => ?_,fun b _ hm => ?_,fun i _ hm=>(hlv hm).1⟩
  ·have hne:b≠a.block:=fun e'=>by rw[e',hb] at hc;cases hc
   exact⟨c,by show (w.heap.setIfInBounds a.block _)[b]?=_;rw[hoth b hne];exact hc,rfl⟩
  ·obtain⟨i,a',h1,h2,h3⟩:=hm
   exact⟨i,a',h1.imp (fun h=>(hlv h).1) hmp,h2,h3⟩
 have hblk:∀ {i:Nat} {s:BSt} {ds:List PV},(hp.set id ⟨.dead,.any::l⟩)[i]?=some ⟨s,ds⟩→s ≠ .dead→hp[i]?=some ⟨s,ds⟩:=by
  intro i s ds h hd
  by_cases e:id=i
  ·subst e;rw[List.getElem?_set_self hlt] at h;cases h;exact absurd rfl hd
  ·rwa [List.getElem?_set_ne e] at h
 refine⟨⟨by simp[S.len],fun i a' h=>by simpa using S.spot i a' h,fun b h=>by simpa using S.foreign b h,fun i s ds a' hi hd ha' k d hk => ?_,fun i s ds a' hi hd ha'=>S.own i s ds a' (hblk hi hd) hd ha',fun i a' cs0 hi ha' => ?_,fun i j a1 a2 s ds hi hj hd hne h1 h2=>S.inj i j a1 a2 s ds (hlv hi).1 (hblk hj hd) hd hne h1 h2,fun i ds a' hi ha' => ?_,fun i j a1 a2 hi hj hne h1 h2=>S.injm i j a1 a2 (hmp hi) (hmp hj) hne h1 h2⟩,st⟩
 ·obtain⟨v,h1,h2⟩:=S.cells i s ds a' (hblk hi hd) hd ha' k d hk
  have hne:a'.block≠a.block:=fun e=>by
   simp[World.cell?,e,hb] at h1
  exact⟨v,by rw[fc (w:=w) (w':={ w with heap:=w.heap.setIfInBounds a.block (.map es' ck') }) (a:=⟨a'.block,a'.off+k,none⟩) (hoth _ hne)];exact h1,h2.step st⟩
 ·obtain⟨c,e,h1,h2⟩:=S.live i a' cs0 (hblk hi (by simp)) ha'
  have hne:a'.block≠a.block:=fun e'=>by rw[e',hb] at h1;cases h1
  exact⟨c,e,by show (w.heap.setIfInBounds a.block _)[a'.block]?=_;rw[hoth _ hne];exact h1,h2⟩
 ·by_cases e:id=i
  ·subst e
   rw[List.getElem?_set_self hlt] at hi
   cases hi
   rw[ha] at ha';cases ha'
   exact⟨hH,es',ck',hset,hr.step st⟩
  ·rw[List.getElem?_set_ne e] at hi
   obtain⟨h1,es2,ck2,h2,h3⟩:=S.maps i ds a' hi ha'
   have hne:a'.block≠a.block:=S.injm i id a' a ⟨ds,hi⟩ hmid (Ne.symm e) ha' ha
   exact⟨h1,es2,ck2,by show (w.heap.setIfInBounds a.block _)[a'.block]?=_;rw[hoth _ hne];exact h2,h3.step st⟩
section
variable {P:Program} {T:Tab} (hT:fL P T) {w:World} {H:Nat→Prop} {hp:List Blk} {σ:List Addr}
theorem SM {d:TypeDesc}{p:PV}{v:Value}{M:Nat→Prop}{L:Nat→Prop}(hk:oP d p=true)(hv:V w M σ L p v):p = .sc v∧Go.MapKept.IsKey d v:=by
 unfold oP at hk
 split at hk
 ·cases hv;exact⟨rfl,(of_decide_eq_true hk).symm⟩
 ·cases hv;exact⟨rfl,trivial⟩
 ·cases hv;exact⟨rfl,trivial⟩
 ·cases hk
theorem Ju (w:World)(M:Nat→Prop)(σ:List Addr)(L:Nat→Prop)(v:Value):V w M σ L (aw v) v:=by
 unfold aw
 split
 ·refine .agg _ _ (by simp) fun k c v h1 h2 => ?_
  rw[List.getElem?_map,Array.getElem?_toList,h2] at h1
  simp at h1
  subst h1
  exact .sc v
 ·exact .sc v
theorem CQ (S:Sim w H σ hp){p:PV}{v:Value}{kvs:List PV}{ids:List Nat}(h:mapOf hp p=some (kvs,ids))(hv:V w (hot H σ hp) σ (aL hp) p v) :
  (v = .map none∧kvs=[])∨∃ r es ck,v = .map (some r)∧w.heap[r]?=some (Obj.map es ck)∧dY w (hot H σ hp) σ (aL hp) kvs es.toList:=by
 unfold mapOf at h
 split at h
 ·simp only[Option.some.injEq,Prod.mk.injEq] at h
  cases hv
  exact .inl ⟨rfl,h.1.symm⟩
 ·rename_i id
  split at h
  ·rename_i kvs' hb
   simp only[Option.some.injEq,Prod.mk.injEq] at h
   obtain⟨rfl,rfl⟩:=h
   rw[cK] at hb
   cases hv with
   | mp _ a ha =>
    obtain⟨-,es,ck,h1,h2⟩:=S.maps id kvs' a hb ha
    exact .inr ⟨a.block,es,ck,rfl,h1,h2⟩
  ·cases h
 ·cases h
include hT in
theorem KA {t:TypeId}{x:PV}(h:zeroV T t=some x)(w:World):∃ z,(zeroValue t).run P w = .ok z w∧x=aw z:=by
 unfold zeroV at h
 cases hi:T t with
 | none=>simp[hi] at h
 | some i =>
  rw[hi] at h
  cases i with
  | mk desc str size bytes hp al fa zero cmp ms =>
   cases zero with
   | none=>simp at h
   | some z =>
    simp at h
    exact⟨z,by simp[zeroValue,uM hT hi],h.symm⟩
theorem C6 {w:World}{M:Nat→Prop}{σ:List Addr}{L:Nat→Prop}{q:IntKind} : ∀ {cs:List PV} {vs:List Value},yT q cs=true→cs.length=vs.length→(∀ (k:Nat) c v,cs[k]?=some c→vs[k]?=some v→V w M σ L c v) →
  cs=vs.map .sc∧∀ v ∈ vs,∃ n,v = .int q n
 | [],[],_,_,_=>⟨rfl,by simp⟩
 | c::cs,v::vs,h,hl,hr=>by
  unfold yT at h
  split at h
  ·rename_i e;cases e
  ·rename_i k n l e
   cases e
   simp only[Bool.and_eq_true,decide_eq_true_eq] at h
   obtain⟨rfl,h⟩:=h
   obtain⟨h1,h2⟩:=C6 h (by simpa using hl) (fun k c v h1 h2=>hr (k+1) c v (by simpa using h1) (by simpa using h2))
   have:=(hr 0 _ v rfl rfl).tI
   subst this
   refine⟨by rw[h1];simp,fun u hu => ?_⟩
   rcases List.mem_cons.1 hu with rfl | hu
   ·exact⟨_,rfl⟩
   ·exact h2 u hu
  ·cases h
 | [],_::_,_,h,_=>by simp at h
 | _::_,[],_,h,_=>by simp at h
theorem wA {P:Program}{w:World}{M:Nat→Prop}{σ:List Addr}{L:Nat→Prop}{e:TypeId}{q:IntKind}(hu:P.underlying e=some (.int q)){vs ks:Array Value} : ∀ {cs ds:List PV} {b:Bool} (off:Nat),oU cs ds=some b →
  yT q cs=true→(∀ (k:Nat) c,cs[k]?=some c→∃ v,vs[off+k]?=some v∧c = .sc v)→(∀ (k:Nat) c,ds[k]?=some c→∃ v,ks[off+k]?=some v∧V w M σ L c v) →
  (Op.eqItems (9998+1) e 1 vs ks (List.range' off cs.length)).run P w = .ok b w∧(b=true→cs=ds)
 | [],[],b,off,h,_,_,_=>by simp[oU] at h;subst h;simp[Op.eqItems]
 | c::cs,d::ds,b,off,h,hi,h1,h2=>by
  have hpk:P.plainKey e=true:=by simp[Program.plainKey,hu]
  obtain⟨v,g1,rfl⟩:=h1 0 c rfl
  obtain⟨v',g2,hv'⟩:=h2 0 d rfl
  unfold yT at hi
  split at hi
  ·rename_i e;cases e
  ·rename_i k n l e'
   cases e'
   simp only[Bool.and_eq_true,decide_eq_true_eq] at hi
   obtain⟨rfl,hi⟩:=hi
   unfold oU at h
   split at h
   ·rename_i e';cases e'
   ·rename_i i m a j n' bb e1 e2
    cases e1;cases e2
    have hv2:=hv'.tI
    subst hv2
    split at h
    ·rename_i hij
     subst hij
     have p1:=run_part_plain w hpk g1
     have p2:=run_part_plain w hpk g2
     have p3:=fun (k:IntKind) (a b:Int)=>run_equalIn_int w 9998 e k _ a b hu
     simp only[Nat.add_zero] at p1 p2
     simp only[List.length_cons,List.range'_succ,Op.eqItems,Sem.run_bind,Nat.mul_one,p1,p2,p3,Result.andThen_ok]
     split at h
     ·rename_i hmn
      obtain⟨q1,q2⟩:=wA hu (off+1) h hi (fun k c hk=>by
       obtain⟨u,r1,r2⟩:=h1 (k+1) c (by simpa using hk)
       exact⟨u,by rw[show off+1+k=off+(k+1) by omega];exact r1,r2⟩) (fun k c hk=>by
       obtain⟨u,r1,r2⟩:=h2 (k+1) c (by simpa using hk)
       exact⟨u,by rw[show off+1+k=off+(k+1) by omega];exact r1,r2⟩)
      rw[hmn]
      refine⟨by simpa using q1,fun hb => ?_⟩
      rw[q2 hb,beq_iff_eq.1 hmn]
     ·rename_i hmn
      simp only[Option.some.injEq] at h
      subst h
      rw[hmn]
      exact⟨by simp,by simp⟩
    ·cases h
   ·cases h
  ·cases hi
 | [],_::_,_,_,h,_,_,_=>by simp[oU] at h
 | _::_,[],_,_,h,_,_,_=>by simp[oU] at h
theorem oE {P:Program}{w:World}{e:TypeId}{q:IntKind}(hu:P.underlying e=some (.int q)){i0:TypeInfo}(hi0:P.info? e=some i0)(hs:P.cellsOf e=1){vs:Array Value}(em:Bool)(hv:∀ v ∈ vs.toList,∃ n,v = .int q n):∀ (is:List Nat),(∀ i ∈ is,i<vs.size) →
  ((forIn is PUnit.unit fun i _=>do
   let x ← sizeOf e
   let y ← part e vs (i*x)
   Instr.checkKey em (9998+1) e y
   pure (ForInStep.yield PUnit.unit):Sem PUnit)).run P w = .ok PUnit.unit w
 | [],_=>by simp
 | i::is,h=>by
  have hpk:P.plainKey e=true:=by simp[Program.plainKey,hu]
  have hlt:=h i (by simp)
  obtain⟨n,hn⟩:=hv vs[i] (by simp)
  have p1:=run_part_plain (P:=P) (xs:=vs) (off:=i) (v:=vs[i]) w hpk (Array.getElem?_eq_getElem hlt)
  have p2:(Instr.checkKey em (9998+1) e vs[i]).run P w = .ok () w:=by
   rw[hn,Instr.checkKey]
   simp only[Sem.run_bind,run_underlying hu,Result.andThen_ok]
   rfl
  have ih:=oE (w:=w) hu hi0 hs em hv is (fun j hj=>h j (by simp[hj]))
  simp only[List.forIn_cons,Sem.run_bind,run_sizeOf w hi0,hs,Result.andThen_ok,Nat.mul_one,p1,p2,Sem.run_pure]
  simpa only[Sem.run_bind] using ih
include hT in
theorem wc {M:Nat→Prop}{L:Nat→Prop}{kt:TypeId}{p:PV}{kv:Value}(h:C1 T kt p=true)(hv:V w M σ L p kv):afB P w M σ L kt p kv:=by
 unfold C1 at h
 split at h
 ·rename_i n e hd
  unfold UF at h
  split at h
  ·rename_i q s cs hue hse
   simp only[Bool.and_eq_true,beq_iff_eq] at h
   obtain⟨⟨rfl,hlen⟩,hints⟩:=h
   have hkd:=ft hT hd
   have hed:=ft hT hue
   obtain⟨i0,hi0,hs1⟩:∃ i0,P.info? e=some i0∧P.cellsOf e=1:=by
    unfold dc at hse
    cases hTe:T e with
    | none=>simp[hTe] at hse
    | some i0 =>
     simp[hTe] at hse
     have:=hT e i0 hTe
     exact⟨i0,this,by simp[Program.cellsOf,this,hse]⟩
   cases hv with
   | agg _ vs hl hr =>
    obtain⟨e1,e2⟩:=C6 (vs:=vs.toList) hints (by simpa using hl) (fun k c v h1 h2=>hr k c v h1 (by simpa using h2))
    have hsz:vs.size=n:=by rw[← hl];exact hlen
    refine⟨fun em => ?_,?_,.agg _ vs hl hr,fun ka b=>(Op.equal kt (.agg vs) ka).run P w = .ok b w,fun es i r=>(Instr.findAsking kt (.agg vs) es i).run P w = .ok r w,⟨fun i=>by simp[Instr.findAsking],fun e es i h=>by simp[Instr.findAsking,h],fun e es i r h g=>by simp[Instr.findAsking,h,g]⟩,fun a ka b ha hab => ?_,fun es r hF => ?_⟩
    ·have:=oE (w:=w) hed hi0 hs1 em e2 (List.range' 0 n) (fun i hi=>by rw[hsz];have:=(List.mem_range'.1 hi);omega)
     rw[show (10000:Nat)=9998+1+1 from rfl,Instr.checkKey]
     simp only[Sem.run_bind,run_underlying hkd,Result.andThen_ok]
     simp only[Std.Legacy.Range.forIn_eq_forIn_range',Std.Legacy.Range.size,Nat.sub_zero,Nat.add_one_sub_one,Nat.div_one]
     rw[this]
     rfl
    ·have:Instr.sameBits 10000 (.agg vs) (.agg vs)=true:=by
      rw[show (10000:Nat)=9999+1 from rfl,Instr.sameBits]
      simp only[beq_self_eq_true,Bool.true_and,List.all_eq_true]
      rintro⟨x,y⟩ hxy
      have hx:=List.of_mem_zip hxy
      have:x=y:=by
       obtain⟨k,hk,hkk⟩:=List.mem_iff_getElem.1 hxy
       simp at hkk
       rw[← hkk.1,← hkk.2]
      subst this
      obtain⟨m,rfl⟩:=e2 x hx.1
      simp[Instr.sameBits]
     simp[Instr.keyThatStays,this]
    ·unfold pY at hab
     split at hab
     ·rename_i e';cases e'
     ·rename_i e';cases e'
     ·rename_i e';cases e'
     ·rename_i a' ds e'
      cases e'
      cases ha with
      | agg _ ks hl2 hr2 =>
       obtain⟨q1,q2⟩:=wA (P:=P) (ks:=ks) hed 0 hab hints (fun k c hk=>by
        rw[e1,List.getElem?_map] at hk
        cases hvk:vs.toList[k]? with
        | none=>simp[hvk] at hk
        | some u=>simp[hvk] at hk;exact⟨u,by simpa using hvk,hk.symm⟩) (fun k c hk=>by
        have hlt:k<ks.size:=by rw[← hl2];exact cP hk
        exact⟨ks[k],by simp[hlt],hr2 k c _ hk (Array.getElem?_eq_getElem hlt)⟩)
       refine⟨?_,fun hb => ?_⟩
       ·show (Op.equalIn (9999+1) kt (.agg vs) (.agg ks)).run P w = .ok b w
        rw[run_equalIn_array w 9999 vs ks hkd hi0,hs1,List.range_eq_range',← hlen]
        exact q1
       ·have e3:=q2 hb
        subst e3
        congr 1
        apply Array.ext
        ·rw[← hl2,hl]
        ·intro k h1 h2
         have hk:cs[k]?=some (.sc vs[k]):=by rw[e1];simp[h2]
         exact (hr2 k _ _ hk (Array.getElem?_eq_getElem h1)).tI
     ·cases hab
    ·rw[run_findKey_eq w (by rw[hkd])]
     exact hF
  ·cases h
 ·rename_i d hna hd
  obtain⟨rfl,hik⟩:=SM h hv
  have hkd:=ft hT hd
  exact⟨fun em=>Go.MapKept.run_checkKey hkd hik em _,Go.MapKept.run_keyThatStays hik,hv,fun ka b=>Instr.sameNow d kv ka=some b,fun es i r=>Instr.findNow d kv es i=some r,⟨fun i=>rfl,fun e es i h=>by simp[Instr.findNow,h],fun e es i r h g=>by simp[Instr.findNow,h,g]⟩,fun a ka b ha hab=>by
   obtain⟨ka',rfl⟩:∃ ka',a = .sc ka':=by
    unfold pY at hab
    split at hab <;> first | exact⟨_,rfl⟩| (rename_i e1;cases e1;done) | (rename_i e1 _;cases e1;done) | (rename_i e1 _ _;cases e1;done) | (rename_i e1 _ _ _;cases e1;done) | cases hab
   rw[ha.tI]
   exact GX h rfl rfl hab,fun es r hF=>Go.MapKept.run_findKey hkd hF⟩
 ·cases h
include hT in
theorem Si (S:Sim w H σ hp){t:TypeId}{m k r:PV}{ok:Bool}{vm vk:Value}{ids:List Nat}(h:yM T hp t m k ok=some (r,ids))(hm:V w (hot H σ hp) σ (aL hp) m vm)(hk:V w (hot H σ hp) σ (aL hp) k vk) :
  ∃ v,(Instr.lookup t vm vk ok).run P w = .ok v w∧V w (hot H σ hp) σ (aL hp) r v:=by
 unfold yM at h
 split at h
 ·rename_i kt e kvs ids' hu hmo
  split at h
  ·rename_i hko
   obtain⟨hck,-,-,same,F,hF,hE,hfk⟩:=wc (P:=P) hT hko hk
   have hmap:=ft hT hu
   have main:∀ es:List MapEntry,dY w (hot H σ hp) σ (aL hp) kvs es→∀ em,∃ v,((do
     Instr.checkKey em 10000 kt vk
     let (v,b) ← match ← Instr.findKey kt vk es with
      | some (_,v)=>pure (v,true)
      | none=>pure (← zeroValue e,false)
     pure (if ok then Value.tuple #[v,.bool b] else v):Sem Value)).run P w = .ok v w∧V w (hot H σ hp) σ (aL hp) r v:=by
    intro es hes em
    split at h
    ·rename_i x hf
     simp only[Option.some.injEq,Prod.mk.injEq] at h
     obtain⟨rfl,rfl⟩:=h
     obtain⟨j,en,g1,g2⟩:=AA hF hE 0 hes hf
     refine⟨if ok=true then Value.tuple #[en.val,Value.bool true] else en.val,by simp[hck,hfk _ _ g1,Result.andThen],?_⟩
     cases ok with
     | false=>exact g2
     | true =>
      refine .tup _ _ rfl fun i c v h1 h2 => ?_
      match i with
      | 0=>simp at h1 h2;subst h1;subst h2;exact g2
      | 1=>simp at h1 h2;subst h1;subst h2;exact .sc _
      | n+2=>simp at h1
    ·rename_i z hf hz
     simp only[Option.some.injEq,Prod.mk.injEq] at h
     obtain⟨rfl,rfl⟩:=h
     have g1:=AA hF hE 0 hes hf
     obtain⟨zv,hz1,rfl⟩:=KA (P:=P) hT hz w
     refine⟨if ok=true then Value.tuple #[zv,Value.bool false] else zv,by simp[hck,hfk _ _ g1,hz1,Result.andThen],?_⟩
     cases ok with
     | false=>exact Ju _ _ _ _ _
     | true =>
      refine .tup _ _ rfl fun i c v h1 h2 => ?_
      match i with
      | 0=>simp at h1 h2;subst h1;subst h2;exact Ju _ _ _ _ _
      | 1=>simp at h1 h2;subst h1;subst h2;exact .sc _
      | n+2=>simp at h1
    ·cases h
   rcases CQ S hmo hm with ⟨rfl,rfl⟩| ⟨rr,es,ck,rfl,hb,hrel⟩
   ·obtain⟨v,h1,h2⟩:=main [] trivial true
    refine⟨v,?_,h2⟩
    rw[← h1]
    simp[Instr.lookup,run_underlying hmap]
    rfl
   ·obtain⟨v,h1,h2⟩:=main es.toList hrel es.isEmpty
    refine⟨v,?_,h2⟩
    rw[← h1]
    simp[Instr.lookup,run_underlying hmap,Go.MapKept.run_getObj_map hb]
    rfl
  ·cases h
 ·cases h
include hT in
theorem Y0 (S:Sim w H σ hp){t:TypeId}{m r:PV}{vm:Value}{ids:List Nat}(h:MB T hp t m=some (r,ids))(hm:V w (hot H σ hp) σ (aL hp) m vm)(ty:TypeId) :
  ∃ v,(Builtin.len_ #[t] ty #[vm]).run P w = .ok v w∧V w (hot H σ hp) σ (aL hp) r v:=by
 unfold MB at h
 split at h
 ·rename_i kt e kvs ids' hu hmo
  simp only[Option.some.injEq,Prod.mk.injEq] at h
  obtain⟨rfl,rfl⟩:=h
  have hmap:=ft hT hu
  rcases CQ S hmo hm with ⟨rfl,rfl⟩| ⟨rr,es,ck,rfl,hb,hrel⟩
  ·exact⟨_,by simp[Builtin.len_,run_underlying hmap,goInt];rfl,.sc _⟩
  ·refine⟨.int .i64 (es.size:Nat),by simp[Builtin.len_,run_underlying hmap,goInt,Go.MapKept.run_getObj_map hb],?_⟩
   rw[I2 hrel,Array.length_toList]
   exact .sc _
 ·cases h
include hT in
theorem H6 (S:Sim w H σ hp){t:TypeId}{m k x:PV}{vm vk vx:Value}{hp':List Blk}{id:Nat}(h:zE T hp t m k x=some (hp',id))(hm:V w (hot H σ hp) σ (aL hp) m vm)(hk:V w (hot H σ hp) σ (aL hp) k vk)(hx:V w (hot H σ hp) σ (aL hp) x vx) :
  ∃ w',(Instr.mapUpdate t vm vk vx).run P w = .ok () w'∧Sim w' H σ hp'∧Step w (cM σ hp) σ (aL hp) w' (cM σ hp') σ (aL hp'):=by
 unfold zE at h
 split at h
 ·rename_i kt e i hu
  split at h
  ·rename_i hko
   obtain⟨hck,hst,hvk,same,F,hF,hE,hfk⟩:=wc (P:=P) hT hko hk
   have hmap:=ft hT hu
   split at h
   ·rename_i kvs hb
    split at h
    ·rename_i l hl
     simp only[Option.some.injEq,Prod.mk.injEq] at h
     obtain⟨rfl,rfl⟩:=h
     rw[cK] at hb
     rw[fH]
     cases hm with
     | mp _ a ha =>
      obtain⟨-,es,ck,g1,g2⟩:=S.maps i kvs a hb ha
      rcases QN hF hE hvk hx 0 g2 hl with ⟨q1,q2⟩| ⟨j,en,q1,q2,q3,q4⟩
      ·obtain⟨s1,s2⟩:=lE (es':=es.push { key:=vk,val:=vx,born:=ck }) (ck':=ck+1) S hb ha (by simpa using q2 ck)
       refine⟨_,?_,s1,s2⟩
       simp[Instr.mapUpdate,run_underlying hmap,Go.MapKept.run_getObj_map g1,hck,hfk _ _ q1,Go.MapKept.run_setObj_map _ g1,Result.andThen]
      ·have hj:es[j]?=some en:=by simpa using q2
       obtain⟨hlt,hget⟩:=Array.getElem?_eq_some_iff.1 hj
       have hmod:(es.modify j fun e=>{ e with key:=vk,val:=vx }).toList=es.toList.set j { en with key:=vk,val:=vx } := by
        apply List.ext_getElem?
        intro n
        rw[Array.getElem?_toList,Array.getElem?_modify,List.getElem?_set]
        by_cases e:j=n
        ·subst e
         have hlt:=(Array.getElem?_eq_some_iff.1 hj).1
         simp[hlt,hget]
        ·simp[e]
       obtain⟨s1,s2⟩:=lE (es':=es.modify j fun e=>{ e with key:=vk,val:=vx }) (ck':=ck) S hb ha (by rw[hmod];exact q4)
       refine⟨_,?_,s1,s2⟩
       rw[Nat.zero_add] at q1
       simp[Instr.mapUpdate,run_underlying hmap,Go.MapKept.run_getObj_map g1,hck,hfk _ _ q1,hj,q3,hst,Go.MapKept.run_setObj_map _ g1,Result.andThen]
    ·cases h
   ·cases h
  ·cases h
 ·cases h
include hT in
theorem ZN (S:Sim w H σ hp){t tk ty:TypeId}{m k:PV}{vm vk:Value}{hp':List Blk}{id:Nat}(h:Dt T hp t m k=some (hp',id))(hm:V w (hot H σ hp) σ (aL hp) m vm)(hk:V w (hot H σ hp) σ (aL hp) k vk) :
  ∃ w',(Builtin.delete_ #[t,tk] ty #[vm,vk]).run P w = .ok (.tuple #[]) w'∧Sim w' H σ hp'∧Step w (cM σ hp) σ (aL hp) w' (cM σ hp') σ (aL hp'):=by
 unfold Dt at h
 split at h
 ·rename_i kt e i hu
  split at h
  ·rename_i hko
   obtain⟨hck,hst,hvk,same,F,hF,hE,hfk⟩:=wc (P:=P) hT hko hk
   have hmap:=ft hT hu
   split at h
   ·rename_i kvs hb
    split at h
    ·rename_i l hl
     simp only[Option.some.injEq,Prod.mk.injEq] at h
     obtain⟨rfl,rfl⟩:=h
     rw[cK] at hb
     rw[fH]
     cases hm with
     | mp _ a ha =>
      obtain⟨-,es,ck,g1,g2⟩:=S.maps i kvs a hb ha
      rcases TQ hF hE 0 g2 hl with ⟨q1,q2⟩| ⟨j,en,q1,q2,q3⟩
      ·obtain⟨s1,s2⟩:=lE (es':=es) (ck':=ck) S hb ha q2
       refine⟨_,?_,s1,s2⟩
       simp[Builtin.delete_,run_underlying hmap,Go.MapKept.run_getObj_map g1,hck,hfk _ _ q1,Go.MapKept.run_setObj_map _ g1,Result.andThen]
      ·have hj:es[j]?=some en:=by simpa using q2
       obtain⟨hlt,hget⟩:=Array.getElem?_eq_some_iff.1 hj
       have hmod:(es.eraseIdxIfInBounds j).toList=es.toList.eraseIdx j:=by
        unfold Array.eraseIdxIfInBounds
        rw[dif_pos hlt,Array.toList_eraseIdx]
       obtain⟨s1,s2⟩:=lE (es':=es.eraseIdxIfInBounds j) (ck':=ck) S hb ha (by rw[hmod];exact q3)
       refine⟨_,?_,s1,s2⟩
       rw[Nat.zero_add] at q1
       simp[Builtin.delete_,run_underlying hmap,Go.MapKept.run_getObj_map g1,hck,hfk _ _ q1,Go.MapKept.run_setObj_map _ g1,Result.andThen]
    ·cases h
   ·cases h
  ·cases h
 ·cases h
end
end Go.Ab
