/- An abstract interpreter over the model's code and its soundness, part 4; each lemma states its conditions. -/
import Derived.Test.YtjdmodeenbdfpaaGreatU03
import Derived.Laws.IdiomStrings
import Derived.Laws.MakeOwn
set_option linter.unusedSimpArgs false
set_option linter.unusedVariables false
namespace Go.Ab
open Go List
section
variable {P:Program} {T:Tab} (hT:gh P T) {w:World} {M:Nat→Prop} {L:Nat→Prop} {σ:List Addr}
def OV (w:World)(M:Nat→Prop)(σ:List Addr)(L:Nat→Prop):Option PV→Option Value→Prop
 | none,none=>True
 | some p,some v=>V w M σ L p v
 | _,_=>False
theorem jB {p:PV}{v:Value}{n:Nat}(h:gI p=some n)(hv:V w M σ L p v):∃ k,v = .int k (n:Int):=by
 unfold gI at h
 split at h
 ·cases hv;simp at h;subst h;exact⟨_,rfl⟩
 ·cases h
theorem gl {n y:Nat}(h:n≤y)(k:IntKind)(c:BoundsCode):(Instr.sliceBound (.int k (n:Int)) y c).run P w = .ok n w:=by
 have:(0:Int)≤(n:Int)∧(n:Int)≤(y:Int):=by omega
 simp only[Instr.sliceBound,asIntOf,pure_bind,if_pos this]
 simp
theorem pd {d n:Nat}{o:Option PV}{o':Option Value}(h:fG d o=some n)(ho:OV w M σ L o o'):(o'=none∧n=d)∨∃ k,o'=some (.int k (n:Int)):=by
 cases o with
 | none=>cases o' with
  | none=>simp[fG] at h;exact .inl ⟨rfl,h.symm⟩
  | some v=>exact ho.elim
 | some p=>cases o' with
  | none=>exact ho.elim
  | some v =>
   obtain⟨k,e⟩:=jB h ho
   exact .inr ⟨k,by rw[e]⟩
theorem tu {len l h:Nat}{m:Option Nat}{lo hi mx:Option PV}{lo' hi' mx':Option Value}(hb:bnd len lo hi mx=some (l,h,m))(h1:OV w M σ L lo lo')(h2:OV w M σ L hi hi')(h3:OV w M σ L mx mx')
  (isS:Bool) {cap:Nat} (hcap:len≤cap) :
  (Instr.sliceBounds isS len cap lo' hi' mx').run P w = .ok (l,h,m.getD cap) w∧l≤h∧h≤len∧(∀ k,m=some k→h≤k∧k≤len)∧(m=none→mx'=none):=by
 unfold bnd at hb
 split at hb
 ·rename_i l0 h0 hl hh
  split at hb
  ·rename_i hc
   simp at hb
   obtain⟨rfl,rfl,rfl⟩:=hb
   cases mx' with
   | some v=>exact h3.elim
   | none =>
    refine⟨?_,hc.1,hc.2,(fun k hk=>by cases hk),fun _=>rfl⟩
    rcases pd hl h1 with ⟨e1,e2⟩| ⟨k1,e1⟩ <;> rcases pd hh h2 with ⟨e3,e4⟩| ⟨k2,e3⟩ <;> subst e1 <;> subst e3
    ·subst e2;subst e4;simp[Instr.sliceBounds]
    ·subst e2;simp[Instr.sliceBounds,gl (P:=P) (w:=w) (show h0≤cap by omega)]
    ·subst e4;simp[Instr.sliceBounds,gl (P:=P) (w:=w) hc.1]
    ·simp[Instr.sliceBounds,gl (P:=P) (w:=w) (show h0≤cap by omega),gl (P:=P) (w:=w) hc.1]
  ·cases hb
 ·rename_i l0 h0 pm ph hl hh
  split at hb
  ·rename_i m0 hm0
   split at hb
   ·rename_i hc
    simp at hb
    obtain⟨rfl,rfl,rfl⟩:=hb
    cases mx' with
    | none=>exact h3.elim
    | some vm =>
     obtain⟨km,rfl⟩:=jB hm0 h3
     refine⟨?_,hc.1,by omega,(fun k hk=>by cases hk;exact⟨hc.2.1,hc.2.2⟩),fun e=>by cases e⟩
     rcases pd hh h2 with ⟨e3,e4⟩| ⟨k2,e3⟩
     ·subst e3;exact h2.elim
     ·subst e3
      rcases pd hl h1 with ⟨e1,e2⟩| ⟨k1,e1⟩ <;> subst e1
      ·subst e2;simp[Instr.sliceBounds,gl (P:=P) (w:=w) (show m0≤cap by omega),gl (P:=P) (w:=w) hc.2.1]
      ·simp[Instr.sliceBounds,gl (P:=P) (w:=w) (show m0≤cap by omega),gl (P:=P) (w:=w) hc.2.1,gl (P:=P) (w:=w) hc.1]
   ·cases hb
  ·cases hb
 ·cases hb
theorem At.imm {a:Addr}{cs:Ψ}{len cap:Nat}{x:Bool}(g:Nat→Value)(h:∀ (k:Nat) c,cs[k]?=some c→a.spot=none∧c.cG=true ∧ ¬ M a.block∧w.cell? ⟨a.block,a.off+k,none⟩=some (g k))
  (hv:∀ (k:Nat) c,cs[k]?=some c→V w M σ L c (g k)) (off n:Nat) (hl:len≤cap) (hx:x=true→cap=len) (b:Addr) (hb:0<n→b=a.add off):V w M σ L (.imm len x ((cs.drop off).take n)) (.slice (some b) len cap):=by
 refine .imm len x _ b cap (fun k=>g (off+k)) hl hx (fun k c hk => ?_) (fun k c hk => ?_)
 ·rw[getElem?_take] at hk
  split at hk
  ·rename_i hkn
   rw[getElem?_drop] at hk
   obtain⟨e1,e2,e3,e4⟩:=h _ c hk
   have eb:=hb (by omega)
   rw[gf e1] at eb
   subst eb
   exact⟨rfl,e2,e3,by rw[Nat.add_assoc];exact e4⟩
  ·cases hk
 ·rw[getElem?_take] at hk
  split at hk
  ·rw[getElem?_drop] at hk;exact hv _ c hk
  ·cases hk
include hT in
theorem GS {t e:TypeId}(hu:und T t=some (.slice e)){p r:PV}{v:Value}{lo hi mx:Option PV}{lo' hi' mx':Option Value}(h:jg T e p lo hi mx=some r)(hv:V w M σ L p v)
  (h1:OV w M σ L lo lo') (h2:OV w M σ L hi hi') (h3:OV w M σ L mx mx'):∃ u,(Instr.slice t v lo' hi' mx').run P w = .ok u w∧V w M σ L r u:=by
 unfold jg at h
 cases hs:dm T e with
 | none=>simp[hs] at h
 | some s =>
  simp only[hs] at h
  have run:∀ (a:Option Addr) (len cap l h:Nat) (m:Option Nat),(Instr.sliceBounds true len cap lo' hi' mx').run P w = .ok (l,h,m.getD cap) w →
    (Instr.slice t (.slice a len cap) lo' hi' mx').run P w = .ok (.slice (if m.getD cap=l then a else a.map (·.add (l*s))) (h - l) (m.getD cap - l)) w:=by
   intro a len cap l h m hb
   simp only[Instr.slice,Sem.run_bind,dz hT hu,Result.andThen_ok,hb,fH hT hs]
   rfl
  split at h
  ·cases hv
   split at h
   ·rename_i x hb
    obtain⟨l,hh,m⟩:=x
    simp at h;subst h
    obtain⟨hr,hl,hh',hm,hn⟩:=tu (P:=P) hb h1 h2 h3 true (cap:=0) (Nat.le_refl _)
    have e1:hh=0:=by omega
    have e2:l=0:=by omega
    have e3:m.getD 0=0:=by
     cases m with
     | none=>rfl
     | some k=>have:=(hm k rfl).2;simp;omega
    subst e1;subst e2
    refine⟨_,run none 0 0 0 0 m hr,?_⟩
    rw[e3];exact .sc _
   ·cases h
  ·rename_i len x cs
   split at h
   ·rename_i l hh m hb
    split at h
    ·rename_i hcs
     cases ht:bF (bz cs (l*s)) ((hh - l)*s) with
     | none=>simp[ht] at h
     | some c =>
      simp[ht] at h;subst h
      obtain⟨hle,rfl⟩:=ft ht
      rw[cD] at *
      cases hv with
      | nil x =>
       obtain⟨hr,hl,hh',hm,hn⟩:=tu (P:=P) hb h1 h2 h3 true (cap:=0) (Nat.le_refl _)
       have e1:hh=0:=by omega
       have e2:l=0:=by omega
       have e3:m.getD 0=0:=by
        cases m with
        | none=>rfl
        | some k=>have:=(hm k rfl).2;simp;omega
       subst e1;subst e2
       refine⟨_,run none 0 0 0 0 m hr,?_⟩
       rw[e3];simp;exact .nil _
      | imm _ _ _ a cap g g1 g2 g3 g4 =>
       obtain⟨hr,hl,hh',hm,hn⟩:=tu (P:=P) hb h1 h2 h3 true g1
       refine⟨_,run (some a) len cap l hh m hr,?_⟩
       have hmc:hh≤m.getD cap:=by
        cases m with
        | none=>simp;omega
        | some k=>have:=(hm k rfl).1;simp;omega
       have hfull:gS x len hh m=true→m.getD cap - l=hh - l:=by
        intro hf
        cases m with
        | none =>
         simp[gS] at hf
         have:=g2 hf.1
         simp;omega
        | some k=>simp[gS] at hf;simp;omega
       have key:=At.imm (x:=gS x len hh m) (len:=hh - l) (cap:=m.getD cap - l) g g3 g4 (l*s) ((hh - l)*s) (by omega) hfull (if m.getD cap=l then a else a.add (l*s)) (fun hpos=>by
        rw[if_neg]
        intro e
        have:hh - l=0:=by omega
        rw[this] at hpos;simp at hpos)
       have e:(if m.getD cap=l then some a else Option.map (fun x=>x.add (l*s)) (some a))=some (if m.getD cap=l then a else a.add (l*s)):=by split <;> rfl
       rw[e];exact key
    ·cases h
   ·cases h
  ·rename_i id s' off len x
   split at h
   ·rename_i l hh m hb
    split at h
    ·rename_i hss
     simp at h;subst h;subst hss
     cases hv with
     | own _ _ _ _ _ a b cap g1 g2 g3 g4 g5 =>
      obtain⟨hr,hl,hh',hm,hn⟩:=tu (P:=P) hb h1 h2 h3 true g2
      refine⟨_,run (some b) len cap l hh m hr,?_⟩
      have hmc:hh≤m.getD cap∧m.getD cap≤cap:=by
       cases m with
       | none=>simp;omega
       | some k=>have:=hm k rfl;simp;omega
      have hfull:gS x len hh m=true→m.getD cap - l=hh - l:=by
       intro hf
       cases m with
       | none =>
        simp[gS] at hf
        have:=g3 hf.1
        simp;omega
       | some k=>simp[gS] at hf;simp;omega
      have e:(if m.getD cap=l then some b else Option.map (fun x=>x.add (l*s)) (some b))=some (if m.getD cap=l then b else b.add (l*s)):=by split <;> rfl
      rw[e]
      refine .own id s (off+l*s) (hh - l) _ a _ _ g1 (by omega) hfull (fun hpos => ?_) (fun hL => ?_)
      ·rw[if_neg (by omega)]
       have eb:=g4 (by omega)
       subst eb
       rw[gf rfl];simp[Nat.add_assoc]
      ·obtain⟨c,e',hc,hsz⟩:=g5 hL
       refine⟨c,e',hc,?_⟩
       have hm1:(m.getD cap - l)*s+l*s≤cap*s:=by
        rw[← Nat.add_mul];exact Nat.mul_le_mul_right s (by omega)
       omega
    ·cases h
   ·cases h
  ·cases h
end
section
variable {P:Program} {T:Tab} (hT:gh P T) {w:World} {M:Nat→Prop} {L:Nat→Prop} {σ:List Addr}
theorem extract_eq (s:ByteArray)(l h:Nat):s.extract l h=mkStr (((bO s).take h).drop l):=by
 rw[← gq (s.extract l h)]
 congr 1
 simp[bO,ByteArray.data_extract]
 rw[drop_take]
include hT in
theorem C8 {t:TypeId}(hu:und T t=some .string){s:ByteArray}{r:PV}{lo hi mx:Option PV}{lo' hi' mx':Option Value}(h:dT s lo hi mx=some r)
  (h1:OV w M σ L lo lo') (h2:OV w M σ L hi hi') (h3:OV w M σ L mx mx'):∃ u,(Instr.slice t (.string s) lo' hi' mx').run P w = .ok u w∧V w M σ L r u:=by
 unfold dT at h
 split at h
 ·rename_i l hh hb
  simp at h;subst h
  rw[fS] at hb
  obtain⟨hr,hl,hh',hm,hn⟩:=tu (P:=P) hb h1 h2 h3 false (Nat.le_refl _)
  have:=hn rfl
  subst this
  refine⟨.string (s.extract l hh),?_,by rw[extract_eq];exact .sc _⟩
  simp only[Instr.slice,Sem.run_bind,dz hT hu,Result.andThen_ok]
  simp[hr]
 ·cases h
theorem yM {H:Nat→Prop}{hp:Θ}(S:Sim w H σ hp){id off:Nat}{a:Addr}{cs:Ψ}(hb:hp[id]?=some ⟨.live,cs⟩)(ha:σ[id]?=some a)(hle:off≤cs.length) :
  ∃ (c:Array Value) (e:TypeId),w.heap[a.block]?=some (Obj.cells c e (0,0))∧a.off+off≤c.size:=by
 obtain⟨c,e,h1,h2⟩:=S.live id a cs hb ha
 exact⟨c,e,h1,by omega⟩
include hT in
theorem C9 {t e:TypeId}{n:Nat}(hu:und T t=some (.array n e)){H:Nat→Prop}{hp:Θ}(S:Sim w H σ hp){p r:PV}{v:Value}{lo hi mx:Option PV}{lo' hi' mx':Option Value}
  (h:qA T hp n e p lo hi mx=some r) (hv:V w (hot H σ hp) σ (aQ hp) p v)
  (h1:OV w (hot H σ hp) σ (aQ hp) lo lo') (h2:OV w (hot H σ hp) σ (aQ hp) hi hi') (h3:OV w (hot H σ hp) σ (aQ hp) mx mx') :
  ∃ u,(Instr.sliceAt t v lo' hi' mx').run P w = .ok u w∧V w (hot H σ hp) σ (aQ hp) r u:=by
 unfold qA at h
 split at h
 ·rename_i s l hh m hs hb
  obtain⟨hr,hl,hh',hm,hn⟩:=tu (P:=P) hb h1 h2 h3 false (Nat.le_refl _)
  have run:∀ a:Addr,(Instr.sliceAt t (.pointer (some a)) lo' hi' mx').run P w = .ok (.slice (some (if m.getD n=l then a else a.add (l*s))) (hh - l) (m.getD n - l)) w:=by
   intro a
   simp only[Instr.sliceAt,Sem.run_bind,dz hT hu,Result.andThen_ok,Instr.sureAddr,Sem.run_pure,hr,fH hT hs]
  have hmc:hh≤m.getD n∧m.getD n≤n:=by
   cases m with
   | none=>simp;omega
   | some k=>have:=hm k rfl;simp;omega
  have hfull:gS true n hh m=true→m.getD n - l=hh - l:=by
   intro hf
   cases m with
   | none=>simp[gS] at hf;simp;omega
   | some k=>simp[gS] at hf;simp;omega
  split at h
  ·rename_i id off
   cases hv with
   | ptr _ _ a ha =>
    split at h
    ·rename_i cs hcs
     rw[cY] at hcs
     split at h
     ·rename_i hle
      simp at h;subst h
      refine⟨_,run _,.own id s (off+l*s) (hh - l) _ a _ _ ha (by omega) hfull (fun hpos => ?_) (fun _ => ?_)⟩
      ·rw[if_neg (by omega),gf rfl];simp[Nat.add_assoc]
      ·obtain⟨c,e',hc,hsz⟩:=yM S hcs ha hle
       refine⟨c,e',hc,?_⟩
       have hm1:(m.getD n - l)*s+l*s≤n*s:=by
        rw[← Nat.add_mul];exact Nat.mul_le_mul_right s (by omega)
       omega
     ·cases h
    ·cases h
  ·rename_i cs
   cases hv with
   | iptr _ a g g1 g2 =>
    cases ht:bF (bz cs (l*s)) ((hh - l)*s) with
    | none=>simp[ht] at h
    | some c =>
     simp[ht] at h;subst h
     obtain⟨hle,rfl⟩:=ft ht
     rw[cD] at *
     refine⟨_,run a,?_⟩
     exact At.imm g g1 g2 (l*s) ((hh - l)*s) (by omega) hfull _ (fun hpos=>by
      rw[if_neg]
      intro e
      have:hh - l=0:=by omega
      rw[this] at hpos;simp at hpos)
  ·cases h
 ·cases h
include hT in
theorem MD {t:TypeId}{H:Nat→Prop}{hp:Θ}(S:Sim w H σ hp){p r:PV}{v:Value}{lo hi mx:Option PV}{lo' hi' mx':Option Value}
  (h:dH T hp t p lo hi mx=some r) (hv:V w (hot H σ hp) σ (aQ hp) p v)
  (h1:OV w (hot H σ hp) σ (aQ hp) lo lo') (h2:OV w (hot H σ hp) σ (aQ hp) hi hi') (h3:OV w (hot H σ hp) σ (aQ hp) mx mx') :
  ∃ u,(Instr.sliceAt t v lo' hi' mx').run P w = .ok u w∧V w (hot H σ hp) σ (aQ hp) r u:=by
 unfold dH at h
 split at h
 ·rename_i hu
  split at h
  ·cases hv
   obtain⟨u,h4,h5⟩:=C8 hT hu h h1 h2 h3
   exact⟨u,by simp only[Instr.sliceAt,Sem.run_bind,dz hT hu,Result.andThen_ok];exact h4,h5⟩
  ·cases h
 ·rename_i e hu
  obtain⟨u,h4,h5⟩:=GS hT hu h hv h1 h2 h3
  exact⟨u,by simp only[Instr.sliceAt,Sem.run_bind,dz hT hu,Result.andThen_ok];exact h4,h5⟩
 ·rename_i n e hu
  exact C9 hT hu S h hv h1 h2 h3
 ·cases h
theorem tc {cs:Ψ}{a:Addr}{n:Nat}(h:V w M σ L (.iptr cs) (.pointer (some a))):V w M σ L (.iptr (cs.drop n)) (.pointer (some (a.add n))):=by
 cases h with
 | iptr _ _ g g1 g2 =>
  refine .iptr _ _ (fun k=>g (n+k)) (fun k c hk => ?_) (fun k c hk => ?_)
  ·rw[getElem?_drop] at hk
   obtain⟨e1,e2,e3,e4⟩:=g1 _ c hk
   rw[gf e1]
   exact⟨rfl,e2,e3,by simp only[Nat.add_assoc];exact e4⟩
  ·rw[getElem?_drop] at hk;exact g2 _ c hk
theorem V.vt {id off:Nat}{v:Value}(h:V w M σ L (.ptr id off) v):∃ a,σ[id]?=some a∧v = .pointer (some ⟨a.block,a.off+off,none⟩):=by
 cases h with | ptr _ _ a ha=>exact⟨a,ha,rfl⟩
theorem V.xL {cs:Ψ}{v:Value}(h:V w M σ L (.iptr cs) v):∃ a,v = .pointer (some a):=by
 cases h with | iptr _ a=>exact⟨a,rfl⟩
include hT in
theorem yX {t:TypeId}{i:Nat}{p r:PV}{v:Value}(h:bN T t p i=some r)(hv:V w M σ L p v):∃ u,(Instr.fieldAt t v i).run P w = .ok u w∧V w M σ L r u:=by
 unfold bN at h
 split at h
 ·rename_i fields hu
  split at h
  ·rename_i f hf
   have run:∀ (a:Addr) (m:Nat),dm T f.type=some (m+1)→(Instr.fieldAt t (.pointer (some a)) i).run P w = .ok (.pointer (some (a.add f.offset))) w:=by
    intro a m hs
    simp[Instr.fieldAt,dz hT hu,hf,Instr.sureAddr,fieldPlace,fH hT hs]
   split at h
   ·rename_i m id off hs
    simp at h;subst h
    obtain⟨a,ha,rfl⟩:=hv.vt
    refine⟨_,run _ m hs,?_⟩
    rw[gf rfl]
    have:=V.ptr (w:=w) (M:=M) (L:=L) id (off+f.offset) a ha
    simpa [Nat.add_assoc] using this
   ·rename_i m cs hs
    simp at h;subst h
    obtain⟨a,rfl⟩:=hv.xL
    rw[cD]
    exact⟨_,run a m hs,tc hv⟩
   ·cases h
  ·cases h
 ·cases h
include hT in
theorem O8 {t:TypeId}{i:Nat}{p r:PV}{v:Value}(h:I2 T t p i=some r)(hv:V w M σ L p v):∃ u,(Instr.field t v i).run P w = .ok u w∧V w M σ L r u:=by
 unfold I2 at h
 split at h
 ·rename_i fields cs hu
  split at h
  ·rename_i f hf
   cases hv with
   | agg _ vs h1 h2 =>
    obtain⟨u,h3,h4⟩:=xr (w:=w) hT h h1 h2
    exact⟨u,by simp[Instr.field,dz hT hu,hf,asAgg,h3],h4⟩
  ·cases h
 ·cases h
include hT in
theorem yU {t:TypeId}{p q r:PV}{v u:Value}(h:bc T t p q=some r)(hv:V w M σ L p v)(hq:V w M σ L q u):∃ z,(Instr.indexAt t v u).run P w = .ok z w∧V w M σ L r z:=by
 unfold bc at h
 split at h
 ·rename_i e i hu hi
  obtain⟨k,rfl⟩:=jB hi hq
  have run:∀ (a:Addr) (len cap s:Nat),dm T e=some s→i<len→(Instr.indexAt t (.slice (some a) len cap) (.int k (i:Int))).run P w = .ok (.pointer (some (a.add (i*s)))) w:=by
   intro a len cap s hs hlt
   have:(0:Int)≤(i:Int)∧(i:Int)<(len:Int):=by omega
   simp only[Instr.indexAt,Sem.run_bind,asIntOf,Sem.run_pure,Result.andThen_ok,dz hT hu,if_pos this,fH hT hs]
   rfl
  split at h
  ·rename_i s len x cs hs
   split at h
   ·rename_i hlt
    simp at h;subst h
    rw[cD]
    cases hv with
    | nil=>omega
    | imm _ _ _ a cap g g1 g2 g3 g4 =>
     refine⟨_,run a len cap s hs hlt,tc (.iptr cs a g g3 g4)⟩
   ·cases h
  ·rename_i s id s' off len x hs
   split at h
   ·rename_i hlt
    simp at h;subst h
    cases hv with
    | own _ _ _ _ _ a b cap g1 g2 g3 g4 g5 =>
     have eb:=g4 (by omega)
     subst eb
     refine⟨_,run _ len cap s hs hlt.1,?_⟩
     rw[gf rfl]
     have:=V.ptr (w:=w) (M:=M) (L:=L) id (off+i*s) a g1
     simpa [Nat.add_assoc] using this
   ·cases h
  ·cases h
 ·rename_i n e i hu hi
  obtain⟨k,rfl⟩:=jB hi hq
  have run:∀ (a:Addr) (s:Nat),dm T e=some s→i<n→(Instr.indexAt t (.pointer (some a)) (.int k (i:Int))).run P w = .ok (.pointer (some (a.add (i*s)))) w:=by
   intro a s hs hlt
   have:(0:Int)≤(i:Int)∧(i:Int)<(n:Int):=by omega
   simp only[Instr.indexAt,Sem.run_bind,asIntOf,Sem.run_pure,Result.andThen_ok,dz hT hu,Instr.sureAddr,if_pos this,fH hT hs]
   rfl
  split at h
  ·rename_i s id off hs
   split at h
   ·rename_i hlt
    simp at h;subst h
    obtain⟨a,ha,rfl⟩:=hv.vt
    refine⟨_,run _ s hs hlt,?_⟩
    rw[gf rfl]
    have:=V.ptr (w:=w) (M:=M) (L:=L) id (off+i*s) a ha
    simpa [Nat.add_assoc] using this
   ·cases h
  ·rename_i s cs hs
   split at h
   ·rename_i hlt
    simp at h;subst h
    obtain⟨a,rfl⟩:=hv.xL
    rw[cD]
    exact⟨_,run a s hs hlt,tc hv⟩
   ·cases h
  ·cases h
 ·cases h
theorem La (l:List UInt8)(n:Nat):EB l n=l[n]?:=by
 induction l generalizing n with
 | nil=>simp[EB]
 | cons a l ih=>cases n <;> simp[EB,ih]
include hT in
theorem OY {t:TypeId}{p q r:PV}{v u:Value}(h:ic T t p q=some r)(hv:V w M σ L p v)(hq:V w M σ L q u):∃ z,(Instr.index t v u).run P w = .ok z w∧V w M σ L r z:=by
 unfold ic at h
 split at h
 ·rename_i n e cs i hu hi
  obtain⟨k,rfl⟩:=jB hi hq
  split at h
  ·rename_i s hs
   split at h
   ·rename_i hlt
    cases hv with
    | agg _ vs h1 h2 =>
     obtain⟨z,h3,h4⟩:=xr (w:=w) hT h h1 h2
     have:(0:Int)≤(i:Int)∧(i:Int)<(n:Int):=by omega
     refine⟨z,?_,h4⟩
     simp only[Instr.index,Sem.run_bind,asIntOf,Sem.run_pure,Result.andThen_ok,dz hT hu,if_pos this,fH hT hs]
     exact h3
   ·cases h
  ·cases h
 ·rename_i s i hu hi
  obtain⟨k,rfl⟩:=jB hi hq
  cases hv
  rw[La] at h
  cases hb:(bO s)[i]? with
  | none=>simp[hb] at h
  | some b =>
   simp[hb] at h;subst h
   refine⟨_,?_,.sc _⟩
   have hlt:=cO hb
   rw[fS] at hlt
   have e:s[((i:Nat):Int).toNat]?=some b:=by
    rw[Int.toNat_natCast,getElem?_pos s i hlt]
    have:(bO s)[i]?=some s[i]:=by
     unfold bO
     rw[Array.getElem?_toList]
     have hlt':i<s.data.size:=hlt
     rw[Array.getElem?_eq_getElem hlt'];rfl
    rw[this] at hb;exact hb
   simp only[Instr.index,Sem.run_bind,asIntOf,Sem.run_pure,Result.andThen_ok,dz hT hu]
   rw[if_pos (by omega),e]
   rfl
 ·cases h
include hT in
theorem ab0 {t:TypeId}{p r:PV}{v:Value}(h:bM T t p=some r)(hv:V w M σ L p v)(ty:TypeId):∃ u,(Builtin.len_ #[t] ty #[v]).run P w = .ok u w∧V w M σ L r u:=by
 unfold bM at h
 split at h
 ·rename_i s hu
  simp at h;subst h
  cases hv
  exact⟨_,by simp[Builtin.len_,dz hT hu,fS,goInt],.sc _⟩
 ·rename_i n e hu
  simp at h;subst h
  exact⟨_,by simp[Builtin.len_,dz hT hu,goInt],.sc _⟩
 ·rename_i e hu
  have run:∀ (a:Option Addr) (l c:Nat),(Builtin.len_ #[t] ty #[.slice a l c]).run P w = .ok (.int .i64 (l:Nat)) w:=by
   intro a l c;simp[Builtin.len_,dz hT hu,goInt]
  unfold dc at h
  split at h
  ·cases hv
   simp at h;subst h
   exact⟨_,run none 0 0,.sc _⟩
  ·simp at h;subst h
   cases hv with
   | nil=>exact⟨_,run none 0 0,.sc _⟩
   | imm _ _ _ a cap=>exact⟨_,run _ _ cap,.sc _⟩
  ·simp at h;subst h
   cases hv with | own _ _ _ _ _ a b cap=>exact⟨_,run _ _ cap,.sc _⟩
  ·simp at h
 ·cases h
end
section
variable {P:Program} {T:Tab} (hT:gh P T) {w:World} {H:Nat→Prop} {hp:Θ} {σ:List Addr}
theorem Ar {M:Nat→Prop}{L:Nat→Prop}{b:Bool}{ps:Ψ}{vs:List Value}{r:PV}(h:mv b ps=some r)(hl:ps.length=vs.length)
  (hv:∀ (k:Nat) c v,ps[k]?=some c→vs[k]?=some v→V w M σ L c v) (ats:Array TypeId) (ty:TypeId) :
  ∃ u,(if b then Builtin.max_ ats ty vs.toArray else Builtin.min_ ats ty vs.toArray).run P w = .ok u w∧V w M σ L r u:=by
 unfold mv at h
 split at h
 ·simp at h;subst h
  rename_i x
  match vs,hl with
  | [v],_ =>
   refine⟨v,?_,hv 0 x v (by simp) (by simp)⟩
   cases b <;> simp[Builtin.max_,Builtin.min_]
 ·rename_i k a k' c rest
  split at h
  ·rename_i hk
   split at h
   ·simp at h;subst h
    subst hk
    match vs,hl with
    | [v,u],_ =>
     have e1:=hv 0 (.sc (.int k a)) v (by simp) rfl
     have e2:=hv 1 (.sc (.int k c)) u (by simp) rfl
     cases e1;cases e2
     refine⟨_,?_,.sc _⟩
     cases b <;> simp[Builtin.max_,Builtin.min_,Builtin.max2,Builtin.min2]
   ·cases h
  ·cases h
 ·cases h
theorem oC (S:Sim w H σ hp)(o:Obj):Sim (w.alloc o) H σ hp∧Step w (cS σ hp) σ (aQ hp) (w.alloc o) (cS σ hp) σ (aQ hp):=by
 have hold:∀ (k:Nat),k<w.heap.size→(w.alloc o).heap[k]?=w.heap[k]?:=fun k hk=>Go.RowKit.Below.heap_alloc _ _ _ hk
 have st:Step w (cS σ hp) σ (aQ hp) (w.alloc o) (cS σ hp) σ (aQ hp):=by
  refine⟨rfl,rfl,rfl,by simp,fun _ _ h=>h,fun b hb _=>hold b hb,ir fun b c e' f hb => ?_,fun _ _ h=>h,fun _ _ h=>h⟩
  have:b<w.heap.size:=by
   rcases Nat.lt_or_ge b w.heap.size with h' | h'
   ·exact h'
   ·simp[Array.getElem?_eq_none h'] at hb
  exact⟨c,by rw[hold b this];exact hb,rfl⟩
 refine⟨⟨S.len,fun i a ha=>Nat.lt_of_lt_of_le (S.spot i a ha) (by simp),fun b hb=>Nat.lt_of_lt_of_le (S.foreign b hb) (by simp),fun i s cs a hi hd ha k c hk => ?_,S.own,fun i a cs hi ha => ?_,S.inj,fun i cs a hi ha => ?_,S.injm⟩,st⟩
 ·obtain⟨v,h1,h2⟩:=S.cells i s cs a hi hd ha k c hk
  exact⟨v,by rw[fZ (w:=w) (w':=w.alloc o) (a:=⟨a.block,a.off+k,none⟩) (hold _ (S.spot i a ha))];exact h1,h2.step st⟩
 ·obtain⟨c,e,h2,h3⟩:=S.live i a cs hi ha
  exact⟨c,e,by rw[hold _ (S.spot i a ha)];exact h2,h3⟩
 ·obtain⟨h1,es,ck,h2,h3⟩:=S.maps i cs a hi ha
  exact⟨h1,es,ck,by rw[hold _ (S.spot i a ha)];exact h2,h3.step st⟩
theorem EC (S:Sim w H σ hp) : ¬ hot H σ hp w.heap.size:=by
 rintro (h | ⟨i,a,h1,h2,h3⟩)
 ·have:=S.foreign _ h;omega
 ·have:=S.spot i a h2;omega
theorem eG {cs:Ψ}(h:bT cs=true){k:Nat}{c:PV}(hk:cs[k]?=some c):c.cG=true:=by
 induction cs generalizing k with
 | nil=>simp at hk
 | cons d cs ih =>
  simp[bT] at h
  cases k with
  | zero=>simp at hk;subst hk;exact h.1
  | succ k=>simp at hk;exact ih h.2 hk
theorem AG (S:Sim w H σ hp){cs:Ψ}{vs:Array Value}{e:TypeId}{f:Nat × Nat}(hr:cs.length≤vs.size)(hv:∀ (k:Nat) c v,cs[k]?=some c→vs[k]?=some v→V w (hot H σ hp) σ (aQ hp) c v)
  (hid:bT cs=true) (len cap:Nat) (x:Bool) (h1:len≤cap) (h2:x=true→cap=len) :
  V (w.alloc (.cells vs e f)) (hot H σ hp) σ (aQ hp) (.imm len x cs) (.slice (some ⟨w.heap.size,0,none⟩) len cap):=by
 have st:=(oC S (.cells vs e f)).2
 refine .imm len x cs _ cap (fun k=>vs.getD k undef) h1 h2 (fun k c hk=>⟨rfl,eG hid hk,EC S,?_⟩) (fun k c hk => ?_)
 ·have hk':=cO hk
  have:(w.alloc (.cells vs e f)).heap[w.heap.size]?=some (.cells vs e f):=by
   show (w.heap.push _)[w.heap.size]?=_
   simp
  rw[rQ this]
  simp
  rw[Array.getElem?_eq_getElem (by omega)]
  simp[]
 ·have hk':=cO hk
  refine (hv k c _ hk ?_).step st
  rw[Array.getElem?_eq_getElem (by omega)]
  simp[show k<vs.size by omega]
include hT in
theorem C1 {src dst e:TypeId}(hs:und T src=some .string)(hd:und T dst=some (.slice e))(he:und T e=some (.int .u8))(S:Sim w H σ hp)(s:ByteArray):∃ v w',(convert src dst (.string s)).run P w = .ok v w' ∧
  V w' (hot H σ hp) σ (aQ hp) (.imm (bO s).length false ((bO s).map fun b=>PV.sc (.int .u8 b.toNat))) v∧Sim w' H σ hp∧Step w (cS σ hp) σ (aQ hp) w' (cS σ hp) σ (aQ hp):=by
 have S1:Sim w.drew H σ hp:=zy (w':=w.drew) S rfl rfl rfl rfl
 have st1:Step w (cS σ hp) σ (aQ hp) w.drew (cS σ hp) σ (aQ hp):=lU (w:=w) (w':=w.drew) rfl rfl rfl rfl _ _ _
 refine⟨_,_,run_bytes_of_string w src dst e s (jD hT hs) (jD hT hd) (jD hT he),?_,(oC S1 _).1,st1.trans (oC S1 _).2⟩
 have hcap:s.size≤grownCap w s.size 0 e:=by
  unfold grownCap Question.cut;exact Nat.le_add_right _ _
 rw[fS]
 refine AG S1 (vs:=bytesRow s (grownCap w s.size 0 e)) ?_ (fun k c v hk hv => ?_) ?_ _ _ false hcap (by simp)
 ·simp[bytesRow,bO]
 ·rw[getElem?_map] at hk
  have hk2:k<(bO s).length:=by
   rcases Nat.lt_or_ge k (bO s).length with h | h
   ·exact h
   ·simp[getElem?_eq_none h] at hk
  have hk3:k<s.data.size:=by rw[fS] at hk2;exact hk2
  unfold bytesRow at hv
  rw[Array.getElem?_append_left (by simpa using hk3)] at hv
  simp[bO] at hk
  simp at hv
  obtain⟨a,ha,rfl⟩:=hk
  obtain⟨b,hb,rfl⟩:=hv
  rw[ha] at hb;cases hb
  exact .sc _
 ·have:∀ l:List UInt8,bT (l.map fun b=>PV.sc (.int .u8 b.toNat))=true:=by
   intro l
   induction l with
   | nil=>rfl
   | cons b l ih=>simp[bT,PV.cG,ih]
  exact this _
theorem Jt {cs:Ψ}{l:List UInt8}(h:kj cs=some l):∃ ns:List Int,cs=ns.map (fun n=>.sc (.int .u8 n))∧l=ns.map fun n=>UInt8.ofNat n.toNat:=by
 induction cs generalizing l with
 | nil=>simp[kj] at h;subst h;exact⟨[],rfl,rfl⟩
 | cons c cs ih =>
  unfold kj at h
  split at h
  ·rename_i heq;cases heq
  ·rename_i n r heq
   cases heq
   split at h
   ·rename_i l' hl'
    simp at h;subst h
    obtain⟨ns,e1,e2⟩:=ih hl'
    exact⟨n::ns,by simp[e1],by simp[e2]⟩
   ·cases h
  ·cases h
theorem Fl (ns:List Int):ns.foldl (fun r n=>r.push (UInt8.ofNat n.toNat)) ByteArray.empty=mkStr (ns.map fun n=>UInt8.ofNat n.toNat):=by
 have key:∀ (ns:List Int) (r:ByteArray),ns.foldl (fun r n=>r.push (UInt8.ofNat n.toNat)) r=mkStr (bO r++ns.map fun n=>UInt8.ofNat n.toNat):=by
  intro ns
  induction ns with
  | nil=>intro r;simp[gq]
  | cons n ns ih =>
   intro r
   simp only[foldl_cons,ih,map_cons]
   congr 1
   have:bO (r.push (UInt8.ofNat n.toNat))=bO r++[UInt8.ofNat n.toNat]:=by simp[bO,ByteArray.push]
   rw[this,append_assoc];rfl
 simpa [bO] using key ns ByteArray.empty
include hT in
theorem WM {src dst:TypeId}(S:Sim w H σ hp){p r:PV}{v:Value}{ids:Ω}(h:dF T hp src dst p=some (r,ids))(hv:V w (hot H σ hp) σ (aQ hp) p v) :
  ∃ u w',(convert src dst v).run P w = .ok u w'∧V w' (hot H σ hp) σ (aQ hp) r u∧Sim w' H σ hp∧Step w (cS σ hp) σ (aQ hp) w' (cS σ hp) σ (aQ hp):=by
 unfold dF at h
 split at h
 ·rename_i d k k' n hs hd
  simp at h;obtain⟨rfl,rfl⟩:=h
  cases hv
  exact⟨_,w,by simp[convert,dz hT hs,dz hT hd,Conv.intToInt,k9],.sc _,S,Step.refl _ _ _ _⟩
 ·rename_i d s hs hd
  simp at h;obtain⟨rfl,rfl⟩:=h
  cases hv
  exact⟨_,w,by simp[convert,dz hT hs,dz hT hd],.sc _,S,Step.refl _ _ _ _⟩
 ·rename_i e s hs hd
  split at h
  ·rename_i he
   simp at h;obtain⟨rfl,rfl⟩:=h
   cases hv
   exact C1 hT hs hd he S s
  ·cases h
 ·rename_i e hs0 hd hs
  split at h
  ·rename_i he
   split at h
   ·rename_i n cs ids' hr
    split at h
    ·rename_i l hl
     simp at h;obtain⟨rfl,rfl⟩:=h
     obtain⟨base,cap,rfl,hlen,hnone,hat⟩:=KO S hr hv
     obtain⟨ns,e1,e2⟩:=Jt hl
     refine⟨.string (mkStr l),w,?_,.sc _,S,Step.refl _ _ _ _⟩
     rw[run_convert_bytes_string w src dst e base n cap (jD hT hs0) (jD hT he) (jD hT hd)]
     cases base with
     | none =>
      have:=(hnone rfl).1
      subst this
      cases ns with
      | nil=>subst e2;rfl
      | cons _ _=>simp at e1
     | some a =>
      obtain⟨g,hg⟩:=hat a rfl
      have hload:(loadCells a n).run P w = .ok (ns.map (Value.int .u8)).toArray w:=by
       have hn:cs.length=n:=by simpa using hlen
       rw[run_loadCells w a n (fun k=>(ns.map (Value.int .u8)).getD k undef) (fun j hj => ?_)]
       ·congr 2
        apply ext_getElem?
        intro j
        have hnl:ns.length=n:=by rw[← hn,e1];simp
        by_cases hj:j<n
        ·simp[hj,hnl]
        ·simp[hj,hnl]
       ·have hnl:ns.length=n:=by rw[← hn,e1];simp
        have hc:cs[j]?=some (.sc (.int .u8 (ns[j]'(by omega)))):=by rw[e1];simp[show j<ns.length by omega]
        obtain⟨h1,h2,h3⟩:=hg j _ hc
        rw[gf h1,h2,h3.kR]
        simp[show j<ns.length by omega]
      rw[run_bytesToString w a n cap ns hload,Fl,← e2]
    ·cases h
   ·cases h
  ·cases h
 ·cases h
end
section
variable {P:Program} {T:Tab} (hT:gh P T) {w:World} {H:Nat→Prop} {hp:Θ} {σ:List Addr}
theorem Oi {M:Nat→Prop}{L:Nat→Prop}{c:PV}{v:Value}(h:dZ c=true)(hv:V w M σ L c v):v.oneCell'=true:=by
 cases hv with
 | sc v=>cases v <;> first | rfl | (simp[dZ] at h)
 | any=>simp[dZ] at h
 | agg=>simp[dZ] at h
 | tup=>simp[dZ] at h
 | _=>rfl
theorem Et {cs:Ψ}(h:bj cs=true){k:Nat}{c:PV}(hk:cs[k]?=some c):dZ c=true:=by
 induction cs generalizing k with
 | nil=>simp at hk
 | cons d cs ih =>
  simp[bj] at h
  cases k with
  | zero=>simp at hk;subst hk;exact h.1
  | succ k=>simp at hk;exact ih h.2 hk
theorem qX {M:Nat→Prop}{L:Nat→Prop}{cs:Ψ}{vs:List Value}(h:bj cs=true)(hl:cs.length=vs.length)(hv:∀ (k:Nat) c v,cs[k]?=some c→vs[k]?=some v→V w M σ L c v) :
  ∀ v ∈ vs,v.oneCell'=true:=by
 intro v hv'
 obtain⟨k,hk,e⟩:=mem_iff_getElem.1 hv'
 have hk2:k<cs.length:=by omega
 exact Oi (Et h (getElem?_eq_getElem hk2)) (hv k _ v (getElem?_eq_getElem hk2) (by rw[getElem?_eq_getElem hk,e]))
theorem Lc (S:Sim w H σ hp){cs:Ψ}{vs:Array Value}{e:TypeId}(hr:Rel w (hot H σ hp) σ (aQ hp) cs vs) :
  let σ':=σ++[⟨w.heap.size,0,none⟩]
  let hp':=hp++[⟨.live,cs⟩]
  let w':=w.alloc (.cells vs e)
  Sim w' H σ' hp'∧Step w (cS σ hp) σ (aQ hp) w' (cS σ' hp') σ' (aQ hp')∧V w' (hot H σ' hp') σ' (aQ hp') (.ptr hp.length 0) (.pointer (some ⟨w.heap.size,0,none⟩)):=by
 obtain⟨h1,h2⟩:=zA (e:=e) S (Nat.le_of_eq hr.1) hr.2
 refine⟨h1,h2,?_⟩
 have:=V.ptr (w:=w.alloc (.cells vs e)) (M:=hot H (σ++[⟨w.heap.size,0,none⟩]) (hp++[⟨.live,cs⟩])) (σ:=σ++[⟨w.heap.size,0,none⟩]) (L:=aQ (hp++[⟨.live,cs⟩])) hp.length 0 ⟨w.heap.size,0,none⟩
  (by rw[← S.len];simp)
 simpa using this
theorem BV (S:Sim w H σ hp){cs:Ψ}{vs:Array Value}{e:TypeId}(hl:cs.length≤vs.size)(hv:∀ (k:Nat) c v,cs[k]?=some c→vs[k]?=some v→V w (hot H σ hp) σ (aQ hp) c v)
  (s len cap:Nat) (x:Bool) (h1:len≤cap) (h2:x=true→cap=len) (h3:cap*s≤vs.size) :
  let σ':=σ++[⟨w.heap.size,0,none⟩]
  let hp':=hp++[⟨.live,cs⟩]
  let w':=w.alloc (.cells vs e)
  Sim w' H σ' hp'∧Step w (cS σ hp) σ (aQ hp) w' (cS σ' hp') σ' (aQ hp')∧V w' (hot H σ' hp') σ' (aQ hp') (.own hp.length s 0 len x) (.slice (some ⟨w.heap.size,0,none⟩) len cap):=by
 obtain⟨g1,g2⟩:=zA (e:=e) S hl hv
 refine⟨g1,g2,.own hp.length s 0 len x ⟨w.heap.size,0,none⟩ _ cap (by rw[← S.len];simp) h1 h2 (fun _=>by simp) (fun _=>⟨vs,e,?_,by simpa using h3⟩)⟩
 show (w.heap.push _)[w.heap.size]?=_
 simp
include hT in
theorem XL {e:TypeId}(S:Sim w H σ hp){zs:Ψ}(h:ef T e=some zs):∃ v w' σ',(Instr.alloc e true (.tuple #[])).run P w = .ok v w' ∧
  V w' (hot H σ' (bd hp zs)) σ' (aQ (bd hp zs)) (.ptr hp.length 0) v∧Sim w' H σ' (bd hp zs)∧Step w (cS σ hp) σ (aQ hp) w' (cS σ' (bd hp zs)) σ' (aQ (bd hp zs)):=by
 obtain⟨z,hz1,hz2⟩:=ni hT h w
 obtain⟨h1,h2,h3⟩:=Lc (e:=e) S (cs:=zs) (vs:=z.cells) (by rw[hz2];exact BD _)
 refine⟨_,_,_,?_,h3,h1,h2⟩
 simp[Instr.alloc,hz1,newVar,newRow]
theorem agH {e:TypeId}(S:Sim w H σ hp){p:PV}{v:Value}{cs:Ψ}(h:p.cells?=some cs)(hv:V w (hot H σ hp) σ (aQ hp) p v):∃ u w' σ',(Instr.box e v).run P w = .ok u w' ∧
  V w' (hot H σ' (bd hp cs)) σ' (aQ (bd hp cs)) (.ptr hp.length 0) u∧Sim w' H σ' (bd hp cs)∧Step w (cS σ hp) σ (aQ hp) w' (cS σ' (bd hp cs)) σ' (aQ (bd hp cs)):=by
 obtain⟨h1,h2,h3⟩:=Lc (e:=e) S (V.yo h hv)
 refine⟨_,_,_,?_,h3,h1,h2⟩
 simp[Instr.box,newVar,newRow]
include hT in
theorem abV {t:TypeId}(S:Sim w H σ hp){p x:PV}{v:Value}{cs:Ψ}{ids:Ω}(h:aV hp p=some (cs,ids))(hx:partOf T t cs=some x)(hv:V w (hot H σ hp) σ (aQ hp) p v) :
  ∃ u,(Instr.loadAt t v).run P w = .ok u w∧V w (hot H σ hp) σ (aQ hp) x u:=by
 obtain⟨a,rfl,hA⟩:=A9 S h hv
 obtain⟨u,h1,h2⟩:=Aj (P:=P) hT hx hA
 exact⟨u,by simp[Instr.loadAt,Instr.sureAddr,h1],h2⟩
theorem vL (S:Sim w H σ hp){id off:Nat}{a:Addr}{old l new:Ψ}{vs:List Value}(hid:hp[id]?=some ⟨.live,old⟩)(ha:σ[id]?=some a)(ho:b9 old off new=some l)
  (hl:new.length=vs.length) (hv:∀ (k:Nat) c v,new[k]?=some c→vs[k]?=some v→V w (hot H σ hp) σ (aQ hp) c v) (hok:bj new=true) :
  ∃ w',(storeCells ⟨a.block,a.off+off,none⟩ vs).run P w = .ok () w'∧Sim w' H σ (hp.set id ⟨.live,l⟩) ∧
   Step w (cS σ hp) σ (aQ hp) w' (cS σ (hp.set id ⟨.live,l⟩)) σ (aQ (hp.set id ⟨.live,l⟩)):=by
 obtain⟨h1,h2,h3⟩:=j7 ho
 obtain⟨c,e,hc,hsz⟩:=S.live id a old hid ha
 obtain⟨w',hw1,hw2⟩:=nj P ⟨a.block,a.off+off,none⟩ rfl vs 0 w c e hc (by simp;omega) (qX hok hl hv)
 obtain⟨g1,g2⟩:=MH S hid ha (by simpa using hw2) hl hv ⟨h2,h3⟩
 exact⟨w',hw1,g1,g2⟩
include hT in
theorem Q6 {t:TypeId}(S:Sim w H σ hp){id off n:Nat}{p:PV}{v u:Value}{cs old l:Ψ}(hv:V w (hot H σ hp) σ (aQ hp) (.ptr id off) v)(hu:V w (hot H σ hp) σ (aQ hp) p u)
  (hc:p.cells?=some cs) (hs:dm T t=some n) (hn:cs.length=n) (hok:bj cs=true) (hid:hp[id]?=some ⟨.live,old⟩) (ho:b9 old off cs=some l) :
  ∃ w',(Instr.storeAt t v u).run P w = .ok () w'∧Sim w' H σ (hp.set id ⟨.live,l⟩) ∧
   Step w (cS σ hp) σ (aQ hp) w' (cS σ (hp.set id ⟨.live,l⟩)) σ (aQ (hp.set id ⟨.live,l⟩)):=by
 obtain⟨a,ha,rfl⟩:=hv.vt
 have hr:=V.yo hc hu
 obtain⟨w',h1,h2,h3⟩:=vL (P:=P) S hid ha ho (vs:=u.cells.toList) (by simpa using hr.1) (fun k c v h1 h2=>hr.2 k c v h1 (by simpa using h2)) hok
 refine⟨w',?_,h2,h3⟩
 have hsz:u.cells.size=n:=by rw[← hr.1,hn]
 simp[Instr.storeAt,Instr.sureAddr,storeVar,fH hT hs,hsz,h1]
include hT in
theorem abI {t e:TypeId}(S:Sim w H σ hp)(hu:und T t=some (.slice e)){zs:Ψ}{s by_ l c:Nat}(hz:ef T e=some zs)(hs:dm T e=some s)(hb:iG T e=some by_){p q:PV}{v u:Value}
  (hl:gI p=some l) (hc:gI q=some c) (hp':V w (hot H σ hp) σ (aQ hp) p v) (hq:V w (hot H σ hp) σ (aQ hp) q u) (hle:l≤c∧c≤cW∧by_≤bZ∧zs.length=s) :
  ∃ x w' σ',(Instr.makeSlice t v u).run P w = .ok x w' ∧
   V w' (hot H σ' (bd hp (rep l zs))) σ' (aQ (bd hp (rep l zs))) (.own hp.length s 0 l (l == c)) x∧Sim w' H σ' (bd hp (rep l zs)) ∧
   Step w (cS σ hp) σ (aQ hp) w' (cS σ' (bd hp (rep l zs))) σ' (aQ (bd hp (rep l zs))):=by
 obtain⟨k1,rfl⟩:=jB hl hp'
 obtain⟨k2,rfl⟩:=jB hc hq
 obtain⟨i,z,hTi,hiz,hzs⟩:∃ i z,T e=some i∧i.zero=some z∧zs=z.cells.toList.map .sc:=by
  unfold ef at hz
  cases hTi:T e with
  | none=>simp[hTi] at hz
  | some i =>
   rw[hTi] at hz
   cases i with
   | mk desc str size bytes hp al fa zero cmp ms =>
    cases zero with
    | none=>simp at hz
    | some z=>simp at hz;exact⟨_,z,rfl,rfl,hz.symm⟩
 have hsi:i.size=s:=by unfold dm at hs;rw[hTi] at hs;simpa using hs
 have hbi:i.bytes=by_:=by unfold iG at hb;rw[hTi] at hb;simpa using hb
 obtain⟨h1,h2,h3,h4⟩:=hle
 have hzsz:z.cells.size=s:=by rw[hzs] at h4;simpa using h4
 have hbytes:(i.bytes:Int)*(c:Int)≤281474976710656:=by
  have:i.bytes*c≤128*1099511627776:=Nat.mul_le_mul (by rw[hbi];exact h3) h2
  have e:((i.bytes*c:Nat):Int)=(i.bytes:Int)*(c:Int):=Int.natCast_mul _ _
  rw[← e]
  have:128*1099511627776=140737488355328:=by decide
  omega
 have hc63:(c:Int)≤9223372036854775807:=by unfold cW at h2;omega
 have hrun:=run_make (P:=P) w t e i z (jD hT hu) (hT e i hTi) hiz k1 k2 (l:Int) (c:Int) (by omega) (by omega) hbytes hc63
 simp only[Int.toNat_natCast] at hrun
 have hmade:∀ m,madeCells z.cells m=(Array.range m).map (z.cells[· % z.cells.size]!):=fun m=>rfl
 have hrel:=vq (w:=w) (M:=hot H σ hp) (σ:=σ) (L:=aQ hp) c z.cells (c*s) (by rw[hzsz])
 have hcs:l*s≤c*s:=Nat.mul_le_mul_right s h1
 obtain⟨g1,g2,g3⟩:=BV (e:=e) S (cs:=rep l zs) (vs:=madeCells z.cells (c*i.size)) (by rw[j5,h4,hsi,size_madeCells];exact hcs) (fun k x y hk hy=>by
  rw[hsi,hmade] at hy
  refine hrel.2 k x y ?_ hy
  have hk':=cO hk
  rw[j5,h4] at hk'
  rw[BC _ _ _ (by rw[h4];exact hk')] at hk
  rw[← hzs,BC _ _ _ (by rw[h4];omega)]
  exact hk) s l c (l == c) h1 (fun h=>by simp at h;omega) (by rw[size_madeCells,hsi];exact Nat.le_refl _)
 exact⟨_,_,_,hrun,g3,g1,g2⟩
end
end Go.Ab
