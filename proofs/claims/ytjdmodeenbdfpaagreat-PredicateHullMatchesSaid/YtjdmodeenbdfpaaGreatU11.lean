/- An abstract interpreter over the model's code and its soundness, part 11; each lemma states its conditions. -/
import Derived.Test.YtjdmodeenbdfpaaGreatU10
set_option linter.unusedSimpArgs false
set_option linter.unusedVariables false
namespace Go.Ab
open Go List
def dg (n:Nat):PV:=.sc (.int .u32 n)
def aL (l:Ω):PV:=.imm l.length false (l.map dg)
def wh (neg:Bool)(l:Ω):PV:=.agg [.sc (.bool neg),aL l]
def bw:Int→Bool
 | .ofNat _=>false
 | .negSucc _=>true
def bt (z:Int):PV:=wh (bw z) (aJ z.natAbs)
def bJ (z:Int):PV:=.sc (.int .i64 z)
mutual
def canon:PV→PV
 | .sc v=>match v with
  | .slice none 0 0=>.imm 0 false []
  | v=>.sc v
 | .imm n _ cs=>.imm n false (aK cs)
 | .agg cs=>.agg (aK cs)
 | v=>v
def aK:Ψ→Ψ
 | []=>[]
 | c::cs=>canon c::aK cs
end
theorem kh:∀ (cs:Ψ) (k:Nat),(aK cs)[k]?=(cs[k]?).map canon
 | [],k=>by simp[aK]
 | c::cs,0=>by simp[aK]
 | c::cs,k+1=>by simpa [aK] using kh cs k
theorem kY:∀ (cs:Ψ),(aK cs).length=cs.length
 | []=>rfl
 | c::cs=>by simp[aK,kY cs]
mutual
theorem FI:(p:PV)→p.cG=true→Wk p (canon p)
 | .any,h=>by rw[canon];exact Wk.refl h;all_goals (intros;contradiction)
 | .sc v,h=>by
  unfold canon
  split
  ·exact Wk.nil false
  ·exact Wk.refl h
 | .imm n x cs,h=>by
  unfold canon
  refine⟨rfl,fun w M v hv => ?_⟩
  cases hv with
  | nil=>exact .nil false
  | imm _ _ _ a cap g h1 h2 h3 h4 =>
   refine .imm n false _ a cap g h1 (fun h=>by cases h) (fun k c hk => ?_) (fun k c hk => ?_)
   ·rw[kh] at hk
    obtain⟨c',h5,rfl⟩:=Option.map_eq_some_iff.1 hk
    obtain⟨h6,h7,h8,h9⟩:=h3 k c' h5
    exact⟨h6,(lP cs k c' h5 h7).1,h8,h9⟩
   ·rw[kh] at hk
    obtain⟨c',h5,rfl⟩:=Option.map_eq_some_iff.1 hk
    obtain⟨h6,h7,h8,h9⟩:=h3 k c' h5
    exact (lP cs k c' h5 h7).2 w M _ (h4 k c' h5)
 | .agg cs,h=>by
  unfold canon
  have hi:bT cs=true:=by simpa [PV.cG] using h
  refine⟨?_,fun w M v hv => ?_⟩
  ·simp only[PV.cG]
   exact kZ cs hi
  ·cases hv with
   | agg _ vs g1 g2 =>
    refine .agg _ vs (by rw[kY];exact g1) fun k c v e1 e2 => ?_
    rw[kh] at e1
    obtain⟨c',h5,rfl⟩:=Option.map_eq_some_iff.1 e1
    exact (lP cs k c' h5 (eG hi h5)).2 w M v (g2 k c' v h5 e2)
 | .own ..,h=>by simp[PV.cG] at h
 | .ptr ..,h=>by simp[PV.cG] at h
 | .iptr cs,h=>by rw[canon];exact Wk.refl h;all_goals (intros;contradiction)
 | .clos f cs,h=>by rw[canon];exact Wk.refl h;all_goals (intros;contradiction)
 | .bmet ..,h=>by simp[PV.cG] at h
 | .tup cs,h=>by rw[canon];exact Wk.refl h;all_goals (intros;contradiction)
theorem lP:(cs:Ψ)→(k:Nat)→(c:PV)→cs[k]?=some c→c.cG=true→Wk c (canon c)
 | [],k,c,h,_=>by simp at h
 | d::cs,k,c,h,hc=>by
  cases k with
  | zero=>simp at h;subst h;exact FI d hc
  | succ k=>exact lP cs k c (by simpa using h) hc
theorem kZ:(cs:Ψ)→bT cs=true→bT (aK cs)=true
 | [],_=>rfl
 | c::cs,h=>by
  simp only[bT,Bool.and_eq_true] at h
  simp only[aK,bT,Bool.and_eq_true]
  exact⟨(FI c h.1).1,kZ cs h.2⟩
end
theorem Spec.canon {P:Program}{g:FuncId}{f:Ψ→Option Ψ}(h:Spec P g f):Spec P g fun a=>f (aK a):=by
 intro args rs hf hi
 obtain⟨h1,h2⟩:=h (aK args) rs hf (kZ args hi)
 refine⟨h1,fun w M vs hM hvs=>h2 w M vs hM ⟨by rw[kY];exact hvs.1,fun k c v e1 e2 => ?_⟩⟩
 rw[kh] at e1
 obtain⟨c',h5,rfl⟩:=Option.map_eq_some_iff.1 e1
 exact (lP args k c' h5 (eG hi h5)).2 w M v (hvs.2 k c' v h5 e2)
def Fz:Ψ→Option Ω
 | []=>some []
 | .sc (.int .u32 (.ofNat n))::r=>bif n.blt 1000000000 then (match Fz r with
  | some l=>some (n::l)
  | none=>none) else none
 | _=>none
def gU:PV→Option Ω
 | .imm n false cs=>match Fz cs with
  | some l=>bif n.beq l.length && n.blt 1000000 then some l else none
  | none=>none
 | _=>none
def uP:Ω→Bool
 | []=>true
 | [a] => !(a.beq 0)
 | _::l=>uP l
def fM:PV→Option Int
 | .agg [.sc (.bool neg),p]=>match gU p with
  | some l=>bif uP l && l.length.blt 400000 then
    (match neg,l with
    | true,[]=>none
    | true,l=>some (Int.negOfNat (val l))
    | false,l=>some (Int.ofNat (val l)))
   else none
  | none=>none
 | _=>none
theorem AZ:∀ {cs:Ψ} {l:Ω},Fz cs=some l→cs=l.map dg∧Dok l
 | [],l,h=>by simp[Fz] at h;subst h;exact⟨rfl,Dok.nil⟩
 | c::cs,l,h=>by
  unfold Fz at h
  split at h
  ·rename_i e;cases e
  ·rename_i n r e
   cases e
   cases hb:n.blt 1000000000 with
   | false=>rw[hb] at h;cases h
   | true =>
    rw[hb] at h
    simp only[cond_true] at h
    split at h
    ·rename_i l' e'
     simp at h;subst h
     obtain⟨h1,h2⟩:=AZ e'
     rw[h1]
     refine⟨rfl,h2.cons ?_⟩
     simpa [Nat.blt_eq] using hb
    ·cases h
  ·cases h
theorem Fy:∀ {l:Ω},Dok l→Fz (l.map dg)=some l
 | [],_=>rfl
 | a::l,h=>by
  have h1:a.blt 1000000000=true:=by rw[Nat.blt_eq];exact h.head
  show Fz (PV.sc (.int .u32 (Int.ofNat a))::l.map dg)=_
  simp only[Fz,Fy h.tail,h1,cond_true]
theorem dy {p:PV}{l:Ω}(h:gU p=some l):p=aL l∧Dok l∧l.length<1000000:=by
 unfold gU at h
 split at h
 ·split at h
  ·rename_i n cs _ l' e
   obtain⟨h1,h2⟩:=AZ e
   cases hb:n.beq l'.length && n.blt 1000000 with
   | false=>rw[hb] at h;cases h
   | true =>
    rw[hb] at h
    simp at h
    subst h
    simp[Nat.blt_eq] at hb
    exact⟨by rw[hb.1,h1];rfl,h2,by omega⟩
  ·cases h
 ·cases h
theorem cZ {l:Ω}(h:Dok l)(hl:l.length<1000000):gU (aL l)=some l:=by
 have h1:l.length.blt 1000000=true:=by rw[Nat.blt_eq];exact hl
 simp[gU,aL,Fy h,h1]
theorem m9:∀ {l:Ω},uP l=true→Top l
 | [],_=>fun m a e=>by simp at e
 | [b],h=>fun m a e=>by
  cases m with
  | nil =>
   simp at e;subst e
   cases b with
   | zero=>simp[uP] at h
   | succ b=>simp
  | cons c m=>simp at e
 | b::c::l,h=>fun m a e=>by
  cases m with
  | nil=>simp at e
  | cons d m =>
   simp only[cons_append,List.cons.injEq] at e
   exact m9 (l:=c::l) (by simpa [uP] using h) m a e.2
theorem qu:∀ {l:Ω},Top l→uP l=true
 | [],_=>rfl
 | [b],h=>by
  have:=h [] b rfl
  cases b with
  | zero=>simp at this
  | succ b=>rfl
 | b::c::l,h=>by
  have:=qu h.tail
  simpa [uP] using this
theorem ya (n:Nat):bt (Int.ofNat n)=wh false (aJ n):=rfl
theorem cK (z:Int):bw z=decide (z<0):=by
 cases z with
 | ofNat n=>simp[bw]
 | negSucc n=>simp[bw]
theorem Fq {n:Nat}(h:n≠0):bt (Int.negOfNat n)=wh true (aJ n):=by
 cases n with
 | zero=>simp at h
 | succ n=>rfl
theorem Jg {p:PV}{z:Int}(h:fM p=some z):p=bt z∧(aJ z.natAbs).length<400000:=by
 unfold fM at h
 split at h
 ·rename_i neg q
  split at h
  ·rename_i l e
   obtain⟨h1,h2,h3⟩:=dy e
   subst h1
   cases ht:uP l && l.length.blt 400000 with
   | false=>rw[ht] at h;cases h
   | true =>
    rw[ht] at h
    simp only[cond_true] at h
    simp only[Bool.and_eq_true,Nat.blt_eq] at ht
    obtain⟨ht,h3⟩:=ht
    have hd:=ke h2 (m9 ht)
    split at h
    ·cases h
    ·rename_i hne
     simp only[OiE] at h
     subst h
     have hv:val l≠0:=(m9 ht).qn (by intro h;exact hne h)
     refine⟨?_,?_⟩
     ·rw[Fq hv,hd];rfl
     ·have:(Int.negOfNat (val l)).natAbs=val l:=Int.natAbs_negOfNat _
      rw[this,hd];exact h3
    ·simp only[OiE] at h
     subst h
     refine⟨?_,?_⟩
     ·rw[ya,hd];rfl
     ·have:(Int.ofNat (val l)).natAbs=val l:=rfl
      rw[this,hd];exact h3
  ·cases h
 ·cases h
theorem Pd (z:Int)(hl:(aJ z.natAbs).length<400000):fM (bt z)=some z:=by
 have h1:=cZ (bV z.natAbs) (Nat.lt_trans hl (by decide))
 have h3:(aJ z.natAbs).length.blt 400000=true:=by rw[Nat.blt_eq];exact hl
 have h2:=qu (jx z.natAbs)
 cases z with
 | ofNat n =>
  rw[ya]
  have e:(Int.ofNat n).natAbs=n:=rfl
  rw[e] at h1 h2 h3
  simp only[fM,wh,h1,h2,h3,Bool.and_self,cond_true,bX]
 | negSucc n =>
  have e:bt (Int.negSucc n)=wh true (aJ (n+1)):=rfl
  rw[e]
  have e:(Int.negSucc n).natAbs=n+1:=rfl
  rw[e] at h1 h2 h3
  have hd:aJ (n+1)=(n+1) % 1000000000::aJ ((n+1) / 1000000000):=dW (by omega)
  simp only[fM,wh,h1,h2,h3,Bool.and_self,cond_true]
  rw[hd]
  simp only
  rw[← hd,bX]
  rfl
theorem fY (n:Nat):(dg n).cells?=some [dg n]:=(rfl)
theorem du (n:Nat):dZ (dg n)=true:=(rfl)
theorem sK (n:Nat):rep n [dg 0]=(List.replicate n 0).map dg:=by
 induction n with
 | zero=>rfl
 | succ n ih=>simp[rep,ih,replicate_succ]
theorem acR (l:Ω)(i:Nat)(h:i<l.length):bz (l.map dg) i=dg l[i]::(l.drop (i+1)).map dg:=by
 rw[cD,← map_drop,drop_eq_getElem_cons h];rfl
theorem eJ (l:Ω)(i:Nat)(h:i<l.length):(bz (l.map dg) i).head?=some (dg l[i]):=by
 rw[acR l i h];rfl
theorem jk:∀ (l:Ω) (i y:Nat),i<l.length→b9 (l.map dg) i [dg y]=some ((l.set i y).map dg)
 | [],i,y,h=>by simp at h
 | a::l,0,y,h=>by simp[b9]
 | a::l,i+1,y,h=>by
  have:=jk l i y (by simpa using h)
  simp only[map_cons,b9,this,set_cons_succ]
theorem YQ (l:Ω):bF (l.map dg) l.length=some (l.map dg):=by
 rw[dk (by simp),take_of_length_le (by simp)]
theorem CY (l:Ω):bF (bz (l.map dg) 0) (l.length*1)=some (l.map dg):=by
 rw[cD,drop_zero,Nat.mul_one,YQ]
theorem jY (hp:Θ)(d:Nat):∀ l:Ω,bu (snap hp (d+1)) (l.map dg)=some (l.map dg,[])
 | []=>rfl
 | a::l=>by
  simp only[map_cons,bu,jY hp d l]
  rfl
theorem jc:∀ l:Ω,aK (l.map dg)=l.map dg
 | []=>rfl
 | a::l=>by simp only[map_cons,aK,jc l];rfl
theorem fF (l:Ω):canon (aL l)=aL l:=by
 simp only[aL,canon,jc]
theorem W4 (n:Bool)(l:Ω):canon (wh n l)=wh n l:=by
 simp only[wh,canon,aK,fF]
theorem yr (z:Int):canon (bt z)=bt z:=W4 _ _
theorem dp (k:IntKind)(n:Nat)(h:n≤hiN k):bB k (n:Int)=Int.ofNat n:=QB (n:=n) (Nat.ble_eq ▸ h)
def dL (b:Nat)(hp:Θ)(l:Ω)(p:PV):Prop :=
 b≤hp.length∧((l=[]∧p = .sc (.slice none 0 0))∨∃ id m,b≤id∧id<hp.length∧p = .own id 1 0 l.length false∧aX hp id=some ⟨.live,(l++m).map dg⟩)
theorem dL.nil {b:Nat}{hp:Θ}(h:b≤hp.length):dL b hp [] (.sc (.slice none 0 0)):=⟨h,.inl ⟨rfl,rfl⟩⟩
theorem dL.len {b:Nat}{hp:Θ}{l:Ω}{p:PV}(h:dL b hp l p):dc p=some l.length:=by
 rcases h.2 with ⟨rfl,rfl⟩| ⟨id,m,_,_,rfl,h⟩ <;> rfl
theorem dL.cells {b:Nat}{hp:Θ}{l:Ω}{p:PV}(h:dL b hp l p):p.cells?=some [p]:=by
 rcases h.2 with ⟨rfl,rfl⟩| ⟨id,m,_,_,rfl,h⟩ <;> rfl
theorem dL.okc {b:Nat}{hp:Θ}{l:Ω}{p:PV}(h:dL b hp l p):dZ p=true:=by
 rcases h.2 with ⟨rfl,rfl⟩| ⟨id,m,_,_,rfl,h⟩ <;> rfl
theorem dL.app {b:Nat}{hp:Θ}{l:Ω}{p:PV}(h:dL b hp l p)(a:Nat)(hl:l.length<100000000) :
  ∃ p' hp' fp,cU hp 1 p 1 [dg a]=some (p',hp',fp)∧dL b hp' (l++[a]) p'∧∀ i,i<b→aX hp' i=aX hp i:=by
 obtain⟨hb,h⟩:=h
 rcases h with ⟨rfl,rfl⟩| ⟨id,m,hid,hid2,rfl,h⟩
 ·refine⟨.own hp.length 1 0 1 false,bd hp [dg a],⟨[],[hp.length],true,false⟩,by simp[cU,cW],⟨by simp[bd];omega,.inr ⟨hp.length,[],hb,by simp[bd],rfl,?_⟩⟩,fun i hi => ?_⟩
  ·rw[bP,if_pos rfl];rfl
  ·rw[bP,if_neg (by omega)]
 ·have ht:bF (bz ((l++m).map dg) 0) (l.length*1)=some (l.map dg):=by
   rw[cD,dk (by simp)]
   simp
  refine⟨.own hp.length 1 0 (l.length+1) false,bd (cF hp id ⟨.dead,[]⟩) (l.map dg++[dg a]),⟨[],[id,hp.length],true,false⟩,?_,⟨by simp[bd,bQ];omega,.inr ⟨hp.length,[],hb,by simp[bd,bQ],by simp,?_⟩⟩,fun i hi => ?_⟩
  ·simp only[cU,h]
   rw[ht]
   simp[cW]
   omega
  ·rw[bP,bQ,if_pos rfl];simp
  ·rw[bP,bQ,if_neg (by omega),cN h,if_neg (by omega)]
theorem dL.snap {b:Nat}{hp:Θ}{l:Ω}{p:PV}(h:dL b hp l p)(d:Nat):∃ q ids,Ab.snap hp (d+2) p=some (q,ids)∧Wk q (aL l)∧canon q=aL l:=by
 obtain⟨hb,h⟩:=h
 rcases h with ⟨rfl,rfl⟩| ⟨id,m,_,_,rfl,h⟩
 ·exact⟨.sc (.slice none 0 0),[],rfl,Wk.nil false,rfl⟩
 ·have ht:bF (bz ((l++m).map dg) 0) (l.length*1)=some (l.map dg):=by
   rw[cD,dk (by simp)]
   simp
  refine⟨.imm l.length false (l.map dg),[id],?_,Wk.refl rfl,fF l⟩
  have hs:=jY hp d l
  rw[Ab.snap]
  simp only[h]
  rw[if_neg (by simp),ht]
  simp only[hs]
theorem lQ {C:Cfg}{run:av}{dr:Bool}{hp:Θ}{g:FuncId}{args args' rs:Ψ}{ids:Ω}
  (h1:C.shared g=false) (h2:bu (snap hp bn) args=some (args',ids)) (h3:C.orc g args'=some rs) (h4:rs.all eg=true) :
  bS C run dr hp g args=some (iL rs,hp,⟨ids,[],false,false⟩):=by
 unfold bS
 simp[h1,h2,h3,h4]
theorem eI {C:Cfg}{run:av}{dr:Bool}{hp:Θ}{g:FuncId}{args args' rs:Ψ}{ids:Ω}
  (h1:C.shared g=false) (h2:bu (snap hp bn) args=some (args',ids)) (h3:C.orc g args'=some rs) (h4:rs.all eg=false) :
  bS C run dr hp g args=some (iL rs,roB hp ids,⟨ids,ids,false,false⟩):=by
 unfold bS
 simp[h1,h2,h3,h4]
def az:Code→Option Code
 | .loop b=>some b
 | .seq a b=>(az a).or (az b)
 | .block _ b=>az b
 | .scope b=>az b
 | .cond _ a b=>(az a).or (az b)
 | _=>none
def seq1:Code→Code
 | .seq a _=>a
 | c=>c
def aO:Code→Code
 | .seq _ b=>b
 | c=>c
theorem Bp {l:Ω}{n:Nat}(h:l.length=n+1):∃ l' a,l=l'++[a]∧l'.length=n:=by
 have hne:l≠[]:=by intro e;subst e;simp at h
 exact⟨l.dropLast,l.getLast hne,(dropLast_concat_getLast hne).symm,by simp[h]⟩
def bC:List (Nat × (Ψ→Option Ψ))→Nat→Ψ→Option Ψ
 | [],_=>fun _=>none
 | (n,f)::r,g=>bif g.beq n then fun a=>f (aK a) else bC r g
def dt (P:Program):List (Nat × (Ψ→Option Ψ))→Prop
 | []=>True
 | (n,f)::r=>Spec P n f∧dt P r
theorem Er {P:Program} : ∀ {L:List (Nat × (Ψ→Option Ψ))},dt P L→∀ g,Spec P g (bC L g)
 | [],_,g=>Spec.no P g
 | (n,f)::r,h,g=>by
  unfold bC
  cases e:g.beq n with
  | true =>
   have:=Nat.eq_of_beq_eq_true e
   subst this
   exact h.1.canon
  | false=>exact Er h.2 g
def ai:Nat→Code→Code
 | 0,c=>c
 | n+1,.seq _ b=>ai n b
 | _+1,c=>c
def bh (C:Cfg)(run:av)(k:Nat):Nat→Code→St→Option St
 | 0,_,st=>some st
 | n+1,.seq a b,st=>match ae C run k a st with
  | some (.normal,st')=>bh C run k n b st'
  | _=>none
 | _+1,_,_=>none
theorem aU {C:Cfg}{run:av}{k:Nat} : ∀ (n:Nat) {c:Code} {st st':St},bh C run k n c st=some st'→ae C run k c st=ae C run k (ai n c) st'
 | 0,c,st,st',h=>by simp[bh] at h;subst h;rfl
 | n+1,c,st,st',h=>by
  cases c with
  | seq a b =>
   simp only[bh] at h
   split at h
   ·rename_i st1 e
    simp only[ae,e,ai]
    exact aU n h
   ·cases h
  | _=>simp[bh] at h
theorem ao {C:Cfg}{run:av}{k:Nat}{a b:Code}{st st':St}(h:ae C run k a st=some (.normal,st')):ae C run k (.seq a b) st=ae C run k b st':=by
 simp only[ae,h]
theorem bD {C:Cfg}{run:av}{k i:Nat}{b:Code}{st st':St}(h:cg (ae C run k b) k st=some (.exit i,st')):ae C run k (.block i (.loop b)) st=some (.normal,st'):=by
 simp only[ae,h,if_true]
theorem fC {C:Cfg}{run:av}{k i:Nat}{b:Code}{st st':St}(h:ae C run k b st=some (.normal,st')):ae C run k (.block i b) st=some (.normal,st'):=by
 simp only[ae,h]
theorem bU {f:St→Option (Ex × St)}{n:Nat}{st st':St}(h:f st=some (.normal,st')):cg f (n+1) st=cg f n st':=by
 simp only[cg,h]
theorem br {f:St→Option (Ex × St)}{n i:Nat}{st st':St}(h:f st=some (.exit i,st')):cg f (n+1) st=some (.exit i,st'):=by
 simp only[cg,h]
theorem dD {f:St→Option (Ex × St)}{n:Nat}{st st':St}(h:f st=some (.ret,st')):cg f (n+1) st=some (.ret,st'):=by
 simp only[cg,h]
theorem Py {C:Cfg}{run:av}{k:Nat}{g:FuncId}{args:Ψ}{fn:Func}{c:Code}{st:St}{rs:Ψ}
  (hF:C.F g=some fn) (hb:fn.body=some c) (hx:ae C run k c ⟨entry fn.ntmps args,[],[]⟩=some (.ret,st)) (hr:aY C.T st.fr st.hp fn.results.toList=some rs) :
  rV C run k g args []=some (rs,st.hp,st.wr):=by
 simp only[rV,hF,hb,hx,hr]
theorem aZ {C:Cfg}{k:Nat}{g:FuncId}{args:Ψ}{fn:Func}{c:Code}{st:St}{rs:Ψ}
  (hF:C.F g=some fn) (hb:fn.body=some c) (hx:ae C (runK C k) k c ⟨entry fn.ntmps args,[],[]⟩=some (.ret,st)) (hr:aY C.T st.fr st.hp fn.results.toList=some rs) (hs:C.sorc g=none:=by rfl) :
  runK C (k+1) g args []=some (rs,st.hp,st.wr):=by
 simp only[runK,hs]
 exact Py hF hb hx hr
theorem fD:∀ (n:Nat) (l:Ψ),l.length≤n→(entry n l).length=n
 | 0,l,h=>by simp at h;subst h;rfl
 | n+1,[],_=>by simp[entry,fD n [] (by simp)]
 | n+1,a::l,h=>by simp[entry,fD n l (by simpa using h)]
theorem bG {f:St→Option (Ex × St)}{r:Ex × St} : ∀ {n m:Nat} {st:St},cg f n st=some r→n≤m→cg f m st=some r
 | 0,m,st,h,_=>by simp[cg] at h
 | n+1,0,st,_,h=>by omega
 | n+1,m+1,st,h,hm=>by
  simp only[cg] at h ⊢
  split at h
  ·exact bG h (by omega)
  ·exact h
theorem dL.set {b:Nat}{hp:Θ}{l:Ω}{p:PV}(h:dL b hp l p)(i:Nat)(x:Blk)(hi:i<b):dL b (cF hp i x) l p:=by
 obtain⟨hb,h⟩:=h
 refine⟨by rw[bQ];exact hb,?_⟩
 rcases h with ⟨rfl,rfl⟩| ⟨id,m,h1,h2,rfl,h⟩
 ·exact .inl ⟨rfl,rfl⟩
 ·refine .inr ⟨id,m,h1,by rw[bQ];exact h2,rfl,?_⟩
  rw[jh,cY,getElem?_set_ne (by omega),← cY]
  exact h
theorem dL.out {b:Nat}{hp:Θ}{l:Ω}{p:PV}(h:dL b hp l p)(n:Bool) :
  ∃ rs ids,bu (Ab.snap hp bn) [.agg [.sc (.bool n),p]]=some (rs,ids)∧WkL rs [wh n l]:=by
 obtain⟨q,ids,h1,h2,h3⟩:=h.snap 9
 refine⟨[.agg [.sc (.bool n),q]],ids++[]++[],?_,?_⟩
 ·have:Ab.snap hp 12 (.agg [.sc (.bool n),p])=some (.agg [.sc (.bool n),q],ids++[]):=by
   rw[Ab.snap]
   simp only[bu,h1]
   rfl
  simp only[bn,bu,this]
  try simp
 ·exact⟨Wk.agg ⟨Wk.refl rfl,h2,trivial⟩,trivial⟩
theorem dL.Iu {b:Nat}{hp:Θ}{l:Ω}{p:PV}(h:dL b hp l p) :
  ∃ rs ids,bu (Ab.snap hp bn) [p]=some (rs,ids)∧WkL rs [aL l]:=by
 obtain⟨q,ids,h1,h2,h3⟩:=h.snap 10
 refine⟨[q],ids++[],?_,h2,trivial⟩
 simp only[bn,bu,h1]
theorem vM {n:Nat}(h:0<n)(h':n<18446744073709551616):bB .u64 (-(n:Int))=Int.ofNat (18446744073709551616 - n):=by
 have h1:decide (loK .u64 ≤ -(n:Int))=false:=by
  apply decide_eq_false
  simp[loK];omega
 unfold bB
 rw[h1]
 simp[IntKind.wrap,IntKind.bits,IntKind.signed]
 omega
theorem cR (n:Nat)(x:Bool)(cs:Ψ):dc (.imm n x cs)=some n:=(rfl)
theorem jb (a b c n:Nat)(x:Bool):dc (.own a b c n x)=some n:=(rfl)
theorem cl (l:Ω):dc (aL l)=some l.length:=(rfl)
theorem yp (l:Ω):(aL l).cells?=some [aL l]:=(rfl)
theorem bp (cs:Ψ):(PV.agg cs).cells?=some cs:=(rfl)
theorem pV (b:Bool):(PV.sc (.bool b)).cells?=some [.sc (.bool b)]:=(rfl)
theorem cf (l:Ω):dZ (aL l)=true:=(rfl)
theorem bH (b:Bool):dZ (PV.sc (.bool b))=true:=(rfl)
theorem fy:dZ (PV.sc (.slice none 0 0))=true:=(rfl)
theorem akq (a b:Nat):((a:Int) == (b:Int))=decide (a=b):=by
 by_cases h:a=b
 ·simp[h]
 ·rw[decide_eq_false h,beq_eq_false_iff_ne];omega
theorem FX (a b:Nat):((a:Int) != (b:Int)) = !decide (a=b):=by
 rw[bne,akq]
theorem cM (m:Nat)(h:m<9223372036854775808):bB .i64 ((m:Int) - 1)=(m:Int) - 1:=by
 unfold bB
 have h1:decide (loK .i64≤(m:Int) - 1)=true:=decide_eq_true (by simp only[loK];omega)
 have h2:decide ((m:Int) - 1≤hiK .i64)=true:=decide_eq_true (by simp only[hiK];omega)
 rw[h1,h2];rfl
theorem bE (m:Nat)(h:m<9223372036854775807):bB .i64 ((m:Int)+1)=(m:Int)+1:=by
 unfold bB
 have h1:decide (loK .i64≤(m:Int)+1)=true:=decide_eq_true (by simp only[loK];omega)
 have h2:decide ((m:Int)+1≤hiK .i64)=true:=decide_eq_true (by simp only[hiK];omega)
 rw[h1,h2];rfl
theorem bm (k:IntKind)(n:Nat):gI (.sc (.int k (n:Int)))=some n:=(rfl)
theorem je (k:IntKind)(n:Nat):gI (.sc (.int k ((n:Int)+1)))=some (n+1):=(rfl)
theorem jQ (k:IntKind):gI (.sc (.int k 0))=some 0:=(rfl)
theorem iC {n:Nat}(h:n≤4294967295):n≤hiN .u32:=h
theorem dA {n:Nat}(h:n≤18446744073709551615):n≤hiN .u64:=h
theorem hiI {n:Nat}(h:n≤9223372036854775807):n≤hiN .i64:=h
theorem cV (n:Nat)(p:PV):(entry (n+1) [p]).length=n+1∧nth (entry (n+1) [p]) 0=p:=⟨fD _ _ (by simp),rfl⟩
theorem cb (n:Nat)(p q:PV):(entry (n+2) [p,q]).length=n+2∧nth (entry (n+2) [p,q]) 0=p∧nth (entry (n+2) [p,q]) 1=q:=⟨fD _ _ (by simp),rfl,rfl⟩
theorem afX (n:Nat):((n:Int)≤2)=(n≤2):=by apply propext;omega
def db:Nat→Nat→Ω
 | 0,_=>[]
 | n+1,v=>v % 1000000000::db n (v / 1000000000)
theorem dq:∀ n v,(db n v).length=n
 | 0,_=>rfl
 | n+1,v=>by simp[db,dq n]
theorem gn:∀ n v,Dok (db n v)
 | 0,_=>Dok.nil
 | n+1,v=>(gn n _).cons (by omega)
theorem fj:∀ n v,v<1000000000 ^ n→val (db n v)=v
 | 0,v,h=>by simp at h;subst h;rfl
 | n+1,v,h=>by
  rw[db,val,fj n _ (by rw[Nat.pow_succ] at h;omega)]
  omega
theorem nE:∀ {l:Ω},Dok l→db l.length (val l)=l
 | [],_=>rfl
 | a::l,h=>by
  have ha:=h.head
  rw[length_cons,db,val,Nat.add_mul_mod_self_left,Nat.mod_eq_of_lt ha,Nat.add_mul_div_left _ _ (by omega),Nat.div_eq_of_lt ha,Nat.zero_add,nE h.tail]
theorem Dok.pQ {l:Ω}{n v:Nat}(h:Dok l)(hl:l.length=n)(hv:val l=v):l=db n v:=by
 subst hl;subst hv;exact (nE h).symm
def dR (a b:Nat):Int:=if a<b then -1 else if a=b then 0 else 1
theorem ld {a:Ω}{m:Nat}(hm:m<a.length):val a=val (a.take m)+(a[m]*1000000000 ^ m+1000000000 ^ (m+1)*val (a.drop (m+1))):=by
 rw[lf a (m+1) (by omega),gK a m hm]
 omega
theorem lb {a b:Ω}{m:Nat}(ha:Dok a)(hma:m<a.length)(hmb:m<b.length)(hd:a.drop (m+1)=b.drop (m+1))(h:a[m]<b[m]):val a<val b:=by
 rw[ld hma,ld hmb,hd]
 have h1:=eM (ha.take m)
 rw[length_take,Nat.min_eq_left (by omega)] at h1
 have h2:a[m]*1000000000 ^ m+1000000000 ^ m≤b[m]*1000000000 ^ m:=by
  have:=Nat.mul_le_mul_right (1000000000 ^ m) (show a[m]+1≤b[m] from h)
  rw[Nat.add_mul,Nat.one_mul] at this
  exact this
 omega
theorem cB (l:Ω)(i:Nat)(h:l.length≤i):val (l.take i)=val l:=by
 rw[take_of_length_le h]
theorem dx (k:IntKind)(a b s:Nat)(h:s=a+b)(hs:s≤hiN k):bB k ((a:Int)+(b:Int))=(s:Int):=by
 subst h
 exact (by simpa using dp k (a+b) hs)
theorem wrapM (k:IntKind)(a b s:Nat)(h:s=a*b)(hs:s≤hiN k):bB k ((a:Int)*(b:Int))=(s:Int):=by
 subst h
 exact (by simpa using dp k (a*b) hs)
theorem jm (k:IntKind)(a b s:Nat)(h:a=b+s)(hs:s≤hiN k):bB k ((a:Int) - (b:Int))=(s:Int):=by
 have:=dp k s hs
 rw[show ((a:Int) - (b:Int))=(s:Int) by omega];exact this
theorem adw (k:IntKind)(a b s:Nat)(h:s=a / b)(hs:s≤hiN k):bB k ((a:Int) / (b:Int))=(s:Int):=by
 subst h
 exact (by simpa using dp k (a / b) hs)
theorem QW (a b s:Nat)(h:s=a % b):(a:Int).tmod (b:Int)=(s:Int):=by
 subst h;exact (Int.ofNat_tmod a b).symm
def at0 (l:Ω)(i:Nat):Nat:=l[i]?.getD 0
theorem de {l:Ω}{i:Nat}(h:i<l.length):at0 l i=l[i]:=by simp[at0,h]
theorem jd {l:Ω}{i:Nat}(h:l.length≤i):at0 l i=0:=by simp[at0,h]
theorem cn {l:Ω}(h:Dok l)(i:Nat):at0 l i<1000000000:=by
 by_cases hi:i<l.length
 ·rw[de hi];exact h.get hi
 ·rw[jd (by omega)];omega
theorem cu (l:Ω)(i:Nat):val (l.take (i+1))=val (l.take i)+at0 l i*1000000000 ^ i:=by
 by_cases hi:i<l.length
 ·rw[de hi,gK l i hi]
 ·rw[jd (by omega),cB l _ (by omega),cB l _ (by omega)];simp
theorem cp (k:IntKind)(s:Nat)(hs:s≤hiN k):bB k (s:Int)=(s:Int):=dp k s hs
theorem Vq {T:Tab}{t e:Nat}(hu:und T t=some (.slice e))(hs:dm T e=some 1)(hz:ef T e=some [dg 0])(n:Nat) :
  fP T t 1 [(0,dg n)]=some (1,[dg n]):=by
 simp[fP,hu,hs,hz,rep,dJ,fY,b9]
theorem nA (hp:Θ)(n:Nat):eY hp 1 (.imm 1 true [dg n])=some (1,[dg n],[]):=by simp[eY]
theorem jF (n:Nat):bT [dg n]=true:=(rfl)
theorem gM (n:Nat):PV.sc (.int .u32 (n:Int))=dg n:=(rfl)
theorem W3 (s:Nat):((s:Int) / 1000000000)=((s / 1000000000:Nat):Int):=by omega
theorem jC (k:IntKind)(a s:Nat)(h:s=a / 1000000000)(hs:s≤hiN k):bB k ((a:Int) / 1000000000)=(s:Int):=by
 subst h
 rw[W3];exact dp k _ hs
theorem ll (a s:Nat)(h:s=a % 1000000000):(a:Int).tmod 1000000000=(s:Int):=by
 subst h
 rw[Int.tmod_eq_emod_of_nonneg (by omega)];omega
theorem lS (k:IntKind)(a s:Nat)(h:s=a*1000000000)(hs:s≤hiN k):bB k ((a:Int)*1000000000)=(s:Int):=by
 have e:((a:Int)*1000000000)=(s:Int):=by omega
 rw[e];exact dp k _ hs
theorem cw {x y:Nat}(h:x≤y):(aJ x).length≤(aJ y).length:=di (Nat.lt_of_le_of_lt h (fA y))
theorem kX {l:Ω}{m y:Nat}(h:m<l.length):(l.set m y).drop m=y::l.drop (m+1):=by
 rw[drop_eq_getElem_cons (by simpa using h)]
 simp[drop_set]
theorem il (l:Ω)(m:Nat)(h:m<l.length):val (l.drop m)=at0 l m+1000000000*val (l.drop (m+1)):=by
 rw[drop_eq_getElem_cons h,val,de h]
theorem Fu {V V' Q R a b:Nat}(hb:0<b)(hV:V'=a+1000000000*V)(hQ:Q=V / b)(hR:R=V % b) :
  (R*1000000000+a) / b+1000000000*Q=V' / b∧(R*1000000000+a) % b=V' % b:=by
 have e:V'=(R*1000000000+a)+b*(1000000000*Q):=by
  have h:=Nat.div_add_mod V b
  rw[← hQ,← hR] at h
  rw[hV,← h]
  grind
 rw[e,Nat.add_mul_div_left _ _ hb,Nat.add_mul_mod_self_left]
 exact⟨rfl,rfl⟩
end Go.Ab
