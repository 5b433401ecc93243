/- An abstract interpreter over the model's code and its soundness, part 7; each lemma states its conditions. -/
import Derived.Test.YtjdmodeenbdfpaaGreatW06
set_option linter.unusedSimpArgs false
set_option linter.unusedVariables false
namespace Go.Ab
open Go List
theorem gh (n:Nat):(dg n).cells?=some [dg n]:=(rfl)
theorem du (n:Nat):dK (dg n)=true:=(rfl)
theorem sA (n:Nat):rep n [dg 0]=(List.replicate n 0).map dg:=by
 induction n with
 | zero=>rfl
 | succ n ih=>simp[rep,ih,replicate_succ]
theorem ab0 (l:Ω)(i:Nat)(h:i<l.length):bq (l.map dg) i=dg l[i]::(l.drop (i+1)).map dg:=by
 rw[cA,← map_drop,drop_eq_getElem_cons h];rfl
theorem eQ (l:Ω)(i:Nat)(h:i<l.length):(bq (l.map dg) i).head?=some (dg l[i]):=by
 rw[ab0 l i h];rfl
theorem jn:∀ (l:Ω) (i y:Nat),i<l.length→cm (l.map dg) i [dg y]=some ((l.set i y).map dg)
 | [],i,y,h=>by simp at h
 | a::l,0,y,h=>by simp[cm]
 | a::l,i+1,y,h=>by
  have:=jn l i y (by simpa using h)
  simp only[map_cons,cm,this,set_cons_succ]
theorem Yy (l:Ω):bD (l.map dg) l.length=some (l.map dg):=by
 rw[dc (by simp),take_of_length_le (by simp)]
theorem Db (l:Ω):bD (bq (l.map dg) 0) (l.length*1)=some (l.map dg):=by
 rw[cA,drop_zero,Nat.mul_one,Yy]
theorem kg (hp:Θ)(d:Nat):∀ l:Ω,bj (snap hp (d+1)) (l.map dg)=some (l.map dg,[])
 | []=>rfl
 | a::l=>by
  simp only[map_cons,bj,kg hp d l]
  rfl
theorem jg:∀ l:Ω,aJ (l.map dg)=l.map dg
 | []=>rfl
 | a::l=>by simp only[map_cons,aJ,jg l];rfl
theorem fH (l:Ω):canon (aO l)=aO l:=by
 simp only[aO,canon,jg]
theorem WU (n:Bool)(l:Ω):canon (wh n l)=wh n l:=by
 simp only[wh,canon,aJ,fH]
theorem yf (z:Int):canon (br z)=br z:=WU _ _
theorem dx (k:IntKind)(n:Nat)(h:n≤hiN k):bF k (n:Int)=Int.ofNat n:=P7 (n:=n) (Nat.ble_eq ▸ h)
def dR (b:Nat)(hp:Θ)(l:Ω)(p:PV):Prop :=
 b≤hp.length∧((l=[]∧p = .sc (.slice none 0 0))∨∃ id m,b≤id∧id<hp.length∧p = .own id 1 0 l.length false∧aP hp id=some ⟨.live,(l++m).map dg⟩)
theorem dR.nil {b:Nat}{hp:Θ}(h:b≤hp.length):dR b hp [] (.sc (.slice none 0 0)):=⟨h,.inl ⟨rfl,rfl⟩⟩
theorem dR.len {b:Nat}{hp:Θ}{l:Ω}{p:PV}(h:dR b hp l p):dy p=some l.length:=by
 rcases h.2 with ⟨rfl,rfl⟩| ⟨id,m,_,_,rfl,h⟩ <;> rfl
theorem dR.cells {b:Nat}{hp:Θ}{l:Ω}{p:PV}(h:dR b hp l p):p.cells?=some [p]:=by
 rcases h.2 with ⟨rfl,rfl⟩| ⟨id,m,_,_,rfl,h⟩ <;> rfl
theorem dR.okc {b:Nat}{hp:Θ}{l:Ω}{p:PV}(h:dR b hp l p):dK p=true:=by
 rcases h.2 with ⟨rfl,rfl⟩| ⟨id,m,_,_,rfl,h⟩ <;> rfl
theorem dR.app {b:Nat}{hp:Θ}{l:Ω}{p:PV}(h:dR b hp l p)(a:Nat)(hl:l.length<100000000) :
  ∃ p' hp' fp,cw hp 1 p 1 [dg a]=some (p',hp',fp)∧dR b hp' (l++[a]) p'∧∀ i,i<b→aP hp' i=aP hp i:=by
 obtain⟨hb,h⟩:=h
 rcases h with ⟨rfl,rfl⟩| ⟨id,m,hid,hid2,rfl,h⟩
 ·refine⟨.own hp.length 1 0 1 false,aL hp [dg a],⟨[],[hp.length],true,false⟩,by simp[cw,cN],⟨by simp[aL];omega,.inr ⟨hp.length,[],hb,by simp[aL],rfl,?_⟩⟩,fun i hi => ?_⟩
  ·rw[bz,if_pos rfl];rfl
  ·rw[bz,if_neg (by omega)]
 ·have ht:bD (bq ((l++m).map dg) 0) (l.length*1)=some (l.map dg):=by
   rw[cA,dc (by simp)]
   simp
  refine⟨.own hp.length 1 0 (l.length+1) false,aL (bZ hp id ⟨.dead,[]⟩) (l.map dg++[dg a]),⟨[],[id,hp.length],true,false⟩,?_,⟨by simp[aL,bC];omega,.inr ⟨hp.length,[],hb,by simp[aL,bC],by simp,?_⟩⟩,fun i hi => ?_⟩
  ·simp only[cw,h]
   rw[ht]
   simp[cN]
   omega
  ·rw[bz,bC,if_pos rfl];simp
  ·rw[bz,bC,if_neg (by omega),cI h,if_neg (by omega)]
theorem dR.snap {b:Nat}{hp:Θ}{l:Ω}{p:PV}(h:dR b hp l p)(d:Nat):∃ q ids,Ab.snap hp (d+2) p=some (q,ids)∧Wk q (aO l)∧canon q=aO l:=by
 obtain⟨hb,h⟩:=h
 rcases h with ⟨rfl,rfl⟩| ⟨id,m,_,_,rfl,h⟩
 ·exact⟨.sc (.slice none 0 0),[],rfl,Wk.nil false,rfl⟩
 ·have ht:bD (bq ((l++m).map dg) 0) (l.length*1)=some (l.map dg):=by
   rw[cA,dc (by simp)]
   simp
  refine⟨.imm l.length false (l.map dg),[id],?_,Wk.refl rfl,fH l⟩
  have hs:=kg hp d l
  rw[Ab.snap]
  simp only[h]
  rw[if_neg (by simp),ht]
  simp only[hs]
theorem ke {C:Cfg}{run:aw}{dr:Bool}{hp:Θ}{g:FuncId}{args args' rs:Ψ}{ids:Ω}
  (h1:C.shared g=false) (h2:bj (snap hp bp) args=some (args',ids)) (h3:C.orc g args'=some rs) (h4:rs.all ed=true) :
  bU C run dr hp g args=some (ja rs,hp,⟨ids,[],false,false⟩):=by
 unfold bU
 simp[h1,h2,h3,h4]
theorem et {C:Cfg}{run:aw}{dr:Bool}{hp:Θ}{g:FuncId}{args args' rs:Ψ}{ids:Ω}
  (h1:C.shared g=false) (h2:bj (snap hp bp) args=some (args',ids)) (h3:C.orc g args'=some rs) (h4:rs.all ed=false) :
  bU C run dr hp g args=some (ja rs,roB hp ids,⟨ids,ids,false,false⟩):=by
 unfold bU
 simp[h1,h2,h3,h4]
def aA:Code→Option Code
 | .loop b=>some b
 | .seq a b=>(aA a).or (aA b)
 | .block _ b=>aA b
 | .scope b=>aA b
 | .cond _ a b=>(aA a).or (aA b)
 | _=>none
def seq1:Code→Code
 | .seq a _=>a
 | c=>c
def bn:Code→Code
 | .seq _ b=>b
 | c=>c
theorem Bv {l:Ω}{n:Nat}(h:l.length=n+1):∃ l' a,l=l'++[a]∧l'.length=n:=by
 have hne:l≠[]:=by intro e;subst e;simp at h
 exact⟨l.dropLast,l.getLast hne,(dropLast_concat_getLast hne).symm,by simp[h]⟩
def bt:List (Nat × (Ψ→Option Ψ))→Nat→Ψ→Option Ψ
 | [],_=>fun _=>none
 | (n,f)::r,g=>bif g.beq n then fun a=>f (aJ a) else bt r g
def dt (P:Program):List (Nat × (Ψ→Option Ψ))→Prop
 | []=>True
 | (n,f)::r=>Spec P n f∧dt P r
theorem EE {P:Program} : ∀ {L:List (Nat × (Ψ→Option Ψ))},dt P L→∀ g,Spec P g (bt L g)
 | [],_,g=>Spec.no P g
 | (n,f)::r,h,g=>by
  unfold bt
  cases e:g.beq n with
  | true =>
   have:=Nat.eq_of_beq_eq_true e
   subst this
   exact h.1.canon
  | false=>exact EE h.2 g
def ag:Nat→Code→Code
 | 0,c=>c
 | n+1,.seq _ b=>ag n b
 | _+1,c=>c
def ba (C:Cfg)(run:aw)(k:Nat):Nat→Code→St→Option St
 | 0,_,st=>some st
 | n+1,.seq a b,st=>match af C run k a st with
  | some (.normal,st')=>ba C run k n b st'
  | _=>none
 | _+1,_,_=>none
theorem aQ {C:Cfg}{run:aw}{k:Nat} : ∀ (n:Nat) {c:Code} {st st':St},ba C run k n c st=some st'→af C run k c st=af C run k (ag n c) st'
 | 0,c,st,st',h=>by simp[ba] at h;subst h;rfl
 | n+1,c,st,st',h=>by
  cases c with
  | seq a b =>
   simp only[ba] at h
   split at h
   ·rename_i st1 e
    simp only[af,e,ag]
    exact aQ n h
   ·cases h
  | _=>simp[ba] at h
theorem ar {C:Cfg}{run:aw}{k:Nat}{a b:Code}{st st':St}(h:af C run k a st=some (.normal,st')):af C run k (.seq a b) st=af C run k b st':=by
 simp only[af,h]
theorem bK {C:Cfg}{run:aw}{k i:Nat}{b:Code}{st st':St}(h:ch (af C run k b) k st=some (.exit i,st')):af C run k (.block i (.loop b)) st=some (.normal,st'):=by
 simp only[af,h,if_true]
theorem fF {C:Cfg}{run:aw}{k i:Nat}{b:Code}{st st':St}(h:af C run k b st=some (.normal,st')):af C run k (.block i b) st=some (.normal,st'):=by
 simp only[af,h]
theorem ca {f:St→Option (Ex × St)}{n:Nat}{st st':St}(h:f st=some (.normal,st')):ch f (n+1) st=ch f n st':=by
 simp only[ch,h]
theorem bE {f:St→Option (Ex × St)}{n i:Nat}{st st':St}(h:f st=some (.exit i,st')):ch f (n+1) st=some (.exit i,st'):=by
 simp only[ch,h]
theorem ez {f:St→Option (Ex × St)}{n:Nat}{st st':St}(h:f st=some (.ret,st')):ch f (n+1) st=some (.ret,st'):=by
 simp only[ch,h]
theorem Ps {C:Cfg}{run:aw}{k:Nat}{g:FuncId}{args:Ψ}{fn:Func}{c:Code}{st:St}{rs:Ψ}
  (hF:C.F g=some fn) (hb:fn.body=some c) (hx:af C run k c ⟨entry fn.ntmps args,[],[]⟩=some (.ret,st)) (hr:bc C.T st.fr st.hp fn.results.toList=some rs) :
  uA C run k g args []=some (rs,st.hp,st.wr):=by
 simp only[uA,hF,hb,hx,hr]
theorem aV {C:Cfg}{k:Nat}{g:FuncId}{args:Ψ}{fn:Func}{c:Code}{st:St}{rs:Ψ}
  (hF:C.F g=some fn) (hb:fn.body=some c) (hx:af C (runK C k) k c ⟨entry fn.ntmps args,[],[]⟩=some (.ret,st)) (hr:bc C.T st.fr st.hp fn.results.toList=some rs) (hs:C.sorc g=none:=by rfl) :
  runK C (k+1) g args []=some (rs,st.hp,st.wr):=by
 simp only[runK,hs]
 exact Ps hF hb hx hr
theorem gF:∀ (n:Nat) (l:Ψ),l.length≤n→(entry n l).length=n
 | 0,l,h=>by simp at h;subst h;rfl
 | n+1,[],_=>by simp[entry,gF n [] (by simp)]
 | n+1,a::l,h=>by simp[entry,gF n l (by simpa using h)]
theorem bT {f:St→Option (Ex × St)}{r:Ex × St} : ∀ {n m:Nat} {st:St},ch f n st=some r→n≤m→ch f m st=some r
 | 0,m,st,h,_=>by simp[ch] at h
 | n+1,0,st,_,h=>by omega
 | n+1,m+1,st,h,hm=>by
  simp only[ch] at h ⊢
  split at h
  ·exact bT h (by omega)
  ·exact h
theorem dR.set {b:Nat}{hp:Θ}{l:Ω}{p:PV}(h:dR b hp l p)(i:Nat)(x:Blk)(hi:i<b):dR b (bZ hp i x) l p:=by
 obtain⟨hb,h⟩:=h
 refine⟨by rw[bC];exact hb,?_⟩
 rcases h with ⟨rfl,rfl⟩| ⟨id,m,h1,h2,rfl,h⟩
 ·exact .inl ⟨rfl,rfl⟩
 ·refine .inr ⟨id,m,h1,by rw[bC];exact h2,rfl,?_⟩
  rw[jl,cW,getElem?_set_ne (by omega),← cW]
  exact h
theorem dR.out {b:Nat}{hp:Θ}{l:Ω}{p:PV}(h:dR b hp l p)(n:Bool) :
  ∃ rs ids,bj (Ab.snap hp bp) [.agg [.sc (.bool n),p]]=some (rs,ids)∧WkL rs [wh n l]:=by
 obtain⟨q,ids,h1,h2,h3⟩:=h.snap 9
 refine⟨[.agg [.sc (.bool n),q]],ids++[]++[],?_,?_⟩
 ·have:Ab.snap hp 12 (.agg [.sc (.bool n),p])=some (.agg [.sc (.bool n),q],ids++[]):=by
   rw[Ab.snap]
   simp only[bj,h1]
   rfl
  simp only[bp,bj,this]
  try simp
 ·exact⟨Wk.agg ⟨Wk.refl rfl,h2,trivial⟩,trivial⟩
theorem dR.HY {b:Nat}{hp:Θ}{l:Ω}{p:PV}(h:dR b hp l p) :
  ∃ rs ids,bj (Ab.snap hp bp) [p]=some (rs,ids)∧WkL rs [aO l]:=by
 obtain⟨q,ids,h1,h2,h3⟩:=h.snap 10
 refine⟨[q],ids++[],?_,h2,trivial⟩
 simp only[bp,bj,h1]
theorem vD {n:Nat}(h:0<n)(h':n<18446744073709551616):bF .u64 (-(n:Int))=Int.ofNat (18446744073709551616 - n):=by
 have h1:decide (loK .u64 ≤ -(n:Int))=false:=by
  apply decide_eq_false
  simp[loK];omega
 unfold bF
 rw[h1]
 simp[IntKind.wrap,IntKind.bits,IntKind.signed]
 omega
theorem cR (n:Nat)(x:Bool)(cs:Ψ):dy (.imm n x cs)=some n:=(rfl)
theorem iq (a b c n:Nat)(x:Bool):dy (.own a b c n x)=some n:=(rfl)
theorem cn (l:Ω):dy (aO l)=some l.length:=(rfl)
theorem yc (l:Ω):(aO l).cells?=some [aO l]:=(rfl)
theorem bm (cs:Ψ):(PV.agg cs).cells?=some cs:=(rfl)
theorem kz (b:Bool):(PV.sc (.bool b)).cells?=some [.sc (.bool b)]:=(rfl)
theorem Pf (a b c n:Nat)(x:Bool):(PV.own a b c n x).cells?=some [.own a b c n x]:=(rfl)
theorem bX (l:Ω):dK (aO l)=true:=(rfl)
theorem bH (b:Bool):dK (PV.sc (.bool b))=true:=(rfl)
theorem H2 (k:IntKind)(n:Int):dK (PV.sc (.int k n))=true:=(rfl)
theorem pL (a b c n:Nat)(x:Bool):dK (PV.own a b c n x)=true:=(rfl)
theorem fC:dK (PV.sc (.slice none 0 0))=true:=(rfl)
theorem ajR (a b:Nat):((a:Int) == (b:Int))=decide (a=b):=by
 by_cases h:a=b
 ·simp[h]
 ·rw[decide_eq_false h,beq_eq_false_iff_ne];omega
theorem FW (a b:Nat):((a:Int) != (b:Int)) = !decide (a=b):=by
 rw[bne,ajR]
theorem cM (m:Nat)(h:m<9223372036854775808):bF .i64 ((m:Int) - 1)=(m:Int) - 1:=by
 unfold bF
 have h1:decide (loK .i64≤(m:Int) - 1)=true:=decide_eq_true (by simp only[loK];omega)
 have h2:decide ((m:Int) - 1≤hiK .i64)=true:=decide_eq_true (by simp only[hiK];omega)
 rw[h1,h2];rfl
theorem bA (m:Nat)(h:m<9223372036854775807):bF .i64 ((m:Int)+1)=(m:Int)+1:=by
 unfold bF
 have h1:decide (loK .i64≤(m:Int)+1)=true:=decide_eq_true (by simp only[loK];omega)
 have h2:decide ((m:Int)+1≤hiK .i64)=true:=decide_eq_true (by simp only[hiK];omega)
 rw[h1,h2];rfl
theorem bh (k:IntKind)(n:Nat):gl (.sc (.int k (n:Int)))=some n:=(rfl)
theorem ji (k:IntKind)(n:Nat):gl (.sc (.int k ((n:Int)+1)))=some (n+1):=(rfl)
theorem jX (k:IntKind):gl (.sc (.int k 0))=some 0:=(rfl)
theorem acv (k:IntKind):gl (.sc (.int k 1))=some 1:=(rfl)
theorem iM {n:Nat}(h:n≤4294967295):n≤hiN .u32:=h
theorem dC {n:Nat}(h:n≤18446744073709551615):n≤hiN .u64:=h
theorem hiI {n:Nat}(h:n≤9223372036854775807):n≤hiN .i64:=h
theorem cL (n:Nat)(p:PV):(entry (n+1) [p]).length=n+1∧nth (entry (n+1) [p]) 0=p:=⟨gF _ _ (by simp),rfl⟩
theorem cC (n:Nat)(p q:PV):(entry (n+2) [p,q]).length=n+2∧nth (entry (n+2) [p,q]) 0=p∧nth (entry (n+2) [p,q]) 1=q:=⟨gF _ _ (by simp),rfl,rfl⟩
theorem afx (n:Nat):((n:Int)≤2)=(n≤2):=by apply propext;omega
def db:Nat→Nat→Ω
 | 0,_=>[]
 | n+1,v=>v % 1000000000::db n (v / 1000000000)
theorem dp:∀ n v,(db n v).length=n
 | 0,_=>rfl
 | n+1,v=>by simp[db,dp n]
theorem gD:∀ n v,Dok (db n v)
 | 0,_=>Dok.nil
 | n+1,v=>(gD n _).cons (by omega)
theorem fo:∀ n v,v<1000000000 ^ n→val (db n v)=v
 | 0,v,h=>by simp at h;subst h;rfl
 | n+1,v,h=>by
  rw[db,val,fo n _ (by rw[Nat.pow_succ] at h;omega)]
  omega
theorem nI:∀ {l:Ω},Dok l→db l.length (val l)=l
 | [],_=>rfl
 | a::l,h=>by
  have ha:=h.head
  rw[length_cons,db,val,Nat.add_mul_mod_self_left,Nat.mod_eq_of_lt ha,Nat.add_mul_div_left _ _ (by omega),Nat.div_eq_of_lt ha,Nat.zero_add,nI h.tail]
theorem Dok.pS {l:Ω}{n v:Nat}(h:Dok l)(hl:l.length=n)(hv:val l=v):l=db n v:=by
 subst hl;subst hv;exact (nI h).symm
def dZ (a b:Nat):Int:=if a<b then -1 else if a=b then 0 else 1
theorem lA {a:Ω}{m:Nat}(hm:m<a.length):val a=val (a.take m)+(a[m]*1000000000 ^ m+1000000000 ^ (m+1)*val (a.drop (m+1))):=by
 rw[lB a (m+1) (by omega),gT a m hm]
 omega
theorem ly {a b:Ω}{m:Nat}(ha:Dok a)(hma:m<a.length)(hmb:m<b.length)(hd:a.drop (m+1)=b.drop (m+1))(h:a[m]<b[m]):val a<val b:=by
 rw[lA hma,lA hmb,hd]
 have h1:=eX (ha.take m)
 rw[length_take,Nat.min_eq_left (by omega)] at h1
 have h2:a[m]*1000000000 ^ m+1000000000 ^ m≤b[m]*1000000000 ^ m:=by
  have:=Nat.mul_le_mul_right (1000000000 ^ m) (show a[m]+1≤b[m] from h)
  rw[Nat.add_mul,Nat.one_mul] at this
  exact this
 omega
theorem cH (l:Ω)(i:Nat)(h:l.length≤i):val (l.take i)=val l:=by
 rw[take_of_length_le h]
theorem dA (k:IntKind)(a b s:Nat)(h:s=a+b)(hs:s≤hiN k):bF k ((a:Int)+(b:Int))=(s:Int):=by
 subst h
 exact (by simpa using dx k (a+b) hs)
theorem wrapM (k:IntKind)(a b s:Nat)(h:s=a*b)(hs:s≤hiN k):bF k ((a:Int)*(b:Int))=(s:Int):=by
 subst h
 exact (by simpa using dx k (a*b) hs)
theorem yX (k:IntKind)(a b s:Nat)(h:a=b+s)(hs:s≤hiN k):bF k ((a:Int) - (b:Int))=(s:Int):=by
 have:=dx k s hs
 rw[show ((a:Int) - (b:Int))=(s:Int) by omega];exact this
theorem acM (k:IntKind)(a b s:Nat)(h:s=a / b)(hs:s≤hiN k):bF k ((a:Int) / (b:Int))=(s:Int):=by
 subst h
 exact (by simpa using dx k (a / b) hs)
theorem C8 (a b s:Nat)(h:s=a % b):(a:Int).tmod (b:Int)=(s:Int):=by
 subst h;exact (Int.ofNat_tmod a b).symm
def at0 (l:Ω)(i:Nat):Nat:=l[i]?.getD 0
theorem df {l:Ω}{i:Nat}(h:i<l.length):at0 l i=l[i]:=by simp[at0,h]
theorem jh {l:Ω}{i:Nat}(h:l.length≤i):at0 l i=0:=by simp[at0,h]
theorem cu {l:Ω}(h:Dok l)(i:Nat):at0 l i<1000000000:=by
 by_cases hi:i<l.length
 ·rw[df hi];exact h.get hi
 ·rw[jh (by omega)];omega
theorem cB (l:Ω)(i:Nat):val (l.take (i+1))=val (l.take i)+at0 l i*1000000000 ^ i:=by
 by_cases hi:i<l.length
 ·rw[df hi,gT l i hi]
 ·rw[jh (by omega),cH l _ (by omega),cH l _ (by omega)];simp
theorem cq (k:IntKind)(s:Nat)(hs:s≤hiN k):bF k (s:Int)=(s:Int):=dx k s hs
theorem Vm {T:Tab}{t e:Nat}(hu:und T t=some (.slice e))(hs:de T e=some 1)(hz:eB T e=some [dg 0])(n:Nat) :
  eM T t 1 [(0,dg n)]=some (1,[dg n]):=by
 simp[eM,hu,hs,hz,rep,dq,gh,cm]
theorem nB (hp:Θ)(n:Nat):fk hp 1 (.imm 1 true [dg n])=some (1,[dg n],[]):=by simp[fk]
theorem jN (n:Nat):bM [dg n]=true:=(rfl)
theorem gV (n:Nat):PV.sc (.int .u32 (n:Int))=dg n:=(rfl)
theorem WT (s:Nat):((s:Int) / 1000000000)=((s / 1000000000:Nat):Int):=by omega
theorem jK (k:IntKind)(a s:Nat)(h:s=a / 1000000000)(hs:s≤hiN k):bF k ((a:Int) / 1000000000)=(s:Int):=by
 subst h
 rw[WT];exact dx k _ hs
theorem lG (a s:Nat)(h:s=a % 1000000000):(a:Int).tmod 1000000000=(s:Int):=by
 subst h
 rw[Int.tmod_eq_emod_of_nonneg (by omega)];omega
theorem l9 (k:IntKind)(a s:Nat)(h:s=a*1000000000)(hs:s≤hiN k):bF k ((a:Int)*1000000000)=(s:Int):=by
 have e:((a:Int)*1000000000)=(s:Int):=by omega
 rw[e];exact dx k _ hs
theorem cG {x y:Nat}(h:x≤y):(aK x).length≤(aK y).length:=di (Nat.lt_of_le_of_lt h (fD y))
theorem lp {l:Ω}{m y:Nat}(h:m<l.length):(l.set m y).drop m=y::l.drop (m+1):=by
 rw[drop_eq_getElem_cons (by simpa using h)]
 simp[drop_set]
theorem iu (l:Ω)(m:Nat)(h:m<l.length):val (l.drop m)=at0 l m+1000000000*val (l.drop (m+1)):=by
 rw[drop_eq_getElem_cons h,val,df h]
theorem Fw {V V' Q R a b:Nat}(hb:0<b)(hV:V'=a+1000000000*V)(hQ:Q=V / b)(hR:R=V % b) :
  (R*1000000000+a) / b+1000000000*Q=V' / b∧(R*1000000000+a) % b=V' % b:=by
 have e:V'=(R*1000000000+a)+b*(1000000000*Q):=by
  have h:=Nat.div_add_mod V b
  rw[← hQ,← hR] at h
  rw[hV,← h]
  grind
 rw[e,Nat.add_mul_div_left _ _ hb,Nat.add_mul_mod_self_left]
 exact⟨rfl,rfl⟩
def GI (top v1 v2 u2 g rest:Nat):Prop:=g*v1+rest=top∧∀ q,q<1000000000→q*(v1*1000000000+v2)≤top*1000000000+u2→q≤g
def GF (top v1 v2 u2 g:Nat):Prop:=g<1000000000∧g*(v1*1000000000+v2)≤top*1000000000+u2∧∀ q,q<1000000000→q*(v1*1000000000+v2)≤top*1000000000+u2→q≤g
theorem GI.init {top v1 v2 u2:Nat}(hv:0<v1)(hu:u2<1000000000):GI top v1 v2 u2 (top / v1) (top % v1):=by
 refine⟨by rw[Nat.mul_comm];exact Nat.div_add_mod _ _,fun q hq h => ?_⟩
 rw[Nat.le_div_iff_mul_le hv]
 have:q*(v1*1000000000+v2)=q*v1*1000000000+q*v2:=by rw[Nat.mul_add,Nat.mul_assoc]
 rw[this] at h
 omega
theorem VF (g v1 v2:Nat):g*(v1*1000000000+v2)=g*v1*1000000000+g*v2:=by rw[Nat.mul_add,Nat.mul_assoc]
theorem GI.step {top v1 v2 u2 g rest:Nat}(h:GI top v1 v2 u2 g rest)(hc:1000000000≤g∨rest*1000000000+u2<g*v2):0<g∧GI top v1 v2 u2 (g - 1) (rest+v1):=by
 obtain⟨h1,h2⟩:=h
 have hg:0<g:=by
  rcases hc with hc | hc
  ·omega
  ·cases g with
   | zero=>simp at hc
   | succ g=>omega
 refine⟨hg,?_,fun q hq h => ?_⟩
 ·obtain⟨g',rfl⟩:∃ g',g=g'+1:=⟨g - 1,by omega⟩
  rw[Nat.add_mul,Nat.one_mul] at h1
  simp only[Nat.add_sub_cancel]
  omega
 ·have h3:=h2 q hq h
  rcases hc with hc | hc
  ·omega
  ·rcases Nat.lt_or_ge q g with h4 | h4
   ·omega
   ·have e:q=g:=by omega
    subst e
    rw[VF] at h
    omega
theorem GI.stop {top v1 v2 u2 g rest:Nat}(h:GI top v1 v2 u2 g rest)(hc:g<1000000000)(hc2:g*v2≤rest*1000000000+u2):GF top v1 v2 u2 g:=by
 refine⟨hc,?_,h.2⟩
 have:=h.1
 rw[VF]
 omega
theorem GI.brk {top v1 v2 u2 g rest:Nat}(h:GI top v1 v2 u2 g rest)(hr:1000000000≤rest)(ht:top≤v1*1000000000+999999999)(hv:v2<1000000000):GF top v1 v2 u2 g:=by
 have hg:g<1000000000:=by
  rcases Nat.lt_or_ge g 1000000000 with h' | h'
  ·exact h'
  ·have h1:=h.1
   have:=Nat.mul_le_mul_right v1 h'
   rw[Nat.mul_comm 1000000000 v1] at this
   omega
 refine h.stop hg ?_
 have:g*v2≤999999999*999999999:=Nat.mul_le_mul (by omega) (by omega)
 omega
theorem BX {U V T3 V2 P ulow vlow g:Nat}(hU:U=T3*P+ulow)(hul:ulow<P)(hV:V=V2*P+vlow)(hvl:vlow<P)(hVB:1000000000*P≤V)(hUV:U<V*1000000000)(hg:g<1000000000)
  (hg1:g*V2≤T3) (hg2:∀ q,q<1000000000→q*V2≤T3→q≤g):g=U / V∨g=U / V+1:=by
 have hV0:0<V:=by
  have:0<P:=by omega
  omega
 have hq1:U / V<1000000000:=Nat.div_lt_of_lt_mul hUV
 have hdm:=Nat.div_add_mod U V
 have hmod:=Nat.mod_lt U hV0
 generalize U / V=q at *
 generalize U % V=r at *
 have hqg:q≤g:=by
  refine hg2 q hq1 ?_
  have h1:q*V2*P<(T3+1)*P:=by
   have h2:q*V2*P≤V*q:=by
    rw[hV,Nat.add_mul,Nat.mul_comm (V2*P) q,← Nat.mul_assoc];exact Nat.le_add_right _ _
   rw[Nat.add_mul,Nat.one_mul]
   omega
  exact Nat.le_of_lt_succ (Nat.lt_of_mul_lt_mul_right h1)
 have hgV:g*V<U+V:=by
  have h1:g*V2*P≤T3*P:=Nat.mul_le_mul_right _ hg1
  have h2:g*vlow≤999999999*P:=Nat.mul_le_mul (by omega) (by omega)
  have h3:g*V=g*V2*P+g*vlow:=by rw[hV,Nat.mul_add,Nat.mul_assoc]
  omega
 rcases Nat.lt_or_ge g (q+2) with h | h
 ·omega
 ·have h1:(q+2)*V≤g*V:=Nat.mul_le_mul_right _ h
  rw[Nat.add_mul,Nat.mul_comm q V] at h1
  omega
def msS (u v g bo:Nat):Nat:=bo+g*v+(999999999 - u)
def msX (u v g bo:Nat):Nat:=999999999 - msS u v g bo % 1000000000
def msB (u v g bo:Nat):Nat:=msS u v g bo / 1000000000
theorem acX {u v g bo:Nat}(hu:u<1000000000):u+msB u v g bo*1000000000=msX u v g bo+bo+g*v:=by
 unfold msX msB
 have h1:msS u v g bo=bo+g*v+(999999999 - u):=rfl
 generalize msS u v g bo=s at *
 generalize g*v=p at *
 omega
theorem H6 (u v g bo:Nat):msX u v g bo<1000000000:=by unfold msX;omega
theorem aeQ {u v g bo:Nat}(hu:u<1000000000)(hv:v<1000000000)(hb:bo≤g):msB u v g bo≤g:=by
 have h1:=acX (v:=v) (g:=g) (bo:=bo) hu
 have h2:=H6 u v g bo
 have h3:g*v≤g*999999999:=Nat.mul_le_mul_left _ (by omega)
 generalize msB u v g bo=b at *
 generalize msX u v g bo=x at *
 generalize g*v=p at *
 omega
theorem aaM {u v g bo p:Nat}(hp:p=g*v)(hu:u<1000000000)(hg:g<1000000000)(hb:bo≤g) :
  (bo+p % 1000000000≤u∧msX u v g bo=u - (bo+p % 1000000000)∧msB u v g bo=p / 1000000000) ∨
  (u<bo+p % 1000000000∧bo+p % 1000000000≤u+1000000000∧msX u v g bo=u+1000000000 - (bo+p % 1000000000)∧msB u v g bo=p / 1000000000+1) ∨
  (u+1000000000<bo+p % 1000000000∧msX u v g bo=u+2000000000 - (bo+p % 1000000000)∧msB u v g bo=p / 1000000000+2):=by
 unfold msX msB
 have h1:msS u v g bo=bo+p+(999999999 - u):=by rw[hp];rfl
 generalize msS u v g bo=s at *
 clear hp
 omega
theorem tB (u:Ω)(j i x:Nat)(h:j+i<u.length):val (((u.set (j+i) x).drop j).take (i+1))=val ((u.drop j).take i)+x*1000000000 ^ i:=by
 have e:(u.set (j+i) x).drop j=(u.drop j).set i x:=by
  rw[drop_set,if_neg (by omega)]
  congr 1
  omega
 rw[e,cB]
 congr 1
 ·congr 1
  rw[take_set_of_le (by omega)]
 ·congr 1
  unfold at0
  rw[getElem?_set_self (by simp;omega)]
  rfl
theorem gw (u:Ω)(j i:Nat):val ((u.drop j).take (i+1))=val ((u.drop j).take i)+at0 u (j+i)*1000000000 ^ i:=by
 rw[cB]
 congr 2
 unfold at0
 rw[getElem?_drop]
structure MS (u v c:Ω) (j g i bo:Nat):Prop where
 len:c.length=u.length
 ok:Dok c
 low:c.take j=u.take j
 high:c.drop (j+i)=u.drop (j+i)
 le:bo≤g
 eq:val ((u.drop j).take i)+bo*1000000000 ^ i=val ((c.drop j).take i)+g*val (v.take i)
theorem MS.init {u v:Ω}(hu:Dok u)(j g:Nat):MS u v u j g 0 0:=⟨rfl,hu,rfl,rfl,by omega,by simp[Ab.val]⟩
theorem MS.at {u v c:Ω}{j g i bo:Nat}(h:MS u v c j g i bo):at0 c (j+i)=at0 u (j+i):=by
 have h1:at0 c (j+i)=at0 (c.drop (j+i)) 0:=by simp[at0]
 have h2:at0 u (j+i)=at0 (u.drop (j+i)) 0:=by simp[at0]
 rw[h1,h2,h.high]
theorem MS.step {u v c:Ω}{j g i bo:Nat}(h:MS u v c j g i bo)(hu:Dok u)(hv:Dok v)(hl:j+i<u.length) :
  MS u v (c.set (j+i) (msX (at0 u (j+i)) (at0 v i) g bo)) j g (i+1) (msB (at0 u (j+i)) (at0 v i) g bo):=by
 have hx:=cu hu (j+i)
 refine⟨by simp[h.len],h.ok.set _ (H6 _ _ _ _),?_,?_,aeQ hx (cu hv i) h.le,?_⟩
 ·rw[take_set_of_le (by omega),h.low]
 ·rw[show j+(i+1)=j+i+1 by omega,drop_set_of_lt (by omega),← drop_drop,h.high,drop_drop]
 ·have h1:=acX (v:=at0 v i) (g:=g) (bo:=bo) hx
  have h2:=h.eq
  rw[tB _ _ _ _ (by rw[h.len];exact hl),gw,cB]
  generalize at0 u (j+i)=d at *
  generalize at0 v i=e at *
  generalize msX d e g bo=x at *
  generalize msB d e g bo=b at *
  have h3:(d+b*1000000000)*1000000000 ^ i=(x+bo+g*e)*1000000000 ^ i:=by rw[h1]
  rw[Nat.pow_succ,Nat.mul_add,← Nat.mul_assoc g]
  simp only[Nat.add_mul] at h3
  rw[show b*(1000000000 ^ i*1000000000)=b*1000000000*1000000000 ^ i by rw[Nat.mul_comm (1000000000 ^ i),Nat.mul_assoc]]
  omega
structure AB (u v c:Ω) (j i cy:Nat):Prop where
 len:c.length=u.length
 ok:Dok c
 low:c.take j=u.take j
 high:c.drop (j+i)=u.drop (j+i)
 le:cy≤1
 eq:val ((u.drop j).take i)+val (v.take i)=val ((c.drop j).take i)+cy*1000000000 ^ i
theorem AB.init {u v:Ω}(hu:Dok u)(j:Nat):AB u v u j 0 0:=⟨rfl,hu,rfl,rfl,by omega,by simp[Ab.val]⟩
theorem AB.at {u v c:Ω}{j i cy:Nat}(h:AB u v c j i cy):at0 c (j+i)=at0 u (j+i):=by
 have h1:at0 c (j+i)=at0 (c.drop (j+i)) 0:=by simp[at0]
 have h2:at0 u (j+i)=at0 (u.drop (j+i)) 0:=by simp[at0]
 rw[h1,h2,h.high]
theorem AB.step {u v c:Ω}{j i cy:Nat}(h:AB u v c j i cy)(hu:Dok u)(hv:Dok v)(hl:j+i<u.length) :
  AB u v (c.set (j+i) ((at0 u (j+i)+at0 v i+cy) % 1000000000)) j (i+1) ((at0 u (j+i)+at0 v i+cy) / 1000000000):=by
 have hx:=cu hu (j+i)
 have hy:=cu hv i
 have hc:=h.le
 refine⟨by simp[h.len],h.ok.set _ (Nat.mod_lt _ (by omega)),?_,?_,by omega,?_⟩
 ·rw[take_set_of_le (by omega),h.low]
 ·rw[show j+(i+1)=j+i+1 by omega,drop_set_of_lt (by omega),← drop_drop,h.high,drop_drop]
 ·have h2:=h.eq
  rw[tB _ _ _ _ (by rw[h.len];exact hl),gw,cB]
  generalize at0 u (j+i)=d at *
  generalize at0 v i=e at *
  have h1:d+e+cy=(d+e+cy) % 1000000000+(d+e+cy) / 1000000000*1000000000:=by omega
  generalize (d+e+cy) % 1000000000=x at *
  generalize (d+e+cy) / 1000000000=b at *
  have h3:(d+e+cy)*1000000000 ^ i=(x+b*1000000000)*1000000000 ^ i:=by rw[h1]
  rw[Nat.pow_succ]
  simp only[Nat.add_mul] at h3
  rw[show b*(1000000000 ^ i*1000000000)=b*1000000000*1000000000 ^ i by rw[Nat.mul_comm (1000000000 ^ i),Nat.mul_assoc]]
  omega
theorem BC {c:Ω}(h:Dok c)(j n:Nat):val ((c.drop j).take n)<1000000000 ^ n:=by
 refine Nat.lt_of_lt_of_le (eX ((h.drop j).take n)) (Nat.pow_le_pow_right (by omega) ?_)
 rw[length_take];omega
theorem ET {un Ul R r g V bo Pn:Nat}(hR:R<Pn)(hr:r<Pn)(h1:Ul+bo*Pn=R+g*V)(h2:un*Pn+Ul=g*V+r):bo=un∧R=r:=by
 generalize g*V=p at *
 have h3:un*Pn+R=bo*Pn+r:=by omega
 rcases Nat.lt_trichotomy un bo with h | h | h
 ·have:=Nat.mul_le_mul_right Pn (show un+1≤bo from h)
  rw[Nat.add_mul,Nat.one_mul] at this
  omega
 ·subst h
  exact⟨rfl,by omega⟩
 ·have:=Nat.mul_le_mul_right Pn (show bo+1≤un from h)
  rw[Nat.add_mul,Nat.one_mul] at this
  omega
theorem KQ {un Ul R r q V bo Pn:Nat}(hR:R<Pn)(hr:r<V)(hV:V<Pn)(h1:Ul+bo*Pn=R+(q+1)*V)(h2:un*Pn+Ul=q*V+r):bo=un+1∧R+V=Pn+r:=by
 rw[Nat.add_mul,Nat.one_mul] at h1
 generalize q*V=p at *
 have h3:un*Pn+(R+V)=bo*Pn+r:=by omega
 rcases Nat.lt_trichotomy (un+1) bo with h | h | h
 ·have:=Nat.mul_le_mul_right Pn (show un+2≤bo from h)
  rw[Nat.add_mul] at this
  omega
 ·subst h
  rw[Nat.add_mul,Nat.one_mul] at h3
  exact⟨rfl,by omega⟩
 ·have:=Nat.mul_le_mul_right Pn (show bo≤un by omega)
  omega
theorem agw {R V r R' cy Pn:Nat}(hR:R'<Pn)(hr:r<V)(hV:V<Pn)(h1:R+V=Pn+r)(h2:R+V=R'+cy*Pn)(hc:cy≤1):R'=r:=by
 have:cy=0∨cy=1:=by omega
 rcases this with h | h <;> subst h <;> omega
structure LI (A V n L:Nat) (u q:Ω) (c:Nat):Prop where
 ul:u.length=L
 uok:Dok u
 lt:val u<V*1000000000 ^ c
 ql:q.length+n=L
 qok:Dok q
 eq:A=V*(1000000000 ^ c*val (q.drop c))+val u
theorem oC (u:Ω)(j:Nat):val u=val (u.take j)+1000000000 ^ j*val (u.drop j):=by
 rcases Nat.lt_or_ge u.length j with hl | hl
 ·rw[take_of_length_le (Nat.le_of_lt hl),drop_eq_nil_of_le (Nat.le_of_lt hl)];simp[val]
 ·exact lB u _ hl
theorem LI.seg {A V n L:Nat}{u q:Ω}{j:Nat}(h:LI A V n L u q (j+1))(hV:V<1000000000 ^ n) :
  val u=val (u.take j)+1000000000 ^ j*val ((u.drop j).take (n+1))∧val (u.drop (j+n+1))=0∧val ((u.drop j).take (n+1))<V*1000000000:=by
 have h1:=oC u (j+n+1)
 have h2:val u<1000000000 ^ (j+n+1):=by
  refine Nat.lt_of_lt_of_le h.lt (?_:V*1000000000 ^ (j+1)≤1000000000 ^ (j+n+1))
  rw[show j+n+1=n+(j+1) from (Nat.add_right_comm j n 1).trans (Nat.add_comm _ _),Nat.pow_add 1000000000 n (j+1)]
  exact Nat.mul_le_mul_right _ (Nat.le_of_lt hV)
 have h3:val (u.drop (j+n+1))=0:=by
  rcases Nat.eq_zero_or_pos (val (u.drop (j+n+1))) with h | h
  ·exact h
  ·have h0:=Nat.mul_le_mul_left (1000000000 ^ (j+n+1)) h
   rw[Nat.mul_one] at h0
   exact absurd (Nat.le_trans h0 (Nat.le_trans (Nat.le_add_left _ _) (Nat.le_of_eq h1.symm))) (Nat.not_le_of_lt h2)
 have h4:=oC u j
 have h5:val (u.drop j)=val ((u.drop j).take (n+1)):=by
  have:=oC (u.drop j) (n+1)
  rw[drop_drop,← Nat.add_assoc,h3,Nat.mul_zero,Nat.add_zero] at this
  exact this
 rw[h5] at h4
 refine⟨h4,h3,?_⟩
 have h6:=h.lt
 rw[h4,Nat.pow_succ,Nat.mul_comm (1000000000 ^ j) 1000000000,← Nat.mul_assoc] at h6
 have h7:val ((u.drop j).take (n+1))*1000000000 ^ j<V*1000000000*1000000000 ^ j:=by
  rw[Nat.mul_comm (val _)]
  exact Nat.lt_of_le_of_lt (Nat.le_add_left _ _) h6
 exact Nat.lt_of_mul_lt_mul_right h7
theorem LI.next {A V n L:Nat}{u q u':Ω}{j:Nat}(h:LI A V n L u q (j+1))(hV:V<1000000000 ^ n)(hV0:0<V)(hl:j+n<L)(hl':u'.length=L)(hok:Dok u')(hlow:u'.take j=u.take j)(hhigh:u'.drop (j+n+1)=u.drop (j+n+1))
  (htop:at0 u' (j+n)=0) (hseg:val ((u'.drop j).take n)=val ((u.drop j).take (n+1)) % V) (hd:val ((u.drop j).take (n+1)) / V<1000000000) :
  LI A V n L u' (q.set j (val ((u.drop j).take (n+1)) / V)) j:=by
 obtain⟨h1,h2,h3⟩:=h.seg hV
 have e1:val u'=val (u.take j)+1000000000 ^ j*(val ((u.drop j).take (n+1)) % V):=by
  rw[lB u' j (by omega),hlow]
  congr 2
  have h4:n≤(u'.drop j).length:=by rw[length_drop];omega
  rw[lB (u'.drop j) n h4,hseg,drop_drop]
  have h5:val (u'.drop (j+n))=0:=by
   rw[iu u' (j+n) (by omega),htop,hhigh,h2]
  rw[h5];simp
 have hdm:=Nat.div_add_mod (val ((u.drop j).take (n+1))) V
 have hm:=Nat.mod_lt (val ((u.drop j).take (n+1))) hV0
 have hq:=h.ql
 generalize val ((u.drop j).take (n+1)) / V=d at *
 generalize val ((u.drop j).take (n+1)) % V=r at *
 generalize val ((u.drop j).take (n+1))=U at *
 have hlo:val (u.take j)<1000000000 ^ j:=by
  refine Nat.lt_of_lt_of_le (eX (h.uok.take j)) (Nat.pow_le_pow_right (by omega) ?_)
  rw[length_take];omega
 refine⟨hl',hok,?_,by simp;omega,h.qok.set _ hd,?_⟩
 ·rw[e1]
  have h5:1000000000 ^ j*(r+1)≤1000000000 ^ j*V:=Nat.mul_le_mul_left _ hm
  rw[Nat.mul_add,Nat.mul_one] at h5
  rw[Nat.mul_comm V]
  clear e1 h1 h2 h3 h
  generalize 1000000000 ^ j*V=a1 at *
  generalize 1000000000 ^ j*r=a2 at *
  generalize 1000000000 ^ j=a3 at *
  omega
 ·rw[h.eq,e1,h1,lp (by omega),val]
  generalize val (u.take j)=lo at *
  generalize val (q.drop (j+1))=X at *
  rw[Nat.pow_succ]
  clear h h1 h2 h3 hlow hhigh htop hlo e1 hV
  generalize 1000000000 ^ j=Pj at *
  subst hdm
  have a1:Pj*(V*d+r)=V*(Pj*d)+Pj*r:=by
   rw[Nat.mul_add,← Nat.mul_assoc,Nat.mul_comm Pj V,Nat.mul_assoc]
  have a2:V*(Pj*(d+1000000000*X))=V*(Pj*d)+V*(Pj*1000000000*X):=by
   rw[Nat.mul_add Pj,Nat.mul_add V,Nat.mul_assoc Pj]
  rw[a1,a2]
  omega
theorem LI.init {a b k n la:Nat}{u:Ω}(hu:val u=k*a)(hok:Dok u)(hl:u.length=la+1)(ha:a<1000000000 ^ la)(hb:1000000000 ^ n≤b*1000000000)(hk:0<k)(hn:n≤la+1) :
  LI (k*a) (k*b) n (la+1) u (List.replicate (la+1 - n) 0) (la+1 - n):=by
 refine⟨hl,hok,?_,by simp;omega,Dok.JJ _,?_⟩
 ·rw[hu,Nat.mul_assoc]
  refine Nat.mul_lt_mul_of_pos_left ?_ hk
  refine Nat.lt_of_mul_lt_mul_right (a:=1000000000) ?_
  rw[Nat.mul_right_comm]
  refine Nat.lt_of_lt_of_le ?_ (Nat.mul_le_mul_right _ hb)
  rw[← Nat.pow_add,show n+(la+1 - n)=la+1 by omega,Nat.pow_succ]
  exact Nat.mul_lt_mul_of_pos_right ha (by omega)
 ·rw[drop_eq_nil_of_le (by simp),hu];simp[val]
theorem LI.done {a b k n L:Nat}{u q:Ω}(h:LI (k*a) (k*b) n L u q 0)(hk:0<k)(hb:0<b):val q=a / b∧val u=k*(a % b):=by
 have h1:=h.eq
 have h2:=h.lt
 simp only[Nat.pow_zero,Nat.mul_one,Nat.one_mul,drop_zero] at h1 h2
 have hkb:0<k*b:=Nat.mul_pos hk hb
 constructor
 ·rw[← Nat.mul_div_mul_left a b hk,h1,Nat.mul_add_div hkb,Nat.div_eq_of_lt h2,Nat.add_zero]
 ·rw[← Nat.mul_mod_mul_left,h1,Nat.mul_add_mod,Nat.mod_eq_of_lt h2]
theorem MO {t k:Nat}(ht:0<t)(ht2:t<1000000000)(hk:k=1000000000 / (t+1)):0<k∧k<1000000000∧k*(t+1)≤1000000000∧1000000000≤2*(k*t):=by
 have h1:=Nat.div_mul_le_self 1000000000 (t+1)
 have h2:=Nat.div_add_mod 1000000000 (t+1)
 have h3:=Nat.mod_lt 1000000000 (show 0<t+1 by omega)
 have h4:0<k:=by rw[hk];exact Nat.div_pos (by omega) (by omega)
 have h5:k<1000000000:=by rw[hk];exact Nat.div_lt_self (by omega) (by omega)
 rw[← hk] at h1 h2
 refine⟨h4,h5,h1,?_⟩
 rcases Nat.lt_or_ge t 500000000 with h | h
 ·
  have e1:k*(t+1)=k*t+k:=by rw[Nat.mul_add,Nat.mul_one]
  have e2:(t+1)*k=k*t+k:=by rw[Nat.mul_comm,e1]
  rw[e2] at h2
  rcases Nat.lt_or_ge t 2 with ht1 | ht1
  ·have:t=1:=by omega
   subst this
   omega
  ·have h6:k≤333333333:=by
    have:k*3≤k*(t+1):=Nat.mul_le_mul_left _ (by omega)
    omega
   rcases Nat.lt_or_ge t 160000000 with h7 | h7
   ·omega
   ·have h8:k*160000001≤k*(t+1):=Nat.mul_le_mul_left _ (by omega)
    have h9:k≤6:=by omega
    have h10:1*t≤k*t:=Nat.mul_le_mul_right _ h4
    have:k=1∨k=2∨k=3∨k=4∨k=5∨k=6:=by omega
    rcases this with e | e | e | e | e | e <;> subst e <;> omega
 ·have:=Nat.mul_le_mul_right t (show 1≤k from h4)
  omega
theorem cY (l:Ω)(i:Nat)(h:i<l.length):(bq (l.map dg) i).head?=some (.sc (.int .u32 (at0 l i:Int))):=by
 rw[eQ l i h,df h];rfl
theorem fA (z:Int)(h : -9223372036854775808≤z)(h2:z≤9223372036854775807):bF .i64 z=z:=by
 unfold bF
 have h1:decide (loK .i64≤z)=true:=decide_eq_true (by simp only[loK];omega)
 have h2:decide (z≤hiK .i64)=true:=decide_eq_true (by simp only[hiK];omega)
 rw[h1,h2];rfl
theorem C3 (u:Ω)(j m:Nat):val ((u.drop j).take (m+3))=((at0 u (j+m+2)*1000000000+at0 u (j+m+1))*1000000000+at0 u (j+m))*1000000000 ^ m+val ((u.drop j).take m):=by
 rw[gw u j (m+2),gw u j (m+1),gw u j m]
 rw[show j+(m+2)=j+m+2 by omega,show j+(m+1)=j+m+1 by omega]
 simp only[Nat.pow_succ]
 generalize 1000000000 ^ m=P
 grind
theorem qm (v:Ω)(m:Nat)(h:v.length=m+2):val v=(at0 v (m+1)*1000000000+at0 v m)*1000000000 ^ m+val (v.take m):=by
 have e:val v=val (v.take (m+2)):=by rw[cH _ _ (by omega)]
 rw[e,cB v (m+1),cB v m,Nat.pow_succ]
 generalize 1000000000 ^ m=P
 grind
theorem uY {c:Ω}(h:Dok c)(n:Nat):val (c.take n)<1000000000 ^ n:=by
 have:=BC h 0 n
 simpa using this
theorem Vv {top u2 v1 v2 U ul vl V P:Nat}(h1:U=(top*1000000000+u2)*P+ul)(h2:V=(v1*1000000000+v2)*P+vl)(h3:vl<P)(h4:v2<1000000000)(hlt:U<V*1000000000):top≤v1*1000000000+999999999:=by
 have h5:V<(v1+1)*1000000000*P:=by
  have:(v1*1000000000+v2+1)*P≤(v1+1)*1000000000*P:=Nat.mul_le_mul_right _ (by omega)
  rw[Nat.add_mul _ 1,Nat.one_mul] at this
  omega
 have h6:top*1000000000*P≤U:=by
  rw[h1,Nat.add_mul]
  omega
 have h7:top*(1000000000*P)<(v1+1)*1000000000*(1000000000*P):=by
  rw[← Nat.mul_assoc]
  refine Nat.lt_of_le_of_lt h6 (Nat.lt_trans hlt ?_)
  have:V*1000000000<(v1+1)*1000000000*P*1000000000:=Nat.mul_lt_mul_of_pos_right h5 (by omega)
  rw[Nat.mul_assoc _ P,Nat.mul_comm P] at this
  exact this
 have h8:=Nat.lt_of_mul_lt_mul_right h7
 omega
theorem OM {u v:Ω}{j m:Nat}(hv:Dok v)(hvl:v.length=m+2)(hlt:val ((u.drop j).take (m+3))<val v*1000000000) :
  at0 u (j+m+2)*1000000000+at0 u (j+m+1)≤at0 v (m+1)*1000000000+999999999 :=
 Vv (C3 u j m) (qm v m hvl) (uY hv m) (cu hv m) hlt
theorem ON {u v:Ω}{j m g:Nat}(hu:Dok u)(hv:Dok v)(hvl:v.length=m+2)(hv1:0<at0 v (m+1))(hlt:val ((u.drop j).take (m+3))<val v*1000000000)
  (hg:GF (at0 u (j+m+2)*1000000000+at0 u (j+m+1)) (at0 v (m+1)) (at0 v m) (at0 u (j+m)) g) :
  g=val ((u.drop j).take (m+3)) / val v∨g=val ((u.drop j).take (m+3)) / val v+1:=by
 refine BX (C3 u j m) (BC hu j m) (qm v m hvl) (uY hv m) ?_ hlt hg.1 hg.2.1 hg.2.2
 rw[qm v m hvl]
 have:1000000000*1000000000 ^ m≤(at0 v (m+1)*1000000000+at0 v m)*1000000000 ^ m:=Nat.mul_le_mul_right _ (by omega)
 omega
theorem GI.le {top v1 v2 u2:Nat}(h5:500000000≤v1)(ht:top≤v1*1000000000+999999999):top / v1≤1000000001:=by
 have h1:top / v1*v1≤top:=Nat.div_mul_le_self _ _
 rcases Nat.lt_or_ge 1000000001 (top / v1) with h | h
 ·have:=Nat.mul_le_mul_right v1 (show 1000000002≤top / v1 from h)
  omega
 ·exact h
theorem dR.ajU {b:Nat}{hp:Θ}{l:Ω}{p:PV}(h:dR b hp l p)(a:Nat)(hl:l.length<100000000) :
  ∃ id hp' fp,cw hp 1 p 1 [dg a]=some (.own id 1 0 (l.length+1) false,hp',fp)∧aP hp' id=some ⟨.live,(l++[a]).map dg⟩:=by
 obtain⟨hb,h⟩:=h
 rcases h with ⟨rfl,rfl⟩| ⟨id,m,hid,hid2,rfl,h⟩
 ·refine⟨hp.length,aL hp [dg a],⟨[],[hp.length],true,false⟩,by simp[cw,cN],?_⟩
  rw[bz,if_pos rfl];rfl
 ·have ht:bD (bq ((l++m).map dg) 0) (l.length*1)=some (l.map dg):=by
   rw[cA,dc (by simp)]
   simp
  refine⟨hp.length,aL (bZ hp id ⟨.dead,[]⟩) (l.map dg++[dg a]),⟨[],[id,hp.length],true,false⟩,?_,?_⟩
  ·simp only[cw,h]
   rw[ht]
   simp[cN]
   omega
  ·rw[bz,bC,if_pos rfl];simp
theorem JS {b:Ω}{n1:Nat}(ht:Top b)(hn:b.length=n1+1):0<at0 b n1:=by
 obtain⟨m,a,e,hm⟩:=Bv hn
 have h1:=ht m a e
 subst e
 have:at0 (m++[a]) n1=a:=by
  unfold at0
  rw[getElem?_append_right (by omega),hm,Nat.sub_self]
  rfl
 rw[this]
 omega
theorem CY (b:Ω)(n1:Nat)(hn:b.length=n1+1):val b=at0 b n1*1000000000 ^ n1+val (b.take n1):=by
 have e:val b=val (b.take (n1+1)):=by rw[cH _ _ (by omega)]
 rw[e,cB]
 omega
theorem MP {b:Ω}{n1 k:Nat}(hb:Dok b)(ht:Top b)(hn:b.length=n1+1)(hk:k=1000000000 / (at0 b n1+1)) :
  0<k∧k<1000000000∧1000000000 ^ (n1+1)≤val b*1000000000∧val b*k<1000000000 ^ (n1+1)∧(aK (val b*k)).length=n1+1∧500000000≤at0 (aK (val b*k)) n1:=by
 obtain⟨s1,s2,s3,s4⟩:=MO (JS ht hn) (cu hb n1) hk
 have hlow:=uY hb n1
 have hv:=CY b n1 hn
 have h0:=JS ht hn
 have hd:=bS (val b*k)
 have hvd:=bV (val b*k)
 have hpow:(1000000000:Nat) ^ (n1+1)=1000000000 ^ n1*1000000000:=Nat.pow_succ ..
 clear hk
 generalize at0 b n1=t at *
 generalize val (b.take n1)=low at *
 generalize val b=V at *
 have hP:0<1000000000 ^ n1:=Nat.pow_pos (by omega)
 have e1:1000000000 ^ n1≤t*1000000000 ^ n1:=Nat.le_mul_of_pos_left _ h0
 have e2:V*k<1000000000 ^ (n1+1):=by
  have h1:V<(t+1)*1000000000 ^ n1:=by rw[Nat.add_mul,Nat.one_mul];omega
  have h2:V*k<(t+1)*1000000000 ^ n1*k:=Nat.mul_lt_mul_of_pos_right h1 s1
  have h3:(t+1)*1000000000 ^ n1*k=k*(t+1)*1000000000 ^ n1:=by rw[Nat.mul_comm _ k,Nat.mul_assoc]
  have h4:k*(t+1)*1000000000 ^ n1≤1000000000*1000000000 ^ n1:=Nat.mul_le_mul_right _ s3
  rw[hpow,Nat.mul_comm _ 1000000000]
  omega
 have e3:k*t*1000000000 ^ n1≤V*k:=by
  rw[hv,Nat.add_mul,Nat.mul_comm k t,Nat.mul_right_comm]
  omega
 have e4:500000000*1000000000 ^ n1≤V*k:=Nat.le_trans (Nat.mul_le_mul_right _ (by omega)) e3
 have e5:(aK (V*k)).length=n1+1:=by
  refine Nat.le_antisymm (di e2) ?_
  rcases Nat.lt_or_ge n1 (aK (V*k)).length with h | h
  ·exact h
  ·exfalso
   have h1:=fD (V*k)
   have h2:(1000000000:Nat) ^ (aK (V*k)).length≤1000000000 ^ n1:=Nat.pow_le_pow_right (by omega) h
   omega
 refine⟨s1,s2,?_,e2,e5,?_⟩
 ·rw[hpow]
  exact Nat.mul_le_mul_right _ (by omega)
 ·have h1:=CY _ n1 e5
  rw[hvd] at h1
  have h2:=uY hd n1
  rcases Nat.lt_or_ge (at0 (aK (V*k)) n1) 500000000 with h | h
  ·exfalso
   have h3:(at0 (aK (V*k)) n1+1)*1000000000 ^ n1≤500000000*1000000000 ^ n1:=Nat.mul_le_mul_right _ h
   rw[Nat.add_mul,Nat.one_mul] at h3
   omega
  ·exact h
theorem vK {u:Ω}{n:Nat}(h:val u<1000000000 ^ n):val (u.take n)=val u:=by
 have h1:=oC u n
 rcases Nat.eq_zero_or_pos (val (u.drop n)) with h2 | h2
 ·rw[h2] at h1;omega
 ·have:1000000000 ^ n≤1000000000 ^ n*val (u.drop n):=Nat.le_mul_of_pos_right _ h2
  omega
def dv (b:Nat):Nat:=(b+208) % 256
def stp (a b:Nat):Nat:=10*a+dv b
def dec (a:Nat)(l:Ω):Nat:=l.foldl stp a
theorem rL (a b:Nat)(l:Ω):dec a (b::l)=dec (stp a b) l:=rfl
def lZ (b:Nat):Bool:=Nat.ble 48 b && Nat.ble b 57
def eO:Ω→Bool
 | []=>true
 | b::l=>lZ b && eO l
theorem dN {b:Nat} : lZ b=true ↔ 48≤b∧b≤57:=by simp[lZ]
theorem mN (a:Nat)(l m:Ω):dec a (l++m)=dec (dec a l) m:=by
 unfold dec;rw[foldl_append]
theorem Lv (a:Nat)(l:Ω):dec a l=a*10 ^ l.length+dec 0 l:=by
 induction l generalizing a with
 | nil=>simp[dec]
 | cons b l ih =>
  have h1:=ih (stp a b)
  have h2:=ih (stp 0 b)
  rw[rL,rL,h1,h2,length_cons,Nat.pow_succ]
  unfold stp
  generalize dv b=c
  grind
theorem fY (l m:Ω):eO (l++m)=(eO l && eO m):=by
 induction l with
 | nil=>rfl
 | cons b l ih=>simp[eO,ih,Bool.and_assoc]
theorem dec_lt (l:Ω)(h:eO l=true):dec 0 l<10 ^ l.length:=by
 induction l using jv with
 | h0=>simp[dec]
 | h1 l b ih =>
  rw[fY,Bool.and_eq_true] at h
  have h1:=ih h.1
  have h2:lZ b=true:=by simpa [eO] using h.2
  rw[dN] at h2
  rw[mN,length_append,length_singleton,Nat.pow_succ]
  rw[rL,stp]
  show 10*dec 0 l+dv b<10 ^ l.length*10
  unfold dv
  omega
def u8v (n:Nat):PV:=.sc (.int .u8 n)
def xW (l:Ω):PV:=.imm l.length false (l.map u8v)
theorem ac4 (l:Ω)(i:Nat)(h:i<l.length):(bq (l.map u8v) i).head?=some (.sc (.int .u8 (l[i]:Int))):=by
 rw[cA,← map_drop,drop_eq_getElem_cons h];rfl
def bys (s:ByteArray):Ω:=(bO s).map UInt8.toNat
theorem JL (k:IntKind)(a s:Nat)(h:s=10*a)(hs:s≤hiN k):bF k (10*(a:Int))=(s:Int):=by
 have e:(10*(a:Int))=(s:Int):=by omega
 rw[e];exact dx k _ hs
theorem A8 (k:IntKind)(a s:Nat)(h:a=s+48)(hs:s≤hiN k):bF k ((a:Int) - 48)=(s:Int):=by
 have e:((a:Int) - 48)=(s:Int):=by omega
 rw[e];exact dx k _ hs
theorem P8 (z:Int)(h : -9223372036854775808≤z - 9)(h2:z - 9≤9223372036854775807):bF .i64 (z - 9)=z - 9:=by
 unfold bF
 have h1:decide (loK .i64≤z - 9)=true:=decide_eq_true (by simp only[loK];omega)
 have h2:decide (z - 9≤hiK .i64)=true:=decide_eq_true (by simp only[hiK];omega)
 rw[h1,h2];rfl
theorem kt {C:Cfg}{run:aw}{k i:Nat}{b:Code}{st st':St}(h:af C run k b st=some (.ret,st')):af C run k (.block i b) st=some (.ret,st'):=by
 simp only[af,h]
theorem jr (s:ByteArray):(bys s).length=(bO s).length:=by simp[bys]
theorem Mp (s:ByteArray)(l h:Nat)(h1:l≤h)(h2:h≤(bO s).length) :
  ef s (some (.sc (.int .i64 (l:Int)))) (some (.sc (.int .i64 (h:Int)))) none=some (.sc (.string (mkStr (((bO s).take h).drop l)))):=by
 simp[ef,bnd,eD,bh,h1,h2]
theorem WD (l:List UInt8):(.imm (bO (mkStr l)).length false ((bO (mkStr l)).map fun b=>PV.sc (.int .u8 (b.toNat:Int))):PV)=xW (l.map UInt8.toNat):=by
 rw[fm,xW,length_map,map_map];rfl
theorem BH (hp:Θ)(id i:Nat)(h:i≠id):aP (roB hp [id]) i=aP hp i:=by
 unfold roB
 split
 ·rename_i cs e
  simp only[roB]
  rw[cI e,if_neg h]
 ·rfl
theorem dR.arg {b:Nat}{hp:Θ}{l:Ω}{p:PV}(h:dR b hp l p)(n:Bool) :
  ∃ q ids,bj (Ab.snap hp bp) [.sc (.bool n),p]=some ([.sc (.bool n),q],ids)∧aJ [.sc (.bool n),q]=[.sc (.bool n),aO l]∧∀ i,i<b→aP (roB hp ids) i=aP hp i:=by
 obtain⟨hb,h⟩:=h
 rcases h with ⟨rfl,rfl⟩| ⟨id,m,hid,_,rfl,h⟩
 ·exact⟨.sc (.slice none 0 0),[],rfl,rfl,fun _ _=>rfl⟩
 ·have ht:bD (bq ((l++m).map dg) 0) (l.length*1)=some (l.map dg):=by
   rw[cA,dc (by simp)]
   simp
  have hs:=kg hp 10 l
  have h1:Ab.snap hp 12 (.own id 1 0 l.length false)=some (.imm l.length false (l.map dg),[id]):=by
   rw[Ab.snap]
   simp only[h]
   rw[if_neg (by simp),ht]
   simp only[hs]
  refine⟨.imm l.length false (l.map dg),[id],?_,?_,fun i hi=>BH hp id i (by omega)⟩
  ·simp only[bp,bj,h1]
   rfl
  ·simp only[aJ,canon,jg];rfl
theorem xY (l:Ω)(lo e:Nat)(h:lo≤e)(he:e≤l.length):l.drop lo=(l.take e).drop lo++l.drop e:=by
 conv=>lhs;rw[← take_append_drop e l]
 rw[drop_append_of_le_length (by rw[length_take];omega)]
theorem aa8 {n m:Nat}(h:n.log2<29*m):(aK n).length≤m:=by
 by_cases h0:n=0
 ·subst h0;simp[ft]
 ·have h1:n<2 ^ (n.log2+1):=Nat.lt_log2_self
  have h2:2 ^ (n.log2+1)≤2 ^ (29*m):=Nat.pow_le_pow_right (by omega) h
  have h3:(2:Nat) ^ (29*m)≤1000000000 ^ m:=by
   rw[Nat.pow_mul]
   exact Nat.pow_le_pow_left (by decide) _
  exact di (Nat.lt_of_lt_of_le h1 (Nat.le_trans h2 h3))
theorem aa7 {n:Nat}(h:n.log2<11000000):(aK n).length<400000 :=
 Nat.lt_of_le_of_lt (aa8 (m:=399999) (Nat.lt_trans h (by decide))) (by decide)
end Go.Ab
namespace Go.Ab
open List
namespace T
open List
def val:Ω→Nat
 | []=>0
 | a::l=>a+10*val l
def jE:Nat→Nat→Ω
 | 0,_=>[]
 | k+1,n=>if n=0 then [] else n % 10::jE k (n / 10)
def aK (n:Nat):Ω:=jE (n.log2+1) n
def Dok (l:Ω):Prop:=∀ x ∈ l,x<10
def fj (l:Ω):Ω:=(l.reverse.dropWhile (· == 0)).reverse
theorem Dok.nil:Dok []:=fun _ h=>by cases h
theorem Dok.cons {a:Nat}{l:Ω}(h:a<10)(h':Dok l):Dok (a::l):=fun x hx=>by
 rcases mem_cons.1 hx with rfl | hx
 ·exact h
 ·exact h' x hx
theorem Dok.head {a:Nat}{l:Ω}(h:Dok (a::l)):a<10:=h a (by simp)
theorem Dok.tail {a:Nat}{l:Ω}(h:Dok (a::l)):Dok l:=fun x hx=>h x (by simp[hx])
theorem Dok.append {l m:Ω}(h:Dok l)(h':Dok m):Dok (l++m):=fun x hx=>by
 rcases mem_append.1 hx with hx | hx
 ·exact h x hx
 ·exact h' x hx
theorem Dok.left {l m:Ω}(h:Dok (l++m)):Dok l:=fun x hx=>h x (by simp[hx])
theorem Dok.right {l m:Ω}(h:Dok (l++m)):Dok m:=fun x hx=>h x (by simp[hx])
theorem Dok.get {l:Ω}(h:Dok l){i:Nat}(hi:i<l.length):l[i]<10:=h _ (getElem_mem hi)
theorem Dok.set {l:Ω}(h:Dok l)(i:Nat){y:Nat}(hy:y<10):Dok (l.set i y):=fun x hx=>by
 rcases mem_or_eq_of_mem_set hx with hx | rfl
 ·exact h x hx
 ·exact hy
theorem Dok.JJ (n:Nat):Dok (List.replicate n 0):=fun x hx=>by
 rw[(mem_replicate.1 hx).2];omega
theorem Dok.take {l:Ω}(h:Dok l)(n:Nat):Dok (l.take n):=fun x hx=>h x (mem_of_mem_take hx)
theorem Dok.drop {l:Ω}(h:Dok l)(n:Nat):Dok (l.drop n):=fun x hx=>h x (mem_of_mem_drop hx)
theorem ie (l m:Ω):val (l++m)=val l+10 ^ l.length*val m:=by
 induction l with
 | nil=>simp[val]
 | cons a l ih =>
  simp only[cons_append,val,ih,length_cons,Nat.pow_succ]
  grind
theorem dL (l:Ω)(a:Nat):val (l++[a])=val l+10 ^ l.length*a:=by
 rw[ie];simp[val]
theorem oB (n:Nat):val (List.replicate n 0)=0:=by
 induction n with
 | zero=>rfl
 | succ n ih=>simp[replicate_succ,val,ih]
theorem qn (l:Ω)(i y:Nat)(hi:i<l.length):val (l.set i y)+l[i]*10 ^ i=val l+y*10 ^ i:=by
 induction l generalizing i with
 | nil=>simp at hi
 | cons a l ih =>
  cases i with
  | zero=>simp[val];omega
  | succ i =>
   have:=ih i (by simpa using hi)
   simp only[set_cons_succ,val,getElem_cons_succ,Nat.pow_succ]
   grind
theorem gT (l:Ω)(i:Nat)(hi:i<l.length):val (l.take (i+1))=val (l.take i)+l[i]*10 ^ i:=by
 rw[take_succ_eq_append_getElem hi,dL,length_take,Nat.min_eq_left (by omega),Nat.mul_comm]
theorem eX {l:Ω}(h:Dok l):val l<10 ^ l.length:=by
 induction l with
 | nil=>simp[val]
 | cons a l ih =>
  have h1:=ih h.tail
  have h2:=h.head
  simp only[val,length_cons,Nat.pow_succ]
  omega
theorem lB (l:Ω)(i:Nat)(hi:i≤l.length):val l=val (l.take i)+10 ^ i*val (l.drop i):=by
 have h:=ie (l.take i) (l.drop i)
 rw[take_append_drop,length_take,Nat.min_eq_left hi] at h
 exact h
theorem nR (n:Nat)(h:n≠0):(n / 10).log2+1≤n.log2∨n / 10=0:=by
 by_cases h0:n / 10=0
 ·exact .inr h0
 ·left
  have h1:2 ^ (n / 10).log2≤n / 10:=Nat.log2_self_le h0
  have h2:2 ^ ((n / 10).log2+1)≤n:=by
   rw[Nat.pow_succ];omega
  exact (Nat.le_log2 h).2 h2
theorem oc:∀ (k j n:Nat),n.log2<k→n.log2<j→jE k n=jE j n
 | 0,j,n,h,_=>by omega
 | k+1,0,n,_,h=>by omega
 | k+1,j+1,n,h,h'=>by
  unfold jE
  by_cases hn:n=0
  ·rw[if_pos hn,if_pos hn]
  ·rw[if_neg hn,if_neg hn]
   congr 1
   rcases nR n hn with h1 | h1
   ·exact oc k j _ (by omega) (by omega)
   ·rw[h1]
    cases k <;> cases j <;> simp[jE]
theorem ft:aK 0=[]:=rfl
theorem eo {n:Nat}(h:n≠0):aK n=n % 10::aK (n / 10):=by
 unfold aK
 rw[jE,if_neg h]
 congr 1
 rcases nR n h with h1 | h1
 ·exact oc _ _ _ (by omega) (by omega)
 ·rw[h1]
  cases n.log2 <;> simp[jE]
theorem th {a:Nat}{l:Ω}(ha:a<10)(h:a+10*val l≠0):aK (a+10*val l)=a::aK (val l):=by
 rw[eo h,Nat.add_mul_mod_self_left,Nat.mod_eq_of_lt ha,Nat.add_mul_div_left _ _ (by omega),Nat.div_eq_of_lt ha,Nat.zero_add]
theorem bV (n:Nat):val (aK n)=n:=by
 induction n using Nat.strongRecOn with
 | _ n ih =>
  by_cases h:n=0
  ·subst h;rfl
  ·rw[eo h,val,ih _ (by omega)]
   omega
theorem bS (n:Nat):Dok (aK n):=by
 induction n using Nat.strongRecOn with
 | _ n ih =>
  by_cases h:n=0
  ·subst h;exact Dok.nil
  ·rw[eo h]
   exact (ih _ (by omega)).cons (by omega)
theorem eI (l:Ω)(a:Nat):fj (l++[a])=if a=0 then fj l else l++[a]:=by
 unfold fj
 rw[reverse_append]
 by_cases h:a=0 <;> simp[h]
theorem jv {P:Ω→Prop}(h0:P [])(h1:∀ l a,P l→P (l++[a])):∀ l,P l:=by
 intro l
 have:∀ m:Ω,P m.reverse:=by
  intro m
  induction m with
  | nil=>exact h0
  | cons a m ih=>rw[reverse_cons];exact h1 _ a ih
 have:=this l.reverse
 rwa [reverse_reverse] at this
theorem sh (l:Ω):val (fj l)=val l:=by
 induction l using jv with
 | h0=>rfl
 | h1 l a ih =>
  rw[eI]
  by_cases h:a=0
  ·rw[if_pos h,ih,h,dL,Nat.mul_zero,Nat.add_zero]
  ·rw[if_neg h]
theorem vQ {l:Ω}(h:Dok l):Dok (fj l):=by
 induction l using jv with
 | h0=>exact Dok.nil
 | h1 l a ih =>
  rw[eI]
  by_cases h':a=0
  ·rw[if_pos h'];exact ih h.left
  ·rw[if_neg h'];exact h
def Top (l:Ω):Prop:=∀ m a,l=m++[a]→a≠0
theorem lE (l:Ω):Top (fj l):=by
 induction l using jv with
 | h0=>intro m a h;simp[fj] at h
 | h1 l a ih =>
  rw[eI]
  by_cases h:a=0
  ·rw[if_pos h];exact ih
  ·rw[if_neg h]
   intro m b e
   have:=append_inj' e rfl
   simp at this
   rw[← this.2];exact h
theorem Top.tail {a:Nat}{l:Ω}(h:Top (a::l)):Top l:=fun m b e=>h (a::m) b (by rw[e];rfl)
theorem Top.qo {l:Ω}(h:Top l)(hl:l≠[]):val l≠0:=by
 obtain⟨m,a,rfl⟩:∃ m a,l=m++[a]:=⟨l.dropLast,l.getLast hl,(dropLast_concat_getLast hl).symm⟩
 have ha:=h m a rfl
 rw[dL]
 have:0<10 ^ m.length*a:=Nat.mul_pos (Nat.pow_pos (by omega)) (by omega)
 omega
theorem ku {l:Ω}(h:Dok l)(ht:Top l):aK (val l)=l:=by
 induction l with
 | nil=>rfl
 | cons a l ih =>
  rw[val,th h.head,ih h.tail ht.tail]
  exact ht.qo (by simp)
theorem eJ {l:Ω}(h:Dok l):fj l=aK (val l):=by
 rw[← sh l,ku (vQ h) (lE l)]
theorem jD (n:Nat):Top (aK n):=by
 have h:=eJ (bS n)
 rw[bV] at h
 rw[← h]
 exact lE _
theorem cT {n:Nat} : 0<(aK n).length ↔ n≠0:=by
 by_cases h:n=0
 ·subst h;simp[ft]
 ·rw[eo h];simp[h]
theorem x8 {n:Nat}(h:aK n=[]):n=0:=by
 rw[← bV n,h];rfl
theorem di {n k:Nat}(h:n<10 ^ k):(aK n).length≤k:=by
 by_cases h0:aK n=[]
 ·rw[h0];simp
 ·obtain⟨m,a,e⟩:∃ m a,aK n=m++[a]:=⟨(aK n).dropLast,(aK n).getLast h0,(dropLast_concat_getLast h0).symm⟩
  have ha:=jD n m a e
  have hv:=bV n
  rw[e,dL] at hv
  rw[e,length_append,length_singleton]
  have h1:10 ^ m.length≤n:=by
   have:10 ^ m.length*1≤10 ^ m.length*a:=Nat.mul_le_mul_left _ (by omega)
   omega
  have h2:10 ^ m.length<10 ^ k:=by omega
  exact Nat.lt_of_not_le fun h3=>absurd (Nat.pow_le_pow_right (n:=10) (by omega) h3) (by omega)
theorem fD (n:Nat):n<10 ^ (aK n).length:=by
 have:=eX (bS n)
 rwa [bV] at this
end T
def Sc1 {α:Type}(e:α→PV):Prop:=∀ a,(∃ k z,e a = .sc (.int k z))∨(∃ s,e a = .sc (.string s))∨∃ b,e a = .sc (.bool b)
def mJ {α:Type}(e:α→PV)(l:List α):PV:=.imm l.length false (l.map e)
section
variable {α:Type} {e:α→PV}
theorem Sc1.cells (h:Sc1 e)(a:α):(e a).cells?=some [e a]:=by
 rcases h a with ⟨k,z,h⟩| ⟨s,h⟩| ⟨b,h⟩ <;> rw[h] <;> rfl
theorem Sc1.okc (h:Sc1 e)(a:α):dK (e a)=true:=by
 rcases h a with ⟨k,z,h⟩| ⟨s,h⟩| ⟨b,h⟩ <;> rw[h] <;> rfl
theorem Sc1.canon (h:Sc1 e)(a:α):Ab.canon (e a)=e a:=by
 rcases h a with ⟨k,z,h⟩| ⟨s,h⟩| ⟨b,h⟩ <;> rw[h] <;> rfl
theorem Sc1.snap (h:Sc1 e)(hp:Θ)(d:Nat)(a:α):Ab.snap hp (d+1) (e a)=some (e a,[]):=by
 rcases h a with ⟨k,z,h⟩| ⟨s,h⟩| ⟨b,h⟩ <;> rw[h] <;> rfl
theorem Sc1.idf (h:Sc1 e)(a:α):(e a).cF=true:=by
 rcases h a with ⟨k,z,h⟩| ⟨s,h⟩| ⟨b,h⟩ <;> rw[h] <;> rfl
theorem Sc1.N4 (h:Sc1 e):∀ l:List α,bd (l.map e)=true
 | []=>rfl
 | a::l=>by simp only[map_cons,bd,h.okc,h.N4 l,Bool.and_self]
theorem Sc1.aJ (h:Sc1 e):∀ l:List α,Ab.aJ (l.map e)=l.map e
 | []=>rfl
 | a::l=>by simp only[map_cons,Ab.aJ,h.aJ l,h.canon]
theorem Sc1.Dj (h:Sc1 e)(hp:Θ)(d:Nat):∀ l:List α,bj (Ab.snap hp (d+1)) (l.map e)=some (l.map e,[])
 | []=>rfl
 | a::l=>by simp only[map_cons,bj,h.Dj hp d l,h.snap];rfl
theorem Sc1.abm (h:Sc1 e):∀ l:List α,bM (l.map e)=true
 | []=>rfl
 | a::l=>by simp only[map_cons,bM,h.idf,h.abm l,Bool.and_self]
theorem Sc1.ack (h:Sc1 e)(n:Nat)(x:Bool)(l:List α)(hl:l.length=n):Ab.canon (.imm n x (l.map e))=mJ e l:=by
 rw[Ab.canon,h.aJ,mJ,hl]
theorem Sc1.IX (h:Sc1 e)(l:List α):Ab.canon (mJ e l)=mJ e l:=h.ack _ _ l rfl
theorem af3 (l:List α)(i:Nat)(h:i<l.length):bq (l.map e) i=e l[i]::(l.drop (i+1)).map e:=by
 rw[cA,← map_drop,drop_eq_getElem_cons h];rfl
theorem kr (l:List α)(i:Nat)(h:i<l.length):(bq (l.map e) i).head?=some (e l[i]):=by
 rw[af3 l i h];rfl
theorem mu:∀ (l:List α) (i:Nat) (y:α),i<l.length→cm (l.map e) i [e y]=some ((l.set i y).map e)
 | [],i,y,h=>by simp at h
 | a::l,0,y,h=>by simp[cm]
 | a::l,i+1,y,h=>by
  have:=mu l i y (by simpa using h)
  simp only[map_cons,cm,this,set_cons_succ]
theorem Bt (l:List α)(n:Nat)(h:n≤l.length):bD (bq (l.map e) 0) (n*1)=some ((l.take n).map e):=by
 rw[cA,drop_zero,Nat.mul_one,dc (by simpa using h),map_take]
theorem ahE (n:Nat)(a:α):rep n [e a]=(List.replicate n a).map e:=by
 induction n with
 | zero=>rfl
 | succ n ih=>simp[rep,ih,replicate_succ]
def jY (e:α→PV)(b:Nat)(hp:Θ)(l:List α)(p:PV):Prop :=
 b≤hp.length∧((l=[]∧p = .sc (.slice none 0 0))∨∃ id m x,b≤id∧id<hp.length∧p = .own id 1 0 l.length x∧(x=true→m=[])∧aP hp id=some ⟨.live,(l++m).map e⟩)
theorem jY.nil {b:Nat}{hp:Θ}(h:b≤hp.length):jY e b hp [] (.sc (.slice none 0 0)):=⟨h,.inl ⟨rfl,rfl⟩⟩
theorem jY.len {b:Nat}{hp:Θ}{l:List α}{p:PV}(h:jY e b hp l p):dy p=some l.length:=by
 rcases h.2 with ⟨rfl,rfl⟩| ⟨id,m,x,_,_,rfl,_,h⟩ <;> rfl
theorem jY.cells {b:Nat}{hp:Θ}{l:List α}{p:PV}(h:jY e b hp l p):p.cells?=some [p]:=by
 rcases h.2 with ⟨rfl,rfl⟩| ⟨id,m,x,_,_,rfl,_,h⟩ <;> rfl
theorem jY.okc {b:Nat}{hp:Θ}{l:List α}{p:PV}(h:jY e b hp l p):dK p=true:=by
 rcases h.2 with ⟨rfl,rfl⟩| ⟨id,m,x,_,_,rfl,_,h⟩ <;> rfl
def dw (e:α→PV)(b:Nat)(hp:Θ)(l:List α)(p:PV):Prop :=
 b≤hp.length∧((l=[]∧p = .sc (.slice none 0 0))∨∃ id m,b≤id∧id<hp.length∧p = .own id 1 0 l.length false∧aP hp id=some ⟨.live,(l++m).map e⟩)
theorem dw.nil {b:Nat}{hp:Θ}(h:b≤hp.length):dw e b hp [] (.sc (.slice none 0 0)):=⟨h,.inl ⟨rfl,rfl⟩⟩
theorem dw.s {b:Nat}{hp:Θ}{l:List α}{p:PV}(h:dw e b hp l p):jY e b hp l p:=by
 obtain⟨hb,h⟩:=h
 rcases h with ⟨rfl,rfl⟩| ⟨id,m,h1,h2,rfl,h⟩
 ·exact .nil hb
 ·exact⟨hb,.inr ⟨id,m,false,h1,h2,rfl,nofun,h⟩⟩
theorem dw.app {b:Nat}{hp:Θ}{l:List α}{p:PV}(h:dw e b hp l p)(a:α)(hl:l.length<100000000) :
  ∃ p' hp' fp,cw hp 1 p 1 [e a]=some (p',hp',fp)∧dw e b hp' (l++[a]) p'∧∀ i,i<b→aP hp' i=aP hp i:=by
 obtain⟨hb,h⟩:=h
 rcases h with ⟨rfl,rfl⟩| ⟨id,m,hid,hid2,rfl,h⟩
 ·refine⟨.own hp.length 1 0 1 false,aL hp [e a],⟨[],[hp.length],true,false⟩,by simp[cw,cN],⟨by simp[aL];omega,.inr ⟨hp.length,[],hb,by simp[aL],rfl,?_⟩⟩,fun i hi => ?_⟩
  ·rw[bz,if_pos rfl];rfl
  ·rw[bz,if_neg (by omega)]
 ·have ht:bD (bq ((l++m).map e) 0) (l.length*1)=some (l.map e):=by
   rw[Bt _ _ (by simp)];simp
  refine⟨.own hp.length 1 0 (l.length+1) false,aL (bZ hp id ⟨.dead,[]⟩) (l.map e++[e a]),⟨[],[id,hp.length],true,false⟩,?_,⟨by simp[aL,bC];omega,.inr ⟨hp.length,[],hb,by simp[aL,bC],by simp,?_⟩⟩,fun i hi => ?_⟩
  ·simp only[cw,h]
   rw[ht]
   simp[cN]
   omega
  ·rw[bz,bC,if_pos rfl];simp
  ·rw[bz,bC,if_neg (by omega),cI h,if_neg (by omega)]
theorem jY.snap (he:Sc1 e){b:Nat}{hp:Θ}{l:List α}{p:PV}(h:jY e b hp l p)(d:Nat):∃ q ids,Ab.snap hp (d+2) p=some (q,ids)∧Wk q (mJ e l)∧Ab.canon q=mJ e l∧∀ i ∈ ids,b≤i:=by
 obtain⟨hb,h⟩:=h
 rcases h with ⟨rfl,rfl⟩| ⟨id,m,x,hid,_,rfl,_,h⟩
 ·exact⟨.sc (.slice none 0 0),[],rfl,Wk.nil false,rfl,by simp⟩
 ·have ht:bD (bq ((l++m).map e) 0) (l.length*1)=some (l.map e):=by
   rw[Bt _ _ (by simp)];simp
  refine⟨.imm l.length x (l.map e),[id],?_,?_,he.ack _ x l rfl,by simpa using hid⟩
  ·rw[Ab.snap]
   simp only[h]
   rw[if_neg (by simp),ht]
   simp only[he.Dj hp d l]
  ·cases x
   ·exact Wk.refl (by simp[PV.cF])
   ·exact Wk.imm _ _ _
theorem jY.HY (he:Sc1 e){b:Nat}{hp:Θ}{l:List α}{p:PV}(h:jY e b hp l p) :
  ∃ rs ids,bj (Ab.snap hp bp) [p]=some (rs,ids)∧WkL rs [mJ e l]:=by
 obtain⟨q,ids,h1,h2,h3,-⟩:=h.snap he 10
 refine⟨[q],ids++[],?_,h2,trivial⟩
 simp only[bp,bj,h1]
theorem jY.arg (he:Sc1 e){b:Nat}{hp:Θ}{l:List α}{p:PV}(h:jY e b hp l p) :
  ∃ q ids,(∀ d,Ab.snap hp (d+2) p=some (q,ids))∧Ab.canon q=mJ e l∧∀ i,i<b→aP (roB hp ids) i=aP hp i:=by
 obtain⟨hb,h⟩:=h
 rcases h with ⟨rfl,rfl⟩| ⟨id,m,x,hid,_,rfl,_,h⟩
 ·exact⟨.sc (.slice none 0 0),[],fun _=>rfl,rfl,fun _ _=>rfl⟩
 ·have ht:bD (bq ((l++m).map e) 0) (l.length*1)=some (l.map e):=by
   rw[Bt _ _ (by simp)];simp
  refine⟨.imm l.length x (l.map e),[id],fun d => ?_,he.ack _ x l rfl,fun i hi=>BH hp id i (by omega)⟩
  rw[Ab.snap]
  simp only[h]
  rw[if_neg (by simp),ht]
  simp only[he.Dj hp d l]
theorem jY.set {b:Nat}{hp:Θ}{l:List α}{p:PV}(h:jY e b hp l p)(i:Nat)(x:Blk)(hi:i<b):jY e b (bZ hp i x) l p:=by
 obtain⟨hb,h⟩:=h
 refine⟨by rw[bC];exact hb,?_⟩
 rcases h with ⟨rfl,rfl⟩| ⟨id,m,y,h1,h2,rfl,h3,h⟩
 ·exact .inl ⟨rfl,rfl⟩
 ·refine .inr ⟨id,m,y,h1,by rw[bC];exact h2,rfl,h3,?_⟩
  rw[jl,cW,getElem?_set_ne (by omega),← cW]
  exact h
end
def iv (n:Nat):PV:=.sc (.int .i64 n)
theorem iY:Sc1 iv:=fun _=>.inl ⟨_,_,rfl⟩
theorem fE (l:Ω)(i:Nat)(h:i<l.length):(bq (l.map iv) i).head?=some (.sc (.int .i64 (at0 l i:Int))):=by
 rw[kr l i h,df h];rfl
def bx (l:Ω):PV:=mJ iv l
def Iw:Ψ→Option Ω
 | []=>some []
 | .sc (.int .i64 (.ofNat n))::r=>bif n.blt 10 then (Iw r).map (n :: ·) else none
 | _=>none
def mY:PV→Option Ω
 | .imm n false cs=>match Iw cs with
  | some l=>bif n.beq l.length && n.blt 10000000 then some l else none
  | none=>none
 | _=>none
theorem Ay:∀ {cs:Ψ} {l:Ω},Iw cs=some l→cs=l.map iv∧T.Dok l
 | [],l,h=>by simp[Iw] at h;subst h;exact⟨rfl,T.Dok.nil⟩
 | c::r,l,h=>by
  unfold Iw at h
  split at h
  ·cases ‹c::r=[]›
  ·rename_i n r' e
   cases hb:n.blt 10 with
   | false=>rw[hb] at h;cases h
   | true =>
    rw[hb] at h
    simp only[cond_true,Option.map_eq_some_iff] at h
    obtain⟨l',h1,rfl⟩:=h
    cases e
    obtain⟨e2,h3⟩:=Ay h1
    exact⟨by rw[e2];rfl,h3.cons (by simpa [Nat.blt_eq] using hb)⟩
  ·cases h
theorem Fa:∀ {l:Ω},T.Dok l→Iw (l.map iv)=some l
 | [],_=>rfl
 | a::l,h=>by
  have h1:a.blt 10=true:=by rw[Nat.blt_eq];exact h.head
  show (bif a.blt 10 then (Iw (l.map iv)).map (a :: ·) else none)=_
  rw[h1,Fa h.tail];rfl
theorem fZ {p:PV}{l:Ω}(h:mY p=some l):p=bx l∧T.Dok l∧l.length<10000000:=by
 unfold mY at h
 split at h
 ·split at h
  ·rename_i n cs _ l' e
   cases hb:n.beq l'.length && n.blt 10000000 with
   | false=>rw[hb] at h;cases h
   | true =>
    rw[hb] at h
    simp only[cond_true,OiE] at h
    subst h
    simp only[Bool.and_eq_true,Nat.blt_eq] at hb
    obtain⟨rfl,h3⟩:=Ay e
    have:=Nat.eq_of_beq_eq_true hb.1
    subst this
    exact⟨rfl,h3,hb.2⟩
  ·cases h
 ·cases h
theorem dY {l:Ω}(h:T.Dok l)(hl:l.length<10000000):mY (bx l)=some l:=by
 have h1:l.length.blt 10000000=true:=by rw[Nat.blt_eq];exact hl
 simp[mY,bx,mJ,Fa h,h1]
theorem pX (l:Ω):canon (bx l)=bx l:=iY.IX l
end Go.Ab
