/- An abstract interpreter over the model's code and its soundness, part 13; each lemma states its conditions. -/
import Derived.Test.YtjdmodeenbdfpaaGreatU12
set_option linter.unusedSimpArgs false
set_option linter.unusedVariables false
namespace Go.Ab
open Go List
def Sc1 {α:Type}(e:α→PV):Prop:=∀ a,(∃ k z,e a = .sc (.int k z))∨(∃ s,e a = .sc (.string s))∨∃ b,e a = .sc (.bool b)
def mE {α:Type}(e:α→PV)(l:List α):PV:=.imm l.length false (l.map e)
section
variable {α:Type} {e:α→PV}
theorem Sc1.cells (h:Sc1 e)(a:α):(e a).cells?=some [e a]:=by
 rcases h a with ⟨k,z,h⟩| ⟨s,h⟩| ⟨b,h⟩ <;> rw[h] <;> rfl
theorem Sc1.okc (h:Sc1 e)(a:α):dZ (e a)=true:=by
 rcases h a with ⟨k,z,h⟩| ⟨s,h⟩| ⟨b,h⟩ <;> rw[h] <;> rfl
theorem Sc1.canon (h:Sc1 e)(a:α):Ab.canon (e a)=e a:=by
 rcases h a with ⟨k,z,h⟩| ⟨s,h⟩| ⟨b,h⟩ <;> rw[h] <;> rfl
theorem Sc1.snap (h:Sc1 e)(hp:Θ)(d:Nat)(a:α):Ab.snap hp (d+1) (e a)=some (e a,[]):=by
 rcases h a with ⟨k,z,h⟩| ⟨s,h⟩| ⟨b,h⟩ <;> rw[h] <;> rfl
theorem Sc1.idf (h:Sc1 e)(a:α):(e a).cG=true:=by
 rcases h a with ⟨k,z,h⟩| ⟨s,h⟩| ⟨b,h⟩ <;> rw[h] <;> rfl
theorem Sc1.Uk (h:Sc1 e):∀ l:List α,bj (l.map e)=true
 | []=>rfl
 | a::l=>by simp only[map_cons,bj,h.okc,h.Uk l,Bool.and_self]
theorem Sc1.aK (h:Sc1 e):∀ l:List α,Ab.aK (l.map e)=l.map e
 | []=>rfl
 | a::l=>by simp only[map_cons,Ab.aK,h.aK l,h.canon]
theorem Sc1.C5 (h:Sc1 e)(hp:Θ)(d:Nat):∀ l:List α,bu (Ab.snap hp (d+1)) (l.map e)=some (l.map e,[])
 | []=>rfl
 | a::l=>by simp only[map_cons,bu,h.C5 hp d l,h.snap];rfl
theorem Sc1.ac9 (h:Sc1 e)(n:Nat)(x:Bool)(l:List α)(hl:l.length=n):Ab.canon (.imm n x (l.map e))=mE e l:=by
 rw[Ab.canon,h.aK,mE,hl]
theorem Sc1.yZ (h:Sc1 e)(l:List α):Ab.canon (mE e l)=mE e l:=h.ac9 _ _ l rfl
theorem agm (l:List α)(i:Nat)(h:i<l.length):bz (l.map e) i=e l[i]::(l.drop (i+1)).map e:=by
 rw[cD,← map_drop,drop_eq_getElem_cons h];rfl
theorem nT (l:List α)(i:Nat)(h:i<l.length):(bz (l.map e) i).head?=some (e l[i]):=by
 rw[agm l i h];rfl
theorem nF:∀ (l:List α) (i:Nat) (y:α),i<l.length→b9 (l.map e) i [e y]=some ((l.set i y).map e)
 | [],i,y,h=>by simp at h
 | a::l,0,y,h=>by simp[b9]
 | a::l,i+1,y,h=>by
  have:=nF l i y (by simpa using h)
  simp only[map_cons,b9,this,set_cons_succ]
theorem Bm (l:List α)(n:Nat)(h:n≤l.length):bF (bz (l.map e) 0) (n*1)=some ((l.take n).map e):=by
 rw[cD,drop_zero,Nat.mul_one,dk (by simpa using h),map_take]
theorem aib (n:Nat)(a:α):rep n [e a]=(List.replicate n a).map e:=by
 induction n with
 | zero=>rfl
 | succ n ih=>simp[rep,ih,replicate_succ]
def jR (e:α→PV)(b:Nat)(hp:Θ)(l:List α)(p:PV):Prop :=
 b≤hp.length∧((l=[]∧p = .sc (.slice none 0 0))∨∃ id m x,b≤id∧id<hp.length∧p = .own id 1 0 l.length x∧(x=true→m=[])∧aX hp id=some ⟨.live,(l++m).map e⟩)
theorem jR.nil {b:Nat}{hp:Θ}(h:b≤hp.length):jR e b hp [] (.sc (.slice none 0 0)):=⟨h,.inl ⟨rfl,rfl⟩⟩
theorem jR.len {b:Nat}{hp:Θ}{l:List α}{p:PV}(h:jR e b hp l p):dc p=some l.length:=by
 rcases h.2 with ⟨rfl,rfl⟩| ⟨id,m,x,_,_,rfl,_,h⟩ <;> rfl
theorem jR.cells {b:Nat}{hp:Θ}{l:List α}{p:PV}(h:jR e b hp l p):p.cells?=some [p]:=by
 rcases h.2 with ⟨rfl,rfl⟩| ⟨id,m,x,_,_,rfl,_,h⟩ <;> rfl
theorem jR.okc {b:Nat}{hp:Θ}{l:List α}{p:PV}(h:jR e b hp l p):dZ p=true:=by
 rcases h.2 with ⟨rfl,rfl⟩| ⟨id,m,x,_,_,rfl,_,h⟩ <;> rfl
def dw (e:α→PV)(b:Nat)(hp:Θ)(l:List α)(p:PV):Prop :=
 b≤hp.length∧((l=[]∧p = .sc (.slice none 0 0))∨∃ id m,b≤id∧id<hp.length∧p = .own id 1 0 l.length false∧aX hp id=some ⟨.live,(l++m).map e⟩)
theorem dw.nil {b:Nat}{hp:Θ}(h:b≤hp.length):dw e b hp [] (.sc (.slice none 0 0)):=⟨h,.inl ⟨rfl,rfl⟩⟩
theorem dw.s {b:Nat}{hp:Θ}{l:List α}{p:PV}(h:dw e b hp l p):jR e b hp l p:=by
 obtain⟨hb,h⟩:=h
 rcases h with ⟨rfl,rfl⟩| ⟨id,m,h1,h2,rfl,h⟩
 ·exact .nil hb
 ·exact⟨hb,.inr ⟨id,m,false,h1,h2,rfl,nofun,h⟩⟩
theorem dw.app {b:Nat}{hp:Θ}{l:List α}{p:PV}(h:dw e b hp l p)(a:α)(hl:l.length<100000000) :
  ∃ p' hp' fp,cU hp 1 p 1 [e a]=some (p',hp',fp)∧dw e b hp' (l++[a]) p'∧∀ i,i<b→aX hp' i=aX hp i:=by
 obtain⟨hb,h⟩:=h
 rcases h with ⟨rfl,rfl⟩| ⟨id,m,hid,hid2,rfl,h⟩
 ·refine⟨.own hp.length 1 0 1 false,bd hp [e a],⟨[],[hp.length],true,false⟩,by simp[cU,cW],⟨by simp[bd];omega,.inr ⟨hp.length,[],hb,by simp[bd],rfl,?_⟩⟩,fun i hi => ?_⟩
  ·rw[bP,if_pos rfl];rfl
  ·rw[bP,if_neg (by omega)]
 ·have ht:bF (bz ((l++m).map e) 0) (l.length*1)=some (l.map e):=by
   rw[Bm _ _ (by simp)];simp
  refine⟨.own hp.length 1 0 (l.length+1) false,bd (cF hp id ⟨.dead,[]⟩) (l.map e++[e a]),⟨[],[id,hp.length],true,false⟩,?_,⟨by simp[bd,bQ];omega,.inr ⟨hp.length,[],hb,by simp[bd,bQ],by simp,?_⟩⟩,fun i hi => ?_⟩
  ·simp only[cU,h]
   rw[ht]
   simp[cW]
   omega
  ·rw[bP,bQ,if_pos rfl];simp
  ·rw[bP,bQ,if_neg (by omega),cN h,if_neg (by omega)]
theorem jR.snap (he:Sc1 e){b:Nat}{hp:Θ}{l:List α}{p:PV}(h:jR e b hp l p)(d:Nat):∃ q ids,Ab.snap hp (d+2) p=some (q,ids)∧Wk q (mE e l)∧Ab.canon q=mE e l∧∀ i ∈ ids,b≤i:=by
 obtain⟨hb,h⟩:=h
 rcases h with ⟨rfl,rfl⟩| ⟨id,m,x,hid,_,rfl,_,h⟩
 ·exact⟨.sc (.slice none 0 0),[],rfl,Wk.nil false,rfl,by simp⟩
 ·have ht:bF (bz ((l++m).map e) 0) (l.length*1)=some (l.map e):=by
   rw[Bm _ _ (by simp)];simp
  refine⟨.imm l.length x (l.map e),[id],?_,?_,he.ac9 _ x l rfl,by simpa using hid⟩
  ·rw[Ab.snap]
   simp only[h]
   rw[if_neg (by simp),ht]
   simp only[he.C5 hp d l]
  ·cases x
   ·exact Wk.refl (by simp[PV.cG])
   ·exact Wk.imm _ _ _
theorem jR.Iu (he:Sc1 e){b:Nat}{hp:Θ}{l:List α}{p:PV}(h:jR e b hp l p) :
  ∃ rs ids,bu (Ab.snap hp bn) [p]=some (rs,ids)∧WkL rs [mE e l]:=by
 obtain⟨q,ids,h1,h2,h3,-⟩:=h.snap he 10
 refine⟨[q],ids++[],?_,h2,trivial⟩
 simp only[bn,bu,h1]
theorem jR.arg (he:Sc1 e){b:Nat}{hp:Θ}{l:List α}{p:PV}(h:jR e b hp l p) :
  ∃ q ids,(∀ d,Ab.snap hp (d+2) p=some (q,ids))∧Ab.canon q=mE e l∧∀ i,i<b→aX (roB hp ids) i=aX hp i:=by
 obtain⟨hb,h⟩:=h
 rcases h with ⟨rfl,rfl⟩| ⟨id,m,x,hid,_,rfl,_,h⟩
 ·exact⟨.sc (.slice none 0 0),[],fun _=>rfl,rfl,fun _ _=>rfl⟩
 ·have ht:bF (bz ((l++m).map e) 0) (l.length*1)=some (l.map e):=by
   rw[Bm _ _ (by simp)];simp
  refine⟨.imm l.length x (l.map e),[id],fun d => ?_,he.ac9 _ x l rfl,fun i hi=>Bz hp id i (by omega)⟩
  rw[Ab.snap]
  simp only[h]
  rw[if_neg (by simp),ht]
  simp only[he.C5 hp d l]
theorem jR.set {b:Nat}{hp:Θ}{l:List α}{p:PV}(h:jR e b hp l p)(i:Nat)(x:Blk)(hi:i<b):jR e b (cF hp i x) l p:=by
 obtain⟨hb,h⟩:=h
 refine⟨by rw[bQ];exact hb,?_⟩
 rcases h with ⟨rfl,rfl⟩| ⟨id,m,y,h1,h2,rfl,h3,h⟩
 ·exact .inl ⟨rfl,rfl⟩
 ·refine .inr ⟨id,m,y,h1,by rw[bQ];exact h2,rfl,h3,?_⟩
  rw[jh,cY,getElem?_set_ne (by omega),← cY]
  exact h
end
def iv (n:Nat):PV:=.sc (.int .i64 n)
theorem iX:Sc1 iv:=fun _=>.inl ⟨_,_,rfl⟩
theorem fB (l:Ω)(i:Nat)(h:i<l.length):(bz (l.map iv) i).head?=some (.sc (.int .i64 (at0 l i:Int))):=by
 rw[nT l i h,de h];rfl
def bA (l:Ω):PV:=mE iv l
def IX:Ψ→Option Ω
 | []=>some []
 | .sc (.int .i64 (.ofNat n))::r=>bif n.blt 10 then (IX r).map (n :: ·) else none
 | _=>none
def mT:PV→Option Ω
 | .imm n false cs=>match IX cs with
  | some l=>bif n.beq l.length && n.blt 10000000 then some l else none
  | none=>none
 | _=>none
theorem AD:∀ {cs:Ψ} {l:Ω},IX cs=some l→cs=l.map iv∧T.Dok l
 | [],l,h=>by simp[IX] at h;subst h;exact⟨rfl,T.Dok.nil⟩
 | c::r,l,h=>by
  unfold IX at h
  split at h
  ·cases ‹c::r=[]›
  ·rename_i n r' e
   cases hb:n.blt 10 with
   | false=>rw[hb] at h;cases h
   | true =>
    rw[hb] at h
    simp only[cond_true,Option.map_eq_some_iff] at h
    obtain⟨l',h1,rfl⟩:=h
    cases e
    obtain⟨e2,h3⟩:=AD h1
    exact⟨by rw[e2];rfl,h3.cons (by simpa [Nat.blt_eq] using hb)⟩
  ·cases h
theorem EW:∀ {l:Ω},T.Dok l→IX (l.map iv)=some l
 | [],_=>rfl
 | a::l,h=>by
  have h1:a.blt 10=true:=by rw[Nat.blt_eq];exact h.head
  show (bif a.blt 10 then (IX (l.map iv)).map (a :: ·) else none)=_
  rw[h1,EW h.tail];rfl
theorem fW {p:PV}{l:Ω}(h:mT p=some l):p=bA l∧T.Dok l∧l.length<10000000:=by
 unfold mT at h
 split at h
 ·split at h
  ·rename_i n cs _ l' e
   cases hb:n.beq l'.length && n.blt 10000000 with
   | false=>rw[hb] at h;cases h
   | true =>
    rw[hb] at h
    simp only[cond_true,OiE] at h
    subst h
    simp only[Bool.and_eq_true,Nat.blt_eq] at hb
    obtain⟨rfl,h3⟩:=AD e
    have:=Nat.eq_of_beq_eq_true hb.1
    subst this
    exact⟨rfl,h3,hb.2⟩
  ·cases h
 ·cases h
theorem dQ {l:Ω}(h:T.Dok l)(hl:l.length<10000000):mT (bA l)=some l:=by
 have h1:l.length.blt 10000000=true:=by rw[Nat.blt_eq];exact hl
 simp[mT,bA,mE,EW h,h1]
theorem pW (l:Ω):canon (bA l)=bA l:=iX.yZ l
end Go.Ab
namespace Go.Ab.T
open Go List
def db:Nat→Nat→Ω
 | 0,_=>[]
 | n+1,v=>v % 10::db n (v / 10)
theorem dq:∀ n v,(db n v).length=n
 | 0,_=>rfl
 | n+1,v=>by simp[db,dq n]
theorem gn:∀ n v,Dok (db n v)
 | 0,_=>Dok.nil
 | n+1,v=>(gn n _).cons (by omega)
theorem fj:∀ n v,v<10 ^ n→val (db n v)=v
 | 0,v,h=>by simp at h;subst h;rfl
 | n+1,v,h=>by
  rw[db,val,fj n _ (by rw[Nat.pow_succ] at h;omega)]
  omega
theorem nE:∀ {l:Ω},Dok l→db l.length (val l)=l
 | [],_=>rfl
 | a::l,h=>by
  have ha:=h.head
  rw[length_cons,db,val,Nat.add_mul_mod_self_left,Nat.mod_eq_of_lt ha,Nat.add_mul_div_left _ _ (by omega),Nat.div_eq_of_lt ha,Nat.zero_add,nE h.tail]
theorem Dok.pQ {l:Ω}{n v:Nat}(h:Dok l)(hl:l.length=n)(hv:val l=v):l=db n v:=by
 subst hl;subst hv;exact (nE h).symm
theorem ld {a:Ω}{m:Nat}(hm:m<a.length):val a=val (a.take m)+(a[m]*10 ^ m+10 ^ (m+1)*val (a.drop (m+1))):=by
 rw[lf a (m+1) (by omega),gK a m hm]
 omega
theorem lb {a b:Ω}{m:Nat}(ha:Dok a)(hma:m<a.length)(hmb:m<b.length)(hd:a.drop (m+1)=b.drop (m+1))(h:a[m]<b[m]):val a<val b:=by
 rw[ld hma,ld hmb,hd]
 have h1:=eM (ha.take m)
 rw[length_take,Nat.min_eq_left (by omega)] at h1
 have h2:a[m]*10 ^ m+10 ^ m≤b[m]*10 ^ m:=by
  have:=Nat.mul_le_mul_right (10 ^ m) (show a[m]+1≤b[m] from h)
  rw[Nat.add_mul,Nat.one_mul] at this
  exact this
 omega
theorem cB (l:Ω)(i:Nat)(h:l.length≤i):val (l.take i)=val l:=by
 rw[take_of_length_le h]
open Go List
theorem cn {l:Ω}(h:Dok l)(i:Nat):at0 l i<10:=by
 by_cases hi:i<l.length
 ·rw[de hi];exact h.get hi
 ·rw[jd (by omega)];omega
theorem cu (l:Ω)(i:Nat):val (l.take (i+1))=val (l.take i)+at0 l i*10 ^ i:=by
 by_cases hi:i<l.length
 ·rw[de hi,gK l i hi]
 ·rw[jd (by omega),cB l _ (by omega),cB l _ (by omega)];simp
theorem Vq {T:Tab}{t e:Nat}(hu:und T t=some (.slice e))(hs:dm T e=some 1)(hz:ef T e=some [dg 0])(n:Nat) :
  fP T t 1 [(0,dg n)]=some (1,[dg n]):=by
 simp[fP,hu,hs,hz,rep,dJ,fY,b9]
theorem nA (hp:Θ)(n:Nat):eY hp 1 (.imm 1 true [dg n])=some (1,[dg n],[]):=by simp[eY]
theorem jF (n:Nat):bT [dg n]=true:=(rfl)
theorem gM (n:Nat):PV.sc (.int .u32 (n:Int))=dg n:=(rfl)
open Go List
theorem W3 (s:Nat):((s:Int) / 10)=((s / 10:Nat):Int):=by omega
theorem jC (k:IntKind)(a s:Nat)(h:s=a / 10)(hs:s≤hiN k):bB k ((a:Int) / 10)=(s:Int):=by
 subst h
 rw[W3];exact dp k _ hs
theorem ll (a s:Nat)(h:s=a % 10):(a:Int).tmod 10=(s:Int):=by
 subst h
 rw[Int.tmod_eq_emod_of_nonneg (by omega)];omega
theorem lS (k:IntKind)(a s:Nat)(h:s=a*10)(hs:s≤hiN k):bB k ((a:Int)*10)=(s:Int):=by
 have e:((a:Int)*10)=(s:Int):=by omega
 rw[e];exact dp k _ hs
open Go List
theorem cw {x y:Nat}(h:x≤y):(aJ x).length≤(aJ y).length:=di (Nat.lt_of_le_of_lt h (fA y))
open Go List
theorem kX {l:Ω}{m y:Nat}(h:m<l.length):(l.set m y).drop m=y::l.drop (m+1):=by
 rw[drop_eq_getElem_cons (by simpa using h)]
 simp[drop_set]
theorem il (l:Ω)(m:Nat)(h:m<l.length):val (l.drop m)=at0 l m+10*val (l.drop (m+1)):=by
 rw[drop_eq_getElem_cons h,val,de h]
theorem Fu {V V' Q R a b:Nat}(hb:0<b)(hV:V'=a+10*V)(hQ:Q=V / b)(hR:R=V % b) :
  (R*10+a) / b+10*Q=V' / b∧(R*10+a) % b=V' % b:=by
 have e:V'=(R*10+a)+b*(10*Q):=by
  have h:=Nat.div_add_mod V b
  rw[← hQ,← hR] at h
  rw[hV,← h]
  grind
 rw[e,Nat.add_mul_div_left _ _ hb,Nat.add_mul_mod_self_left]
 exact⟨rfl,rfl⟩
end Go.Ab.T
namespace Go.Ab
open Go List
theorem dN (l:Ω):dc (bA l)=some l.length:=(rfl)
theorem rP (n:Nat):(iv n).cells?=some [iv n]:=(rfl)
theorem dP (n:Nat):dZ (iv n)=true:=(rfl)
theorem Iw (s:ByteArray):dZ (PV.sc (.string s))=true:=(rfl)
theorem qE (n:Nat):PV.sc (.int .i64 (n:Int))=iv n:=(rfl)
theorem lu (hp:Θ)(n:Nat):eY hp 1 (.imm 1 true [iv n])=some (1,[iv n],[]):=by simp[eY]
theorem KN (hp:Θ)(n:Nat):eY hp 1 (.imm 1 true [u8v n])=some (1,[u8v n],[]):=by simp[eY]
theorem iA (n:Nat):bT [iv n]=true:=(rfl)
theorem td (n:Nat):bT [u8v n]=true:=(rfl)
theorem adD (n:Nat):PV.sc (.int .u8 (n:Int))=u8v n:=(rfl)
theorem FH (n:Nat):(u8v n).cells?=some [u8v n]:=(rfl)
theorem lD (n:Nat):dZ (u8v n)=true:=(rfl)
theorem afT {T:Tab}{t e:Nat}(hu:und T t=some (.slice e))(hs:dm T e=some 1)(hz:ef T e=some [iv 0])(n:Nat) :
  fP T t 1 [(0,iv n)]=some (1,[iv n]):=by
 simp[fP,hu,hs,hz,rep,dJ,rP,b9]
theorem afR {T:Tab}{t e:Nat}(hu:und T t=some (.slice e))(hs:dm T e=some 1)(hz:ef T e=some [u8v 0])(n:Nat) :
  fP T t 1 [(0,u8v n)]=some (1,[u8v n]):=by
 simp[fP,hu,hs,hz,rep,dJ,FH,b9]
def tx (l:Ω):ByteArray:=mkStr (l.map UInt8.ofNat)
def Bok (l:Ω):Prop:=∀ x ∈ l,x<256
theorem mK (s:ByteArray):Bok (bys s):=fun x hx=>by
 simp only[bys,mem_map] at hx
 obtain⟨b,-,rfl⟩:=hx
 exact b.toNat_lt
theorem im (s:ByteArray):tx (bys s)=s:=by
 unfold tx bys
 rw[map_map]
 have:(UInt8.ofNat ∘ UInt8.toNat)=id:=by funext b;simp
 rw[this,map_id,gq]
theorem jH {l:Ω}(h:Bok l):bys (tx l)=l:=by
 unfold tx bys
 rw[fh,map_map]
 conv=>rhs;rw[← map_id l]
 exact map_congr_left fun x hx=>by
  have:=h x hx
  simp[Nat.mod_eq_of_lt this]
theorem dM (l:Ω):(bO (tx l)).length=l.length:=by simp[tx,fh]
theorem eW {T:Tab}{t:Nat}(hu:und T t=some .string){l:Ω}(h:Bok l)(k:IntKind)(i:Nat)(hi:i<l.length) :
  ic T t (.sc (.string (tx l))) (.sc (.int k (i:Int)))=some (.sc (.int .u8 (at0 l i:Int))):=by
 have h1:EB (bO (tx l)) i=some (UInt8.ofNat l[i]):=by
  rw[tx,fh,La]
  simp[hi]
 have h2:gI (.sc (.int k (i:Int)))=some i:=bm k i
 simp only[ic,hu,h2,h1,Option.map_some]
 have:=h _ (getElem_mem hi)
 rw[de hi]
 simp[Nat.mod_eq_of_lt this]
theorem Bok.nil:Bok []:=fun _ h=>by cases h
theorem Bok.cons {a:Nat}{l:Ω}(h:a<256)(h':Bok l):Bok (a::l):=fun x hx=>by
 rcases mem_cons.1 hx with rfl | hx
 ·exact h
 ·exact h' x hx
theorem Bok.append {l m:Ω}(h:Bok l)(h':Bok m):Bok (l++m):=fun x hx=>by
 rcases mem_append.1 hx with hx | hx
 ·exact h x hx
 ·exact h' x hx
theorem Bok.take {l:Ω}(h:Bok l)(n:Nat):Bok (l.take n):=fun x hx=>h x (mem_of_mem_take hx)
theorem Bok.drop {l:Ω}(h:Bok l)(n:Nat):Bok (l.drop n):=fun x hx=>h x (mem_of_mem_drop hx)
theorem Bok.get {l:Ω}(h:Bok l){i:Nat}(hi:i<l.length):l[i]<256:=h _ (getElem_mem hi)
theorem Bok.at {l:Ω}(h:Bok l)(i:Nat):at0 l i<256:=by
 by_cases hi:i<l.length
 ·rw[de hi];exact h.get hi
 ·rw[jd (by omega)];omega
theorem FW {l:Ω}(h:Bok l):kj (l.map u8v)=some (l.map UInt8.ofNat):=by
 induction l with
 | nil=>rfl
 | cons a l ih =>
  have ha:a<256:=h a (by simp)
  have:=ih (fun x hx=>h x (by simp[hx]))
  simp only[map_cons,u8v,kj] at this ⊢
  simp[this]
def dvs (l:Ω):Ω:=(l.map dv).reverse
theorem yc (b:Nat)(l:Ω):dvs (b::l)=dvs l++[dv b]:=by simp[dvs]
theorem mF (l:Ω):(dvs l).length=l.length:=by simp[dvs]
theorem ajk {b:Nat}(h:lL b=true):dv b<10:=by
 rw[dE] at h;unfold dv;omega
theorem fE {l:Ω}(h:eH l=true){b:Nat}(hb:b ∈ l):lL b=true:=by
 induction l with
 | nil=>cases hb
 | cons a l ih =>
  simp only[eH,Bool.and_eq_true] at h
  rcases mem_cons.1 hb with rfl | hb
  ·exact h.1
  ·exact ih h.2 hb
theorem I9 {l:Ω}(h:eH l=true):T.Dok (dvs l):=fun x hx=>by
 simp only[dvs,mem_reverse,mem_map] at hx
 obtain⟨b,hb,rfl⟩:=hx
 exact ajk (fE h hb)
theorem vc (l:Ω):T.val (dvs l)=dec 0 l:=by
 induction l with
 | nil=>rfl
 | cons b l ih =>
  rw[yc,T.dI,mF,ih,rK,LP (stp 0 b)]
  unfold stp
  rw[Nat.mul_zero,Nat.zero_add,Nat.mul_comm]
  omega
def dtx (n:Nat):Ω:=if n=0 then [48] else (T.aJ n).reverse.map (· + 48)
def itx (m:Bool)(n:Nat):Ω:=if n=0 then [48] else (bif m then [45] else [])++(T.aJ n).reverse.map (· + 48)
def ztx (z:Int):Ω:=itx (bw z) z.natAbs
theorem ajm {x:Nat}(h:x<10):lL (x+48)=true:=by rw[dE];omega
theorem aki {x:Nat}(h:x<10):dv (x+48)=x:=by unfold dv;omega
theorem Fx {l:Ω}(h:T.Dok l):eH (l.map (· + 48))=true:=by
 induction l with
 | nil=>rfl
 | cons a l ih=>simp only[map_cons,eH,ajm h.head,ih h.tail,Bool.and_self]
theorem yA {l:Ω}(h:T.Dok l):T.Dok l.reverse:=fun x hx=>h x (mem_reverse.1 hx)
theorem acP {l:Ω}(h:T.Dok l):dvs (l.reverse.map (· + 48))=l:=by
 unfold dvs
 rw[map_map,← map_reverse,reverse_reverse]
 conv=>rhs;rw[← map_id l]
 refine map_congr_left fun x hx => ?_
 simp[aki (h x hx)]
theorem WA (n:Nat):dec 0 ((T.aJ n).reverse.map (· + 48))=n:=by
 rw[← vc,acP (T.bV n),T.bX]
theorem oZ (n:Nat):dec 0 (dtx n)=n:=by
 unfold dtx
 by_cases h:n=0
 ·subst h;rfl
 ·rw[if_neg h,WA]
theorem ob (n:Nat):eH (dtx n)=true:=by
 unfold dtx
 by_cases h:n=0
 ·rw[if_pos h];rfl
 ·rw[if_neg h];exact Fx (yA (T.bV n))
def yN:Ω→Option (Bool × Ω)
 | []=>none
 | a::l=>bif a.beq 45 then (bif eH l then some (true,l) else none) else (bif eH (a::l) then some (false,a::l) else none)
theorem sA {s:Ω}{m:Bool}{l:Ω}(h:yN s=some (m,l)):s=(bif m then [45] else [])++l∧eH l=true∧s≠[]:=by
 unfold yN at h
 split at h
 ·cases h
 ·rename_i a l'
  cases ha:a.beq 45 with
  | true =>
   rw[ha] at h
   simp only[cond_true] at h
   cases hd:eH l' with
   | false=>rw[hd] at h;cases h
   | true =>
    rw[hd] at h
    simp only[cond_true,OiE,PiE] at h
    obtain⟨rfl,rfl⟩:=h
    have:=Nat.eq_of_beq_eq_true ha
    exact⟨by rw[this];rfl,hd,by simp⟩
  | false =>
   rw[ha] at h
   simp only[cond_false] at h
   cases hd:eH (a::l') with
   | false=>rw[hd] at h;cases h
   | true =>
    rw[hd] at h
    simp only[cond_true,OiE,PiE] at h
    obtain⟨rfl,rfl⟩:=h
    exact⟨rfl,hd,by simp⟩
theorem R5 (m:Bool)(n:Nat):yN (itx m n)=some (bif n.beq 0 then (false,[48]) else (m,(T.aJ n).reverse.map (· + 48))):=by
 unfold itx
 by_cases h:n=0
 ·subst h;rfl
 ·rw[if_neg h]
  have hb:n.beq 0=false:=by
   cases n with
   | zero=>exact absurd rfl h
   | succ n=>rfl
  have hd:=Fx (yA (T.bV n))
  have hl:=T.cT.2 h
  have hne:(T.aJ n).reverse.map (· + 48)≠[]:=by
   intro e
   have:=congrArg List.length e
   rw[length_map,length_reverse] at this
   simp only[length_nil] at this
   omega
  rw[hb,cond_false]
  generalize (T.aJ n).reverse.map (· + 48)=l at *
  cases m with
  | true=>simp only[cond_true,cons_append,nil_append,yN,hd];rfl
  | false =>
   cases l with
   | nil=>exact absurd rfl hne
   | cons a l =>
    have ha:a.beq 45=false:=by
     cases e:a.beq 45 with
     | false=>rfl
     | true =>
      have:=Nat.eq_of_beq_eq_true e
      subst this
      simp[eH,lL] at hd
    simp only[cond_false,nil_append,yN,ha,hd,cond_true]
theorem VH (m:Bool)(n:Nat):Bok (itx m n):=by
 unfold itx
 by_cases h:n=0
 ·rw[if_pos h];exact Bok.nil.cons (by omega)
 ·rw[if_neg h]
  refine Bok.append ?_ ?_
  ·cases m
   ·exact Bok.nil
   ·exact Bok.nil.cons (by omega)
  ·intro x hx
   simp only[mem_map,mem_reverse] at hx
   obtain⟨d,hd,rfl⟩:=hx
   have:=T.bV n d hd
   omega
theorem jR.rd {α:Type}{e:α→PV}{b:Nat}{hp:Θ}{l:List α}{p:PV}(h:jR e b hp l p):∃ ids,eY hp 1 p=some (l.length,l.map e,ids):=by
 obtain⟨hb,h⟩:=h
 rcases h with ⟨rfl,rfl⟩| ⟨id,m,x,_,_,rfl,_,h⟩
 ·exact⟨[],rfl⟩
 ·refine⟨[id],?_⟩
  have ht:bF (bz ((l++m).map e) 0) (l.length*1)=some (l.map e):=by
   rw[Bm _ _ (by simp)];simp
  simp only[eY,h]
  rw[if_neg (by simp),ht]
def gD (m:Bool)(n:Nat):Int:=bif m then Int.negOfNat n else Int.ofNat n
theorem R2 (m:Bool)(n:Nat)(h:n≠0):bw (gD m n)=m:=by
 cases m with
 | false=>rfl
 | true =>
  cases n with
  | zero=>exact absurd rfl h
  | succ n=>rfl
theorem R4 (m:Bool)(n:Nat):(gD m n).natAbs=n:=by
 cases m with
 | false=>rfl
 | true=>cases n <;> simp[gD,Int.negOfNat]
theorem ie (z:Int):gD (bw z) z.natAbs=z:=by
 cases z with
 | ofNat n=>rfl
 | negSucc n=>rfl
theorem vA (m:Bool)(n:Nat):itx m n=ztx (gD m n):=by
 unfold ztx
 rw[R4]
 by_cases h:n=0
 ·subst h;simp[itx]
 ·rw[R2 m n h]
theorem kO (z:Int):Bok (ztx z):=VH _ _
def zs (z:Int):PV:=.sc (.string (tx (ztx z)))
def ew (z:Int):Nat:=(dtx z.natAbs).length
theorem nh (z:Int):∃ m,yN (ztx z)=some (m,dtx z.natAbs)∧(m=bw z):=by
 rw[ztx,R5]
 by_cases h:z.natAbs=0
 ·have:z=0:=by omega
  subst this
  exact⟨false,rfl,rfl⟩
 ·refine⟨bw z,?_,rfl⟩
  have hb:z.natAbs.beq 0=false:=by
   cases e:z.natAbs with
   | zero=>exact absurd e h
   | succ n=>rfl
  rw[hb,dtx,if_neg h];rfl
def fO:Nat:=3000000
def fL:PV→Option Int
 | .sc (.string s)=>match yN (bys s) with
  | some (m,ds)=>bif (bys s).length.ble fO && decide (bys s=ztx (gD m (dec 0 ds))) then some (gD m (dec 0 ds)) else none
  | none=>none
 | _=>none
theorem dj {p:PV}{z:Int}(h:fL p=some z):p=zs z∧(ztx z).length≤fO:=by
 unfold fL at h
 split at h
 ·rename_i s
  split at h
  ·rename_i m ds e
   cases hb:(bys s).length.ble fO && decide (bys s=ztx (gD m (dec 0 ds))) with
   | false=>rw[hb] at h;cases h
   | true =>
    rw[hb] at h
    simp only[cond_true,OiE] at h
    simp only[Bool.and_eq_true,Nat.ble_eq,decide_eq_true_eq] at hb
    rw[h] at hb
    refine⟨?_,by rw[← hb.2];exact hb.1⟩
    rw[zs,← hb.2,im]
  ·cases h
 ·cases h
theorem cJ (z:Int)(h:(ztx z).length≤fO):fL (zs z)=some z:=by
 obtain⟨m,h1,h2⟩:=nh z
 have h3:gD m (dec 0 (dtx z.natAbs))=z:=by rw[oZ,h2,ie]
 have h4:(ztx z).length.ble fO=true:=by rw[Nat.ble_eq];exact h
 simp[fL,zs,jH (kO z),h1,h3,h4]
theorem si (z:Int):ztx z=(bif bw z then [45] else [])++dtx z.natAbs:=by
 by_cases h:z.natAbs=0
 ·have:z=0:=by omega
  subst this;rfl
 ·rw[ztx,itx,if_neg h,dtx,if_neg h]
theorem gV (z:Int):(ztx z).length=(bif bw z then 1 else 0)+ew z:=by
 rw[si]
 cases bw z <;> simp[ew];omega
theorem vK (z:Int):0<ew z:=by
 unfold ew dtx
 by_cases h:z.natAbs=0
 ·rw[if_pos h];simp
 ·rw[if_neg h]
  have:=T.cT.2 h
  simpa using this
theorem tj {n k:Nat}(hk:0<k):(dtx n).length≤k ↔ n<10 ^ k:=by
 unfold dtx
 by_cases h:n=0
 ·subst h
  simp
  constructor
  ·intro _;exact Nat.pow_pos (by omega)
  ·intro _;exact hk
 ·rw[if_neg h,length_map,length_reverse]
  constructor
  ·intro h1
   exact Nat.lt_of_lt_of_le (T.fA n) (Nat.pow_le_pow_right (by omega) h1)
  ·intro h1
   exact T.di h1
theorem CG (x:Int):ew (-x)=ew x:=by unfold ew;rw[Int.natAbs_neg]
theorem ox {x y:Int}(h:x.natAbs≤y.natAbs):ew x≤ew y:=by
 have h2:y.natAbs<10 ^ ew y:=(tj (vK y)).1 (Nat.le_refl _)
 exact (tj (vK y)).2 (by omega)
theorem AY (n:Nat):(T.aJ n).length≤(dtx n).length:=by
 unfold dtx
 by_cases h:n=0
 ·subst h;simp[T.fq]
 ·rw[if_neg h];simp
end Go.Ab
namespace Go.Ab
open List
theorem lJ {x y q r:Int}(hy:0<y)(h:x=y*q+r)(h0:0≤r)(h1:r<y):x / y=q∧x % y=r :=
 (Int.ediv_emod_unique hy).2 ⟨by rw[h];exact Int.add_comm _ _,h0,h1⟩
theorem agf {x y:Int}(hy:0<y)(hx:x<0)(h:x.natAbs % y.natAbs≠0):x / y = -((x.natAbs / y.natAbs:Nat):Int) - 1∧x % y = -((x.natAbs % y.natAbs:Nat):Int)+y:=by
 have h1:=Nat.div_add_mod x.natAbs y.natAbs
 have h2:=Nat.mod_lt x.natAbs (show 0<y.natAbs by omega)
 generalize hq:x.natAbs / y.natAbs=q at *
 generalize hr:x.natAbs % y.natAbs=r at *
 have h3:(x.natAbs:Int)=(y.natAbs:Int)*(q:Int)+(r:Int):=by rw[← h1];simp
 have hy':(y.natAbs:Int)=y:=by omega
 rw[hy'] at h3
 refine lJ hy ?_ (by omega) (by omega)
 rw[Int.mul_sub,Int.mul_neg,Int.mul_one]
 omega
theorem acI {x y:Int}(hy:0<y)(hx:x<0)(h:x.natAbs % y.natAbs=0):x / y = -((x.natAbs / y.natAbs:Nat):Int)∧x % y=0:=by
 have h1:=Nat.div_add_mod x.natAbs y.natAbs
 rw[h] at h1
 generalize hq:x.natAbs / y.natAbs=q at *
 have h3:(x.natAbs:Int)=(y.natAbs:Int)*(q:Int):=by rw[← h1];simp
 have hy':(y.natAbs:Int)=y:=by omega
 rw[hy'] at h3
 refine lJ hy ?_ (by omega) (by omega)
 rw[Int.mul_neg]
 omega
theorem age {x y:Int}(hy:0<y)(hx:0≤x):x / y=((x.natAbs / y.natAbs:Nat):Int)∧x % y=((x.natAbs % y.natAbs:Nat):Int):=by
 have h1:=Nat.div_add_mod x.natAbs y.natAbs
 have h2:=Nat.mod_lt x.natAbs (show 0<y.natAbs by omega)
 generalize hq:x.natAbs / y.natAbs=q at *
 generalize hr:x.natAbs % y.natAbs=r at *
 have h3:(x.natAbs:Int)=(y.natAbs:Int)*(q:Int)+(r:Int):=by rw[← h1];simp
 have hy':(y.natAbs:Int)=y:=by omega
 rw[hy'] at h3
 exact lJ hy (by omega) (by omega) (by omega)
def fK:Ω→Option Nat
 | []=>none
 | a::l=>bif a.beq 47 then some 0 else (fK l).map (· + 1)
def qtx (n d:Int):Ω:=if d=1 then ztx n else ztx n++47::ztx d
theorem I0 {l:Ω}(h:∀ x ∈ l,x≠47):fK l=none:=by
 induction l with
 | nil=>rfl
 | cons a l ih =>
  have ha:a.beq 47=false:=by
   cases e:a.beq 47 with
   | false=>rfl
   | true=>exact absurd (Nat.eq_of_beq_eq_true e) (h a (by simp))
  rw[fK,ha,cond_false,ih fun x hx=>h x (by simp[hx])]
  rfl
theorem O5 {l:Ω}(h:∀ x ∈ l,x≠47)(m:Ω):fK (l++47::m)=some l.length:=by
 induction l with
 | nil=>rfl
 | cons a l ih =>
  have ha:a.beq 47=false:=by
   cases e:a.beq 47 with
   | false=>rfl
   | true=>exact absurd (Nat.eq_of_beq_eq_true e) (h a (by simp))
  rw[cons_append,fK,ha,cond_false,ih fun x hx=>h x (by simp[hx])]
  rfl
theorem P8 (z:Int):∀ x ∈ ztx z,x≠47:=by
 intro x hx
 rw[si,mem_append] at hx
 rcases hx with hx | hx
 ·cases h:bw z <;> rw[h] at hx <;> simp at hx
  omega
 ·have:=dE.1 (fE (ob _) hx)
  omega
theorem Yn:ztx 1=[49]:=by decide
theorem Ij (n d:Int):Bok (qtx n d):=by
 unfold qtx
 split
 ·exact kO n
 ·exact (kO n).append ((kO d).cons (by omega))
theorem O4 (n d:Int):fK (qtx n d)=if d=1 then none else some (ztx n).length:=by
 unfold qtx
 split
 ·exact I0 (P8 n)
 ·exact O5 (P8 n) _
noncomputable def ctr {α:Type}(e:α→Ψ)(ok:α→Prop)(f:α→Ψ)(a:Ψ):Option Ψ :=
 @dite _ (∃ x,ok x∧e x=a) (Classical.propDecidable _) (fun h=>some (f h.choose)) (fun _=>none)
theorem cX {α:Type}{e:α→Ψ}{ok:α→Prop}{f:α→Ψ}{a r:Ψ}(h:ctr e ok f a=some r):∃ x,ok x∧e x=a∧f x=r:=by
 unfold ctr at h
 split at h
 ·rename_i hx
  exact⟨hx.choose,hx.choose_spec.1,hx.choose_spec.2,by simpa using h⟩
 ·cases h
theorem pU {α:Type}{e:α→Ψ}{ok:α→Prop}{f:α→Ψ}(inj:∀ x y,ok x→ok y→e x=e y→f x=f y){x:α}(hx:ok x):ctr e ok f (e x)=some (f x):=by
 have h:∃ y,ok y∧e y=e x:=⟨x,hx,rfl⟩
 unfold ctr
 rw[dif_pos h,inj _ x h.choose_spec.1 hx h.choose_spec.2]
structure El {α:Type} (s:Nat) (e:α→Ψ):Prop where
 len:∀ a,(e a).length=s
 okc:∀ a,bj (e a)=true
 idf:∀ a,bT (e a)=true
 sn:∀ hp d a,bu (snap hp (d+1)) (e a)=some (e a,[])
structure Ec {α:Type} (s:Nat) (e:α→Ψ):Prop extends El s e where
 can:∀ a,aK (e a)=e a
theorem Sc1.ec {α:Type}{e:α→PV}(h:Sc1 e):Ec 1 fun a=>[e a] where
 len:=fun _=>rfl
 okc:=fun a=>by simp only[bj,h.okc,Bool.and_self]
 can:=fun a=>by simp only[Ab.aK,h.canon]
 idf:=fun a=>by simp only[bT,h.idf,Bool.and_self]
 sn:=fun hp d a=>by
  have:=h.C5 hp d [a]
  simpa using this
theorem nI:∀ (a b:Ψ),bj (a++b)=(bj a && bj b)
 | [],b=>rfl
 | x::a,b=>by simp only[cons_append,bj,nI a b,Bool.and_assoc]
theorem pw:∀ (a b:Ψ),aK (a++b)=aK a++aK b
 | [],b=>by simp[aK]
 | x::a,b=>by simp only[cons_append,aK,pw a b]
theorem pq {f:PV→Option (PV × Ω)} : ∀ {a b a' b':Ψ} {i j:Ω},bu f a=some (a',i)→bu f b=some (b',j)→bu f (a++b)=some (a'++b',i++j)
 | [],b,a',b',i,j,h1,h2=>by
  simp only[bu,OiE,PiE] at h1
  obtain⟨rfl,rfl⟩:=h1
  simpa using h2
 | x::a,b,a',b',i,j,h1,h2=>by
  simp only[bu] at h1
  cases hx:f x with
  | none=>rw[hx] at h1;cases h1
  | some y =>
   rw[hx] at h1
   simp only at h1
   cases ha:bu f a with
   | none=>rw[ha] at h1;cases h1
   | some z =>
    rw[ha] at h1
    simp only[OiE,PiE] at h1
    obtain⟨rfl,rfl⟩:=h1
    simp only[cons_append,bu,hx,pq ha h2,append_assoc]
def jM {α:Type}(e:α→Ψ)(l:List α):PV:=.imm l.length false (l.flatMap e)
section
variable {α:Type} {s:Nat} {e:α→Ψ}
theorem El.length (h:El s e)(l:List α):(l.flatMap e).length=l.length*s:=by
 induction l with
 | nil=>simp
 | cons a l ih=>rw[flatMap_cons,length_append,h.len,ih,length_cons,Nat.succ_mul];omega
theorem El.Uk (h:El s e):∀ l:List α,bj (l.flatMap e)=true
 | []=>rfl
 | a::l=>by rw[flatMap_cons,nI,h.okc,h.Uk l];rfl
theorem Ec.ajt (h:Ec s e):∀ l:List α,aK (l.flatMap e)=l.flatMap e
 | []=>rfl
 | a::l=>by rw[flatMap_cons,pw,h.can,h.ajt l]
theorem El.sns (h:El s e)(hp:Θ)(d:Nat):∀ l:List α,bu (snap hp (d+1)) (l.flatMap e)=some (l.flatMap e,[])
 | []=>rfl
 | a::l=>pq (h.sn hp d a) (h.sns hp d l)
theorem Ec.ada (h:Ec s e)(n:Nat)(x:Bool)(l:List α)(hl:l.length=n):canon (.imm n x (l.flatMap e))=jM e l:=by
 rw[canon,h.ajt,jM,hl]
theorem Ec.yZ (h:Ec s e)(l:List α):canon (jM e l)=jM e l:=h.ada _ _ l rfl
theorem Ec.list (h:Ec s e):Ec 1 fun l:List α=>[jM e l] where
 len:=fun _=>rfl
 okc:=fun _=>rfl
 can:=fun l=>by simp only[aK,h.yZ]
 idf:=fun l=>by simp only[jM,bT,PV.cG,Bool.and_self]
 sn:=fun _ _ _=>rfl
theorem Wm (h:El s e):∀ (l:List α) (i:Nat),i≤l.length→bz (l.flatMap e) (i*s)=(l.drop i).flatMap e
 | l,0,_=>by rw[Nat.zero_mul,cD,drop_zero,drop_zero]
 | [],i+1,hi=>by simp at hi
 | a::l,i+1,hi=>by
  rw[cD,flatMap_cons]
  have:(i+1)*s=(e a).length+i*s:=by rw[h.len,Nat.succ_mul];omega
  rw[this,← drop_drop,drop_left,← cD,Wm h l i (by simpa using hi),drop_succ_cons]
theorem mG (h:El s e)(l:List α)(i:Nat)(hi:i<l.length):bz (l.flatMap e) (i*s)=e l[i]++(l.drop (i+1)).flatMap e:=by
 rw[Wm h l i (by omega),drop_eq_getElem_cons hi,flatMap_cons]
theorem ss (h:El s e)(l m:List α):bF ((l++m).flatMap e) (l.length*s)=some (l.flatMap e):=by
 rw[dk (by rw[h.length,length_append,Nat.add_mul];omega),flatMap_append,← h.length l,take_left]
theorem nG:∀ (a b c:Ψ),a.length=b.length→b9 (a++c) 0 b=some (b++c)
 | [],[],c,_=>by cases c <;> rfl
 | x::a,y::b,c,h=>by simp only[cons_append,b9,nG a b c (by simpa using h)]
 | [],_::_,_,h=>by simp at h
 | _::_,[],_,h=>by simp at h
theorem oP:∀ (a c v r:Ψ) (n:Nat),b9 c n v=some r→b9 (a++c) (a.length+n) v=some (a++r)
 | [],c,v,r,n,h=>by simpa using h
 | x::a,c,v,r,n,h=>by
  have:(x::a).length+n=(a.length+n)+1:=by simp;omega
  rw[this,cons_append,b9,oP a c v r n h,cons_append]
theorem afg (h:El s e)(l:List α)(i:Nat)(y:α)(hi:i<l.length):b9 (l.flatMap e) (i*s) (e y)=some ((l.set i y).flatMap e):=by
 have h1:l=l.take i++l[i]::l.drop (i+1):=by rw[getElem_cons_drop,take_append_drop]
 have h2:l.set i y=l.take i++y::l.drop (i+1):=set_eq_take_append_cons_drop.trans (if_pos hi)
 have h3:i*s=((l.take i).flatMap e).length+0:=by rw[h.length,length_take,Nat.min_eq_left (by omega)];rfl
 have h4:l.flatMap e=(l.take i).flatMap e++(e l[i]++(l.drop (i+1)).flatMap e):=by
  conv=>lhs;rw[h1]
  rw[flatMap_append,flatMap_cons]
 rw[h4,h2,h3,flatMap_append,flatMap_cons]
 exact oP _ _ _ _ 0 (nG _ _ _ (by rw[h.len,h.len]))
def cH (s:Nat)(e:α→Ψ)(b:Nat)(hp:Θ)(l:List α)(p:PV):Prop :=
 b≤hp.length∧((l=[]∧p = .sc (.slice none 0 0))∨∃ id m x,b≤id∧id<hp.length∧p = .own id s 0 l.length x∧(x=true→m=[])∧aX hp id=some ⟨.live,(l++m).flatMap e⟩)
theorem cH.nil {b:Nat}{hp:Θ}(h:b≤hp.length):cH s e b hp [] (.sc (.slice none 0 0)):=⟨h,.inl ⟨rfl,rfl⟩⟩
theorem cH.len {b:Nat}{hp:Θ}{l:List α}{p:PV}(h:cH s e b hp l p):dc p=some l.length:=by
 rcases h.2 with ⟨rfl,rfl⟩| ⟨id,m,x,_,_,rfl,_,h⟩ <;> rfl
theorem cH.cells {b:Nat}{hp:Θ}{l:List α}{p:PV}(h:cH s e b hp l p):p.cells?=some [p]:=by
 rcases h.2 with ⟨rfl,rfl⟩| ⟨id,m,x,_,_,rfl,_,h⟩ <;> rfl
theorem cH.okc {b:Nat}{hp:Θ}{l:List α}{p:PV}(h:cH s e b hp l p):dZ p=true:=by
 rcases h.2 with ⟨rfl,rfl⟩| ⟨id,m,x,_,_,rfl,_,h⟩ <;> rfl
theorem cH.app (he:El s e){b:Nat}{hp:Θ}{l:List α}{p:PV}(h:cH s e b hp l p)(ns:List α)(h0:ns≠[])(hl:l.length+ns.length<1000000000) :
  ∃ p' hp' fp,cU hp s p ns.length (ns.flatMap e)=some (p',hp',fp)∧cH s e b hp' (l++ns) p'∧(∀ i,i<b→aX hp' i=aX hp i)∧hp.length≤hp'.length:=by
 obtain⟨hb,h⟩:=h
 have hn:ns.length≠0:=by simpa using h0
 have hml : ¬ (cW<ns.length):=by unfold cW;omega
 have hml2:l.length+ns.length≤cW:=by unfold cW;omega
 rcases h with ⟨rfl,rfl⟩| ⟨id,m,x,hid,hid2,rfl,hx,h⟩
 ·refine⟨.own hp.length s 0 ns.length false,bd hp (ns.flatMap e),⟨[],[hp.length],true,false⟩,?_,⟨by simp[bd];omega,.inr ⟨hp.length,[],false,hb,by simp[bd],by simp,nofun,?_⟩⟩,fun i hi => ?_,by simp[bd]⟩
  ·simp only[cU]
   rw[if_neg hn,if_pos (by omega)]
  ·rw[bP,if_pos rfl];simp
  ·rw[bP,if_neg (by omega)]
 ·have ht:bF (bz ((l++m).flatMap e) 0) (l.length*s)=some (l.flatMap e):=by
   rw[cD,drop_zero,ss (s:=s) he]
  cases x with
  | true =>
   refine⟨.own hp.length s 0 (l.length+ns.length) false,bd hp (l.flatMap e++ns.flatMap e),⟨[id],[hp.length],true,false⟩,?_,⟨by simp[bd];omega,.inr ⟨hp.length,[],false,hb,by simp[bd],by simp,nofun,?_⟩⟩,fun i hi => ?_,by simp[bd]⟩
   ·simp only[cU,h,ht]
    rw[if_neg (by simp),if_neg hn,if_neg (by simp),if_pos hml2]
   ·rw[bP,if_pos rfl];simp
   ·rw[bP,if_neg (by omega)]
  | false =>
   refine⟨.own hp.length s 0 (l.length+ns.length) false,bd (cF hp id ⟨.dead,[]⟩) (l.flatMap e++ns.flatMap e),⟨[],[id,hp.length],true,false⟩,?_,⟨by simp[bd,bQ];omega,.inr ⟨hp.length,[],false,hb,by simp[bd,bQ],by simp,nofun,?_⟩⟩,fun i hi => ?_,by simp[bd,bQ]⟩
   ·simp only[cU,h,ht]
    rw[if_neg (by simp),if_pos hml2]
   ·rw[bP,bQ,if_pos rfl];simp
   ·rw[bP,bQ,if_neg (by omega),cN h,if_neg (by omega)]
theorem cH.snap (he:Ec s e){b:Nat}{hp:Θ}{l:List α}{p:PV}(h:cH s e b hp l p):∃ q ids,(∀ d,Ab.snap hp (d+2) p=some (q,ids))∧Wk q (jM e l)∧Ab.canon q=jM e l∧(∀ i,i<b→aX (roB hp ids) i=aX hp i)∧∀ i ∈ ids,b≤i:=by
 obtain⟨hb,h⟩:=h
 rcases h with ⟨rfl,rfl⟩| ⟨id,m,x,hid,_,rfl,_,h⟩
 ·exact⟨.sc (.slice none 0 0),[],fun _=>rfl,Wk.nil false,rfl,fun _ _=>rfl,by simp⟩
 ·have ht:bF (bz ((l++m).flatMap e) 0) (l.length*s)=some (l.flatMap e):=by
   rw[cD,drop_zero,ss he.toEl]
  refine⟨.imm l.length x (l.flatMap e),[id],fun d => ?_,?_,he.ada _ x l rfl,fun i hi=>Bz hp id i (by omega),by simpa using hid⟩
  ·rw[Ab.snap]
   simp only[h]
   rw[if_neg (by simp),ht]
   simp only[he.sns hp d l]
  ·cases x
   ·exact Wk.refl (by simp[PV.cG])
   ·exact Wk.imm _ _ _
theorem cH.Iu (he:Ec s e){b:Nat}{hp:Θ}{l:List α}{p:PV}(h:cH s e b hp l p) :
  ∃ rs ids,bu (Ab.snap hp bn) [p]=some (rs,ids)∧WkL rs [jM e l]:=by
 obtain⟨q,ids,h1,h2,-⟩:=h.snap he
 refine⟨[q],ids++[],?_,h2,trivial⟩
 simp only[bn,bu,h1 10]
theorem cH.rd (he:El s e){b:Nat}{hp:Θ}{l:List α}{p:PV}(h:cH s e b hp l p):∃ ids,eY hp s p=some (l.length,l.flatMap e,ids):=by
 obtain⟨hb,h⟩:=h
 rcases h with ⟨rfl,rfl⟩| ⟨id,m,x,hid,_,rfl,_,h⟩
 ·exact⟨[],rfl⟩
 ·have ht:bF (bz ((l++m).flatMap e) 0) (l.length*s)=some (l.flatMap e):=by
   rw[cD,drop_zero,ss (s:=s) he]
  refine⟨[id],?_⟩
  simp only[eY,h]
  rw[if_neg (by simp),ht]
end
end Go.Ab
