/- An abstract interpreter over the model's code and its soundness, part 8; each lemma states its conditions. -/
import Derived.Test.YtjdmodeenbdfpaaGreatW07
import Derived.KernelRfl
set_option linter.unusedSimpArgs false
set_option linter.unusedVariables false
namespace Go.Ab.T
open Go List
def db:Nat→Nat→Ω
 | 0,_=>[]
 | n+1,v=>v % 10::db n (v / 10)
theorem dp:∀ n v,(db n v).length=n
 | 0,_=>rfl
 | n+1,v=>by simp[db,dp n]
theorem gD:∀ n v,Dok (db n v)
 | 0,_=>Dok.nil
 | n+1,v=>(gD n _).cons (by omega)
theorem fo:∀ n v,v<10 ^ n→val (db n v)=v
 | 0,v,h=>by simp at h;subst h;rfl
 | n+1,v,h=>by
  rw[db,val,fo n _ (by rw[Nat.pow_succ] at h;omega)]
  omega
theorem nI:∀ {l:Ω},Dok l→db l.length (val l)=l
 | [],_=>rfl
 | a::l,h=>by
  have ha:=h.head
  rw[length_cons,db,val,Nat.add_mul_mod_self_left,Nat.mod_eq_of_lt ha,Nat.add_mul_div_left _ _ (by omega),Nat.div_eq_of_lt ha,Nat.zero_add,nI h.tail]
theorem Dok.pS {l:Ω}{n v:Nat}(h:Dok l)(hl:l.length=n)(hv:val l=v):l=db n v:=by
 subst hl;subst hv;exact (nI h).symm
theorem lA {a:Ω}{m:Nat}(hm:m<a.length):val a=val (a.take m)+(a[m]*10 ^ m+10 ^ (m+1)*val (a.drop (m+1))):=by
 rw[lB a (m+1) (by omega),gT a m hm]
 omega
theorem ly {a b:Ω}{m:Nat}(ha:Dok a)(hma:m<a.length)(hmb:m<b.length)(hd:a.drop (m+1)=b.drop (m+1))(h:a[m]<b[m]):val a<val b:=by
 rw[lA hma,lA hmb,hd]
 have h1:=eX (ha.take m)
 rw[length_take,Nat.min_eq_left (by omega)] at h1
 have h2:a[m]*10 ^ m+10 ^ m≤b[m]*10 ^ m:=by
  have:=Nat.mul_le_mul_right (10 ^ m) (show a[m]+1≤b[m] from h)
  rw[Nat.add_mul,Nat.one_mul] at this
  exact this
 omega
theorem cH (l:Ω)(i:Nat)(h:l.length≤i):val (l.take i)=val l:=by
 rw[take_of_length_le h]
open Go List
theorem cu {l:Ω}(h:Dok l)(i:Nat):at0 l i<10:=by
 by_cases hi:i<l.length
 ·rw[df hi];exact h.get hi
 ·rw[jh (by omega)];omega
theorem cB (l:Ω)(i:Nat):val (l.take (i+1))=val (l.take i)+at0 l i*10 ^ i:=by
 by_cases hi:i<l.length
 ·rw[df hi,gT l i hi]
 ·rw[jh (by omega),cH l _ (by omega),cH l _ (by omega)];simp
theorem Vm {T:Tab}{t e:Nat}(hu:und T t=some (.slice e))(hs:de T e=some 1)(hz:eB T e=some [dg 0])(n:Nat) :
  eM T t 1 [(0,dg n)]=some (1,[dg n]):=by
 simp[eM,hu,hs,hz,rep,dq,gh,cm]
theorem nB (hp:Θ)(n:Nat):fk hp 1 (.imm 1 true [dg n])=some (1,[dg n],[]):=by simp[fk]
theorem jN (n:Nat):bM [dg n]=true:=(rfl)
theorem gV (n:Nat):PV.sc (.int .u32 (n:Int))=dg n:=(rfl)
open Go List
theorem WT (s:Nat):((s:Int) / 10)=((s / 10:Nat):Int):=by omega
theorem jK (k:IntKind)(a s:Nat)(h:s=a / 10)(hs:s≤hiN k):bF k ((a:Int) / 10)=(s:Int):=by
 subst h
 rw[WT];exact dx k _ hs
theorem lG (a s:Nat)(h:s=a % 10):(a:Int).tmod 10=(s:Int):=by
 subst h
 rw[Int.tmod_eq_emod_of_nonneg (by omega)];omega
theorem l9 (k:IntKind)(a s:Nat)(h:s=a*10)(hs:s≤hiN k):bF k ((a:Int)*10)=(s:Int):=by
 have e:((a:Int)*10)=(s:Int):=by omega
 rw[e];exact dx k _ hs
open Go List
theorem cG {x y:Nat}(h:x≤y):(aK x).length≤(aK y).length:=di (Nat.lt_of_le_of_lt h (fD y))
open Go List
theorem lp {l:Ω}{m y:Nat}(h:m<l.length):(l.set m y).drop m=y::l.drop (m+1):=by
 rw[drop_eq_getElem_cons (by simpa using h)]
 simp[drop_set]
theorem iu (l:Ω)(m:Nat)(h:m<l.length):val (l.drop m)=at0 l m+10*val (l.drop (m+1)):=by
 rw[drop_eq_getElem_cons h,val,df h]
theorem Fw {V V' Q R a b:Nat}(hb:0<b)(hV:V'=a+10*V)(hQ:Q=V / b)(hR:R=V % b) :
  (R*10+a) / b+10*Q=V' / b∧(R*10+a) % b=V' % b:=by
 have e:V'=(R*10+a)+b*(10*Q):=by
  have h:=Nat.div_add_mod V b
  rw[← hQ,← hR] at h
  rw[hV,← h]
  grind
 rw[e,Nat.add_mul_div_left _ _ hb,Nat.add_mul_mod_self_left]
 exact⟨rfl,rfl⟩
end Go.Ab.T
namespace Go.Ab
open Go List
theorem dV (l:Ω):dy (bx l)=some l.length:=(rfl)
theorem rQ (n:Nat):(iv n).cells?=some [iv n]:=(rfl)
theorem dW (n:Nat):dK (iv n)=true:=(rfl)
theorem Pe (s:ByteArray):(PV.sc (.string s)).cells?=some [.sc (.string s)]:=(rfl)
theorem pK (s:ByteArray):dK (PV.sc (.string s))=true:=(rfl)
theorem qI (n:Nat):PV.sc (.int .i64 (n:Int))=iv n:=(rfl)
theorem kn (hp:Θ)(n:Nat):fk hp 1 (.imm 1 true [iv n])=some (1,[iv n],[]):=by simp[fk]
theorem Kw (hp:Θ)(n:Nat):fk hp 1 (.imm 1 true [u8v n])=some (1,[u8v n],[]):=by simp[fk]
theorem iL (n:Nat):bM [iv n]=true:=(rfl)
theorem pP (n:Nat):bM [u8v n]=true:=(rfl)
theorem acQ (n:Nat):PV.sc (.int .u8 (n:Int))=u8v n:=(rfl)
theorem FK (n:Nat):(u8v n).cells?=some [u8v n]:=(rfl)
theorem lQ (n:Nat):dK (u8v n)=true:=(rfl)
theorem afs {T:Tab}{t e:Nat}(hu:und T t=some (.slice e))(hs:de T e=some 1)(hz:eB T e=some [iv 0])(n:Nat) :
  eM T t 1 [(0,iv n)]=some (1,[iv n]):=by
 simp[eM,hu,hs,hz,rep,dq,rQ,cm]
theorem afn {T:Tab}{t e:Nat}(hu:und T t=some (.slice e))(hs:de T e=some 1)(hz:eB T e=some [u8v 0])(n:Nat) :
  eM T t 1 [(0,u8v n)]=some (1,[u8v n]):=by
 simp[eM,hu,hs,hz,rep,dq,FK,cm]
def tx (l:Ω):ByteArray:=mkStr (l.map UInt8.ofNat)
def Bok (l:Ω):Prop:=∀ x ∈ l,x<256
theorem mO (s:ByteArray):Bok (bys s):=fun x hx=>by
 simp only[bys,mem_map] at hx
 obtain⟨b,-,rfl⟩:=hx
 exact b.toNat_lt
theorem iw (s:ByteArray):tx (bys s)=s:=by
 unfold tx bys
 rw[map_map]
 have:(UInt8.ofNat ∘ UInt8.toNat)=id:=by funext b;simp
 rw[this,map_id,gE]
theorem jO {l:Ω}(h:Bok l):bys (tx l)=l:=by
 unfold tx bys
 rw[fm,map_map]
 conv=>rhs;rw[← map_id l]
 exact map_congr_left fun x hx=>by
  have:=h x hx
  simp[Nat.mod_eq_of_lt this]
theorem dT (l:Ω):(bO (tx l)).length=l.length:=by simp[tx,fm]
theorem fg {T:Tab}{t:Nat}(hu:und T t=some .string){l:Ω}(h:Bok l)(k:IntKind)(i:Nat)(hi:i<l.length) :
  ig T t (.sc (.string (tx l))) (.sc (.int k (i:Int)))=some (.sc (.int .u8 (at0 l i:Int))):=by
 have h1:EO (bO (tx l)) i=some (UInt8.ofNat l[i]):=by
  rw[tx,fm,KM]
  simp[hi]
 have h2:gl (.sc (.int k (i:Int)))=some i:=bh k i
 simp only[ig,hu,h2,h1,Option.map_some]
 have:=h _ (getElem_mem hi)
 rw[df hi]
 simp[Nat.mod_eq_of_lt this]
theorem Bok.nil:Bok []:=fun _ h=>by cases h
theorem Bok.cons {a:Nat}{l:Ω}(h:a<256)(h':Bok l):Bok (a::l):=fun x hx=>by
 rcases mem_cons.1 hx with rfl | hx
 ·exact h
 ·exact h' x hx
theorem Bok.append {l m:Ω}(h:Bok l)(h':Bok m):Bok (l++m):=fun x hx=>by
 rcases mem_append.1 hx with hx | hx
 ·exact h x hx
 ·exact h' x hx
theorem Bok.take {l:Ω}(h:Bok l)(n:Nat):Bok (l.take n):=fun x hx=>h x (mem_of_mem_take hx)
theorem Bok.drop {l:Ω}(h:Bok l)(n:Nat):Bok (l.drop n):=fun x hx=>h x (mem_of_mem_drop hx)
theorem Bok.get {l:Ω}(h:Bok l){i:Nat}(hi:i<l.length):l[i]<256:=h _ (getElem_mem hi)
theorem Bok.at {l:Ω}(h:Bok l)(i:Nat):at0 l i<256:=by
 by_cases hi:i<l.length
 ·rw[df hi];exact h.get hi
 ·rw[jh (by omega)];omega
theorem FV {l:Ω}(h:Bok l):kE (l.map u8v)=some (l.map UInt8.ofNat):=by
 induction l with
 | nil=>rfl
 | cons a l ih =>
  have ha:a<256:=h a (by simp)
  have:=ih (fun x hx=>h x (by simp[hx]))
  simp only[map_cons,u8v,kE] at this ⊢
  simp[this]
def dvs (l:Ω):Ω:=(l.map dv).reverse
theorem xX (b:Nat)(l:Ω):dvs (b::l)=dvs l++[dv b]:=by simp[dvs]
theorem mK (l:Ω):(dvs l).length=l.length:=by simp[dvs]
theorem aiG {b:Nat}(h:lZ b=true):dv b<10:=by
 rw[dN] at h;unfold dv;omega
theorem fS {l:Ω}(h:eO l=true){b:Nat}(hb:b ∈ l):lZ b=true:=by
 induction l with
 | nil=>cases hb
 | cons a l ih =>
  simp only[eO,Bool.and_eq_true] at h
  rcases mem_cons.1 hb with rfl | hb
  ·exact h.1
  ·exact ih h.2 hb
theorem IH {l:Ω}(h:eO l=true):T.Dok (dvs l):=fun x hx=>by
 simp only[dvs,mem_reverse,mem_map] at hx
 obtain⟨b,hb,rfl⟩:=hx
 exact aiG (fS h hb)
theorem uX (l:Ω):T.val (dvs l)=dec 0 l:=by
 induction l with
 | nil=>rfl
 | cons b l ih =>
  rw[xX,T.dL,mK,ih,rL,Lv (stp 0 b)]
  unfold stp
  rw[Nat.mul_zero,Nat.zero_add,Nat.mul_comm]
  omega
def dtx (n:Nat):Ω:=if n=0 then [48] else (T.aK n).reverse.map (· + 48)
def itx (m:Bool)(n:Nat):Ω:=if n=0 then [48] else (bif m then [45] else [])++(T.aK n).reverse.map (· + 48)
def ztx (z:Int):Ω:=itx (bw z) z.natAbs
theorem aiH {x:Nat}(h:x<10):lZ (x+48)=true:=by rw[dN];omega
theorem ajP {x:Nat}(h:x<10):dv (x+48)=x:=by unfold dv;omega
theorem Fz {l:Ω}(h:T.Dok l):eO (l.map (· + 48))=true:=by
 induction l with
 | nil=>rfl
 | cons a l ih=>simp only[map_cons,eO,aiH h.head,ih h.tail,Bool.and_self]
theorem yq {l:Ω}(h:T.Dok l):T.Dok l.reverse:=fun x hx=>h x (mem_reverse.1 hx)
theorem abX {l:Ω}(h:T.Dok l):dvs (l.reverse.map (· + 48))=l:=by
 unfold dvs
 rw[map_map,← map_reverse,reverse_reverse]
 conv=>rhs;rw[← map_id l]
 refine map_congr_left fun x hx => ?_
 simp[ajP (h x hx)]
theorem Wv (n:Nat):dec 0 ((T.aK n).reverse.map (· + 48))=n:=by
 rw[← uX,abX (T.bS n),T.bV]
theorem oY (n:Nat):dec 0 (dtx n)=n:=by
 unfold dtx
 by_cases h:n=0
 ·subst h;rfl
 ·rw[if_neg h,Wv]
theorem rH (n:Nat):eO (dtx n)=true:=by
 unfold dtx
 by_cases h:n=0
 ·rw[if_pos h];rfl
 ·rw[if_neg h];exact Fz (yq (T.bS n))
def yD:Ω→Option (Bool × Ω)
 | []=>none
 | a::l=>bif a.beq 45 then (bif eO l then some (true,l) else none) else (bif eO (a::l) then some (false,a::l) else none)
theorem su {s:Ω}{m:Bool}{l:Ω}(h:yD s=some (m,l)):s=(bif m then [45] else [])++l∧eO l=true∧s≠[]:=by
 unfold yD at h
 split at h
 ·cases h
 ·rename_i a l'
  cases ha:a.beq 45 with
  | true =>
   rw[ha] at h
   simp only[cond_true] at h
   cases hd:eO l' with
   | false=>rw[hd] at h;cases h
   | true =>
    rw[hd] at h
    simp only[cond_true,OiE,PiE] at h
    obtain⟨rfl,rfl⟩:=h
    have:=Nat.eq_of_beq_eq_true ha
    exact⟨by rw[this];rfl,hd,by simp⟩
  | false =>
   rw[ha] at h
   simp only[cond_false] at h
   cases hd:eO (a::l') with
   | false=>rw[hd] at h;cases h
   | true =>
    rw[hd] at h
    simp only[cond_true,OiE,PiE] at h
    obtain⟨rfl,rfl⟩:=h
    exact⟨rfl,hd,by simp⟩
theorem R0 (m:Bool)(n:Nat):yD (itx m n)=some (bif n.beq 0 then (false,[48]) else (m,(T.aK n).reverse.map (· + 48))):=by
 unfold itx
 by_cases h:n=0
 ·subst h;rfl
 ·rw[if_neg h]
  have hb:n.beq 0=false:=by
   cases n with
   | zero=>exact absurd rfl h
   | succ n=>rfl
  have hd:=Fz (yq (T.bS n))
  have hl:=T.cT.2 h
  have hne:(T.aK n).reverse.map (· + 48)≠[]:=by
   intro e
   have:=congrArg List.length e
   rw[length_map,length_reverse] at this
   simp only[length_nil] at this
   omega
  rw[hb,cond_false]
  generalize (T.aK n).reverse.map (· + 48)=l at *
  cases m with
  | true=>simp only[cond_true,cons_append,nil_append,yD,hd];rfl
  | false =>
   cases l with
   | nil=>exact absurd rfl hne
   | cons a l =>
    have ha:a.beq 45=false:=by
     cases e:a.beq 45 with
     | false=>rfl
     | true =>
      have:=Nat.eq_of_beq_eq_true e
      subst this
      simp[eO,lZ] at hd
    simp only[cond_false,nil_append,yD,ha,hd,cond_true]
theorem Vz (m:Bool)(n:Nat):Bok (itx m n):=by
 unfold itx
 by_cases h:n=0
 ·rw[if_pos h];exact Bok.nil.cons (by omega)
 ·rw[if_neg h]
  refine Bok.append ?_ ?_
  ·cases m
   ·exact Bok.nil
   ·exact Bok.nil.cons (by omega)
  ·intro x hx
   simp only[mem_map,mem_reverse] at hx
   obtain⟨d,hd,rfl⟩:=hx
   have:=T.bS n d hd
   omega
theorem jY.rd {α:Type}{e:α→PV}{b:Nat}{hp:Θ}{l:List α}{p:PV}(h:jY e b hp l p):∃ ids,fk hp 1 p=some (l.length,l.map e,ids):=by
 obtain⟨hb,h⟩:=h
 rcases h with ⟨rfl,rfl⟩| ⟨id,m,x,_,_,rfl,_,h⟩
 ·exact⟨[],rfl⟩
 ·refine⟨[id],?_⟩
  have ht:bD (bq ((l++m).map e) 0) (l.length*1)=some (l.map e):=by
   rw[Bt _ _ (by simp)];simp
  simp only[fk,h]
  rw[if_neg (by simp),ht]
def gL (m:Bool)(n:Nat):Int:=bif m then Int.negOfNat n else Int.ofNat n
theorem RX (m:Bool)(n:Nat)(h:n≠0):bw (gL m n)=m:=by
 cases m with
 | false=>rfl
 | true =>
  cases n with
  | zero=>exact absurd rfl h
  | succ n=>rfl
theorem RZ (m:Bool)(n:Nat):(gL m n).natAbs=n:=by
 cases m with
 | false=>rfl
 | true=>cases n <;> simp[gL,Int.negOfNat]
theorem ik (z:Int):gL (bw z) z.natAbs=z:=by
 cases z with
 | ofNat n=>rfl
 | negSucc n=>rfl
theorem vk (m:Bool)(n:Nat):itx m n=ztx (gL m n):=by
 unfold ztx
 rw[RZ]
 by_cases h:n=0
 ·subst h;simp[itx]
 ·rw[RX m n h]
theorem kX (z:Int):Bok (ztx z):=Vz _ _
def zs (z:Int):PV:=.sc (.string (tx (ztx z)))
def eA (z:Int):Nat:=(dtx z.natAbs).length
theorem nc (z:Int):∃ m,yD (ztx z)=some (m,dtx z.natAbs)∧(m=bw z):=by
 rw[ztx,R0]
 by_cases h:z.natAbs=0
 ·have:z=0:=by omega
  subst this
  exact⟨false,rfl,rfl⟩
 ·refine⟨bw z,?_,rfl⟩
  have hb:z.natAbs.beq 0=false:=by
   cases e:z.natAbs with
   | zero=>exact absurd e h
   | succ n=>rfl
  rw[hb,dtx,if_neg h];rfl
def fO:Nat:=3000000
def fL:PV→Option Int
 | .sc (.string s)=>match yD (bys s) with
  | some (m,ds)=>bif (bys s).length.ble fO && decide (bys s=ztx (gL m (dec 0 ds))) then some (gL m (dec 0 ds)) else none
  | none=>none
 | _=>none
theorem dk {p:PV}{z:Int}(h:fL p=some z):p=zs z∧(ztx z).length≤fO:=by
 unfold fL at h
 split at h
 ·rename_i s
  split at h
  ·rename_i m ds e
   cases hb:(bys s).length.ble fO && decide (bys s=ztx (gL m (dec 0 ds))) with
   | false=>rw[hb] at h;cases h
   | true =>
    rw[hb] at h
    simp only[cond_true,OiE] at h
    simp only[Bool.and_eq_true,Nat.ble_eq,decide_eq_true_eq] at hb
    rw[h] at hb
    refine⟨?_,by rw[← hb.2];exact hb.1⟩
    rw[zs,← hb.2,iw]
  ·cases h
 ·cases h
theorem cO (z:Int)(h:(ztx z).length≤fO):fL (zs z)=some z:=by
 obtain⟨m,h1,h2⟩:=nc z
 have h3:gL m (dec 0 (dtx z.natAbs))=z:=by rw[oY,h2,ik]
 have h4:(ztx z).length.ble fO=true:=by rw[Nat.ble_eq];exact h
 simp[fL,zs,jO (kX z),h1,h3,h4]
theorem vA (z:Int):ztx z=(bif bw z then [45] else [])++dtx z.natAbs:=by
 by_cases h:z.natAbs=0
 ·have:z=0:=by omega
  subst this;rfl
 ·rw[ztx,itx,if_neg h,dtx,if_neg h]
theorem gu (z:Int):(ztx z).length=(bif bw z then 1 else 0)+eA z:=by
 rw[vA]
 cases bw z <;> simp[eA];omega
theorem vB (z:Int):0<eA z:=by
 unfold eA dtx
 by_cases h:z.natAbs=0
 ·rw[if_pos h];simp
 ·rw[if_neg h]
  have:=T.cT.2 h
  simpa using this
theorem tg {n k:Nat}(hk:0<k):(dtx n).length≤k ↔ n<10 ^ k:=by
 unfold dtx
 by_cases h:n=0
 ·subst h
  simp
  constructor
  ·intro _;exact Nat.pow_pos (by omega)
  ·intro _;exact hk
 ·rw[if_neg h,length_map,length_reverse]
  constructor
  ·intro h1
   exact Nat.lt_of_lt_of_le (T.fD n) (Nat.pow_le_pow_right (by omega) h1)
  ·intro h1
   exact T.di h1
theorem CQ (x:Int):eA (-x)=eA x:=by unfold eA;rw[Int.natAbs_neg]
theorem oA {x y:Int}(h:x.natAbs≤y.natAbs):eA x≤eA y:=by
 have h2:y.natAbs<10 ^ eA y:=(tg (vB y)).1 (Nat.le_refl _)
 exact (tg (vB y)).2 (by omega)
theorem AP (n:Nat):(T.aK n).length≤(dtx n).length:=by
 unfold dtx
 by_cases h:n=0
 ·subst h;simp[T.ft]
 ·rw[if_neg h];simp
end Go.Ab
namespace Go.Ab
open List
theorem lY {x y q r:Int}(hy:0<y)(h:x=y*q+r)(h0:0≤r)(h1:r<y):x / y=q∧x % y=r :=
 (Int.ediv_emod_unique hy).2 ⟨by rw[h];exact Int.add_comm _ _,h0,h1⟩
theorem afL {x y:Int}(hy:0<y)(hx:x<0)(h:x.natAbs % y.natAbs≠0):x / y = -((x.natAbs / y.natAbs:Nat):Int) - 1∧x % y = -((x.natAbs % y.natAbs:Nat):Int)+y:=by
 have h1:=Nat.div_add_mod x.natAbs y.natAbs
 have h2:=Nat.mod_lt x.natAbs (show 0<y.natAbs by omega)
 generalize hq:x.natAbs / y.natAbs=q at *
 generalize hr:x.natAbs % y.natAbs=r at *
 have h3:(x.natAbs:Int)=(y.natAbs:Int)*(q:Int)+(r:Int):=by rw[← h1];simp
 have hy':(y.natAbs:Int)=y:=by omega
 rw[hy'] at h3
 refine lY hy ?_ (by omega) (by omega)
 rw[Int.mul_sub,Int.mul_neg,Int.mul_one]
 omega
theorem abH {x y:Int}(hy:0<y)(hx:x<0)(h:x.natAbs % y.natAbs=0):x / y = -((x.natAbs / y.natAbs:Nat):Int)∧x % y=0:=by
 have h1:=Nat.div_add_mod x.natAbs y.natAbs
 rw[h] at h1
 generalize hq:x.natAbs / y.natAbs=q at *
 have h3:(x.natAbs:Int)=(y.natAbs:Int)*(q:Int):=by rw[← h1];simp
 have hy':(y.natAbs:Int)=y:=by omega
 rw[hy'] at h3
 refine lY hy ?_ (by omega) (by omega)
 rw[Int.mul_neg]
 omega
theorem afK {x y:Int}(hy:0<y)(hx:0≤x):x / y=((x.natAbs / y.natAbs:Nat):Int)∧x % y=((x.natAbs % y.natAbs:Nat):Int):=by
 have h1:=Nat.div_add_mod x.natAbs y.natAbs
 have h2:=Nat.mod_lt x.natAbs (show 0<y.natAbs by omega)
 generalize hq:x.natAbs / y.natAbs=q at *
 generalize hr:x.natAbs % y.natAbs=r at *
 have h3:(x.natAbs:Int)=(y.natAbs:Int)*(q:Int)+(r:Int):=by rw[← h1];simp
 have hy':(y.natAbs:Int)=y:=by omega
 rw[hy'] at h3
 exact lY hy (by omega) (by omega) (by omega)
def fK:Ω→Option Nat
 | []=>none
 | a::l=>bif a.beq 47 then some 0 else (fK l).map (· + 1)
def qtx (n d:Int):Ω:=if d=1 then ztx n else ztx n++47::ztx d
theorem Ix {l:Ω}(h:∀ x ∈ l,x≠47):fK l=none:=by
 induction l with
 | nil=>rfl
 | cons a l ih =>
  have ha:a.beq 47=false:=by
   cases e:a.beq 47 with
   | false=>rfl
   | true=>exact absurd (Nat.eq_of_beq_eq_true e) (h a (by simp))
  rw[fK,ha,cond_false,ih fun x hx=>h x (by simp[hx])]
  rfl
theorem OT {l:Ω}(h:∀ x ∈ l,x≠47)(m:Ω):fK (l++47::m)=some l.length:=by
 induction l with
 | nil=>rfl
 | cons a l ih =>
  have ha:a.beq 47=false:=by
   cases e:a.beq 47 with
   | false=>rfl
   | true=>exact absurd (Nat.eq_of_beq_eq_true e) (h a (by simp))
  rw[cons_append,fK,ha,cond_false,ih fun x hx=>h x (by simp[hx])]
  rfl
theorem P3 (z:Int):∀ x ∈ ztx z,x≠47:=by
 intro x hx
 rw[vA,mem_append] at hx
 rcases hx with hx | hx
 ·cases h:bw z <;> rw[h] at hx <;> simp at hx
  omega
 ·have:=dN.1 (fS (rH _) hx)
  omega
theorem X3:ztx 1=[49]:=by decide
theorem HP (n d:Int):Bok (qtx n d):=by
 unfold qtx
 split
 ·exact kX n
 ·exact (kX n).append ((kX d).cons (by omega))
theorem OS (n d:Int):fK (qtx n d)=if d=1 then none else some (ztx n).length:=by
 unfold qtx
 split
 ·exact Ix (P3 n)
 ·exact OT (P3 n) _
noncomputable def ctr {α:Type}(e:α→Ψ)(ok:α→Prop)(f:α→Ψ)(a:Ψ):Option Ψ :=
 @dite _ (∃ x,ok x∧e x=a) (Classical.propDecidable _) (fun h=>some (f h.choose)) (fun _=>none)
theorem cV {α:Type}{e:α→Ψ}{ok:α→Prop}{f:α→Ψ}{a r:Ψ}(h:ctr e ok f a=some r):∃ x,ok x∧e x=a∧f x=r:=by
 unfold ctr at h
 split at h
 ·rename_i hx
  exact⟨hx.choose,hx.choose_spec.1,hx.choose_spec.2,by simpa using h⟩
 ·cases h
theorem jf {α:Type}{e:α→Ψ}{ok:α→Prop}{f:α→Ψ}(inj:∀ x y,ok x→ok y→e x=e y→f x=f y){x:α}(hx:ok x):ctr e ok f (e x)=some (f x):=by
 have h:∃ y,ok y∧e y=e x:=⟨x,hx,rfl⟩
 unfold ctr
 rw[dif_pos h,inj _ x h.choose_spec.1 hx h.choose_spec.2]
structure El {α:Type} (s:Nat) (e:α→Ψ):Prop where
 len:∀ a,(e a).length=s
 okc:∀ a,bd (e a)=true
 idf:∀ a,bM (e a)=true
 sn:∀ hp d a,bj (snap hp (d+1)) (e a)=some (e a,[])
structure Ec {α:Type} (s:Nat) (e:α→Ψ):Prop extends El s e where
 can:∀ a,aJ (e a)=e a
theorem Sc1.ec {α:Type}{e:α→PV}(h:Sc1 e):Ec 1 fun a=>[e a] where
 len:=fun _=>rfl
 okc:=fun a=>by simp only[bd,h.okc,Bool.and_self]
 can:=fun a=>by simp only[Ab.aJ,h.canon]
 idf:=fun a=>by simp only[bM,h.idf,Bool.and_self]
 sn:=fun hp d a=>by
  have:=h.Dj hp d [a]
  simpa using this
theorem nK:∀ (a b:Ψ),bd (a++b)=(bd a && bd b)
 | [],b=>rfl
 | x::a,b=>by simp only[cons_append,bd,nK a b,Bool.and_assoc]
theorem nT:∀ (a b:Ψ),bM (a++b)=(bM a && bM b)
 | [],b=>by simp[bM]
 | x::a,b=>by simp only[cons_append,bM,nT a b,Bool.and_assoc]
theorem jq:∀ (a b:Ψ),aJ (a++b)=aJ a++aJ b
 | [],b=>by simp[aJ]
 | x::a,b=>by simp only[cons_append,aJ,jq a b]
theorem gY {f:PV→Option (PV × Ω)} : ∀ {a b a' b':Ψ} {i j:Ω},bj f a=some (a',i)→bj f b=some (b',j)→bj f (a++b)=some (a'++b',i++j)
 | [],b,a',b',i,j,h1,h2=>by
  simp only[bj,OiE,PiE] at h1
  obtain⟨rfl,rfl⟩:=h1
  simpa using h2
 | x::a,b,a',b',i,j,h1,h2=>by
  simp only[bj] at h1
  cases hx:f x with
  | none=>rw[hx] at h1;cases h1
  | some y =>
   rw[hx] at h1
   simp only at h1
   cases ha:bj f a with
   | none=>rw[ha] at h1;cases h1
   | some z =>
    rw[ha] at h1
    simp only[OiE,PiE] at h1
    obtain⟨rfl,rfl⟩:=h1
    simp only[cons_append,bj,hx,gY ha h2,append_assoc]
def dj {α:Type}(e:α→Ψ)(l:List α):PV:=.imm l.length false (l.flatMap e)
section
variable {α:Type} {s:Nat} {e:α→Ψ}
theorem El.length (h:El s e)(l:List α):(l.flatMap e).length=l.length*s:=by
 induction l with
 | nil=>simp
 | cons a l ih=>rw[flatMap_cons,length_append,h.len,ih,length_cons,Nat.succ_mul];omega
theorem El.N4 (h:El s e):∀ l:List α,bd (l.flatMap e)=true
 | []=>rfl
 | a::l=>by rw[flatMap_cons,nK,h.okc,h.N4 l];rfl
theorem Ec.agn (h:Ec s e):∀ l:List α,aJ (l.flatMap e)=l.flatMap e
 | []=>rfl
 | a::l=>by rw[flatMap_cons,jq,h.can,h.agn l]
theorem El.abm (h:El s e):∀ l:List α,bM (l.flatMap e)=true
 | []=>rfl
 | a::l=>by rw[flatMap_cons,nT,h.idf,h.abm l];rfl
theorem El.sns (h:El s e)(hp:Θ)(d:Nat):∀ l:List α,bj (snap hp (d+1)) (l.flatMap e)=some (l.flatMap e,[])
 | []=>rfl
 | a::l=>gY (h.sn hp d a) (h.sns hp d l)
theorem Ec.ago (h:Ec s e)(n:Nat)(x:Bool)(l:List α)(hl:l.length=n):canon (.imm n x (l.flatMap e))=dj e l:=by
 rw[canon,h.agn,dj,hl]
theorem Ec.IX (h:Ec s e)(l:List α):canon (dj e l)=dj e l:=h.ago _ _ l rfl
theorem Ec.list (h:Ec s e):Ec 1 fun l:List α=>[dj e l] where
 len:=fun _=>rfl
 okc:=fun _=>rfl
 can:=fun l=>by simp only[aJ,h.IX]
 idf:=fun l=>by simp only[dj,bM,PV.cF,Bool.and_self]
 sn:=fun _ _ _=>rfl
theorem II (h:El s e):∀ (l:List α) (i:Nat),i≤l.length→bq (l.flatMap e) (i*s)=(l.drop i).flatMap e
 | l,0,_=>by rw[Nat.zero_mul,cA,drop_zero,drop_zero]
 | [],i+1,hi=>by simp at hi
 | a::l,i+1,hi=>by
  rw[cA,flatMap_cons]
  have:(i+1)*s=(e a).length+i*s:=by rw[h.len,Nat.succ_mul];omega
  rw[this,← drop_drop,drop_left,← cA,II h l i (by simpa using hi),drop_succ_cons]
theorem jT (h:El s e)(l:List α)(i:Nat)(hi:i<l.length):bq (l.flatMap e) (i*s)=e l[i]++(l.drop (i+1)).flatMap e:=by
 rw[II h l i (by omega),drop_eq_getElem_cons hi,flatMap_cons]
theorem m7 (h:El s e)(l m:List α):bD ((l++m).flatMap e) (l.length*s)=some (l.flatMap e):=by
 rw[dc (by rw[h.length,length_append,Nat.add_mul];omega),flatMap_append,← h.length l,take_left]
theorem xo:∀ (a b c:Ψ),a.length=b.length→cm (a++c) 0 b=some (b++c)
 | [],[],c,_=>by cases c <;> rfl
 | x::a,y::b,c,h=>by simp only[cons_append,cm,xo a b c (by simpa using h)]
 | [],_::_,_,h=>by simp at h
 | _::_,[],_,h=>by simp at h
theorem Al:∀ (a c v r:Ψ) (n:Nat),cm c n v=some r→cm (a++c) (a.length+n) v=some (a++r)
 | [],c,v,r,n,h=>by simpa using h
 | x::a,c,v,r,n,h=>by
  have:(x::a).length+n=(a.length+n)+1:=by simp;omega
  rw[this,cons_append,cm,Al a c v r n h,cons_append]
def eP (s:Nat)(e:α→Ψ)(b:Nat)(hp:Θ)(l:List α)(p:PV):Prop :=
 b≤hp.length∧((l=[]∧p = .sc (.slice none 0 0))∨∃ id m x,b≤id∧id<hp.length∧p = .own id s 0 l.length x∧(x=true→m=[])∧aP hp id=some ⟨.live,(l++m).flatMap e⟩)
theorem eP.nil {b:Nat}{hp:Θ}(h:b≤hp.length):eP s e b hp [] (.sc (.slice none 0 0)):=⟨h,.inl ⟨rfl,rfl⟩⟩
theorem eP.len {b:Nat}{hp:Θ}{l:List α}{p:PV}(h:eP s e b hp l p):dy p=some l.length:=by
 rcases h.2 with ⟨rfl,rfl⟩| ⟨id,m,x,_,_,rfl,_,h⟩ <;> rfl
theorem eP.cells {b:Nat}{hp:Θ}{l:List α}{p:PV}(h:eP s e b hp l p):p.cells?=some [p]:=by
 rcases h.2 with ⟨rfl,rfl⟩| ⟨id,m,x,_,_,rfl,_,h⟩ <;> rfl
theorem eP.okc {b:Nat}{hp:Θ}{l:List α}{p:PV}(h:eP s e b hp l p):dK p=true:=by
 rcases h.2 with ⟨rfl,rfl⟩| ⟨id,m,x,_,_,rfl,_,h⟩ <;> rfl
theorem eP.app (he:El s e){b:Nat}{hp:Θ}{l:List α}{p:PV}(h:eP s e b hp l p)(ns:List α)(h0:ns≠[])(hl:l.length+ns.length<1000000000) :
  ∃ p' hp' fp,cw hp s p ns.length (ns.flatMap e)=some (p',hp',fp)∧eP s e b hp' (l++ns) p'∧(∀ i,i<b→aP hp' i=aP hp i)∧hp.length≤hp'.length:=by
 obtain⟨hb,h⟩:=h
 have hn:ns.length≠0:=by simpa using h0
 have hml : ¬ (cN<ns.length):=by unfold cN;omega
 have hml2:l.length+ns.length≤cN:=by unfold cN;omega
 rcases h with ⟨rfl,rfl⟩| ⟨id,m,x,hid,hid2,rfl,hx,h⟩
 ·refine⟨.own hp.length s 0 ns.length false,aL hp (ns.flatMap e),⟨[],[hp.length],true,false⟩,?_,⟨by simp[aL];omega,.inr ⟨hp.length,[],false,hb,by simp[aL],by simp,nofun,?_⟩⟩,fun i hi => ?_,by simp[aL]⟩
  ·simp only[cw]
   rw[if_neg hn,if_pos (by omega)]
  ·rw[bz,if_pos rfl];simp
  ·rw[bz,if_neg (by omega)]
 ·have ht:bD (bq ((l++m).flatMap e) 0) (l.length*s)=some (l.flatMap e):=by
   rw[cA,drop_zero,m7 (s:=s) he]
  cases x with
  | true =>
   refine⟨.own hp.length s 0 (l.length+ns.length) false,aL hp (l.flatMap e++ns.flatMap e),⟨[id],[hp.length],true,false⟩,?_,⟨by simp[aL];omega,.inr ⟨hp.length,[],false,hb,by simp[aL],by simp,nofun,?_⟩⟩,fun i hi => ?_,by simp[aL]⟩
   ·simp only[cw,h,ht]
    rw[if_neg (by simp),if_neg hn,if_neg (by simp),if_pos hml2]
   ·rw[bz,if_pos rfl];simp
   ·rw[bz,if_neg (by omega)]
  | false =>
   refine⟨.own hp.length s 0 (l.length+ns.length) false,aL (bZ hp id ⟨.dead,[]⟩) (l.flatMap e++ns.flatMap e),⟨[],[id,hp.length],true,false⟩,?_,⟨by simp[aL,bC];omega,.inr ⟨hp.length,[],false,hb,by simp[aL,bC],by simp,nofun,?_⟩⟩,fun i hi => ?_,by simp[aL,bC]⟩
   ·simp only[cw,h,ht]
    rw[if_neg (by simp),if_pos hml2]
   ·rw[bz,bC,if_pos rfl];simp
   ·rw[bz,bC,if_neg (by omega),cI h,if_neg (by omega)]
theorem eP.snap (he:Ec s e){b:Nat}{hp:Θ}{l:List α}{p:PV}(h:eP s e b hp l p):∃ q ids,(∀ d,Ab.snap hp (d+2) p=some (q,ids))∧Wk q (dj e l)∧Ab.canon q=dj e l∧(∀ i,i<b→aP (roB hp ids) i=aP hp i)∧∀ i ∈ ids,b≤i:=by
 obtain⟨hb,h⟩:=h
 rcases h with ⟨rfl,rfl⟩| ⟨id,m,x,hid,_,rfl,_,h⟩
 ·exact⟨.sc (.slice none 0 0),[],fun _=>rfl,Wk.nil false,rfl,fun _ _=>rfl,by simp⟩
 ·have ht:bD (bq ((l++m).flatMap e) 0) (l.length*s)=some (l.flatMap e):=by
   rw[cA,drop_zero,m7 he.toEl]
  refine⟨.imm l.length x (l.flatMap e),[id],fun d => ?_,?_,he.ago _ x l rfl,fun i hi=>BH hp id i (by omega),by simpa using hid⟩
  ·rw[Ab.snap]
   simp only[h]
   rw[if_neg (by simp),ht]
   simp only[he.sns hp d l]
  ·cases x
   ·exact Wk.refl (by simp[PV.cF])
   ·exact Wk.imm _ _ _
theorem eP.HY (he:Ec s e){b:Nat}{hp:Θ}{l:List α}{p:PV}(h:eP s e b hp l p) :
  ∃ rs ids,bj (Ab.snap hp bp) [p]=some (rs,ids)∧WkL rs [dj e l]:=by
 obtain⟨q,ids,h1,h2,-⟩:=h.snap he
 refine⟨[q],ids++[],?_,h2,trivial⟩
 simp only[bp,bj,h1 10]
theorem eP.rd (he:El s e){b:Nat}{hp:Θ}{l:List α}{p:PV}(h:eP s e b hp l p):∃ ids,fk hp s p=some (l.length,l.flatMap e,ids):=by
 obtain⟨hb,h⟩:=h
 rcases h with ⟨rfl,rfl⟩| ⟨id,m,x,hid,_,rfl,_,h⟩
 ·exact⟨[],rfl⟩
 ·have ht:bD (bq ((l++m).flatMap e) 0) (l.length*s)=some (l.flatMap e):=by
   rw[cA,drop_zero,m7 (s:=s) he]
  refine⟨[id],?_⟩
  simp only[fk,h]
  rw[if_neg (by simp),ht]
end
theorem O1 {x:Nat}(h:lZ x=true):dv x+48=x:=by rw[dN] at h;unfold dv;omega
theorem VZ {ds:Ω}(h:eO ds=true):(dvs ds).reverse.map (· + 48)=ds:=by
 rw[dvs,reverse_reverse,map_map]
 conv=>rhs;rw[← map_id ds]
 refine map_congr_left fun x hx => ?_
 exact O1 (fS h hx)
theorem abW {ds:Ω}(hd:eO ds=true)(h2:∀ a l,ds=a::l→a≠48):T.Top (dvs ds):=by
 intro m a e
 cases ds with
 | nil=>simp[dvs] at e
 | cons b l =>
  rw[xX] at e
  have:=(append_inj' e rfl).2
  simp only[List.cons.injEq,and_true] at this
  subst this
  have h3:=dN.1 (fS hd (mem_cons_self))
  have h4:=h2 b l rfl
  unfold dv
  omega
theorem Lz {m:Bool}{ds:Ω}(hd:eO ds=true)(h0:ds≠[])(h1:m=true→ds≠[48])(h2:∀ a b l,ds=a::b::l→a≠48):(bif m then [45] else [])++ds=ztx (gL m (dec 0 ds)):=by
 rw[← vk]
 by_cases h:ds=[48]
 ·subst h
  cases m with
  | true=>exact absurd rfl (h1 rfl)
  | false=>rfl
 ·have hh:∀ a l,ds=a::l→a≠48:=by
   intro a l e
   cases l with
   | nil=>rw[e] at h;intro ea;exact h (by rw[ea])
   | cons b l=>exact h2 a b l e
  have ht:=abW hd hh
  have hne:dvs ds≠[]:=by
   intro e
   have:=congrArg List.length e
   rw[mK] at this
   exact h0 (length_eq_zero_iff.1 this)
  have hv:=ht.qo hne
  rw[uX] at hv
  unfold itx
  rw[if_neg hv,← uX,T.ku (IH hd) ht,VZ hd]
theorem V3 (n:Nat):dtx n≠[]:=by
 intro e
 have:=congrArg List.length e
 unfold dtx at this
 split at this
 ·simp at this
 ·rename_i h
  have h2:=T.cT.2 h
  rw[length_map,length_reverse,length_nil] at this
  omega
theorem V4 {n:Nat}{a:Nat}{l:Ω}(h:dtx n=a::l)(hn:n≠0):a≠48:=by
 unfold dtx at h
 rw[if_neg hn] at h
 have ht:=T.jD n
 have e:T.aK n=l.reverse.map (· - 48)++[a - 48]:=by
  have h3:=congrArg (fun x=>(x.map (· - 48)).reverse) h
  simp only[map_map,reverse_cons,map_cons] at h3
  have h4:((fun x=>x - 48) ∘ fun x=>x+48)=(id:Nat→Nat):=by funext x;simp
  rw[h4,map_id,reverse_reverse] at h3
  rw[h3,map_reverse]
 have h5:=ht _ _ e
 omega
theorem V1 {n:Nat}(h:dtx n=[48]):n=0:=by
 by_cases hn:n=0
 ·exact hn
 ·exact absurd rfl (V4 h hn)
theorem rD {n a b:Nat}{l:Ω}(h:dtx n=a::b::l):a≠48:=by
 by_cases hn:n=0
 ·subst hn;simp[dtx] at h
 ·exact V4 h hn
theorem abY {n m:Nat}(h:dtx n=dtx m):n=m:=by rw[← oY n,← oY m,h]
theorem qi {x y:Int}(h:ztx x=ztx y):x=y:=by
 obtain⟨m,h1,rfl⟩:=nc x
 obtain⟨k,h2,rfl⟩:=nc y
 rw[h,h2] at h1
 simp only[OiE,PiE] at h1
 have h3:=abY h1.2
 rw[← ik x,← ik y,h1.1,h3]
theorem KP {z:Int}(h:bw z=true):dtx z.natAbs≠[48]:=by
 intro e
 have:=V1 e
 rw[cK] at h
 simp at h
 omega
theorem Ig {l m:Ω}(hl:Bok l)(hm:Bok m)(h:tx l=tx m):l=m:=by
 rw[← jO hl,← jO hm,h]
def pC:List Oper→Nat→Bool
 | [],_=>false
 | o::r,t=>(match o.dst with
  | some d=>d.beq t
  | none=>false) || pC r t
def ct:Code→Nat→Bool
 | .region _ ops _,t=>pC ops.toList t
 | .seq a b,t=>ct a t || ct b t
 | .cond _ a b,t=>ct a t || ct b t
 | .block _ b,t=>ct b t
 | .loop b,t=>ct b t
 | .scope b,t=>ct b t
 | _,_=>false
def dJ (w:Nat→Bool)(f g:Ψ):Prop:=g.length=f.length∧∀ t,w t=false→nth g t=nth f t
theorem dJ.refl (w:Nat→Bool)(f:Ψ):dJ w f f:=⟨rfl,fun _ _=>rfl⟩
theorem dJ.trans {w:Nat→Bool}{f g h:Ψ}(a:dJ w f g)(b:dJ w g h):dJ w f h :=
 ⟨b.1.trans a.1,fun t ht=>(b.2 t ht).trans (a.2 t ht)⟩
theorem dJ.mono {w v:Nat→Bool}{f g:Ψ}(a:dJ w f g)(h:∀ t,v t=false→w t=false):dJ v f g :=
 ⟨a.1,fun t ht=>a.2 t (h t ht)⟩
theorem dJ.len {w:Nat→Bool}{f g:Ψ}{n:Nat}(a:dJ w f g)(h:f.length=n):g.length=n:=a.1.trans h
theorem dJ.at {w:Nat→Bool}{f g:Ψ}{t:Nat}{v:PV}(a:dJ w f g)(h:nth f t=v)(hw:w t=false:=by kernel_rfl):nth g t=v:=(a.2 t hw).trans h
theorem xJ {C:Cfg}{run:aw}{dr:Bool}{ops:Array Oper} : ∀ (l:List Oper) {st st':St} {fps:List FP},ao C run dr ops l st=some (st',fps)→dJ (pC l) st.fr st'.fr
 | [],st,st',fps,h=>by
  simp only[ao,OiE,PiE] at h
  rw[← h.1];exact dJ.refl _ _
 | o::r,st,st',fps,h=>by
  unfold ao at h
  cases h1:aq C run dr ops o st with
  | none=>rw[h1] at h;cases h
  | some x =>
   obtain⟨st1,fp⟩:=x
   rw[h1] at h
   dsimp only at h
   cases h2:ao C run dr ops r st1 with
   | none=>rw[h2] at h;cases h
   | some y =>
    obtain⟨st2,fs⟩:=y
    rw[h2] at h
    simp only[OiE,PiE] at h
    rw[← h.1]
    have ih:=xJ r h2
    unfold aq at h1
    split at h1
    ·simp only[OiE,PiE] at h1
     rw[← h1.1] at ih
     refine⟨?_,fun t ht => ?_⟩
     ·rw[ih.1]
      dsimp only[aF]
      split
      ·rw[jQ];simp
      ·rfl
     ·simp only[pC,Bool.or_eq_false_iff] at ht
      rw[ih.2 t ht.2]
      dsimp only[aF]
      cases hd:o.dst with
      | none=>rfl
      | some d =>
       rw[hd] at ht
       dsimp only at ht ⊢
       exact kq (fun e=>by rw[e] at ht;simp at ht)
    ·cases h1
theorem M4 {C:Cfg}{run:aw}{ops:Array Oper}{dr:Bool}{st st':St}(h:aH C run ops dr st=some st'):dJ (pC ops.toList) st.fr st'.fr:=by
 unfold aH at h
 cases h1:ao C run dr ops ops.toList st with
 | none=>rw[h1] at h;cases h
 | some x =>
  obtain⟨st1,fps⟩:=x
  rw[h1] at h
  dsimp only at h
  have hk:=xJ _ h1
  have:st1=st':=by
   cases dr with
   | false=>simpa using h
   | true =>
    simp only[cond_true] at h
    split at h
    ·simpa using h
    ·simpa using h
    ·cases hp:cD (Region.before ops) (number 0 fps) <;> rw[hp] at h
     ·cases h
     ·simpa using h
  rw[← this];exact hk
theorem Az {w:Nat→Bool}{f:St→Option (Ex × St)}(hf:∀ {st e st'},f st=some (e,st')→dJ w st.fr st'.fr):∀ (n:Nat) {st st':St} {e:Ex},ch f n st=some (e,st')→dJ w st.fr st'.fr
 | 0,_,_,_,h=>by cases h
 | n+1,st,st',e,h=>by
  unfold ch at h
  split at h
  ·rename_i st1 h1
   exact (hf h1).trans (Az hf n h)
  ·exact hf h
theorem bG {C:Cfg}{run:aw}{n:Nat} : ∀ (c:Code) {st st':St} {e:Ex},af C run n c st=some (e,st')→dJ (ct c) st.fr st'.fr
 | .skip,st,st',e,h=>by
  simp only[af,OiE,PiE] at h;rw[← h.2];exact dJ.refl _ _
 | .label _,st,st',e,h=>by
  simp only[af,OiE,PiE] at h;rw[← h.2];exact dJ.refl _ _
 | .region _ ops dr,st,st',e,h=>by
  unfold af at h
  split at h
  ·rename_i st1 h1
   simp only[OiE,PiE] at h
   rw[← h.2];exact M4 h1
  ·cases h
 | .seq a b,st,st',e,h=>by
  unfold af at h
  split at h
  ·rename_i st1 h1
   exact ((bG a h1).mono fun t ht=>by simp only[ct,Bool.or_eq_false_iff] at ht;exact ht.1).trans ((bG b h).mono fun t ht=>by simp only[ct,Bool.or_eq_false_iff] at ht;exact ht.2)
  ·exact (bG a h).mono fun t ht=>by simp only[ct,Bool.or_eq_false_iff] at ht;exact ht.1
 | .cond c a b,st,st',e,h=>by
  unfold af at h
  split at h
  ·exact (bG a h).mono fun t ht=>by simp only[ct,Bool.or_eq_false_iff] at ht;exact ht.1
  ·exact (bG b h).mono fun t ht=>by simp only[ct,Bool.or_eq_false_iff] at ht;exact ht.2
  ·cases h
 | .block id b,st,st',e,h=>by
  unfold af at h
  split at h
  ·rename_i i st1 h1
   have:=bG b h1
   split at h <;> simp only[OiE,PiE] at h <;> rw[← h.2] <;> exact this
  ·exact bG b h
 | .loop b,st,st',e,h=>by
  unfold af at h
  exact Az (fun h=>bG b h) n h
 | .scope b,st,st',e,h=>by
  unfold af at h
  exact bG b h
 | .exit id,st,st',e,h=>by
  simp only[af,OiE,PiE] at h;rw[← h.2];exact dJ.refl _ _
 | .ret,st,st',e,h=>by
  simp only[af,OiE,PiE] at h;rw[← h.2];exact dJ.refl _ _
 | .rangeFunc ..,st,st',e,h=>by simp[af] at h
theorem Fs {f:St→Option (Ex × St)}{e n:Nat}{Inv:Nat→St→Prop}{Q:St→Prop}(go:∀ i st,i<n→Inv i st→∃ st',f st=some (.normal,st')∧Inv (i+1) st')(stop:∀ st,Inv n st→∃ st',f st=some (.exit e,st')∧Q st'):∀ (d i:Nat) {st:St},i+d=n→Inv i st→∃ st',ch f (d+1) st=some (.exit e,st')∧Q st'
 | 0,i,st,hi,h=>by
  obtain⟨st',h1,h2⟩:=stop st (by rw[show n=i by omega];exact h)
  exact⟨st',bE h1,h2⟩
 | d+1,i,st,hi,h=>by
  obtain⟨st1,h1,h2⟩:=go i st (by omega) h
  obtain⟨st',h3,h4⟩:=Fs go stop d (i+1) (by omega) h2
  exact⟨st',by rw[ca h1];exact h3,h4⟩
theorem xT {C:Cfg}{run:aw}{k e n:Nat}{b:Code}{Inv:Nat→St→Prop}{Q:St→Prop}(hk:n<k)(go:∀ i st,i<n→Inv i st→∃ st',af C run k b st=some (.normal,st')∧Inv (i+1) st')(stop:∀ st,Inv n st→∃ st',af C run k b st=some (.exit e,st')∧Q st'){st:St}(h:Inv 0 st):∃ st',af C run k (.block e (.loop b)) st=some (.normal,st')∧Q st':=by
 obtain⟨st',h1,h2⟩:=Fs go stop n 0 (by omega) h
 exact⟨st',bK (bT h1 (by omega)),h2⟩
structure Lp where
 (r1 r3 e e2 i x a b c d u v:Nat)
 (t q1 q2 q3 q4 q5 q6 q7 qa qb qc qd:TypeId)
 (s1 s2 s3 s4 s5 s6 s7:String)
 (g1 g2 g3 g4 g5 g6 g7:Array Edge)
 deriving Inhabited
def ajG:Code→Lp
 | .seq (.seq (.region r1 o1 _) (.cond _ _ (.exit e))) (.seq (.block e2 _) (.region r3 o3 _)) =>
  match o1.toList,o3.toList with
  | [⟨some a,.move (.tmp i),q1,s1,g1,_⟩,⟨some b,.move (.tmp x),q2,s2,g2,_⟩,⟨some c,.call ⟨_,_,ts⟩,q3,s3,g3,_⟩,⟨some d,.binOp _ qa _ _ qb,q4,s4,g4,_⟩],[⟨some u,_,q5,s5,g5,_⟩,⟨some v,.binOp _ qc _ _ qd,q6,s6,g6,_⟩,⟨_,_,q7,s7,g7,_⟩] =>
   ⟨r1,r3,e,e2,i,x,a,b,c,d,u,v,ts.getD 0 0,q1,q2,q3,q4,q5,q6,q7,qa,qb,qc,qd,s1,s2,s3,s4,s5,s6,s7,g1,g2,g3,g4,g5,g6,g7⟩
  | _,_=>default
 | _=>default
def yl:Code→Code
 | .seq _ (.seq (.block _ b) _)=>b
 | c=>c
def Lp.code (l:Lp)(body:Code):Code :=
 .seq (.seq (.region l.r1 #[
  { dst:=some l.a,op:=.move (.tmp l.i),type:=l.q1,pos:=l.s1,after:=l.g1,guard:=none },
  { dst:=some l.b,op:=.move (.tmp l.x),type:=l.q2,pos:=l.s2,after:=l.g2,guard:=none },
  { dst:=some l.c,op:=.call { callee:=.builtin .len,args:=#[.tmp l.b],argTypes:=#[l.t] },type:=l.q3,pos:=l.s3,after:=l.g3,guard:=none },
  { dst:=some l.d,op:=.binOp .lss l.qa (.tmp l.a) (.tmp l.c) l.qb,type:=l.q4,pos:=l.s4,after:=l.g4,guard:=none }] false)
  (.cond (.tmp l.d) .skip (.exit l.e)))
 (.seq (.block l.e2 body) (.region l.r3 #[
  { dst:=some l.u,op:=.move (.tmp l.i),type:=l.q5,pos:=l.s5,after:=l.g5,guard:=none },
  { dst:=some l.v,op:=.binOp .add l.qc (.tmp l.u) (.const (.int .i64 1)) l.qd,type:=l.q6,pos:=l.s6,after:=l.g6,guard:=none },
  { dst:=some l.i,op:=.assign (.tmp l.v),type:=l.q7,pos:=l.s7,after:=l.g7,guard:=none }] false))
def Lp.ok (l:Lp)(m:Nat):Bool :=
 decide (l.i<m∧l.x<m∧l.a<m∧l.b<m∧l.c<m∧l.d<m∧l.u<m∧l.v<m∧l.a≠l.b∧l.a≠l.c∧l.x≠l.i∧l.x≠l.a∧l.x≠l.b∧l.x≠l.c∧l.x≠l.d∧l.x≠l.u∧l.x≠l.v∧l.i≠l.a∧l.i≠l.b∧l.i≠l.c∧l.i≠l.d)
def Lp.own (l:Lp)(t:Nat):Bool:=t.beq l.i || t.beq l.a || t.beq l.b || t.beq l.c || t.beq l.d || t.beq l.u || t.beq l.v
theorem mA (fr:Ψ)(d t:Nat)(v:PV)(hd:d<fr.length):nth (eY fr d v) t=if t=d then v else nth fr t:=by
 by_cases h:t=d
 ·subst h;rw[if_pos rfl,sQ,jQ];simp[hd]
 ·rw[if_neg h];exact kq h
theorem jS (fr:Ψ)(d:Nat)(v:PV):(eY fr d v).length=fr.length:=by rw[jQ];simp
section
variable {C:Cfg} {run:aw} {k m:Nat} {l:Lp} {body:Code}
theorem Lp.test (hok:l.ok m=true)(hu:∃ el,und C.T l.t=some (.slice el)){fr:Ψ}{hp:Θ}{wr:Ω}{j n:Nat}{p:PV}(h0:fr.length=m)(hi:nth fr l.i = .sc (.int .i64 (j:Int)))(hx:nth fr l.x=p)(hp':dy p=some n) :
  ∃ fr',af C run k (seq1 (l.code body)) ⟨fr,hp,wr⟩=some (bif j.blt n then .normal else .exit l.e,⟨fr',hp,wr⟩):=by
 obtain⟨el,hu⟩:=hu
 have hok':=of_decide_eq_true hok
 clear hok
 obtain⟨o1,o2,o3,o4,o5,o6,o7,o8,n1,n2,n3,n4,n5,n6,n7,n8,n9,n10,n11,n12,n13⟩:=hok'
 rw[← h0] at o1 o2 o3 o4 o5 o6 o7 o8
 have e1:nth (eY fr l.a (.sc (.int .i64 (j:Int)))) l.x=p:=by rw[kq n4];exact hx
 have e2:nth (eY (eY fr l.a (.sc (.int .i64 (j:Int)))) l.b p) l.b=p:=by rw[mA _ _ _ _ (by rw[jS];exact o4),if_pos rfl]
 have e3:nth (eY (eY (eY fr l.a (.sc (.int .i64 (j:Int)))) l.b p) l.c (.sc (.int .i64 (n:Int)))) l.a = .sc (.int .i64 (j:Int)):=by
  rw[kq n2,kq n1,mA _ _ _ _ o3,if_pos rfl]
 have e4:nth (eY (eY (eY fr l.a (.sc (.int .i64 (j:Int)))) l.b p) l.c (.sc (.int .i64 (n:Int)))) l.c = .sc (.int .i64 (n:Int)):=by
  rw[mA _ _ _ _ (by rw[jS,jS];exact o5),if_pos rfl]
 have e5:∀ v,nth (eY (eY (eY (eY fr l.a (.sc (.int .i64 (j:Int)))) l.b p) l.c (.sc (.int .i64 (n:Int)))) l.d v) l.d=v:=fun v=>by
  rw[mA _ _ _ _ (by rw[jS,jS,jS];exact o6),if_pos rfl]
 have hl:((j:Int)<(n:Int)) ↔ j<n:=Int.ofNat_lt
 by_cases hj:j<n
 ·have hb:j.blt n=true:=by rw[Nat.blt_eq];exact hj
  simp[Lp.code,seq1,af,aH,ao,aq,aG,ah,ai,an,aj,aF,aZ,au,bg,bL,FzZ,aC,hu,hp',hi,e1,e2,e3,e4,e5,hj,hb]
 ·have hb:j.blt n=false:=by cases e:j.blt n with | false=>rfl | true=>rw[Nat.blt_eq] at e;exact absurd e hj
  simp[Lp.code,seq1,af,aH,ao,aq,aG,ah,ai,an,aj,aF,aZ,au,bg,bL,FzZ,aC,hu,hp',hi,e1,e2,e3,e4,e5,hj,hb]
theorem Lp.inc (hok:l.ok m=true){fr:Ψ}{hp:Θ}{wr:Ω}{j:Nat}(h0:fr.length=m)(hi:nth fr l.i = .sc (.int .i64 (j:Int)))(hj:j<9223372036854775807) :
  ∃ fr',af C run k (bn (bn (l.code body))) ⟨fr,hp,wr⟩=some (.normal,⟨fr',hp,wr⟩)∧nth fr' l.i = .sc (.int .i64 ((j+1:Nat):Int)):=by
 have hok':=of_decide_eq_true hok
 clear hok
 obtain⟨o1,o2,o3,o4,o5,o6,o7,o8,-⟩:=hok'
 rw[← h0] at o1 o7 o8
 have hw:=bA j hj
 have e1:nth (eY fr l.u (.sc (.int .i64 (j:Int)))) l.u = .sc (.int .i64 (j:Int)):=by rw[mA _ _ _ _ o7,if_pos rfl]
 have e2:∀ v,nth (eY (eY fr l.u (.sc (.int .i64 (j:Int)))) l.v v) l.v=v:=fun v=>by rw[mA _ _ _ _ (by rw[jS];exact o8),if_pos rfl]
 have e3:∀ v w,nth (eY (eY (eY fr l.u (.sc (.int .i64 (j:Int)))) l.v v) l.i w) l.i=w:=fun v w=>by rw[mA _ _ _ _ (by rw[jS,jS];exact o1),if_pos rfl]
 simp[Lp.code,bn,af,aH,ao,aq,aG,ah,ai,an,aj,aF,aZ,au,bg,av,FzZ,aC,hi,e1,e2,e3,hw]
theorem Lp.split (b:Code):l.code b = .seq (seq1 (l.code b)) (.seq (.block l.e2 b) (bn (bn (l.code b)))):=rfl
theorem Lp.ahy {B:Code}(hB:B=l.code body)(hok:l.ok m=true)(htb:ct body l.i=false)(hxt:ct B l.x=false)(hu:∃ el,und C.T l.t=some (.slice el)){n j0:Nat}(hk:n - j0<k)(hn:n<9223372036854775807)(hj0:j0≤n){J:Nat→(Nat→PV)→Θ→Prop}{R:St→Prop}{fr0:Ψ}{hp0:Θ}{wr0:Ω}{p:PV}(h0:fr0.length=m)(hx:nth fr0 l.x=p)(hp':dy p=some n)(hi:nth fr0 l.i = .sc (.int .i64 (j0:Int)))
  (hJ:∀ j f g hp,(∀ t,l.own t=false→f t=g t)→J j f hp→J j g hp)
  (step:∀ j fr hp wr,j0≤j→j<n→dJ (ct B) fr0 fr→nth fr l.i = .sc (.int .i64 (j:Int))→J j (nth fr) hp→∃ e st',af C run k (.block l.e2 body) ⟨fr,hp,wr⟩=some (e,st')∧((e = .normal∧J (j+1) (nth st'.fr) st'.hp)∨(e = .ret∧R st')))
  (hI:J j0 (nth fr0) hp0) :
  ∃ e st',af C run k (.block l.e (.loop B)) ⟨fr0,hp0,wr0⟩=some (e,st')∧((e = .normal∧dJ (ct B) fr0 st'.fr∧J n (nth st'.fr) st'.hp)∨(e = .ret∧R st')):=by
 subst hB
 have t1:∀ t,l.own t=false→ct (seq1 (l.code body)) t=false∧ct (bn (bn (l.code body))) t=false:=fun t ht=>by
  simp only[Lp.own,Bool.or_eq_false_iff] at ht
  obtain⟨⟨⟨⟨⟨⟨h1,h2⟩,h3⟩,h4⟩,h5⟩,h6⟩,h7⟩:=ht
  have c:∀ {x:Nat},t.beq x=false→x.beq t=false:=fun {x} h=>by
   cases e:x.beq t with
   | false=>rfl
   | true=>rw[Nat.eq_of_beq_eq_true e,Nat.beq_refl] at h;cases h
  simp only[Lp.code,seq1,bn,ct,pC,c h1,c h2,c h3,c h4,c h5,c h6,c h7,Bool.or_self,and_self]
 have kk:∀ {c:Code},(∀ t,ct (l.code body) t=false→ct c t=false)→∀ {st st':St} {e:Ex},af C run k c st=some (e,st')→dJ (ct (l.code body)) st.fr st'.fr:=fun hc _ _ _ h=>(bG _ h).mono hc
 have ks:∀ t,ct (l.code body) t=false→ct (seq1 (l.code body)) t=false∧ct (.block l.e2 body) t=false∧ct (bn (bn (l.code body))) t=false:=fun t ht=>by
  rw[Lp.split body] at ht
  simp only[ct,Bool.or_eq_false_iff] at ht
  exact⟨ht.1,ht.2.1,ht.2.2⟩
 have round:∀ j fr hp wr,j0≤j→j<n→dJ (ct (l.code body)) fr0 fr→nth fr l.i = .sc (.int .i64 (j:Int))→J j (nth fr) hp→∃ e st',af C run k (l.code body) ⟨fr,hp,wr⟩=some (e,st')∧((e = .normal∧dJ (ct (l.code body)) fr0 st'.fr∧nth st'.fr l.i = .sc (.int .i64 ((j+1:Nat):Int))∧J (j+1) (nth st'.fr) st'.hp)∨(e = .ret∧R st')):=by
  intro j fr hp wr hj hjn hK hij hJj
  obtain⟨fr1,a1⟩:=Lp.test (C:=C) (run:=run) (k:=k) (body:=body) hok hu (wr:=wr) (hp:=hp) (hK.len h0) hij (hK.at hx hxt) hp'
  have hb:j.blt n=true:=by rw[Nat.blt_eq];exact hjn
  rw[hb,cond_true] at a1
  have k1:=bG _ a1
  have i1:nth fr1 l.i = .sc (.int .i64 (j:Int)):=by
   refine k1.at hij ?_
   have hok':=of_decide_eq_true hok
   obtain⟨-,-,-,-,-,-,-,-,-,-,-,-,-,-,-,-,-,n10,n11,n12,n13⟩:=hok'
   have c:∀ {x y:Nat},x≠y→y.beq x=false:=fun {x y} h=>by
    cases e:y.beq x with
    | false=>rfl
    | true=>exact absurd (Nat.eq_of_beq_eq_true e).symm h
   simp only[Lp.code,seq1,ct,pC,c n10,c n11,c n12,c n13,Bool.or_self]
  have K1:=hK.trans (kk (fun t ht=>(ks t ht).1) a1)
  obtain⟨e,st,b1,b2⟩:=step j fr1 hp wr hj hjn K1 i1 (hJ j _ _ hp (fun t ht=>(k1.2 t (t1 t ht).1).symm) hJj)
  rcases b2 with ⟨rfl,b2⟩| ⟨rfl,b2⟩
  ·obtain⟨fr2,hp2,wr2⟩:=st
   have k2:=bG _ b1
   have K2:=K1.trans (kk (fun t ht=>(ks t ht).2.1) b1)
   obtain⟨fr3,c1,c2⟩:=Lp.inc (C:=C) (run:=run) (k:=k) (body:=body) hok (wr:=wr2) (hp:=hp2) (K2.len h0) (k2.at i1 htb) (by omega)
   have k3:=bG _ c1
   refine⟨.normal,⟨fr3,hp2,wr2⟩,?_,.inl ⟨rfl,K2.trans (kk (fun t ht=>(ks t ht).2.2) c1),c2,hJ (j+1) _ _ hp2 (fun t ht=>(k3.2 t (t1 t ht).2).symm) b2⟩⟩
   rw[Lp.split body,ar a1,ar b1];exact c1
  ·refine⟨.ret,st,?_,.inr ⟨rfl,b2⟩⟩
   rw[Lp.split body,ar a1]
   simp only[af] at b1 ⊢
   rw[b1]
 have loop:∀ (d j:Nat) (fr:Ψ) (hp:Θ) (wr:Ω),j+d=n→j0≤j→dJ (ct (l.code body)) fr0 fr→nth fr l.i = .sc (.int .i64 (j:Int))→J j (nth fr) hp→∃ e st',ch (af C run k (l.code body)) (d+1) ⟨fr,hp,wr⟩=some (e,st')∧((e = .exit l.e∧dJ (ct (l.code body)) fr0 st'.fr∧J n (nth st'.fr) st'.hp)∨(e = .ret∧R st')):=by
  intro d
  induction d with
  | zero =>
   intro j fr hp wr hjn hj hK hij hJj
   have e:j=n:=by omega
   subst e
   obtain⟨fr1,a1⟩:=Lp.test (C:=C) (run:=run) (k:=k) (body:=body) hok hu (wr:=wr) (hp:=hp) (hK.len h0) hij (hK.at hx hxt) hp'
   have hb:j.blt j=false:=by cases e:j.blt j with | false=>rfl | true=>rw[Nat.blt_eq] at e;omega
   rw[hb,cond_false] at a1
   have k1:=bG _ a1
   refine⟨.exit l.e,⟨fr1,hp,wr⟩,bE ?_,.inl ⟨rfl,hK.trans (kk (fun t ht=>(ks t ht).1) a1),hJ j _ _ hp (fun t ht=>(k1.2 t (t1 t ht).1).symm) hJj⟩⟩
   rw[Lp.split body]
   have:=a1
   rw[af]
   rw[this]
  | succ d ih =>
   intro j fr hp wr hjn hj hK hij hJj
   obtain⟨e,st,a1,a2⟩:=round j fr hp wr hj (by omega) hK hij hJj
   rcases a2 with ⟨rfl,a2,a3,a4⟩| ⟨rfl,a2⟩
   ·obtain⟨e',st',b1,b2⟩:=ih (j+1) st.fr st.hp st.wr (by omega) (by omega) a2 a3 a4
    exact⟨e',st',by rw[ca a1];exact b1,b2⟩
   ·exact⟨.ret,st,ez a1,.inr ⟨rfl,a2⟩⟩
 obtain⟨e,st,a1,a2⟩:=loop (n - j0) j0 fr0 hp0 wr0 (by omega) (Nat.le_refl _) (dJ.refl _ _) hi hI
 have a1':=bT a1 (show n - j0+1≤k by omega)
 rcases a2 with ⟨rfl,a2⟩| ⟨rfl,a2⟩
 ·exact⟨.normal,st,bK a1',.inl ⟨rfl,a2⟩⟩
 ·exact⟨.ret,st,by simp only[af,a1'],.inr ⟨rfl,a2⟩⟩
theorem Lp.go {B:Code}(hB:B=l.code body)(hok:l.ok m=true)(htb:ct body l.i=false)(hxt:ct B l.x=false)(hu:∃ el,und C.T l.t=some (.slice el)){n j0:Nat}(hk:n - j0<k)(hn:n<9223372036854775807)(hj0:j0≤n){J:Nat→(Nat→PV)→Θ→Prop}{fr0:Ψ}{hp0:Θ}{wr0:Ω}{p:PV}(h0:fr0.length=m)(hx:nth fr0 l.x=p)(hp':dy p=some n)(hi:nth fr0 l.i = .sc (.int .i64 (j0:Int)))
  (hJ:∀ j f g hp,(∀ t,l.own t=false→f t=g t)→J j f hp→J j g hp)
  (step:∀ j fr hp wr,j0≤j→j<n→dJ (ct B) fr0 fr→nth fr l.i = .sc (.int .i64 (j:Int))→J j (nth fr) hp→∃ fr' hp' wr',af C run k (.block l.e2 body) ⟨fr,hp,wr⟩=some (.normal,⟨fr',hp',wr'⟩)∧J (j+1) (nth fr') hp')
  (hI:J j0 (nth fr0) hp0) :
  ∃ fr' hp' wr',af C run k (.block l.e (.loop B)) ⟨fr0,hp0,wr0⟩=some (.normal,⟨fr',hp',wr'⟩)∧dJ (ct B) fr0 fr'∧J n (nth fr') hp':=by
 obtain⟨e,st,a1,a2⟩:=Lp.ahy (R:=fun _=>False) hB hok htb hxt hu hk hn hj0 h0 hx hp' hi hJ (fun j fr hp wr a b c d e=>by
  obtain⟨fr',hp',wr',x1,x2⟩:=step j fr hp wr a b c d e
  exact⟨.normal,⟨fr',hp',wr'⟩,x1,.inl ⟨rfl,x2⟩⟩) hI (wr0:=wr0)
 rcases a2 with ⟨rfl,a2⟩| ⟨-,a2⟩
 ·exact⟨st.fr,st.hp,st.wr,a1,a2⟩
 ·exact a2.elim
end
def eqK:IntKind→IntKind→Bool
 | .i8,.i8 | .i16,.i16 | .i32,.i32 | .i64,.i64 | .u8,.u8 | .u16,.u16 | .u32,.u32 | .u64,.u64=>true
 | _,_=>false
theorem VS {a b:IntKind}(h:eqK a b=true):a=b:=by cases a <;> cases b <;> first | rfl | cases h
def ac6:Int→Int→Bool
 | .ofNat a,.ofNat b=>a.beq b
 | .negSucc a,.negSucc b=>a.beq b
 | _,_=>false
theorem VU:∀ {a b:Int},ac6 a b=true→a=b
 | .ofNat a,.ofNat b,h=>by rw[Nat.eq_of_beq_eq_true h]
 | .negSucc a,.negSucc b,h=>by rw[Nat.eq_of_beq_eq_true h]
 | .ofNat _,.negSucc _,h=>by cases h
 | .negSucc _,.ofNat _,h=>by cases h
def eqB:Bool→Bool→Bool
 | true,true=>true
 | false,false=>true
 | _,_=>false
theorem VW:∀ {a b:Bool},eqB a b=true→a=b
 | true,true,_=>rfl
 | false,false,_=>rfl
 | true,false,h=>by cases h
 | false,true,h=>by cases h
theorem AN:∀ {a b:List UInt8},eqL a b=true→a=b
 | [],[],_=>rfl
 | a::x,b::y,h=>by
  simp only[eqL,Bool.and_eq_true,beq_iff_eq] at h
  rw[AN h.2,UInt8.toNat_inj.1 h.1]
 | [],_::_,h=>by simp[eqL] at h
 | _::_,[],h=>by simp[eqL] at h
def rC (e:PV→PV→Bool):Ψ→Ψ→Bool
 | [],[]=>true
 | a::x,b::y=>e a b && rC e x y
 | _,_=>false
theorem rB {e:PV→PV→Bool}(h:∀ a b,e a b=true→a=b):∀ {x y:Ψ},rC e x y=true→x=y
 | [],[],_=>rfl
 | a::x,b::y,hh=>by
  simp only[rC,Bool.and_eq_true] at hh
  rw[h a b hh.1,rB h hh.2]
 | [],_::_,hh=>by simp[rC] at hh
 | _::_,[],hh=>by simp[rC] at hh
def eqP:Nat→PV→PV→Bool
 | 0,_,_=>false
 | k+1,a,b=>match a,b with
  | .sc (.int i m),.sc (.int j n)=>eqK i j && ac6 m n
  | .sc (.bool m),.sc (.bool n)=>eqB m n
  | .sc (.string s),.sc (.string t)=>eqL (bO s) (bO t)
  | .imm m x cs,.imm n y ds=>m.beq n && (eqB x y && rC (eqP k) cs ds)
  | .agg cs,.agg ds=>rC (eqP k) cs ds
  | _,_=>false
theorem IE:∀ (k:Nat) (a b:PV),eqP k a b=true→a=b
 | 0,a,b,h=>by cases h
 | k+1,a,b,h=>by
  unfold eqP at h
  split at h
  ·simp only[Bool.and_eq_true] at h
   rw[VS h.1,VU h.2]
  ·rw[VW h]
  ·rename_i s t
   have:=AN h
   rw[← gE s,← gE t,this]
  ·simp only[Bool.and_eq_true] at h
   rw[Nat.eq_of_beq_eq_true h.1,VW h.2.1,rB (IE k) h.2.2]
  ·rw[rB (IE k) h]
  ·cases h
def il (args:Ψ):Ψ→Option Ψ:=fun a=>bif rC (eqP 8) (aJ a) args then some [.sc (.bool true)] else none
def orF (f f':Ψ→Option Ψ):Ψ→Option Ψ:=fun a=>match f a with
 | some r=>some r
 | none=>f' a
end Go.Ab
