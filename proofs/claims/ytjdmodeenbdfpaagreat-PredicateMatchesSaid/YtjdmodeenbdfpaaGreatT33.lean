/- Contracts of fractions, clouds and predicates, part 33 of the proof; each lemma states its own conditions. -/
import Derived.Test.YtjdmodeenbdfpaaGreatT32
set_option linter.unusedSimpArgs false
set_option linter.unusedVariables false
noncomputable section
namespace Go.Proofs.YtjdmodeenbdfpaaGreat
open Go Go.Ab List Tryz
attribute [local simp] FzZ aA aF aG aH aL aU aa ab ae af ag ai aj an ao aq aw az bc bj
variable(L:Lst)(run:ar)(k:Nat)(fr:List PV)(hp:List Blk)(wr:List Nat)
theorem agM {a b:Nat}(h:a.beq b=true):a=b:=Nat.eq_of_beq_eq_true h
theorem qk {a b:Nat}(h:a≠b):a.beq b=false:=by
 cases e:a.beq b with
 | false=>rfl
 | true=>exact absurd (agM e) h
theorem CM (z:Int):lM (ztx z)=true:=by
 have h3:ztx z=(bif bA z then [45] else [])++dtx z.natAbs:=se z
 rw[h3]
 have hd:=ox z.natAbs
 cases e:dtx z.natAbs with
 | nil=>exact absurd e (VZ _)
 | cons a r =>
  rw[e] at hd
  have ha:=dN.1 (fN hd mem_cons_self)
  have hh:vHd (a::r)=false:=by
   cases r with
   | nil=>rfl
   | cons b r=>exact qk (rG e)
  cases hn:bA z with
  | false =>
   simp only[cond_false,nil_append,lM,lq,qk (show a≠45 by omega),hh,hd]
   rfl
  | true =>
   have h48:a≠48:=by
    cases r with
    | nil =>
     intro ea
     rw[ea] at e
     exact KP hn e
    | cons b r=>exact rG e
   have h45:(45:Nat).beq 45=true:=rfl
   simp only[cond_true,cons_append,nil_append,lM,lq,qk h48,cond_false,hh,hd,h45]
   rfl
theorem zi {l:List Nat}(h:lM l=true):∃ z,l=ztx z:=by
 have key:∀ (m:Bool) (ds:List Nat),vHd ds=false→fc ds=true→(m=true→ds≠[48])→∃ z,(bif m then [45] else [])++ds=ztx z:=by
  intro m ds h1 h2 h3
  refine⟨_,Lw h2 (by intro e;subst e;simp[vHd] at h1) h3 ?_⟩
  intro a b l e ea
  subst e;subst ea
  simp[vHd] at h1
 unfold lM at h
 cases l with
 | nil=>simp[lq,vHd] at h
 | cons a l =>
  by_cases ha:a=45
  ·subst ha
   cases l with
   | nil=>simp[lq,vHd] at h
   | cons b l =>
    by_cases hb:b=48
    ·subst hb;simp[lq] at h
    ·have h45:(45:Nat).beq 45=true:=rfl
     simp only[lq,qk hb,cond_true,cond_false,h45,Bool.and_eq_true,Bool.not_eq_true'] at h
     obtain⟨z,hz⟩:=key true (b::l) h.1 h.2 (fun _ e=>hb (List.cons.inj e).1)
     exact⟨z,hz⟩
  ·simp only[lq,qk ha,cond_false,Bool.and_eq_true,Bool.not_eq_true'] at h
   obtain⟨z,hz⟩:=key false (a::l) h.1 h.2 nofun
   exact⟨z,hz⟩
def vh (n:Bool):List Nat→Bool
 | []=>true
 | [a]=>a.beq 48 && n
 | a::_=>a.beq 48
theorem acQ (n:Bool)(s:ByteArray):pH n (bT s)=vh n (bys s):=by
 unfold bys
 cases bT s with
 | nil=>rfl
 | cons a l=>cases l <;> rfl
def isM:List Nat→Bool
 | []=>false
 | a::_=>a.beq 45
theorem WA (s:ByteArray):yl s=isM (bys s):=by
 unfold yl bys jd
 cases bT s with
 | nil=>rfl
 | cons a l =>
  show (Nat.ble 1 (l.length+1) && eqL [a] [45])=a.toNat.beq 45
  have:Nat.ble 1 (l.length+1)=true:=by rw[Nat.ble_eq];omega
  rw[this,Bool.true_and]
  simp only[eqL,Bool.and_true]
  by_cases h:a.toNat=45
  ·rw[h];rfl
  ·rw[qk h,beq_eq_false_iff_ne];exact h
theorem agC (s:ByteArray):bys (qf s)=bif isM (bys s) then (bys s).drop 1 else bys s:=by
 have:=WA s
 unfold yl at this
 unfold qf
 rw[this]
 cases isM (bys s) with
 | false=>rfl
 | true =>
  simp only[cond_true]
  unfold bys
  rw[fy,map_drop]
theorem Du (s:ByteArray):ib s=bif vh (isM (bys s)) (bif isM (bys s) then (bys s).drop 1 else bys s) then none else bif fc (bif isM (bys s) then (bys s).drop 1 else bys s) then some (sgn (isM (bys s)) (dec 0 (bif isM (bys s) then (bys s).drop 1 else bys s))) else none:=by
 unfold ib
 rw[acQ,agC,WA]
theorem RH (m:Bool)(n:Nat):sgn m n=ia m n:=rfl
theorem Hb {s:ByteArray}{z:Int}(h:bys s=ztx z):ib s=some z:=by
 rw[Du,h]
 have h3:ztx z=(bif bA z then [45] else [])++dtx z.natAbs:=se z
 have hz:=iG z
 rw[h3]
 have hd:=ox z.natAbs
 have hv:=pe z.natAbs
 cases e:dtx z.natAbs with
 | nil=>exact absurd e (VZ _)
 | cons a r =>
  rw[e] at hd hv
  have ha:=dN.1 (fN hd mem_cons_self)
  cases hn:bA z with
  | false =>
   have hb:vh false (a::r)=false:=by
    cases r with
    | nil=>simp[vh]
    | cons b r=>exact qk (rG e)
   simp only[cond_false,nil_append,isM,qk (show a≠45 by omega),hb,hd,cond_true,RH]
   rw[hv,← hn,hz]
  | true =>
   have hb:vh true (a::r)=false:=by
    cases r with
    | nil =>
     have:a≠48:=by
      intro ea
      rw[ea] at e
      exact KP hn e
     simp[vh,qk this]
    | cons b r=>exact qk (rG e)
   have h45:(45:Nat).beq 45=true:=rfl
   simp only[cond_true,cons_append,nil_append,isM,h45,drop_succ_cons,drop_zero,hb,cond_false,hd,RH]
   rw[hv,← hn,hz]
theorem tR {s:ByteArray}{z:Int}(h:ib s=some z):bys s=ztx z:=by
 rw[Du] at h
 have key:∀ (m:Bool) (ds:List Nat),vh m ds=false→fc ds=true→some (sgn m (dec 0 ds))=some z→(bif m then [45] else [])++ds=ztx z:=by
  intro m ds h1 h2 h3
  simp only[OiE] at h3
  rw[← h3,RH]
  refine Lw h2 (by intro e;subst e;simp[vh] at h1) ?_ ?_
  ·rintro rfl rfl
   simp[vh] at h1
  ·intro a b l e ea
   subst e;subst ea
   simp[vh] at h1
 cases hm:isM (bys s) with
 | true =>
  rw[hm] at h
  simp only[cond_true] at h
  cases hb:vh true ((bys s).drop 1) with
  | true=>rw[hb] at h;cases h
  | false =>
   rw[hb] at h
   simp only[cond_false] at h
   cases hd:fc ((bys s).drop 1) with
   | false=>rw[hd] at h;cases h
   | true =>
    rw[hd] at h
    simp only[cond_true] at h
    rw[← key true _ hb hd h]
    cases e:bys s with
    | nil=>rw[e] at hm;cases hm
    | cons a l =>
     rw[e] at hm
     rw[agM hm];rfl
 | false =>
  rw[hm] at h
  simp only[cond_false] at h
  cases hb:vh false (bys s) with
  | true=>rw[hb] at h;cases h
  | false =>
   rw[hb] at h
   simp only[cond_false] at h
   cases hd:fc (bys s) with
   | false=>rw[hd] at h;cases h
   | true =>
    rw[hd] at h
    simp only[cond_true] at h
    exact key false _ hb hd h
theorem Vv:∀ l:List UInt8,Lib.indexByte l 47=match fS (l.map UInt8.toNat) with
  | some j=>(j:Int)
  | none => -1
 | []=>rfl
 | a::l=>by
  have ih:=Vv l
  simp only[Lib.indexByte,map_cons,fS]
  by_cases h:a.toNat=47
  ·have:(a == 47)=true:=by rw[beq_iff_eq,← UInt8.toNat_inj];exact h
   rw[this,if_pos rfl,h]
   rfl
  ·have:(a == 47)=false:=by rw[beq_eq_false_iff_ne,ne_eq,← UInt8.toNat_inj];exact h
   rw[this,if_neg (by simp),qk h,cond_false,ih]
   cases fS (l.map UInt8.toNat) with
   | none=>rfl
   | some j =>
    simp only[Option.map_some]
    have h1 : ¬ ((((j:Nat):Int) == -1)=true):=by
     rw[beq_iff_eq];omega
    rw[if_neg h1]
    rfl
theorem abQ (s:ByteArray):idx s=match fS (bys s) with
  | some j=>(j:Int)
  | none => -1:=by
 unfold idx
 cases h:eqL [47] (bT s) with
 | false=>exact Vv (bT s)
 | true =>
  have h2:[47]=bT s:=by
   have h3:=Ab.tg [47] (bT s)
   rw[h] at h3
   exact eq_of_beq h3.symm
  unfold bys
  rw[← h2]
  rfl
theorem EY:∀ {l:List Nat} {j:Nat},fS l=some j→j<l.length
 | a::l,j,h=>by
  simp only[fS] at h
  cases e:a.beq 47 with
  | true=>rw[e] at h;simp at h;subst h;simp
  | false =>
   rw[e] at h
   simp only[cond_false,Option.map_eq_some_iff] at h
   obtain⟨i,hi,rfl⟩:=h
   have:=EY hi
   simpa using this
theorem acA (s:ByteArray)(h9:(bys s).length≤1000000000):l9 s=true∧bys (jN s)=(spl (bys s)).1∧vf s=(spl (bys s)).2.2∧(vf s=true→bys (jM s)=(spl (bys s)).2.1):=by
 unfold l9 jN jM vf spl
 rw[abQ]
 cases h:fS (bys s) with
 | none=>refine⟨?_,?_,?_,?_⟩ <;> first | rfl | trivial | nofun
 | some j =>
  have:=EY h
  simp only
  rw[kc] at this h9
  refine⟨?_,?_,by trivial,fun _ => ?_⟩
  ·show ((j+1).ble (bT s).length && (bT s).length.ble 1000000000)=true
   simp only[Bool.and_eq_true,Nat.ble_eq];omega
  ·show bys (mkStr ((bT s).take j))=_
   unfold bys;rw[fy,map_take]
  ·show bys (mkStr ((bT s).drop (j+1)))=_
   unfold bys;rw[fy,map_drop]
def qb (x:Rat):ByteArray:=tx (qtx x.num x.den)
def qt (x:Rat):PV:=.sc (.string (qb x))
theorem KA (x:Rat):qs x.num x.den=qt x:=rfl
theorem I3 (x:Rat):bys (qb x)=qtx x.num x.den:=jZ (HO _ _)
theorem lr (x:Rat):spl (bys (qb x))=(ztx x.num,ztx x.den, !decide ((x.den:Int)=1)):=by rw[I3,Bf]
theorem pR {x y:Rat}(h:qb x=qb y):x=y:=by
 have h1:=lr x
 rw[h,lr] at h1
 simp only[PiE] at h1
 exact Rat.ext (qv h1.1).symm (by have:=qv h1.2.1;omega)
theorem vH (s t:ByteArray):eD .eql s t=some (.bool (decide (s=t))):=by
 have h:eqL (bT s) (bT t)=decide (s=t):=by
  rw[Ab.tg]
  by_cases h:s=t
  ·subst h;simp
  ·have:bT s≠bT t:=fun e=>h (by rw[← gV s,e,gV])
   simp[h,this]
 simp only[eD,h]
theorem aa8 (s t:ByteArray):eD .neq s t=some (.bool (!decide (s=t))):=by
 have h:=vH s t
 simp only[eD,OiE,Value.bool.injEq] at h
 simp only[eD,h]
theorem ago (x y:Rat):eD .eql (qb x) (qb y)=some (.bool (decide (x=y))):=by
 rw[vH]
 by_cases h:x=y
 ·subst h;simp
 ·rw[decide_eq_false h,decide_eq_false fun e=>h (pR e)]
theorem vI (x:Rat):eD .eql (qb x) { data:=#[105,110,102] } = some (.bool false):=by
 rw[vH,decide_eq_false]
 intro e
 have h1:=congrArg bys e
 rw[I3] at h1
 have h2:(105:Nat) ∈ qtx x.num x.den:=by rw[h1];exact mem_cons_self
 have hz:∀ (z:Int),∀ y ∈ ztx z,y≠105:=by
  intro z y hy
  rw[se,mem_append] at hy
  rcases hy with hy | hy
  ·cases hn:bA z <;> rw[hn] at hy <;> simp at hy
   omega
  ·have:=dN.1 (fN (ox _) hy)
   omega
 unfold qtx at h2
 split at h2
 ·exact hz _ _ h2 rfl
 ·simp only[mem_append,mem_cons] at h2
  rcases h2 with h2 | h2 | h2
  ·exact hz _ _ h2 rfl
  ·omega
  ·exact hz _ _ h2 rfl
theorem Rb.zm {k:Nat}{x:Rat}(h:Rb k x)(hk:k≤2000000):Zm x.num∧Zm (x.den:Int):=⟨h.1.zm hk,h.2.zm hk⟩
theorem yi {k:Nat}{x:Rat}(h:Rb k x)(hk:k≤2000000):pG (qt x)=some (x.num,(x.den:Int)):=Ww (h.zm hk).1 (h.zm hk).2 (by have:=x.den_pos;omega)
theorem aeD {x y:Rat}{j k:Nat}(hx:Rb j x)(hy:Rb k y)(h:j+k≤1000000):tU [qt x,qt y]=some [qt (x+y)]:=by
 have g1:=hx.1.mul hy.2
 have g2:=hy.1.mul hx.2
 rw[Nat.add_comm k j] at g2
 have g3:=hx.2.mul hy.2
 simp only[tU,yi hx (by omega),yi hy (by omega)]
 cases hb:decide ((x.den:Int)=1) && decide ((y.den:Int)=1) with
 | true =>
  simp only[Bool.and_eq_true,decide_eq_true_eq] at hb
  have h1:=qP x y
  have h2:=qR x y
  rw[hb.1,hb.2] at h1 h2
  simp[qQ,pN] at h1 h2
  rw[cond_true,h1,← KA,← h2]
 | false =>
  rw[cond_false,g1.zmB (by omega),g2.zmB (by omega),(g1.add g2).zmB (by omega),g3.zmB (by omega)]
  simp only[Bool.and_self,cond_true,qP,qR,KA]
theorem adZ {x y:Rat}{j k:Nat}(hx:Rb j x)(hy:Rb k y)(h:j+k≤1000000):wU [qt x,qt y]=some [qt (x*y)]:=by
 have g1:=hx.1.mul hy.1
 have g3:=hx.2.mul hy.2
 simp only[wU,yi hx (by omega),yi hy (by omega),g1.zmB (by omega),g3.zmB (by omega),Bool.and_self,cond_true,wM,wN,KA]
theorem Z9 {x:Rat}{j:Nat}(hx:Rb j x)(h:j≤1000000):nN [qt x]=some [qt (-x)]:=by
 simp only[nN,yi hx (by omega)]
 rw[← KA,Rat.neg_num,Rat.neg_den]
theorem ahj {L:Lst}(hL:bu L 24=fun a=>tU (aJ a))(run:ar){x y:Rat}{j k:Nat}(hx:Rb j x)(hy:Rb k y)(h:j+k≤1000000):au L run 24 [qt x,qt y] (qt (x+y)):=fun dr hp =>
 bw Mx hL run dr hp _ [qt (x+y)] rfl rfl (aeD hx hy h)
theorem ai6 {L:Lst}(hL:bu L 34=fun a=>wU (aJ a))(run:ar){x y:Rat}{j k:Nat}(hx:Rb j x)(hy:Rb k y)(h:j+k≤1000000):au L run 34 [qt x,qt y] (qt (x*y)):=fun dr hp =>
 bw GA hL run dr hp _ [qt (x*y)] rfl rfl (adZ hx hy h)
theorem adA {L:Lst}(hL:bu L 122=fun a=>nN (aJ a))(run:ar){x:Rat}{j:Nat}(hx:Rb j x)(h:j≤1000000):au L run 122 [qt x] (qt (-x)):=fun dr hp =>
 bw Q4 hL run dr hp _ [qt (-x)] rfl rfl (Z9 hx h)
theorem LL {L:Lst}(hL:bu L 65=fun a=>kT (aJ a))(run:ar){x:Rat}{j:Nat}(hx:Rb j x)(h:j≤2000000):au L run 65 [qt x] (.tup [zs x.num,zs x.den,.sc (.bool (!decide ((x.den:Int)=1)))]):=fun dr hp =>
 bw ko hL run dr hp _ [zs x.num,zs x.den,.sc (.bool (!decide ((x.den:Int)=1)))] rfl rfl (Gn _ _ (hx.zm h).1 (hx.zm h).2)
theorem XR {L:Lst}(hL:bu L 68=fun a=>tZ (aJ a))(run:ar)(x y:Int)(hx:Zm x)(hy:Zm y):au L run 68 [zs x,zs y] (zs (x*y)):=fun dr hp =>
 bw wA hL run dr hp _ [zs (x*y)] rfl rfl (by simp only[tZ,cQ x hx,cQ y hy])
theorem Ch {L:Lst}(hL:bu L 69=fun a=>mG (aJ a))(run:ar)(x y:Int)(hx:Zm x)(hy:Zm y):au L run 69 [zs x,zs y] (Ab.bz (fO x y)):=fun dr hp =>
 bw C9 hL run dr hp _ [Ab.bz (fO x y)] rfl rfl (by simp only[mG,cQ x hx,cQ y hy])
theorem fH {L:Lst}{g:Nat}{α:Type}{e:α→List PV}{ok:α→Prop}{f:α→List PV}(hs:base.shared g=false)(hL:bu L g=fun a=>ctr e ok f (aJ a))(inj:∀ x y,ok x→ok y→e x=e y→f x=f y)(run:ar)(x:α)(hx:ok x)
  (hsn:∀ hp,bq (snap hp bn) (e x)=some (e x,[])) (hc:aJ (e x)=e x):au L run g (e x) (jk (f x)):=fun dr hp =>
 bw hs hL run dr hp _ (f x) (hsn hp) hc (jn inj hx)
theorem Tl {x y:Rat}(h:qt x=qt y):x=y:=by
 unfold qt at h
 simp only[PV.sc.injEq,Value.string.injEq] at h
 exact pR h
abbrev RR:=Rat × Rat
def e2q (p:RR):List PV:=[qt p.1,qt p.2]
def ok2 (p:RR):Prop:=Rb 400000 p.1∧Rb 400000 p.2
theorem Lm {p q:RR}(h:e2q p=e2q q):p=q:=by
 simp only[e2q,List.cons.injEq,and_true] at h
 exact Prod.ext (Tl h.1) (Tl h.2)
def LQ1:Lst:=[(65,kT),(68,tZ),(69,mG),(67,zU),(122,nN),(24,tU),(111,Sz),(112,um),(48,j7)]
theorem Jg:dw base.P LQ1:=⟨oW,zY,pQ,zS,pO,sJ,Sw,Ae,nO,trivial⟩
theorem abk(s t a b:ByteArray)(g1:au L run 122 [.sc (.string t)] (.sc (.string a)))(g2:au L run 24 [.sc (.string s),.sc (.string a)] (.sc (.string b))) :
  ∃ st,af (CC L) run k (f70.body.getD .skip) ⟨entry 9 [.sc (.string s),.sc (.string t)],[],[]⟩=some (.ret,st)∧aU TT st.fr st.hp f70.results.toList=some [.sc (.string b)]:=by
 obtain⟨e1,e2,e3⟩:=cn 7 (.sc (.string s)) (.sc (.string t))
 generalize entry 9 [.sc (.string s),.sc (.string t)]=fr0 at *
 unfold au at *
 simp[f70,e1,e2,e3,g1,g2]
def mnF:List PV→Option (List PV):=ctr e2q ok2 fun p=>[qt (p.1 - p.2)]
theorem abj:Ab.Spec base.P 70 mnF:=Ab.Spec.bM (C:=CC LQ1) (cP Jg) fun args rs h=>by
 obtain⟨⟨x,y⟩,⟨hx,hy⟩,rfl,rfl⟩:=cN h
 obtain⟨st,x1,x2⟩:=abk LQ1 (runK (CC LQ1) 1) 1 _ _ _ _ (adA rfl _ hy (by omega)) (ahj rfl _ hx hy.neg (by omega))
 refine⟨2,_,_,_,_,_,aP Ck rfl x1 x2,rfl,?_,trivial⟩
 show Wk (qt (x + -y)) (qt (x - y))
 rw[← Rat.sub_eq_add_neg]
 exact Wk.refl rfl
theorem ajS {L:Lst}(hL:bu L 70=fun a=>mnF (aJ a))(run:ar){x y:Rat}{j k:Nat}(hx:Rb j x)(hy:Rb k y)(hj:j≤400000)(hk:k≤400000):au L run 70 [qt x,qt y] (qt (x - y)) :=
 fH GB hL (fun p q _ _ h=>by rw[Lm h]) run (x,y) ⟨hx.mono hj,hy.mono hk⟩ (fun _=>rfl) rfl
theorem WK(s t a b c d:ByteArray)(u v:Bool)(r:Int)(hs:eD .eql s { data:=#[105,110,102] } = some (.bool false))(ht:eD .eql t { data:=#[105,110,102] } = some (.bool false))(hb:eD .eql b { data:=#[49] } = some (.bool true))(hd:eD .eql d { data:=#[49] } = some (.bool true))(g1:au L run 65 [.sc (.string s)] (.tup [.sc (.string a),.sc (.string b),.sc (.bool u)]))(g2:au L run 65 [.sc (.string t)] (.tup [.sc (.string c),.sc (.string d),.sc (.bool v)]))
  (g3:au L run 69 [.sc (.string a),.sc (.string c)] (Ab.bz r)) :
  ∃ st,af (CC L) run k (f26.body.getD .skip) ⟨entry 49 [.sc (.string s),.sc (.string t)],[],[]⟩=some (.ret,st)∧aU TT st.fr st.hp f26.results.toList=some [Ab.bz r]:=by
 obtain⟨e1,e2,e3⟩:=cn 47 (.sc (.string s)) (.sc (.string t))
 generalize entry 49 [.sc (.string s),.sc (.string t)]=fr0 at *
 unfold au at *
 simp only[Ab.bz] at *
 simp[f26,e1,e2,e3,g1,g2,g3,hs,ht,hb,hd,undef]
theorem WJ(s t a b c d e f:ByteArray)(u v w1 w2:Bool)(r:Int)(hs:eD .eql s { data:=#[105,110,102] } = some (.bool false))(ht:eD .eql t { data:=#[105,110,102] } = some (.bool false))(hw:(w1 && w2)=false)(hb:eD .eql b { data:=#[49] } = some (.bool w1))(hd:eD .eql d { data:=#[49] } = some (.bool w2))(g1:au L run 65 [.sc (.string s)] (.tup [.sc (.string a),.sc (.string b),.sc (.bool u)]))(g2:au L run 65 [.sc (.string t)] (.tup [.sc (.string c),.sc (.string d),.sc (.bool v)]))
  (g3:au L run 68 [.sc (.string a),.sc (.string d)] (.sc (.string e))) (g4:au L run 68 [.sc (.string c),.sc (.string b)] (.sc (.string f))) (g5:au L run 69 [.sc (.string e),.sc (.string f)] (Ab.bz r)) :
  ∃ st,af (CC L) run k (f26.body.getD .skip) ⟨entry 49 [.sc (.string s),.sc (.string t)],[],[]⟩=some (.ret,st)∧aU TT st.fr st.hp f26.results.toList=some [Ab.bz r]:=by
 obtain⟨e1,e2,e3⟩:=cn 47 (.sc (.string s)) (.sc (.string t))
 generalize entry 49 [.sc (.string s),.sc (.string t)]=fr0 at *
 unfold au at *
 simp only[Ab.bz] at *
 cases w1 <;> cases w2 <;> simp only[Bool.and_true,Bool.and_false,Bool.and_self,Bool.true_eq_false] at hw <;> simp[f26,e1,e2,e3,g1,g2,g3,g4,g5,hs,ht,hb,hd,undef]
def cmF:List PV→Option (List PV):=ctr e2q ok2 fun p=>[Ab.bz (Hd p.1 p.2)]
theorem Lu:Ab.Spec base.P 26 cmF:=Ab.Spec.bM (C:=CC LQ1) (cP Jg) fun args rs h=>by
 obtain⟨⟨x,y⟩,⟨hx,hy⟩,rfl,rfl⟩:=cN h
 have gx:=LL (L:=LQ1) rfl (runK (CC LQ1) 1) hx (by omega)
 have gy:=LL (L:=LQ1) rfl (runK (CC LQ1) 1) hy (by omega)
 have m1:=XR (L:=LQ1) rfl (runK (CC LQ1) 1) x.num y.den (hx.1.zm (by omega)) (hy.2.zm (by omega))
 have m2:=XR (L:=LQ1) rfl (runK (CC LQ1) 1) y.num x.den (hy.1.zm (by omega)) (hx.2.zm (by omega))
 cases hw:decide ((x.den:Int)=1) && decide ((y.den:Int)=1) with
 | true =>
  simp only[Bool.and_eq_true,decide_eq_true_eq] at hw
  have e:=Fj x y
  rw[hw.1,hw.2,Int.mul_one,Int.mul_one] at e
  have g:=Ch (L:=LQ1) rfl (runK (CC LQ1) 1) x.num y.num (hx.1.zm (by omega)) (hy.1.zm (by omega))
  obtain⟨st,x1,x2⟩:=WK LQ1 (runK (CC LQ1) 1) 1 _ _ _ _ _ _ _ _ _ (vI x) (vI y) ((jy x.den).trans (by rw[hw.1];rfl)) ((jy y.den).trans (by rw[hw.2];rfl)) gx gy g
  refine⟨2,_,_,_,_,_,aP yD rfl x1 x2,rfl,?_,trivial⟩
  rw[e]
  exact Wk.refl rfl
 | false =>
  have e:=Fj x y
  have g:=Ch (L:=LQ1) rfl (runK (CC LQ1) 1) (x.num*y.den) (y.num*x.den) ((hx.1.mul hy.2).zm (by omega)) ((hy.1.mul hx.2).zm (by omega))
  obtain⟨st,x1,x2⟩:=WJ LQ1 (runK (CC LQ1) 1) 1 _ _ _ _ _ _ _ _ _ _ _ _ _ (vI x) (vI y) hw (jy x.den) (jy y.den) gx gy m1 m2 g
  refine⟨2,_,_,_,_,_,aP yD rfl x1 x2,rfl,?_,trivial⟩
  rw[e]
  exact Wk.refl rfl
theorem ahp {L:Lst}(hL:bu L 26=fun a=>cmF (aJ a))(run:ar){x y:Rat}{j k:Nat}(hx:Rb j x)(hy:Rb k y)(hj:j≤400000)(hk:k≤400000):au L run 26 [qt x,qt y] (Ab.bz (Hd x y)) :=
 fH Q5 hL (fun p q _ _ h=>by rw[Lm h]) run (x,y) ⟨hx.mono hj,hy.mono hk⟩ (fun _=>rfl) rfl
def pB (p:Prop):Bool:=@decide p (Classical.propDecidable p)
theorem kz {p:Prop}(h:p):pB p=true:=by unfold pB;exact @decide_eq_true _ (Classical.propDecidable p) h
theorem jT {p:Prop}(h : ¬ p):pB p=false:=by unfold pB;exact @decide_eq_false _ (Classical.propDecidable p) h
theorem aeH {p:Prop} : pB p=true ↔ p:=by
 constructor
 ·intro h
  by_cases hp:p
  ·exact hp
  ·rw[jT hp] at h;cases h
 ·exact kz
theorem ajE(s a b:ByteArray)(sl:Bool)(g1:au L run 65 [.sc (.string s)] (.tup [.sc (.string a),.sc (.string b),.sc (.bool sl)]))(g2:au L run 111 [.sc (.string a)] (.sc (.bool false))) :
  ∃ st,af (CC L) run k (f64.body.getD .skip) ⟨entry 34 [.sc (.string s)],[],[]⟩=some (.ret,st)∧aU TT st.fr st.hp f64.results.toList=some [.sc (.bool false)]:=by
 obtain⟨e1,e2⟩:=cW 33 (.sc (.string s))
 generalize entry 34 [.sc (.string s)]=fr0 at *
 unfold au at *
 simp[f64,e1,e2,unP,g1,g2]
theorem ajD(s a b:ByteArray)(g1:au L run 65 [.sc (.string s)] (.tup [.sc (.string a),.sc (.string b),.sc (.bool false)]))(g2:au L run 111 [.sc (.string a)] (.sc (.bool true))) :
  ∃ st,af (CC L) run k (f64.body.getD .skip) ⟨entry 34 [.sc (.string s)],[],[]⟩=some (.ret,st)∧aU TT st.fr st.hp f64.results.toList=some [.sc (.bool true)]:=by
 obtain⟨e1,e2⟩:=cW 33 (.sc (.string s))
 generalize entry 34 [.sc (.string s)]=fr0 at *
 unfold au at *
 simp[f64,e1,e2,unP,g1,g2]
theorem ajC(s a b:ByteArray)(g1:au L run 65 [.sc (.string s)] (.tup [.sc (.string a),.sc (.string b),.sc (.bool true)]))(g2:au L run 111 [.sc (.string a)] (.sc (.bool true)))(g3:au L run 111 [.sc (.string b)] (.sc (.bool false))) :
  ∃ st,af (CC L) run k (f64.body.getD .skip) ⟨entry 34 [.sc (.string s)],[],[]⟩=some (.ret,st)∧aU TT st.fr st.hp f64.results.toList=some [.sc (.bool false)]:=by
 obtain⟨e1,e2⟩:=cW 33 (.sc (.string s))
 generalize entry 34 [.sc (.string s)]=fr0 at *
 unfold au at *
 simp[f64,e1,e2,unP,g1,g2,g3,undef]
theorem ajB(s a b g:ByteArray)(c:Int)(w1 w2:Bool)(h1:eD .neq a { data:=#[48] } = some (.bool w1))(h2:eD .eql g { data:=#[49] } = some (.bool w2))(g1:au L run 65 [.sc (.string s)] (.tup [.sc (.string a),.sc (.string b),.sc (.bool true)]))(g2:au L run 111 [.sc (.string a)] (.sc (.bool true)))(g3:au L run 111 [.sc (.string b)] (.sc (.bool true)))
  (g4:au L run 69 [.sc (.string b),.sc (.string { data:=#[50] })] (Ab.bz c)) (g5:au L run 112 [.sc (.string a),.sc (.string b)] (.sc (.string g))) :
  ∃ st,af (CC L) run k (f64.body.getD .skip) ⟨entry 34 [.sc (.string s)],[],[]⟩=some (.ret,st)∧aU TT st.fr st.hp f64.results.toList=some [.sc (.bool (w1 && (decide (0≤c) && w2)))]:=by
 obtain⟨e1,e2⟩:=cW 33 (.sc (.string s))
 generalize entry 34 [.sc (.string s)]=fr0 at *
 unfold au at *
 simp only[Ab.bz] at *
 cases w1 with
 | false=>simp[f64,e1,e2,unP,g1,g2,g3,h1,undef]
 | true =>
  by_cases hc:0≤c
  ·have hc2:(c ≥ 0)=True:=by simp[hc]
   simp[f64,e1,e2,unP,g1,g2,g3,g4,g5,h1,h2,hc]
  ·have hc2:(c ≥ 0)=False:=by simp only[ge_iff_le,hc]
   simp[f64,e1,e2,unP,g1,g2,g3,g4,h1,hc,undef]
theorem XP {L:Lst}(hL:bu L 65=fun a=>kT (aJ a))(run:ar)(s:ByteArray)(h9:(bys s).length<20000000):au L run 65 [.sc (.string s)] (.tup [.sc (.string (tx (spl (bys s)).1)),.sc (.string (tx (spl (bys s)).2.1)),.sc (.bool (spl (bys s)).2.2)]):=fun dr hp =>
 bw ko hL run dr hp _ [.sc (.string (tx (spl (bys s)).1)),.sc (.string (tx (spl (bys s)).2.1)),.sc (.bool (spl (bys s)).2.2)] rfl rfl (by have:=Gm (bys s) (mY s) h9;rwa [iO] at this)
theorem adz {L:Lst}(hL:bu L 111=fun a=>Sz (aJ a))(run:ar)(l:List Nat)(hl:Bok l)(h9:l.length<20000000):au L run 111 [.sc (.string (tx l))] (.sc (.bool (lM l))):=fun dr hp =>
 bw GC hL run dr hp _ [.sc (.bool (lM l))] rfl rfl (by
  have:l.length.blt 20000000=true:=by rw[Nat.blt_eq];exact h9
  simp only[Sz,jZ hl,this,cond_true])
theorem ahi {L:Lst}(hL:bu L 112=fun a=>um (aJ a))(run:ar)(x y:Int)(hx:Zm x)(hy:Zm y):au L run 112 [zs x,zs y] (zs ((Nat.gcd x.natAbs y.natAbs:Nat):Int)):=fun dr hp =>
 bw C7 hL run dr hp _ [zs ((Nat.gcd x.natAbs y.natAbs:Nat):Int)] rfl rfl (by simp only[um,cQ x hx,cQ y hy])
def IsQ (s:ByteArray):Prop:=∃ x:Rat,s=qb x
theorem x6:∀ {l:List Nat} {j:Nat},fS l=some j→l=l.take j++47::l.drop (j+1)
 | a::l,j,h=>by
  simp only[fS] at h
  cases e:a.beq 47 with
  | true =>
   rw[e] at h
   simp at h
   subst h
   rw[agM e];rfl
  | false =>
   rw[e] at h
   simp only[cond_false,Option.map_eq_some_iff] at h
   obtain⟨i,hi,rfl⟩:=h
   have:=x6 hi
   rw[take_succ_cons,drop_succ_cons,cons_append,← this]
theorem afW {s:ByteArray}(h:lM (spl (bys s)).1=false) : ¬ IsQ s:=by
 rintro⟨x,rfl⟩
 rw[lr,CM] at h
 cases h
theorem abK {s:ByteArray}(h0:(spl (bys s)).2.2=true)(h:lM (spl (bys s)).2.1=false) : ¬ IsQ s:=by
 rintro⟨x,rfl⟩
 rw[lr,CM] at h
 cases h
theorem KW {s:ByteArray}{z:Int}(h0:(spl (bys s)).2.2=false)(h:(spl (bys s)).1=ztx z):s=qb (z:Rat):=by
 unfold spl at h h0
 cases e:fS (bys s) with
 | some j=>rw[e] at h0;cases h0
 | none =>
  rw[e] at h
  simp only at h
  rw[← iO s,h,qb,Rat.num_intCast,Rat.den_intCast]
  rfl
theorem EM {s:ByteArray}{n d:Int}(h0:(spl (bys s)).2.2=true)(h1:(spl (bys s)).1=ztx n)(h2:(spl (bys s)).2.1=ztx d)(h3:2≤d)(h4:Nat.gcd n.natAbs d.natAbs=1):∃ x:Rat,s=qb x∧x.num=n∧(x.den:Int)=d:=by
 obtain⟨m,rfl⟩:=Int.eq_ofNat_of_zero_le (show 0≤d by omega)
 refine⟨⟨n,m,by omega,h4⟩,?_,rfl,rfl⟩
 unfold spl at h0 h1 h2
 cases e:fS (bys s) with
 | none=>rw[e] at h0;cases h0
 | some j =>
  rw[e] at h1 h2
  simp only at h1 h2
  rw[← iO s,x6 e,h1,h2,qb,qtx,if_neg (show ¬ ((m:Nat):Int)=1 by have:(2:Int)≤(m:Int):=h3;omega)]
theorem EN {s:ByteArray}{n d:Int}(h0:(spl (bys s)).2.2=true)(h1:(spl (bys s)).1=ztx n)(h2:(spl (bys s)).2.1=ztx d)(h:IsQ s):n≠0∧2≤d∧Nat.gcd n.natAbs d.natAbs=1:=by
 obtain⟨x,rfl⟩:=h
 rw[lr] at h0 h1 h2
 simp only[Bool.not_eq_true',decide_eq_false_iff_not] at h0
 have e1:=qv h1
 have e2:=qv h2
 have h3:=x.den_pos
 have h4:=x.reduced
 subst e1
 rw[← e2]
 refine⟨fun e => ?_,by omega,by simpa using h4⟩
 rw[e] at h4
 simp at h4
 omega
theorem JG {l:List Nat}{z:Int}(h:l=ztx z)(h9:l.length<2000000):Zm z:=by
 unfold Zm fX
 rw[← h];omega
def isF:List PV→Option (List PV):=ctr (fun s:ByteArray=>[.sc (.string s)]) (fun s=>(bys s).length<1000000) fun s=>[.sc (.bool (pB (IsQ s)))]
theorem afp (z:Int):eD .neq (tx (ztx z)) { data:=#[48] } = some (.bool (!decide (z=0))):=by
 have e:({ data:=#[48] } : ByteArray)=tx (ztx 0):=rfl
 rw[e,aa8]
 by_cases h:z=0
 ·subst h;simp
 ·rw[decide_eq_false h,decide_eq_false fun e2=>h (qv (Ie (lp z) (lp 0) e2))]
theorem abJ:Ab.Spec base.P 64 isF:=Ab.Spec.bM (C:=CC LQ1) (cP Jg) fun args rs h=>by
 obtain⟨s,h9,rfl,rfl⟩:=cN h
 have hl:=vp (bys s)
 have hB:=QR (mY s)
 have gs:=XP (L:=LQ1) rfl (runK (CC LQ1) 1) s (by omega)
 have ga:=adz (L:=LQ1) rfl (runK (CC LQ1) 1) (spl (bys s)).1 hB.1 (by omega)
 have gb:=adz (L:=LQ1) rfl (runK (CC LQ1) 1) (spl (bys s)).2.1 hB.2 (by omega)
 show ∃ k rs1 hp1 wr rs2 ids,_∧_∧WkL rs2 [.sc (.bool (pB (IsQ s)))]
 cases va:lM (spl (bys s)).1 with
 | false =>
  rw[va] at ga
  rw[jT (afW va)]
  obtain⟨st,x1,x2⟩:=ajE LQ1 (runK (CC LQ1) 1) 1 _ _ _ _ gs ga
  exact⟨2,_,_,_,_,_,aP po rfl x1 x2,rfl,Wk.refl rfl,trivial⟩
 | true =>
  rw[va] at ga
  obtain⟨n,hn⟩:=zi va
  cases hs:(spl (bys s)).2.2 with
  | false =>
   rw[hs] at gs
   rw[kz ⟨_,KW hs hn⟩]
   obtain⟨st,x1,x2⟩:=ajD LQ1 (runK (CC LQ1) 1) 1 _ _ _ gs ga
   exact⟨2,_,_,_,_,_,aP po rfl x1 x2,rfl,Wk.refl rfl,trivial⟩
  | true =>
   rw[hs] at gs
   cases vb:lM (spl (bys s)).2.1 with
   | false =>
    rw[vb] at gb
    rw[jT (abK hs vb)]
    obtain⟨st,x1,x2⟩:=ajC LQ1 (runK (CC LQ1) 1) 1 _ _ _ gs ga gb
    exact⟨2,_,_,_,_,_,aP po rfl x1 x2,rfl,Wk.refl rfl,trivial⟩
   | true =>
    rw[vb] at gb
    obtain⟨d,hd⟩:=zi vb
    have zn:=JG hn (by omega)
    have zd:=JG hd (by omega)
    have gc:=Ch (L:=LQ1) rfl (runK (CC LQ1) 1) d 2 zd (by unfold Zm;decide)
    have gg:=ahi (L:=LQ1) rfl (runK (CC LQ1) 1) n d zn zd
    rw[hn] at gs ga
    rw[hd] at gs gb
    obtain⟨st,x1,x2⟩:=ajB LQ1 (runK (CC LQ1) 1) 1 _ _ _ _ _ _ _ (afp n) (jy _) gs ga gb gc gg
    refine⟨2,_,_,_,_,_,aP po rfl x1 x2,rfl,?_,trivial⟩
    have e:pB (IsQ s)=(!decide (n=0) && (decide (0≤fO d 2) && decide (((Nat.gcd n.natAbs d.natAbs:Nat):Int)=1))):=by
     have hc:0≤fO d 2 ↔ 2≤d:=by
      unfold fO
      by_cases h1:d<2
      ·rw[if_pos h1];omega
      ·rw[if_neg h1];split <;> omega
     by_cases hq:IsQ s
     ·obtain⟨q1,q2,q3⟩:=EN hs hn hd hq
      rw[kz hq,decide_eq_false q1,decide_eq_true (hc.2 q2),q3];rfl
     ·rw[jT hq]
      by_cases q2:2≤d
      ·by_cases q3:Nat.gcd n.natAbs d.natAbs=1
       ·obtain⟨x,hx,-⟩:=EM hs hn hd q2 q3
        exact absurd ⟨x,hx⟩ hq
       ·have : ¬ (((Nat.gcd n.natAbs d.natAbs:Nat):Int)=1):=by omega
        rw[decide_eq_false this];simp
      ·rw[decide_eq_false fun e=>q2 (hc.1 e)];simp
    rw[e]
    exact Wk.refl rfl
theorem A9:base.F.get 98=some f98:=by kernel_rfl
theorem YZ:base.shared 98=false:=by kernel_rfl
def wxC:Code:=f98.body.getD .skip
def wxO:Code:=(aC (seq1 (ah 3 wxC))).getD .skip
def wxI:Code:=(aC wxO).getD .skip
def blk:Code→Code
 | .block _ c=>c
 | c=>c
def adQ:Code:=seq1 wxO
def adP:Code:=seq1 (cw wxO)
def Yv:Code:=seq1 (blk (seq1 (cw (cw wxO))))
def Yu:Code:=seq1 (cw (blk (seq1 (cw (cw wxO)))))
def PX:Code:=cw (cw (cw wxO))
theorem adO:wxO = .seq adQ (.seq adP (.seq (.block 1 (.seq Yv (.seq Yu (.block 2 (.loop wxI))))) PX)):=rfl
def WF (fr:List PV)(l:List Nat)(i:Nat):Prop:=fr.length=81∧nth fr 1 = .ptr 0 0∧nth fr 19=aQ l∧nth fr 20=iv l.length∧nth fr 21=iv i
theorem Yw(l:List Nat)(i:Nat)(h:WF fr l i)(h25:nth fr 25=iv 9) :
  ∃ fr',af (CC L) run k wxI ⟨fr,hp,wr⟩=some (.exit 2,⟨fr',hp,wr⟩)∧WF fr' l i∧nth fr' 3=nth fr 3:=by
 obtain⟨h0,h1,h19,h20,h21⟩:=h
 simp only[iv] at h25
 simp[WF,wxI,wxO,wxC,f98,ah,seq1,aC,and_assoc,h0,h1,h19,h20,h21,h25]
set_option maxHeartbeats 1000000 in
theorem LR(l out:List Nat)(i c x:Nat)(hx:x≤4294967295)(hc:c<9)(h9:out.length<90000000)(h:WF fr l i)(h25:nth fr 25=iv c)(h5:nth fr 5 = .sc (.int .u32 (x:Int)))(hO:dF u8v 1 hp out (nth fr 3)) :
  ∃ fr' hp' wr',af (CC L) run k wxI ⟨fr,hp,wr⟩=some (.normal,⟨fr',hp',wr'⟩)∧WF fr' l i∧nth fr' 25=iv (c+1)∧nth fr' 5 = .sc (.int .u32 ((x / 10:Nat):Int))∧dF u8v 1 hp' (out++[x % 10+48]) (nth fr' 3)∧aY hp' 0=aY hp 0:=by
 obtain⟨h0,h1,h19,h20,h21⟩:=h
 obtain⟨d,hd⟩:∃ d,d=x % 10:=⟨_,rfl⟩
 obtain⟨q,hq⟩:∃ q,q=x / 10:=⟨_,rfl⟩
 rw[← hd,← hq]
 have hd9:d<10:=by rw[hd];exact Nat.mod_lt _ (by decide)
 have hq9:q≤4294967295:=by rw[hq];exact Nat.le_trans (Nat.div_le_self _ _) hx
 have hw3:bE .u32 (q:Int)=(q:Int):=cG .u32 q (iZ hq9)
 clear hx hq9
 obtain⟨b,hb⟩:∃ b,b=d+48:=⟨_,rfl⟩
 have hb9:b≤255:=by clear hd hq;omega
 rw[← hb]
 obtain⟨p',hp',fp,g1,g2,g3⟩:=hO.app b (by clear hd hq;omega)
 have g4:=g3 0 (by decide)
 have hw1:bE .u32 (48+(d:Int))=(b:Int):=by rw[show (48+(d:Int))=(b:Int) by clear hd hq;omega];exact cG .u32 b (iZ (Nat.le_trans hb9 (by decide)))
 have hw2:bE .u8 (b:Int)=(b:Int):=cG .u8 b hb9
 have hw4:=bH c (Nat.lt_trans hc (by decide))
 have hc2:(c:Int)<9:=by clear hd hq;omega
 have htm:(x:Int).tmod 10=(d:Int):=by rw[hd];rfl
 have htq:(x:Int) / 10=(q:Int):=by rw[hq];rfl
 clear hd hq
 have hlX:=KY b
 simp only[iv] at h25 ⊢
 simp[WF,wxI,wxO,wxC,f98,ah,seq1,aC,bd,and_assoc,bh,lV,h0,h1,h19,h20,h21,h25,h5,hc2,htm,htq,u32,u8T,dS,hw1,hw2,hw3,hw4,hlX,Kq,tf,qF,sU8,bU8,zU8,cg,g1,g2,g4]
theorem Cx (L:Lst)(run:ar)(k:Nat)(l:List Nat)(i:Nat):∀ (n c x:Nat) (fr:List PV) (hp:List Blk) (wr out:List Nat),c+n=9→x≤4294967295→out.length+n<90000000→WF fr l i→nth fr 25=iv c→nth fr 5 = .sc (.int .u32 (x:Int))→dF u8v 1 hp out (nth fr 3) →
  ∃ (fr':List PV) (hp':List Blk) (wr':List Nat),cu (af (CC L) run k wxI) (n+1) ⟨fr,hp,wr⟩=some (.exit 2,⟨fr',hp',wr'⟩)∧WF fr' l i∧dF u8v 1 hp' (out++(T.di n x).map (· + 48)) (nth fr' 3)∧aY hp' 0=aY hp 0
 | 0,c,x,fr,hp,wr,out,hc,hx,h9,h,h25,h5,hO=>by
  have:c=9:=by omega
  subst this
  obtain⟨fr',q1,q2,q3⟩:=Yw L run k fr hp wr l i h h25
  refine⟨fr',hp,wr,bD q1,q2,?_,rfl⟩
  rw[q3]
  simpa [T.di] using hO
 | n+1,c,x,fr,hp,wr,out,hc,hx,h9,h,h25,h5,hO=>by
  obtain⟨fr1,hp1,wr1,q1,q2,q3,q4,q5,q6⟩:=LR L run k fr hp wr l out i c x hx (by omega) (by omega) h h25 h5 hO
  obtain⟨fr',hp',wr',s1,s2,s3,s4⟩:=Cx L run k l i n (c+1) (x / 10) fr1 hp1 wr1 _ (by omega) (Nat.le_trans (Nat.div_le_self _ _) hx) (by simp;omega) q2 q3 q4 q5
  refine⟨fr',hp',wr',by rw[ct q1];exact s1,s2,?_,by rw[s4,q6]⟩
  rw[append_assoc] at s3
  exact s3
theorem OX {C:Cfg}{run:ar}{k:Nat}{a b c:Code}{st st':St}(h:af C run k (.seq a b) st=some (.normal,st')):af C run k (.seq a (.seq b c)) st=af C run k c st':=by
 simp only[af] at h ⊢
 cases e:af C run k a st with
 | none=>rw[e] at h;cases h
 | some r =>
  obtain⟨x,s⟩:=r
  rw[e] at h
  cases x with
  | normal=>simp only at h ⊢;rw[h]
  | _=>simp at h
theorem Yt(l:List Nat)(h:WF fr l l.length) :
  ∃ fr',af (CC L) run k wxO ⟨fr,hp,wr⟩=some (.exit 0,⟨fr',hp,wr⟩)∧WF fr' l l.length∧nth fr' 3=nth fr 3:=by
 obtain⟨h0,h1,h19,h20,h21⟩:=h
 simp only[iv] at h20 h21
 simp[WF,iv,wxO,wxC,f98,ah,seq1,aC,and_assoc,h0,h1,h19,h20,h21]
theorem ahB(l:List Nat)(i:Nat)(hi:i<l.length)(h:WF fr l i) :
  ∃ fr1 fr',af (CC L) run k adQ ⟨fr,hp,wr⟩=some (.normal,⟨fr1,hp,wr⟩)∧af (CC L) run k adP ⟨fr1,hp,wr⟩=some (.normal,⟨fr1,hp,wr⟩)∧af (CC L) run k (.seq Yv Yu) ⟨fr1,hp,wr⟩=some (.normal,⟨fr',hp,wr⟩)∧WF fr' l i∧nth fr' 25=iv 0∧nth fr' 5 = .sc (.int .u32 (l[i]:Int))∧nth fr' 3=nth fr 3:=by
 obtain⟨h0,h1,h19,h20,h21⟩:=h
 have hd:=ff l i hi
 have e1:aQ l = .imm l.length false (l.map dg):=rfl
 have e2:dg l[i] = .sc (.int .u32 (l[i]:Int)):=rfl
 rw[e1] at h19
 rw[e2] at hd
 generalize l[i]=d at *
 simp only[iv] at h20 h21
 refine⟨dR fr 22 (.sc (.bool true)),?_⟩
 simp[WF,e1,iv,adQ,adP,Yv,Yu,blk,cw,wxO,wxC,f98,ah,seq1,aC,bg,bm,partOf,bd,and_assoc,h0,h1,h19,h20,h21,hi,hd,uD,s32,a32,aV]
theorem ahA(l:List Nat)(i:Nat)(hi:i<1000000)(h:WF fr l i) :
  ∃ fr',af (CC L) run k PX ⟨fr,hp,wr⟩=some (.normal,⟨fr',hp,wr⟩)∧WF fr' l (i+1)∧nth fr' 3=nth fr 3:=by
 obtain⟨h0,h1,h19,h20,h21⟩:=h
 have hw:=bH i (by omega)
 simp only[iv] at h20 h21
 simp[WF,iv,PX,cw,wxO,wxC,f98,ah,seq1,aC,and_assoc,h0,h1,h19,h20,h21,hw]
theorem Cw (L:Lst)(run:ar)(k:Nat)(hk:10≤k)(l:List Nat)(hl:Dok l)(h9:l.length<1000000):∀ (n i:Nat) (fr:List PV) (hp:List Blk) (wr out:List Nat),i+n=l.length→out.length=9*i→WF fr l i→dF u8v 1 hp out (nth fr 3) →
  ∃ (fr':List PV) (hp':List Blk) (wr':List Nat),cu (af (CC L) run k wxO) (n+1) ⟨fr,hp,wr⟩=some (.exit 0,⟨fr',hp',wr'⟩)∧WF fr' l l.length∧dF u8v 1 hp' (out++((l.drop i).flatMap (T.di 9)).map (· + 48)) (nth fr' 3)∧aY hp' 0=aY hp 0
 | 0,i,fr,hp,wr,out,hin,ho,h,hO=>by
  have:i=l.length:=by omega
  subst this
  obtain⟨fr',q1,q2,q3⟩:=Yt L run k fr hp wr l h
  refine⟨fr',hp,wr,bD q1,q2,?_,rfl⟩
  rw[q3]
  simpa using hO
 | n+1,i,fr,hp,wr,out,hin,ho,h,hO=>by
  have hi:i<l.length:=by omega
  obtain⟨fr1,fr2,a1,a2,a3,a4,a5,a6,a7⟩:=ahB L run k fr hp wr l i hi h
  have hd:=hl.get hi
  obtain⟨fr3,hp3,wr3,b1,b2,b3,b4⟩:=Cx L run k l i 9 0 l[i] fr2 hp wr out (by omega) (by omega) (by omega) a4 a5 a6 (by rw[a7];exact hO)
  obtain⟨fr4,c1,c2,c3⟩:=ahA L run k fr3 hp3 wr3 l i (by omega) b2
  have hgo:af (CC L) run k wxO ⟨fr,hp,wr⟩=some (.normal,⟨fr4,hp3,wr3⟩):=by
   rw[adO,av a1,av a2]
   have hb1:=bN (i:=2) (ca b1 hk)
   have hb2:af (CC L) run k (.seq Yv (.seq Yu (.block 2 (.loop wxI)))) ⟨fr1,hp,wr⟩=some (.normal,⟨fr3,hp3,wr3⟩):=by
    rw[OX a3];exact hb1
   rw[av (dH hb2)]
   exact c1
  obtain⟨fr',hp',wr',s1,s2,s3,s4⟩:=Cw L run k hk l hl h9 n (i+1) fr4 hp3 wr3 (out++(T.di 9 l[i]).map (· + 48)) (by omega) (by rw[length_append,length_map,T.dC];omega) c2 (by rw[c3];exact b3)
  refine⟨fr',hp',wr',by rw[ct hgo];exact s1,s2,?_,by rw[s4,b4]⟩
  rw[append_assoc] at s3
  rw[drop_eq_getElem_cons hi,flatMap_cons,map_append]
  exact s3
end Go.Proofs.YtjdmodeenbdfpaaGreat
end
