/- Contracts of the law and of what it calls, and facts about determinants, part 45 of the proof; each lemma states its own conditions. -/
import Derived.Test.YtjdmodeenbdfpaaGreatT41
import Derived.Test.YtjdmodeenbdfpaaGreatT44
import Derived.Test.YtjdmodeenbdfpaaGreatT38
import Derived.Test.YtjdmodeenbdfpaaGreatT32
import Derived.Test.YtjdmodeenbdfpaaGreatT39
set_option linter.unusedSimpArgs false
set_option linter.unusedVariables false
noncomputable section
namespace Go.Proofs.YtjdmodeenbdfpaaGreat
open Go Go.Ab List Tryz
variable(L:Lst)(run:ar)(k:Nat)(fr:List PV)(hp:List Blk)(wr:List Nat)
theorem Rk:base.shared 12=false:=by kernel_rfl
theorem ac2 {L:Lst}(hL:bu L 12=fun a=>iJ [] (aJ a))(run:ar):au L run 12 [] (.sc (.bool true)):=fun dr hp =>
 bw Rk hL run dr hp _ [.sc (.bool true)] rfl rfl rfl
theorem Io (P:List Rat):dn (qL P)=some P.length:=by simp[qL,pE,fg,dn]
theorem xQ (X:List (List Rat)):dn (qC X)=some X.length:=by simp[qC,cE,fg,dn]
theorem fC {L:Lst}{g:Nat}{f:List PV→Option (List PV)}(hs:base.shared g=false)(ho:bu L g=fun a=>f (aJ a))(run:ar)(dr:Bool)(hp:List Blk)(args args' a rs:List PV)(ids:List Nat)
  (h1:bq (snap hp bn) args=some (args',ids)) (h2:aJ args'=a) (h3:f a=some rs) (h4:rs.all eE=true):bX (CC L) run dr hp g args=some (jk rs,hp,⟨ids,[],false,false⟩):=by
 have h5:(CC L).orc g args'=some rs:=by
  show bu L g args'=_
  rw[ho];show f (aJ args')=_;rw[h2,h3]
 exact kl hs h1 h5 h4
theorem qw:eK TT 27=some [.sc (.string ⟨#[]⟩)]:=by kernel_rfl
theorem zPt:eK TT 39=some [.sc (.slice none 0 0)]:=by kernel_rfl
theorem Lx:ie TT 27=some 16:=by kernel_rfl
theorem abA (s:ByteArray):eL TT 39 1 [(0,.sc (.string s))]=some (1,[.sc (.string s)]):=by
 simp[eL,uPt,iQ,qw,rep,dA,cq,PV.cells?]
theorem aeo(s:ByteArray):ew hp 1 (.imm 1 true [.sc (.string s)])=some (1,[.sc (.string s)],[]):=by simp[ew]
theorem MR {L:Lst}(hr:bu L 59=fun a=>pU (aJ a))(hs:bu L 60=fun a=>xp (aJ a))(X:List (List Rat))(l:List Nat)(hne:l≠[])(h9:l.length≤1000)(hin:∀ i ∈ l,i<X.length){m:Nat}(hm:m≤1000)(hE:vj m 1000 X)(k:Nat)(hk:l.length≤k) :
  ∃ p hp wr,runK (CC L) (k+1) 51 [qC X,aN l] []=some ([p],hp,wr)∧fe 1 eT 0 hp (dj X l) p:=by
 cases l with
 | nil=>exact absurd rfl hne
 | cons j l =>
  have hj:=hin j mem_cons_self
  have hEj:=hE _ (getElem_mem hj)
  obtain⟨fr,fr1,a1,a2,a3,a4⟩:=Wr L (runK (CC L) k) k X j l hj (pn hr _ _ hEj.2 (by omega))
  obtain⟨fr2,hp2,wr2,b1,b2,b3⟩:=B5 L (runK (CC L) k) k X l X[j] (by simp at h9;omega) (fun i hi=>by
   have h1:=hin i (mem_cons_of_mem _ hi)
   have hEi:=hE _ (getElem_mem h1)
   exact⟨h1,pn hr _ _ hEi.2 (by omega),Ji hs _ true true _ _ hEi.2 hEj.2 (by omega) (by omega) (by omega) (by omega)⟩) l.length 0 fr1 [] [] [] (by omega) rfl (by rw[a4];exact fe.nil (Nat.le_refl _)) a3
  have hL:af (CC L) (runK (CC L) k) k (.seq Ws (.block 0 (.loop dfB))) ⟨fr,[],[]⟩=some (.normal,⟨fr2,hp2,wr2⟩):=by
   rw[av a2];exact bN (ca b1 (by simp at hk;omega))
  obtain⟨st,c1,c2,c3⟩:=Lr L (runK (CC L) k) k fr2 hp2 wr2 _ b2 rfl
  have hx:af (CC L) (runK (CC L) k) k dfC ⟨entry 35 [qC X,aN (j::l)],[],[]⟩=some (.ret,st):=by
   rw[aO 3 a1,Wp,av hL,c1]
  have e:(dj X (j::l))=l.map (fun i=>dy (X.getD i []) X[j]):=by
   unfold dj
   simp only[tail_cons,headD_cons,getD_eq_getElem?_getD,getElem?_eq_getElem hj,Option.getD_some]
  refine⟨_,_,_,aP yE rfl hx c3,?_⟩
  rw[c2,e]
  exact b3
theorem IV {L:Lst}(hno:bu L 51=fun _=>none)(hr:bu L 59=fun a=>pU (aJ a))(hs:bu L 60=fun a=>xp (aJ a))(X:List (List Rat))(l:List Nat)(hne:l≠[])(h9:l.length≤1000)(hin:∀ i ∈ l,i<X.length){m:Nat}(hm:m≤1000)(hE:vj m 1000 X)(k:Nat)(hk:l.length≤k)(dr:Bool)(hp:List Blk) :
  ∃ p hp' fp,bX (CC L) (runK (CC L) (k+1)) dr hp 51 [qC X,aN l]=some (p,hp',fp)∧fe 1 eT hp.length hp' (dj X l) p∧(∀ i,i<hp.length→aY hp' i=aY hp i):=by
 obtain⟨p,hp1,wr,h1,hb,h2⟩:=MR hr hs X l hne h9 hin hm hE k hk
 have h3:bq (snap hp bn) [qC X,aN l]=some ([qC X,aN l],[]):=rfl
 have h4:(CC L).orc 51 [qC X,aN l]=none:=by show bu L 51 _=_;rw[hno]
 have h5:(CC L).shared 51=false:=Dc
 unfold bX
 rw[h5,if_neg (by simp),h3]
 dsimp only
 rw[h4]
 dsimp only
 rw[h1]
 dsimp only
 rcases h2 with ⟨hd,rfl⟩| ⟨id,M,x,-,-,rfl,hx,h6⟩
 ·have h8:eh hp1 [] [] [] [.sc (.slice none 0 0)]=some ([.sc (.slice none 0 0)],[]):=by
   simp[eh,snap,bn]
  rw[h8]
  exact⟨_,_,_,rfl,by rw[hd];exact fe.nil (Nat.le_refl _),fun _ _=>rfl⟩
 ·have h7:bq (snap hp1 bn) ((dj X l++M).flatMap eT)=some ((dj X l++M).flatMap eT,[]):=acn.sns hp1 _ _
  have h8:eh hp1 [] [] [] [.own id 1 0 (dj X l).length x]=some ([.own 0 1 0 (dj X l).length x],[⟨.live,(dj X l++M).flatMap eT⟩]):=by
   simp[eh,h6,h7,-flatMap_append]
  rw[h8]
  refine⟨.own hp.length 1 0 (dj X l).length x,hp++[⟨.live,(dj X l++M).flatMap eT⟩],_,rfl,⟨by simp,.inr ⟨hp.length,M,x,Nat.le_refl _,by simp,rfl,hx,?_⟩⟩,fun i hi => ?_⟩
  ·rw[cZ,getElem?_append_right (Nat.le_refl _)];simp
  ·rw[cZ,cZ,getElem?_append_left hi]
def eG (hp:List Blk)(p:PV)(X:List Rat):Prop:=p=dp true X∨∃ id,p = .own id 4 0 X.length true∧aY hp id=some ⟨.live,X.flatMap rcs⟩
theorem FY:base.F.get 53=some f53:=by kernel_rfl
theorem ME:base.shared 53=true:=by kernel_rfl
theorem qp:base.F.get 52=some f52:=by kernel_rfl
theorem wD:base.shared 52=true:=by kernel_rfl
theorem xA (X:List Rat)(i:Nat)(hi:i<X.length):bF (br (X.flatMap rcs) (i*4)) 4=some (rcs X[i]):=by
 have h:=lh cD.toEl X i hi
 rw[h,dh (by rw[length_append,cD.len];omega)]
 have hl:=cD.len X[i]
 generalize rcs X[i]=c at *
 rw[← hl,take_left]
theorem R2 (L:Lst)(run:ar)(k0:Nat)(hp:List Blk)(v:PV)(X:List Rat)(k b:Nat)(s:Int)(hv:eG hp v X)(hk:k<X.length)(hb:aY hp b=some ⟨.live,[iv k]⟩)(g:au L run 49 [.agg (rcs X[k])] (Ab.bz s)) :
  ∃ st,af (CC L) run k0 (f53.body.getD .skip) ⟨entry 10 [v,.ptr b 0],hp,[]⟩=some (.ret,st)∧st.hp=hp∧st.wr=[]∧aU TT st.fr st.hp f53.results.toList=some [.sc (.bool (s != 0))]:=by
 obtain⟨e1,e2,e3⟩:=cn 8 v (.ptr b 0)
 generalize entry 10 [v,.ptr b 0]=fr0 at *
 unfold au at g
 simp only[Ab.bz] at g
 have hok:=cD.okc X[k]
 have hlen:=cD.len X[k]
 rcases hv with rfl | ⟨id,rfl,hid⟩
 ·obtain⟨r,x1,x2⟩:=od true X k hk
  generalize rcs X[k]=c at *
  simp only[iv] at hb
  simp[f53,e1,e2,e3,af,aH,ao,aq,aG,ag,ai,aL,an,aj,aF,aA,FzZ,bc,aw,bj,az,partOf,aa,ae,ab,bd,hb,x1,x2,g,sI,aI,aR,sR,aV,br,aU]
 ·have x1:=tc id X.length k true hk
  have x2:=xA X k hk
  generalize rcs X[k]=c at *
  simp only[iv] at hb
  simp[f53,e1,e2,e3,af,aH,ao,aq,aG,ag,ai,aL,an,aj,aF,aA,FzZ,bc,aw,bj,az,partOf,aa,ae,ab,bd,hb,hid,x1,x2,g,sI,aI,aR,sR,aV,br,aU]
theorem Zp (L:Lst)(k0:Nat)(hp:List Blk)(v:PV)(X:List Rat)(k b:Nat)(s:Int)(hv:eG hp v X)(hk:k<X.length)(hb:aY hp b=some ⟨.live,[iv k]⟩)(g:au L (runK (CC L) k0) 49 [.agg (rcs X[k])] (Ab.bz s)):runK (CC L) (k0+1) 53 [v,.ptr b 0] hp=some ([.sc (.bool (s != 0))],hp,[]):=by
 obtain⟨st,x1,x2,x3,x4⟩:=R2 L (runK (CC L) k0) k0 hp v X k b s hv hk hb g
 have:=jz FY rfl x1 x4
 rw[x2,x3] at this
 exact this
theorem R3 (L:Lst)(k0:Nat)(hp:List Blk)(v:PV)(X:List Rat)(k b:Nat)(s:Int)(hv:eG hp v X)(hk:k<X.length)(hb:aY hp b=some ⟨.live,[iv k]⟩)(g:au L (runK (CC L) k0) 49 [.agg (rcs X[k])] (Ab.bz s))(dr:Bool):bX (CC L) (runK (CC L) (k0+1)) dr hp 53 [v,.ptr b 0]=some (.sc (.bool (s != 0)),hp,⟨[],[],true,true⟩) :=
 mo ME (Zp L k0 hp v X k b s hv hk hb g) rfl dr
def vfC:Code:=f52.body.getD .skip
def vfB:Code:=(aC vfC).getD .skip
def VfF (fr:List PV)(p f:PV)(n i:Nat):Prop:=fr.length=19∧nth fr 0=p∧nth fr 1=f∧nth fr 7=iv n∧nth fr 8=iv i
theorem P8(p f:PV)(n:Nat)(h:VfF fr p f n n) :
  ∃ fr',af (CC L) run k vfB ⟨fr,hp,[]⟩=some (.exit 0,⟨fr',hp,[]⟩)∧fr'.length=19:=by
 obtain⟨h0,h1,h2,h7,h8⟩:=h
 simp only[iv] at h7 h8
 simp[vfB,vfC,f52,aC,af,aH,ao,aq,aG,ag,ai,an,aj,aF,aA,FzZ,bc,aw,bj,aa,ab,h0,h7,h8]
theorem P6(mid off n:Nat)(x:Bool)(ps:List PV)(g:Nat)(caps:List PV)(i:Nat)(w:PV)(v:Bool)(hi:i<n)(h9:n<1000000)(hm:aY hp mid=some ⟨.live,ps⟩)(hd:(br ps (off+i)).head?=some w)(hok:dk w=true)(hc:∀ dr,bX (CC L) run dr hp g ([w]++caps)=some (.sc (.bool v),hp,⟨[],[],true,true⟩))(h:VfF fr (.own mid 1 off n x) (.clos g caps) n i) :
  ∃ fr',af (CC L) run k vfB ⟨fr,hp,[]⟩=some (bif v then .ret else .normal,⟨fr',hp,[]⟩)∧(v=true→nth fr' 4=iv i)∧(v=false→VfF fr' (.own mid 1 off n x) (.clos g caps) n (i+1)):=by
 obtain⟨h0,h1,h2,h7,h8⟩:=h
 have x1:bg TT 80 (.own mid 1 off n x) (.sc (.int .i64 (i:Int)))=some (.ptr mid (off+i)):=by
  simp only[bg,kO,bm,pM,hi,if_true,Nat.mul_one,and_self]
 have hw:=bH i (by omega)
 simp only[iv] at h7 h8
 simp only[cons_append,nil_append] at hc
 cases v <;> simp[VfF,iv,vfB,vfC,f52,aC,af,aH,ao,aq,aG,ag,ai,aL,an,aj,aF,aA,FzZ,bc,aw,bj,az,partOf,aa,ae,ab,bd,h0,h1,h2,h7,h8,hi,x1,hm,hd,hc,hw,Xy,pM,aV]
theorem JO (L:Lst)(run:ar)(k:Nat)(hp:List Blk)(mid off len:Nat)(x:Bool)(ps:List PV)(g:Nat)(caps:List PV)(w:Nat→PV)(b:Nat→Bool)(h9:len<1000000)(hm:aY hp mid=some ⟨.live,ps⟩)(hc:∀ i,i<len→(br ps (off+i)).head?=some (w i)∧dk (w i)=true∧∀ dr,bX (CC L) run dr hp g ([w i]++caps)=some (.sc (.bool (b i)),hp,⟨[],[],true,true⟩)):∀ (n i:Nat) (fr:List PV),i+n=len→(∀ t,t<i→b t=false)→VfF fr (.own mid 1 off len x) (.clos g caps) len i →
  ((∀ t,t<len→b t=false)∧∃ fr',cu (af (CC L) run k vfB) (n+1) ⟨fr,hp,[]⟩=some (.exit 0,⟨fr',hp,[]⟩)∧fr'.length=19)∨∃ fr' j,j<len∧b j=true∧(∀ t,t<j→b t=false)∧cu (af (CC L) run k vfB) (n+1) ⟨fr,hp,[]⟩=some (.ret,⟨fr',hp,[]⟩)∧nth fr' 4=iv j
 | 0,i,fr,hin,hb,h=>by
  have e:i=len:=by omega
  subst e
  obtain⟨fr',q1,q2⟩:=P8 L run k fr hp _ _ i h
  exact .inl ⟨hb,fr',bD q1,q2⟩
 | n+1,i,fr,hin,hb,h=>by
  have hi:i<len:=by omega
  obtain⟨c1,c2,c3⟩:=hc i hi
  obtain⟨fr1,q1,q2,q3⟩:=P6 L run k fr hp mid off len x ps g caps i (w i) (b i) hi h9 hm c1 c2 c3 h
  cases hv:b i with
  | true =>
   rw[hv] at q1 q2
   exact .inr ⟨fr1,i,hi,hv,hb,eM q1,q2 rfl⟩
  | false =>
   rw[hv] at q1 q3
   rw[ct q1]
   exact JO L run k hp mid off len x ps g caps w b h9 hm hc n (i+1) fr1 (by omega) (fun t ht=>by
    by_cases e:t=i
    ·rw[e];exact hv
    ·exact hb t (by omega)) (q3 rfl)
def LW:Code:=seq1 (seq1 (ah 1 vfC))
theorem Gd:ah 1 vfC = .seq (.seq LW (.block 0 (.loop vfB))) (ah 2 vfC):=rfl
theorem P7 (L:Lst)(run:ar)(k:Nat)(p f:PV)(n:Nat)(hl:dn p=some n)(hp:List Blk):∃ fr fr',aX (CC L) run k 1 vfC ⟨entry 19 [p,f],hp,[]⟩=some ⟨fr,hp,[]⟩∧af (CC L) run k LW ⟨fr,hp,[]⟩=some (.normal,⟨fr',hp,[]⟩)∧VfF fr' p f n 0:=by
 obtain⟨e1,e2,e3⟩:=cn 17 p f
 generalize entry 19 [p,f]=fr0 at *
 obtain⟨fr,a1,a2,a3,a4⟩:∃ fr,aX (CC L) run k 1 vfC ⟨fr0,hp,[]⟩=some ⟨fr,hp,[]⟩∧fr.length=19∧nth fr 0=p∧nth fr 1=f:=by
  simp[vfC,f52,aX,e1,e2,e3,af,aH,ao,aq,aG,ag,ai,an,aj,aF,aA,FzZ,az,ae,ab]
 refine⟨fr,?_⟩
 rw[a1]
 simp[VfF,iv,LW,seq1,ah,vfC,f52,a2,a3,a4,af,aH,ao,aq,aG,ag,ai,an,aj,aF,aA,FzZ,az,bO,aa,ae,ab,bd,hl,kO]
theorem JN(h0:fr.length=19):∃ st,af (CC L) run k (ah 2 vfC) ⟨fr,hp,[]⟩=some (.ret,st)∧st.hp=hp∧st.wr=[]∧aU TT st.fr st.hp f52.results.toList=some [.sc (.int .i64 (-1))]:=by
 simp[vfC,ah,f52,h0,af,aH,ao,aq,aG,ag,ai,an,aj,aF,aA,FzZ,az,aa,aU]
theorem adU(n:Nat)(h:nth fr 4=iv n):aU TT fr hp f52.results.toList=some [iv n]:=by
 simp[f52,aU,h]
theorem adT(mid off len:Nat)(x:Bool)(ps:List PV)(g:Nat)(caps:List PV)(w:Nat→PV)(b:Nat→Bool)(hk:len<k)(h9:len<1000000)(hm:aY hp mid=some ⟨.live,ps⟩)(hc:∀ i,i<len→(br ps (off+i)).head?=some (w i)∧dk (w i)=true∧∀ dr,bX (CC L) (runK (CC L) k) dr hp g ([w i]++caps)=some (.sc (.bool (b i)),hp,⟨[],[],true,true⟩)) :
  ((∀ t,t<len→b t=false)∧runK (CC L) (k+1) 52 [.own mid 1 off len x,.clos g caps] hp=some ([.sc (.int .i64 (-1))],hp,[]))∨∃ j,j<len∧b j=true∧(∀ t,t<j→b t=false)∧runK (CC L) (k+1) 52 [.own mid 1 off len x,.clos g caps] hp=some ([iv j],hp,[]):=by
 obtain⟨fr,fr1,a1,a2,a3⟩:=P7 L (runK (CC L) k) k (.own mid 1 off len x) (.clos g caps) len rfl hp
 rcases JO L (runK (CC L) k) k hp mid off len x ps g caps w b h9 hm hc len 0 fr1 (by omega) (fun t ht=>by omega) a3 with ⟨h0,fr2,b1,b2⟩| ⟨fr2,j,hj,hbj,hlt,b1,b2⟩
 ·have:af (CC L) (runK (CC L) k) k (.seq LW (.block 0 (.loop vfB))) ⟨fr,hp,[]⟩=some (.normal,⟨fr2,hp,[]⟩):=by
   rw[av a2];exact bN (ca b1 (by omega))
  obtain⟨st,c1,c2,c3,c4⟩:=JN L (runK (CC L) k) k fr2 hp b2
  have hx:af (CC L) (runK (CC L) k) k vfC ⟨entry 19 [.own mid 1 off len x,.clos g caps],hp,[]⟩=some (.ret,st):=by
   rw[aO 1 a1,Gd,av this,c1]
  have:=jz qp rfl hx c4
  rw[c2,c3] at this
  exact .inl ⟨h0,this⟩
 ·have:af (CC L) (runK (CC L) k) k (.seq LW (.block 0 (.loop vfB))) ⟨fr,hp,[]⟩=some (.ret,⟨fr2,hp,[]⟩):=by
   rw[av a2];exact df (ca b1 (by omega))
  have hx:af (CC L) (runK (CC L) k) k vfC ⟨entry 19 [.own mid 1 off len x,.clos g caps],hp,[]⟩=some (.ret,⟨fr2,hp,[]⟩):=by
   rw[aO 1 a1,Gd,cC this]
  have:=jz qp rfl hx (adU fr2 hp j b2)
  exact .inr ⟨j,hj,hbj,hlt,this⟩
end Go.Proofs.YtjdmodeenbdfpaaGreat
namespace Go.Ab
open Go List
def pK:List Oper→Nat→Bool
 | [],_=>false
 | o::r,t=>(match o.dst with
  | some d=>d.beq t
  | none=>false) || pK r t
def dQ:Code→Nat→Bool
 | .region _ ops _,t=>pK ops.toList t
 | .seq a b,t=>dQ a t || dQ b t
 | .cond _ a b,t=>dQ a t || dQ b t
 | .block _ b,t=>dQ b t
 | .loop b,t=>dQ b t
 | .scope b,t=>dQ b t
 | _,_=>false
def fD (w:Nat→Bool)(f g:List PV):Prop:=g.length=f.length∧∀ t,w t=false→nth g t=nth f t
theorem fD.refl (w:Nat→Bool)(f:List PV):fD w f f:=⟨rfl,fun _ _=>rfl⟩
theorem fD.trans {w:Nat→Bool}{f g h:List PV}(a:fD w f g)(b:fD w g h):fD w f h :=
 ⟨b.1.trans a.1,fun t ht=>(b.2 t ht).trans (a.2 t ht)⟩
theorem fD.mono {w v:Nat→Bool}{f g:List PV}(a:fD w f g)(h:∀ t,v t=false→w t=false):fD v f g :=
 ⟨a.1,fun t ht=>a.2 t (h t ht)⟩
theorem fD.len {w:Nat→Bool}{f g:List PV}{n:Nat}(a:fD w f g)(h:f.length=n):g.length=n:=a.1.trans h
theorem fD.at {w:Nat→Bool}{f g:List PV}{t:Nat}{v:PV}(a:fD w f g)(h:nth f t=v)(hw:w t=false):nth g t=v:=(a.2 t hw).trans h
theorem xV {C:Cfg}{run:ar}{dr:Bool}{ops:Array Oper} : ∀ (l:List Oper) {st st':St} {fps:List FP},ao C run dr ops l st=some (st',fps)→fD (pK l) st.fr st'.fr
 | [],st,st',fps,h=>by
  simp only[ao,OiE,PiE] at h
  rw[← h.1];exact fD.refl _ _
 | o::r,st,st',fps,h=>by
  unfold ao at h
  cases h1:aq C run dr ops o st with
  | none=>rw[h1] at h;cases h
  | some x =>
   obtain⟨st1,fp⟩:=x
   rw[h1] at h
   dsimp only at h
   cases h2:ao C run dr ops r st1 with
   | none=>rw[h2] at h;cases h
   | some y =>
    obtain⟨st2,fs⟩:=y
    rw[h2] at h
    simp only[OiE,PiE] at h
    rw[← h.1]
    have ih:=xV r h2
    unfold aq at h1
    split at h1
    ·simp only[OiE,PiE] at h1
     rw[← h1.1] at ih
     refine⟨?_,fun t ht => ?_⟩
     ·rw[ih.1]
      dsimp only[aF]
      split
      ·rw[j6];simp
      ·rfl
     ·simp only[pK,Bool.or_eq_false_iff] at ht
      rw[ih.2 t ht.2]
      dsimp only[aF]
      cases hd:o.dst with
      | none=>rfl
      | some d =>
       rw[hd] at ht
       dsimp only at ht ⊢
       exact kD (fun e=>by rw[e] at ht;simp at ht)
    ·cases h1
theorem M9 {C:Cfg}{run:ar}{ops:Array Oper}{dr:Bool}{st st':St}(h:aH C run ops dr st=some st'):fD (pK ops.toList) st.fr st'.fr:=by
 unfold aH at h
 cases h1:ao C run dr ops ops.toList st with
 | none=>rw[h1] at h;cases h
 | some x =>
  obtain⟨st1,fps⟩:=x
  rw[h1] at h
  dsimp only at h
  have hk:=xV _ h1
  have:st1=st':=by
   cases dr with
   | false=>simpa using h
   | true =>
    simp only[cond_true] at h
    split at h
    ·simpa using h
    ·simpa using h
    ·cases hp:cH (Region.before ops) (number 0 fps) <;> rw[hp] at h
     ·cases h
     ·simpa using h
  rw[← this];exact hk
theorem AD {w:Nat→Bool}{f:St→Option (Ex × St)}(hf:∀ {st e st'},f st=some (e,st')→fD w st.fr st'.fr):∀ (n:Nat) {st st':St} {e:Ex},cu f n st=some (e,st')→fD w st.fr st'.fr
 | 0,_,_,_,h=>by cases h
 | n+1,st,st',e,h=>by
  unfold cu at h
  split at h
  ·rename_i st1 h1
   exact (hf h1).trans (AD hf n h)
  ·exact hf h
theorem bJ {C:Cfg}{run:ar}{n:Nat} : ∀ (c:Code) {st st':St} {e:Ex},af C run n c st=some (e,st')→fD (dQ c) st.fr st'.fr
 | .skip,st,st',e,h=>by
  simp only[af,OiE,PiE] at h;rw[← h.2];exact fD.refl _ _
 | .label _,st,st',e,h=>by
  simp only[af,OiE,PiE] at h;rw[← h.2];exact fD.refl _ _
 | .region _ ops dr,st,st',e,h=>by
  unfold af at h
  split at h
  ·rename_i st1 h1
   simp only[OiE,PiE] at h
   rw[← h.2];exact M9 h1
  ·cases h
 | .seq a b,st,st',e,h=>by
  unfold af at h
  split at h
  ·rename_i st1 h1
   exact ((bJ a h1).mono fun t ht=>by simp only[dQ,Bool.or_eq_false_iff] at ht;exact ht.1).trans ((bJ b h).mono fun t ht=>by simp only[dQ,Bool.or_eq_false_iff] at ht;exact ht.2)
  ·exact (bJ a h).mono fun t ht=>by simp only[dQ,Bool.or_eq_false_iff] at ht;exact ht.1
 | .cond c a b,st,st',e,h=>by
  unfold af at h
  split at h
  ·exact (bJ a h).mono fun t ht=>by simp only[dQ,Bool.or_eq_false_iff] at ht;exact ht.1
  ·exact (bJ b h).mono fun t ht=>by simp only[dQ,Bool.or_eq_false_iff] at ht;exact ht.2
  ·cases h
 | .block id b,st,st',e,h=>by
  unfold af at h
  split at h
  ·rename_i i st1 h1
   have:=bJ b h1
   split at h <;> simp only[OiE,PiE] at h <;> rw[← h.2] <;> exact this
  ·exact bJ b h
 | .loop b,st,st',e,h=>by
  unfold af at h
  exact AD (fun h=>bJ b h) n h
 | .scope b,st,st',e,h=>by
  unfold af at h
  exact bJ b h
 | .exit id,st,st',e,h=>by
  simp only[af,OiE,PiE] at h;rw[← h.2];exact fD.refl _ _
 | .ret,st,st',e,h=>by
  simp only[af,OiE,PiE] at h;rw[← h.2];exact fD.refl _ _
 | .rangeFunc ..,st,st',e,h=>by simp[af] at h
theorem E0 {f:St→Option (Ex × St)}{e n:Nat}{Inv:Nat→St→Prop}{Q:St→Prop}(go:∀ i st,i<n→Inv i st→∃ st',f st=some (.normal,st')∧Inv (i+1) st')(stop:∀ st,Inv n st→∃ st',f st=some (.exit e,st')∧Q st'):∀ (d i:Nat) {st:St},i+d=n→Inv i st→∃ st',cu f (d+1) st=some (.exit e,st')∧Q st'
 | 0,i,st,hi,h=>by
  obtain⟨st',h1,h2⟩:=stop st (by rw[show n=i by omega];exact h)
  exact⟨st',bD h1,h2⟩
 | d+1,i,st,hi,h=>by
  obtain⟨st1,h1,h2⟩:=go i st (by omega) h
  obtain⟨st',h3,h4⟩:=E0 go stop d (i+1) (by omega) h2
  exact⟨st',by rw[ct h1];exact h3,h4⟩
theorem x9 {C:Cfg}{run:ar}{k e n:Nat}{b:Code}{Inv:Nat→St→Prop}{Q:St→Prop}(hk:n<k)(go:∀ i st,i<n→Inv i st→∃ st',af C run k b st=some (.normal,st')∧Inv (i+1) st')(stop:∀ st,Inv n st→∃ st',af C run k b st=some (.exit e,st')∧Q st'){st:St}(h:Inv 0 st):∃ st',af C run k (.block e (.loop b)) st=some (.normal,st')∧Q st':=by
 obtain⟨st',h1,h2⟩:=E0 go stop n 0 (by omega) h
 exact⟨st',bN (ca h1 (by omega)),h2⟩
end Go.Ab
namespace Go.Proofs.YtjdmodeenbdfpaaGreat
open Go Go.Ab List Tryz
variable(L:Lst)(run:ar)(k:Nat)(fr:List PV)(hp:List Blk)(wr:List Nat)
theorem qn:base.F.get 17=some f17:=by kernel_rfl
theorem Q9:base.shared 17=false:=by kernel_rfl
def nkC:Code:=f17.body.getD .skip
def nkB:Code:=(aC nkC).getD .skip
def nkI:Code:=blk (seq1 (ah 2 nkB))
def iB:Code:=(aC (ah 7 nkI)).getD .skip
def nkJ:Code:=blk (seq1 (ah 2 iB))
def nkT:Code:=kI (ah 2 nkJ)
def pq:Code:=(aC (seq1 (ah 2 nkT))).getD .skip
def KM:Code:=seq1 (blk (seq1 (ah 2 pq)))
def Au:Code:=cw (blk (seq1 (ah 2 pq)))
def vi (hp:List Blk)(mid:Nat)(p:PV)(X:List Rat):Prop:=p=dp true X∨∃ id,id≠mid∧p = .own id 4 0 X.length true∧aY hp id=some ⟨.live,X.flatMap rcs⟩
theorem vi.at {hp:List Blk}{mid:Nat}{p:PV}{X:List Rat}(h:vi hp mid p X):eG hp p X:=by
 rcases h with h | ⟨id,-,h1,h2⟩
 ·exact .inl h
 ·exact .inr ⟨id,h1,h2⟩
theorem eO {hp:List Blk}{i:Nat}{b:Blk}(h:aY hp i=some b):i<hp.length:=by
 rw[cZ] at h
 exact (List.getElem?_eq_some_iff.1 h).1
theorem vi.mono {hp hp':List Blk}{mid:Nat}{p:PV}{X:List Rat}(h:vi hp mid p X)(hh:∀ i,i<hp.length→i≠mid→aY hp' i=aY hp i):vi hp' mid p X:=by
 rcases h with h | ⟨id,h0,h1,h2⟩
 ·exact .inl h
 ·exact .inr ⟨id,h0,h1,by rw[hh id (eO h2) h0,h2]⟩
theorem eG.len {hp:List Blk}{p:PV}{X:List Rat}(h:eG hp p X):dn p=some X.length:=by
 rcases h with rfl | ⟨id,rfl,-⟩ <;> rfl
theorem eG.ok {hp:List Blk}{p:PV}{X:List Rat}(h:eG hp p X):dk p=true:=by
 rcases h with rfl | ⟨id,rfl,-⟩ <;> rfl
theorem eG.cells {hp:List Blk}{p:PV}{X:List Rat}(h:eG hp p X):p.cells?=some [p]:=by
 rcases h with rfl | ⟨id,rfl,-⟩ <;> rfl
theorem eG.ix {hp:List Blk}{p:PV}{X:List Rat}(h:eG hp p X)(i:Nat)(hi:i<X.length):∃ a r ids,bg TT 84 p (.sc (.int .i64 (i:Int)))=some a∧aV hp a=some (r,ids)∧bF r 4=some (rcs X[i]):=by
 rcases h with rfl | ⟨id,rfl,hid⟩
 ·obtain⟨r,x1,x2⟩:=od true X i hi
  exact⟨_,r,[],x1,rfl,x2⟩
 ·refine⟨_,_,[id],tc id X.length i true hi,?_,xA X i hi⟩
  simp only[aV,hid]
  rw[if_neg (by simp)]
theorem ae1(p:PV)(X:List Rat)(j:Nat)(hj:j<X.length)(hv:eG hp p X)(h0:fr.length=126)(h98:nth fr 98=p)(h100:nth fr 100=iv j) :
  ∃ fr' wr',af (CC L) run k KM ⟨fr,hp,wr⟩=some (.normal,⟨fr',bZ (aM hp rz) hp.length ⟨.live,rcs X[j]⟩,wr'⟩)∧nth fr' 16=iv j∧nth fr' 17 = .ptr hp.length 0:=by
 obtain⟨a,r,ids,x1,x2,x3⟩:=hv.ix j hj
 have hx:=al1 hp rz
 have hx1:=dW rz (rcs X[j]) (by rw[cD.len];rfl)
 have hok:=cD.okc X[j]
 have hlx:=cD.len X[j]
 have zR':=zRz
 generalize rcs X[j]=cx at *
 simp only[iv] at h100
 simp[iv,KM,pq,nkT,nkJ,iB,nkI,nkB,nkC,f17,ah,seq1,kI,blk,aC,af,aH,ao,aq,aG,ag,ai,an,aj,aF,aA,FzZ,partOf,aa,ae,ab,bd,and_assoc,bp,h0,h98,h100,x1,x2,x3,hx,hx1,hok,hlx,zR',aR,sR]
theorem afj:((Region.before (fx Au))[11]?.getD 0)=2047:=by kernel_rfl
theorem I7 {hp:List Blk}{id:Nat}{cs:List PV}(h:aY hp id=some ⟨.live,cs⟩):aV hp (.ptr id 0)=some (cs,[id]):=by
 simp[aV,h,br]
theorem ae0(p:PV)(P:List Rat)(c fb wb n m j:Nat)(f x:Rat)(A:List PV)(hj:j<P.length)(hn:P.length=n)(hp':eG hp p P)(hc:aY hp c=some ⟨.live,rcs x⟩)(hf:aY hp fb=some ⟨.live,rcs f⟩)(hw:aY hp wb=some ⟨.live,A++rep (m+1) rz⟩)(hA:A.length=j*4)(gm:au L run 56 [rv (some f),rv (some P[j])] (rv (some (f*P[j]))))(gs:au L run 55 [rv (some x),rv (some (f*P[j]))] (rv (some (x - f*P[j]))))(h0:fr.length=126)(h11:nth fr 11=p)(h14:nth fr 14 = .ptr fb 0)(h15:nth fr 15 = .own wb 4 0 n true)(h16:nth fr 16=iv j)(h17:nth fr 17 = .ptr c 0) :
  ∃ fr' wr',af (CC L) run k Au ⟨fr,hp,wr⟩=some (.normal,⟨fr',bZ hp wb ⟨.live,(A++rcs (x - f*P[j]))++rep m rz⟩,wr'⟩):=by
 obtain⟨a,r,ids,x1,x2,x3⟩:=hp'.ix j hj
 have x4:=tc wb n j true (by omega)
 have ho:=sX A m (rcs (x - f*P[j])) (cD.len _) j hA
 have ht1:=eo (rcs x) (cD.len _)
 have ht2:=eo (rcs f) (cD.len _)
 have hok:=cD.okc (x - f*P[j])
 have hlx:=cD.len (x - f*P[j])
 rw[ji,ji,ji] at gm gs
 unfold au at gm gs
 generalize rcs (x - f*P[j])=cd at *
 generalize rcs (f*P[j])=cm at *
 generalize rcs P[j]=cp at *
 generalize rcs x=cx at *
 generalize rcs f=cf at *
 generalize A++rep (m+1) rz=Z at *
 generalize A++cd++rep m rz=Z' at *
 have hb:=afj
 simp[Au,pq,nkT,nkJ,iB,nkI,nkB,nkC,f17,ah,seq1,cw,kI,blk,aC,fx] at hb
 have t2:Nat.testBit 2047 2=true:=by decide
 have t3:Nat.testBit 2047 3=true:=by decide
 have t7:Nat.testBit 2047 7=true:=by decide
 simp only[iv] at h16
 have hc':=I7 hc
 have hf':=I7 hf
 rcases ids with _ | ⟨i0,ids⟩ <;> simp[-Nat.testBit_zero,hb,t2,t3,t7,Au,pq,nkT,nkJ,iB,nkI,nkB,nkC,f17,ah,seq1,cw,kI,blk,aC,af,aH,ao,aq,aG,ag,ai,aL,an,aj,aF,aA,FzZ,partOf,aa,ae,ab,bd,bp,h0,h11,h14,h15,h16,h17,x1,x2,x3,x4,ho,ht1,ht2,hok,hlx,hc',hf',hw,gm,gs,aR,sR,number,FP.free,cH,FP.apart]
def Ui:Code:=seq1 (seq1 (ah 2 nkT))
def Uh:Code:=cw (ah 2 pq)
theorem aju:seq1 (ah 2 nkT) = .seq Ui (.block 4 (.loop pq)):=rfl
theorem afm:ah 2 pq = .seq (.block 5 (.seq KM Au)) Uh:=rfl
theorem afd(n j:Nat)(hj:j<n)(h0:fr.length=126)(h99:nth fr 99=iv n)(h100:nth fr 100=iv j):aX (CC L) run k 2 pq ⟨fr,hp,wr⟩=some ⟨dR fr 101 (.sc (.bool true)),hp,wr⟩:=by
 simp only[iv] at h99 h100
 simp[aX,pq,nkT,nkJ,iB,nkI,nkB,nkC,f17,ah,seq1,kI,blk,aC,af,aH,ao,aq,aG,ag,ai,an,aj,aF,aA,FzZ,bc,aw,bj,aa,h0,h99,h100,hj]
theorem aaY(n:Nat)(h0:fr.length=126)(h99:nth fr 99=iv n)(h100:nth fr 100=iv n):af (CC L) run k pq ⟨fr,hp,wr⟩=some (.exit 4,⟨dR fr 101 (.sc (.bool false)),hp,wr⟩):=by
 simp only[iv] at h99 h100
 simp[pq,nkT,nkJ,iB,nkI,nkB,nkC,f17,ah,seq1,kI,blk,aC,af,aH,ao,aq,aG,ag,ai,an,aj,aF,aA,FzZ,bc,aw,bj,aa,h0,h99,h100]
theorem aaV(j:Nat)(hj:j<1000)(h0:fr.length=126)(h100:nth fr 100=iv j):∃ fr',af (CC L) run k Uh ⟨fr,hp,wr⟩=some (.normal,⟨fr',hp,wr⟩)∧nth fr' 100=iv (j+1):=by
 have hw:=bH j (by omega)
 simp only[iv] at h100
 simp[iv,Uh,pq,nkT,nkJ,iB,nkI,nkB,nkC,f17,ah,seq1,cw,kI,blk,aC,af,aH,ao,aq,aG,ag,ai,an,aj,aF,aA,FzZ,bc,aw,bj,az,aa,ab,h0,h100,hw]
theorem ae2(p:PV)(n:Nat)(hl:dn p=some n)(h0:fr.length=126)(h13:nth fr 13=p):∃ fr',af (CC L) run k Ui ⟨fr,hp,wr⟩=some (.normal,⟨fr',hp,wr⟩)∧nth fr' 98=p∧nth fr' 99=iv n∧nth fr' 100=iv 0:=by
 simp[iv,Ui,nkT,nkJ,iB,nkI,nkB,nkC,f17,ah,seq1,kI,blk,aC,af,aH,ao,aq,aG,ag,ai,an,aj,aF,aA,FzZ,az,bO,aa,ae,ab,bd,h0,h13,hl,uY]
def mg (f:Rat)(V P:List Rat):List Rat:=List.zipWith (fun x q=>x - f*q) V P
def Hex (hp hp':List Blk)(w:Nat):Prop:=hp.length≤hp'.length∧∀ i,i<hp.length→i≠w→aY hp' i=aY hp i
theorem Hex.trans {a b c:List Blk}{w:Nat}(h:Hex a b w)(h':Hex b c w):Hex a c w :=
 ⟨Nat.le_trans h.1 h'.1,fun i hi hn=>by rw[h'.2 i (Nat.lt_of_lt_of_le hi h.1) hn,h.2 i hi hn]⟩
theorem Hex.refl (a:List Blk)(w:Nat):Hex a a w:=⟨Nat.le_refl _,fun _ _ _=>rfl⟩
theorem Hex.set {a:List Blk}{w:Nat}{b b0:Blk}(h:aY a w=some b0):Hex a (bZ a w b) w:=⟨by rw[bL];exact Nat.le_refl _,fun i _ hn=>jS h hn⟩
theorem Hex.alloc {a:List Blk}(w:Nat)(z:List PV)(b:Blk):Hex a (bZ (aM a z) a.length b) w:=⟨by rw[al4];omega,fun i hi _=>al3 a z b i hi⟩
theorem eG.mono {hp hp':List Blk}{w:Nat}{p:PV}{X:List Rat}(h:eG hp p X)(ho:Hex hp hp' w)(hw:p = .own w 4 0 X.length true→False):eG hp' p X:=by
 rcases h with h | ⟨id,h1,h2⟩
 ·exact .inl h
 ·exact .inr ⟨id,h1,by rw[ho.2 id (eO h2) (fun e=>hw (by rw[h1,e])),h2]⟩
theorem nB {f:Rat}{V P:List Rat}(h:V.length=P.length):(mg f V P).length=P.length:=by
 unfold mg;rw[length_zipWith];omega
theorem CB {f:Rat}{V P:List Rat}{j:Nat}(h1:j<V.length)(h2:j<P.length)(h3:j<(mg f V P).length):(mg f V P)[j]=V[j] - f*P[j]:=by
 exact getElem_zipWith (f:=fun x q=>x - f*q) (h:=h3)
theorem Ud(p q:PV)(P V:List Rat)(n fb wb:Nat)(f:Rat)(hP:P.length=n)(hV:V.length=n)(hn:n≤3)(hk:n<k)(hp':eG hp p P)(hq:eG hp q V)(hpw:p ≠ .own wb 4 0 n true)(hqw:q ≠ .own wb 4 0 n true)(hfw:fb≠wb)(hf:aY hp fb=some ⟨.live,rcs f⟩)(hw:aY hp wb=some ⟨.live,rep n rz⟩)
  (gm:∀ j (h:j<P.length),au L run 56 [rv (some f),rv (some P[j])] (rv (some (f*P[j])))) (gs:∀ j (h:j<P.length) (h':j<V.length),au L run 55 [rv (some V[j]),rv (some (f*P[j]))] (rv (some (V[j] - f*P[j]))))
  (h0:fr.length=126) (h11:nth fr 11=p) (h13:nth fr 13=q) (h14:nth fr 14 = .ptr fb 0) (h15:nth fr 15 = .own wb 4 0 n true) :
  ∃ fr' hp' wr',af (CC L) run k (seq1 (ah 2 nkT)) ⟨fr,hp,wr⟩=some (.normal,⟨fr',hp',wr'⟩)∧Hex hp hp' wb∧aY hp' wb=some ⟨.live,(mg f V P).flatMap rcs⟩:=by
 obtain⟨fr1,a1,a2,a3,a4⟩:=ae2 L run k fr hp wr q n (by rw[hq.len,hV]) h0 h13
 have K1:=bJ _ a1
 have hl:(mg f V P).length=n:=by rw[nB (by omega)];exact hP
 have i1:nth fr1 11=p:=K1.at h11 (by kernel_rfl)
 have i2:nth fr1 14 = .ptr fb 0:=K1.at h14 (by kernel_rfl)
 have i3:nth fr1 15 = .own wb 4 0 n true:=K1.at h15 (by kernel_rfl)
 have i0:fr1.length=126:=K1.len h0
 clear K1
 obtain⟨st,b1,b2⟩:=x9 (C:=CC L) (run:=run) (k:=k) (e:=4) (b:=pq) (n:=n) (st:=⟨fr1,hp,wr⟩)
  (Inv:=fun j st=>fD (dQ pq) fr1 st.fr∧nth st.fr 100=iv j∧Hex hp st.hp wb∧aY st.hp wb=some ⟨.live,((mg f V P).take j).flatMap rcs++rep (n - j) rz⟩)
  (Q:=fun st=>Hex hp st.hp wb∧aY st.hp wb=some ⟨.live,(mg f V P).flatMap rcs⟩) hk
  (fun j st hj ⟨k1,k2,k3,k4⟩=>by
   obtain⟨fr,hp2,wr⟩:=st
   dsimp only at k1 k2 k3 k4
   have c0:=k1.len i0
   have e99:nth fr 99=iv n:=k1.at a3 (by kernel_rfl)
   have e98:nth fr 98=q:=k1.at a2 (by kernel_rfl)
   have e11:nth fr 11=p:=k1.at i1 (by kernel_rfl)
   have e14:nth fr 14 = .ptr fb 0:=k1.at i2 (by kernel_rfl)
   have e15:nth fr 15 = .own wb 4 0 n true:=k1.at i3 (by kernel_rfl)
   have g:=afd L run k fr hp2 wr n j hj c0 e99 k2
   have hjV:j<V.length:=by omega
   have hjP:j<P.length:=by omega
   have hv2:eG hp2 q V:=hq.mono k3 (by rw[hV];exact hqw)
   obtain⟨fr3,wr3,d1,d2,d3⟩:=ae1 L run k (dR fr 101 (.sc (.bool true))) hp2 wr q V j hjV hv2 (by rw[ab];exact c0) (by rw[ae (by omega)];exact e98) (by rw[ae (by omega)];exact k2)
   have K3:=bJ _ d1
   have O3:Hex hp2 (bZ (aM hp2 rz) hp2.length ⟨.live,rcs V[j]⟩) wb:=Hex.alloc _ _ _
   have O4:=k3.trans O3
   have hc:=al2 hp2 rz ⟨.live,rcs V[j]⟩
   have hwl:=eO k4
   have hw3:=(al3 hp2 rz ⟨.live,rcs V[j]⟩ wb hwl).trans k4
   have hf3:aY (bZ (aM hp2 rz) hp2.length ⟨.live,rcs V[j]⟩) fb=some ⟨.live,rcs f⟩:=(O4.2 fb (eO hf) hfw).trans hf
   have hp3:eG (bZ (aM hp2 rz) hp2.length ⟨.live,rcs V[j]⟩) p P:=hp'.mono O4 (by rw[hP];exact hpw)
   generalize bZ (aM hp2 rz) hp2.length ⟨.live,rcs V[j]⟩=hp3' at *
   rw[show n - j=(n - (j+1))+1 by omega] at hw3
   have s0:(dR fr 101 (.sc (.bool true))).length=126:=by rw[ab];exact c0
   have s1:∀ t,t≠101→nth (dR fr 101 (.sc (.bool true))) t=nth fr t:=fun t ht=>ae ht
   obtain⟨fr4,wr4,f1⟩:=ae0 L run k fr3 hp3' wr3 p P hp2.length fb wb n (n - (j+1)) j f V[j] (((mg f V P).take j).flatMap rcs) hjP hP hp3 hc hf3 hw3 (by rw[iH,length_take,Nat.min_eq_left (by omega)]) (gm j hjP) (gs j hjP hjV) (K3.len s0) (K3.at (s1 11 (by omega)|>.trans e11) (by kernel_rfl)) (K3.at (s1 14 (by omega)|>.trans e14) (by kernel_rfl)) (K3.at (s1 15 (by omega)|>.trans e15) (by kernel_rfl)) d2 d3
   have K4:=bJ _ f1
   have hx:af (CC L) run k (.block 5 (.seq KM Au)) ⟨dR fr 101 (.sc (.bool true)),hp2,wr⟩=some (.normal,⟨fr4,bZ hp3' wb ⟨.live,((mg f V P).take j).flatMap rcs++rcs (V[j] - f*P[j])++rep (n - (j+1)) rz⟩,wr4⟩):=by
    refine dH ?_
    rw[av d1];exact f1
   have h100:nth fr4 100=iv j:=K4.at (K3.at (s1 100 (by omega)|>.trans k2) (by kernel_rfl)) (by kernel_rfl)
   obtain⟨fr5,g1,g2⟩:=aaV L run k fr4 (bZ hp3' wb ⟨.live,((mg f V P).take j).flatMap rcs++rcs (V[j] - f*P[j])++rep (n - (j+1)) rz⟩) wr4 j (by omega) (K4.len (K3.len s0)) h100
   have hall:af (CC L) run k pq ⟨fr,hp2,wr⟩=some (.normal,⟨fr5,bZ hp3' wb ⟨.live,((mg f V P).take j).flatMap rcs++rcs (V[j] - f*P[j])++rep (n - (j+1)) rz⟩,wr4⟩):=by
    rw[aO 2 g,afm,av hx];exact g1
   refine⟨_,hall,k1.trans (bJ _ hall),g2,O4.trans (Hex.set hw3),?_⟩
   dsimp only
   rw[kp hw3,take_succ_eq_append_getElem (by omega),flatMap_append,CB hjV hjP]
   simp)
  (fun st ⟨k1,k2,k3,k4⟩=>by
   obtain⟨fr,hp2,wr⟩:=st
   dsimp only at k1 k2 k3 k4
   have g:=aaY L run k fr hp2 wr n (k1.len i0) (k1.at a3 (by kernel_rfl)) k2
   refine⟨_,g,k3,?_⟩
   dsimp only
   rw[k4,Nat.sub_self,take_of_length_le (by omega)]
   simp[rep])
  ⟨fD.refl _ _,a4,Hex.refl _ _,by dsimp only;rw[hw];simp⟩
 obtain⟨fr',hp2,wr'⟩:=st
 exact⟨fr',hp2,wr',by rw[aju,av a1];exact b1,b2⟩
end Go.Proofs.YtjdmodeenbdfpaaGreat
end
