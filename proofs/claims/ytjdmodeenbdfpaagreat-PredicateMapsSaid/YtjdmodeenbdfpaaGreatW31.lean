/- Contracts of affine maps of clouds and of the law, part 31; each lemma states its conditions. -/
import Derived.Test.YtjdmodeenbdfpaaGreatW30
set_option linter.unusedSimpArgs false
set_option linter.unusedVariables false
noncomputable section
namespace Go.Proofs.YtjdmodeenbdfpaaGreat
open Go Go.Ab List
attribute [local simp] FzZ aA aC aF aG aH aZ aa ab ae af ag ah ai aj an ao aq au av bg bn mpC seq1
def lT (B:Code):Code:=seq1 B
def lX (B:Code):Code:=blk (seq1 (bn B))
def lI (B:Code):Code:=bn (bn B)
def fl:Code:=(aA (seq1 (ag 6 mpC))).getD .skip
def gN:Code:=(aA (seq1 (ag 7 mpC))).getD .skip
def lR:Code:=(aA (seq1 (bn (lX gN)))).getD .skip
def ll:Code:=(aA (seq1 (ag 9 mpC))).getD .skip
theorem aaV:fl = .seq (lT fl) (.seq (.block 1 (lX fl)) (lI fl)):=rfl
theorem aaU:gN = .seq (lT gN) (.seq (.block 3 (lX gN)) (lI gN)):=rfl
theorem aaT:lR = .seq (lT lR) (.seq (.block 5 (lX lR)) (lI lR)):=rfl
theorem aaS:ll = .seq (lT ll) (.seq (.block 7 (lX ll)) (lI ll)):=rfl
theorem adm:eB TT 38=some [.sc (.slice none 0 0)]:=by kernel_rfl
theorem aiN:fQ TT 38=some 24:=by kernel_rfl
theorem KU (v:PV)(hv:v.cells?=some [v]):eM TT 55 1 [(0,v)]=some (1,[v]):=by
 simp[eM,uLm,Y1,adm,rep,dq,hv,cm]
section
variable (L:Lst) (run:aw) (k:Nat) (fr:Ψ) (hp:Θ) (wr:Ω)
theorem ah2 (i n:Nat)(h0:fr.length=282)(hn:nth fr 9=iv n)(hi:nth fr 13=iv i):∃ fr',af (CC L) run k (lT fl) ⟨fr,hp,wr⟩=some (bif i.blt n then .normal else .exit 0,⟨fr',hp,wr⟩):=by
 simp only[iv] at hn hi
 cases hu:i.blt n with
 | true =>
  have hlt:i<n:=by rwa [Nat.blt_eq] at hu
  simp[lT,fl,Tryz.f9,h0,hn,hi,hlt]
 | false =>
  have hlt : ¬ i<n:=fun h=>by rw[← Nat.blt_eq,hu] at h;cases h
  simp[lT,fl,Tryz.f9,h0,hn,hi,hlt]
theorem aib (i:Nat)(h9:i<1000000)(h0:fr.length=282)(hi:nth fr 13=iv i):∃ fr',af (CC L) run k (lI fl) ⟨fr,hp,wr⟩=some (.normal,⟨fr',hp,wr⟩)∧nth fr' 13=iv (i+1):=by
 have hw:=bA i (by omega)
 simp only[iv] at hi
 simp[iv,lI,fl,Tryz.f9,h0,hi,hw]
theorem ah1 (i n:Nat)(h0:fr.length=282)(hn:nth fr 9=iv n)(hi:nth fr 15=iv i):∃ fr',af (CC L) run k (lT gN) ⟨fr,hp,wr⟩=some (bif i.blt n then .normal else .exit 2,⟨fr',hp,wr⟩):=by
 simp only[iv] at hn hi
 cases hu:i.blt n with
 | true =>
  have hlt:i<n:=by rwa [Nat.blt_eq] at hu
  simp[lT,gN,Tryz.f9,h0,hn,hi,hlt]
 | false =>
  have hlt : ¬ i<n:=fun h=>by rw[← Nat.blt_eq,hu] at h;cases h
  simp[lT,gN,Tryz.f9,h0,hn,hi,hlt]
theorem aia (i:Nat)(h9:i<1000000)(h0:fr.length=282)(hi:nth fr 15=iv i):∃ fr',af (CC L) run k (lI gN) ⟨fr,hp,wr⟩=some (.normal,⟨fr',hp,wr⟩)∧nth fr' 15=iv (i+1):=by
 have hw:=bA i (by omega)
 simp only[iv] at hi
 simp[iv,lI,gN,Tryz.f9,h0,hi,hw]
theorem ah0 (i n:Nat)(h0:fr.length=282)(hn:nth fr 9=iv n)(hi:nth fr 17=iv i):∃ fr',af (CC L) run k (lT lR) ⟨fr,hp,wr⟩=some (bif i.blt n then .normal else .exit 4,⟨fr',hp,wr⟩):=by
 simp only[iv] at hn hi
 cases hu:i.blt n with
 | true =>
  have hlt:i<n:=by rwa [Nat.blt_eq] at hu
  simp[lT,lX,blk,lR,gN,Tryz.f9,h0,hn,hi,hlt]
 | false =>
  have hlt : ¬ i<n:=fun h=>by rw[← Nat.blt_eq,hu] at h;cases h
  simp[lT,lX,blk,lR,gN,Tryz.f9,h0,hn,hi,hlt]
theorem ah9 (i:Nat)(h9:i<1000000)(h0:fr.length=282)(hi:nth fr 17=iv i):∃ fr',af (CC L) run k (lI lR) ⟨fr,hp,wr⟩=some (.normal,⟨fr',hp,wr⟩)∧nth fr' 17=iv (i+1):=by
 have hw:=bA i (by omega)
 simp only[iv] at hi
 simp[iv,lI,lX,blk,lR,gN,Tryz.f9,h0,hi,hw]
theorem ahZ (i n:Nat)(h0:fr.length=282)(hn:nth fr 9=iv n)(hi:nth fr 20=iv i):∃ fr',af (CC L) run k (lT ll) ⟨fr,hp,wr⟩=some (bif i.blt (n+1) then .normal else .exit 6,⟨fr',hp,wr⟩):=by
 simp only[iv] at hn hi
 cases hu:i.blt (n+1) with
 | true =>
  have hlt:i≤n:=by rw[Nat.blt_eq] at hu;omega
  simp[lT,ll,Tryz.f9,h0,hn,hi,hlt]
 | false =>
  have hlt : ¬ i≤n:=fun h=>by rw[show i.blt (n+1)=true by rw[Nat.blt_eq];omega] at hu;cases hu
  simp[lT,ll,Tryz.f9,h0,hn,hi,hlt]
theorem ah8 (i:Nat)(h9:i<1000000)(h0:fr.length=282)(hi:nth fr 20=iv i):∃ fr',af (CC L) run k (lI ll) ⟨fr,hp,wr⟩=some (.normal,⟨fr',hp,wr⟩)∧nth fr' 20=iv (i+1):=by
 have hw:=bA i (by omega)
 simp only[iv] at hi
 simp[iv,lI,ll,Tryz.f9,h0,hi,hw]
theorem Vy (i:Nat)(hi:i<3):aU TT 54 (.ptr 0 0) (.sc (.int .i64 (i:Int)))=some (.ptr 0 (i*3)):=by
 simp only[aU,Yu,bh,sA3,hi,if_true,Nat.zero_add]
theorem Q7 (M:Ψ)(hM:M.length=9)(hb:aP hp 0=some ⟨.live,M⟩)(i n:Nat)(hi:i<3)(hn:n≤3):dh TT hp 53 (.ptr 0 (i*3)) none (some (.sc (.int .i64 (n:Int)))) none=some (.own 0 1 (3*i) n (n == 3)):=by
 have h9:i*3+3*1≤M.length:=by omega
 simp only[dh,uA3,iz,fV,bnd,eD,bh,hb]
 rw[if_pos ⟨Nat.zero_le _,hn⟩]
 dsimp only
 rw[if_pos h9,Nat.mul_comm i 3]
 simp[fz]
theorem ae9 (M:Ψ)(hM:M.length=9)(hb:aP hp 0=some ⟨.live,M⟩)(i n e:Nat)(hi:i<3)(hn:n≤3)(fp:FP)(g:bU (CC L) run false (aL hp [.own 0 1 (3*i) n (n == 3)]) 22 [.own hp.length 1 0 1 true]=some (iv e,aL hp [.own 0 1 (3*i) n (n == 3)],fp))(h0:fr.length=282)(h5:nth fr 5 = .ptr 0 0)(h9:nth fr 9=iv n)(h13:nth fr 13=iv i) :
  ∃ fr' hp' wr',af (CC L) run k (seq1 (lX fl)) ⟨fr,hp,wr⟩=some (if e=0 then .normal else .ret,⟨fr',hp',wr'⟩)∧(e=0→hp'=aL hp [.own 0 1 (3*i) n (n == 3)])∧(e≠0→nth fr' 8 = .sc (.bool true)):=by
 have x1:=Vy i hi
 have x2:=Q7 hp M hM hb i n hi hn
 have l1:=xD (.own 0 1 (3*i) n (n == 3)) rfl
 have hid:bM [PV.own 0 1 (3*i) n (n == 3)]=false:=rfl
 generalize PV.own 0 1 (3*i) n (n == 3)=R at *
 simp only[iv] at h9 h13 g
 by_cases he:e=0
 ·subst he
  simp only[Int.cast_ofNat_Int] at g
  simp[lX,blk,fl,Tryz.f9,soft,eu,aM,bf,and_assoc,h0,h5,h9,h13,x1,x2,l1,hid,g]
 ·have hb:((e:Int) != 0)=true:=by simp;omega
  simp[lX,blk,fl,Tryz.f9,soft,eu,aM,bf,and_assoc,h0,h5,h9,h13,x1,x2,l1,hid,g,hb,he]
theorem ae8 (M F F':PV)(i n:Nat)(hp':Θ)(fp:FP)(Ms:Ψ)(hM:Ms.length=9)(hb:aP hp 0=some ⟨.live,Ms⟩)(hi:i<3)(hn:n≤3)(ha:cw (aL hp [.own 0 1 (3*i) n (n == 3)]) 1 F 1 [.own 0 1 (3*i) n (n == 3)]=some (F',hp',fp))(h0:fr.length=282)(h5:nth fr 5 = .ptr 0 0)(h9:nth fr 9=iv n)(h10:nth fr 10=F)(h13:nth fr 13=iv i) :
  ∃ fr' wr',af (CC L) run k (seq1 (ag 1 (lX fl))) ⟨fr,hp,wr⟩=some (.normal,⟨fr',hp',wr'⟩)∧nth fr' 10=F':=by
 have x1:=Vy i hi
 have x2:=Q7 hp Ms hM hb i n hi hn
 have l1:=KU (.own 0 1 (3*i) n (n == 3)) rfl
 have r1:=Kx hp (.own 0 1 (3*i) n (n == 3))
 have hid:bM [PV.own 0 1 (3*i) n (n == 3)]=false:=rfl
 have hok:dK (PV.own 0 1 (3*i) n (n == 3))=true:=rfl
 generalize PV.own 0 1 (3*i) n (n == 3)=R at *
 simp only[iv] at h9 h13
 simp[lX,blk,fl,Tryz.f9,soft,eu,bf,and_assoc,bd,h0,h5,h9,h10,h13,x1,x2,l1,r1,hid,hok,ha,uLm,Y1,aiN,adm,bQ]
def tz:Ψ:=[.sc (.string ⟨#[48]⟩),.sc (.string ⟨#[48]⟩),.sc (.string ⟨#[48]⟩)]
theorem afo:eM TT 38 3 [(0,.sc (.string ⟨#[48]⟩)),(1,.sc (.string ⟨#[48]⟩)),(2,.sc (.string ⟨#[48]⟩))]=some (1,tz):=by
 simp[eM,QH,fV,ado,rep,dq,PV.cells?,cm,tz]
theorem ae7 (cs:Ψ)(i n:Nat)(hi:i<n)(hn:n≤3)(ho:cm tz i [.sc (.string ⟨#[49]⟩)]=some cs)(h0:fr.length=282)(h9:nth fr 9=iv n)(h13:nth fr 13=iv i) :
  ∃ fr' wr',ba (CC L) run k 2 (ag 2 (lX fl)) ⟨fr,hp,wr⟩=some ⟨fr',bZ (aL hp tz) hp.length ⟨.live,cs⟩,wr'⟩∧nth fr' 14 = .own hp.length 1 0 n true:=by
 have l1:=afo
 have hA:=al1 hp tz
 have hi3:i<3:=by omega
 have htl:tz.length=3:=rfl
 generalize tz=Z at *
 simp only[iv] at h9 h13
 simp[ba,lX,blk,fl,Tryz.f9,soft,eu,bh,bf,and_assoc,bd,Pe,pK,h0,h9,h13,l1,hA,ho,hi,hn,QH,fV,dh,iy,bnd,eD,fz,aU]
theorem ae6 (R F F':PV)(hp':Θ)(fp:FP)(id n:Nat)(hR:R = .own id 1 0 n true)(ha:cw (aL hp [R]) 1 F 1 [R]=some (F',hp',fp))(h0:fr.length=282)(h11:nth fr 11=F)(h14:nth fr 14=R) :
  ∃ fr' wr',af (CC L) run k (ag 4 (lX fl)) ⟨fr,hp,wr⟩=some (.normal,⟨fr',hp',wr'⟩)∧nth fr' 11=F':=by
 have l1:=KU R (by rw[hR];rfl)
 have r1:=Kx hp R
 have hid:bM [R]=false:=by rw[hR];rfl
 have hok:dK R=true:=by rw[hR];rfl
 simp[lX,blk,fl,Tryz.f9,soft,eu,bf,and_assoc,bd,h0,h11,h14,l1,r1,hid,hok,ha,uLm,Y1,aiN,adm,bQ]
theorem ae4 (h0:fr.length=282):∃ fr1 fr',af (CC L) run k (seq1 (lX gN)) ⟨fr,hp,wr⟩=some (.normal,⟨fr1,hp,wr⟩)∧af (CC L) run k (seq1 (seq1 (bn (lX gN)))) ⟨fr1,hp,wr⟩=some (.normal,⟨fr',hp,wr⟩)∧nth fr1 16 = .sc (.slice none 0 0)∧nth fr' 17=iv 0:=by
 obtain⟨fr1,a1,a2,a3⟩:∃ fr1,af (CC L) run k (seq1 (lX gN)) ⟨fr,hp,wr⟩=some (.normal,⟨fr1,hp,wr⟩)∧fr1.length=282∧nth fr1 16 = .sc (.slice none 0 0):=by
  simp[lX,blk,gN,Tryz.f9,h0]
 refine⟨fr1,?_⟩
 simp only[a1,a3]
 simp[iv,lX,blk,gN,Tryz.f9,a2]
theorem aic:((Region.before (iP (lX lR)))[12]?.getD 0).testBit 9=true:=by kernel_rfl
theorem ae3 (b ms:List ByteArray)(i n j:Nat)(t:ByteArray)(F F':PV)(hp':Θ)(fp:FP)(hj:j<b.length)(hj3:j<3)(hi3:i<3)(hji:j*3+i<ms.length)(hb:aP hp 0=some ⟨.live,ms.flatMap es⟩)(g:az L run 24 [.sc (.string b[j]),.sc (.string ms[j*3+i])] (.sc (.string t)))(ha:cw hp 1 F 1 [.sc (.string t)]=some (F',hp',fp))(h0:fr.length=282)(h2:nth fr 2=pE b)(h5:nth fr 5 = .ptr 0 0)(h15:nth fr 15=iv i)(h16:nth fr 16=F)(h17:nth fr 17=iv j) :
  ∃ fr' wr',af (CC L) run k (lX lR) ⟨fr,hp,wr⟩=some (.normal,⟨fr',hp',wr'⟩)∧nth fr' 16=F':=by
 obtain⟨r,y1,y2⟩:=uv uPt b j hj
 have x1:=Vy j hj3
 have x2:aU TT 53 (.ptr 0 (j*3)) (.sc (.int .i64 (i:Int)))=some (.ptr 0 (j*3+i)):=by
  simp only[aU,uA3,bh,fV,hi3,if_true,Nat.mul_one]
 have x3:(bq (ms.flatMap es) (j*3+i)).head?=some (.sc (.string ms[j*3+i])):=by
  have h:=jT uP.toEl ms (j*3+i) hji
  rw[Nat.mul_one] at h
  rw[h];rfl
 have l1:=aba t
 have r1:=ad6 hp t
 have hid:bM [PV.sc (.string t)]=true:=rfl
 have hbb:=aic
 simp[-Nat.testBit_zero,lX,blk,lR,gN,Tryz.f9,iP] at hbb
 unfold az at g
 generalize b[j]=s1 at *
 generalize ms[j*3+i]=s2 at *
 generalize ms.flatMap es=M at *
 generalize pE b=B at *
 simp only[iv] at h15 h17
 rcases fp with ⟨_ | ⟨_,_⟩,_ | ⟨_,_⟩,_ | _⟩ <;> simp[-Nat.testBit_zero,lX,blk,lR,gN,Tryz.f9,soft,eu,aM,partOf,bf,and_assoc,bd,pK,h0,h2,h5,h15,h16,h17,x1,x2,x3,y1,y2,hb,l1,r1,hid,g,ha,hbb,uPt,pz,fV,acL,aiP,bQ,aX,number,FP.free,cD,FP.apart]
theorem ae2 (R F F':PV)(hp':Θ)(fp:FP)(id n:Nat)(hR:R = .own id 1 0 n false)(ha:cw (aL hp [R]) 1 F 1 [R]=some (F',hp',fp))(h0:fr.length=282)(h12:nth fr 12=F)(h16:nth fr 16=R) :
  ∃ fr' wr',af (CC L) run k (bn (bn (lX gN))) ⟨fr,hp,wr⟩=some (.normal,⟨fr',hp',wr'⟩)∧nth fr' 12=F':=by
 have l1:=xD R (by rw[hR];rfl)
 have r1:=Kx hp R
 have hid:bM [R]=false:=by rw[hR];rfl
 have hok:dK R=true:=by rw[hR];rfl
 simp[lX,blk,gN,Tryz.f9,soft,eu,bf,and_assoc,bd,h0,h12,h16,l1,r1,hid,hok,ha,uCl,sPt,aiO,X4,bQ]
theorem ae0 (l:Ω)(j m q N:Nat)(hj:j<l.length)(hj5:j<5)(hl:∀ x ∈ l,x<256)(hm:m≠0)(hN:dy (nth fr 0)=some m)(hq:q=l[j] % m)(F F' G G':PV)(hp1 hp2:Θ)(fp1 fp2:FP)(hb:aP hp 1=some ⟨.live,l.map u8v⟩)(ha:cw hp 1 F 1 [iv q]=some (F',hp1,fp1))(ha2:cw hp1 1 G 1 [iv j]=some (G',hp2,fp2))(h0:fr.length=282)(h7:nth fr 7 = .ptr 1 0)(h18:nth fr 18=F)(h19:nth fr 19=G)(h20:nth fr 20=iv j) :
  ∃ fr' wr',af (CC L) run k (lX ll) ⟨fr,hp,wr⟩=some (.normal,⟨fr',hp2,wr'⟩)∧nth fr' 18=F'∧nth fr' 19=G':=by
 have hd:=kr (e:=u8v) l j hj
 rw[show u8v l[j] = .sc (.int .u8 (l[j]:Int)) from rfl] at hd
 have hln:l[j]<256:=hl _ (getElem_mem _)
 have htm:=C8 l[j] m q hq
 have hw1:=cq .i64 l[j] (hiI (Nat.le_trans (Nat.le_of_lt hln) (by decide)))
 have hi5:aU TT 36 (.ptr 1 0) (.sc (.int .i64 (j:Int)))=some (.ptr 1 j):=by
  simp only[aU,uA5,bh,sU8,hj5,if_true,Nat.zero_add,Nat.mul_one]
 have l1:=lW q
 have l2:=lW j
 have r1:=kn hp q
 have r2:=kn hp1 j
 have hid:∀ n:Nat,bM [PV.sc (.int .i64 (n:Int))]=true:=fun _=>rfl
 clear hq hln
 generalize hz:l[j]=z at *
 generalize l.map u8v=cs at *
 obtain⟨C,h00⟩:∃ C,nth fr 0=C:=⟨_,rfl⟩
 rw[h00] at hN
 simp only[iv] at h20 ha ha2 l1 l2 r1 r2
 simp[iv,lX,blk,ll,Tryz.f9,soft,eu,bL,partOf,bf,and_assoc,H2,bd,h0,h00,h7,h18,h19,h20,hN,hd,htm,hw1,hi5,hb,l1,l2,r1,r2,hid,ha,ha2,hm,dI,uI,u8T,uCl,a8,sU8,uL,sI,bI,zI,bQ,aX]
end
theorem JY (hp:Θ)(b:List ByteArray)(n:Nat)(hn:n≤b.length):dh TT hp 39 (pE b) none (some (.sc (.int .i64 (n:Int)))) none=some (pE (b.take n)):=by
 have h1:=m7 uP.toEl (b.take n) (b.drop n)
 rw[take_append_drop,length_take,Nat.min_eq_left hn] at h1
 have h0:bq (b.flatMap es) (0*1)=b.flatMap es:=by rw[cA];rfl
 simp only[dh,uPt,iy,fV,pE,dj,bnd,eD,bh]
 rw[if_pos ⟨Nat.zero_le _,hn⟩]
 dsimp only
 rw[if_pos (by rw[Cl];omega),h0,Nat.sub_zero,h1,length_take,Nat.min_eq_left hn]
 rfl
section
variable (L:Lst) (run:aw) (k:Nat) (fr:Ψ) (hp:Θ) (wr:Ω)
theorem Oi (b:List ByteArray)(n e:Nat)(h:b.length<n∨e≠0)(g:n≤b.length→az L run 22 [.imm 1 true [pE (b.take n)]] (iv e))(h0:fr.length=282)(h2:nth fr 2=pE b)(h9:nth fr 9=iv n) :
  ∃ fr',af (CC L) run k (seq1 (ag 3 mpC)) ⟨fr,hp,wr⟩=some (.ret,⟨fr',hp,wr⟩)∧nth fr' 8 = .sc (.bool true):=by
 have hl:=fh b
 simp only[iv] at h9 g
 by_cases hb:b.length<n
 ·generalize pE b=B at *
  simp[Tryz.f9,bL,bf,h0,h2,h9,hl,hb,uPt,undef]
 ·have he:e≠0:=h.resolve_left hb
  have g':=g (by omega)
  unfold az at g'
  have hs:=JY hp b n (by omega)
  have hlit:=xD (pE (b.take n)) rfl
  have hid:bM [pE (b.take n)]=true:=rfl
  have hne:((e:Int) != 0)=true:=by simp;omega
  obtain⟨nb,xb,cb,hB⟩:∃ n x cs,pE b = .imm n x cs:=⟨_,_,_,rfl⟩
  simp only[hB] at *
  generalize pE (b.take n)=B' at *
  simp[Tryz.f9,soft,eu,aM,bL,bf,h0,h2,h9,hl,hb,hs,hlit,hid,g',hne,uPt]
theorem ah7 (b:List ByteArray)(n:Nat)(hn:n≤b.length)(g:az L run 22 [.imm 1 true [pE (b.take n)]] (iv 0))(h0:fr.length=282)(h2:nth fr 2=pE b)(h9:nth fr 9=iv n) :
  ∃ fr1 fr',ba (CC L) run k 3 (ag 3 mpC) ⟨fr,hp,wr⟩=some ⟨fr1,hp,wr⟩∧af (CC L) run k (seq1 (seq1 (ag 6 mpC))) ⟨fr1,hp,wr⟩=some (.normal,⟨fr',hp,wr⟩)∧dJ (ct (.seq (seq1 (ag 3 mpC)) (.seq (seq1 (ag 4 mpC)) (.seq (seq1 (ag 5 mpC)) (seq1 (seq1 (ag 6 mpC))))))) fr fr'∧nth fr' 10 = .sc (.slice none 0 0)∧nth fr' 11 = .sc (.slice none 0 0)∧nth fr' 12 = .imm 1 true [pE (b.take n)]∧nth fr' 13=iv 0:=by
 have hl:=fh b
 unfold az at g
 have hs:=JY hp b n hn
 have hlit:=xD (pE (b.take n)) rfl
 have hid:bM [pE (b.take n)]=true:=rfl
 have hlt : ¬ b.length<n:=by omega
 obtain⟨nb,xb,cb,hB⟩:∃ n x cs,pE b = .imm n x cs:=⟨_,_,_,rfl⟩
 simp only[hB] at *
 generalize pE (b.take n)=B' at *
 have h9':=h9
 simp only[iv,Int.cast_ofNat_Int] at h9 g
 obtain⟨fr0,a1,a2,a3⟩:∃ fr0,af (CC L) run k (seq1 (ag 3 mpC)) ⟨fr,hp,wr⟩=some (.normal,⟨fr0,hp,wr⟩)∧True∧True:=by
  simp[Tryz.f9,soft,eu,aM,bL,bf,h0,h2,h9,hl,hlt,hs,hlit,hid,g,uPt]
 have K0:=bG _ a1
 have b0:=K0.len h0
 have b2:=K0.at h2
 have b9:=K0.at h9
 obtain⟨fr1,c1,c2,c3⟩:∃ fr1,af (CC L) run k (seq1 (ag 4 mpC)) ⟨fr0,hp,wr⟩=some (.normal,⟨fr1,hp,wr⟩)∧nth fr1 10 = .sc (.slice none 0 0)∧nth fr1 11 = .sc (.slice none 0 0):=by
  simp[Tryz.f9,b0]
 have K1:=bG _ c1
 have d0:=K1.len b0
 have d2:=K1.at b2
 have d9:=K1.at b9
 obtain⟨fr2,e1,e2⟩:∃ fr2,af (CC L) run k (seq1 (ag 5 mpC)) ⟨fr1,hp,wr⟩=some (.normal,⟨fr2,hp,wr⟩)∧nth fr2 12 = .imm 1 true [B']:=by
  simp[Tryz.f9,soft,eu,bf,d0,d2,d9,hs,hlit,hid]
 have K2:=bG _ e1
 obtain⟨fr3,f1,f2⟩:∃ fr3,af (CC L) run k (seq1 (seq1 (ag 6 mpC))) ⟨fr2,hp,wr⟩=some (.normal,⟨fr3,hp,wr⟩)∧nth fr3 13=iv 0:=by
  simp[iv,Tryz.f9,K2.len d0]
 have K3:=bG _ f1
 refine⟨fr2,fr3,?_,f1,?_,K3.at (K2.at c2),K3.at (K2.at c3),K3.at e2,f2⟩
 ·show (match af (CC L) run k (seq1 (ag 3 mpC)) ⟨fr,hp,wr⟩ with
   | some (.normal,st')=>ba (CC L) run k 2 (ag 4 mpC) st'
   | _=>none)=_
  rw[a1]
  show (match af (CC L) run k (seq1 (ag 4 mpC)) ⟨fr0,hp,wr⟩ with
   | some (.normal,st')=>ba (CC L) run k 1 (ag 5 mpC) st'
   | _=>none)=_
  rw[c1]
  show (match af (CC L) run k (seq1 (ag 5 mpC)) ⟨fr1,hp,wr⟩ with
   | some (.normal,st')=>ba (CC L) run k 0 (ag 6 mpC) st'
   | _=>none)=_
  rw[e1];rfl
 ·have m:∀ {a:Code},(∀ t,ct (.seq (seq1 (ag 3 mpC)) (.seq (seq1 (ag 4 mpC)) (.seq (seq1 (ag 5 mpC)) (seq1 (seq1 (ag 6 mpC)))))) t=false→ct a t=false)→∀ {x y:Ψ},dJ (ct a) x y→dJ (ct (.seq (seq1 (ag 3 mpC)) (.seq (seq1 (ag 4 mpC)) (.seq (seq1 (ag 5 mpC)) (seq1 (seq1 (ag 6 mpC))))))) x y:=fun h _ _ hk=>hk.mono h
  refine (m (fun t ht => ?_) K0).trans ((m (fun t ht => ?_) K1).trans ((m (fun t ht => ?_) K2).trans (m (fun t ht => ?_) K3))) <;> simp only[ct,Bool.or_eq_false_iff] at ht
  ·exact ht.1
  ·exact ht.2.1
  ·exact ht.2.2.1
  ·exact ht.2.2.2
theorem ae5 (h0:fr.length=282):∃ fr',af (CC L) run k (seq1 (seq1 (ag 7 mpC))) ⟨fr,hp,wr⟩=some (.normal,⟨fr',hp,wr⟩)∧nth fr' 15=iv 0:=by
 simp[iv,Tryz.f9,h0]
theorem ae1 (h0:fr.length=282):∃ fr1 fr',af (CC L) run k (seq1 (ag 8 mpC)) ⟨fr,hp,wr⟩=some (.normal,⟨fr1,hp,wr⟩)∧af (CC L) run k (seq1 (seq1 (ag 9 mpC))) ⟨fr1,hp,wr⟩=some (.normal,⟨fr',hp,wr⟩)∧nth fr' 18 = .sc (.slice none 0 0)∧nth fr' 19 = .sc (.slice none 0 0)∧nth fr' 20=iv 0:=by
 obtain⟨fr1,a1,a2,a3,a4⟩:∃ fr1,af (CC L) run k (seq1 (ag 8 mpC)) ⟨fr,hp,wr⟩=some (.normal,⟨fr1,hp,wr⟩)∧fr1.length=282∧nth fr1 18 = .sc (.slice none 0 0)∧nth fr1 19 = .sc (.slice none 0 0):=by
  simp[Tryz.f9,h0]
 refine⟨fr1,?_⟩
 simp only[a1]
 simp[iv,Tryz.f9,a2,a3,a4]
theorem aeZ (l:Ω)(m q:Nat)(hj:4<l.length)(hl:∀ x ∈ l,x<256)(hm:m≠0)(hN:dy (nth fr 0)=some m)(hq:q=l[4] % m)(hb:aP hp 1=some ⟨.live,l.map u8v⟩)(h0:fr.length=282)(h7:nth fr 7 = .ptr 1 0) :
  ∃ fr',af (CC L) run k (seq1 (ag 10 mpC)) ⟨fr,hp,wr⟩=some (.normal,⟨fr',hp,wr⟩)∧nth fr' 21=iv q:=by
 have hd:=kr (e:=u8v) l 4 hj
 rw[show u8v l[4] = .sc (.int .u8 (l[4]:Int)) from rfl] at hd
 have hln:l[4]<256:=hl _ (getElem_mem _)
 have htm:=C8 l[4] m q hq
 have hw1:=cq .i64 l[4] (hiI (Nat.le_trans (Nat.le_of_lt hln) (by decide)))
 have hi5:aU TT 36 (.ptr 1 0) (.sc (.int .i64 4))=some (.ptr 1 4):=by
  simp only[aU,uA5];rfl
 clear hq hln
 generalize l[4]=z at *
 generalize l.map u8v=cs at *
 obtain⟨C,h00⟩:∃ C,nth fr 0=C:=⟨_,rfl⟩
 rw[h00] at hN
 simp[iv,Tryz.f9,bL,partOf,bf,h0,h00,h7,hN,hd,htm,hw1,hi5,hb,hm,dI,uI,u8T,uCl,a8,sU8,aX]
theorem aeY (b:List ByteArray)(n:Nat)(hn:n≤b.length)(C p D:PV)(hp':Θ)(fp:FP)(g:bU (CC L) run false hp 33 [C,p,pE (b.take n)]=some (.tup [D,iv 0],hp',fp))(h0:fr.length=282)(h00:nth fr 0=C)(h2:nth fr 2=pE b)(h9:nth fr 9=iv n)(h10:nth fr 10=p) :
  ∃ fr' wr',af (CC L) run k (seq1 (ag 11 mpC)) ⟨fr,hp,wr⟩=some (.normal,⟨fr',hp',wr'⟩)∧nth fr' 22=D∧nth fr' 23=iv 0:=by
 have hs:=JY hp b n hn
 generalize pE b=B at *
 generalize pE (b.take n)=B' at *
 simp only[iv] at h9 g
 simp[iv,Tryz.f9,aM,bf,and_assoc,h0,h00,h2,h9,h10,hs,g]
theorem aeX (b:List ByteArray)(n:Nat)(hn:n≤b.length)(C p D:PV)(hp':Θ)(fp:FP)(g:bU (CC L) run false hp 33 [C,p,pE (b.take n)]=some (.tup [D,iv 0],hp',fp))(h0:fr.length=282)(h00:nth fr 0=C)(h2:nth fr 2=pE b)(h9:nth fr 9=iv n)(h11:nth fr 11=p) :
  ∃ fr' wr',af (CC L) run k (seq1 (ag 12 mpC)) ⟨fr,hp,wr⟩=some (.normal,⟨fr',hp',wr'⟩)∧nth fr' 24=D∧nth fr' 25=iv 0:=by
 have hs:=JY hp b n hn
 generalize pE b=B at *
 generalize pE (b.take n)=B' at *
 simp only[iv] at h9 g
 simp[iv,Tryz.f9,aM,bf,and_assoc,h0,h00,h2,h9,h11,hs,g]
theorem aeW (C p v:PV)(hp':Θ)(fp:FP)(g:bU (CC L) run false hp 13 [C,p]=some (.tup [v,iv 0],hp',fp))(h0:fr.length=282)(h00:nth fr 0=C)(h18:nth fr 18=p) :
  ∃ fr' wr',af (CC L) run k (seq1 (ag 13 mpC)) ⟨fr,hp,wr⟩=some (.normal,⟨fr',hp',wr'⟩)∧nth fr' 26=v∧nth fr' 27=iv 0:=by
 simp only[iv] at g
 simp[iv,Tryz.f9,aM,and_assoc,h0,h00,h18,g]
theorem aeV (C p v:PV)(hp':Θ)(fp:FP)(g:bU (CC L) run false hp 13 [C,p]=some (.tup [v,iv 0],hp',fp))(h0:fr.length=282)(h00:nth fr 12=C)(h18:nth fr 19=p) :
  ∃ fr' wr',af (CC L) run k (seq1 (ag 14 mpC)) ⟨fr,hp,wr⟩=some (.normal,⟨fr',hp',wr'⟩)∧nth fr' 28=v∧nth fr' 29=iv 0:=by
 simp only[iv] at g
 simp[iv,Tryz.f9,aM,and_assoc,h0,h00,h18,g]
theorem aeU (C p v:PV)(hp':Θ)(fp:FP)(g:bU (CC L) run false hp 13 [C,p]=some (.tup [v,iv 0],hp',fp))(h0:fr.length=282)(h00:nth fr 22=C)(h18:nth fr 18=p) :
  ∃ fr' wr',af (CC L) run k (seq1 (ag 15 mpC)) ⟨fr,hp,wr⟩=some (.normal,⟨fr',hp',wr'⟩)∧nth fr' 30=v∧nth fr' 31=iv 0:=by
 simp only[iv] at g
 simp[iv,Tryz.f9,aM,and_assoc,h0,h00,h18,g]
theorem aeT (C p v:PV)(hp':Θ)(fp:FP)(g:bU (CC L) run false hp 13 [C,p]=some (.tup [v,iv 0],hp',fp))(h0:fr.length=282)(h00:nth fr 24=C)(h18:nth fr 18=p) :
  ∃ fr' wr',af (CC L) run k (seq1 (ag 16 mpC)) ⟨fr,hp,wr⟩=some (.normal,⟨fr',hp',wr'⟩)∧nth fr' 32=v∧nth fr' 33=iv 0:=by
 simp only[iv] at g
 simp[iv,Tryz.f9,aM,and_assoc,h0,h00,h18,g]
theorem aeS (C p u v q:PV)(hp':Θ)(fp:FP)(g:bU (CC L) run false hp 19 [C,p,q]=some (.tup [u,v],hp',fp))(h0:fr.length=282)(h00:nth fr 0=C)(h18:nth fr 18=p)(h21:nth fr 21=q) :
  ∃ fr' wr',af (CC L) run k (seq1 (ag 17 mpC)) ⟨fr,hp,wr⟩=some (.normal,⟨fr',hp',wr'⟩)∧nth fr' 34=u∧nth fr' 35=v:=by
 simp[Tryz.f9,aM,and_assoc,h0,h00,h18,h21,g]
theorem aeR (C p u v q:PV)(hp':Θ)(fp:FP)(g:bU (CC L) run false hp 19 [C,p,q]=some (.tup [u,v],hp',fp))(h0:fr.length=282)(h00:nth fr 24=C)(h18:nth fr 18=p)(h21:nth fr 21=q) :
  ∃ fr' wr',af (CC L) run k (seq1 (ag 18 mpC)) ⟨fr,hp,wr⟩=some (.normal,⟨fr',hp',wr'⟩)∧nth fr' 36=u∧nth fr' 37=v:=by
 simp[Tryz.f9,aM,and_assoc,h0,h00,h18,h21,g]
theorem afb (x y z:ByteArray)(s e:Int)(ht:fc .eql z z=some (.bool true))(ht2:fc .eql x x=some (.bool true))(g1:az L run 23 [.sc (.string x)] (.sc (.bool true)))(g2:az L run 23 [.sc (.string y)] (.sc (.bool true)))(g3:az L run 34 [.sc (.string x),.sc (.string y)] (.sc (.string z)))(h0:fr.length=282)(h23:nth fr 23=iv 0)(h25:nth fr 25=iv 0)(h26:nth fr 26 = .sc (.string x))(h27:nth fr 27=iv 0)(h28:nth fr 28 = .sc (.string y))(h29:nth fr 29=iv 0)(h30:nth fr 30 = .sc (.string z))(h31:nth fr 31=iv 0)(h32:nth fr 32 = .sc (.string x))(h33:nth fr 33=iv 0)(h34:nth fr 34=Ab.bJ s)(h35:nth fr 35=Ab.bJ e)(h36:nth fr 36=Ab.bJ s)(h37:nth fr 37=Ab.bJ e) :
  ∃ st,af (CC L) run k (ag 19 mpC) ⟨fr,hp,wr⟩=some (.ret,st)∧bc TT st.fr st.hp Tryz.f9.results.toList=some [.sc (.bool true)]:=by
 unfold az at g1 g2 g3
 simp only[iv,Ab.bJ,Int.cast_ofNat_Int] at h23 h25 h27 h29 h31 h33 h34 h35 h36 h37
 obtain⟨fr1,a1,a2⟩:∃ fr1,af (CC L) run k (seq1 (ag 19 mpC)) ⟨fr,hp,wr⟩=some (.normal,⟨fr1,hp,wr⟩)∧True:=by
  simp[Tryz.f9,aM,unP,h0,h23,h25,h26,h27,h28,h29,h31,h33,g1,g2]
 have K:=bG _ a1
 have b0:=K.len h0
 have b26:=K.at h26
 have b28:=K.at h28
 have b30:=K.at h30
 have b32:=K.at h32
 have b34:=K.at h34
 have b35:=K.at h35
 have b36:=K.at h36
 have b37:=K.at h37
 obtain⟨st,c1,c2⟩:∃ st,af (CC L) run k (ag 20 mpC) ⟨fr1,hp,wr⟩=some (.ret,st)∧bc TT st.fr st.hp Tryz.f9.results.toList=some [.sc (.bool true)]:=by
  simp[Tryz.f9,aM,b0,b26,b28,b30,b32,b34,b35,b36,b37,g3,ht,ht2,bc]
 refine⟨st,?_,c2⟩
 rw[show ag 19 mpC = .seq (seq1 (ag 19 mpC)) (ag 20 mpC) from rfl,ar a1]
 exact c1
end
abbrev MpA:=List (List ByteArray) × List ByteArray × List ByteArray × Ω
def eMp (p:MpA):Ψ:=[cE p.1,.agg (p.2.1.flatMap es),pE p.2.2.1,.agg (p.2.2.2.map u8v)]
def LM:Lst:=[(11,Io),(32,C9),(22,rP),(12,il []),(33,acy),(13,B8),(19,qW),(23,J8),(24,wH),(34,zJ)]
theorem ai9:dt base.P LM:=⟨OI,Mf,zH,acs,Xu,HW,B6,zy,zP,Ni,trivial⟩
theorem py {hp:Θ}{z:Ψ}{t:Nat}(h:t<hp.length):aP (aL hp z) t=aP hp t:=by rw[bz,if_neg (by omega)]
theorem yo (hp:Θ)(z:Ψ):(aL hp z).length=hp.length+1:=by simp[aL]
def oM (n i:Nat):PV:=.own 0 1 (3*i) n (n == 3)
theorem take_one (v:PV):bD (bq [v] 0) (1*1)=some [v]:=rfl
theorem WQ {hp:Θ}{ms:List ByteArray}(hb:aP hp 0=some ⟨.live,ms.flatMap es⟩)(h0:0<hp.length)(hm:ms.length=9)(h12:∀ s ∈ ms,(bys s).length≤12){i n:Nat}(hi:i<3)(hn:n≤3)(run:aw)(dr:Bool):∃ fp,bU (CC LM) run dr (aL hp [oM n i]) 22 [.own hp.length 1 0 1 true]=some (iv (chk [gB ms i n]),aL hp [oM n i],fp):=by
 have hs:=qG (x:=true) (al1 hp [oM n i]) (take_one _) (nm (hp:=aL hp [oM n i]) (by rw[py h0];exact hb) hm hi hn (n == 3))
 have hF:Fit [gB ms i n]:=⟨by simp,fun p hp=>by
  rw[mem_singleton.1 hp,np hm hi hn]
  refine⟨by omega,fun s hs=>Nat.le_trans (h12 s ?_) (by omega)⟩
  exact mem_of_mem_drop (mem_of_mem_take hs)⟩
 have hf:rP [.imm 1 false [pE (gB ms i n)]]=some [iv (chk [gB ms i n])] :=
  jf (e:=fun c=>[cE c]) (f:=fun c=>[iv (chk c)]) (fun x y _ _ h=>by rw[jV h]) (x:=[gB ms i n]) hF
 obtain⟨hp',fp,a1,-,-,a4,-⟩:=hs.call (C:=CC LM) (g:=22) (by omega) kH (f:=rP) (fun _=>rfl) hf run dr
 obtain⟨rfl,-⟩:=a4 rfl
 exact⟨fp,a1⟩
def tzj (j:Nat):Ψ:=(List.range 3).map fun k=>if k=j then .sc (.string ⟨#[49]⟩) else .sc (.string ⟨#[48]⟩)
theorem Yv {j:Nat}(h:j<3):cm tz j [.sc (.string ⟨#[49]⟩)]=some (tzj j):=by
 rcases ajF h with rfl | rfl | rfl <;> rfl
theorem TV {n j:Nat}(h:j<n):((iH n)[j]'(by unfold iH;simpa using h))=(List.range n).map fun k=>if k=j then 1 else 0:=by
 unfold iH;simp
theorem QJ {n j:Nat}(hn:n≤3):bD (bq (tzj j) 0) (n*1)=some (((List.range n).map fun k=>if k=j then (1:Rat) else 0).map qt):=by
 have h1:bD (bq (tzj j) 0) (n*1)=some ((tzj j).take n):=by
  rw[cA,drop_zero,Nat.mul_one,dc (by simp[tzj];omega)]
 rw[h1]
 congr 1
 unfold tzj
 rw[← map_take,take_range,Nat.min_eq_left hn,map_map]
 refine map_congr_left fun k _ => ?_
 show _=qt (if k=j then (1:Rat) else 0)
 by_cases hk:k=j
 ·rw[if_pos hk,if_pos hk];rfl
 ·rw[if_neg hk,if_neg hk];rfl
structure J1 (n:Nat) (ms:List ByteArray) (U:Ψ) (j:Nat) (f:Nat→PV) (hp:Θ) (ps:Ψ) (ids:Ω):Prop where
 b0:aP hp 0=some ⟨.live,ms.flatMap es⟩
 b1:aP hp 1=some ⟨.live,U⟩
 l2:2≤hp.length
 ck:∀ i,i<j→chk [gB ms i n]=0
 r:LsA hp ((List.range j).map (oM n)) (f 10)
 rb:∀ t ∈ cZ (f 10),2≤t
 ri:∀ t x cs,f 10 ≠ .imm t x cs
 pl:ps.length=j
 o:LsA hp ps (f 11)
 os:cU hp 2 ps (((iH n).take j).map qL) ids
 ol:∀ t ∈ ids,2≤t∧t<hp.length∧t ∉ cZ (f 10)
 oi:∀ t x cs,f 11 ≠ .imm t x cs
 ob:∀ t ∈ cZ (f 11),2≤t∧t ∉ ids∧t ∉ cZ (f 10)
theorem J1.cg {n:Nat}{ms:List ByteArray}{U:Ψ}{j:Nat}{f g:Nat→PV}{hp:Θ}{ps:Ψ}{ids:Ω}(h:J1 n ms U j f hp ps ids)(h10:g 10=f 10)(h11:g 11=f 11):J1 n ms U j g hp ps ids:=by
 obtain⟨a1,a2,a3,a4,a5,a6,a7,a8,a9,a10,a11,a12,a13⟩:=h
 rw[← h10] at a5 a6 a7 a11 a13
 rw[← h11] at a9 a12 a13
 exact⟨a1,a2,a3,a4,a5,a6,a7,a8,a9,a10,a11,a12,a13⟩
theorem UJ (run:aw)(k n:Nat)(ms:List ByteArray)(U:Ψ)(hm:ms.length=9)(h12:∀ s ∈ ms,(bys s).length≤12)(hn:n≤3)(j:Nat)(hj:j<n)(fr:Ψ)(hp:Θ)(wr:Ω)(ps:Ψ)(ids:Ω)(h0:fr.length=282)(h5:nth fr 5 = .ptr 0 0)(h9:nth fr 9=iv n)(h13:nth fr 13=iv j)(h:J1 n ms U j (nth fr) hp ps ids) :
  (∃ st,af (CC LM) run k (lX fl) ⟨fr,hp,wr⟩=some (.ret,st)∧nth st.fr 8 = .sc (.bool true))∨∃ fr' hp' wr' ps' ids',af (CC LM) run k (lX fl) ⟨fr,hp,wr⟩=some (.normal,⟨fr',hp',wr'⟩)∧J1 n ms U (j+1) (nth fr') hp' ps' ids':=by
 have hM9:(ms.flatMap es).length=9:=by rw[Cl];exact hm
 have hl2:=h.l2
 obtain⟨fp1,g⟩:=WQ h.b0 (by omega) hm h12 (show j<3 by omega) hn run false
 obtain⟨fr1,hp1,wr1,x1,x2,x3⟩:=ae9 LM run k fr hp wr _ hM9 h.b0 j n _ (by omega) hn fp1 g h0 h5 h9 h13
 have sp:lX fl = .seq (seq1 (lX fl)) (.seq (seq1 (ag 1 (lX fl))) (ag 2 (lX fl))):=rfl
 by_cases he:chk [gB ms j n]=0
 ·right
  rw[if_pos he] at x1
  have x2':=x2 he
  rw[show PV.own 0 1 (3*j) n (n == 3)=oM n j from rfl] at x2'
  subst x2'
  have K1:=bG _ x1
  have l1:=yo hp [oM n j]
  have l2:=yo (aL hp [oM n j]) [oM n j]
  have n1:∀ t,t<hp.length→aP (aL (aL hp [oM n j]) [oM n j]) t=aP hp t:=fun t ht=>by rw[py (by omega),py ht]
  have r1:LsA (aL (aL hp [oM n j]) [oM n j]) _ (nth fr 10):=h.r.agree fun t ht=>n1 t (h.r.lt t ht)
  obtain⟨hp2,fp2,a1,a2,a3,a4⟩:=r1.app (oM n j) (by simp;omega)
  obtain⟨fr2,wr2,y1,y2⟩:=ae8 LM run k fr1 (aL hp [oM n j]) wr1 (.agg []) _ _ j n hp2 fp2 _ hM9 (by rw[py (by omega)];exact h.b0) (by omega) hn a1 (K1.len h0) (K1.at h5) (K1.at h9) (K1.at rfl) (K1.at h13)
  have K2:=bG _ y1
  have f0:=K2.len (K1.len h0)
  have f9:=K2.at (K1.at h9)
  have f13:=K2.at (K1.at h13)
  have f11:=K2.at (K1.at (t:=11) rfl (by kernel_rfl))
  rw[length_map,length_range] at a1 a2 y2
  have n2:∀ t,t<hp.length→t ∉ cZ (nth fr 10)→aP hp2 t=aP hp t:=fun t ht hn'=>by rw[a4 t (by omega) hn',n1 t ht]
  obtain⟨fr3,wr3,z1,z2⟩:=ae7 LM run k fr2 hp2 wr2 (tzj j) j n hj hn (Yv (by omega)) f0 f9 f13
  have hl3:(bZ (aL hp2 tz) hp2.length ⟨.live,tzj j⟩).length=hp2.length+1:=by rw[bC,yo]
  have n3:∀ t,t<hp2.length→aP (bZ (aL hp2 tz) hp2.length ⟨.live,tzj j⟩) t=aP hp2 t:=fun t ht=>by rw[iX (al1 hp2 _) (by omega),py ht]
  have e3:aP (bZ (aL hp2 tz) hp2.length ⟨.live,tzj j⟩) hp2.length=some ⟨.live,tzj j⟩:=nf (al1 hp2 _)
  generalize bZ (aL hp2 tz) hp2.length ⟨.live,tzj j⟩=hp3 at *
  obtain⟨F',hF'⟩:∃ v,nth fr2 10=v:=⟨_,rfl⟩
  have K3:dJ (ct (.seq (seq1 (ag 2 (lX fl))) (seq1 (ag 3 (lX fl))))) fr2 fr3:=by
   have e:=aQ 2 z1
   have hz:af (CC LM) run k (.seq (seq1 (ag 2 (lX fl))) (seq1 (ag 3 (lX fl)))) ⟨fr2,hp2,wr2⟩=some (.normal,⟨fr3,hp3,wr3⟩):=by
    have hsp:ag 2 (lX fl) = .seq (seq1 (ag 2 (lX fl))) (.seq (seq1 (ag 3 (lX fl))) (ag 4 (lX fl))):=rfl
    rw[hsp] at z1
    simp only[ba] at z1
    rw[af]
    split at z1
    ·rename_i st' hst
     rw[show af (CC LM) run k (seq1 (ag 2 (lX fl))) ⟨fr2,hp2,wr2⟩=some (.normal,st') from hst]
     dsimp only
     split at z1
     ·rename_i st2 hst2
      rw[show af (CC LM) run k (seq1 (ag 3 (lX fl))) st'=some (.normal,st2) from hst2]
      simpa using z1
     ·cases z1
    ·cases z1
   exact bG _ hz
  have g0:=K3.len f0
  have g11:=K3.at f11
  have g10:=K3.at hF'
  have lo4:=yo hp3 [.own hp2.length 1 0 n true]
  have n4:∀ t,t<hp2.length→aP (aL hp3 [.own hp2.length 1 0 n true]) t=aP hp2 t:=fun t ht=>by rw[py (by omega),n3 t ht]
  have r4:LsA (aL hp3 [.own hp2.length 1 0 n true]) ps (nth fr 11):=h.o.agree fun t ht=>by
   have h1:=h.ob t ht
   have h2:=h.o.lt t ht
   rw[n4 t (by omega),n2 t h2 h1.2.2]
  obtain⟨hp5,fp5,b1,b2,b3,b4⟩:=r4.app (.own hp2.length 1 0 n true) (by rw[h.pl];omega)
  obtain⟨fr5,wr5,w1,w2⟩:=ae6 LM run k fr3 hp3 wr3 _ _ _ hp5 fp5 hp2.length n rfl b1 g0 g11 z2
  have K5:=bG _ w1
  have k10:nth fr5 10 = .own (aL (aL hp [oM n j]) [oM n j]).length 1 0 (j+1) false:=by rw[K5.at g10,← hF',y2]
  rw[l2,l1] at k10 a2
  have n5:∀ t,t<hp.length→t ∉ cZ (nth fr 10)→t ∉ cZ (nth fr 11)→aP hp5 t=aP hp t:=fun t ht h1 h2=>by rw[b4 t (by omega) h2,n4 t (by omega),n2 t ht h1]
  have z0:0 ∉ cZ (nth fr 10):=fun hh=>by have:=h.rb 0 hh;omega
  have z1':1 ∉ cZ (nth fr 10):=fun hh=>by have:=h.rb 1 hh;omega
  have z2':0 ∉ cZ (nth fr 11):=fun hh=>by have:=(h.ob 0 hh).1;omega
  have z3:1 ∉ cZ (nth fr 11):=fun hh=>by have:=(h.ob 1 hh).1;omega
  refine⟨fr5,hp5,wr5,ps++[.own hp2.length 1 0 n true],ids++[hp2.length],?_,?_⟩
  ·rw[sp,ar x1,ar y1,aQ 2 z1]
   exact w1
  ·have bl10:∀ t,t ∈ cZ (nth fr5 10) ↔ t=hp.length+2:=fun t=>by rw[k10];simp[cZ]
   have bl11:∀ t,t ∈ cZ (nth fr5 11) ↔ t=hp2.length+2:=fun t=>by rw[w2,lo4,hl3];simp[cZ]
   have hb11:∀ t ∈ cZ (nth fr 11),t<hp.length:=h.o.lt
   refine⟨by rw[n5 0 (by omega) z0 z2'];exact h.b0,by rw[n5 1 (by omega) z1' z3];exact h.b1,by omega,fun i hi => ?_,?_,fun t ht=>by rw[(bl10 t).1 ht];omega,fun t x cs=>by rw[k10];nofun,by rw[length_append,h.pl];rfl,?_,?_,fun t ht => ?_,fun t x cs=>by rw[w2];nofun,fun t ht => ?_⟩
   ·rcases Nat.lt_or_ge i j with hij | hij
    ·exact h.ck i hij
    ·rw[show i=j by omega];exact he
   ·rw[k10,range_succ,map_append]
    refine LsA.agree (hp:=hp2) a2 fun t ht => ?_
    have ht':t=hp.length+2:=by simpa [cZ] using ht
    rw[b4 t (by omega) (fun hh=>by have:=hb11 t hh;omega),n4 t (by omega)]
   ·rw[w2,h.pl]
    have:=b2
    rw[h.pl] at this
    exact this
   ·rw[take_succ_eq_append_getElem (by unfold iH;simpa using hj),map_append]
    refine cU.app (h.os.agree fun t ht => ?_) ?_
    ·have:=h.ol t ht
     exact nC (n5 t this.2.1 this.2.2 fun hh=>(h.ob t hh).2.1 ht)
    ·rw[TV hj]
     have e5:aP hp5 hp2.length=some ⟨.live,tzj j⟩:=by
      rw[b4 _ (by omega) (fun hh=>by have:=hb11 _ hh;omega),py (by omega)];exact e3
     have:=qG (x:=true) e5 (QJ (j:=j) hn) (wj hp5 _)
     rw[map_cons,map_nil,HQ,length_map,length_range]
     exact this
   ·rcases mem_append.1 ht with ht | ht
    ·have:=h.ol t ht
     exact⟨this.1,by omega,fun hh=>by have:=(bl10 t).1 hh;omega⟩
    ·have ht':t=hp2.length:=by simpa using ht
     exact⟨by omega,by omega,fun hh=>by have:=(bl10 t).1 hh;omega⟩
   ·have ht':=(bl11 t).1 ht
    refine⟨by omega,fun hh => ?_,fun hh=>by have:=(bl10 t).1 hh;omega⟩
    rcases mem_append.1 hh with hh | hh
    ·have:=h.ol t hh;omega
    ·have:t=hp2.length:=by simpa using hh
     omega
 ·left
  rw[if_neg he] at x1
  refine⟨⟨fr1,hp1,wr1⟩,?_,x3 he⟩
  rw[sp]
  exact cj x1
theorem UO (run:aw)(k n:Nat)(ms:List ByteArray)(U:Ψ)(hk:10≤k)(hm:ms.length=9)(h12:∀ s ∈ ms,(bys s).length≤12)(hn:n≤3)(fr:Ψ)(hp:Θ)(wr:Ω)(h0:fr.length=282)(h5:nth fr 5 = .ptr 0 0)(h9:nth fr 9=iv n)(h10:nth fr 10 = .sc (.slice none 0 0))(h11:nth fr 11 = .sc (.slice none 0 0))(h13:nth fr 13=iv 0)(b0:aP hp 0=some ⟨.live,ms.flatMap es⟩)(b1:aP hp 1=some ⟨.live,U⟩)(l2:2≤hp.length) :
  (∃ st,af (CC LM) run k (.block 0 (.loop fl)) ⟨fr,hp,wr⟩=some (.ret,st)∧nth st.fr 8 = .sc (.bool true))∨∃ fr' hp' wr' ps ids,af (CC LM) run k (.block 0 (.loop fl)) ⟨fr,hp,wr⟩=some (.normal,⟨fr',hp',wr'⟩)∧dJ (ct fl) fr fr'∧J1 n ms U n (nth fr') hp' ps ids:=by
 obtain⟨e,st,a1,a2⟩:=Lg (C:=CC LM) (run:=run) (k:=k) (e:=0) (e2:=1) (i:=13) (n:=n) (j0:=0) (B:=fl) (test:=lT fl) (body:=lX fl) (inc:=lI fl) (.inl aaV) (by kernel_rfl) (by kernel_rfl) (by omega) (by omega)
  (J:=fun j f hp=>∃ ps ids,J1 n ms U j f hp ps ids) (R:=fun st=>nth st.fr 8 = .sc (.bool true)) (fr0:=fr) (hp0:=hp) (wr0:=wr)
  (fun fr' hp wr j hK hj=>ah2 LM run k fr' hp wr j _ (hK.len h0) (hK.at h9) hj)
  (fun fr' hp wr j hK hj hn=>aib LM run k fr' hp wr j (by omega) (hK.len h0) hj)
  (fun j f g hp ht ⟨ps,ids,h⟩=>⟨ps,ids,h.cg (ht 10 (by kernel_rfl) (by kernel_rfl)).symm (ht 11 (by kernel_rfl) (by kernel_rfl)).symm⟩)
  (fun j fr' hp wr _ hj hK hij ⟨ps,ids,h⟩=>by
   rcases UJ run k n ms U hm h12 hn j hj fr' hp wr ps ids (hK.len h0) (hK.at h5) (hK.at h9) hij h with ⟨st,x1,x2⟩| ⟨fr2,hp2,wr2,ps',ids',x1,x2⟩
   ·exact⟨.ret,st,by simp only[af,x1],.inr ⟨rfl,x2⟩⟩
   ·exact⟨.normal,⟨fr2,hp2,wr2⟩,by simp only[af,x1],.inl ⟨rfl,ps',ids',x2⟩⟩)
  h13 ⟨[],[],b0,b1,l2,fun i hi=>by omega,by rw[h10];exact LsA.nil hp,fun t ht=>by rw[h10] at ht;simp[cZ] at ht,fun t x cs=>by rw[h10];nofun,rfl,by rw[h11];exact LsA.nil hp,cU.nil hp 2,fun t ht=>by simp at ht,fun t x cs=>by rw[h11];nofun,fun t ht=>by rw[h11] at ht;simp[cZ] at ht⟩
 rcases a2 with ⟨rfl,a2,ps,ids,a3⟩| ⟨rfl,a2⟩
 ·exact .inr ⟨st.fr,st.hp,st.wr,ps,ids,a1,a2,a3⟩
 ·exact .inl ⟨st,a1,a2⟩
def qp (B:List Rat)(R:List (List Rat))(i:Nat):List Rat:=(List.range R.length).map fun k=>B.getD k 0+(R.getD k []).getD i 0
theorem UM (run:aw)(k n i:Nat)(b ms:List ByteArray)(B:List Rat)(R:List (List Rat))(hk:10≤k)(hn:n≤3)(hi:i<n)(hR:R.length=n)(hbl:n≤b.length)(hm:ms.length=9)(hB:∀ j (h:j<b.length),j<n→b[j]=qb (B.getD j 0)∧Rb 13 (B.getD j 0))(hM:∀ j (h:j*3+i<ms.length),j<n→ms[j*3+i]=qb ((R.getD j []).getD i 0)∧Rb 13 ((R.getD j []).getD i 0))(fr:Ψ)(hp:Θ)(wr:Ω)(h0:fr.length=282)(h2:nth fr 2=pE b)(h5:nth fr 5 = .ptr 0 0)(h9:nth fr 9=iv n)(h15:nth fr 15=iv i)(h16:nth fr 16 = .sc (.slice none 0 0))(h17:nth fr 17=iv 0)(b0:aP hp 0=some ⟨.live,ms.flatMap es⟩)(l0:0<hp.length) :
  ∃ fr' hp' wr' id,af (CC LM) run k (.block 4 (.loop lR)) ⟨fr,hp,wr⟩=some (.normal,⟨fr',hp',wr'⟩)∧dJ (ct lR) fr fr'∧nth fr' 16 = .own id 1 0 n false∧LsA hp' ((qp B R i).map qt) (nth fr' 16)∧hp.length≤id∧hp.length≤hp'.length∧∀ t,t<hp.length→aP hp' t=aP hp t:=by
 have hul:(qp B R i).length=n:=by unfold qp;simp[hR]
 obtain⟨fr',hp',wr',a1,a2,a3,a4,a5,a6,a7⟩:=mI (C:=CC LM) (run:=run) (k:=k) (e:=4) (e2:=5) (i:=17) (n:=n) (j0:=0) (B:=lR) (test:=lT lR) (body:=lX lR) (inc:=lI lR) (.inl aaT) (by kernel_rfl) (by kernel_rfl) (by omega) (by omega)
  (J:=fun j f hp'=>LsA hp' (((qp B R i).take j).map qt) (f 16)∧(∀ t ∈ cZ (f 16),hp.length≤t)∧hp.length≤hp'.length∧(∀ t,t<hp.length→aP hp' t=aP hp t)∧(0<j→∃ id,f 16 = .own id 1 0 j false)) (fr0:=fr) (hp0:=hp) (wr0:=wr)
  (fun fr' hp wr j hK hj=>ah0 LM run k fr' hp wr j _ (hK.len h0) (hK.at h9) hj)
  (fun fr' hp wr j hK hj hn=>ah9 LM run k fr' hp wr j (by omega) (hK.len h0) hj)
  (fun j f g hp' ht h=>by rw[← ht 16 (by kernel_rfl) (by kernel_rfl)];exact h)
  (fun j fr' hp1 wr1 _ hj hK hij ⟨j1,j2,j3,j4,j5⟩=>by
   obtain⟨q1,q2⟩:=hB j (by omega) hj
   obtain⟨q3,q4⟩:=hM j (by omega) hj
   have g:=aj1 (L:=LM) rfl run q2 q4 (by omega)
   obtain⟨hp2,fp,c1,c2,c3,c4⟩:=j1.app (qt (B.getD j 0+(R.getD j []).getD i 0)) (by rw[length_map,length_take];omega)
   have hlen:(((qp B R i).take j).map qt).length=j:=by rw[length_map,length_take];omega
   rw[hlen] at c1 c2
   obtain⟨fr2,wr2,d1,d2⟩:=ae3 LM run k fr' hp1 wr1 b ms i n j (qb (B.getD j 0+(R.getD j []).getD i 0)) _ _ hp2 fp (by omega) (by omega) (by omega) (by omega) (by rw[j4 0 l0];exact b0) (by rw[q1,q3];exact g) c1 (hK.len h0) (hK.at h2) (hK.at h5) (hK.at h15) rfl hij
   refine⟨fr2,hp2,wr2,d1,?_,?_,by omega,fun t ht => ?_,fun _=>⟨_,d2⟩⟩
   ·rw[d2]
    have e:(qp B R i)[j]'(by omega)=B.getD j 0+(R.getD j []).getD i 0:=by simp only[qp,getElem_map,getElem_range]
    rw[take_succ_eq_append_getElem (by omega),map_append,e]
    exact c2
   ·rw[d2]
    intro t ht
    have:t=hp1.length:=by simpa [cZ] using ht
    omega
   ·rw[c4 t (by omega) (fun hh=>by have:=j2 t hh;omega),j4 t ht])
  h17 ⟨by rw[h16];exact LsA.nil hp,fun t ht=>by rw[h16] at ht;simp[cZ] at ht,Nat.le_refl _,fun _ _=>rfl,fun h=>by omega⟩
 obtain⟨id,hid⟩:=a7 (by omega)
 rw[← hul,take_length] at a3
 refine⟨fr',hp',wr',id,a1,a2,hid,a3,?_,a5,a6⟩
 exact a4 id (by rw[hid];simp[cZ])
theorem Yt (B:List Rat)(R:List (List Rat))(i:Nat)(hi:i<R.length):(eH R B).take (i+2)=(eH R B).take (i+1)++[qp B R i]:=by
 have hl:(eH R B).length=R.length+1:=by unfold eH;simp
 rw[take_succ_eq_append_getElem (by omega)]
 congr 2
 simp only[eH,getElem_cons_succ,getElem_map,getElem_range,qp]
theorem UN (run:aw)(k n:Nat)(b ms:List ByteArray)(B:List Rat)(R:List (List Rat))(hk:10≤k)(h1:1≤n)(hn:n≤3)(hR:R.length=n)(hbl:n≤b.length)(hm:ms.length=9)(hB:∀ j (h:j<b.length),j<n→b[j]=qb (B.getD j 0)∧Rb 13 (B.getD j 0))(hM:∀ i j (h:j*3+i<ms.length),i<n→j<n→ms[j*3+i]=qb ((R.getD j []).getD i 0)∧Rb 13 ((R.getD j []).getD i 0))(fr:Ψ)(hp:Θ)(wr:Ω)(h0:fr.length=282)(h2:nth fr 2=pE b)(h5:nth fr 5 = .ptr 0 0)(h9:nth fr 9=iv n)(h12:nth fr 12 = .imm 1 true [qL B])(h15:nth fr 15=iv 0)(b0:aP hp 0=some ⟨.live,ms.flatMap es⟩)(l0:0<hp.length) :
  ∃ fr' hp' wr' ids,af (CC LM) run k (.block 2 (.loop gN)) ⟨fr,hp,wr⟩=some (.normal,⟨fr',hp',wr'⟩)∧dJ (ct gN) fr fr'∧cU hp' 3 [nth fr' 12] [qC (eH R B)] ids∧(∀ t ∈ ids,t<hp'.length)∧hp.length≤hp'.length∧∀ t,t<hp.length→aP hp' t=aP hp t:=by
 have hul:(eH R B).length=n+1:=by unfold eH;simp[hR]
 obtain⟨fr',hp',wr',a1,a2,ps,ids,a3,a4,a5,a6,a7,a8,a9,a10⟩:=mI (C:=CC LM) (run:=run) (k:=k) (e:=2) (e2:=3) (i:=15) (n:=n) (j0:=0) (B:=gN) (test:=lT gN) (body:=lX gN) (inc:=lI gN) (.inl aaU) (by kernel_rfl) (by kernel_rfl) (by omega) (by omega)
  (J:=fun j f hp'=>∃ ps ids,ps.length=j+1∧LsA hp' ps (f 12)∧cU hp' 2 ps (((eH R B).take (j+1)).map qL) ids∧(∀ t ∈ ids,hp.length≤t∧t<hp'.length)∧(∀ t ∈ cZ (f 12),hp.length≤t∧t ∉ ids)∧hp.length≤hp'.length∧(∀ t,t<hp.length→aP hp' t=aP hp t)∧(0<j→∀ t x cs,f 12 ≠ .imm t x cs)) (fr0:=fr) (hp0:=hp) (wr0:=wr)
  (fun fr' hp wr j hK hj=>ah1 LM run k fr' hp wr j _ (hK.len h0) (hK.at h9) hj)
  (fun fr' hp wr j hK hj hn=>aia LM run k fr' hp wr j (by omega) (hK.len h0) hj)
  (fun j f g hp' ht h=>by rw[← ht 12 (by kernel_rfl) (by kernel_rfl)];exact h)
  (fun j fr' hp1 wr1 _ hj hK hij ⟨ps,ids,j1,j2,j3,j4,j5,j6,j7,j8⟩=>by
   obtain⟨fr2,fr3,c1,c2,c3,c4⟩:=ae4 LM run k fr' hp1 wr1 (hK.len h0)
   have K2:=bG _ c1
   have K3:=bG _ c2
   have e0:=K3.len (K2.len (hK.len h0))
   have e2:=K3.at (K2.at (hK.at h2))
   have e5:=K3.at (K2.at (hK.at h5))
   have e9:=K3.at (K2.at (hK.at h9))
   have e15:=K3.at (K2.at hij)
   have e16:=K3.at c3
   have e12:=K3.at (K2.at (t:=12) rfl (by kernel_rfl))
   obtain⟨fr4,hp4,wr4,id,d1,d2,d3,d4,d5,d6,d7⟩:=UM run k n j b ms B R hk hn hj hR hbl hm hB (fun i' h hi'=>hM j i' h hj hi') fr3 hp1 wr1 e0 e2 e5 e9 e15 e16 c4 (by rw[j7 0 l0];exact b0) (by omega)
   have i0:=d2.len e0
   have i12:=d2.at e12
   have al:=yo hp4 [.own id 1 0 n false]
   have r1:LsA (aL hp4 [.own id 1 0 n false]) ps (nth fr' 12):=j2.agree fun t ht=>by
    have h1:=j2.lt t ht
    rw[py (by omega),d7 t h1]
   obtain⟨hp5,fp,f1,f2,f3,f4⟩:=r1.app (.own id 1 0 n false) (by omega)
   obtain⟨fr5,wr5,g1,g2⟩:=ae2 LM run k fr4 hp4 wr4 (.own id 1 0 n false) _ _ hp5 fp id n rfl f1 i0 i12 d3
   have hlt4:=d4.lt
   obtain⟨js,s1,s2⟩:=d4.DH (wj hp4 (qp B R j)) (.inl (by rw[d3];nofun))
   have e:PV.imm ((qp B R j).map qt).length false ((qp B R j).map qt)=qL (qp B R j):=by rw[HQ,length_map]
   rw[e,d3] at s1
   rw[d3] at s2 hlt4
   have s2':∀ t ∈ js,t=id:=fun t ht=>by
    rcases s2 t ht with h | h
    ·simpa [cZ] using h
    ·simp at h
   have hid4:=hlt4 id (by simp[cZ])
   have nn:∀ t,t<hp1.length→t ∉ cZ (nth fr' 12)→aP hp5 t=aP hp1 t:=fun t ht hh=>by rw[f4 t (by omega) hh,py (by omega),d7 t ht]
   have w1:cU hp5 2 ps (((eH R B).take (j+1)).map qL) ids:=j3.agree fun t ht=>nC (nn t (j4 t ht).2 fun hh=>(j5 t hh).2 ht)
   have w2:cU hp5 2 [.own id 1 0 n false] [qL (qp B R j)] js:=s1.agree fun t ht=>nC (by
    have:=s2' t ht
    rw[f4 t (by omega) (fun hh=>by have:=j2.lt t hh;omega),py (by omega)])
   refine⟨fr5,hp5,wr5,?_,ps++[.own id 1 0 n false],ids++js,by rw[length_append,j1];rfl,by rw[g2];exact f2,?_,fun t ht => ?_,fun t ht => ?_,by omega,fun t ht => ?_,fun _ t x cs=>by rw[g2];nofun⟩
   ·have sp:lX gN = .seq (seq1 (lX gN)) (.seq (.seq (seq1 (seq1 (bn (lX gN)))) (.block 4 (.loop lR))) (bn (bn (lX gN)))):=rfl
    rw[sp,ar c1,ar (by rw[ar c2];exact d1)]
    exact g1
   ·rw[Yt B R j (by omega),map_append]
    exact w1.app w2
   ·rcases mem_append.1 ht with ht | ht
    ·have:=j4 t ht;exact⟨by omega,by omega⟩
    ·have:=s2' t ht;exact⟨by omega,by omega⟩
   ·rw[g2] at ht
    have ht':t=(aL hp4 [.own id 1 0 n false]).length:=by simpa [cZ] using ht
    refine⟨by omega,fun hh => ?_⟩
    rcases mem_append.1 hh with hh | hh
    ·have:=j4 t hh;omega
    ·have:=s2' t hh;omega
   ·rw[nn t (by omega) (fun hh=>by have:=(j5 t hh).1;omega),j7 t ht])
  h15 ⟨[qL B],[],rfl,by rw[h12];exact .inr (.inl ⟨by simp,rfl⟩),by
   have e:((eH R B).take (0+1)).map qL=[qL B]:=rfl
   rw[e]
   exact (BD hp (B.map qb) 1),fun t ht=>by simp at ht,fun t ht=>by rw[h12] at ht;simp[cZ] at ht,Nat.le_refl _,fun _ _=>rfl,fun h=>by omega⟩
 have hni:=a10 (by omega)
 obtain⟨js,s1,s2⟩:=a4.DH a5 (.inl (hni _ _ _))
 rw[← hul,take_length] at s1
 refine⟨fr',hp',wr',js,a1,a2,?_,fun t ht=>(s2 t ht).elim (a4.lt t) fun h=>(a6 t h).2,a8,a9⟩
 rw[B3,hul,← a3]
 exact s1
theorem UL (run:aw)(k n m:Nat)(l:Ω)(hk:10≤k)(hn:n≤3)(hl5:l.length=5)(hl:∀ x ∈ l,x<256)(hm:m≠0)(fr:Ψ)(hp:Θ)(wr:Ω)(C:PV)(h0:fr.length=282)(h00:nth fr 0=C)(hC:dy C=some m)(h7:nth fr 7 = .ptr 1 0)(h9:nth fr 9=iv n)(h18:nth fr 18 = .sc (.slice none 0 0))(h19:nth fr 19 = .sc (.slice none 0 0))(h20:nth fr 20=iv 0)(b1:aP hp 1=some ⟨.live,l.map u8v⟩)(l0:1<hp.length) :
  ∃ fr' hp' wr' i1 i2,af (CC LM) run k (.block 6 (.loop ll)) ⟨fr,hp,wr⟩=some (.normal,⟨fr',hp',wr'⟩)∧dJ (ct ll) fr fr'∧cU hp' 2 [nth fr' 18] [aN ((l.take (n+1)).map (· % m))] i1∧cU hp' 2 [nth fr' 19] [aN (List.range (n+1))] i2∧hp.length≤hp'.length∧∀ t,t<hp.length→aP hp' t=aP hp t:=by
 obtain⟨fr',hp',wr',a1,a2,a3,a4,a5,a6,a7,a8,a9⟩:=mI (C:=CC LM) (run:=run) (k:=k) (e:=6) (e2:=7) (i:=20) (n:=n+1) (j0:=0) (B:=ll) (test:=lT ll) (body:=lX ll) (inc:=lI ll) (.inl aaS) (by kernel_rfl) (by kernel_rfl) (by omega) (by omega)
  (J:=fun j f hp'=>LsA hp' (((l.take j).map (· % m)).map iv) (f 18)∧LsA hp' ((List.range j).map iv) (f 19)∧(∀ t ∈ cZ (f 18),hp.length≤t∧t ∉ cZ (f 19))∧(∀ t ∈ cZ (f 19),hp.length≤t)∧hp.length≤hp'.length∧(∀ t,t<hp.length→aP hp' t=aP hp t)∧∀ t x cs,f 18 ≠ .imm t x cs∧f 19 ≠ .imm t x cs) (fr0:=fr) (hp0:=hp) (wr0:=wr)
  (fun fr' hp wr j hK hj=>ahZ LM run k fr' hp wr j _ (hK.len h0) (hK.at h9) hj)
  (fun fr' hp wr j hK hj hn=>ah8 LM run k fr' hp wr j (by omega) (hK.len h0) hj)
  (fun j f g hp' ht h=>by rw[← ht 18 (by kernel_rfl) (by kernel_rfl),← ht 19 (by kernel_rfl) (by kernel_rfl)];exact h)
  (fun j fr' hp1 wr1 _ hj hK hij ⟨j1,j2,j3,j4,j5,j6,j7⟩=>by
   have hlen1:(((l.take j).map (· % m)).map iv).length=j:=by rw[length_map,length_map,length_take];omega
   have hlen2:((List.range j).map iv).length=j:=by simp
   have hj5:j<l.length:=by omega
   obtain⟨hp2,fp2,c1,c2,c3,c4⟩:=j1.app (iv (l[j] % m)) (by rw[hlen1];omega)
   have r2:LsA hp2 ((List.range j).map iv) (nth fr' 19):=j2.agree fun t ht=>c4 t (j2.lt t ht) fun hh=>(j3 t hh).2 ht
   obtain⟨hp3,fp3,d1,d2,d3,d4⟩:=r2.app (iv j) (by rw[hlen2];omega)
   rw[hlen1] at c1 c2
   rw[hlen2] at d1 d2
   have hb1:aP hp1 1=some ⟨.live,l.map u8v⟩:=by rw[j6 1 l0];exact b1
   obtain⟨fr2,wr2,e1,e2,e3⟩:=ae0 LM run k fr' hp1 wr1 l j m (l[j] % m) 0 hj5 (by omega) hl hm (by rw[hK.at h00];exact hC) rfl _ _ _ _ hp2 hp3 fp2 fp3 hb1 c1 d1 (hK.len h0) (hK.at h7) rfl rfl hij
   have bl1:∀ t,t ∈ cZ (nth fr2 18) ↔ t=hp1.length:=fun t=>by rw[e2];simp[cZ]
   have bl2:∀ t,t ∈ cZ (nth fr2 19) ↔ t=hp2.length:=fun t=>by rw[e3];simp[cZ]
   refine⟨fr2,hp3,wr2,e1,?_,?_,fun t ht => ?_,fun t ht => ?_,by omega,fun t ht => ?_,fun t x cs=>⟨by rw[e2];nofun,by rw[e3];nofun⟩⟩
   ·rw[e2,take_succ_eq_append_getElem hj5,map_append,map_append]
    refine LsA.agree (hp:=hp2) c2 fun t ht => ?_
    have ht':t=hp1.length:=by simpa [cZ] using ht
    exact d4 t (by omega) fun hh=>by have:=j2.lt t hh;omega
   ·rw[e3,range_succ,map_append]
    exact d2
   ·have:=(bl1 t).1 ht
    exact⟨by omega,fun hh=>by have:=(bl2 t).1 hh;omega⟩
   ·have:=(bl2 t).1 ht
    omega
   ·rw[d4 t (by omega) (fun hh=>by have:=j4 t hh;omega),c4 t (by omega) (fun hh=>by have:=(j3 t hh).1;omega),j6 t ht])
  h20 ⟨by rw[h18];exact LsA.nil hp,by rw[h19];exact LsA.nil hp,fun t ht=>by rw[h18] at ht;simp[cZ] at ht,fun t ht=>by rw[h19] at ht;simp[cZ] at ht,Nat.le_refl _,fun _ _=>rfl,fun t x cs=>⟨by rw[h18];nofun,by rw[h19];nofun⟩⟩
 have sv:∀ (hp:Θ) (v:Ω),cU hp 1 (v.map iv) (v.map iv) []:=fun hp v=>by
  refine cU.own (fun d => ?_) ?_
  ·induction v with
   | nil=>rfl
   | cons y Y ih =>
    have e:Ab.snap hp (d+1) (iv y)=some (iv y,[]):=rfl
    rw[map_cons,bj,e]
    dsimp only
    rw[ih];rfl
  ·induction v with
   | nil=>rfl
   | cons y Y ih=>rw[map_cons,aJ,ih];rfl
 have ea:∀ v:Ω,PV.imm (v.map iv).length false (v.map iv)=aN v:=fun v=>by
  rw[← abS]
  unfold dj
  rw[length_map]
  congr 1
  induction v with
  | nil=>rfl
  | cons y Y ih=>rw[map_cons,flatMap_cons,ih];rfl
 obtain⟨js,s1,-⟩:=a3.DH (sv hp' _) (.inl (a9 _ _ _).1)
 obtain⟨js2,s2,-⟩:=a4.DH (sv hp' _) (.inl (a9 _ _ _).2)
 rw[ea] at s1 s2
 exact⟨fr',hp',wr',js,js2,a1,a2,s1,s2,a7,a8⟩
theorem Da {p:List ByteArray}{P:List Rat}(h:p=P.map qb){j:Nat}(hj:j<p.length):p[j]=qb (P.getD j 0):=by
 subst h
 rw[getElem_map,getD_eq_getElem?_getD,List.getElem?_eq_getElem (by simpa using hj)];rfl
theorem Y6 {ms:List ByteArray}{i j n:Nat}(h:j*3+i<ms.length)(hi:i<n)(hr:i<(gB ms j n).length):ms[j*3+i]=(gB ms j n)[i]:=by
 have e:(gB ms j n)[i]?=ms[j*3+i]?:=by
  unfold gB
  rw[getElem?_take,if_pos hi,getElem?_drop,Nat.mul_comm 3 j]
 rw[List.getElem?_eq_getElem hr,List.getElem?_eq_getElem h] at e
 exact (Option.some.inj e).symm
theorem zD {hp:Θ}{ms:List ByteArray}(hb:aP hp 0=some ⟨.live,ms.flatMap es⟩)(hm:ms.length=9){n:Nat}(hn:n≤3):∀ j,j≤3→cU hp 2 ((List.range j).map (oM n)) ((List.range j).map fun i=>pE (gB ms i n)) (List.replicate j 0)
 | 0,_=>cU.nil hp 2
 | j+1,hj=>by
  rw[range_succ,map_append,map_append,replicate_succ']
  exact (zD hb hm hn j (by omega)).app (nm hb hm (by omega) hn _)
theorem sw (hp:Θ)(X:List (List Rat))(k:Nat):cU hp (k+1) [qC X] [qC X] []:=cU.own (fun _=>rfl) (by simp only[aJ,qC,gj])
theorem adT (hp:Θ)(n:Nat)(k:Nat):cU hp (k+1) [iv n] [iv n] []:=cU.own (fun _=>rfl) rfl
theorem abU {x y:AfA}(h:eAf x=eAf y):x=y:=by
 obtain⟨a,b,c⟩:=x
 obtain⟨a',b',c'⟩:=y
 simp only[eAf,List.cons.injEq,and_true] at h
 rw[pJ h.1,pJ h.2.1,BZ h.2.2]
theorem F0 {hp:Θ}{X R:List (List Rat)}{B:List Rat}(ok:Z4 (X,R,B)){p:PV}{ids:Ω}(hs:cU hp 3 [p] [qC R] ids)(run:aw):∃ hp' fp,bU (CC LM) run false hp 33 [qC X,p,qL B]=some (.tup [qC (X.map (eG R B)),iv 0],hp',fp)∧(∀ i,rdB hp' i=rdB hp i):=by
 have h:=(sw hp X 2).app (hs.app (BD hp (B.map qb) 2))
 have hf:acy [qC X,qC R,qL B]=some [qC (X.map (eG R B)),iv 0]:=jf (e:=eAf) (f:=fun a=>[qC (aff a),iv 0]) (fun x y _ _ h=>by rw[abU h]) (x:=(X,R,B)) ok
 obtain⟨hp',fp,a1,a2,-⟩:=h.call (C:=CC LM) (g:=33) (by omega) YR (f:=acy) (fun _=>rfl) hf run false
 exact⟨hp',fp,a1,a2⟩
theorem afM {D:List (List Rat)}{m:Nat}(hE:jj m 94 D)(hm:m≤3)(h9:D.length≤100):F6 (D.map fun P=>P.map qb) :=
 ⟨by rw[length_map];exact h9,fun p hp=>by
  obtain⟨P,hP,rfl⟩:=mem_map.1 hp
  refine⟨by rw[length_map,(hE P hP).1];omega,fun s hs => ?_⟩
  obtain⟨x,hx,rfl⟩:=mem_map.1 hs
  exact Nat.le_trans (sN ((hE P hP).2 x hx)) (by omega)⟩
theorem afN {D:List (List Rat)}{m:Nat}(hE:jj m 27 D)(hm:m≤3)(h9:D.length≤100):uV (D.map fun P=>P.map qb) :=
 ⟨by rw[length_map];exact h9,fun p hp=>by
  obtain⟨P,hP,rfl⟩:=mem_map.1 hp
  refine⟨by rw[length_map,(hE P hP).1];omega,fun s hs => ?_⟩
  obtain⟨x,hx,rfl⟩:=mem_map.1 hs
  exact Nat.le_trans (sN ((hE P hP).2 x hx)) (by omega)⟩
theorem jj.up {m j k:Nat}{X:List (List Rat)}(h:jj m j X)(hk:j≤k):jj m k X:=fun P hP=>⟨(h P hP).1,(h P hP).2.up hk⟩
theorem rJ {hp:Θ}{D:List (List Rat)}{l:Ω}{m:Nat}(h1:1≤m)(h3:m≤3)(hE:jj m 94 D)(hne:D≠[])(h64:D.length≤64)(hl:l.length=m+1)(hin:∀ i ∈ l,i<D.length)(hb:Rb 1000 (mM (dQ D l))){v p:PV}{ids js:Ω}(hv:cU hp 3 [v] [qC D] js)(hs:cU hp 3 [p] [aN l] ids)(run:aw):∃ fp,bU (CC LM) run false hp 13 [v,p]=some (.tup [qt (mM (dQ D l)),iv 0],hp,fp):=by
 obtain⟨d1,d2⟩:=IT h1 h3 (hE.up (by omega)) hne h64 hl hin
 have hf:B8 [qC D,aN l]=some [qt (mM (dQ D l)),iv 0]:=by
  have:=jf (e:=eCA) (ok:=TW) (f:=fun p=>ti (vv (gH p.1 p.2).1) (gH p.1 p.2).2) (fun x y _ _ h=>by rw[Cm h]) (x:=(D.map fun P=>P.map qb,l.map Int.ofNat)) ⟨afM hE h3 (by omega),by rw[length_map];omega⟩
  dsimp only at this
  rw[d1,d2,O4 hb] at this
  exact this
 obtain⟨hp',fp,a1,-,-,a4,-⟩:=(hv.app hs).call (C:=CC LM) (g:=13) (by omega) YO (f:=B8) (fun _=>rfl) hf run false
 obtain⟨rfl,-⟩:=a4 rfl
 exact⟨fp,a1⟩
theorem Dg {hp:Θ}{D:List (List Rat)}{l:Ω}{m q:Nat}(h3:m≤3)(hE:jj m 27 D)(h64:D.length≤64)(hl:l.length=m+1){v p:PV}{ids js:Ω}(hv:cU hp 3 [v] [qC D] js)(hs:cU hp 3 [p] [aN l] ids)(run:aw):∃ fp,bU (CC LM) run false hp 19 [v,p,iv q]=some (.tup [Ab.bJ (qA (D.map fun P=>P.map qb) (l.map Int.ofNat) q).1,iv (qA (D.map fun P=>P.map qb) (l.map Int.ofNat) q).2],hp,fp):=by
 have hf:qW [qC D,aN l,iv q]=some [Ab.bJ (qA (D.map fun P=>P.map qb) (l.map Int.ofNat) q).1,iv (qA (D.map fun P=>P.map qb) (l.map Int.ofNat) q).2]:=by
  have:=jf (e:=eCL) (ok:=fun p=>uV p.1∧p.2.1.length≤1000) (f:=fun p=>[Ab.bJ (qA p.1 p.2.1 p.2.2).1,iv (qA p.1 p.2.1 p.2.2).2]) (fun x y _ _ h=>by rw[Lr h]) (x:=(D.map fun P=>P.map qb,l.map Int.ofNat,(q:Int))) ⟨afN hE h3 (by omega),by rw[length_map];omega⟩
  exact this
 obtain⟨hp',fp,a1,-,-,a4,-⟩:=(hv.app (hs.app (adT hp q 2))).call (C:=CC LM) (g:=19) (by omega) GW (f:=qW) (fun _=>rfl) hf run false
 obtain⟨rfl,-⟩:=a4 rfl
 exact⟨fp,a1⟩
theorem Ly {p:List ByteArray}(h:chk [p]=0){n:Nat}(hs:∀ s ∈ p,(bys s).length≤n):p=(p.map rq).map qb∧RbL (n+1) (p.map rq):=by
 unfold chk at h
 rw[if_neg (by simp)] at h
 have:=Lx (Cu h p mem_cons_self) hs
 exact⟨this.2.2.2.1,this.2.2.2.2⟩
def ahL (p:MpA):Prop:=(∀ q ∈ p.1,Bl q.length)∧Bl p.1.length∧p.2.1.length=9∧Bl p.2.2.1.length∧p.2.2.2.length=5∧∀ x ∈ p.2.2.2,x<256
def tin (ms:List ByteArray)(b:List ByteArray):List (List ByteArray):=[b,gB ms 0 3,gB ms 1 3,gB ms 2 3]
theorem Mg {b ms:List ByteArray}{l:Ω}(hm:ms.length=9)(hb:Bl b.length)(run:aw):bU (CC LM) run true (hp3 b ms l) 32 [.own 2 1 0 4 true]=some (.sc (.bool (kf (tin ms b))),hp3 b ms l,fp3):=by
 have b0:aP (hp3 b ms l) 0=some ⟨.live,ms.flatMap es⟩:=rfl
 have b2:aP (hp3 b ms l) 2=some ⟨.live,t4 b⟩:=rfl
 have hs:=qG (x:=true) (n:=4) b2 (off:=0) (ps:=t4 b) rfl ((BD (hp3 b ms l) b 1).app ((nm b0 hm (i:=0) (by omega) (Nat.le_refl 3) true).app ((nm b0 hm (i:=1) (by omega) (Nat.le_refl 3) true).app (nm b0 hm (i:=2) (by omega) (Nat.le_refl 3) true))))
 have hrl:∀ i,i<3→Bl (gB ms i 3).length:=fun i hi=>by rw[np hm hi (Nat.le_refl 3)];unfold Bl;omega
 have hf:C9 [cE (tin ms b)]=some [.sc (.bool (kf (tin ms b)))]:=jf (e:=fun c=>[cE c]) (f:=fun c=>[.sc (.bool (kf c))]) (fun x y _ _ h=>by rw[jV h]) (x:=tin ms b) ⟨by unfold tin Bl;simp,fun p hp=>by
  simp only[tin,mem_cons,not_mem_nil,or_false] at hp
  rcases hp with rfl | rfl | rfl | rfl
  ·exact hb
  ·exact hrl 0 (by omega)
  ·exact hrl 1 (by omega)
  ·exact hrl 2 (by omega)⟩
 obtain⟨hp',fp,a1,-,-,a4,-⟩:=hs.call (C:=CC LM) (g:=32) (by omega) DE (f:=C9) (fun _=>rfl) hf run true
 obtain⟨rfl,rfl⟩:=a4 rfl
 exact a1
theorem adG {b ms:List ByteArray}(hm:ms.length=9)(h:kf (tin ms b)=true):(∀ s ∈ b,(bys s).length≤12)∧∀ s ∈ ms,(bys s).length≤12:=by
 unfold kf at h
 rw[all_eq_true] at h
 have hp:∀ p ∈ tin ms b,∀ s ∈ p,(bys s).length≤12:=fun p hp s hs=>by
  have:=h p hp
  rw[all_eq_true] at this
  exact of_decide_eq_true (this s hs)
 refine⟨hp b (by simp[tin]),fun s hs => ?_⟩
 have e:ms=gB ms 0 3++(gB ms 1 3++gB ms 2 3):=by
  match ms,hm with
  | [_,_,_,_,_,_,_,_,_],_=>rfl
 rw[e] at hs
 rcases mem_append.1 hs with hs | hs
 ·exact hp (gB ms 0 3) (by simp[tin]) s hs
 ·rcases mem_append.1 hs with hs | hs
  ·exact hp (gB ms 1 3) (by simp[tin]) s hs
  ·exact hp (gB ms 2 3) (by simp[tin]) s hs
theorem JT {c:List (List ByteArray)}(h:kf c=true):∀ p ∈ c,∀ s ∈ p,(bys s).length≤12:=fun p hp s hs=>by
 unfold kf at h
 rw[all_eq_true] at h
 have:=h p hp
 rw[all_eq_true] at this
 exact of_decide_eq_true (this s hs)
theorem TI {b:Rat}{R P:List Rat}{k:Nat}(hb:Rb 13 b)(hR:RbL 13 R)(hP:RbL 13 P):∀ j,j≤3→Rb (13+27*j) (mZ b R P j)
 | 0,_=>hb
 | j+1,hj=>by
  have h1:=TI (k:=k) hb hR hP j (by omega)
  have h2:=(je (k:=12) hR j).mul (je (k:=12) hP j)
  exact (h1.add h2).mono (by omega)
theorem Pz {X R:List (List Rat)}{B:List Rat}{m:Nat}(hm:m≤3)(hR:R.length=m)(hV:∀ V ∈ R,V.length=m∧RbL 13 V)(hB:RbL 13 B)(hX:jj m 13 X):jj m 94 (X.map (eG R B)):=by
 intro P hP
 obtain⟨Q,hQ,rfl⟩:=mem_map.1 hP
 refine⟨by unfold eG;simp[hR],fun x hx => ?_⟩
 unfold eG at hx
 obtain⟨i,hi,rfl⟩:=mem_map.1 hx
 have hi':i<R.length:=by simpa using hi
 rw[getD_eq_getElem?_getD (l:=R),List.getElem?_eq_getElem hi',Option.getD_some]
 obtain⟨v1,v2⟩:=hV _ (getElem_mem hi')
 exact (TI (k:=0) (je (k:=12) hB i) v2 (hX Q hQ).2 _ (by omega)).mono (by omega)
end Go.Proofs.YtjdmodeenbdfpaaGreat
end
