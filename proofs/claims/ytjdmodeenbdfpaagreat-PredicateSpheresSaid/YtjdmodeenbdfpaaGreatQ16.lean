/- An abstract interpreter over the model's code and its soundness, part 16 of the proof; each lemma states its own conditions. -/
import Derived.Test.YtjdmodeenbdfpaaGreatQ15
import Derived.Test.YtjdmodeenbdfpaaGreatQ13
set_option linter.unusedSimpArgs false
set_option linter.unusedVariables false
namespace Go.Ab
open Go
section
variable {C:Cfg} {runT':mb} {run:aq}
theorem wz {n:Nat}{f:FT PV→FT Blk→Nat→List Nat→EM}{f':St→Option (Ex × St)}(hf:qD n f f'):∀ k,qD n (Tl f k) (ca f' k)
 | 0=>by
  rintro fr t m w e fr' t' m' w' h
  have h:(Option.none:EM)=some (e,fr',t',m',w'):=h
  cases h
 | k+1=>by
  intro fr t m w e fr' t' m' w' h st hh hr hw
  have h:(match f fr t m w with | some (.normal,fr,t,m,w)=>Tl f k fr t m w | r=>r)=some (e,fr',t',m',w'):=h
  unfold ca
  split at h
  ·rename_i fr1 t1 m1 w1 e1
   obtain⟨st1,h1,h2,h3,h4⟩:=hf _ _ _ _ _ _ _ _ _ e1 st hh hr hw
   rw[h1]
   exact wz hf k _ _ _ _ _ _ _ _ _ h st1 h2 h3 h4
  ·rename_i hn
   obtain⟨st1,h1,h2,h3,h4⟩:=hf _ _ _ _ _ _ _ _ _ h st hh hr hw
   rw[h1]
   cases e with
   | normal=>exact absurd h (hn _ _ _ _)
   | ret=>exact⟨st1,rfl,h2,h3,h4⟩
   | exit id=>exact⟨st1,rfl,h2,h3,h4⟩
theorem Hv (hr:lX runT' run)(hE:eh run){n k:Nat} : ∀ (cd:Code),qD n (iZ C runT' n k cd) (af C run k cd):=by
 intro cd
 have pure1:∀ (x:Ex) (f':St→Option (Ex × St)),(∀ st,f' st=some (x,st))→qD n (fun fr t m w=>some (x,fr,t,m,w)) f':=fun x f' hf'=>by
  intro fr t m w e fr' t' m' w' h st hh hf hw
  simp only[Option.some.injEq,Prod.mk.injEq] at h
  obtain⟨rfl,rfl,rfl,rfl,rfl⟩:=h
  exact⟨st,hf' st,hh,hf,hw⟩
 induction cd with
 | region id ops dr =>
  intro fr t m w e fr' t' m' w' h st hh hf hw
  unfold iZ at h
  unfold af
  exact Lw hr hE _ _ _ _ _ _ _ _ _ h st hh hf hw
 | seq a b iha ihb =>
  intro fr t m w e fr' t' m' w' h st hh hf hw
  unfold iZ at h
  unfold af
  split at h
  ·rename_i e1
   obtain⟨st1,h1,h2,h3,h4⟩:=iha _ _ _ _ _ _ _ _ _ e1 st hh hf hw
   rw[h1]
   exact ihb _ _ _ _ _ _ _ _ _ h st1 h2 h3 h4
  ·rename_i hn
   obtain⟨st1,h1,h2,h3,h4⟩:=iha _ _ _ _ _ _ _ _ _ h st hh hf hw
   rw[h1]
   cases e with
   | normal=>exact absurd h (hn _ _ _ _)
   | ret=>exact⟨st1,rfl,h2,h3,h4⟩
   | exit id=>exact⟨st1,rfl,h2,h3,h4⟩
 | cond c a b iha ihb =>
  intro fr t m w e fr' t' m' w' h st hh hf hw
  unfold iZ at h
  unfold af
  rw[hf.ev] at h
  split at h
  ·rename_i e1
   rw[e1]
   exact iha _ _ _ _ _ _ _ _ _ h st hh hf hw
  ·rename_i e1
   rw[e1]
   exact ihb _ _ _ _ _ _ _ _ _ h st hh hf hw
  ·cases h
 | block id b ih =>
  intro fr t m w e fr' t' m' w' h st hh hf hw
  unfold iZ at h
  unfold af
  split at h
  ·rename_i i fr1 t1 m1 w1 e1
   obtain⟨st1,h1,h2,h3,h4⟩:=ih _ _ _ _ _ _ _ _ _ e1 st hh hf hw
   rw[h1]
   dsimp only
   split at h
   ·rename_i hi
    simp only[Option.some.injEq,Prod.mk.injEq] at h
    obtain⟨rfl,rfl,rfl,rfl,rfl⟩:=h
    rw[if_pos hi]
    exact⟨st1,rfl,h2,h3,h4⟩
   ·rename_i hi
    simp only[Option.some.injEq,Prod.mk.injEq] at h
    obtain⟨rfl,rfl,rfl,rfl,rfl⟩:=h
    rw[if_neg hi]
    exact⟨st1,rfl,h2,h3,h4⟩
  ·rename_i hn
   obtain⟨st1,h1,h2,h3,h4⟩:=ih _ _ _ _ _ _ _ _ _ h st hh hf hw
   rw[h1]
   cases e with
   | normal=>exact⟨st1,rfl,h2,h3,h4⟩
   | ret=>exact⟨st1,rfl,h2,h3,h4⟩
   | exit id=>exact absurd h (hn _ _ _ _ _)
 | loop b ih =>
  intro fr t m w e fr' t' m' w' h st hh hf hw
  unfold iZ at h
  unfold af
  exact wz ih k _ _ _ _ _ _ _ _ _ h st hh hf hw
 | scope b ih =>
  intro fr t m w e fr' t' m' w' h st hh hf hw
  unfold iZ at h
  unfold af
  exact ih _ _ _ _ _ _ _ _ _ h st hh hf hw
 | skip=>exact pure1 .normal _ fun st=>rfl
 | label l=>exact pure1 .normal _ fun st=>rfl
 | exit id=>exact pure1 (.exit id) _ fun st=>rfl
 | ret=>exact pure1 .ret _ fun st=>rfl
 | _ =>
  intro fr t m w e fr' t' m' w' h st hh hf hw
  unfold iZ at h
  cases h
theorem vH {β:Type}{b:β} : ∀ (l:List PV) (k:Nat) (fr:FT PV) (c:FT PV→Option β),RA l k fr c=some b→∃ fr',c fr'=some b∧∀ j,fr'.get j=if k≤j∧j<k+l.length then l[j - k]? else fr.get j
 | [],k,fr,c,h=>⟨fr,h,fun j=>by rw[if_neg (fun hh=>absurd hh.2 (Nat.not_lt.2 hh.1))]⟩
 | a::l,k,fr,c,h=>by
  have h:(fr.put k a fun fr=>RA l (Nat.succ k) fr c)=some b:=h
  obtain⟨t1,h1,h2⟩:=FT.fH fr k a _ h
  obtain⟨t2,h3,h4⟩:=vH l _ t1 c h1
  refine⟨t2,h3,fun j => ?_⟩
  rw[h4,h2]
  by_cases hj:j=k
  ·subst hj
   rw[if_neg (by omega),if_pos rfl,if_pos ⟨Nat.le_refl _,by simp⟩]
   simp
  ·rw[if_neg hj]
   by_cases hj2:k≤j∧j<k+(a::l).length
   ·rw[if_pos hj2,if_pos (by simp at hj2 ⊢;omega)]
    rw[show j - k=(j - Nat.succ k)+1 by omega];simp
   ·rw[if_neg hj2,if_neg (by simp at hj2 ⊢;omega)]
theorem HX (hr:lX runT' run)(hE:eh run)(k:Nat):lX (J4 C runT' k) (m7 C run k):=by
 intro g args t m rs t' m' w h hp hh
 unfold J4 at h
 unfold m7
 split at h
 ·rename_i fn hfn
  simp only[hfn]
  split at h
  ·rename_i c hc
   simp only[hc]
   cases hle:Nat.ble args.length fn.ntmps with
   | false=>rw[hle] at h;cases h
   | true =>
    rw[hle] at h
    simp only[cond_true] at h
    have hl:=Nat.le_of_ble_eq_true hle
    obtain⟨fr0,h1,h2⟩:=vH _ _ _ _ h
    have hf:RF fr0 fn.ntmps (entry fn.ntmps args):=by
     refine⟨by rw[kY];omega,fun i hi => ?_⟩
     rw[h2]
     have hlen:i<(entry fn.ntmps args).length:=by rw[kY];omega
     rw[List.getElem?_eq_getElem hlen]
     rcases nP _ _ _ _ (List.getElem?_eq_getElem hlen) with ⟨q1,q2⟩| ⟨q1,q2⟩
     ·rw[if_pos (by omega)];simpa using q2
     ·rw[if_neg (by omega),q2]
      refine FT.wL _ _ _ ?_
      have:=Nat.lt_log2_self (n:=fn.ntmps)
      show i+1<2 ^ (fn.ntmps.log2+1)
      omega
    have key:∀ (e:Ex) (fr1:FT PV) (t1:FT Blk) (m1:Nat) (w1:List Nat),iZ C runT' fn.ntmps k c fr0 t m []=some (e,fr1,t1,m1,w1) →
      (match F9 C.T (rfT fr1 fn.ntmps) (rdT t1 m1) fn.results.toList with | some rs=>fcL rs fun rs=>some (rs,t1,m1,w1) | none=>none)=some (rs,t',m',w) →
      ∃ st',af C run k c ⟨entry fn.ntmps args,hp,[]⟩=some (e,st')∧(match aV C.T st'.fr st'.hp fn.results.toList with | some rs=>some (rs,st'.hp,st'.wr) | none=>none)=some (rs,st'.hp,w)∧HR t' m' st'.hp:=fun e fr1 t1 m1 w1 he hh2=>by
     obtain⟨st',g1,g2,g3,g4⟩:=Hv hr hE c _ _ _ _ _ _ _ _ _ he ⟨entry fn.ntmps args,hp,[]⟩ hh hf rfl
     rw[g3.rf,g2.rd,AH] at hh2
     refine⟨st',g1,?_⟩
     split at hh2
     ·rename_i rs' er
      rw[ky] at hh2
      simp only[Option.some.injEq,Prod.mk.injEq] at hh2
      obtain⟨rfl,rfl,rfl,rfl⟩:=hh2
      exact⟨by simp only[g4],g2⟩
     ·cases hh2
    split at h1
    ·rename_i he
     obtain⟨st',g1,g2,g3⟩:=key _ _ _ _ _ he h1
     exact⟨st'.hp,by rw[g1];exact g2,g3⟩
    ·rename_i he
     obtain⟨st',g1,g2,g3⟩:=key _ _ _ _ _ he h1
     exact⟨st'.hp,by rw[g1];exact g2,g3⟩
    ·cases h1
  ·cases h
 ·cases h
theorem Fq {f:List PV→(Nat→Option Blk)→Option (List PV × Option (Nat × Blk))}{args rs:List PV}{t t':FT Blk}{m m':Nat}{w:List Nat}(h:IX f args t m=some (rs,t',m',w)){hp:List Blk}(hh:HR t m hp) :
  ∃ hp',ln f args hp=some (rs,hp',w)∧HR t' m' hp':=by
 unfold IX at h
 rw[hh.rd] at h
 unfold ln
 split at h
 ·rename_i rs0 e
  rw[ky] at h
  simp only[Option.some.injEq,Prod.mk.injEq] at h
  obtain⟨rfl,rfl,rfl,rfl⟩:=h
  rw[e]
  exact⟨hp,rfl,hh⟩
 ·rename_i rs0 id b e
  cases hb:Nat.blt id m with
  | false=>rw[hb] at h;cases h
  | true =>
   rw[hb] at h
   simp only[cond_true,ky,rJ] at h
   have hid:id<hp.length:=by rw[← hh.1];exact fb.1 hb
   obtain⟨t1,h1,h2⟩:=FT.fH t id _ _ h
   simp only[Option.some.injEq,Prod.mk.injEq] at h1
   obtain⟨rfl,rfl,rfl,rfl⟩:=h1
   rw[e]
   simp only[fb.2 hid,cond_true]
   exact⟨_,rfl,hh.set hid h2⟩
 ·cases h
theorem Jb (C:Cfg):∀ k,lX (runT C k) (runK C k)
 | 0=>by
  intro g args t m rs t' m' w h
  have h:(Option.none:Option (List PV × FT Blk × Nat × List Nat))=some (rs,t',m',w):=h
  cases h
 | k+1=>by
  intro g args t m rs t' m' w h hp hh
  have h:(match C.sorc g with | some f=>IX f args t m | none=>J4 C (runT C k) k g args t m)=some (rs,t',m',w):=h
  show ∃ hp',(match C.sorc g with | some f=>ln f args hp | none=>m7 C (runK C k) k g args hp)=some (rs,hp',w)∧HR t' m' hp'
  cases hf:C.sorc g with
  | some f =>
   rw[hf] at h
   exact Fq h hh
  | none =>
   rw[hf] at h
   exact HX (Jb C k) (Cw k) k g args t m rs t' m' w h hp hh
end
def val:List Nat→Nat
 | []=>0
 | a::l=>a+1000000000*val l
def jb:Nat→Nat→List Nat
 | 0,_=>[]
 | k+1,n=>if n=0 then [] else n % 1000000000::jb k (n / 1000000000)
def aA (n:Nat):List Nat:=jb (n.log2+1) n
def Dok (l:List Nat):Prop:=∀ x ∈ l,x<1000000000
def ff (l:List Nat):List Nat:=(l.reverse.dropWhile (· == 0)).reverse
theorem Dok.nil:Dok []:=fun _ h=>by cases h
theorem Dok.cons {a:Nat}{l:List Nat}(h:a<1000000000)(h':Dok l):Dok (a::l):=fun x hx=>by
 rcases List.mem_cons.1 hx with rfl | hx
 ·exact h
 ·exact h' x hx
theorem Dok.head {a:Nat}{l:List Nat}(h:Dok (a::l)):a<1000000000:=h a (by simp)
theorem Dok.tail {a:Nat}{l:List Nat}(h:Dok (a::l)):Dok l:=fun x hx=>h x (by simp[hx])
theorem Dok.append {l m:List Nat}(h:Dok l)(h':Dok m):Dok (l++m):=fun x hx=>by
 rcases List.mem_append.1 hx with hx | hx
 ·exact h x hx
 ·exact h' x hx
theorem Dok.left {l m:List Nat}(h:Dok (l++m)):Dok l:=fun x hx=>h x (by simp[hx])
theorem Dok.right {l m:List Nat}(h:Dok (l++m)):Dok m:=fun x hx=>h x (by simp[hx])
theorem Dok.get {l:List Nat}(h:Dok l){i:Nat}(hi:i<l.length):l[i]<1000000000:=h _ (List.getElem_mem hi)
theorem Dok.set {l:List Nat}(h:Dok l)(i:Nat){y:Nat}(hy:y<1000000000):Dok (l.set i y):=fun x hx=>by
 rcases List.mem_or_eq_of_mem_set hx with hx | rfl
 ·exact h x hx
 ·exact hy
theorem Dok.IC (n:Nat):Dok (List.replicate n 0):=fun x hx=>by
 rw[(List.mem_replicate.1 hx).2];omega
theorem Dok.take {l:List Nat}(h:Dok l)(n:Nat):Dok (l.take n):=fun x hx=>h x (List.mem_of_mem_take hx)
theorem Dok.drop {l:List Nat}(h:Dok l)(n:Nat):Dok (l.drop n):=fun x hx=>h x (List.mem_of_mem_drop hx)
theorem gX (l m:List Nat):val (l++m)=val l+1000000000 ^ l.length*val m:=by
 induction l with
 | nil=>simp[val]
 | cons a l ih =>
  simp only[List.cons_append,val,ih,List.length_cons,Nat.pow_succ]
  grind
theorem dz (l:List Nat)(a:Nat):val (l++[a])=val l+1000000000 ^ l.length*a:=by
 rw[gX];simp[val]
theorem nm (n:Nat):val (List.replicate n 0)=0:=by
 induction n with
 | zero=>rfl
 | succ n ih=>simp[List.replicate_succ,val,ih]
theorem pa (l:List Nat)(i y:Nat)(hi:i<l.length):val (l.set i y)+l[i]*1000000000 ^ i=val l+y*1000000000 ^ i:=by
 induction l generalizing i with
 | nil=>simp at hi
 | cons a l ih =>
  cases i with
  | zero=>simp[val];omega
  | succ i =>
   have:=ih i (by simpa using hi)
   simp only[List.set_cons_succ,val,List.getElem_cons_succ,Nat.pow_succ]
   grind
theorem gK (l:List Nat)(i:Nat)(hi:i<l.length):val (l.take (i+1))=val (l.take i)+l[i]*1000000000 ^ i:=by
 rw[List.take_succ_eq_append_getElem hi,dz,List.length_take,Nat.min_eq_left (by omega),Nat.mul_comm]
theorem eM {l:List Nat}(h:Dok l):val l<1000000000 ^ l.length:=by
 induction l with
 | nil=>simp[val]
 | cons a l ih =>
  have h1:=ih h.tail
  have h2:=h.head
  simp only[val,List.length_cons,Nat.pow_succ]
  omega
theorem kH (l:List Nat)(i:Nat)(hi:i≤l.length):val l=val (l.take i)+1000000000 ^ i*val (l.drop i):=by
 have h:=gX (l.take i) (l.drop i)
 rw[List.take_append_drop,List.length_take,Nat.min_eq_left hi] at h
 exact h
theorem mJ (n:Nat)(h:n≠0):(n / 1000000000).log2+1≤n.log2∨n / 1000000000=0:=by
 by_cases h0:n / 1000000000=0
 ·exact .inr h0
 ·left
  have h1:2 ^ (n / 1000000000).log2≤n / 1000000000:=Nat.log2_self_le h0
  have h2:2 ^ ((n / 1000000000).log2+1)≤n:=by
   rw[Nat.pow_succ];omega
  exact (Nat.le_log2 h).2 h2
theorem mV:∀ (k j n:Nat),n.log2<k→n.log2<j→jb k n=jb j n
 | 0,j,n,h,_=>by omega
 | k+1,0,n,_,h=>by omega
 | k+1,j+1,n,h,h'=>by
  unfold jb
  by_cases hn:n=0
  ·rw[if_pos hn,if_pos hn]
  ·rw[if_neg hn,if_neg hn]
   congr 1
   rcases mJ n hn with h1 | h1
   ·exact mV k j _ (by omega) (by omega)
   ·rw[h1]
    cases k <;> cases j <;> simp[jb]
theorem fj:aA 0=[]:=rfl
theorem dT {n:Nat}(h:n≠0):aA n=n % 1000000000::aA (n / 1000000000):=by
 unfold aA
 rw[jb,if_neg h]
 congr 1
 rcases mJ n h with h1 | h1
 ·exact mV _ _ _ (by omega) (by omega)
 ·rw[h1]
  cases n.log2 <;> simp[jb]
theorem rL {a:Nat}{l:List Nat}(ha:a<1000000000)(h:a+1000000000*val l≠0):aA (a+1000000000*val l)=a::aA (val l):=by
 rw[dT h,Nat.add_mul_mod_self_left,Nat.mod_eq_of_lt ha,Nat.add_mul_div_left _ _ (by omega),Nat.div_eq_of_lt ha,Nat.zero_add]
theorem bQ (n:Nat):val (aA n)=n:=by
 induction n using Nat.strongRecOn with
 | _ n ih =>
  by_cases h:n=0
  ·subst h;rfl
  ·rw[dT h,val,ih _ (by omega)]
   omega
theorem bP (n:Nat):Dok (aA n):=by
 induction n using Nat.strongRecOn with
 | _ n ih =>
  by_cases h:n=0
  ·subst h;exact Dok.nil
  ·rw[dT h]
   exact (ih _ (by omega)).cons (by omega)
theorem eB (l:List Nat)(a:Nat):ff (l++[a])=if a=0 then ff l else l++[a]:=by
 unfold ff
 rw[List.reverse_append]
 by_cases h:a=0 <;> simp[h]
theorem iR {P:List Nat→Prop}(h0:P [])(h1:∀ l a,P l→P (l++[a])):∀ l,P l:=by
 intro l
 have:∀ m:List Nat,P m.reverse:=by
  intro m
  induction m with
  | nil=>exact h0
  | cons a m ih=>rw[List.reverse_cons];exact h1 _ a ih
 have:=this l.reverse
 rwa [List.reverse_reverse] at this
theorem qI (l:List Nat):val (ff l)=val l:=by
 induction l using iR with
 | h0=>rfl
 | h1 l a ih =>
  rw[eB]
  by_cases h:a=0
  ·rw[if_pos h,ih,h,dz,Nat.mul_zero,Nat.add_zero]
  ·rw[if_neg h]
theorem uu {l:List Nat}(h:Dok l):Dok (ff l):=by
 induction l using iR with
 | h0=>exact Dok.nil
 | h1 l a ih =>
  rw[eB]
  by_cases h':a=0
  ·rw[if_pos h'];exact ih h.left
  ·rw[if_neg h'];exact h
def Top (l:List Nat):Prop:=∀ m a,l=m++[a]→a≠0
theorem kJ (l:List Nat):Top (ff l):=by
 induction l using iR with
 | h0=>intro m a h;simp[ff] at h
 | h1 l a ih =>
  rw[eB]
  by_cases h:a=0
  ·rw[if_pos h];exact ih
  ·rw[if_neg h]
   intro m b e
   have:=List.append_inj' e rfl
   simp at this
   rw[← this.2];exact h
theorem Top.tail {a:Nat}{l:List Nat}(h:Top (a::l)):Top l:=fun m b e=>h (a::m) b (by rw[e];rfl)
theorem Top.pb {l:List Nat}(h:Top l)(hl:l≠[]):val l≠0:=by
 obtain⟨m,a,rfl⟩:∃ m a,l=m++[a]:=⟨l.dropLast,l.getLast hl,(List.dropLast_concat_getLast hl).symm⟩
 have ha:=h m a rfl
 rw[dz]
 have:0<1000000000 ^ m.length*a:=Nat.mul_pos (Nat.pow_pos (by omega)) (by omega)
 omega
theorem jN {l:List Nat}(h:Dok l)(ht:Top l):aA (val l)=l:=by
 induction l with
 | nil=>rfl
 | cons a l ih =>
  rw[val,rL h.head,ih h.tail ht.tail]
  exact ht.pb (by simp)
theorem eC {l:List Nat}(h:Dok l):ff l=aA (val l):=by
 rw[← qI l,jN (uu h) (kJ l)]
theorem ja (n:Nat):Top (aA n):=by
 have h:=eC (bP n)
 rw[bQ] at h
 rw[← h]
 exact kJ _
theorem cP {n:Nat} : 0<(aA n).length ↔ n≠0:=by
 by_cases h:n=0
 ·subst h;simp[fj]
 ·rw[dT h];simp[h]
theorem wY {n:Nat}(h:aA n=[]):n=0:=by
 rw[← bQ n,h];rfl
theorem da {n k:Nat}(h:n<1000000000 ^ k):(aA n).length≤k:=by
 by_cases h0:aA n=[]
 ·rw[h0];simp
 ·obtain⟨m,a,e⟩:∃ m a,aA n=m++[a]:=⟨(aA n).dropLast,(aA n).getLast h0,(List.dropLast_concat_getLast h0).symm⟩
  have ha:=ja n m a e
  have hv:=bQ n
  rw[e,dz] at hv
  rw[e,List.length_append,List.length_singleton]
  have h1:1000000000 ^ m.length≤n:=by
   have:1000000000 ^ m.length*1≤1000000000 ^ m.length*a:=Nat.mul_le_mul_left _ (by omega)
   omega
  have h2:1000000000 ^ m.length<1000000000 ^ k:=by omega
  exact Nat.lt_of_not_le fun h3=>absurd (Nat.pow_le_pow_right (n:=1000000000) (by omega) h3) (by omega)
theorem fy (n:Nat):n<1000000000 ^ (aA n).length:=by
 have:=eM (bP n)
 rwa [bQ] at this
def dg (n:Nat):PV:=.sc (.int .u32 n)
def aL (l:List Nat):PV:=.imm l.length false (l.map dg)
def wh (neg:Bool)(l:List Nat):PV:=.agg [.sc (.bool neg),aL l]
def bt:Int→Bool
 | .ofNat _=>false
 | .negSucc _=>true
def bn (z:Int):PV:=wh (bt z) (aA z.natAbs)
def bC (z:Int):PV:=.sc (.int .i64 z)
mutual
def canon:PV→PV
 | .sc v=>match v with
  | .slice none 0 0=>.imm 0 false []
  | v=>.sc v
 | .imm n _ cs=>.imm n false (aJ cs)
 | .agg cs=>.agg (aJ cs)
 | v=>v
def aJ:List PV→List PV
 | []=>[]
 | c::cs=>canon c::aJ cs
end
theorem jS:∀ (cs:List PV) (k:Nat),(aJ cs)[k]?=(cs[k]?).map canon
 | [],k=>by simp[aJ]
 | c::cs,0=>by simp[aJ]
 | c::cs,k+1=>by simpa [aJ] using jS cs k
theorem kA:∀ (cs:List PV),(aJ cs).length=cs.length
 | []=>rfl
 | c::cs=>by simp[aJ,kA cs]
mutual
theorem Ey:(p:PV)→p.cC=true→Wk p (canon p)
 | .any,h=>by rw[canon];exact Wk.refl h;all_goals (intros;contradiction)
 | .sc v,h=>by
  unfold canon
  split
  ·exact Wk.nil false
  ·exact Wk.refl h
 | .imm n x cs,h=>by
  unfold canon
  refine⟨rfl,fun w M v hv => ?_⟩
  cases hv with
  | nil=>exact .nil false
  | imm _ _ _ a cap g h1 h2 h3 h4 =>
   refine .imm n false _ a cap g h1 (fun h=>by cases h) (fun k c hk => ?_) (fun k c hk => ?_)
   ·rw[jS] at hk
    obtain⟨c',h5,rfl⟩:=Option.map_eq_some_iff.1 hk
    obtain⟨h6,h7,h8,h9⟩:=h3 k c' h5
    exact⟨h6,(ld cs k c' h5 h7).1,h8,h9⟩
   ·rw[jS] at hk
    obtain⟨c',h5,rfl⟩:=Option.map_eq_some_iff.1 hk
    obtain⟨h6,h7,h8,h9⟩:=h3 k c' h5
    exact (ld cs k c' h5 h7).2 w M _ (h4 k c' h5)
 | .agg cs,h=>by
  unfold canon
  have hi:bM cs=true:=by simpa [PV.cC] using h
  refine⟨?_,fun w M v hv => ?_⟩
  ·simp only[PV.cC]
   exact kB cs hi
  ·cases hv with
   | agg _ vs g1 g2 =>
    refine .agg _ vs (by rw[kA];exact g1) fun k c v e1 e2 => ?_
    rw[jS] at e1
    obtain⟨c',h5,rfl⟩:=Option.map_eq_some_iff.1 e1
    exact (ld cs k c' h5 (dZ hi h5)).2 w M v (g2 k c' v h5 e2)
 | .own ..,h=>by simp[PV.cC] at h
 | .ptr ..,h=>by simp[PV.cC] at h
 | .iptr cs,h=>by rw[canon];exact Wk.refl h;all_goals (intros;contradiction)
 | .clos f cs,h=>by rw[canon];exact Wk.refl h;all_goals (intros;contradiction)
 | .bmet ..,h=>by simp[PV.cC] at h
 | .tup cs,h=>by rw[canon];exact Wk.refl h;all_goals (intros;contradiction)
theorem ld:(cs:List PV)→(k:Nat)→(c:PV)→cs[k]?=some c→c.cC=true→Wk c (canon c)
 | [],k,c,h,_=>by simp at h
 | d::cs,k,c,h,hc=>by
  cases k with
  | zero=>simp at h;subst h;exact Ey d hc
  | succ k=>exact ld cs k c (by simpa using h) hc
theorem kB:(cs:List PV)→bM cs=true→bM (aJ cs)=true
 | [],_=>rfl
 | c::cs,h=>by
  simp only[bM,Bool.and_eq_true] at h
  simp only[aJ,bM,Bool.and_eq_true]
  exact⟨(Ey c h.1).1,kB cs h.2⟩
end
theorem Spec.canon {P:Program}{g:FuncId}{f:List PV→Option (List PV)}(h:Spec P g f):Spec P g fun a=>f (aJ a):=by
 intro args rs hf hi
 obtain⟨h1,h2⟩:=h (aJ args) rs hf (kB args hi)
 refine⟨h1,fun w M vs hM hvs=>h2 w M vs hM ⟨by rw[kA];exact hvs.1,fun k c v e1 e2 => ?_⟩⟩
 rw[jS] at e1
 obtain⟨c',h5,rfl⟩:=Option.map_eq_some_iff.1 e1
 exact (ld args k c' h5 (dZ hi h5)).2 w M v (hvs.2 k c' v h5 e2)
def Em:List PV→Option (List Nat)
 | []=>some []
 | .sc (.int .u32 (.ofNat n))::r=>bif n.blt 1000000000 then (match Em r with
  | some l=>some (n::l)
  | none=>none) else none
 | _=>none
def gU:PV→Option (List Nat)
 | .imm n false cs=>match Em cs with
  | some l=>bif n.beq l.length && n.blt 1000000 then some l else none
  | none=>none
 | _=>none
def tw:List Nat→Bool
 | []=>true
 | [a] => !(a.beq 0)
 | _::l=>tw l
def fL:PV→Option Int
 | .agg [.sc (.bool neg),p]=>match gU p with
  | some l=>bif tw l && l.length.blt 400000 then
    (match neg,l with
    | true,[]=>none
    | true,l=>some (Int.negOfNat (val l))
    | false,l=>some (Int.ofNat (val l)))
   else none
  | none=>none
 | _=>none
theorem zP:∀ {cs:List PV} {l:List Nat},Em cs=some l→cs=l.map dg∧Dok l
 | [],l,h=>by simp[Em] at h;subst h;exact⟨rfl,Dok.nil⟩
 | c::cs,l,h=>by
  unfold Em at h
  split at h
  ·rename_i e;cases e
  ·rename_i n r e
   cases e
   cases hb:n.blt 1000000000 with
   | false=>rw[hb] at h;cases h
   | true =>
    rw[hb] at h
    simp only[cond_true] at h
    split at h
    ·rename_i l' e'
     simp at h;subst h
     obtain⟨h1,h2⟩:=zP e'
     rw[h1]
     refine⟨rfl,h2.cons ?_⟩
     simpa [Nat.blt_eq] using hb
    ·cases h
  ·cases h
theorem Ek:∀ {l:List Nat},Dok l→Em (l.map dg)=some l
 | [],_=>rfl
 | a::l,h=>by
  have h1:a.blt 1000000000=true:=by rw[Nat.blt_eq];exact h.head
  show Em (PV.sc (.int .u32 (Int.ofNat a))::l.map dg)=_
  simp only[Em,Ek h.tail,h1,cond_true]
theorem dp {p:PV}{l:List Nat}(h:gU p=some l):p=aL l∧Dok l∧l.length<1000000:=by
 unfold gU at h
 split at h
 ·split at h
  ·rename_i n cs _ l' e
   obtain⟨h1,h2⟩:=zP e
   cases hb:n.beq l'.length && n.blt 1000000 with
   | false=>rw[hb] at h;cases h
   | true =>
    rw[hb] at h
    simp at h
    subst h
    simp[Nat.blt_eq] at hb
    exact⟨by rw[hb.1,h1];rfl,h2,by omega⟩
  ·cases h
 ·cases h
theorem cS {l:List Nat}(h:Dok l)(hl:l.length<1000000):gU (aL l)=some l:=by
 have h1:l.length.blt 1000000=true:=by rw[Nat.blt_eq];exact hl
 simp[gU,aL,Ek h,h1]
theorem mg:∀ {l:List Nat},tw l=true→Top l
 | [],_=>fun m a e=>by simp at e
 | [b],h=>fun m a e=>by
  cases m with
  | nil =>
   simp at e;subst e
   cases b with
   | zero=>simp[tw] at h
   | succ b=>simp
  | cons c m=>simp at e
 | b::c::l,h=>fun m a e=>by
  cases m with
  | nil=>simp at e
  | cons d m =>
   simp only[List.cons_append,List.cons.injEq] at e
   exact mg (l:=c::l) (by simpa [tw] using h) m a e.2
theorem pe:∀ {l:List Nat},Top l→tw l=true
 | [],_=>rfl
 | [b],h=>by
  have:=h [] b rfl
  cases b with
  | zero=>simp at this
  | succ b=>rfl
 | b::c::l,h=>by
  have:=pe h.tail
  simpa [tw] using this
theorem wR (n:Nat):bn (Int.ofNat n)=wh false (aA n):=rfl
theorem cI (z:Int):bt z=decide (z<0):=by
 cases z with
 | ofNat n=>simp[bt]
 | negSucc n=>simp[bt]
theorem Ed {n:Nat}(h:n≠0):bn (Int.negOfNat n)=wh true (aA n):=by
 cases n with
 | zero=>simp at h
 | succ n=>rfl
theorem HH {p:PV}{z:Int}(h:fL p=some z):p=bn z∧(aA z.natAbs).length<400000:=by
 unfold fL at h
 split at h
 ·rename_i neg q
  split at h
  ·rename_i l e
   obtain⟨h1,h2,h3⟩:=dp e
   subst h1
   cases ht:tw l && l.length.blt 400000 with
   | false=>rw[ht] at h;cases h
   | true =>
    rw[ht] at h
    simp only[cond_true] at h
    simp only[Bool.and_eq_true,Nat.blt_eq] at ht
    obtain⟨ht,h3⟩:=ht
    have hd:=jN h2 (mg ht)
    split at h
    ·cases h
    ·rename_i hne
     simp only[Option.some.injEq] at h
     subst h
     have hv:val l≠0:=(mg ht).pb (by intro h;exact hne h)
     refine⟨?_,?_⟩
     ·rw[Ed hv,hd];rfl
     ·have:(Int.negOfNat (val l)).natAbs=val l:=Int.natAbs_negOfNat _
      rw[this,hd];exact h3
    ·simp only[Option.some.injEq] at h
     subst h
     refine⟨?_,?_⟩
     ·rw[wR,hd];rfl
     ·have:(Int.ofNat (val l)).natAbs=val l:=rfl
      rw[this,hd];exact h3
  ·cases h
 ·cases h
theorem NA (z:Int)(hl:(aA z.natAbs).length<400000):fL (bn z)=some z:=by
 have h1:=cS (bP z.natAbs) (Nat.lt_trans hl (by decide))
 have h3:(aA z.natAbs).length.blt 400000=true:=by rw[Nat.blt_eq];exact hl
 have h2:=pe (ja z.natAbs)
 cases z with
 | ofNat n =>
  rw[wR]
  have e:(Int.ofNat n).natAbs=n:=rfl
  rw[e] at h1 h2 h3
  simp only[fL,wh,h1,h2,h3,Bool.and_self,cond_true,bQ]
 | negSucc n =>
  have e:bn (Int.negSucc n)=wh true (aA (n+1)):=rfl
  rw[e]
  have e:(Int.negSucc n).natAbs=n+1:=rfl
  rw[e] at h1 h2 h3
  have hd:aA (n+1)=(n+1) % 1000000000::aA ((n+1) / 1000000000):=dT (by omega)
  simp only[fL,wh,h1,h2,h3,Bool.and_self,cond_true]
  rw[hd]
  simp only
  rw[← hd,bQ]
  rfl
theorem fZ (n:Nat):(dg n).cells?=some [dg n]:=(rfl)
theorem dj (n:Nat):eG (dg n)=true:=(rfl)
theorem qW (n:Nat):rep n [dg 0]=(List.replicate n 0).map dg:=by
 induction n with
 | zero=>rfl
 | succ n ih=>simp[rep,ih,List.replicate_succ]
theorem ZB (l:List Nat)(i:Nat)(h:i<l.length):br (l.map dg) i=dg l[i]::(l.drop (i+1)).map dg:=by
 rw[cM,← List.map_drop,List.drop_eq_getElem_cons h];rfl
theorem eK (l:List Nat)(i:Nat)(h:i<l.length):(br (l.map dg) i).head?=some (dg l[i]):=by
 rw[ZB l i h];rfl
theorem iM:∀ (l:List Nat) (i y:Nat),i<l.length→bX (l.map dg) i [dg y]=some ((l.set i y).map dg)
 | [],i,y,h=>by simp at h
 | a::l,0,y,h=>by simp[bX]
 | a::l,i+1,y,h=>by
  have:=iM l i y (by simpa using h)
  simp only[List.map_cons,bX,this,List.set_cons_succ]
theorem VZ (l:List Nat):bE (l.map dg) l.length=some (l.map dg):=by
 rw[dS (by simp),List.take_of_length_le (by simp)]
theorem BT (l:List Nat):bE (br (l.map dg) 0) (l.length*1)=some (l.map dg):=by
 rw[cM,List.drop_zero,Nat.mul_one,VZ]
theorem jE (hp:List Blk)(d:Nat):∀ l:List Nat,bq (snap hp (d+1)) (l.map dg)=some (l.map dg,[])
 | []=>rfl
 | a::l=>by
  simp only[List.map_cons,bq,jE hp d l]
  rfl
theorem iC:∀ l:List Nat,aJ (l.map dg)=l.map dg
 | []=>rfl
 | a::l=>by simp only[List.map_cons,aJ,iC l];rfl
theorem fE (l:List Nat):canon (aL l)=aL l:=by
 simp only[aL,canon,iC]
theorem UJ (n:Bool)(l:List Nat):canon (wh n l)=wh n l:=by
 simp only[wh,canon,aJ,fE]
theorem xh (z:Int):canon (bn z)=bn z:=UJ _ _
theorem dm (k:IntKind)(n:Nat)(h:n≤hiN k):bA k (n:Int)=Int.ofNat n:=mf (n:=n) (Nat.ble_eq ▸ h)
def dE (b:Nat)(hp:List Blk)(l:List Nat)(p:PV):Prop :=
 b≤hp.length∧((l=[]∧p = .sc (.slice none 0 0))∨∃ id m,b≤id∧id<hp.length∧p = .own id 1 0 l.length false∧aZ hp id=some ⟨.live,(l++m).map dg⟩)
theorem dE.nil {b:Nat}{hp:List Blk}(h:b≤hp.length):dE b hp [] (.sc (.slice none 0 0)):=⟨h,.inl ⟨rfl,rfl⟩⟩
theorem dE.len {b:Nat}{hp:List Blk}{l:List Nat}{p:PV}(h:dE b hp l p):dQ p=some l.length:=by
 rcases h.2 with ⟨rfl,rfl⟩| ⟨id,m,_,_,rfl,h⟩ <;> rfl
theorem dE.cells {b:Nat}{hp:List Blk}{l:List Nat}{p:PV}(h:dE b hp l p):p.cells?=some [p]:=by
 rcases h.2 with ⟨rfl,rfl⟩| ⟨id,m,_,_,rfl,h⟩ <;> rfl
theorem dE.okc {b:Nat}{hp:List Blk}{l:List Nat}{p:PV}(h:dE b hp l p):eG p=true:=by
 rcases h.2 with ⟨rfl,rfl⟩| ⟨id,m,_,_,rfl,h⟩ <;> rfl
theorem dE.app {b:Nat}{hp:List Blk}{l:List Nat}{p:PV}(h:dE b hp l p)(a:Nat)(hl:l.length<100000000) :
  ∃ p' hp' fp,cV hp 1 p 1 [dg a]=some (p',hp',fp)∧dE b hp' (l++[a]) p'∧∀ i,i<b→aZ hp' i=aZ hp i:=by
 obtain⟨hb,h⟩:=h
 rcases h with ⟨rfl,rfl⟩| ⟨id,m,hid,hid2,rfl,h⟩
 ·refine⟨.own hp.length 1 0 1 false,aP hp [dg a],⟨[],[hp.length],true,false⟩,by simp[cV,cL],⟨by simp[aP];omega,.inr ⟨hp.length,[],hb,by simp[aP],rfl,?_⟩⟩,fun i hi => ?_⟩
  ·rw[bO,if_pos rfl];rfl
  ·rw[bO,if_neg (by omega)]
 ·have ht:bE (br ((l++m).map dg) 0) (l.length*1)=some (l.map dg):=by
   rw[cM,dS (by simp)]
   simp
  refine⟨.own hp.length 1 0 (l.length+1) false,aP (cf hp id ⟨.dead,[]⟩) (l.map dg++[dg a]),⟨[],[id,hp.length],true,false⟩,?_,⟨by simp[aP,bG];omega,.inr ⟨hp.length,[],hb,by simp[aP,bG],by simp,?_⟩⟩,fun i hi => ?_⟩
  ·simp only[cV,h]
   rw[ht]
   simp[cL]
   omega
  ·rw[bO,bG,if_pos rfl];simp
  ·rw[bO,bG,if_neg (by omega),cJ h,if_neg (by omega)]
theorem dE.snap {b:Nat}{hp:List Blk}{l:List Nat}{p:PV}(h:dE b hp l p)(d:Nat):∃ q ids,Ab.snap hp (d+2) p=some (q,ids)∧Wk q (aL l)∧canon q=aL l:=by
 obtain⟨hb,h⟩:=h
 rcases h with ⟨rfl,rfl⟩| ⟨id,m,_,_,rfl,h⟩
 ·exact⟨.sc (.slice none 0 0),[],rfl,Wk.nil false,rfl⟩
 ·have ht:bE (br ((l++m).map dg) 0) (l.length*1)=some (l.map dg):=by
   rw[cM,dS (by simp)]
   simp
  refine⟨.imm l.length false (l.map dg),[id],?_,Wk.refl rfl,fE l⟩
  have hs:=jE hp d l
  rw[Ab.snap]
  simp only[h]
  rw[if_neg (by simp),ht]
  simp only[hs]
theorem jD {C:Cfg}{run:aq}{dr:Bool}{hp:List Blk}{g:FuncId}{args args' rs:List PV}{ids:List Nat}
  (h1:C.shared g=false) (h2:bq (snap hp bj) args=some (args',ids)) (h3:C.orc g args'=some rs) (h4:rs.all dA=true) :
  cb C run dr hp g args=some (gN rs,hp,⟨ids,[],false,false⟩):=by
 unfold cb
 simp[h1,h2,h3,h4]
theorem ee {C:Cfg}{run:aq}{dr:Bool}{hp:List Blk}{g:FuncId}{args args' rs:List PV}{ids:List Nat}
  (h1:C.shared g=false) (h2:bq (snap hp bj) args=some (args',ids)) (h3:C.orc g args'=some rs) (h4:rs.all dA=false) :
  cb C run dr hp g args=some (gN rs,roB hp ids,⟨ids,ids,false,false⟩):=by
 unfold cb
 simp[h1,h2,h3,h4]
def aF:Code→Option Code
 | .loop b=>some b
 | .seq a b=>(aF a).or (aF b)
 | .block _ b=>aF b
 | .scope b=>aF b
 | .cond _ a b=>(aF a).or (aF b)
 | _=>none
def seq1:Code→Code
 | .seq a _=>a
 | c=>c
def cB:Code→Code
 | .seq _ b=>b
 | c=>c
theorem Ar {l:List Nat}{n:Nat}(h:l.length=n+1):∃ l' a,l=l'++[a]∧l'.length=n:=by
 have hne:l≠[]:=by intro e;subst e;simp at h
 exact⟨l.dropLast,l.getLast hne,(List.dropLast_concat_getLast hne).symm,by simp[h]⟩
def bu:List (Nat × (List PV→Option (List PV)))→Nat→List PV→Option (List PV)
 | [],_=>fun _=>none
 | (n,f)::r,g=>bif g.beq n then fun a=>f (aJ a) else bu r g
def dM (P:Program):List (Nat × (List PV→Option (List PV)))→Prop
 | []=>True
 | (n,f)::r=>Spec P n f∧dM P r
theorem Df {P:Program} : ∀ {L:List (Nat × (List PV→Option (List PV)))},dM P L→∀ g,Spec P g (bu L g)
 | [],_,g=>Spec.no P g
 | (n,f)::r,h,g=>by
  unfold bu
  cases e:g.beq n with
  | true =>
   have:=Nat.eq_of_beq_eq_true e
   subst this
   exact h.1.canon
  | false=>exact Df h.2 g
end Go.Ab
namespace Go.Proofs.YtjdmodeenbdfpaaGreat
open Go Go.Ab
noncomputable def TT:Tab:=base.T.get
noncomputable def CC (L:List (Nat × (List PV→Option (List PV)))):Cfg:=base.cfg (bu L)
theorem bh (L:List (Nat × (List PV→Option (List PV)))):(CC L).T=TT:=(rfl)
theorem cU {L:List (Nat × (List PV→Option (List PV)))}(h:dM base.P L):qE (CC L):=U2.cfg (Df h)
theorem aa {fr:List PV}{d:Nat}{v:PV}(h:d<fr.length):nth (js fr d v) d=v:=by
 rw[rC,jr];simp[h]
theorem ae {fr:List PV}{d t:Nat}{v:PV}(h:t≠d):nth (js fr d v) t=nth fr t:=Dp h
theorem ab (fr:List PV)(d:Nat)(v:PV):(js fr d v).length=fr.length:=by
 rw[jr];simp
def wf0:Field:={ name := "neg",type:=4,offset:=0,embedded:=false,tag := "",pkgPath := "torus/num",byteOffset:=0 }
def wf1:Field:={ name := "d",type:=68,offset:=1,embedded:=false,tag := "",pkgPath := "torus/num",byteOffset:=8 }
theorem uW:und TT 70=some (.struct #[wf0,wf1]):=by kernel_rfl
theorem uD:und TT 68=some (.slice 171):=by kernel_rfl
theorem u32:und TT 171=some (.int .u32):=by kernel_rfl
theorem u64:und TT 174=some (.int .u64):=by kernel_rfl
theorem uI:und TT 3=some (.int .i64):=by kernel_rfl
theorem uB:und TT 4=some .bool:=by kernel_rfl
theorem sB:cR TT 4=some 1:=by kernel_rfl
theorem sD:cR TT 68=some 1:=by kernel_rfl
theorem sW:cR TT 70=some 2:=by kernel_rfl
theorem s32:cR TT 171=some 1:=by kernel_rfl
theorem b32:gh TT 171=some 4:=by kernel_rfl
theorem z32:dV TT 171=some [dg 0]:=by kernel_rfl
theorem zW:dV TT 70=some [.sc (.bool false),.sc (.slice none 0 0)]:=by kernel_rfl
theorem aW:fW TT 70=some true:=by kernel_rfl
theorem aB:fW TT 4=some false:=by kernel_rfl
theorem aD:fW TT 68=some false:=by kernel_rfl
theorem a32:fW TT 171=some false:=by kernel_rfl
theorem N9:base.F.get 167=some Tryz.f167:=by kernel_rfl
theorem ER:base.F.get 152=some Tryz.f152:=by kernel_rfl
theorem aaj:base.F.get 97=some Tryz.f97:=by kernel_rfl
theorem Oe:base.F.get 101=some Tryz.f101:=by kernel_rfl
theorem VB:base.F.get 149=some Tryz.f149:=by kernel_rfl
theorem VF:base.F.get 96=some Tryz.f96:=by kernel_rfl
theorem rQ:base.F.get 146=some Tryz.f146:=by kernel_rfl
theorem Ob:base.F.get 160=some Tryz.f160:=by kernel_rfl
theorem It:base.F.get 161=some Tryz.f161:=by kernel_rfl
theorem VG:base.F.get 139=some Tryz.f139:=by kernel_rfl
theorem VA:base.F.get 168=some Tryz.f168:=by kernel_rfl
theorem VC:base.F.get 105=some Tryz.f105:=by kernel_rfl
theorem Ic:base.F.get 181=some Tryz.f181:=by kernel_rfl
theorem oX:base.F.get 166=some Tryz.f166:=by kernel_rfl
theorem E7:base.F.get 151=some Tryz.f151:=by kernel_rfl
theorem E6:base.F.get 150=some Tryz.f150:=by kernel_rfl
theorem N8:base.F.get 165=some Tryz.f165:=by kernel_rfl
theorem Ib:base.F.get 164=some Tryz.f164:=by kernel_rfl
theorem tI:base.shared 167=false:=by kernel_rfl
theorem nB:base.shared 152=false:=by kernel_rfl
theorem yr:base.shared 97=false:=by kernel_rfl
theorem tJ:base.shared 101=false:=by kernel_rfl
theorem FK:base.shared 149=false:=by kernel_rfl
theorem FM:base.shared 96=false:=by kernel_rfl
theorem I2:base.shared 146=false:=by kernel_rfl
theorem Wp:base.shared 160=false:=by kernel_rfl
theorem Pb:base.shared 161=false:=by kernel_rfl
theorem FN:base.shared 139=false:=by kernel_rfl
theorem abk:base.shared 168=false:=by kernel_rfl
theorem abl:base.shared 105=false:=by kernel_rfl
theorem Cb:base.shared 181=false:=by kernel_rfl
theorem Ck:base.shared 166=false:=by kernel_rfl
theorem Lg:base.shared 151=false:=by kernel_rfl
theorem Ph:base.shared 150=false:=by kernel_rfl
theorem Wm:base.shared 165=false:=by kernel_rfl
theorem O3:base.shared 164=false:=by kernel_rfl
end Go.Proofs.YtjdmodeenbdfpaaGreat
