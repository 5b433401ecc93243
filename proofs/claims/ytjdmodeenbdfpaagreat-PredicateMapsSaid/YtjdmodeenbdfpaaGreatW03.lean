/- An abstract interpreter over the model's code and its soundness, part 3; each lemma states its conditions. -/
import Derived.Test.YtjdmodeenbdfpaaGreatW02
import Derived.Laws.IdiomStrings
import Derived.Laws.MakeOwn
import Derived.Deep.Upon
import Derived.MapKept
import Derived.WideKeyRuns
set_option linter.unusedSimpArgs false
set_option linter.unusedVariables false
namespace Go.Ab
open Go List
section
variable {P:Program} {T:Tab} (hT:gq P T) {w:World} {H:Nat→Prop} {hp:Θ} {σ:List Addr}
theorem Au {M:Nat→Prop}{L:Nat→Prop}{b:Bool}{ps:Ψ}{vs:List Value}{r:PV}(h:mE b ps=some r)(hl:ps.length=vs.length)
  (hv:∀ (k:Nat) c v,ps[k]?=some c→vs[k]?=some v→V w M σ L c v) (ats:Array TypeId) (ty:TypeId) :
  ∃ u,(if b then Builtin.max_ ats ty vs.toArray else Builtin.min_ ats ty vs.toArray).run P w = .ok u w∧V w M σ L r u:=by
 unfold mE at h
 split at h
 ·simp at h;subst h
  rename_i x
  match vs,hl with
  | [v],_ =>
   refine⟨v,?_,hv 0 x v (by simp) (by simp)⟩
   cases b <;> simp[Builtin.max_,Builtin.min_]
 ·rename_i k a k' c rest
  split at h
  ·rename_i hk
   split at h
   ·simp at h;subst h
    subst hk
    match vs,hl with
    | [v,u],_ =>
     have e1:=hv 0 (.sc (.int k a)) v (by simp) rfl
     have e2:=hv 1 (.sc (.int k c)) u (by simp) rfl
     cases e1;cases e2
     refine⟨_,?_,.sc _⟩
     cases b <;> simp[Builtin.max_,Builtin.min_,Builtin.max2,Builtin.min2]
   ·cases h
  ·cases h
 ·cases h
theorem oE (S:Sim w H σ hp)(o:Obj):Sim (w.alloc o) H σ hp∧Step w (cS σ hp) σ (aY hp) (w.alloc o) (cS σ hp) σ (aY hp):=by
 have hold:∀ (k:Nat),k<w.heap.size→(w.alloc o).heap[k]?=w.heap[k]?:=fun k hk=>Go.RowKit.Below.heap_alloc _ _ _ hk
 have st:Step w (cS σ hp) σ (aY hp) (w.alloc o) (cS σ hp) σ (aY hp):=by
  refine⟨rfl,rfl,rfl,by simp,fun _ _ h=>h,fun b hb _=>hold b hb,iA fun b c e' f hb => ?_,fun _ _ h=>h,fun _ _ h=>h⟩
  have:b<w.heap.size:=by
   rcases Nat.lt_or_ge b w.heap.size with h' | h'
   ·exact h'
   ·simp[Array.getElem?_eq_none h'] at hb
  exact⟨c,by rw[hold b this];exact hb,rfl⟩
 refine⟨⟨S.len,fun i a ha=>Nat.lt_of_lt_of_le (S.spot i a ha) (by simp),fun b hb=>Nat.lt_of_lt_of_le (S.foreign b hb) (by simp),fun i s cs a hi hd ha k c hk => ?_,S.own,fun i a cs hi ha => ?_,S.inj,fun i cs a hi ha => ?_,S.injm⟩,st⟩
 ·obtain⟨v,h1,h2⟩:=S.cells i s cs a hi hd ha k c hk
  exact⟨v,by rw[gi (w:=w) (w':=w.alloc o) (a:=⟨a.block,a.off+k,none⟩) (hold _ (S.spot i a ha))];exact h1,h2.step st⟩
 ·obtain⟨c,e,h2,h3⟩:=S.live i a cs hi ha
  exact⟨c,e,by rw[hold _ (S.spot i a ha)];exact h2,h3⟩
 ·obtain⟨h1,es,ck,h2,h3⟩:=S.maps i cs a hi ha
  exact⟨h1,es,ck,by rw[hold _ (S.spot i a ha)];exact h2,h3.step st⟩
theorem EP (S:Sim w H σ hp) : ¬ hot H σ hp w.heap.size:=by
 rintro (h | ⟨i,a,h1,h2,h3⟩)
 ·have:=S.foreign _ h;omega
 ·have:=S.spot i a h2;omega
theorem eN {cs:Ψ}(h:bM cs=true){k:Nat}{c:PV}(hk:cs[k]?=some c):c.cF=true:=by
 induction cs generalizing k with
 | nil=>simp at hk
 | cons d cs ih =>
  simp[bM] at h
  cases k with
  | zero=>simp at hk;subst hk;exact h.1
  | succ k=>simp at hk;exact ih h.2 hk
theorem AD (S:Sim w H σ hp){cs:Ψ}{vs:Array Value}{e:TypeId}{f:Nat × Nat}(hr:cs.length≤vs.size)(hv:∀ (k:Nat) c v,cs[k]?=some c→vs[k]?=some v→V w (hot H σ hp) σ (aY hp) c v)
  (hid:bM cs=true) (len cap:Nat) (x:Bool) (h1:len≤cap) (h2:x=true→cap=len) :
  V (w.alloc (.cells vs e f)) (hot H σ hp) σ (aY hp) (.imm len x cs) (.slice (some ⟨w.heap.size,0,none⟩) len cap):=by
 have st:=(oE S (.cells vs e f)).2
 refine .imm len x cs _ cap (fun k=>vs.getD k undef) h1 h2 (fun k c hk=>⟨rfl,eN hid hk,EP S,?_⟩) (fun k c hk => ?_)
 ·have hk':=cQ hk
  have:(w.alloc (.cells vs e f)).heap[w.heap.size]?=some (.cells vs e f):=by
   show (w.heap.push _)[w.heap.size]?=_
   simp
  rw[rS this]
  simp
  rw[Array.getElem?_eq_getElem (by omega)]
  simp[]
 ·have hk':=cQ hk
  refine (hv k c _ hk ?_).step st
  rw[Array.getElem?_eq_getElem (by omega)]
  simp[show k<vs.size by omega]
include hT in
theorem De {src dst e:TypeId}(hs:und T src=some .string)(hd:und T dst=some (.slice e))(he:und T e=some (.int .u8))(S:Sim w H σ hp)(s:ByteArray):∃ v w',(convert src dst (.string s)).run P w = .ok v w' ∧
  V w' (hot H σ hp) σ (aY hp) (.imm (bO s).length false ((bO s).map fun b=>PV.sc (.int .u8 b.toNat))) v∧Sim w' H σ hp∧Step w (cS σ hp) σ (aY hp) w' (cS σ hp) σ (aY hp):=by
 have S1:Sim w.drew H σ hp:=zl (w':=w.drew) S rfl rfl rfl rfl
 have st1:Step w (cS σ hp) σ (aY hp) w.drew (cS σ hp) σ (aY hp):=mb (w:=w) (w':=w.drew) rfl rfl rfl rfl _ _ _
 refine⟨_,_,run_bytes_of_string w src dst e s (jL hT hs) (jL hT hd) (jL hT he),?_,(oE S1 _).1,st1.trans (oE S1 _).2⟩
 have hcap:s.size≤grownCap w s.size 0 e:=by
  unfold grownCap Question.cut;exact Nat.le_add_right _ _
 rw[fU]
 refine AD S1 (vs:=bytesRow s (grownCap w s.size 0 e)) ?_ (fun k c v hk hv => ?_) ?_ _ _ false hcap (by simp)
 ·simp[bytesRow,bO]
 ·rw[getElem?_map] at hk
  have hk2:k<(bO s).length:=by
   rcases Nat.lt_or_ge k (bO s).length with h | h
   ·exact h
   ·simp[getElem?_eq_none h] at hk
  have hk3:k<s.data.size:=by rw[fU] at hk2;exact hk2
  unfold bytesRow at hv
  rw[Array.getElem?_append_left (by simpa using hk3)] at hv
  simp[bO] at hk
  simp at hv
  obtain⟨a,ha,rfl⟩:=hk
  obtain⟨b,hb,rfl⟩:=hv
  rw[ha] at hb;cases hb
  exact .sc _
 ·have:∀ l:List UInt8,bM (l.map fun b=>PV.sc (.int .u8 b.toNat))=true:=by
   intro l
   induction l with
   | nil=>rfl
   | cons b l ih=>simp[bM,PV.cF,ih]
  exact this _
theorem I5 {cs:Ψ}{l:List UInt8}(h:kE cs=some l):∃ ns:List Int,cs=ns.map (fun n=>.sc (.int .u8 n))∧l=ns.map fun n=>UInt8.ofNat n.toNat:=by
 induction cs generalizing l with
 | nil=>simp[kE] at h;subst h;exact⟨[],rfl,rfl⟩
 | cons c cs ih =>
  unfold kE at h
  split at h
  ·rename_i heq;cases heq
  ·rename_i n r heq
   cases heq
   split at h
   ·rename_i l' hl'
    simp at h;subst h
    obtain⟨ns,e1,e2⟩:=ih hl'
    exact⟨n::ns,by simp[e1],by simp[e2]⟩
   ·cases h
  ·cases h
theorem Ft (ns:List Int):ns.foldl (fun r n=>r.push (UInt8.ofNat n.toNat)) ByteArray.empty=mkStr (ns.map fun n=>UInt8.ofNat n.toNat):=by
 have key:∀ (ns:List Int) (r:ByteArray),ns.foldl (fun r n=>r.push (UInt8.ofNat n.toNat)) r=mkStr (bO r++ns.map fun n=>UInt8.ofNat n.toNat):=by
  intro ns
  induction ns with
  | nil=>intro r;simp[gE]
  | cons n ns ih =>
   intro r
   simp only[foldl_cons,ih,map_cons]
   congr 1
   have:bO (r.push (UInt8.ofNat n.toNat))=bO r++[UInt8.ofNat n.toNat]:=by simp[bO,ByteArray.push]
   rw[this,append_assoc];rfl
 simpa [bO] using key ns ByteArray.empty
include hT in
theorem WE {src dst:TypeId}(S:Sim w H σ hp){p r:PV}{v:Value}{ids:Ω}(h:dI T hp src dst p=some (r,ids))(hv:V w (hot H σ hp) σ (aY hp) p v) :
  ∃ u w',(convert src dst v).run P w = .ok u w'∧V w' (hot H σ hp) σ (aY hp) r u∧Sim w' H σ hp∧Step w (cS σ hp) σ (aY hp) w' (cS σ hp) σ (aY hp):=by
 unfold dI at h
 split at h
 ·rename_i d k k' n hs hd
  simp at h;obtain⟨rfl,rfl⟩:=h
  cases hv
  exact⟨_,w,by simp[convert,dB hT hs,dB hT hd,Conv.intToInt,lx],.sc _,S,Step.refl _ _ _ _⟩
 ·rename_i d s hs hd
  simp at h;obtain⟨rfl,rfl⟩:=h
  cases hv
  exact⟨_,w,by simp[convert,dB hT hs,dB hT hd],.sc _,S,Step.refl _ _ _ _⟩
 ·rename_i e s hs hd
  split at h
  ·rename_i he
   simp at h;obtain⟨rfl,rfl⟩:=h
   cases hv
   exact De hT hs hd he S s
  ·cases h
 ·rename_i e hs0 hd hs
  split at h
  ·rename_i he
   split at h
   ·rename_i n cs ids' hr
    split at h
    ·rename_i l hl
     simp at h;obtain⟨rfl,rfl⟩:=h
     obtain⟨base,cap,rfl,hlen,hnone,hat⟩:=Ky S hr hv
     obtain⟨ns,e1,e2⟩:=I5 hl
     refine⟨.string (mkStr l),w,?_,.sc _,S,Step.refl _ _ _ _⟩
     rw[run_convert_bytes_string w src dst e base n cap (jL hT hs0) (jL hT he) (jL hT hd)]
     cases base with
     | none =>
      have:=(hnone rfl).1
      subst this
      cases ns with
      | nil=>subst e2;rfl
      | cons _ _=>simp at e1
     | some a =>
      obtain⟨g,hg⟩:=hat a rfl
      have hload:(loadCells a n).run P w = .ok (ns.map (Value.int .u8)).toArray w:=by
       have hn:cs.length=n:=by simpa using hlen
       rw[run_loadCells w a n (fun k=>(ns.map (Value.int .u8)).getD k undef) (fun j hj => ?_)]
       ·congr 2
        apply ext_getElem?
        intro j
        have hnl:ns.length=n:=by rw[← hn,e1];simp
        by_cases hj:j<n
        ·simp[hj,hnl]
        ·simp[hj,hnl]
       ·have hnl:ns.length=n:=by rw[← hn,e1];simp
        have hc:cs[j]?=some (.sc (.int .u8 (ns[j]'(by omega)))):=by rw[e1];simp[show j<ns.length by omega]
        obtain⟨h1,h2,h3⟩:=hg j _ hc
        rw[gp h1,h2,h3.lf]
        simp[show j<ns.length by omega]
      rw[run_bytesToString w a n cap ns hload,Ft,← e2]
    ·cases h
   ·cases h
  ·cases h
 ·cases h
end
section
variable {P:Program} {T:Tab} (hT:gq P T) {w:World} {H:Nat→Prop} {hp:Θ} {σ:List Addr}
theorem N5 {M:Nat→Prop}{L:Nat→Prop}{c:PV}{v:Value}(h:dK c=true)(hv:V w M σ L c v):v.oneCell'=true:=by
 cases hv with
 | sc v=>cases v <;> first | rfl | (simp[dK] at h)
 | any=>simp[dK] at h
 | agg=>simp[dK] at h
 | tup=>simp[dK] at h
 | _=>rfl
theorem EG {cs:Ψ}(h:bd cs=true){k:Nat}{c:PV}(hk:cs[k]?=some c):dK c=true:=by
 induction cs generalizing k with
 | nil=>simp at hk
 | cons d cs ih =>
  simp[bd] at h
  cases k with
  | zero=>simp at hk;subst hk;exact h.1
  | succ k=>simp at hk;exact ih h.2 hk
theorem ra {M:Nat→Prop}{L:Nat→Prop}{cs:Ψ}{vs:List Value}(h:bd cs=true)(hl:cs.length=vs.length)(hv:∀ (k:Nat) c v,cs[k]?=some c→vs[k]?=some v→V w M σ L c v) :
  ∀ v ∈ vs,v.oneCell'=true:=by
 intro v hv'
 obtain⟨k,hk,e⟩:=mem_iff_getElem.1 hv'
 have hk2:k<cs.length:=by omega
 exact N5 (EG h (List.getElem?_eq_getElem hk2)) (hv k _ v (List.getElem?_eq_getElem hk2) (by rw[List.getElem?_eq_getElem hk,e]))
theorem KO (S:Sim w H σ hp){cs:Ψ}{vs:Array Value}{e:TypeId}(hr:Rel w (hot H σ hp) σ (aY hp) cs vs) :
  let σ':=σ++[⟨w.heap.size,0,none⟩]
  let hp':=hp++[⟨.live,cs⟩]
  let w':=w.alloc (.cells vs e)
  Sim w' H σ' hp'∧Step w (cS σ hp) σ (aY hp) w' (cS σ' hp') σ' (aY hp')∧V w' (hot H σ' hp') σ' (aY hp') (.ptr hp.length 0) (.pointer (some ⟨w.heap.size,0,none⟩)):=by
 obtain⟨h1,h2⟩:=zo (e:=e) S (Nat.le_of_eq hr.1) hr.2
 refine⟨h1,h2,?_⟩
 have:=V.ptr (w:=w.alloc (.cells vs e)) (M:=hot H (σ++[⟨w.heap.size,0,none⟩]) (hp++[⟨.live,cs⟩])) (σ:=σ++[⟨w.heap.size,0,none⟩]) (L:=aY (hp++[⟨.live,cs⟩])) hp.length 0 ⟨w.heap.size,0,none⟩
  (by rw[← S.len];simp)
 simpa using this
theorem Ca (S:Sim w H σ hp){cs:Ψ}{vs:Array Value}{e:TypeId}(hl:cs.length≤vs.size)(hv:∀ (k:Nat) c v,cs[k]?=some c→vs[k]?=some v→V w (hot H σ hp) σ (aY hp) c v)
  (s len cap:Nat) (x:Bool) (h1:len≤cap) (h2:x=true→cap=len) (h3:cap*s≤vs.size) :
  let σ':=σ++[⟨w.heap.size,0,none⟩]
  let hp':=hp++[⟨.live,cs⟩]
  let w':=w.alloc (.cells vs e)
  Sim w' H σ' hp'∧Step w (cS σ hp) σ (aY hp) w' (cS σ' hp') σ' (aY hp')∧V w' (hot H σ' hp') σ' (aY hp') (.own hp.length s 0 len x) (.slice (some ⟨w.heap.size,0,none⟩) len cap):=by
 obtain⟨g1,g2⟩:=zo (e:=e) S hl hv
 refine⟨g1,g2,.own hp.length s 0 len x ⟨w.heap.size,0,none⟩ _ cap (by rw[← S.len];simp) h1 h2 (fun _=>by simp) (fun _=>⟨vs,e,?_,by simpa using h3⟩)⟩
 show (w.heap.push _)[w.heap.size]?=_
 simp
include hT in
theorem Xt {e:TypeId}(S:Sim w H σ hp){zs:Ψ}(h:eB T e=some zs):∃ v w' σ',(Instr.alloc e true (.tuple #[])).run P w = .ok v w' ∧
  V w' (hot H σ' (aL hp zs)) σ' (aY (aL hp zs)) (.ptr hp.length 0) v∧Sim w' H σ' (aL hp zs)∧Step w (cS σ hp) σ (aY hp) w' (cS σ' (aL hp zs)) σ' (aY (aL hp zs)):=by
 obtain⟨z,hz1,hz2⟩:=ni hT h w
 obtain⟨h1,h2,h3⟩:=KO (e:=e) S (cs:=zs) (vs:=z.cells) (by rw[hz2];exact BL _)
 refine⟨_,_,_,?_,h3,h1,h2⟩
 simp[Instr.alloc,hz1,newVar,newRow]
theorem agp {e:TypeId}(S:Sim w H σ hp){p:PV}{v:Value}{cs:Ψ}(h:p.cells?=some cs)(hv:V w (hot H σ hp) σ (aY hp) p v):∃ u w' σ',(Instr.box e v).run P w = .ok u w' ∧
  V w' (hot H σ' (aL hp cs)) σ' (aY (aL hp cs)) (.ptr hp.length 0) u∧Sim w' H σ' (aL hp cs)∧Step w (cS σ hp) σ (aY hp) w' (cS σ' (aL hp cs)) σ' (aY (aL hp cs)):=by
 obtain⟨h1,h2,h3⟩:=KO (e:=e) S (V.yb h hv)
 refine⟨_,_,_,?_,h3,h1,h2⟩
 simp[Instr.box,newVar,newRow]
include hT in
theorem aa9 {t:TypeId}(S:Sim w H σ hp){p x:PV}{v:Value}{cs:Ψ}{ids:Ω}(h:aX hp p=some (cs,ids))(hx:partOf T t cs=some x)(hv:V w (hot H σ hp) σ (aY hp) p v) :
  ∃ u,(Instr.loadAt t v).run P w = .ok u w∧V w (hot H σ hp) σ (aY hp) x u:=by
 obtain⟨a,rfl,hA⟩:=A3 S h hv
 obtain⟨u,h1,h2⟩:=Aj (P:=P) hT hx hA
 exact⟨u,by simp[Instr.loadAt,Instr.sureAddr,h1],h2⟩
theorem vC (S:Sim w H σ hp){id off:Nat}{a:Addr}{old l new:Ψ}{vs:List Value}(hid:hp[id]?=some ⟨.live,old⟩)(ha:σ[id]?=some a)(ho:cm old off new=some l)
  (hl:new.length=vs.length) (hv:∀ (k:Nat) c v,new[k]?=some c→vs[k]?=some v→V w (hot H σ hp) σ (aY hp) c v) (hok:bd new=true) :
  ∃ w',(storeCells ⟨a.block,a.off+off,none⟩ vs).run P w = .ok () w'∧Sim w' H σ (hp.set id ⟨.live,l⟩) ∧
   Step w (cS σ hp) σ (aY hp) w' (cS σ (hp.set id ⟨.live,l⟩)) σ (aY (hp.set id ⟨.live,l⟩)):=by
 obtain⟨h1,h2,h3⟩:=kp ho
 obtain⟨c,e,hc,hsz⟩:=S.live id a old hid ha
 obtain⟨w',hw1,hw2⟩:=nj P ⟨a.block,a.off+off,none⟩ rfl vs 0 w c e hc (by simp;omega) (ra hok hl hv)
 obtain⟨g1,g2⟩:=Mv S hid ha (by simpa using hw2) hl hv ⟨h2,h3⟩
 exact⟨w',hw1,g1,g2⟩
include hT in
theorem QX {t:TypeId}(S:Sim w H σ hp){id off n:Nat}{p:PV}{v u:Value}{cs old l:Ψ}(hv:V w (hot H σ hp) σ (aY hp) (.ptr id off) v)(hu:V w (hot H σ hp) σ (aY hp) p u)
  (hc:p.cells?=some cs) (hs:de T t=some n) (hn:cs.length=n) (hok:bd cs=true) (hid:hp[id]?=some ⟨.live,old⟩) (ho:cm old off cs=some l) :
  ∃ w',(Instr.storeAt t v u).run P w = .ok () w'∧Sim w' H σ (hp.set id ⟨.live,l⟩) ∧
   Step w (cS σ hp) σ (aY hp) w' (cS σ (hp.set id ⟨.live,l⟩)) σ (aY (hp.set id ⟨.live,l⟩)):=by
 obtain⟨a,ha,rfl⟩:=hv.vi
 have hr:=V.yb hc hu
 obtain⟨w',h1,h2,h3⟩:=vC (P:=P) S hid ha ho (vs:=u.cells.toList) (by simpa using hr.1) (fun k c v h1 h2=>hr.2 k c v h1 (by simpa using h2)) hok
 refine⟨w',?_,h2,h3⟩
 have hsz:u.cells.size=n:=by rw[← hr.1,hn]
 simp[Instr.storeAt,Instr.sureAddr,storeVar,fI hT hs,hsz,h1]
include hT in
theorem aaY {t e:TypeId}(S:Sim w H σ hp)(hu:und T t=some (.slice e)){zs:Ψ}{s by_ l c:Nat}(hz:eB T e=some zs)(hs:de T e=some s)(hb:fQ T e=some by_){p q:PV}{v u:Value}
  (hl:gl p=some l) (hc:gl q=some c) (hp':V w (hot H σ hp) σ (aY hp) p v) (hq:V w (hot H σ hp) σ (aY hp) q u) (hle:l≤c∧c≤cN∧by_≤bQ∧zs.length=s) :
  ∃ x w' σ',(Instr.makeSlice t v u).run P w = .ok x w' ∧
   V w' (hot H σ' (aL hp (rep l zs))) σ' (aY (aL hp (rep l zs))) (.own hp.length s 0 l (l == c)) x∧Sim w' H σ' (aL hp (rep l zs)) ∧
   Step w (cS σ hp) σ (aY hp) w' (cS σ' (aL hp (rep l zs))) σ' (aY (aL hp (rep l zs))):=by
 obtain⟨k1,rfl⟩:=jI hl hp'
 obtain⟨k2,rfl⟩:=jI hc hq
 obtain⟨i,z,hTi,hiz,hzs⟩:∃ i z,T e=some i∧i.zero=some z∧zs=z.cells.toList.map .sc:=by
  unfold eB at hz
  cases hTi:T e with
  | none=>simp[hTi] at hz
  | some i =>
   rw[hTi] at hz
   cases i with
   | mk desc str size bytes hp al fa zero cmp ms =>
    cases zero with
    | none=>simp at hz
    | some z=>simp at hz;exact⟨_,z,rfl,rfl,hz.symm⟩
 have hsi:i.size=s:=by unfold de at hs;rw[hTi] at hs;simpa using hs
 have hbi:i.bytes=by_:=by unfold fQ at hb;rw[hTi] at hb;simpa using hb
 obtain⟨h1,h2,h3,h4⟩:=hle
 have hzsz:z.cells.size=s:=by rw[hzs] at h4;simpa using h4
 have hbytes:(i.bytes:Int)*(c:Int)≤281474976710656:=by
  have:i.bytes*c≤128*1099511627776:=Nat.mul_le_mul (by rw[hbi];exact h3) h2
  have e:((i.bytes*c:Nat):Int)=(i.bytes:Int)*(c:Int):=Int.natCast_mul _ _
  rw[← e]
  have:128*1099511627776=140737488355328:=by decide
  omega
 have hc63:(c:Int)≤9223372036854775807:=by unfold cN at h2;omega
 have hrun:=run_make (P:=P) w t e i z (jL hT hu) (hT e i hTi) hiz k1 k2 (l:Int) (c:Int) (by omega) (by omega) hbytes hc63
 simp only[Int.toNat_natCast] at hrun
 have hmade:∀ m,madeCells z.cells m=(Array.range m).map (z.cells[· % z.cells.size]!):=fun m=>rfl
 have hrel:=vg (w:=w) (M:=hot H σ hp) (σ:=σ) (L:=aY hp) c z.cells (c*s) (by rw[hzsz])
 have hcs:l*s≤c*s:=Nat.mul_le_mul_right s h1
 obtain⟨g1,g2,g3⟩:=Ca (e:=e) S (cs:=rep l zs) (vs:=madeCells z.cells (c*i.size)) (by rw[kl,h4,hsi,size_madeCells];exact hcs) (fun k x y hk hy=>by
  rw[hsi,hmade] at hy
  refine hrel.2 k x y ?_ hy
  have hk':=cQ hk
  rw[kl,h4] at hk'
  rw[BK _ _ _ (by rw[h4];exact hk')] at hk
  rw[← hzs,BK _ _ _ (by rw[h4];omega)]
  exact hk) s l c (l == c) h1 (fun h=>by simp at h;omega) (by rw[size_madeCells,hsi];exact Nat.le_refl _)
 exact⟨_,_,_,hrun,g3,g1,g2⟩
end
section
variable {P:Program} {T:Tab} (hT:gq P T) {w:World} {H:Nat→Prop} {hp:Θ} {σ:List Addr}
theorem GM (S:Sim w H σ hp){id off:Nat}{a:Addr}{cs l:Ψ}(hid:hp[id]?=some ⟨.live,cs⟩)(ha:σ[id]?=some a)
  (hfit:∃ (c:Array Value) (e:TypeId),w.heap[a.block]?=some (Obj.cells c e (0,0))∧a.off+off+l.length≤c.size)
  (hl:∀ (k:Nat) c,l[k]?=some c→∃ v,w.cell? ⟨a.block,a.off+off+k,none⟩=some v∧V w (hot H σ hp) σ (aY hp) c v) :
  let σ':=σ++[⟨a.block,a.off+off,none⟩]
  let hp':=hp.set id ⟨.dead,[]⟩++[⟨.live,l⟩]
  Sim w H σ' hp'∧Step w (cS σ hp) σ (aY hp) w (cS σ' hp') σ' (aY hp'):=by
 intro σ' hp'
 have hlt:id<hp.length:=cQ hid
 have hlen:(hp.set id ⟨.dead,[]⟩).length=σ.length:=by simp[S.len]
 have hliveid:aY hp id:=⟨cs,hid⟩
 have hhotid:cS σ hp a.block:=⟨id,a,.inl hliveid,ha,rfl⟩
 have hlv:∀ {i:Nat},i<σ.length→aY hp' i→aY hp i∧id≠i:=by
  rintro i hi ⟨ds,hd⟩
  rw[getElem?_append_left (by rw[hlen];exact hi)] at hd
  by_cases e:id=i
  ·subst e;rw[getElem?_set_self hlt] at hd;cases hd
  ·rw[getElem?_set_ne e] at hd;exact⟨⟨ds,hd⟩,e⟩
 have hget:∀ {i:Nat} {b:Addr},σ'[i]?=some b→(i<σ.length∧σ[i]?=some b)∨(i=σ.length∧b=⟨a.block,a.off+off,none⟩):=fun h=>ee h
 have hmp:∀ {i:Nat} {ds:Ψ},hp'[i]?=some ⟨.dead,.any::ds⟩→i<σ.length∧hp[i]?=some ⟨.dead,.any::ds⟩:=by
  intro i ds h
  rcases ee h with ⟨hi,h⟩| ⟨hi,h⟩
  ·rw[hlen] at hi
   by_cases e:id=i
   ·subst e;rw[getElem?_set_self hlt] at h;cases h
   ·rw[getElem?_set_ne e] at h;exact⟨hi,h⟩
  ·cases h
 have hhot:∀ b,cS σ' hp' b→cS σ hp b:=by
  rintro b ⟨i,a',h1,h2,h3⟩
  rcases hget h2 with ⟨hi,h2⟩| ⟨hi,h2⟩
  ·refine⟨i,a',?_,h2,h3⟩
   rcases h1 with h1 | ⟨ds,h1⟩
   ·exact .inl (hlv hi h1).1
   ·exact .inr ⟨ds,(hmp h1).2⟩
  ·subst h2;simp at h3;rw[← h3];exact hhotid
 have st:Step w (cS σ hp) σ (aY hp) w (cS σ' hp') σ' (aY hp') :=
  ⟨rfl,rfl,rfl,Nat.le_refl _,fun i b h=>by
   show (σ++[_])[i]?=_
   rw[getElem?_append_left (cQ h)];exact h,fun _ _ _=>rfl,iA fun _ c _ _ h=>⟨c,h,rfl⟩,fun b _ hm=>hhot b hm,fun i hi hm=>(hlv hi hm).1⟩
 have hblk:∀ {i:Nat} {s:BSt} {ds:Ψ},hp'[i]?=some ⟨s,ds⟩→s ≠ .dead→(i<σ.length∧id≠i∧hp[i]?=some ⟨s,ds⟩)∨(i=σ.length∧s = .live∧ds=l):=by
  intro i s ds h hd
  rcases ee h with ⟨hi,h⟩| ⟨hi,h⟩
  ·rw[hlen] at hi
   by_cases e:id=i
   ·subst e;rw[getElem?_set_self hlt] at h;cases h;exact absurd rfl hd
   ·rw[getElem?_set_ne e] at h;exact .inl ⟨hi,e,h⟩
  ·rw[hlen] at hi;cases h;exact .inr ⟨hi,rfl,rfl⟩
 refine⟨⟨?_,fun i b h => ?_,S.foreign,fun i s ds b hi hd hb k c hk => ?_,fun i s ds b hi hd hb => ?_,fun i b ds hi hb => ?_,fun i j b1 b2 s ds hi hj hd hne h1 h2 => ?_,fun i ds b hi hb => ?_,fun i j b1 b2 hi hj hne h1 h2 => ?_⟩,st⟩
 ·show (σ++[_]).length=(hp.set id ⟨.dead,[]⟩++[_]).length
  simp[S.len]
 ·rcases hget h with ⟨_,h⟩| ⟨_,h⟩
  ·exact S.spot i b h
  ·subst h;exact S.spot id a ha
 ·rcases hblk hi hd with ⟨h1,h2,h3⟩| ⟨h1,h2,h3⟩
  ·rcases hget hb with ⟨_,hb⟩| ⟨h4,_⟩
   ·obtain⟨v,g1,g2⟩:=S.cells i s ds b h3 hd hb k c hk
    exact⟨v,g1,g2.step st⟩
   ·omega
  ·rcases hget hb with ⟨h4,_⟩| ⟨_,hb⟩
   ·omega
   ·subst hb;subst h3
    obtain⟨v,g1,g2⟩:=hl k c hk
    exact⟨v,g1,g2.step st⟩
 ·rcases hblk hi hd with ⟨h1,h2,h3⟩| ⟨h1,h2,h3⟩
  ·rcases hget hb with ⟨_,hb⟩| ⟨h4,_⟩
   ·exact S.own i s ds b h3 hd hb
   ·omega
  ·rcases hget hb with ⟨h4,_⟩| ⟨_,hb⟩
   ·omega
   ·subst hb
    exact S.own id .live cs a hid (by simp) ha
 ·rcases hblk hi (by simp) with ⟨h1,h2,h3⟩| ⟨h1,h2,h3⟩
  ·rcases hget hb with ⟨_,hb⟩| ⟨h4,_⟩
   ·exact S.live i b ds h3 hb
   ·omega
  ·rcases hget hb with ⟨h4,_⟩| ⟨_,hb⟩
   ·omega
   ·subst hb;subst h3
    obtain⟨c,e,hc,hs⟩:=hfit
    exact⟨c,e,hc,hs⟩
 ·obtain⟨ds',hi⟩:=hi
  rcases hblk hi (by simp) with ⟨i1,i2,i3⟩| ⟨i1,i2,i3⟩ <;> rcases hblk hj hd with ⟨j1,j2,j3⟩| ⟨j1,j2,j3⟩
  ·rcases hget h1 with ⟨_,h1⟩| ⟨h4,_⟩
   ·rcases hget h2 with ⟨_,h2⟩| ⟨h4,_⟩
    ·exact S.inj i j b1 b2 s ds ⟨_,i3⟩ j3 hd hne h1 h2
    ·omega
   ·omega
  ·rcases hget h1 with ⟨_,h1⟩| ⟨h4,_⟩
   ·rcases hget h2 with ⟨h4,_⟩| ⟨_,h2⟩
    ·omega
    ·subst h2
     exact S.inj i id b1 a .live cs ⟨_,i3⟩ hid (by simp) (Ne.symm i2) h1 ha
   ·omega
  ·rcases hget h1 with ⟨h4,_⟩| ⟨_,h1⟩
   ·omega
   ·subst h1
    rcases hget h2 with ⟨_,h2⟩| ⟨h4,_⟩
    ·exact S.inj id j a b2 s ds hliveid j3 hd j2 ha h2
    ·omega
  ·omega
 ·obtain⟨hi1,hi2⟩:=hmp hi
  rcases hget hb with ⟨_,hb⟩| ⟨h4,_⟩
  ·obtain⟨h1,es,ck,h2,h3⟩:=S.maps i ds b hi2 hb
   exact⟨h1,es,ck,h2,h3.step st⟩
  ·omega
 ·obtain⟨ds1,hi⟩:=hi
  obtain⟨ds2,hj⟩:=hj
  obtain⟨hi1,hi2⟩:=hmp hi
  obtain⟨hj1,hj2⟩:=hmp hj
  rcases hget h1 with ⟨_,h1⟩| ⟨h4,_⟩
  ·rcases hget h2 with ⟨_,h2⟩| ⟨h4,_⟩
   ·exact S.injm i j b1 b2 ⟨_,hi2⟩ ⟨_,hj2⟩ hne h1 h2
   ·omega
  ·omega
theorem sx {t tx ty e:TypeId}{i:TypeInfo}(ht:P.underlying t=some (.slice e))(hi:P.info? e=some i){a:Addr}{sLen sCap:Nat}{x:Value}{n:Nat}{news:List Value}(hs:Src P i.size tx x n news w)
  (hroom:sLen+n≤sCap) {w':World} (hst:(storeCells (a.add (sLen*i.size)) news).run P w = .ok () w') :
  (Builtin.append_ #[t,tx] ty #[.slice (some a) sLen sCap,x]).run P w = .ok (.slice (some a) (sLen+n) sCap) w':=by
 rcases hs.kind with ⟨e',hk⟩| hk <;> simp[Builtin.append_,run_underlying ht,run_underlying hk,sizeOf,typeInfo,hi,hs.len,hroom,hs.cells,hst]
end
section
variable {P:Program} {T:Tab} (hT:gq P T) {w:World} {H:Nat→Prop} {hp:Θ} {σ:List Addr}
theorem At.CX {M:Nat→Prop}{L:Nat→Prop}{a:Addr}{cs:Ψ}(h:At w M σ L a cs):∃ vs:List Value,cs.length=vs.length∧(∀ j v,vs[j]?=some v→w.cell? (a.add j)=some v) ∧
  ∀ (k:Nat) c v,cs[k]?=some c→vs[k]?=some v→V w M σ L c v:=by
 obtain⟨g,hg⟩:=h
 refine⟨(List.range cs.length).map g,by simp,fun j v hj => ?_,fun k c v hk hv => ?_⟩
 ·have hj':=cQ hj
  simp at hj'
  simp[hj'] at hj
  subst hj
  obtain⟨h1,h2,_⟩:=hg j _ (List.getElem?_eq_getElem hj')
  rw[gp h1];exact h2
 ·have hk':=cQ hk
  simp[hk'] at hv
  subst hv
  exact (hg k c hk).2.2
theorem adH (S:Sim w H σ hp){tx e':TypeId}(hk:P.underlying tx=some (.slice e')){s:Nat}{p:PV}{v:Value}{n:Nat}{new:Ψ}{ids:Ω}(h:fk hp s p=some (n,new,ids))
  (hok:bd new=true) (hv:V w (hot H σ hp) σ (aY hp) p v) :
  ∃ news:List Value,Src P s tx v n news w∧new.length=news.length∧(∀ (k:Nat) c u,new[k]?=some c→news[k]?=some u→V w (hot H σ hp) σ (aY hp) c u)∧new.length=n*s:=by
 obtain⟨base,cap,rfl,hlen,hnone,hat⟩:=Ky S h hv
 cases base with
 | none =>
  obtain⟨e1,e2,e3⟩:=hnone rfl
  subst e1;subst e2;subst e3
  exact⟨[],Src.ofNil w hk 0,rfl,fun k c u h1 h2=>by simp at h2,by simp⟩
 | some a =>
  obtain⟨news,h1,h2,h3⟩:=(hat a rfl).CX
  exact⟨news,Src.ofSlice w hk a n cap news (by rw[← h1,hlen]) h2 (ra hok h1 h3),h1,h3,hlen⟩
def agW (P:Program)(t tx ty:TypeId)(v x:Value)(w:World)(H:Nat→Prop)(σ:List Addr)(hp:Θ)(r:PV)(hp':Θ):Prop :=
 ∃ u w' σ',(Builtin.append_ #[t,tx] ty #[v,x]).run P w = .ok u w'∧V w' (hot H σ' hp') σ' (aY hp') r u∧Sim w' H σ' hp'∧Step w (cS σ hp) σ (aY hp) w' (cS σ' hp') σ' (aY hp')
theorem nW (S:Sim w H σ hp){t tx ty e:TypeId}{i:TypeInfo}{z:Value}(ht:P.underlying t=some (.slice e))(hi:P.info? e=some i)(hz:i.zero=some z)(hzs:z.cells.size=i.size)(hby:i.bytes≤128)
  {base:Option Addr} {sLen sCap:Nat} {l new:Ψ} {olds news:List Value} (hold:(Builtin.firstCells i.size sLen (.slice base sLen sCap)).run P w.drew = .ok olds.toArray w.drew)
  {x:Value} {n:Nat} (hs:Src P i.size tx x n news w) (hg:sCap<sLen+n) (hmax:sLen+n≤1099511627776)
  (hl:l.length=olds.length∧∀ (k:Nat) c u,l[k]?=some c→olds[k]?=some u→V w (hot H σ hp) σ (aY hp) c u) (hln:l.length=sLen*i.size)
  (hn:new.length=news.length∧∀ (k:Nat) c u,new[k]?=some c→news[k]?=some u→V w (hot H σ hp) σ (aY hp) c u) (hnn:new.length=n*i.size) :
  agW P t tx ty (.slice base sLen sCap) x w H σ hp (.own hp.length i.size 0 (sLen+n) false) (hp++[⟨.live,l++new⟩]):=by
 have hfit:Builtin.nextslicecap (sLen+n) sCap*i.bytes≤281474976710656:=growslice_fits hg (by
  have:(sLen+n)*i.bytes≤1099511627776*128:=Nat.mul_le_mul hmax hby
  have e:1099511627776*128=140737488355328:=by decide
  omega)
 have hrun:=run_append_grow_src (P:=P) w t tx ty e i z ht hi hz base sLen sCap olds hold x n news hs hg (by omega) hfit
 have hcap:sLen+n≤grownCap w (sLen+n) sCap e:=by unfold grownCap Question.cut;exact Nat.le_add_right _ _
 generalize grownCap w (sLen+n) sCap e=cap at hrun hcap
 have S1:Sim w.drew H σ hp:=zl (w':=w.drew) S rfl rfl rfl rfl
 have st1:Step w (cS σ hp) σ (aY hp) w.drew (cS σ hp) σ (aY hp):=mb (w:=w) (w':=w.drew) rfl rfl rfl rfl _ _ _
 have hzc:(Builtin.zeroCells z.cells (cap - (sLen+n))).size=(cap - (sLen+n))*i.size:=by simp[Builtin.zeroCells,hzs]
 have hsize:((olds++news).toArray++Builtin.zeroCells z.cells (cap - (sLen+n))).size=cap*i.size:=by
  rw[Array.size_append,hzc,size_toArray,length_append,← hl.1,← hn.1,hln,hnn,← Nat.add_mul,← Nat.add_mul]
  congr 1;omega
 obtain⟨g1,g2,g3⟩:=Ca (e:=e) S1 (cs:=l++new) (vs:=(olds++news).toArray++Builtin.zeroCells z.cells (cap - (sLen+n)))
  (by rw[hsize,length_append,hln,hnn,← Nat.add_mul];exact Nat.mul_le_mul_right _ hcap) (fun k c u hk hu=>by
   have hk':=cQ hk
   rw[length_append] at hk'
   rw[Array.getElem?_append_left (by simp[← hl.1,← hn.1];omega)] at hu
   have hu':(olds++news)[k]?=some u:=by simpa using hu
   refine V.step st1 ?_
   rcases Nat.lt_or_ge k l.length with h | h
   ·rw[getElem?_append_left h] at hk
    rw[getElem?_append_left (by rw[← hl.1];exact h)] at hu'
    exact hl.2 k c u hk hu'
   ·rw[getElem?_append_right h] at hk
    rw[getElem?_append_right (by rw[← hl.1];exact h)] at hu'
    rw[← hl.1] at hu'
    exact hn.2 _ c u hk hu') i.size (sLen+n) cap false hcap (by simp) (by rw[hsize];exact Nat.le_refl _)
 exact⟨_,_,_,hrun,g3,g1,st1.trans g2⟩
theorem Src.om {t tx ty e:TypeId}{i:TypeInfo}(ht:P.underlying t=some (.slice e))(hi:P.info? e=some i){base:Option Addr}{sLen sCap:Nat}(hle:sLen≤sCap){x:Value}{news:List Value}(hs:Src P i.size tx x 0 news w) :
  (Builtin.append_ #[t,tx] ty #[.slice base sLen sCap,x]).run P w = .ok (.slice base sLen sCap) w:=by
 have:news=[]:=by have:=hs.newsLen;simpa using this
 subst this
 exact run_append_nothing w t tx ty e i ht hi base sLen sCap hle x hs
theorem oP (S:Sim w H σ hp){id off m:Nat}{a:Addr}{st:BSt}{cs:Ψ}(hid:hp[id]?=some ⟨st,cs⟩)(hd:st ≠ .dead)(ha:σ[id]?=some a) :
  At w (hot H σ hp) σ (aY hp) ⟨a.block,a.off+off,none⟩ ((cs.drop off).take m):=by
 have hA:At w (hot H σ hp) σ (aY hp) ⟨a.block,a.off,none⟩ cs:=by
  refine⟨fun k=>(w.cell? ⟨a.block,a.off+k,none⟩).getD undef,fun k c hk => ?_⟩
  obtain⟨v,h1,h2⟩:=S.cells id st cs a hid hd ha k c hk
  exact⟨rfl,by simp[h1],by simpa [h1] using h2⟩
 exact (hA.drop off).take m
theorem xS (P:Program){a:Addr}{size n len cap:Nat}{olds:List Value}(hl:olds.length=n*size)(h:∀ j v,olds[j]?=some v→w.cell? (a.add j)=some v) :
  (Builtin.firstCells size n (.slice (some a) len cap)).run P w.drew = .ok olds.toArray w.drew:=by
 have:=run_loadCells_list (P:=P) w.drew a olds (fun j v hj=>by simpa using h j v hj)
 rw[hl] at this
 simpa [Builtin.firstCells] using this
theorem TR {l vs:Ψ}{n:Nat}(h:n+vs.length≤l.length):∃ r,cm l n vs=some r:=by
 induction l generalizing n vs with
 | nil =>
  simp at h
  obtain⟨rfl,h⟩:=h
  cases vs with
  | nil=>exact⟨[],rfl⟩
  | cons v vs=>simp at h
 | cons a l ih =>
  cases n with
  | zero =>
   cases vs with
   | nil=>exact⟨_,rfl⟩
   | cons v vs =>
    obtain⟨r,hr⟩:=ih (n:=0) (vs:=vs) (by simp at h;omega)
    exact⟨v::r,by simp[cm,hr]⟩
  | succ n =>
   obtain⟨r,hr⟩:=ih (n:=n) (vs:=vs) (by simp at h;omega)
   exact⟨a::r,by simp[cm,hr]⟩
theorem N2 {l new ys:Ψ}(h:ys.length=new.length):cm (l++ys) l.length new=some (l++new):=by
 obtain⟨r,hr⟩:=TR (l:=l++ys) (n:=l.length) (vs:=new) (by simp;omega)
 obtain⟨h1,h2,h3⟩:=kp hr
 rw[hr];congr 1
 apply ext_getElem?
 intro k
 rw[h3]
 rcases Nat.lt_or_ge k l.length with hk | hk
 ·rw[if_neg (by omega),getElem?_append_left hk,getElem?_append_left hk]
 ·rw[getElem?_append_right (l₂:=new) hk]
  by_cases hk2:k<l.length+new.length
  ·rw[if_pos ⟨hk,hk2⟩]
  ·rw[if_neg (by omega),getElem?_eq_none (by simp;omega),getElem?_eq_none (by omega)]
theorem ym (S:Sim w H σ hp){t tx ty e:TypeId}{i:TypeInfo}{z:Value}(ht:P.underlying t=some (.slice e))(hi:P.info? e=some i)(hz:i.zero=some z)(hzs:z.cells.size=i.size)(hby:i.bytes≤128)
  {p r:PV} {v x:Value} {n:Nat} {new:Ψ} {hp':Θ} {fp:FP} (h:cw hp i.size p n new=some (r,hp',fp)) (hv:V w (hot H σ hp) σ (aY hp) p v) {news:List Value} (hs:Src P i.size tx x n news w)
  (hok:bd new=true) (hn:new.length=news.length∧∀ (k:Nat) c u,new[k]?=some c→news[k]?=some u→V w (hot H σ hp) σ (aY hp) c u) (hnn:new.length=n*i.size) :
  agW P t tx ty v x w H σ hp r hp':=by
 have same:∀ {base:Option Addr} {sLen sCap:Nat},n=0→sLen≤sCap→v = .slice base sLen sCap→r=p→hp'=hp→agW P t tx ty v x w H σ hp r hp':=by
  intro base sLen sCap h0 hle e1 e2 e3
  subst h0;subst e1;subst e2;subst e3
  exact⟨_,w,σ,Src.om ht hi hle hs,hv,S,Step.refl _ _ _ _⟩
 unfold cw at h
 split at h
 ·cases hv
  split at h
  ·rename_i h0
   simp only[OiE,PiE] at h
   obtain⟨rfl,rfl,rfl⟩:=h
   exact same h0 (Nat.le_refl 0) rfl rfl rfl
  ·rename_i h0
   split at h
   ·rename_i hm
    simp only[OiE,PiE] at h
    obtain⟨rfl,rfl,rfl⟩:=h
    have:=nW (ty:=ty) S ht hi hz hzs hby (base:=none) (sLen:=0) (sCap:=0) (l:=[]) (olds:=[]) (by simp[Builtin.firstCells]) hs (by omega) (by unfold cN at hm;omega) ⟨rfl,fun k c u h=>by simp at h⟩ (by simp) hn hnn
    simpa [aL] using this
   ·cases h
 ·rename_i len cs
  split at h
  ·rename_i h0
   simp only[OiE,PiE] at h
   obtain⟨rfl,rfl,rfl⟩:=h
   cases hv with
   | nil=>exact same h0 (Nat.le_refl 0) rfl rfl rfl
   | imm _ _ _ a cap g g1 g2 g3 g4=>exact same h0 g1 rfl rfl rfl
  ·rename_i h0
   split at h
   ·rename_i hm
    simp only[OiE,PiE] at h
    obtain⟨rfl,rfl,rfl⟩:=h
    cases hv with
    | nil =>
     have:=nW (ty:=ty) S ht hi hz hzs hby (base:=none) (sLen:=0) (sCap:=0) (l:=[]) (olds:=[]) (by simp[Builtin.firstCells]) hs (by omega) (by unfold cN at hm;omega) ⟨rfl,fun k c u h=>by simp at h⟩ (by simp) hn hnn
     simpa [aL] using this
    | imm _ _ _ a cap g g1 g2 g3 g4 =>
     have hA:At w (hot H σ hp) σ (aY hp) a cs:=⟨g,fun k c hk=>⟨(g3 k c hk).1,(g3 k c hk).2.2.2,g4 k c hk⟩⟩
     obtain⟨olds,e1,e2,e3⟩:=hA.CX
     have hcap:cap=len:=g2 rfl
     have:=nW (ty:=ty) S ht hi hz hzs hby (base:=some a) (sLen:=len) (sCap:=cap) (l:=cs) (olds:=olds) (xS P (by rw[← e1,hm.2]) e2) hs (by omega) (by have:=hm.1;unfold cN at this;omega) ⟨e1,e3⟩ hm.2 hn hnn
     simpa [aL] using this
   ·cases h
 ·rename_i id s' off len
  split at h
  ·cases h
  ·rename_i hss
   have hss:i.size=s':=by simpa using hss
   subst hss
   split at h
   ·rename_i h0
    simp only[OiE,PiE] at h
    obtain⟨rfl,rfl,rfl⟩:=h
    cases hv with
    | own _ _ _ _ _ a b cap g1 g2 g3 g4 g5=>exact same h0 g2 rfl rfl rfl
   ·rename_i h0
    cases hb:aP hp id with
    | none=>simp[hb] at h
    | some blk =>
     cases blk with
     | mk st cs =>
      simp only[hb] at h
      split at h
      ·cases h
      ·rename_i hd
       cases htk:bD (bq cs off) (len*i.size) with
       | none=>simp[htk] at h
       | some l =>
        simp only[htk] at h
        split at h
        ·rename_i hm
         simp only[OiE,PiE] at h
         obtain⟨rfl,rfl,rfl⟩:=h
         obtain⟨hle,rfl⟩:=fw htk
         rw[cA] at *
         rw[cW] at hb
         cases hv with
         | own _ _ _ _ _ a b cap g1 g2 g3 g4 g5 =>
          have hcap:cap=len:=g3 rfl
          have hln:((cs.drop off).take (len*i.size)).length=len*i.size:=by rw[length_take];omega
          obtain⟨olds,e1,e2,e3⟩:∃ olds:List Value,((cs.drop off).take (len*i.size)).length=olds.length∧(∀ j v,olds[j]?=some v→w.cell? (b.add j)=some v) ∧
            ∀ (k:Nat) c v,((cs.drop off).take (len*i.size))[k]?=some c→olds[k]?=some v→V w (hot H σ hp) σ (aY hp) c v:=by
           by_cases hc:0<cap
           ·have:=oP S (off:=off) (m:=len*i.size) hb hd g1
            rw[← g4 hc] at this
            exact this.CX
           ·have:len=0:=by omega
            subst this
            exact⟨[],by simp,fun j v h=>by simp at h,fun k c v h=>by simp at h⟩
          have:=nW (ty:=ty) S ht hi hz hzs hby (base:=some b) (sLen:=len) (sCap:=cap) (olds:=olds) (xS P (by rw[← e1,hln]) e2) hs (by omega) (by unfold cN at hm;omega) ⟨e1,e3⟩ hln hn hnn
          simpa [aL] using this
        ·cases h
 ·rename_i id s' off len
  split at h
  ·cases h
  ·rename_i hss
   have hss:i.size=s':=by simpa using hss
   subst hss
   split at h
   ·rename_i cs hb
    cases htk:bD (bq cs off) (len*i.size) with
    | none=>simp[htk] at h
    | some l =>
     simp only[htk] at h
     split at h
     ·rename_i hm
      simp only[OiE,PiE] at h
      obtain⟨rfl,rfl,rfl⟩:=h
      obtain⟨hle,rfl⟩:=fw htk
      rw[cA] at *
      rw[cW] at hb
      rw[jl]
      have hln:((cs.drop off).take (len*i.size)).length=len*i.size:=by rw[length_take];omega
      cases hv with
      | own _ _ _ _ _ a b cap g1 g2 g3 g4 g5 =>
       obtain⟨c0,e0,hc0,hsz0⟩:=g5 ⟨cs,hb⟩
       have hlt:id<hp.length:=cQ hb
       by_cases hroom:len+n≤cap
       ·
        have hA:=oP S (off:=off) (m:=len*i.size) hb (by simp) g1
        obtain⟨gA,hgA⟩:=hA
        have hcs:(len+n)*i.size≤cap*i.size:=Nat.mul_le_mul_right _ hroom
        have hmul:(len+n)*i.size=len*i.size+n*i.size:=Nat.add_mul _ _ _
        obtain⟨r1,r2⟩:=GM S (off:=off) (l:=(cs.drop off).take (len*i.size)++List.replicate (n*i.size) PV.any) hb g1
         ⟨c0,e0,hc0,by rw[length_append,hln,length_replicate];omega⟩ (fun k c hk=>by
          rcases Nat.lt_or_ge k (len*i.size) with h | h
          ·rw[getElem?_append_left (by rw[hln];exact h)] at hk
           obtain⟨q1,q2,q3⟩:=hgA k c hk
           exact⟨_,q2,q3⟩
          ·rw[getElem?_append_right (by rw[hln];exact h),getElem?_replicate] at hk
           split at hk
           ·rename_i hk2
            simp at hk;subst hk
            rw[hln] at hk2
            rw[rS hc0]
            exact⟨c0[a.off+off+k]'(by omega),Array.getElem?_eq_getElem _,.any _⟩
           ·cases hk)
        have hnewid:(hp.set id ⟨.dead,[]⟩++[(⟨.live,(cs.drop off).take (len*i.size)++List.replicate (n*i.size) PV.any⟩:Blk)])[hp.length]?=some ⟨.live,(cs.drop off).take (len*i.size)++List.replicate (n*i.size) PV.any⟩:=by
         rw[getElem?_append_right (by simp)];simp
        have hnews:(σ++[(⟨a.block,a.off+off,none⟩:Addr)])[hp.length]?=some ⟨a.block,a.off+off,none⟩:=by
         rw[← S.len];simp
        have hover:cm ((cs.drop off).take (len*i.size)++List.replicate (n*i.size) PV.any) (len*i.size) new=some ((cs.drop off).take (len*i.size)++new):=by
         have:=N2 (l:=(cs.drop off).take (len*i.size)) (new:=new) (ys:=List.replicate (n*i.size) PV.any) (by rw[length_replicate,hnn])
         rwa [hln] at this
        obtain⟨w',k1,k2,k3⟩:=vC (P:=P) r1 hnewid hnews hover hn.1 (fun k c u h1 h2=>(hn.2 k c u h1 h2).step r2) hok
        have hset:(hp.set id ⟨.dead,[]⟩++[(⟨.live,(cs.drop off).take (len*i.size)++List.replicate (n*i.size) PV.any⟩:Blk)]).set hp.length ⟨.live,(cs.drop off).take (len*i.size)++new⟩=hp.set id ⟨.dead,[]⟩++[⟨.live,(cs.drop off).take (len*i.size)++new⟩]:=by
         rw[set_append_right _ _ (by simp)];simp
        rw[hset] at k2 k3
        refine⟨.slice (some b) (len+n) cap,w',_,?_,?_,k2,r2.trans k3⟩
        ·by_cases hc:0<cap
         ·have eb:=g4 hc
          subst eb
          refine sx ht hi hs hroom ?_
          rw[gp rfl]
          exact k1
         ·have h0:n=0:=by omega
          subst h0
          have hnil:news=[]:=by have:=hs.newsLen;simpa using this
          subst hnil
          simp[storeCells] at k1
          subst k1
          have:=Src.om (ty:=ty) ht hi (base:=some b) g2 hs
          simpa using this
        ·refine .own _ _ _ _ _ ⟨a.block,a.off+off,none⟩ b cap (by rw[← S.len];simp) hroom (by simp) (fun hc=>by simpa using g4 hc) (fun _ => ?_)
         obtain⟨c',hc',hsz'⟩:=k3.shape hp.length ⟨a.block,a.off+off,none⟩ c0 e0 ⟨_,by rw[getElem?_append_right (by simp)];simp;rfl⟩ hnews hc0
         exact⟨c',e0,hc',by simp;omega⟩
       ·
        obtain⟨olds,e1,e2,e3⟩:∃ olds:List Value,((cs.drop off).take (len*i.size)).length=olds.length∧(∀ j v,olds[j]?=some v→w.cell? (b.add j)=some v) ∧
          ∀ (k:Nat) c v,((cs.drop off).take (len*i.size))[k]?=some c→olds[k]?=some v→V w (hot H σ hp) σ (aY hp) c v:=by
         by_cases hc:0<cap
         ·have:=oP S (off:=off) (m:=len*i.size) hb (by simp) g1
          rw[← g4 hc] at this
          exact this.CX
         ·have:len=0:=by omega
          subst this
          exact⟨[],by simp,fun j v h=>by simp at h,fun k c v h=>by simp at h⟩
        obtain⟨u,w',σ',q1,q2,q3,q4⟩:=nW (ty:=ty) S ht hi hz hzs hby (base:=some b) (sLen:=len) (sCap:=cap) (olds:=olds) (xS P (by rw[← e1,hln]) e2) hs (by omega) (by unfold cN at hm;omega) ⟨e1,e3⟩ hln hn hnn
        obtain⟨m1,m2⟩:=Dr (id:=id) (s:=.live) (cs:=cs) (st':=.dead) (cs':=[]) q3 (by rw[getElem?_append_left hlt];exact hb) (.inl ⟨rfl,rfl⟩)
        have hset:(hp++[(⟨.live,(cs.drop off).take (len*i.size)++new⟩:Blk)]).set id ⟨.dead,[]⟩=hp.set id ⟨.dead,[]⟩++[⟨.live,(cs.drop off).take (len*i.size)++new⟩]:=by
         rw[set_append_left _ _ hlt]
        rw[hset] at m1 m2
        exact⟨u,w',σ',q1,q2.step m2,m1,q4.trans m2⟩
     ·cases h
   ·cases h
 ·cases h
end
section
variable {P:Program} {T:Tab} (hT:gq P T) {w:World} {H:Nat→Prop} {hp:Θ} {σ:List Addr}
theorem tE {e:TypeId}{zs:Ψ}(hz:eB T e=some zs):∃ i z,T e=some i∧i.zero=some z∧zs=z.cells.toList.map .sc:=by
 unfold eB at hz
 cases hTi:T e with
 | none=>simp[hTi] at hz
 | some i =>
  rw[hTi] at hz
  cases i with
  | mk desc str size bytes hp al fa zero cmp ms =>
   cases zero with
   | none=>simp at hz
   | some z=>simp at hz;exact⟨_,z,rfl,rfl,hz.symm⟩
include hT in
theorem WJ {t ty e:TypeId}(S:Sim w H σ hp)(hu:und T t=some (.slice e)){s:Nat}{zs:Ψ}(hz:eB T e=some zs)(hzs:zs.length=s){id off len:Nat}{x:Bool}{v:Value}{old l:Ψ}
  (hv:V w (hot H σ hp) σ (aY hp) (.own id s off len x) v) (hid:hp[id]?=some ⟨.live,old⟩) (hok:bd zs=true) (ho:cm old off (rep len zs)=some l) :
  ∃ w',(Builtin.clear_ #[t] ty #[v]).run P w = .ok (.tuple #[]) w'∧Sim w' H σ (hp.set id ⟨.live,l⟩) ∧
   Step w (cS σ hp) σ (aY hp) w' (cS σ (hp.set id ⟨.live,l⟩)) σ (aY (hp.set id ⟨.live,l⟩)):=by
 cases hv with
 | own _ _ _ _ _ a b cap g1 g2 g3 g4 g5 =>
  obtain⟨z,hz1,hz2⟩:=ni hT hz w
  have hzz:z.cells.size=s:=by rw[hz2] at hzs;simpa using hzs
  have hrel:=vg (w:=w) (M:=hot H σ hp) (σ:=σ) (L:=aY hp) len z.cells (len*z.cells.size) rfl
  rw[← hz2] at hrel
  have hok':bd (rep len zs)=true:=by
   have happ:∀ a b,bd a=true→bd b=true→bd (a++b)=true:=by
    intro a b ha hb
    induction a with
    | nil=>exact hb
    | cons c a ih=>simp[bd] at ha ⊢;exact⟨ha.1,ih ha.2⟩
   induction len with
   | zero=>rfl
   | succ n ih =>
    have:∀ n,bd (rep n zs)=true:=by
     intro n
     induction n with
     | zero=>rfl
     | succ n ih=>exact happ _ _ hok ih
    exact this _
  obtain⟨w',k1,k2,k3⟩:=vC (P:=P) S hid g1 ho (vs:=(Builtin.zeroCells z.cells len).toList) (by have:=hrel.1;simpa [Builtin.zeroCells] using this) (fun k c v h1 h2=>hrel.2 k c v h1 (by
   have:(Builtin.zeroCells z.cells len)[k]?=some v:=by simpa using h2
   simpa [Builtin.zeroCells] using this)) hok'
  refine⟨w',?_,k2,k3⟩
  cases len with
  | zero =>
   have:w'=w:=by simp[Builtin.zeroCells,storeCells] at k1;exact k1.symm
   subst this
   simp only[Builtin.clear_,getElem?_toArray,getElem?_cons_zero,Sem.run_bind,dB hT hu,Result.andThen_ok]
   rfl
  | succ m =>
   have eb:=g4 (by omega)
   subst eb
   simp only[Builtin.clear_,getElem?_toArray,getElem?_cons_zero,Sem.run_bind,dB hT hu,Result.andThen_ok,hz1,k1]
   rfl
end
structure ahf (same:Value→Bool→Prop) (F:List MapEntry→Nat→Option (Nat × Value)→Prop):Prop where
 nil:∀ i,F [] i none
 hit:∀ e es i,same e.key true→F (e::es) i (some (i,e.val))
 miss:∀ e es i r,same e.key false→F es (i+1) r→F (e::es) i r
section
variable {w:World} {M:Nat→Prop} {σ:List Addr} {L:Nat→Prop} {p:PV} {kv:Value} {same:Value→Bool→Prop} {F:List MapEntry→Nat→Option (Nat × Value)→Prop} (hF:ahf same F)
 (hE:∀ a ka b,V w M σ L a ka→aiB p a=some b→same ka b∧(b=true→ka=kv))
include hF hE
end
end Go.Ab
