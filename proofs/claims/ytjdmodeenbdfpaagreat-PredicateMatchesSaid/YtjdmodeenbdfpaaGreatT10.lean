/- An abstract interpreter over the model's code and its soundness, part 10 of the proof; each lemma states its own conditions. -/
import Derived.Test.YtjdmodeenbdfpaaGreatT09
import Derived.LoopN
import Derived.Scope
set_option linter.unusedSimpArgs false
set_option linter.unusedVariables false
namespace Go.Ab
open Go List
def rZ (f:List Blk→Option (PV × List Blk × FP)):Prop:=∀ hp v hp' F,f hp=some (v,hp',F)→hp.length≤hp'.length
theorem pI (hp:List Blk)(cs:List PV):(aM hp cs).length=hp.length+1:=by simp[aM]
theorem Cd {hp:List Blk}{s:Nat}{x:PV}{n:Nat}{new:List PV}{v:PV}{hp':List Blk}{F:FP}(h:cJ hp s x n new=some (v,hp',F)):hp.length≤hp'.length:=by
  unfold cJ at h
  repeat' split at h
  all_goals first
    | cases h;done
    | (simp only[OiE,PiE] at h
       obtain⟨_,rfl,_⟩:=h
       first
         | exact Nat.le_refl _
         | (simp only[pI,bL];omega))
theorem Gk {P:Program}{T:Tab}{fr:List PV}{o:Op} : rZ fun hp=>an P T fr hp o:=by
  intro hp v hp' F h
  dsimp only at h
  unfold an at h
  dsimp only at h
  repeat' split at h
  all_goals first
    | cases h;done
    | (simp only[OiE,PiE] at h
       obtain⟨_,rfl,_⟩:=h
       first
         | exact Nat.le_refl _
         | (simp only[pI,bL];omega)
         | exact Cd (by assumption)
         | (simp;done))
theorem IW {C:Cfg}{run:ar}(hE:gh run){dr:Bool}{g:FuncId}{args:List PV} : rZ fun hp=>bX C run dr hp g args:=by
  intro hp v hp' F h
  dsimp only at h
  unfold bX at h
  split at h
  · split at h
    · rename_i rs hp1 w e
      obtain⟨e1,_⟩:=hE _ _ _ _ _ _ e
      cases hb:(bU rs && iL hp1 hp.length (lU hp.length w)) with
      | true =>
        simp only[hb,cond_true,OiE,PiE] at h
        obtain⟨_,rfl,_⟩:=h
        rw[qH];simp;omega
      | false =>
        simp only[hb,cond_false,OiE,PiE] at h
        obtain⟨_,rfl,_⟩:=h
        exact e1
    · cases h
  · split at h
    · cases h
    · split at h
      · rename_i rs er
        cases hb:rs.all eE with
        | true =>
          simp only[hb,cond_true,OiE,PiE] at h
          obtain⟨_,rfl,_⟩:=h
          exact Nat.le_refl _
        | false =>
          simp only[hb,cond_false,OiE,PiE] at h
          obtain⟨_,rfl,_⟩:=h
          rw[ft];exact Nat.le_refl _
      · split at h
        · cases h
        · split at h
          · cases h
          · rename_i rs' kept ek
            cases hb:rs'.all eE with
            | true =>
              simp only[hb,cond_true,OiE,PiE] at h
              obtain⟨_,rfl,_⟩:=h
              exact Nat.le_refl _
            | false =>
              simp only[hb,cond_false,OiE,PiE] at h
              obtain⟨_,rfl,_⟩:=h
              simp[ft]
theorem LX {C:Cfg}{run:ar}(hE:gh run){dr:Bool}{ops:Array Oper}{o:Oper}{fr:List PV} : rZ fun hp=>aG C run dr ops o fr hp:=by
  intro hp v hp' F h
  dsimp only at h
  unfold aG at h
  split at h
  · cases h
  · simp only[OiE,PiE] at h
    obtain⟨_,rfl,_⟩:=h
    exact Nat.le_refl _
  · split at h
    · split at h
      · exact IW hE _ _ _ _ h
      · cases h
    · exact Gk _ _ _ _ h
structure Eff (st st':St):Prop where
  len:st.hp.length≤st'.hp.length
  wr:∀ i ∈ st.wr,i ∈ st'.wr
  same:∀ i,i<st.hp.length→i ∉ st'.wr→st'.hp[i]?=st.hp[i]?
theorem Eff.refl (st:St):Eff st st:=⟨Nat.le_refl _,fun _ h=>h,fun _ _ _=>rfl⟩
theorem Eff.trans {a b c:St}(h:Eff a b)(h':Eff b c):Eff a c :=
  ⟨Nat.le_trans h.len h'.len,fun i hi=>h'.wr i (h.wr i hi),fun i hi hw=>by rw[h'.same i (Nat.lt_of_lt_of_le hi h.len) hw,h.same i hi fun e=>hw (h'.wr i e)]⟩
theorem jJ:∀ (w l:List Nat) (i:Nat),i ∈ aA w l ↔ i ∈ w∨i ∈ l
  | [],l,i=>by simp[aA]
  | j::w,l,i=>by
    unfold aA
    cases h:l.contains j with
    | true =>
      simp only[cond_true,jJ w l i,mem_cons]
      have:j ∈ l:=by simpa using h
      constructor
      · rintro (h | h) <;> simp[h]
      · rintro ((rfl | h) | h) <;> simp_all
    | false =>
      simp only[cond_false,jJ w _ i,mem_cons]
      constructor
      · rintro (h | h | h) <;> simp[h]
      · rintro ((h | h) | h) <;> simp[h]
section
variable {C:Cfg} {run:ar}
theorem N8 (hE:gh run){dr:Bool}{ops:Array Oper}{o:Oper}{st st':St}{fp:FP}(h:aq C run dr ops o st=some (st',fp)):Eff st st':=by
  unfold aq at h
  split at h
  · rename_i v hp fp' e
    simp only[OiE,PiE] at h
    obtain⟨rfl,_⟩:=h
    obtain⟨h1,_⟩:=(vW hE dr ops o st.fr).E _ _ _ _ e
    refine⟨LX hE _ _ _ _ e,fun i hi=>(jJ _ _ _).2 (.inr hi),fun i hi hw => ?_⟩
    have:=h1 i fun hm=>hw ((jJ _ _ _).2 (.inl hm))
    rwa [cZ,cZ] at this
  · cases h
theorem AH (hE:gh run){dr:Bool}{ops:Array Oper} : ∀ {l:List Oper} {st st':St} {fps:List FP},ao C run dr ops l st=some (st',fps)→Eff st st'
  | [],st,st',fps,h=>by
    simp only[ao,OiE,PiE] at h
    obtain⟨rfl,_⟩:=h
    exact .refl _
  | o::l,st,st',fps,h=>by
    simp only[ao] at h
    split at h
    · rename_i st1 fp ho
      split at h
      · rename_i st2 fps' hl
        simp only[OiE,PiE] at h
        obtain⟨rfl,_⟩:=h
        exact (N8 hE ho).trans (AH hE hl)
      · cases h
    · cases h
theorem R7 (hE:gh run){dr:Bool}{ops:Array Oper}{st st':St}(h:aH C run ops dr st=some st'):Eff st st':=by
  unfold aH at h
  split at h
  · rename_i st1 fps e
    have hh:st'=st1:=by
      cases dr with
      | false=>simpa using h.symm
      | true =>
        simp only[cond_true] at h
        split at h
        · simpa using h.symm
        · simpa using h.symm
        · cases hp:cH (Region.before ops) (number 0 fps) with
          | true=>rw[hp] at h;simpa using h.symm
          | false=>rw[hp] at h;cases h
    subst hh
    exact AH hE e
  · cases h
theorem AE {f:St→Option (Ex × St)}(hf:∀ st e st',f st=some (e,st')→Eff st st'):∀ (n:Nat) (st:St) (e:Ex) (st':St),cu f n st=some (e,st')→Eff st st'
  | 0,_,_,_,h=>by simp[cu] at h
  | n+1,st,e,st',h=>by
    unfold cu at h
    split at h
    · rename_i st1 h1
      exact (hf _ _ _ h1).trans (AE hf n _ _ _ h)
    · exact hf _ _ _ h
theorem OY (hE:gh run){n:Nat} : ∀ (c:Code) (st:St) (e:Ex) (st':St),af C run n c st=some (e,st')→Eff st st':=by
  intro c
  induction c with
  | region id ops dr =>
    intro st e st' h
    unfold af at h
    split at h
    · rename_i st1 h1
      simp only[OiE,PiE] at h
      obtain⟨_,rfl⟩:=h
      exact R7 hE h1
    · cases h
  | seq a b iha ihb =>
    intro st e st' h
    unfold af at h
    split at h
    · rename_i st1 h1
      exact (iha _ _ _ h1).trans (ihb _ _ _ h)
    · exact iha _ _ _ h
  | cond c a b iha ihb =>
    intro st e st' h
    unfold af at h
    split at h
    · exact iha _ _ _ h
    · exact ihb _ _ _ h
    · cases h
  | block id b ih =>
    intro st e st' h
    unfold af at h
    split at h
    · rename_i i st1 h1
      split at h
      · simp only[OiE,PiE] at h
        obtain⟨_,rfl⟩:=h
        exact ih _ _ _ h1
      · simp only[OiE,PiE] at h
        obtain⟨_,rfl⟩:=h
        exact ih _ _ _ h1
    · exact ih _ _ _ h
  | loop b ih =>
    intro st e st' h
    unfold af at h
    exact AE ih _ _ _ _ h
  | scope b ih =>
    intro st e st' h
    unfold af at h
    exact ih _ _ _ h
  | _ =>
    intro st e st' h
    unfold af at h
    first
      | (simp only[OiE,PiE] at h;obtain⟨_,rfl⟩:=h;exact .refl _)
      | cases h
theorem Pp (hE:gh run)(n:Nat):gh (uK C run n):=by
  intro g args hp rs hp' wr h
  unfold uK at h
  split at h
  · split at h
    · rename_i c _
      have key:∀ e st',af C run n c ⟨entry ‹Func›.ntmps args,hp,[]⟩=some (e,st')→(match aU C.T st'.fr st'.hp ‹Func›.results.toList with | some rs=>some (rs,st'.hp,st'.wr) | none=>none)=some (rs,hp',wr)→hp.length≤hp'.length∧∀ i,i<hp.length→i ∉ wr→hp'[i]?=hp[i]?:=fun e st' he h=>by
        have:=OY hE _ _ _ _ he
        split at h
        · simp only[OiE,PiE] at h
          obtain⟨_,rfl,rfl⟩:=h
          exact⟨this.len,this.same⟩
        · cases h
      split at h
      · rename_i st he;exact key _ _ he h
      · rename_i st he;exact key _ _ he h
      · cases h
    · cases h
  · cases h
theorem CS {f:List PV→(Nat→Option Blk)→Option (List PV × Option (Nat × Blk))}{args:List PV}{hp hp':List Blk}{rs:List PV}{wr:List Nat}(h:vq f args hp=some (rs,hp',wr)):hp.length≤hp'.length∧∀ i,i<hp.length→i ∉ wr→hp'[i]?=hp[i]?:=by
  unfold vq at h
  split at h
  · simp only[OiE,PiE] at h
    obtain⟨_,rfl,rfl⟩:=h
    exact⟨Nat.le_refl _,fun _ _ _=>rfl⟩
  · rename_i rs0 id b _
    cases e:id.blt hp.length with
    | false=>rw[e] at h;cases h
    | true =>
      rw[e] at h
      simp only[cond_true,OiE,PiE] at h
      obtain⟨_,rfl,rfl⟩:=h
      rw[jt]
      exact⟨by simp,fun i _ hi=>by rw[getElem?_set_ne (by intro e;subst e;simp at hi)]⟩
  · cases h
theorem RS (k:Nat):gh (runK C k):=by
  induction k with
  | zero=>intro g args hp rs hp' wr h;simp[runK] at h
  | succ k ih =>
    intro g args hp rs hp' wr h
    simp only[runK] at h
    split at h
    · exact CS h
    · exact Pp ih k g args hp rs hp' wr h
structure uX (C:Cfg):Prop where
  tab:gM C.P C.T
  orders:C.P.follows .mixedOrders=true
  funcs:∀ g fn,C.F g=some fn→C.P.funcs[g]?=some fn∧∀ (args:Array Value) (w:World),(callFunc g args).run C.P w = .ok (.enter g args) w
  draws:∀ g fn c,C.F g=some fn→fn.body=some c→gY c=true
  orc:uO C
  sorc:∀ g f,C.sorc g=some f→SOk C.P g f
variable {H:Nat→Prop} {w0:World} {σ0:List Addr} {hp0:List Blk}
def Ex.Bc:Ex→Exit
  | .normal=>.normal
  | .ret=>.ret
  | .exit id=>.exit id
theorem EL {P:Program}{c:Code}{f:St→Option (Ex × St)}
    (hf:∀ (st:St) (e:Ex) (st':St) (a:Act) (w:World),f st=some (e,st')→Good H w0 σ0 hp0 st a w→∀ Q:Exit→Act→World→Prop,(∀ a' w',Good H w0 σ0 hp0 st' a' w'→Q e.Bc a' w')→c.wp P Q a w) :
    ∀ (n:Nat) (st:St) (e:Ex) (st':St) (a:Act) (w:World),cu f n st=some (e,st')→Good H w0 σ0 hp0 st a w→∀ Q:Exit→Act→World→Prop,(∀ a' w',Good H w0 σ0 hp0 st' a' w'→Q e.Bc a' w')→Code.rounds P c Q n a w
  | 0,_,_,_,_,_,h,_,_,_=>by simp[cu] at h
  | n+1,st,e,st',a,w,h,hg,Q,hQ=>by
    rw[rounds_succ]
    unfold cu at h
    split at h
    · rename_i st1 h1
      exact hf _ _ _ _ _ h1 hg _ fun a' w' hg'=>EL hf n _ _ _ _ _ h hg' Q hQ
    · rename_i hn
      refine hf _ _ _ _ _ h hg _ fun a' w' hg' => ?_
      have:=hQ a' w' hg'
      cases e with
      | normal=>exact absurd h (hn st')
      | ret=>exact this
      | exit id=>exact this
theorem VE (hC:uX C)(hR:uN C run)(hE:gh run){n:Nat} : ∀ (c:Code) (st:St) (e:Ex) (st':St) (a:Act) (w:World),gY c=true→af C run n c st=some (e,st')→Good H w0 σ0 hp0 st a w →
    ∀ Q:Exit→Act→World→Prop,(∀ a' w',Good H w0 σ0 hp0 st' a' w'→Q e.Bc a' w')→c.wp C.P Q a w:=by
  intro c
  induction c with
  | region id ops dr =>
    intro st e st' a w hd h hg Q hQ
    unfold af at h
    split at h
    · rename_i st1 h1
      simp only[OiE,PiE] at h
      obtain⟨rfl,rfl⟩:=h
      exact Zr hC.orders hC.tab hR hE hC.orc (fun hdr=>by subst hdr;simpa [gY] using hd) h1 hg hQ
    · cases h
  | seq x y iha ihb =>
    intro st e st' a w hd h hg Q hQ
    simp only[gY,Bool.and_eq_true] at hd
    unfold af at h
    refine wp_seq ?_
    split at h
    · rename_i st1 h1
      exact iha _ _ _ _ _ hd.1 h1 hg _ fun a' w' hg'=>ihb _ _ _ _ _ hd.2 h hg' Q hQ
    · rename_i hn
      refine iha _ _ _ _ _ hd.1 h hg _ fun a' w' hg' => ?_
      have:=hQ a' w' hg'
      cases e with
      | normal=>exact absurd h (hn st')
      | ret=>exact this
      | exit id=>exact this
  | cond c x y iha ihb =>
    intro st e st' a w hd h hg Q hQ
    simp only[gY,Bool.and_eq_true] at hd
    unfold af at h
    obtain⟨σ,S,hf,stp,hdef⟩:=id hg
    have hv:=hf.eval c
    split at h
    · rename_i e1
      rw[e1] at hv
      exact wp_cond_true hv.lu (iha _ _ _ _ _ hd.1 h hg Q hQ)
    · rename_i e1
      rw[e1] at hv
      exact wp_cond_false hv.lu (ihb _ _ _ _ _ hd.2 h hg Q hQ)
    · cases h
  | block id b ih =>
    intro st e st' a w hd h hg Q hQ
    unfold af at h
    refine wp_block ?_
    split at h
    · rename_i i st1 h1
      refine ih _ _ _ _ _ hd h1 hg _ fun a' w' hg' => ?_
      simp only[Ex.Bc,Exit.inBlock]
      split at h
      · rename_i hi
        simp only[OiE,PiE] at h
        obtain⟨rfl,rfl⟩:=h
        rw[if_pos hi];exact hQ _ _ hg'
      · rename_i hi
        simp only[OiE,PiE] at h
        obtain⟨rfl,rfl⟩:=h
        rw[if_neg hi];exact hQ _ _ hg'
    · rename_i hn
      refine ih _ _ _ _ _ hd h hg _ fun a' w' hg' => ?_
      have:=hQ a' w' hg'
      cases e with
      | normal=>exact this
      | ret=>exact this
      | exit id=>exact absurd h (hn id st')
  | loop b ih =>
    intro st e st' a w hd h hg Q hQ
    unfold af at h
    exact wp_loop_rounds n (EL (fun st e st' a w h hg Q hQ=>ih st e st' a w hd h hg Q hQ) n st e st' a w h hg Q hQ)
  | scope b ih =>
    intro st e st' a w hd h hg Q hQ
    unfold af at h
    refine wp_scope_straight (ih _ _ _ _ _ hd h hg _ fun a' w' hg' => ?_)
    have:=hQ a' w' hg'
    cases e <;> exact this
  | skip =>
    intro st e st' a w hd h hg Q hQ
    unfold af at h
    simp only[OiE,PiE] at h;obtain⟨rfl,rfl⟩:=h
    exact wp_skip (hQ _ _ hg)
  | label l =>
    intro st e st' a w hd h hg Q hQ
    unfold af at h
    simp only[OiE,PiE] at h;obtain⟨rfl,rfl⟩:=h
    exact wp_label (hQ _ _ hg)
  | exit id =>
    intro st e st' a w hd h hg Q hQ
    unfold af at h
    simp only[OiE,PiE] at h;obtain⟨rfl,rfl⟩:=h
    exact wp_exit (hQ _ _ hg)
  | ret =>
    intro st e st' a w hd h hg Q hQ
    unfold af at h
    simp only[OiE,PiE] at h;obtain⟨rfl,rfl⟩:=h
    exact wp_ret (hQ _ _ hg)
  | _ =>
    intro st e st' a w hd h hg Q hQ
    unfold af at h
    cases h
def Zq (tmps:Array Value):ResultVar→Sem Value
  | .tmp t=>pure (tmps.getD t undef)
  | .cell a t=>do loadVar t (← asAddr (tmps.getD a undef))
theorem R4 (tmps:Array Value)(t:Tmp):Zq tmps (.tmp t)=pure (tmps.getD t undef):=rfl
theorem M8 (tmps:Array Value)(a:Tmp)(t:TypeId):Zq tmps (.cell a t)=(do loadVar t (← asAddr (tmps.getD a undef))):=rfl
theorem G6 (fn:Func)(tmps:Array Value):results fn tmps=(do
    let vs ← fn.results.mapM (Zq tmps)
    pure (if h:vs.size=1 then vs[0] else .tuple vs)):=rfl
theorem Ez {P:Program}{f:ResultVar→Sem Value}{x:ResultVar}{l:List ResultVar}{u:Value}{us:List Value}{w:World}(h:(f x).run P w = .ok u w)(h':(l.mapM f).run P w = .ok us w):((x::l).mapM f).run P w = .ok (u::us) w:=by
  rw[mapM_cons]
  simp only[Sem.run_bind,h,Result.andThen_ok,h',Sem.run_pure]
theorem Bv {P:Program}{T:Tab}(hT:gM P T){w:World}{σ:List Addr}{hp:List Blk}(S:Sim w H σ hp){fr:List PV}{tmps:Array Value}(hf:oH w (hot H σ hp) σ (aZ hp) fr tmps) :
    ∀ (l:List ResultVar) (rs:List PV),aU T fr hp l=some rs →
      ∃ us,(l.mapM (Zq tmps)).run P w = .ok us w∧Vs w (hot H σ hp) σ (aZ hp) rs us
  | [],rs,h=>by
    simp only[aU,OiE] at h
    subst h
    exact⟨[],by simp,rfl,fun k p v h=>by simp at h⟩
  | .tmp t::l,rs,h=>by
    simp only[aU] at h
    split at h
    · rename_i l' e
      simp only[OiE] at h
      subst h
      obtain⟨us,h1,h2⟩:=Bv hT S hf l l' e
      refine⟨tmps.getD t undef::us,Ez (by rw[R4];rfl) h1,by simp[h2.1],fun k p v h3 h4 => ?_⟩
      · cases k with
        | zero=>simp at h3 h4;subst h3;subst h4;simpa using hf.nth t
        | succ k=>exact h2.2 k p v (by simpa using h3) (by simpa using h4)
    · cases h
  | .cell a t::l,rs,h=>by
    simp only[aU] at h
    split at h
    · rename_i cs ids e0
      split at h
      · rename_i x l' e e'
        simp only[OiE] at h
        subst h
        obtain⟨us,h1,h2⟩:=Bv hT S hf l l' e'
        obtain⟨ad,e1,hA⟩:=A5 S e0 (hf.nth a)
        obtain⟨u,h5,h6⟩:=Am hT e hA
        refine⟨u::us,Ez (by rw[M8,e1];simp[asAddr,h5]) h1,by simp[h2.1],fun k p v h3 h4 => ?_⟩
        · cases k with
          | zero=>simp at h3 h4;subst h3;subst h4;exact h6
          | succ k=>exact h2.2 k p v (by simpa using h3) (by simpa using h4)
      · cases h
    · cases h
theorem th:∀ (n:Nat) (l:List PV),(entry n l).length=l.length+(n - l.length)
  | 0,l=>by simp[entry]
  | n+1,[]=>by simp[entry,th n []]
  | n+1,a::l=>by simp[entry,th n l];omega
theorem ti:∀ (n:Nat) (l:List PV) (k:Nat) (p:PV),(entry n l)[k]?=some p→(k<l.length∧l[k]?=some p)∨(l.length≤k∧p = .sc undef)
  | 0,l,k,p,h=>.inl ⟨cV h,h⟩
  | n+1,[],k,p,h=>by
    cases k with
    | zero=>simp[entry] at h;exact .inr ⟨by simp,h.symm⟩
    | succ k =>
      simp[entry] at h
      rcases ti n [] k p h with ⟨h1,_⟩| ⟨_,h2⟩
      · simp at h1
      · exact .inr ⟨by simp,h2⟩
  | n+1,a::l,k,p,h=>by
    cases k with
    | zero=>simp[entry] at h;exact .inl ⟨by simp,by simp[h]⟩
    | succ k =>
      simp[entry] at h
      rcases ti n l k p h with ⟨h1,h2⟩| ⟨h1,h2⟩
      · exact .inl ⟨by simp;omega,by simpa using h2⟩
      · exact .inr ⟨by simp;omega,h2⟩
theorem Xt (hC:uX C)(hR:uN C run)(hE:gh run)(n:Nat):uN C (uK C run n):=by
  intro g args hp rs hp' wr h w H σ vs S hvs
  unfold uK at h
  split at h
  · rename_i fn hfn
    split at h
    · rename_i c hc
      obtain⟨hf1,hf2⟩:=hC.funcs g fn hfn
      have hd:=hC.draws g fn c hfn hc
      unfold js
      have hcall:=hf2 vs.toArray w
      rw[hcall]
      dsimp only
      have hgood:Good H w σ hp ⟨entry fn.ntmps args,hp,[]⟩ { tmps:=vs.toArray++Array.replicate (fn.ntmps - vs.toArray.size) undef,defers:=[] } w:=by
        refine⟨σ,S,⟨?_,fun k p v h1 h2 => ?_⟩,Step.refl _ _ _ _,rfl⟩
        · simp[th,hvs.1]
        · rcases ti _ _ _ _ h1 with ⟨h3,h4⟩| ⟨h3,rfl⟩
          · refine hvs.2 k p v h4 ?_
            rw[Array.getElem?_append_left (by simpa [hvs.1] using h3)] at h2
            simpa using h2
          · rw[Array.getElem?_append_right (by simpa [hvs.1] using h3)] at h2
            obtain⟨hlt,h2⟩:=Array.getElem?_eq_some_iff.1 h2
            simp at h2
            subst h2
            exact .sc undef
      have key:∀ e st',(e = .normal∨e = .ret)→af C run n c ⟨entry fn.ntmps args,hp,[]⟩=some (e,st')→(match aU C.T st'.fr st'.hp fn.results.toList with | some rs=>some (rs,st'.hp,st'.wr) | none=>none)=some (rs,hp',wr) →
          Calls C.P g vs.toArray w fun e w''=>∃ v,e = .returned v∧∃ σ' us,v=Bu us∧Vs w'' (hot H σ' hp') σ' (aZ hp') rs us∧Sim w'' H σ' hp'∧Step w (cY σ hp) σ (aZ hp) w'' (cY σ' hp') σ' (aZ hp'):=fun e st' hex he h=>by
        split at h
        · rename_i rs' er
          simp only[OiE,PiE] at h
          obtain⟨rfl,rfl,rfl⟩:=h
          refine calls_of_wp hf1 hc (VE hC hR hE c _ _ _ _ _ hd he hgood _ fun a' w' hg' => ?_)
          obtain⟨σ',S',hf',stp,hdef⟩:=hg'
          obtain⟨us,h1,h2⟩:=Bv hC.tab S' hf' _ _ er
          have hres:(results fn a'.tmps).run C.P w' = .ok (Bu us) w':=by
            rw[G6,Array.mapM_eq_mapM_toList]
            simp only[bind_map_left,Sem.run_bind,h1,Result.andThen_ok,Sem.run_pure]
            congr 1
            match us with
            | []=>rfl
            | [u]=>rfl
            | u::u2::us=>simp[Bu]
          rcases hex with rfl | rfl
          · exact⟨hdef,_,hres,_,rfl,σ',us,rfl,h2,S',stp⟩
          · exact⟨hdef,_,hres,_,rfl,σ',us,rfl,h2,S',stp⟩
        · cases h
      split at h
      · rename_i st he;exact key _ _ (.inl rfl) he h
      · rename_i st he;exact key _ _ (.inr rfl) he h
      · cases h
    · cases h
  · cases h
theorem Za (hC:uX C)(k:Nat):uN C (runK C k):=by
  induction k with
  | zero=>intro g args hp rs hp' wr h;simp[runK] at h
  | succ k ih =>
    intro g args hp rs hp' wr h
    simp only[runK] at h
    split at h
    · rename_i f hf
      exact hC.sorc g f hf args hp rs hp' wr h
    · exact Xt hC ih (RS k) k g args hp rs hp' wr h
end
def Spec (P:Program)(g:FuncId)(f:List PV→Option (List PV)):Prop :=
 ∀ args rs,f args=some rs→bU args=true→bU rs=true∧∀ (w:World) (M:Nat→Prop) (vs:List Value),(∀ b,M b→b<w.heap.size)→Vs w M [] NoL args vs →
  js P g vs.toArray w fun v w'=>∃ us,v=Bu us∧Vs w' M [] NoL rs us∧Old w w'
theorem uO.of {C:Cfg}(h:∀ g,Spec C.P g (C.orc g)):uO C:=fun g args rs h1 h2=>h g args rs h1 h2
theorem Spec.no (P:Program)(g:FuncId):Spec P g fun _=>none:=fun _ _ h=>by cases h
theorem Spec.or {P:Program}{g:FuncId}{f f':List PV→Option (List PV)}(h:Spec P g f)(h':Spec P g f'):Spec P g fun a=>match f a with | some r=>some r | none=>f' a:=by
 intro args rs hf hi
 dsimp only at hf
 cases hfa:f args with
 | some r=>rw[hfa] at hf;cases hf;exact h args _ hfa hi
 | none=>rw[hfa] at hf;exact h' args rs hf hi
def Wk (p q:PV):Prop:=q.cO=true∧∀ (w:World) (M:Nat→Prop) (v:Value),V w M [] NoL p v→V w M [] NoL q v
def WkL:List PV→List PV→Prop
 | [],[]=>True
 | p::ps,q::qs=>Wk p q∧WkL ps qs
 | _,_=>False
theorem Wk.refl {p:PV}(h:p.cO=true):Wk p p:=⟨h,fun _ _ _ h=>h⟩
theorem Wk.any (p:PV):Wk p .any:=⟨rfl,fun _ _ v _=>.any v⟩
theorem Wk.imm (n:Nat)(x:Bool)(cs:List PV):Wk (.imm n x cs) (.imm n false cs) :=
 ⟨rfl,fun w M v h=>by
  cases h with
  | nil=>exact .nil false
  | imm _ _ _ a cap g h1 h2 h3 h4=>exact .imm n false cs a cap g h1 (fun h=>by cases h) h3 h4⟩
theorem Wk.nil (x:Bool):Wk (.sc (.slice none 0 0)) (.imm 0 x []):=⟨rfl,fun w M v h=>by cases h with | sc=>exact .nil x⟩
theorem WkL.get:∀ {ps qs:List PV},WkL ps qs→ps.length=qs.length∧∀ (k:Nat) p q,ps[k]?=some p→qs[k]?=some q→Wk p q
 | [],[],_=>⟨rfl,fun k p q h=>by simp at h⟩
 | p::ps,q::qs,h=>by
  obtain⟨h1,h2⟩:=h
  obtain⟨h3,h4⟩:=WkL.get h2
  refine⟨by simp[h3],fun k p' q' e1 e2 => ?_⟩
  cases k with
  | zero=>simp at e1 e2;subst e1;subst e2;exact h1
  | succ k=>exact h4 k p' q' (by simpa using e1) (by simpa using e2)
 | [],_::_,h=>h.elim
 | _::_,[],h=>h.elim
theorem WkL.cO:∀ {ps qs:List PV},WkL ps qs→bU qs=true
 | [],[],_=>rfl
 | p::ps,q::qs,h=>by
  obtain⟨h1,h2⟩:=h
  simp only[bU,Bool.and_eq_true]
  exact⟨h1.1,h2.cO⟩
 | [],_::_,h=>h.elim
 | _::_,[],h=>h.elim
theorem WkL.refl:∀ {ps:List PV},bU ps=true→WkL ps ps
 | [],_=>trivial
 | p::ps,h=>by
  simp only[bU,Bool.and_eq_true] at h
  exact⟨Wk.refl h.1,WkL.refl h.2⟩
theorem Wk.agg {ps qs:List PV}(h:WkL ps qs):Wk (.agg ps) (.agg qs):=by
 obtain⟨h1,h2⟩:=h.get
 refine⟨by simp only[PV.cO];exact h.cO,fun w M v hv => ?_⟩
 cases hv with
 | agg _ vs g1 g2 =>
  refine .agg qs vs (by rw[← h1];exact g1) fun k c v e1 e2 => ?_
  have hk:k<ps.length:=by rw[h1];exact cV e1
  exact (h2 k _ c (getElem?_eq_getElem hk) e1).2 w M v (g2 k _ v (getElem?_eq_getElem hk) e2)
theorem Spec.bM {C:Cfg}(hC:uX C){g:FuncId}{f:List PV→Option (List PV)}
  (h:∀ args rs,f args=some rs→∃ k rs1 hp1 wr rs2 ids,runK C k g args []=some (rs1,hp1,wr)∧bq (snap hp1 bn) rs1=some (rs2,ids)∧WkL rs2 rs):Spec C.P g f:=by
 intro args rs hf hi
 obtain⟨k,rs1,hp1,wr,rs2,ids,hr,hs,hw⟩:=h args rs hf
 refine⟨hw.cO,fun w M vs hM hvs => ?_⟩
 have S0:Sim w M [] []:=JY hM
 have hvs0:Vs w (hot M [] []) [] (aZ []) args vs:=⟨hvs.1,fun k c u h1 h2=>(hvs.2 k c u h1 h2).idf (fun b _ hb=>by
  rcases hb with hb | ⟨i,a,_,h2,_⟩
  ·exact hb
  ·simp at h2) (eZ hi h1)⟩
 refine (Za hC k g args [] rs1 hp1 wr hr w M [] vs S0 hvs0).mono fun v w' ⟨σ',us,hu,hvs',hs',st⟩ => ?_
 obtain⟨h1,h2⟩:=CT hs' hs (fun x hx=>hx) hvs'
 obtain⟨h3,h4⟩:=hw.get
 refine⟨us,hu,⟨by rw[← h3];exact h1.1,fun k c u e1 e2 => ?_⟩,st.os,st.tape,st.output,st.size,fun b hb=>st.same b hb (fun ⟨i,a,_,h2,_⟩=>by simp at h2)⟩
 have hk:k<rs2.length:=by rw[h3];exact cV e1
 refine (h4 k _ c (getElem?_eq_getElem hk) e1).2 w' M u ?_
 exact (h1.2 k _ u (getElem?_eq_getElem hk) e2).idf (fun b _ hb=>.inl hb) (eZ h2 (getElem?_eq_getElem hk))
theorem Spec.aeN {C:Cfg}(hC:uX C){g:FuncId}{args rs:List PV}{eqv:List PV→Bool}(heq:∀ a,eqv a=true→a=args)
  (h:∃ k rs1 hp1 wr rs2 ids,runK C k g args []=some (rs1,hp1,wr)∧bq (snap hp1 bn) rs1=some (rs2,ids)∧WkL rs2 rs):Spec C.P g fun a=>bif eqv a then some rs else .none :=
 Spec.bM hC fun a r hr=>by
  cases he:eqv a with
  | false=>rw[he] at hr;cases hr
  | true =>
   rw[he] at hr
   simp only[cond_true,OiE] at hr
   subst hr
   rw[heq a he]
   exact h
inductive Tr (α:Type) where
 | leaf
 | node (k:Nat) (v:α) (l r:Tr α)
def Tr.get {α:Type} : Tr α→Nat→Option α
 | .leaf,_=>none
 | .node k v l r,n=>bif n.beq k then some v else bif n.blt k then l.get n else r.get n
def Tr.All {α:Type}(p:Nat→α→Prop):Tr α→Prop
 | .leaf=>True
 | .node k v l r=>p k v∧l.All p∧r.All p
def Tr.all {α:Type}(p:α→Bool):Tr α→Bool
 | .leaf=>true
 | .node _ v l r=>p v && l.all p && r.all p
theorem Tr.vE {α:Type}{p:Nat→α→Prop} : ∀ (t:Tr α),t.All p→∀ n v,t.get n=some v→p n v
 | .leaf,_,n,v,h=>by simp[Tr.get] at h
 | .node k u l r,hp,n,v,h=>by
  obtain⟨h1,h2,h3⟩:=hp
  simp only[Tr.get] at h
  cases e:n.beq k with
  | true =>
   simp only[e,cond_true,OiE] at h
   have:=Nat.eq_of_beq_eq_true e
   subst this;subst h;exact h1
  | false =>
   simp only[e,cond_false] at h
   cases e2:n.blt k with
   | true=>simp only[e2,cond_true] at h;exact Tr.vE l h2 n v h
   | false=>simp only[e2,cond_false] at h;exact Tr.vE r h3 n v h
theorem Tr.xW {α:Type}{p:α→Bool} : ∀ (t:Tr α),t.all p=true→∀ n v,t.get n=some v→p v=true
 | .leaf,_,n,v,h=>by simp[Tr.get] at h
 | .node k u l r,hp,n,v,h=>by
  simp only[Tr.all,Bool.and_eq_true] at hp
  obtain⟨⟨h1,h2⟩,h3⟩:=hp
  simp only[Tr.get] at h
  cases e:n.beq k with
  | true =>
   simp only[e,cond_true,OiE] at h
   subst h;exact h1
  | false =>
   simp only[e,cond_false] at h
   cases e2:n.blt k with
   | true=>simp only[e2,cond_true] at h;exact Tr.xW l h2 n v h
   | false=>simp only[e2,cond_false] at h;exact Tr.xW r h3 n v h
def Xu (f:Func):Bool :=
 match f.body with
 | some c=>gY c
 | none=>true
structure X8 where
 P:Program
 F:Tr Func
 T:Tr TypeInfo
 shared:FuncId→Bool
structure JF (B:X8):Prop where
 tab:B.T.All fun n i=>B.P.types[n]?=some i
 orders:B.P.follows .mixedOrders=true
 funcs:B.F.All fun n f=>B.P.funcs[n]?=some f∧∀ (args:Array Value) (w:World),(callFunc n args).run B.P w = .ok (.enter n args) w
 draws:B.F.all Xu=true
def X8.cfg (B:X8)(orc:FuncId→List PV→Option (List PV)):Cfg:={ P:=B.P,T:=B.T.get,F:=B.F.get,shared:=B.shared,orc:=orc }
theorem abM {P:Program}{n:Nat}{i:TypeInfo}(h:P.types[n]?=some i):P.info? n=some i:=by
 unfold Tables.info?
 rw[if_pos (Array.getElem?_eq_some_iff.1 h).1]
 exact h
theorem JF.cfg {B:X8}(h:JF B){orc:FuncId→List PV→Option (List PV)}(ho:∀ g,Spec B.P g (orc g)):uX (B.cfg orc) where
 tab:=fun t i e=>abM (Tr.vE _ h.tab t i e)
 orders:=h.orders
 funcs:=fun g fn e=>Tr.vE _ h.funcs g fn e
 draws:=fun g fn c e hb=>by
  have:=Tr.xW _ h.draws g fn e
  unfold Xu at this
  rw[hb] at this
  exact this
 orc:=uO.of ho
 sorc:=fun _ _ h=>by cases h
end Go.Ab
