/- An abstract interpreter over the model's code and its soundness, part 10; each lemma states its conditions. -/
import Derived.Test.YtjdmodeenbdfpaaGreatU09
import Derived.LoopN
import Derived.Scope
set_option linter.unusedSimpArgs false
set_option linter.unusedVariables false
namespace Go.Ab
open Go List
def rZ (f:Θ→Option (PV × Θ × FP)):Prop:=∀ hp v hp' F,f hp=some (v,hp',F)→hp.length≤hp'.length
theorem py (hp:Θ)(cs:Ψ):(bd hp cs).length=hp.length+1:=by simp[bd]
theorem Cp {hp:Θ}{s:Nat}{x:PV}{n:Nat}{new:Ψ}{v:PV}{hp':Θ}{F:FP}(h:cU hp s x n new=some (v,hp',F)):hp.length≤hp'.length:=by
  unfold cU at h
  repeat' split at h
  all_goals first
    | cases h;done
    | (simp only[OiE,PiE] at h
       obtain⟨_,rfl,_⟩:=h
       first
         | exact Nat.le_refl _
         | (simp only[py,bQ];omega))
theorem GH {P:Program}{T:Tab}{fr:Ψ}{o:Op} : rZ fun hp=>an P T fr hp o:=by
  intro hp v hp' F h
  dsimp only at h
  unfold an at h
  dsimp only at h
  repeat' split at h
  all_goals first
    | cases h;done
    | (simp only[OiE,PiE] at h
       obtain⟨_,rfl,_⟩:=h
       first
         | exact Nat.le_refl _
         | (simp only[py,bQ];omega)
         | exact Cp (by assumption)
         | (simp;done))
theorem Jn {C:Cfg}{run:av}(hE:fQ run){dr:Bool}{g:FuncId}{args:Ψ} : rZ fun hp=>bS C run dr hp g args:=by
  intro hp v hp' F h
  dsimp only at h
  unfold bS at h
  split at h
  · split at h
    · rename_i rs hp1 w e
      obtain⟨e1,_⟩:=hE _ _ _ _ _ _ e
      cases hb:(bT rs && gW hp1 hp.length (lC hp.length w)) with
      | true =>
        simp only[hb,cond_true,OiE,PiE] at h
        obtain⟨_,rfl,_⟩:=h
        rw[qv];simp;omega
      | false =>
        simp only[hb,cond_false,OiE,PiE] at h
        obtain⟨_,rfl,_⟩:=h
        exact e1
    · cases h
  · split at h
    · cases h
    · split at h
      · rename_i rs er
        cases hb:rs.all eg with
        | true =>
          simp only[hb,cond_true,OiE,PiE] at h
          obtain⟨_,rfl,_⟩:=h
          exact Nat.le_refl _
        | false =>
          simp only[hb,cond_false,OiE,PiE] at h
          obtain⟨_,rfl,_⟩:=h
          rw[eX];exact Nat.le_refl _
      · split at h
        · cases h
        · split at h
          · cases h
          · rename_i rs' kept ek
            cases hb:rs'.all eg with
            | true =>
              simp only[hb,cond_true,OiE,PiE] at h
              obtain⟨_,rfl,_⟩:=h
              exact Nat.le_refl _
            | false =>
              simp only[hb,cond_false,OiE,PiE] at h
              obtain⟨_,rfl,_⟩:=h
              simp[eX]
theorem Mp {C:Cfg}{run:av}(hE:fQ run){dr:Bool}{ops:Array Oper}{o:Oper}{fr:Ψ} : rZ fun hp=>aF C run dr ops o fr hp:=by
  intro hp v hp' F h
  dsimp only at h
  unfold aF at h
  split at h
  · cases h
  · simp only[OiE,PiE] at h
    obtain⟨_,rfl,_⟩:=h
    exact Nat.le_refl _
  · split at h
    · split at h
      · exact Jn hE _ _ _ _ h
      · cases h
    · exact GH _ _ _ _ h
structure Eff (st st':St):Prop where
  len:st.hp.length≤st'.hp.length
  wr:∀ i ∈ st.wr,i ∈ st'.wr
  same:∀ i,i<st.hp.length→i ∉ st'.wr→st'.hp[i]?=st.hp[i]?
theorem Eff.refl (st:St):Eff st st:=⟨Nat.le_refl _,fun _ h=>h,fun _ _ _=>rfl⟩
theorem Eff.trans {a b c:St}(h:Eff a b)(h':Eff b c):Eff a c :=
  ⟨Nat.le_trans h.len h'.len,fun i hi=>h'.wr i (h.wr i hi),fun i hi hw=>by rw[h'.same i (Nat.lt_of_lt_of_le hi h.len) hw,h.same i hi fun e=>hw (h'.wr i e)]⟩
theorem jw:∀ (w l:Ω) (i:Nat),i ∈ aG w l ↔ i ∈ w∨i ∈ l
  | [],l,i=>by simp[aG]
  | j::w,l,i=>by
    unfold aG
    cases h:l.contains j with
    | true =>
      simp only[cond_true,jw w l i,mem_cons]
      have:j ∈ l:=by simpa using h
      constructor
      · rintro (h | h) <;> simp[h]
      · rintro ((rfl | h) | h) <;> simp_all
    | false =>
      simp only[cond_false,jw w _ i,mem_cons]
      constructor
      · rintro (h | h | h) <;> simp[h]
      · rintro ((h | h) | h) <;> simp[h]
section
variable {C:Cfg} {run:av}
theorem Og (hE:fQ run){dr:Bool}{ops:Array Oper}{o:Oper}{st st':St}{fp:FP}(h:ar C run dr ops o st=some (st',fp)):Eff st st':=by
  unfold ar at h
  split at h
  · rename_i v hp fp' e
    simp only[OiE,PiE] at h
    obtain⟨rfl,_⟩:=h
    obtain⟨h1,_⟩:=(vU hE dr ops o st.fr).E _ _ _ _ e
    refine⟨Mp hE _ _ _ _ e,fun i hi=>(jw _ _ _).2 (.inr hi),fun i hi hw => ?_⟩
    have:=h1 i fun hm=>hw ((jw _ _ _).2 (.inl hm))
    rwa [cY,cY] at this
  · cases h
theorem AI (hE:fQ run){dr:Bool}{ops:Array Oper} : ∀ {l:List Oper} {st st':St} {fps:List FP},aq C run dr ops l st=some (st',fps)→Eff st st'
  | [],st,st',fps,h=>by
    simp only[aq,OiE,PiE] at h
    obtain⟨rfl,_⟩:=h
    exact .refl _
  | o::l,st,st',fps,h=>by
    simp only[aq] at h
    split at h
    · rename_i st1 fp ho
      split at h
      · rename_i st2 fps' hl
        simp only[OiE,PiE] at h
        obtain⟨rfl,_⟩:=h
        exact (Og hE ho).trans (AI hE hl)
      · cases h
    · cases h
theorem Su (hE:fQ run){dr:Bool}{ops:Array Oper}{st st':St}(h:aH C run ops dr st=some st'):Eff st st':=by
  unfold aH at h
  split at h
  · rename_i st1 fps e
    have hh:st'=st1:=by
      cases dr with
      | false=>simpa using h.symm
      | true =>
        simp only[cond_true] at h
        split at h
        · simpa using h.symm
        · simpa using h.symm
        · cases hp:cC (Region.before ops) (number 0 fps) with
          | true=>rw[hp] at h;simpa using h.symm
          | false=>rw[hp] at h;cases h
    subst hh
    exact AI hE e
  · cases h
theorem AF {f:St→Option (Ex × St)}(hf:∀ st e st',f st=some (e,st')→Eff st st'):∀ (n:Nat) (st:St) (e:Ex) (st':St),cg f n st=some (e,st')→Eff st st'
  | 0,_,_,_,h=>by simp[cg] at h
  | n+1,st,e,st',h=>by
    unfold cg at h
    split at h
    · rename_i st1 h1
      exact (hf _ _ _ h1).trans (AF hf n _ _ _ h)
    · exact hf _ _ _ h
theorem Pb (hE:fQ run){n:Nat} : ∀ (c:Code) (st:St) (e:Ex) (st':St),ae C run n c st=some (e,st')→Eff st st':=by
  intro c
  induction c with
  | region id ops dr =>
    intro st e st' h
    unfold ae at h
    split at h
    · rename_i st1 h1
      simp only[OiE,PiE] at h
      obtain⟨_,rfl⟩:=h
      exact Su hE h1
    · cases h
  | seq a b iha ihb =>
    intro st e st' h
    unfold ae at h
    split at h
    · rename_i st1 h1
      exact (iha _ _ _ h1).trans (ihb _ _ _ h)
    · exact iha _ _ _ h
  | cond c a b iha ihb =>
    intro st e st' h
    unfold ae at h
    split at h
    · exact iha _ _ _ h
    · exact ihb _ _ _ h
    · cases h
  | block id b ih =>
    intro st e st' h
    unfold ae at h
    split at h
    · rename_i i st1 h1
      split at h
      · simp only[OiE,PiE] at h
        obtain⟨_,rfl⟩:=h
        exact ih _ _ _ h1
      · simp only[OiE,PiE] at h
        obtain⟨_,rfl⟩:=h
        exact ih _ _ _ h1
    · exact ih _ _ _ h
  | loop b ih =>
    intro st e st' h
    unfold ae at h
    exact AF ih _ _ _ _ h
  | scope b ih =>
    intro st e st' h
    unfold ae at h
    exact ih _ _ _ h
  | _ =>
    intro st e st' h
    unfold ae at h
    first
      | (simp only[OiE,PiE] at h;obtain⟨_,rfl⟩:=h;exact .refl _)
      | cases h
theorem Pz (hE:fQ run)(n:Nat):fQ (rV C run n):=by
  intro g args hp rs hp' wr h
  unfold rV at h
  split at h
  · split at h
    · rename_i c _
      have key:∀ e st',ae C run n c ⟨entry ‹Func›.ntmps args,hp,[]⟩=some (e,st')→(match aY C.T st'.fr st'.hp ‹Func›.results.toList with | some rs=>some (rs,st'.hp,st'.wr) | none=>none)=some (rs,hp',wr)→hp.length≤hp'.length∧∀ i,i<hp.length→i ∉ wr→hp'[i]?=hp[i]?:=fun e st' he h=>by
        have:=Pb hE _ _ _ _ he
        split at h
        · simp only[OiE,PiE] at h
          obtain⟨_,rfl,rfl⟩:=h
          exact⟨this.len,this.same⟩
        · cases h
      split at h
      · rename_i st he;exact key _ _ he h
      · rename_i st he;exact key _ _ he h
      · cases h
    · cases h
  · cases h
theorem C3 {f:Ψ→(Nat→Option Blk)→Option (Ψ × Option (Nat × Blk))}{args:Ψ}{hp hp':Θ}{rs:Ψ}{wr:Ω}(h:vf f args hp=some (rs,hp',wr)):hp.length≤hp'.length∧∀ i,i<hp.length→i ∉ wr→hp'[i]?=hp[i]?:=by
  unfold vf at h
  split at h
  · simp only[OiE,PiE] at h
    obtain⟨_,rfl,rfl⟩:=h
    exact⟨Nat.le_refl _,fun _ _ _=>rfl⟩
  · rename_i rs0 id b _
    cases e:id.blt hp.length with
    | false=>rw[e] at h;cases h
    | true =>
      rw[e] at h
      simp only[cond_true,OiE,PiE] at h
      obtain⟨_,rfl,rfl⟩:=h
      rw[jh]
      exact⟨by simp,fun i _ hi=>by rw[getElem?_set_ne (by intro e;subst e;simp at hi)]⟩
  · cases h
theorem R8 (k:Nat):fQ (runK C k):=by
  induction k with
  | zero=>intro g args hp rs hp' wr h;simp[runK] at h
  | succ k ih =>
    intro g args hp rs hp' wr h
    simp only[runK] at h
    split at h
    · exact C3 h
    · exact Pz ih k g args hp rs hp' wr h
structure uO (C:Cfg):Prop where
  tab:gh C.P C.T
  orders:C.P.follows .mixedOrders=true
  funcs:∀ g fn,C.F g=some fn→C.P.funcs[g]?=some fn∧∀ (args:Array Value) (w:World),(callFunc g args).run C.P w = .ok (.enter g args) w
  draws:∀ g fn c,C.F g=some fn→fn.body=some c→gu c=true
  orc:uG C
  sorc:∀ g f,C.sorc g=some f→SOk C.P g f
variable {H:Nat→Prop} {w0:World} {σ0:List Addr} {hp0:Θ}
def Ex.Bk:Ex→Exit
  | .normal=>.normal
  | .ret=>.ret
  | .exit id=>.exit id
theorem EX {P:Program}{c:Code}{f:St→Option (Ex × St)}
    (hf:∀ (st:St) (e:Ex) (st':St) (a:Act) (w:World),f st=some (e,st')→Good H w0 σ0 hp0 st a w→∀ Q:Exit→Act→World→Prop,(∀ a' w',Good H w0 σ0 hp0 st' a' w'→Q e.Bk a' w')→c.wp P Q a w) :
    ∀ (n:Nat) (st:St) (e:Ex) (st':St) (a:Act) (w:World),cg f n st=some (e,st')→Good H w0 σ0 hp0 st a w→∀ Q:Exit→Act→World→Prop,(∀ a' w',Good H w0 σ0 hp0 st' a' w'→Q e.Bk a' w')→Code.rounds P c Q n a w
  | 0,_,_,_,_,_,h,_,_,_=>by simp[cg] at h
  | n+1,st,e,st',a,w,h,hg,Q,hQ=>by
    rw[rounds_succ]
    unfold cg at h
    split at h
    · rename_i st1 h1
      exact hf _ _ _ _ _ h1 hg _ fun a' w' hg'=>EX hf n _ _ _ _ _ h hg' Q hQ
    · rename_i hn
      refine hf _ _ _ _ _ h hg _ fun a' w' hg' => ?_
      have:=hQ a' w' hg'
      cases e with
      | normal=>exact absurd h (hn st')
      | ret=>exact this
      | exit id=>exact this
theorem VZ (hC:uO C)(hR:uF C run)(hE:fQ run){n:Nat} : ∀ (c:Code) (st:St) (e:Ex) (st':St) (a:Act) (w:World),gu c=true→ae C run n c st=some (e,st')→Good H w0 σ0 hp0 st a w →
    ∀ Q:Exit→Act→World→Prop,(∀ a' w',Good H w0 σ0 hp0 st' a' w'→Q e.Bk a' w')→c.wp C.P Q a w:=by
  intro c
  induction c with
  | region id ops dr =>
    intro st e st' a w hd h hg Q hQ
    unfold ae at h
    split at h
    · rename_i st1 h1
      simp only[OiE,PiE] at h
      obtain⟨rfl,rfl⟩:=h
      exact Z3 hC.orders hC.tab hR hE hC.orc (fun hdr=>by subst hdr;simpa [gu] using hd) h1 hg hQ
    · cases h
  | seq x y iha ihb =>
    intro st e st' a w hd h hg Q hQ
    simp only[gu,Bool.and_eq_true] at hd
    unfold ae at h
    refine wp_seq ?_
    split at h
    · rename_i st1 h1
      exact iha _ _ _ _ _ hd.1 h1 hg _ fun a' w' hg'=>ihb _ _ _ _ _ hd.2 h hg' Q hQ
    · rename_i hn
      refine iha _ _ _ _ _ hd.1 h hg _ fun a' w' hg' => ?_
      have:=hQ a' w' hg'
      cases e with
      | normal=>exact absurd h (hn st')
      | ret=>exact this
      | exit id=>exact this
  | cond c x y iha ihb =>
    intro st e st' a w hd h hg Q hQ
    simp only[gu,Bool.and_eq_true] at hd
    unfold ae at h
    obtain⟨σ,S,hf,stp,hdef⟩:=id hg
    have hv:=hf.eval c
    split at h
    · rename_i e1
      rw[e1] at hv
      exact wp_cond_true hv.kR (iha _ _ _ _ _ hd.1 h hg Q hQ)
    · rename_i e1
      rw[e1] at hv
      exact wp_cond_false hv.kR (ihb _ _ _ _ _ hd.2 h hg Q hQ)
    · cases h
  | block id b ih =>
    intro st e st' a w hd h hg Q hQ
    unfold ae at h
    refine wp_block ?_
    split at h
    · rename_i i st1 h1
      refine ih _ _ _ _ _ hd h1 hg _ fun a' w' hg' => ?_
      simp only[Ex.Bk,Exit.inBlock]
      split at h
      · rename_i hi
        simp only[OiE,PiE] at h
        obtain⟨rfl,rfl⟩:=h
        rw[if_pos hi];exact hQ _ _ hg'
      · rename_i hi
        simp only[OiE,PiE] at h
        obtain⟨rfl,rfl⟩:=h
        rw[if_neg hi];exact hQ _ _ hg'
    · rename_i hn
      refine ih _ _ _ _ _ hd h hg _ fun a' w' hg' => ?_
      have:=hQ a' w' hg'
      cases e with
      | normal=>exact this
      | ret=>exact this
      | exit id=>exact absurd h (hn id st')
  | loop b ih =>
    intro st e st' a w hd h hg Q hQ
    unfold ae at h
    exact wp_loop_rounds n (EX (fun st e st' a w h hg Q hQ=>ih st e st' a w hd h hg Q hQ) n st e st' a w h hg Q hQ)
  | scope b ih =>
    intro st e st' a w hd h hg Q hQ
    unfold ae at h
    refine wp_scope_straight (ih _ _ _ _ _ hd h hg _ fun a' w' hg' => ?_)
    have:=hQ a' w' hg'
    cases e <;> exact this
  | skip =>
    intro st e st' a w hd h hg Q hQ
    unfold ae at h
    simp only[OiE,PiE] at h;obtain⟨rfl,rfl⟩:=h
    exact wp_skip (hQ _ _ hg)
  | label l =>
    intro st e st' a w hd h hg Q hQ
    unfold ae at h
    simp only[OiE,PiE] at h;obtain⟨rfl,rfl⟩:=h
    exact wp_label (hQ _ _ hg)
  | exit id =>
    intro st e st' a w hd h hg Q hQ
    unfold ae at h
    simp only[OiE,PiE] at h;obtain⟨rfl,rfl⟩:=h
    exact wp_exit (hQ _ _ hg)
  | ret =>
    intro st e st' a w hd h hg Q hQ
    unfold ae at h
    simp only[OiE,PiE] at h;obtain⟨rfl,rfl⟩:=h
    exact wp_ret (hQ _ _ hg)
  | _ =>
    intro st e st' a w hd h hg Q hQ
    unfold ae at h
    cases h
def Z1 (tmps:Array Value):ResultVar→Sem Value
  | .tmp t=>pure (tmps.getD t undef)
  | .cell a t=>do loadVar t (← asAddr (tmps.getD a undef))
theorem Sr (tmps:Array Value)(t:Tmp):Z1 tmps (.tmp t)=pure (tmps.getD t undef):=rfl
theorem Nk (tmps:Array Value)(a:Tmp)(t:TypeId):Z1 tmps (.cell a t)=(do loadVar t (← asAddr (tmps.getD a undef))):=rfl
theorem Hs (fn:Func)(tmps:Array Value):results fn tmps=(do
    let vs ← fn.results.mapM (Z1 tmps)
    pure (if h:vs.size=1 then vs[0] else .tuple vs)):=rfl
theorem EJ {P:Program}{f:ResultVar→Sem Value}{x:ResultVar}{l:List ResultVar}{u:Value}{us:List Value}{w:World}(h:(f x).run P w = .ok u w)(h':(l.mapM f).run P w = .ok us w):((x::l).mapM f).run P w = .ok (u::us) w:=by
  rw[mapM_cons]
  simp only[Sem.run_bind,h,Result.andThen_ok,h',Sem.run_pure]
theorem BB {P:Program}{T:Tab}(hT:gh P T){w:World}{σ:List Addr}{hp:Θ}(S:Sim w H σ hp){fr:Ψ}{tmps:Array Value}(hf:ov w (hot H σ hp) σ (aQ hp) fr tmps) :
    ∀ (l:List ResultVar) (rs:Ψ),aY T fr hp l=some rs →
      ∃ us,(l.mapM (Z1 tmps)).run P w = .ok us w∧Vs w (hot H σ hp) σ (aQ hp) rs us
  | [],rs,h=>by
    simp only[aY,OiE] at h
    subst h
    exact⟨[],by simp,rfl,fun k p v h=>by simp at h⟩
  | .tmp t::l,rs,h=>by
    simp only[aY] at h
    split at h
    · rename_i l' e
      simp only[OiE] at h
      subst h
      obtain⟨us,h1,h2⟩:=BB hT S hf l l' e
      refine⟨tmps.getD t undef::us,EJ (by rw[Sr];rfl) h1,by simp[h2.1],fun k p v h3 h4 => ?_⟩
      · cases k with
        | zero=>simp at h3 h4;subst h3;subst h4;simpa using hf.nth t
        | succ k=>exact h2.2 k p v (by simpa using h3) (by simpa using h4)
    · cases h
  | .cell a t::l,rs,h=>by
    simp only[aY] at h
    split at h
    · rename_i cs ids e0
      split at h
      · rename_i x l' e e'
        simp only[OiE] at h
        subst h
        obtain⟨us,h1,h2⟩:=BB hT S hf l l' e'
        obtain⟨ad,e1,hA⟩:=A9 S e0 (hf.nth a)
        obtain⟨u,h5,h6⟩:=Aj hT e hA
        refine⟨u::us,EJ (by rw[Nk,e1];simp[asAddr,h5]) h1,by simp[h2.1],fun k p v h3 h4 => ?_⟩
        · cases k with
          | zero=>simp at h3 h4;subst h3;subst h4;exact h6
          | succ k=>exact h2.2 k p v (by simpa using h3) (by simpa using h4)
      · cases h
    · cases h
theorem th:∀ (n:Nat) (l:Ψ),(entry n l).length=l.length+(n - l.length)
  | 0,l=>by simp[entry]
  | n+1,[]=>by simp[entry,th n []]
  | n+1,a::l=>by simp[entry,th n l];omega
theorem ti:∀ (n:Nat) (l:Ψ) (k:Nat) (p:PV),(entry n l)[k]?=some p→(k<l.length∧l[k]?=some p)∨(l.length≤k∧p = .sc undef)
  | 0,l,k,p,h=>.inl ⟨cO h,h⟩
  | n+1,[],k,p,h=>by
    cases k with
    | zero=>simp[entry] at h;exact .inr ⟨by simp,h.symm⟩
    | succ k =>
      simp[entry] at h
      rcases ti n [] k p h with ⟨h1,_⟩| ⟨_,h2⟩
      · simp at h1
      · exact .inr ⟨by simp,h2⟩
  | n+1,a::l,k,p,h=>by
    cases k with
    | zero=>simp[entry] at h;exact .inl ⟨by simp,by simp[h]⟩
    | succ k =>
      simp[entry] at h
      rcases ti n l k p h with ⟨h1,h2⟩| ⟨h1,h2⟩
      · exact .inl ⟨by simp;omega,by simpa using h2⟩
      · exact .inr ⟨by simp;omega,h2⟩
theorem XE (hC:uO C)(hR:uF C run)(hE:fQ run)(n:Nat):uF C (rV C run n):=by
  intro g args hp rs hp' wr h w H σ vs S hvs
  unfold rV at h
  split at h
  · rename_i fn hfn
    split at h
    · rename_i c hc
      obtain⟨hf1,hf2⟩:=hC.funcs g fn hfn
      have hd:=hC.draws g fn c hfn hc
      unfold jf
      have hcall:=hf2 vs.toArray w
      rw[hcall]
      dsimp only
      have hgood:Good H w σ hp ⟨entry fn.ntmps args,hp,[]⟩ { tmps:=vs.toArray++Array.replicate (fn.ntmps - vs.toArray.size) undef,defers:=[] } w:=by
        refine⟨σ,S,⟨?_,fun k p v h1 h2 => ?_⟩,Step.refl _ _ _ _,rfl⟩
        · simp[th,hvs.1]
        · rcases ti _ _ _ _ h1 with ⟨h3,h4⟩| ⟨h3,rfl⟩
          · refine hvs.2 k p v h4 ?_
            rw[Array.getElem?_append_left (by simpa [hvs.1] using h3)] at h2
            simpa using h2
          · rw[Array.getElem?_append_right (by simpa [hvs.1] using h3)] at h2
            obtain⟨hlt,h2⟩:=Array.getElem?_eq_some_iff.1 h2
            simp at h2
            subst h2
            exact .sc undef
      have key:∀ e st',(e = .normal∨e = .ret)→ae C run n c ⟨entry fn.ntmps args,hp,[]⟩=some (e,st')→(match aY C.T st'.fr st'.hp fn.results.toList with | some rs=>some (rs,st'.hp,st'.wr) | none=>none)=some (rs,hp',wr) →
          Calls C.P g vs.toArray w fun e w''=>∃ v,e = .returned v∧∃ σ' us,v=BA us∧Vs w'' (hot H σ' hp') σ' (aQ hp') rs us∧Sim w'' H σ' hp'∧Step w (cS σ hp) σ (aQ hp) w'' (cS σ' hp') σ' (aQ hp'):=fun e st' hex he h=>by
        split at h
        · rename_i rs' er
          simp only[OiE,PiE] at h
          obtain⟨rfl,rfl,rfl⟩:=h
          refine calls_of_wp hf1 hc (VZ hC hR hE c _ _ _ _ _ hd he hgood _ fun a' w' hg' => ?_)
          obtain⟨σ',S',hf',stp,hdef⟩:=hg'
          obtain⟨us,h1,h2⟩:=BB hC.tab S' hf' _ _ er
          have hres:(results fn a'.tmps).run C.P w' = .ok (BA us) w':=by
            rw[Hs,Array.mapM_eq_mapM_toList]
            simp only[bind_map_left,Sem.run_bind,h1,Result.andThen_ok,Sem.run_pure]
            congr 1
            match us with
            | []=>rfl
            | [u]=>rfl
            | u::u2::us=>simp[BA]
          rcases hex with rfl | rfl
          · exact⟨hdef,_,hres,_,rfl,σ',us,rfl,h2,S',stp⟩
          · exact⟨hdef,_,hres,_,rfl,σ',us,rfl,h2,S',stp⟩
        · cases h
      split at h
      · rename_i st he;exact key _ _ (.inl rfl) he h
      · rename_i st he;exact key _ _ (.inr rfl) he h
      · cases h
    · cases h
  · cases h
theorem ZP (hC:uO C)(k:Nat):uF C (runK C k):=by
  induction k with
  | zero=>intro g args hp rs hp' wr h;simp[runK] at h
  | succ k ih =>
    intro g args hp rs hp' wr h
    simp only[runK] at h
    split at h
    · rename_i f hf
      exact hC.sorc g f hf args hp rs hp' wr h
    · exact XE hC ih (R8 k) k g args hp rs hp' wr h
end
def Spec (P:Program)(g:FuncId)(f:Ψ→Option Ψ):Prop :=
 ∀ args rs,f args=some rs→bT args=true→bT rs=true∧∀ (w:World) (M:Nat→Prop) (vs:List Value),(∀ b,M b→b<w.heap.size)→Vs w M [] NoL args vs →
  jf P g vs.toArray w fun v w'=>∃ us,v=BA us∧Vs w' M [] NoL rs us∧Old w w'
theorem uG.of {C:Cfg}(h:∀ g,Spec C.P g (C.orc g)):uG C:=fun g args rs h1 h2=>h g args rs h1 h2
theorem Spec.no (P:Program)(g:FuncId):Spec P g fun _=>none:=fun _ _ h=>by cases h
theorem Spec.or {P:Program}{g:FuncId}{f f':Ψ→Option Ψ}(h:Spec P g f)(h':Spec P g f'):Spec P g fun a=>match f a with | some r=>some r | none=>f' a:=by
 intro args rs hf hi
 dsimp only at hf
 cases hfa:f args with
 | some r=>rw[hfa] at hf;cases hf;exact h args _ hfa hi
 | none=>rw[hfa] at hf;exact h' args rs hf hi
def Wk (p q:PV):Prop:=q.cG=true∧∀ (w:World) (M:Nat→Prop) (v:Value),V w M [] NoL p v→V w M [] NoL q v
def WkL:Ψ→Ψ→Prop
 | [],[]=>True
 | p::ps,q::qs=>Wk p q∧WkL ps qs
 | _,_=>False
theorem Wk.refl {p:PV}(h:p.cG=true):Wk p p:=⟨h,fun _ _ _ h=>h⟩
theorem Wk.any (p:PV):Wk p .any:=⟨rfl,fun _ _ v _=>.any v⟩
theorem Wk.imm (n:Nat)(x:Bool)(cs:Ψ):Wk (.imm n x cs) (.imm n false cs) :=
 ⟨rfl,fun w M v h=>by
  cases h with
  | nil=>exact .nil false
  | imm _ _ _ a cap g h1 h2 h3 h4=>exact .imm n false cs a cap g h1 (fun h=>by cases h) h3 h4⟩
theorem Wk.nil (x:Bool):Wk (.sc (.slice none 0 0)) (.imm 0 x []):=⟨rfl,fun w M v h=>by cases h with | sc=>exact .nil x⟩
theorem WkL.get:∀ {ps qs:Ψ},WkL ps qs→ps.length=qs.length∧∀ (k:Nat) p q,ps[k]?=some p→qs[k]?=some q→Wk p q
 | [],[],_=>⟨rfl,fun k p q h=>by simp at h⟩
 | p::ps,q::qs,h=>by
  obtain⟨h1,h2⟩:=h
  obtain⟨h3,h4⟩:=WkL.get h2
  refine⟨by simp[h3],fun k p' q' e1 e2 => ?_⟩
  cases k with
  | zero=>simp at e1 e2;subst e1;subst e2;exact h1
  | succ k=>exact h4 k p' q' (by simpa using e1) (by simpa using e2)
 | [],_::_,h=>h.elim
 | _::_,[],h=>h.elim
theorem WkL.cG:∀ {ps qs:Ψ},WkL ps qs→bT qs=true
 | [],[],_=>rfl
 | p::ps,q::qs,h=>by
  obtain⟨h1,h2⟩:=h
  simp only[bT,Bool.and_eq_true]
  exact⟨h1.1,h2.cG⟩
 | [],_::_,h=>h.elim
 | _::_,[],h=>h.elim
theorem WkL.refl:∀ {ps:Ψ},bT ps=true→WkL ps ps
 | [],_=>trivial
 | p::ps,h=>by
  simp only[bT,Bool.and_eq_true] at h
  exact⟨Wk.refl h.1,WkL.refl h.2⟩
theorem Wk.agg {ps qs:Ψ}(h:WkL ps qs):Wk (.agg ps) (.agg qs):=by
 obtain⟨h1,h2⟩:=h.get
 refine⟨by simp only[PV.cG];exact h.cG,fun w M v hv => ?_⟩
 cases hv with
 | agg _ vs g1 g2 =>
  refine .agg qs vs (by rw[← h1];exact g1) fun k c v e1 e2 => ?_
  have hk:k<ps.length:=by rw[h1];exact cO e1
  exact (h2 k _ c (getElem?_eq_getElem hk) e1).2 w M v (g2 k _ v (getElem?_eq_getElem hk) e2)
theorem Spec.bL {C:Cfg}(hC:uO C){g:FuncId}{f:Ψ→Option Ψ}
  (h:∀ args rs,f args=some rs→∃ k rs1 hp1 wr rs2 ids,runK C k g args []=some (rs1,hp1,wr)∧bu (snap hp1 bn) rs1=some (rs2,ids)∧WkL rs2 rs):Spec C.P g f:=by
 intro args rs hf hi
 obtain⟨k,rs1,hp1,wr,rs2,ids,hr,hs,hw⟩:=h args rs hf
 refine⟨hw.cG,fun w M vs hM hvs => ?_⟩
 have S0:Sim w M [] []:=KE hM
 have hvs0:Vs w (hot M [] []) [] (aQ []) args vs:=⟨hvs.1,fun k c u h1 h2=>(hvs.2 k c u h1 h2).idf (fun b _ hb=>by
  rcases hb with hb | ⟨i,a,_,h2,_⟩
  ·exact hb
  ·simp at h2) (eG hi h1)⟩
 refine (ZP hC k g args [] rs1 hp1 wr hr w M [] vs S0 hvs0).mono fun v w' ⟨σ',us,hu,hvs',hs',st⟩ => ?_
 obtain⟨h1,h2⟩:=C4 hs' hs (fun x hx=>hx) hvs'
 obtain⟨h3,h4⟩:=hw.get
 refine⟨us,hu,⟨by rw[← h3];exact h1.1,fun k c u e1 e2 => ?_⟩,st.os,st.tape,st.output,st.size,fun b hb=>st.same b hb (fun ⟨i,a,_,h2,_⟩=>by simp at h2)⟩
 have hk:k<rs2.length:=by rw[h3];exact cO e1
 refine (h4 k _ c (getElem?_eq_getElem hk) e1).2 w' M u ?_
 exact (h1.2 k _ u (getElem?_eq_getElem hk) e2).idf (fun b _ hb=>.inl hb) (eG h2 (getElem?_eq_getElem hk))
theorem Spec.afp {C:Cfg}(hC:uO C){g:FuncId}{args rs:Ψ}{eqv:Ψ→Bool}(heq:∀ a,eqv a=true→a=args)
  (h:∃ k rs1 hp1 wr rs2 ids,runK C k g args []=some (rs1,hp1,wr)∧bu (snap hp1 bn) rs1=some (rs2,ids)∧WkL rs2 rs):Spec C.P g fun a=>bif eqv a then some rs else .none :=
 Spec.bL hC fun a r hr=>by
  cases he:eqv a with
  | false=>rw[he] at hr;cases hr
  | true =>
   rw[he] at hr
   simp only[cond_true,OiE] at hr
   subst hr
   rw[heq a he]
   exact h
inductive Tr (α:Type) where
 | leaf
 | node (k:Nat) (v:α) (l r:Tr α)
def Tr.get {α:Type} : Tr α→Nat→Option α
 | .leaf,_=>none
 | .node k v l r,n=>bif n.beq k then some v else bif n.blt k then l.get n else r.get n
def Tr.All {α:Type}(p:Nat→α→Prop):Tr α→Prop
 | .leaf=>True
 | .node k v l r=>p k v∧l.All p∧r.All p
def Tr.all {α:Type}(p:α→Bool):Tr α→Bool
 | .leaf=>true
 | .node _ v l r=>p v && l.all p && r.all p
theorem Tr.vD {α:Type}{p:Nat→α→Prop} : ∀ (t:Tr α),t.All p→∀ n v,t.get n=some v→p n v
 | .leaf,_,n,v,h=>by simp[Tr.get] at h
 | .node k u l r,hp,n,v,h=>by
  obtain⟨h1,h2,h3⟩:=hp
  simp only[Tr.get] at h
  cases e:n.beq k with
  | true =>
   simp only[e,cond_true,OiE] at h
   have:=Nat.eq_of_beq_eq_true e
   subst this;subst h;exact h1
  | false =>
   simp only[e,cond_false] at h
   cases e2:n.blt k with
   | true=>simp only[e2,cond_true] at h;exact Tr.vD l h2 n v h
   | false=>simp only[e2,cond_false] at h;exact Tr.vD r h3 n v h
theorem Tr.xV {α:Type}{p:α→Bool} : ∀ (t:Tr α),t.all p=true→∀ n v,t.get n=some v→p v=true
 | .leaf,_,n,v,h=>by simp[Tr.get] at h
 | .node k u l r,hp,n,v,h=>by
  simp only[Tr.all,Bool.and_eq_true] at hp
  obtain⟨⟨h1,h2⟩,h3⟩:=hp
  simp only[Tr.get] at h
  cases e:n.beq k with
  | true =>
   simp only[e,cond_true,OiE] at h
   subst h;exact h1
  | false =>
   simp only[e,cond_false] at h
   cases e2:n.blt k with
   | true=>simp only[e2,cond_true] at h;exact Tr.xV l h2 n v h
   | false=>simp only[e2,cond_false] at h;exact Tr.xV r h3 n v h
def XF (f:Func):Bool :=
 match f.body with
 | some c=>gu c
 | none=>true
structure X9 where
 P:Program
 F:Tr Func
 T:Tr TypeInfo
 shared:FuncId→Bool
structure J5 (B:X9):Prop where
 tab:B.T.All fun n i=>B.P.types[n]?=some i
 orders:B.P.follows .mixedOrders=true
 funcs:B.F.All fun n f=>B.P.funcs[n]?=some f∧∀ (args:Array Value) (w:World),(callFunc n args).run B.P w = .ok (.enter n args) w
 draws:B.F.all XF=true
def X9.cfg (B:X9)(orc:FuncId→Ψ→Option Ψ):Cfg:={ P:=B.P,T:=B.T.get,F:=B.F.get,shared:=B.shared,orc:=orc }
theorem ace {P:Program}{n:Nat}{i:TypeInfo}(h:P.types[n]?=some i):P.info? n=some i:=by
 unfold Tables.info?
 rw[if_pos (Array.getElem?_eq_some_iff.1 h).1]
 exact h
theorem J5.cfg {B:X9}(h:J5 B){orc:FuncId→Ψ→Option Ψ}(ho:∀ g,Spec B.P g (orc g)):uO (B.cfg orc) where
 tab:=fun t i e=>ace (Tr.vD _ h.tab t i e)
 orders:=h.orders
 funcs:=fun g fn e=>Tr.vD _ h.funcs g fn e
 draws:=fun g fn c e hb=>by
  have:=Tr.xV _ h.draws g fn e
  unfold XF at this
  rw[hb] at this
  exact this
 orc:=uG.of ho
 sorc:=fun _ _ h=>by cases h
def hiN:IntKind→Nat
 | .i8=>127 | .i16=>32767 | .i32=>2147483647 | .i64=>9223372036854775807
 | .u8=>255 | .u16=>65535 | .u32=>4294967295 | .u64=>18446744073709551615
theorem QB {k:IntKind}{n:Nat}(h:Nat.ble n (hiN k)=true):bB k (Int.ofNat n)=Int.ofNat n:=by
 have h:=Nat.le_of_ble_eq_true h
 have:decide (loK k≤Int.ofNat n)=true∧decide (Int.ofNat n≤hiK k)=true:=by
  constructor <;> apply decide_eq_true <;> cases k <;> simp only[loK,hiK,hiN,Int.ofNat_eq_natCast] at h ⊢ <;> omega
 unfold bB
 rw[this.1,this.2];rfl
def val:Ω→Nat
 | []=>0
 | a::l=>a+1000000000*val l
def jy:Nat→Nat→Ω
 | 0,_=>[]
 | k+1,n=>if n=0 then [] else n % 1000000000::jy k (n / 1000000000)
def aJ (n:Nat):Ω:=jy (n.log2+1) n
def Dok (l:Ω):Prop:=∀ x ∈ l,x<1000000000
def ff (l:Ω):Ω:=(l.reverse.dropWhile (· == 0)).reverse
theorem Dok.nil:Dok []:=fun _ h=>by cases h
theorem Dok.cons {a:Nat}{l:Ω}(h:a<1000000000)(h':Dok l):Dok (a::l):=fun x hx=>by
 rcases mem_cons.1 hx with rfl | hx
 ·exact h
 ·exact h' x hx
theorem Dok.head {a:Nat}{l:Ω}(h:Dok (a::l)):a<1000000000:=h a (by simp)
theorem Dok.tail {a:Nat}{l:Ω}(h:Dok (a::l)):Dok l:=fun x hx=>h x (by simp[hx])
theorem Dok.append {l m:Ω}(h:Dok l)(h':Dok m):Dok (l++m):=fun x hx=>by
 rcases mem_append.1 hx with hx | hx
 ·exact h x hx
 ·exact h' x hx
theorem Dok.left {l m:Ω}(h:Dok (l++m)):Dok l:=fun x hx=>h x (by simp[hx])
theorem Dok.right {l m:Ω}(h:Dok (l++m)):Dok m:=fun x hx=>h x (by simp[hx])
theorem Dok.get {l:Ω}(h:Dok l){i:Nat}(hi:i<l.length):l[i]<1000000000:=h _ (getElem_mem hi)
theorem Dok.set {l:Ω}(h:Dok l)(i:Nat){y:Nat}(hy:y<1000000000):Dok (l.set i y):=fun x hx=>by
 rcases mem_or_eq_of_mem_set hx with hx | rfl
 ·exact h x hx
 ·exact hy
theorem Dok.J7 (n:Nat):Dok (List.replicate n 0):=fun x hx=>by
 rw[(mem_replicate.1 hx).2];omega
theorem Dok.take {l:Ω}(h:Dok l)(n:Nat):Dok (l.take n):=fun x hx=>h x (mem_of_mem_take hx)
theorem Dok.drop {l:Ω}(h:Dok l)(n:Nat):Dok (l.drop n):=fun x hx=>h x (mem_of_mem_drop hx)
theorem gZ (l m:Ω):val (l++m)=val l+1000000000 ^ l.length*val m:=by
 induction l with
 | nil=>simp[val]
 | cons a l ih =>
  simp only[cons_append,val,ih,length_cons,Nat.pow_succ]
  grind
theorem dI (l:Ω)(a:Nat):val (l++[a])=val l+1000000000 ^ l.length*a:=by
 rw[gZ];simp[val]
theorem oy (n:Nat):val (List.replicate n 0)=0:=by
 induction n with
 | zero=>rfl
 | succ n ih=>simp[replicate_succ,val,ih]
theorem qm (l:Ω)(i y:Nat)(hi:i<l.length):val (l.set i y)+l[i]*1000000000 ^ i=val l+y*1000000000 ^ i:=by
 induction l generalizing i with
 | nil=>simp at hi
 | cons a l ih =>
  cases i with
  | zero=>simp[val];omega
  | succ i =>
   have:=ih i (by simpa using hi)
   simp only[set_cons_succ,val,getElem_cons_succ,Nat.pow_succ]
   grind
theorem gK (l:Ω)(i:Nat)(hi:i<l.length):val (l.take (i+1))=val (l.take i)+l[i]*1000000000 ^ i:=by
 rw[take_succ_eq_append_getElem hi,dI,length_take,Nat.min_eq_left (by omega),Nat.mul_comm]
theorem eM {l:Ω}(h:Dok l):val l<1000000000 ^ l.length:=by
 induction l with
 | nil=>simp[val]
 | cons a l ih =>
  have h1:=ih h.tail
  have h2:=h.head
  simp only[val,length_cons,Nat.pow_succ]
  omega
theorem lf (l:Ω)(i:Nat)(hi:i≤l.length):val l=val (l.take i)+1000000000 ^ i*val (l.drop i):=by
 have h:=gZ (l.take i) (l.drop i)
 rw[take_append_drop,length_take,Nat.min_eq_left hi] at h
 exact h
theorem nP (n:Nat)(h:n≠0):(n / 1000000000).log2+1≤n.log2∨n / 1000000000=0:=by
 by_cases h0:n / 1000000000=0
 ·exact .inr h0
 ·left
  have h1:2 ^ (n / 1000000000).log2≤n / 1000000000:=Nat.log2_self_le h0
  have h2:2 ^ ((n / 1000000000).log2+1)≤n:=by
   rw[Nat.pow_succ];omega
  exact (Nat.le_log2 h).2 h2
theorem nZ:∀ (k j n:Nat),n.log2<k→n.log2<j→jy k n=jy j n
 | 0,j,n,h,_=>by omega
 | k+1,0,n,_,h=>by omega
 | k+1,j+1,n,h,h'=>by
  unfold jy
  by_cases hn:n=0
  ·rw[if_pos hn,if_pos hn]
  ·rw[if_neg hn,if_neg hn]
   congr 1
   rcases nP n hn with h1 | h1
   ·exact nZ k j _ (by omega) (by omega)
   ·rw[h1]
    cases k <;> cases j <;> simp[jy]
theorem fq:aJ 0=[]:=rfl
theorem dW {n:Nat}(h:n≠0):aJ n=n % 1000000000::aJ (n / 1000000000):=by
 unfold aJ
 rw[jy,if_neg h]
 congr 1
 rcases nP n h with h1 | h1
 ·exact nZ _ _ _ (by omega) (by omega)
 ·rw[h1]
  cases n.log2 <;> simp[jy]
theorem tk {a:Nat}{l:Ω}(ha:a<1000000000)(h:a+1000000000*val l≠0):aJ (a+1000000000*val l)=a::aJ (val l):=by
 rw[dW h,Nat.add_mul_mod_self_left,Nat.mod_eq_of_lt ha,Nat.add_mul_div_left _ _ (by omega),Nat.div_eq_of_lt ha,Nat.zero_add]
theorem bX (n:Nat):val (aJ n)=n:=by
 induction n using Nat.strongRecOn with
 | _ n ih =>
  by_cases h:n=0
  ·subst h;rfl
  ·rw[dW h,val,ih _ (by omega)]
   omega
theorem bV (n:Nat):Dok (aJ n):=by
 induction n using Nat.strongRecOn with
 | _ n ih =>
  by_cases h:n=0
  ·subst h;exact Dok.nil
  ·rw[dW h]
   exact (ih _ (by omega)).cons (by omega)
theorem ez (l:Ω)(a:Nat):ff (l++[a])=if a=0 then ff l else l++[a]:=by
 unfold ff
 rw[reverse_append]
 by_cases h:a=0 <;> simp[h]
theorem jq {P:Ω→Prop}(h0:P [])(h1:∀ l a,P l→P (l++[a])):∀ l,P l:=by
 intro l
 have:∀ m:Ω,P m.reverse:=by
  intro m
  induction m with
  | nil=>exact h0
  | cons a m ih=>rw[reverse_cons];exact h1 _ a ih
 have:=this l.reverse
 rwa [reverse_reverse] at this
theorem sk (l:Ω):val (ff l)=val l:=by
 induction l using jq with
 | h0=>rfl
 | h1 l a ih =>
  rw[ez]
  by_cases h:a=0
  ·rw[if_pos h,ih,h,dI,Nat.mul_zero,Nat.add_zero]
  ·rw[if_neg h]
theorem vV {l:Ω}(h:Dok l):Dok (ff l):=by
 induction l using jq with
 | h0=>exact Dok.nil
 | h1 l a ih =>
  rw[ez]
  by_cases h':a=0
  ·rw[if_pos h'];exact ih h.left
  ·rw[if_neg h'];exact h
def Top (l:Ω):Prop:=∀ m a,l=m++[a]→a≠0
theorem lj (l:Ω):Top (ff l):=by
 induction l using jq with
 | h0=>intro m a h;simp[ff] at h
 | h1 l a ih =>
  rw[ez]
  by_cases h:a=0
  ·rw[if_pos h];exact ih
  ·rw[if_neg h]
   intro m b e
   have:=append_inj' e rfl
   simp at this
   rw[← this.2];exact h
theorem Top.tail {a:Nat}{l:Ω}(h:Top (a::l)):Top l:=fun m b e=>h (a::m) b (by rw[e];rfl)
theorem Top.qn {l:Ω}(h:Top l)(hl:l≠[]):val l≠0:=by
 obtain⟨m,a,rfl⟩:∃ m a,l=m++[a]:=⟨l.dropLast,l.getLast hl,(dropLast_concat_getLast hl).symm⟩
 have ha:=h m a rfl
 rw[dI]
 have:0<1000000000 ^ m.length*a:=Nat.mul_pos (Nat.pow_pos (by omega)) (by omega)
 omega
theorem ke {l:Ω}(h:Dok l)(ht:Top l):aJ (val l)=l:=by
 induction l with
 | nil=>rfl
 | cons a l ih =>
  rw[val,tk h.head,ih h.tail ht.tail]
  exact ht.qn (by simp)
theorem eA {l:Ω}(h:Dok l):ff l=aJ (val l):=by
 rw[← sk l,ke (vV h) (lj l)]
theorem jx (n:Nat):Top (aJ n):=by
 have h:=eA (bV n)
 rw[bX] at h
 rw[← h]
 exact lj _
theorem cT {n:Nat} : 0<(aJ n).length ↔ n≠0:=by
 by_cases h:n=0
 ·subst h;simp[fq]
 ·rw[dW h];simp[h]
theorem yg {n:Nat}(h:aJ n=[]):n=0:=by
 rw[← bX n,h];rfl
theorem di {n k:Nat}(h:n<1000000000 ^ k):(aJ n).length≤k:=by
 by_cases h0:aJ n=[]
 ·rw[h0];simp
 ·obtain⟨m,a,e⟩:∃ m a,aJ n=m++[a]:=⟨(aJ n).dropLast,(aJ n).getLast h0,(dropLast_concat_getLast h0).symm⟩
  have ha:=jx n m a e
  have hv:=bX n
  rw[e,dI] at hv
  rw[e,length_append,length_singleton]
  have h1:1000000000 ^ m.length≤n:=by
   have:1000000000 ^ m.length*1≤1000000000 ^ m.length*a:=Nat.mul_le_mul_left _ (by omega)
   omega
  have h2:1000000000 ^ m.length<1000000000 ^ k:=by omega
  exact Nat.lt_of_not_le fun h3=>absurd (Nat.pow_le_pow_right (n:=1000000000) (by omega) h3) (by omega)
theorem fA (n:Nat):n<1000000000 ^ (aJ n).length:=by
 have:=eM (bV n)
 rwa [bX] at this
end Go.Ab
