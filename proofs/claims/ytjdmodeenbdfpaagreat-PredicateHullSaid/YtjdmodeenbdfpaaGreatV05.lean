/- An abstract interpreter over the model's code and its soundness, part 5; each lemma states its conditions. -/
import Derived.Test.YtjdmodeenbdfpaaGreatV04
import Derived.LoopN
import Derived.Scope
set_option linter.unusedSimpArgs false
set_option linter.unusedVariables false
namespace Go.Ab
open Go List
def su (f:Θ→Option (PV × Θ × FP)):Prop:=∀ hp v hp' F,f hp=some (v,hp',F)→hp.length≤hp'.length
theorem pO (hp:Θ)(cs:Ψ):(aO hp cs).length=hp.length+1:=by simp[aO]
theorem CH {hp:Θ}{s:Nat}{x:PV}{n:Nat}{new:Ψ}{v:PV}{hp':Θ}{F:FP}(h:cU hp s x n new=some (v,hp',F)):hp.length≤hp'.length:=by
  unfold cU at h
  repeat' split at h
  all_goals first
    | cases h;done
    | (simp only[OiE,PiE] at h
       obtain⟨_,rfl,_⟩:=h
       first
         | exact Nat.le_refl _
         | (simp only[pO,bJ];omega))
theorem GX {P:Program}{T:Tab}{fr:Ψ}{o:Op} : su fun hp=>an P T fr hp o:=by
  intro hp v hp' F h
  dsimp only at h
  unfold an at h
  dsimp only at h
  repeat' split at h
  all_goals first
    | cases h;done
    | (simp only[OiE,PiE] at h
       obtain⟨_,rfl,_⟩:=h
       first
         | exact Nat.le_refl _
         | (simp only[pO,bJ];omega)
         | exact CH (by assumption)
         | (simp;done))
theorem JJ {C:Cfg}{run:aw}(hE:fS run){dr:Bool}{g:FuncId}{args:Ψ} : su fun hp=>bP C run dr hp g args:=by
  intro hp v hp' F h
  dsimp only at h
  unfold bP at h
  split at h
  · split at h
    · rename_i rs hp1 w e
      obtain⟨e1,_⟩:=hE _ _ _ _ _ _ e
      cases hb:(bV rs && ie hp1 hp.length (ky hp.length w)) with
      | true =>
        simp only[hb,cond_true,OiE,PiE] at h
        obtain⟨_,rfl,_⟩:=h
        rw[qN];simp;omega
      | false =>
        simp only[hb,cond_false,OiE,PiE] at h
        obtain⟨_,rfl,_⟩:=h
        exact e1
    · cases h
  · split at h
    · cases h
    · split at h
      · rename_i rs er
        cases hb:rs.all eh with
        | true =>
          simp only[hb,cond_true,OiE,PiE] at h
          obtain⟨_,rfl,_⟩:=h
          exact Nat.le_refl _
        | false =>
          simp only[hb,cond_false,OiE,PiE] at h
          obtain⟨_,rfl,_⟩:=h
          rw[ff];exact Nat.le_refl _
      · split at h
        · cases h
        · split at h
          · cases h
          · rename_i rs' kept ek
            cases hb:rs'.all eh with
            | true =>
              simp only[hb,cond_true,OiE,PiE] at h
              obtain⟨_,rfl,_⟩:=h
              exact Nat.le_refl _
            | false =>
              simp only[hb,cond_false,OiE,PiE] at h
              obtain⟨_,rfl,_⟩:=h
              simp[ff]
theorem MZ {C:Cfg}{run:aw}(hE:fS run){dr:Bool}{ops:Array Oper}{o:Oper}{fr:Ψ} : su fun hp=>aG C run dr ops o fr hp:=by
  intro hp v hp' F h
  dsimp only at h
  unfold aG at h
  split at h
  · cases h
  · simp only[OiE,PiE] at h
    obtain⟨_,rfl,_⟩:=h
    exact Nat.le_refl _
  · split at h
    · split at h
      · exact JJ hE _ _ _ _ h
      · cases h
    · exact GX _ _ _ _ h
structure Eff (st st':St):Prop where
  len:st.hp.length≤st'.hp.length
  wr:∀ i ∈ st.wr,i ∈ st'.wr
  same:∀ i,i<st.hp.length→i ∉ st'.wr→st'.hp[i]?=st.hp[i]?
theorem Eff.refl (st:St):Eff st st:=⟨Nat.le_refl _,fun _ h=>h,fun _ _ _=>rfl⟩
theorem Eff.trans {a b c:St}(h:Eff a b)(h':Eff b c):Eff a c :=
  ⟨Nat.le_trans h.len h'.len,fun i hi=>h'.wr i (h.wr i hi),fun i hi hw=>by rw[h'.same i (Nat.lt_of_lt_of_le hi h.len) hw,h.same i hi fun e=>hw (h'.wr i e)]⟩
theorem jG:∀ (w l:Ω) (i:Nat),i ∈ aC w l ↔ i ∈ w∨i ∈ l
  | [],l,i=>by simp[aC]
  | j::w,l,i=>by
    unfold aC
    cases h:l.contains j with
    | true =>
      simp only[cond_true,jG w l i,mem_cons]
      have:j ∈ l:=by simpa using h
      constructor
      · rintro (h | h) <;> simp[h]
      · rintro ((rfl | h) | h) <;> simp_all
    | false =>
      simp only[cond_false,jG w _ i,mem_cons]
      constructor
      · rintro (h | h | h) <;> simp[h]
      · rintro ((h | h) | h) <;> simp[h]
section
variable {C:Cfg} {run:aw}
theorem OT (hE:fS run){dr:Bool}{ops:Array Oper}{o:Oper}{st st':St}{fp:FP}(h:aq C run dr ops o st=some (st',fp)):Eff st st':=by
  unfold aq at h
  split at h
  · rename_i v hp fp' e
    simp only[OiE,PiE] at h
    obtain⟨rfl,_⟩:=h
    obtain⟨h1,_⟩:=(wc hE dr ops o st.fr).E _ _ _ _ e
    refine⟨MZ hE _ _ _ _ e,fun i hi=>(jG _ _ _).2 (.inr hi),fun i hi hw => ?_⟩
    have:=h1 i fun hm=>hw ((jG _ _ _).2 (.inl hm))
    rwa [cV,cV] at this
  · cases h
theorem AX (hE:fS run){dr:Bool}{ops:Array Oper} : ∀ {l:List Oper} {st st':St} {fps:List FP},ao C run dr ops l st=some (st',fps)→Eff st st'
  | [],st,st',fps,h=>by
    simp only[ao,OiE,PiE] at h
    obtain⟨rfl,_⟩:=h
    exact .refl _
  | o::l,st,st',fps,h=>by
    simp only[ao] at h
    split at h
    · rename_i st1 fp ho
      split at h
      · rename_i st2 fps' hl
        simp only[OiE,PiE] at h
        obtain⟨rfl,_⟩:=h
        exact (OT hE ho).trans (AX hE hl)
      · cases h
    · cases h
theorem Tl (hE:fS run){dr:Bool}{ops:Array Oper}{st st':St}(h:aH C run ops dr st=some st'):Eff st st':=by
  unfold aH at h
  split at h
  · rename_i st1 fps e
    have hh:st'=st1:=by
      cases dr with
      | false=>simpa using h.symm
      | true =>
        simp only[cond_true] at h
        split at h
        · simpa using h.symm
        · simpa using h.symm
        · cases hp:cw (Region.before ops) (number 0 fps) with
          | true=>rw[hp] at h;simpa using h.symm
          | false=>rw[hp] at h;cases h
    subst hh
    exact AX hE e
  · cases h
theorem AV {f:St→Option (Ex × St)}(hf:∀ st e st',f st=some (e,st')→Eff st st'):∀ (n:Nat) (st:St) (e:Ex) (st':St),cb f n st=some (e,st')→Eff st st'
  | 0,_,_,_,h=>by simp[cb] at h
  | n+1,st,e,st',h=>by
    unfold cb at h
    split at h
    · rename_i st1 h1
      exact (hf _ _ _ h1).trans (AV hf n _ _ _ h)
    · exact hf _ _ _ h
theorem PO (hE:fS run){n:Nat} : ∀ (c:Code) (st:St) (e:Ex) (st':St),ae C run n c st=some (e,st')→Eff st st':=by
  intro c
  induction c with
  | region id ops dr =>
    intro st e st' h
    unfold ae at h
    split at h
    · rename_i st1 h1
      simp only[OiE,PiE] at h
      obtain⟨_,rfl⟩:=h
      exact Tl hE h1
    · cases h
  | seq a b iha ihb =>
    intro st e st' h
    unfold ae at h
    split at h
    · rename_i st1 h1
      exact (iha _ _ _ h1).trans (ihb _ _ _ h)
    · exact iha _ _ _ h
  | cond c a b iha ihb =>
    intro st e st' h
    unfold ae at h
    split at h
    · exact iha _ _ _ h
    · exact ihb _ _ _ h
    · cases h
  | block id b ih =>
    intro st e st' h
    unfold ae at h
    split at h
    · rename_i i st1 h1
      split at h
      · simp only[OiE,PiE] at h
        obtain⟨_,rfl⟩:=h
        exact ih _ _ _ h1
      · simp only[OiE,PiE] at h
        obtain⟨_,rfl⟩:=h
        exact ih _ _ _ h1
    · exact ih _ _ _ h
  | loop b ih =>
    intro st e st' h
    unfold ae at h
    exact AV ih _ _ _ _ h
  | scope b ih =>
    intro st e st' h
    unfold ae at h
    exact ih _ _ _ h
  | _ =>
    intro st e st' h
    unfold ae at h
    first
      | (simp only[OiE,PiE] at h;obtain⟨_,rfl⟩:=h;exact .refl _)
      | cases h
theorem QJ (hE:fS run)(n:Nat):fS (sk C run n):=by
  intro g args hp rs hp' wr h
  unfold sk at h
  split at h
  · split at h
    · rename_i c _
      have key:∀ e st',ae C run n c ⟨entry ‹Func›.ntmps args,hp,[]⟩=some (e,st')→(match aX C.T st'.fr st'.hp ‹Func›.results.toList with | some rs=>some (rs,st'.hp,st'.wr) | none=>none)=some (rs,hp',wr)→hp.length≤hp'.length∧∀ i,i<hp.length→i ∉ wr→hp'[i]?=hp[i]?:=fun e st' he h=>by
        have:=PO hE _ _ _ _ he
        split at h
        · simp only[OiE,PiE] at h
          obtain⟨_,rfl,rfl⟩:=h
          exact⟨this.len,this.same⟩
        · cases h
      split at h
      · rename_i st he;exact key _ _ he h
      · rename_i st he;exact key _ _ he h
      · cases h
    · cases h
  · cases h
theorem Df {f:Ψ→(Nat→Option Blk)→Option (Ψ × Option (Nat × Blk))}{args:Ψ}{hp hp':Θ}{rs:Ψ}{wr:Ω}(h:vt f args hp=some (rs,hp',wr)):hp.length≤hp'.length∧∀ i,i<hp.length→i ∉ wr→hp'[i]?=hp[i]?:=by
  unfold vt at h
  split at h
  · simp only[OiE,PiE] at h
    obtain⟨_,rfl,rfl⟩:=h
    exact⟨Nat.le_refl _,fun _ _ _=>rfl⟩
  · rename_i rs0 id b _
    cases e:id.blt hp.length with
    | false=>rw[e] at h;cases h
    | true =>
      rw[e] at h
      simp only[cond_true,OiE,PiE] at h
      obtain⟨_,rfl,rfl⟩:=h
      rw[jt]
      exact⟨by simp,fun i _ hi=>by rw[getElem?_set_ne (by intro e;subst e;simp at hi)]⟩
  · cases h
theorem Ta (k:Nat):fS (runK C k):=by
  induction k with
  | zero=>intro g args hp rs hp' wr h;simp[runK] at h
  | succ k ih =>
    intro g args hp rs hp' wr h
    simp only[runK] at h
    split at h
    · exact Df h
    · exact QJ ih k g args hp rs hp' wr h
structure vc (C:Cfg):Prop where
  tab:gq C.P C.T
  orders:C.P.follows .mixedOrders=true
  funcs:∀ g fn,C.F g=some fn→C.P.funcs[g]?=some fn∧∀ (args:Array Value) (w:World),(callFunc g args).run C.P w = .ok (.enter g args) w
  draws:∀ g fn c,C.F g=some fn→fn.body=some c→gF c=true
  orc:uU C
  sorc:∀ g f,C.sorc g=some f→SOk C.P g f
variable {H:Nat→Prop} {w0:World} {σ0:List Addr} {hp0:Θ}
def Ex.BD:Ex→Exit
  | .normal=>.normal
  | .ret=>.ret
  | .exit id=>.exit id
theorem Fl {P:Program}{c:Code}{f:St→Option (Ex × St)}
    (hf:∀ (st:St) (e:Ex) (st':St) (a:Act) (w:World),f st=some (e,st')→Good H w0 σ0 hp0 st a w→∀ Q:Exit→Act→World→Prop,(∀ a' w',Good H w0 σ0 hp0 st' a' w'→Q e.BD a' w')→c.wp P Q a w) :
    ∀ (n:Nat) (st:St) (e:Ex) (st':St) (a:Act) (w:World),cb f n st=some (e,st')→Good H w0 σ0 hp0 st a w→∀ Q:Exit→Act→World→Prop,(∀ a' w',Good H w0 σ0 hp0 st' a' w'→Q e.BD a' w')→Code.rounds P c Q n a w
  | 0,_,_,_,_,_,h,_,_,_=>by simp[cb] at h
  | n+1,st,e,st',a,w,h,hg,Q,hQ=>by
    rw[rounds_succ]
    unfold cb at h
    split at h
    · rename_i st1 h1
      exact hf _ _ _ _ _ h1 hg _ fun a' w' hg'=>Fl hf n _ _ _ _ _ h hg' Q hQ
    · rename_i hn
      refine hf _ _ _ _ _ h hg _ fun a' w' hg' => ?_
      have:=hQ a' w' hg'
      cases e with
      | normal=>exact absurd h (hn st')
      | ret=>exact this
      | exit id=>exact this
theorem WX (hC:vc C)(hR:uT C run)(hE:fS run){n:Nat} : ∀ (c:Code) (st:St) (e:Ex) (st':St) (a:Act) (w:World),gF c=true→ae C run n c st=some (e,st')→Good H w0 σ0 hp0 st a w →
    ∀ Q:Exit→Act→World→Prop,(∀ a' w',Good H w0 σ0 hp0 st' a' w'→Q e.BD a' w')→c.wp C.P Q a w:=by
  intro c
  induction c with
  | region id ops dr =>
    intro st e st' a w hd h hg Q hQ
    unfold ae at h
    split at h
    · rename_i st1 h1
      simp only[OiE,PiE] at h
      obtain⟨rfl,rfl⟩:=h
      exact aaR hC.orders hC.tab hR hE hC.orc (fun hdr=>by subst hdr;simpa [gF] using hd) h1 hg hQ
    · cases h
  | seq x y iha ihb =>
    intro st e st' a w hd h hg Q hQ
    simp only[gF,Bool.and_eq_true] at hd
    unfold ae at h
    refine wp_seq ?_
    split at h
    · rename_i st1 h1
      exact iha _ _ _ _ _ hd.1 h1 hg _ fun a' w' hg'=>ihb _ _ _ _ _ hd.2 h hg' Q hQ
    · rename_i hn
      refine iha _ _ _ _ _ hd.1 h hg _ fun a' w' hg' => ?_
      have:=hQ a' w' hg'
      cases e with
      | normal=>exact absurd h (hn st')
      | ret=>exact this
      | exit id=>exact this
  | cond c x y iha ihb =>
    intro st e st' a w hd h hg Q hQ
    simp only[gF,Bool.and_eq_true] at hd
    unfold ae at h
    obtain⟨σ,S,hf,stp,hdef⟩:=id hg
    have hv:=hf.eval c
    split at h
    · rename_i e1
      rw[e1] at hv
      exact wp_cond_true hv.lv (iha _ _ _ _ _ hd.1 h hg Q hQ)
    · rename_i e1
      rw[e1] at hv
      exact wp_cond_false hv.lv (ihb _ _ _ _ _ hd.2 h hg Q hQ)
    · cases h
  | block id b ih =>
    intro st e st' a w hd h hg Q hQ
    unfold ae at h
    refine wp_block ?_
    split at h
    · rename_i i st1 h1
      refine ih _ _ _ _ _ hd h1 hg _ fun a' w' hg' => ?_
      simp only[Ex.BD,Exit.inBlock]
      split at h
      · rename_i hi
        simp only[OiE,PiE] at h
        obtain⟨rfl,rfl⟩:=h
        rw[if_pos hi];exact hQ _ _ hg'
      · rename_i hi
        simp only[OiE,PiE] at h
        obtain⟨rfl,rfl⟩:=h
        rw[if_neg hi];exact hQ _ _ hg'
    · rename_i hn
      refine ih _ _ _ _ _ hd h hg _ fun a' w' hg' => ?_
      have:=hQ a' w' hg'
      cases e with
      | normal=>exact this
      | ret=>exact this
      | exit id=>exact absurd h (hn id st')
  | loop b ih =>
    intro st e st' a w hd h hg Q hQ
    unfold ae at h
    exact wp_loop_rounds n (Fl (fun st e st' a w h hg Q hQ=>ih st e st' a w hd h hg Q hQ) n st e st' a w h hg Q hQ)
  | scope b ih =>
    intro st e st' a w hd h hg Q hQ
    unfold ae at h
    refine wp_scope_straight (ih _ _ _ _ _ hd h hg _ fun a' w' hg' => ?_)
    have:=hQ a' w' hg'
    cases e <;> exact this
  | skip =>
    intro st e st' a w hd h hg Q hQ
    unfold ae at h
    simp only[OiE,PiE] at h;obtain⟨rfl,rfl⟩:=h
    exact wp_skip (hQ _ _ hg)
  | label l =>
    intro st e st' a w hd h hg Q hQ
    unfold ae at h
    simp only[OiE,PiE] at h;obtain⟨rfl,rfl⟩:=h
    exact wp_label (hQ _ _ hg)
  | exit id =>
    intro st e st' a w hd h hg Q hQ
    unfold ae at h
    simp only[OiE,PiE] at h;obtain⟨rfl,rfl⟩:=h
    exact wp_exit (hQ _ _ hg)
  | ret =>
    intro st e st' a w hd h hg Q hQ
    unfold ae at h
    simp only[OiE,PiE] at h;obtain⟨rfl,rfl⟩:=h
    exact wp_ret (hQ _ _ hg)
  | _ =>
    intro st e st' a w hd h hg Q hQ
    unfold ae at h
    cases h
def aaP (tmps:Array Value):ResultVar→Sem Value
  | .tmp t=>pure (tmps.getD t undef)
  | .cell a t=>do loadVar t (← asAddr (tmps.getD a undef))
theorem Ti (tmps:Array Value)(t:Tmp):aaP tmps (.tmp t)=pure (tmps.getD t undef):=rfl
theorem NT (tmps:Array Value)(a:Tmp)(t:TypeId):aaP tmps (.cell a t)=(do loadVar t (← asAddr (tmps.getD a undef))):=rfl
theorem Hy (fn:Func)(tmps:Array Value):results fn tmps=(do
    let vs ← fn.results.mapM (aaP tmps)
    pure (if h:vs.size=1 then vs[0] else .tuple vs)):=rfl
theorem E6 {P:Program}{f:ResultVar→Sem Value}{x:ResultVar}{l:List ResultVar}{u:Value}{us:List Value}{w:World}(h:(f x).run P w = .ok u w)(h':(l.mapM f).run P w = .ok us w):((x::l).mapM f).run P w = .ok (u::us) w:=by
  rw[mapM_cons]
  simp only[Sem.run_bind,h,Result.andThen_ok,h',Sem.run_pure]
theorem BQ {P:Program}{T:Tab}(hT:gq P T){w:World}{σ:List Addr}{hp:Θ}(S:Sim w H σ hp){fr:Ψ}{tmps:Array Value}(hf:oL w (hot H σ hp) σ (aV hp) fr tmps) :
    ∀ (l:List ResultVar) (rs:Ψ),aX T fr hp l=some rs →
      ∃ us,(l.mapM (aaP tmps)).run P w = .ok us w∧Vs w (hot H σ hp) σ (aV hp) rs us
  | [],rs,h=>by
    simp only[aX,OiE] at h
    subst h
    exact⟨[],by simp,rfl,fun k p v h=>by simp at h⟩
  | .tmp t::l,rs,h=>by
    simp only[aX] at h
    split at h
    · rename_i l' e
      simp only[OiE] at h
      subst h
      obtain⟨us,h1,h2⟩:=BQ hT S hf l l' e
      refine⟨tmps.getD t undef::us,E6 (by rw[Ti];rfl) h1,by simp[h2.1],fun k p v h3 h4 => ?_⟩
      · cases k with
        | zero=>simp at h3 h4;subst h3;subst h4;simpa using hf.nth t
        | succ k=>exact h2.2 k p v (by simpa using h3) (by simpa using h4)
    · cases h
  | .cell a t::l,rs,h=>by
    simp only[aX] at h
    split at h
    · rename_i cs ids e0
      split at h
      · rename_i x l' e e'
        simp only[OiE] at h
        subst h
        obtain⟨us,h1,h2⟩:=BQ hT S hf l l' e'
        obtain⟨ad,e1,hA⟩:=Bo S e0 (hf.nth a)
        obtain⟨u,h5,h6⟩:=Az hT e hA
        refine⟨u::us,E6 (by rw[NT,e1];simp[asAddr,h5]) h1,by simp[h2.1],fun k p v h3 h4 => ?_⟩
        · cases k with
          | zero=>simp at h3 h4;subst h3;subst h4;exact h6
          | succ k=>exact h2.2 k p v (by simpa using h3) (by simpa using h4)
      · cases h
    · cases h
theorem tt:∀ (n:Nat) (l:Ψ),(entry n l).length=l.length+(n - l.length)
  | 0,l=>by simp[entry]
  | n+1,[]=>by simp[entry,tt n []]
  | n+1,a::l=>by simp[entry,tt n l];omega
theorem tu:∀ (n:Nat) (l:Ψ) (k:Nat) (p:PV),(entry n l)[k]?=some p→(k<l.length∧l[k]?=some p)∨(l.length≤k∧p = .sc undef)
  | 0,l,k,p,h=>.inl ⟨cN h,h⟩
  | n+1,[],k,p,h=>by
    cases k with
    | zero=>simp[entry] at h;exact .inr ⟨by simp,h.symm⟩
    | succ k =>
      simp[entry] at h
      rcases tu n [] k p h with ⟨h1,_⟩| ⟨_,h2⟩
      · simp at h1
      · exact .inr ⟨by simp,h2⟩
  | n+1,a::l,k,p,h=>by
    cases k with
    | zero=>simp[entry] at h;exact .inl ⟨by simp,by simp[h]⟩
    | succ k =>
      simp[entry] at h
      rcases tu n l k p h with ⟨h1,h2⟩| ⟨h1,h2⟩
      · exact .inl ⟨by simp;omega,by simpa using h2⟩
      · exact .inr ⟨by simp;omega,h2⟩
theorem YN (hC:vc C)(hR:uT C run)(hE:fS run)(n:Nat):uT C (sk C run n):=by
  intro g args hp rs hp' wr h w H σ vs S hvs
  unfold sk at h
  split at h
  · rename_i fn hfn
    split at h
    · rename_i c hc
      obtain⟨hf1,hf2⟩:=hC.funcs g fn hfn
      have hd:=hC.draws g fn c hfn hc
      unfold js
      have hcall:=hf2 vs.toArray w
      rw[hcall]
      dsimp only
      have hgood:Good H w σ hp ⟨entry fn.ntmps args,hp,[]⟩ { tmps:=vs.toArray++Array.replicate (fn.ntmps - vs.toArray.size) undef,defers:=[] } w:=by
        refine⟨σ,S,⟨?_,fun k p v h1 h2 => ?_⟩,Step.refl _ _ _ _,rfl⟩
        · simp[tt,hvs.1]
        · rcases tu _ _ _ _ h1 with ⟨h3,h4⟩| ⟨h3,rfl⟩
          · refine hvs.2 k p v h4 ?_
            rw[Array.getElem?_append_left (by simpa [hvs.1] using h3)] at h2
            simpa using h2
          · rw[Array.getElem?_append_right (by simpa [hvs.1] using h3)] at h2
            obtain⟨hlt,h2⟩:=Array.getElem?_eq_some_iff.1 h2
            simp at h2
            subst h2
            exact .sc undef
      have key:∀ e st',(e = .normal∨e = .ret)→ae C run n c ⟨entry fn.ntmps args,hp,[]⟩=some (e,st')→(match aX C.T st'.fr st'.hp fn.results.toList with | some rs=>some (rs,st'.hp,st'.wr) | none=>none)=some (rs,hp',wr) →
          Calls C.P g vs.toArray w fun e w''=>∃ v,e = .returned v∧∃ σ' us,v=BP us∧Vs w'' (hot H σ' hp') σ' (aV hp') rs us∧Sim w'' H σ' hp'∧Step w (cQ σ hp) σ (aV hp) w'' (cQ σ' hp') σ' (aV hp'):=fun e st' hex he h=>by
        split at h
        · rename_i rs' er
          simp only[OiE,PiE] at h
          obtain⟨rfl,rfl,rfl⟩:=h
          refine calls_of_wp hf1 hc (WX hC hR hE c _ _ _ _ _ hd he hgood _ fun a' w' hg' => ?_)
          obtain⟨σ',S',hf',stp,hdef⟩:=hg'
          obtain⟨us,h1,h2⟩:=BQ hC.tab S' hf' _ _ er
          have hres:(results fn a'.tmps).run C.P w' = .ok (BP us) w':=by
            rw[Hy,Array.mapM_eq_mapM_toList]
            simp only[bind_map_left,Sem.run_bind,h1,Result.andThen_ok,Sem.run_pure]
            congr 1
            match us with
            | []=>rfl
            | [u]=>rfl
            | u::u2::us=>simp[BP]
          rcases hex with rfl | rfl
          · exact⟨hdef,_,hres,_,rfl,σ',us,rfl,h2,S',stp⟩
          · exact⟨hdef,_,hres,_,rfl,σ',us,rfl,h2,S',stp⟩
        · cases h
      split at h
      · rename_i st he;exact key _ _ (.inl rfl) he h
      · rename_i st he;exact key _ _ (.inr rfl) he h
      · cases h
    · cases h
  · cases h
theorem aaF (hC:vc C)(k:Nat):uT C (runK C k):=by
  induction k with
  | zero=>intro g args hp rs hp' wr h;simp[runK] at h
  | succ k ih =>
    intro g args hp rs hp' wr h
    simp only[runK] at h
    split at h
    · rename_i f hf
      exact hC.sorc g f hf args hp rs hp' wr h
    · exact YN hC ih (Ta k) k g args hp rs hp' wr h
end
def Spec (P:Program)(g:FuncId)(f:Ψ→Option Ψ):Prop :=
 ∀ args rs,f args=some rs→bV args=true→bV rs=true∧∀ (w:World) (M:Nat→Prop) (vs:List Value),(∀ b,M b→b<w.heap.size)→Vs w M [] NoL args vs →
  js P g vs.toArray w fun v w'=>∃ us,v=BP us∧Vs w' M [] NoL rs us∧Old w w'
theorem uU.of {C:Cfg}(h:∀ g,Spec C.P g (C.orc g)):uU C:=fun g args rs h1 h2=>h g args rs h1 h2
theorem Spec.no (P:Program)(g:FuncId):Spec P g fun _=>none:=fun _ _ h=>by cases h
theorem Spec.or {P:Program}{g:FuncId}{f f':Ψ→Option Ψ}(h:Spec P g f)(h':Spec P g f'):Spec P g fun a=>match f a with | some r=>some r | none=>f' a:=by
 intro args rs hf hi
 dsimp only at hf
 cases hfa:f args with
 | some r=>rw[hfa] at hf;cases hf;exact h args _ hfa hi
 | none=>rw[hfa] at hf;exact h' args rs hf hi
def Wk (p q:PV):Prop:=q.cH=true∧∀ (w:World) (M:Nat→Prop) (v:Value),V w M [] NoL p v→V w M [] NoL q v
def WkL:Ψ→Ψ→Prop
 | [],[]=>True
 | p::ps,q::qs=>Wk p q∧WkL ps qs
 | _,_=>False
theorem Wk.refl {p:PV}(h:p.cH=true):Wk p p:=⟨h,fun _ _ _ h=>h⟩
theorem Wk.any (p:PV):Wk p .any:=⟨rfl,fun _ _ v _=>.any v⟩
theorem Wk.imm (n:Nat)(x:Bool)(cs:Ψ):Wk (.imm n x cs) (.imm n false cs) :=
 ⟨rfl,fun w M v h=>by
  cases h with
  | nil=>exact .nil false
  | imm _ _ _ a cap g h1 h2 h3 h4=>exact .imm n false cs a cap g h1 (fun h=>by cases h) h3 h4⟩
theorem Wk.nil (x:Bool):Wk (.sc (.slice none 0 0)) (.imm 0 x []):=⟨rfl,fun w M v h=>by cases h with | sc=>exact .nil x⟩
theorem WkL.get:∀ {ps qs:Ψ},WkL ps qs→ps.length=qs.length∧∀ (k:Nat) p q,ps[k]?=some p→qs[k]?=some q→Wk p q
 | [],[],_=>⟨rfl,fun k p q h=>by simp at h⟩
 | p::ps,q::qs,h=>by
  obtain⟨h1,h2⟩:=h
  obtain⟨h3,h4⟩:=WkL.get h2
  refine⟨by simp[h3],fun k p' q' e1 e2 => ?_⟩
  cases k with
  | zero=>simp at e1 e2;subst e1;subst e2;exact h1
  | succ k=>exact h4 k p' q' (by simpa using e1) (by simpa using e2)
 | [],_::_,h=>h.elim
 | _::_,[],h=>h.elim
theorem WkL.cH:∀ {ps qs:Ψ},WkL ps qs→bV qs=true
 | [],[],_=>rfl
 | p::ps,q::qs,h=>by
  obtain⟨h1,h2⟩:=h
  simp only[bV,Bool.and_eq_true]
  exact⟨h1.1,h2.cH⟩
 | [],_::_,h=>h.elim
 | _::_,[],h=>h.elim
theorem WkL.refl:∀ {ps:Ψ},bV ps=true→WkL ps ps
 | [],_=>trivial
 | p::ps,h=>by
  simp only[bV,Bool.and_eq_true] at h
  exact⟨Wk.refl h.1,WkL.refl h.2⟩
theorem Wk.agg {ps qs:Ψ}(h:WkL ps qs):Wk (.agg ps) (.agg qs):=by
 obtain⟨h1,h2⟩:=h.get
 refine⟨by simp only[PV.cH];exact h.cH,fun w M v hv => ?_⟩
 cases hv with
 | agg _ vs g1 g2 =>
  refine .agg qs vs (by rw[← h1];exact g1) fun k c v e1 e2 => ?_
  have hk:k<ps.length:=by rw[h1];exact cN e1
  exact (h2 k _ c (List.getElem?_eq_getElem hk) e1).2 w M v (g2 k _ v (List.getElem?_eq_getElem hk) e2)
theorem Spec.bS {C:Cfg}(hC:vc C){g:FuncId}{f:Ψ→Option Ψ}
  (h:∀ args rs,f args=some rs→∃ k rs1 hp1 wr rs2 ids,runK C k g args []=some (rs1,hp1,wr)∧bw (snap hp1 bq) rs1=some (rs2,ids)∧WkL rs2 rs):Spec C.P g f:=by
 intro args rs hf hi
 obtain⟨k,rs1,hp1,wr,rs2,ids,hr,hs,hw⟩:=h args rs hf
 refine⟨hw.cH,fun w M vs hM hvs => ?_⟩
 have S0:Sim w M [] []:=La hM
 have hvs0:Vs w (hot M [] []) [] (aV []) args vs:=⟨hvs.1,fun k c u h1 h2=>(hvs.2 k c u h1 h2).idf (fun b _ hb=>by
  rcases hb with hb | ⟨i,a,_,h2,_⟩
  ·exact hb
  ·simp at h2) (eH hi h1)⟩
 refine (aaF hC k g args [] rs1 hp1 wr hr w M [] vs S0 hvs0).mono fun v w' ⟨σ',us,hu,hvs',hs',st⟩ => ?_
 obtain⟨h1,h2⟩:=Dg hs' hs (fun x hx=>hx) hvs'
 obtain⟨h3,h4⟩:=hw.get
 refine⟨us,hu,⟨by rw[← h3];exact h1.1,fun k c u e1 e2 => ?_⟩,st.os,st.tape,st.output,st.size,fun b hb=>st.same b hb (fun ⟨i,a,_,h2,_⟩=>by simp at h2)⟩
 have hk:k<rs2.length:=by rw[h3];exact cN e1
 refine (h4 k _ c (List.getElem?_eq_getElem hk) e1).2 w' M u ?_
 exact (h1.2 k _ u (List.getElem?_eq_getElem hk) e2).idf (fun b _ hb=>.inl hb) (eH h2 (List.getElem?_eq_getElem hk))
theorem Spec.agf {C:Cfg}(hC:vc C){g:FuncId}{args rs:Ψ}{eqv:Ψ→Bool}(heq:∀ a,eqv a=true→a=args)
  (h:∃ k rs1 hp1 wr rs2 ids,runK C k g args []=some (rs1,hp1,wr)∧bw (snap hp1 bq) rs1=some (rs2,ids)∧WkL rs2 rs):Spec C.P g fun a=>bif eqv a then some rs else .none :=
 Spec.bS hC fun a r hr=>by
  cases he:eqv a with
  | false=>rw[he] at hr;cases hr
  | true =>
   rw[he] at hr
   simp only[cond_true,OiE] at hr
   subst hr
   rw[heq a he]
   exact h
inductive Tr (α:Type) where
 | leaf
 | node (k:Nat) (v:α) (l r:Tr α)
def Tr.get {α:Type} : Tr α→Nat→Option α
 | .leaf,_=>none
 | .node k v l r,n=>bif n.beq k then some v else bif n.blt k then l.get n else r.get n
def Tr.All {α:Type}(p:Nat→α→Prop):Tr α→Prop
 | .leaf=>True
 | .node k v l r=>p k v∧l.All p∧r.All p
def Tr.all {α:Type}(p:α→Bool):Tr α→Bool
 | .leaf=>true
 | .node _ v l r=>p v && l.all p && r.all p
theorem Tr.vL {α:Type}{p:Nat→α→Prop} : ∀ (t:Tr α),t.All p→∀ n v,t.get n=some v→p n v
 | .leaf,_,n,v,h=>by simp[Tr.get] at h
 | .node k u l r,hp,n,v,h=>by
  obtain⟨h1,h2,h3⟩:=hp
  simp only[Tr.get] at h
  cases e:n.beq k with
  | true =>
   simp only[e,cond_true,OiE] at h
   have:=Nat.eq_of_beq_eq_true e
   subst this;subst h;exact h1
  | false =>
   simp only[e,cond_false] at h
   cases e2:n.blt k with
   | true=>simp only[e2,cond_true] at h;exact Tr.vL l h2 n v h
   | false=>simp only[e2,cond_false] at h;exact Tr.vL r h3 n v h
theorem Tr.x9 {α:Type}{p:α→Bool} : ∀ (t:Tr α),t.all p=true→∀ n v,t.get n=some v→p v=true
 | .leaf,_,n,v,h=>by simp[Tr.get] at h
 | .node k u l r,hp,n,v,h=>by
  simp only[Tr.all,Bool.and_eq_true] at hp
  obtain⟨⟨h1,h2⟩,h3⟩:=hp
  simp only[Tr.get] at h
  cases e:n.beq k with
  | true =>
   simp only[e,cond_true,OiE] at h
   subst h;exact h1
  | false =>
   simp only[e,cond_false] at h
   cases e2:n.blt k with
   | true=>simp only[e2,cond_true] at h;exact Tr.x9 l h2 n v h
   | false=>simp only[e2,cond_false] at h;exact Tr.x9 r h3 n v h
def YO (f:Func):Bool :=
 match f.body with
 | some c=>gF c
 | none=>true
structure ZI where
 P:Program
 F:Tr Func
 T:Tr TypeInfo
 shared:FuncId→Bool
structure KN (B:ZI):Prop where
 tab:B.T.All fun n i=>B.P.types[n]?=some i
 orders:B.P.follows .mixedOrders=true
 funcs:B.F.All fun n f=>B.P.funcs[n]?=some f∧∀ (args:Array Value) (w:World),(callFunc n args).run B.P w = .ok (.enter n args) w
 draws:B.F.all YO=true
def ZI.cfg (B:ZI)(orc:FuncId→Ψ→Option Ψ):Cfg:={ P:=B.P,T:=B.T.get,F:=B.F.get,shared:=B.shared,orc:=orc }
theorem ac3 {P:Program}{n:Nat}{i:TypeInfo}(h:P.types[n]?=some i):P.info? n=some i:=by
 unfold Tables.info?
 rw[if_pos (Array.getElem?_eq_some_iff.1 h).1]
 exact h
theorem KN.cfg {B:ZI}(h:KN B){orc:FuncId→Ψ→Option Ψ}(ho:∀ g,Spec B.P g (orc g)):vc (B.cfg orc) where
 tab:=fun t i e=>ac3 (Tr.vL _ h.tab t i e)
 orders:=h.orders
 funcs:=fun g fn e=>Tr.vL _ h.funcs g fn e
 draws:=fun g fn c e hb=>by
  have:=Tr.x9 _ h.draws g fn e
  unfold YO at this
  rw[hb] at this
  exact this
 orc:=uU.of ho
 sorc:=fun _ _ h=>by cases h
def hiN:IntKind→Nat
 | .i8=>127 | .i16=>32767 | .i32=>2147483647 | .i64=>9223372036854775807
 | .u8=>255 | .u16=>65535 | .u32=>4294967295 | .u64=>18446744073709551615
theorem Rz {k:IntKind}{n:Nat}(h:Nat.ble n (hiN k)=true):bA k (Int.ofNat n)=Int.ofNat n:=by
 have h:=Nat.le_of_ble_eq_true h
 have:decide (loK k≤Int.ofNat n)=true∧decide (Int.ofNat n≤hiK k)=true:=by
  constructor <;> apply decide_eq_true <;> cases k <;> simp only[loK,hiK,hiN,Int.ofNat_eq_natCast] at h ⊢ <;> omega
 unfold bA
 rw[this.1,this.2];rfl
def val:Ω→Nat
 | []=>0
 | a::l=>a+1000000000*val l
def jJ:Nat→Nat→Ω
 | 0,_=>[]
 | k+1,n=>if n=0 then [] else n % 1000000000::jJ k (n / 1000000000)
def aJ (n:Nat):Ω:=jJ (n.log2+1) n
def Dok (l:Ω):Prop:=∀ x ∈ l,x<1000000000
def fi (l:Ω):Ω:=(l.reverse.dropWhile (· == 0)).reverse
theorem Dok.nil:Dok []:=fun _ h=>by cases h
theorem Dok.cons {a:Nat}{l:Ω}(h:a<1000000000)(h':Dok l):Dok (a::l):=fun x hx=>by
 rcases mem_cons.1 hx with rfl | hx
 ·exact h
 ·exact h' x hx
theorem Dok.head {a:Nat}{l:Ω}(h:Dok (a::l)):a<1000000000:=h a (by simp)
theorem Dok.tail {a:Nat}{l:Ω}(h:Dok (a::l)):Dok l:=fun x hx=>h x (by simp[hx])
theorem Dok.append {l m:Ω}(h:Dok l)(h':Dok m):Dok (l++m):=fun x hx=>by
 rcases mem_append.1 hx with hx | hx
 ·exact h x hx
 ·exact h' x hx
theorem Dok.left {l m:Ω}(h:Dok (l++m)):Dok l:=fun x hx=>h x (by simp[hx])
theorem Dok.right {l m:Ω}(h:Dok (l++m)):Dok m:=fun x hx=>h x (by simp[hx])
theorem Dok.get {l:Ω}(h:Dok l){i:Nat}(hi:i<l.length):l[i]<1000000000:=h _ (getElem_mem hi)
theorem Dok.set {l:Ω}(h:Dok l)(i:Nat){y:Nat}(hy:y<1000000000):Dok (l.set i y):=fun x hx=>by
 rcases mem_or_eq_of_mem_set hx with hx | rfl
 ·exact h x hx
 ·exact hy
theorem Dok.KP (n:Nat):Dok (List.replicate n 0):=fun x hx=>by
 rw[(mem_replicate.1 hx).2];omega
theorem Dok.take {l:Ω}(h:Dok l)(n:Nat):Dok (l.take n):=fun x hx=>h x (mem_of_mem_take hx)
theorem Dok.drop {l:Ω}(h:Dok l)(n:Nat):Dok (l.drop n):=fun x hx=>h x (mem_of_mem_drop hx)
theorem ik (l m:Ω):val (l++m)=val l+1000000000 ^ l.length*val m:=by
 induction l with
 | nil=>simp[val]
 | cons a l ih =>
  simp only[cons_append,val,ih,length_cons,Nat.pow_succ]
  grind
theorem dF (l:Ω)(a:Nat):val (l++[a])=val l+1000000000 ^ l.length*a:=by
 rw[ik];simp[val]
theorem oO (n:Nat):val (List.replicate n 0)=0:=by
 induction n with
 | zero=>rfl
 | succ n ih=>simp[replicate_succ,val,ih]
theorem qH (l:Ω)(i y:Nat)(hi:i<l.length):val (l.set i y)+l[i]*1000000000 ^ i=val l+y*1000000000 ^ i:=by
 induction l generalizing i with
 | nil=>simp at hi
 | cons a l ih =>
  cases i with
  | zero=>simp[val];omega
  | succ i =>
   have:=ih i (by simpa using hi)
   simp only[set_cons_succ,val,getElem_cons_succ,Nat.pow_succ]
   grind
theorem gS (l:Ω)(i:Nat)(hi:i<l.length):val (l.take (i+1))=val (l.take i)+l[i]*1000000000 ^ i:=by
 rw[take_succ_eq_append_getElem hi,dF,length_take,Nat.min_eq_left (by omega),Nat.mul_comm]
theorem eW {l:Ω}(h:Dok l):val l<1000000000 ^ l.length:=by
 induction l with
 | nil=>simp[val]
 | cons a l ih =>
  have h1:=ih h.tail
  have h2:=h.head
  simp only[val,length_cons,Nat.pow_succ]
  omega
theorem lN (l:Ω)(i:Nat)(hi:i≤l.length):val l=val (l.take i)+1000000000 ^ i*val (l.drop i):=by
 have h:=ik (l.take i) (l.drop i)
 rw[take_append_drop,length_take,Nat.min_eq_left hi] at h
 exact h
theorem om (n:Nat)(h:n≠0):(n / 1000000000).log2+1≤n.log2∨n / 1000000000=0:=by
 by_cases h0:n / 1000000000=0
 ·exact .inr h0
 ·left
  have h1:2 ^ (n / 1000000000).log2≤n / 1000000000:=Nat.log2_self_le h0
  have h2:2 ^ ((n / 1000000000).log2+1)≤n:=by
   rw[Nat.pow_succ];omega
  exact (Nat.le_log2 h).2 h2
theorem oz:∀ (k j n:Nat),n.log2<k→n.log2<j→jJ k n=jJ j n
 | 0,j,n,h,_=>by omega
 | k+1,0,n,_,h=>by omega
 | k+1,j+1,n,h,h'=>by
  unfold jJ
  by_cases hn:n=0
  ·rw[if_pos hn,if_pos hn]
  ·rw[if_neg hn,if_neg hn]
   congr 1
   rcases om n hn with h1 | h1
   ·exact oz k j _ (by omega) (by omega)
   ·rw[h1]
    cases k <;> cases j <;> simp[jJ]
theorem fq:aJ 0=[]:=rfl
theorem dZ {n:Nat}(h:n≠0):aJ n=n % 1000000000::aJ (n / 1000000000):=by
 unfold aJ
 rw[jJ,if_neg h]
 congr 1
 rcases om n h with h1 | h1
 ·exact oz _ _ _ (by omega) (by omega)
 ·rw[h1]
  cases n.log2 <;> simp[jJ]
theorem tw {a:Nat}{l:Ω}(ha:a<1000000000)(h:a+1000000000*val l≠0):aJ (a+1000000000*val l)=a::aJ (val l):=by
 rw[dZ h,Nat.add_mul_mod_self_left,Nat.mod_eq_of_lt ha,Nat.add_mul_div_left _ _ (by omega),Nat.div_eq_of_lt ha,Nat.zero_add]
theorem bX (n:Nat):val (aJ n)=n:=by
 induction n using Nat.strongRecOn with
 | _ n ih =>
  by_cases h:n=0
  ·subst h;rfl
  ·rw[dZ h,val,ih _ (by omega)]
   omega
theorem bU (n:Nat):Dok (aJ n):=by
 induction n using Nat.strongRecOn with
 | _ n ih =>
  by_cases h:n=0
  ·subst h;exact Dok.nil
  ·rw[dZ h]
   exact (ih _ (by omega)).cons (by omega)
theorem eA (l:Ω)(a:Nat):fi (l++[a])=if a=0 then fi l else l++[a]:=by
 unfold fi
 rw[reverse_append]
 by_cases h:a=0 <;> simp[h]
theorem jA {P:Ω→Prop}(h0:P [])(h1:∀ l a,P l→P (l++[a])):∀ l,P l:=by
 intro l
 have:∀ m:Ω,P m.reverse:=by
  intro m
  induction m with
  | nil=>exact h0
  | cons a m ih=>rw[reverse_cons];exact h1 _ a ih
 have:=this l.reverse
 rwa [reverse_reverse] at this
theorem sA (l:Ω):val (fi l)=val l:=by
 induction l using jA with
 | h0=>rfl
 | h1 l a ih =>
  rw[eA]
  by_cases h:a=0
  ·rw[if_pos h,ih,h,dF,Nat.mul_zero,Nat.add_zero]
  ·rw[if_neg h]
theorem we {l:Ω}(h:Dok l):Dok (fi l):=by
 induction l using jA with
 | h0=>exact Dok.nil
 | h1 l a ih =>
  rw[eA]
  by_cases h':a=0
  ·rw[if_pos h'];exact ih h.left
  ·rw[if_neg h'];exact h
def Top (l:Ω):Prop:=∀ m a,l=m++[a]→a≠0
theorem lP (l:Ω):Top (fi l):=by
 induction l using jA with
 | h0=>intro m a h;simp[fi] at h
 | h1 l a ih =>
  rw[eA]
  by_cases h:a=0
  ·rw[if_pos h];exact ih
  ·rw[if_neg h]
   intro m b e
   have:=append_inj' e rfl
   simp at this
   rw[← this.2];exact h
theorem Top.tail {a:Nat}{l:Ω}(h:Top (a::l)):Top l:=fun m b e=>h (a::m) b (by rw[e];rfl)
theorem Top.qI {l:Ω}(h:Top l)(hl:l≠[]):val l≠0:=by
 obtain⟨m,a,rfl⟩:∃ m a,l=m++[a]:=⟨l.dropLast,l.getLast hl,(dropLast_concat_getLast hl).symm⟩
 have ha:=h m a rfl
 rw[dF]
 have:0<1000000000 ^ m.length*a:=Nat.mul_pos (Nat.pow_pos (by omega)) (by omega)
 omega
theorem kD {l:Ω}(h:Dok l)(ht:Top l):aJ (val l)=l:=by
 induction l with
 | nil=>rfl
 | cons a l ih =>
  rw[val,tw h.head,ih h.tail ht.tail]
  exact ht.qI (by simp)
theorem eB {l:Ω}(h:Dok l):fi l=aJ (val l):=by
 rw[← sA l,kD (we h) (lP l)]
theorem jI (n:Nat):Top (aJ n):=by
 have h:=eB (bU n)
 rw[bX] at h
 rw[← h]
 exact lP _
theorem cT {n:Nat} : 0<(aJ n).length ↔ n≠0:=by
 by_cases h:n=0
 ·subst h;simp[fq]
 ·rw[dZ h];simp[h]
theorem yr {n:Nat}(h:aJ n=[]):n=0:=by
 rw[← bX n,h];rfl
theorem df {n k:Nat}(h:n<1000000000 ^ k):(aJ n).length≤k:=by
 by_cases h0:aJ n=[]
 ·rw[h0];simp
 ·obtain⟨m,a,e⟩:∃ m a,aJ n=m++[a]:=⟨(aJ n).dropLast,(aJ n).getLast h0,(dropLast_concat_getLast h0).symm⟩
  have ha:=jI n m a e
  have hv:=bX n
  rw[e,dF] at hv
  rw[e,length_append,length_singleton]
  have h1:1000000000 ^ m.length≤n:=by
   have:1000000000 ^ m.length*1≤1000000000 ^ m.length*a:=Nat.mul_le_mul_left _ (by omega)
   omega
  have h2:1000000000 ^ m.length<1000000000 ^ k:=by omega
  exact Nat.lt_of_not_le fun h3=>absurd (Nat.pow_le_pow_right (n:=1000000000) (by omega) h3) (by omega)
theorem fD (n:Nat):n<1000000000 ^ (aJ n).length:=by
 have:=eW (bU n)
 rwa [bX] at this
def dg (n:Nat):PV:=.sc (.int .u32 n)
def aP (l:Ω):PV:=.imm l.length false (l.map dg)
def wh (neg:Bool)(l:Ω):PV:=.agg [.sc (.bool neg),aP l]
def bz:Int→Bool
 | .ofNat _=>false
 | .negSucc _=>true
def br (z:Int):PV:=wh (bz z) (aJ z.natAbs)
def bN (z:Int):PV:=.sc (.int .i64 z)
mutual
def canon:PV→PV
 | .sc v=>match v with
  | .slice none 0 0=>.imm 0 false []
  | v=>.sc v
 | .imm n _ cs=>.imm n false (aK cs)
 | .agg cs=>.agg (aK cs)
 | v=>v
def aK:Ψ→Ψ
 | []=>[]
 | c::cs=>canon c::aK cs
end
theorem kG:∀ (cs:Ψ) (k:Nat),(aK cs)[k]?=(cs[k]?).map canon
 | [],k=>by simp[aK]
 | c::cs,0=>by simp[aK]
 | c::cs,k+1=>by simpa [aK] using kG cs k
theorem lG:∀ (cs:Ψ),(aK cs).length=cs.length
 | []=>rfl
 | c::cs=>by simp[aK,lG cs]
mutual
theorem F3:(p:PV)→p.cH=true→Wk p (canon p)
 | .any,h=>by rw[canon];exact Wk.refl h;all_goals (intros;contradiction)
 | .sc v,h=>by
  unfold canon
  split
  ·exact Wk.nil false
  ·exact Wk.refl h
 | .imm n x cs,h=>by
  unfold canon
  refine⟨rfl,fun w M v hv => ?_⟩
  cases hv with
  | nil=>exact .nil false
  | imm _ _ _ a cap g h1 h2 h3 h4 =>
   refine .imm n false _ a cap g h1 (fun h=>by cases h) (fun k c hk => ?_) (fun k c hk => ?_)
   ·rw[kG] at hk
    obtain⟨c',h5,rfl⟩:=Option.map_eq_some_iff.1 hk
    obtain⟨h6,h7,h8,h9⟩:=h3 k c' h5
    exact⟨h6,(me cs k c' h5 h7).1,h8,h9⟩
   ·rw[kG] at hk
    obtain⟨c',h5,rfl⟩:=Option.map_eq_some_iff.1 hk
    obtain⟨h6,h7,h8,h9⟩:=h3 k c' h5
    exact (me cs k c' h5 h7).2 w M _ (h4 k c' h5)
 | .agg cs,h=>by
  unfold canon
  have hi:bV cs=true:=by simpa [PV.cH] using h
  refine⟨?_,fun w M v hv => ?_⟩
  ·simp only[PV.cH]
   exact lH cs hi
  ·cases hv with
   | agg _ vs g1 g2 =>
    refine .agg _ vs (by rw[lG];exact g1) fun k c v e1 e2 => ?_
    rw[kG] at e1
    obtain⟨c',h5,rfl⟩:=Option.map_eq_some_iff.1 e1
    exact (me cs k c' h5 (eH hi h5)).2 w M v (g2 k c' v h5 e2)
 | .own ..,h=>by simp[PV.cH] at h
 | .ptr ..,h=>by simp[PV.cH] at h
 | .iptr cs,h=>by rw[canon];exact Wk.refl h;all_goals (intros;contradiction)
 | .clos f cs,h=>by rw[canon];exact Wk.refl h;all_goals (intros;contradiction)
 | .bmet ..,h=>by simp[PV.cH] at h
 | .tup cs,h=>by rw[canon];exact Wk.refl h;all_goals (intros;contradiction)
theorem me:(cs:Ψ)→(k:Nat)→(c:PV)→cs[k]?=some c→c.cH=true→Wk c (canon c)
 | [],k,c,h,_=>by simp at h
 | d::cs,k,c,h,hc=>by
  cases k with
  | zero=>simp at h;subst h;exact F3 d hc
  | succ k=>exact me cs k c (by simpa using h) hc
theorem lH:(cs:Ψ)→bV cs=true→bV (aK cs)=true
 | [],_=>rfl
 | c::cs,h=>by
  simp only[bV,Bool.and_eq_true] at h
  simp only[aK,bV,Bool.and_eq_true]
  exact⟨(F3 c h.1).1,lH cs h.2⟩
end
theorem Spec.canon {P:Program}{g:FuncId}{f:Ψ→Option Ψ}(h:Spec P g f):Spec P g fun a=>f (aK a):=by
 intro args rs hf hi
 obtain⟨h1,h2⟩:=h (aK args) rs hf (lH args hi)
 refine⟨h1,fun w M vs hM hvs=>h2 w M vs hM ⟨by rw[lG];exact hvs.1,fun k c v e1 e2 => ?_⟩⟩
 rw[kG] at e1
 obtain⟨c',h5,rfl⟩:=Option.map_eq_some_iff.1 e1
 exact (me args k c' h5 (eH hi h5)).2 w M v (hvs.2 k c' v h5 e2)
def FR:Ψ→Option Ω
 | []=>some []
 | .sc (.int .u32 (.ofNat n))::r=>bif n.blt 1000000000 then (match FR r with
  | some l=>some (n::l)
  | none=>none) else none
 | _=>none
def ia:PV→Option Ω
 | .imm n false cs=>match FR cs with
  | some l=>bif n.beq l.length && n.blt 1000000 then some l else none
  | none=>none
 | _=>none
def vd:Ω→Bool
 | []=>true
 | [a] => !(a.beq 0)
 | _::l=>vd l
def fQ:PV→Option Int
 | .agg [.sc (.bool neg),p]=>match ia p with
  | some l=>bif vd l && l.length.blt 400000 then
    (match neg,l with
    | true,[]=>none
    | true,l=>some (Int.negOfNat (val l))
    | false,l=>some (Int.ofNat (val l)))
   else none
  | none=>none
 | _=>none
theorem Bd:∀ {cs:Ψ} {l:Ω},FR cs=some l→cs=l.map dg∧Dok l
 | [],l,h=>by simp[FR] at h;subst h;exact⟨rfl,Dok.nil⟩
 | c::cs,l,h=>by
  unfold FR at h
  split at h
  ·rename_i e;cases e
  ·rename_i n r e
   cases e
   cases hb:n.blt 1000000000 with
   | false=>rw[hb] at h;cases h
   | true =>
    rw[hb] at h
    simp only[cond_true] at h
    split at h
    ·rename_i l' e'
     simp at h;subst h
     obtain⟨h1,h2⟩:=Bd e'
     rw[h1]
     refine⟨rfl,h2.cons ?_⟩
     simpa [Nat.blt_eq] using hb
    ·cases h
  ·cases h
theorem FQ:∀ {l:Ω},Dok l→FR (l.map dg)=some l
 | [],_=>rfl
 | a::l,h=>by
  have h1:a.blt 1000000000=true:=by rw[Nat.blt_eq];exact h.head
  show FR (PV.sc (.int .u32 (Int.ofNat a))::l.map dg)=_
  simp only[FR,FQ h.tail,h1,cond_true]
theorem dx {p:PV}{l:Ω}(h:ia p=some l):p=aP l∧Dok l∧l.length<1000000:=by
 unfold ia at h
 split at h
 ·split at h
  ·rename_i n cs _ l' e
   obtain⟨h1,h2⟩:=Bd e
   cases hb:n.beq l'.length && n.blt 1000000 with
   | false=>rw[hb] at h;cases h
   | true =>
    rw[hb] at h
    simp at h
    subst h
    simp[Nat.blt_eq] at hb
    exact⟨by rw[hb.1,h1];rfl,h2,by omega⟩
  ·cases h
 ·cases h
theorem cW {l:Ω}(h:Dok l)(hl:l.length<1000000):ia (aP l)=some l:=by
 have h1:l.length.blt 1000000=true:=by rw[Nat.blt_eq];exact hl
 simp[ia,aP,FQ h,h1]
theorem nM:∀ {l:Ω},vd l=true→Top l
 | [],_=>fun m a e=>by simp at e
 | [b],h=>fun m a e=>by
  cases m with
  | nil =>
   simp at e;subst e
   cases b with
   | zero=>simp[vd] at h
   | succ b=>simp
  | cons c m=>simp at e
 | b::c::l,h=>fun m a e=>by
  cases m with
  | nil=>simp at e
  | cons d m =>
   simp only[cons_append,List.cons.injEq] at e
   exact nM (l:=c::l) (by simpa [vd] using h) m a e.2
theorem qM:∀ {l:Ω},Top l→vd l=true
 | [],_=>rfl
 | [b],h=>by
  have:=h [] b rfl
  cases b with
  | zero=>simp at this
  | succ b=>rfl
 | b::c::l,h=>by
  have:=qM h.tail
  simpa [vd] using this
theorem yk (n:Nat):br (Int.ofNat n)=wh false (aJ n):=rfl
theorem cL (z:Int):bz z=decide (z<0):=by
 cases z with
 | ofNat n=>simp[bz]
 | negSucc n=>simp[bz]
theorem FI {n:Nat}(h:n≠0):br (Int.negOfNat n)=wh true (aJ n):=by
 cases n with
 | zero=>simp at h
 | succ n=>rfl
theorem JA {p:PV}{z:Int}(h:fQ p=some z):p=br z∧(aJ z.natAbs).length<400000:=by
 unfold fQ at h
 split at h
 ·rename_i neg q
  split at h
  ·rename_i l e
   obtain⟨h1,h2,h3⟩:=dx e
   subst h1
   cases ht:vd l && l.length.blt 400000 with
   | false=>rw[ht] at h;cases h
   | true =>
    rw[ht] at h
    simp only[cond_true] at h
    simp only[Bool.and_eq_true,Nat.blt_eq] at ht
    obtain⟨ht,h3⟩:=ht
    have hd:=kD h2 (nM ht)
    split at h
    ·cases h
    ·rename_i hne
     simp only[OiE] at h
     subst h
     have hv:val l≠0:=(nM ht).qI (by intro h;exact hne h)
     refine⟨?_,?_⟩
     ·rw[FI hv,hd];rfl
     ·have:(Int.negOfNat (val l)).natAbs=val l:=Int.natAbs_negOfNat _
      rw[this,hd];exact h3
    ·simp only[OiE] at h
     subst h
     refine⟨?_,?_⟩
     ·rw[yk,hd];rfl
     ·have:(Int.ofNat (val l)).natAbs=val l:=rfl
      rw[this,hd];exact h3
  ·cases h
 ·cases h
theorem PT (z:Int)(hl:(aJ z.natAbs).length<400000):fQ (br z)=some z:=by
 have h1:=cW (bU z.natAbs) (Nat.lt_trans hl (by decide))
 have h3:(aJ z.natAbs).length.blt 400000=true:=by rw[Nat.blt_eq];exact hl
 have h2:=qM (jI z.natAbs)
 cases z with
 | ofNat n =>
  rw[yk]
  have e:(Int.ofNat n).natAbs=n:=rfl
  rw[e] at h1 h2 h3
  simp only[fQ,wh,h1,h2,h3,Bool.and_self,cond_true,bX]
 | negSucc n =>
  have e:br (Int.negSucc n)=wh true (aJ (n+1)):=rfl
  rw[e]
  have e:(Int.negSucc n).natAbs=n+1:=rfl
  rw[e] at h1 h2 h3
  have hd:aJ (n+1)=(n+1) % 1000000000::aJ ((n+1) / 1000000000):=dZ (by omega)
  simp only[fQ,wh,h1,h2,h3,Bool.and_self,cond_true]
  rw[hd]
  simp only
  rw[← hd,bX]
  rfl
theorem gi (n:Nat):(dg n).cells?=some [dg n]:=(rfl)
theorem dq (n:Nat):eo (dg n)=true:=(rfl)
theorem sT (n:Nat):rep n [dg 0]=(List.replicate n 0).map dg:=by
 induction n with
 | zero=>rfl
 | succ n ih=>simp[rep,ih,replicate_succ]
theorem adR (l:Ω)(i:Nat)(h:i<l.length):bp (l.map dg) i=dg l[i]::(l.drop (i+1)).map dg:=by
 rw[cF,← map_drop,drop_eq_getElem_cons h];rfl
theorem eM (l:Ω)(i:Nat)(h:i<l.length):(bp (l.map dg) i).head?=some (dg l[i]):=by
 rw[adR l i h];rfl
theorem jw:∀ (l:Ω) (i y:Nat),i<l.length→ca (l.map dg) i [dg y]=some ((l.set i y).map dg)
 | [],i,y,h=>by simp at h
 | a::l,0,y,h=>by simp[ca]
 | a::l,i+1,y,h=>by
  have:=jw l i y (by simpa using h)
  simp only[map_cons,ca,this,set_cons_succ]
theorem Z6 (l:Ω):bF (l.map dg) l.length=some (l.map dg):=by
 rw[dh (by simp),take_of_length_le (by simp)]
theorem Da (l:Ω):bF (bp (l.map dg) 0) (l.length*1)=some (l.map dg):=by
 rw[cF,drop_zero,Nat.mul_one,Z6]
theorem kl (hp:Θ)(d:Nat):∀ l:Ω,bw (snap hp (d+1)) (l.map dg)=some (l.map dg,[])
 | []=>rfl
 | a::l=>by
  simp only[map_cons,bw,kl hp d l]
  rfl
theorem jo:∀ l:Ω,aK (l.map dg)=l.map dg
 | []=>rfl
 | a::l=>by simp only[map_cons,aK,jo l];rfl
theorem fJ (l:Ω):canon (aP l)=aP l:=by
 simp only[aP,canon,jo]
theorem Yv (n:Bool)(l:Ω):canon (wh n l)=wh n l:=by
 simp only[wh,canon,aK,fJ]
theorem yz (z:Int):canon (br z)=br z:=Yv _ _
theorem dk (k:IntKind)(n:Nat)(h:n≤hiN k):bA k (n:Int)=Int.ofNat n:=Rz (n:=n) (Nat.ble_eq ▸ h)
def dM (b:Nat)(hp:Θ)(l:Ω)(p:PV):Prop :=
 b≤hp.length∧((l=[]∧p = .sc (.slice none 0 0))∨∃ id m,b≤id∧id<hp.length∧p = .own id 1 0 l.length false∧aL hp id=some ⟨.live,(l++m).map dg⟩)
theorem dM.nil {b:Nat}{hp:Θ}(h:b≤hp.length):dM b hp [] (.sc (.slice none 0 0)):=⟨h,.inl ⟨rfl,rfl⟩⟩
theorem dM.len {b:Nat}{hp:Θ}{l:Ω}{p:PV}(h:dM b hp l p):cX p=some l.length:=by
 rcases h.2 with ⟨rfl,rfl⟩| ⟨id,m,_,_,rfl,h⟩ <;> rfl
theorem dM.cells {b:Nat}{hp:Θ}{l:Ω}{p:PV}(h:dM b hp l p):p.cells?=some [p]:=by
 rcases h.2 with ⟨rfl,rfl⟩| ⟨id,m,_,_,rfl,h⟩ <;> rfl
theorem dM.okc {b:Nat}{hp:Θ}{l:Ω}{p:PV}(h:dM b hp l p):eo p=true:=by
 rcases h.2 with ⟨rfl,rfl⟩| ⟨id,m,_,_,rfl,h⟩ <;> rfl
theorem dM.app {b:Nat}{hp:Θ}{l:Ω}{p:PV}(h:dM b hp l p)(a:Nat)(hl:l.length<100000000) :
  ∃ p' hp' fp,cU hp 1 p 1 [dg a]=some (p',hp',fp)∧dM b hp' (l++[a]) p'∧∀ i,i<b→aL hp' i=aL hp i:=by
 obtain⟨hb,h⟩:=h
 rcases h with ⟨rfl,rfl⟩| ⟨id,m,hid,hid2,rfl,h⟩
 ·refine⟨.own hp.length 1 0 1 false,aO hp [dg a],⟨[],[hp.length],true,false⟩,by simp[cU,cS],⟨by simp[aO];omega,.inr ⟨hp.length,[],hb,by simp[aO],rfl,?_⟩⟩,fun i hi => ?_⟩
  ·rw[bH,if_pos rfl];rfl
  ·rw[bH,if_neg (by omega)]
 ·have ht:bF (bp ((l++m).map dg) 0) (l.length*1)=some (l.map dg):=by
   rw[cF,dh (by simp)]
   simp
  refine⟨.own hp.length 1 0 (l.length+1) false,aO (cg hp id ⟨.dead,[]⟩) (l.map dg++[dg a]),⟨[],[id,hp.length],true,false⟩,?_,⟨by simp[aO,bJ];omega,.inr ⟨hp.length,[],hb,by simp[aO,bJ],by simp,?_⟩⟩,fun i hi => ?_⟩
  ·simp only[cU,h]
   rw[ht]
   simp[cS]
   omega
  ·rw[bH,bJ,if_pos rfl];simp
  ·rw[bH,bJ,if_neg (by omega),cI h,if_neg (by omega)]
theorem dM.snap {b:Nat}{hp:Θ}{l:Ω}{p:PV}(h:dM b hp l p)(d:Nat):∃ q ids,Ab.snap hp (d+2) p=some (q,ids)∧Wk q (aP l)∧canon q=aP l:=by
 obtain⟨hb,h⟩:=h
 rcases h with ⟨rfl,rfl⟩| ⟨id,m,_,_,rfl,h⟩
 ·exact⟨.sc (.slice none 0 0),[],rfl,Wk.nil false,rfl⟩
 ·have ht:bF (bp ((l++m).map dg) 0) (l.length*1)=some (l.map dg):=by
   rw[cF,dh (by simp)]
   simp
  refine⟨.imm l.length false (l.map dg),[id],?_,Wk.refl rfl,fJ l⟩
  have hs:=kl hp d l
  rw[Ab.snap]
  simp only[h]
  rw[if_neg (by simp),ht]
  simp only[hs]
theorem pA {C:Cfg}{run:aw}{dr:Bool}{hp:Θ}{g:FuncId}{args args' rs:Ψ}{ids:Ω}
  (h1:C.shared g=false) (h2:bw (snap hp bq) args=some (args',ids)) (h3:C.orc g args'=some rs) (h4:rs.all eh=true) :
  bP C run dr hp g args=some (jm rs,hp,⟨ids,[],false,false⟩):=by
 unfold bP
 simp[h1,h2,h3,h4]
theorem eJ {C:Cfg}{run:aw}{dr:Bool}{hp:Θ}{g:FuncId}{args args' rs:Ψ}{ids:Ω}
  (h1:C.shared g=false) (h2:bw (snap hp bq) args=some (args',ids)) (h3:C.orc g args'=some rs) (h4:rs.all eh=false) :
  bP C run dr hp g args=some (jm rs,roB hp ids,⟨ids,ids,false,false⟩):=by
 unfold bP
 simp[h1,h2,h3,h4]
def aA:Code→Option Code
 | .loop b=>some b
 | .seq a b=>(aA a).or (aA b)
 | .block _ b=>aA b
 | .scope b=>aA b
 | .cond _ a b=>(aA a).or (aA b)
 | _=>none
def seq1:Code→Code
 | .seq a _=>a
 | c=>c
def aQ:Code→Code
 | .seq _ b=>b
 | c=>c
theorem BG {l:Ω}{n:Nat}(h:l.length=n+1):∃ l' a,l=l'++[a]∧l'.length=n:=by
 have hne:l≠[]:=by intro e;subst e;simp at h
 exact⟨l.dropLast,l.getLast hne,(dropLast_concat_getLast hne).symm,by simp[h]⟩
def bx:List (Nat × (Ψ→Option Ψ))→Nat→Ψ→Option Ψ
 | [],_=>fun _=>none
 | (n,f)::r,g=>bif g.beq n then fun a=>f (aK a) else bx r g
def dE (P:Program):List (Nat × (Ψ→Option Ψ))→Prop
 | []=>True
 | (n,f)::r=>Spec P n f∧dE P r
theorem EJ {P:Program} : ∀ {L:List (Nat × (Ψ→Option Ψ))},dE P L→∀ g,Spec P g (bx L g)
 | [],_,g=>Spec.no P g
 | (n,f)::r,h,g=>by
  unfold bx
  cases e:g.beq n with
  | true =>
   have:=Nat.eq_of_beq_eq_true e
   subst this
   exact h.1.canon
  | false=>exact EJ h.2 g
def ai:Nat→Code→Code
 | 0,c=>c
 | n+1,.seq _ b=>ai n b
 | _+1,c=>c
def bh (C:Cfg)(run:aw)(k:Nat):Nat→Code→St→Option St
 | 0,_,st=>some st
 | n+1,.seq a b,st=>match ae C run k a st with
  | some (.normal,st')=>bh C run k n b st'
  | _=>none
 | _+1,_,_=>none
theorem aY {C:Cfg}{run:aw}{k:Nat} : ∀ (n:Nat) {c:Code} {st st':St},bh C run k n c st=some st'→ae C run k c st=ae C run k (ai n c) st'
 | 0,c,st,st',h=>by simp[bh] at h;subst h;rfl
 | n+1,c,st,st',h=>by
  cases c with
  | seq a b =>
   simp only[bh] at h
   split at h
   ·rename_i st1 e
    simp only[ae,e,ai]
    exact aY n h
   ·cases h
  | _=>simp[bh] at h
theorem ar {C:Cfg}{run:aw}{k:Nat}{a b:Code}{st st':St}(h:ae C run k a st=some (.normal,st')):ae C run k (.seq a b) st=ae C run k b st':=by
 simp only[ae,h]
theorem bE {C:Cfg}{run:aw}{k i:Nat}{b:Code}{st st':St}(h:cb (ae C run k b) k st=some (.exit i,st')):ae C run k (.block i (.loop b)) st=some (.normal,st'):=by
 simp only[ae,h,if_true]
theorem fF {C:Cfg}{run:aw}{k i:Nat}{b:Code}{st st':St}(h:ae C run k b st=some (.normal,st')):ae C run k (.block i b) st=some (.normal,st'):=by
 simp only[ae,h]
theorem bT {f:St→Option (Ex × St)}{n:Nat}{st st':St}(h:f st=some (.normal,st')):cb f (n+1) st=cb f n st':=by
 simp only[cb,h]
theorem bu {f:St→Option (Ex × St)}{n i:Nat}{st st':St}(h:f st=some (.exit i,st')):cb f (n+1) st=some (.exit i,st'):=by
 simp only[cb,h]
theorem du {f:St→Option (Ex × St)}{n:Nat}{st st':St}(h:f st=some (.ret,st')):cb f (n+1) st=some (.ret,st'):=by
 simp only[cb,h]
theorem QI {C:Cfg}{run:aw}{k:Nat}{g:FuncId}{args:Ψ}{fn:Func}{c:Code}{st:St}{rs:Ψ}
  (hF:C.F g=some fn) (hb:fn.body=some c) (hx:ae C run k c ⟨entry fn.ntmps args,[],[]⟩=some (.ret,st)) (hr:aX C.T st.fr st.hp fn.results.toList=some rs) :
  sk C run k g args []=some (rs,st.hp,st.wr):=by
 simp only[sk,hF,hb,hx,hr]
theorem ba {C:Cfg}{k:Nat}{g:FuncId}{args:Ψ}{fn:Func}{c:Code}{st:St}{rs:Ψ}
  (hF:C.F g=some fn) (hb:fn.body=some c) (hx:ae C (runK C k) k c ⟨entry fn.ntmps args,[],[]⟩=some (.ret,st)) (hr:aX C.T st.fr st.hp fn.results.toList=some rs) (hs:C.sorc g=none:=by rfl) :
  runK C (k+1) g args []=some (rs,st.hp,st.wr):=by
 simp only[runK,hs]
 exact QI hF hb hx hr
theorem fG:∀ (n:Nat) (l:Ψ),l.length≤n→(entry n l).length=n
 | 0,l,h=>by simp at h;subst h;rfl
 | n+1,[],_=>by simp[entry,fG n [] (by simp)]
 | n+1,a::l,h=>by simp[entry,fG n l (by simpa using h)]
theorem bK {f:St→Option (Ex × St)}{r:Ex × St} : ∀ {n m:Nat} {st:St},cb f n st=some r→n≤m→cb f m st=some r
 | 0,m,st,h,_=>by simp[cb] at h
 | n+1,0,st,_,h=>by omega
 | n+1,m+1,st,h,hm=>by
  simp only[cb] at h ⊢
  split at h
  ·exact bK h (by omega)
  ·exact h
theorem dM.set {b:Nat}{hp:Θ}{l:Ω}{p:PV}(h:dM b hp l p)(i:Nat)(x:Blk)(hi:i<b):dM b (cg hp i x) l p:=by
 obtain⟨hb,h⟩:=h
 refine⟨by rw[bJ];exact hb,?_⟩
 rcases h with ⟨rfl,rfl⟩| ⟨id,m,h1,h2,rfl,h⟩
 ·exact .inl ⟨rfl,rfl⟩
 ·refine .inr ⟨id,m,h1,by rw[bJ];exact h2,rfl,?_⟩
  rw[jt,cV,getElem?_set_ne (by omega),← cV]
  exact h
theorem dM.out {b:Nat}{hp:Θ}{l:Ω}{p:PV}(h:dM b hp l p)(n:Bool) :
  ∃ rs ids,bw (Ab.snap hp bq) [.agg [.sc (.bool n),p]]=some (rs,ids)∧WkL rs [wh n l]:=by
 obtain⟨q,ids,h1,h2,h3⟩:=h.snap 9
 refine⟨[.agg [.sc (.bool n),q]],ids++[]++[],?_,?_⟩
 ·have:Ab.snap hp 12 (.agg [.sc (.bool n),p])=some (.agg [.sc (.bool n),q],ids++[]):=by
   rw[Ab.snap]
   simp only[bw,h1]
   rfl
  simp only[bq,bw,this]
  try simp
 ·exact⟨Wk.agg ⟨Wk.refl rfl,h2,trivial⟩,trivial⟩
theorem dM.IG {b:Nat}{hp:Θ}{l:Ω}{p:PV}(h:dM b hp l p) :
  ∃ rs ids,bw (Ab.snap hp bq) [p]=some (rs,ids)∧WkL rs [aP l]:=by
 obtain⟨q,ids,h1,h2,h3⟩:=h.snap 10
 refine⟨[q],ids++[],?_,h2,trivial⟩
 simp only[bq,bw,h1]
theorem vX {n:Nat}(h:0<n)(h':n<18446744073709551616):bA .u64 (-(n:Int))=Int.ofNat (18446744073709551616 - n):=by
 have h1:decide (loK .u64 ≤ -(n:Int))=false:=by
  apply decide_eq_false
  simp[loK];omega
 unfold bA
 rw[h1]
 simp[IntKind.wrap,IntKind.bits,IntKind.signed]
 omega
theorem cP (n:Nat)(x:Bool)(cs:Ψ):cX (.imm n x cs)=some n:=(rfl)
theorem iw (a b c n:Nat)(x:Bool):cX (.own a b c n x)=some n:=(rfl)
theorem cm (l:Ω):cX (aP l)=some l.length:=(rfl)
theorem yy (l:Ω):(aP l).cells?=some [aP l]:=(rfl)
theorem bm (cs:Ψ):(PV.agg cs).cells?=some cs:=(rfl)
theorem kE (b:Bool):(PV.sc (.bool b)).cells?=some [.sc (.bool b)]:=(rfl)
theorem P6 (a b c n:Nat)(x:Bool):(PV.own a b c n x).cells?=some [.own a b c n x]:=(rfl)
theorem bZ (l:Ω):eo (aP l)=true:=(rfl)
theorem bG (b:Bool):eo (PV.sc (.bool b))=true:=(rfl)
theorem IJ (a b c n:Nat)(x:Bool):eo (PV.own a b c n x)=true:=(rfl)
theorem fB:eo (PV.sc (.slice none 0 0))=true:=(rfl)
theorem alx (a b:Nat):((a:Int) == (b:Int))=decide (a=b):=by
 by_cases h:a=b
 ·simp[h]
 ·rw[decide_eq_false h,beq_eq_false_iff_ne];omega
theorem Gh (a b:Nat):((a:Int) != (b:Int)) = !decide (a=b):=by
 rw[bne,alx]
theorem cM (m:Nat)(h:m<9223372036854775808):bA .i64 ((m:Int) - 1)=(m:Int) - 1:=by
 unfold bA
 have h1:decide (loK .i64≤(m:Int) - 1)=true:=decide_eq_true (by simp only[loK];omega)
 have h2:decide ((m:Int) - 1≤hiK .i64)=true:=decide_eq_true (by simp only[hiK];omega)
 rw[h1,h2];rfl
theorem bD (m:Nat)(h:m<9223372036854775807):bA .i64 ((m:Int)+1)=(m:Int)+1:=by
 unfold bA
 have h1:decide (loK .i64≤(m:Int)+1)=true:=decide_eq_true (by simp only[loK];omega)
 have h2:decide ((m:Int)+1≤hiK .i64)=true:=decide_eq_true (by simp only[hiK];omega)
 rw[h1,h2];rfl
theorem bn (k:IntKind)(n:Nat):gl (.sc (.int k (n:Int)))=some n:=(rfl)
theorem jr (k:IntKind)(n:Nat):gl (.sc (.int k ((n:Int)+1)))=some (n+1):=(rfl)
theorem j9 (k:IntKind):gl (.sc (.int k 0))=some 0:=(rfl)
theorem aen (k:IntKind):gl (.sc (.int k 1))=some 1:=(rfl)
theorem iX {n:Nat}(h:n≤4294967295):n≤hiN .u32:=h
theorem dA {n:Nat}(h:n≤18446744073709551615):n≤hiN .u64:=h
theorem hiI {n:Nat}(h:n≤9223372036854775807):n≤hiN .i64:=h
theorem cO (n:Nat)(p:PV):(entry (n+1) [p]).length=n+1∧nth (entry (n+1) [p]) 0=p:=⟨fG _ _ (by simp),rfl⟩
theorem cl (n:Nat)(p q:PV):(entry (n+2) [p,q]).length=n+2∧nth (entry (n+2) [p,q]) 0=p∧nth (entry (n+2) [p,q]) 1=q:=⟨fG _ _ (by simp),rfl,rfl⟩
theorem agW (n:Nat):((n:Int)≤2)=(n≤2):=by apply propext;omega
def cZ:Nat→Nat→Ω
 | 0,_=>[]
 | n+1,v=>v % 1000000000::cZ n (v / 1000000000)
theorem dn:∀ n v,(cZ n v).length=n
 | 0,_=>rfl
 | n+1,v=>by simp[cZ,dn n]
theorem gD:∀ n v,Dok (cZ n v)
 | 0,_=>Dok.nil
 | n+1,v=>(gD n _).cons (by omega)
theorem fo:∀ n v,v<1000000000 ^ n→val (cZ n v)=v
 | 0,v,h=>by simp at h;subst h;rfl
 | n+1,v,h=>by
  rw[cZ,val,fo n _ (by rw[Nat.pow_succ] at h;omega)]
  omega
theorem nY:∀ {l:Ω},Dok l→cZ l.length (val l)=l
 | [],_=>rfl
 | a::l,h=>by
  have ha:=h.head
  rw[length_cons,cZ,val,Nat.add_mul_mod_self_left,Nat.mod_eq_of_lt ha,Nat.add_mul_div_left _ _ (by omega),Nat.div_eq_of_lt ha,Nat.zero_add,nY h.tail]
theorem Dok.qj {l:Ω}{n v:Nat}(h:Dok l)(hl:l.length=n)(hv:val l=v):l=cZ n v:=by
 subst hl;subst hv;exact (nY h).symm
def dS (a b:Nat):Int:=if a<b then -1 else if a=b then 0 else 1
theorem lM {a:Ω}{m:Nat}(hm:m<a.length):val a=val (a.take m)+(a[m]*1000000000 ^ m+1000000000 ^ (m+1)*val (a.drop (m+1))):=by
 rw[lN a (m+1) (by omega),gS a m hm]
 omega
theorem lL {a b:Ω}{m:Nat}(ha:Dok a)(hma:m<a.length)(hmb:m<b.length)(hd:a.drop (m+1)=b.drop (m+1))(h:a[m]<b[m]):val a<val b:=by
 rw[lM hma,lM hmb,hd]
 have h1:=eW (ha.take m)
 rw[length_take,Nat.min_eq_left (by omega)] at h1
 have h2:a[m]*1000000000 ^ m+1000000000 ^ m≤b[m]*1000000000 ^ m:=by
  have:=Nat.mul_le_mul_right (1000000000 ^ m) (show a[m]+1≤b[m] from h)
  rw[Nat.add_mul,Nat.one_mul] at this
  exact this
 omega
theorem cD (l:Ω)(i:Nat)(h:l.length≤i):val (l.take i)=val l:=by
 rw[take_of_length_le h]
theorem dm (k:IntKind)(a b s:Nat)(h:s=a+b)(hs:s≤hiN k):bA k ((a:Int)+(b:Int))=(s:Int):=by
 subst h
 exact (by simpa using dk k (a+b) hs)
theorem wrapM (k:IntKind)(a b s:Nat)(h:s=a*b)(hs:s≤hiN k):bA k ((a:Int)*(b:Int))=(s:Int):=by
 subst h
 exact (by simpa using dk k (a*b) hs)
theorem jx (k:IntKind)(a b s:Nat)(h:a=b+s)(hs:s≤hiN k):bA k ((a:Int) - (b:Int))=(s:Int):=by
 have:=dk k s hs
 rw[show ((a:Int) - (b:Int))=(s:Int) by omega];exact this
theorem aeA (k:IntKind)(a b s:Nat)(h:s=a / b)(hs:s≤hiN k):bA k ((a:Int) / (b:Int))=(s:Int):=by
 subst h
 exact (by simpa using dk k (a / b) hs)
theorem RV (a b s:Nat)(h:s=a % b):(a:Int).tmod (b:Int)=(s:Int):=by
 subst h;exact (Int.ofNat_tmod a b).symm
def at0 (l:Ω)(i:Nat):Nat:=l[i]?.getD 0
theorem dc {l:Ω}{i:Nat}(h:i<l.length):at0 l i=l[i]:=by simp[at0,h]
theorem jq {l:Ω}{i:Nat}(h:l.length≤i):at0 l i=0:=by simp[at0,h]
theorem cn {l:Ω}(h:Dok l)(i:Nat):at0 l i<1000000000:=by
 by_cases hi:i<l.length
 ·rw[dc hi];exact h.get hi
 ·rw[jq (by omega)];omega
theorem cu (l:Ω)(i:Nat):val (l.take (i+1))=val (l.take i)+at0 l i*1000000000 ^ i:=by
 by_cases hi:i<l.length
 ·rw[dc hi,gS l i hi]
 ·rw[jq (by omega),cD l _ (by omega),cD l _ (by omega)];simp
theorem cq (k:IntKind)(s:Nat)(hs:s≤hiN k):bA k (s:Int)=(s:Int):=dk k s hs
theorem Wj {T:Tab}{t e:Nat}(hu:und T t=some (.slice e))(hs:de T e=some 1)(hz:dU T e=some [dg 0])(n:Nat) :
  fY T t 1 [(0,dg n)]=some (1,[dg n]):=by
 simp[fY,hu,hs,hz,rep,dH,gi,ca]
theorem nU (hp:Θ)(n:Nat):fW hp 1 (.imm 1 true [dg n])=some (1,[dg n],[]):=by simp[fW]
theorem jU (n:Nat):bV [dg n]=true:=(rfl)
theorem gU (n:Nat):PV.sc (.int .u32 (n:Int))=dg n:=(rfl)
theorem Yu (s:Nat):((s:Int) / 1000000000)=((s / 1000000000:Nat):Int):=by omega
theorem jO (k:IntKind)(a s:Nat)(h:s=a / 1000000000)(hs:s≤hiN k):bA k ((a:Int) / 1000000000)=(s:Int):=by
 subst h
 rw[Yu];exact dk k _ hs
theorem lQ (a s:Nat)(h:s=a % 1000000000):(a:Int).tmod 1000000000=(s:Int):=by
 subst h
 rw[Int.tmod_eq_emod_of_nonneg (by omega)];omega
theorem mg (k:IntKind)(a s:Nat)(h:s=a*1000000000)(hs:s≤hiN k):bA k ((a:Int)*1000000000)=(s:Int):=by
 have e:((a:Int)*1000000000)=(s:Int):=by omega
 rw[e];exact dk k _ hs
theorem cC {x y:Nat}(h:x≤y):(aJ x).length≤(aJ y).length:=df (Nat.lt_of_le_of_lt h (fD y))
theorem lE {l:Ω}{m y:Nat}(h:m<l.length):(l.set m y).drop m=y::l.drop (m+1):=by
 rw[drop_eq_getElem_cons (by simpa using h)]
 simp[drop_set]
theorem iA (l:Ω)(m:Nat)(h:m<l.length):val (l.drop m)=at0 l m+1000000000*val (l.drop (m+1)):=by
 rw[drop_eq_getElem_cons h,val,dc h]
theorem FK {V V' Q R a b:Nat}(hb:0<b)(hV:V'=a+1000000000*V)(hQ:Q=V / b)(hR:R=V % b) :
  (R*1000000000+a) / b+1000000000*Q=V' / b∧(R*1000000000+a) % b=V' % b:=by
 have e:V'=(R*1000000000+a)+b*(1000000000*Q):=by
  have h:=Nat.div_add_mod V b
  rw[← hQ,← hR] at h
  rw[hV,← h]
  grind
 rw[e,Nat.add_mul_div_left _ _ hb,Nat.add_mul_mod_self_left]
 exact⟨rfl,rfl⟩
def GI (top v1 v2 u2 g rest:Nat):Prop:=g*v1+rest=top∧∀ q,q<1000000000→q*(v1*1000000000+v2)≤top*1000000000+u2→q≤g
def GF (top v1 v2 u2 g:Nat):Prop:=g<1000000000∧g*(v1*1000000000+v2)≤top*1000000000+u2∧∀ q,q<1000000000→q*(v1*1000000000+v2)≤top*1000000000+u2→q≤g
theorem GI.init {top v1 v2 u2:Nat}(hv:0<v1)(hu:u2<1000000000):GI top v1 v2 u2 (top / v1) (top % v1):=by
 refine⟨by rw[Nat.mul_comm];exact Nat.div_add_mod _ _,fun q hq h => ?_⟩
 rw[Nat.le_div_iff_mul_le hv]
 have:q*(v1*1000000000+v2)=q*v1*1000000000+q*v2:=by rw[Nat.mul_add,Nat.mul_assoc]
 rw[this] at h
 omega
theorem WN (g v1 v2:Nat):g*(v1*1000000000+v2)=g*v1*1000000000+g*v2:=by rw[Nat.mul_add,Nat.mul_assoc]
theorem GI.step {top v1 v2 u2 g rest:Nat}(h:GI top v1 v2 u2 g rest)(hc:1000000000≤g∨rest*1000000000+u2<g*v2):0<g∧GI top v1 v2 u2 (g - 1) (rest+v1):=by
 obtain⟨h1,h2⟩:=h
 have hg:0<g:=by
  rcases hc with hc | hc
  ·omega
  ·cases g with
   | zero=>simp at hc
   | succ g=>omega
 refine⟨hg,?_,fun q hq h => ?_⟩
 ·obtain⟨g',rfl⟩:∃ g',g=g'+1:=⟨g - 1,by omega⟩
  rw[Nat.add_mul,Nat.one_mul] at h1
  simp only[Nat.add_sub_cancel]
  omega
 ·have h3:=h2 q hq h
  rcases hc with hc | hc
  ·omega
  ·rcases Nat.lt_or_ge q g with h4 | h4
   ·omega
   ·have e:q=g:=by omega
    subst e
    rw[WN] at h
    omega
theorem GI.stop {top v1 v2 u2 g rest:Nat}(h:GI top v1 v2 u2 g rest)(hc:g<1000000000)(hc2:g*v2≤rest*1000000000+u2):GF top v1 v2 u2 g:=by
 refine⟨hc,?_,h.2⟩
 have:=h.1
 rw[WN]
 omega
theorem GI.brk {top v1 v2 u2 g rest:Nat}(h:GI top v1 v2 u2 g rest)(hr:1000000000≤rest)(ht:top≤v1*1000000000+999999999)(hv:v2<1000000000):GF top v1 v2 u2 g:=by
 have hg:g<1000000000:=by
  rcases Nat.lt_or_ge g 1000000000 with h' | h'
  ·exact h'
  ·have h1:=h.1
   have:=Nat.mul_le_mul_right v1 h'
   rw[Nat.mul_comm 1000000000 v1] at this
   omega
 refine h.stop hg ?_
 have:g*v2≤999999999*999999999:=Nat.mul_le_mul (by omega) (by omega)
 omega
theorem B8 {U V T3 V2 P ulow vlow g:Nat}(hU:U=T3*P+ulow)(hul:ulow<P)(hV:V=V2*P+vlow)(hvl:vlow<P)(hVB:1000000000*P≤V)(hUV:U<V*1000000000)(hg:g<1000000000)
  (hg1:g*V2≤T3) (hg2:∀ q,q<1000000000→q*V2≤T3→q≤g):g=U / V∨g=U / V+1:=by
 have hV0:0<V:=by
  have:0<P:=by omega
  omega
 have hq1:U / V<1000000000:=Nat.div_lt_of_lt_mul hUV
 have hdm:=Nat.div_add_mod U V
 have hmod:=Nat.mod_lt U hV0
 generalize U / V=q at *
 generalize U % V=r at *
 have hqg:q≤g:=by
  refine hg2 q hq1 ?_
  have h1:q*V2*P<(T3+1)*P:=by
   have h2:q*V2*P≤V*q:=by
    rw[hV,Nat.add_mul,Nat.mul_comm (V2*P) q,← Nat.mul_assoc];exact Nat.le_add_right _ _
   rw[Nat.add_mul,Nat.one_mul]
   omega
  exact Nat.le_of_lt_succ (Nat.lt_of_mul_lt_mul_right h1)
 have hgV:g*V<U+V:=by
  have h1:g*V2*P≤T3*P:=Nat.mul_le_mul_right _ hg1
  have h2:g*vlow≤999999999*P:=Nat.mul_le_mul (by omega) (by omega)
  have h3:g*V=g*V2*P+g*vlow:=by rw[hV,Nat.mul_add,Nat.mul_assoc]
  omega
 rcases Nat.lt_or_ge g (q+2) with h | h
 ·omega
 ·have h1:(q+2)*V≤g*V:=Nat.mul_le_mul_right _ h
  rw[Nat.add_mul,Nat.mul_comm q V] at h1
  omega
def msS (u v g bo:Nat):Nat:=bo+g*v+(999999999 - u)
def msX (u v g bo:Nat):Nat:=999999999 - msS u v g bo % 1000000000
def msB (u v g bo:Nat):Nat:=msS u v g bo / 1000000000
theorem aeQ {u v g bo:Nat}(hu:u<1000000000):u+msB u v g bo*1000000000=msX u v g bo+bo+g*v:=by
 unfold msX msB
 have h1:msS u v g bo=bo+g*v+(999999999 - u):=rfl
 generalize msS u v g bo=s at *
 generalize g*v=p at *
 omega
theorem IQ (u v g bo:Nat):msX u v g bo<1000000000:=by unfold msX;omega
theorem agy {u v g bo:Nat}(hu:u<1000000000)(hv:v<1000000000)(hb:bo≤g):msB u v g bo≤g:=by
 have h1:=aeQ (v:=v) (g:=g) (bo:=bo) hu
 have h2:=IQ u v g bo
 have h3:g*v≤g*999999999:=Nat.mul_le_mul_left _ (by omega)
 generalize msB u v g bo=b at *
 generalize msX u v g bo=x at *
 generalize g*v=p at *
 omega
theorem acu {u v g bo p:Nat}(hp:p=g*v)(hu:u<1000000000)(hg:g<1000000000)(hb:bo≤g) :
  (bo+p % 1000000000≤u∧msX u v g bo=u - (bo+p % 1000000000)∧msB u v g bo=p / 1000000000) ∨
  (u<bo+p % 1000000000∧bo+p % 1000000000≤u+1000000000∧msX u v g bo=u+1000000000 - (bo+p % 1000000000)∧msB u v g bo=p / 1000000000+1) ∨
  (u+1000000000<bo+p % 1000000000∧msX u v g bo=u+2000000000 - (bo+p % 1000000000)∧msB u v g bo=p / 1000000000+2):=by
 unfold msX msB
 have h1:msS u v g bo=bo+p+(999999999 - u):=by rw[hp];rfl
 generalize msS u v g bo=s at *
 clear hp
 omega
theorem tL (u:Ω)(j i x:Nat)(h:j+i<u.length):val (((u.set (j+i) x).drop j).take (i+1))=val ((u.drop j).take i)+x*1000000000 ^ i:=by
 have e:(u.set (j+i) x).drop j=(u.drop j).set i x:=by
  rw[drop_set,if_neg (by omega)]
  congr 1
  omega
 rw[e,cu]
 congr 1
 ·congr 1
  rw[take_set_of_le (by omega)]
 ·congr 1
  unfold at0
  rw[getElem?_set_self (by simp;omega)]
  rfl
theorem gu (u:Ω)(j i:Nat):val ((u.drop j).take (i+1))=val ((u.drop j).take i)+at0 u (j+i)*1000000000 ^ i:=by
 rw[cu]
 congr 2
 unfold at0
 rw[getElem?_drop]
structure MS (u v c:Ω) (j g i bo:Nat):Prop where
 len:c.length=u.length
 ok:Dok c
 low:c.take j=u.take j
 high:c.drop (j+i)=u.drop (j+i)
 le:bo≤g
 eq:val ((u.drop j).take i)+bo*1000000000 ^ i=val ((c.drop j).take i)+g*val (v.take i)
theorem MS.init {u v:Ω}(hu:Dok u)(j g:Nat):MS u v u j g 0 0:=⟨rfl,hu,rfl,rfl,by omega,by simp[Ab.val]⟩
theorem MS.at {u v c:Ω}{j g i bo:Nat}(h:MS u v c j g i bo):at0 c (j+i)=at0 u (j+i):=by
 have h1:at0 c (j+i)=at0 (c.drop (j+i)) 0:=by simp[at0]
 have h2:at0 u (j+i)=at0 (u.drop (j+i)) 0:=by simp[at0]
 rw[h1,h2,h.high]
theorem MS.step {u v c:Ω}{j g i bo:Nat}(h:MS u v c j g i bo)(hu:Dok u)(hv:Dok v)(hl:j+i<u.length) :
  MS u v (c.set (j+i) (msX (at0 u (j+i)) (at0 v i) g bo)) j g (i+1) (msB (at0 u (j+i)) (at0 v i) g bo):=by
 have hx:=cn hu (j+i)
 refine⟨by simp[h.len],h.ok.set _ (IQ _ _ _ _),?_,?_,agy hx (cn hv i) h.le,?_⟩
 ·rw[take_set_of_le (by omega),h.low]
 ·rw[show j+(i+1)=j+i+1 by omega,drop_set_of_lt (by omega),← drop_drop,h.high,drop_drop]
 ·have h1:=aeQ (v:=at0 v i) (g:=g) (bo:=bo) hx
  have h2:=h.eq
  rw[tL _ _ _ _ (by rw[h.len];exact hl),gu,cu]
  generalize at0 u (j+i)=d at *
  generalize at0 v i=e at *
  generalize msX d e g bo=x at *
  generalize msB d e g bo=b at *
  have h3:(d+b*1000000000)*1000000000 ^ i=(x+bo+g*e)*1000000000 ^ i:=by rw[h1]
  rw[Nat.pow_succ,Nat.mul_add,← Nat.mul_assoc g]
  simp only[Nat.add_mul] at h3
  rw[show b*(1000000000 ^ i*1000000000)=b*1000000000*1000000000 ^ i by rw[Nat.mul_comm (1000000000 ^ i),Nat.mul_assoc]]
  omega
structure AB (u v c:Ω) (j i cy:Nat):Prop where
 len:c.length=u.length
 ok:Dok c
 low:c.take j=u.take j
 high:c.drop (j+i)=u.drop (j+i)
 le:cy≤1
 eq:val ((u.drop j).take i)+val (v.take i)=val ((c.drop j).take i)+cy*1000000000 ^ i
theorem AB.init {u v:Ω}(hu:Dok u)(j:Nat):AB u v u j 0 0:=⟨rfl,hu,rfl,rfl,by omega,by simp[Ab.val]⟩
theorem AB.at {u v c:Ω}{j i cy:Nat}(h:AB u v c j i cy):at0 c (j+i)=at0 u (j+i):=by
 have h1:at0 c (j+i)=at0 (c.drop (j+i)) 0:=by simp[at0]
 have h2:at0 u (j+i)=at0 (u.drop (j+i)) 0:=by simp[at0]
 rw[h1,h2,h.high]
theorem AB.step {u v c:Ω}{j i cy:Nat}(h:AB u v c j i cy)(hu:Dok u)(hv:Dok v)(hl:j+i<u.length) :
  AB u v (c.set (j+i) ((at0 u (j+i)+at0 v i+cy) % 1000000000)) j (i+1) ((at0 u (j+i)+at0 v i+cy) / 1000000000):=by
 have hx:=cn hu (j+i)
 have hy:=cn hv i
 have hc:=h.le
 refine⟨by simp[h.len],h.ok.set _ (Nat.mod_lt _ (by omega)),?_,?_,by omega,?_⟩
 ·rw[take_set_of_le (by omega),h.low]
 ·rw[show j+(i+1)=j+i+1 by omega,drop_set_of_lt (by omega),← drop_drop,h.high,drop_drop]
 ·have h2:=h.eq
  rw[tL _ _ _ _ (by rw[h.len];exact hl),gu,cu]
  generalize at0 u (j+i)=d at *
  generalize at0 v i=e at *
  have h1:d+e+cy=(d+e+cy) % 1000000000+(d+e+cy) / 1000000000*1000000000:=by omega
  generalize (d+e+cy) % 1000000000=x at *
  generalize (d+e+cy) / 1000000000=b at *
  have h3:(d+e+cy)*1000000000 ^ i=(x+b*1000000000)*1000000000 ^ i:=by rw[h1]
  rw[Nat.pow_succ]
  simp only[Nat.add_mul] at h3
  rw[show b*(1000000000 ^ i*1000000000)=b*1000000000*1000000000 ^ i by rw[Nat.mul_comm (1000000000 ^ i),Nat.mul_assoc]]
  omega
theorem BK {c:Ω}(h:Dok c)(j n:Nat):val ((c.drop j).take n)<1000000000 ^ n:=by
 refine Nat.lt_of_lt_of_le (eW ((h.drop j).take n)) (Nat.pow_le_pow_right (by omega) ?_)
 rw[length_take];omega
theorem EZ {un Ul R r g V bo Pn:Nat}(hR:R<Pn)(hr:r<Pn)(h1:Ul+bo*Pn=R+g*V)(h2:un*Pn+Ul=g*V+r):bo=un∧R=r:=by
 generalize g*V=p at *
 have h3:un*Pn+R=bo*Pn+r:=by omega
 rcases Nat.lt_trichotomy un bo with h | h | h
 ·have:=Nat.mul_le_mul_right Pn (show un+1≤bo from h)
  rw[Nat.add_mul,Nat.one_mul] at this
  omega
 ·subst h
  exact⟨rfl,by omega⟩
 ·have:=Nat.mul_le_mul_right Pn (show bo+1≤un from h)
  rw[Nat.add_mul,Nat.one_mul] at this
  omega
theorem LM {un Ul R r q V bo Pn:Nat}(hR:R<Pn)(hr:r<V)(hV:V<Pn)(h1:Ul+bo*Pn=R+(q+1)*V)(h2:un*Pn+Ul=q*V+r):bo=un+1∧R+V=Pn+r:=by
 rw[Nat.add_mul,Nat.one_mul] at h1
 generalize q*V=p at *
 have h3:un*Pn+(R+V)=bo*Pn+r:=by omega
 rcases Nat.lt_trichotomy (un+1) bo with h | h | h
 ·have:=Nat.mul_le_mul_right Pn (show un+2≤bo from h)
  rw[Nat.add_mul] at this
  omega
 ·subst h
  rw[Nat.add_mul,Nat.one_mul] at h3
  exact⟨rfl,by omega⟩
 ·have:=Nat.mul_le_mul_right Pn (show bo≤un by omega)
  omega
theorem ah1 {R V r R' cy Pn:Nat}(hR:R'<Pn)(hr:r<V)(hV:V<Pn)(h1:R+V=Pn+r)(h2:R+V=R'+cy*Pn)(hc:cy≤1):R'=r:=by
 have:cy=0∨cy=1:=by omega
 rcases this with h | h <;> subst h <;> omega
structure LI (A V n L:Nat) (u q:Ω) (c:Nat):Prop where
 ul:u.length=L
 uok:Dok u
 lt:val u<V*1000000000 ^ c
 ql:q.length+n=L
 qok:Dok q
 eq:A=V*(1000000000 ^ c*val (q.drop c))+val u
theorem oP (u:Ω)(j:Nat):val u=val (u.take j)+1000000000 ^ j*val (u.drop j):=by
 rcases Nat.lt_or_ge u.length j with hl | hl
 ·rw[take_of_length_le (Nat.le_of_lt hl),drop_eq_nil_of_le (Nat.le_of_lt hl)];simp[val]
 ·exact lN u _ hl
theorem LI.seg {A V n L:Nat}{u q:Ω}{j:Nat}(h:LI A V n L u q (j+1))(hV:V<1000000000 ^ n) :
  val u=val (u.take j)+1000000000 ^ j*val ((u.drop j).take (n+1))∧val (u.drop (j+n+1))=0∧val ((u.drop j).take (n+1))<V*1000000000:=by
 have h1:=oP u (j+n+1)
 have h2:val u<1000000000 ^ (j+n+1):=by
  refine Nat.lt_of_lt_of_le h.lt (?_:V*1000000000 ^ (j+1)≤1000000000 ^ (j+n+1))
  rw[show j+n+1=n+(j+1) from (Nat.add_right_comm j n 1).trans (Nat.add_comm _ _),Nat.pow_add 1000000000 n (j+1)]
  exact Nat.mul_le_mul_right _ (Nat.le_of_lt hV)
 have h3:val (u.drop (j+n+1))=0:=by
  rcases Nat.eq_zero_or_pos (val (u.drop (j+n+1))) with h | h
  ·exact h
  ·have h0:=Nat.mul_le_mul_left (1000000000 ^ (j+n+1)) h
   rw[Nat.mul_one] at h0
   exact absurd (Nat.le_trans h0 (Nat.le_trans (Nat.le_add_left _ _) (Nat.le_of_eq h1.symm))) (Nat.not_le_of_lt h2)
 have h4:=oP u j
 have h5:val (u.drop j)=val ((u.drop j).take (n+1)):=by
  have:=oP (u.drop j) (n+1)
  rw[drop_drop,← Nat.add_assoc,h3,Nat.mul_zero,Nat.add_zero] at this
  exact this
 rw[h5] at h4
 refine⟨h4,h3,?_⟩
 have h6:=h.lt
 rw[h4,Nat.pow_succ,Nat.mul_comm (1000000000 ^ j) 1000000000,← Nat.mul_assoc] at h6
 have h7:val ((u.drop j).take (n+1))*1000000000 ^ j<V*1000000000*1000000000 ^ j:=by
  rw[Nat.mul_comm (val _)]
  exact Nat.lt_of_le_of_lt (Nat.le_add_left _ _) h6
 exact Nat.lt_of_mul_lt_mul_right h7
theorem LI.next {A V n L:Nat}{u q u':Ω}{j:Nat}(h:LI A V n L u q (j+1))(hV:V<1000000000 ^ n)(hV0:0<V)(hl:j+n<L)(hl':u'.length=L)(hok:Dok u')(hlow:u'.take j=u.take j)(hhigh:u'.drop (j+n+1)=u.drop (j+n+1))
  (htop:at0 u' (j+n)=0) (hseg:val ((u'.drop j).take n)=val ((u.drop j).take (n+1)) % V) (hd:val ((u.drop j).take (n+1)) / V<1000000000) :
  LI A V n L u' (q.set j (val ((u.drop j).take (n+1)) / V)) j:=by
 obtain⟨h1,h2,h3⟩:=h.seg hV
 have e1:val u'=val (u.take j)+1000000000 ^ j*(val ((u.drop j).take (n+1)) % V):=by
  rw[lN u' j (by omega),hlow]
  congr 2
  have h4:n≤(u'.drop j).length:=by rw[length_drop];omega
  rw[lN (u'.drop j) n h4,hseg,drop_drop]
  have h5:val (u'.drop (j+n))=0:=by
   rw[iA u' (j+n) (by omega),htop,hhigh,h2]
  rw[h5];simp
 have hdm:=Nat.div_add_mod (val ((u.drop j).take (n+1))) V
 have hm:=Nat.mod_lt (val ((u.drop j).take (n+1))) hV0
 have hq:=h.ql
 generalize val ((u.drop j).take (n+1)) / V=d at *
 generalize val ((u.drop j).take (n+1)) % V=r at *
 generalize val ((u.drop j).take (n+1))=U at *
 have hlo:val (u.take j)<1000000000 ^ j:=by
  refine Nat.lt_of_lt_of_le (eW (h.uok.take j)) (Nat.pow_le_pow_right (by omega) ?_)
  rw[length_take];omega
 refine⟨hl',hok,?_,by simp;omega,h.qok.set _ hd,?_⟩
 ·rw[e1]
  have h5:1000000000 ^ j*(r+1)≤1000000000 ^ j*V:=Nat.mul_le_mul_left _ hm
  rw[Nat.mul_add,Nat.mul_one] at h5
  rw[Nat.mul_comm V]
  clear e1 h1 h2 h3 h
  generalize 1000000000 ^ j*V=a1 at *
  generalize 1000000000 ^ j*r=a2 at *
  generalize 1000000000 ^ j=a3 at *
  omega
 ·rw[h.eq,e1,h1,lE (by omega),val]
  generalize val (u.take j)=lo at *
  generalize val (q.drop (j+1))=X at *
  rw[Nat.pow_succ]
  clear h h1 h2 h3 hlow hhigh htop hlo e1 hV
  generalize 1000000000 ^ j=Pj at *
  subst hdm
  have a1:Pj*(V*d+r)=V*(Pj*d)+Pj*r:=by
   rw[Nat.mul_add,← Nat.mul_assoc,Nat.mul_comm Pj V,Nat.mul_assoc]
  have a2:V*(Pj*(d+1000000000*X))=V*(Pj*d)+V*(Pj*1000000000*X):=by
   rw[Nat.mul_add Pj,Nat.mul_add V,Nat.mul_assoc Pj]
  rw[a1,a2]
  omega
theorem LI.init {a b k n la:Nat}{u:Ω}(hu:val u=k*a)(hok:Dok u)(hl:u.length=la+1)(ha:a<1000000000 ^ la)(hb:1000000000 ^ n≤b*1000000000)(hk:0<k)(hn:n≤la+1) :
  LI (k*a) (k*b) n (la+1) u (List.replicate (la+1 - n) 0) (la+1 - n):=by
 refine⟨hl,hok,?_,by simp;omega,Dok.KP _,?_⟩
 ·rw[hu,Nat.mul_assoc]
  refine Nat.mul_lt_mul_of_pos_left ?_ hk
  refine Nat.lt_of_mul_lt_mul_right (a:=1000000000) ?_
  rw[Nat.mul_right_comm]
  refine Nat.lt_of_lt_of_le ?_ (Nat.mul_le_mul_right _ hb)
  rw[← Nat.pow_add,show n+(la+1 - n)=la+1 by omega,Nat.pow_succ]
  exact Nat.mul_lt_mul_of_pos_right ha (by omega)
 ·rw[drop_eq_nil_of_le (by simp),hu];simp[val]
theorem LI.done {a b k n L:Nat}{u q:Ω}(h:LI (k*a) (k*b) n L u q 0)(hk:0<k)(hb:0<b):val q=a / b∧val u=k*(a % b):=by
 have h1:=h.eq
 have h2:=h.lt
 simp only[Nat.pow_zero,Nat.mul_one,Nat.one_mul,drop_zero] at h1 h2
 have hkb:0<k*b:=Nat.mul_pos hk hb
 constructor
 ·rw[← Nat.mul_div_mul_left a b hk,h1,Nat.mul_add_div hkb,Nat.div_eq_of_lt h2,Nat.add_zero]
 ·rw[← Nat.mul_mod_mul_left,h1,Nat.mul_add_mod,Nat.mod_eq_of_lt h2]
theorem NH {t k:Nat}(ht:0<t)(ht2:t<1000000000)(hk:k=1000000000 / (t+1)):0<k∧k<1000000000∧k*(t+1)≤1000000000∧1000000000≤2*(k*t):=by
 have h1:=Nat.div_mul_le_self 1000000000 (t+1)
 have h2:=Nat.div_add_mod 1000000000 (t+1)
 have h3:=Nat.mod_lt 1000000000 (show 0<t+1 by omega)
 have h4:0<k:=by rw[hk];exact Nat.div_pos (by omega) (by omega)
 have h5:k<1000000000:=by rw[hk];exact Nat.div_lt_self (by omega) (by omega)
 rw[← hk] at h1 h2
 refine⟨h4,h5,h1,?_⟩
 rcases Nat.lt_or_ge t 500000000 with h | h
 ·
  have e1:k*(t+1)=k*t+k:=by rw[Nat.mul_add,Nat.mul_one]
  have e2:(t+1)*k=k*t+k:=by rw[Nat.mul_comm,e1]
  rw[e2] at h2
  rcases Nat.lt_or_ge t 2 with ht1 | ht1
  ·have:t=1:=by omega
   subst this
   omega
  ·have h6:k≤333333333:=by
    have:k*3≤k*(t+1):=Nat.mul_le_mul_left _ (by omega)
    omega
   rcases Nat.lt_or_ge t 160000000 with h7 | h7
   ·omega
   ·have h8:k*160000001≤k*(t+1):=Nat.mul_le_mul_left _ (by omega)
    have h9:k≤6:=by omega
    have h10:1*t≤k*t:=Nat.mul_le_mul_right _ h4
    have:k=1∨k=2∨k=3∨k=4∨k=5∨k=6:=by omega
    rcases this with e | e | e | e | e | e <;> subst e <;> omega
 ·have:=Nat.mul_le_mul_right t (show 1≤k from h4)
  omega
end Go.Ab
