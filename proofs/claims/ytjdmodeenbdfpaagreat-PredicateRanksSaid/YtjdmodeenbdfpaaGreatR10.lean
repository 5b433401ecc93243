/- An abstract interpreter over the model's code and its soundness, part 10 of the proof; each lemma states its own conditions. -/
import Derived.Test.YtjdmodeenbdfpaaGreatR09
set_option linter.unusedSimpArgs false
set_option linter.unusedVariables false
namespace Go.Ab
open Go
theorem Dw {T:Tab}{hp hp2:List Blk}{src dst:TypeId}{a v:PV}{ids:List Nat}(h:dF T hp src dst a=some (v,ids))(ha:Ag hp hp2 ids):dF T hp2 src dst a=some (v,ids):=by
 unfold dF at *
 split at h
 ·exact h
 ·exact h
 ·exact h
 ·split at h
  ·rename_i e1
   split at h
   ·rename_i n cs ids' e2
    split at h
    ·rename_i l e3
     simp only[Option.some.injEq,Prod.mk.injEq] at h
     obtain⟨rfl,rfl⟩:=h
     simp only[oL e2 ha,e3]
    ·cases h
   ·cases h
  ·cases h
 ·cases h
theorem Loc.pO {f:List Blk→Option (PV × List Blk × FP)}(h:∀ hp v hp' F,f hp=some (v,hp',F)→hp'=hp∧F.wr=[]∧F.al=false∧∀ hp2,Ag hp hp2 F.rd→f hp2=some (v,hp2,F)):Loc f:=by
 constructor
 ·intro hp v hp' F e
  obtain⟨rfl,h1,h2,h3⟩:=h _ _ _ _ e
  exact⟨fun _ _=>rfl,fun _ _=>rfl,fun _ _=>h2⟩
 ·intro hp hp2 v hp' F e _ hr hw hl
  obtain⟨rfl,h1,h2,h3⟩:=h _ _ _ _ e
  exact⟨hp2,h3 hp2 hr,by simp[h1]⟩
theorem Loc.lb {f:List Blk→Option (PV × List Blk × FP)}(h:∀ hp v hp' F,f hp=some (v,hp',F)→∃ id b b0,hp'=bO hp id b∧aV hp id=some b0∧F.wr=[id]∧F.al=false ∧
  ∀ hp2,Ag hp hp2 F.rd→aV hp2 id=aV hp id→f hp2=some (v,bO hp2 id b,F)):Loc f:=by
 constructor
 ·intro hp v hp' F e
  obtain⟨id,b,b0,rfl,h1,h2,h3,h4⟩:=h _ _ _ _ e
  exact⟨fun i hi=>by rw[cQ h1,if_neg (by rw[h2] at hi;simpa using hi)],fun _ _=>bF _ _ _,fun _ _=>h3⟩
 ·intro hp hp2 v hp' F e _ hr hw hl
  obtain⟨id,b,b0,rfl,h1,h2,h3,h4⟩:=h _ _ _ _ e
  have e1:aV hp2 id=aV hp id:=hw id (by simp[h2])
  refine⟨_,h4 hp2 hr e1,fun i hi => ?_⟩
  rw[h2] at hi
  simp at hi
  rw[cQ h1,cQ (e1.trans h1),if_pos hi,if_pos hi]
theorem EH (T:Tab)(t:TypeId)(x:PV)(lo hi mx:Option PV):Loc fun hp=>match dt T hp t x lo hi mx with
  | some r=>some (r,hp,match x with | .ptr id _=>⟨[id],[],false,false⟩| _=>FP.none)
  | none=>none:=by
 refine Loc.pO fun hp v hp' F h => ?_
 split at h
 ·rename_i r e
  simp only[Option.some.injEq,Prod.mk.injEq] at h
  obtain⟨rfl,rfl,rfl⟩:=h
  refine⟨rfl,by split <;> rfl,by split <;> rfl,fun hp2 ha => ?_⟩
  have:dt T hp2 t x lo hi mx=dt T hp t x lo hi mx:=by
   unfold dt
   split
   ·rfl
   ·rfl
   ·unfold px
    split
    ·split
     ·rename_i id off
      rw[ha id (by simp)]
     ·rfl
     ·rfl
    ·rfl
   ·rfl
  rw[this,e]
 ·cases h
theorem s9 {hp hp2:List Blk}{m:PV}{kvs:List PV}{ids:List Nat}(h:mapOf hp m=some (kvs,ids))(ha:Ag hp hp2 ids):mapOf hp2 m=some (kvs,ids):=by
 unfold mapOf at *
 split at h
 ·exact h
 ·rename_i id
  split at h
  ·rename_i e
   simp only[Option.some.injEq,Prod.mk.injEq] at h
   obtain⟨rfl,rfl⟩:=h
   have:=ha id (by simp)
   simp only[this,e]
  ·cases h
 ·cases h
theorem CT {T:Tab}{hp hp2:List Blk}{t:TypeId}{m k v:PV}{ok:Bool}{ids:List Nat}(h:yM T hp t m k ok=some (v,ids))(ha:Ag hp hp2 ids):yM T hp2 t m k ok=some (v,ids):=by
 unfold yM at *
 split at h
 ·rename_i kt e kvs ids' e1 e2
  have:ids'=ids:=by
   split at h
   ·split at h <;> first | (simp only[Option.some.injEq,Prod.mk.injEq] at h;exact h.2) | cases h
   ·cases h
  subst this
  rw[s9 e2 ha,e1]
  exact h
 ·cases h
theorem GL {T:Tab}{hp hp2:List Blk}{t:TypeId}{m v:PV}{ids:List Nat}(h:MB T hp t m=some (v,ids))(ha:Ag hp hp2 ids):MB T hp2 t m=some (v,ids):=by
 unfold MB at *
 split at h
 ·rename_i kt e kvs ids' e1 e2
  simp only[Option.some.injEq,Prod.mk.injEq] at h
  obtain⟨rfl,rfl⟩:=h
  rw[s9 e2 ha,e1]
 ·cases h
theorem oJ {T:Tab}{hp hp':List Blk}{t:TypeId}{m k x:PV}{id:Nat}(h:zE T hp t m k x=some (hp',id)):∃ b b0,hp'=bO hp id b∧aV hp id=some b0∧∀ hp2,aV hp2 id=aV hp id→zE T hp2 t m k x=some (bO hp2 id b,id):=by
 unfold zE at h
 split at h
 ·rename_i kt e i e1
  split at h
  ·rename_i hk
   split at h
   ·rename_i kvs e2
    split at h
    ·rename_i l e3
     simp only[Option.some.injEq,Prod.mk.injEq] at h
     obtain⟨rfl,rfl⟩:=h
     exact⟨_,_,rfl,e2,fun hp2 hb=>by unfold zE;simp only[e1,if_pos hk,hb,e2,e3]⟩
    ·cases h
   ·cases h
  ·cases h
 ·cases h
theorem wK {T:Tab}{hp hp':List Blk}{t:TypeId}{m k:PV}{id:Nat}(h:Dt T hp t m k=some (hp',id)):∃ b b0,hp'=bO hp id b∧aV hp id=some b0∧∀ hp2,aV hp2 id=aV hp id→Dt T hp2 t m k=some (bO hp2 id b,id):=by
 unfold Dt at h
 split at h
 ·rename_i kt e i e1
  split at h
  ·rename_i hk
   split at h
   ·rename_i kvs e2
    split at h
    ·rename_i l e3
     simp only[Option.some.injEq,Prod.mk.injEq] at h
     obtain⟨rfl,rfl⟩:=h
     exact⟨_,_,rfl,e2,fun hp2 hb=>by unfold Dt;simp only[e1,if_pos hk,hb,e2,e3]⟩
    ·cases h
   ·cases h
  ·cases h
 ·cases h
theorem Loc.acp:Loc fun hp=>some (PV.mp hp.length,hp++[⟨.dead,[.any]⟩],⟨[],[hp.length],true,false⟩):=by
 have hn:∀ (hp:List Blk) (i:Nat),aV (hp++[⟨.dead,[.any]⟩]) i=if i=hp.length then some ⟨.dead,[.any]⟩ else aV hp i:=by
  intro hp i
  rw[ki]
  split
  ·rw[if_neg (by omega)]
  ·split
   ·rename_i h;subst h;simp[aV]
   ·rw[n7 (by simp;omega),n7 (by omega)]
 constructor
 ·intro hp v hp' F h
  simp only[Option.some.injEq,Prod.mk.injEq] at h
  obtain⟨rfl,rfl,rfl⟩:=h
  refine⟨fun i hi => ?_,fun _ h=>by simp at h,fun _ h=>by simp at h⟩
  rw[hn,if_neg (by simpa using hi)]
 ·intro hp hp2 v hp' F h _ hr hw hl
  simp only[Option.some.injEq,Prod.mk.injEq] at h
  obtain⟨rfl,rfl,rfl⟩:=h
  have:=hl rfl
  refine⟨hp2++[⟨.dead,[.any]⟩],by simp[this],fun i hi => ?_⟩
  simp at hi
  rw[hn,hn,if_pos hi,if_pos (by omega)]
theorem JK (P:Program)(T:Tab)(fr:List PV)(o:Op):Loc fun hp=>aj P T fr hp o:=by
 unfold aj
 cases o with
 | move x=>exact Loc.pure _
 | assign x=>exact Loc.pure _
 | pick c a b =>
  dsimp only
  split
  ·exact Loc.pure _
  ·exact Loc.pure _
  ·exact Loc.no
 | alloc e =>
  dsimp only
  split
  ·exact Loc.alloc (fun k=>.ptr k 0) _
  ·exact Loc.no
 | box t x =>
  dsimp only
  split
  ·exact Loc.alloc (fun k=>.ptr k 0) _
  ·exact Loc.no
 | build t ps=>exact Loc.opt _
 | buildSlice t n ps =>
  dsimp only
  split
  ·rename_i s cs _
   split
   ·exact Loc.pure _
   ·exact Loc.alloc (fun k=>.own k s 0 n true) _
  ·exact Loc.no
 | load t a =>
  dsimp only
  refine Loc.pO fun hp v hp' F h => ?_
  split at h
  ·rename_i cs ids e
   split at h
   ·rename_i x ex
    simp only[Option.some.injEq,Prod.mk.injEq] at h
    obtain⟨rfl,rfl,rfl⟩:=h
    exact⟨rfl,rfl,rfl,fun hp2 ha=>by rw[AO e ha];simp only[ex]⟩
   ·cases h
  ·cases h
 | store t a x =>
  dsimp only
  refine Loc.lb fun hp v hp' F h => ?_
  split at h
  ·rename_i id off cs n e1 e2 e3
   split at h
   ·rename_i hc
    split at h
    ·rename_i old e4
     split at h
     ·rename_i l e5
      simp only[Option.some.injEq,Prod.mk.injEq] at h
      obtain⟨rfl,rfl,rfl⟩:=h
      exact⟨id,_,_,rfl,e4,rfl,rfl,fun hp2 ha hb=>by simp only[if_pos hc,hb,e4,e5]⟩
     ·cases h
    ·cases h
   ·cases h
  ·cases h
 | nilCheck x =>
  dsimp only
  split
  ·exact Loc.pure _
  ·exact Loc.pure _
  ·exact Loc.pure _
  ·exact Loc.pure _
  ·exact Loc.pure _
  ·exact Loc.no
 | binOp op t x y ty=>exact Loc.opt _
 | unOp op t x=>exact Loc.opt _
 | convert src dst x =>
  dsimp only
  refine Loc.pO fun hp v hp' F h => ?_
  split at h
  ·rename_i r ids e
   simp only[Option.some.injEq,Prod.mk.injEq] at h
   obtain⟨rfl,rfl,rfl⟩:=h
   exact⟨rfl,rfl,rfl,fun hp2 ha=>by rw[Dw e ha]⟩
  ·cases h
 | makeFunc f first captured =>
  cases f with
  | func f =>
   dsimp only
   split
   ·exact Loc.pure _
   ·split
    ·exact Loc.pure _
    ·exact Loc.no
  | _=>exact Loc.no
 | makeSlice t l c =>
  dsimp only
  split
  ·split
   ·split
    ·rename_i s _ _ _ _ _
     exact Loc.alloc (fun k=>.own k _ 0 _ _) _
    ·exact Loc.no
   ·exact Loc.no
  ·exact Loc.no
 | slice t x lo hi mx=>exact EH T t _ _ _ _
 | fieldAddr t x i=>exact Loc.opt _
 | field t x i=>exact Loc.opt _
 | indexAddr t x i=>exact Loc.opt _
 | index t x i=>exact Loc.opt _
 | extract x i =>
  dsimp only
  split
  ·split
   ·exact Loc.pure _
   ·exact Loc.no
  ·exact Loc.no
 | call c =>
  obtain⟨callee,args,argTypes⟩:=c
  cases callee with
  | builtin b =>
   dsimp only
   split
   ·split
    ·exact Loc.pure _
    ·refine Loc.pO fun hp v hp' F h => ?_
     split at h
     ·rename_i r ids e
      simp only[Option.some.injEq,Prod.mk.injEq] at h
      obtain⟨rfl,rfl,rfl⟩:=h
      exact⟨rfl,rfl,rfl,fun hp2 ha=>by rw[GL e ha]⟩
     ·cases h
   ·refine Loc.lb fun hp v hp' F h => ?_
    split at h
    ·rename_i hp1 id e
     simp only[Option.some.injEq,Prod.mk.injEq] at h
     obtain⟨rfl,rfl,rfl⟩:=h
     obtain⟨b,b0,e1,e2,e3⟩:=wK e
     exact⟨id,b,b0,e1,e2,rfl,rfl,fun hp2 ha hb=>by rw[e3 hp2 hb]⟩
    ·cases h
   ·exact Loc.opt _
   ·exact Loc.opt _
   ·rename_i x y t t' _ _
    split
    ·rename_i e e' _ _
     split
     ·rename_i s by_ zs _ _ _
      split
      ·rename_i hc
       constructor
       ·intro hp v hp' F h
        try dsimp only at h
        split at h
        ·rename_i n new ids e1
         split at h
         ·split at h
          ·rename_i r hp1 fp e2
           simp only[Option.some.injEq,Prod.mk.injEq] at h
           obtain⟨rfl,rfl,rfl⟩:=h
           have h2:=(nF s x n new).E _ _ _ _ e2
           have hall:fp.all=false:=by
            revert e2
            unfold df
            repeat' split
            all_goals (intro h;first | cases h;done | (simp only[Option.some.injEq,Prod.mk.injEq] at h;rw[← h.2.2];try rfl))
           exact⟨h2.1,fun _=>h2.2.1 hall,fun _=>h2.2.2 hall⟩
          ·cases h
         ·cases h
        ·cases h
       ·intro hp hp2 v hp' F h _ hr hw hl
        try dsimp only at h
        split at h
        ·rename_i n new ids e1
         split at h
         ·rename_i hok
          split at h
          ·rename_i r hp1 fp e2
           simp only[Option.some.injEq,Prod.mk.injEq] at h
           obtain⟨rfl,rfl,rfl⟩:=h
           have hall:fp.all=false:=by
            revert e2
            unfold df
            repeat' split
            all_goals (intro h;first | cases h;done | (simp only[Option.some.injEq,Prod.mk.injEq] at h;rw[← h.2.2];try rfl))
           obtain⟨hp2',h3,h4⟩:=(nF s x n new).D _ hp2 _ _ _ e2 hall hr.right hw hl
           try dsimp only at h3
           refine⟨hp2',?_,h4⟩
           try dsimp only
           rw[oL e1 hr.left]
           simp only[if_pos hok,h3]
          ·cases h
         ·cases h
        ·cases h
      ·exact Loc.no
     ·exact Loc.no
    ·split
     ·split
      ·have:=nF 1 x
       refine⟨fun hp v hp' F h => ?_,fun hp hp2 v hp' F h ha hr hw hl => ?_⟩
       ·try dsimp only at h
        split at h
        ·rename_i e
         simp only[Option.some.injEq,Prod.mk.injEq] at h
         obtain⟨rfl,rfl,rfl⟩:=h
         exact (this _ _).E _ _ _ _ e
        ·cases h
       ·try dsimp only at h
        split at h
        ·rename_i e
         simp only[Option.some.injEq,Prod.mk.injEq] at h
         obtain⟨rfl,rfl,rfl⟩:=h
         obtain⟨hp2',h3,h4⟩:=(this _ _).D _ hp2 _ _ _ e ha hr hw hl
         try dsimp only at h3
         exact⟨hp2',by simp only[h3],h4⟩
        ·cases h
      ·exact Loc.no
     ·exact Loc.no
    ·exact Loc.no
   ·rename_i x y t _ _ _
    split
    ·split
     ·split
      ·rename_i hs
       refine Loc.lb fun hp v hp' F h => ?_
       split at h
       ·rename_i n src ids e1
        split at h
        ·rename_i old e2
         split at h
         ·rename_i new e3
          split at h
          ·cases h
          ·rename_i hok
           split at h
           ·rename_i l e4
            simp only[Option.some.injEq,Prod.mk.injEq] at h
            obtain⟨rfl,rfl,rfl⟩:=h
            exact⟨_,_,_,rfl,e2,rfl,rfl,fun hp2 ha hb=>by rw[oL e1 ha];simp only[hb,e2,e3,if_neg hok,e4]⟩
           ·cases h
         ·cases h
        ·cases h
       ·cases h
      ·exact Loc.no
     ·exact Loc.no
    ·exact Loc.no
   ·rename_i x t _ _
    split
    ·split
     ·split
      ·refine Loc.lb fun hp v hp' F h => ?_
       split at h
       ·rename_i old e2
        split at h
        ·rename_i l e4
         simp only[Option.some.injEq,Prod.mk.injEq] at h
         obtain⟨rfl,rfl,rfl⟩:=h
         exact⟨_,_,_,rfl,e2,rfl,rfl,fun hp2 ha hb=>by simp only[hb,e2,e4]⟩
        ·cases h
       ·cases h
      ·exact Loc.no
     ·exact Loc.no
    ·exact Loc.no
   ·exact Loc.no
  | value f=>exact Loc.no
  | invoke r m=>exact Loc.no
 | makeMap t r =>
  cases r with
  | none=>exact Loc.acp
  | some _=>exact Loc.no
 | lookup t x k ok =>
  dsimp only
  refine Loc.pO fun hp v hp' F h => ?_
  split at h
  ·rename_i r ids e
   simp only[Option.some.injEq,Prod.mk.injEq] at h
   obtain⟨rfl,rfl,rfl⟩:=h
   exact⟨rfl,rfl,rfl,fun hp2 ha=>by rw[CT e ha]⟩
  ·cases h
 | mapUpdate t m k x =>
  dsimp only
  refine Loc.lb fun hp v hp' F h => ?_
  split at h
  ·rename_i hp1 id e
   simp only[Option.some.injEq,Prod.mk.injEq] at h
   obtain⟨rfl,rfl,rfl⟩:=h
   obtain⟨b,b0,e1,e2,e3⟩:=oJ e
   exact⟨id,b,b0,e1,e2,rfl,rfl,fun hp2 ha hb=>by rw[e3 hp2 hb]⟩
  ·cases h
 | insert t m k x =>
  dsimp only
  refine Loc.lb fun hp v hp' F h => ?_
  split at h
  ·rename_i hp1 id e
   simp only[Option.some.injEq,Prod.mk.injEq] at h
   obtain⟨rfl,rfl,rfl⟩:=h
   obtain⟨b,b0,e1,e2,e3⟩:=oJ e
   exact⟨id,b,b0,e1,e2,rfl,rfl,fun hp2 ha hb=>by rw[e3 hp2 hb]⟩
  ·cases h
 | _=>exact Loc.no
theorem uj {C:Cfg}{run:ar}(hE:fG run)(dr:Bool)(ops:Array Oper)(o:Oper)(fr:List PV):Loc fun hp=>aH C run dr ops o fr hp:=by
 unfold aH
 split
 ·exact Loc.no
 ·exact Loc.pure _
 ·split
  ·split
   ·exact Nf hE dr _ _
   ·exact Loc.no
  ·exact JK _ _ _ _
theorem Bj {P:Program}{T:Tab}{fr fr2:List PV}{hp:List Blk}{o:Op}(h:∀ x ∈ o.operands,an fr2 x=an fr x):aj P T fr2 hp o=aj P T fr hp o:=by
 have pairs:∀ ps:Array (Nat × Operand),(∀ x ∈ ps.map (·.2),an fr2 x=an fr x)→(ps.toList.map fun (i,x)=>(i,an fr2 x))=(ps.toList.map fun (i,x)=>(i,an fr x)):=fun ps hp =>
  List.map_congr_left fun p hm=>by
   obtain⟨i,x⟩:=p
   simp only[hp x (Array.mem_map.2 ⟨(i,x),by simpa using hm,rfl⟩)]
 cases o <;> simp only[Op.operands] at h <;> unfold aj
 case build t ps=>simp only[pairs ps fun x hx=>h x (by simpa using hx)]
 case buildSlice t n ps=>simp only[pairs ps fun x hx=>h x (by simpa using hx)]
 case makeFunc fn first captured =>
  have:captured.toList.map (an fr2)=captured.toList.map (an fr):=List.map_congr_left fun x hx=>h x (by simp at hx;simp[hx])
  have t2:first.toList.map (an fr2)=first.toList.map (an fr):=List.map_congr_left fun x hx=>h x (by simp at hx;simp[hx])
  cases fn <;> simp only[this,t2]
 case makeMap t r=>cases r <;> rfl
 case slice t x lo hi mx=>cases lo <;> cases hi <;> cases mx <;> simp_all
 case call c =>
  obtain⟨callee,args,argTypes⟩:=c
  have:args.toList.map (an fr2)=args.toList.map (an fr):=List.map_congr_left fun x hx=>h x (by simp at hx;simp[Call.operands,hx])
  cases callee <;> simp only[this]
 all_goals (first | rfl | (simp_all;done))
theorem xA {fr fr2:List PV}{c:Call}(h:∀ x ∈ c.operands,an fr2 x=an fr x):aQ fr2 c=aQ fr c:=by
 have hargs:c.args.toList.map (an fr2)=c.args.toList.map (an fr):=List.map_congr_left fun x hx=>h x (by simp at hx;simp[Call.operands,hx])
 unfold aQ
 simp only[hargs]
 cases hc:c.callee with
 | value f=>simp only[h f (by simp[Call.operands,hc])]
 | invoke r m=>rfl
 | builtin b=>rfl
theorem vS {fr:List PV}{d t:Nat}{v:PV}(h:t≠d):nth (fm fr d v) t=nth fr t:=by
 rw[rA,rA,lJ,List.getElem?_set_ne (Ne.symm h)]
theorem CG {fr:List PV}{dst:Option Tmp}{v:PV}{t:Nat}(h:dst≠some t):nth (aF fr dst v) t=nth fr t:=by
 unfold aF
 cases dst with
 | none=>rfl
 | some d=>exact vS (fun e=>h (by rw[e]))
theorem Bb {C:Cfg}{run:ar}{dr:Bool}{ops:Array Oper}{o:Oper}{fr:List PV}{hp:List Blk}{dst:Option Tmp}{v:PV}(h:∀ d,dst=some d→d ∉ o.looksAt ops) :
  aH C run dr ops o (aF fr dst v) hp=aH C run dr ops o fr hp:=by
 have hop:∀ x ∈ o.op.operands,an (aF fr dst v) x=an fr x:=fun x hx=>by
  cases x with
  | tmp t =>
   exact CG fun e=>h t e (List.mem_append_left _ (List.mem_filterMap.2 ⟨.tmp t,by simpa using hx,rfl⟩))
  | const _=>rfl
  | global _=>rfl
  | func _=>rfl
 have hw:ag ops (aF fr dst v) o=ag ops fr o:=by
  unfold ag
  cases hg:o.guard with
  | none=>rfl
  | some g =>
   obtain⟨j,want⟩:=g
   dsimp only
   cases hd:(ops[j]?).bind (·.dst) with
   | none=>rfl
   | some d =>
    dsimp only
    rw[CG (fun e=>h d e (List.mem_append_right _ (by simp[hg,hd])))]
 unfold aH
 rw[hw]
 split
 ·rfl
 ·rfl
 ·split
  ·rename_i c hc
   have:o.op = .call c:=by
    unfold ai at hc
    split at hc
    ·rename_i c' e
     split at hc
     ·simp at hc;subst hc;exact e
     ·cases hc
    ·cases hc
   rw[xA fun x hx=>hop x (by rw[this];exact hx)]
  ·exact Bj hop
abbrev X:=List PV × List Blk
section
variable {C:Cfg} {run:ar} {ops:Array Oper} {Φ:List FP}
def wX (C:Cfg)(run:ar)(ops:Array Oper)(Φ:List FP)(i:Nat)(x y:X):Prop :=
 ∃ o v fp,ops[i]?=some o∧aH C run true ops o x.1 x.2=some (v,y.2,fp)∧Φ[i]?=some fp∧y.1=aF x.1 o.dst v
def Fold (C:Cfg)(run:ar)(ops:Array Oper)(Φ:List FP):List Nat→X→X→Prop
 | [],x,y=>x=y
 | i::l,x,y=>∃ z,wX C run ops Φ i x z∧Fold C run ops Φ l z y
def Comm (C:Cfg)(run:ar)(ops:Array Oper)(Φ:List FP)(i j:Nat):Prop :=
 ∀ x y z,wX C run ops Φ i x y→wX C run ops Φ j y z→∃ y',wX C run ops Φ j x y'∧wX C run ops Φ i y' z
theorem UB {i:Nat}{B:List Nat} : ∀ (A:List Nat) (x z:X),Fold C run ops Φ (A++i::B) x z→(∀ a ∈ A,Comm C run ops Φ a i)→∃ y,wX C run ops Φ i x y∧Fold C run ops Φ (A++B) y z
 | [],x,z,h,_=>h
 | a::A,x,z,h,hc=>by
  obtain⟨y,h1,h2⟩:=h
  obtain⟨y2,h3,h4⟩:=UB A y z h2 fun b hb=>hc b (by simp[hb])
  obtain⟨y3,h5,h6⟩:=hc a (by simp) x y y2 h1 h3
  exact⟨y3,h5,y2,h6,h4⟩
theorem LG {fr:List PV}{d1 d2:Option Tmp}{v1 v2:PV}(h:∀ d,d1=some d→d2≠some d):aF (aF fr d1 v1) d2 v2=aF (aF fr d2 v2) d1 v1:=by
 cases d1 with
 | none=>rfl
 | some a=>cases d2 with
  | none=>rfl
  | some b =>
   have:a≠b:=fun e=>h a rfl (by rw[e])
   simp only[aF,lJ]
   exact List.set_comm _ _ this
theorem rB {l m:List Nat}(h:(l.any fun i=>m.contains i)=false){i:Nat}(h1:i ∈ l):i ∉ m:=by
 intro h2
 have:(l.any fun i=>m.contains i)=true:=List.any_eq_true.2 ⟨i,h1,by simpa using h2⟩
 rw[h] at this;cases this
structure Em (a b:FP):Prop where
 wr:∀ i ∈ a.wr,i ∉ b.rd
 ww:∀ i ∈ a.wr,i ∉ b.wr
 rw:∀ i ∈ b.wr,i ∉ a.rd
 al:a.al=true→b.al=false
 alla:a.all=true→b.wr=[]
 allb:b.all=true→a.wr=[]
theorem UG {a b:FP}(h:a.apart b=true):Em a b:=by
 unfold FP.apart at h
 simp only[Bool.and_eq_true,Bool.not_eq_true'] at h
 obtain⟨⟨⟨⟨h1,h2⟩,h3⟩,h4⟩,h5⟩:=h
 have key:∀ i ∈ a.wr,i ∉ b.rd∧i ∉ b.wr:=fun i hi=>by
  have:=(List.any_eq_false.1 h1) i hi
  simp at this
  exact this
 refine⟨fun i hi=>(key i hi).1,fun i hi=>(key i hi).2,fun i hi=>rB h2 hi,fun e => ?_,fun e => ?_,fun e => ?_⟩
 ·rw[e] at h3;simpa using h3
 ·rw[e] at h4;simpa using h4
 ·rw[e] at h5;simpa using h5
theorem wV {a b:FP}(h:a.free=true∨b.free=true):Em a b:=by
 rcases h with h | h <;> (simp only[FP.free,Bool.and_eq_true,List.isEmpty_iff,Bool.not_eq_true'] at h;obtain⟨⟨⟨h1,h2⟩,h3⟩,h4⟩:=h)
 ·exact⟨by simp[h2],by simp[h2],by simp[h1],by simp[h3],by simp[h4],fun _=>h2⟩
 ·exact⟨by simp[h1],by simp[h2],by simp[h2],fun _=>h3,fun _=>h2,by simp[h4]⟩
theorem ZS (hE:fG run){i j:Nat}{o1 o2:Oper}{F1 F2:FP}(h1:ops[i]?=some o1)(h2:ops[j]?=some o2)(hf1:Φ[i]?=some F1)(hf2:Φ[j]?=some F2)(ht:o1.apart ops o2=true)(hA:Em F1 F2) :
  Comm C run ops Φ i j:=by
 rintro⟨fr,hp⟩ ⟨fr1,hp1⟩ ⟨fr2,hp2⟩ ⟨o1',v1,F1',e1,s1,g1,p1⟩ ⟨o2',v2,F2',e2,s2,g2,p2⟩
 rw[h1] at e1;cases e1
 rw[h2] at e2;cases e2
 rw[hf1] at g1;cases g1
 rw[hf2] at g2;cases g2
 obtain⟨t1,t2,t3⟩:=Oper.apart_spec ht
 dsimp only at s1 s2 p1 p2
 subst p1;subst p2
 rw[Bb t1] at s2
 have L1:=uj (C:=C) hE true ops o1 fr
 have L2:=uj (C:=C) hE true ops o2 fr
 obtain⟨E1,E1l,E1w⟩:=L1.E _ _ _ _ s1
 obtain⟨E2,E2l,E2w⟩:=L2.E _ _ _ _ s2
 suffices hs:∃ hp',aH C run true ops o2 fr hp=some (v2,hp',F2)∧aH C run true ops o1 fr hp'=some (v1,hp2,F1) by
  obtain⟨hp',q1,q2⟩:=hs
  refine⟨(aF fr o2.dst v2,hp'),⟨o2,v2,F2,h2,q1,hf2,rfl⟩,o1,v1,F1,h1,?_,hf1,(LG t2)⟩
  dsimp only
  rw[Bb t3];exact q2
 by_cases ha1:F1.all=true
 ·have w2:=hA.alla ha1
  have e2:hp2=hp1:=MP fun i=>E2 i (by simp[w2])
  subst e2
  by_cases ha2:F2.all=true
  ·have w1:=hA.allb ha2
   have e1:hp2=hp:=MP fun i=>E1 i (by simp[w1])
   subst e1
   exact⟨hp2,s2,s1⟩
  ·have ha2:F2.all=false:=by simpa using ha2
   have hal:=E2w ha2 w2
   obtain⟨hp',q1,_⟩:=L2.D hp2 hp v2 hp2 F2 s2 ha2 (fun i hi=>(E1 i fun hw=>hA.wr i hw hi).symm) (by simp[Ag,w2]) (by simp[hal])
   have:hp'=hp:=MP fun i=>(L2.E _ _ _ _ q1).1 i (by simp[w2])
   subst this
   exact⟨hp',q1,s1⟩
 ·have ha1:F1.all=false:=by simpa using ha1
  by_cases ha2:F2.all=true
  ·have w1:=hA.allb ha2
   have e1:hp1=hp:=MP fun i=>E1 i (by simp[w1])
   subst e1
   have hal:=E1w ha1 w1
   obtain⟨hp',q1,_⟩:=L1.D hp1 hp2 v1 hp1 F1 s1 ha1 (fun i hi=>E2 i fun hw=>hA.rw i hw hi) (by simp[Ag,w1]) (by simp[hal])
   have:hp'=hp2:=MP fun i=>(L1.E _ _ _ _ q1).1 i (by simp[w1])
   subst this
   exact⟨hp',s2,q1⟩
  ·have ha2:F2.all=false:=by simpa using ha2
   obtain⟨h2',q1,q1w⟩:=L2.D hp1 hp v2 hp2 F2 s2 ha2 (fun i hi=>(E1 i fun hw=>hA.wr i hw hi).symm) (fun i hi=>(E1 i fun hw=>hA.ww i hw hi).symm) (fun hal=>by
    have:F1.al=false:=by
     cases h:F1.al with
     | false=>rfl
     | true=>rw[hA.al h] at hal;cases hal
    exact (E1l ha1 this).symm)
   obtain⟨E3,E3l,_⟩:=L2.E _ _ _ _ q1
   obtain⟨h2'',q2,q2w⟩:=L1.D hp h2' v1 hp1 F1 s1 ha1 (fun i hi=>E3 i fun hw=>hA.rw i hw hi) (fun i hi=>E3 i fun hw=>hA.ww i hi hw) (fun hal=>E3l ha2 (hA.al hal))
   obtain⟨E4,_,_⟩:=L1.E _ _ _ _ q2
   have:h2''=hp2:=MP fun i=>by
    by_cases i1:i ∈ F1.wr
    ·rw[q2w i i1,E2 i (hA.ww i i1)]
    ·rw[E4 i i1]
     by_cases i2:i ∈ F2.wr
     ·exact q1w i i2
     ·rw[E3 i i2,E2 i i2,E1 i i1]
   subst this
   exact⟨h2',q1,q2⟩
def HU (ops:Array Oper)(bs:Array Nat):Prop:=∀ j,j<bs.size→∀ i,(bs.getD j 0).testBit i=true→∃ o,ops[j]?=some o∧∃ e ∈ o.after,Region.binds .any e=true∧(i=e.on∨(e.on<bs.size∧(bs.getD e.on 0).testBit i=true))
theorem wg (acc:Array Nat)(i:Nat):∀ (l:List Edge) (s:Nat),(l.foldl (fun s e=>if Region.binds .any e then s ||| 2 ^ e.on ||| acc.getD e.on 0 else s) s).testBit i=true →
  s.testBit i=true∨∃ e ∈ l,Region.binds .any e=true∧(i=e.on∨(acc.getD e.on 0).testBit i=true)
 | [],s,h=>.inl h
 | e::l,s,h=>by
  rw[List.foldl_cons] at h
  rcases wg acc i l _ h with h1 | ⟨e',h1,h2⟩
  ·split at h1
   ·rename_i hb
    rw[Nat.testBit_or,Nat.testBit_or,Bool.or_eq_true,Bool.or_eq_true] at h1
    rcases h1 with (h1 | h1) | h1
    ·exact .inl h1
    ·rw[Nat.testBit_two_pow] at h1
     exact .inr ⟨e,by simp,hb,.inl (by simpa using (of_decide_eq_true h1).symm)⟩
    ·exact .inr ⟨e,by simp,hb,.inr h1⟩
   ·exact .inl h1
  ·exact .inr ⟨e',by simp[h1],h2⟩
theorem zp:∀ (l:List Oper) (acc:Array Nat),(∀ k,k<l.length→ops[acc.size+k]?=l[k]?)→HU ops acc →
  HU ops (l.foldl (fun acc o=>acc.push (o.after.foldl (fun s e=>if Region.binds .any e then s ||| 2 ^ e.on ||| acc.getD e.on 0 else s) 0)) acc) ∧
  (l.foldl (fun acc o=>acc.push (o.after.foldl (fun s e=>if Region.binds .any e then s ||| 2 ^ e.on ||| acc.getD e.on 0 else s) 0)) acc).size=acc.size+l.length
 | [],acc,_,h=>⟨h,by simp⟩
 | o::l,acc,hl,h=>by
  rw[List.foldl_cons]
  have key:∀ (v:Nat) (k:Nat),k<acc.size→(acc.push v).getD k 0=acc.getD k 0:=fun v k hk=>by
   rw[Array.getD_eq_getD_getElem?,Array.getD_eq_getD_getElem?,Array.getElem?_push_lt hk,Array.getElem?_eq_getElem hk]
  generalize hv:o.after.foldl (fun s e=>if Region.binds .any e then s ||| 2 ^ e.on ||| acc.getD e.on 0 else s) 0=v
  have:=zp l (acc.push v) (fun k hk=>by
   have:=hl (k+1) (by simpa using hk)
   simp only[Array.size_push]
   rw[show acc.size+1+k=acc.size+(k+1) by omega,this];simp) (fun j hj i hb=>by
    rw[Array.size_push] at hj ⊢
    by_cases hjl:j<acc.size
    ·rw[key v j hjl] at hb
     obtain⟨o',h1,e,h2,h3,h4⟩:=h j hjl i hb
     refine⟨o',h1,e,h2,h3,h4.imp id fun ⟨h5,h6⟩=>⟨by omega,by rw[key v _ h5];exact h6⟩⟩
    ·have hj:j=acc.size:=by omega
     subst hj
     have e0:(acc.push v).getD acc.size 0=v:=by simp
     rw[e0,← hv,← Array.foldl_toList] at hb
     refine⟨o,by have:=hl 0 (by simp);simpa using this,?_⟩
     rcases wg acc i _ _ hb with h1 | ⟨e,h1,h2,h3⟩
     ·simp at h1
     ·refine⟨e,by simpa using h1,h2,h3.imp id fun h4 => ?_⟩
      have hlt:e.on<acc.size:=by
       rcases Nat.lt_or_ge e.on acc.size with h' | h'
       ·exact h'
       ·rw[Array.getD_eq_getD_getElem?,Array.getElem?_eq_none h'] at h4;simp at h4
      exact⟨by omega,by rw[key v _ hlt];exact h4⟩)
  rw[Array.size_push] at this
  exact⟨this.1,by rw[this.2];simp;omega⟩
theorem DQ (ops:Array Oper):HU ops (Region.before ops)∧(Region.before ops).size=ops.size:=by
 unfold Region.before
 have:=zp (ops:=ops) ops.toList #[] (fun k hk=>by simp) (fun j hj=>by simp at hj)
 rw[Array.foldl_toList] at this
 simpa using this
end
end Go.Ab
