/-
  What the law rests on, part 2. No condition.
-/
import Derived.Test.YtlfmjamcinnimaaGreatPa
import Derived.RangeFuncSeq
import Derived.TacticsIn
import Derived.Test.YtlfmjamcinnimaaGreatProg
import Derived.Below
import Derived.ChangeShapes
import Derived.WideShapes
import Derived.ChangeSlices
import Derived.DataReads
set_option maxRecDepth 100000
namespace Go.Vc
section
variable {P:Program} {N:Nat}
theorem get_put_del{S:Sym}{mods:List Nat}{t:Nat}{s:SV}(h:(S.del mods).get t=some s):t∉mods∧S.get t=some s:=by
 induction S with
 | nil=>cases h
 | cons x r ih=>
  obtain⟨i,u⟩:=x
  unfold Sym.del at h
  rw[get_cons]
  split at h
  ·rename_i hm
   obtain⟨h1,h2⟩:=ih h
   refine⟨h1,?_⟩
   rw[if_neg]
   ·exact h2
   ·rintro rfl
    exact h1 (by simpa using hm)
  ·rename_i hm
   rw[get_cons]at h
   split at h
   ·rename_i e
    subst e
    rw[if_pos rfl]
    exact⟨by simpa using hm,h⟩
   ·rename_i e
    obtain⟨h1,h2⟩:=ih h
    rw[if_neg e]
    exact⟨h1,h2⟩
theorem get_syms{S:Sym}{a:Act}:∀(ts:List Nat),Agree S a→Agree (syms ts (ts.map fun t=>a.tmps.getD t undef) S) a
 | [],h=>h
 | t::ts,h=>by
  intro t' s' h'
  simp only[List.map_cons,syms,get_cons]at h'
  split at h'
  ·rename_i e;subst e
   simp only[Option.some.injEq]at h';subst h';rfl
  ·exact get_syms ts h t' s' h'
theorem Ag.del{S:Sym}{a a':Act}{mods:List Nat}(h:Ag N S a)(hf:Fr mods a a')(hs:a'.tmps.size=N)(hd:a'.defers=[]):Ag N (S.del mods) a':=by
 refine⟨hs,hd,fun t s ht=>?_⟩
 obtain⟨h1,h2⟩:=get_put_del ht
 rw[hf t h1]
 exact h.agree t s h2
theorem getAll_spec{S:Sym}{a:Act}(h:Agree S a):∀{ts:List Nat}{ss:List SV},getAll S ts=some ss→ss.map SV.toV=ts.map fun t=>a.tmps.getD t undef
 | [],ss,hg=>by simp only[getAll,Option.some.injEq]at hg;subst hg;rfl
 | t::ts,ss,hg=>by
  simp only[getAll]at hg
  split at hg
  ·rename_i s l h1 h2
   simp only[Option.some.injEq]at hg;subst hg
   simp only[List.map_cons]
   rw[h t s h1,getAll_spec h h2]
  ·cases hg
theorem lives_get{S:Sym}:∀{ts:List Nat}{x:Nat×SV},x∈lives S ts→S.get x.1=some x.2
 | [],x,h=>by cases h
 | t::ts,x,h=>by
  simp only[lives]at h
  split at h
  ·rename_i s hs
   rcases List.mem_cons.1 h with rfl|h
   ·exact hs
   ·exact lives_get h
  ·exact lives_get h
def QF(X:Value→Heap→Prop)(K:Kont)(N:Nat)(w:World)(a:Act)(l:List Nat):Exit→Act→World→Prop:=fun e a' w'=>
 match e with
 | .normal=>Fr l a a'∧Sim w w'∧∃S,Ag N S a'∧K.norm S w'.heap
 | .exit id=>Fr l a a'∧Sim w w'∧∃S,Ag N S a'∧K.exit id S w'.heap
 | .ret=>Fr l a a'∧Sim w w'∧∃S,Ag N S a'∧K.ret S w'.heap
 | .panic ch=>a'.defers=[]∧Sim w w'∧∃p,ch=[{v:=p,recovered:=false}]∧X p w'.heap
 | _=>False
theorem dedup_mem{l:List Nat}{t:Nat}:t∈dedup l↔t∈l:=by
 induction l with
 | nil=>rfl
 | cons x r ih=>
  unfold dedup
  split
  ·rename_i h
   rw[ih,List.mem_cons]
   constructor
   ·exact .inr
   ·rintro (rfl|h')
    ·simpa using h
    ·exact h'
  ·rw[List.mem_cons,List.mem_cons,ih]
theorem mem_dstsL{ops:Array Oper}{j:Nat}{o:Oper}{d:Nat}(ho:ops[j]?=some o)(hd:o.dst=some d):d∈dstsL ops.toList:=by
 unfold dstsL
 rw[List.mem_flatMap]
 refine⟨o,?_,by simp[opDst,hd]⟩
 have:=Array.mem_of_getElem? ho
 simpa using this
theorem code_sound{C:CallP}{X:Value→Heap→Prop} [Fits P C X]{ex:List Nat}{ann:List (Nat×List (Nat×Value))}(hm:P.follows .mixedOrders=true):∀(c:Code)(sc:SCode),compC P N ex ann c=some sc→∀(K:Kont)(S:Sym)(a:Act)(w:World),
  Ag N S a→WP P C X sc K S w.heap→c.wp P (QF X K N w a (dstsC c)) a w:=by
 intro c
 induction c with
 | skip=>
  intro sc hc K S a w ha h
  simp only[compC,Option.some.injEq]at hc;subst hc
  exact wp_skip ⟨Fr.refl _ a,Sim.refl w,S,ha,h⟩
 | region id ops d=>
  intro sc hc K S a w ha h
  cases d with
  | false=>
   simp only[compC]at hc
   split at hc
   ·rename_i l hl
    simp only[Option.some.injEq]at hc;subst hc
    refine wp_region_list (ops_sound ops.toList l hl S a w K.norm ha h ?_ (fun p a' w' hd hs hx=>⟨hd,hs,p,rfl,hx⟩))
    intro S' a' w' ha' hs hf hk
    exact⟨hf,hs,S',ha',hk⟩
   ·cases hc
  | true=>
   simp only[compC]at hc
   split at hc
   ·rename_i l hl
    simp only[Option.some.injEq]at hc;subst hc
    refine wp_region_any hm (wpAny_of_F (eff:=effOf P ops) (F:=[]) _ _ _ _ (schedule_sound (C:=C) (X:=X) (fun c a a' w hd h=>⟨hd.trans h.1,h.2⟩) hl (dstsL ops.toList) (w:={w with drawn:=w.drawn+1}) ha h ?_ ?_ (fun p a' w' hd hs hx=>⟨hd,⟨hs.os,hs.tape,hs.output⟩,p,rfl,hx⟩)))
    ·intro j o ho d hd
     exact mem_dstsL ho hd
    ·intro S' a' w' ha' hs hf hk
     exact⟨hf,⟨hs.os,hs.tape,hs.output⟩,S',ha',hk⟩
   ·cases hc
 | seq x y ihx ihy=>
  intro sc hc K S a w ha h
  simp only[compC]at hc
  split at hc
  ·rename_i sx sy h1 h2
   split at hc
   ·-- a cut
    rename_i vars _
    simp only[Option.some.injEq]at hc;subst hc
    simp only[WP]at h
    obtain⟨I,hx,hy⟩:=h
    refine wp_seq (wp_mono (ihx sx h1 _ S a w ha hx) ?_)
    intro e a' w' hq
    cases e with
    | normal=>
     obtain⟨hf,hs,S',ha',hk⟩:=hq
     simp only at hk
     split at hk
     ·rename_i ss hss
      obtain⟨X,Y,hX,hY,hXH⟩:=appL_val hk
      rw[getAll_spec ha'.agree hss]at hX hY
      have hall:=allL_val hy hX hY
      have hmods:Fr (dedup (dstsC x)) a a':=hf.mono fun t ht=>dedup_mem.2 ht
      have hd:=ha.del hmods ha'.size ha'.defers
      have hag:Ag N (syms (vars.map (·.1)) ((vars.map (·.1)).map fun t=>a'.tmps.getD t undef) (S.del (dedup (dstsC x)))) a':=⟨ha'.size,ha'.defers,get_syms _ hd.agree⟩
      refine wp_mono (ihy sy h2 K _ a' w' hag (hall w'.heap hXH)) ?_
      intro e2 a2 w2 hq2
      cases e2 with
      | normal=>exact⟨hf.trans hq2.1,hs.trans hq2.2.1,hq2.2.2⟩
      | exit id=>exact⟨hf.trans hq2.1,hs.trans hq2.2.1,hq2.2.2⟩
      | ret=>exact⟨hf.trans hq2.1,hs.trans hq2.2.1,hq2.2.2⟩
      | panic ch=>exact⟨hq2.1,hs.trans hq2.2.1,hq2.2.2⟩
      | _=>exact hq2.elim
     ·exact hk.elim
    | exit id=>exact⟨hq.1.mono fun t ht=>List.mem_append_left _ ht,hq.2⟩
    | ret=>exact⟨hq.1.mono fun t ht=>List.mem_append_left _ ht,hq.2⟩
    | panic ch=>exact hq
    | _=>exact hq.elim
   ·simp only[Option.some.injEq]at hc;subst hc
    simp only[WP]at h
    refine wp_seq (wp_mono (ihx sx h1 _ S a w ha h) ?_)
    intro e a' w' hq
    cases e with
    | normal=>
     obtain⟨hf,hs,S',ha',hk⟩:=hq
     refine wp_mono (ihy sy h2 K S' a' w' ha' hk) ?_
     intro e2 a2 w2 hq2
     cases e2 with
     | normal=>exact⟨hf.trans hq2.1,hs.trans hq2.2.1,hq2.2.2⟩
     | exit id=>exact⟨hf.trans hq2.1,hs.trans hq2.2.1,hq2.2.2⟩
     | ret=>exact⟨hf.trans hq2.1,hs.trans hq2.2.1,hq2.2.2⟩
     | panic ch=>exact⟨hq2.1,hs.trans hq2.2.1,hq2.2.2⟩
     | _=>exact hq2.elim
    | exit id=>exact⟨hq.1.mono fun t ht=>List.mem_append_left _ ht,hq.2⟩
    | ret=>exact⟨hq.1.mono fun t ht=>List.mem_append_left _ ht,hq.2⟩
    | panic ch=>exact hq
    | _=>exact hq.elim
  ·cases hc
 | cond c x y ihx ihy=>
  intro sc hc K S a w ha h
  simp only[compC]at hc
  split at hc
  ·rename_i sx sy h1 h2
   simp only[Option.some.injEq]at hc;subst hc
   simp only[WP]at h
   split at h
   ·rename_i s hs
    obtain⟨b,h3,h4⟩:=branch_sound h
    have hb:a.eval c=.bool b:=by rw[ev_sound ha.agree hs,h3]
    cases b
    ·refine wp_cond_false hb (wp_mono (ihy sy h2 K S a w ha h4) ?_)
     intro e a' w' hq
     cases e with
     | normal=>exact⟨hq.1.mono fun t ht=>List.mem_append_right _ ht,hq.2⟩
     | exit id=>exact⟨hq.1.mono fun t ht=>List.mem_append_right _ ht,hq.2⟩
     | ret=>exact⟨hq.1.mono fun t ht=>List.mem_append_right _ ht,hq.2⟩
     | panic ch=>exact hq
     | _=>exact hq.elim
    ·refine wp_cond_true hb (wp_mono (ihx sx h1 K S a w ha h4) ?_)
     intro e a' w' hq
     cases e with
     | normal=>exact⟨hq.1.mono fun t ht=>List.mem_append_left _ ht,hq.2⟩
     | exit id=>exact⟨hq.1.mono fun t ht=>List.mem_append_left _ ht,hq.2⟩
     | ret=>exact⟨hq.1.mono fun t ht=>List.mem_append_left _ ht,hq.2⟩
     | panic ch=>exact hq
     | _=>exact hq.elim
   ·exact h.elim
  ·cases hc
 | block id x ih=>
  intro sc hc K S a w ha h
  simp only[compC]at hc
  split at hc
  ·rename_i sx h1
   simp only[Option.some.injEq]at hc;subst hc
   simp only[WP]at h
   refine wp_block (wp_mono (ih sx h1 _ S a w ha h) ?_)
   intro e a' w' hq
   cases e with
   | normal=>exact hq
   | exit i=>
    obtain⟨hf,hs,S',ha',hk⟩:=hq
    simp only[Exit.inBlock]
    simp only at hk
    split at hk
    ·rename_i hb
     rw[if_pos (Nat.eq_of_beq_eq_true hb)]
     exact⟨hf,hs,S',ha',hk⟩
    ·rename_i hb
     rw[if_neg]
     ·exact⟨hf,hs,S',ha',hk⟩
     ·rintro rfl
      simp at hb
   | ret=>exact hq
   | panic ch=>exact hq
   | _=>exact hq.elim
  ·cases hc
 | loop x ih=>
  intro sc hc K S a w ha h
  simp only[compC]at hc
  split at hc
  ·rename_i sx h1
   simp only[Option.some.injEq]at hc;subst hc
   simp only[WP]at h
   generalize hlv:lives S (without (dedup (dstsC x)) ex)=lv at h
   obtain⟨I,μ,hin,hst⟩:=h
   have hslots:lv.map (·.2.toV)=(lv.map (·.1)).map fun t=>a.tmps.getD t undef:=by
    rw[List.map_map]
    apply List.map_congr_left
    intro y hy
    rw[←hlv]at hy
    exact(ha.agree y.1 y.2 (lives_get hy)).symm
   refine wp_loop
    (fun a' w'=>Fr (dstsC x) a a'∧Sim w w'∧a'.tmps.size=N∧a'.defers=[]∧∃X m,valL (Heap→Prop) _ I ((lv.map (·.1)).map fun t=>a'.tmps.getD t undef)=some X∧valL (Heap→Nat) _ μ ((lv.map (·.1)).map fun t=>a'.tmps.getD t undef)=some m∧X w'.heap)
    (fun a' w'=>((valL (Heap→Nat) _ μ ((lv.map (·.1)).map fun t=>a'.tmps.getD t undef)).map (· w'.heap)).getD 0) ?_ ?_
   ·obtain⟨X,m,hX,hm',hXH⟩:=appL_val hin
    rw[hslots]at hX hm'
    exact⟨Fr.refl _ a,Sim.refl w,ha.size,ha.defers,X,m,hX,hm',hXH⟩
   ·rintro a1 w1 ⟨hf1,hs1,hz1,hd1,X,m,hX,hm',hXH⟩
    have hall:=allL_val hst hX hm' w1.heap hXH
    have hmods:Fr (dedup (dstsC x)) a a1:=hf1.mono fun t ht=>dedup_mem.2 ht
    have hd:=ha.del hmods hz1 hd1
    have hag:Ag N (syms (lv.map (·.1)) ((lv.map (·.1)).map fun t=>a1.tmps.getD t undef) (S.del (dedup (dstsC x)))) a1:=⟨hz1,hd1,get_syms _ hd.agree⟩
    have hself:∀{b:Act},Fr (dstsC x) a1 b→Fr (dstsC x) a b:=fun hb=>(hf1.trans hb).mono fun t ht=>by simpa using ht
    refine wp_mono (ih sx h1 _ _ a1 w1 hag hall) ?_
    intro e a2 w2 hq
    cases e with
    | normal=>
     obtain⟨hf2,hs2,S2,ha2,hk⟩:=hq
     simp only at hk
     split at hk
     ·rename_i ss hss
      obtain⟨X2,m2,hX2,hm2,hx2,hlt⟩:=appL_val hk
      rw[getAll_spec ha2.agree hss]at hX2 hm2
      refine⟨⟨hself hf2,hs1.trans hs2,ha2.size,ha2.defers,X2,m2,hX2,hm2,hx2⟩,?_⟩
      rw[hm2,hm']
      exact hlt
     ·exact hk.elim
    | exit id=>exact⟨hself hq.1,hs1.trans hq.2.1,hq.2.2⟩
    | ret=>exact⟨hself hq.1,hs1.trans hq.2.1,hq.2.2⟩
    | panic ch=>exact⟨hq.1,hs1.trans hq.2.1,hq.2.2⟩
    | _=>exact hq.elim
  ·cases hc
 | exit id=>
  intro sc hc K S a w ha h
  simp only[compC,Option.some.injEq]at hc;subst hc
  exact wp_exit ⟨Fr.refl _ a,Sim.refl w,S,ha,h⟩
 | ret=>
  intro sc hc K S a w ha h
  simp only[compC,Option.some.injEq]at hc;subst hc
  exact wp_ret ⟨Fr.refl _ a,Sim.refl w,S,ha,h⟩
 | _=>
  intro sc hc
  simp[compC]at hc
def compRes(P:Program):List ResultVar→Option (List RV)
 | []=>some []
 | .tmp t::r=>match compRes P r with
  | some l=>some (.tmp t::l)
  | none=>none
 | .cell a t::r=>match compR P (.load t (.tmp a)),compRes P r with
  | some (.load z ag (.t a')),some l=>match Nat.beq a a' with
   | true=>some (.cell z ag a'::l)
   | false=>none
  | _,_=>none
def resOf(tmps:Array Value):ResultVar→Sem Value
 | .tmp t=>pure (tmps.getD t undef)
 | .cell a t=>do loadVar t (←asAddr (tmps.getD a undef))
theorem results_eq(fn:Func)(tmps:Array Value):results fn tmps=(do
  let vs ←fn.results.mapM (resOf tmps)
  pure (if h:vs.size=1 then vs[0]else .tuple vs)):=by
 unfold results
 congr 1
theorem res_sound{S:Sym}{a:Act}{w:World}(ha:Agree S a):∀(rs:List ResultVar)(l:List RV)(K:List Value→Prop),compRes P rs=some l→resK w.heap l S K →
  ∃vs,(rs.mapM (resOf a.tmps)).run P w=.ok vs w∧K vs
 | [],l,K,hc,h=>by
  simp only[compRes,Option.some.injEq]at hc;subst hc
  exact⟨[],by simp,h⟩
 | .tmp t::r,l,K,hc,h=>by
  simp only[compRes]at hc
  split at hc
  ·rename_i l' hl
   simp only[Option.some.injEq]at hc;subst hc
   simp only[resK]at h
   split at h
   ·rename_i s hs
    obtain⟨vs,h1,h2⟩:=res_sound ha r l' _ hl h
    refine⟨_,?_,h2⟩
    rw[List.mapM_cons]
    simp only[resOf,Sem.run_bind,Sem.run_pure,Result.andThen_ok,h1,ha t s hs]
   ·exact h.elim
  ·cases hc
 | .cell x t::r,l,K,hc,h=>by
  simp only[compRes]at hc
  split at hc
  ·rename_i z ag a' l' hl0 hl
   split at hc
   ·rename_i hb
    obtain rfl:=Nat.eq_of_beq_eq_true hb
    simp only[Option.some.injEq]at hc;subst hc
    simp only[resK]at h
    obtain ⟨s, φ, h1, hφ, h2⟩ := read_sound (P := P) (o := ⟨none, .load t (.tmp x), 0, "", #[], none⟩) hl0 ha h
    obtain⟨vs,h3,h4⟩:=res_sound ha r l' _ hl h1
    refine⟨_,?_,h4⟩
    have h5:=h2 w hφ
    simp only[execOp,Sem.run_bind]at h5
    have h6:((asAddr (a.tmps.getD x undef)).run P w).andThen (fun ad w=>(loadVar t ad).run P w)=.ok s.toV w:=by
     cases hx:a.tmps.getD x undef with
     | pointer p=>
      cases p with
      | none=>simp[Act.eval,hx,Instr.loadAt,Instr.sureAddr]at h5
      | some ad=>
       simp only[Act.eval,hx,Instr.loadAt,Instr.sureAddr,pure_bind]at h5
       cases hr:(loadVar t ad).run P w with
       | ok v w'=>
        rw[hr]at h5
        simp only[Result.andThen_ok,Sem.run_pure,Result.ok.injEq,Next.value.injEq]at h5
        obtain⟨rfl,rfl⟩:=h5
        simpa[asAddr]using hr
       | halt q w'=>rw[hr]at h5;simp at h5
     | _=>simp[Act.eval,hx,Instr.loadAt,Instr.sureAddr]at h5
    rw[List.mapM_cons]
    simp only[resOf,Sem.run_bind]at h6 ⊢
    rw[h6]
    simp only[Result.andThen_ok,h3,Sem.run_pure]
   ·cases hc
  ·cases hc
theorem start_get:∀(args:List Value)(i t:Nat)(s:SV),(start i args).get t=some s→∃v,args[t - i]?=some v∧i≤t∧s=.v v
 | [],_,_,_,h=>by cases h
 | v::r,i,t,s,h=>by
  simp only[start,get_cons]at h
  split at h
  ·rename_i e;subst e
   simp only[Option.some.injEq]at h
   exact⟨v,by simp,Nat.le_refl _,h.symm⟩
  ·obtain⟨u,h1,h2,h3⟩:=start_get r (i+1) t s h
   refine⟨u,?_,by omega,h3⟩
   rw[show t - i=(t - (i+1))+1 by omega]
   simpa using h1
theorem start_agree(args:List Value)(n:Nat):Agree (start 0 args) {tmps:=args.toArray++Array.replicate n undef,defers:=[]}:=by
 intro t s h
 obtain⟨v,h1,_,rfl⟩:=start_get args 0 t s h
 simp only[Nat.sub_zero]at h1
 have hlt:t<args.length:=(List.getElem?_eq_some_iff.1 h1).1
 simp only[Array.getD_eq_getD_getElem?]
 rw[Array.getElem?_append_left (by simpa using hlt)]
 simp[h1,SV.toV]
theorem FnX_of_WP{C:CallP}{X:Value→Heap→Prop} [Fits P C X]{f:FuncId}{fn:Func}{c:Code}{sc:SCode}{rs:List RV}{ex:List Nat}{ann:List (Nat×List (Nat×Value))}{args:List Value}{H:Heap}{R:Value→Heap→Prop}(hm:P.follows .mixedOrders=true)
  (hf:P.funcs[f]?=some fn) (hb:fn.body=some c) (hc:compC P fn.ntmps ex ann c=some sc) (hr:compRes P fn.results.toList=some rs) (hn:args.length≤fn.ntmps) {S0:Sym}
  (hS:Agree S0 {tmps:=args.toArray++Array.replicate (fn.ntmps - args.toArray.size) undef,defers:=[]}) (h:WP P C X sc ⟨fun S H=>retK rs R S H,fun _ _ _=>False,fun S H=>retK rs R S H⟩ S0 H):DoesX P f args H R X:=by
 intro w hw
 subst hw
 refine calls_of_wp hf hb ?_
 have hag:Ag fn.ntmps S0 {tmps:=args.toArray++Array.replicate (fn.ntmps - args.toArray.size) undef,defers:=[]}:=⟨by simp;omega,rfl,hS⟩
 refine wp_mono (code_sound hm c sc hc _ _ _ w hag h) ?_
 intro e a' w' hq
 have fin:Sim w w'→(∃S,Ag fn.ntmps S a'∧retK rs R S w'.heap)→a'.defers=[]∧∃v,(results fn a'.tmps).run P w'=.ok v w'∧((∃u,Ending.returned v=.returned u∧Sim w w'∧R u w'.heap)∨∃p,Ending.returned v=.panicked [{v:=p,recovered:=false}]∧Sim w w'∧X p w'.heap):=by
  rintro hs ⟨S,ha,hk⟩
  obtain⟨vs,h1,h2⟩:=res_sound (P:=P) ha.agree fn.results.toList rs _ hr hk
  refine⟨ha.defers,(if h:vs.toArray.size=1 then vs.toArray[0]else .tuple vs.toArray),?_,.inl ⟨_,rfl,hs,?_⟩⟩
  ·rw[results_eq]
   have e:fn.results=fn.results.toList.toArray:=by simp
   rw[e,List.mapM_toArray]
   simp only[Sem.run_bind,Sem.run_map,h1,Result.andThen_ok,Sem.run_pure]
  ·match vs,h2 with
   | [],h2=>exact h2
   | [v],h2=>exact h2
   | _::_::_,h2=>exact h2
 cases e with
 | normal=>exact fin hq.2.1 hq.2.2
 | ret=>exact fin hq.2.1 hq.2.2
 | panic ch=>obtain⟨hd,hs,p,rfl,hx⟩:=hq;exact⟨hd,.inr ⟨p,rfl,hs,hx⟩⟩
 | exit id=>obtain⟨_,_,_,_,h⟩:=hq;exact h.elim
 | _=>exact hq.elim
theorem Does.x{f:FuncId}{args:List Value}{H:Heap}{R X:Value→Heap→Prop}(h:Does P f args H R):DoesX P f args H R fun p H=>X p H:=fun w hw=>(h w hw).mono fun _ _ h=>.inl h
theorem DoesX.plain{f:FuncId}{args:List Value}{H:Heap}{R X:Value→Heap→Prop}(h:DoesX P f args H R X)(hx:∀p H,¬X p H):Does P f args H R:=fun w hw=>(h w hw).mono fun _ _ h=>h.elim id fun ⟨p,_,_,h⟩=>absurd h (hx p _)
theorem DoesX.mono{f:FuncId}{args:List Value}{H:Heap}{R R' X X':Value→Heap→Prop}(h:DoesX P f args H R X)(hr:∀v H,R v H→R' v H)(hx:∀p H,X p H→X' p H):DoesX P f args H R' X':=fun w hw=>(h w hw).mono fun _ _ h=>h.elim (fun ⟨v,h1,h2,h3⟩=>.inl ⟨v,h1,h2,hr _ _ h3⟩) fun ⟨p,h1,h2,h3⟩=>.inr ⟨p,h1,h2,hx _ _ h3⟩
theorem Fn_of_WP{f:FuncId}{fn:Func}{c:Code}{sc:SCode}{rs:List RV}{ex:List Nat}{ann:List (Nat×List (Nat×Value))}{args:List Value}{H:Heap}{R:Value→Heap→Prop}(hm:P.follows .mixedOrders=true)
  (hf:P.funcs[f]?=some fn) (hb:fn.body=some c) (hc:compC P fn.ntmps ex ann c=some sc) (hr:compRes P fn.results.toList=some rs) (hn:args.length≤fn.ntmps) {S0:Sym}
  (hS:Agree S0 {tmps:=args.toArray++Array.replicate (fn.ntmps - args.toArray.size) undef,defers:=[]}) (h:WP P (Does P) (fun _ _=>False) sc ⟨fun S H=>retK rs R S H,fun _ _ _=>False,fun S H=>retK rs R S H⟩ S0 H):Does P f args H R:=
 (FnX_of_WP (C:=Does P) (X:=fun _ _=>False) hm hf hb hc hr hn hS h).plain fun _ _ h=>h
end
end Go.Vc
namespace Go.Vc
def resSlots:List ResultVar→List Nat
 | []=>[]
 | .tmp t::r=>t::resSlots r
 | .cell _ _::r=>resSlots r
def isWide:List (Nat×List (Nat×Value))→Bool
 | []=>false
 | (k,_)::r=>match Nat.beq k 999999 with|true=>true|false=>isWide r
def startW(wide:Bool)(args:List Value):Sym:=
 match wide with
 | true=>(wideKey,.v undef)::start 0 args
 | false=>start 0 args
def Walk(P:Program)(f:FuncId)(ann:List (Nat×List (Nat×Value)))(args:List Value)(H:Heap)(R:Value→Heap→Prop):Prop:=
 match P.funcs[f]? with
 | none=>False
 | some fn=>match fn.body with
  | none=>False
  | some c=>match compC P fn.ntmps (resSlots fn.results.toList) ann c,compRes P fn.results.toList with
   | some sc,some rs=>match Nat.ble args.length fn.ntmps && Nat.ble fn.ntmps wideKey with
    | true=>WP P (Does P) (fun _ _=>False) sc ⟨fun S H=>retK rs R S H,fun _ _ _=>False,fun S H=>retK rs R S H⟩ (startW (isWide ann) args) H
    | false=>False
   | _,_=>False
theorem Fn_of_Walk{P:Program}{f:FuncId}{ann:List (Nat×List (Nat×Value))}{args:List Value}{H:Heap}{R:Value→Heap→Prop}(hm:P.follows .mixedOrders=true)(h:Walk P f ann args H R):Does P f args H R:=by
 unfold Walk at h
 split at h
 ·exact h.elim
 ·rename_i fn hf
  split at h
  ·exact h.elim
  ·rename_i c hb
   split at h
   ·rename_i sc rs hc hr
    split at h
    ·rename_i hn
     rw[Bool.and_eq_true]at hn
     have hn1:=Nat.le_of_ble_eq_true hn.1
     have hn2:=Nat.le_of_ble_eq_true hn.2
     refine Fn_of_WP hm hf hb hc hr hn1 (S0:=startW (isWide ann) args) ?_ h
     unfold startW
     split
     ·intro t s hs
      rw[get_cons]at hs
      split at hs
      ·rename_i e
       subst e
       simp only[Option.some.injEq]at hs
       subst hs
       have:({tmps:=args.toArray++Array.replicate (fn.ntmps - args.toArray.size) undef,defers:=[]}:Act).tmps.size≤wideKey:=by simp;omega
       rw[Array.getD_eq_getD_getElem?,Array.getElem?_eq_none this]
       rfl
      ·exact start_agree args _ t s hs
     ·exact start_agree args _
    ·exact h.elim
   ·exact h.elim
theorem Fn_of_vc{P:Program}{f:FuncId}{ann:List (Nat×List (Nat×Value))}{args:List Value}{H:Heap}{R:Value→Heap→Prop}{V:Prop}(hm:P.follows .mixedOrders=true)(e:Walk P f ann args H R=V)(h:V):Does P f args H R:=
 Fn_of_Walk hm (e▸h)
def WalkX(P:Program)(f:FuncId)(ann:List (Nat×List (Nat×Value)))(args:List Value)(H:Heap)(R X:Value→Heap→Prop):Prop:=
 match P.funcs[f]? with
 | none=>False
 | some fn=>match fn.body with
  | none=>False
  | some c=>match compC P fn.ntmps (resSlots fn.results.toList) ann c,compRes P fn.results.toList with
   | some sc,some rs=>match Nat.ble args.length fn.ntmps && Nat.ble fn.ntmps wideKey with
    | true=>WP P (fun f args H R=>DoesX P f args H R X) X sc ⟨fun S H=>retK rs R S H,fun _ _ _=>False,fun S H=>retK rs R S H⟩ (startW (isWide ann) args) H
    | false=>False
   | _,_=>False
theorem FnX_of_Walk{P:Program}{f:FuncId}{ann:List (Nat×List (Nat×Value))}{args:List Value}{H:Heap}{R X:Value→Heap→Prop}(hm:P.follows .mixedOrders=true)(h:WalkX P f ann args H R X):DoesX P f args H R X:=by
 unfold WalkX at h
 split at h
 ·exact h.elim
 ·rename_i fn hf
  split at h
  ·exact h.elim
  ·rename_i c hb
   split at h
   ·rename_i sc rs hc hr
    split at h
    ·rename_i hn
     rw[Bool.and_eq_true]at hn
     have hn1:=Nat.le_of_ble_eq_true hn.1
     have hn2:=Nat.le_of_ble_eq_true hn.2
     refine FnX_of_WP hm hf hb hc hr hn1 (S0:=startW (isWide ann) args) ?_ h
     unfold startW
     split
     ·intro t s hs
      rw[get_cons]at hs
      split at hs
      ·rename_i e
       subst e
       simp only[Option.some.injEq]at hs
       subst hs
       have:({tmps:=args.toArray++Array.replicate (fn.ntmps - args.toArray.size) undef,defers:=[]}:Act).tmps.size≤wideKey:=by simp;omega
       rw[Array.getD_eq_getD_getElem?,Array.getElem?_eq_none this]
       rfl
      ·exact start_agree args _ t s hs
     ·exact start_agree args _
    ·exact h.elim
   ·exact h.elim
theorem FnX_of_vc{P:Program}{f:FuncId}{ann:List (Nat×List (Nat×Value))}{args:List Value}{H:Heap}{R X:Value→Heap→Prop}{V:Prop}(hm:P.follows .mixedOrders=true)(e:WalkX P f ann args H R X=V)(h:V):DoesX P f args H R X:=
 FnX_of_Walk hm (e▸h)
end Go.Vc
namespace Go.Vc
def Blk(H:Heap)(b:Nat)(cs:List Value):Prop:=∃e,H[b]?=some (.cells cs.toArray e)
structure Ext(M:List Nat) (H H':Heap):Prop where
 size:H.size≤H'.size
 keep:∀k,k<H.size→k∉M→H'[k]?=H[k]?
theorem Ext.refl(M:List Nat)(H:Heap):Ext M H H:=⟨Nat.le_refl _,fun _ _ _=>rfl⟩
theorem Ext.trans{M:List Nat}{A B C:Heap}(h:Ext M A B)(k:Ext M B C):Ext M A C:=
 ⟨Nat.le_trans h.size k.size,fun i hi hm=>(k.keep i (Nat.lt_of_lt_of_le hi h.size) hm).trans (h.keep i hi hm)⟩
theorem Ext.mono{M M':List Nat}{A B:Heap}(h:Ext M A B)(hs:∀k,k<A.size→k∈M→k∈M'):Ext M' A B:=
 ⟨h.size,fun i hi hm=>h.keep i hi (fun hx=>hm (hs i hi hx))⟩
theorem Ext.any{M:List Nat}{A B:Heap}(h:Ext [] A B):Ext M A B:=h.mono fun _ _ hk=>by cases hk
theorem Ext.trans'{M N:List Nat}{A B C:Heap}(h:Ext M A B)(k:Ext N B C)(hn:∀i,i∈N→A.size≤i∨i∈M):Ext M A C:=
 ⟨Nat.le_trans h.size k.size,fun i hi hm=>(k.keep i (Nat.lt_of_lt_of_le hi h.size) (fun hx=>by
  rcases hn i hx with h'|h'
  ·omega
  ·exact hm h')).trans (h.keep i hi hm)⟩
theorem Blk.lt{H:Heap}{b:Nat}{cs:List Value}(h:Blk H b cs):b<H.size:=by
 obtain⟨e,h⟩:=h
 exact(Array.getElem?_eq_some_iff.1 h).1
theorem Blk.ext{M:List Nat}{H H':Heap}{b:Nat}{cs:List Value}(h:Blk H b cs)(he:Ext M H H')(hm:b∉M):Blk H' b cs:=by
 have hlt:=h.lt
 obtain⟨e,h⟩:=h
 exact⟨e,(he.keep b hlt hm).trans h⟩
theorem Blk.cell{H:Heap}{b:Nat}{cs:List Value}(h:Blk H b cs)(o:Nat):hcell H b o=cs[o]?:=by
 obtain⟨e,h⟩:=h
 simp[hcell,h]
theorem Blk.free{H:Heap}{b:Nat}{cs:List Value}(h:Blk H b cs)(o:Nat):hfrozen H b o=false:=by
 obtain⟨e,h⟩:=h
 simp[hfrozen,h]
theorem Blk.cells{H:Heap}{b:Nat}{cs:List Value}(h:Blk H b cs):∀(n o:Nat),o+n≤cs.length→Cells H b o n
 | 0,_,_=>trivial
 | n+1,o,hn=>⟨⟨⟨_,by rw[h.cell,List.getElem?_eq_getElem (by omega)]⟩,h.free o⟩,h.cells n (o+1) (by omega)⟩
theorem New.blk{H H':Heap}{b:Nat}{vs:List Value}{e:TypeId}(h:New H b vs e H'):Blk H' b vs:=by
 obtain⟨rfl,rfl⟩:=h
 exact⟨e,by simp⟩
theorem New.ext{H H':Heap}{b:Nat}{vs:List Value}{e:TypeId}(h:New H b vs e H'):Ext [] H H':=by
 obtain⟨rfl,rfl⟩:=h
 refine⟨by simp,fun k hk _=>?_⟩
 rw[Array.getElem?_push,if_neg (by omega)]
theorem New.eq{H H':Heap}{b:Nat}{vs:List Value}{e:TypeId}(h:New H b vs e H'):b=H.size:=h.1
theorem New.size{H H':Heap}{b:Nat}{vs:List Value}{e:TypeId}(h:New H b vs e H'):H'.size=H.size+1:=by
 obtain⟨rfl,rfl⟩:=h
 simp
def splice(cs:List Value)(o:Nat)(vs:List Value):List Value:=cs.take o++vs++cs.drop (o+vs.length)
theorem splice_one(cs:List Value)(o:Nat)(v:Value)(h:o<cs.length):splice cs o [v]=cs.set o v:=by
 simp[splice,List.set_eq_take_append_cons_drop,h]
theorem splice_cons(cs:List Value)(o:Nat)(v:Value)(vs:List Value)(h:o+(v::vs).length≤cs.length):splice (cs.set o v) (o+1) vs=splice cs o (v::vs):=by
 simp only[List.length_cons]at h
 have h1:o<cs.length:=by omega
 simp only[splice,List.set_eq_take_append_cons_drop,if_pos h1]
 rw[show List.take (o+1) (List.take o cs++v::List.drop (o+1) cs)=List.take o cs++[v]by
  rw[List.take_append]
  have:(List.take o cs).length=o:=by simp;omega
  rw[this,List.take_of_length_le (by omega),show o+1 - o=1 by omega]
  simp]
 rw[show List.drop (o+1+vs.length) (List.take o cs++v::List.drop (o+1) cs)=List.drop (o+(v::vs).length) cs by
  rw[List.drop_append]
  have:(List.take o cs).length=o:=by simp;omega
  rw[this,List.drop_of_length_le (by omega),show o+1+vs.length - o=vs.length+1 by omega]
  simp only[List.nil_append,List.drop_succ_cons,List.drop_drop,List.length_cons]
  congr 1
  omega]
 simp
theorem hset_blk{H:Heap}{b:Nat}{cs:List Value}(h:Blk H b cs)(o:Nat)(v:Value):Blk (hset H b o v) b (cs.set o v):=by
 obtain⟨e,h⟩:=h
 refine⟨e,?_⟩
 simp only[hset,Array.getElem?_modify,if_pos,h,Option.map_some]
 simp
theorem hset_other{H:Heap}{b o k:Nat}{v:Value}(h:k≠b):(hset H b o v)[k]?=H[k]?:=by
 simp only[hset,Array.getElem?_modify]
 rw[if_neg (fun e=>h e.symm)]
theorem hset_size{H:Heap}{b o:Nat}{v:Value}:(hset H b o v).size=H.size:=by simp[hset]
theorem hsets_ext{H:Heap}{b:Nat}:∀(vs:List Value)(o:Nat),Ext [b] H (hsets H b o vs)∧(hsets H b o vs).size=H.size
 | [],o=>⟨Ext.refl _ _,rfl⟩
 | v::r,o=>by
  have h1:Ext [b] H (hset H b o v):=⟨by rw[hset_size];exact Nat.le_refl _,fun k _ hk=>hset_other (by simpa using hk)⟩
  obtain⟨h2,h3⟩:=hsets_ext (H:=hset H b o v) r (o+1)
  exact⟨h1.trans h2,by rw[hsets,h3,hset_size]⟩
theorem hsets_blk{b:Nat}:∀(vs:List Value)(o:Nat)(H:Heap)(cs:List Value),Blk H b cs→o+vs.length≤cs.length→Blk (hsets H b o vs) b (splice cs o vs)
 | [],o,H,cs,h,_=>by simpa[splice,hsets]using h
 | v::r,o,H,cs,h,hl=>by
  have h1:=hset_blk h o v
  have h2:=hsets_blk r (o+1) _ _ h1 (by simp at hl ⊢;omega)
  rw[splice_cons _ _ _ _ hl]at h2
  exact h2
theorem Puts.blk{H H':Heap}{b o:Nat}{vs cs:List Value}(h:Puts H b o vs H')(hb:Blk H b cs)(hl:o+vs.length≤cs.length):Blk H' b (splice cs o vs):=by
 rw[h];exact hsets_blk vs o H cs hb hl
theorem Puts.ext{H H':Heap}{b o:Nat}{vs:List Value}(h:Puts H b o vs H'):Ext [b] H H':=by
 rw[h];exact(hsets_ext vs o).1
theorem Puts.size{H H':Heap}{b o:Nat}{vs:List Value}(h:Puts H b o vs H'):H'.size=H.size:=by
 rw[h];exact(hsets_ext vs o).2
def Own(H:Heap)(size:Nat)(a:Option Addr)(len cap:Nat)(xs:List Value):Prop:=
 xs.length=len*size∧len≤cap∧cap≤maxLen∧((a=none∧cap=0)∨∃b tail,a=some ⟨b,0,none⟩∧Blk H b (xs++tail)∧(xs++tail).length=cap*size)
def blkOf(a:Option Addr):List Nat:=match a with|some ad=>[ad.block]|none=>[]
theorem Own.row{H:Heap}{size:Nat}{a:Option Addr}{len cap:Nat}{xs:List Value}(h:Own H size a len cap xs)(l c:Nat):SRow H size len (.slice a l c) xs:=by
 obtain⟨h1,h2,h3,h4⟩:=h
 refine⟨h1,?_⟩
 rcases h4 with⟨rfl,rfl⟩|⟨b,tail,rfl,hb,_⟩
 ·have:len=0:=by omega
  subst this
  simpa using h1
 ·refine⟨.inr rfl,fun j u hj=>?_⟩
  have hlt:j<xs.length:=(List.getElem?_eq_some_iff.1 hj).1
  show hcell H b (0+j)=some u
  rw[Nat.zero_add,hb.cell,List.getElem?_append_left hlt]
  exact hj
theorem Own.ext{M:List Nat}{H H':Heap}{size:Nat}{a:Option Addr}{len cap:Nat}{xs:List Value}(h:Own H size a len cap xs)(he:Ext M H H')(hm:∀k,k∈blkOf a→k∉M):Own H' size a len cap xs:=by
 obtain⟨h1,h2,h3,h4⟩:=h
 refine⟨h1,h2,h3,?_⟩
 rcases h4 with h4|⟨b,tail,rfl,hb,hl⟩
 ·exact .inl h4
 ·exact .inr ⟨b,tail,rfl,hb.ext he (hm b (by simp[blkOf])),hl⟩
theorem Own.lt{H:Heap}{size:Nat}{a:Option Addr}{len cap:Nat}{xs:List Value}(h:Own H size a len cap xs):∀k,k∈blkOf a→k<H.size:=by
 obtain⟨h1,h2,h3,h4⟩:=h
 rcases h4 with⟨rfl,_⟩|⟨b,tail,rfl,hb,hl⟩
 ·intro k hk;cases hk
 ·intro k hk
  simp only[blkOf,List.mem_singleton]at hk
  subst hk
  exact hb.lt
theorem Own.nil(H:Heap)(size:Nat):Own H size none 0 0 []:=⟨by simp,Nat.le_refl _,by unfold maxLen;omega,.inl ⟨rfl,rfl⟩⟩
theorem Own.of_new{H:Heap}{size len cap b:Nat}{cs:List Value}(hb:Blk H b cs)(hc:cs.length=cap*size)(hl:len≤cap)(hm:cap≤maxLen):Own H size (some ⟨b,0,none⟩) len cap (cs.take (len*size)):=by
 refine⟨?_,hl,hm,.inr ⟨b,cs.drop (len*size),rfl,by simpa using hb,by simpa using hc⟩⟩
 rw[List.length_take,hc]
 exact Nat.min_eq_left (Nat.mul_le_mul_right _ hl)
theorem hcell_lt{H:Heap}{b o:Nat}{v:Value}(h:hcell H b o=some v):b<H.size:=by
 unfold hcell at h
 cases hb:H[b]? with
 | none=>rw[hb]at h;cases h
 | some x=>exact(Array.getElem?_eq_some_iff.1 hb).1
theorem hcell_ext{M:List Nat}{H H':Heap}{b o:Nat}{v:Value}(h:hcell H b o=some v)(he:Ext M H H')(hm:b∉M):hcell H' b o=some v:=by
 have hlt:=hcell_lt h
 unfold hcell at h ⊢
 rw[he.keep b hlt hm]
 exact h
theorem SRow.ext{M:List Nat}{H H':Heap}{size n:Nat}{a:Option Addr}{l c:Nat}{xs:List Value}(h:SRow H size n (.slice a l c) xs)(he:Ext M H H')(hm:∀k,k∈blkOf a→k∉M):SRow H' size n (.slice a l c) xs:=by
 obtain⟨h1,h2⟩:=h
 refine⟨h1,?_⟩
 cases a with
 | none=>exact h2
 | some ad=>
  obtain⟨h3,h4⟩:=h2
  refine⟨h3,fun j u hj=>?_⟩
  exact hcell_ext (h4 j u hj) he (hm _ (by simp[blkOf]))
theorem SRow.get{H:Heap}{n:Nat}{a:Option Addr}{l c:Nat}{xs:List Value}(h:SRow H 1 n (.slice a l c) xs){j:Nat}{u:Value}(hj:xs[j]?=some u):∃b o,a=some ⟨b,o,none⟩∧hcell H b (o+j)=some u:=by
 obtain⟨h1,h2⟩:=h
 cases a with
 | none=>simp only at h2;subst h2;simp at hj
 | some ad=>
  obtain⟨b,o,sp⟩:=ad
  obtain⟨h3,h4⟩:=h2
  simp only at h3 h4
  rcases h3 with rfl|rfl
  ·simp at hj
  ·exact⟨b,o,rfl,h4 j u hj⟩
theorem App.own{H H':Heap}{size:Nat}{e:TypeId}{z:List Value}{a:Option Addr}{len cap:Nat}{old news xs:List Value}{n:Nat}{a':Option Addr}{cap':Nat}(h:App H size e z a len cap old news n a' cap' H')(ho:Own H size a len cap xs)
  (hro:SRow H size len (.slice a len cap) old) (hn:news.length=n*size) (hz:z.length=size) :
  Own H' size a' (len+n) cap' (xs++news)∧Ext (blkOf a) H H'∧(∀k,k∈blkOf a'→k∈blkOf a∨H.size≤k):=by
 have hxs:old=xs:=by
  have h2:=ho.row len cap
  apply List.ext_getElem?
  intro j
  have e1:old.length=xs.length:=by rw[hro.1,h2.1]
  by_cases hj:j<xs.length
  ·obtain⟨_,h3⟩:=hro
   obtain⟨_,h4⟩:=h2
   cases a with
   | none=>simp only at h3 h4;rw[h3,h4]
   | some ad=>
    have h5:=h3.2 j _ (List.getElem?_eq_getElem (by omega))
    have h6:=h4.2 j _ (List.getElem?_eq_getElem hj)
    rw[h6]at h5
    rw[List.getElem?_eq_getElem (by omega),List.getElem?_eq_getElem hj]
    exact h5.symm
  ·rw[List.getElem?_eq_none (by omega),List.getElem?_eq_none (by omega)]
 subst hxs
 obtain⟨o1,o2,o3,o4⟩:=ho
 rcases h with⟨hle,rfl,rfl,hH⟩|⟨hlt,rfl,hge,hm,rfl⟩
 ·rcases o4 with⟨rfl,rfl⟩|⟨b,tail,rfl,hb,hl⟩
  ·simp only at hH
   subst hH
   have e1:len=0:=by omega
   have e2:n=0:=by omega
   subst e1;subst e2
   have e3:old=[]:=by simpa using o1
   have e4:news=[]:=by simpa using hn
   subst e3;subst e4
   exact⟨Own.nil _ _,Ext.refl _ _,fun k hk=>.inl hk⟩
  ·simp only at hH
   subst hH
   have hfit:len*size+news.length≤(old++tail).length:=by
    rw[hl,hn,←Nat.add_mul]
    exact Nat.mul_le_mul_right _ hle
   have hb':=hsets_blk news (0+len*size) H _ hb (by omega)
   have hs:splice (old++tail) (0+len*size) news=(old++news)++tail.drop news.length:=by
    unfold splice
    rw[Nat.zero_add,←o1,List.take_left',List.drop_append]
    ·simp
    ·rfl
   rw[hs]at hb'
   refine⟨⟨by rw[List.length_append,o1,hn,Nat.add_mul],hle,o3,.inr ⟨b,_,rfl,hb',?_⟩⟩,(hsets_ext news _).1,fun k hk=>.inl hk⟩
   rw[←hl]
   rw[List.length_append]at hfit
   simp only[List.length_append,List.length_drop]
   omega
 ·have hsz:(List.replicate (cap' - (len+n)) z).flatten.length=(cap' - (len+n))*size:=by simp[hz]
  have hblk:Blk (H.push (.cells (old++news++(List.replicate (cap' - (len+n)) z).flatten).toArray e)) H.size (old++news++(List.replicate (cap' - (len+n)) z).flatten):=⟨e,by simp⟩
  refine⟨⟨by rw[List.length_append,o1,hn,Nat.add_mul],hge,hm,.inr ⟨H.size,_,rfl,hblk,?_⟩⟩,⟨by simp,fun k hk _=>by rw[Array.getElem?_push,if_neg (by omega)]⟩,fun k hk=>.inr (by
   simp only[blkOf,List.mem_singleton]at hk
   omega)⟩
  rw[List.length_append,List.length_append,hsz,o1,hn,←Nat.add_mul,←Nat.add_mul]
  congr 1
  omega
theorem Own.room{H:Heap}{size:Nat}{a:Option Addr}{len cap n:Nat}{xs:List Value}(h:Own H size a len cap xs)(hle:len+n≤cap):roomOf H a (len*size) (n*size):=by
 obtain⟨o1,o2,o3,o4⟩:=h
 rcases o4 with⟨rfl,_⟩|⟨b,tail,rfl,hb,hl⟩
 ·trivial
 ·refine⟨rfl,hb.cells _ _ ?_⟩
  rw[hl,Nat.zero_add,←Nat.add_mul]
  exact Nat.mul_le_mul_right _ hle
theorem wrap_tdiv{x c:Int}(h0:0≤x)(hc:0<c)(h1:x≤9223372036854775807):IntKind.wrap .i64 (Int.tdiv x c)=x / c:=by
 rw[Int.tdiv_eq_ediv_of_nonneg h0]
 have h2:0≤x / c:=Int.ediv_nonneg h0 (Int.le_of_lt hc)
 have h3:x / c≤x:=Int.ediv_le_self _ h0
 exact wrap_of_in64 ⟨by omega,by omega⟩
theorem tmod_pos{x c:Int}(h0:0≤x):Int.tmod x c=x % c:=Int.tmod_eq_emod_of_nonneg h0
theorem Does.mono{P:Program}{f:FuncId}{args:List Value}{H:Heap}{R R':Value→Heap→Prop}(h:Does P f args H R)(hr:∀v H',R v H'→R' v H'):Does P f args H R':=
 fun w hw=>(h w hw).mono fun _ _ ⟨v,he,hs,hv⟩=>⟨v,he,hs,hr v _ hv⟩
def bytesV(xs:List UInt8):List Value:=xs.map fun b=>.int .u8 b.toNat
theorem bytesV_length(xs:List UInt8):(bytesV xs).length=xs.length:=by simp[bytesV]
theorem bytesV_get(xs:List UInt8)(j:Nat)(h:j<xs.length):(bytesV xs)[j]?=some (.int .u8 (xs.getD j 0).toNat):=by
 simp[bytesV,h]
theorem bytesV_set(xs:List UInt8)(j:Nat)(b:UInt8):bytesV (xs.set j b)=(bytesV xs).set j (.int .u8 b.toNat):=by
 simp[bytesV,List.map_set]
theorem bytesV_one(xs:List UInt8):∀u∈bytesV xs,Value.oneCell' u=true:=by
 intro u hu
 simp only[bytesV,List.mem_map]at hu
 obtain⟨b,_,rfl⟩:=hu
 rfl
theorem dec_eq{p q:Prop}{i:Decidable p}{j:Decidable q}(h:p↔q):@decide p i=@decide q j:=by
 rw[Bool.eq_iff_iff,decide_eq_true_iff,decide_eq_true_iff]
 exact h
theorem dec_bool{p:Prop}{i:Decidable p}{b:Bool}(h:p↔b=true):@decide p i=b:=by
 rw[Bool.eq_iff_iff,decide_eq_true_iff]
 exact h
theorem SRow.at{H:Heap}{size n:Nat}{a:Option Addr}{l c:Nat}{xs:List Value}(h:SRow H size n (.slice a l c) xs){j:Nat}{u:Value}(hj:xs[j]?=some u):∃b o,a=some ⟨b,o,none⟩∧hcell H b (o+j)=some u:=by
 obtain⟨h1,h2⟩:=h
 cases a with
 | none=>simp only at h2;subst h2;simp at hj
 | some ad=>
  obtain⟨b,o,sp⟩:=ad
  obtain⟨h3,h4⟩:=h2
  simp only at h3 h4
  rcases h3 with rfl|rfl
  ·simp at hj
  ·exact⟨b,o,rfl,h4 j u hj⟩
theorem flatten_at{c:Nat}:∀{rows:List (List Value)}{i j:Nat}{r:List Value},(∀r∈rows,r.length=c)→rows[i]?=some r→j<c→rows.flatten[i*c+j]?=r[j]?
 | [],i,j,r,_,h,_=>by simp at h
 | s::rows,0,j,r,hl,h,hj=>by
  simp only[List.getElem?_cons_zero,Option.some.injEq]at h
  subst h
  have:=hl s (by simp)
  rw[List.flatten_cons,Nat.zero_mul,Nat.zero_add,List.getElem?_append_left (by omega)]
 | s::rows,i+1,j,r,hl,h,hj=>by
  have:=hl s (by simp)
  rw[List.flatten_cons,Nat.add_mul,List.getElem?_append_right (by omega)]
  rw[show i*c+1*c+j - s.length=i*c+j by omega]
  exact flatten_at (fun r hr=>hl r (by simp[hr])) (by simpa using h) hj
end Go.Vc
section
open Go
namespace Go.Vc
def SeqH(P:Program)(g:Nat)(lb:List Value)(enc:Nat→List Value)(fin:Nat→Prop)(pre:Heap→Prop):Prop:=
 ∀(l:Nat) (J:Nat→Heap→Prop) (Jx:Heap→Prop),(∀k H,J k H→pre H) →
  (∀k (W:World),J k W.heap→¬fin k→YieldAt Fence.wide 0 P l (enc k).toArray W fun e W'=>Sim W W'∧((e=.returned (.bool true)∧J (k+1) W'.heap)∨(e=.returned (.bool false)∧Jx W'.heap))) →
  ∀H,J 0 H→Does P g (.func (.yield l) #[] #[]::lb) H fun _ H'=>(∃k,fin k∧J k H')∨Jx H'
theorem wide_calm(n:Nat):Fence.wide.depth.isSome=true→1≤n:=fun h=>by cases h
theorem range_heap{P:Program}{g:Operand}{ps:Array Tmp}{assign body:Code}{Q:Exit→Act→World→Prop}{a:Act}{w:World}{gf:Nat}{lb:List Value}
  (hg:a.eval g=.func (.func gf) #[] lb.toArray) (eg:∀args w,(callFunc gf args).run P w=.ok (.enter gf args) w)
  {enc:Nat→List Value} {fin:Nat→Prop} {pre:Heap→Prop} (hseq:SeqH P gf lb enc fin pre) (hps:∀k,(enc k).length=ps.size)
  (I:Nat→Heap→Prop) (Ix:Heap→Prop) (hpre:∀k H,I k H→pre H)
  (h0:∀rec,I 0 ((w.heap.push (.deferred (some []))).push (.loop rec)))
  (hI:∀k H rec,I k H→I k (H.setIfInBounds (w.heap.size+1) (.loop rec))) (hIx:∀H rec,Ix H→Ix (H.setIfInBounds (w.heap.size+1) (.loop rec)))
  (A:Nat→Act→Prop)
  (hassign:∀(l k:Nat) (W:World),assign.wpIn (Fence.wide.inRound l) 0 P (fun e a' W'=>e=.normal∧Sim W W'∧W'.heap=W.heap∧A k a') {tmps:=(ps.zip (enc k).toArray).foldl (fun t (p,v)=>t.setIfInBounds p v) a.tmps,defers:=[]} W)
  (hbody:∀k (a':Act) (W:World) (rec:Loop),A k a'→I k W.heap→¬fin k→W.heap[w.heap.size]?=some (.deferred (some []))→W.heap[w.heap.size+1]?=some (.loop rec) →
   body.wpIn (Fence.wide.inRound (w.heap.size+1)) 0 P (fun e _ W'=>Sim W W'∧W'.heap[w.heap.size]?=some (.deferred (some []))∧W'.heap[w.heap.size+1]?=some (.loop rec) ∧
    ((e=.normal∧I (k+1) W'.heap)∨(e=.ret∧Ix W'.heap))) a' W)
  (hdone:∀k (W:World),fin k→I k W.heap→W.heap[w.heap.size]?=some (.deferred (some []))→Sim w W→Q .normal {a with defers:={target:=.collected w.heap.size,args:=#[]}::a.defers} W)
  (hstop:∀(W:World),Ix W.heap→W.heap[w.heap.size]?=some (.deferred (some []))→Sim w W→Q .ret {a with defers:={target:=.collected w.heap.size,args:=#[]}::a.defers} W) :
  (Code.rangeFunc g ps assign body).wp P Q a w:=by
 refine(wpIn_wide (n:=0)).1 (wpIn_rangeFunc ?_)
 intro fn hfn
 obtain⟨rec,hrec⟩:∃rec:LoopState→Option Code→Loop,rec=fun st pe=>{state:=st,pending:=pe,fn,tmps:=a.tmps,params:=ps,assign,body,defers:=w.heap.size}:=⟨_,rfl⟩
 have hK1:((w.alloc (.deferred (some []))).alloc (.loop (rec .ready none))).heap[w.heap.size]?=some (.deferred (some [])):=
  (Go.RowKit.Below.heap_alloc _ _ _ (by simp)).trans (World.alloc_heap_new w _)
 have hL1:((w.alloc (.deferred (some []))).alloc (.loop (rec .ready none))).heap[w.heap.size+1]?=some (.loop (rec .ready none)):=by
  have:=World.alloc_heap_new (w.alloc (.deferred (some []))) (.loop (rec .ready none));rwa[World.size_alloc]at this
 have hS1:Sim w ((w.alloc (.deferred (some []))).alloc (.loop (rec .ready none))):=⟨rfl,rfl,rfl⟩
 have hI1:I 0 ((w.alloc (.deferred (some []))).alloc (.loop (rec .ready none))).heap:=h0 _
 obtain⟨W1,hW1⟩:∃W1,(w.alloc (.deferred (some []))).alloc (.loop (rec .ready none))=W1:=⟨_,rfl⟩
 rw[hW1]at hK1 hL1 hS1 hI1
 refine⟨w.heap.size+1,[{target:=.collected w.heap.size,args:=#[]}],W1,{target:=.fn (.func gf) lb.toArray,args:=#[.func (.yield (w.heap.size+1)) #[] #[]]},W1,gf,
  #[.func (.yield (w.heap.size+1)) #[] #[]]++lb.toArray,W1,?_,?_,fun _ _=>trivial,?_,wide_calm _,?_⟩
 ·rw[←hW1,hrec];exact run_enterLoop_outer _ _ _ _ _
 ·simp only[resolve,hg]
  simp[go_sem]
 ·simp[invoke,go_sem,eg]
 have hd:=hseq (w.heap.size+1)
  (fun k H=>I k H∧H[w.heap.size+1]?=some (.loop (rec .ready none))∧H[w.heap.size]?=some (.deferred (some [])))
  (fun H=>Ix H∧H[w.heap.size+1]?=some (.loop (rec .done (some .ret)))∧H[w.heap.size]?=some (.deferred (some [])))
  (fun k H h=>hpre k H h.1) ?_ W1.heap ⟨hI1,hL1,hK1⟩ W1 rfl
 ·have ea:(Value.func (.yield (w.heap.size+1)) #[] #[]::lb).toArray=#[.func (.yield (w.heap.size+1)) #[] #[]]++lb.toArray:=by simp
  rw[ea]at hd
  refine(callsIn_wide.2 hd).mono ?_
  rintro e W2 ⟨v,rfl,hs,(⟨k,hf,hi,hl,hk⟩|⟨hi,hl,hk⟩)⟩
  ·have he:=run_endLoop (P:=P) hl (by rw[hrec];simp)
   rw[hrec]at he
   have hs2:Sim w (W2.putObj (w.heap.size+1) (.loop {rec .ready none with state:=.exhausted})):=⟨hs.os.trans hS1.os,hs.tape.trans hS1.tape,hs.output.trans hS1.output⟩
   rw[hrec]at hs2
   exact⟨none,_,he,hdone k _ hf (hI k _ _ hi) ((World.putObj_heap_other (by omega)).trans hk) hs2⟩
  ·have he:=run_endLoop (P:=P) hl (by rw[hrec];simp)
   rw[hrec]at he
   have hs2:Sim w (W2.putObj (w.heap.size+1) (.loop {rec .done (some .ret)with state:=.exhausted})):=⟨hs.os.trans hS1.os,hs.tape.trans hS1.tape,hs.output.trans hS1.output⟩
   rw[hrec]at hs2
   exact⟨some .ret,_,he,wpIn_ret (hstop _ (hIx _ _ hi) ((World.putObj_heap_other (by omega)).trans hk) hs2)⟩
 ·rintro k W ⟨hi,hl,hk⟩ hfin
  have hlt:w.heap.size+1<W.heap.size:=(Array.getElem?_eq_some_iff.1 hl).1
  have hy:=run_yield (P:=P) (args:=(enc k).toArray) hl (by rw[hrec];simpa using hps k)
  rw[hrec]at hy
  refine⟨fn,_,assign,body,hy,roundIn_of_wpIn trivial (wpIn_mono (hassign _ k W) ?_)⟩
  rintro e a1 W1 ⟨rfl,hs1,hh1,hA⟩
  rw[←hh1]at hi hl hk hlt
  refine⟨_,run_beginRound hl (by rw[hrec]),?_⟩
  have hl2:(W1.putObj (w.heap.size+1) (.loop {rec .ready none with state:=.busy})).heap[w.heap.size+1]?=some (.loop {rec .ready none with state:=.busy}):=World.putObj_heap_same hlt
  have hk2:(W1.putObj (w.heap.size+1) (.loop {rec .ready none with state:=.busy})).heap[w.heap.size]?=some (.deferred (some [])):=(World.putObj_heap_other (by omega)).trans hk
  refine wpIn_mono (hbody k a1 _ _ hA (hI k _ _ hi) hfin hk2 hl2) ?_
  rintro e a' W' ⟨hs,hk',hl',(⟨rfl,hi'⟩|⟨rfl,hi'⟩)⟩
  ·refine⟨_,_,run_endRound none hl',⟨hs.os.trans hs1.os,hs.tape.trans hs1.tape,hs.output.trans hs1.output⟩,.inl ⟨rfl,hI _ _ _ hi',?_,(World.putObj_heap_other (by omega)).trans hk'⟩⟩
   rw[hrec];exact World.putObj_heap_same (Array.getElem?_eq_some_iff.1 hl').1
  ·refine⟨_,_,run_endRound (some .ret) hl',⟨hs.os.trans hs1.os,hs.tape.trans hs1.tape,hs.output.trans hs1.output⟩,.inr ⟨rfl,hIx _ _ hi',?_,(World.putObj_heap_other (by omega)).trans hk'⟩⟩
   rw[hrec];exact World.putObj_heap_same (Array.getElem?_eq_some_iff.1 hl').1
end Go.Vc
end
section
open Go
namespace Go.Vc
def calmO(o:Oper):Bool:=match o.op with
 | .defer _=>false
 | _=>true
theorem rowsIn_wide{n:Nat}{P:Program}{row:String}{args:Array Value}{w:World}{R:Value→World→Prop}(h:Rows P row args w R):RowsIn Fence.wide n P row args w R:=
 fun c cs _=>let ⟨v,w',r,s⟩:=h c cs;⟨v,w',r,stepsIn_wide.2 s⟩
theorem upon_in{P:Program}{r:Nat}{o:Oper}{a:Act}{Q:Exit→Act→World→Prop}{next next':Act→World→Prop}(hn:∀a w,next a w→next' a w):∀(res:Result Next),o.upon P a next Q res→o.uponIn (Fence.wide.inRound r) 0 P a next' Q res:=by
 intro res h
 unfold Oper.upon at h
 unfold Oper.uponIn
 split at h
 ·exact hn _ _ h
 ·exact hn _ _ h
 ·exact hn _ _ h
 ·refine⟨wide_calm _,CallsIn.mono (R:=_) (callsIn_wide.2 h:CallsIn Fence.wide _ P _ _ _ _) ?_⟩
  intro e w'' h
  cases e with
  | returned v=>exact hn _ _ h
  | panicked ch=>exact h
  | outgrown=>exact h
 ·exact⟨wide_calm _,fun c cs hr=>(rowsIn_wide (n:=0 - 1) (h.mono fun v w' h=>hn _ _ h)) c cs hr⟩
 ·exact h
 ·exact h.elim
theorem wpOps_in{P:Program}{r:Nat}{ops:Array Oper}{Q:Exit→Act→World→Prop}(hc:∀(i:Nat)(o:Oper),ops[i]?=some o→calmO o=true)(hQ:¬LetsOut Q):∀(l:List Nat)(a:Act)(w:World),wpOps P ops Q l a w→wpOpsIn (Fence.wide.inRound r) 0 P ops Q l a w
 | [],_,_,h=>h
 | i::rest,a,w,h=>by
  simp only[wpOps]at h
  simp only[wpOpsIn]
  cases ho:ops[i]? with
  | none=>simp only[ho]at h ⊢;exact wpOps_in hc hQ rest a w h
  | some o=>
   simp only[ho]at h ⊢
   by_cases hw:Region.wanted o (yielded ops a.tmps)=true
   ·rw[if_pos hw]at h ⊢
    rcases h with h|h
    ·refine⟨fun _ _=>trivial,?_⟩
     have hd:∀c,o.op≠.defer c:=fun c e=>by
      have:=hc i o ho
      unfold calmO at this
      rw[e]at this;cases this
     rw[Oper.semAt_eq _ _ _ hd]
     exact upon_in (fun a w h=>wpOps_in hc hQ rest a w h) _ h
    ·exact absurd h.2 hQ
   ·rw[if_neg hw]at h ⊢
    exact⟨fun _ _=>trivial,wpOps_in hc hQ rest _ w h⟩
def calmsO(ops:Array Oper):Bool:=ops.toList.all calmO
theorem calmsO_at{ops:Array Oper}(h:calmsO ops=true):∀(i:Nat)(o:Oper),ops[i]?=some o→calmO o=true:=fun i o ho=>by
 unfold calmsO at h
 rw[List.all_eq_true]at h
 exact h o (List.mem_of_getElem? (by rw[Array.getElem?_toList];exact ho))
end Go.Vc
end
section
open Go
namespace Go.Vc
def findR(r:Nat):Code→Option Code
 | .region id ops d=>match Nat.beq id r with
  | true=>some (.region id ops d)
  | false=>none
 | .seq a b=>match findR r a with
  | some c=>some c
  | none=>findR r b
 | .cond _ a b=>match findR r a with
  | some c=>some c
  | none=>findR r b
 | .block _ a=>findR r a
 | .loop a=>findR r a
 | .rangeFunc _ _ a b=>match findR r a with
  | some c=>some c
  | none=>findR r b
 | _=>none
def tmpsR:List Nat→List RV
 | []=>[]
 | t::r=>.tmp t::tmpsR r
def Part(P:Program)(f r:Nat)(S:Sym)(outs:List Nat)(H:Heap)(R:Value→Heap→Prop):Prop:=
 match P.funcs[f]? with
 | none=>False
 | some fn=>match fn.body with
  | none=>False
  | some c=>match findR r c with
   | none=>False
   | some c=>match compC P fn.ntmps outs [] c with
    | some sc=>WP P (Does P) (fun _ _=>False) sc ⟨fun S H=>retK (tmpsR outs) R S H,fun _ _ _=>False,fun _ _=>False⟩ S H
    | none=>False
def tupV:List Value→Value
 | [v]=>v
 | vs=>.tuple vs.toArray
def newS(outs:List Nat)(vs:List Value)(ds:List Nat)(S:Sym):Sym:=(outs.zip vs).map (fun x=>(x.1,SV.v x.2))++S.filter fun x=>!ds.contains x.1
theorem resK_tmps{S:Sym}{a:Act}{H:Heap}(ha:Agree S a):∀(outs:List Nat)(K:List Value→Prop),resK H (tmpsR outs) S K→K (outs.map fun t=>a.tmps.getD t undef)
 | [],K,h=>h
 | t::r,K,h=>by
  simp only[tmpsR,resK]at h
  split at h
  ·rename_i s hs
   have:=resK_tmps ha r _ h
   rw[List.map_cons,ha t s hs]
   exact this
  ·exact h.elim
theorem get_filter{ds:List Nat}{t:Nat}{s:SV}:∀{S:Sym},Sym.get (S.filter fun x=>!ds.contains x.1) t=some s→t∉ds∧S.get t=some s
 | [],h=>by cases h
 | (i,u)::r,h=>by
  rw[List.filter_cons]at h
  split at h
  ·rename_i hd
   rw[get_cons]at h ⊢
   by_cases e:i=t
   ·subst e
    rw[if_pos rfl]at h ⊢
    exact⟨by simpa using hd,h⟩
   ·rw[if_neg e]at h ⊢
    exact get_filter h
  ·rename_i hd
   obtain⟨h1,h2⟩:=get_filter h
   refine⟨h1,?_⟩
   rw[get_cons,if_neg]
   ·exact h2
   ·rintro rfl
    simp at hd
    exact h1 hd
theorem Sym.get_append'{S T:Sym}{t:Nat}:Sym.get (S++T) t=(S.get t).or (T.get t):=by
 induction S with
 | nil=>rfl
 | cons x r ih=>
  obtain⟨i,s⟩:=x
  rw[List.cons_append,get_cons,get_cons]
  by_cases h:i=t
  ·rw[if_pos h,if_pos h];rfl
  ·rw[if_neg h,if_neg h,ih]
theorem get_outs{a:Act}:∀(outs:List Nat)(t:Nat)(s:SV),Sym.get ((outs.zip (outs.map fun t=>a.tmps.getD t undef)).map fun x=>(x.1,SV.v x.2)) t=some s→a.tmps.getD t undef=s.toV
 | [],t,s,h=>by cases h
 | o::r,t,s,h=>by
  rw[List.map_cons,List.zip_cons_cons,List.map_cons,get_cons]at h
  split at h
  ·rename_i e
   subst e
   simp only[Option.some.injEq]at h
   subst h
   rfl
  ·exact get_outs r t s h
def QP(R:Value→Heap→Prop)(outs ds:List Nat)(S:Sym)(N:Nat)(w:World):Exit→Act→World→Prop:=fun e a' w'=>
 e=.normal∧Sim w w'∧∃vs,vs.length=outs.length∧R (tupV vs) w'.heap∧Ag N (newS outs vs ds S) a'
theorem QP_of{R:Value→Heap→Prop}{outs ds:List Nat}{S S':Sym}{N:Nat}{w w':World}{a a':Act}(ha:Ag N S a)(ha':Ag N S' a')(hf:Fr ds a a')(hs:Sim w w')(hk:retK (tmpsR outs) R S' w'.heap):QP R outs ds S N w .normal a' w':=by
 have h1:=resK_tmps ha'.agree outs _ hk
 refine⟨rfl,hs,outs.map fun t=>a'.tmps.getD t undef,by simp,?_,ha'.size,ha'.defers,fun t s ht=>?_⟩
 ·generalize (outs.map fun t=>a'.tmps.getD t undef)=vs at h1
  match vs,h1 with
  | [],h1=>exact h1
  | [v],h1=>exact h1
  | _::_::_,h1=>exact h1
 ·unfold newS at ht
  rw[Sym.get_append']at ht
  cases e:Sym.get ((outs.zip (outs.map fun t=>a'.tmps.getD t undef)).map fun x=>(x.1,SV.v x.2)) t with
  | some s'=>
   rw[e]at ht
   have ht:some s'=some s:=ht
   cases ht
   exact get_outs outs t _ e
  | none=>
   rw[e,Option.none_or]at ht
   obtain⟨h1,h2⟩:=get_filter ht
   rw[hf t h1]
   exact ha.agree t s h2
section
variable {P:Program} {f r:Nat} {S:Sym} {outs:List Nat} {H:Heap} {R:Value→Heap→Prop} {V:Prop} {fn:Func} {c0 c:Code}
theorem part_wp(hm:P.follows .mixedOrders=true)(e:Part P f r S outs H R=V)(h:V)(hf:P.funcs[f]?=some fn)(hb:fn.body=some c0)(hc:findR r c0=some c){a:Act}{w:World}{S':Sym}(hx:Ag fn.ntmps S' a)(ha:Ag fn.ntmps S a)(hw:w.heap=H) :
  c.wp P (QP R outs (dstsC c) S' fn.ntmps w) a w:=by
 rw[←e]at h
 unfold Part at h
 rw[hf]at h
 simp only[hb,hc]at h
 split at h
 ·rename_i sc hsc
  subst hw
  refine wp_mono (code_sound hm c sc hsc _ S a w ha h) ?_
  intro e a' w' hq
  cases e with
  | normal=>
   obtain⟨h1,h2,S2,h3,h4⟩:=hq
   exact QP_of hx h3 h1 h2 h4
  | exit id=>obtain⟨_,_,_,_,h⟩:=hq;exact h.elim
  | ret=>obtain⟨_,_,_,_,h⟩:=hq;exact h.elim
  | panic ch=>obtain⟨_,_,_,_,h⟩:=hq;exact h.elim
  | goto l=>exact hq.elim
  | outgrown=>exact hq.elim
 ·exact h.elim
theorem QP.out{N:Nat}{ds:List Nat}{w:World}:¬LetsOut (QP R outs ds S N w):=by
 rintro⟨_,_,h,_⟩
 cases h
theorem part_in(hm:P.follows .mixedOrders=true)(e:Part P f r S outs H R=V)(h:V)(hf:P.funcs[f]?=some fn)(hb:fn.body=some c0){id:Nat}{ops:Array Oper}{d:Bool}(hc:findR r c0=some (.region id ops d))(hk:calmsO ops=true){l:Nat}{a:Act}{w:World}{S':Sym}(hx:Ag fn.ntmps S' a)(ha:Ag fn.ntmps S a)(hw:w.heap=H) :
  (Code.region id ops d).wpIn (Fence.wide.inRound l) 0 P (QP R outs (dstsL ops.toList) S' fn.ntmps w) a w:=by
 rw[←e]at h
 unfold Part at h
 rw[hf]at h
 simp only[hb,hc]at h
 split at h
 ·rename_i sc hsc
  subst hw
  cases d with
  | false=>
   simp only[compC]at hsc
   split at hsc
   ·rename_i lo hl
    simp only[Option.some.injEq]at hsc
    subst hsc
    refine wpIn_region (wpOps_in (calmsO_at hk) QP.out _ a w ?_)
    rw[List.range_eq_range',←Array.length_toList,wpOps_eq_wpList ops.toList 0 (by simp)]
    exact ops_sound ops.toList lo hl S a w _ ha h (fun _ a' w' ha' hs hfr hk=>QP_of hx ha' hfr hs hk) fun _ _ _ _ _ h=>h.elim
   ·cases hsc
  | true=>
   simp only[compC]at hsc
   split at hsc
   ·rename_i lo hl
    simp only[Option.some.injEq]at hsc
    subst hsc
    refine wpIn_region_draw fun t=>wpOps_in (calmsO_at hk) QP.out _ a _ ?_
    simp only[Region.schedule,hm,Bool.true_or,if_true]
    refine wpAny_sound ops.size t _ a _ (wpAny_of_F (eff:=effOf P ops) (F:=[]) _ _ _ _ (schedule_sound (C:=Does P) (X:=fun _ _=>False) (fun c a a' w hd h=>by cases h.1) hl (dstsL ops.toList) (w:={w with drawn:=w.drawn+1}) ha h ?_ ?_ (fun p a' w' hd hs hx=>hx.elim)))
    ·intro j o ho d hd
     exact mem_dstsL ho hd
    ·intro _ a' w' ha' hs hfr hk
     exact QP_of hx ha' hfr ⟨hs.os,hs.tape,hs.output⟩ hk
   ·cases hsc
 ·exact h.elim
end
end Go.Vc
end
section
open Go
namespace Go.Vc
def Piece(P:Program)(f r i j:Nat)(S:Sym)(outs:List Nat)(H:Heap)(R:Value→Heap→Prop):Prop:=
 match P.funcs[f]? with
 | none=>False
 | some fn=>match fn.body with
  | none=>False
  | some c=>match findR r c with
   | some (.region _ ops _)=>match compOps P fn.ntmps ops ((ops.toList.drop i).take (j - i))with
    | some l=>WPops P (Does P) (fun _ _=>False) l S H fun S H=>retK (tmpsR outs) R S H
    | none=>False
   | _=>False
theorem wpList_in{P:Program}{ops:Array Oper}{Q Q':Exit→Act→World→Prop}{rest:List Oper}(hQ:¬LetsOut Q)(hq:∀e a w,e≠.normal→Q e a w→Q' e a w)(hn:∀a w,Q .normal a w→wpListIn Fence.wide 0 P ops Q' rest a w) :
  ∀(l:List Oper),(∀o∈l,calmO o=true)→∀(a:Act) (w:World),wpList P ops Q l a w→wpListIn Fence.wide 0 P ops Q' (l++rest) a w
 | [],_,a,w,h=>hn a w h
 | o::l,hc,a,w,h=>by
  rw[List.cons_append]
  simp only[wpList]at h
  simp only[wpListIn]
  have ih:=wpList_in hQ hq hn l (fun o h=>hc o (List.mem_cons_of_mem _ h))
  by_cases hw:Region.wanted o (yielded ops a.tmps)=true
  ·rw[if_pos hw]at h ⊢
   rcases h with h|h
   ·refine⟨fun _ _=>trivial,?_⟩
    have hd:∀c,o.op≠.defer c:=fun c e=>by
     have:=hc o List.mem_cons_self
     unfold calmO at this
     rw[e]at this;cases this
    rw[Oper.semAt_eq _ _ _ hd]
    unfold Oper.wp at h
    generalize (execOp a.eval o).run P w=res at h ⊢
    unfold Oper.upon at h
    unfold Oper.uponIn
    split at h
    ·exact ih _ _ h
    ·exact ih _ _ h
    ·exact ih _ _ h
    ·refine⟨wide_calm _,CallsIn.mono (R:=_) (callsIn_wide.2 h:CallsIn Fence.wide _ P _ _ _ _) ?_⟩
     intro e w'' h
     cases e with
     | returned v=>exact ih _ _ h
     | panicked ch=>exact hq _ _ _ (by simp) h
     | outgrown=>exact absurd h hQ
    ·exact⟨wide_calm _,rowsIn_wide (h.mono fun v w' h=>ih _ _ h)⟩
    ·exact hq _ _ _ (by simp) h
    ·exact h.elim
   ·exact absurd h.2 hQ
  ·rw[if_neg hw]at h ⊢
   exact⟨fun _ _=>trivial,ih _ _ h⟩
theorem yield_op{P:Program}{ops:Array Oper}{Q:Exit→Act→World→Prop}{post:List Oper}{o:Oper}{t b d l:Nat}{ts:Array TypeId}{u:Value}{a:Act}{w:World}{R:Ending→World→Prop}(ho:o.op=.call {callee:=.value (.tmp t),args:=#[.tmp b],argTypes:=ts})(hg:o.guard=none)(hd:o.dst=some d)
  (ht:a.tmps.getD t undef=.func (.yield l) #[] #[]) (hb:a.tmps.getD b undef=u) (hy:YieldAt Fence.wide 0 P l #[u] w R) (hR:∀e w',R e w'→∃v,e=.returned v∧wpListIn Fence.wide 0 P ops Q post (a.put (some d) v) w'):wpListIn Fence.wide 0 P ops Q (o::post) a w:=by
 obtain⟨fn,tm,asg,bo,hy,hr⟩:=hy
 refine wpListIn_plain hg fun K hK=>⟨fun _ _=>trivial,?_⟩
 rw[Oper.semAt_eq _ _ _ (fun c e=>by rw[ho]at e;cases e)]
 have hx:(execOp a.eval o).run P w=.ok (.round l fn tm asg bo) w:=by
  have et:a.eval (.tmp t)=.func (.yield l) #[] #[]:=ht
  have eb:a.eval (.tmp b)=u:=hb
  simp only[execOp,ho]
  simp[resolve,et,eb,Deferred.ofValue,invoke,hy]
 rw[hx]
 refine⟨wide_calm _,hr.mono ?_⟩
 intro e w' h
 obtain⟨v,rfl,h2⟩:=hR e w' h
 refine hK _ _ ?_
 rw[hd]
 exact h2
theorem tupV_two{vs:List Value}{x y:Value}(hl:vs.length=2)(h:tupV vs=.tuple #[x,y]):vs=[x,y]:=by
 match vs,hl with
 | [a,b],_=>
  simp only[tupV,Value.tuple.injEq]at h
  have:=congrArg Array.toList h
  simpa using this
theorem yield_wp{P:Program}{f r m:Nat}{S:Sym}{t b d d2:Nat}{H:Heap}{R:Value→Heap→Prop}{V:Prop}{fn:Func}{c0:Code}{id:Nat}{ops:Array Oper}{o:Oper}{post:List Oper}{ts:Array TypeId}{T:Bool→Heap→Prop}
  (e1:Piece P f r 0 m S [t,b] H R=V) (h:V) (hf:P.funcs[f]?=some fn) (hb:fn.body=some c0) (hc:findR r c0=some (.region id ops false)) (hk:calmsO ops=true)
  (hl:ops.toList.drop m=o::post) (ho:o.op=.call {callee:=.value (.tmp t),args:=#[.tmp b],argTypes:=ts}) (hg:o.guard=none) (hd:o.dst=some d) (hd3:d<fn.ntmps) (htb:t≠b)
  (hR:∀v H',R v H'→∃l u,v=.tuple #[.func (.yield l) #[] #[],u]∧∀w':World,w'.heap=H'→YieldAt Fence.wide 0 P l #[u] w' fun e W'=>Sim w' W'∧∃x,e=.returned (.bool x)∧T x W'.heap)
  (e2:∀x H',Piece P f r (m+1) ops.size [(d,.v (.bool x))] [d2] H' fun v H''=>v=.bool (!x)∧H''=H')
  {a:Act} {w:World} {S':Sym} (hx:Ag fn.ntmps S' a) (ha:Ag fn.ntmps S a) (hw:w.heap=H) :
  (Code.region id ops false).wp P (fun e a' w'=>e=.normal∧Sim w w'∧∃x,T x w'.heap∧Ag fn.ntmps ((d2,.v (.bool (!x)))::S'.filter fun y=>!(dstsL ops.toList).contains y.1) a') a w:=by
 rw[←e1]at h
 unfold Piece at h
 rw[hf]at h
 simp only[hb,hc,Nat.sub_zero,List.drop_zero]at h
 split at h
 ·rename_i lo hlo
  refine(wpIn_wide (n:=0)).1 (wpIn_region_list ?_)
  have hsplit:ops.toList=ops.toList.take m++o::post:=by rw[←hl,List.take_append_drop]
  have hcalm:∀o∈ops.toList,calmO o=true:=by unfold calmsO at hk;exact List.all_eq_true.1 hk
  generalize hQ':(fun (e:Exit) (a':Act) (w':World)=>e=Exit.normal∧Sim w w'∧∃x,T x w'.heap∧Ag fn.ntmps ((d2,SV.v (Value.bool (!x)))::S'.filter fun y=>!(dstsL ops.toList).contains y.1) a')=Q'
  rw[hsplit]
  subst hw
  refine wpList_in (Q:=fun e a' w'=>QP R [t,b] (dstsL (ops.toList.take m)) S fn.ntmps w e a' w'∧Fr (dstsL (ops.toList.take m)) a a') (by rintro⟨_,_,h,_⟩;cases h.1) (fun e a w hne h=>absurd h.1.1 hne) ?_ _ (fun o ho=>hcalm o (List.mem_of_mem_take ho)) a w
   (ops_sound (ops.toList.take m) lo hlo S a w _ ha h (fun S' a' w' ha' hs hfr hk=>⟨QP_of ha ha' hfr hs hk,hfr⟩) fun _ _ _ _ _ h=>h.elim)
  rintro a1 w1 ⟨⟨_,hs1,vs,hvl,hr1,ha1⟩,hfr1⟩
  obtain⟨l,u,ev,hy⟩:=hR _ _ hr1
  obtain rfl:=tupV_two hvl ev
  have g1:=ha1.agree t (.v (.func (.yield l) #[] #[])) (by simp[newS,get_cons])
  have g2:=ha1.agree b (.v u) (by simp[newS,get_cons,htb])
  refine yield_op ho hg hd g1 g2 (hy w1 rfl) ?_
  rintro e w2 ⟨hs2,x,rfl,hT⟩
  refine⟨_,rfl,?_⟩
  have hp:=e2 x w2.heap
  unfold Piece at hp
  rw[hf]at hp
  simp only[hb,hc]at hp
  split at hp
  ·rename_i lo2 hlo2
   have epost:(ops.toList.drop (m+1)).take (ops.size - (m+1))=post:=by
    have:ops.toList.drop (m+1)=post:=by rw[←List.drop_drop,hl];rfl
    rw[this,List.take_of_length_le]
    have:=congrArg List.length this
    simp at this
    omega
   rw[epost]at hlo2
   have ha2:Ag fn.ntmps [(d,.v (.bool x))] (a1.put (some d) (.bool x)):=by
    refine⟨by simp[Act.put,ha1.size],by simp[Act.put,ha1.defers],fun t' s hs=>?_⟩
    rw[get_cons]at hs
    split at hs
    ·rename_i e
     subst e
     cases hs
     have:d<a1.tmps.size:=by rw[ha1.size];exact hd3
     simp[Act.put,this];rfl
    ·cases hs
   have:=wpList_in (Q:=fun e a' w'=>QP (fun v H''=>v=.bool (!x)∧H''=w2.heap) [d2] (dstsL post) [(d,.v (.bool x))] fn.ntmps w2 e a' w'∧Fr (dstsL post) (a1.put (some d) (.bool x)) a') (rest:=[])
    (Q':=Q')
    (by rintro⟨_,_,h,_⟩;cases h.1) (fun e a w hne h=>absurd h.1.1 hne) ?_ post (fun o' ho=>hcalm o' (by rw[hsplit];simp[ho])) (a1.put (some d) (.bool x)) w2 (ops_sound post lo2 hlo2 _ _ w2 _ ha2 hp (fun S' a' w' ha' hs hfr hk=>⟨QP_of ha2 ha' hfr hs hk,hfr⟩) fun _ _ _ _ _ h=>h.elim)
   ·rw[List.append_nil]at this
    exact this
   ·rintro a3 w3 ⟨⟨_,hs3,vs,hvl,⟨hv1,hv2⟩,ha3⟩,hfr⟩
    obtain rfl:vs=[.bool (!x)]:=by
     match vs,hvl with
     | [v],_=>simp only[tupV]at hv1;rw[hv1]
    rw[←hQ']
    refine wpListIn_nil ⟨rfl,(hs1.trans hs2).trans hs3,x,by rw[hv2];exact hT,ha3.size,ha3.defers,fun t' s hs=>?_⟩
    rw[get_cons]at hs
    split at hs
    ·rename_i e
     subst e
     cases hs
     exact ha3.agree d2 _ (by simp[newS,get_cons])
    ·obtain⟨h1,h2⟩:=get_filter hs
     rw[hsplit]at h1
     have h1':t'∉dstsL (ops.toList.take m)∧t'≠d∧t'∉dstsL post:=by
      unfold dstsL at h1 ⊢
      simp only[List.flatMap_append,List.flatMap_cons,List.mem_append,not_or]at h1
      refine⟨h1.1,fun e=>h1.2.1 (by simp[opDst,hd,e]),h1.2.2⟩
     rw[hfr t' h1'.2.2]
     have:(a1.put (some d) (.bool x)).tmps.getD t' undef=a1.tmps.getD t' undef:=by
      simp only[Act.put,Array.getD_eq_getD_getElem?]
      rw[Array.getElem?_setIfInBounds_ne (Ne.symm h1'.2.1)]
     rw[this,hfr1 t' h1'.1]
     exact hx.agree t' s h2
  ·exact hp.elim
 ·exact h.elim
end Go.Vc
end
section
open Go
namespace Go.Vc
def Act.with(ds:List Deferred)(a:Act):Act:={a with defers:=a.defers++ds}
theorem upon_with{P:Program}{ds:List Deferred}{o:Oper}{a:Act}{Q Q':Exit→Act→World→Prop}{next next':Act→World→Prop}(hn:∀a w,next a w→next' (Act.with ds a) w)(hq:∀e a w,Q e a w→Q' e (Act.with ds a) w)(hQ:¬LetsOut Q) :
  ∀(res:Result Next),o.upon P a next Q res→o.upon P (Act.with ds a) next' Q' res:=by
 intro res h
 have hput:∀(a:Act) v,(Act.with ds a).put o.dst v=Act.with ds (a.put o.dst v):=fun a v=>by
  unfold Act.put Act.with
  split<;>rfl
 unfold Oper.upon at h ⊢
 split at h
 ·have:=hn _ _ h;rwa[←hput]at this
 ·have:=hn _ _ h;rwa[←hput]at this
 ·have:=hn _ _ h;rwa[←hput]at this
 ·refine h.mono ?_
  intro e w'' h
  cases e with
  | returned v=>have:=hn _ _ h;rwa[←hput]at this
  | panicked ch=>exact hq _ _ _ h
  | outgrown=>exact absurd h hQ
 ·refine h.mono fun v w'' h=>?_
  have:=hn _ _ h;rwa[←hput]at this
 ·exact hq _ _ _ h
 ·exact h.elim
theorem wpOps_with{P:Program}{ds:List Deferred}{ops:Array Oper}{Q Q':Exit→Act→World→Prop}(hq:∀e a w,Q e a w→Q' e (Act.with ds a) w)(hQ:¬LetsOut Q):∀(l:List Nat)(a:Act)(w:World),wpOps P ops Q l a w→wpOps P ops Q' l (Act.with ds a) w
 | [],a,w,h=>hq _ _ _ h
 | i::rest,a,w,h=>by
  simp only[wpOps]at h ⊢
  cases ho:ops[i]? with
  | none=>simp only[ho]at h ⊢;exact wpOps_with hq hQ rest a w h
  | some o=>
   simp only[ho]at h ⊢
   have ey:yielded ops (Act.with ds a).tmps=yielded ops a.tmps:=rfl
   rw[ey]
   by_cases hw:Region.wanted o (yielded ops a.tmps)=true
   ·rw[if_pos hw]at h ⊢
    rcases h with h|h
    ·exact .inl (upon_with (fun a w h=>wpOps_with hq hQ rest a w h) hq hQ _ h)
    ·exact absurd h.2 hQ
   ·rw[if_neg hw]at h ⊢
    have:=wpOps_with hq hQ rest _ w h
    have hput:(Act.with ds a).put o.dst undef=Act.with ds (a.put o.dst undef):=by
     unfold Act.put Act.with
     split<;>rfl
    rw[hput];exact this
section
variable {P:Program} {f r:Nat} {S:Sym} {outs:List Nat} {H:Heap} {R:Value→Heap→Prop} {V:Prop} {fn:Func} {c0:Code}
theorem part_with(e:Part P f r S outs H R=V)(h:V)(hf:P.funcs[f]?=some fn)(hb:fn.body=some c0){id:Nat}{ops:Array Oper}(hc:findR r c0=some (.region id ops false)){a:Act}{w:World}{S':Sym}(hx:Ag fn.ntmps S' {a with defers:=[]})(ha:Ag fn.ntmps S {a with defers:=[]})(hw:w.heap=H) :
  (Code.region id ops false).wp P (fun e a' w'=>QP R outs (dstsL ops.toList) S' fn.ntmps w e {a' with defers:=[]} w'∧a'.defers=a.defers) a w:=by
 rw[←e]at h
 unfold Part at h
 rw[hf]at h
 simp only[hb,hc]at h
 split at h
 ·rename_i sc hsc
  subst hw
  simp only[compC]at hsc
  split at hsc
  ·rename_i lo hl
   simp only[Option.some.injEq]at hsc
   subst hsc
   refine wp_region ?_
   have hl:=ops_sound (Q:=QP R outs (dstsL ops.toList) S' fn.ntmps w) ops.toList lo hl S {a with defers:=[]} w _ ha h (fun _ a' w' ha' hs hfr hk=>QP_of hx ha' hfr hs hk) fun _ _ _ _ _ h=>h.elim
   rw[←wpOps_eq_wpList ops.toList 0 (by simp)]at hl
   have e0:Act.with a.defers {a with defers:=[]}=a:=by unfold Act.with;simp
   have:=wpOps_with (ds:=a.defers) (Q':=fun e a' w'=>QP R outs (dstsL ops.toList) S' fn.ntmps w e {a' with defers:=[]} w'∧a'.defers=a.defers) (fun e a' w' hq=>?_) QP.out _ _ _ hl
   ·rw[e0]at this
    rw[List.range_eq_range',←Array.length_toList]
    exact this
   ·obtain⟨q1,q2,vs,q3,q4,q5⟩:=hq
    have hd:=q5.defers
    refine⟨⟨q1,q2,vs,q3,q4,⟨q5.size,rfl,q5.agree⟩⟩,?_⟩
    show a'.defers++a.defers=a.defers
    rw[hd];rfl
  ·cases hsc
 ·exact h.elim
end
end Go.Vc
end
section
open Go
namespace Go.Vc
def isReg(r:Nat):Code→Bool
 | .region id _ _=>Nat.beq id r
 | _=>false
def findS(r:Nat):Code→Option Code
 | .seq a b=>match isReg r a with
  | true=>some (.seq a b)
  | false=>match findS r a with
   | some c=>some c
   | none=>findS r b
 | .cond _ a b=>match findS r a with
  | some c=>some c
  | none=>findS r b
 | .block _ a=>findS r a
 | .loop a=>findS r a
 | .rangeFunc _ _ a b=>match findS r a with
  | some c=>some c
  | none=>findS r b
 | _=>none
def PartS(P:Program)(f r:Nat)(S:Sym)(outs:List Nat)(H:Heap)(R:Value→Heap→Prop):Prop:=
 match P.funcs[f]? with
 | none=>False
 | some fn=>match fn.body with
  | none=>False
  | some c=>match findS r c with
   | none=>False
   | some c=>match compC P fn.ntmps outs [] c with
    | some sc=>WP P (Does P) (fun _ _=>False) sc ⟨fun S H=>retK (tmpsR outs) R S H,fun _ _ _=>False,fun _ _=>False⟩ S H
    | none=>False
section
variable {P:Program} {f r:Nat} {S:Sym} {outs:List Nat} {H:Heap} {R:Value→Heap→Prop} {V:Prop} {fn:Func} {c0 c:Code}
theorem partS_wp(hm:P.follows .mixedOrders=true)(e:PartS P f r S outs H R=V)(h:V)(hf:P.funcs[f]?=some fn)(hb:fn.body=some c0)(hc:findS r c0=some c){a:Act}{w:World}{S':Sym}(hx:Ag fn.ntmps S' a)(ha:Ag fn.ntmps S a)(hw:w.heap=H) :
  c.wp P (QP R outs (dstsC c) S' fn.ntmps w) a w:=by
 rw[←e]at h
 unfold PartS at h
 rw[hf]at h
 simp only[hb,hc]at h
 split at h
 ·rename_i sc hsc
  subst hw
  refine wp_mono (code_sound hm c sc hsc _ S a w ha h) ?_
  intro e a' w' hq
  cases e with
  | normal=>
   obtain⟨h1,h2,S2,h3,h4⟩:=hq
   exact QP_of hx h3 h1 h2 h4
  | exit id=>obtain⟨_,_,_,_,h⟩:=hq;exact h.elim
  | ret=>obtain⟨_,_,_,_,h⟩:=hq;exact h.elim
  | panic ch=>obtain⟨_,_,_,_,h⟩:=hq;exact h.elim
  | goto l=>exact hq.elim
  | outgrown=>exact hq.elim
 ·exact h.elim
end
end Go.Vc
end
section
open Go
namespace Go.Vc
def PartT(P:Program)(f r:Nat)(S:Sym)(H:Heap)(R:Value→Heap→Prop):Prop:=
 match P.funcs[f]? with
 | none=>False
 | some fn=>match fn.body with
  | none=>False
  | some c=>match findS r c with
   | none=>False
   | some c=>match compC P fn.ntmps (resSlots fn.results.toList) [] c,compRes P fn.results.toList with
    | some sc,some rs=>WP P (Does P) (fun _ _=>False) sc ⟨fun S H=>retK rs R S H,fun _ _ _=>False,fun S H=>retK rs R S H⟩ S H
    | _,_=>False
section
variable {P:Program} {f r:Nat} {S:Sym} {H:Heap} {R:Value→Heap→Prop} {V:Prop} {fn:Func} {c0 c:Code}
theorem partT_wp(hm:P.follows .mixedOrders=true)(e:PartT P f r S H R=V)(h:V)(hf:P.funcs[f]?=some fn)(hb:fn.body=some c0)(hc:findS r c0=some c){a:Act}{w w0:World}(h0:Sim w0 w)(ha:Ag fn.ntmps S a)(hw:w.heap=H) :
  c.wp P (bodyPost P fn fun e w'=>∃v,e=.returned v∧Sim w0 w'∧R v w'.heap) a w:=by
 rw[←e]at h
 unfold PartT at h
 rw[hf]at h
 simp only[hb,hc]at h
 split at h
 ·rename_i sc rs hsc hrs
  subst hw
  refine wp_mono (code_sound hm c sc hsc _ S a w ha h) ?_
  intro e a' w' hq
  have fin:Sim w w'→(∃S,Ag fn.ntmps S a'∧retK rs R S w'.heap)→a'.defers=[]∧∃v,(results fn a'.tmps).run P w'=.ok v w'∧∃u,Ending.returned v=.returned u∧Sim w0 w'∧R u w'.heap:=by
   rintro hs ⟨S,ha,hk⟩
   obtain⟨vs,h1,h2⟩:=res_sound (P:=P) ha.agree fn.results.toList rs _ hrs hk
   refine⟨ha.defers,(if h:vs.toArray.size=1 then vs.toArray[0]else .tuple vs.toArray),?_,_,rfl,h0.trans hs,?_⟩
   ·rw[results_eq]
    have e:fn.results=fn.results.toList.toArray:=by simp
    rw[e,List.mapM_toArray]
    simp only[Sem.run_bind,Sem.run_map,h1,Result.andThen_ok,Sem.run_pure]
   ·match vs,h2 with
    | [],h2=>exact h2
    | [v],h2=>exact h2
    | _::_::_,h2=>exact h2
  cases e with
  | normal=>exact fin hq.2.1 hq.2.2
  | ret=>exact fin hq.2.1 hq.2.2
  | panic ch=>obtain⟨_,_,_,_,h⟩:=hq;exact h.elim
  | exit id=>obtain⟨_,_,_,_,h⟩:=hq;exact h.elim
  | _=>exact hq.elim
 ·exact h.elim
end
end Go.Vc
end
section
open Go Go.Vc
namespace Go.Proofs
theorem CpA(x0_0:Option Addr) (x0_0l:Nat) (x0_0c:Nat) (x0_1:Option Addr) (x0_2:Option Nat) (H:Heap) (R:Value→Heap→Prop):Part Tryz.prog 94 0 [(0,.v (.agg #[.slice x0_0 x0_0l x0_0c,.pointer x0_1,.map x0_2]))] [1,2] H R=(∀b1 H2,New H b1 [.slice x0_0 x0_0l x0_0c,.pointer x0_1,.map x0_2] 136 H2→∀b3 H4,New H2 b3 [.slice none 0 0,.pointer none,.map none] 136 H4→R (.tuple #[.pointer (some ⟨b1,0,none⟩),.pointer (some ⟨b3,0,none⟩)]) H4):=by kernel_rfl
theorem CpB(p1:Nat) (H:Heap) (R:Value→Heap→Prop):Part Tryz.prog 94 1 [(1,.v (.pointer (some ⟨p1,0,none⟩)))] [3] H R=(∃a1 l2 c3,hcell H p1 0=some (.slice a1 l2 c3)∧∃p4:Option Addr,hcell H p1 (0+1)=some (.pointer p4)∧((Does Tryz.prog 154 [.slice a1 l2 c3] H fun v5 H6=>∃a7 l8 c9,v5=(.slice a7 l8 c9)∧(isL H6 p1 (0+1) [.pointer p4]∧((Does Tryz.prog 155 [.pointer p4] H6 fun v10 H11=>∃p12:Option Addr,v10=(.pointer p12)∧((∀r13:Nat,∀H14:Heap,NewMap H11 r13 H14→isL H14 p1 (0+1) [.pointer p4]∧isL H14 p1 0 [.slice a1 l2 c3]∧∀b15 H16,New H14 b15 [.slice none 0 0,.pointer none,.map none] 136 H16→isL H16 p1 (0+1) [.pointer p4]∧isL H16 p1 0 [.slice a1 l2 c3]∧Cells H16 b15 0 3∧∀H17,Puts H16 b15 0 [.slice a7 l8 c9,.pointer p12,.map (some r13)] H17→R (.pointer (some ⟨b15,0,none⟩)) H17)∧∀b18 H19,New H11 b18 [.slice none 0 0,.pointer none,.map none] 136 H19→isL H19 p1 (0+1) [.pointer p4]∧isL H19 p1 0 [.slice a1 l2 c3]∧∀r20:Nat,∀H21:Heap,NewMap H19 r20 H21→isL H21 p1 (0+1) [.pointer p4]∧isL H21 p1 0 [.slice a1 l2 c3]∧Cells H21 b18 0 3∧∀H22,Puts H21 b18 0 [.slice a7 l8 c9,.pointer p12,.map (some r20)] H22→R (.pointer (some ⟨b18,0,none⟩)) H22))∧((∀r23:Nat,∀H24:Heap,NewMap H6 r23 H24→(isL H24 p1 (0+1) [.pointer p4]∧isL H24 p1 0 [.slice a1 l2 c3]∧((Does Tryz.prog 155 [.pointer p4] H24 fun v25 H26=>∃p27:Option Addr,v25=(.pointer p27)∧∀b28 H29,New H26 b28 [.slice none 0 0,.pointer none,.map none] 136 H29→isL H29 p1 (0+1) [.pointer p4]∧isL H29 p1 0 [.slice a1 l2 c3]∧Cells H29 b28 0 3∧∀H30,Puts H29 b28 0 [.slice a7 l8 c9,.pointer p27,.map (some r23)] H30→R (.pointer (some ⟨b28,0,none⟩)) H30)∧∀b31 H32,New H24 b31 [.slice none 0 0,.pointer none,.map none] 136 H32→isL H32 p1 (0+1) [.pointer p4]∧isL H32 p1 0 [.slice a1 l2 c3]∧Does Tryz.prog 155 [.pointer p4] H32 fun v33 H34=>∃p35:Option Addr,v33=(.pointer p35)∧Cells H34 b31 0 3∧∀H36,Puts H34 b31 0 [.slice a7 l8 c9,.pointer p35,.map (some r23)] H36→R (.pointer (some ⟨b31,0,none⟩)) H36)))∧∀b37 H38,New H6 b37 [.slice none 0 0,.pointer none,.map none] 136 H38→(isL H38 p1 (0+1) [.pointer p4]∧isL H38 p1 0 [.slice a1 l2 c3]∧((Does Tryz.prog 155 [.pointer p4] H38 fun v39 H40=>∃p41:Option Addr,v39=(.pointer p41)∧∀r42:Nat,∀H43:Heap,NewMap H40 r42 H43→isL H43 p1 (0+1) [.pointer p4]∧isL H43 p1 0 [.slice a1 l2 c3]∧Cells H43 b37 0 3∧∀H44,Puts H43 b37 0 [.slice a7 l8 c9,.pointer p41,.map (some r42)] H44→R (.pointer (some ⟨b37,0,none⟩)) H44)∧∀r45:Nat,∀H46:Heap,NewMap H38 r45 H46→isL H46 p1 (0+1) [.pointer p4]∧isL H46 p1 0 [.slice a1 l2 c3]∧Does Tryz.prog 155 [.pointer p4] H46 fun v47 H48=>∃p49:Option Addr,v47=(.pointer p49)∧Cells H48 b37 0 3∧∀H50,Puts H48 b37 0 [.slice a7 l8 c9,.pointer p49,.map (some r45)] H50→R (.pointer (some ⟨b37,0,none⟩)) H50))))))∧((∀r51:Nat,∀H52:Heap,NewMap H r51 H52→(isL H52 p1 (0+1) [.pointer p4]∧isL H52 p1 0 [.slice a1 l2 c3]∧((Does Tryz.prog 154 [.slice a1 l2 c3] H52 fun v53 H54=>∃a55 l56 c57,v53=(.slice a55 l56 c57)∧(isL H54 p1 (0+1) [.pointer p4]∧((Does Tryz.prog 155 [.pointer p4] H54 fun v58 H59=>∃p60:Option Addr,v58=(.pointer p60)∧∀b61 H62,New H59 b61 [.slice none 0 0,.pointer none,.map none] 136 H62→isL H62 p1 (0+1) [.pointer p4]∧isL H62 p1 0 [.slice a1 l2 c3]∧Cells H62 b61 0 3∧∀H63,Puts H62 b61 0 [.slice a55 l56 c57,.pointer p60,.map (some r51)] H63→R (.pointer (some ⟨b61,0,none⟩)) H63)∧∀b64 H65,New H54 b64 [.slice none 0 0,.pointer none,.map none] 136 H65→isL H65 p1 (0+1) [.pointer p4]∧isL H65 p1 0 [.slice a1 l2 c3]∧Does Tryz.prog 155 [.pointer p4] H65 fun v66 H67=>∃p68:Option Addr,v66=(.pointer p68)∧Cells H67 b64 0 3∧∀H69,Puts H67 b64 0 [.slice a55 l56 c57,.pointer p68,.map (some r51)] H69→R (.pointer (some ⟨b64,0,none⟩)) H69)))∧∀b70 H71,New H52 b70 [.slice none 0 0,.pointer none,.map none] 136 H71→isL H71 p1 (0+1) [.pointer p4]∧isL H71 p1 0 [.slice a1 l2 c3]∧Does Tryz.prog 154 [.slice a1 l2 c3] H71 fun v72 H73=>∃a74 l75 c76,v72=(.slice a74 l75 c76)∧isL H73 p1 (0+1) [.pointer p4]∧Does Tryz.prog 155 [.pointer p4] H73 fun v77 H78=>∃p79:Option Addr,v77=(.pointer p79)∧Cells H78 b70 0 3∧∀H80,Puts H78 b70 0 [.slice a74 l75 c76,.pointer p79,.map (some r51)] H80→R (.pointer (some ⟨b70,0,none⟩)) H80)))∧∀b81 H82,New H b81 [.slice none 0 0,.pointer none,.map none] 136 H82→(isL H82 p1 (0+1) [.pointer p4]∧isL H82 p1 0 [.slice a1 l2 c3]∧((Does Tryz.prog 154 [.slice a1 l2 c3] H82 fun v83 H84=>∃a85 l86 c87,v83=(.slice a85 l86 c87)∧(isL H84 p1 (0+1) [.pointer p4]∧((Does Tryz.prog 155 [.pointer p4] H84 fun v88 H89=>∃p90:Option Addr,v88=(.pointer p90)∧∀r91:Nat,∀H92:Heap,NewMap H89 r91 H92→isL H92 p1 (0+1) [.pointer p4]∧isL H92 p1 0 [.slice a1 l2 c3]∧Cells H92 b81 0 3∧∀H93,Puts H92 b81 0 [.slice a85 l86 c87,.pointer p90,.map (some r91)] H93→R (.pointer (some ⟨b81,0,none⟩)) H93)∧∀r94:Nat,∀H95:Heap,NewMap H84 r94 H95→isL H95 p1 (0+1) [.pointer p4]∧isL H95 p1 0 [.slice a1 l2 c3]∧Does Tryz.prog 155 [.pointer p4] H95 fun v96 H97=>∃p98:Option Addr,v96=(.pointer p98)∧Cells H97 b81 0 3∧∀H99,Puts H97 b81 0 [.slice a85 l86 c87,.pointer p98,.map (some r94)] H99→R (.pointer (some ⟨b81,0,none⟩)) H99)))∧∀r100:Nat,∀H101:Heap,NewMap H82 r100 H101→isL H101 p1 (0+1) [.pointer p4]∧isL H101 p1 0 [.slice a1 l2 c3]∧Does Tryz.prog 154 [.slice a1 l2 c3] H101 fun v102 H103=>∃a104 l105 c106,v102=(.slice a104 l105 c106)∧isL H103 p1 (0+1) [.pointer p4]∧Does Tryz.prog 155 [.pointer p4] H103 fun v107 H108=>∃p109:Option Addr,v107=(.pointer p109)∧Cells H108 b81 0 3∧∀H110,Puts H108 b81 0 [.slice a104 l105 c106,.pointer p109,.map (some r100)] H110→R (.pointer (some ⟨b81,0,none⟩)) H110))))):=by kernel_rfl
theorem CpC(p1:Nat) (p3:Nat) (H:Heap) (R:Value→Heap→Prop):PartS Tryz.prog 94 2 [(1,.v (.pointer (some ⟨p1,0,none⟩))),(3,.v (.pointer (some ⟨p3,0,none⟩)))] [] H R=(∃m1:Option Nat,hcell H p1 (0+2)=some (.map m1)∧∃m2:Nat,∃l3:List (Int×Value),m1=some m2∧MapIs H m2 l3∧∀r4:Nat,∀H5:Heap,NewMIter H r4 m2 l3 H5→∃I6:Heap→Prop,∃μ7:Heap→Nat,(I6 H5) ∧∀H8,I6 H8→∃m9:Nat,∃l10:List (Int×Value),∃done11:List Int,MIter H8 r4 m9 l10 done11∧(∀k12:Int,∀v13:Value,∀H14:Heap,(k12,v13)∈l10→k12∉done11→MStep H8 r4 m9 l10 done11 k12 H14→((true=true→∃m15:Nat,∃l16:List (Int×Value),∃done17:List Int,∃k18:Int,MIter H14 r4 m15 l16 (done17++[k18])∧∃a19 l20 c21,(k18,(.slice a19 l20 c21))∈l16∧∃m22:Option Nat,hcell H14 p3 (0+2)=some (.map m22)∧∃r23:Nat,∃l24:List (Int×Value),m22=some r23∧MapIs H14 r23 l24∧∀H25,MapPut H14 r23 (mapSet l24 k18 (.slice a19 l20 c21)) H25→((I6 H25)∧μ7 H25<μ7 H8))∧(true=false→R (.tuple #[]) H14)))∧((∀p∈l10,p.1∈done11)→((false=true→∃m26:Nat,∃l27:List (Int×Value),∃done28:List Int,∃k29:Int,MIter H8 r4 m26 l27 (done28++[k29])∧∃a30 l31 c32,(k29,(.slice a30 l31 c32))∈l27∧∃m33:Option Nat,hcell H8 p3 (0+2)=some (.map m33)∧∃r34:Nat,∃l35:List (Int×Value),m33=some r34∧MapIs H8 r34 l35∧∀H36,MapPut H8 r34 (mapSet l35 k29 (.slice a30 l31 c32)) H36→((I6 H36)∧μ7 H36<μ7 H8))∧(false=false→R (.tuple #[]) H8)))):=by kernel_rfl
theorem CpD(p3:Nat) (p2:Nat) (H:Heap) (R:Value→Heap→Prop):PartT Tryz.prog 94 6 [(3,.v (.pointer (some ⟨p3,0,none⟩))),(2,.v (.pointer (some ⟨p2,0,none⟩)))] H R=(∃a1 l2 c3,hcell H p3 0=some (.slice a1 l2 c3)∧∃p4:Option Addr,hcell H p3 (0+1)=some (.pointer p4)∧∃m5:Option Nat,hcell H p3 (0+1+1)=some (.map m5)∧Cells H p2 0 3∧∀H6,Puts H p2 0 [.slice a1 l2 c3,.pointer p4,.map m5] H6→∃a7 l8 c9,hcell H6 p2 0=some (.slice a7 l8 c9)∧∃p10:Option Addr,hcell H6 p2 (0+1)=some (.pointer p10)∧∃m11:Option Nat,hcell H6 p2 (0+1+1)=some (.map m11)∧R (.agg #[.slice a7 l8 c9,.pointer p10,.map m11]) H6):=by kernel_rfl
theorem EmA(x0_0:Int) (x0_1:Int) (x0_2:Int) (x0_3:Int) (H:Heap) (R:Value→Heap→Prop):Part Tryz.prog 118 0 [(0,.v (.agg #[.int .i64 x0_0,.int .i64 x0_1,.int .i64 x0_2,.int .i64 x0_3]))] [1,2] H R=(∀b1 H2,New H b1 [.int .i64 x0_0,.int .i64 x0_1,.int .i64 x0_2,.int .i64 x0_3] 131 H2→∀b3 H4,New H2 b3 [.slice none 0 0,.pointer none,.map none] 136 H4→R (.tuple #[.pointer (some ⟨b1,0,none⟩),.pointer (some ⟨b3,0,none⟩)]) H4):=by kernel_rfl
theorem EmB(p1:Nat) (H:Heap) (R:Value→Heap→Prop):Part Tryz.prog 118 1 [(1,.v (.pointer (some ⟨p1,0,none⟩)))] [3] H R=(∃n1,hcell H p1 (0+1)=some (.int .i64 n1)∧∃n2,hcell H p1 0=some (.int .i64 n2)∧(((0:Int)≤n1∧n1≤n1∧(40:Int)*n1≤281474976710656∧∀b3 H4,New H b3 (List.flatten (List.replicate (Int.toNat n1) [.int .i64 0,.int .i64 0,.slice none 0 0])) 147 H4→(isL H4 p1 0 [.int .i64 n2]∧((Does Tryz.prog 175 [.int .i64 n2] H4 fun v5 H6=>∃p7:Option Addr,v5=(.pointer p7)∧(isL H6 p1 (0+1) [.int .i64 n1]∧((∀r8:Nat,∀H9:Heap,NewMap H6 r8 H9→isL H9 p1 0 [.int .i64 n2]∧isL H9 p1 (0+1) [.int .i64 n1]∧∀b10 H11,New H9 b10 [.slice none 0 0,.pointer none,.map none] 136 H11→isL H11 p1 0 [.int .i64 n2]∧isL H11 p1 (0+1) [.int .i64 n1]∧Cells H11 b10 0 3∧∀H12,Puts H11 b10 0 [.slice (some ⟨b3,0,none⟩) (Int.toNat n1) (Int.toNat n1),.pointer p7,.map (some r8)] H12→R (.pointer (some ⟨b10,0,none⟩)) H12)∧∀b13 H14,New H6 b13 [.slice none 0 0,.pointer none,.map none] 136 H14→isL H14 p1 0 [.int .i64 n2]∧isL H14 p1 (0+1) [.int .i64 n1]∧∀r15:Nat,∀H16:Heap,NewMap H14 r15 H16→isL H16 p1 0 [.int .i64 n2]∧isL H16 p1 (0+1) [.int .i64 n1]∧Cells H16 b13 0 3∧∀H17,Puts H16 b13 0 [.slice (some ⟨b3,0,none⟩) (Int.toNat n1) (Int.toNat n1),.pointer p7,.map (some r15)] H17→R (.pointer (some ⟨b13,0,none⟩)) H17)))∧((∀r18:Nat,∀H19:Heap,NewMap H4 r18 H19→(isL H19 p1 0 [.int .i64 n2]∧isL H19 p1 (0+1) [.int .i64 n1]∧((Does Tryz.prog 175 [.int .i64 n2] H19 fun v20 H21=>∃p22:Option Addr,v20=(.pointer p22)∧isL H21 p1 (0+1) [.int .i64 n1]∧∀b23 H24,New H21 b23 [.slice none 0 0,.pointer none,.map none] 136 H24→isL H24 p1 0 [.int .i64 n2]∧isL H24 p1 (0+1) [.int .i64 n1]∧Cells H24 b23 0 3∧∀H25,Puts H24 b23 0 [.slice (some ⟨b3,0,none⟩) (Int.toNat n1) (Int.toNat n1),.pointer p22,.map (some r18)] H25→R (.pointer (some ⟨b23,0,none⟩)) H25)∧∀b26 H27,New H19 b26 [.slice none 0 0,.pointer none,.map none] 136 H27→isL H27 p1 0 [.int .i64 n2]∧isL H27 p1 (0+1) [.int .i64 n1]∧Does Tryz.prog 175 [.int .i64 n2] H27 fun v28 H29=>∃p30:Option Addr,v28=(.pointer p30)∧isL H29 p1 (0+1) [.int .i64 n1]∧Cells H29 b26 0 3∧∀H31,Puts H29 b26 0 [.slice (some ⟨b3,0,none⟩) (Int.toNat n1) (Int.toNat n1),.pointer p30,.map (some r18)] H31→R (.pointer (some ⟨b26,0,none⟩)) H31)))∧∀b32 H33,New H4 b32 [.slice none 0 0,.pointer none,.map none] 136 H33→(isL H33 p1 0 [.int .i64 n2]∧isL H33 p1 (0+1) [.int .i64 n1]∧((Does Tryz.prog 175 [.int .i64 n2] H33 fun v34 H35=>∃p36:Option Addr,v34=(.pointer p36)∧isL H35 p1 (0+1) [.int .i64 n1]∧∀r37:Nat,∀H38:Heap,NewMap H35 r37 H38→isL H38 p1 0 [.int .i64 n2]∧isL H38 p1 (0+1) [.int .i64 n1]∧Cells H38 b32 0 3∧∀H39,Puts H38 b32 0 [.slice (some ⟨b3,0,none⟩) (Int.toNat n1) (Int.toNat n1),.pointer p36,.map (some r37)] H39→R (.pointer (some ⟨b32,0,none⟩)) H39)∧∀r40:Nat,∀H41:Heap,NewMap H33 r40 H41→isL H41 p1 0 [.int .i64 n2]∧isL H41 p1 (0+1) [.int .i64 n1]∧Does Tryz.prog 175 [.int .i64 n2] H41 fun v42 H43=>∃p44:Option Addr,v42=(.pointer p44)∧isL H43 p1 (0+1) [.int .i64 n1]∧Cells H43 b32 0 3∧∀H45,Puts H43 b32 0 [.slice (some ⟨b3,0,none⟩) (Int.toNat n1) (Int.toNat n1),.pointer p44,.map (some r40)] H45→R (.pointer (some ⟨b32,0,none⟩)) H45))))))∧((Does Tryz.prog 175 [.int .i64 n2] H fun v46 H47=>∃p48:Option Addr,v46=(.pointer p48)∧(isL H47 p1 (0+1) [.int .i64 n1]∧(((0:Int)≤n1∧n1≤n1∧(40:Int)*n1≤281474976710656∧∀b49 H50,New H47 b49 (List.flatten (List.replicate (Int.toNat n1) [.int .i64 0,.int .i64 0,.slice none 0 0])) 147 H50→(isL H50 p1 0 [.int .i64 n2]∧((∀r51:Nat,∀H52:Heap,NewMap H50 r51 H52→isL H52 p1 0 [.int .i64 n2]∧isL H52 p1 (0+1) [.int .i64 n1]∧∀b53 H54,New H52 b53 [.slice none 0 0,.pointer none,.map none] 136 H54→isL H54 p1 0 [.int .i64 n2]∧isL H54 p1 (0+1) [.int .i64 n1]∧Cells H54 b53 0 3∧∀H55,Puts H54 b53 0 [.slice (some ⟨b49,0,none⟩) (Int.toNat n1) (Int.toNat n1),.pointer p48,.map (some r51)] H55→R (.pointer (some ⟨b53,0,none⟩)) H55)∧∀b56 H57,New H50 b56 [.slice none 0 0,.pointer none,.map none] 136 H57→isL H57 p1 0 [.int .i64 n2]∧isL H57 p1 (0+1) [.int .i64 n1]∧∀r58:Nat,∀H59:Heap,NewMap H57 r58 H59→isL H59 p1 0 [.int .i64 n2]∧isL H59 p1 (0+1) [.int .i64 n1]∧Cells H59 b56 0 3∧∀H60,Puts H59 b56 0 [.slice (some ⟨b49,0,none⟩) (Int.toNat n1) (Int.toNat n1),.pointer p48,.map (some r58)] H60→R (.pointer (some ⟨b56,0,none⟩)) H60)))∧((∀r61:Nat,∀H62:Heap,NewMap H47 r61 H62→(isL H62 p1 0 [.int .i64 n2]∧isL H62 p1 (0+1) [.int .i64 n1]∧(((0:Int)≤n1∧n1≤n1∧(40:Int)*n1≤281474976710656∧∀b63 H64,New H62 b63 (List.flatten (List.replicate (Int.toNat n1) [.int .i64 0,.int .i64 0,.slice none 0 0])) 147 H64→isL H64 p1 0 [.int .i64 n2]∧∀b65 H66,New H64 b65 [.slice none 0 0,.pointer none,.map none] 136 H66→isL H66 p1 0 [.int .i64 n2]∧isL H66 p1 (0+1) [.int .i64 n1]∧Cells H66 b65 0 3∧∀H67,Puts H66 b65 0 [.slice (some ⟨b63,0,none⟩) (Int.toNat n1) (Int.toNat n1),.pointer p48,.map (some r61)] H67→R (.pointer (some ⟨b65,0,none⟩)) H67)∧∀b68 H69,New H62 b68 [.slice none 0 0,.pointer none,.map none] 136 H69→isL H69 p1 0 [.int .i64 n2]∧isL H69 p1 (0+1) [.int .i64 n1]∧(0:Int)≤n1∧n1≤n1∧(40:Int)*n1≤281474976710656∧∀b70 H71,New H69 b70 (List.flatten (List.replicate (Int.toNat n1) [.int .i64 0,.int .i64 0,.slice none 0 0])) 147 H71→isL H71 p1 0 [.int .i64 n2]∧Cells H71 b68 0 3∧∀H72,Puts H71 b68 0 [.slice (some ⟨b70,0,none⟩) (Int.toNat n1) (Int.toNat n1),.pointer p48,.map (some r61)] H72→R (.pointer (some ⟨b68,0,none⟩)) H72)))∧∀b73 H74,New H47 b73 [.slice none 0 0,.pointer none,.map none] 136 H74→(isL H74 p1 0 [.int .i64 n2]∧isL H74 p1 (0+1) [.int .i64 n1]∧(((0:Int)≤n1∧n1≤n1∧(40:Int)*n1≤281474976710656∧∀b75 H76,New H74 b75 (List.flatten (List.replicate (Int.toNat n1) [.int .i64 0,.int .i64 0,.slice none 0 0])) 147 H76→isL H76 p1 0 [.int .i64 n2]∧∀r77:Nat,∀H78:Heap,NewMap H76 r77 H78→isL H78 p1 0 [.int .i64 n2]∧isL H78 p1 (0+1) [.int .i64 n1]∧Cells H78 b73 0 3∧∀H79,Puts H78 b73 0 [.slice (some ⟨b75,0,none⟩) (Int.toNat n1) (Int.toNat n1),.pointer p48,.map (some r77)] H79→R (.pointer (some ⟨b73,0,none⟩)) H79)∧∀r80:Nat,∀H81:Heap,NewMap H74 r80 H81→isL H81 p1 0 [.int .i64 n2]∧isL H81 p1 (0+1) [.int .i64 n1]∧(0:Int)≤n1∧n1≤n1∧(40:Int)*n1≤281474976710656∧∀b82 H83,New H81 b82 (List.flatten (List.replicate (Int.toNat n1) [.int .i64 0,.int .i64 0,.slice none 0 0])) 147 H83→isL H83 p1 0 [.int .i64 n2]∧Cells H83 b73 0 3∧∀H84,Puts H83 b73 0 [.slice (some ⟨b82,0,none⟩) (Int.toNat n1) (Int.toNat n1),.pointer p48,.map (some r80)] H84→R (.pointer (some ⟨b73,0,none⟩)) H84))))))∧((∀r85:Nat,∀H86:Heap,NewMap H r85 H86→(isL H86 p1 0 [.int .i64 n2]∧isL H86 p1 (0+1) [.int .i64 n1]∧(((0:Int)≤n1∧n1≤n1∧(40:Int)*n1≤281474976710656∧∀b87 H88,New H86 b87 (List.flatten (List.replicate (Int.toNat n1) [.int .i64 0,.int .i64 0,.slice none 0 0])) 147 H88→(isL H88 p1 0 [.int .i64 n2]∧((Does Tryz.prog 175 [.int .i64 n2] H88 fun v89 H90=>∃p91:Option Addr,v89=(.pointer p91)∧isL H90 p1 (0+1) [.int .i64 n1]∧∀b92 H93,New H90 b92 [.slice none 0 0,.pointer none,.map none] 136 H93→isL H93 p1 0 [.int .i64 n2]∧isL H93 p1 (0+1) [.int .i64 n1]∧Cells H93 b92 0 3∧∀H94,Puts H93 b92 0 [.slice (some ⟨b87,0,none⟩) (Int.toNat n1) (Int.toNat n1),.pointer p91,.map (some r85)] H94→R (.pointer (some ⟨b92,0,none⟩)) H94)∧∀b95 H96,New H88 b95 [.slice none 0 0,.pointer none,.map none] 136 H96→isL H96 p1 0 [.int .i64 n2]∧isL H96 p1 (0+1) [.int .i64 n1]∧Does Tryz.prog 175 [.int .i64 n2] H96 fun v97 H98=>∃p99:Option Addr,v97=(.pointer p99)∧isL H98 p1 (0+1) [.int .i64 n1]∧Cells H98 b95 0 3∧∀H100,Puts H98 b95 0 [.slice (some ⟨b87,0,none⟩) (Int.toNat n1) (Int.toNat n1),.pointer p99,.map (some r85)] H100→R (.pointer (some ⟨b95,0,none⟩)) H100)))∧((Does Tryz.prog 175 [.int .i64 n2] H86 fun v101 H102=>∃p103:Option Addr,v101=(.pointer p103)∧(isL H102 p1 (0+1) [.int .i64 n1]∧(((0:Int)≤n1∧n1≤n1∧(40:Int)*n1≤281474976710656∧∀b104 H105,New H102 b104 (List.flatten (List.replicate (Int.toNat n1) [.int .i64 0,.int .i64 0,.slice none 0 0])) 147 H105→isL H105 p1 0 [.int .i64 n2]∧∀b106 H107,New H105 b106 [.slice none 0 0,.pointer none,.map none] 136 H107→isL H107 p1 0 [.int .i64 n2]∧isL H107 p1 (0+1) [.int .i64 n1]∧Cells H107 b106 0 3∧∀H108,Puts H107 b106 0 [.slice (some ⟨b104,0,none⟩) (Int.toNat n1) (Int.toNat n1),.pointer p103,.map (some r85)] H108→R (.pointer (some ⟨b106,0,none⟩)) H108)∧∀b109 H110,New H102 b109 [.slice none 0 0,.pointer none,.map none] 136 H110→isL H110 p1 0 [.int .i64 n2]∧isL H110 p1 (0+1) [.int .i64 n1]∧(0:Int)≤n1∧n1≤n1∧(40:Int)*n1≤281474976710656∧∀b111 H112,New H110 b111 (List.flatten (List.replicate (Int.toNat n1) [.int .i64 0,.int .i64 0,.slice none 0 0])) 147 H112→isL H112 p1 0 [.int .i64 n2]∧Cells H112 b109 0 3∧∀H113,Puts H112 b109 0 [.slice (some ⟨b111,0,none⟩) (Int.toNat n1) (Int.toNat n1),.pointer p103,.map (some r85)] H113→R (.pointer (some ⟨b109,0,none⟩)) H113)))∧∀b114 H115,New H86 b114 [.slice none 0 0,.pointer none,.map none] 136 H115→(isL H115 p1 0 [.int .i64 n2]∧isL H115 p1 (0+1) [.int .i64 n1]∧(((0:Int)≤n1∧n1≤n1∧(40:Int)*n1≤281474976710656∧∀b116 H117,New H115 b116 (List.flatten (List.replicate (Int.toNat n1) [.int .i64 0,.int .i64 0,.slice none 0 0])) 147 H117→isL H117 p1 0 [.int .i64 n2]∧Does Tryz.prog 175 [.int .i64 n2] H117 fun v118 H119=>∃p120:Option Addr,v118=(.pointer p120)∧isL H119 p1 (0+1) [.int .i64 n1]∧Cells H119 b114 0 3∧∀H121,Puts H119 b114 0 [.slice (some ⟨b116,0,none⟩) (Int.toNat n1) (Int.toNat n1),.pointer p120,.map (some r85)] H121→R (.pointer (some ⟨b114,0,none⟩)) H121)∧Does Tryz.prog 175 [.int .i64 n2] H115 fun v122 H123=>∃p124:Option Addr,v122=(.pointer p124)∧isL H123 p1 (0+1) [.int .i64 n1]∧(0:Int)≤n1∧n1≤n1∧(40:Int)*n1≤281474976710656∧∀b125 H126,New H123 b125 (List.flatten (List.replicate (Int.toNat n1) [.int .i64 0,.int .i64 0,.slice none 0 0])) 147 H126→isL H126 p1 0 [.int .i64 n2]∧Cells H126 b114 0 3∧∀H127,Puts H126 b114 0 [.slice (some ⟨b125,0,none⟩) (Int.toNat n1) (Int.toNat n1),.pointer p124,.map (some r85)] H127→R (.pointer (some ⟨b114,0,none⟩)) H127))))))∧∀b128 H129,New H b128 [.slice none 0 0,.pointer none,.map none] 136 H129→(isL H129 p1 0 [.int .i64 n2]∧isL H129 p1 (0+1) [.int .i64 n1]∧(((0:Int)≤n1∧n1≤n1∧(40:Int)*n1≤281474976710656∧∀b130 H131,New H129 b130 (List.flatten (List.replicate (Int.toNat n1) [.int .i64 0,.int .i64 0,.slice none 0 0])) 147 H131→(isL H131 p1 0 [.int .i64 n2]∧((Does Tryz.prog 175 [.int .i64 n2] H131 fun v132 H133=>∃p134:Option Addr,v132=(.pointer p134)∧isL H133 p1 (0+1) [.int .i64 n1]∧∀r135:Nat,∀H136:Heap,NewMap H133 r135 H136→isL H136 p1 0 [.int .i64 n2]∧isL H136 p1 (0+1) [.int .i64 n1]∧Cells H136 b128 0 3∧∀H137,Puts H136 b128 0 [.slice (some ⟨b130,0,none⟩) (Int.toNat n1) (Int.toNat n1),.pointer p134,.map (some r135)] H137→R (.pointer (some ⟨b128,0,none⟩)) H137)∧∀r138:Nat,∀H139:Heap,NewMap H131 r138 H139→isL H139 p1 0 [.int .i64 n2]∧isL H139 p1 (0+1) [.int .i64 n1]∧Does Tryz.prog 175 [.int .i64 n2] H139 fun v140 H141=>∃p142:Option Addr,v140=(.pointer p142)∧isL H141 p1 (0+1) [.int .i64 n1]∧Cells H141 b128 0 3∧∀H143,Puts H141 b128 0 [.slice (some ⟨b130,0,none⟩) (Int.toNat n1) (Int.toNat n1),.pointer p142,.map (some r138)] H143→R (.pointer (some ⟨b128,0,none⟩)) H143)))∧((Does Tryz.prog 175 [.int .i64 n2] H129 fun v144 H145=>∃p146:Option Addr,v144=(.pointer p146)∧(isL H145 p1 (0+1) [.int .i64 n1]∧(((0:Int)≤n1∧n1≤n1∧(40:Int)*n1≤281474976710656∧∀b147 H148,New H145 b147 (List.flatten (List.replicate (Int.toNat n1) [.int .i64 0,.int .i64 0,.slice none 0 0])) 147 H148→isL H148 p1 0 [.int .i64 n2]∧∀r149:Nat,∀H150:Heap,NewMap H148 r149 H150→isL H150 p1 0 [.int .i64 n2]∧isL H150 p1 (0+1) [.int .i64 n1]∧Cells H150 b128 0 3∧∀H151,Puts H150 b128 0 [.slice (some ⟨b147,0,none⟩) (Int.toNat n1) (Int.toNat n1),.pointer p146,.map (some r149)] H151→R (.pointer (some ⟨b128,0,none⟩)) H151)∧∀r152:Nat,∀H153:Heap,NewMap H145 r152 H153→isL H153 p1 0 [.int .i64 n2]∧isL H153 p1 (0+1) [.int .i64 n1]∧(0:Int)≤n1∧n1≤n1∧(40:Int)*n1≤281474976710656∧∀b154 H155,New H153 b154 (List.flatten (List.replicate (Int.toNat n1) [.int .i64 0,.int .i64 0,.slice none 0 0])) 147 H155→isL H155 p1 0 [.int .i64 n2]∧Cells H155 b128 0 3∧∀H156,Puts H155 b128 0 [.slice (some ⟨b154,0,none⟩) (Int.toNat n1) (Int.toNat n1),.pointer p146,.map (some r152)] H156→R (.pointer (some ⟨b128,0,none⟩)) H156)))∧∀r157:Nat,∀H158:Heap,NewMap H129 r157 H158→(isL H158 p1 0 [.int .i64 n2]∧isL H158 p1 (0+1) [.int .i64 n1]∧(((0:Int)≤n1∧n1≤n1∧(40:Int)*n1≤281474976710656∧∀b159 H160,New H158 b159 (List.flatten (List.replicate (Int.toNat n1) [.int .i64 0,.int .i64 0,.slice none 0 0])) 147 H160→isL H160 p1 0 [.int .i64 n2]∧Does Tryz.prog 175 [.int .i64 n2] H160 fun v161 H162=>∃p163:Option Addr,v161=(.pointer p163)∧isL H162 p1 (0+1) [.int .i64 n1]∧Cells H162 b128 0 3∧∀H164,Puts H162 b128 0 [.slice (some ⟨b159,0,none⟩) (Int.toNat n1) (Int.toNat n1),.pointer p163,.map (some r157)] H164→R (.pointer (some ⟨b128,0,none⟩)) H164)∧Does Tryz.prog 175 [.int .i64 n2] H158 fun v165 H166=>∃p167:Option Addr,v165=(.pointer p167)∧isL H166 p1 (0+1) [.int .i64 n1]∧(0:Int)≤n1∧n1≤n1∧(40:Int)*n1≤281474976710656∧∀b168 H169,New H166 b168 (List.flatten (List.replicate (Int.toNat n1) [.int .i64 0,.int .i64 0,.slice none 0 0])) 147 H169→isL H169 p1 0 [.int .i64 n2]∧Cells H169 b128 0 3∧∀H170,Puts H169 b128 0 [.slice (some ⟨b168,0,none⟩) (Int.toNat n1) (Int.toNat n1),.pointer p167,.map (some r157)] H170→R (.pointer (some ⟨b128,0,none⟩)) H170))))))))):=by kernel_rfl
theorem EmC(p1:Nat) (p3:Nat) (H:Heap) (R:Value→Heap→Prop):PartS Tryz.prog 118 2 [(1,.v (.pointer (some ⟨p1,0,none⟩))),(3,.v (.pointer (some ⟨p3,0,none⟩)))] [] H R=(∃n1,hcell H p1 (0+3)=some (.int .i64 n1)∧∃I2:Int→Heap→Prop,∃μ3:Int→Heap→Nat,(I2 0 H) ∧∀n4 H5,I2 n4 H5→(((n4<n1)→∃p6:Option Addr,hcell H5 p3 (0+1)=some (.pointer p6)∧Does Tryz.prog 151 [.pointer p6,.int .i64 n4,.bool true] H5 fun v7 H8=>∃t9,v7=(.bool t9)∧In64 (n4+1) ∧(I2 (n4+1) H8)∧μ3 (n4+1) H8<μ3 n4 H5)∧(¬(n4<n1)→R (.tuple #[]) H5))):=by kernel_rfl
theorem EmD(p3:Nat) (p2:Nat) (H:Heap) (R:Value→Heap→Prop):PartT Tryz.prog 118 7 [(3,.v (.pointer (some ⟨p3,0,none⟩))),(2,.v (.pointer (some ⟨p2,0,none⟩)))] H R=(∃a1 l2 c3,hcell H p3 0=some (.slice a1 l2 c3)∧∃p4:Option Addr,hcell H p3 (0+1)=some (.pointer p4)∧∃m5:Option Nat,hcell H p3 (0+1+1)=some (.map m5)∧Cells H p2 0 3∧∀H6,Puts H p2 0 [.slice a1 l2 c3,.pointer p4,.map m5] H6→∃a7 l8 c9,hcell H6 p2 0=some (.slice a7 l8 c9)∧∃p10:Option Addr,hcell H6 p2 (0+1)=some (.pointer p10)∧∃m11:Option Nat,hcell H6 p2 (0+1+1)=some (.map m11)∧R (.agg #[.slice a7 l8 c9,.pointer p10,.map m11]) H6):=by kernel_rfl
end Go.Proofs
end
section
open Go Go.Vc
namespace Go.Proofs
theorem LaidOutV(x0:Int) (x1:Int) (H:Heap) (R:Value→Heap→Prop):Walk Tryz.prog 115 [] [.int .i64 x0,.int .i64 x1] H R=(∀b1 H2,New H b1 [.int .i64 0,.int .i64 0,.int .i64 0,.int .i64 0] 131 H2→((((x1:Int)<1)→Cells H2 b1 0 4∧∀H3,Puts H2 b1 0 [.int .i64 0,.int .i64 0,.int .i64 0,.int .i64 0] H3→∃n4,hcell H3 b1 0=some (.int .i64 n4)∧∃n5,hcell H3 b1 (0+1)=some (.int .i64 n5)∧∃n6,hcell H3 b1 (0+1+1)=some (.int .i64 n6)∧∃n7,hcell H3 b1 (0+1+1+1)=some (.int .i64 n7)∧R (.tuple #[.agg #[.int .i64 n4,.int .i64 n5,.int .i64 n6,.int .i64 n7],.bool false]) H3)∧(¬((x1:Int)<1)→((((256:Int)<x1)→Cells H2 b1 0 4∧∀H8,Puts H2 b1 0 [.int .i64 0,.int .i64 0,.int .i64 0,.int .i64 0] H8→∃n9,hcell H8 b1 0=some (.int .i64 n9)∧∃n10,hcell H8 b1 (0+1)=some (.int .i64 n10)∧∃n11,hcell H8 b1 (0+1+1)=some (.int .i64 n11)∧∃n12,hcell H8 b1 (0+1+1+1)=some (.int .i64 n12)∧R (.tuple #[.agg #[.int .i64 n9,.int .i64 n10,.int .i64 n11,.int .i64 n12],.bool false]) H8)∧(¬((256:Int)<x1)→((((x0:Int)<1)→Cells H2 b1 0 4∧∀H13,Puts H2 b1 0 [.int .i64 0,.int .i64 0,.int .i64 0,.int .i64 0] H13→∃n14,hcell H13 b1 0=some (.int .i64 n14)∧∃n15,hcell H13 b1 (0+1)=some (.int .i64 n15)∧∃n16,hcell H13 b1 (0+1+1)=some (.int .i64 n16)∧∃n17,hcell H13 b1 (0+1+1+1)=some (.int .i64 n17)∧R (.tuple #[.agg #[.int .i64 n14,.int .i64 n15,.int .i64 n16,.int .i64 n17],.bool false]) H13)∧(¬((x0:Int)<1)→Does Tryz.prog 175 [.int .i64 x0] H2 fun v18 H19=>∃p20:Option Addr,v18=(.pointer p20)∧Does Tryz.prog 176 [.pointer p20] H19 fun v21 H22=>∃a23 l24 c25,v21=(.slice a23 l24 c25)∧Does Tryz.prog 160 [.int .i64 (l24:Int)] H22 fun v26 H27=>∃n28,v26=(.int .i64 n28)∧∀b29 H30,New H27 b29 [.int .i64 0,.int .i64 0,.int .i64 0,.int .i64 0] 131 H30→Cells H30 b29 0 4∧∀H31,Puts H30 b29 0 [.int .i64 x0,.int .i64 x1,.int .i64 n28,.int .i64 0] H31→∃n32,hcell H31 b29 (0+2)=some (.int .i64 n32)∧In64 (1+n32) ∧In64 (x1+4) ∧In64 ((x1+4) - 1) ∧((4:Int)≠0) ∧∀q33:Int,q33=IntKind.wrap .i64 (Int.tdiv ((x1+4) - 1) 4)→In64 ((1+n32)+q33) ∧Cells H31 b29 (0+3) 1∧∀H34,Puts H31 b29 (0+3) [.int .i64 ((1+n32)+q33)] H34→∃n35,hcell H34 b29 0=some (.int .i64 n35)∧∃n36,hcell H34 b29 (0+1)=some (.int .i64 n36)∧∃n37,hcell H34 b29 (0+1+1)=some (.int .i64 n37)∧∃n38,hcell H34 b29 (0+1+1+1)=some (.int .i64 n38)∧∃n39,hcell H34 b29 (0+3)=some (.int .i64 n39)∧Cells H34 b1 0 4∧∀H40,Puts H34 b1 0 [.int .i64 n35,.int .i64 n36,.int .i64 n37,.int .i64 n38] H40→isL H40 b29 (0+3) [.int .i64 n39]∧∃n41,hcell H40 b1 0=some (.int .i64 n41)∧∃n42,hcell H40 b1 (0+1)=some (.int .i64 n42)∧∃n43,hcell H40 b1 (0+1+1)=some (.int .i64 n43)∧∃n44,hcell H40 b1 (0+1+1+1)=some (.int .i64 n44)∧R (.tuple #[.agg #[.int .i64 n41,.int .i64 n42,.int .i64 n43,.int .i64 n44],.bool (@decide (n39<x0) (Classical.propDecidable _))]) H40))))))):=by kernel_rfl
theorem PaddedV(x0:Option Addr) (x0l:Nat) (x0c:Nat) (H:Heap) (R:Value→Heap→Prop):Walk Tryz.prog 165 [] [.slice x0 x0l x0c] H R=(Does Tryz.prog 89 [.slice x0 x0l x0c] H fun v1 H2=>∃a3 l4 c5,v1=(.slice a3 l4 c5)∧Does Tryz.prog 160 [.int .i64 (x0l:Int)] H2 fun v6 H7=>∃n8,v6=(.int .i64 n8)∧In64 (n8*128) ∧In64 ((n8*128) - (x0l:Int)) ∧∃old9:List Value,SRow H7 1 l4 (.slice a3 l4 c5) old9∧(0:Int)≤((n8*128) - (x0l:Int))∧(l4+(Int.toNat ((n8*128) - (x0l:Int))))*1≤140737488355328∧(l4+(Int.toNat ((n8*128) - (x0l:Int)))≤c5→roomOf H7 a3 (l4*1) ((Int.toNat ((n8*128) - (x0l:Int)))*1))∧∀a10:Option Addr,∀c11:Nat,∀H12,App H7 1 5 [.int .u8 0] a3 l4 c5 old9 (List.replicate (Int.toNat ((n8*128) - (x0l:Int))) (.int .u8 0)) (Int.toNat ((n8*128) - (x0l:Int))) a10 c11 H12→R (.slice a10 (l4+(Int.toNat ((n8*128) - (x0l:Int)))) c11) H12):=by kernel_rfl
theorem SlotLayV(x0_0:Int) (x0_1:Int) (x0_2:Option Addr) (x0_2l:Nat) (x0_2c:Nat) (H:Heap) (R:Value→Heap→Prop):Walk Tryz.prog 183 [] [.agg #[.int .i64 x0_0,.int .i64 x0_1,.slice x0_2 x0_2l x0_2c]] H R=(∀b1 H2,New H b1 [.int .i64 x0_0,.int .i64 x0_1,.slice x0_2 x0_2l x0_2c] 147 H2→Does Tryz.prog 179 [] H2 fun v3 H4=>∃p5:Option Addr,v3=(.pointer p5)∧∃n6,hcell H4 b1 0=some (.int .i64 n6)∧Does Tryz.prog 204 [.pointer p5,.int .i64 n6] H4 fun v7 H8=>v7=(.tuple #[])∧∃n9,hcell H8 b1 (0+1)=some (.int .i64 n9)∧Does Tryz.prog 180 [.pointer p5,.int .i64 n9] H8 fun v10 H11=>v10=(.tuple #[])∧∃a12 l13 c14,hcell H11 b1 (0+2)=some (.slice a12 l13 c14)∧Does Tryz.prog 207 [.pointer p5,.int .i64 (l13:Int)] H11 fun v15 H16=>v15=(.tuple #[])∧Does Tryz.prog 207 [.pointer p5,.int .i64 0] H16 fun v17 H18=>v17=(.tuple #[])∧∃a19 l20 c21,hcell H18 b1 (0+2)=some (.slice a19 l20 c21)∧∃I22:Int→Heap→Prop,∃μ23:Int→Heap→Nat,(I22 0 H18) ∧∀n24 H25,I22 n24 H25→(((n24<(l20:Int))→(0:Int)≤n24∧n24<(l20:Int)∧∃b26 o27:Nat,a19=some (⟨b26,o27,none⟩:Addr)∧∃n28,hcell H25 b26 (o27+(Int.toNat n24)*2)=some (.int .i64 n28)∧∃n29,hcell H25 b26 (o27+(Int.toNat n24)*2+1)=some (.int .i64 n29)∧∀b30 H31,New H25 b30 [.int .i64 0,.int .i64 0] 103 H31→Cells H31 b30 0 2∧∀H32,Puts H31 b30 0 [.int .i64 n28,.int .i64 n29] H32→∃n33,hcell H32 b30 0=some (.int .i64 n33)∧Does Tryz.prog 180 [.pointer p5,.int .i64 n33] H32 fun v34 H35=>v34=(.tuple #[])∧∃n36,hcell H35 b30 (0+1)=some (.int .i64 n36)∧Does Tryz.prog 180 [.pointer p5,.int .i64 n36] H35 fun v37 H38=>v37=(.tuple #[])∧In64 (n24+1) ∧(I22 (n24+1) H38)∧μ23 (n24+1) H38<μ23 n24 H25)∧(¬(n24<(l20:Int))→Does Tryz.prog 181 [.pointer p5] H25 fun v39 H40=>∃a41 l42 c43,v39=(.slice a41 l42 c43)∧Does Tryz.prog 181 [.pointer p5] H40 fun v44 H45=>∃a46 l47 c48,v44=(.slice a46 l47 c48)∧In64 (32 - (l47:Int)) ∧∃old49:List Value,SRow H45 1 l42 (.slice a41 l42 c43) old49∧(0:Int)≤(32 - (l47:Int))∧(l42+(Int.toNat (32 - (l47:Int))))*1≤140737488355328∧(l42+(Int.toNat (32 - (l47:Int)))≤c43→roomOf H45 a41 (l42*1) ((Int.toNat (32 - (l47:Int)))*1))∧∀a50:Option Addr,∀c51:Nat,∀H52,App H45 1 5 [.int .u8 0] a41 l42 c43 old49 (List.replicate (Int.toNat (32 - (l47:Int))) (.int .u8 0)) (Int.toNat (32 - (l47:Int))) a50 c51 H52→R (.slice a50 (l42+(Int.toNat (32 - (l47:Int)))) c51) H52))):=by kernel_rfl
theorem FixedV(x0_0:Int) (x0_1:Int) (x0_2:Int) (x0_3:Int) (x1_0:Option Addr) (x1_0l:Nat) (x1_0c:Nat) (x1_1:Option Addr) (x1_2:Option Nat) (H:Heap) (R:Value→Heap→Prop):Walk Tryz.prog 117 [] [.agg #[.int .i64 x0_0,.int .i64 x0_1,.int .i64 x0_2,.int .i64 x0_3],.agg #[.slice x1_0 x1_0l x1_0c,.pointer x1_1,.map x1_2]] H R=(∀b1 H2,New H b1 [.int .i64 x0_0,.int .i64 x0_1,.int .i64 x0_2,.int .i64 x0_3] 131 H2→∀b3 H4,New H2 b3 [.slice x1_0 x1_0l x1_0c,.pointer x1_1,.map x1_2] 136 H4→Does Tryz.prog 179 [] H4 fun v5 H6=>∃p7:Option Addr,v5=(.pointer p7)∧∃n8,hcell H6 b1 (0+1)=some (.int .i64 n8)∧Does Tryz.prog 180 [.pointer p7,.int .i64 n8] H6 fun v9 H10=>v9=(.tuple #[])∧Does Tryz.prog 181 [.pointer p7] H10 fun v11 H12=>∃a13 l14 c15,v11=(.slice a13 l14 c15)∧Does Tryz.prog 165 [.slice a13 l14 c15] H12 fun v16 H17=>∃a18 l19 c20,v16=(.slice a18 l19 c20)∧∃p21:Option Addr,hcell H17 b3 (0+1)=some (.pointer p21)∧Does Tryz.prog 176 [.pointer p21] H17 fun v22 H23=>∃a24 l25 c26,v22=(.slice a24 l25 c26)∧Does Tryz.prog 165 [.slice a24 l25 c26] H23 fun v27 H28=>∃a29 l30 c31,v27=(.slice a29 l30 c31)∧∃old32 new33:List Value,SRow H28 1 l19 (.slice a18 l19 c20) old32∧SRow H28 1 l30 (.slice a29 l30 c31) new33∧(∀u∈new33,Value.oneCell' u=true)∧(l19+l30)*1≤140737488355328∧(l19+l30≤c20→roomOf H28 a18 (l19*1) (l30*1))∧∀a34:Option Addr,∀c35:Nat,∀H36,App H28 1 5 [.int .u8 0] a18 l19 c20 old32 new33 l30 a34 c35 H36→Does Tryz.prog 179 [] H36 fun v37 H38=>∃p39:Option Addr,v37=(.pointer p39)∧∃a40 l41 c42,hcell H38 b3 0=some (.slice a40 l41 c42)∧∃I43:Int→Heap→Prop,∃μ44:Int→Heap→Nat,(I43 0 H38) ∧∀n45 H46,I43 n45 H46→(((n45<(l41:Int))→(0:Int)≤n45∧n45<(l41:Int)∧∃b47 o48:Nat,a40=some (⟨b47,o48,none⟩:Addr)∧∃n49,hcell H46 b47 (o48+(Int.toNat n45)*3)=some (.int .i64 n49)∧∃n50,hcell H46 b47 (o48+(Int.toNat n45)*3+1)=some (.int .i64 n50)∧∃a51 l52 c53,hcell H46 b47 ((o48+(Int.toNat n45)*3+1)+1)=some (.slice a51 l52 c53)∧∀b54 H55,New H46 b54 [.int .i64 0,.int .i64 0,.slice none 0 0] 147 H55→Cells H55 b54 0 3∧∀H56,Puts H55 b54 0 [.int .i64 n49,.int .i64 n50,.slice a51 l52 c53] H56→∃n57,hcell H56 b54 0=some (.int .i64 n57)∧∃n58,hcell H56 b54 (0+1)=some (.int .i64 n58)∧∃a59 l60 c61,hcell H56 b54 (0+1+1)=some (.slice a59 l60 c61)∧Does Tryz.prog 183 [.agg #[.int .i64 n57,.int .i64 n58,.slice a59 l60 c61]] H56 fun v62 H63=>∃a64 l65 c66,v62=(.slice a64 l65 c66)∧Does Tryz.prog 182 [.pointer p39,.slice a64 l65 c66] H63 fun v67 H68=>v67=(.tuple #[])∧In64 (n45+1) ∧(I43 (n45+1) H68)∧μ44 (n45+1) H68<μ44 n45 H46)∧(¬(n45<(l41:Int))→Does Tryz.prog 181 [.pointer p39] H46 fun v69 H70=>∃a71 l72 c73,v69=(.slice a71 l72 c73)∧Does Tryz.prog 165 [.slice a71 l72 c73] H70 fun v74 H75=>∃a76 l77 c78,v74=(.slice a76 l77 c78)∧∃old79 new80:List Value,SRow H75 1 (l19+l30) (.slice a34 (l19+l30) c35) old79∧SRow H75 1 l77 (.slice a76 l77 c78) new80∧(∀u∈new80,Value.oneCell' u=true)∧((l19+l30)+l77)*1≤140737488355328∧((l19+l30)+l77≤c35→roomOf H75 a34 ((l19+l30)*1) (l77*1))∧∀a81:Option Addr,∀c82:Nat,∀H83,App H75 1 5 [.int .u8 0] a34 (l19+l30) c35 old79 new80 l77 a81 c82 H83→Does Tryz.prog 164 [.slice a81 ((l19+l30)+l77) c82,.int .i64 128] H83 fun v84 H85=>∃f86:FuncId,∃fa87:Array Value,∃fc88:Array Value,v84=(.func (.func f86) fa87 fc88)∧Does Tryz.prog 163 [.func (.func f86) fa87 fc88] H85 fun v89 H90=>∃a91 l92 c93,v89=(.slice a91 l92 c93)∧R (.slice a91 l92 c93) H90))):=by kernel_rfl
theorem RefsV(x0:Option Addr) (x1:Int) (H:Heap) (R:Value→Heap→Prop):Walk Tryz.prog 50 [] [.pointer x0,.int .i64 x1] H R=((((x1:Int)<1)→R (.int .i64 0) H)∧(¬((x1:Int)<1)→∃b1 o2:Nat,x0=some (⟨b1,o2,none⟩:Addr)∧∃a3 l4 c5,hcell H b1 (o2+5)=some (.slice a3 l4 c5)∧(((((l4:Int):Int)<x1)→R (.int .i64 0) H)∧(¬(((l4:Int):Int)<x1)→∃b6 o7:Nat,x0=some (⟨b6,o7,none⟩:Addr)∧∃a8 l9 c10,hcell H b6 (o7+5)=some (.slice a8 l9 c10)∧In64 (x1 - 1) ∧(0:Int)≤(x1 - 1)∧((x1 - 1):Int)<(l9:Int)∧∃b11 o12:Nat,a8=some (⟨b11,o12,none⟩:Addr)∧∃n13,hcell H b11 ((o12+(Int.toNat (x1 - 1))*3)+1)=some (.int .i64 n13)∧R (.int .i64 n13) H)))):=by kernel_rfl
theorem IDsV(x0:Option Addr) (H:Heap) (R:Value→Heap→Prop):Walk Tryz.prog 33 [] [.pointer x0] H R=(∃b1 o2:Nat,x0=some (⟨b1,o2,none⟩:Addr)∧∃a3 l4 c5,hcell H b1 (o2+5)=some (.slice a3 l4 c5)∧∃I6:Option Addr→Nat→Nat→Int→Heap→Prop,∃μ7:Option Addr→Nat→Nat→Int→Heap→Nat,(I6 none 0 0 0 H) ∧∀a8 l9 c10,∀n11:Int,∀H12:Heap,I6 a8 l9 c10 n11 H12→(((n11<(l4:Int))→(0:Int)≤n11∧n11<(l4:Int)∧∃b13 o14:Nat,a3=some (⟨b13,o14,none⟩:Addr)∧∃n15,hcell H12 b13 (o14+(Int.toNat n11)*3)=some (.int .i64 n15)∧∃n16,hcell H12 b13 (o14+(Int.toNat n11)*3+1)=some (.int .i64 n16)∧∃a17 l18 c19,hcell H12 b13 ((o14+(Int.toNat n11)*3+1)+1)=some (.slice a17 l18 c19)∧∀b20 H21,New H12 b20 [.int .i64 0,.int .i64 0,.slice none 0 0] 147 H21→Cells H21 b20 0 3∧∀H22,Puts H21 b20 0 [.int .i64 n15,.int .i64 n16,.slice a17 l18 c19] H22→∃n23,hcell H22 b20 (0+1)=some (.int .i64 n23)∧((((0:Int)<n23)→In64 (n11+1) ∧∀b24 H25,New H22 b24 [.int .i64 (n11+1)] 3 H25→∃old26 new27:List Value,SRow H25 1 l9 (.slice a8 l9 c10) old26∧SRow H25 1 1 (.slice (some ⟨b24,0,none⟩) 1 1) new27∧(∀u∈new27,Value.oneCell' u=true)∧(l9+1)*8≤140737488355328∧(l9+1≤c10→roomOf H25 a8 (l9*1) (1*1))∧∀a28:Option Addr,∀c29:Nat,∀H30,App H25 1 3 [.int .i64 0] a8 l9 c10 old26 new27 1 a28 c29 H30→In64 (n11+1) ∧(I6 a28 (l9+1) c29 (n11+1) H30)∧μ7 a28 (l9+1) c29 (n11+1) H30<μ7 a8 l9 c10 n11 H12)∧(¬((0:Int)<n23)→In64 (n11+1) ∧(I6 a8 l9 c10 (n11+1) H22)∧μ7 a8 l9 c10 (n11+1) H22<μ7 a8 l9 c10 n11 H12)))∧(¬(n11<(l4:Int))→R (.slice a8 l9 c10) H12))):=by kernel_rfl
theorem FreeV(x0:Option Addr) (H:Heap) (R:Value→Heap→Prop):Walk Tryz.prog 30 [] [.pointer x0] H R=(∃b1 o2:Nat,x0=some (⟨b1,o2,none⟩:Addr)∧∃p3:Option Addr,hcell H b1 ((o2+5)+1)=some (.pointer p3)∧Does Tryz.prog 101 [.pointer p3] H fun v4 H5=>∃n6,v4=(.int .i64 n6)∧R (.int .i64 n6) H5):=by kernel_rfl
theorem UsedV(x0:Option Addr) (H:Heap) (R:Value→Heap→Prop):Walk Tryz.prog 32 [] [.pointer x0] H R=(∃b1 o2:Nat,x0=some (⟨b1,o2,none⟩:Addr)∧∃n3,hcell H b1 (o2+1)=some (.int .i64 n3)∧∃b4 o5:Nat,x0=some (⟨b4,o5,none⟩:Addr)∧∃n6,hcell H b4 ((o5+1)+3)=some (.int .i64 n6)∧In64 (n3 - n6) ∧Does Tryz.prog 30 [.pointer x0] H fun v7 H8=>∃n9,v7=(.int .i64 n9)∧isL H8 b4 ((o5+1)+3) [.int .i64 n6]∧isL H8 b1 (o2+1) [.int .i64 n3]∧In64 ((n3 - n6) - n9) ∧R (.int .i64 ((n3 - n6) - n9)) H8):=by kernel_rfl
theorem TurnedV(x0:Option Addr) (H:Heap) (R:Value→Heap→Prop):Walk Tryz.prog 112 [] [.pointer x0] H R=(∃b1 o2:Nat,x0=some (⟨b1,o2,none⟩:Addr)∧∃n3,hcell H b1 (o2+1)=some (.int .i64 n3)∧∃n4,hcell H b1 (o2+1+1)=some (.int .i64 n4)∧∃n5,hcell H b1 (o2+1+1+1)=some (.int .i64 n5)∧∃n6,hcell H b1 (o2+1+1+1+1)=some (.int .i64 n6)∧∃b7 o8:Nat,x0=some (⟨b7,o8,none⟩:Addr)∧∃a9 l10 c11,hcell H b7 (o8+8)=some (.slice a9 l10 c11)∧∃p12:Option Addr,hcell H b7 ((o8+8)+1)=some (.pointer p12)∧∃m13:Option Nat,hcell H b7 (((o8+8)+1)+1)=some (.map m13)∧Does Tryz.prog 117 [.agg #[.int .i64 n3,.int .i64 n4,.int .i64 n5,.int .i64 n6],.agg #[.slice a9 l10 c11,.pointer p12,.map m13]] H fun v14 H15=>∃a16 l17 c18,v14=(.slice a16 l17 c18)∧∃b19 o20:Nat,x0=some (⟨b19,o20,none⟩:Addr)∧∃n21,hcell H15 b19 (o20+1)=some (.int .i64 n21)∧∃n22,hcell H15 b19 (o20+1+1)=some (.int .i64 n22)∧∃n23,hcell H15 b19 (o20+1+1+1)=some (.int .i64 n23)∧∃n24,hcell H15 b19 (o20+1+1+1+1)=some (.int .i64 n24)∧∃b25 o26:Nat,x0=some (⟨b25,o26,none⟩:Addr)∧∃a27 l28 c29,hcell H15 b25 (o26+5)=some (.slice a27 l28 c29)∧∃p30:Option Addr,hcell H15 b25 ((o26+5)+1)=some (.pointer p30)∧∃m31:Option Nat,hcell H15 b25 (((o26+5)+1)+1)=some (.map m31)∧Does Tryz.prog 117 [.agg #[.int .i64 n21,.int .i64 n22,.int .i64 n23,.int .i64 n24],.agg #[.slice a27 l28 c29,.pointer p30,.map m31]] H15 fun v32 H33=>∃a34 l35 c36,v32=(.slice a34 l35 c36)∧∃I37:Option Addr→Nat→Nat→Int→Heap→Prop,∃μ38:Option Addr→Nat→Nat→Int→Heap→Nat,(I37 none 0 0 0 H33) ∧∀a39 l40 c41,∀n42:Int,∀H43:Heap,I37 a39 l40 c41 n42 H43→(((n42<(l35:Int))→(0:Int)≤n42∧n42<(l35:Int)∧∃b44 o45:Nat,a34=some (⟨b44,o45,none⟩:Addr)∧∃a46 l47 c48,hcell H43 b44 (o45+(Int.toNat n42))=some (.slice a46 l47 c48)∧(0:Int)≤n42∧n42<(l17:Int)∧∃b49 o50:Nat,a16=some (⟨b49,o50,none⟩:Addr)∧∃a51 l52 c53,hcell H43 b49 (o50+(Int.toNat n42))=some (.slice a51 l52 c53)∧Does Tryz.prog 152 [.slice a46 l47 c48,.slice a51 l52 c53] H43 fun v54 H55=>∃t56,v54=(.bool t56)∧(((t56=false)→∀b57 H58,New H55 b57 [.int .i64 n42,.slice a46 l47 c48] 162 H58→∃old59 new60:List Value,SRow H58 2 l40 (.slice a39 l40 c41) old59∧SRow H58 2 1 (.slice (some ⟨b57,0,none⟩) 1 1) new60∧(∀u∈new60,Value.oneCell' u=true)∧(l40+1)*32≤140737488355328∧(l40+1≤c41→roomOf H58 a39 (l40*2) (1*2))∧∀a61:Option Addr,∀c62:Nat,∀H63,App H58 2 162 [.int .i64 0,.slice none 0 0] a39 l40 c41 old59 new60 1 a61 c62 H63→In64 (n42+1) ∧(I37 a61 (l40+1) c62 (n42+1) H63)∧μ38 a61 (l40+1) c62 (n42+1) H63<μ38 a39 l40 c41 n42 H43)∧(¬(t56=false)→In64 (n42+1) ∧(I37 a39 l40 c41 (n42+1) H55)∧μ38 a39 l40 c41 (n42+1) H55<μ38 a39 l40 c41 n42 H43)))∧(¬(n42<(l35:Int))→∃b64 o65:Nat,x0=some (⟨b64,o65,none⟩:Addr)∧∃n66,hcell H43 b64 ((o65+1)+3)=some (.int .i64 n66)∧∃I67:Option Addr→Nat→Nat→Int→Heap→Prop,∃μ68:Option Addr→Nat→Nat→Int→Heap→Nat,(I67 a39 l40 c41 n66 H43) ∧∀a69 l70 c71,∀n72:Int,∀H73:Heap,I67 a69 l70 c71 n72 H73→∃b74 o75:Nat,x0=some (⟨b74,o75,none⟩:Addr)∧∃n76,hcell H73 b74 (o75+1)=some (.int .i64 n76)∧(((n72<n76)→∃b77 o78:Nat,x0=some (⟨b77,o78,none⟩:Addr)∧∃m79:Option Nat,hcell H73 b77 ((o78+5)+2)=some (.map m79)∧∃r80:Nat,∃l81:List (Int×Value),m79=some r80∧MapIs H73 r80 l81∧∃a82 l83 c84,(.slice a82 l83 c84)=mapGet l81 n72 (.slice none 0 0)∧∃b85 o86:Nat,x0=some (⟨b85,o86,none⟩:Addr)∧∃p87:Option Addr,hcell H73 b85 ((o86+5)+1)=some (.pointer p87)∧Does Tryz.prog 153 [.pointer p87,.int .i64 n72] H73 fun v88 H89=>∃t90,v88=(.bool t90)∧((t90=true→∃b91 o92:Nat,x0=some (⟨b91,o92,none⟩:Addr)∧∃p93:Option Addr,hcell H89 b91 ((o92+8)+1)=some (.pointer p93)∧Does Tryz.prog 153 [.pointer p93,.int .i64 n72] H89 fun v94 H95=>∃t96,v94=(.bool t96)∧(((t96=false)→∀b97 H98,New H95 b97 [.int .i64 n72,.slice a82 l83 c84] 162 H98→∃old99 new100:List Value,SRow H98 2 l70 (.slice a69 l70 c71) old99∧SRow H98 2 1 (.slice (some ⟨b97,0,none⟩) 1 1) new100∧(∀u∈new100,Value.oneCell' u=true)∧(l70+1)*32≤140737488355328∧(l70+1≤c71→roomOf H98 a69 (l70*2) (1*2))∧∀a101:Option Addr,∀c102:Nat,∀H103,App H98 2 162 [.int .i64 0,.slice none 0 0] a69 l70 c71 old99 new100 1 a101 c102 H103→In64 (n72+1) ∧(I67 a101 (l70+1) c102 (n72+1) H103)∧μ68 a101 (l70+1) c102 (n72+1) H103<μ68 a69 l70 c71 n72 H73)∧(¬(t96=false)→∃b104 o105:Nat,x0=some (⟨b104,o105,none⟩:Addr)∧∃m106:Option Nat,hcell H95 b104 ((o105+8)+2)=some (.map m106)∧∃r107:Nat,∃l108:List (Int×Value),m106=some r107∧MapIs H95 r107 l108∧∃a109 l110 c111,(.slice a109 l110 c111)=mapGet l108 n72 (.slice none 0 0)∧Does Tryz.prog 152 [.slice a82 l83 c84,.slice a109 l110 c111] H95 fun v112 H113=>∃t114,v112=(.bool t114)∧(((t114=false)→∀b115 H116,New H113 b115 [.int .i64 n72,.slice a82 l83 c84] 162 H116→∃old117 new118:List Value,SRow H116 2 l70 (.slice a69 l70 c71) old117∧SRow H116 2 1 (.slice (some ⟨b115,0,none⟩) 1 1) new118∧(∀u∈new118,Value.oneCell' u=true)∧(l70+1)*32≤140737488355328∧(l70+1≤c71→roomOf H116 a69 (l70*2) (1*2))∧∀a119:Option Addr,∀c120:Nat,∀H121,App H116 2 162 [.int .i64 0,.slice none 0 0] a69 l70 c71 old117 new118 1 a119 c120 H121→In64 (n72+1) ∧(I67 a119 (l70+1) c120 (n72+1) H121)∧μ68 a119 (l70+1) c120 (n72+1) H121<μ68 a69 l70 c71 n72 H73)∧(¬(t114=false)→In64 (n72+1) ∧(I67 a69 l70 c71 (n72+1) H113)∧μ68 a69 l70 c71 (n72+1) H113<μ68 a69 l70 c71 n72 H73)))))∧(t90=false→In64 (n72+1) ∧(I67 a69 l70 c71 (n72+1) H89)∧μ68 a69 l70 c71 (n72+1) H89<μ68 a69 l70 c71 n72 H73)))∧(¬(n72<n76)→R (.slice a69 l70 c71) H73))))):=by kernel_rfl
theorem UndoV(x0:Option Addr) (H:Heap) (R:Value→Heap→Prop):Walk Tryz.prog 38 [] [.pointer x0] H R=(∃b1 o2:Nat,x0=some (⟨b1,o2,none⟩:Addr)∧∃a3 l4 c5,hcell H b1 (o2+8)=some (.slice a3 l4 c5)∧∃p6:Option Addr,hcell H b1 ((o2+8)+1)=some (.pointer p6)∧∃m7:Option Nat,hcell H b1 (((o2+8)+1)+1)=some (.map m7)∧Does Tryz.prog 94 [.agg #[.slice a3 l4 c5,.pointer p6,.map m7]] H fun v8 H9=>∃a10 l11 c12,∃p13:Option Addr,∃m14:Option Nat,v8=(.agg #[.slice a10 l11 c12,.pointer p13,.map m14])∧∃b15 o16:Nat,x0=some (⟨b15,o16,none⟩:Addr)∧Cells H9 b15 (o16+5) 3∧∀H17,Puts H9 b15 (o16+5) [.slice a10 l11 c12,.pointer p13,.map m14] H17→R (.tuple #[]) H17):=by kernel_rfl
theorem SyncV(x0:Option Addr) (H:Heap) (R:Value→Heap→Prop):Walk Tryz.prog 47 [] [.pointer x0] H R=(∃b1 o2:Nat,x0=some (⟨b1,o2,none⟩:Addr)∧∃p3:Option Addr,hcell H b1 o2=some (.pointer p3)∧Does Tryz.prog 121 [.pointer p3] H fun v4 H5=>∃n6,v4=(.int .i64 n6)∧R (.int .i64 n6) H5):=by kernel_rfl
theorem JDeadV(x0:Option Addr) (H:Heap) (R:Value→Heap→Prop):Walk Tryz.prog 111 [] [.pointer x0] H R=(∃b1 o2:Nat,x0=some (⟨b1,o2,none⟩:Addr)∧∃t3,hcell H b1 (o2+6)=some (.bool t3)∧R (.bool t3) H):=by kernel_rfl
theorem GrowBV(x0:Option Addr) (x0l:Nat) (x0c:Nat) (x1:Int) (H:Heap) (R:Value→Heap→Prop):Walk Tryz.prog 185 [] [.slice x0 x0l x0c,.int .i64 x1] H R=((((x1:Int)<0)→((fun (_:Value) (_:Heap)=>False) (.iface 9 (.string (ByteArray.mk #[99,97,110,110,111,116,32,98,101,32,110,101,103,97,116,105,118,101]))) H))∧(¬((x1:Int)<0)→(In64 ((x0c:Int) - (x0l:Int)) ∧In64 (x1 - ((x0c:Int) - (x0l:Int))) ∧((((0:Int)<(x1 - ((x0c:Int) - (x0l:Int))))→(0:Int)≤(x0c:Int)∧((x0c:Int):Int)≤(x0c:Int)∧∃old1:List Value,SRow H 1 (Int.toNat (x0c:Int)) (.slice x0 (Int.toNat (x0c:Int)) x0c) old1∧(0:Int)≤(x1 - ((x0c:Int) - (x0l:Int)))∧((Int.toNat (x0c:Int))+(Int.toNat (x1 - ((x0c:Int) - (x0l:Int)))))*1≤140737488355328∧((Int.toNat (x0c:Int))+(Int.toNat (x1 - ((x0c:Int) - (x0l:Int))))≤x0c→roomOf H x0 ((Int.toNat (x0c:Int))*1) ((Int.toNat (x1 - ((x0c:Int) - (x0l:Int))))*1))∧∀a2:Option Addr,∀c3:Nat,∀H4,App H 1 5 [.int .u8 0] x0 (Int.toNat (x0c:Int)) x0c old1 (List.replicate (Int.toNat (x1 - ((x0c:Int) - (x0l:Int)))) (.int .u8 0)) (Int.toNat (x1 - ((x0c:Int) - (x0l:Int)))) a2 c3 H4→(0:Int)≤(x0l:Int)∧((x0l:Int):Int)≤(c3:Int)∧R (.slice a2 (Int.toNat (x0l:Int)) c3) H4)∧(¬((0:Int)<(x1 - ((x0c:Int) - (x0l:Int))))→R (.slice x0 x0l x0c) H))))):=by kernel_rfl
theorem ConcatV(x0:Option Addr) (x0l:Nat) (x0c:Nat) (H:Heap) (R:Value→Heap→Prop):Walk Tryz.prog 125 [] [.slice x0 x0l x0c] H R=(∃I1:Int→Int→Heap→Prop,∃μ2:Int→Int→Heap→Nat,(I1 0 0 H) ∧∀n3:Int,∀n4:Int,∀H5:Heap,I1 n3 n4 H5→(((n4<(x0l:Int))→(0:Int)≤n4∧n4<(x0l:Int)∧∃b6 o7:Nat,x0=some (⟨b6,o7,none⟩:Addr)∧∃a8 l9 c10,hcell H5 b6 (o7+(Int.toNat n4))=some (.slice a8 l9 c10)∧In64 (n3+(l9:Int)) ∧(((((n3+(l9:Int)):Int)<0)→((fun (_:Value) (_:Heap)=>False) (.iface 9 (.string (ByteArray.mk #[108,101,110,32,111,117,116,32,111,102,32,114,97,110,103,101]))) H5))∧(¬(((n3+(l9:Int)):Int)<0)→In64 (n4+1) ∧(I1 (n3+(l9:Int)) (n4+1) H5)∧μ2 (n3+(l9:Int)) (n4+1) H5<μ2 n3 n4 H5)))∧(¬(n4<(x0l:Int))→Does Tryz.prog 185 [.slice none 0 0,.int .i64 n3] H5 fun v11 H12=>∃a13 l14 c15,v11=(.slice a13 l14 c15)∧∃I16:Option Addr→Nat→Nat→Int→Heap→Prop,∃μ17:Option Addr→Nat→Nat→Int→Heap→Nat,(I16 a13 l14 c15 0 H12) ∧∀a18 l19 c20,∀n21:Int,∀H22:Heap,I16 a18 l19 c20 n21 H22→(((n21<(x0l:Int))→(0:Int)≤n21∧n21<(x0l:Int)∧∃b23 o24:Nat,x0=some (⟨b23,o24,none⟩:Addr)∧∃a25 l26 c27,hcell H22 b23 (o24+(Int.toNat n21))=some (.slice a25 l26 c27)∧∃old28 new29:List Value,SRow H22 1 l19 (.slice a18 l19 c20) old28∧SRow H22 1 l26 (.slice a25 l26 c27) new29∧(∀u∈new29,Value.oneCell' u=true)∧(l19+l26)*1≤140737488355328∧(l19+l26≤c20→roomOf H22 a18 (l19*1) (l26*1))∧∀a30:Option Addr,∀c31:Nat,∀H32,App H22 1 5 [.int .u8 0] a18 l19 c20 old28 new29 l26 a30 c31 H32→In64 (n21+1) ∧(I16 a30 (l19+l26) c31 (n21+1) H32)∧μ17 a30 (l19+l26) c31 (n21+1) H32<μ17 a18 l19 c20 n21 H22)∧(¬(n21<(x0l:Int))→R (.slice a18 l19 c20) H22))))):=by kernel_rfl
theorem CloneSV(x0:Option Addr) (x0l:Nat) (x0c:Nat) (H:Heap) (R:Value→Heap→Prop):Walk Tryz.prog 154 [] [.slice x0 x0l x0c] H R=((((x0:Option Addr)=none)→R (.slice none 0 0) H)∧(¬((x0:Option Addr)=none)→∀b1 H2,New H b1 [] 147 H2→∃old3 new4:List Value,SRow H2 3 0 (.slice (some ⟨b1,0,none⟩) 0 0) old3∧SRow H2 3 x0l (.slice x0 x0l x0c) new4∧(∀u∈new4,Value.oneCell' u=true)∧(0+x0l)*40≤140737488355328∧(0+x0l≤0→roomOf H2 (some (⟨b1,0,none⟩:Addr)) (0*3) (x0l*3))∧∀a5:Option Addr,∀c6:Nat,∀H7,App H2 3 147 [.int .i64 0,.int .i64 0,.slice none 0 0] (some (⟨b1,0,none⟩:Addr)) 0 0 old3 new4 x0l a5 c6 H7→R (.slice a5 (0+x0l) c6) H7)):=by kernel_rfl
theorem IndexFV(x0:Option Addr) (x0l:Nat) (x0c:Nat) (H:Heap) (R:Value→Heap→Prop):Walk Tryz.prog 105 [] [.slice x0 x0l x0c,.func (.func 106) #[] #[]] H R=(∃I1:Int→Heap→Prop,∃μ2:Int→Heap→Nat,(I1 0 H) ∧∀n3 H4,I1 n3 H4→(((n3<(x0l:Int))→(0:Int)≤n3∧n3<(x0l:Int)∧∃b5 o6:Nat,x0=some (⟨b5,o6,none⟩:Addr)∧∃n7,hcell H4 b5 (o6+(Int.toNat n3)*3)=some (.int .i64 n7)∧∃n8,hcell H4 b5 (o6+(Int.toNat n3)*3+1)=some (.int .i64 n8)∧∃a9 l10 c11,hcell H4 b5 ((o6+(Int.toNat n3)*3+1)+1)=some (.slice a9 l10 c11)∧Does Tryz.prog 106 [.agg #[.int .i64 n7,.int .i64 n8,.slice a9 l10 c11]] H4 fun v12 H13=>∃t14,v12=(.bool t14)∧((t14=true→R (.int .i64 n3) H13)∧(t14=false→In64 (n3+1) ∧(I1 (n3+1) H13)∧μ2 (n3+1) H13<μ2 n3 H4)))∧(¬(n3<(x0l:Int))→R (.int .i64 (-1)) H4))):=by kernel_rfl
theorem NoRefV(x0_0:Int) (x0_1:Int) (x0_2:Option Addr) (x0_2l:Nat) (x0_2c:Nat) (H:Heap) (R:Value→Heap→Prop):Walk Tryz.prog 106 [] [.agg #[.int .i64 x0_0,.int .i64 x0_1,.slice x0_2 x0_2l x0_2c]] H R=(∀b1 H2,New H b1 [.int .i64 x0_0,.int .i64 x0_1,.slice x0_2 x0_2l x0_2c] 147 H2→∃n3,hcell H2 b1 (0+1)=some (.int .i64 n3)∧R (.bool (@decide (n3=0) (Classical.propDecidable _))) H2):=by kernel_rfl
theorem OpenSV(x0:Option Addr) (H:Heap) (R:Value→Heap→Prop):Walk Tryz.prog 27 [] [.pointer x0] H R=(Does Tryz.prog 92 [.pointer x0] H fun v1 H2=>∃p3:Option Addr,∃n4,v1=(.tuple #[.pointer p3,.int .i64 n4])∧(((n4≠0)→R (.tuple #[.pointer none,.int .i64 n4]) H2)∧(¬(n4≠0)→Does Tryz.prog 93 [.pointer p3] H2 fun v5 H6=>∃n7 n8,∃n9 n10,∃a11 l12 c13,∃p14:Option Addr,∃m15:Option Nat,∃n16,v5=(.tuple #[.agg #[.int .i64 n7,.int .i64 n8,.int .i64 n9,.int .i64 n10],.agg #[.slice a11 l12 c13,.pointer p14,.map m15],.int .i64 n16])∧∀b17 H18,New H6 b17 [.int .i64 0,.int .i64 0,.int .i64 0,.int .i64 0] 131 H18→∀b19 H20,New H18 b19 [.slice none 0 0,.pointer none,.map none] 136 H20→Cells H20 b17 0 4∧∀H21,Puts H20 b17 0 [.int .i64 n7,.int .i64 n8,.int .i64 n9,.int .i64 n10] H21→Cells H21 b19 0 3∧∀H22,Puts H21 b19 0 [.slice a11 l12 c13,.pointer p14,.map m15] H22→(((n16≠0)→R (.tuple #[.pointer none,.int .i64 n16]) H22)∧(¬(n16≠0)→∃n23,hcell H22 b17 0=some (.int .i64 n23)∧∃n24,hcell H22 b17 (0+1)=some (.int .i64 n24)∧∃n25,hcell H22 b17 (0+1+1)=some (.int .i64 n25)∧∃n26,hcell H22 b17 (0+1+1+1)=some (.int .i64 n26)∧∃a27 l28 c29,hcell H22 b19 0=some (.slice a27 l28 c29)∧∃p30:Option Addr,hcell H22 b19 (0+1)=some (.pointer p30)∧∃m31:Option Nat,hcell H22 b19 (0+1+1)=some (.map m31)∧∃a32 l33 c34,hcell H22 b19 0=some (.slice a32 l33 c34)∧∃p35:Option Addr,hcell H22 b19 (0+1)=some (.pointer p35)∧∃m36:Option Nat,hcell H22 b19 (0+1+1)=some (.map m36)∧Does Tryz.prog 94 [.agg #[.slice a32 l33 c34,.pointer p35,.map m36]] H22 fun v37 H38=>∃a39 l40 c41,∃p42:Option Addr,∃m43:Option Nat,v37=(.agg #[.slice a39 l40 c41,.pointer p42,.map m43])∧isL H38 b19 0 [.slice a27 l28 c29,.pointer p30,.map m31]∧isL H38 b17 0 [.int .i64 n23,.int .i64 n24,.int .i64 n25,.int .i64 n26]∧∀b44 H45,New H38 b44 [.pointer p3,.int .i64 n23,.int .i64 n24,.int .i64 n25,.int .i64 n26,.slice a27 l28 c29,.pointer p30,.map m31,.slice a39 l40 c41,.pointer p42,.map m43] 141 H45→R (.tuple #[.pointer (some ⟨b44,0,none⟩),.int .i64 0]) H45))))):=by kernel_rfl
theorem DoesGV(x0:Option Addr) (uf1:FuncId) (ua1:Array Value) (uc1:Array Value) (H:Heap) (R:Value→Heap→Prop):Walk Tryz.prog 102 [] [.pointer x0,.func (.func uf1) ua1 uc1] H R=(∀b1 H2,New H b1 [.pointer x0] 54 H2→∀b3 H4,New H2 b3 [.func (.func uf1) ua1 uc1] 151 H4→∃p5:Option Addr,hcell H4 b1 0=some (.pointer p5)∧∃b6 o7:Nat,p5=some (⟨b6,o7,none⟩:Addr)∧∃a8 l9 c10,hcell H4 b6 (o7+5)=some (.slice a8 l9 c10)∧∃p11:Option Addr,hcell H4 b6 ((o7+5)+1)=some (.pointer p11)∧∃m12:Option Nat,hcell H4 b6 (((o7+5)+1)+1)=some (.map m12)∧Does Tryz.prog 94 [.agg #[.slice a8 l9 c10,.pointer p11,.map m12]] H4 fun v13 H14=>∃a15 l16 c17,∃p18:Option Addr,∃m19:Option Nat,v13=(.agg #[.slice a15 l16 c17,.pointer p18,.map m19])∧∀b20 H21,New H14 b20 [.slice none 0 0,.pointer none,.map none] 136 H21→Cells H21 b20 0 3∧∀H22,Puts H21 b20 0 [.slice a15 l16 c17,.pointer p18,.map m19] H22→Does Tryz.prog 157 [.func (.func 158) #[] #[.pointer (some ⟨b1,0,none⟩),.pointer (some ⟨b3,0,none⟩)]] H22 fun v23 H24=>∃n25,v23=(.int .i64 n25)∧(((n25≠0)→∃p26:Option Addr,hcell H24 b1 0=some (.pointer p26)∧∃a27 l28 c29,hcell H24 b20 0=some (.slice a27 l28 c29)∧∃p30:Option Addr,hcell H24 b20 (0+1)=some (.pointer p30)∧∃m31:Option Nat,hcell H24 b20 (0+1+1)=some (.map m31)∧∃b32 o33:Nat,p26=some (⟨b32,o33,none⟩:Addr)∧Cells H24 b32 (o33+5) 3∧∀H34,Puts H24 b32 (o33+5) [.slice a27 l28 c29,.pointer p30,.map m31] H34→R (.int .i64 n25) H34)∧(¬(n25≠0)→R (.int .i64 n25) H24))):=by kernel_rfl
theorem DoesG1V(x0:Option Addr) (pb1:Nat) (pb2:Nat) (H:Heap) (R X:Value→Heap→Prop):WalkX Tryz.prog 158 [] [.pointer x0,.pointer (some ⟨pb1,0,none⟩),.pointer (some ⟨pb2,0,none⟩)] H R X=(∃p1:Option Addr,hcell H pb1 0=some (.pointer p1)∧∃b2 o3:Nat,p1=some (⟨b2,o3,none⟩:Addr)∧∃p4:Option Addr,hcell H b2 o3=some (.pointer p4)∧(DoesX (X:=X) Tryz.prog 111 [.pointer p4] H fun v5 H6=>∃t7,v5=(.bool t7)∧(DoesX (X:=X) Tryz.prog 104 [.pointer x0,.bool (@decide (t7=false) (Classical.propDecidable _)),.int .i64 4] H6 fun v8 H9=>v8=(.tuple #[])∧∃f10:FuncId,∃fa11:Array Value,∃fc12:Array Value,hcell H9 pb2 0=some (.func (.func f10) fa11 fc12)∧(hasB Tryz.prog f10 (DoesX (X:=X) Tryz.prog f10 (Array.toList fa11++[.pointer x0]++Array.toList fc12) H9 fun v13 H14=>v13=(.tuple #[])∧R (.tuple #[]) H14))))):=by kernel_rfl
theorem ThereV(x0:Option Addr) (x1:Option Addr) (x2:Int) (H:Heap) (R X:Value→Heap→Prop):WalkX Tryz.prog 109 [] [.pointer x0,.pointer x1,.int .i64 x2] H R X=(DoesX (X:=X) Tryz.prog 50 [.pointer x0,.int .i64 x2] H fun v1 H2=>∃n3,v1=(.int .i64 n3)∧(DoesX (X:=X) Tryz.prog 104 [.pointer x1,.bool (@decide ((0:Int)<n3) (Classical.propDecidable _)),.int .i64 6] H2 fun v4 H5=>v4=(.tuple #[])∧∃b6 o7:Nat,x0=some (⟨b6,o7,none⟩:Addr)∧∃a8 l9 c10,hcell H5 b6 (o7+5)=some (.slice a8 l9 c10)∧In64 (x2 - 1) ∧(0:Int)≤(x2 - 1)∧((x2 - 1):Int)<(l9:Int)∧∃b11 o12:Nat,a8=some (⟨b11,o12,none⟩:Addr)∧R (.pointer (some ⟨b11,(o12+(Int.toNat (x2 - 1))*3),none⟩)) H5)):=by kernel_rfl
theorem BytesSV(x0:Option Addr) (x1:Option Addr) (H:Heap) (R:Value→Heap→Prop):Walk Tryz.prog 124 [] [.pointer x0,.pointer x1] H R=(∃b1 o2:Nat,x1=some (⟨b1,o2,none⟩:Addr)∧∃a3 l4 c5,hcell H b1 (o2+2)=some (.slice a3 l4 c5)∧Does Tryz.prog 161 [.slice a3 l4 c5] H fun v6 H7=>∃n8,v6=(.int .i64 n8)∧∃I9:Option Addr→Nat→Nat→Int→Heap→Prop,∃μ10:Option Addr→Nat→Nat→Int→Heap→Nat,(I9 none 0 0 0 H7) ∧∀a11 l12 c13,∀n14:Int,∀H15:Heap,I9 a11 l12 c13 n14 H15→(((n14<n8)→∃b16 o17:Nat,x1=some (⟨b16,o17,none⟩:Addr)∧∃a18 l19 c20,hcell H15 b16 (o17+2)=some (.slice a18 l19 c20)∧Does Tryz.prog 166 [.slice a18 l19 c20,.int .i64 n14] H15 fun v21 H22=>∃n23,∃t24,v21=(.tuple #[.int .i64 n23,.bool t24])∧∃b25 o26:Nat,x0=some (⟨b25,o26,none⟩:Addr)∧∃m27:Option Nat,hcell H22 b25 ((o26+5)+2)=some (.map m27)∧∃r28:Nat,∃l29:List (Int×Value),m27=some r28∧MapIs H22 r28 l29∧∃a30 l31 c32,(.slice a30 l31 c32)=mapGet l29 n23 (.slice none 0 0)∧∃old33 new34:List Value,SRow H22 1 l12 (.slice a11 l12 c13) old33∧SRow H22 1 l31 (.slice a30 l31 c32) new34∧(∀u∈new34,Value.oneCell' u=true)∧(l12+l31)*1≤140737488355328∧(l12+l31≤c13→roomOf H22 a11 (l12*1) (l31*1))∧∀a35:Option Addr,∀c36:Nat,∀H37,App H22 1 5 [.int .u8 0] a11 l12 c13 old33 new34 l31 a35 c36 H37→In64 (n14+1) ∧(I9 a35 (l12+l31) c36 (n14+1) H37)∧μ10 a35 (l12+l31) c36 (n14+1) H37<μ10 a11 l12 c13 n14 H15)∧(¬(n14<n8)→∃b38 o39:Nat,x1=some (⟨b38,o39,none⟩:Addr)∧∃n40,hcell H15 b38 o39=some (.int .i64 n40)∧(0:Int)≤n40∧n40≤(c13:Int)∧R (.slice a11 (Int.toNat n40) c13) H15))):=by kernel_rfl
theorem FillV(x0:Option Addr) (x1:Option Addr) (x2:Option Addr) (x3:Option Addr) (x3l:Nat) (x3c:Nat) (H:Heap) (R X:Value→Heap→Prop):WalkX Tryz.prog 107 [(7,[])] [.pointer x0,.pointer x1,.pointer x2,.slice x3 x3l x3c] H R X=(∃b1 o2:Nat,x2=some (⟨b1,o2,none⟩:Addr)∧∃a3 l4 c5,hcell H b1 (o2+2)=some (.slice a3 l4 c5)∧(DoesX (X:=X) Tryz.prog 160 [.int .i64 (x3l:Int)] H fun v6 H7=>∃n8,v6=(.int .i64 n8)∧(isL H7 b1 (o2+2) [.slice a3 l4 c5]∧(DoesX (X:=X) Tryz.prog 161 [.slice a3 l4 c5] H7 fun v9 H10=>∃n11,v9=(.int .i64 n11)∧∃I12:Heap→Prop,(((n8<n11)→∃b13 o14:Nat,x0=some (⟨b13,o14,none⟩:Addr)∧∃p15:Option Addr,hcell H10 b13 ((o14+5)+1)=some (.pointer p15)∧∃b16 o17:Nat,x2=some (⟨b16,o17,none⟩:Addr)∧∃a18 l19 c20,hcell H10 b16 (o17+2)=some (.slice a18 l19 c20)∧(DoesX (X:=X) Tryz.prog 110 [.pointer p15,.slice a18 l19 c20,.int .i64 n8] H10 fun v21 H22=>∃a23 l24 c25,v21=(.slice a23 l24 c25)∧∃b26 o27:Nat,x2=some (⟨b26,o27,none⟩:Addr)∧Cells H22 b26 (o27+2) 1∧∀H28,Puts H22 b26 (o27+2) [.slice a23 l24 c25] H28→(I12 H28)))∧(¬(n8<n11)→(((n11<n8)→∃b29 o30:Nat,x0=some (⟨b29,o30,none⟩:Addr)∧∃p31:Option Addr,hcell H10 b29 ((o30+5)+1)=some (.pointer p31)∧∃b32 o33:Nat,x2=some (⟨b32,o33,none⟩:Addr)∧∃a34 l35 c36,hcell H10 b32 (o33+2)=some (.slice a34 l35 c36)∧∃b37 o38:Nat,x0=some (⟨b37,o38,none⟩:Addr)∧∃n39,hcell H10 b37 ((o38+1)+3)=some (.int .i64 n39)∧In64 (n8 - n11) ∧DoesX (X:=X) Tryz.prog 162 [.pointer p31,.slice a34 l35 c36,.int .i64 n39,.int .i64 (n8 - n11)] H10 fun v40 H41=>∃a42 l43 c44,∃t45,v40=(.tuple #[.slice a42 l43 c44,.bool t45])∧(DoesX (X:=X) Tryz.prog 104 [.pointer x1,.bool t45,.int .i64 3] H41 fun v46 H47=>v46=(.tuple #[])∧∃b48 o49:Nat,x2=some (⟨b48,o49,none⟩:Addr)∧Cells H47 b48 (o49+2) 1∧∀H50,Puts H47 b48 (o49+2) [.slice a42 l43 c44] H50→(I12 H50)))∧(¬(n11<n8)→(I12 H10))))) ∧∀H51,I12 H51→∃b52 o53:Nat,x2=some (⟨b52,o53,none⟩:Addr)∧Cells H51 b52 o53 1∧∀H54,Puts H51 b52 o53 [.int .i64 (x3l:Int)] H54→(DoesX (X:=X) Tryz.prog 165 [.slice x3 x3l x3c] H54 fun v55 H56=>∃a57 l58 c59,v55=(.slice a57 l58 c59)∧(DoesX (X:=X) Tryz.prog 164 [.slice a57 l58 c59,.int .i64 128] H56 fun v60 H61=>∃f62:FuncId,∃fa63:Array Value,∃fc64:Array Value,v60=(.func (.func f62) fa63 fc64)∧(DoesX (X:=X) Tryz.prog 163 [.func (.func f62) fa63 fc64] H61 fun v65 H66=>∃a67 l68 c69,v65=(.slice a67 l68 c69)∧∃I70:Int→Heap→Prop,∃μ71:Int→Heap→Nat,(I70 0 H66) ∧∀n72 H73,I70 n72 H73→(((n72<(l68:Int))→(0:Int)≤n72∧n72<(l68:Int)∧∃b74 o75:Nat,a67=some (⟨b74,o75,none⟩:Addr)∧∃a76 l77 c78,hcell H73 b74 (o75+(Int.toNat n72))=some (.slice a76 l77 c78)∧∃b79 o80:Nat,x2=some (⟨b79,o80,none⟩:Addr)∧∃a81 l82 c83,hcell H73 b79 (o80+2)=some (.slice a81 l82 c83)∧(DoesX (X:=X) Tryz.prog 166 [.slice a81 l82 c83,.int .i64 n72] H73 fun v84 H85=>∃n86,∃t87,v84=(.tuple #[.int .i64 n86,.bool t87])∧∃b88 o89:Nat,x0=some (⟨b88,o89,none⟩:Addr)∧∃m90:Option Nat,hcell H85 b88 ((o89+5)+2)=some (.map m90)∧∃r91:Nat,∃l92:List (Int×Value),m90=some r91∧MapIs H85 r91 l92∧∀H93,MapPut H85 r91 (mapSet l92 n86 (.slice a76 l77 c78)) H93→In64 (n72+1) ∧(I70 (n72+1) H93)∧μ71 (n72+1) H93<μ71 n72 H73))∧(¬(n72<(l68:Int))→R (.tuple #[]) H73))))))))):=by kernel_rfl
theorem CreateV(x0:Option Addr) (x1:Option Addr) (x1l:Nat) (x1c:Nat) (H:Heap) (R:Value→Heap→Prop):Walk Tryz.prog 31 [] [.pointer x0,.slice x1 x1l x1c] H R=(∀b1 H2,New H b1 [.pointer x0] 54 H2→∀b3 H4,New H2 b3 [.slice x1 x1l x1c] 33 H4→∀b5 H6,New H4 b5 [.int .i64 0] 3 H6→Cells H6 b5 0 1∧∀H7,Puts H6 b5 0 [.int .i64 0] H7→∃p8:Option Addr,hcell H7 b1 0=some (.pointer p8)∧Does Tryz.prog 102 [.pointer p8,.func (.func 103) #[] #[.pointer (some ⟨b3,0,none⟩),.pointer (some ⟨b1,0,none⟩),.pointer (some ⟨b5,0,none⟩)]] H7 fun v9 H10=>∃n11,v9=(.int .i64 n11)∧(((n11≠0)→R (.tuple #[.int .i64 0,.int .i64 n11]) H10)∧(¬(n11≠0)→∃n12,hcell H10 b5 0=some (.int .i64 n12)∧R (.tuple #[.int .i64 n12,.int .i64 0]) H10))):=by kernel_rfl
theorem Create1V(x0:Option Addr) (pb1:Nat) (pb2:Nat) (pb3:Nat) (H:Heap) (R X:Value→Heap→Prop):WalkX Tryz.prog 103 [] [.pointer x0,.pointer (some ⟨pb1,0,none⟩),.pointer (some ⟨pb2,0,none⟩),.pointer (some ⟨pb3,0,none⟩)] H R X=(∃a1 l2 c3,hcell H pb1 0=some (.slice a1 l2 c3)∧(DoesX (X:=X) Tryz.prog 104 [.pointer x0,.bool (@decide (((l2:Int):Int)≤524288) (Classical.propDecidable _)),.int .i64 1] H fun v4 H5=>v4=(.tuple #[])∧∃p6:Option Addr,hcell H5 pb2 0=some (.pointer p6)∧∃b7 o8:Nat,p6=some (⟨b7,o8,none⟩:Addr)∧∃a9 l10 c11,hcell H5 b7 (o8+5)=some (.slice a9 l10 c11)∧(DoesX (X:=X) Tryz.prog 105 [.slice a9 l10 c11,.func (.func 106) #[] #[]] H5 fun v12 H13=>∃n14,v12=(.int .i64 n14)∧(DoesX (X:=X) Tryz.prog 104 [.pointer x0,.bool (@decide ((0:Int)≤n14) (Classical.propDecidable _)),.int .i64 3] H13 fun v15 H16=>v15=(.tuple #[])∧∃p17:Option Addr,hcell H16 pb2 0=some (.pointer p17)∧∃b18 o19:Nat,p17=some (⟨b18,o19,none⟩:Addr)∧∃a20 l21 c22,hcell H16 b18 (o19+5)=some (.slice a20 l21 c22)∧(0:Int)≤n14∧n14<(l21:Int)∧∃b23 o24:Nat,a20=some (⟨b23,o24,none⟩:Addr)∧∃b25 o26:Nat,(some (⟨b23,(o24+(Int.toNat n14)*3),none⟩:Addr))=some (⟨b25,o26,none⟩:Addr)∧Cells H16 b25 (o26+1) 1∧∀H27,Puts H16 b25 (o26+1) [.int .i64 1] H27→∃p28:Option Addr,hcell H27 pb2 0=some (.pointer p28)∧∃a29 l30 c31,hcell H27 pb1 0=some (.slice a29 l30 c31)∧(DoesX (X:=X) Tryz.prog 107 [.pointer p28,.pointer x0,.pointer (some ⟨b23,(o24+(Int.toNat n14)*3),none⟩),.slice a29 l30 c31] H27 fun v32 H33=>v32=(.tuple #[])∧In64 (n14+1) ∧Cells H33 pb3 0 1∧∀H34,Puts H33 pb3 0 [.int .i64 (n14+1)] H34→R (.tuple #[]) H34))))):=by kernel_rfl
theorem ReadSV(x0:Option Addr) (x1:Int) (H:Heap) (R:Value→Heap→Prop):Walk Tryz.prog 45 [] [.pointer x0,.int .i64 x1] H R=(∀b1 H2,New H b1 [.pointer x0] 54 H2→∀b3 H4,New H2 b3 [.int .i64 x1] 3 H4→∀b5 H6,New H4 b5 [.slice none 0 0] 33 H6→∃p7:Option Addr,hcell H6 b1 0=some (.pointer p7)∧Does Tryz.prog 102 [.pointer p7,.func (.func 128) #[] #[.pointer (some ⟨b1,0,none⟩),.pointer (some ⟨b3,0,none⟩),.pointer (some ⟨b5,0,none⟩)]] H6 fun v8 H9=>∃n10,v8=(.int .i64 n10)∧(((n10≠0)→R (.tuple #[.slice none 0 0,.int .i64 n10]) H9)∧(¬(n10≠0)→∃a11 l12 c13,hcell H9 b5 0=some (.slice a11 l12 c13)∧Does Tryz.prog 89 [.slice a11 l12 c13] H9 fun v14 H15=>∃a16 l17 c18,v14=(.slice a16 l17 c18)∧R (.tuple #[.slice a16 l17 c18,.int .i64 0]) H15))):=by kernel_rfl
theorem Read1V(x0:Option Addr) (pb1:Nat) (pb2:Nat) (pb3:Nat) (H:Heap) (R X:Value→Heap→Prop):WalkX Tryz.prog 128 [] [.pointer x0,.pointer (some ⟨pb1,0,none⟩),.pointer (some ⟨pb2,0,none⟩),.pointer (some ⟨pb3,0,none⟩)] H R X=(∃p1:Option Addr,hcell H pb1 0=some (.pointer p1)∧∃p2:Option Addr,hcell H pb1 0=some (.pointer p2)∧∃n3,hcell H pb2 0=some (.int .i64 n3)∧(DoesX (X:=X) Tryz.prog 109 [.pointer p2,.pointer x0,.int .i64 n3] H fun v4 H5=>∃p6:Option Addr,v4=(.pointer p6)∧(isL H5 pb1 0 [.pointer p1]∧(DoesX (X:=X) Tryz.prog 124 [.pointer p1,.pointer p6] H5 fun v7 H8=>∃a9 l10 c11,v7=(.slice a9 l10 c11)∧Cells H8 pb3 0 1∧∀H12,Puts H8 pb3 0 [.slice a9 l10 c11] H12→R (.tuple #[]) H12)))):=by kernel_rfl
theorem WriteSV(x0:Option Addr) (x1:Int) (x2:Option Addr) (x2l:Nat) (x2c:Nat) (H:Heap) (R:Value→Heap→Prop):Walk Tryz.prog 41 [] [.pointer x0,.int .i64 x1,.slice x2 x2l x2c] H R=(∀b1 H2,New H b1 [.pointer x0] 54 H2→∀b3 H4,New H2 b3 [.int .i64 x1] 3 H4→∀b5 H6,New H4 b5 [.slice x2 x2l x2c] 33 H6→∃p7:Option Addr,hcell H6 b1 0=some (.pointer p7)∧Does Tryz.prog 102 [.pointer p7,.func (.func 122) #[] #[.pointer (some ⟨b5,0,none⟩),.pointer (some ⟨b1,0,none⟩),.pointer (some ⟨b3,0,none⟩)]] H6 fun v8 H9=>∃n10,v8=(.int .i64 n10)∧R (.int .i64 n10) H9):=by kernel_rfl
theorem Write1V(x0:Option Addr) (pb1:Nat) (pb2:Nat) (pb3:Nat) (H:Heap) (R X:Value→Heap→Prop):WalkX Tryz.prog 122 [] [.pointer x0,.pointer (some ⟨pb1,0,none⟩),.pointer (some ⟨pb2,0,none⟩),.pointer (some ⟨pb3,0,none⟩)] H R X=(∃a1 l2 c3,hcell H pb1 0=some (.slice a1 l2 c3)∧(DoesX (X:=X) Tryz.prog 104 [.pointer x0,.bool (@decide (((l2:Int):Int)≤524288) (Classical.propDecidable _)),.int .i64 1] H fun v4 H5=>v4=(.tuple #[])∧∃p6:Option Addr,hcell H5 pb2 0=some (.pointer p6)∧∃p7:Option Addr,hcell H5 pb2 0=some (.pointer p7)∧∃n8,hcell H5 pb3 0=some (.int .i64 n8)∧∃a9 l10 c11,hcell H5 pb1 0=some (.slice a9 l10 c11)∧(DoesX (X:=X) Tryz.prog 109 [.pointer p7,.pointer x0,.int .i64 n8] H5 fun v12 H13=>∃p14:Option Addr,v12=(.pointer p14)∧isL H13 pb1 0 [.slice a9 l10 c11]∧isL H13 pb2 0 [.pointer p6]∧(DoesX (X:=X) Tryz.prog 107 [.pointer p6,.pointer x0,.pointer p14,.slice a9 l10 c11] H13 fun v15 H16=>v15=(.tuple #[])∧R (.tuple #[]) H16)))):=by kernel_rfl
theorem PatchV(x0:Option Addr) (x1:Int) (x2:Int) (x3:Option Addr) (x3l:Nat) (x3c:Nat) (H:Heap) (R:Value→Heap→Prop):Walk Tryz.prog 42 [] [.pointer x0,.int .i64 x1,.int .i64 x2,.slice x3 x3l x3c] H R=(∀b1 H2,New H b1 [.pointer x0] 54 H2→∀b3 H4,New H2 b3 [.int .i64 x1] 3 H4→∀b5 H6,New H4 b5 [.int .i64 x2] 3 H6→∀b7 H8,New H6 b7 [.slice x3 x3l x3c] 33 H8→∃p9:Option Addr,hcell H8 b1 0=some (.pointer p9)∧Does Tryz.prog 102 [.pointer p9,.func (.func 123) #[] #[.pointer (some ⟨b1,0,none⟩),.pointer (some ⟨b3,0,none⟩),.pointer (some ⟨b5,0,none⟩),.pointer (some ⟨b7,0,none⟩)]] H8 fun v10 H11=>∃n12,v10=(.int .i64 n12)∧R (.int .i64 n12) H11):=by kernel_rfl
theorem Patch1V(x0:Option Addr) (pb1:Nat) (pb2:Nat) (pb3:Nat) (pb4:Nat) (H:Heap) (R X:Value→Heap→Prop):WalkX Tryz.prog 123 [] [.pointer x0,.pointer (some ⟨pb1,0,none⟩),.pointer (some ⟨pb2,0,none⟩),.pointer (some ⟨pb3,0,none⟩),.pointer (some ⟨pb4,0,none⟩)] H R X=(∃p1:Option Addr,hcell H pb1 0=some (.pointer p1)∧∃n2,hcell H pb2 0=some (.int .i64 n2)∧(DoesX (X:=X) Tryz.prog 109 [.pointer p1,.pointer x0,.int .i64 n2] H fun v3 H4=>∃p5:Option Addr,v3=(.pointer p5)∧∃n6,hcell H4 pb3 0=some (.int .i64 n6)∧((((0:Int)≤n6)→∃n7,hcell H4 pb3 0=some (.int .i64 n7)∧∃b8 o9:Nat,p5=some (⟨b8,o9,none⟩:Addr)∧∃n10,hcell H4 b8 o9=some (.int .i64 n10)∧(((n7≤n10)→∃a11 l12 c13,hcell H4 pb4 0=some (.slice a11 l12 c13)∧∃n14,hcell H4 pb3 0=some (.int .i64 n14)∧In64 (524288 - n14) ∧DoesX (X:=X) Tryz.prog 104 [.pointer x0,.bool (@decide (((l12:Int):Int)≤(524288 - n14)) (Classical.propDecidable _)),.int .i64 1] H4 fun v15 H16=>v15=(.tuple #[])∧∃p17:Option Addr,hcell H16 pb1 0=some (.pointer p17)∧(DoesX (X:=X) Tryz.prog 124 [.pointer p17,.pointer p5] H16 fun v18 H19=>∃a20 l21 c22,v18=(.slice a20 l21 c22)∧∃n23,hcell H19 pb3 0=some (.int .i64 n23)∧(0:Int)≤n23∧n23≤(c22:Int)∧∃a24 l25 c26,hcell H19 pb4 0=some (.slice a24 l25 c26)∧∀b27 H28,New H19 b27 [.slice a20 (Int.toNat n23) c22,.slice a24 l25 c26] 33 H28→(DoesX (X:=X) Tryz.prog 125 [.slice (some ⟨b27,0,none⟩) 2 2] H28 fun v29 H30=>∃a31 l32 c33,v29=(.slice a31 l32 c33)∧(((((l32:Int):Int)<(l21:Int))→(0:Int)≤(l32:Int)∧((l32:Int):Int)≤(l21:Int)∧∀a34:Option Addr,a34=(if c22=(Int.toNat (l32:Int))then a20 else Option.map (fun x=>Addr.add x ((Int.toNat (l32:Int))*1)) a20)→∃old35 new36:List Value,SRow H30 1 l32 (.slice a31 l32 c33) old35∧SRow H30 1 (l21 - (Int.toNat (l32:Int))) (.slice a34 (l21 - (Int.toNat (l32:Int))) (c22 - (Int.toNat (l32:Int)))) new36∧(∀u∈new36,Value.oneCell' u=true)∧(l32+(l21 - (Int.toNat (l32:Int))))*1≤140737488355328∧(l32+(l21 - (Int.toNat (l32:Int)))≤c33→roomOf H30 a31 (l32*1) ((l21 - (Int.toNat (l32:Int)))*1))∧∀a37:Option Addr,∀c38:Nat,∀H39,App H30 1 5 [.int .u8 0] a31 l32 c33 old35 new36 (l21 - (Int.toNat (l32:Int))) a37 c38 H39→∃p40:Option Addr,hcell H39 pb1 0=some (.pointer p40)∧(DoesX (X:=X) Tryz.prog 107 [.pointer p40,.pointer x0,.pointer p5,.slice a37 (l32+(l21 - (Int.toNat (l32:Int)))) c38] H39 fun v41 H42=>v41=(.tuple #[])∧R (.tuple #[]) H42))∧(¬(((l32:Int):Int)<(l21:Int))→∃p43:Option Addr,hcell H30 pb1 0=some (.pointer p43)∧(DoesX (X:=X) Tryz.prog 107 [.pointer p43,.pointer x0,.pointer p5,.slice a31 l32 c33] H30 fun v44 H45=>v44=(.tuple #[])∧R (.tuple #[]) H45))))))∧(¬(n7≤n10)→(DoesX (X:=X) Tryz.prog 104 [.pointer x0,.bool false,.int .i64 1] H4 fun v46 H47=>v46=(.tuple #[])∧∃p48:Option Addr,hcell H47 pb1 0=some (.pointer p48)∧(DoesX (X:=X) Tryz.prog 124 [.pointer p48,.pointer p5] H47 fun v49 H50=>∃a51 l52 c53,v49=(.slice a51 l52 c53)∧∃n54,hcell H50 pb3 0=some (.int .i64 n54)∧(0:Int)≤n54∧n54≤(c53:Int)∧∃a55 l56 c57,hcell H50 pb4 0=some (.slice a55 l56 c57)∧∀b58 H59,New H50 b58 [.slice a51 (Int.toNat n54) c53,.slice a55 l56 c57] 33 H59→(DoesX (X:=X) Tryz.prog 125 [.slice (some ⟨b58,0,none⟩) 2 2] H59 fun v60 H61=>∃a62 l63 c64,v60=(.slice a62 l63 c64)∧(((((l63:Int):Int)<(l52:Int))→(0:Int)≤(l63:Int)∧((l63:Int):Int)≤(l52:Int)∧∀a65:Option Addr,a65=(if c53=(Int.toNat (l63:Int))then a51 else Option.map (fun x=>Addr.add x ((Int.toNat (l63:Int))*1)) a51)→∃old66 new67:List Value,SRow H61 1 l63 (.slice a62 l63 c64) old66∧SRow H61 1 (l52 - (Int.toNat (l63:Int))) (.slice a65 (l52 - (Int.toNat (l63:Int))) (c53 - (Int.toNat (l63:Int)))) new67∧(∀u∈new67,Value.oneCell' u=true)∧(l63+(l52 - (Int.toNat (l63:Int))))*1≤140737488355328∧(l63+(l52 - (Int.toNat (l63:Int)))≤c64→roomOf H61 a62 (l63*1) ((l52 - (Int.toNat (l63:Int)))*1))∧∀a68:Option Addr,∀c69:Nat,∀H70,App H61 1 5 [.int .u8 0] a62 l63 c64 old66 new67 (l52 - (Int.toNat (l63:Int))) a68 c69 H70→∃p71:Option Addr,hcell H70 pb1 0=some (.pointer p71)∧(DoesX (X:=X) Tryz.prog 107 [.pointer p71,.pointer x0,.pointer p5,.slice a68 (l63+(l52 - (Int.toNat (l63:Int)))) c69] H70 fun v72 H73=>v72=(.tuple #[])∧R (.tuple #[]) H73))∧(¬(((l63:Int):Int)<(l52:Int))→∃p74:Option Addr,hcell H61 pb1 0=some (.pointer p74)∧(DoesX (X:=X) Tryz.prog 107 [.pointer p74,.pointer x0,.pointer p5,.slice a62 l63 c64] H61 fun v75 H76=>v75=(.tuple #[])∧R (.tuple #[]) H76)))))))))∧(¬((0:Int)≤n6)→(DoesX (X:=X) Tryz.prog 104 [.pointer x0,.bool false,.int .i64 1] H4 fun v77 H78=>v77=(.tuple #[])∧∃p79:Option Addr,hcell H78 pb1 0=some (.pointer p79)∧(DoesX (X:=X) Tryz.prog 124 [.pointer p79,.pointer p5] H78 fun v80 H81=>∃a82 l83 c84,v80=(.slice a82 l83 c84)∧∃n85,hcell H81 pb3 0=some (.int .i64 n85)∧(0:Int)≤n85∧n85≤(c84:Int)∧∃a86 l87 c88,hcell H81 pb4 0=some (.slice a86 l87 c88)∧∀b89 H90,New H81 b89 [.slice a82 (Int.toNat n85) c84,.slice a86 l87 c88] 33 H90→(DoesX (X:=X) Tryz.prog 125 [.slice (some ⟨b89,0,none⟩) 2 2] H90 fun v91 H92=>∃a93 l94 c95,v91=(.slice a93 l94 c95)∧(((((l94:Int):Int)<(l83:Int))→(0:Int)≤(l94:Int)∧((l94:Int):Int)≤(l83:Int)∧∀a96:Option Addr,a96=(if c84=(Int.toNat (l94:Int))then a82 else Option.map (fun x=>Addr.add x ((Int.toNat (l94:Int))*1)) a82)→∃old97 new98:List Value,SRow H92 1 l94 (.slice a93 l94 c95) old97∧SRow H92 1 (l83 - (Int.toNat (l94:Int))) (.slice a96 (l83 - (Int.toNat (l94:Int))) (c84 - (Int.toNat (l94:Int)))) new98∧(∀u∈new98,Value.oneCell' u=true)∧(l94+(l83 - (Int.toNat (l94:Int))))*1≤140737488355328∧(l94+(l83 - (Int.toNat (l94:Int)))≤c95→roomOf H92 a93 (l94*1) ((l83 - (Int.toNat (l94:Int)))*1))∧∀a99:Option Addr,∀c100:Nat,∀H101,App H92 1 5 [.int .u8 0] a93 l94 c95 old97 new98 (l83 - (Int.toNat (l94:Int))) a99 c100 H101→∃p102:Option Addr,hcell H101 pb1 0=some (.pointer p102)∧(DoesX (X:=X) Tryz.prog 107 [.pointer p102,.pointer x0,.pointer p5,.slice a99 (l94+(l83 - (Int.toNat (l94:Int)))) c100] H101 fun v103 H104=>v103=(.tuple #[])∧R (.tuple #[]) H104))∧(¬(((l94:Int):Int)<(l83:Int))→∃p105:Option Addr,hcell H92 pb1 0=some (.pointer p105)∧(DoesX (X:=X) Tryz.prog 107 [.pointer p105,.pointer x0,.pointer p5,.slice a93 l94 c95] H92 fun v106 H107=>v106=(.tuple #[])∧R (.tuple #[]) H107)))))))))):=by kernel_rfl
theorem TruncV(x0:Option Addr) (x1:Int) (x2:Int) (H:Heap) (R:Value→Heap→Prop):Walk Tryz.prog 43 [] [.pointer x0,.int .i64 x1,.int .i64 x2] H R=(∀b1 H2,New H b1 [.pointer x0] 54 H2→∀b3 H4,New H2 b3 [.int .i64 x1] 3 H4→∀b5 H6,New H4 b5 [.int .i64 x2] 3 H6→∃p7:Option Addr,hcell H6 b1 0=some (.pointer p7)∧Does Tryz.prog 102 [.pointer p7,.func (.func 126) #[] #[.pointer (some ⟨b1,0,none⟩),.pointer (some ⟨b3,0,none⟩),.pointer (some ⟨b5,0,none⟩)]] H6 fun v8 H9=>∃n10,v8=(.int .i64 n10)∧R (.int .i64 n10) H9):=by kernel_rfl
theorem Trunc1V(x0:Option Addr) (pb1:Nat) (pb2:Nat) (pb3:Nat) (H:Heap) (R X:Value→Heap→Prop):WalkX Tryz.prog 126 [] [.pointer x0,.pointer (some ⟨pb1,0,none⟩),.pointer (some ⟨pb2,0,none⟩),.pointer (some ⟨pb3,0,none⟩)] H R X=(∃p1:Option Addr,hcell H pb1 0=some (.pointer p1)∧∃n2,hcell H pb2 0=some (.int .i64 n2)∧(DoesX (X:=X) Tryz.prog 109 [.pointer p1,.pointer x0,.int .i64 n2] H fun v3 H4=>∃p5:Option Addr,v3=(.pointer p5)∧∃n6,hcell H4 pb3 0=some (.int .i64 n6)∧((((0:Int)≤n6)→∃n7,hcell H4 pb3 0=some (.int .i64 n7)∧∃b8 o9:Nat,p5=some (⟨b8,o9,none⟩:Addr)∧∃n10,hcell H4 b8 o9=some (.int .i64 n10)∧(DoesX (X:=X) Tryz.prog 104 [.pointer x0,.bool (@decide (n7≤n10) (Classical.propDecidable _)),.int .i64 1] H4 fun v11 H12=>v11=(.tuple #[])∧∃p13:Option Addr,hcell H12 pb1 0=some (.pointer p13)∧∃p14:Option Addr,hcell H12 pb1 0=some (.pointer p14)∧∃n15,hcell H12 pb3 0=some (.int .i64 n15)∧(DoesX (X:=X) Tryz.prog 124 [.pointer p14,.pointer p5] H12 fun v16 H17=>∃a18 l19 c20,v16=(.slice a18 l19 c20)∧isL H17 pb3 0 [.int .i64 n15]∧isL H17 pb1 0 [.pointer p13]∧(0:Int)≤n15∧n15≤(c20:Int)∧(DoesX (X:=X) Tryz.prog 107 [.pointer p13,.pointer x0,.pointer p5,.slice a18 (Int.toNat n15) c20] H17 fun v21 H22=>v21=(.tuple #[])∧R (.tuple #[]) H22))))∧(¬((0:Int)≤n6)→(DoesX (X:=X) Tryz.prog 104 [.pointer x0,.bool false,.int .i64 1] H4 fun v23 H24=>v23=(.tuple #[])∧∃p25:Option Addr,hcell H24 pb1 0=some (.pointer p25)∧∃p26:Option Addr,hcell H24 pb1 0=some (.pointer p26)∧∃n27,hcell H24 pb3 0=some (.int .i64 n27)∧(DoesX (X:=X) Tryz.prog 124 [.pointer p26,.pointer p5] H24 fun v28 H29=>∃a30 l31 c32,v28=(.slice a30 l31 c32)∧isL H29 pb3 0 [.int .i64 n27]∧isL H29 pb1 0 [.pointer p25]∧(0:Int)≤n27∧n27≤(c32:Int)∧(DoesX (X:=X) Tryz.prog 107 [.pointer p25,.pointer x0,.pointer p5,.slice a30 (Int.toNat n27) c32] H29 fun v33 H34=>v33=(.tuple #[])∧R (.tuple #[]) H34))))))):=by kernel_rfl
theorem RefV(x0:Option Addr) (x1:Int) (H:Heap) (R:Value→Heap→Prop):Walk Tryz.prog 44 [] [.pointer x0,.int .i64 x1] H R=(∀b1 H2,New H b1 [.pointer x0] 54 H2→∀b3 H4,New H2 b3 [.int .i64 x1] 3 H4→∃p5:Option Addr,hcell H4 b1 0=some (.pointer p5)∧Does Tryz.prog 102 [.pointer p5,.func (.func 127) #[] #[.pointer (some ⟨b1,0,none⟩),.pointer (some ⟨b3,0,none⟩)]] H4 fun v6 H7=>∃n8,v6=(.int .i64 n8)∧R (.int .i64 n8) H7):=by kernel_rfl
theorem Ref1V(x0:Option Addr) (pb1:Nat) (pb2:Nat) (H:Heap) (R X:Value→Heap→Prop):WalkX Tryz.prog 127 [] [.pointer x0,.pointer (some ⟨pb1,0,none⟩),.pointer (some ⟨pb2,0,none⟩)] H R X=(∃p1:Option Addr,hcell H pb1 0=some (.pointer p1)∧∃n2,hcell H pb2 0=some (.int .i64 n2)∧(DoesX (X:=X) Tryz.prog 109 [.pointer p1,.pointer x0,.int .i64 n2] H fun v3 H4=>∃p5:Option Addr,v3=(.pointer p5)∧∃b6 o7:Nat,p5=some (⟨b6,o7,none⟩:Addr)∧∃n8,hcell H4 b6 (o7+1)=some (.int .i64 n8)∧(DoesX (X:=X) Tryz.prog 104 [.pointer x0,.bool (@decide (n8<65535) (Classical.propDecidable _)),.int .i64 3] H4 fun v9 H10=>v9=(.tuple #[])∧∃b11 o12:Nat,p5=some (⟨b11,o12,none⟩:Addr)∧∃n13,hcell H10 b11 (o12+1)=some (.int .i64 n13)∧In64 (n13+1) ∧∃b14 o15:Nat,p5=some (⟨b14,o15,none⟩:Addr)∧Cells H10 b14 (o15+1) 1∧∀H16,Puts H10 b14 (o15+1) [.int .i64 (n13+1)] H16→R (.tuple #[]) H16))):=by kernel_rfl
theorem UnrefV(x0:Option Addr) (x1:Int) (H:Heap) (R:Value→Heap→Prop):Walk Tryz.prog 34 [] [.pointer x0,.int .i64 x1] H R=(∀b1 H2,New H b1 [.pointer x0] 54 H2→∀b3 H4,New H2 b3 [.int .i64 x1] 3 H4→∀b5 H6,New H4 b5 [.bool false] 4 H6→Cells H6 b5 0 1∧∀H7,Puts H6 b5 0 [.bool false] H7→∃p8:Option Addr,hcell H7 b1 0=some (.pointer p8)∧Does Tryz.prog 102 [.pointer p8,.func (.func 108) #[] #[.pointer (some ⟨b1,0,none⟩),.pointer (some ⟨b3,0,none⟩),.pointer (some ⟨b5,0,none⟩)]] H7 fun v9 H10=>∃n11,v9=(.int .i64 n11)∧∃t12,hcell H10 b5 0=some (.bool t12)∧((t12=true→R (.tuple #[.bool (@decide (n11=0) (Classical.propDecidable _)),.int .i64 n11]) H10)∧(t12=false→R (.tuple #[.bool false,.int .i64 n11]) H10))):=by kernel_rfl
theorem Unref1V(x0:Option Addr) (pb1:Nat) (pb2:Nat) (pb3:Nat) (H:Heap) (R X:Value→Heap→Prop):WalkX Tryz.prog 108 [] [.pointer x0,.pointer (some ⟨pb1,0,none⟩),.pointer (some ⟨pb2,0,none⟩),.pointer (some ⟨pb3,0,none⟩)] H R X=(∃p1:Option Addr,hcell H pb1 0=some (.pointer p1)∧∃n2,hcell H pb2 0=some (.int .i64 n2)∧(DoesX (X:=X) Tryz.prog 109 [.pointer p1,.pointer x0,.int .i64 n2] H fun v3 H4=>∃p5:Option Addr,v3=(.pointer p5)∧∃b6 o7:Nat,p5=some (⟨b6,o7,none⟩:Addr)∧∃n8,hcell H4 b6 (o7+1)=some (.int .i64 n8)∧In64 (n8 - 1) ∧∃b9 o10:Nat,p5=some (⟨b9,o10,none⟩:Addr)∧Cells H4 b9 (o10+1) 1∧∀H11,Puts H4 b9 (o10+1) [.int .i64 (n8 - 1)] H11→∃b12 o13:Nat,p5=some (⟨b12,o13,none⟩:Addr)∧∃n14,hcell H11 b12 (o13+1)=some (.int .i64 n14)∧(((n14=0)→∃p15:Option Addr,hcell H11 pb1 0=some (.pointer p15)∧∃b16 o17:Nat,p15=some (⟨b16,o17,none⟩:Addr)∧∃p18:Option Addr,hcell H11 b16 ((o17+5)+1)=some (.pointer p18)∧∃b19 o20:Nat,p5=some (⟨b19,o20,none⟩:Addr)∧∃a21 l22 c23,hcell H11 b19 (o20+2)=some (.slice a21 l22 c23)∧(DoesX (X:=X) Tryz.prog 110 [.pointer p18,.slice a21 l22 c23,.int .i64 0] H11 fun v24 H25=>∃a26 l27 c28,v24=(.slice a26 l27 c28)∧∃b29 o30:Nat,p5=some (⟨b29,o30,none⟩:Addr)∧Cells H25 b29 o30 3∧∀H31,Puts H25 b29 o30 [.int .i64 0,.int .i64 0,.slice none 0 0] H31→Cells H31 pb3 0 1∧∀H32,Puts H31 pb3 0 [.bool true] H32→R (.tuple #[]) H32))∧(¬(n14=0)→R (.tuple #[]) H11)))):=by kernel_rfl
theorem CommitSV(x0:Option Addr) (H:Heap) (R:Value→Heap→Prop):Walk Tryz.prog 36 [] [.pointer x0] H R=(∃b1 o2:Nat,x0=some (⟨b1,o2,none⟩:Addr)∧∃p3:Option Addr,hcell H b1 o2=some (.pointer p3)∧Does Tryz.prog 111 [.pointer p3] H fun v4 H5=>∃t6,v4=(.bool t6)∧((t6=true→R (.int .i64 4) H5)∧(t6=false→Does Tryz.prog 112 [.pointer x0] H5 fun v7 H8=>∃a9 l10 c11,v7=(.slice a9 l10 c11)∧((((0:Int)<(l10:Int))→∃b12 o13:Nat,x0=some (⟨b12,o13,none⟩:Addr)∧∃p14:Option Addr,hcell H8 b12 o13=some (.pointer p14)∧Does Tryz.prog 113 [.pointer p14,.slice a9 l10 c11] H8 fun v15 H16=>∃n17,v15=(.int .i64 n17)∧(((n17=0)→∃b18 o19:Nat,x0=some (⟨b18,o19,none⟩:Addr)∧∃a20 l21 c22,hcell H16 b18 (o19+5)=some (.slice a20 l21 c22)∧∃p23:Option Addr,hcell H16 b18 ((o19+5)+1)=some (.pointer p23)∧∃m24:Option Nat,hcell H16 b18 (((o19+5)+1)+1)=some (.map m24)∧Does Tryz.prog 94 [.agg #[.slice a20 l21 c22,.pointer p23,.map m24]] H16 fun v25 H26=>∃a27 l28 c29,∃p30:Option Addr,∃m31:Option Nat,v25=(.agg #[.slice a27 l28 c29,.pointer p30,.map m31])∧∃b32 o33:Nat,x0=some (⟨b32,o33,none⟩:Addr)∧Cells H26 b32 (o33+8) 3∧∀H34,Puts H26 b32 (o33+8) [.slice a27 l28 c29,.pointer p30,.map m31] H34→R (.int .i64 0) H34)∧(¬(n17=0)→(((n17=5)→Does Tryz.prog 38 [.pointer x0] H16 fun v35 H36=>v35=(.tuple #[])∧R (.int .i64 n17) H36)∧(¬(n17=5)→R (.int .i64 n17) H16)))))∧(¬((0:Int)<(l10:Int))→∃b37 o38:Nat,x0=some (⟨b37,o38,none⟩:Addr)∧∃a39 l40 c41,hcell H8 b37 (o38+5)=some (.slice a39 l40 c41)∧∃p42:Option Addr,hcell H8 b37 ((o38+5)+1)=some (.pointer p42)∧∃m43:Option Nat,hcell H8 b37 (((o38+5)+1)+1)=some (.map m43)∧Does Tryz.prog 94 [.agg #[.slice a39 l40 c41,.pointer p42,.map m43]] H8 fun v44 H45=>∃a46 l47 c48,∃p49:Option Addr,∃m50:Option Nat,v44=(.agg #[.slice a46 l47 c48,.pointer p49,.map m50])∧∃b51 o52:Nat,x0=some (⟨b51,o52,none⟩:Addr)∧Cells H45 b51 (o52+8) 3∧∀H53,Puts H45 b51 (o52+8) [.slice a46 l47 c48,.pointer p49,.map m50] H53→R (.int .i64 0) H53))))):=by kernel_rfl
end Go.Proofs
end
section
open Go Go.Vc
namespace Go.Proofs.Bx
theorem vc_turn(x0:Option Addr) (x1:Option Addr) (x1l:Nat) (x1c:Nat) (x2:Bool) (H:Heap) (R:Value→Heap→Prop):Walk Tryz.prog 169 [] [.pointer x0,.slice x1 x1l x1c,.bool x2] H R=(∃I1:Int→Heap→Prop,∃μ2:Int→Heap→Nat,(I1 0 H) ∧∀n3 H4,I1 n3 H4→(((n3<(x1l:Int))→(0:Int)≤n3∧n3<(x1l:Int)∧∃b5 o6:Nat,x1=some (⟨b5,o6,none⟩:Addr)∧∃n7,hcell H4 b5 (o6+(Int.toNat n3)*2)=some (.int .i64 n7)∧∃n8,hcell H4 b5 (o6+(Int.toNat n3)*2+1)=some (.int .i64 n8)∧∀b9 H10,New H4 b9 [.int .i64 0,.int .i64 0] 103 H10→Cells H10 b9 0 2∧∀H11,Puts H10 b9 0 [.int .i64 n7,.int .i64 n8] H11→∃n12,hcell H11 b9 (0+1)=some (.int .i64 n12)∧∃I13:Int→Heap→Prop,∃μ14:Int→Heap→Nat,(I13 0 H11) ∧∀n15 H16,I13 n15 H16→(((n15<n12)→∃n17,hcell H16 b9 0=some (.int .i64 n17)∧In64 (n17+n15) ∧Does Tryz.prog 151 [.pointer x0,.int .i64 (n17+n15),.bool x2] H16 fun v18 H19=>∃t20,v18=(.bool t20)∧In64 (n15+1) ∧(I13 (n15+1) H19)∧μ14 (n15+1) H19<μ14 n15 H16)∧(¬(n15<n12)→In64 (n3+1) ∧(I1 (n3+1) H16)∧μ2 (n3+1) H16<μ2 n3 H4)))∧(¬(n3<(x1l:Int))→R (.tuple #[]) H4))):=by kernel_rfl
theorem vc_found(x0:Option Addr) (x1:Int) (x2:Int) (H:Heap) (R:Value→Heap→Prop):Walk Tryz.prog 198 [] [.pointer x0,.int .i64 x1,.int .i64 x2] H R=(∃I1:Option Addr→Nat→Nat→Int→Int→Heap→Prop,∃μ2:Option Addr→Nat→Nat→Int→Int→Heap→Nat,(I1 none 0 0 x2 x1 H) ∧∀a3 l4 c5,∀n6:Int,∀n7:Int,∀H8:Heap,I1 a3 l4 c5 n6 n7 H8→((((0:Int)<n6)→Does Tryz.prog 215 [.pointer x0,.int .i64 n7] H8 fun v9 H10=>∃n11 n12,v9=(.tuple #[.int .i64 n11,.int .i64 n12])∧(((n12=0)→R (.tuple #[.slice none 0 0,.bool false]) H10)∧(¬(n12=0)→∀b13 H14,New H10 b13 [.int .i64 n11,.int .i64 (min n12 n6)] 103 H14→∃old15 new16:List Value,SRow H14 2 l4 (.slice a3 l4 c5) old15∧SRow H14 2 1 (.slice (some ⟨b13,0,none⟩) 1 1) new16∧(∀u∈new16,Value.oneCell' u=true)∧(l4+1)*16≤140737488355328∧(l4+1≤c5→roomOf H14 a3 (l4*2) (1*2))∧∀a17:Option Addr,∀c18:Nat,∀H19,App H14 2 103 [.int .i64 0,.int .i64 0] a3 l4 c5 old15 new16 1 a17 c18 H19→In64 (n6 - (min n12 n6)) ∧In64 (n11+n12) ∧(I1 a17 (l4+1) c18 (n6 - (min n12 n6)) (n11+n12) H19)∧μ2 a17 (l4+1) c18 (n6 - (min n12 n6)) (n11+n12) H19<μ2 a3 l4 c5 n6 n7 H8)))∧(¬((0:Int)<n6)→R (.tuple #[.slice a3 l4 c5,.bool (@decide (n6=0) (Classical.propDecidable _))]) H8))):=by kernel_rfl
end Go.Proofs.Bx
end
section
open Go Go.Vc
end
section
open Go Go.Vc
namespace Go.Proofs.Bx
theorem vc_right(x0:Option Addr) (x0l:Nat) (x0c:Nat) (x1:Int) (x2:Int) (H:Heap) (R:Value→Heap→Prop):Walk Tryz.prog 167 [] [.slice x0 x0l x0c,.int .i64 x1,.int .i64 x2] H R=((((6:Int)<(x0l:Int))→R (.bool false) H)∧(¬((6:Int)<(x0l:Int))→∃I1:Int→Heap→Prop,∃μ2:Int→Heap→Nat,(I1 0 H) ∧∀n3 H4,I1 n3 H4→(((n3<(x0l:Int))→(0:Int)≤n3∧n3<(x0l:Int)∧∃b5 o6:Nat,x0=some (⟨b5,o6,none⟩:Addr)∧∃n7,hcell H4 b5 (o6+(Int.toNat n3)*2)=some (.int .i64 n7)∧∃n8,hcell H4 b5 (o6+(Int.toNat n3)*2+1)=some (.int .i64 n8)∧∀b9 H10,New H4 b9 [.int .i64 0,.int .i64 0] 103 H10→Cells H10 b9 0 2∧∀H11,Puts H10 b9 0 [.int .i64 n7,.int .i64 n8] H11→∃n12,hcell H11 b9 (0+1)=some (.int .i64 n12)∧(((n12<1)→R (.bool false) H11)∧(¬(n12<1)→∃n13,hcell H11 b9 0=some (.int .i64 n13)∧(((n13<x1)→R (.bool false) H11)∧(¬(n13<x1)→∃n14,hcell H11 b9 0=some (.int .i64 n14)∧((((x2:Int)≤n14)→R (.bool false) H11)∧(¬((x2:Int)≤n14)→∃n15,hcell H11 b9 (0+1)=some (.int .i64 n15)∧∃n16,hcell H11 b9 0=some (.int .i64 n16)∧(In64 (x2 - n16) ∧(((((x2 - n16):Int)<n15)→R (.bool false) H11)∧(¬(((x2 - n16):Int)<n15)→(0:Int)≤n3∧n3≤(x0c:Int)∧∃I17:Int→Heap→Prop,∃μ18:Int→Heap→Nat,(I17 0 H11) ∧∀n19 H20,I17 n19 H20→(((n19<((Int.toNat n3):Int))→(0:Int)≤n19∧n19<((Int.toNat n3):Int)∧∃b21 o22:Nat,x0=some (⟨b21,o22,none⟩:Addr)∧∃n23,hcell H20 b21 (o22+(Int.toNat n19)*2)=some (.int .i64 n23)∧∃n24,hcell H20 b21 (o22+(Int.toNat n19)*2+1)=some (.int .i64 n24)∧∀b25 H26,New H20 b25 [.int .i64 0,.int .i64 0] 103 H26→Cells H26 b25 0 2∧∀H27,Puts H26 b25 0 [.int .i64 n23,.int .i64 n24] H27→∃n28,hcell H27 b25 0=some (.int .i64 n28)∧∃n29,hcell H27 b25 (0+1)=some (.int .i64 n29)∧In64 (n28+n29) ∧∃n30,hcell H27 b9 0=some (.int .i64 n30)∧(((((n28+n29):Int)≤n30)→(In64 (n3 - 1) ∧(((n19=(n3 - 1))→∃n31,hcell H27 b25 0=some (.int .i64 n31)∧∃n32,hcell H27 b25 (0+1)=some (.int .i64 n32)∧In64 (n31+n32) ∧∃n33,hcell H27 b9 0=some (.int .i64 n33)∧(((((n31+n32):Int)=n33)→R (.bool false) H27)∧(¬(((n31+n32):Int)=n33)→In64 (n19+1) ∧(I17 (n19+1) H27)∧μ18 (n19+1) H27<μ18 n19 H20)))∧(¬(n19=(n3 - 1))→In64 (n19+1) ∧(I17 (n19+1) H27)∧μ18 (n19+1) H27<μ18 n19 H20))))∧(¬(((n28+n29):Int)≤n30)→∃n34,hcell H27 b9 0=some (.int .i64 n34)∧∃n35,hcell H27 b9 (0+1)=some (.int .i64 n35)∧In64 (n34+n35) ∧∃n36,hcell H27 b25 0=some (.int .i64 n36)∧(((¬(((n34+n35):Int)≤n36))→R (.bool false) H27)∧(¬(¬(((n34+n35):Int)≤n36))→(In64 (n3 - 1) ∧(((n19=(n3 - 1))→∃n37,hcell H27 b25 0=some (.int .i64 n37)∧∃n38,hcell H27 b25 (0+1)=some (.int .i64 n38)∧In64 (n37+n38) ∧∃n39,hcell H27 b9 0=some (.int .i64 n39)∧(((((n37+n38):Int)=n39)→R (.bool false) H27)∧(¬(((n37+n38):Int)=n39)→In64 (n19+1) ∧(I17 (n19+1) H27)∧μ18 (n19+1) H27<μ18 n19 H20)))∧(¬(n19=(n3 - 1))→In64 (n19+1) ∧(I17 (n19+1) H27)∧μ18 (n19+1) H27<μ18 n19 H20))))))))∧(¬(n19<((Int.toNat n3):Int))→In64 (n3+1) ∧(I1 (n3+1) H20)∧μ2 (n3+1) H20<μ2 n3 H4))))))))))))∧(¬(n3<(x0l:Int))→R (.bool true) H4)))):=by kernel_rfl
theorem vc_blocks(x0:Int) (H:Heap) (R:Value→Heap→Prop):Walk Tryz.prog 160 [] [.int .i64 x0] H R=((((x0:Int)<1)→R (.int .i64 0) H)∧(¬((x0:Int)<1)→In64 (x0 - 1) ∧((128:Int)≠0) ∧∀q1:Int,q1=IntKind.wrap .i64 (Int.tdiv (x0 - 1) 128)→In64 (q1+1) ∧R (.int .i64 (q1+1)) H)):=by kernel_rfl
theorem vc_sound1(x0_0:Int) (x0_1:Int) (H:Heap) (R:Value→Heap→Prop):Walk Tryz.prog 214 [] [.agg #[.int .i64 x0_0,.int .i64 x0_1]] H R=(∀b1 H2,New H b1 [.int .i64 x0_0,.int .i64 x0_1] 103 H2→∃n3,hcell H2 b1 (0+1)=some (.int .i64 n3)∧(((n3<1)→R (.bool true) H2)∧(¬(n3<1)→∃n4,hcell H2 b1 (0+1)=some (.int .i64 n4)∧R (.bool (@decide ((4096:Int)<n4) (Classical.propDecidable _))) H2))):=by kernel_rfl
theorem vc_indexf(x0:Option Addr) (x0l:Nat) (x0c:Nat) (H:Heap) (R:Value→Heap→Prop):Walk Tryz.prog 221 [] [.slice x0 x0l x0c,.func (.func 214) #[] #[]] H R=(∃I1:Int→Heap→Prop,∃μ2:Int→Heap→Nat,(I1 0 H) ∧∀n3 H4,I1 n3 H4→(((n3<(x0l:Int))→(0:Int)≤n3∧n3<(x0l:Int)∧∃b5 o6:Nat,x0=some (⟨b5,o6,none⟩:Addr)∧∃n7,hcell H4 b5 (o6+(Int.toNat n3)*2)=some (.int .i64 n7)∧∃n8,hcell H4 b5 (o6+(Int.toNat n3)*2+1)=some (.int .i64 n8)∧Does Tryz.prog 214 [.agg #[.int .i64 n7,.int .i64 n8]] H4 fun v9 H10=>∃t11,v9=(.bool t11)∧((t11=true→R (.int .i64 n3) H10)∧(t11=false→In64 (n3+1) ∧(I1 (n3+1) H10)∧μ2 (n3+1) H10<μ2 n3 H4)))∧(¬(n3<(x0l:Int))→R (.int .i64 (-1)) H4))):=by kernel_rfl
theorem vc_containsf(x0:Option Addr) (x0l:Nat) (x0c:Nat) (H:Heap) (R:Value→Heap→Prop):Walk Tryz.prog 213 [] [.slice x0 x0l x0c,.func (.func 214) #[] #[]] H R=(Does Tryz.prog 221 [.slice x0 x0l x0c,.func (.func 214) #[] #[]] H fun v1 H2=>∃n3,v1=(.int .i64 n3)∧R (.bool (@decide ((0:Int)≤n3) (Classical.propDecidable _))) H2):=by kernel_rfl
theorem vc_sound(x0:Option Addr) (x0l:Nat) (x0c:Nat) (H:Heap) (R:Value→Heap→Prop):Walk Tryz.prog 197 [] [.slice x0 x0l x0c] H R=(((((x0l:Int):Int)≤6)→Does Tryz.prog 213 [.slice x0 x0l x0c,.func (.func 214) #[] #[]] H fun v1 H2=>∃t3,v1=(.bool t3)∧R (.bool (@decide (t3=false) (Classical.propDecidable _))) H2)∧(¬(((x0l:Int):Int)≤6)→R (.bool false) H)):=by kernel_rfl
theorem vc_count(x0:Option Addr) (x0l:Nat) (x0c:Nat) (H:Heap) (R:Value→Heap→Prop):Walk Tryz.prog 161 [] [.slice x0 x0l x0c] H R=(Does Tryz.prog 197 [.slice x0 x0l x0c] H fun v1 H2=>∃t3,v1=(.bool t3)∧(((t3=false)→R (.int .i64 0) H2)∧(¬(t3=false)→∃I4:Int→Int→Heap→Prop,∃μ5:Int→Int→Heap→Nat,(I4 0 0 H2) ∧∀n6:Int,∀n7:Int,∀H8:Heap,I4 n6 n7 H8→(((n7<(x0l:Int))→(0:Int)≤n7∧n7<(x0l:Int)∧∃b9 o10:Nat,x0=some (⟨b9,o10,none⟩:Addr)∧∃n11,hcell H8 b9 (o10+(Int.toNat n7)*2)=some (.int .i64 n11)∧∃n12,hcell H8 b9 (o10+(Int.toNat n7)*2+1)=some (.int .i64 n12)∧∀b13 H14,New H8 b13 [.int .i64 0,.int .i64 0] 103 H14→Cells H14 b13 0 2∧∀H15,Puts H14 b13 0 [.int .i64 n11,.int .i64 n12] H15→∃n16,hcell H15 b13 (0+1)=some (.int .i64 n16)∧In64 (n6+n16) ∧In64 (n7+1) ∧(I4 (n6+n16) (n7+1) H15)∧μ5 (n6+n16) (n7+1) H15<μ5 n6 n7 H8)∧(¬(n7<(x0l:Int))→R (.int .i64 n6) H8))))):=by kernel_rfl
theorem vc_clonep(x0:Option Addr) (x0l:Nat) (x0c:Nat) (H:Heap) (R:Value→Heap→Prop):Walk Tryz.prog 199 [] [.slice x0 x0l x0c] H R=((((x0:Option Addr)=none)→R (.slice none 0 0) H)∧(¬((x0:Option Addr)=none)→∀b1 H2,New H b1 [] 103 H2→∃old3 new4:List Value,SRow H2 2 0 (.slice (some ⟨b1,0,none⟩) 0 0) old3∧SRow H2 2 x0l (.slice x0 x0l x0c) new4∧(∀u∈new4,Value.oneCell' u=true)∧(0+x0l)*16≤140737488355328∧(0+x0l≤0→roomOf H2 (some (⟨b1,0,none⟩:Addr)) (0*2) (x0l*2))∧∀a5:Option Addr,∀c6:Nat,∀H7,App H2 2 103 [.int .i64 0,.int .i64 0] (some (⟨b1,0,none⟩:Addr)) 0 0 old3 new4 x0l a5 c6 H7→R (.slice a5 (0+x0l) c6) H7)):=by kernel_rfl
theorem vc_at(x0:Option Addr) (x0l:Nat) (x0c:Nat) (x1:Int) (H:Heap) (R:Value→Heap→Prop):Walk Tryz.prog 166 [(999999,[])] [.slice x0 x0l x0c,.int .i64 x1] H R=((((x1:Int)<0)→R (.tuple #[.int .i64 0,.bool false]) H)∧(¬((x1:Int)<0)→Does Tryz.prog 161 [.slice x0 x0l x0c] H fun v1 H2=>∃n3,v1=(.int .i64 n3)∧(((n3≤x1)→R (.tuple #[.int .i64 0,.bool false]) H2)∧(¬(n3≤x1)→∃I4:Int→Int→Heap→Prop,∃μ5:Int→Int→Heap→Nat,(I4 x1 0 H2) ∧∀n6:Int,∀n7:Int,∀H8:Heap,I4 n6 n7 H8→(((n7<(x0l:Int))→(0:Int)≤n7∧n7<(x0l:Int)∧∃b9 o10:Nat,x0=some (⟨b9,o10,none⟩:Addr)∧∃n11,hcell H8 b9 (o10+(Int.toNat n7)*2)=some (.int .i64 n11)∧∃n12,hcell H8 b9 (o10+(Int.toNat n7)*2+1)=some (.int .i64 n12)∧∀b13 H14,New H8 b13 [.int .i64 0,.int .i64 0] 103 H14→Cells H14 b13 0 2∧∀H15,Puts H14 b13 0 [.int .i64 n11,.int .i64 n12] H15→∃n16,hcell H15 b13 (0+1)=some (.int .i64 n16)∧(((n6<n16)→∃n17,hcell H15 b13 0=some (.int .i64 n17)∧∀q18:Int,q18=IntKind.wrap .i64 (n17+n6)→R (.tuple #[.int .i64 q18,.bool true]) H15)∧(¬(n6<n16)→∃n19,hcell H15 b13 (0+1)=some (.int .i64 n19)∧∀q20:Int,q20=IntKind.wrap .i64 (n6 - n19)→∀q21:Int,q21=IntKind.wrap .i64 (n7+1)→((I4 q20 q21 H15)∧μ5 q20 q21 H15<μ5 n6 n7 H8))))∧(¬(n7<(x0l:Int))→R (.tuple #[.int .i64 0,.bool false]) H8)))))):=by kernel_rfl
end Go.Proofs.Bx
end
section
open Go Go.Vc
end
section
open Go Go.Vc
namespace Go.Proofs.Bx
theorem vc_new(x0:Int) (H:Heap) (R:Value→Heap→Prop):Walk Tryz.prog 175 [] [.int .i64 x0] H R=(In64 ((max x0 0)+8) ∧In64 (((max x0 0)+8) - 1) ∧((8:Int)≠0) ∧∀q1:Int,q1=IntKind.wrap .i64 (Int.tdiv (((max x0 0)+8) - 1) 8)→(0:Int)≤q1∧q1≤q1∧(1:Int)*q1≤281474976710656∧∀b2 H3,New H b2 (List.replicate (Int.toNat q1) (.int .u8 0)) 5 H3→∀b4 H5,New H3 b4 [.int .i64 (max x0 0),.slice (some ⟨b2,0,none⟩) (Int.toNat q1) (Int.toNat q1)] 198 H5→R (.pointer (some ⟨b4,0,none⟩)) H5):=by kernel_rfl
theorem vc_get(x0:Option Addr) (x1:Int) (H:Heap) (R:Value→Heap→Prop):Walk Tryz.prog 153 [] [.pointer x0,.int .i64 x1] H R=((((0:Int)≤x1)→∃b1 o2:Nat,x0=some (⟨b1,o2,none⟩:Addr)∧∃n3,hcell H b1 o2=some (.int .i64 n3)∧((((x1:Int)<n3)→∃b4 o5:Nat,x0=some (⟨b4,o5,none⟩:Addr)∧∃a6 l7 c8,hcell H b4 (o5+1)=some (.slice a6 l7 c8)∧(((8:Int)≠0) ∧∀q9:Int,q9=IntKind.wrap .i64 (Int.tdiv x1 8)→(0:Int)≤q9∧q9<(l7:Int)∧∃b10 o11:Nat,a6=some (⟨b10,o11,none⟩:Addr)∧∃n12,hcell H b10 (o11+(Int.toNat q9))=some (.int .u8 n12)∧(((8:Int)≠0) ∧∀q13:Int,q13=Int.tmod x1 8→(((0:Int)≤q13) ∧∀q14:Int,q14=Int.fdiv n12 (2 ^ (min (Int.toNat q13) (IntKind.bits .u8)))→∀q15:Int,q15=bits .and .u8 q14 1→R (.bool (@decide ((0:Int)<q15) (Classical.propDecidable _))) H))))∧(¬((x1:Int)<n3)→R (.bool false) H)))∧(¬((0:Int)≤x1)→R (.bool false) H)):=by kernel_rfl
theorem vc_set(x0:Option Addr) (x1:Int) (x2:Bool) (H:Heap) (R:Value→Heap→Prop):Walk Tryz.prog 151 [] [.pointer x0,.int .i64 x1,.bool x2] H R=((((x1:Int)<0)→R (.bool false) H)∧(¬((x1:Int)<0)→∃b1 o2:Nat,x0=some (⟨b1,o2,none⟩:Addr)∧∃n3,hcell H b1 o2=some (.int .i64 n3)∧(((n3≤x1)→R (.bool false) H)∧(¬(n3≤x1)→Does Tryz.prog 153 [.pointer x0,.int .i64 x1] H fun v4 H5=>∃t6,v4=(.bool t6)∧((((t6=true)↔(x2=true))→R (.bool false) H5)∧(¬((t6=true)↔(x2=true))→∃b7 o8:Nat,x0=some (⟨b7,o8,none⟩:Addr)∧∃a9 l10 c11,hcell H5 b7 (o8+1)=some (.slice a9 l10 c11)∧(((8:Int)≠0) ∧∀q12:Int,q12=IntKind.wrap .i64 (Int.tdiv x1 8)→(0:Int)≤q12∧q12<(l10:Int)∧∃b13 o14:Nat,a9=some (⟨b13,o14,none⟩:Addr)∧∃n15,hcell H5 b13 (o14+(Int.toNat q12))=some (.int .u8 n15)∧(((8:Int)≠0) ∧∀q16:Int,q16=Int.tmod x1 8→(((0:Int)≤q16) ∧∀q17:Int,q17=IntKind.wrap .u8 (1*2 ^ (min (Int.toNat q16) (IntKind.bits .u8)))→∀q18:Int,q18=bits .xor .u8 n15 q17→(0:Int)≤q12∧q12<(l10:Int)∧∃b19 o20:Nat,a9=some (⟨b19,o20,none⟩:Addr)∧Cells H5 b19 (o20+(Int.toNat q12)) 1∧∀H21,Puts H5 b19 (o20+(Int.toNat q12)) [.int .u8 q18] H21→R (.bool true) H21))))))))):=by kernel_rfl
theorem vc_run(x0:Option Addr) (x1:Int) (H:Heap) (R:Value→Heap→Prop):Walk Tryz.prog 215 [(4,[(6,(.int .i64 0))])] [.pointer x0,.int .i64 x1] H R=(∃I1:Int→Heap→Prop,(∃I2:Int→Heap→Prop,∃μ3:Int→Heap→Nat,(I2 (max x1 0) H) ∧∀n4 H5,I2 n4 H5→∃b6 o7:Nat,x0=some (⟨b6,o7,none⟩:Addr)∧∃n8,hcell H5 b6 o7=some (.int .i64 n8)∧(((n4<n8)→Does Tryz.prog 153 [.pointer x0,.int .i64 n4] H5 fun v9 H10=>∃t11,v9=(.bool t11)∧((t11=true→In64 (n4+1) ∧(I2 (n4+1) H10)∧μ3 (n4+1) H10<μ3 n4 H5)∧(t11=false→(I1 n4 H10))))∧(¬(n4<n8)→(I1 n4 H5)))) ∧∀n12 H13,I1 n12 H13→∃b14 o15:Nat,x0=some (⟨b14,o15,none⟩:Addr)∧∃n16,hcell H13 b14 o15=some (.int .i64 n16)∧(((n16≤n12)→∃b17 o18:Nat,x0=some (⟨b17,o18,none⟩:Addr)∧∃n19,hcell H13 b17 o18=some (.int .i64 n19)∧R (.tuple #[.int .i64 n19,.int .i64 0]) H13)∧(¬(n16≤n12)→∃I20:Int→Heap→Prop,∃μ21:Int→Heap→Nat,(I20 n12 H13) ∧∀n22 H23,I20 n22 H23→∃b24 o25:Nat,x0=some (⟨b24,o25,none⟩:Addr)∧∃n26,hcell H23 b24 o25=some (.int .i64 n26)∧(((n22<n26)→Does Tryz.prog 153 [.pointer x0,.int .i64 n22] H23 fun v27 H28=>∃t29,v27=(.bool t29)∧(((t29=false)→In64 (n22+1) ∧(I20 (n22+1) H28)∧μ21 (n22+1) H28<μ21 n22 H23)∧(¬(t29=false)→In64 (n22 - n12) ∧R (.tuple #[.int .i64 n12,.int .i64 (n22 - n12)]) H28)))∧(¬(n22<n26)→In64 (n22 - n12) ∧R (.tuple #[.int .i64 n12,.int .i64 (n22 - n12)]) H23))))):=by kernel_rfl
theorem vc_free(x0:Option Addr) (H:Heap) (R:Value→Heap→Prop):Walk Tryz.prog 101 [(7,[(3,(.int .i64 0))])] [.pointer x0] H R=(∃b1 o2:Nat,x0=some (⟨b1,o2,none⟩:Addr)∧∃n3,hcell H b1 o2=some (.int .i64 n3)∧∃I4:Int→Int→Heap→Prop,∃μ5:Int→Int→Heap→Nat,(I4 0 0 H) ∧∀n6:Int,∀n7:Int,∀H8:Heap,I4 n6 n7 H8→(((n7<n3)→∃I9:Int→Heap→Prop,(Does Tryz.prog 153 [.pointer x0,.int .i64 n7] H8 fun v10 H11=>∃t12,v10=(.bool t12)∧(((t12=false)→In64 (n6+1) ∧I9 (n6+1) H11)∧(¬(t12=false)→(I9 n6 H11)))) ∧∀n13 H14,I9 n13 H14→In64 (n7+1) ∧(I4 n13 (n7+1) H14)∧μ5 n13 (n7+1) H14<μ5 n6 n7 H8)∧(¬(n7<n3)→R (.int .i64 n6) H8))):=by kernel_rfl
theorem vc_bytes(x0:Option Addr) (H:Heap) (R:Value→Heap→Prop):Walk Tryz.prog 176 [] [.pointer x0] H R=(∃b1 o2:Nat,x0=some (⟨b1,o2,none⟩:Addr)∧∃a3 l4 c5,hcell H b1 (o2+1)=some (.slice a3 l4 c5)∧Does Tryz.prog 89 [.slice a3 l4 c5] H fun v6 H7=>∃a8 l9 c10,v6=(.slice a8 l9 c10)∧R (.slice a8 l9 c10) H7):=by kernel_rfl
theorem vc_len(x0:Option Addr) (H:Heap) (R:Value→Heap→Prop):Walk Tryz.prog 168 [] [.pointer x0] H R=(∃b1 o2:Nat,x0=some (⟨b1,o2,none⟩:Addr)∧∃n3,hcell H b1 o2=some (.int .i64 n3)∧R (.int .i64 n3) H):=by kernel_rfl
theorem vc_copy(x0:Option Addr) (H:Heap) (R:Value→Heap→Prop):Walk Tryz.prog 155 [] [.pointer x0] H R=(∃b1 o2:Nat,x0=some (⟨b1,o2,none⟩:Addr)∧∃n3,hcell H b1 o2=some (.int .i64 n3)∧∃b4 o5:Nat,x0=some (⟨b4,o5,none⟩:Addr)∧∃a6 l7 c8,hcell H b4 (o5+1)=some (.slice a6 l7 c8)∧Does Tryz.prog 89 [.slice a6 l7 c8] H fun v9 H10=>∃a11 l12 c13,v9=(.slice a11 l12 c13)∧isL H10 b1 o2 [.int .i64 n3]∧∀b14 H15,New H10 b14 [.int .i64 n3,.slice a11 l12 c13] 198 H15→R (.pointer (some ⟨b14,0,none⟩)) H15):=by kernel_rfl
theorem vc_clone(x0:Option Addr) (x0l:Nat) (x0c:Nat) (H:Heap) (R:Value→Heap→Prop):Walk Tryz.prog 89 [] [.slice x0 x0l x0c] H R=((((x0:Option Addr)=none)→R (.slice none 0 0) H)∧(¬((x0:Option Addr)=none)→∀b1 H2,New H b1 [] 5 H2→∃old3 new4:List Value,SRow H2 1 0 (.slice (some ⟨b1,0,none⟩) 0 0) old3∧SRow H2 1 x0l (.slice x0 x0l x0c) new4∧(∀u∈new4,Value.oneCell' u=true)∧(0+x0l)*1≤140737488355328∧(0+x0l≤0→roomOf H2 (some (⟨b1,0,none⟩:Addr)) (0*1) (x0l*1))∧∀a5:Option Addr,∀c6:Nat,∀H7,App H2 1 5 [.int .u8 0] (some (⟨b1,0,none⟩:Addr)) 0 0 old3 new4 x0l a5 c6 H7→R (.slice a5 (0+x0l) c6) H7)):=by kernel_rfl
end Go.Proofs.Bx
end
namespace Go.Vc
def bit(xs:List UInt8)(k:Nat):Bool:=(xs.getD (k / 8) 0).toNat.testBit (k % 8)
def flipB(b:UInt8)(j:Nat):UInt8:=UInt8.ofNat (b.toNat ^^^ (1 <<< j))
def flipL(xs:List UInt8)(k:Nat):List UInt8:=xs.set (k / 8) (flipB (xs.getD (k / 8) 0) (k % 8))
def getB(n:Nat)(xs:List UInt8)(k:Int):Bool:=decide (0≤k) && (decide (k<n) && bit xs k.toNat)
theorem get_fin:∀x:Fin 256,∀j:Fin 8,decide ((0:Int)<bits .and .u8 (Int.fdiv (x.val:Int) (2 ^ (min j.val 8))) 1)=Nat.testBit x.val j.val:=by decide +kernel
theorem xor_fin:∀x:Fin 256,∀j:Fin 8,bits .xor .u8 (x.val:Int) (IntKind.wrap .u8 (1*2 ^ (min j.val 8)))=((x.val ^^^ (1 <<< j.val):Nat):Int)∧x.val ^^^ (1 <<< j.val)<256:=by decide +kernel
theorem get_byte(b:UInt8)(q:Int)(h0:0≤q)(h1:q<8):((0:Int)<bits .and .u8 (Int.fdiv (b.toNat:Int) (2 ^ (min q.toNat (IntKind.bits .u8)))) 1)↔b.toNat.testBit q.toNat=true:=by
 have:=get_fin ⟨b.toNat,b.toNat_lt⟩ ⟨q.toNat,by omega⟩
 rw[←this]
 simp[IntKind.bits]
theorem xor_byte(b:UInt8)(q:Int)(h0:0≤q)(h1:q<8):bits .xor .u8 (b.toNat:Int) (IntKind.wrap .u8 (1*2 ^ (min q.toNat (IntKind.bits .u8))))=((flipB b q.toNat).toNat:Int):=by
 obtain⟨h2,h3⟩:=xor_fin ⟨b.toNat,b.toNat_lt⟩ ⟨q.toNat,by omega⟩
 simp only at h2 h3
 have:(flipB b q.toNat).toNat=b.toNat ^^^ (1 <<< q.toNat):=by
  unfold flipB
  rw[UInt8.toNat_ofNat']
  exact Nat.mod_eq_of_lt h3
 rw[this]
 exact h2
theorem bit_flip(xs:List UInt8)(k i:Nat)(hk:k / 8<xs.length):bit (flipL xs k) i=if i=k then !bit xs k else bit xs i:=by
 unfold bit flipL
 have hj:k % 8<8:=Nat.mod_lt _ (by decide)
 have hx:=(xor_fin ⟨(xs.getD (k / 8) 0).toNat,UInt8.toNat_lt _⟩ ⟨k % 8,hj⟩).2
 simp only at hx
 have hf:(flipB (xs.getD (k / 8) 0) (k % 8)).toNat=(xs.getD (k / 8) 0).toNat ^^^ (1 <<< (k % 8)):=by
  unfold flipB
  rw[UInt8.toNat_ofNat']
  exact Nat.mod_eq_of_lt hx
 by_cases h8:i / 8=k / 8
 ·rw[h8,List.getD_eq_getElem?_getD,List.getElem?_set_self hk,Option.getD_some,hf,Nat.testBit_xor,Nat.one_shiftLeft,Nat.testBit_two_pow]
  by_cases he:i=k
  ·subst he
   simp
  ·have:¬(k % 8=i % 8):=by omega
   simp[he,this]
 ·have he:i≠k:=by rintro rfl;exact h8 rfl
  rw[if_neg he,List.getD_eq_getElem?_getD,List.getElem?_set_ne (fun h=>h8 h.symm),←List.getD_eq_getElem?_getD]
theorem flipL_length(xs:List UInt8)(k:Nat):(flipL xs k).length=xs.length:=by simp[flipL]
structure IsMap(H:Heap) (pb:Nat) (a:Option Addr) (c:Nat) (n:Nat) (xs:List UInt8):Prop where
 head:Blk H pb [.int .i64 n,.slice a xs.length c]
 own:Own H 1 a xs.length c (bytesV xs)
 apart:pb∉blkOf a
 len:xs.length=(n+7) / 8
 small:n≤1000000000000
theorem IsMap.ext{M:List Nat}{H H':Heap}{pb:Nat}{a:Option Addr}{c n:Nat}{xs:List UInt8}(h:IsMap H pb a c n xs)(he:Ext M H H')(h1:pb∉M)(h2:∀k,k∈blkOf a→k∉M):IsMap H' pb a c n xs:=
 ⟨h.head.ext he h1,h.own.ext he h2,h.apart,h.len,h.small⟩
end Go.Vc
section
open Go Go.Vc
namespace Go.Proofs.Bx
theorem Tryz.mixed:Tryz.prog.follows .mixedOrders=true:=by kernel_rfl
theorem new_ok(k:Int)(H:Heap)(hk:k≤1000000000000):Does Tryz.prog 175 [.int .i64 k] H fun v H'=>∃pb bb,v=.pointer (some ⟨pb,0,none⟩) ∧
  IsMap H' pb (some ⟨bb,0,none⟩) ((k.toNat+7) / 8) k.toNat (List.replicate ((k.toNat+7) / 8) 0)∧Ext [] H H'∧H.size≤pb∧H.size≤bb:=by
 refine Fn_of_vc Tryz.mixed (vc_new _ _ _) ?_
 refine⟨⟨by omega,by omega⟩,⟨by omega,by omega⟩,by decide,?_⟩
 intro q hq
 rw[wrap_tdiv (by omega) (by decide) (by omega)]at hq
 have e1:q.toNat=(k.toNat+7) / 8:=by omega
 refine⟨by omega,Int.le_refl _,by omega,?_⟩
 intro b H1 h1 b' H2 h2
 have hx:=h1.blk
 have hy:=h2.blk
 have e2:max k 0=(k.toNat:Int):=by omega
 have s1:=h1.size
 have s2:=h2.eq
 have s3:=h1.eq
 rw[e1]at hx hy
 rw[e2]at hy
 refine⟨b',b,rfl,⟨by simpa using hy,?_,by simp[blkOf];omega,by simp,by omega⟩,h1.ext.trans h2.ext,by omega,by omega⟩
 have:=Own.of_new (size:=1) (len:=(k.toNat+7) / 8) (cap:=(k.toNat+7) / 8) (hx.ext h2.ext (by simp)) (by simp) (Nat.le_refl _) (by unfold maxLen;omega)
 simpa[bytesV,List.map_replicate]using this
theorem len_ok{H:Heap}{pb:Nat}{a:Option Addr}{c n:Nat}{xs:List UInt8}(h:IsMap H pb a c n xs):Does Tryz.prog 168 [.pointer (some ⟨pb,0,none⟩)] H fun v H'=>v=.int .i64 n∧H=H':=by
 refine Fn_of_vc Tryz.mixed (vc_len _ _ _) ?_
 refine⟨_,_,rfl,_,h.head.cell 0,rfl,rfl⟩
theorem get_ok{H:Heap}{pb:Nat}{a:Option Addr}{c n:Nat}{xs:List UInt8}(h:IsMap H pb a c n xs)(k:Int):Does Tryz.prog 153 [.pointer (some ⟨pb,0,none⟩),.int .i64 k] H fun v H'=>v=.bool (getB n xs k)∧H=H':=by
 refine Fn_of_vc Tryz.mixed (vc_get _ _ _ _) ?_
 have hs:=h.small
 have hl:=h.len
 refine⟨fun h0=>?_,fun h0=>⟨by simp[getB,h0],rfl⟩⟩
 refine⟨_,_,rfl,_,h.head.cell 0,?_⟩
 refine⟨fun h1=>?_,fun h1=>⟨by simp[getB,h1],rfl⟩⟩
 refine⟨_,_,rfl,_,_,_,h.head.cell 1,by decide,?_⟩
 intro q hq
 rw[wrap_tdiv h0 (by decide) (by omega)]at hq
 have e1:q.toNat=k.toNat / 8:=by omega
 have hlt:k.toNat / 8<xs.length:=by omega
 obtain⟨b,o,ha,hc⟩:=(h.own.row xs.length c).get (bytesV_get xs _ hlt)
 refine⟨by omega,by omega,b,o,ha,_,by rw[e1];exact hc,by decide,?_⟩
 rintro q1 hq1
 rw[tmod_pos h0]at hq1
 refine⟨by omega,?_⟩
 rintro _ rfl _ rfl
 refine⟨?_,rfl⟩
 congr 1
 have e2:q1.toNat=k.toNat % 8:=by omega
 have:=get_byte (xs.getD (k.toNat / 8) 0) q1 (by omega) (by omega)
 rw[e2]at this ⊢
 simp only[this,getB,bit,h0,decide_true,Bool.true_and]
 simp[h1]
theorem set_ok{H:Heap}{pb:Nat}{a:Option Addr}{c n:Nat}{xs:List UInt8}(h:IsMap H pb a c n xs)(k:Int)(on:Bool):Does Tryz.prog 151 [.pointer (some ⟨pb,0,none⟩),.int .i64 k,.bool on] H fun v H'=>
  (v=.bool false∧H=H'∧(k<0∨(n:Int)≤k∨getB n xs k=on)) ∨
  (v=.bool true∧0≤k∧k<n∧getB n xs k≠on∧IsMap H' pb a c n (flipL xs k.toNat)∧Ext (blkOf a) H H'):=by
 refine Fn_of_vc Tryz.mixed (vc_set _ _ _ _ _) ?_
 have hs:=h.small
 have hl:=h.len
 refine⟨fun h0=>.inl ⟨rfl,rfl,.inl h0⟩,fun h0=>?_⟩
 refine⟨_,_,rfl,_,h.head.cell 0,?_⟩
 refine⟨fun h1=>.inl ⟨rfl,rfl,.inr (.inl h1)⟩,fun h1=>?_⟩
 refine(get_ok h k).mono ?_
 rintro _ _ ⟨rfl,rfl⟩
 refine⟨_,rfl,fun h2=>.inl ⟨rfl,rfl,.inr (.inr (Bool.eq_iff_iff.2 h2))⟩,fun h2=>?_⟩
 refine⟨_,_,rfl,_,_,_,h.head.cell 1,by decide,?_⟩
 intro q hq
 rw[wrap_tdiv (by omega) (by decide) (by omega)]at hq
 have e1:q.toNat=k.toNat / 8:=by omega
 have hlt:k.toNat / 8<xs.length:=by omega
 have hown:=h.own
 obtain⟨o1,o2,o3,o4⟩:=hown
 rcases o4 with⟨rfl,rfl⟩|⟨bb,tail,rfl,hb,hbl⟩
 ·omega
 have hcell:hcell H bb (0+q.toNat)=some (.int .u8 (xs.getD (k.toNat / 8) 0).toNat):=by
  rw[Nat.zero_add,hb.cell,List.getElem?_append_left (by rw[bytesV_length];omega),e1]
  exact bytesV_get xs _ hlt
 refine⟨by omega,by omega,bb,0,rfl,_,hcell,by decide,?_⟩
 intro q1 hq1
 rw[tmod_pos (by omega)]at hq1
 refine⟨by omega,?_⟩
 rintro _ rfl _ rfl
 rw[xor_byte _ q1 (by omega) (by omega)]
 have hin:0+q.toNat+1≤(bytesV xs++tail).length:=by rw[List.length_append,bytesV_length];omega
 refine⟨by omega,by omega,bb,0,rfl,hb.cells 1 _ hin,?_⟩
 intro H2 hp
 have hb2:=hp.blk hb hin
 have he:=hp.ext
 have e2:q1.toNat=k.toNat % 8:=by omega
 refine .inr ⟨rfl,by omega,by omega,fun e=>h2 (Bool.eq_iff_iff.1 e),⟨?_,?_,h.apart,?_,hs⟩,he⟩
 ·rw[flipL_length]
  exact h.head.ext he (by simpa[blkOf]using h.apart)
 ·rw[flipL_length]
  refine⟨by rw[bytesV_length,flipL_length,Nat.mul_one],o2,o3,.inr ⟨bb,tail,rfl,?_,?_⟩⟩
  ·rw[splice_one _ _ _ (by omega),Nat.zero_add,e1,e2,List.set_append_left _ _ (by rw[bytesV_length];omega)]at hb2
   rw[flipL,bytesV_set]
   exact hb2
  ·rw[←hbl]
   simp[bytesV_length,flipL_length]
 ·rw[flipL_length];exact hl
end Go.Proofs.Bx
end
section
open Go Go.Vc
namespace Go.Proofs.Bx
def skipTo(p:Nat→Bool):Nat→Nat→Nat
 | 0,k=>k
 | f+1,k=>match p k with|true=>skipTo p f (k+1)|false=>k
theorem skipTo_step{p:Nat→Bool}{n k:Nat}(h:k<n)(hp:p k=true):skipTo p (n - (k+1)) (k+1)=skipTo p (n - k) k:=by
 rw[show n - k=(n - (k+1))+1 by omega,skipTo,hp]
theorem skipTo_stop{p:Nat→Bool}{n k:Nat}(hp:p k=false):skipTo p (n - k) k=k:=by
 cases h:n - k with
 | zero=>rfl
 | succ m=>rw[skipTo,hp]
theorem skipTo_end{p:Nat→Bool}{n k:Nat}(h:n≤k):skipTo p (n - k) k=k:=by
 rw[show n - k=0 by omega];rfl
theorem skipTo_ge(p:Nat→Bool):∀(f k:Nat),k≤skipTo p f k∧skipTo p f k≤k+f
 | 0,k=>⟨Nat.le_refl _,Nat.le_refl _⟩
 | f+1,k=>by
  unfold skipTo
  split
  ·have:=skipTo_ge p f (k+1);omega
  ·omega
theorem skipTo_all(p:Nat→Bool):∀(f k i:Nat),k≤i→i<skipTo p f k→p i=true
 | 0,k,i,h1,h2=>by simp only[skipTo]at h2;omega
 | f+1,k,i,h1,h2=>by
  unfold skipTo at h2
  split at h2
  ·rename_i hp
   by_cases e:i=k
   ·subst e;exact hp
   ·exact skipTo_all p f (k+1) i (by omega) h2
  ·omega
theorem skipTo_not(p:Nat→Bool):∀(f k:Nat),skipTo p f k<k+f→p (skipTo p f k)=false
 | 0,k,h=>by simp only[skipTo]at h;omega
 | f+1,k,h=>by
  unfold skipTo at h ⊢
  split
  ·rename_i hp
   rw[hp]at h
   simp only at h
   exact skipTo_not p f (k+1) (by omega)
  ·rename_i hp;exact hp
def runF(p:Nat→Bool)(n k:Nat):Nat×Nat:=
 let s:=skipTo p (n - k) k
 if n≤s then(n,0)else(s,skipTo (fun i=>!p i) (n - s) s - s)
def cntF(p:Nat→Bool):Nat→Nat
 | 0=>0
 | k+1=>cntF p k+(if p k then 0 else 1)
theorem cntF_le(p:Nat→Bool):∀n,cntF p n≤n
 | 0=>Nat.le_refl _
 | n+1=>by have:=cntF_le p n;unfold cntF;split<;>omega
theorem getB_nat(n:Nat)(xs:List UInt8)(k:Nat)(h:k<n):getB n xs (k:Int)=bit xs k:=by
 simp[getB,h]
def lastB(xs:List UInt8)(n:Nat):Prop:=n % 8=0∨(xs.getD (xs.length - 1) 0).toNat / 2 ^ (n % 8)=0
instance (xs:List UInt8) (n:Nat):Decidable (lastB xs n):=by unfold lastB;infer_instance
theorem run_ok{H:Heap}{pb:Nat}{a:Option Addr}{c n:Nat}{xs:List UInt8}(h:IsMap H pb a c n xs)(k:Int)(_hk:k≤9223372036854775807):Does Tryz.prog 215 [.pointer (some ⟨pb,0,none⟩),.int .i64 k] H fun v H'=>
  v=.tuple #[.int .i64 (runF (bit xs) n k.toNat).1,.int .i64 (runF (bit xs) n k.toNat).2]∧H=H':=by
 refine Fn_of_vc Tryz.mixed (vc_run _ _ _ _) ?_
 have hs:=h.small
 refine⟨fun m H'=>∃j:Nat,m=j∧H=H'∧(k.toNat≤j)∧(j≤n∨j=k.toNat)∧j=skipTo (bit xs) (n - k.toNat) k.toNat,?_,?_⟩
 ·refine⟨fun m H'=>∃j:Nat,m=j∧H=H'∧(k.toNat≤j)∧(j≤n∨j=k.toNat)∧skipTo (bit xs) (n - j) j=skipTo (bit xs) (n - k.toNat) k.toNat,fun m _=>n - m.toNat,?_,?_⟩
  ·exact⟨k.toNat,by omega,rfl,Nat.le_refl _,.inr rfl,rfl⟩
  ·rintro _ _ ⟨j,rfl,rfl,hj1,hj2,hj⟩
   refine⟨_,_,rfl,_,h.head.cell 0,fun h1=>?_,fun h1=>?_⟩
   ·refine(get_ok h j).mono ?_
    rintro _ _ ⟨rfl,rfl⟩
    rw[getB_nat _ _ _ (by omega)]
    refine⟨_,rfl,fun h2=>⟨⟨by omega,by omega⟩,⟨j+1,by omega,rfl,by omega,.inl (by omega),?_⟩,?_⟩,fun h2=>?_⟩
    ·rw[skipTo_step (by omega) h2];exact hj
    ·show n - ((j:Int)+1).toNat<n - (j:Int).toNat
     omega
    ·refine⟨j,rfl,rfl,hj1,hj2,?_⟩
     rw[←hj,skipTo_stop h2]
   ·refine⟨j,rfl,rfl,hj1,hj2,?_⟩
    rw[←hj,skipTo_end (by omega)]
 ·rintro _ _ ⟨j,rfl,rfl,hj1,hj2,hj⟩
  refine⟨_,_,rfl,_,h.head.cell 0,fun h1=>?_,fun h1=>?_⟩
  ·refine⟨_,_,rfl,_,h.head.cell 0,?_,rfl⟩
   have:runF (bit xs) n k.toNat=(n,0):=by
    unfold runF
    simp only[←hj]
    rw[if_pos (by omega)]
   rw[this];rfl
  ·have hrun:runF (bit xs) n k.toNat=(j,skipTo (fun i=>!bit xs i) (n - j) j - j):=by
    unfold runF
    simp only[←hj]
    rw[if_neg (by omega)]
   refine⟨fun m H'=>∃i:Nat,m=i∧H=H'∧j≤i∧i≤n∧skipTo (fun i=>!bit xs i) (n - i) i=skipTo (fun i=>!bit xs i) (n - j) j,fun m _=>n - m.toNat,?_,?_⟩
   ·exact⟨j,rfl,rfl,Nat.le_refl _,by omega,rfl⟩
   ·rintro _ _ ⟨i,rfl,rfl,hi1,hi2,hi⟩
    have fin:skipTo (fun i=>!bit xs i) (n - i) i=i→In64 ((i:Int) - j)∧(Value.tuple #[.int .i64 (j:Int),.int .i64 ((i:Int) - j)]=Value.tuple #[.int .i64 (runF (bit xs) n k.toNat).1,.int .i64 (runF (bit xs) n k.toNat).2]∧H=H):=by
     intro h3
     refine⟨⟨by omega,by omega⟩,?_,rfl⟩
     rw[hrun,←hi,h3]
     simp only
     rw[Int.ofNat_sub hi1]
    refine⟨_,_,rfl,_,h.head.cell 0,fun h2=>?_,fun h2=>?_⟩
    ·refine(get_ok h i).mono ?_
     rintro _ _ ⟨rfl,rfl⟩
     rw[getB_nat _ _ _ (by omega)]
     refine⟨_,rfl,fun h3=>⟨⟨by omega,by omega⟩,⟨i+1,by omega,rfl,by omega,by omega,?_⟩,?_⟩,fun h3=>?_⟩
     ·rw[skipTo_step (by omega) (by simp[h3])];exact hi
     ·show n - ((i:Int)+1).toNat<n - (i:Int).toNat
      omega
     ·exact fin (skipTo_stop (by simpa using h3))
    ·exact fin (skipTo_end (by omega))
theorem free_ok{H:Heap}{pb:Nat}{a:Option Addr}{c n:Nat}{xs:List UInt8}(h:IsMap H pb a c n xs):Does Tryz.prog 101 [.pointer (some ⟨pb,0,none⟩)] H fun v H'=>v=.int .i64 (cntF (bit xs) n)∧H=H':=by
 refine Fn_of_vc Tryz.mixed (vc_free _ _ _) ?_
 have hs:=h.small
 refine⟨_,_,rfl,_,h.head.cell 0,fun m k H'=>∃j:Nat,k=j∧j≤n∧m=cntF (bit xs) j∧H=H',fun _ k _=>n - k.toNat,⟨0,rfl,Nat.zero_le _,rfl,rfl⟩,?_⟩
 rintro _ _ _ ⟨j,rfl,hj,rfl,rfl⟩
 have hle:=cntF_le (bit xs) j
 refine⟨fun h1=>?_,fun h1=>?_⟩
 ·refine⟨fun m H'=>m=cntF (bit xs) (j+1)∧H=H',?_,?_⟩
  ·refine(get_ok h j).mono ?_
   rintro _ _ ⟨rfl,rfl⟩
   rw[getB_nat _ _ _ (by omega)]
   refine⟨_,rfl,fun h2=>⟨⟨by omega,by omega⟩,?_,rfl⟩,fun h2=>⟨?_,rfl⟩⟩
   ·simp[cntF,h2]
   ·simp[cntF,h2]
  ·rintro _ _ ⟨rfl,rfl⟩
   refine⟨⟨by omega,by omega⟩,⟨j+1,by omega,by omega,rfl,rfl⟩,?_⟩
   show n - ((j:Int)+1).toNat<n - (j:Int).toNat
   omega
 ·have:j=n:=by omega
  subst this
  exact⟨rfl,rfl⟩
theorem clone_ok{H:Heap}{a:Option Addr}{len cap:Nat}{xs:List UInt8}(h:SRow H 1 len (.slice a len cap) (bytesV xs))(hl:len≤140737488355328):Does Tryz.prog 89 [.slice a len cap] H fun v H'=>
  ∃a' c',v=.slice a' len c'∧Own H' 1 a' len c' (bytesV xs)∧Ext [] H H'∧(∀k,k∈blkOf a'→H.size≤k):=by
 refine Fn_of_vc Tryz.mixed (vc_clone _ _ _ _ _) ?_
 refine⟨fun h0=>?_,fun h0=>?_⟩
 ·subst h0
  have h2:=h.2
  simp only at h2
  have h1:=h.1
  rw[h2]at h1
  have:len=0:=by simpa using h1.symm
  subst this
  rw[h2]
  exact⟨none,0,rfl,Own.nil _ _,Ext.refl _ _,fun k hk=>by cases hk⟩
 ·intro b H2 hn
  have hx:=hn.ext
  have ho:Own H2 1 (some ⟨b,0,none⟩) 0 0 []:=⟨rfl,Nat.le_refl _,by unfold maxLen;omega,.inr ⟨b,[],rfl,hn.blk,rfl⟩⟩
  refine⟨[],bytesV xs,ho.row 0 0,h.ext hx (by simp),bytesV_one xs,by omega,fun hle=>?_,?_⟩
  ·exact ho.room (n:=len) hle
  ·intro a5 c6 H7 happ
   obtain⟨h1,h2,h3⟩:=happ.own ho (ho.row 0 0) h.1 rfl
   simp only[Nat.zero_add,List.nil_append]at h1 ⊢
   have hb:=hn.eq
   refine⟨a5,c6,rfl,h1,hx.trans' h2 (fun i hi=>?_),fun k hk=>?_⟩
   ·simp only[blkOf,List.mem_singleton]at hi;omega
   ·rcases h3 k hk with h4|h4
    ·simp only[blkOf,List.mem_singleton]at h4;omega
    ·have:=hn.size;omega
theorem bytes_ok{H:Heap}{pb:Nat}{a:Option Addr}{c n:Nat}{xs:List UInt8}(h:IsMap H pb a c n xs):Does Tryz.prog 176 [.pointer (some ⟨pb,0,none⟩)] H fun v H'=>
  ∃a' c',v=.slice a' xs.length c'∧Own H' 1 a' xs.length c' (bytesV xs)∧Ext [] H H'∧(∀k,k∈blkOf a'→H.size≤k):=by
 refine Fn_of_vc Tryz.mixed (vc_bytes _ _ _) ?_
 have hs:=h.small
 have hl:=h.len
 refine⟨_,_,rfl,_,_,_,h.head.cell 1,(clone_ok (h.own.row _ _) (by omega)).mono ?_⟩
 rintro _ H' ⟨a',c',rfl,h1,h2,h3⟩
 exact⟨_,_,_,rfl,a',c',rfl,h1,h2,h3⟩
theorem copy_ok{H:Heap}{pb:Nat}{a:Option Addr}{c n:Nat}{xs:List UInt8}(h:IsMap H pb a c n xs):Does Tryz.prog 155 [.pointer (some ⟨pb,0,none⟩)] H fun v H'=>
  ∃pb' a' c',v=.pointer (some ⟨pb',0,none⟩)∧IsMap H' pb' a' c' n xs∧Ext [] H H'∧H.size≤pb'∧(∀k,k∈blkOf a'→H.size≤k):=by
 refine Fn_of_vc Tryz.mixed (vc_copy _ _ _) ?_
 have hs:=h.small
 have hl:=h.len
 refine⟨_,_,rfl,_,h.head.cell 0,_,_,rfl,_,_,_,h.head.cell 1,(clone_ok (h.own.row _ _) (by omega)).mono ?_⟩
 rintro _ H' ⟨a',c',rfl,h1,h2,h3⟩
 refine⟨_,_,_,rfl,⟨(h.head.ext h2 (by simp)).cell 0,trivial⟩,?_⟩
 intro b' H2 hn
 have hbe:=hn.eq
 refine⟨b',a',c',rfl,⟨hn.blk,h1.ext hn.ext (by simp),fun hk=>?_,hl,hs⟩,h2.trans hn.ext,?_,h3⟩
 ·have:=h1.lt _ hk;omega
 ·have:=h2.size;omega
end Go.Proofs.Bx
end
section
open Go Go.Vc
namespace Go.Proofs.Bx
def onB(bs:List Bool)(i:Nat):Bool:=bs.getD i false
end Go.Proofs.Bx
end
section
open Go Go.Vc
namespace Go.Proofs.Bx
theorem byte_bit(b:UInt8)(i:Nat)(h:8≤i):b.toNat.testBit i=false:=by
 refine Nat.testBit_lt_two_pow (Nat.lt_of_lt_of_le b.toNat_lt ?_)
 exact Nat.pow_le_pow_right (by decide) h
theorem bits_ext{xs ys:List UInt8}(hl:xs.length=ys.length)(h:∀k,bit xs k=bit ys k):xs=ys:=by
 refine List.ext_getElem hl fun j h1 h2=>?_
 have e:(xs.getD j 0).toNat=(ys.getD j 0).toNat:=by
  refine Nat.eq_of_testBit_eq fun i=>?_
  by_cases h8:i<8
  ·have:=h (8*j+i)
   unfold bit at this
   rw[show(8*j+i) / 8=j by omega,show(8*j+i) % 8=i by omega]at this
   exact this
  ·rw[byte_bit _ i (by omega),byte_bit _ i (by omega)]
 simp only[List.getD_eq_getElem?_getD,List.getElem?_eq_getElem h1,List.getElem?_eq_getElem h2,Option.getD_some]at e
 exact UInt8.toNat_inj.1 e
theorem bit_zero(m i:Nat):bit (List.replicate m 0) i=false:=by
 unfold bit
 have:(List.replicate m (0:UInt8)).getD (i / 8) 0=0:=by
  rw[List.getD_eq_getElem?_getD,List.getElem?_replicate]
  split<;>rfl
 rw[this]
 exact Nat.zero_testBit _
structure BytesAre(bs:List Bool) (ys:List UInt8):Prop where
 len:ys.length=(bs.length+7) / 8
 bits:∀k,bit ys k=onB bs k
theorem BytesAre.one{bs:List Bool}{xs ys:List UInt8}(h:BytesAre bs xs)(h':BytesAre bs ys):xs=ys:=
 bits_ext (h.len.trans h'.len.symm) fun k=>(h.bits k).trans (h'.bits k).symm
theorem onB_beyond{bs:List Bool}{k:Nat}(h:bs.length≤k):onB bs k=false:=by
 unfold onB
 rw[List.getD_eq_getElem?_getD,List.getElem?_eq_none h]
 rfl
end Go.Proofs.Bx
end
section
open Go Go.Vc
end
section
open Go Go.Vc
namespace Go.Proofs.Bx
theorem onB_set(bs:List Bool)(k i:Nat)(v:Bool)(hk:k<bs.length):onB (bs.set k v) i=if i=k then v else onB bs i:=by
 unfold onB
 by_cases h:i=k
 ·subst h
  rw[if_pos rfl,List.getD_eq_getElem?_getD,List.getElem?_set_self hk,Option.getD_some]
 ·rw[if_neg h,List.getD_eq_getElem?_getD,List.getElem?_set_ne (fun e=>h e.symm),←List.getD_eq_getElem?_getD]
theorem BytesAre.same{bs:List Bool}{xs:List UInt8}(h:BytesAre bs xs){k:Nat}(hk:k<bs.length){on:Bool}(e:bit xs k=on):BytesAre (bs.set k on) xs:=by
 refine⟨by rw[List.length_set];exact h.len,fun i=>?_⟩
 rw[onB_set _ _ _ _ hk]
 split
 ·subst_vars;rfl
 ·exact h.bits i
theorem BytesAre.flip{bs:List Bool}{xs:List UInt8}(h:BytesAre bs xs){k:Nat}(hk:k<bs.length){on:Bool}(e:bit xs k≠on):BytesAre (bs.set k on) (flipL xs k):=by
 have hl:=h.len
 refine⟨by rw[List.length_set,flipL_length];exact h.len,fun i=>?_⟩
 rw[onB_set _ _ _ _ hk,bit_flip _ _ _ (by omega)]
 split
 ·revert e
  cases bit xs k<;>cases on<;>simp
 ·exact h.bits i
end Go.Proofs.Bx
end
section
open Go Go.Vc
namespace Go.Proofs.Bx
structure RunSpec(p:Nat→Bool) (n k s c:Nat):Prop where
 from_:k≤s
 on:∀i,k≤i→i<s→p i=true
 off:∀i,s≤i→i<s+c→p i=false
 fin:s+c≤n
 next:s+c<n→p (s+c)=true
 zero:c=0→s=n
theorem runF_spec(p:Nat→Bool)(n k:Nat)(hk:k≤n):RunSpec p n k (runF p n k).1 (runF p n k).2:=by
 unfold runF
 simp only
 have h1:=skipTo_ge p (n - k) k
 have h2:=skipTo_all p (n - k) k
 have h3:=skipTo_not p (n - k) k
 generalize skipTo p (n - k) k=s at *
 split
 ·exact⟨hk,fun i hi hl=>h2 i hi (by omega),fun i hi hl=>by omega,Nat.le_refl _,fun h=>by omega,fun _=>rfl⟩
 ·have g1:=skipTo_ge (fun i=>!p i) (n - s) s
  have g2:=skipTo_all (fun i=>!p i) (n - s) s
  have g3:=skipTo_not (fun i=>!p i) (n - s) s
  have g4:skipTo (fun i=>!p i) (n - s) s≠s:=by
   have e:n - s=(n - s - 1)+1:=by omega
   rw[e,skipTo,h3 (by omega)]
   have:=(skipTo_ge (fun i=>!p i) (n - s - 1) (s+1)).1
   simp only[Bool.not_false]
   omega
  generalize skipTo (fun i=>!p i) (n - s) s=t at *
  refine⟨h1.1,h2,fun i hi hl=>by simpa using g2 i hi (by simp only at hl;omega),by simp only;omega,fun h=>?_,fun h=>by simp only at h;omega⟩
  have e:s+(t - s)=t:=by omega
  simp only[e]at h ⊢
  simpa using g3 (by omega)
theorem cntF_on{p:Nat→Bool}{k:Nat}:∀{s:Nat},k≤s→(∀i,k≤i→i<s→p i=true)→cntF p s=cntF p k
 | 0,h,_=>by rw[Nat.le_zero.1 h]
 | s+1,h,ho=>by
  by_cases e:k=s+1
  ·rw[e]
  ·rw[cntF,ho s (by omega) (by omega),cntF_on (by omega) (fun i h1 h2=>ho i h1 (by omega))]
   simp
theorem cntF_off{p:Nat→Bool}{s:Nat}:∀{c:Nat},(∀i,s≤i→i<s+c→p i=false)→cntF p (s+c)=cntF p s+c
 | 0,_=>rfl
 | c+1,ho=>by
  rw[←Nat.add_assoc,cntF,ho (s+c) (by omega) (by omega),cntF_off (fun i h1 h2=>ho i h1 (by omega))]
  simp
  omega
end Go.Proofs.Bx
end
section
open Go.RowKit
namespace Go.Vc
theorem Does.below{P:Program}{f:FuncId}{args:List Value}{w:World}(h:Does P f args w.heap fun v H'=>v=.bool true∧Ext [] w.heap H') :
  Calls P f args.toArray w fun e w'=>e=.returned (.bool true)∧Below w.heap.size w w':=
 (h w rfl).mono fun _ w' ⟨_,he,hs,hv,hx⟩=>⟨by rw[he,hv],⟨hs.os,hs.tape,hs.output,hx.size,fun k hk=>hx.keep k hk (by simp)⟩⟩
end Go.Vc
end
namespace Go.Vc
theorem cell_hcell(w:World)(b o:Nat):w.cell? ⟨b,o,none⟩=hcell w.heap b o:=by
 unfold World.cell? hcell
 cases w.heap[b]? with
 | none=>rfl
 | some x=>cases x<;>rfl
theorem add_none(b o n:Nat):Addr.add ⟨b,o,none⟩ n=⟨b,o+n,none⟩:=by
 unfold Addr.add
 split
 ·subst_vars;rfl
 ·rfl
theorem okWide_spot{P:Program}{w:World}{r:Reach}{base:Nat}{t e:TypeId}{a:Option Addr}{len cap:Nat}(ht:P.underlying t=some (.slice e))(h:Value.okWide P w r base t (.slice a len cap)):∀x,a=some x→x.spot=none:=by
 rintro x rfl
 simp only[Value.okWide,ht,Cell.okWide,Cell.ok,World.has]at h
 exact h.2.2.2.1
theorem flat_at{H:Heap}{b o c:Nat}:∀(rows:List (List Value))(k:Nat),(∀i r,rows[i]?=some r→r.length=c∧∀j u,r[j]?=some u→hcell H b (o+((k+i)*c+j))=some u) →
  rows.flatten.length=rows.length*c∧∀j u,rows.flatten[j]?=some u→hcell H b (o+(k*c+j))=some u
 | [],k,_=>by simp
 | r::rows,k,h=>by
  obtain⟨h1,h2⟩:=h 0 r rfl
  obtain⟨h3,h4⟩:=flat_at rows (k+1) (fun i r' hr=>by
   have:=h (i+1) r' (by simpa using hr)
   rw[show k+1+i=k+(i+1)by omega]
   exact this)
  refine⟨by simp only[List.flatten_cons,List.length_append,h1,h3,List.length_cons];rw[Nat.add_mul];omega,fun j u hj=>?_⟩
  rw[List.flatten_cons]at hj
  rcases Nat.lt_or_ge j r.length with hl|hl
  ·rw[List.getElem?_append_left hl]at hj
   have:=h2 j u hj
   simpa using this
  ·rw[List.getElem?_append_right hl]at hj
   have:=h4 _ u hj
   rw[Nat.add_mul,h1]at this
   rw[h1]at hl
   rw[show k*c+j=k*c+1*c+(j - c)by omega]
   exact this
section
variable {H:Type} {enc:TypeId×Value→H} {P:Program} {w:World} {base:Nat} {spare:Nat→Bool} {held:Bool}
theorem trod_rows{t e:TypeId}{c fuel len cap:Nat}{a:Option Addr}{x:DataW H×List MemPlace}(ht:P.underlying t=some (.slice e))(hc:P.cellsOf e=c)(hsp:∀x,a=some x→x.spot=none)
  (h:DataW.trod enc P w base spare held fuel t [.slice a len cap]=some x) :
  ∃rows:List (List Value),rows.length=len∧len≤maxLen∧(∀r∈rows,∃n y,DataW.trod enc P w base spare held n e r=some y)∧(∀r∈rows,r.length=c)∧SRow w.heap c len (.slice a len cap) rows.flatten:=by
 rcases DataW.trod_slice ht h with⟨h0,_⟩|⟨ad,len',cap',elems,rest,n,_,h0,_,hb,hl,hm,hlen,hel,_,_⟩
 ·simp only[List.cons.injEq,Value.slice.injEq,and_true]at h0
  obtain⟨rfl,rfl,rfl⟩:=h0
  exact⟨[],rfl,Nat.zero_le _,by simp,by simp,by simp,rfl⟩
 ·simp only[List.cons.injEq,Value.slice.injEq,and_true]at h0
  obtain⟨rfl,rfl,rfl⟩:=h0
  obtain⟨b,o,sp⟩:=ad
  have hs:=hsp _ rfl
  simp only at hs
  subst hs
  rw[hc]at hel
  have each:∀i,i<len→∃r,w.cells? base (Addr.add ⟨b,o,none⟩ (i*c)) c=some r∧∃y,DataW.trod enc P w base spare held n e r=some y:=by
   intro i hi
   have h1:=hel i hi
   rw[List.getElem?_eq_getElem (by omega)]at h1
   cases h2:w.cells? base (Addr.add ⟨b,o,none⟩ (i*c)) c with
   | none=>rw[h2]at h1;cases h1
   | some r=>rw[h2]at h1;exact⟨r,rfl,_,h1⟩
  have row:∀i r,w.cells? base (Addr.add ⟨b,o,none⟩ (i*c)) c=some r→r.length=c∧∀j u,r[j]?=some u→hcell w.heap b (o+(i*c+j))=some u:=by
   intro i r hr
   unfold World.cells? at hr
   split at hr
   ·have h2:=Go.mapM_some_length hr
    simp only[List.length_range]at h2
    refine⟨h2,fun j u hj=>?_⟩
    have hjc:j<c:=by have:=(List.getElem?_eq_some_iff.1 hj).1;omega
    have h3:=Go.mapM_some_get hr j j (by simp[hjc])
    rw[hj]at h3
    rw[add_none,add_none,cell_hcell,Nat.add_assoc]at h3
    exact h3
   ·cases hr
  refine⟨(List.range len).map fun i=>(w.cells? base (Addr.add ⟨b,o,none⟩ (i*c)) c).getD [],by simp,by omega,?_,?_,?_⟩
  ·intro r hr
   obtain⟨i,hi,rfl⟩:=List.mem_map.1 hr
   obtain⟨r,hr,y,hy⟩:=each i (by simpa using hi)
   rw[hr]
   exact⟨n,y,hy⟩
  ·intro r hr
   obtain⟨i,hi,rfl⟩:=List.mem_map.1 hr
   obtain⟨r,hr,y,hy⟩:=each i (by simpa using hi)
   rw[hr]
   exact(row i r hr).1
  ·have:=flat_at (H:=w.heap) (b:=b) (o:=o) (c:=c) ((List.range len).map fun i=>(w.cells? base (Addr.add ⟨b,o,none⟩ (i*c)) c).getD []) 0 (by
    intro i r hr
    simp only[List.getElem?_map,Option.map_eq_some_iff]at hr
    obtain⟨i',hi,rfl⟩:=hr
    have hi2:=List.getElem?_eq_some_iff.1 hi
    obtain⟨hlt,he⟩:=hi2
    simp only[List.getElem_range]at he
    subst he
    obtain⟨r,hr,y,hy⟩:=each i (by simpa using hlt)
    rw[hr]
    simpa using row i r hr)
   refine⟨by simpa using this.1,.inr rfl,fun j u hj=>?_⟩
   have:=this.2 j u hj
   simpa using this
theorem rows_map{α:Type}{f:α→List Value}{good:α→Prop}:∀(rows:List (List Value)),(∀r∈rows,∃x,r=f x∧good x)→∃xs:List α,rows=xs.map f∧∀x∈xs,good x
 | [],_=>⟨[],rfl,by simp⟩
 | r::rows,h=>by
  obtain⟨x,hx,hg⟩:=h r (by simp)
  obtain⟨xs,h1,h2⟩:=rows_map rows (fun r hr=>h r (by simp[hr]))
  exact⟨x::xs,by rw[hx,h1];rfl,by intro y hy;rcases List.mem_cons.1 hy with rfl|hy;exact hg;exact h2 y hy⟩
theorem flatten_single{α:Type}(f:α→Value):∀xs:List α,(xs.map fun x=>[f x]).flatten=xs.map f
 | []=>rfl
 | x::xs=>by simp[flatten_single f xs]
end
end Go.Vc
namespace Go.Vc
structure Pc where
 s:Int
 c:Int
 deriving DecidableEq
def pcV(p:Pc):List Value:=[.int .i64 p.s,.int .i64 p.c]
def piecesV(l:List Pc):List Value:=(l.map pcV).flatten
theorem piecesV_length:∀l:List Pc,(piecesV l).length=l.length*2
 | []=>rfl
 | p::l=>by
  have:=piecesV_length l
  unfold piecesV at this ⊢
  simp only[List.map_cons,List.flatten_cons,List.length_append,this,List.length_cons]
  simp only[pcV,List.length_cons,List.length_nil]
  omega
structure Pcs(H:Heap) (a:Option Addr) (len:Nat) (l:List Pc):Prop where
 leng:l.length=len
 row:∀c,SRow H 2 len (.slice a len c) (piecesV l)
theorem Pcs.ext{M:List Nat}{H H':Heap}{a:Option Addr}{len:Nat}{l:List Pc}(h:Pcs H a len l)(he:Ext M H H')(hm:∀k,k∈blkOf a→k∉M):Pcs H' a len l:=
 ⟨h.leng,fun c=>(h.row c).ext he hm⟩
theorem Pcs.get{H:Heap}{a:Option Addr}{len:Nat}{l:List Pc}(h:Pcs H a len l)(i:Nat)(p:Pc)(hp:l[i]?=some p):∃b o,a=some ⟨b,o,none⟩∧hcell H b (o+i*2)=some (.int .i64 p.s)∧hcell H b ((o+i*2)+1)=some (.int .i64 p.c):=by
 have hr:(l.map pcV)[i]?=some (pcV p):=by simp[hp]
 have hlen:∀r∈l.map pcV,r.length=2:=by
  intro r hr
  obtain⟨q,_,rfl⟩:=List.mem_map.1 hr
  rfl
 have h0:=flatten_at (j:=0) hlen hr (by decide)
 have h1:=flatten_at (j:=1) hlen hr (by decide)
 obtain⟨b,o,rfl,c0⟩:=(h.row 0).at (h0.trans rfl)
 obtain⟨b1,o1,e1,c1⟩:=(h.row 0).at (h1.trans rfl)
 cases e1
 exact⟨b,o,rfl,c0,by rw[Nat.add_assoc];exact c1⟩
theorem new_put{H H1 H2:Heap}{b:Nat}{z vs:List Value}{e:TypeId}(h:New H b z e H1)(h2:Puts H1 b 0 vs H2)(hl:vs.length=z.length):Blk H2 b vs∧Ext [] H H2∧b=H.size∧H2.size=H.size+1:=by
 have hb:=h.blk
 have hp:=h2.blk hb (by omega)
 have he:=h.eq
 have hs:=h.size
 have hs2:=h2.size
 refine⟨?_,h.ext.trans' h2.ext (by intro i hi;simp only[List.mem_singleton]at hi;omega),he,by omega⟩
 have:splice z 0 vs=vs:=by
  unfold splice
  rw[List.take_zero,List.nil_append,Nat.zero_add,hl,List.drop_length,List.append_nil]
 rwa[this]at hp
def okP(a e:Int)(p:Pc):Prop:=1≤p.c∧a≤p.s∧p.s<e∧p.c≤e - p.s
def apartP(q p:Pc):Prop:=q.s+q.c≤p.s∨p.s+p.c≤q.s
def fitsP(l:List Pc)(a e:Int)(i:Nat)(p:Pc):Prop:=okP a e p∧∀k q,k<i→l[k]?=some q→apartP q p∧(k+1=i→q.s+q.c≠p.s)
def RightP(l:List Pc)(a e:Int):Prop:=l.length≤6∧∀i p,l[i]?=some p→fitsP l a e i p
end Go.Vc
section
open Go Go.Vc
namespace Go.Proofs.Bx
noncomputable def decP(p:Prop):Bool:=@decide p (Classical.propDecidable p)
theorem decP_true{p:Prop}(h:p):true=decP p:=(@decide_eq_true p (Classical.propDecidable p) h).symm
theorem decP_false{p:Prop}(h:¬p):false=decP p:=(@decide_eq_false p (Classical.propDecidable p) h).symm
theorem right_ok{H:Heap}{a:Option Addr}{len cap:Nat}{l:List Pc}(h:Pcs H a len l)(hc:len≤cap)(x e:Int)(hx:0≤x)(hx':x≤9223372036854775807)(he:e≤9223372036854775807) :
  Does Tryz.prog 167 [.slice a len cap,.int .i64 x,.int .i64 e] H fun v H'=>v=.bool (decP (RightP l x e))∧Ext [] H H':=by
 refine Fn_of_vc Tryz.mixed (vc_right _ _ _ _ _ _ _) ?_
 have hlen:=h.leng
 have no:∀{H'},¬RightP l x e→Ext [] H H'→Value.bool false=.bool (decP (RightP l x e))∧Ext [] H H':=fun hn hx=>⟨congrArg _ (decP_false hn),hx⟩
 refine⟨fun h1=>no (fun hr=>by have:=hr.1;omega) (Ext.refl _ _),fun h1=>?_⟩
 refine⟨fun i H'=>Ext [] H H'∧∃j:Nat,i=j∧j≤len∧∀i p,i<j→l[i]?=some p→fitsP l x e i p,fun i _=>len - i.toNat,⟨Ext.refl _ _,0,rfl,Nat.zero_le _,fun i p hi=>absurd hi (Nat.not_lt_zero _)⟩,?_⟩
 rintro _ H4 ⟨hx4,j,rfl,hj,hall⟩
 refine⟨fun h2=>?_,fun h2=>⟨congrArg _ (decP_true ⟨by omega,fun i p hp=>hall i p (by have:=(List.getElem?_eq_some_iff.1 hp).1;omega) hp⟩),hx4⟩⟩
 have hjl:j<l.length:=by omega
 obtain⟨p,hp⟩:∃p,l[j]?=some p:=⟨_,List.getElem?_eq_getElem hjl⟩
 obtain⟨b,o,rfl,c0,c1⟩:=h.get j p hp
 refine⟨by omega,h2,b,o,rfl,_,hcell_ext c0 hx4 (by simp),_,hcell_ext c1 hx4 (by simp),fun b9 H10 hn=>⟨hn.blk.cells 2 0 (by simp),fun H11 hput=>?_⟩⟩
 obtain⟨hb9,hx11,e9,s11⟩:=new_put hn hput rfl
 have hxx:=hx4.trans hx11
 have nofit:¬fitsP l x e j p→¬RightP l x e:=fun hn hr=>hn (hr.2 j p hp)
 refine⟨p.c,hb9.cell 1,fun h3=>no (nofit fun hf=>by have:=hf.1.1;omega) hxx,fun h3=>?_⟩
 refine⟨p.s,hb9.cell 0,fun h4=>no (nofit fun hf=>by have:=hf.1.2.1;omega) hxx,fun h4=>?_⟩
 refine⟨p.s,hb9.cell 0,fun h5=>no (nofit fun hf=>by have:=hf.1.2.2.1;omega) hxx,fun h5=>?_⟩
 refine⟨p.c,hb9.cell 1,p.s,hb9.cell 0,⟨by omega,by omega⟩,fun h6=>no (nofit fun hf=>by have:=hf.1.2.2.2;omega) hxx,fun h6=>?_⟩
 refine⟨by omega,by omega,fun i H'=>Ext [] H11 H'∧∃k:Nat,i=k∧k≤j∧∀i q,i<k→l[i]?=some q→apartP q p∧(i+1=j→q.s+q.c≠p.s),fun i _=>j - i.toNat,⟨Ext.refl _ _,0,rfl,Nat.zero_le _,fun i q hi=>absurd hi (Nat.not_lt_zero _)⟩,?_⟩
 rintro _ H20 ⟨hx20,k,rfl,hk,hapart⟩
 simp only[Int.toNat_natCast]
 refine⟨fun h7=>?_,fun h7=>⟨⟨by omega,by omega⟩,⟨hxx.trans hx20,j+1,by omega,by omega,fun i q hi hq=>?_⟩,by omega⟩⟩
 ·have hkl:k<l.length:=by omega
  obtain⟨q,hq⟩:∃q,l[k]?=some q:=⟨_,List.getElem?_eq_getElem hkl⟩
  obtain⟨b',o',e',d0,d1⟩:=h.get k q hq
  cases e'
  have hx20':=hxx.trans hx20
  have okq:=(hall k q (by omega) hq).1
  refine⟨by omega,by omega,b,o,rfl,_,hcell_ext d0 hx20' (by simp),_,hcell_ext d1 hx20' (by simp),fun b25 H26 hn2=>⟨hn2.blk.cells 2 0 (by simp),fun H27 hput2=>?_⟩⟩
  obtain⟨hb25,hx27,e25,s27⟩:=new_put hn2 hput2 rfl
  have hb9':=hb9.ext (hx20.trans hx27) (by simp)
  have hfin:=hx20'.trans hx27
  have hnn:∀{P:Prop},(fitsP l x e j p→P)→(P→False)→¬RightP l x e:=fun h1 h2 hr=>h2 (h1 (hr.2 j p hp))
  have okp1:p.s+p.c≤e:=by omega
  have okq1:q.s+q.c≤e:=by have:=okq.2.2.2;omega
  have okq2:=okq.2.1
  have okq3:=okq.1
  have step:(apartP q p∧(k+1=j→q.s+q.c≠p.s))→In64 ((k:Int)+1)∧(Ext [] H11 H27∧∃k1:Nat,(k:Int)+1=k1∧k1≤j∧∀i q,i<k1→l[i]?=some q→apartP q p∧(i+1=j→q.s+q.c≠p.s))∧j - ((k:Int)+1).toNat<j - (k:Int).toNat:=by
   intro hq1
   refine⟨⟨by omega,by omega⟩,⟨hx20.trans hx27,k+1,by omega,by omega,fun i q' hi hq'=>?_⟩,by omega⟩
   by_cases e:i=k
   ·subst e
    rw[hq]at hq'
    cases hq'
    exact hq1
   ·exact hapart i q' (by omega) hq'
  refine⟨q.s,hb25.cell 0,q.c,hb25.cell 1,⟨by omega,by omega⟩,p.s,hb9'.cell 0,fun h8=>⟨⟨by omega,by omega⟩,fun h9=>?_,fun h9=>?_⟩,fun h8=>?_⟩
  ·refine⟨q.s,hb25.cell 0,q.c,hb25.cell 1,⟨by omega,by omega⟩,p.s,hb9'.cell 0,fun h10=>no (hnn (fun hf=>(hf.2 k q (by omega) hq).2 (by omega)) (fun hne=>hne h10)) hfin,fun h10=>?_⟩
   exact step ⟨.inl h8,fun _=>h10⟩
  ·exact step ⟨.inl h8,fun e=>absurd (by omega) h9⟩
  ·refine⟨p.s,hb9'.cell 0,p.c,hb9'.cell 1,⟨by omega,by omega⟩,q.s,hb25.cell 0,fun h9=>no (hnn (fun hf=>(hf.2 k q (by omega) hq).1) (fun ha=>by rcases ha with ha|ha;exact h8 ha;exact h9 ha)) hfin,fun h9=>?_⟩
   have h9':p.s+p.c≤q.s:=Decidable.not_not.1 h9
   refine⟨⟨by omega,by omega⟩,fun h10=>?_,fun h10=>step ⟨.inr h9',fun e=>absurd (by omega) h10⟩⟩
   refine⟨q.s,hb25.cell 0,q.c,hb25.cell 1,⟨by omega,by omega⟩,p.s,hb9'.cell 0,fun h11=>absurd h11 (by omega),fun h11=>?_⟩
   exact step ⟨.inr h9',fun _=>h11⟩
 ·by_cases ei:i=j
  ·subst ei
   rw[hp]at hq
   cases hq
   exact⟨⟨by omega,by omega,by omega,by omega⟩,fun k' q hk' hq=>hapart k' q (by omega) hq⟩
  ·exact hall i q (by omega) hq
end Go.Proofs.Bx
end
section
open Go Go.Vc
namespace Go.Proofs.Bx
def blocksF(n:Int):Int:=if n<1 then 0 else(n - 1) / 128+1
theorem blocks_ok(n:Int)(H:Heap)(hn:n≤9223372036854775807):Does Tryz.prog 160 [.int .i64 n] H fun v H'=>v=.int .i64 (blocksF n)∧H=H':=by
 refine Fn_of_vc Tryz.mixed (vc_blocks _ _ _) ?_
 refine⟨fun h=>⟨by rw[blocksF,if_pos h],rfl⟩,fun h=>⟨⟨by omega,by omega⟩,by decide,?_⟩⟩
 rintro q hq
 rw[wrap_tdiv (by omega) (by decide) (by omega)]at hq
 exact⟨⟨by omega,by omega⟩,by rw[blocksF,if_neg h,hq],rfl⟩
def fewP(p:Pc):Prop:=1≤p.c∧p.c≤4096
def SmallP(l:List Pc):Prop:=l.length≤6∧∀(i:Nat)(p:Pc),l[i]?=some p→fewP p
theorem sound1_ok(s c:Int)(H:Heap):Does Tryz.prog 214 [.agg #[.int .i64 s,.int .i64 c]] H fun v H'=>v=.bool (decP (¬fewP ⟨s,c⟩))∧Ext [] H H':=by
 refine Fn_of_vc Tryz.mixed (vc_sound1 _ _ _ _) ?_
 intro b H2 hn
 have hb:=hn.blk
 refine⟨c,hb.cell 1,fun h=>⟨congrArg _ (decP_true fun hf=>by have:=hf.1;simp only at this;omega),hn.ext⟩,fun h=>⟨c,hb.cell 1,congrArg _ (dec_eq ⟨fun h2 hf=>by have:=hf.2;simp only at this;omega,fun h2=>?_⟩),hn.ext⟩⟩
 rcases Int.lt_or_le 4096 c with h3|h3
 ·exact h3
 ·exact absurd ⟨by simp only;omega,h3⟩ h2
theorem indexf_ok{H:Heap}{a:Option Addr}{len cap:Nat}{l:List Pc}(h:Pcs H a len l)(hm:len≤6) :
  Does Tryz.prog 221 [.slice a len cap,.func (.func 214) #[] #[]] H fun v H'=>∃n:Int,v=.int .i64 n∧(0≤n↔¬SmallP l)∧Ext [] H H':=by
 refine Fn_of_vc Tryz.mixed (vc_indexf _ _ _ _ _) ?_
 have hlen:=h.leng
 refine⟨fun i H'=>Ext [] H H'∧∃j:Nat,i=j∧j≤len∧∀i p,i<j→l[i]?=some p→fewP p,fun i _=>len - i.toNat,⟨Ext.refl _ _,0,rfl,Nat.zero_le _,fun i p hi=>absurd hi (Nat.not_lt_zero _)⟩,?_⟩
 rintro _ H4 ⟨hx4,j,rfl,hj,hall⟩
 refine⟨fun h2=>?_,fun h2=>⟨_,rfl,⟨fun h3=>absurd h3 (by decide),fun h3=>absurd ⟨by omega,fun i p hp=>hall i p (by have:=(List.getElem?_eq_some_iff.1 hp).1;omega) hp⟩ h3⟩,hx4⟩⟩
 obtain⟨p,hp⟩:∃p,l[j]?=some p:=⟨_,List.getElem?_eq_getElem (by omega)⟩
 obtain⟨b,o,rfl,c0,c1⟩:=h.get j p hp
 refine⟨by omega,h2,b,o,rfl,p.s,hcell_ext c0 hx4 (by simp),p.c,hcell_ext c1 hx4 (by simp),(sound1_ok p.s p.c H4).mono ?_⟩
 rintro _ H10 ⟨rfl,hx10⟩
 refine⟨_,rfl,fun h3=>⟨_,rfl,⟨fun _ hs=>?_,fun _=>by omega⟩,hx4.trans hx10⟩,fun h3=>⟨⟨by omega,by omega⟩,⟨hx4.trans hx10,j+1,by omega,by omega,fun i q hi hq=>?_⟩,by dsimp only;omega⟩⟩
 ·exact(@of_decide_eq_true _ (Classical.propDecidable _) h3) (hs.2 j p hp)
 ·by_cases ei:i=j
  ·subst ei
   rw[hp]at hq
   cases hq
   exact Classical.not_not.1 (@of_decide_eq_false _ (Classical.propDecidable _) h3)
  ·exact hall i q (by omega) hq
theorem containsf_ok{H:Heap}{a:Option Addr}{len cap:Nat}{l:List Pc}(h:Pcs H a len l)(hm:len≤6) :
  Does Tryz.prog 213 [.slice a len cap,.func (.func 214) #[] #[]] H fun v H'=>v=.bool (decP (¬SmallP l))∧Ext [] H H':=by
 refine Fn_of_vc Tryz.mixed (vc_containsf _ _ _ _ _) ?_
 refine(indexf_ok h hm).mono ?_
 rintro _ H2 ⟨n,rfl,hn,hx⟩
 exact⟨_,rfl,congrArg _ (dec_eq hn),hx⟩
theorem sound_ok{H:Heap}{a:Option Addr}{len cap:Nat}{l:List Pc}(h:Pcs H a len l) :
  Does Tryz.prog 197 [.slice a len cap] H fun v H'=>v=.bool (decP (SmallP l))∧Ext [] H H':=by
 refine Fn_of_vc Tryz.mixed (vc_sound _ _ _ _ _) ?_
 have hlen:=h.leng
 refine⟨fun h1=>(containsf_ok h (by omega)).mono ?_,fun h1=>⟨congrArg _ (decP_false fun hs=>by have:=hs.1;omega),Ext.refl _ _⟩⟩
 rintro _ H2 ⟨rfl,hx⟩
 refine⟨_,rfl,congrArg _ (dec_eq ⟨fun h2=>?_,fun h2=>(decP_false (fun hn=>hn h2)).symm⟩),hx⟩
 exact Classical.not_not.1 (@of_decide_eq_false _ (Classical.propDecidable _) h2)
end Go.Proofs.Bx
end
namespace Go.Vc
theorem append_one{H:Heap}{size w:Nat}{e e':TypeId}{z vs xs:List Value}{a:Option Addr}{len cap:Nat}{R:Option Addr→Nat→Heap→Prop}(ho:Own H size a len cap xs)(hv:vs.length=size)(h1:∀u∈vs,Value.oneCell' u=true)
  (hz:z.length=size) (hw:(len+1)*w≤140737488355328)
  (k:∀a' c' H',Own H' size a' (len+1) c' (xs++vs)→Ext (blkOf a) H H'→(∀k,k∈blkOf a'→k∈blkOf a∨H.size≤k)→R a' c' H') (b:Nat) (H2:Heap) (hn:New H b vs e H2) :
  ∃old news:List Value,SRow H2 size len (.slice a len cap) old∧SRow H2 size 1 (.slice (some ⟨b,0,none⟩) 1 1) news∧(∀u∈news,Value.oneCell' u=true)∧(len+1)*w≤140737488355328 ∧
   (len+1≤cap→roomOf H2 a (len*size) (1*size))∧∀a' c' H',App H2 size e' z a len cap old news 1 a' c' H'→R a' c' H':=by
 have hx:=hn.ext
 have ho2:=ho.ext hx (by simp)
 have hb:=hn.blk
 refine⟨xs,vs,ho2.row len cap,⟨by omega,.inr rfl,fun j u hj=>?_⟩,h1,hw,fun hle=>ho2.room hle,fun a' c' H' happ=>?_⟩
 ·show hcell H2 b (0+j)=some u
  rw[Nat.zero_add,hb.cell]
  exact hj
 ·obtain⟨g1,g2,g3⟩:=happ.own ho2 (ho2.row len cap) (by omega) hz
  have hs:=hn.size
  exact k a' c' H' g1 ((hx.any).trans g2) (fun i hi=>by
   rcases g3 i hi with h|h
   ·exact .inl h
   ·exact .inr (by omega))
def totalP:List Pc→Int
 | []=>0
 | p::r=>p.c+totalP r
theorem totalP_take{l:List Pc}{j:Nat}{p:Pc}(h:l[j]?=some p):totalP (l.take (j+1))=totalP (l.take j)+p.c:=by
 induction l generalizing j with
 | nil=>simp at h
 | cons q r ih=>
  cases j with
  | zero=>
   simp only[List.getElem?_cons_zero,Option.some.injEq]at h
   subst h
   simp[totalP]
  | succ j=>
   simp only[List.getElem?_cons_succ]at h
   simp only[List.take_succ_cons,totalP,ih h]
   omega
theorem totalP_le{l:List Pc}{m:Int}(_:0≤m):(∀(i:Nat)(p:Pc),l[i]?=some p→0≤p.c∧p.c≤m)→0≤totalP l∧totalP l≤m*l.length:=by
 induction l with
 | nil=>intro _;simp[totalP]
 | cons q r ih=>
  intro h
  have h1:=h 0 q rfl
  have h2:=ih (fun i p hp=>h (i+1) p (by simpa using hp))
  simp only[totalP,List.length_cons,Int.natCast_add,Int.mul_add]
  omega
end Go.Vc
section
open Go Go.Vc
namespace Go.Proofs.Bx
theorem small_total{l:List Pc}(h:SmallP l)(j:Nat):0≤totalP (l.take j)∧totalP (l.take j)≤24576:=by
 have h1:=totalP_le (l:=l.take j) (m:=4096) (by decide) (fun i p hp=>by
  have hp':l[i]?=some p:=by
   rw[List.getElem?_take]at hp
   split at hp
   ·exact hp
   ·cases hp
  have:=h.2 i p hp'
  exact⟨by have:=this.1;omega,this.2⟩)
 have h2:=h.1
 have h3:(l.take j).length≤6:=by rw[List.length_take];omega
 omega
noncomputable def countF(l:List Pc):Int:=if decP (SmallP l)=true then totalP l else 0
theorem count_ok{H:Heap}{a:Option Addr}{len cap:Nat}{l:List Pc}(h:Pcs H a len l) :
  Does Tryz.prog 161 [.slice a len cap] H fun v H'=>v=.int .i64 (countF l)∧Ext [] H H':=by
 refine Fn_of_vc Tryz.mixed (vc_count _ _ _ _ _) ?_
 have hlen:=h.leng
 refine(sound_ok h).mono ?_
 rintro _ H2 ⟨rfl,hx2⟩
 refine⟨_,rfl,fun h1=>⟨by simp[countF,h1],hx2⟩,fun h1=>?_⟩
 have hd:decP (SmallP l)=true:=by simpa using h1
 have hs:SmallP l:=@of_decide_eq_true _ (Classical.propDecidable _) hd
 refine⟨fun n i H'=>Ext [] H H'∧∃j:Nat,i=j∧j≤len∧n=totalP (l.take j),fun _ i _=>len - i.toNat,⟨hx2,0,rfl,Nat.zero_le _,rfl⟩,?_⟩
 rintro _ _ H8 ⟨hx8,j,rfl,hj,rfl⟩
 have hl6:=hs.1
 refine⟨fun h2=>?_,fun h2=>⟨?_,hx8⟩⟩
 ·obtain⟨p,hp⟩:∃p,l[j]?=some p:=⟨_,List.getElem?_eq_getElem (by omega)⟩
  obtain⟨b,o,rfl,c0,c1⟩:=h.get j p hp
  refine⟨by omega,h2,b,o,rfl,_,hcell_ext c0 hx8 (by simp),_,hcell_ext c1 hx8 (by simp),fun b9 H10 hn=>⟨hn.blk.cells 2 0 (by simp),fun H11 hput=>?_⟩⟩
  obtain⟨hb9,hx11,e9,s11⟩:=new_put hn hput rfl
  have t1:=small_total hs j
  have t2:=hs.2 j p hp
  have t3:=t2.1
  have t4:=t2.2
  exact⟨p.c,hb9.cell 1,⟨by omega,by omega⟩,⟨by omega,by omega⟩,⟨hx8.trans hx11,j+1,by omega,by omega,(totalP_take hp).symm⟩,by dsimp only;omega⟩
 ·rw[countF,if_pos hd,List.take_of_length_le (by omega)]
end Go.Proofs.Bx
end
section
open Go Go.Vc
namespace Go.Proofs.Bx
def blkW(p:Pc):List Int:=(List.range p.c.toNat).map fun (k:Nat)=>IntKind.wrap .i64 (p.s+k)
def blocksW(l:List Pc):List Int:=(l.map blkW).flatten
theorem blkW_take{p:Pc}{k:Nat}(h:k<p.c.toNat):(blkW p).take (k+1)=(blkW p).take k++[IntKind.wrap .i64 (p.s+k)]:=by
 unfold blkW
 rw[←List.map_take,←List.map_take,List.take_range,List.take_range,Nat.min_eq_left (by omega),Nat.min_eq_left (by omega),List.range_succ,List.map_append]
 rfl
theorem blkW_length(p:Pc):(blkW p).length=p.c.toNat:=by simp[blkW]
theorem blocksW_take{l:List Pc}{j:Nat}{p:Pc}(h:l[j]?=some p):blocksW (l.take (j+1))=blocksW (l.take j)++blkW p:=by
 unfold blocksW
 rw[List.take_add_one,h]
 simp
end Go.Proofs.Bx
end
section
open Go Go.Vc
namespace Go.Proofs.Bx
theorem blocksW_total{l:List Pc}(h:∀(i:Nat)(p:Pc),l[i]?=some p→0≤p.c):((blocksW l).length:Int)=totalP l:=by
 induction l with
 | nil=>rfl
 | cons q r ih=>
  have h1:=h 0 q rfl
  have h2:=ih (fun i p hp=>h (i+1) p (by simpa using hp))
  have e:blocksW (q::r)=blkW q++blocksW r:=rfl
  rw[e,List.length_append,blkW_length,totalP]
  omega
theorem small_pos{l:List Pc}(h:SmallP l)(i:Nat)(p:Pc)(hp:l[i]?=some p):0≤p.c:=by
 have:=(h.2 i p hp).1
 omega
theorem small_take{l:List Pc}(h:SmallP l)(j:Nat)(i:Nat)(p:Pc)(hp:(l.take j)[i]?=some p):0≤p.c:=by
 rw[List.getElem?_take]at hp
 split at hp
 ·exact small_pos h i p hp
 ·cases hp
theorem small_len{l:List Pc}(h:SmallP l):(blocksW l).length≤1000000:=by
 have h1:=blocksW_total (small_pos h)
 have h2:=small_total h l.length
 rw[List.take_length]at h2
 omega
noncomputable def atF(l:List Pc)(k:Int):Int×Bool:=if decP (SmallP l∧0≤k∧k<totalP l)=true then((blocksW l).getD k.toNat 0,true)else(0,false)
theorem atF_no{l:List Pc}{k:Int}(h:¬(SmallP l∧0≤k∧k<totalP l)):atF l k=(0,false):=by
 rw[atF,←decP_false h,if_neg (by decide)]
theorem atF_yes{l:List Pc}{k:Int}(h:SmallP l∧0≤k∧k<totalP l):atF l k=((blocksW l).getD k.toNat 0,true):=by
 rw[atF,←decP_true h,if_pos rfl]
theorem blocksW_at{l:List Pc}{j:Nat}{p:Pc}(hp:l[j]?=some p){k:Nat}(hk:k<p.c.toNat):(blocksW l).getD ((blocksW (l.take j)).length+k) 0=IntKind.wrap .i64 (p.s+k):=by
 have e:blocksW l=blocksW (l.take (j+1))++blocksW (l.drop (j+1)):=by
  unfold blocksW
  rw[←List.flatten_append,←List.map_append,List.take_append_drop]
 rw[e,blocksW_take hp,List.append_assoc,List.getD_eq_getElem?_getD,List.getElem?_append_right (by omega),Nat.add_sub_cancel_left,List.getElem?_append_left (by rw[blkW_length];exact hk)]
 unfold blkW
 simp[hk]
theorem at_ok{H:Heap}{a:Option Addr}{len cap:Nat}{l:List Pc}(h:Pcs H a len l)(k:Int) :
  Does Tryz.prog 166 [.slice a len cap,.int .i64 k] H fun v H'=>v=.tuple #[.int .i64 (atF l k).1,.bool (atF l k).2]∧Ext [] H H':=by
 refine Fn_of_vc Tryz.mixed (vc_at _ _ _ _ _ _) ?_
 have hlen:=h.leng
 refine⟨fun h0=>⟨by rw[atF_no (fun hh=>by have:=hh.2.1;omega)],Ext.refl _ _⟩,fun h0=>?_⟩
 refine(count_ok h).mono ?_
 rintro _ H2 ⟨rfl,hx2⟩
 refine⟨_,rfl,fun h1=>⟨?_,hx2⟩,fun h1=>?_⟩
 ·rw[atF_no (fun hh=>?_)]
  have:=hh.2.2
  rw[countF,←decP_true hh.1,if_pos rfl]at h1
  omega
 ·have hs:SmallP l:=by
   by_cases hs:SmallP l
   ·exact hs
   ·rw[countF,←decP_false hs,if_neg (by decide)]at h1
    omega
  rw[countF,←decP_true hs,if_pos rfl]at h1
  have hyes:SmallP l∧0≤k∧k<totalP l:=⟨hs,by omega,by omega⟩
  have hl6:=hs.1
  have htot:=small_total hs
  have htl:=htot l.length
  rw[List.take_length]at htl
  refine⟨fun m i H'=>Ext [] H H'∧∃j:Nat,i=j∧j≤len∧m=k - totalP (l.take j)∧0≤m,fun _ i _=>len - i.toNat,⟨hx2,0,rfl,Nat.zero_le _,by simp[totalP],by omega⟩,?_⟩
  rintro _ _ H8 ⟨hx8,j,rfl,hj,rfl,hm⟩
  refine⟨fun h2=>?_,fun h2=>?_⟩
  ·obtain⟨p,hp⟩:∃p,l[j]?=some p:=⟨_,List.getElem?_eq_getElem (by omega)⟩
   obtain⟨b,o,rfl,c0,c1⟩:=h.get j p hp
   refine⟨by omega,h2,b,o,rfl,_,hcell_ext c0 hx8 (by simp),_,hcell_ext c1 hx8 (by simp),fun b9 H10 hn=>⟨hn.blk.cells 2 0 (by simp),fun H11 hput=>?_⟩⟩
   obtain⟨hb9,hx11,e9,s11⟩:=new_put hn hput rfl
   have t0:=htot j
   have t1:=hs.2 j p hp
   have t2:=t1.1
   have t3:=t1.2
   refine⟨p.c,hb9.cell 1,fun h3=>⟨p.s,hb9.cell 0,?_⟩,fun h3=>⟨p.c,hb9.cell 1,?_⟩⟩
   ·rintro _ rfl
    refine⟨?_,hx8.trans hx11⟩
    rw[atF_yes hyes]
    have e1:=blocksW_total (l:=l.take j) (small_take hs j)
    have e2:=blocksW_at hp (k:=(k - totalP (l.take j)).toNat) (by omega)
    rw[show(blocksW (l.take j)).length+(k - totalP (l.take j)).toNat=k.toNat by omega,show(((k - totalP (l.take j)).toNat:Nat):Int)=k - totalP (l.take j)by omega]at e2
    rw[e2]
   ·rintro _ rfl _ rfl
    rw[wrap_of_in64 (n:=k - totalP (l.take j) - p.c) ⟨by omega,by omega⟩,wrap_of_in64 (n:=(j:Int)+1) ⟨by omega,by omega⟩]
    exact⟨⟨hx8.trans hx11,j+1,by omega,by omega,by rw[totalP_take hp];omega,by omega⟩,by dsimp only;omega⟩
  ·exfalso
   have:l.take j=l:=List.take_of_length_le (by omega)
   rw[this]at hm
   omega
end Go.Proofs.Bx
end
section
open Go Go.Vc
namespace Go.Proofs.Bx
def IsB(H:Heap)(pb:Nat)(a:Option Addr)(c:Nat)(bs:List Bool):Prop:=∃xs,IsMap H pb a c bs.length xs∧BytesAre bs xs
theorem IsB.ext{M:List Nat}{H H':Heap}{pb:Nat}{a:Option Addr}{c:Nat}{bs:List Bool}(h:IsB H pb a c bs)(he:Ext M H H')(h1:pb∉M)(h2:∀k,k∈blkOf a→k∉M):IsB H' pb a c bs:=by
 obtain⟨xs,hm,hb⟩:=h
 exact⟨xs,hm.ext he h1 h2,hb⟩
def setB(bs:List Bool)(k:Int)(on:Bool):List Bool:=if 0≤k∧k<bs.length then bs.set k.toNat on else bs
theorem setB_length(bs:List Bool)(k:Int)(on:Bool):(setB bs k on).length=bs.length:=by
 unfold setB
 split<;>simp
theorem setb_ok{H:Heap}{pb:Nat}{a:Option Addr}{c:Nat}{bs:List Bool}(h:IsB H pb a c bs)(k:Int)(on:Bool) :
  Does Tryz.prog 151 [.pointer (some ⟨pb,0,none⟩),.int .i64 k,.bool on] H fun v H'=>(∃t,v=.bool t)∧IsB H' pb a c (setB bs k on)∧Ext (blkOf a) H H':=by
 obtain⟨xs,hm,hb⟩:=h
 have gk:0≤k∧k<bs.length→getB bs.length xs k=bit xs k.toNat:=fun hin=>by
  have:=getB_nat bs.length xs k.toNat (by omega)
  rw[show((k.toNat:Nat):Int)=k by omega]at this
  exact this
 refine(set_ok hm k on).mono ?_
 rintro _ H' (⟨rfl,rfl,hh⟩|⟨rfl,h0,h1,hne,hm',hx⟩)
 ·refine⟨⟨_,rfl⟩,?_,Ext.refl _ _⟩
  unfold setB
  split
  ·rename_i hin
   refine⟨xs,by rw[List.length_set];exact hm,hb.same (by omega) ?_⟩
   rcases hh with hh|hh|hh
   ·omega
   ·omega
   ·rw[←gk hin];exact hh
  ·exact⟨xs,hm,hb⟩
 ·refine⟨⟨_,rfl⟩,?_,hx⟩
  unfold setB
  rw[if_pos ⟨h0,h1⟩]
  exact⟨flipL xs k.toNat,by rw[List.length_set];exact hm',hb.flip (by omega) (by rw[←gk ⟨h0,h1⟩];exact hne)⟩
def setAll(bs:List Bool)(ks:List Int)(on:Bool):List Bool:=ks.foldl (fun bs k=>setB bs k on) bs
theorem setAll_length(ks:List Int)(on:Bool):∀bs:List Bool,(setAll bs ks on).length=bs.length:=by
 induction ks with
 | nil=>intro bs;rfl
 | cons k r ih=>intro bs;unfold setAll at ih ⊢;rw[List.foldl_cons,ih,setB_length]
theorem setAll_append(bs:List Bool)(xs ys:List Int)(on:Bool):setAll bs (xs++ys) on=setAll (setAll bs xs on) ys on:=by
 unfold setAll
 rw[List.foldl_append]
def TameP(l:List Pc):Prop:=∀(i:Nat)(p:Pc),l[i]?=some p→0≤p.s∧p.s≤1000000∧p.c≤1000000
theorem turn_ok{H:Heap}{pb:Nat}{a:Option Addr}{c:Nat}{bs:List Bool}(h:IsB H pb a c bs){a1:Option Addr}{len cap:Nat}{l:List Pc}(hp:Pcs H a1 len l)(hd:∀k,k∈blkOf a1→k∉blkOf a)(ht:TameP l)(hl:len≤1000000)(on:Bool) :
  Does Tryz.prog 169 [.pointer (some ⟨pb,0,none⟩),.slice a1 len cap,.bool on] H fun v H'=>v=.tuple #[]∧IsB H' pb a c (setAll bs (blocksW l) on)∧Ext (blkOf a) H H':=by
 refine Fn_of_vc Tryz.mixed (vc_turn _ _ _ _ _ _ _) ?_
 have hlen:=hp.leng
 have hpb:pb∉blkOf a:=by obtain⟨xs,hm,_⟩:=h;exact hm.apart
 refine⟨fun i H'=>∃j:Nat,i=j∧j≤len∧IsB H' pb a c (setAll bs (blocksW (l.take j)) on)∧Ext (blkOf a) H H',fun i _=>len - i.toNat,⟨0,rfl,Nat.zero_le _,h,Ext.refl _ _⟩,?_⟩
 rintro _ H4 ⟨j,rfl,hj,hb4,hx4⟩
 refine⟨fun h2=>?_,fun h2=>⟨rfl,?_,hx4⟩⟩
 ·obtain⟨p,hpj⟩:∃p,l[j]?=some p:=⟨_,List.getElem?_eq_getElem (by omega)⟩
  obtain⟨b,o,rfl,c0,c1⟩:=hp.get j p hpj
  have hbd:b∉blkOf a:=hd b (by simp[blkOf])
  obtain⟨t1,t2,t3⟩:=ht j p hpj
  refine⟨by omega,h2,b,o,rfl,_,hcell_ext c0 hx4 hbd,_,hcell_ext c1 hx4 hbd,fun b9 H10 hn=>⟨hn.blk.cells 2 0 (by simp),fun H11 hput=>?_⟩⟩
  obtain⟨hb9,hx11,e9,s11⟩:=new_put hn hput rfl
  have hb11:=hb4.ext hx11 (by simp) (by simp)
  have hfresh:b9∉blkOf a:=fun hk=>by
   obtain⟨xs,hm,_⟩:=hb4
   have:=hm.own.lt _ hk
   omega
  refine⟨p.c,hb9.cell 1,fun i H'=>∃k:Nat,i=k∧k≤p.c.toNat∧IsB H' pb a c (setAll bs (blocksW (l.take j)++(blkW p).take k) on)∧Ext (blkOf a) H11 H',fun i _=>p.c.toNat - i.toNat,⟨0,rfl,Nat.zero_le _,by simpa using hb11,Ext.refl _ _⟩,?_⟩
  rintro _ H16 ⟨k,rfl,hk,hb16,hx16⟩
  refine⟨fun h3=>?_,fun h3=>⟨⟨by omega,by omega⟩,⟨j+1,by omega,by omega,?_,hx4.trans (hx11.any.trans hx16)⟩,by dsimp only;omega⟩⟩
  ·refine⟨p.s,(hb9.ext hx16 hfresh).cell 0,⟨by omega,by omega⟩,(setb_ok hb16 (p.s+k) on).mono ?_⟩
   rintro _ H19 ⟨⟨t,rfl⟩,hb19,hx19⟩
   refine⟨t,rfl,⟨by omega,by omega⟩,⟨k+1,by omega,by omega,?_,hx16.trans hx19⟩,by dsimp only;omega⟩
   rw[blkW_take (by omega),←List.append_assoc,setAll_append,wrap_of_in64 ⟨by omega,by omega⟩]
   exact hb19
  ·rw[blocksW_take hpj]
   have:=blkW_length p
   rw[List.take_of_length_le (l:=blkW p) (by omega)]at hb16
   exact hb16
 ·have:l.take j=l:=List.take_of_length_le (by omega)
  rw[this]at hb4
  exact hb4
end Go.Proofs.Bx
end
namespace Go.Vc
def pushB(rs:List Pc)(b:Int):List Pc:=
 match rs with
 | []=>[⟨b,1⟩]
 | q::r=>if q.s+q.c=b then ⟨q.s,q.c+1⟩::r else ⟨b,1⟩::q::r
def pushP(rs:List Pc)(p:Pc):List Pc:=
 match rs with
 | []=>[p]
 | q::r=>if q.s+q.c=p.s then ⟨q.s,q.c+p.c⟩::r else p::q::r
def blkI(p:Pc):List Int:=(List.range p.c.toNat).map fun (k:Nat)=>p.s+(k:Int)
def blocksI(l:List Pc):List Int:=(l.map blkI).flatten
theorem pushB_pushP(rs:List Pc)(s:Int)(k:Nat):pushB (pushP rs ⟨s,(k:Int)+1⟩) (s+((k:Int)+1))=pushP rs ⟨s,(k:Int)+1+1⟩:=by
 cases rs with
 | nil=>simp[pushP,pushB]
 | cons q r=>
  simp only[pushP]
  by_cases h:q.s+q.c=s
  ·rw[if_pos h,if_pos h]
   simp only[pushB]
   rw[if_pos (by omega)]
   simp only[List.cons.injEq,Pc.mk.injEq,and_true,true_and]
   omega
  ·rw[if_neg h,if_neg h]
   simp only[pushB]
   rw[if_pos trivial]
theorem foldB(rs:List Pc)(s:Int):∀k:Nat,((List.range (k+1)).map fun (i:Nat)=>s+(i:Int)).foldl pushB rs=pushP rs ⟨s,(k:Int)+1⟩
 | 0=>by
  cases rs with
  | nil=>simp[pushP,pushB]
  | cons q r=>simp[pushP,pushB]
 | k+1=>by
  rw[List.range_succ,List.map_append,List.foldl_append,foldB rs s k]
  simp only[List.map_cons,List.map_nil,List.foldl_cons,List.foldl_nil]
  have:=pushB_pushP rs s k
  simpa using this
theorem foldB_blk(rs:List Pc)(p:Pc)(h:1≤p.c):(blkI p).foldl pushB rs=pushP rs p:=by
 obtain⟨k,hk⟩:∃k:Nat,p.c=(k:Int)+1:=⟨(p.c - 1).toNat,by omega⟩
 obtain⟨s,c⟩:=p
 simp only at hk h
 subst hk
 have:((k:Int)+1).toNat=k+1:=by omega
 unfold blkI
 simp only[this]
 exact foldB rs s k
theorem foldB_blocks:∀(l:List Pc)(rs:List Pc),(∀p∈l,1≤p.c)→(blocksI l).foldl pushB rs=l.foldl pushP rs
 | [],_,_=>rfl
 | p::l,rs,h=>by
  have e:blocksI (p::l)=blkI p++blocksI l:=rfl
  rw[e,List.foldl_append,foldB_blk rs p (h p (by simp)),List.foldl_cons]
  exact foldB_blocks l _ (fun q hq=>h q (by simp[hq]))
def Norm:List Pc→List Pc→Prop
 | _,[]=>True
 | rs,p::l=>(∀q,rs.head?=some q→q.s+q.c≠p.s)∧Norm (p::rs) l
theorem foldP_norm:∀(l rs:List Pc),Norm rs l→l.foldl pushP rs=l.reverse++rs
 | [],_,_=>rfl
 | p::l,rs,h=>by
  have e:pushP rs p=p::rs:=by
   cases rs with
   | nil=>rfl
   | cons q r=>
    simp only[pushP]
    rw[if_neg (h.1 q rfl)]
  rw[List.foldl_cons,e,foldP_norm l (p::rs) h.2]
  simp
theorem norm_of{l:List Pc}(h:∀(i:Nat)(p q:Pc),l[i]?=some q→l[i+1]?=some p→q.s+q.c≠p.s):∀rs,(∀q p,rs.head?=some q→l.head?=some p→q.s+q.c≠p.s)→Norm rs l:=by
 induction l with
 | nil=>intro rs _;trivial
 | cons p r ih=>
  intro rs hrs
  refine⟨fun q hq=>hrs q p hq rfl,ih (fun i p' q' h1 h2=>h (i+1) p' q' (by simpa using h1) (by simpa using h2)) (p::rs) (fun q p' h1 h2=>?_)⟩
  simp only[List.head?_cons,Option.some.injEq]at h1
  subst h1
  refine h 0 p' p rfl ?_
  cases r with
  | nil=>simp at h2
  | cons x y=>simpa using h2
def piecesF(bs:List Int):List Pc:=(bs.foldl pushB []).reverse
theorem piecesF_blocks{l:List Pc}(hc:∀p∈l,1≤p.c)(hn:Norm [] l):piecesF (blocksI l)=l:=by
 unfold piecesF
 rw[foldB_blocks l [] hc,foldP_norm l [] hn]
 simp
theorem right_norm{l:List Pc}{a e:Int}(h:RightP l a e):Norm [] l:=norm_of (fun i p q h1 h2=>((h.2 (i+1) p h2).2 i q (Nat.lt_succ_self i) h1).2 rfl) [] (fun q p h1 _=>by cases h1)
theorem right_pos{l:List Pc}{a e:Int}(h:RightP l a e):∀p∈l,1≤p.c:=by
 intro p hp
 obtain⟨i,hi,rfl⟩:=List.mem_iff_getElem.1 hp
 exact(h.2 i _ (List.getElem?_eq_getElem hi)).1.1
theorem piecesF_more{l more:List Pc}{a e:Int}(h:RightP l a e)(hm:∀p∈more,1≤p.c):(more.foldl pushP l.reverse).reverse=piecesF (blocksI l++blocksI more):=by
 unfold piecesF
 rw[List.foldl_append,foldB_blocks l [] (right_pos h),foldP_norm l [] (right_norm h),List.append_nil,foldB_blocks more _ hm]
end Go.Vc
section
open Go Go.Vc
namespace Go.Proofs.Bx
def offs(p:Nat→Bool):Nat→Nat→Nat→List Int
 | 0,_,_=>[]
 | f+1,k,cnt=>match cnt with
  | 0=>[]
  | c+1=>match p k with
   | true=>offs p f (k+1) (c+1)
   | false=>(k:Int)::offs p f (k+1) c
theorem offs_zero(p:Nat→Bool):∀f k,offs p f k 0=[]
 | 0,_=>rfl
 | _+1,_=>rfl
theorem offs_on{p:Nat→Bool}{cnt:Nat}:∀{d f k:Nat},(∀i,k≤i→i<k+d→p i=true)→offs p (f+d) k cnt=offs p f (k+d) cnt
 | 0,f,k,_=>rfl
 | d+1,f,k,h=>by
  cases cnt with
  | zero=>rw[offs_zero,offs_zero]
  | succ c=>
   rw[←Nat.add_assoc,offs,h k (Nat.le_refl _) (by omega)]
   simp only
   rw[offs_on (fun i h1 h2=>h i (by omega) (by omega))]
   congr 1
   omega
theorem offs_off{p:Nat→Bool}:∀{d f k cnt:Nat},(∀i,k≤i→i<k+d→p i=false)→offs p (f+d) k (cnt+d)=((List.range d).map fun (i:Nat)=>(k:Int)+(i:Int))++offs p f (k+d) cnt
 | 0,f,k,cnt,_=>rfl
 | d+1,f,k,cnt,h=>by
  rw[←Nat.add_assoc,←Nat.add_assoc,offs,h k (Nat.le_refl _) (by omega)]
  simp only
  rw[offs_off (fun i h1 h2=>h i (by omega) (by omega)),List.range_succ_eq_map,List.map_cons,List.map_map,List.cons_append]
  simp only[Int.natCast_zero,Int.add_zero,List.cons.injEq,true_and]
  congr 1
  ·refine List.map_congr_left fun i _=>?_
   simp only[Function.comp]
   omega
  ·congr 1
   omega
end Go.Proofs.Bx
end
section
open Go Go.Vc
namespace Go.Proofs.Bx
theorem piecesV_append(l m:List Pc):piecesV (l++m)=piecesV l++piecesV m:=by simp[piecesV]
theorem Own.pcs{H:Heap}{a:Option Addr}{len cap:Nat}{l:List Pc}(h:Own H 2 a len cap (piecesV l)):Pcs H a len l:=
 ⟨by have:=h.1;rw[piecesV_length]at this;omega,fun c=>h.row len c⟩
theorem runb_ok{H:Heap}{pb:Nat}{a:Option Addr}{c:Nat}{bs:List Bool}(h:IsB H pb a c bs)(k:Int)(hk:k≤9223372036854775807):Does Tryz.prog 215 [.pointer (some ⟨pb,0,none⟩),.int .i64 k] H fun v H'=>
  v=.tuple #[.int .i64 (runF (onB bs) bs.length k.toNat).1,.int .i64 (runF (onB bs) bs.length k.toNat).2]∧H=H':=by
 obtain⟨xs,hm,hb⟩:=h
 have:onB bs=bit xs:=funext fun i=>(hb.bits i).symm
 rw[this]
 exact run_ok hm k hk
theorem IsB.small{H:Heap}{pb:Nat}{a:Option Addr}{c:Nat}{bs:List Bool}(h:IsB H pb a c bs):bs.length≤1000000000000:=by
 obtain⟨xs,hm,_⟩:=h
 exact hm.small
theorem IsB.lt{H:Heap}{pb:Nat}{a:Option Addr}{c:Nat}{bs:List Bool}(h:IsB H pb a c bs):pb<H.size∧∀k,k∈blkOf a→k<H.size:=by
 obtain⟨xs,hm,_⟩:=h
 exact⟨hm.head.lt,hm.own.lt⟩
def foundF(bs:List Bool)(k:Int)(n:Nat):List Int:=offs (onB bs) (bs.length - k.toNat) k.toNat n
def FoundR(H H':Heap)(bs:List Bool)(k n:Int)(v:Value):Prop:=
 (¬(0≤n∧(foundF bs k n.toNat).length=n.toNat)∧v=.tuple #[.slice none 0 0,.bool false]) ∨
 (0≤n∧(foundF bs k n.toNat).length=n.toNat∧∃a c more,v=.tuple #[.slice a more.length c,.bool true]∧Own H' 2 a more.length c (piecesV more)∧blocksI more=foundF bs k n.toNat ∧
  (∀p∈more,1≤p.c∧0≤p.s∧p.s+p.c≤bs.length)∧more.length≤bs.length∧(∀k,k∈blkOf a→H.size≤k))
theorem found_ok{H:Heap}{pb:Nat}{a:Option Addr}{c:Nat}{bs:List Bool}(h:IsB H pb a c bs)(k n:Int)(hk:k≤9223372036854775807)(hn:-9223372036854775808≤n∧n≤9223372036854775807) :
  Does Tryz.prog 198 [.pointer (some ⟨pb,0,none⟩),.int .i64 k,.int .i64 n] H fun v H'=>FoundR H H' bs k n v∧Ext [] H H':=by
 refine Fn_of_vc Tryz.mixed (vc_found _ _ _ _ _) ?_
 have hsm:=h.small
 generalize hN:bs.length=N at *
 let I:Option Addr→Nat→Nat→Int→Int→Heap→Prop:=fun a' len c' m k' H'=>Ext [] H H'∧(∀k,k∈blkOf a'→H.size≤k) ∧
  ∃dn:List Pc,dn.length=len∧Own H' 2 a' len c' (piecesV dn)∧(∀p∈dn,1≤p.c∧0≤p.s∧p.s+p.c≤N)∧k'≤9223372036854775807∧(dn=[]∧k'=k∧m=n∧a'=none∧c'=0∨0≤m∧m≤n∧len≤k'.toNat∧k'.toNat≤N) ∧
   blocksI dn++offs (onB bs) (N - k'.toNat) k'.toNat m.toNat=foundF bs k n.toNat∧((blocksI dn).length:Int)+m=n
 refine⟨I,fun _ _ _ m _ _=>m.toNat,⟨Ext.refl _ _,fun k hk=>by(cases hk),[],rfl,Own.nil _ _,by simp,hk,.inl ⟨rfl,rfl,rfl,rfl,rfl⟩,by simp[blocksI,foundF,hN],by simp[blocksI]⟩,?_⟩
 rintro a3 l3 c3 m k' H8 ⟨hx8,hf8,dn,hdl,hown,hdn,hk',hst,hbl,htot⟩
 have hb8:=h.ext hx8 (by simp) (by simp)
 have hl3:l3≤1000000000000:=by
  rcases hst with⟨rfl,_⟩|⟨_,_,h3,h4⟩
  ·simp only[List.length_nil]at hdl;omega
  ·omega
 have fewer:(offs (onB bs) (N - k'.toNat) k'.toNat m.toNat).length=0→0<m→¬(0≤n∧(foundF bs k n.toNat).length=n.toNat):=by
  intro h0 hm hh
  rw[←hbl,List.length_append,h0]at hh
  omega
 refine⟨fun h1=>(runb_ok hb8 k' hk').mono ?_,fun h1=>⟨?_,hx8⟩⟩
 ·rintro _ _ ⟨rfl,rfl⟩
  rw[hN]
  by_cases hkN:k'.toNat≤N
  ·have hr:=runF_spec (onB bs) N k'.toNat hkN
   generalize (runF (onB bs) N k'.toNat).1=s at *
   generalize (runF (onB bs) N k'.toNat).2=t at *
   have r1:=hr.from_
   have r2:=hr.fin
   refine⟨_,_,rfl,fun h2=>⟨.inl ⟨fewer ?_ h1,rfl⟩,hx8⟩,fun h2=>?_⟩
   ·have e0:t=0:=by omega
    have e1:=hr.zero e0
    have:=offs_on (p:=onB bs) (cnt:=m.toNat) (d:=N - k'.toNat) (f:=0) (k:=k'.toNat) (fun i h3 h4=>hr.on i h3 (by omega))
    rw[Nat.zero_add]at this
    rw[this]
    rfl
   ·refine append_one hown rfl (by intro u hu;simp only[List.mem_cons,List.not_mem_nil,or_false]at hu;rcases hu with rfl|rfl<;>rfl) rfl (by omega) ?_
    intro a' c' H' ho' hx' hf'
    let u:Nat:=min t m.toNat
    have eu:min (t:Int) m=(u:Int):=by simp only[u];omega
    rw[eu]
    have hu1:1≤u:=by simp only[u];omega
    have hu2:u≤t:=Nat.min_le_left _ _
    have hu3:u≤m.toNat:=Nat.min_le_right _ _
    have ek:((s:Int)+t).toNat=s+t:=by omega
    have e1:=offs_on (p:=onB bs) (cnt:=m.toNat) (d:=s - k'.toNat) (f:=N - s) (k:=k'.toNat) (fun i h3 h4=>hr.on i h3 (by omega))
    rw[show N - s+(s - k'.toNat)=N - k'.toNat by omega,show k'.toNat+(s - k'.toNat)=s by omega]at e1
    have e2:=offs_off (p:=onB bs) (d:=u) (f:=N - s - u) (k:=s) (cnt:=m.toNat - u) (fun i h3 h4=>hr.off i h3 (by omega))
    rw[show N - s - u+u=N - s by omega,show m.toNat - u+u=m.toNat by omega]at e2
    have e3:offs (onB bs) (N - s - u) (s+u) (m.toNat - u)=offs (onB bs) (N - (s+t)) (s+t) (m.toNat - u):=by
     by_cases hut:u=t
     ·rw[hut,Nat.sub_sub]
     ·have:m.toNat - u=0:=by simp only[u]at hut ⊢;omega
      rw[this,offs_zero,offs_zero]
    have e4:blkI ⟨(s:Int),(u:Int)⟩=(List.range u).map fun (i:Nat)=>(s:Int)+(i:Int):=by simp[blkI]
    have e5:blocksI (dn++[⟨s,u⟩])=blocksI dn++blkI ⟨s,u⟩:=by simp[blocksI]
    refine⟨⟨by omega,by omega⟩,⟨by omega,by omega⟩,⟨hx8.trans' hx' (fun i hi=>.inl (hf8 i hi)),fun i hi=>?_,dn++[⟨s,u⟩],by simp[hdl],?_,fun p hp=>?_,by omega,.inr ⟨by omega,?_,?_,by omega⟩,?_,?_⟩,by dsimp only;omega⟩
    ·rcases hf' i hi with h4|h4
     ·exact hf8 i h4
     ·have:=hx8.size;omega
    ·rw[piecesV_append]
     have ho2:=ho'
     rw[eu]at ho2
     exact ho2
    ·rcases List.mem_append.1 hp with hp|hp
     ·exact hdn p hp
     ·simp only[List.mem_singleton]at hp
      subst hp
      exact⟨by simp only;omega,by simp only;omega,by simp only;omega⟩
    ·rcases hst with⟨_,_,rfl,_⟩|⟨_,h3,_⟩<;>omega
    ·rcases hst with⟨rfl,_⟩|⟨_,_,h3,h4⟩
     ·simp at hdl;omega
     ·omega
    ·rw[ek,show((m:Int) - (u:Int)).toNat=m.toNat - u by omega,←e3,e5,e4,List.append_assoc,←e2,←e1]
     exact hbl
    ·rw[e5,List.length_append,e4,List.length_map,List.length_range]
     omega
  ·have hz:runF (onB bs) N k'.toNat=(N,0):=by
    unfold runF
    have:skipTo (onB bs) (N - k'.toNat) k'.toNat=k'.toNat:=skipTo_end (by omega)
    simp only[this]
    rw[if_pos (by omega)]
   rw[hz]
   refine⟨_,_,rfl,fun h2=>⟨.inl ⟨fewer ?_ h1,rfl⟩,hx8⟩,fun h2=>absurd rfl h2⟩
   rw[show N - k'.toNat=0 by omega]
   rfl
 ·by_cases hm:m=0
  ·subst hm
   have hn0:0≤n:=by rcases hst with⟨_,_,h3,_⟩|⟨_,h3,_⟩<;>omega
   rw[Int.toNat_zero,offs_zero,List.append_nil]at hbl
   refine .inr ⟨hn0,by rw[←hbl];omega,a3,c3,dn,?_,by rw[hdl];exact hown,hbl,by rw[hN];exact hdn,?_,hf8⟩
   ·rw[hdl,dec_bool (b:=true) (by simp)]
   ·rcases hst with⟨rfl,_⟩|⟨_,_,h3,h4⟩
    ·simp
    ·omega
  ·have hneg:m<0:=by omega
   rcases hst with⟨rfl,rfl,rfl,rfl,rfl⟩|⟨h3,_⟩
   ·refine .inl ⟨fun hh=>by omega,?_⟩
    have:l3=0:=by simpa using hdl.symm
    subst this
    rw[dec_bool (b:=false) (by simp[hm])]
   ·omega
end Go.Proofs.Bx
end
section
open Go Go.Vc
namespace Go.Proofs.Bx
theorem piecesV_one(l:List Pc):∀u∈piecesV l,Value.oneCell' u=true:=by
 intro u hu
 simp only[piecesV,List.mem_flatten,List.mem_map]at hu
 obtain⟨r,⟨p,_,rfl⟩,hu⟩:=hu
 simp only[pcV,List.mem_cons,List.not_mem_nil,or_false]at hu
 rcases hu with rfl|rfl<;>rfl
theorem clonep_ok{H:Heap}{a:Option Addr}{len cap:Nat}{l:List Pc}(h:Pcs H a len l)(hl:len≤1000000):Does Tryz.prog 199 [.slice a len cap] H fun v H'=>
  ∃a' c',v=.slice a' len c'∧Own H' 2 a' len c' (piecesV l)∧Ext [] H H'∧(∀k,k∈blkOf a'→H.size≤k):=by
 refine Fn_of_vc Tryz.mixed (vc_clonep _ _ _ _ _) ?_
 refine⟨fun h0=>?_,fun h0=>?_⟩
 ·subst h0
  have h1:=(h.row 0)
  have h2:=h1.2
  simp only at h2
  have h3:=h1.1
  rw[h2]at h3
  have:len=0:=by simp at h3;omega
  subst this
  rw[h2]
  exact⟨none,0,rfl,Own.nil _ _,Ext.refl _ _,fun k hk=>by cases hk⟩
 ·intro b H2 hn
  have hx:=hn.ext
  have ho:Own H2 2 (some ⟨b,0,none⟩) 0 0 []:=⟨rfl,Nat.le_refl _,by unfold maxLen;omega,.inr ⟨b,[],rfl,hn.blk,rfl⟩⟩
  refine⟨[],piecesV l,ho.row 0 0,(h.row cap).ext hx (by simp),piecesV_one l,by omega,fun hle=>ho.room (n:=len) hle,?_⟩
  intro a5 c6 H7 happ
  obtain⟨h1,h2,h3⟩:=happ.own ho (ho.row 0 0) (h.row cap).1 rfl
  simp only[Nat.zero_add,List.nil_append]at h1 ⊢
  have hb:=hn.eq
  refine⟨a5,c6,rfl,h1,hx.trans' h2 (fun i hi=>?_),fun k hk=>?_⟩
  ·simp only[blkOf,List.mem_singleton]at hi;omega
  ·rcases h3 k hk with h4|h4
   ·simp only[blkOf,List.mem_singleton]at h4;omega
   ·have:=hn.size;omega
theorem Own.last{H:Heap}{a:Option Addr}{n c:Nat}{l0:List Pc}{q:Pc}(h:Own H 2 a n c (piecesV (l0++[q]))) :
  ∃b,a=some ⟨b,0,none⟩∧hcell H b (0+Int.toNat ((n:Int) - 1)*2)=some (.int .i64 q.s)∧hcell H b ((0+Int.toNat ((n:Int) - 1)*2)+1)=some (.int .i64 q.c) ∧
   Cells H b ((0+Int.toNat ((n:Int) - 1)*2)+1) 1 ∧
   ∀x H',Puts H b ((0+Int.toNat ((n:Int) - 1)*2)+1) [.int .i64 x] H'→Own H' 2 a n c (piecesV (l0++[⟨q.s,x⟩]))∧Ext (blkOf a) H H':=by
 obtain⟨o1,o2,o3,o4⟩:=h
 have hlen:n=l0.length+1:=by
  rw[piecesV_length]at o1
  simp at o1
  omega
 have e1:Int.toNat ((n:Int) - 1)=l0.length:=by omega
 rw[e1]
 rcases o4 with⟨rfl,rfl⟩|⟨b,tail,rfl,hb,hbl⟩
 ·omega
 have hv:piecesV (l0++[q])++tail=piecesV l0++(.int .i64 q.s::.int .i64 q.c::tail):=by
  rw[piecesV_append]
  simp[piecesV,pcV]
 rw[hv]at hb hbl
 have hl0:=piecesV_length l0
 have hin:0+l0.length*2+1+1≤(piecesV l0++(.int .i64 q.s::.int .i64 q.c::tail)).length:=by
  simp only[List.length_append,List.length_cons];omega
 refine⟨b,rfl,?_,?_,hb.cells 1 _ hin,?_⟩
 ·rw[hb.cell,List.getElem?_append_right (by omega),show 0+l0.length*2 - (piecesV l0).length=0 by omega]
  rfl
 ·rw[hb.cell,List.getElem?_append_right (by omega),show 0+l0.length*2+1 - (piecesV l0).length=1 by omega]
  rfl
 ·intro x H' hp
  have hb2:=hp.blk hb hin
  have he:Ext (blkOf (some ⟨b,0,none⟩)) H H':=hp.ext
  refine⟨⟨?_,o2,o3,.inr ⟨b,tail,rfl,?_,?_⟩⟩,he⟩
  ·rw[piecesV_length];simp;omega
  ·rw[splice_one _ _ _ (by omega),List.set_append_right _ _ (by omega),show 0+l0.length*2+1 - (piecesV l0).length=1 by omega]at hb2
   have:piecesV (l0++[⟨q.s,x⟩])++tail=piecesV l0++(.int .i64 q.s::.int .i64 x::tail):=by
    rw[piecesV_append]
    simp[piecesV,pcV]
   rw[this]
   exact hb2
  ·rw[←hbl]
   simp only[List.length_append,piecesV_length,List.length_cons,List.length_nil]
   omega
def BlkBd(B:Int)(rs:List Pc):Prop:=∀q∈rs,0≤q.s∧1≤q.c∧q.s+q.c≤B+1
theorem take_snoc{α:Type}{l:List α}{j:Nat}{x:α}(h:l[j]?=some x):l.take (j+1)=l.take j++[x]:=by
 rw[List.take_add_one,h];rfl
end Go.Proofs.Bx
end
section
open Go Go.Vc
namespace Go.Proofs.Bx
theorem vc_grow(x0:Option Addr) (x1:Option Addr) (x1l:Nat) (x1c:Nat) (x2:Int) (x3:Int) (H:Heap) (R:Value→Heap→Prop):Walk Tryz.prog 162 [] [.pointer x0,.slice x1 x1l x1c,.int .i64 x2,.int .i64 x3] H R=((((x0:Option Addr)=none)→R (.tuple #[.slice none 0 0,.bool false]) H)∧(¬((x0:Option Addr)=none)→Does Tryz.prog 168 [.pointer x0] H fun v1 H2=>∃n3,v1=(.int .i64 n3)∧Does Tryz.prog 167 [.slice x1 x1l x1c,.int .i64 0,.int .i64 n3] H2 fun v4 H5=>∃t6,v4=(.bool t6)∧(((t6=false)→R (.tuple #[.slice none 0 0,.bool false]) H5)∧(¬(t6=false)→Does Tryz.prog 198 [.pointer x0,.int .i64 x2,.int .i64 x3] H5 fun v7 H8=>∃a9 l10 c11,∃t12,v7=(.tuple #[.slice a9 l10 c11,.bool t12])∧(((t12=false)→R (.tuple #[.slice none 0 0,.bool false]) H8)∧(¬(t12=false)→Does Tryz.prog 199 [.slice x1 x1l x1c] H8 fun v13 H14=>∃a15 l16 c17,v13=(.slice a15 l16 c17)∧∃I18:Option Addr→Nat→Nat→Int→Heap→Prop,∃μ19:Option Addr→Nat→Nat→Int→Heap→Nat,(I18 a15 l16 c17 0 H14) ∧∀a20 l21 c22,∀n23:Int,∀H24:Heap,I18 a20 l21 c22 n23 H24→(((n23<(l10:Int))→(0:Int)≤n23∧n23<(l10:Int)∧∃b25 o26:Nat,a9=some (⟨b25,o26,none⟩:Addr)∧∃n27,hcell H24 b25 (o26+(Int.toNat n23)*2)=some (.int .i64 n27)∧∃n28,hcell H24 b25 (o26+(Int.toNat n23)*2+1)=some (.int .i64 n28)∧∀b29 H30,New H24 b29 [.int .i64 0,.int .i64 0] 103 H30→Cells H30 b29 0 2∧∀H31,Puts H30 b29 0 [.int .i64 n27,.int .i64 n28] H31→(In64 ((l21:Int) - 1) ∧((((0:Int)≤((l21:Int) - 1))→(0:Int)≤((l21:Int) - 1)∧(((l21:Int) - 1):Int)<(l21:Int)∧∃b32 o33:Nat,a20=some (⟨b32,o33,none⟩:Addr)∧∃n34,hcell H31 b32 (o33+(Int.toNat ((l21:Int) - 1))*2)=some (.int .i64 n34)∧(0:Int)≤((l21:Int) - 1)∧(((l21:Int) - 1):Int)<(l21:Int)∧∃b35 o36:Nat,a20=some (⟨b35,o36,none⟩:Addr)∧∃n37,hcell H31 b35 ((o36+(Int.toNat ((l21:Int) - 1))*2)+1)=some (.int .i64 n37)∧In64 (n34+n37) ∧∃n38,hcell H31 b29 0=some (.int .i64 n38)∧(((((n34+n37):Int)=n38)→(0:Int)≤((l21:Int) - 1)∧(((l21:Int) - 1):Int)<(l21:Int)∧∃b39 o40:Nat,a20=some (⟨b39,o40,none⟩:Addr)∧∃n41,hcell H31 b39 ((o40+(Int.toNat ((l21:Int) - 1))*2)+1)=some (.int .i64 n41)∧∃n42,hcell H31 b29 (0+1)=some (.int .i64 n42)∧In64 (n41+n42) ∧(0:Int)≤((l21:Int) - 1)∧(((l21:Int) - 1):Int)<(l21:Int)∧∃b43 o44:Nat,a20=some (⟨b43,o44,none⟩:Addr)∧Cells H31 b43 ((o44+(Int.toNat ((l21:Int) - 1))*2)+1) 1∧∀H45,Puts H31 b43 ((o44+(Int.toNat ((l21:Int) - 1))*2)+1) [.int .i64 (n41+n42)] H45→In64 (n23+1) ∧(I18 a20 l21 c22 (n23+1) H45)∧μ19 a20 l21 c22 (n23+1) H45<μ19 a20 l21 c22 n23 H24)∧(¬(((n34+n37):Int)=n38)→∃n46,hcell H31 b29 0=some (.int .i64 n46)∧∃n47,hcell H31 b29 (0+1)=some (.int .i64 n47)∧∀b48 H49,New H31 b48 [.int .i64 n46,.int .i64 n47] 103 H49→∃old50 new51:List Value,SRow H49 2 l21 (.slice a20 l21 c22) old50∧SRow H49 2 1 (.slice (some ⟨b48,0,none⟩) 1 1) new51∧(∀u∈new51,Value.oneCell' u=true)∧(l21+1)*16≤140737488355328∧(l21+1≤c22→roomOf H49 a20 (l21*2) (1*2))∧∀a52:Option Addr,∀c53:Nat,∀H54,App H49 2 103 [.int .i64 0,.int .i64 0] a20 l21 c22 old50 new51 1 a52 c53 H54→In64 (n23+1) ∧(I18 a52 (l21+1) c53 (n23+1) H54)∧μ19 a52 (l21+1) c53 (n23+1) H54<μ19 a20 l21 c22 n23 H24)))∧(¬((0:Int)≤((l21:Int) - 1))→∃n55,hcell H31 b29 0=some (.int .i64 n55)∧∃n56,hcell H31 b29 (0+1)=some (.int .i64 n56)∧∀b57 H58,New H31 b57 [.int .i64 n55,.int .i64 n56] 103 H58→∃old59 new60:List Value,SRow H58 2 l21 (.slice a20 l21 c22) old59∧SRow H58 2 1 (.slice (some ⟨b57,0,none⟩) 1 1) new60∧(∀u∈new60,Value.oneCell' u=true)∧(l21+1)*16≤140737488355328∧(l21+1≤c22→roomOf H58 a20 (l21*2) (1*2))∧∀a61:Option Addr,∀c62:Nat,∀H63,App H58 2 103 [.int .i64 0,.int .i64 0] a20 l21 c22 old59 new60 1 a61 c62 H63→In64 (n23+1) ∧(I18 a61 (l21+1) c62 (n23+1) H63)∧μ19 a61 (l21+1) c62 (n23+1) H63<μ19 a20 l21 c22 n23 H24))))∧(¬(n23<(l10:Int))→((((6:Int)<(l21:Int))→R (.tuple #[.slice none 0 0,.bool false]) H24)∧(¬((6:Int)<(l21:Int))→Does Tryz.prog 169 [.pointer x0,.slice a9 l10 c11,.bool true] H24 fun v64 H65=>v64=(.tuple #[])∧R (.tuple #[.slice a20 l21 c22,.bool true]) H65)))))))))):=by kernel_rfl
theorem vc_shrink(x0:Option Addr) (x1:Option Addr) (x1l:Nat) (x1c:Nat) (x2:Int) (H:Heap) (R:Value→Heap→Prop):Walk Tryz.prog 110 [] [.pointer x0,.slice x1 x1l x1c,.int .i64 x2] H R=((((x0:Option Addr)=none)→R (.slice none 0 0) H)∧(¬((x0:Option Addr)=none)→Does Tryz.prog 168 [.pointer x0] H fun v1 H2=>∃n3,v1=(.int .i64 n3)∧Does Tryz.prog 167 [.slice x1 x1l x1c,.int .i64 0,.int .i64 n3] H2 fun v4 H5=>∃t6,v4=(.bool t6)∧(((t6=false)→R (.slice none 0 0) H5)∧(¬(t6=false)→∃I7:Option Addr→Nat→Nat→Int→Int→Heap→Prop,∃μ8:Option Addr→Nat→Nat→Int→Int→Heap→Nat,(I7 none 0 0 (max x2 0) 0 H5) ∧∀a9 l10 c11,∀n12:Int,∀n13:Int,∀H14:Heap,I7 a9 l10 c11 n12 n13 H14→(((n13<(x1l:Int))→(0:Int)≤n13∧n13<(x1l:Int)∧∃b15 o16:Nat,x1=some (⟨b15,o16,none⟩:Addr)∧∃n17,hcell H14 b15 (o16+(Int.toNat n13)*2)=some (.int .i64 n17)∧∃n18,hcell H14 b15 (o16+(Int.toNat n13)*2+1)=some (.int .i64 n18)∧∀b19 H20,New H14 b19 [.int .i64 0,.int .i64 0] 103 H20→Cells H20 b19 0 2∧∀H21,Puts H20 b19 0 [.int .i64 n17,.int .i64 n18] H21→∃n22,hcell H21 b19 (0+1)=some (.int .i64 n22)∧((((0:Int)<(min n12 n22))→∃n23,hcell H21 b19 0=some (.int .i64 n23)∧∀b24 H25,New H21 b24 [.int .i64 n23,.int .i64 (min n12 n22)] 103 H25→∃old26 new27:List Value,SRow H25 2 l10 (.slice a9 l10 c11) old26∧SRow H25 2 1 (.slice (some ⟨b24,0,none⟩) 1 1) new27∧(∀u∈new27,Value.oneCell' u=true)∧(l10+1)*16≤140737488355328∧(l10+1≤c11→roomOf H25 a9 (l10*2) (1*2))∧∀a28:Option Addr,∀c29:Nat,∀H30,App H25 2 103 [.int .i64 0,.int .i64 0] a9 l10 c11 old26 new27 1 a28 c29 H30→∃n31,hcell H30 b19 0=some (.int .i64 n31)∧In64 (n31+(min n12 n22)) ∧∃n32,hcell H30 b19 (0+1)=some (.int .i64 n32)∧In64 (n32 - (min n12 n22)) ∧∀b33 H34,New H30 b33 [.int .i64 (n31+(min n12 n22)),.int .i64 (n32 - (min n12 n22))] 103 H34→Does Tryz.prog 169 [.pointer x0,.slice (some ⟨b33,0,none⟩) 1 1,.bool false] H34 fun v35 H36=>v35=(.tuple #[])∧In64 (n12 - (min n12 n22)) ∧In64 (n13+1) ∧(I7 a28 (l10+1) c29 (n12 - (min n12 n22)) (n13+1) H36)∧μ8 a28 (l10+1) c29 (n12 - (min n12 n22)) (n13+1) H36<μ8 a9 l10 c11 n12 n13 H14)∧(¬((0:Int)<(min n12 n22))→∃n37,hcell H21 b19 0=some (.int .i64 n37)∧In64 (n37+(min n12 n22)) ∧∃n38,hcell H21 b19 (0+1)=some (.int .i64 n38)∧In64 (n38 - (min n12 n22)) ∧∀b39 H40,New H21 b39 [.int .i64 (n37+(min n12 n22)),.int .i64 (n38 - (min n12 n22))] 103 H40→Does Tryz.prog 169 [.pointer x0,.slice (some ⟨b39,0,none⟩) 1 1,.bool false] H40 fun v41 H42=>v41=(.tuple #[])∧In64 (n12 - (min n12 n22)) ∧In64 (n13+1) ∧(I7 a9 l10 c11 (n12 - (min n12 n22)) (n13+1) H42)∧μ8 a9 l10 c11 (n12 - (min n12 n22)) (n13+1) H42<μ8 a9 l10 c11 n12 n13 H14)))∧(¬(n13<(x1l:Int))→R (.slice a9 l10 c11) H14)))))):=by kernel_rfl
end Go.Proofs.Bx
end
section
open Go Go.Vc
namespace Go.Proofs.Bx
theorem blkW_blkI{p:Pc}(h:0≤p.s∧p.s+p.c≤1000000000000):blkW p=blkI p:=by
 unfold blkW blkI
 refine List.map_congr_left fun k hk=>?_
 have:=List.mem_range.1 hk
 exact wrap_of_in64 ⟨by omega,by omega⟩
theorem blocksW_I:∀{l:List Pc},(∀p∈l,0≤p.s∧p.s+p.c≤1000000000000)→blocksW l=blocksI l
 | [],_=>rfl
 | p::l,h=>by
  have h1:=blkW_blkI (h p (by simp))
  have h2:=blocksW_I (l:=l) (fun q hq=>h q (by simp[hq]))
  unfold blocksW blocksI at h2 ⊢
  rw[List.map_cons,List.map_cons,List.flatten_cons,List.flatten_cons,h1,h2]
theorem right_in{l:List Pc}{a e:Int}(h:RightP l a e):∀p∈l,1≤p.c∧a≤p.s∧p.s+p.c≤e:=by
 intro p hp
 obtain⟨i,hi,rfl⟩:=List.mem_iff_getElem.1 hp
 have:=(h.2 i _ (List.getElem?_eq_getElem hi)).1
 exact⟨this.1,this.2.1,by have:=this.2.2.2;omega⟩
theorem mem_blkI{p:Pc}{x:Int}(h:x∈blkI p):p.s≤x∧x<p.s+p.c:=by
 simp only[blkI,List.mem_map,List.mem_range]at h
 obtain⟨k,hk,rfl⟩:=h
 omega
theorem mem_blocksI{l:List Pc}{x:Int}(h:x∈blocksI l):∃p∈l,p.s≤x∧x<p.s+p.c:=by
 simp only[blocksI,List.mem_flatten,List.mem_map]at h
 obtain⟨_,⟨p,hp,rfl⟩,hx⟩:=h
 exact⟨p,hp,mem_blkI hx⟩
def growOk(bs:List Bool)(l:List Pc)(k n:Int):Prop:=
 RightP l 0 bs.length∧0≤n∧(foundF bs k n.toNat).length=n.toNat∧(piecesF (blocksI l++foundF bs k n.toNat)).length≤6
def growF(bs:List Bool)(l:List Pc)(k n:Int):List Pc:=piecesF (blocksI l++foundF bs k n.toNat)
def GrowR(H H':Heap)(bs:List Bool)(l:List Pc)(k n:Int)(v:Value)(bs':List Bool):Prop:=
 (¬growOk bs l k n∧v=.tuple #[.slice none 0 0,.bool false]∧bs'=bs) ∨
 (growOk bs l k n∧bs'=setAll bs (foundF bs k n.toNat) true∧∃a c,v=.tuple #[.slice a (growF bs l k n).length c,.bool true]∧Own H' 2 a (growF bs l k n).length c (piecesV (growF bs l k n))∧(∀k,k∈blkOf a→H.size≤k))
theorem lenm_ok{H:Heap}{pb:Nat}{a:Option Addr}{c:Nat}{bs:List Bool}(h:IsB H pb a c bs):Does Tryz.prog 168 [.pointer (some ⟨pb,0,none⟩)] H fun v H'=>v=.int .i64 bs.length∧H=H':=by
 obtain⟨xs,hm,_⟩:=h
 exact len_ok hm
theorem pushP_bd{B:Int}{rs:List Pc}{p:Pc}(h:BlkBd B rs)(h0:0≤p.s)(hc:1≤p.c)(h1:p.s+p.c≤B+1):BlkBd B (pushP rs p):=by
 intro x hp
 cases rs with
 | nil=>
  simp only[pushP,List.mem_singleton]at hp
  subst hp
  exact⟨h0,hc,h1⟩
 | cons q r=>
  simp only[pushP]at hp
  have hq:=h q (by simp)
  split at hp
  ·rcases List.mem_cons.1 hp with rfl|hp
   ·exact⟨hq.1,by simp only;omega,by simp only;omega⟩
   ·exact h x (by simp[hp])
  ·rcases List.mem_cons.1 hp with rfl|hp
   ·exact⟨h0,hc,h1⟩
   ·exact h x hp
theorem pushP_length(rs:List Pc)(b:Pc):(pushP rs b).length≤rs.length+1:=by
 unfold pushP
 split
 ·simp
 ·split<;>simp
theorem grow_ok{H:Heap}{pb:Nat}{a:Option Addr}{c:Nat}{bs:List Bool}(h:IsB H pb a c bs){a1:Option Addr}{len cap:Nat}{l:List Pc}(hp:Pcs H a1 len l)(_hd:∀k,k∈blkOf a1→k∉blkOf a)(hc:len≤cap)(k n:Int)
  (hk:k≤9223372036854775807) (hn:-9223372036854775808≤n∧n≤9223372036854775807) (hN:bs.length≤100000) :
  Does Tryz.prog 162 [.pointer (some ⟨pb,0,none⟩),.slice a1 len cap,.int .i64 k,.int .i64 n] H fun v H'=>∃bs',GrowR H H' bs l k n v bs'∧IsB H' pb a c bs'∧Ext (blkOf a) H H':=by
 refine Fn_of_vc Tryz.mixed (vc_grow _ _ _ _ _ _ _ _) ?_
 have hlen:=hp.leng
 have hsm:=h.small
 refine⟨fun h0=>(by cases h0),fun _=>(lenm_ok h).mono ?_⟩
 rintro _ _ ⟨rfl,rfl⟩
 refine⟨_,rfl,(right_ok hp hc 0 bs.length (by decide) (by decide) (by omega)).mono ?_⟩
 rintro _ H5 ⟨rfl,hx5⟩
 have hb5:=h.ext hx5 (by simp) (by simp)
 refine⟨_,rfl,fun h1=>⟨bs,.inl ⟨fun hg=>?_,rfl,rfl⟩,hb5,hx5.any⟩,fun h1=>?_⟩
 ·rw[←decP_true hg.1]at h1;cases h1
 have hR:RightP l 0 bs.length:=@of_decide_eq_true _ (Classical.propDecidable _) (eq_true_of_ne_false h1)
 have hl6:=hR.1
 refine(found_ok hb5 k n hk hn).mono ?_
 rintro _ H8 ⟨hf,hx8⟩
 have hb8:=hb5.ext hx8 (by simp) (by simp)
 have hx58:=hx5.trans hx8
 rcases hf with⟨hno,rfl⟩|⟨hn0,hfl,am,cm,more,rfl,hom,hbm,hmore,hml,hmf⟩
 ·exact⟨_,_,_,_,rfl,fun _=>⟨bs,.inl ⟨fun hg=>hno ⟨hg.2.1,hg.2.2.1⟩,rfl,rfl⟩,hb8,hx58.any⟩,fun h2=>absurd rfl h2⟩
 refine⟨_,_,_,_,rfl,fun h2=>(by cases h2),fun _=>(clonep_ok (hp.ext hx58 (by simp)) (by omega)).mono ?_⟩
 rintro _ H14 ⟨ao,co,rfl,hoo,hx14,hof⟩
 have hx814:=hx58.trans hx14
 have hb14:=hb8.ext hx14 (by simp) (by simp)
 have hpm:Pcs H8 am more.length more:=Own.pcs hom
 have hB:∀q∈l.reverse,0≤q.s∧1≤q.c∧q.s+q.c≤1000000000000+1:=fun q hq=>by
  have:=right_in hR q (List.mem_reverse.1 hq)
  omega
 have hfs:H.size≤H5.size:=hx5.size
 refine⟨_,_,_,rfl,fun a' n' c' i H'=>∃j:Nat,i=j∧j≤more.length∧n'≤l.length+j∧Ext [] H8 H'∧Own H' 2 a' n' c' (piecesV ((more.take j).foldl pushP l.reverse).reverse)∧(∀k,k∈blkOf a'→H8.size≤k)∧((more.take j).foldl pushP l.reverse).length=n'∧BlkBd 1000000000000 ((more.take j).foldl pushP l.reverse),
  fun _ _ _ i _=>more.length - i.toNat,⟨0,rfl,Nat.zero_le _,by omega,hx14,by simpa using hoo,hof,by simpa using hlen,hB⟩,?_⟩
 rintro a20 l21 c22 _ H24 ⟨j,rfl,hj,hlj,hx24,hown,hf24,hrl,hbd⟩
 have hx_24:=hx58.trans hx24
 have hb24:=hb8.ext hx24 (by simp) (by simp)
 generalize hrs:(more.take j).foldl pushP l.reverse=rs at hown hrl hbd
 refine⟨fun h2=>?_,fun h2=>?_⟩
 ·obtain⟨p,hpj⟩:∃p,more[j]?=some p:=⟨_,List.getElem?_eq_getElem (by omega)⟩
  obtain⟨b,o,rfl,c0,c1⟩:=(hpm.ext hx24 (by simp)).get j p hpj
  obtain⟨m1,m2,m3⟩:=hmore p (List.mem_of_getElem? hpj)
  have hnext:(more.take (j+1)).foldl pushP l.reverse=pushP rs p:=by rw[take_snoc hpj,List.foldl_append,←hrs];rfl
  have hbd':=pushP_bd hbd m2 m1 (by omega)
  have hpl:=pushP_length rs p
  refine⟨by omega,h2,b,o,rfl,_,c0,_,c1,fun b29 H30 hn=>⟨hn.blk.cells 2 0 (by simp),fun H31 hput=>?_⟩⟩
  obtain⟨hb29,hx31,e29,s31⟩:=new_put hn hput rfl
  have hown31:=hown.ext hx31 (by simp)
  have h24s:=hx24.size
  have app:pushP rs p=p::rs→∀b48 H49,New H31 b48 [(.int .i64 p.s),(.int .i64 p.c)] 103 H49→(
    ∃old50 new51:List Value,SRow H49 2 l21 (.slice a20 l21 c22) old50∧SRow H49 2 1 (.slice (some (⟨b48,0,none⟩:Addr)) 1 1) new51∧(∀u∈new51,Value.oneCell' u=true)∧(l21+1)*16≤140737488355328∧(l21+1≤c22→roomOf H49 a20 (l21*2) (1*2))∧∀a52:Option Addr,∀c53:Nat,∀H54:Heap,App H49 2 103 [(.int .i64 0),(.int .i64 0)] a20 l21 c22 old50 new51 1 a52 c53 H54→(
     (In64 ((j:Int)+1)) ∧
     (∃j':Nat,(j:Int)+1=j'∧j'≤more.length∧l21+1≤l.length+j'∧Ext [] H8 H54∧Own H54 2 a52 (l21+1) c53 (piecesV ((more.take j').foldl pushP l.reverse).reverse)∧(∀k,k∈blkOf a52→H8.size≤k)∧((more.take j').foldl pushP l.reverse).length=l21+1∧BlkBd 1000000000000 ((more.take j').foldl pushP l.reverse)) ∧
     more.length - ((j:Int)+1).toNat<more.length - (j:Int).toNat)):=by
   intro he
   refine append_one hown31 rfl (by intro u hu;simp only[List.mem_cons,List.not_mem_nil,or_false]at hu;rcases hu with rfl|rfl<;>rfl) rfl (by omega) ?_
   intro a' c' H' ho' hx' hf'
   refine⟨⟨by omega,by omega⟩,⟨j+1,by omega,by omega,by omega,(hx24.trans hx31).trans' hx' (fun i hi=>.inl (hf24 i hi)),?_,fun k hk=>?_,by rw[hnext,he];simp[hrl],by rw[hnext];exact hbd'⟩,by omega⟩
   ·rw[hnext,he,List.reverse_cons,piecesV_append]
    exact ho'
   ·rcases hf' k hk with h3|h3
    ·exact hf24 k h3
    ·have:=hx31.size;omega
  refine⟨⟨by omega,by omega⟩,fun h3=>?_,fun h3=>?_⟩
  ·obtain⟨q,r,rfl⟩:∃q r,rs=q::r:=by
    cases rs with
    | nil=>simp only[List.length_nil]at hrl;omega
    | cons q r=>exact⟨q,r,rfl⟩
   have hq:=hbd q (by simp)
   have hown31':=hown31
   rw[List.reverse_cons]at hown31
   obtain⟨b',rfl,k0,k1,kc,kp⟩:=Own.last hown31
   refine⟨by omega,by omega,b',0,rfl,q.s,k0,by omega,by omega,b',0,rfl,q.c,k1,⟨by omega,by omega⟩,p.s,hb29.cell 0,fun h4=>?_,fun h4=>?_⟩
   ·refine⟨by omega,by omega,b',0,rfl,q.c,k1,p.c,hb29.cell 1,⟨by omega,by omega⟩,by omega,by omega,b',0,rfl,kc,fun H45 hp45=>?_⟩
    obtain⟨ho',hx'⟩:=kp _ _ hp45
    have he:pushP (q::r) p=⟨q.s,q.c+p.c⟩::r:=by simp only[pushP];rw[if_pos h4]
    refine⟨⟨by omega,by omega⟩,⟨j+1,by omega,by omega,by omega,(hx24.trans hx31).trans' hx' (fun i hi=>.inl (hf24 i hi)),?_,hf24,by rw[hnext,he];simpa using hrl,by rw[hnext];exact hbd'⟩,by dsimp only;omega⟩
    ·rw[hnext,he,List.reverse_cons]
     exact ho'
   ·exact⟨p.s,hb29.cell 0,p.c,hb29.cell 1,app (by simp only[pushP];rw[if_neg h4])⟩
  ·have:rs=[]:=by
    cases rs with
    | nil=>rfl
    | cons q r=>simp only[List.length_cons]at hrl;omega
   subst this
   exact⟨p.s,hb29.cell 0,p.c,hb29.cell 1,app rfl⟩
 ·have ej:j=more.length:=by omega
  subst ej
  rw[List.take_of_length_le (by omega)]at hrs
  have e:growF bs l k n=rs.reverse:=by rw[growF,←hbm,←piecesF_more hR (fun p hp=>(hmore p hp).1),hrs]
  have elen:(growF bs l k n).length=l21:=by rw[e,List.length_reverse,hrl]
  have htame:TameP more:=fun i p hp=>by
   have:=hmore p (List.mem_of_getElem? hp)
   omega
  have hblk:blocksW more=foundF bs k n.toNat:=by
   rw[blocksW_I (fun p hp=>?_),hbm]
   have:=hmore p hp
   omega
  refine⟨fun h3=>⟨bs,.inl ⟨fun hg=>?_,rfl,rfl⟩,hb24,hx_24.any⟩,fun h3=>?_⟩
  ·have:=hg.2.2.2
   rw[show(piecesF (blocksI l++foundF bs k n.toNat)).length=l21 from elen]at this
   omega
  ·refine(turn_ok hb24 (hpm.ext hx24 (by simp)) (fun i hi hi'=>?_) htame (by omega) true).mono ?_
   ·have:=hmf i hi
    have:=h.lt.2 i hi'
    omega
   ·rintro _ H65 ⟨rfl,hb65,hx65⟩
    rw[hblk]at hb65
    refine⟨rfl,setAll bs (foundF bs k n.toNat) true,.inr ⟨⟨hR,hn0,hfl,?_⟩,rfl,a20,c22,by rw[elen],?_,fun i hi=>?_⟩,hb65,hx_24.any.trans hx65⟩
    ·show(growF bs l k n).length≤6
     omega
    ·rw[elen,e]
     refine hown.ext hx65 (fun i hi hi'=>?_)
     have:=hf24 i hi
     have:=h.lt.2 i hi'
     have:=hx58.size
     omega
    ·have:=hf24 i hi
     have:=hx58.size
     omega
end Go.Proofs.Bx
end
section
open Go Go.Vc
namespace Go.Proofs.Bx
theorem setB_in{bs:List Bool}{x:Int}(h:0≤x∧x<bs.length)(on:Bool):setB bs x on=bs.set x.toNat on:=by
 unfold setB;rw[if_pos h]
end Go.Proofs.Bx
end
