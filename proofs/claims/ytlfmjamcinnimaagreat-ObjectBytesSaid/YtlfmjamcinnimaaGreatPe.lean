/-
  What the law rests on, part 5. No condition.
-/
import Derived.Test.YtlfmjamcinnimaaGreatPd
import Derived.Test.YtlfmjamcinnimaaGreatProg
import Derived.Test.YtlfmjamcinnimaaGreatPb
import Derived.Test.YtlfmjamcinnimaaGreatPc
set_option maxRecDepth 100000
section
open Go Go.Vc Go.Proofs.Bx
namespace Go.Proofs
set_option maxHeartbeats 2000000 in
theorem fill_ok{H:Heap}{Fd:Nat→Prop}{x y:RSt}{rl:List RSl}{ba:Option Addr}{bc:Nat}{ml:List (Int×Value)}{st:PSt}{ps pj g sb k:Nat}{hh ss bb ff:Int}{r:RSl}{s:PSl}{xa:Option Addr}{xc:Nat}{xs:Octs}{R X:Value→Heap→Prop}
  (hb:Blk H ps (stoV pj hh ss bb ff x y)) (h:NowIs H Fd x rl ba bc ml st) (hFd:∀q,Fd q→q<H.size) (ha:x.a=some ⟨sb,0,none⟩) (hr:rl[k]?=some r) (hs:st.slots[k]?=some s) (hR:RightP s.ps 0 st.bits.length) (hbl:st.bits.length≤100000) (hf:ff≤9223372036854775807)
  (hx:SRow H 1 xs.length (.slice xa xs.length xc) (bytesV xs)) (hxl:xs.length≤524288) (hxo:∀q∈blkOf xa,¬ownS x ba q) (hps:¬ownS x ba ps) (hg:Blk H g [.int .i64 0]) (hgo:¬ownS x ba g)
  (hok:∀H' ps' bits' rl' ml' Fd',FillTo ff st s (blocksF xs.length) ps' bits'→NowIs H' Fd' x rl' ba bc ml' (fillSt st k s xs ps' bits')→ExtP (ownS x ba) H H'→(∀q,Fd q→Fd' q)→(∀q,Fd' q→Fd q∨(H.size≤q∧q<H'.size))→R (.tuple #[]) H')
  (hno:FillNo ff st s (blocksF xs.length)→∀H',hcell H' g 0=some (.int .i64 3)→ExtP (fun q=>ownS x ba q∨q=g) H H'→X (.iface 229 (.agg #[.pointer (some ⟨g,0,none⟩)])) H') :
  DoesX Tryz.prog 107 [.pointer (some ⟨ps,0,none⟩),.pointer (some ⟨g,0,none⟩),.pointer (some ⟨sb,k*3,none⟩),.slice xa xs.length xc] H R X:=by
 have hown:=h.lt
 have hsl:=h.slot k r s hr hs
 obtain⟨b0,o0,he0,cs0,cs1,cs2⟩:=h.rows.get k r hr
 rw[ha]at he0
 cases he0
 have cs2:hcell H sb (k*3+2)=some (.slice r.a r.n r.c):=by simpa using cs2
 have hsbo:ownS x ba sb:=.inl (by rw[ha];simp[blkOf])
 have hsbl:=hown sb hsbo
 have hn0:=countF_bd s.ps
 have hbn:blocksF (xs.length:Int)=((xs.length+127) / 128:Nat):=blocksF_nat _
 obtain⟨N,hN⟩:∃N,N=(xs.length+127) / 128:=⟨_,rfl⟩
 rw[←hN]at hbn
 refine FnX_of_vc Tryz.mixed (FillV _ _ _ _ _ _ _ _ _) ?_
 refine⟨sb,k*3,rfl,r.a,r.n,r.c,cs2,(Does.x (X:=fun _ _=>False) (blocks_ok (xs.length:Int) H (by omega))).mono ?_ (fun _ _ h=>h.elim)⟩
 rintro _ _ ⟨rfl,rfl⟩
 refine⟨_,rfl,⟨cs2,trivial⟩,(Does.x (X:=fun _ _=>False) (count_ok hsl.2.2.1 (cap:=r.c))).mono ?_ (fun _ _ h=>h.elim)⟩
 rintro _ H10 ⟨rfl,hx10⟩
 have z10:=hx10.size
 have hb10:=hb.ext hx10 (by simp)
 have h10:=h.extP (M:=fun _=>False) hx10.anyP (fun _ _ h=>h) (fun _ _ h=>h)
 have c10:=hcell_ext cs2 hx10 (by simp)
 have hp10:=(h10.slot k r s hr hs).2.2.1
 have hdis:∀q,q∈blkOf r.a→q∉blkOf ba:=fun q hq hm=>h.apart.1 q (.inr (.inr (.inl hm))) (hsl.2.2.2.2 q hq)
 have hsbb:sb∉blkOf ba:=fun hm=>(h.apart.2.2.1 sb hm).1 (by rw[ha];simp[blkOf])
 refine⟨_,rfl,FMid H Fd x ba bc ml st k r s ff (blocksF xs.length),⟨fun hlt=>?_,fun hge=>⟨fun hlt=>?_,fun hge2=>?_⟩⟩,?_⟩
 ·-- fewer
  refine⟨ps,0,rfl,some ⟨x.tb,0,none⟩,by rw[hb10.cell];rfl,sb,k*3,rfl,r.a,r.n,r.c,c10,(Does.x (X:=fun _ _=>False) (shrink_ok h10.bits hp10 hdis hsl.2.2.2.1 (blocksF xs.length) ⟨by omega,by omega⟩ hbl)).mono ?_ (fun _ _ h=>h.elim)⟩
  rintro _ H22 ⟨bs',hS,hB,hx22⟩
  rcases hS with⟨hn,_⟩|⟨_,hbs,a,c,rfl,ho,hfr⟩
  ·exact absurd hR hn
  refine⟨_,_,_,rfl,sb,k*3,rfl,?_,fun H28 hp28=>?_⟩
  ·have:=(h10.setBits hx22 hB).own
   rw[ha]at this
   rcases this.2.2.2 with⟨e,_⟩|⟨bq,tl,e,hbq,hlq⟩
   ·cases e
   ·cases e
    refine hbq.cells 1 (k*3+2) ?_
    have:=(List.getElem?_eq_some_iff.1 hr).1
    rw[List.length_append,rslsV_length];omega
  ·exact fill_pieces h hFd ha hr hs (.inl ⟨hlt,rfl,hbs⟩) hx10 hx22 hB ho (fun q hq=>by have:=hfr q hq;omega) hp28
 ·-- more
  refine⟨ps,0,rfl,some ⟨x.tb,0,none⟩,by rw[hb10.cell];rfl,sb,k*3,rfl,r.a,r.n,r.c,c10,ps,0,rfl,ff,by rw[hb10.cell];rfl,by unfold In64;omega,(Does.x (X:=fun _ _=>False) (grow_ok h10.bits hp10 hdis hsl.2.2.2.1 ff (blocksF xs.length - countF s.ps) hf ⟨by omega,by omega⟩ hbl)).mono ?_ (fun _ _ h=>h.elim)⟩
  rintro _ H41 ⟨bs',hG,hB,hx41⟩
  have z41:=hx41.size
  have hg41:Blk H41 g [.int .i64 0]:=(hg.ext hx10 (by simp)).ext hx41 (fun hm=>hgo (.inr (.inr (.inl hm))))
  rcases hG with⟨hno',rfl,hbs⟩|⟨hyes,hbs,a,c,rfl,ho,hfr⟩
  ·refine⟨_,_,_,_,rfl,want_ok (by decide) (fun h=>by cases h) (fun _=>hg41.cells 1 0 (by simp)) (fun _ H3 hp3=>?_)⟩
   refine hno ⟨by omega,hno'⟩ H3 (by rw[(hp3.blk hg41 (by simp)).cell];rfl) ?_
   exact((hx10.anyP (N:=fun q=>ownS x ba q∨q=g)).trans (hx41.lift fun q _ hq=>.inl (.inr (.inr (.inl hq))))).trans (hp3.ext.lift fun q _ hq=>.inr (by simpa using hq))
  ·refine⟨_,_,_,_,rfl,want_ok (by decide) (fun _=>?_) (fun h=>by cases h) (fun h=>by cases h)⟩
   refine⟨rfl,sb,k*3,rfl,?_,fun H50 hp50=>?_⟩
   ·have:=(h10.setBits hx41 hB).own
    rw[ha]at this
    rcases this.2.2.2 with⟨e,_⟩|⟨bq,tl,e,hbq,hlq⟩
    ·cases e
    ·cases e
     refine hbq.cells 1 (k*3+2) ?_
     have:=(List.getElem?_eq_some_iff.1 hr).1
     rw[List.length_append,rslsV_length];omega
   ·exact fill_pieces h hFd ha hr hs (.inr (.inl ⟨by omega,hyes,rfl,hbs⟩)) hx10 hx41 hB ho (fun q hq=>by have:=hfr q hq;omega) hp50
 ·-- as many
  refine⟨s.ps,st.bits,rl,r,Fd,.inr (.inr ⟨by omega,rfl,rfl⟩),?_,hr,rfl,rfl,hx10.anyP,fun _ h=>h,fun _ h=>.inl h⟩
  have e:({st with slots:=st.slots.set k ⟨s.size,s.refs,s.ps⟩,bits:=st.bits}:PSt)=st:=by
   have:st.slots.set k ⟨s.size,s.refs,s.ps⟩=st.slots:=by
    have h2:=(List.getElem?_eq_some_iff.1 hs).2
    rw[show(⟨s.size,s.refs,s.ps⟩:PSl)=s from rfl,←h2,List.set_getElem_self]
   rw[this]
  rw[e]
  exact h10
 ·rintro H51 ⟨ps',bits',rl1,r1,Fd1,hT,h51,hr1,hz1,hz2,hx51,hF1,hF2⟩
  have z51:=hx51.size
  have hk:k<st.slots.length:=(List.getElem?_eq_some_iff.1 hs).1
  have hk1:=(List.getElem?_eq_some_iff.1 hr1).1
  have hsl1:=h51.slot k r1 ⟨s.size,s.refs,ps'⟩ hr1 (by simp[hk])
  refine⟨sb,k*3,rfl,?_,fun H54 hp54=>?_⟩
  ·have:=h51.own
   rw[ha]at this
   rcases this.2.2.2 with⟨e,_⟩|⟨bq,tl,e,hbq,hlq⟩
   ·cases e
   ·cases e
    refine hbq.cells 1 (k*3) ?_
    rw[List.length_append,rslsV_length];omega
  obtain⟨h54,hx54⟩:=h51.setSlot (r':={r1 with size:=(xs.length:Int)}) (s':=⟨xs.length,s.refs,ps'⟩) ha hr1 (j:=0) (vs:=[.int .i64 (xs.length:Int)]) (by simp) rfl hp54 ⟨rfl,hsl1.2.1,hsl1.2.2.1,hsl1.2.2.2.1,hsl1.2.2.2.2⟩
  have z54:=hp54.size
  have hxA:ExtP (ownS x ba) H H54:=hx51.trans (hx54.mono fun q _ hq=>.inl hq)
  refine(Does.x (X:=fun _ _=>False) (opadded_ok (hx.extP hxA hxo) (by omega))).mono ?_ (fun _ _ h=>h.elim)
  rintro _ H56 ⟨⟨a57,c59,rfl,ho56,hfr56⟩,hx56⟩
  have z56:=hx56.size
  refine⟨_,_,_,rfl,(Does.x (X:=fun _ _=>False) (chunk_ok a57 (padO xs).length c59 128 H56 (by decide))).mono ?_ (fun _ _ h=>h.elim)⟩
  rintro _ H61 ⟨rfl,hbA,hbB,hx61,hs61⟩
  have hL:(padO xs).length=N*128:=by rw[padO_length,hN]
  refine⟨_,_,_,rfl,(Does.x (X:=fun _ _=>False) (collect_ok H56.size (H56.size+1) a57 (padO xs).length c59 128 (by rw[hbA.cell];rfl) (by rw[hbB.cell];rfl) (by decide) (by decide) (by omega) ho56.2.1)).mono ?_ (fun _ _ h=>h.elim)⟩
  rintro _ H66 ⟨cnt,a67,c69,g1,g2,rfl,ho66,hfr66,_,hx66⟩
  have z66:=hx66.size
  have hcnt:cnt=N:=by
   have q1:¬N<cnt:=fun hlt=>by have:=g2 N hlt;omega
   omega
  subst hcnt
  have hxB:Ext [] H54 H66:=(hx56.trans' hx61 (by simp)).trans' hx66 (by simp)
  have hF12:∀q,ownS x ba q→¬(Fd1 q∨(H.size≤q∧q<H66.size)):=fun q hq hm=>by
   rcases hm with hm|hm
   ·exact h51.apart.1 q hq hm
   ·have:=hown q hq;omega
  have h66:=(h54.extP (M:=fun _=>False) hxB.anyP (fun _ _ h=>h) (fun _ _ h=>h)).up (Fd':=fun q=>Fd1 q∨(H.size≤q∧q<H66.size)) (fun q hq=>.inl hq) hF12
  have hr2:(rl1.set k {r1 with size:=(xs.length:Int)})[k]?=some {r1 with size:=(xs.length:Int)}:=by simp[hk1]
  have hmbl:=hown x.mb (.inr (.inr (.inr rfl)))
  have hmbps:ps≠x.mb:=fun e=>hps (e▸.inr (.inr (.inr rfl)))
  refine⟨_,_,_,rfl,fun n72 H73=>∃i:Nat,n72=(i:Int)∧i≤cnt∧∃ml',NowIs H73 (fun q=>Fd1 q∨(H.size≤q∧q<H66.size)) x (rl1.set k {r1 with size:=(xs.length:Int)}) ba bc ml' {slots:=st.slots.set k ⟨xs.length,s.refs,ps'⟩,bits:=bits',data:=putN st.data ps' xs i}∧ExtP (fun q=>q=x.mb) H66 H73,
   fun n72 _=>((cnt:Int) - n72).toNat,⟨0,rfl,Nat.zero_le _,ml,?_,ExtP.refl _ _⟩,?_⟩
  ·have e:(st.slots.set k ⟨s.size,s.refs,ps'⟩).set k ⟨xs.length,s.refs,ps'⟩=st.slots.set k ⟨xs.length,s.refs,ps'⟩:=List.set_set ..
   have h66':=h66
   simp only[e]at h66'
   exact h66'
  rintro n72 H73 ⟨i,rfl,hi,ml',h73,hx73⟩
  have z73:=hx73.size
  have hxC:ExtP (ownS x ba) H H73:=(hxA.trans (hxB.anyP)).trans (hx73.mono fun q _ hq=>.inr (.inr (.inr hq)))
  refine⟨fun hlt=>?_,fun hge=>?_⟩
  ·have hlt':i<cnt:=by omega
   rcases ho66.2.2.2 with⟨_,e⟩|⟨b74,tl,e,hb74,hlt74⟩
   ·have:=ho66.2.1;omega
   subst e
   have hb74g:H61.size≤b74:=hfr66 b74 (by simp[blkOf])
   have ho73:=Own.extP ho66 hx73 (fun q hq=>by
    have:=hfr66 q hq
    intro (e:q=x.mb)
    omega)
   have hcell73:hcell H73 b74 (0+i)=some (chunkAt a57 (padO xs).length 128 1 i):=by
    refine(ho73.row cnt c69).2.2 i _ ?_
    simp[hlt']
   have hch:chunkAt a57 (padO xs).length 128 1 i=.slice (a57.map (·.add (i*128))) 128 128:=by
    have hm:min 128 ((padO xs).length - i*128)=128:=by omega
    simp only[chunkAt,hm,Nat.mul_one]
    simp
   rw[hch]at hcell73
   have hsl73:=h73.slot k {r1 with size:=(xs.length:Int)} ⟨xs.length,s.refs,ps'⟩ hr2 (by simp[hk])
   obtain⟨b1,o1,e1,_,_,cs73⟩:=h73.rows.get k _ hr2
   rw[ha]at e1
   cases e1
   refine⟨by omega,hlt,b74,0,rfl,_,128,128,by rw[Int.toNat_natCast];exact hcell73,sb,k*3,rfl,r1.a,r1.n,r1.c,by simpa using cs73,(Does.x (X:=fun _ _=>False) (at_ok hsl73.2.2.1 (i:Int))).mono ?_ (fun _ _ h=>h.elim)⟩
   rintro _ H85 ⟨rfl,hx85⟩
   have z85:=hx85.size
   have h85:=h73.extP (M:=fun _=>False) hx85.anyP (fun _ _ h=>h) (fun _ _ h=>h)
   have hb85:=(hb.extP hxC hps).ext hx85 (by simp)
   have hrow:SRow H85 1 128 (.slice (a57.map (·.add (i*128))) 128 128) (bytesV (partO xs i)):=by
    have q1:=ho56.row (padO xs).length c59
    have q2:=(q1.ext hx61 (by simp)).ext hx66 (by simp)
    have q3:=q2.extP hx73 (fun q hq (e:q=x.mb)=>by have:=hfr56 q hq;omega)
    have q4:=q3.ext hx85 (by simp)
    exact srow_sub q4 (by omega)
   refine⟨_,_,rfl,ps,0,rfl,some x.mb,by rw[hb85.cell];rfl,x.mb,ml',rfl,h85.map,fun H93 hp93=>?_⟩
   obtain⟨h93,hx93⟩:=h85.setData (o:=partO xs i) (by simp only[partO,List.length_take,List.length_drop];omega) hrow (fun q hq=>by
    have hq':q∈blkOf a57:=by
     cases a57 with
     | none=>exact hq
     | some ad=>
      simp only[Option.map_some,blkOf,List.mem_singleton]at hq ⊢
      rw[hq];unfold Addr.add;split<;>rfl
    have:=hfr56 q hq'
    have:=ho56.lt q hq'
    have:=hx61.size
    exact .inr ⟨by omega,by omega⟩) hp93
   refine⟨by unfold In64;omega,⟨i+1,by omega,by omega,_,h93,?_⟩,?_⟩
   ·exact(hx73.trans (hx85.anyP)).trans (hx93.lift fun q _ hq=>by simpa using hq)
   ·show((cnt:Int) - ((i:Int)+1)).toNat<((cnt:Int) - (i:Int)).toNat
    omega
  ·have hi':i=cnt:=by omega
   subst hi'
   refine hok H73 ps' bits' (rl1.set k {r1 with size:=(xs.length:Int)}) ml' (fun q=>Fd1 q∨(H.size≤q∧q<H66.size)) hT ?_ hxC (fun q hq=>.inl (hF1 q hq)) (fun q hq=>?_)
   ·have e:(blocksF (xs.length:Int)).toNat=i:=by rw[hbn];exact Int.toNat_natCast _
    unfold fillSt
    rw[e]
    exact h73
   ·rcases hq with hq|hq
    ·rcases hF2 q hq with hq|hq
     ·exact .inl hq
     ·have:=hxB.size
      exact .inr ⟨hq.1,by omega⟩
    ·exact .inr ⟨hq.1,by omega⟩
end Go.Proofs
end
section
open Go Go.Vc Go.Proofs.Bx
namespace Go.Proofs
def NowE(H:Heap)(Fd:Nat→Prop)(x:RSt)(F:Nat→Prop)(st:PSt):Prop:=∃rl ba bc ml,NowIs H Fd x rl ba bc ml st∧∀q,ownS x ba q↔F q
theorem NowE.extP{M Fd F:Nat→Prop}{H H':Heap}{x:RSt}{st:PSt}(h:NowE H Fd x F st)(he:ExtP M H H')(h1:∀q,F q→¬M q)(h2:∀q,Fd q→¬M q):NowE H' Fd x F st:=by
 obtain⟨rl,ba,bc,ml,g1,g2⟩:=h
 exact⟨rl,ba,bc,ml,g1.extP he (fun q hq=>h1 q ((g2 q).1 hq)) h2,g2⟩
theorem NowE.up{Fd Fd' F:Nat→Prop}{H:Heap}{x:RSt}{st:PSt}(h:NowE H Fd x F st)(h1:∀q,Fd q→Fd' q)(h2:∀q,F q→¬Fd' q):NowE H Fd' x F st:=by
 obtain⟨rl,ba,bc,ml,g1,g2⟩:=h
 exact⟨rl,ba,bc,ml,g1.up h1 (fun q hq=>h2 q ((g2 q).1 hq)),g2⟩
theorem NowE.lt{Fd F:Nat→Prop}{H:Heap}{x:RSt}{st:PSt}(h:NowE H Fd x F st):∀q,F q→q<H.size:=by
 obtain⟨rl,ba,bc,ml,g1,g2⟩:=h
 exact fun q hq=>g1.lt q ((g2 q).2 hq)
structure Sto(H:Heap) (Fj Fx Fy Fd:Nat→Prop) (ps pj pd:Nat) (hh ss bb ff:Int) (x y:RSt) (now kept:PSt) (J:Jn) (D:Dev):Prop where
 blk:Blk H ps (stoV pj hh ss bb ff x y)
 jd:JD H Fj pj pd J D
 now:NowE H Fd x Fx now
 kept:NowE H Fd y Fy kept
 sep:¬Fj ps∧¬Fx ps∧¬Fy ps∧¬Fd ps
 sepJ:∀q,Fj q→¬Fx q∧¬Fy q∧¬Fd q
 sepX:∀q,Fx q→¬Fy q
 sepY:∀q,Fy q→¬Fd q
 lt:∀q,Fd q→q<H.size
 num:x.n≤1000000∧y.n≤1000000
theorem JD.dead{H:Heap}{F:Nat→Prop}{pj pd:Nat}{J:Jn}{D:Dev}(h:JD H F pj pd J D):hcell H pj 6=some (.bool J.dead):=by
 obtain⟨Fd,Fj,r,l,_,h2,_⟩:=h
 rw[h2.head.cell];rfl
theorem op_ok2{H:Heap}{Fj Fx Fy Fd C:Nat→Prop}{ps pj pd:Nat}{hh ss bb ff:Int}{x y:RSt}{now kept:PSt}{J:Jn}{D:Dev}(hS:Sto H Fj Fx Fy Fd ps pj pd hh ss bb ff x y now kept J D){k:FuncId}{first cap:List Value}{c:Nat}{P:Int→Option Value→Prop}{Q:PSt→Option Value→Prop}{G:Heap→Prop}
  (hc:c<H.size) (hcp:c≠ps) (hC:∀q,C q→q<H.size∧¬Fj q∧¬Fx q∧¬Fy q∧¬Fd q∧q≠ps) (hk:hasB Tryz.prog k True)
  (hop:J.dead=false→∀g H1 rl ba bc ml,Ext [] H H1→H.size≤g→Blk H1 g [.int .i64 0]→NowIs H1 Fd x rl ba bc ml now→(∀q,ownS x ba q↔Fx q)→DoesX Tryz.prog k (first++[.pointer (some ⟨g,0,none⟩)]++cap) H1
   (fun v H2=>v=.tuple #[]∧∃now' rl' ml' Fd',NowIs H2 Fd' x rl' ba bc ml' now'∧Q now' (hcell H2 c 0)∧ExtP (fun q=>Fx q∨C q) H1 H2∧(∀q,Fd q→Fd' q)∧(∀q,Fd' q→Fd q∨(H1.size≤q∧q<H2.size))∧∀H3,ExtP (fun q=>H.size≤q∧q<H1.size) H2 H3→G H3)
   (fun p H2=>∃n,n≠0∧P n (hcell H2 c 0)∧p=.iface 229 (.agg #[.pointer (some ⟨g,0,none⟩)])∧hcell H2 g 0=some (.int .i64 n)∧ExtP (fun q=>Fx q∨C q∨q=g) H1 H2)) :
  Does Tryz.prog 102 [.pointer (some ⟨ps,0,none⟩),.func (.func k) first.toArray cap.toArray] H fun v H'=>∃now' e Fx' Fd' x',v=.int .i64 e∧Sto H' Fj Fx' Fy Fd' ps pj pd hh ss bb ff x' y now' kept J D∧ExtP (fun q=>Fx q∨C q∨q=ps) H H'∧(∀q,Fx' q∨Fd' q→Fx q∨Fd q∨H.size≤q)∧(∀q,Fd q→Fd' q) ∧
   ((e=0∧J.dead=false∧Q now' (hcell H' c 0)∧G H')∨(e≠0∧now'=now∧(P e (hcell H' c 0)∨(J.dead=true∧e=4∧hcell H' c 0=hcell H c 0)))):=by
 obtain⟨rl,ba,bc,ml,hn,ho⟩:=hS.now
 have hlx:=hS.now.lt
 have hly:=hS.kept.lt
 have hlj:=hS.jd.lt
 refine does_ok (C:=C) (P:=P) (c:=c) hS.blk hn hS.num.1 hS.lt hS.jd.dead ⟨fun hq=>hS.sep.2.1 ((ho ps).1 hq),fun hq=>(hC ps hq).2.2.2.2.2 rfl,hS.sep.2.2.2⟩ (fun q hq=>(hC q hq).2.2.2.2.1) hk hc hcp ?_ (fun q hq=>(hC q hq).1) ?_
 ·intro hd g H1 hx hg hbg
  have hn1:=hn.extP (M:=fun _=>False) hx.anyP (fun _ _ h=>h) (fun _ _ h=>h)
  refine(hop hd g H1 rl ba bc ml hx hg hbg hn1 ho).mono ?_ ?_
  ·rintro v H2 ⟨rfl,now',rl',ml',Fd',h2,hQ,he,hF1,hF2,hG⟩
   have z1:=hx.size
   refine⟨rfl,he.mono fun q _ hq=>hq.imp (fun h=>(ho q).2 h) id,fun H3 he3=>?_⟩
   have he13:ExtP (fun q=>Fx q∨C q∨q=ps) H H3:=by
    refine⟨by have:=he.size;have:=he3.size;omega,fun q hq hm=>?_⟩
    rw[he3.keep q (by have:=he.size;omega) (by omega),he.keep q (by omega) (fun h=>hm (h.imp id .inl)),hx.keep q hq (by simp)]
   have hFd'N:∀q,Fd' q→¬(H.size≤q∧q<H1.size):=fun q hq h=>by
    rcases hF2 q hq with h'|h'
    ·have:=hS.lt q h';omega
    ·omega
   have hnow:NowE H3 Fd' x Fx now':=⟨rl',ba,bc,ml',h2.extP he3 (fun q hq h=>by have:=hlx q ((ho q).1 hq);omega) hFd'N,ho⟩
   have hcl:∀q,q<H.size→¬Fx q→¬C q→H3[q]?=H[q]?:=fun q hq h1 h2=>by
    rw[he3.keep q (by have:=he.size;omega) (by omega),he.keep q (by omega) (fun h=>h.elim h1 h2),hx.keep q hq (by simp)]
   have heN:ExtP (fun q=>Fx q∨C q) H H3:=⟨by have:=he.size;have:=he3.size;omega,fun q hq hm=>hcl q hq (fun h=>hm (.inl h)) (fun h=>hm (.inr h))⟩
   have hFd':∀q,Fd' q→Fd q∨H.size≤q:=fun q hq=>(hF2 q hq).imp id (fun h=>by omega)
   have hsz3:∀q,Fd' q→q<H3.size:=fun q hq=>by
    have:=he.size;have:=he3.size
    rcases hF2 q hq with h|h
    ·have:=hS.lt q h;omega
    ·omega
   refine⟨now',0,Fx,Fd',x,rfl,⟨hS.blk.extP heN (fun h=>h.elim hS.sep.2.1 fun h=>(hC ps h).2.2.2.2.2 rfl),hS.jd.ext heN (fun q hq h=>h.elim (hS.sepJ q hq).1 fun h=>(hC q h).2.1 hq),hnow,
    (hS.kept.extP heN (fun q hq h=>h.elim (fun h=>hS.sepX q h hq) fun h=>(hC q h).2.2.2.1 hq) (fun q hq h=>h.elim (fun h=>hn.apart.1 q ((ho q).2 h) hq) fun h=>(hC q h).2.2.2.2.1 hq)).up hF1 (fun q hq h=>(hFd' q h).elim (hS.sepY q hq) fun h=>by have:=hly q hq;omega),
    ⟨hS.sep.1,hS.sep.2.1,hS.sep.2.2.1,fun h=>(hFd' ps h).elim hS.sep.2.2.2 fun h=>by have:=hS.blk.lt;omega⟩,fun q hq=>⟨(hS.sepJ q hq).1,(hS.sepJ q hq).2.1,fun h=>(hFd' q h).elim (hS.sepJ q hq).2.2 fun h=>by have:=hlj q hq;omega⟩,hS.sepX,
    fun q hq h=>(hFd' q h).elim (hS.sepY q hq) fun h=>by have:=hly q hq;omega,hsz3,hS.num⟩,he13,fun q hq=>hq.elim .inl fun h=>.inr (hFd' q h),hF1,.inl ⟨rfl,hd,?_,hG H3 he3⟩⟩
   have:hcell H3 c 0=hcell H2 c 0:=by
    unfold hcell
    rw[he3.keep c (by have:=he.size;omega) (by omega)]
   rw[this]
   exact hQ
  ·rintro p H2 ⟨n,h1,h2,h3,h4,h5⟩
   exact⟨n,h1,h2,h3,h4,h5.mono fun q _ hq=>hq.imp (fun h=>(ho q).2 h) id⟩
 ·intro n H3 x' ba' bc' ml' hn0 hP he hb3 hnow hge hnn
  have he':ExtP (fun q=>Fx q∨C q∨q=ps) H H3:=he.mono fun q _ hq=>hq.imp (fun h=>(ho q).1 h) id
  refine⟨now,n,ownS x' ba',Fd,x',rfl,⟨hb3,hS.jd.ext he' (fun q hq h=>?_),⟨rl,ba',bc',ml',hnow,fun _=>Iff.rfl⟩,hS.kept.extP he' (fun q hq h=>?_) (fun q hq h=>?_),⟨hS.sep.1,fun h=>?_,hS.sep.2.2⟩,fun q hq=>⟨fun h=>?_,(hS.sepJ q hq).2⟩,fun q hq h=>?_,hS.sepY,fun q hq=>by have:=hS.lt q hq;have:=he.size;omega,⟨by rw[hnn];exact hS.num.1,hS.num.2⟩⟩,he',fun q hq=>hq.elim (fun h=>.inr (.inr (hge q h))) fun h=>.inr (.inl h),fun _ h=>h,.inr ⟨hn0,rfl,hP⟩⟩
  ·rcases h with h|h|h
   ·exact(hS.sepJ q hq).1 h
   ·exact(hC q h).2.1 hq
   ·subst h;exact hS.sep.1 hq
  ·rcases h with h|h|h
   ·exact hS.sepX q h hq
   ·exact(hC q h).2.2.2.1 hq
   ·subst h;exact hS.sep.2.2.1 hq
  ·rcases h with h|h|h
   ·exact hn.apart.1 q ((ho q).2 h) hq
   ·exact(hC q h).2.2.2.2.1 hq
   ·subst h;exact hS.sep.2.2.2 hq
  ·have:=hge ps h;have:=hS.blk.lt;omega
  ·have:=hge q h;have:=hlj q hq;omega
  ·have:=hge q hq;have:=hly q h;omega
theorem op_ok{H:Heap}{Fj Fx Fy Fd C:Nat→Prop}{ps pj pd:Nat}{hh ss bb ff:Int}{x y:RSt}{now kept:PSt}{J:Jn}{D:Dev}(hS:Sto H Fj Fx Fy Fd ps pj pd hh ss bb ff x y now kept J D){k:FuncId}{first cap:List Value}{c:Nat}{P:Int→Option Value→Prop}{Q:PSt→Option Value→Prop}
  (hc:c<H.size) (hcp:c≠ps) (hC:∀q,C q→q<H.size∧¬Fj q∧¬Fx q∧¬Fy q∧¬Fd q∧q≠ps) (hk:hasB Tryz.prog k True)
  (hop:J.dead=false→∀g H1 rl ba bc ml,Ext [] H H1→H.size≤g→Blk H1 g [.int .i64 0]→NowIs H1 Fd x rl ba bc ml now→(∀q,ownS x ba q↔Fx q)→DoesX Tryz.prog k (first++[.pointer (some ⟨g,0,none⟩)]++cap) H1
   (fun v H2=>v=.tuple #[]∧∃now' rl' ml' Fd',NowIs H2 Fd' x rl' ba bc ml' now'∧Q now' (hcell H2 c 0)∧ExtP (fun q=>Fx q∨C q) H1 H2∧(∀q,Fd q→Fd' q)∧∀q,Fd' q→Fd q∨(H1.size≤q∧q<H2.size))
   (fun p H2=>∃n,n≠0∧P n (hcell H2 c 0)∧p=.iface 229 (.agg #[.pointer (some ⟨g,0,none⟩)])∧hcell H2 g 0=some (.int .i64 n)∧ExtP (fun q=>Fx q∨C q∨q=g) H1 H2)) :
  Does Tryz.prog 102 [.pointer (some ⟨ps,0,none⟩),.func (.func k) first.toArray cap.toArray] H fun v H'=>∃now' e Fx' Fd' x',v=.int .i64 e∧Sto H' Fj Fx' Fy Fd' ps pj pd hh ss bb ff x' y now' kept J D∧ExtP (fun q=>Fx q∨C q∨q=ps) H H'∧(∀q,Fx' q∨Fd' q→Fx q∨Fd q∨H.size≤q)∧(∀q,Fd q→Fd' q) ∧
   ((e=0∧J.dead=false∧Q now' (hcell H' c 0))∨(e≠0∧now'=now∧(P e (hcell H' c 0)∨(J.dead=true∧e=4∧hcell H' c 0=hcell H c 0)))):=by
 refine(op_ok2 (C:=C) (P:=P) (Q:=Q) (G:=fun _=>True) hS hc hcp hC hk fun hd g H1 rl ba bc ml hx hg hbg hn ho=>(hop hd g H1 rl ba bc ml hx hg hbg hn ho).mono (fun v H2 ⟨h1,now',rl',ml',Fd',h2,h3,h4,h5,h6⟩=>⟨h1,now',rl',ml',Fd',h2,h3,h4,h5,h6,fun _ _=>trivial⟩) fun _ _ h=>h).mono ?_
 rintro v H' ⟨now',e,Fx',Fd',x',h1,h2,h3,h4,h5,h6⟩
 exact⟨now',e,Fx',Fd',x',h1,h2,h3,h4,h5,h6.imp (fun h=>⟨h.1,h.2.1,h.2.2.1⟩) fun h=>h⟩
end Go.Proofs
end
section
open Go Go.Vc Go.Proofs.Bx
namespace Go.Proofs
theorem Sto.more{H H':Heap}{Fj Fx Fy Fd:Nat→Prop}{ps pj pd:Nat}{hh ss bb ff:Int}{x y:RSt}{now kept:PSt}{J:Jn}{D:Dev}(h:Sto H Fj Fx Fy Fd ps pj pd hh ss bb ff x y now kept J D)(he:Ext [] H H'):Sto H' Fj Fx Fy Fd ps pj pd hh ss bb ff x y now kept J D:=
 ⟨h.blk.ext he (by simp),h.jd.ext (M:=fun _=>False) he.anyP (fun _ _ h=>h),h.now.extP (M:=fun _=>False) he.anyP (fun _ _ h=>h) (fun _ _ h=>h),h.kept.extP (M:=fun _=>False) he.anyP (fun _ _ h=>h) (fun _ _ h=>h),h.sep,h.sepJ,h.sepX,h.sepY,fun q hq=>by have:=h.lt q hq;have:=he.size;omega,h.num⟩
def refsP(st:PSt)(id:Int):Int:=if id<1∨st.slots.length<id then 0 else match st.slots[(id - 1).toNat]? with|some x=>x.refs|none=>0
theorem refs_eq{H:Heap}{Fd:Nat→Prop}{x:RSt}{rl:List RSl}{ba:Option Addr}{bc:Nat}{ml:List (Int×Value)}{st:PSt}(h:NowIs H Fd x rl ba bc ml st)(id:Int):refsF rl id=refsP st id:=by
 unfold refsF refsP
 rw[h.len]
 by_cases h1:id<1∨st.slots.length<id
 ·rw[if_pos h1,if_pos h1]
 ·rw[if_neg h1,if_neg h1]
  have hk:(id - 1).toNat<st.slots.length:=by omega
  have hk2:(id - 1).toNat<rl.length:=by rw[h.len];exact hk
  rw[List.getElem?_eq_getElem hk,List.getElem?_eq_getElem hk2]
  exact(h.slot _ _ _ (List.getElem?_eq_getElem hk2) (List.getElem?_eq_getElem hk)).2.1
def Fine(st:PSt)(ff:Int):Prop:=st.bits.length≤100000∧ff≤9223372036854775807∧∀(k:Nat)(s:PSl),st.slots[k]?=some s→RightP s.ps 0 st.bits.length
def WriteOk(f:Int)(st:PSt)(id:Int)(xs:Octs)(st':PSt):Prop:=xs.length≤524288∧∃(k:Nat)(s:PSl)(ps':List Pc)(bits':List Bool),id=(k:Int)+1∧st.slots[k]?=some s∧0<s.refs∧FillTo f st s (blocksF xs.length) ps' bits'∧st'=fillSt st k s xs ps' bits'
def WriteNo(f:Int)(st:PSt)(id:Int)(xs:Octs)(e:Int):Prop:=(524288<xs.length∧e=1)∨(xs.length≤524288∧¬0<refsP st id∧e=6)∨(xs.length≤524288∧∃(k:Nat)(s:PSl),id=(k:Int)+1∧st.slots[k]?=some s∧0<s.refs∧FillNo f st s (blocksF xs.length)∧e=3)
def Left(H:Heap)(Fj Fx Fy Fd:Nat→Prop)(ps pj pd:Nat)(hh ss bb ff:Int)(y:RSt)(kept:PSt)(J:Jn)(D:Dev)(now':PSt)(H':Heap):Prop:=
 ∃Fx' Fd' x',Sto H' Fj Fx' Fy Fd' ps pj pd hh ss bb ff x' y now' kept J D∧ExtP (fun q=>Fx q∨q=ps) H H'∧(∀q,Fx' q∨Fd' q→Fx q∨Fd q∨H.size≤q)∧∀q,Fd q→Fd' q
section
variable {H:Heap} {Fj Fx Fy Fd:Nat→Prop} {ps pj pd:Nat} {hh ss bb ff:Int} {x y:RSt} {now kept:PSt} {J:Jn} {D:Dev}
set_option maxHeartbeats 1000000 in
theorem write_ok(hS:Sto H Fj Fx Fy Fd ps pj pd hh ss bb ff x y now kept J D)(hfine:Fine now ff)(id:Int){xa:Option Addr}{xc:Nat}{xs:Octs}(hx:SRow H 1 xs.length (.slice xa xs.length xc) (bytesV xs))(hxo:∀q∈blkOf xa,¬Fx q) :
  Does Tryz.prog 41 [.pointer (some ⟨ps,0,none⟩),.int .i64 id,.slice xa xs.length xc] H fun v H'=>∃now' e,v=.int .i64 e∧Left H Fj Fx Fy Fd ps pj pd hh ss bb ff y kept J D now' H' ∧
   ((e=0∧J.dead=false∧WriteOk ff now id xs now')∨(e≠0∧now'=now∧(WriteNo ff now id xs e∨(J.dead=true∧e=4)))):=by
 have hlx:=hS.now.lt
 have hpsl:=hS.blk.lt
 refine Fn_of_vc Tryz.mixed (WriteSV _ _ _ _ _ _ _) ?_
 intro b1 H2 hn1 b3 H4 hn3 b5 H6 hn5
 have hx2:=hn1.ext
 have hx4:=hx2.trans' hn3.ext (by simp)
 have hx6:=hx4.trans' hn5.ext (by simp)
 have g1:=hn1.eq;have g3:=hn3.eq;have g5:=hn5.eq
 have z2:=hn1.size;have z4:=hn3.size;have z6:=hn5.size
 have hb1:=(hn1.blk.ext hn3.ext (by simp)).ext hn5.ext (by simp)
 have hb3:=hn3.blk.ext hn5.ext (by simp)
 have hb5:=hn5.blk
 have hS6:=hS.more hx6
 refine⟨some ⟨ps,0,none⟩,by rw[hb1.cell];rfl,(op_ok (k:=122) (first:=[]) (cap:=[.pointer (some ⟨b5,0,none⟩),.pointer (some ⟨b1,0,none⟩),.pointer (some ⟨b3,0,none⟩)]) (c:=b1) (C:=fun _=>False) (P:=fun e _=>WriteNo ff now id xs e) (Q:=fun now' _=>WriteOk ff now id xs now') hS6 (by omega) (by omega) (fun q hq=>hq.elim) (of_eq_true (show hasB Tryz.prog 122 True=True by kernel_rfl)) ?_).mono ?_⟩
 ·intro hd g H1 rl ba bc ml hxx hg hbg hn ho
  have hb1':=hb1.ext hxx (by simp)
  have hb3':=hb3.ext hxx (by simp)
  have hb5':=hb5.ext hxx (by simp)
  have hblk:=hS6.blk.ext hxx (by simp)
  have zx:=hxx.size
  have hnN:∀q,H.size≤q→¬Fx q:=fun q hq h=>by have:=hlx q h;omega
  refine FnX_of_vc Tryz.mixed (Write1V _ _ _ _ _ _ _) ?_
  refine⟨xa,xs.length,xc,by rw[hb5'.cell];rfl,want_ok (by decide) (fun hle=>?_) (fun _=>hbg.cells 1 0 (by simp)) (fun hle H3 hp3=>?_)⟩
  ·have hle:xs.length≤524288:=by
    have:=@of_decide_eq_true _ (Classical.propDecidable _) hle
    omega
   refine⟨rfl,some ⟨ps,0,none⟩,by rw[hb1'.cell];rfl,some ⟨ps,0,none⟩,by rw[hb1'.cell];rfl,id,by rw[hb3'.cell];rfl,xa,xs.length,xc,by rw[hb5'.cell];rfl,there_ok hblk hn.rows hS.num.1 id (fun sb o k r ha hid hr hrp _=>?_) (hbg.cells 1 0 (by simp)) (fun hnp H3 hp3=>?_)⟩
   ·obtain⟨sb',ha'⟩:=hn.head (by have:=(List.getElem?_eq_some_iff.1 hr).1;have:=hn.num;omega)
    rw[ha']at ha
    cases ha
    have hk:k<now.slots.length:=by have:=(List.getElem?_eq_some_iff.1 hr).1;rw[←hn.len];exact this
    obtain⟨s,hs⟩:∃s,now.slots[k]?=some s:=⟨_,List.getElem?_eq_getElem hk⟩
    have hsl:=hn.slot k r s hr hs
    refine⟨_,rfl,⟨by rw[hb5'.cell];rfl,trivial⟩,⟨by rw[hb1'.cell];rfl,trivial⟩,?_⟩
    rw[Nat.zero_add]
    refine fill_ok hblk hn (fun q hq=>by have:=hS6.lt q hq;omega) ha' hr hs (hfine.2.2 k s hs) hfine.1 hfine.2.1 ((hx.ext hx6 (by simp)).ext hxx (by simp)) hle (fun q hq h=>hxo q hq ((ho q).1 h)) (fun h=>hS.sep.2.1 ((ho ps).1 h)) hbg (fun h=>hnN g (by omega) ((ho g).1 h)) ?_ ?_
    ·intro H' ps' bits' rl' ml' Fd' hT hN he hF1 hF2
     exact⟨rfl,rfl,_,rl',ml',Fd',hN,⟨hle,k,s,ps',bits',hid,hs,by rw[←hsl.2.1];exact hrp,hT,rfl⟩,he.mono fun q _ hq=>.inl ((ho q).1 hq),hF1,hF2⟩
    ·intro hno H' hc he
     exact⟨3,by decide,.inr (.inr ⟨hle,k,s,hid,hs,by rw[←hsl.2.1];exact hrp,hno,rfl⟩),rfl,hc,he.mono fun q _ hq=>hq.elim (fun h=>.inl ((ho q).1 h)) fun h=>.inr (.inr h)⟩
   ·refine⟨6,by decide,.inr (.inl ⟨hle,by rw[←refs_eq hn];exact hnp,rfl⟩),rfl,by rw[(hp3.blk hbg (by simp)).cell];rfl,hp3.ext.lift fun q _ hq=>.inr (.inr (by simpa using hq))⟩
  ·have hle:524288<xs.length:=by
    have:=@of_decide_eq_false _ (Classical.propDecidable _) hle
    omega
   exact⟨1,by decide,.inl ⟨hle,rfl⟩,rfl,by rw[(hp3.blk hbg (by simp)).cell];rfl,hp3.ext.lift fun q _ hq=>.inr (.inr (by simpa using hq))⟩
 ·rintro v H9 ⟨now',e,Fx',Fd',x',rfl,h9,he,hF,hF2,hr⟩
  refine⟨e,rfl,now',e,rfl,⟨Fx',Fd',x',h9,⟨by have:=he.size;omega,fun q hq hm=>?_⟩,fun q hq=>(hF q hq).imp _root_.id fun h=>h.imp _root_.id fun h=>by omega,hF2⟩,hr.imp _root_.id fun ⟨r1,r2,r3⟩=>⟨r1,r2,r3.imp _root_.id fun h=>⟨h.1,h.2.1⟩⟩⟩
  rw[he.keep q (by omega) (fun h=>h.elim (fun h=>hm (.inl h)) fun h=>h.elim (fun h=>h) fun h=>hm (.inr h)),hx6.keep q hq (by simp)]
end
end Go.Proofs
end
section
open Go Go.Vc Go.Proofs.Bx
namespace Go.Proofs
def RefOk(st:PSt)(id:Int)(st':PSt):Prop:=∃(k:Nat)(s:PSl),id=(k:Int)+1∧st.slots[k]?=some s∧0<s.refs∧s.refs<65535∧st'={st with slots:=st.slots.set k {s with refs:=s.refs+1}}
def RefNo(st:PSt)(id:Int)(e:Int):Prop:=(¬0<refsP st id∧e=6)∨(65535≤refsP st id∧e=3)
theorem refsP_at{st:PSt}{id:Int}{k:Nat}{s:PSl}(h:id=(k:Int)+1)(hs:st.slots[k]?=some s):refsP st id=s.refs:=by
 have hk:=(List.getElem?_eq_some_iff.1 hs).1
 unfold refsP
 rw[if_neg (by omega),show(id - 1).toNat=k by omega,hs]
section
variable {H:Heap} {Fj Fx Fy Fd:Nat→Prop} {ps pj pd:Nat} {hh ss bb ff:Int} {x y:RSt} {now kept:PSt} {J:Jn} {D:Dev}
theorem slot_at{Fd:Nat→Prop}{rl:List RSl}{ba:Option Addr}{bc:Nat}{ml:List (Int×Value)}(hn:NowIs H Fd x rl ba bc ml now){sb o k:Nat}{r:RSl}(ha:x.a=some ⟨sb,o,none⟩)(hr:rl[k]?=some r):o=0∧∃s,now.slots[k]?=some s∧SlAt Fd H r s∧r.refs=s.refs∧hcell H sb (k*3)=some (.int .i64 r.size)∧hcell H sb (k*3+1)=some (.int .i64 r.refs)∧hcell H sb (k*3+2)=some (.slice r.a r.n r.c)∧∃tl,Blk H sb (rslsV rl++tl)∧k*3+3≤(rslsV rl++tl).length:=by
 have hk:=(List.getElem?_eq_some_iff.1 hr).1
 obtain⟨sb',ha'⟩:=hn.head (by have:=hn.num;omega)
 rw[ha']at ha
 cases ha
 have hk2:k<now.slots.length:=by rw[←hn.len];exact hk
 obtain⟨b1,o1,e1,c0,c1,c2⟩:=hn.rows.get k r hr
 rw[ha']at e1
 cases e1
 have hsl:=hn.slot k r _ hr (List.getElem?_eq_getElem hk2)
 refine⟨rfl,_,List.getElem?_eq_getElem hk2,hsl,hsl.2.1,by simpa using c0,by simpa using c1,by simpa using c2,?_⟩
 have ho:=hn.own
 rw[ha']at ho
 rcases ho.2.2.2 with⟨e,_⟩|⟨bq,tl,e,hbq,hlq⟩
 ·cases e
 ·cases e
  exact⟨tl,hbq,by rw[List.length_append,rslsV_length];omega⟩
set_option maxHeartbeats 1000000 in
theorem ref_ok(hS:Sto H Fj Fx Fy Fd ps pj pd hh ss bb ff x y now kept J D)(id:Int) :
  Does Tryz.prog 44 [.pointer (some ⟨ps,0,none⟩),.int .i64 id] H fun v H'=>∃now' e,v=.int .i64 e∧Left H Fj Fx Fy Fd ps pj pd hh ss bb ff y kept J D now' H' ∧
   ((e=0∧J.dead=false∧RefOk now id now')∨(e≠0∧now'=now∧(RefNo now id e∨(J.dead=true∧e=4)))):=by
 have hlx:=hS.now.lt
 have hpsl:=hS.blk.lt
 refine Fn_of_vc Tryz.mixed (RefV _ _ _ _) ?_
 intro b1 H2 hn1 b3 H4 hn3
 have hx2:=hn1.ext
 have hx4:=hx2.trans' hn3.ext (by simp)
 have g1:=hn1.eq;have g3:=hn3.eq
 have z2:=hn1.size;have z4:=hn3.size
 have hb1:=hn1.blk.ext hn3.ext (by simp)
 have hb3:=hn3.blk
 have hS4:=hS.more hx4
 refine⟨some ⟨ps,0,none⟩,by rw[hb1.cell];rfl,(op_ok (k:=127) (first:=[]) (cap:=[.pointer (some ⟨b1,0,none⟩),.pointer (some ⟨b3,0,none⟩)]) (c:=b1) (C:=fun _=>False) (P:=fun e _=>RefNo now id e) (Q:=fun now' _=>RefOk now id now') hS4 (by omega) (by omega) (fun q hq=>hq.elim) (of_eq_true (show hasB Tryz.prog 127 True=True by kernel_rfl)) ?_).mono ?_⟩
 ·intro hd g H1 rl ba bc ml hxx hg hbg hn ho
  have hb1':=hb1.ext hxx (by simp)
  have hb3':=hb3.ext hxx (by simp)
  have hblk:=hS4.blk.ext hxx (by simp)
  have zx:=hxx.size
  refine FnX_of_vc Tryz.mixed (Ref1V _ _ _ _ _ _) ?_
  refine⟨some ⟨ps,0,none⟩,by rw[hb1'.cell];rfl,id,by rw[hb3'.cell];rfl,there_ok hblk hn.rows hS.num.1 id (fun sb o k r ha hid hr hrp _=>?_) (hbg.cells 1 0 (by simp)) (fun hnp H3 hp3=>?_)⟩
  ·obtain⟨rfl,s,hs,hsl,hrs,c0,c1,c2,tl,hbq,hlq⟩:=slot_at hn ha hr
   rw[Nat.zero_add]
   refine⟨_,rfl,sb,k*3,rfl,r.refs,c1,want_ok (by decide) (fun hle=>?_) (fun _=>hbg.cells 1 0 (by simp)) (fun hle H3 hp3=>?_)⟩
   ·have hle:=@of_decide_eq_true _ (Classical.propDecidable _) hle
    refine⟨rfl,sb,k*3,rfl,r.refs,c1,by unfold In64;omega,sb,k*3,rfl,hbq.cells 1 (k*3+1) (by omega),fun H16 hp16=>?_⟩
    obtain⟨h16,he⟩:=hn.setSlot (r':={r with refs:=r.refs+1}) (s':={s with refs:=s.refs+1}) ha hr (j:=1) (vs:=[.int .i64 (r.refs+1)]) (by simp) rfl hp16 ⟨hsl.1,by rw[←hrs],hsl.2.2⟩
    exact⟨rfl,_,_,ml,Fd,h16,⟨k,s,hid,hs,by omega,by omega,rfl⟩,he.mono fun q _ hq=>.inl ((ho q).1 (.inl hq)),fun _ h=>h,fun _ h=>.inl h⟩
   ·have hle:=@of_decide_eq_false _ (Classical.propDecidable _) hle
    exact⟨3,by decide,.inr ⟨by rw[refsP_at hid hs];omega,rfl⟩,rfl,by rw[(hp3.blk hbg (by simp)).cell];rfl,hp3.ext.lift fun q _ hq=>.inr (.inr (by simpa using hq))⟩
  ·exact⟨6,by decide,.inl ⟨by rw[←refs_eq hn];exact hnp,rfl⟩,rfl,by rw[(hp3.blk hbg (by simp)).cell];rfl,hp3.ext.lift fun q _ hq=>.inr (.inr (by simpa using hq))⟩
 ·rintro v H9 ⟨now',e,Fx',Fd',x',rfl,h9,he,hF,hF2,hr⟩
  refine⟨e,rfl,now',e,rfl,⟨Fx',Fd',x',h9,⟨by have:=he.size;omega,fun q hq hm=>?_⟩,fun q hq=>(hF q hq).imp _root_.id fun h=>h.imp _root_.id fun h=>by omega,hF2⟩,hr.imp _root_.id fun ⟨r1,r2,r3⟩=>⟨r1,r2,r3.imp _root_.id fun h=>⟨h.1,h.2.1⟩⟩⟩
  rw[he.keep q (by omega) (fun h=>h.elim (fun h=>hm (.inl h)) fun h=>h.elim (fun h=>h) fun h=>hm (.inr h)),hx4.keep q hq (by simp)]
end
end Go.Proofs
end
section
open Go Go.Vc Go.Proofs.Bx
namespace Go.Proofs
def freeP(st:PSt):Int:=match (st.slots.map (·.refs)).findIdx? (fun r=>r == 0)with|some k=>k|none=>-1
theorem free_eq{H:Heap}{Fd:Nat→Prop}{x:RSt}{rl:List RSl}{ba:Option Addr}{bc:Nat}{ml:List (Int×Value)}{st:PSt}(h:NowIs H Fd x rl ba bc ml st):freeF rl=freeP st:=by
 have e:rl.map (·.refs)=st.slots.map (·.refs):=by
  apply List.ext_getElem
  ·simp[h.len]
  ·intro i h1 h2
   have i1:i<rl.length:=by simpa using h1
   have i2:i<st.slots.length:=by simpa using h2
   simp only[List.getElem_map]
   exact(h.slot i _ _ (List.getElem?_eq_getElem i1) (List.getElem?_eq_getElem i2)).2.1
 unfold freeF freeP
 rw[←e,List.findIdx?_map]
 rfl
theorem freeP_at{st:PSt}{k:Int}(h:freeP st=k)(h0:0≤k):∃s,st.slots[k.toNat]?=some s∧s.refs=0:=by
 unfold freeP at h
 split at h
 ·rename_i j hj
  obtain⟨h1,h2,_⟩:=List.findIdx?_eq_some_iff_getElem.1 hj
  subst h
  have h1':j<st.slots.length:=by simpa using h1
  refine⟨_,List.getElem?_eq_getElem (by simpa using h1'),?_⟩
  simpa using h2
 ·omega
def refd(st:PSt)(k:Nat)(s:PSl):PSt:={st with slots:=st.slots.set k {s with refs:=1}}
def CreateOk(f:Int)(st:PSt)(xs:Octs)(st':PSt)(id:Int):Prop:=xs.length≤524288∧∃(k:Nat)(s:PSl)(ps':List Pc)(bits':List Bool),freeP st=(k:Int)∧id=(k:Int)+1∧st.slots[k]?=some s∧s.refs=0∧FillTo f (refd st k s) {s with refs:=1} (blocksF xs.length) ps' bits'∧st'=fillSt (refd st k s) k {s with refs:=1} xs ps' bits'
def CreateNo(f:Int)(st:PSt)(xs:Octs)(e:Int):Prop:=(524288<xs.length∧e=1)∨(xs.length≤524288∧freeP st<0∧e=3)∨(xs.length≤524288∧∃(k:Nat)(s:PSl),freeP st=(k:Int)∧st.slots[k]?=some s∧FillNo f (refd st k s) {s with refs:=1} (blocksF xs.length)∧e=3)
section
variable {H:Heap} {Fj Fx Fy Fd:Nat→Prop} {ps pj pd:Nat} {hh ss bb ff:Int} {x y:RSt} {now kept:PSt} {J:Jn} {D:Dev}
set_option maxHeartbeats 1000000 in
theorem create_ok(hS:Sto H Fj Fx Fy Fd ps pj pd hh ss bb ff x y now kept J D)(hfine:Fine now ff){xa:Option Addr}{xc:Nat}{xs:Octs}(hx:SRow H 1 xs.length (.slice xa xs.length xc) (bytesV xs))(hxo:∀q∈blkOf xa,¬Fx q) :
  Does Tryz.prog 31 [.pointer (some ⟨ps,0,none⟩),.slice xa xs.length xc] H fun v H'=>∃now' id e,v=.tuple #[.int .i64 id,.int .i64 e]∧Left H Fj Fx Fy Fd ps pj pd hh ss bb ff y kept J D now' H' ∧
   ((e=0∧J.dead=false∧CreateOk ff now xs now' id)∨(e≠0∧id=0∧now'=now∧(CreateNo ff now xs e∨(J.dead=true∧e=4)))):=by
 have hlx:=hS.now.lt
 have hly:=hS.kept.lt
 have hlj:=hS.jd.lt
 have hpsl:=hS.blk.lt
 refine Fn_of_vc Tryz.mixed (CreateV _ _ _ _ _ _) ?_
 intro b1 H2 hn1 b3 H4 hn3 b5 H6 hn5
 have hx2:=hn1.ext
 have hx4:=hx2.trans' hn3.ext (by simp)
 have hx6:=hx4.trans' hn5.ext (by simp)
 have g1:=hn1.eq;have g3:=hn3.eq;have g5:=hn5.eq
 have z2:=hn1.size;have z4:=hn3.size;have z6:=hn5.size
 refine⟨hn5.blk.cells 1 0 (by simp),fun H7 hp7=>?_⟩
 have z7:=hp7.size
 have hb5:Blk H7 b5 [.int .i64 0]:=hp7.blk hn5.blk (by simp)
 have hx7:Ext [] H H7:=⟨by omega,fun q hq _=>by rw[hp7.ext.keep q (by omega) (by simp;omega),hx6.keep q hq (by simp)]⟩
 have hb1:=((hn1.blk.ext hn3.ext (by simp)).ext hn5.ext (by simp)).ext hp7.ext (by simp;omega)
 have hb3:=(hn3.blk.ext hn5.ext (by simp)).ext hp7.ext (by simp;omega)
 have hS7:=hS.more hx7
 refine⟨some ⟨ps,0,none⟩,by rw[hb1.cell];rfl,(op_ok (k:=103) (first:=[]) (cap:=[.pointer (some ⟨b3,0,none⟩),.pointer (some ⟨b1,0,none⟩),.pointer (some ⟨b5,0,none⟩)]) (c:=b5) (C:=fun q=>q=b5) (P:=fun e _=>CreateNo ff now xs e) (Q:=fun now' u=>∃id,u=some (.int .i64 id)∧CreateOk ff now xs now' id) hS7 (by omega) (by omega)
  (fun q (hq:q=b5)=>by
   subst hq
   refine⟨by omega,fun h=>?_,fun h=>?_,fun h=>?_,fun h=>?_,by omega⟩
   ·have:=hlj _ h;omega
   ·have:=hlx _ h;omega
   ·have:=hly _ h;omega
   ·have:=hS.lt _ h;omega) (of_eq_true (show hasB Tryz.prog 103 True=True by kernel_rfl)) ?_).mono ?_⟩
 ·intro hd g H1 rl ba bc ml hxx hg hbg hn ho
  have hb1':=hb1.ext hxx (by simp)
  have hb3':=hb3.ext hxx (by simp)
  have hb5':=hb5.ext hxx (by simp)
  have hblk:=hS7.blk.ext hxx (by simp)
  have zx:=hxx.size
  have hnN:∀q,H.size≤q→¬Fx q:=fun q hq h=>by have:=hlx q h;omega
  refine FnX_of_vc Tryz.mixed (Create1V _ _ _ _ _ _ _) ?_
  refine⟨xa,xs.length,xc,by rw[hb3'.cell];rfl,want_ok (by decide) (fun hle=>?_) (fun _=>hbg.cells 1 0 (by simp)) (fun hle H3 hp3=>?_)⟩
  ·have hle:xs.length≤524288:=by
    have:=@of_decide_eq_true _ (Classical.propDecidable _) hle
    omega
   refine⟨rfl,some ⟨ps,0,none⟩,by rw[hb1'.cell];rfl,ps,0,rfl,x.a,x.n,x.c,by rw[hblk.cell];rfl,(Does.x (X:=fun _ _=>False) (indexF_ok (cap:=x.c) hn.rows hS.num.1)).mono ?_ (fun _ _ h=>h.elim)⟩
   rintro _ H13 ⟨rfl,hx13⟩
   rw[free_eq hn]
   have z13:=hx13.size
   have hb1a:=hb1'.ext hx13 (by simp)
   have hb3a:=hb3'.ext hx13 (by simp)
   have hb5a:=hb5'.ext hx13 (by simp)
   have hbga:=hbg.ext hx13 (by simp)
   have hblka:=hblk.ext hx13 (by simp)
   have hna:=hn.extP (M:=fun _=>False) hx13.anyP (fun _ _ h=>h) (fun _ _ h=>h)
   refine⟨_,rfl,want_ok (by decide) (fun h0=>?_) (fun _=>hbga.cells 1 0 (by simp)) (fun h0 H3 hp3=>?_)⟩
   ·have h0:=@of_decide_eq_true _ (Classical.propDecidable _) h0
    obtain⟨k,hk⟩:∃k:Nat,freeP now=(k:Int):=⟨(freeP now).toNat,by omega⟩
    obtain⟨s,hs,hs0⟩:=freeP_at hk (by omega)
    rw[Int.toNat_natCast]at hs
    have hkl:=(List.getElem?_eq_some_iff.1 hs).1
    have hkr:k<rl.length:=by rw[hn.len];exact hkl
    obtain⟨r,hr⟩:∃r,rl[k]?=some r:=⟨_,List.getElem?_eq_getElem hkr⟩
    obtain⟨sb,ha⟩:=hna.head (by have:=hn.num;omega)
    obtain⟨_,s',hs',hsl,hrs,c0,c1,c2,tl,hbq,hlq⟩:=slot_at hna ha hr
    rw[hs]at hs'
    cases hs'
    have hnum:=hn.num
    have etn:(freeP now).toNat=k:=by omega
    rw[etn]
    refine⟨rfl,some ⟨ps,0,none⟩,by rw[hb1a.cell];rfl,ps,0,rfl,x.a,x.n,x.c,by rw[hblka.cell];rfl,h0,by omega,sb,0,ha,sb,0+k*3,rfl,?_⟩
    rw[Nat.zero_add]
    refine⟨hbq.cells 1 (k*3+1) (by omega),fun H27 hp27=>?_⟩
    obtain⟨h27,he27⟩:=hna.setSlot (r':={r with refs:=1}) (s':={s with refs:=1}) ha hr (j:=1) (vs:=[.int .i64 1]) (by simp) rfl hp27 ⟨hsl.1,rfl,hsl.2.2⟩
    have z27:=hp27.size
    have hsbF:Fx sb:=(ho sb).1 (.inl (by rw[ha];simp[blkOf]))
    have hsbl:=hlx sb hsbF
    have hne:∀q,H.size≤q→q∉[sb]:=fun q hq=>by simp;omega
    have hb1b:=hb1a.ext hp27.ext (hne b1 (by omega))
    have hb3b:=hb3a.ext hp27.ext (hne b3 (by omega))
    have hb5b:=hb5a.ext hp27.ext (hne b5 (by omega))
    have hbgb:=hbga.ext hp27.ext (hne g (by omega))
    have hblkb:=hblka.ext hp27.ext (by simp only[List.mem_singleton];rintro rfl;exact hS.sep.2.1 hsbF)
    have heA:ExtP Fx H1 H27:=(hx13.anyP (N:=Fx)).trans (he27.mono fun q _ hq=>(ho q).1 (.inl hq))
    have hr1:(rl.set k {r with refs:=1})[k]?=some {r with refs:=1}:=by simp[hkr]
    have hs1:(refd now k s).slots[k]?=some {s with refs:=1}:=by simp[refd,hkl]
    refine⟨some ⟨ps,0,none⟩,by rw[hb1b.cell];rfl,xa,xs.length,xc,by rw[hb3b.cell];rfl,?_⟩
    refine fill_ok (st:=refd now k s) hblkb h27 (fun q hq=>by have:=hS.lt q hq;omega) ha hr1 hs1 (hfine.2.2 k s hs) hfine.1 hfine.2.1 (((hx.ext hx7 (by simp)).ext hxx (by simp)).extP heA hxo) hle (fun q hq h=>hxo q hq ((ho q).1 h)) (fun h=>hS.sep.2.1 ((ho ps).1 h)) hbgb (fun h=>hnN g (by omega) ((ho g).1 h)) ?_ ?_
    ·intro H' ps' bits' rl' ml' Fd' hT hN he hF1 hF2
     have heo:ExtP Fx H27 H':=he.mono fun q _ hq=>(ho q).1 hq
     have zH:=he.size
     have hb5c:=hb5b.extP heo (hnN b5 (by omega))
     have hcap:=hS.num.1
     refine⟨rfl,by unfold In64;omega,hb5c.cells 1 0 (by simp),fun H34 hp34=>⟨rfl,_,rl',ml',Fd',hN.extP hp34.ext.toP (fun q hq=>?_) (fun q hq=>?_),⟨_,by rw[(hp34.blk hb5c (by simp)).cell];rfl,hle,k,s,ps',bits',hk,by omega,hs,hs0,hT,rfl⟩,?_,hF1,fun q hq=>?_⟩⟩
     ·simp only[List.mem_singleton];rintro rfl;exact hnN _ (by omega) ((ho _).1 hq)
     ·simp only[List.mem_singleton];rintro rfl
      rcases hF2 _ hq with h|h
      ·have:=hS.lt _ h;omega
      ·omega
     ·exact((heA.trans heo).mono fun q _ hq=>.inl hq).trans (hp34.ext.lift fun q _ hq=>.inr (by simpa using hq))
     ·have:=hp34.size
      rcases hF2 q hq with h|h
      ·exact .inl h
      ·exact .inr ⟨by omega,by omega⟩
    ·intro hno H' hc he
     exact⟨3,by decide,.inr (.inr ⟨hle,k,s,hk,hs,hno,rfl⟩),rfl,hc,(heA.mono fun q _ hq=>.inl hq).trans (he.mono fun q _ hq=>hq.elim (fun h=>.inl ((ho q).1 h)) fun h=>.inr (.inr h))⟩
   ·have h0:=@of_decide_eq_false _ (Classical.propDecidable _) h0
    exact⟨3,by decide,.inr (.inl ⟨hle,by omega,rfl⟩),rfl,by rw[(hp3.blk hbga (by simp)).cell];rfl,(hx13.anyP).trans (hp3.ext.lift fun q _ hq=>.inr (.inr (by simpa using hq)))⟩
  ·have hle:524288<xs.length:=by
    have:=@of_decide_eq_false _ (Classical.propDecidable _) hle
    omega
   exact⟨1,by decide,.inl ⟨hle,rfl⟩,rfl,by rw[(hp3.blk hbg (by simp)).cell];rfl,hp3.ext.lift fun q _ hq=>.inr (.inr (by simpa using hq))⟩
 ·rintro v H9 ⟨now',e,Fx',Fd',x',rfl,h9,he,hF,hF2,hr⟩
  have hL:Left H Fj Fx Fy Fd ps pj pd hh ss bb ff y kept J D now' H9:=⟨Fx',Fd',x',h9,⟨by have:=he.size;omega,fun q hq hm=>by
   rw[he.keep q (by omega) (fun h=>h.elim (fun h=>hm (.inl h)) fun h=>h.elim (fun (h:q=b5)=>by omega) fun h=>hm (.inr h)),hx7.keep q hq (by simp)]⟩,fun q hq=>(hF q hq).imp _root_.id fun h=>h.imp _root_.id fun h=>by omega,hF2⟩
  refine⟨e,rfl,fun hne=>?_,fun h0=>?_⟩
  ·rcases hr with⟨r1,_⟩|⟨r1,r2,r3⟩
   ·exact absurd r1 hne
   ·exact⟨now',0,e,rfl,hL,.inr ⟨r1,rfl,r2,r3.imp _root_.id fun h=>⟨h.1,h.2.1⟩⟩⟩
  ·rcases hr with⟨r1,r2,id,r3,r4⟩|⟨r1,_⟩
   ·exact⟨id,r3,now',id,0,rfl,hL,.inl ⟨rfl,r2,r4⟩⟩
   ·exact absurd r1 (by omega)
end
end Go.Proofs
end
section
open Go Go.Vc Go.Proofs.Bx
namespace Go.Proofs
def UnrefOk(st:PSt)(id:Int)(st':PSt)(last:Bool):Prop:=∃(k:Nat)(s:PSl),id=(k:Int)+1∧st.slots[k]?=some s∧0<s.refs ∧
 ((s.refs≠1∧last=false∧st'={st with slots:=st.slots.set k {s with refs:=s.refs - 1}}) ∨
  (s.refs=1∧last=true∧st'={st with slots:=st.slots.set k ⟨0,0,[]⟩,bits:=setAll st.bits (blocksI s.ps) false}))
section
variable {H:Heap} {Fj Fx Fy Fd:Nat→Prop} {ps pj pd:Nat} {hh ss bb ff:Int} {x y:RSt} {now kept:PSt} {J:Jn} {D:Dev}
set_option maxHeartbeats 1000000 in
theorem unref_ok(hS:Sto H Fj Fx Fy Fd ps pj pd hh ss bb ff x y now kept J D)(hfine:Fine now ff)(hsm:∀(k:Nat)(s:PSl),now.slots[k]?=some s→s.refs≤1000000)(id:Int) :
  Does Tryz.prog 34 [.pointer (some ⟨ps,0,none⟩),.int .i64 id] H fun v H'=>∃now' last e,v=.tuple #[.bool last,.int .i64 e]∧Left H Fj Fx Fy Fd ps pj pd hh ss bb ff y kept J D now' H' ∧
   ((e=0∧J.dead=false∧UnrefOk now id now' last)∨(e≠0∧last=false∧now'=now∧((¬0<refsP now id∧e=6)∨(J.dead=true∧e=4)))):=by
 have hlx:=hS.now.lt
 have hly:=hS.kept.lt
 have hlj:=hS.jd.lt
 have hpsl:=hS.blk.lt
 refine Fn_of_vc Tryz.mixed (UnrefV _ _ _ _) ?_
 intro b1 H2 hn1 b3 H4 hn3 b5 H6 hn5
 have hx2:=hn1.ext
 have hx4:=hx2.trans' hn3.ext (by simp)
 have hx6:=hx4.trans' hn5.ext (by simp)
 have g1:=hn1.eq;have g3:=hn3.eq;have g5:=hn5.eq
 have z2:=hn1.size;have z4:=hn3.size;have z6:=hn5.size
 refine⟨hn5.blk.cells 1 0 (by simp),fun H7 hp7=>?_⟩
 have z7:=hp7.size
 have hb5:Blk H7 b5 [.bool false]:=hp7.blk hn5.blk (by simp)
 have hx7:Ext [] H H7:=⟨by omega,fun q hq _=>by rw[hp7.ext.keep q (by omega) (by simp;omega),hx6.keep q hq (by simp)]⟩
 have hb1:=((hn1.blk.ext hn3.ext (by simp)).ext hn5.ext (by simp)).ext hp7.ext (by simp;omega)
 have hb3:=(hn3.blk.ext hn5.ext (by simp)).ext hp7.ext (by simp;omega)
 have hS7:=hS.more hx7
 refine⟨some ⟨ps,0,none⟩,by rw[hb1.cell];rfl,(op_ok (k:=108) (first:=[]) (cap:=[.pointer (some ⟨b1,0,none⟩),.pointer (some ⟨b3,0,none⟩),.pointer (some ⟨b5,0,none⟩)]) (c:=b5) (C:=fun q=>q=b5) (P:=fun e u=>¬0<refsP now id∧e=6∧u=some (.bool false)) (Q:=fun now' u=>∃last,u=some (.bool last)∧UnrefOk now id now' last) hS7 (by omega) (by omega)
  (fun q (hq:q=b5)=>by
   subst hq
   refine⟨by omega,fun h=>?_,fun h=>?_,fun h=>?_,fun h=>?_,by omega⟩
   ·have:=hlj _ h;omega
   ·have:=hlx _ h;omega
   ·have:=hly _ h;omega
   ·have:=hS.lt _ h;omega) (of_eq_true (show hasB Tryz.prog 108 True=True by kernel_rfl)) ?_).mono ?_⟩
 ·intro hd g H1 rl ba bc ml hxx hg hbg hn ho
  have hb1':=hb1.ext hxx (by simp)
  have hb3':=hb3.ext hxx (by simp)
  have hb5':=hb5.ext hxx (by simp)
  have hblk:=hS7.blk.ext hxx (by simp)
  have zx:=hxx.size
  have hnN:∀q,H.size≤q→¬Fx q:=fun q hq h=>by have:=hlx q h;omega
  refine FnX_of_vc Tryz.mixed (Unref1V _ _ _ _ _ _ _) ?_
  refine⟨some ⟨ps,0,none⟩,by rw[hb1'.cell];rfl,id,by rw[hb3'.cell];rfl,there_ok hblk hn.rows hS.num.1 id (fun sb o k r ha hid hr hrp _=>?_) (hbg.cells 1 0 (by simp)) (fun hnp H3 hp3=>?_)⟩
  ·obtain⟨rfl,s,hs,hsl,hrs,c0,c1,c2,tl,hbq,hlq⟩:=slot_at hn ha hr
   have hkl:=(List.getElem?_eq_some_iff.1 hs).1
   have hkr:=(List.getElem?_eq_some_iff.1 hr).1
   have hss:=hsm k s hs
   rw[Nat.zero_add]
   have hsbF:Fx sb:=(ho sb).1 (.inl (by rw[ha];simp[blkOf]))
   have hsbl:=hlx sb hsbF
   have hne:∀q,H.size≤q→q∉[sb]:=fun q hq=>by simp;omega
   refine⟨_,rfl,sb,k*3,rfl,r.refs,c1,by unfold In64;omega,sb,k*3,rfl,hbq.cells 1 (k*3+1) (by omega),fun H11 hp11=>?_⟩
   obtain⟨h11,he11⟩:=hn.setSlot (r':={r with refs:=r.refs - 1}) (s':={s with refs:=s.refs - 1}) ha hr (j:=1) (vs:=[.int .i64 (r.refs - 1)]) (by simp) rfl hp11 ⟨hsl.1,by rw[←hrs],hsl.2.2⟩
   have z11:=hp11.size
   have hr1:(rl.set k {r with refs:=r.refs - 1})[k]?=some {r with refs:=r.refs - 1}:=by simp[hkr]
   obtain⟨_,s1,hs1,hsl1,hrs1,d0,d1,d2,tl1,hbq1,hlq1⟩:=slot_at h11 ha hr1
   have es1:s1={s with refs:=s.refs - 1}:=by simpa[hkl]using hs1.symm
   subst es1
   have he11F:ExtP Fx H1 H11:=he11.mono fun q _ hq=>(ho q).1 (.inl hq)
   refine⟨sb,k*3,rfl,r.refs - 1,d1,fun hz=>?_,fun hz=>?_⟩
   ·have hb1b:=hb1'.ext hp11.ext (hne b1 (by omega))
    have hb5b:=hb5'.ext hp11.ext (hne b5 (by omega))
    have hblkb:=hblk.ext hp11.ext (by simp only[List.mem_singleton];rintro rfl;exact hS.sep.2.1 hsbF)
    have hdis:∀q,q∈blkOf r.a→q∉blkOf ba:=fun q hq hm=>hn.apart.1 q (.inr (.inr (.inl hm))) (hsl.2.2.2.2 q hq)
    refine⟨some ⟨ps,0,none⟩,by rw[hb1b.cell];rfl,ps,0,rfl,some ⟨x.tb,0,none⟩,by rw[hblkb.cell];rfl,sb,k*3,rfl,r.a,r.n,r.c,d2,(Does.x (X:=fun _ _=>False) (shrink_ok h11.bits hsl1.2.2.1 hdis hsl.2.2.2.1 0 ⟨by omega,by omega⟩ hfine.1)).mono ?_ (fun _ _ h=>h.elim)⟩
    rintro _ H25 ⟨bs',hSh,hB,hx25⟩
    rcases hSh with⟨hno,_⟩|⟨_,hbs,a',c',rfl,ho',hfr⟩
    ·exact absurd (hfine.2.2 k s hs) hno
    have z25:=hx25.size
    have hbs:bs'=setAll now.bits (blocksI s.ps) false:=by simpa using hbs
    have h25:=h11.setBits hx25 hB
    have hbaF:∀q∈blkOf ba,Fx q:=fun q hq=>(ho q).1 (.inr (.inr (.inl hq)))
    obtain⟨_,s2,hs2,hsl2,_,_,_,_,tl2,hbq2,hlq2⟩:=slot_at h25 ha hr1
    have hb5c:=hb5b.ext hx25 (fun hq=>hnN b5 (by omega) (hbaF _ hq))
    refine⟨_,_,_,rfl,sb,k*3,rfl,hbq2.cells 3 (k*3) (by omega),fun H31 hp31=>?_⟩
    obtain⟨h31,he31⟩:=h25.setSlot (r':=⟨0,0,none,0,0⟩) (s':=⟨0,0,[]⟩) ha hr1 (j:=0) (vs:=[.int .i64 0,.int .i64 0,.slice none 0 0]) (by simp) rfl hp31 ⟨rfl,rfl,⟨rfl,fun c=>⟨rfl,rfl⟩⟩,Nat.le_refl _,fun q hq=>(by cases hq)⟩
    have z31:=hp31.size
    have hb5d:=hb5c.ext hp31.ext (hne b5 (by omega))
    refine⟨hb5d.cells 1 0 (by simp),fun H32 hp32=>?_⟩
    have z32:=hp32.size
    have hFall:ExtP Fx H1 H31:=(he11F.trans (hx25.lift fun q _ hq=>hbaF q hq)).trans (he31.mono fun q _ hq=>(ho q).1 (.inl hq))
    refine⟨rfl,_,_,ml,Fd,h31.extP hp32.ext.toP (fun q hq=>?_) (fun q hq=>?_),⟨true,by rw[(hp32.blk hb5d (by simp)).cell];rfl,k,s,hid,hs,by omega,.inr ⟨by omega,rfl,?_⟩⟩,(hFall.mono fun q _ hq=>.inl hq).trans (hp32.ext.lift fun q _ hq=>.inr (by simpa using hq)),fun _ h=>h,fun _ h=>.inl h⟩
    ·simp only[List.mem_singleton];rintro rfl;exact hnN _ (by omega) ((ho _).1 hq)
    ·simp only[List.mem_singleton];rintro rfl;have:=hS.lt _ hq;omega
    ·simp only[List.set_set,hbs]
   ·refine⟨rfl,_,_,ml,Fd,h11,⟨false,?_,k,s,hid,hs,by omega,.inl ⟨by omega,rfl,rfl⟩⟩,he11F.mono fun q _ hq=>.inl hq,fun _ h=>h,fun _ h=>.inl h⟩
    rw[(hb5'.ext hp11.ext (hne b5 (by omega))).cell];rfl
  ·refine⟨6,by decide,⟨by rw[←refs_eq hn];exact hnp,rfl,?_⟩,rfl,by rw[(hp3.blk hbg (by simp)).cell];rfl,hp3.ext.lift fun q _ hq=>.inr (.inr (by simpa using hq))⟩
   rw[(hb5'.ext hp3.ext (by simp;omega)).cell];rfl
 ·rintro v H9 ⟨now',e,Fx',Fd',x',rfl,h9,he,hF,hF2,hr⟩
  have hL:Left H Fj Fx Fy Fd ps pj pd hh ss bb ff y kept J D now' H9:=⟨Fx',Fd',x',h9,⟨by have:=he.size;omega,fun q hq hm=>by
   rw[he.keep q (by omega) (fun h=>h.elim (fun h=>hm (.inl h)) fun h=>h.elim (fun (h:q=b5)=>by omega) fun h=>hm (.inr h)),hx7.keep q hq (by simp)]⟩,fun q hq=>(hF q hq).imp _root_.id fun h=>h.imp _root_.id fun h=>by omega,hF2⟩
  rcases hr with⟨rfl,r2,last,r3,r4⟩|⟨r1,r2,r3⟩
  ·refine⟨0,rfl,last,r3,fun ht=>?_,fun ht=>?_⟩
   ·subst ht
    exact⟨now',true,0,by simp,hL,.inl ⟨rfl,r2,r4⟩⟩
   ·subst ht
    exact⟨now',false,0,rfl,hL,.inl ⟨rfl,r2,r4⟩⟩
  ·refine⟨e,rfl,false,?_,fun ht=>(by cases ht),fun _=>⟨now',false,e,rfl,hL,.inr ⟨r1,rfl,r2,r3.imp (fun h=>⟨h.1,h.2.1⟩) fun h=>⟨h.1,h.2.1⟩⟩⟩⟩
   rcases r3 with h|h
   ·exact h.2.2
   ·rw[h.2.2,hb5.cell];rfl
end
end Go.Proofs
end
section
open Go Go.Vc Go.Proofs.Bx
namespace Go.Proofs
def Whole(st:PSt)(s:PSl):Prop:=0≤s.size∧countF s.ps≤1000000∧s.size≤countF s.ps*128∧∀k:Nat,(k:Int)<countF s.ps→(st.data (atF s.ps (k:Int)).1).isSome=true
noncomputable def bytesP(st:PSt)(s:PSl):Octs:=(catD (fun k=>(st.data (atF s.ps (k:Int)).1).getD []) (countF s.ps).toNat).take s.size.toNat
theorem mapGet_of{l:List (Int×Value)}{k:Int}{v z:Value}(hn:(l.map (·.1)).Nodup)(h:(k,v)∈l):mapGet l k z=v:=by
 induction l with
 | nil=>cases h
 | cons p r ih=>
  simp only[List.map_cons,List.nodup_cons]at hn
  unfold mapGet
  by_cases e:p.1=k
  ·rw[if_pos e]
   rcases List.mem_cons.1 h with h|h
   ·rw[←h]
   ·exact absurd (List.mem_map.2 ⟨_,h,e.symm⟩) hn.1
  ·rw[if_neg e]
   rcases List.mem_cons.1 h with h|h
   ·rw[←h]at e;exact absurd rfl e
   ·exact ih hn.2 h
section
variable {H:Heap} {Fj Fx Fy Fd:Nat→Prop} {ps pj pd:Nat} {hh ss bb ff:Int} {x y:RSt} {now kept:PSt} {J:Jn} {D:Dev}
theorem bytesP_length{Fd:Nat→Prop}{rl:List RSl}{ba:Option Addr}{bc:Nat}{ml:List (Int×Value)}(hn:NowIs H Fd x rl ba bc ml now){s:PSl}(hw:Whole now s):(bytesP now s).length=s.size.toNat:=by
 have h0:=countF_bd s.ps
 unfold bytesP
 rw[List.length_take,catD_length _ _ (fun k hk=>?_)]
 ·have:=hw.1;have:=hw.2.2.1;omega
 ·have hs:=hw.2.2.2 k (by omega)
  cases hd:now.data (atF s.ps (k:Int)).1 with
  | none=>rw[hd]at hs;cases hs
  | some o=>
   have:=hn.data (atF s.ps (k:Int)).1
   rw[hd]at this
   exact this.1
theorem sbytes_ok{Fd:Nat→Prop}{rl:List RSl}{ba:Option Addr}{bc:Nat}{ml:List (Int×Value)}(hb:Blk H ps (stoV pj hh ss bb ff x y))(hn:NowIs H Fd x rl ba bc ml now){sb k:Nat}{r:RSl}{s:PSl}(hsl:SlAt Fd H r s)(c0:hcell H sb (k*3)=some (.int .i64 r.size))(c2:hcell H sb (k*3+2)=some (.slice r.a r.n r.c))(hw:Whole now s) :
  Does Tryz.prog 124 [.pointer (some ⟨ps,0,none⟩),.pointer (some ⟨sb,k*3,none⟩)] H fun v H'=>∃a c,v=.slice a (bytesP now s).length c∧SRow H' 1 (bytesP now s).length (.slice a (bytesP now s).length c) (bytesV (bytesP now s))∧(∀q∈blkOf a,H.size≤q)∧Ext [] H H'∧(bytesP now s).length≤c:=by
 have h0:=countF_bd s.ps
 rw[hsl.1]at c0
 rw[bytesP_length hn hw]
 refine bytesS_ok (N:=(countF s.ps).toNat) (d:=fun k=>(now.data (atF s.ps (k:Int)).1).getD []) hb hn.map hsl.2.2.1 c0 c2 (by omega) (by omega) (fun j hj=>?_) hw.1 (by have:=hw.2.2.1;omega)
 have hs:=hw.2.2.2 j (by omega)
 cases hd:now.data (atF s.ps (j:Int)).1 with
 | none=>rw[hd]at hs;cases hs
 | some o=>
  have:=hn.data (atF s.ps (j:Int)).1
  rw[hd]at this
  obtain⟨z1,a,c,z2,z3,_⟩:=this
  simp only[Option.getD_some]
  exact⟨z1,a,c,mapGet_of hn.nod z2,z3⟩
def ReadOk(st:PSt)(id:Int)(out:Octs):Prop:=∃(k:Nat)(s:PSl),id=(k:Int)+1∧st.slots[k]?=some s∧0<s.refs∧out=bytesP st s
set_option maxHeartbeats 1000000 in
theorem read_ok(hS:Sto H Fj Fx Fy Fd ps pj pd hh ss bb ff x y now kept J D)(hwh:∀(k:Nat)(s:PSl),now.slots[k]?=some s→Whole now s∧s.size≤524288)(id:Int) :
  Does Tryz.prog 45 [.pointer (some ⟨ps,0,none⟩),.int .i64 id] H fun v H'=>∃out e,(∃a c,v=.tuple #[.slice a out.length c,.int .i64 e]∧SRow H' 1 out.length (.slice a out.length c) (bytesV out)∧(∀q∈blkOf a,H.size≤q))∧Left H Fj Fx Fy Fd ps pj pd hh ss bb ff y kept J D now H' ∧
   ((e=0∧J.dead=false∧ReadOk now id out)∨(e≠0∧out=[]∧((¬0<refsP now id∧e=6)∨(J.dead=true∧e=4)))):=by
 have hlx:=hS.now.lt
 have hly:=hS.kept.lt
 have hlj:=hS.jd.lt
 have hpsl:=hS.blk.lt
 refine Fn_of_vc Tryz.mixed (ReadSV _ _ _ _) ?_
 intro b1 H2 hn1 b3 H4 hn3 b5 H6 hn5
 have hx2:=hn1.ext
 have hx4:=hx2.trans' hn3.ext (by simp)
 have hx6:=hx4.trans' hn5.ext (by simp)
 have g1:=hn1.eq;have g3:=hn3.eq;have g5:=hn5.eq
 have z2:=hn1.size;have z4:=hn3.size;have z6:=hn5.size
 have hb1:=(hn1.blk.ext hn3.ext (by simp)).ext hn5.ext (by simp)
 have hb3:=hn3.blk.ext hn5.ext (by simp)
 have hb5:=hn5.blk
 have hS6:=hS.more hx6
 refine⟨some ⟨ps,0,none⟩,by rw[hb1.cell];rfl,(op_ok2 (k:=128) (first:=[]) (cap:=[.pointer (some ⟨b1,0,none⟩),.pointer (some ⟨b3,0,none⟩),.pointer (some ⟨b5,0,none⟩)]) (c:=b5) (C:=fun q=>q=b5) (P:=fun e _=>¬0<refsP now id∧e=6) (Q:=fun now' _=>now'=now)
  (G:=fun H'=>∃out a c,ReadOk now id out∧out.length≤524288∧hcell H' b5 0=some (.slice a out.length c)∧SRow H' 1 out.length (.slice a out.length c) (bytesV out)) hS6 (by omega) (by omega)
  (fun q (hq:q=b5)=>by
   subst hq
   refine⟨by omega,fun h=>?_,fun h=>?_,fun h=>?_,fun h=>?_,by omega⟩
   ·have:=hlj _ h;omega
   ·have:=hlx _ h;omega
   ·have:=hly _ h;omega
   ·have:=hS.lt _ h;omega) (of_eq_true (show hasB Tryz.prog 128 True=True by kernel_rfl)) ?_).mono ?_⟩
 ·intro hd g H1 rl ba bc ml hxx hg hbg hn ho
  have hb1':=hb1.ext hxx (by simp)
  have hb3':=hb3.ext hxx (by simp)
  have hb5':=hb5.ext hxx (by simp)
  have hblk:=hS6.blk.ext hxx (by simp)
  have zx:=hxx.size
  refine FnX_of_vc Tryz.mixed (Read1V _ _ _ _ _ _ _) ?_
  refine⟨some ⟨ps,0,none⟩,by rw[hb1'.cell];rfl,some ⟨ps,0,none⟩,by rw[hb1'.cell];rfl,id,by rw[hb3'.cell];rfl,there_ok hblk hn.rows hS.num.1 id (fun sb o k r ha hid hr hrp _=>?_) (hbg.cells 1 0 (by simp)) (fun hnp H3 hp3=>?_)⟩
  ·obtain⟨rfl,s,hs,hsl,hrs,c0,c1,c2,tl,hbq,hlq⟩:=slot_at hn ha hr
   obtain⟨hw,hz⟩:=hwh k s hs
   rw[Nat.zero_add]
   refine⟨_,rfl,⟨by rw[hb1'.cell];rfl,trivial⟩,(Does.x (X:=fun _ _=>False) (sbytes_ok hblk hn hsl c0 c2 hw)).mono ?_ (fun _ _ h=>h.elim)⟩
   rintro _ H8 ⟨a,c,rfl,hrow,hfr,hx8,hlc⟩
   have z8:=hx8.size
   have hb5b:=hb5'.ext hx8 (by simp)
   have hlen:=bytesP_length hn hw
   refine⟨a,_,c,rfl,hb5b.cells 1 0 (by simp),fun H12 hp12=>⟨rfl,now,rl,ml,Fd,?_,rfl,(hx8.anyP).trans (hp12.ext.lift fun q _ hq=>.inr (by simpa using hq)),fun _ h=>h,fun _ h=>.inl h,fun H3 he3=>⟨_,a,c,⟨k,s,hid,hs,by omega,rfl⟩,by omega,?_,?_⟩⟩⟩
   ·refine(hn.extP (M:=fun _=>False) hx8.anyP (fun _ _ h=>h) (fun _ _ h=>h)).extP hp12.ext.toP (fun q hq=>?_) (fun q hq=>?_)
    ·have:=hlx q ((ho q).1 hq);simp;omega
    ·have:=hS.lt q hq;simp;omega
   ·have h12:=(hp12.blk hb5b (by simp))
    unfold hcell
    rw[he3.keep b5 (by have:=hp12.size;omega) (by omega)]
    have:=h12.cell 0
    unfold hcell at this
    rw[this];rfl
   ·refine(hrow.ext hp12.ext (fun q hq=>by have:=hfr q hq;simp;omega)).extP he3 fun q hq h=>by have:=hfr q hq;omega
  ·exact⟨6,by decide,⟨by rw[←refs_eq hn];exact hnp,rfl⟩,rfl,by rw[(hp3.blk hbg (by simp)).cell];rfl,hp3.ext.lift fun q _ hq=>.inr (.inr (by simpa using hq))⟩
 ·rintro v H9 ⟨now',e,Fx',Fd',x',rfl,h9,he,hF,hF2,hr⟩
  have hzz:Ext [] H9 H9:=Ext.refl _ _
  have hL:∀H10,Ext [] H9 H10→Left H Fj Fx Fy Fd ps pj pd hh ss bb ff y kept J D now' H10:=fun H10 hx10=>⟨Fx',Fd',x',h9.more hx10,⟨by have:=he.size;have:=hx10.size;omega,fun q hq hm=>by
   rw[hx10.keep q (by have:=he.size;omega) (by simp),he.keep q (by omega) (fun h=>h.elim (fun h=>hm (.inl h)) fun h=>h.elim (fun (h:q=b5)=>by omega) fun h=>hm (.inr h)),hx6.keep q hq (by simp)]⟩,fun q hq=>(hF q hq).imp _root_.id fun h=>h.imp _root_.id fun h=>by omega,hF2⟩
  refine⟨e,rfl,fun hne=>?_,fun h0=>?_⟩
  ·rcases hr with⟨r1,_⟩|⟨r1,r2,r3⟩
   ·exact absurd r1 hne
   ·subst r2
    exact⟨[],e,⟨none,0,rfl,⟨rfl,rfl⟩,fun q hq=>(by cases hq)⟩,hL H9 hzz,.inr ⟨r1,rfl,r3.imp (fun h=>h) fun h=>⟨h.1,h.2.1⟩⟩⟩
  ·rcases hr with⟨r1,r2,r3,out,a,c,r4,r5,r6,r7⟩|⟨r1,_⟩
   ·subst r3
    refine⟨a,_,c,r6,(clone_ok r7 (by omega)).mono ?_⟩
    rintro _ H15 ⟨a',c',rfl,ho',hx',hf'⟩
    have:=he.size
    exact⟨a',_,c',rfl,out,0,⟨a',c',rfl,ho'.row _ _,fun q hq=>by have:=hf' q hq;omega⟩,hL H15 hx',.inl ⟨rfl,r2,r4⟩⟩
   ·exact absurd r1 (by omega)
end
end Go.Proofs
end
section
open Go Go.Vc Go.Proofs.Bx
namespace Go.Proofs
def TruncOk(f:Int)(st:PSt)(id n:Int)(st':PSt):Prop:=∃(k:Nat)(s:PSl)(ps':List Pc)(bits':List Bool),id=(k:Int)+1∧st.slots[k]?=some s∧0<s.refs∧0≤n∧n≤s.size ∧
 FillTo f st s (blocksF ((bytesP st s).take n.toNat).length) ps' bits'∧st'=fillSt st k s ((bytesP st s).take n.toNat) ps' bits'
def TruncNo(f:Int)(st:PSt)(id n:Int)(e:Int):Prop:=(¬0<refsP st id∧e=6) ∨
 ∃(k:Nat) (s:PSl),id=(k:Int)+1∧st.slots[k]?=some s∧0<s.refs∧((¬(0≤n∧n≤s.size)∧e=1)∨((0≤n∧n≤s.size)∧FillNo f st s (blocksF ((bytesP st s).take n.toNat).length)∧e=3))
section
variable {H:Heap} {Fj Fx Fy Fd:Nat→Prop} {ps pj pd:Nat} {hh ss bb ff:Int} {x y:RSt} {now kept:PSt} {J:Jn} {D:Dev}
set_option maxHeartbeats 1000000 in
theorem trunc_ok(hS:Sto H Fj Fx Fy Fd ps pj pd hh ss bb ff x y now kept J D)(hfine:Fine now ff)(hwh:∀(k:Nat)(s:PSl),now.slots[k]?=some s→Whole now s∧s.size≤524288)(id n:Int) :
  Does Tryz.prog 43 [.pointer (some ⟨ps,0,none⟩),.int .i64 id,.int .i64 n] H fun v H'=>∃now' e,v=.int .i64 e∧Left H Fj Fx Fy Fd ps pj pd hh ss bb ff y kept J D now' H' ∧
   ((e=0∧J.dead=false∧TruncOk ff now id n now')∨(e≠0∧now'=now∧(TruncNo ff now id n e∨(J.dead=true∧e=4)))):=by
 have hlx:=hS.now.lt
 have hpsl:=hS.blk.lt
 refine Fn_of_vc Tryz.mixed (TruncV _ _ _ _ _) ?_
 intro b1 H2 hn1 b3 H4 hn3 b5 H6 hn5
 have hx2:=hn1.ext
 have hx4:=hx2.trans' hn3.ext (by simp)
 have hx6:=hx4.trans' hn5.ext (by simp)
 have g1:=hn1.eq;have g3:=hn3.eq;have g5:=hn5.eq
 have z2:=hn1.size;have z4:=hn3.size;have z6:=hn5.size
 have hb1:=(hn1.blk.ext hn3.ext (by simp)).ext hn5.ext (by simp)
 have hb3:=hn3.blk.ext hn5.ext (by simp)
 have hb5:=hn5.blk
 have hS6:=hS.more hx6
 refine⟨some ⟨ps,0,none⟩,by rw[hb1.cell];rfl,(op_ok (k:=126) (first:=[]) (cap:=[.pointer (some ⟨b1,0,none⟩),.pointer (some ⟨b3,0,none⟩),.pointer (some ⟨b5,0,none⟩)]) (c:=b1) (C:=fun _=>False) (P:=fun e _=>TruncNo ff now id n e) (Q:=fun now' _=>TruncOk ff now id n now') hS6 (by omega) (by omega) (fun q hq=>hq.elim) (of_eq_true (show hasB Tryz.prog 126 True=True by kernel_rfl)) ?_).mono ?_⟩
 ·intro hd g H1 rl ba bc ml hxx hg hbg hn ho
  have hb1':=hb1.ext hxx (by simp)
  have hb3':=hb3.ext hxx (by simp)
  have hb5':=hb5.ext hxx (by simp)
  have hblk:=hS6.blk.ext hxx (by simp)
  have zx:=hxx.size
  have hnN:∀q,H.size≤q→¬Fx q:=fun q hq h=>by have:=hlx q h;omega
  refine FnX_of_vc Tryz.mixed (Trunc1V _ _ _ _ _ _ _) ?_
  refine⟨some ⟨ps,0,none⟩,by rw[hb1'.cell];rfl,id,by rw[hb3'.cell];rfl,there_ok hblk hn.rows hS.num.1 id (fun sb o k r ha hid hr hrp _=>?_) (hbg.cells 1 0 (by simp)) (fun hnp H3 hp3=>?_)⟩
  ·obtain⟨rfl,s,hs,hsl,hrs,c0,c1,c2,tl,hbq,hlq⟩:=slot_at hn ha hr
   obtain⟨hw,hz⟩:=hwh k s hs
   rw[Nat.zero_add]
   have no1:¬(0≤n∧n≤s.size)→∀H3,Puts H1 g 0 [.int .i64 1] H3→∃n',n'≠0∧TruncNo ff now id n n'∧Value.iface 229 (.agg #[.pointer (some ⟨g,0,none⟩)])=.iface 229 (.agg #[.pointer (some ⟨g,0,none⟩)])∧hcell H3 g 0=some (.int .i64 n')∧ExtP (fun q=>Fx q∨False∨q=g) H1 H3:=fun hb H3 hp3=>
    ⟨1,by decide,.inr ⟨k,s,hid,hs,by omega,.inl ⟨hb,rfl⟩⟩,rfl,by rw[(hp3.blk hbg (by simp)).cell];rfl,hp3.ext.lift fun q _ hq=>.inr (.inr (by simpa using hq))⟩
   refine⟨_,rfl,n,by rw[hb5'.cell];rfl,fun h0=>?_,fun h0=>want_ok (by decide) (fun h=>by cases h) (fun _=>hbg.cells 1 0 (by simp)) (fun _ H3 hp3=>no1 (fun h=>h0 h.1) H3 hp3)⟩
   refine⟨n,by rw[hb5'.cell];rfl,sb,k*3,rfl,r.size,c0,want_ok (by decide) (fun h1=>?_) (fun _=>hbg.cells 1 0 (by simp)) (fun h1 H3 hp3=>?_)⟩
   ·have h1:=@of_decide_eq_true _ (Classical.propDecidable _) h1
    rw[hsl.1]at h1
    refine⟨rfl,some ⟨ps,0,none⟩,by rw[hb1'.cell];rfl,some ⟨ps,0,none⟩,by rw[hb1'.cell];rfl,n,by rw[hb5'.cell];rfl,(Does.x (X:=fun _ _=>False) (sbytes_ok hblk hn hsl c0 c2 hw)).mono ?_ (fun _ _ h=>h.elim)⟩
    rintro _ H17 ⟨a,c,rfl,hrow,hfr,hx17,hlc⟩
    have z17:=hx17.size
    have hlen:=bytesP_length hn hw
    have hn17:=hn.extP (M:=fun _=>False) hx17.anyP (fun _ _ h=>h) (fun _ _ h=>h)
    have hbg17:=hbg.ext hx17 (by simp)
    refine⟨a,_,c,rfl,⟨by rw[(hb5'.ext hx17 (by simp)).cell];rfl,trivial⟩,⟨by rw[(hb1'.ext hx17 (by simp)).cell];rfl,trivial⟩,h0,by omega,?_⟩
    have hlt:((bytesP now s).take n.toNat).length=n.toNat:=by rw[List.length_take,hlen];omega
    have hrow':SRow H17 1 ((bytesP now s).take n.toNat).length (.slice a ((bytesP now s).take n.toNat).length c) (bytesV ((bytesP now s).take n.toNat)):=by
     have:=SRow.take1 (l':=n.toNat) (c':=c) hrow (k:=n.toNat) (by omega)
     rw[hlt]
     rwa[show(bytesV (bytesP now s)).take n.toNat=bytesV ((bytesP now s).take n.toNat)from by simp[bytesV]]at this
    rw[←hlt]
    refine fill_ok (hblk.ext hx17 (by simp)) hn17 (fun q hq=>by have:=hS6.lt q hq;omega) ha hr hs (hfine.2.2 k s hs) hfine.1 hfine.2.1 hrow' (by omega) (fun q hq h=>hnN q (by have:=hfr q hq;omega) ((ho q).1 h)) (fun h=>hS.sep.2.1 ((ho ps).1 h)) hbg17 (fun h=>hnN g (by omega) ((ho g).1 h)) ?_ ?_
    ·intro H' ps' bits' rl' ml' Fd' hT hN he hF1 hF2
     exact⟨rfl,rfl,_,rl',ml',Fd',hN,⟨k,s,ps',bits',hid,hs,by omega,h0,h1,hT,rfl⟩,(hx17.anyP).trans (he.mono fun q _ hq=>.inl ((ho q).1 hq)),hF1,fun q hq=>(hF2 q hq).imp _root_.id fun h=>⟨by omega,h.2⟩⟩
    ·intro hno H' hc he
     exact⟨3,by decide,.inr ⟨k,s,hid,hs,by omega,.inr ⟨⟨h0,h1⟩,hno,rfl⟩⟩,rfl,hc,(hx17.anyP).trans (he.mono fun q _ hq=>hq.elim (fun h=>.inl ((ho q).1 h)) fun h=>.inr (.inr h))⟩
   ·have h1:=@of_decide_eq_false _ (Classical.propDecidable _) h1
    rw[hsl.1]at h1
    exact no1 (fun h=>h1 h.2) H3 hp3
  ·exact⟨6,by decide,.inl ⟨by rw[←refs_eq hn];exact hnp,rfl⟩,rfl,by rw[(hp3.blk hbg (by simp)).cell];rfl,hp3.ext.lift fun q _ hq=>.inr (.inr (by simpa using hq))⟩
 ·rintro v H9 ⟨now',e,Fx',Fd',x',rfl,h9,he,hF,hF2,hr⟩
  refine⟨e,rfl,now',e,rfl,⟨Fx',Fd',x',h9,⟨by have:=he.size;omega,fun q hq hm=>?_⟩,fun q hq=>(hF q hq).imp _root_.id fun h=>h.imp _root_.id fun h=>by omega,hF2⟩,hr.imp _root_.id fun ⟨r1,r2,r3⟩=>⟨r1,r2,r3.imp _root_.id fun h=>⟨h.1,h.2.1⟩⟩⟩
  rw[he.keep q (by omega) (fun h=>h.elim (fun h=>hm (.inl h)) fun h=>h.elim (fun h=>h) fun h=>hm (.inr h)),hx6.keep q hq (by simp)]
end
end Go.Proofs
end
section
open Go Go.Vc Go.Proofs.Bx
namespace Go.Proofs
def RowsOf(H0 H:Heap)(v:Value)(xs:Octs):Prop:=∃(k:Nat)(a:Option Addr)(c:Nat)(vs:List Value),v=.slice a k c∧xs.length=k*128∧Own H 1 a k c vs∧vs.length=k∧(∀q∈blkOf a,H0.size≤q) ∧
 ∀i,i<k→∃ai,vs[i]?=some (.slice ai 128 128)∧SRow H 1 128 (.slice ai 128 128) (bytesV ((xs.drop (i*128)).take 128))∧(∀q∈blkOf ai,H0.size≤q∧q<H.size)
theorem blk_add{a:Option Addr}{n q:Nat}(hq:q∈blkOf (a.map (·.add n))):q∈blkOf a:=by
 cases a with
 | none=>exact hq
 | some ad=>
  simp only[Option.map_some,blkOf,List.mem_singleton]at hq ⊢
  rw[hq];unfold Addr.add;split<;>rfl
theorem rows_ok{H0 H:Heap}{a:Option Addr}{c N:Nat}{xs:Octs}(ho:Own H 1 a xs.length c (bytesV xs))(hL:xs.length=N*128)(hN:N≤7000)(hs:H0.size≤H.size)(hf:∀q∈blkOf a,H0.size≤q) :
  Does Tryz.prog 164 [.slice a xs.length c,.int .i64 128] H fun v H1=>∃(f:FuncId) (fa fc:Array Value),v=.func (.func f) fa fc∧Does Tryz.prog 163 [.func (.func f) fa fc] H1 fun v H'=>RowsOf H0 H' v xs∧Ext [] H H':=by
 refine(chunk_ok a xs.length c 128 H (by decide)).mono ?_
 rintro _ H1 ⟨rfl,hbA,hbB,hx1,hs1⟩
 refine⟨_,_,_,rfl,(collect_ok H.size (H.size+1) a xs.length c 128 (by rw[hbA.cell];rfl) (by rw[hbB.cell];rfl) (by decide) (by decide) (by omega) ho.2.1).mono ?_⟩
 rintro _ H2 ⟨cnt,a2,c2,g1,g2,rfl,ho2,hfr2,_,hx2⟩
 have hcnt:cnt=N:=by
  have q1:¬N<cnt:=fun hlt=>by have:=g2 N hlt;omega
  omega
 subst hcnt
 have z1:=hx1.size
 have z2:=hx2.size
 refine⟨⟨cnt,a2,c2,_,rfl,hL,ho2,by simp,fun q hq=>by have:=hfr2 q hq;omega,fun i hi=>⟨a.map (·.add (i*128)),?_,?_,fun q hq=>?_⟩⟩,hx1.trans' hx2 (by simp)⟩
 ·have hm:min 128 (xs.length - i*128)=128:=by omega
  simp[hi,chunkAt,hm]
 ·exact srow_sub (((ho.row xs.length c).ext hx1 (by simp)).ext hx2 (by simp)) (by omega)
 ·have hq':=blk_add hq
  have:=hf q hq'
  have:=ho.lt q hq'
  omega
theorem slotI_byt(size refs:Int)(ps:List Pc):Byt (slotI size refs ps):=by
 have hl:Byt (layI size refs ps):=by
  intro z hz
  simp only[layI,List.mem_append,List.mem_flatten,List.mem_map]at hz
  rcases hz with (((h|h)|h)|h)|⟨l,⟨p,_,rfl⟩,h⟩
  ·exact beL_byt _ _ z h
  ·exact beL_byt _ _ z h
  ·exact beL_byt _ _ z h
  ·exact beL_byt _ _ z h
  ·simp only[pcO,List.mem_append]at h
   rcases h with h|h
   ·exact beL_byt _ _ z h
   ·exact beL_byt _ _ z h
 intro z hz
 simp only[slotI,List.mem_append]at hz
 rcases hz with h|h
 ·exact hl z h
 ·have:=(List.mem_replicate.1 h).2
  subst this
  decide
def slotO(s:PSl):Octs:=toU (slotI s.size s.refs s.ps)
theorem toI_slotO(s:PSl):toI (slotO s)=slotI s.size s.refs s.ps:=toI_toU (slotI_byt _ _ _)
def SlotOk(s:PSl):Prop:=s.ps.length≤6∧0≤s.size∧s.size≤9223372036854775807∧0≤s.refs∧s.refs≤9223372036854775807∧∀p∈s.ps,0≤p.s∧p.s≤9223372036854775807∧0≤p.c∧p.c≤9223372036854775807
theorem slotO_length{s:PSl}(h:SlotOk s):(slotO s).length=32:=by
 rw[←toI_len,toI_slotO,slotI_length _ _ _ h.1]
theorem slotOs_length:∀{l:List PSl},(∀s∈l,SlotOk s)→((l.map slotO).flatten).length=l.length*32
 | [],_=>rfl
 | s::l,h=>by
  have:=slotOs_length (l:=l) fun s hs=>h s (List.mem_cons_of_mem _ hs)
  simp only[List.map_cons,List.flatten_cons,List.length_append,this,List.length_cons,slotO_length (h s List.mem_cons_self)]
  omega
def fixO(n:Int)(xs:Octs)(l:List PSl):Octs:=(padO (beU 2 (w64 n))++padO xs)++padO ((l.map slotO).flatten)
def stateV(x:RSt):Value:=.agg #[.slice x.a x.n x.c,.pointer (some ⟨x.tb,0,none⟩),.map (some x.mb)]
set_option maxHeartbeats 1000000 in
theorem fixed_ok{H:Heap}{Fd:Nat→Prop}{x:RSt}{rl:List RSl}{ba:Option Addr}{bc:Nat}{ml:List (Int×Value)}{st:PSt}(h:NowIs H Fd x rl ba bc ml st)(hn:x.n≤1000)(hbl:st.bits.length≤100000)(hso:∀s∈st.slots,SlotOk s)(hh ss bb ff:Int) :
  Does Tryz.prog 117 [layV hh ss bb ff,stateV x] H fun v H'=>∃xs,BytesAre st.bits xs∧RowsOf H H' v (fixO ss xs st.slots)∧Ext [] H H':=by
 refine Fn_of_vc Tryz.mixed (FixedV _ _ _ _ _ _ _ _ _ _ _) ?_
 intro b1 H2 hn1 b3 H4 hn3
 have hx4:=hn1.ext.trans' hn3.ext (by simp)
 have z2:=hn1.size;have z4:=hn3.size;have g1:=hn1.eq;have g3:=hn3.eq
 have hb1:=hn1.blk.ext hn3.ext (by simp)
 have hb3:=hn3.blk
 refine(nwB_ok H4).mono ?_
 rintro _ H6 ⟨rfl,hw6,hx6⟩
 have z6:=hx6.size
 have hb1_6:=hb1.ext hx6 (by simp)
 refine⟨_,rfl,ss,by rw[hb1_6.cell];rfl,(wuB_ok (n:=2) (.inl ⟨rfl,rfl⟩) (fun k hk=>(Nat.le_trans z6 hk:H4.size≤k)) (by simp) hw6).mono ?_⟩
 rintro _ H10 ⟨rfl,hw10,hx10⟩
 rw[List.nil_append]at hw10
 have z10:=hx10.size
 have hl2:(beU 2 (w64 ss)).length=2:=beU_len _ _
 have hA:Ext [] H H10:=(hx4.trans' hx6 (by simp)).transP hx10 (fun i hi=>by have:H4.size≤i:=hi;omega)
 have hB:Ext [] H4 H10:=hx6.transP hx10 (fun i hi=>hi)
 refine⟨rfl,(bytesB_ok (by omega) hw10).mono ?_⟩
 rintro _ H12 ⟨⟨a13,c15,rfl,ho13,hf13⟩,hx12⟩
 refine⟨_,_,_,rfl,(opadded_ok (ho13.row _ _) (by omega)).mono ?_⟩
 rintro _ H17 ⟨⟨a18,c20,rfl,ho18,hf18⟩,hx17⟩
 have hC:Ext [] H4 H17:=(hB.trans' hx12 (by simp)).trans' hx17 (by simp)
 have hD:Ext [] H H17:=(hA.trans' hx12 (by simp)).trans' hx17 (by simp)
 have hb3_17:=hb3.ext hC (by simp)
 have h17:=h.extP (M:=fun _=>False) hD.anyP (fun _ _ h=>h) (fun _ _ h=>h)
 refine⟨_,_,_,rfl,some ⟨x.tb,0,none⟩,by rw[hb3_17.cell];rfl,(bytesbm_ok h17.bits).mono ?_⟩
 rintro _ H23 ⟨a24,c26,xs,hxs,rfl,ho24,hx23,hf24⟩
 have hxl:xs.length=(st.bits.length+7) / 8:=hxs.len
 refine⟨_,_,_,rfl,(opadded_ok (ho24.row _ _) (by omega)).mono ?_⟩
 rintro _ H28 ⟨⟨a29,c31,rfl,ho29,hf29⟩,hx28⟩
 have z12:=hx12.size;have z17:=hx17.size;have z23:=hx23.size;have z28:=hx28.size
 have ho18':=(ho18.ext hx23 (by simp)).ext hx28 (by simp)
 have p1:=padO_length (beU 2 (w64 ss))
 have p2:=padO_length xs
 refine⟨_,_,_,rfl,_,_,ho18'.row _ _,ho29.row _ _,bytesV_one _,by omega,fun hle=>ho18'.room hle,fun a34 c35 H36 happ=>?_⟩
 obtain⟨ho34,hx36,hf34⟩:=happ.own ho18' (ho18'.row _ _) (by simp[bytesV]) rfl
 have z36:=hx36.size
 have hsz4:H.size≤H4.size:=by omega
 have hf18':∀q∈blkOf a18,H.size≤q:=fun q hq=>by have:=hf18 q hq;omega
 have hE:Ext [] H H36:=(((hD.trans' hx23 (by simp)).trans' hx28 (by simp))).trans' hx36 (fun i hi=>.inl (hf18' i hi))
 have hf34':∀q∈blkOf a34,H12.size≤q:=fun q hq=>by
  rcases hf34 q hq with h|h
  ·exact hf18 q h
  ·omega
 have hb3_36:Blk H36 b3 _:=((hb3_17.ext hx23 (by simp)).ext hx28 (by simp)).ext hx36 (fun hm=>by have:=hf18 b3 hm;omega)
 rw[←bytesV_append]at ho34
 refine(nwB_ok H36).mono ?_
 rintro _ H38 ⟨rfl,hw38,hx38⟩
 have z38:=hx38.size
 have hb3_38:=hb3_36.ext hx38 (by simp)
 have hF:Ext [] H H38:=hE.trans' hx38 (by simp)
 have h38:=h.extP (M:=fun _=>False) hF.anyP (fun _ _ h=>h) (fun _ _ h=>h)
 refine⟨_,rfl,x.a,x.n,x.c,by rw[hb3_38.cell];rfl,fun i K=>∃k:Nat,i=k∧k≤x.n∧ExtP (fun q=>H36.size≤q) H38 K∧WB (fun q=>H36.size≤q) K H36.size ((st.slots.take k).map slotO).flatten,fun i _=>(x.n - i).toNat,⟨0,rfl,Nat.zero_le _,ExtP.refl _ _,by simpa using hw38⟩,?_⟩
 rintro _ H46 ⟨k,rfl,hk,hx46,hw46⟩
 have z46:=hx46.size
 have hx46':Ext [] H36 H46:=hx38.transP hx46 (fun i hi=>hi)
 have hG:Ext [] H H46:=hE.trans' hx46' (by simp)
 have h46:=h.extP (M:=fun _=>False) hG.anyP (fun _ _ h=>h) (fun _ _ h=>h)
 have hnl:x.n=st.slots.length:=by have:=h.num;have:=h.len;omega
 refine⟨fun hlt=>?_,fun hge=>?_⟩
 ·have hk':k<st.slots.length:=by omega
  have hkr:k<rl.length:=by have:=h.len;omega
  obtain⟨b,o,ha,c0,c1,c2⟩:=h46.rows.get k rl[k] (List.getElem?_eq_getElem hkr)
  obtain⟨s1,s2,s3,s4,s5⟩:=h46.slot k rl[k] st.slots[k] (List.getElem?_eq_getElem hkr) (List.getElem?_eq_getElem hk')
  refine⟨by omega,by omega,b,o,ha,_,c0,_,c1,_,_,_,c2,fun b54 H55 hn55=>⟨hn55.blk.cells _ _ (by simp),fun H56 hp56=>?_⟩⟩
  obtain⟨hb56,hx56,e56,z56⟩:=new_put hn55 hp56 rfl
  refine⟨_,by rw[hb56.cell];rfl,_,by rw[hb56.cell];rfl,_,_,_,by rw[hb56.cell];rfl,?_⟩
  obtain⟨t1,t2,t3,t4,t5,t6⟩:=hso st.slots[k] (List.getElem_mem hk')
  rw[s1,s2]
  refine(slotlay_ok (s3.ext hx56 (by simp)) t1 t2 t3 t4 t5 t6).mono ?_
  rintro _ H63 ⟨⟨a64,c66,rfl,ho64,hf64⟩,hx63⟩
  have e1:(slotI st.slots[k].size st.slots[k].refs st.slots[k].ps).length=(slotO st.slots[k]).length:=by rw[←toI_len,toI_slotO]
  have e2:u8s (slotI st.slots[k].size st.slots[k].refs st.slots[k].ps)=bytesV (slotO st.slots[k]):=by rw[←toI_slotO,u8s_toI]
  rw[e1,e2]at ho64
  rw[e1]
  have hl32:=slotO_length (hso st.slots[k] (List.getElem_mem hk'))
  have htk:∀s∈st.slots.take k,SlotOk s:=fun s hs=>hso s (List.mem_of_mem_take hs)
  have hwl:=slotOs_length htk
  have z63:=hx63.size
  refine⟨_,_,_,rfl,(wrawB_ok (G:=fun q=>H36.size≤q) (fun q hq=>by omega) (by rw[hwl,List.length_take];omega) (by omega) ((WIs.ext hw46 hx56).ext hx63) (ho64.row _ _)).mono ?_⟩
  rintro _ H68 ⟨rfl,hw68,hx68⟩
  refine⟨rfl,by unfold In64;omega,⟨k+1,by omega,by omega,((hx46.trans hx56.anyP).trans hx63.anyP).trans hx68,?_⟩,by simp only;omega⟩
  have et:(st.slots.take (k+1)).map slotO=(st.slots.take k).map slotO++[slotO st.slots[k]]:=by rw[List.take_add_one,List.getElem?_eq_getElem hk',List.map_append];rfl
  rw[et,List.flatten_append]
  simpa using hw68
 ·have hk':k=st.slots.length:=by omega
  subst hk'
  rw[List.take_length]at hw46
  have hwl:=slotOs_length hso
  refine(bytesB_ok (by rw[hwl];omega) hw46).mono ?_
  rintro _ H70 ⟨⟨a71,c73,rfl,ho71,hf71⟩,hx70⟩
  refine⟨_,_,_,rfl,(opadded_ok (ho71.row _ _) (by rw[hwl];omega)).mono ?_⟩
  rintro _ H75 ⟨⟨a76,c78,rfl,ho76,hf76⟩,hx75⟩
  have z70:=hx70.size;have z75:=hx75.size
  have hx36_75:Ext [] H36 H75:=(hx46'.trans' hx70 (by simp)).trans' hx75 (by simp)
  have ho34':=ho34.ext hx36_75 (by simp)
  have e1:(padO (beU 2 (w64 ss))).length+(padO xs).length=(padO (beU 2 (w64 ss))++padO xs).length:=by simp
  rw[e1]at ho34' ⊢
  have p3:=padO_length (st.slots.map slotO).flatten
  have e3:(padO (beU 2 (w64 ss))++padO xs).length=(padO (beU 2 (w64 ss))).length+(padO xs).length:=by simp
  refine⟨_,_,_,rfl,_,_,ho34'.row _ _,ho76.row _ _,bytesV_one _,by omega,fun hle=>ho34'.room hle,fun a81 c82 H83 happ2=>?_⟩
  obtain⟨ho81,hx83,hf81⟩:=happ2.own ho34' (ho34'.row _ _) (by rw[bytesV_length];omega) rfl
  rw[←bytesV_append]at ho81
  have e4:(padO (beU 2 (w64 ss))++padO xs).length+(padO (st.slots.map slotO).flatten).length=(fixO ss xs st.slots).length:=by unfold fixO;rw[List.length_append (bs:=padO (st.slots.map slotO).flatten)]
  rw[e4]at ho81 ⊢
  have z83:=hx83.size
  have e5:(fixO ss xs st.slots).length=((2+127) / 128+(xs.length+127) / 128+(st.slots.length*32+127) / 128)*128:=by rw[←e4,e3,p1,p2,p3,hwl,hl2];omega
  have hf81':∀q∈blkOf a81,H.size≤q:=fun q hq=>by
   rcases hf81 q hq with h'|h'
   ·have:=hf34' q h';omega
   ·omega
  refine(rows_ok (H0:=H) ho81 e5 (by omega) (by omega) hf81').mono ?_
  rintro _ H85 ⟨f,fa,fc,rfl,hd⟩
  refine⟨f,fa,fc,rfl,hd.mono ?_⟩
  rintro _ H90 ⟨hr,hx90⟩
  obtain⟨k,a,c,vs,rfl,r⟩:=hr
  refine⟨a,k,c,rfl,xs,hxs,⟨k,a,c,vs,rfl,r⟩,?_⟩
  exact((hE.trans' hx36_75 (by simp)).trans' hx83 (fun i hi=>.inl (by have:=hf34' i hi;omega))).trans' hx90 (by simp)
end Go.Proofs
end
section
open Go Go.Vc Go.Proofs.Bx
namespace Go.Proofs
def noSl:RSl:=⟨0,0,none,0,0⟩
def emptyP(h s f:Int):PSt:={slots:=List.replicate s.toNat ⟨0,0,[]⟩,bits:=setAll (List.replicate h.toNat false) ((List.range f.toNat).map fun (k:Nat)=>(k:Int)) true,data:=fun _=>none}
def EmMid(H0:Heap)(s h:Nat)(v:Value)(H:Heap):Prop:=
 ∃b3 x ba bc,v=.pointer (some ⟨b3,0,none⟩)∧Ext [] H0 H∧Blk H b3 (rstV x)∧x.n=s∧Own H 3 x.a s x.c (rslsV (List.replicate s noSl))∧IsB H x.tb ba bc (List.replicate h false)∧MapIs H x.mb [] ∧
  H0.size≤b3∧(∀q∈blkOf x.a,H0.size≤q)∧H0.size≤x.tb∧(∀q∈blkOf ba,H0.size≤q)∧H0.size≤x.mb∧x.tb∉blkOf x.a∧(∀q∈blkOf ba,q∉blkOf x.a)∧b3∉blkOf ba∧b3≠x.tb∧b3∉blkOf x.a
theorem newb_ok(k:Int)(H:Heap)(hk:k≤1000000000000):Does Tryz.prog 175 [.int .i64 k] H fun v H'=>∃pb ba bc,v=.pointer (some ⟨pb,0,none⟩)∧IsB H' pb ba bc (List.replicate k.toNat false)∧Ext [] H H'∧H.size≤pb∧∀q∈blkOf ba,H.size≤q:=by
 refine(Bx.new_ok k H hk).mono ?_
 rintro _ H' ⟨pb,bb,rfl,h1,h2,h3,h4⟩
 refine⟨pb,_,_,rfl,⟨_,by simpa using h1,⟨by simp,fun j=>?_⟩⟩,h2,h3,fun q hq=>by simp[blkOf]at hq;omega⟩
 rw[bit_zero]
 unfold onB
 rw[List.getD_eq_getElem?_getD,List.getElem?_replicate]
 split<;>rfl
theorem slotsV_new(n:Nat):List.flatten (List.replicate n [Value.int .i64 0,.int .i64 0,.slice none 0 0])=rslsV (List.replicate n noSl):=by
 unfold rslsV
 rw[List.map_replicate]
 rfl
set_option maxHeartbeats 4000000 in
theorem emMid_ok{H:Heap}{p1:Nat}{h s b f:Int}(hb:Blk H p1 [.int .i64 h,.int .i64 s,.int .i64 b,.int .i64 f])(hss0:0≤s)(hss:s≤1000000)(hh:h≤1000000000):Part Tryz.prog 118 1 [(1,.v (.pointer (some ⟨p1,0,none⟩)))] [3] H (EmMid H s.toNat h.toNat):=by
 rw[EmB]
 have c0:hcell H p1 0=some (.int .i64 h):=by rw[hb.cell];rfl
 have c1:hcell H p1 (0+1)=some (.int .i64 s):=by rw[hb.cell];rfl
 refine⟨s,c1,h,c0,?_⟩
 have k0:∀{H':Heap},Ext [] H H'→isL H' p1 0 [.int .i64 h]:=fun h=>⟨hcell_ext c0 h (by simp),trivial⟩
 have k1:∀{H':Heap},Ext [] H H'→isL H' p1 (0+1) [.int .i64 s]:=fun h=>⟨hcell_ext c1 h (by simp),trivial⟩
 have S:∀{H' H'':Heap} {b:Nat},Ext [] H H'→New H' b (List.flatten (List.replicate (Int.toNat s) [.int .i64 0,.int .i64 0,.slice none 0 0])) 147 H''→Own H'' 3 (some ⟨b,0,none⟩) s.toNat s.toNat (rslsV (List.replicate s.toNat noSl))∧Ext [] H' H''∧H.size≤b∧b=H'.size:=fun {H' H'' b} h hn=>by
  refine⟨?_,hn.ext,by rw[hn.eq];exact h.size,hn.eq⟩
  have h1:=hn.blk
  rw[slotsV_new]at h1
  refine⟨by rw[rslsV_length,List.length_replicate],Nat.le_refl _,by unfold maxLen;omega,.inr ⟨b,[],rfl,by rw[List.append_nil];exact h1,by rw[List.append_nil,rslsV_length,List.length_replicate]⟩⟩
 have B:∀{H':Heap},Ext [] H H'→Does Tryz.prog 175 [.int .i64 h] H' fun v H''=>∃pb' a' c',v=.pointer (some ⟨pb',0,none⟩)∧IsB H'' pb' a' c' (List.replicate h.toNat false)∧Ext [] H' H''∧H.size≤pb'∧(∀q,q∈blkOf a'→H.size≤q)∧H'.size≤pb'∧(∀q,q∈blkOf a'→H'.size≤q):=fun {H'} hx=>(newb_ok h H' (by omega)).mono fun v H'' ⟨pb',a',c',h1,h2,h3,h4,h5⟩=>⟨pb',a',c',h1,h2,h3,Nat.le_trans hx.size h4,fun q hq=>Nat.le_trans hx.size (h5 q hq),h4,h5⟩
 have N:∀{H' H'':Heap} {r:Nat},Ext [] H H'→NewMap H' r H''→MapIs H'' r []∧Ext [] H' H''∧H.size≤r:=fun {H' H'' r} h hn=>by
  have hx:=NewMap.ext hn
  obtain⟨rfl,rfl⟩:=hn
  exact⟨⟨#[],0,by simp,rfl,MapKept.stamped_empty _⟩,hx,h.size⟩
 have A:∀{H' H'':Heap} {b:Nat},Ext [] H H'→New H' b [.slice none 0 0,.pointer none,.map none] 136 H''→Blk H'' b [.slice none 0 0,.pointer none,.map none]∧Ext [] H' H''∧H.size≤b:=fun {H' H'' b} h hn=>⟨hn.blk,hn.ext,by rw[hn.eq];exact h.size⟩
 have fin:∀{H':Heap} {b3 bS pb r:Nat} {ba':Option Addr} {bc':Nat},Ext [] H H'→Blk H' b3 [.slice none 0 0,.pointer none,.map none]→H.size≤b3→Own H' 3 (some ⟨bS,0,none⟩) s.toNat s.toNat (rslsV (List.replicate s.toNat noSl))→H.size≤bS→b3≠bS→IsB H' pb ba' bc' (List.replicate h.toNat false)→H.size≤pb→(∀q,q∈blkOf ba'→H.size≤q)→pb≠b3→b3∉blkOf ba'→pb≠bS→bS∉blkOf ba'→MapIs H' r []→H.size≤r →
   Cells H' b3 0 3∧∀H'':Heap,Puts H' b3 0 [.slice (some ⟨bS,0,none⟩) s.toNat s.toNat,.pointer (some ⟨pb,0,none⟩),.map (some r)] H''→EmMid H s.toNat h.toNat (.pointer (some ⟨b3,0,none⟩)) H'':=by
  intro H' b3 bS pb r ba' bc' hx h1 h2 h3 h4 h5 h6 h7 h8 h9 h10 h13 h14 h11 h12
  refine⟨h1.cells 3 0 (by simp),fun H'' hp=>?_⟩
  have hpx:=hp.ext
  have hbr:b3≠r:=fun e=>by
   subst e
   obtain⟨e1,g1⟩:=h1
   obtain⟨es,c,g2,_⟩:=h11
   rw[g1]at g2;cases g2
  refine⟨b3,⟨some ⟨bS,0,none⟩,s.toNat,s.toNat,pb,r⟩,ba',bc',rfl,⟨Nat.le_trans hx.size hpx.size,fun k hk _=>?_⟩,hp.blk h1 (by simp),rfl,h3.ext hpx (fun q hq=>?_),h6.ext hpx (by simpa using h9) (fun q hq=>?_),MapIs.ext h11 hpx (by simpa using Ne.symm hbr),h2,fun q hq=>?_,h7,h8,h12,?_,fun q hq hq2=>?_,h10,Ne.symm h9,?_⟩
  ·rw[hpx.keep k (by have:=hx.size;omega) (by simp;omega)];exact hx.keep k hk (by simp)
  ·simp only[blkOf,List.mem_singleton]at hq;subst hq;simpa using Ne.symm h5
  ·simp only[List.mem_singleton];rintro rfl;exact h10 hq
  ·simp only[blkOf,List.mem_singleton]at hq;omega
  ·simpa[blkOf]using h13
  ·simp only[blkOf,List.mem_singleton]at hq2;subst hq2;exact h14 hq
  ·simpa[blkOf]using h5
 have X:=Ext.refl [] H
 refine⟨?_,?_⟩
 ·refine⟨hss0,Int.le_refl _,by omega,fun bS H2 hn=>?_⟩
  obtain⟨hS,hx,hS2,hS3⟩:=S X hn
  replace X:=X.trans' hx (by simp)
  refine⟨k0 X,?_⟩
  refine⟨?_,?_⟩
  ·have hSlt0:=hS.lt bS (by simp[blkOf])
   refine(B X).mono ?_
   rintro _ H2 ⟨pb',ba',bc',rfl,hB,hx,hB2,hB3,hB4,hB5⟩
   replace X:=X.trans' hx (by simp)
   refine⟨_,rfl,k1 X,?_⟩
   have d3:pb'≠bS:=by omega
   have d4:bS∉blkOf ba':=fun h=>by have:=hB5 _ h;omega
   replace hS:=hS.ext hx (by simp)
   refine⟨?_,?_⟩
   ·intro r H2 hn
    obtain⟨hM,hx,hM2⟩:=N X hn
    replace X:=X.trans' hx (by simp)
    refine⟨k0 X,k1 X,?_⟩
    replace hS:=hS.ext hx (by simp)
    replace hB:=hB.ext hx (by simp) (by simp)
    have hBlt:=hB.lt
    have hSlt:=hS.lt bS (by simp[blkOf])
    intro b H2 hn
    have hnb:=hn.eq
    obtain⟨hA,hx,hA2⟩:=A X hn
    replace X:=X.trans' hx (by simp)
    refine⟨k0 X,k1 X,?_⟩
    have dS:b≠bS:=by omega
    have d1:pb'≠b:=by have:=hBlt.1;omega
    have d2:b∉blkOf ba':=fun h=>by have:=hBlt.2 _ h;omega
    replace hS:=hS.ext hx (by simp)
    replace hB:=hB.ext hx (by simp) (by simp)
    replace hM:=MapIs.ext hM hx (by simp)
    exact fin X hA hA2 hS hS2 dS hB hB2 hB3 d1 d2 d3 d4 hM hM2
   ·have hBlt:=hB.lt
    have hSlt:=hS.lt bS (by simp[blkOf])
    intro b H2 hn
    have hnb:=hn.eq
    obtain⟨hA,hx,hA2⟩:=A X hn
    replace X:=X.trans' hx (by simp)
    refine⟨k0 X,k1 X,?_⟩
    have dS:b≠bS:=by omega
    have d1:pb'≠b:=by have:=hBlt.1;omega
    have d2:b∉blkOf ba':=fun h=>by have:=hBlt.2 _ h;omega
    replace hS:=hS.ext hx (by simp)
    replace hB:=hB.ext hx (by simp) (by simp)
    intro r H2 hn
    obtain⟨hM,hx,hM2⟩:=N X hn
    replace X:=X.trans' hx (by simp)
    refine⟨k0 X,k1 X,?_⟩
    replace hS:=hS.ext hx (by simp)
    replace hB:=hB.ext hx (by simp) (by simp)
    replace hA:=hA.ext hx (by simp)
    exact fin X hA hA2 hS hS2 dS hB hB2 hB3 d1 d2 d3 d4 hM hM2
  ·refine⟨?_,?_⟩
   ·intro r H2 hn
    obtain⟨hM,hx,hM2⟩:=N X hn
    replace X:=X.trans' hx (by simp)
    refine⟨k0 X,k1 X,?_⟩
    replace hS:=hS.ext hx (by simp)
    refine⟨?_,?_⟩
    ·have hSlt0:=hS.lt bS (by simp[blkOf])
     refine(B X).mono ?_
     rintro _ H2 ⟨pb',ba',bc',rfl,hB,hx,hB2,hB3,hB4,hB5⟩
     replace X:=X.trans' hx (by simp)
     refine⟨_,rfl,k1 X,?_⟩
     have d3:pb'≠bS:=by omega
     have d4:bS∉blkOf ba':=fun h=>by have:=hB5 _ h;omega
     replace hS:=hS.ext hx (by simp)
     replace hM:=MapIs.ext hM hx (by simp)
     have hBlt:=hB.lt
     have hSlt:=hS.lt bS (by simp[blkOf])
     intro b H2 hn
     have hnb:=hn.eq
     obtain⟨hA,hx,hA2⟩:=A X hn
     replace X:=X.trans' hx (by simp)
     refine⟨k0 X,k1 X,?_⟩
     have dS:b≠bS:=by omega
     have d1:pb'≠b:=by have:=hBlt.1;omega
     have d2:b∉blkOf ba':=fun h=>by have:=hBlt.2 _ h;omega
     replace hS:=hS.ext hx (by simp)
     replace hM:=MapIs.ext hM hx (by simp)
     replace hB:=hB.ext hx (by simp) (by simp)
     exact fin X hA hA2 hS hS2 dS hB hB2 hB3 d1 d2 d3 d4 hM hM2
    ·have hSlt:=hS.lt bS (by simp[blkOf])
     intro b H2 hn
     have hnb:=hn.eq
     obtain⟨hA,hx,hA2⟩:=A X hn
     replace X:=X.trans' hx (by simp)
     refine⟨k0 X,k1 X,?_⟩
     have dS:b≠bS:=by omega
     replace hS:=hS.ext hx (by simp)
     replace hM:=MapIs.ext hM hx (by simp)
     have hSlt0:=hS.lt bS (by simp[blkOf])
     have hAlt:=hA.lt
     refine(B X).mono ?_
     rintro _ H2 ⟨pb',ba',bc',rfl,hB,hx,hB2,hB3,hB4,hB5⟩
     replace X:=X.trans' hx (by simp)
     refine⟨_,rfl,k1 X,?_⟩
     have d1:pb'≠b:=by omega
     have d2:b∉blkOf ba':=fun h=>by have:=hB5 _ h;omega
     have d3:pb'≠bS:=by omega
     have d4:bS∉blkOf ba':=fun h=>by have:=hB5 _ h;omega
     replace hS:=hS.ext hx (by simp)
     replace hM:=MapIs.ext hM hx (by simp)
     replace hA:=hA.ext hx (by simp)
     exact fin X hA hA2 hS hS2 dS hB hB2 hB3 d1 d2 d3 d4 hM hM2
   ·have hSlt:=hS.lt bS (by simp[blkOf])
    intro b H2 hn
    have hnb:=hn.eq
    obtain⟨hA,hx,hA2⟩:=A X hn
    replace X:=X.trans' hx (by simp)
    refine⟨k0 X,k1 X,?_⟩
    have dS:b≠bS:=by omega
    replace hS:=hS.ext hx (by simp)
    refine⟨?_,?_⟩
    ·have hSlt0:=hS.lt bS (by simp[blkOf])
     have hAlt:=hA.lt
     refine(B X).mono ?_
     rintro _ H2 ⟨pb',ba',bc',rfl,hB,hx,hB2,hB3,hB4,hB5⟩
     replace X:=X.trans' hx (by simp)
     refine⟨_,rfl,k1 X,?_⟩
     have d1:pb'≠b:=by omega
     have d2:b∉blkOf ba':=fun h=>by have:=hB5 _ h;omega
     have d3:pb'≠bS:=by omega
     have d4:bS∉blkOf ba':=fun h=>by have:=hB5 _ h;omega
     replace hS:=hS.ext hx (by simp)
     replace hA:=hA.ext hx (by simp)
     intro r H2 hn
     obtain⟨hM,hx,hM2⟩:=N X hn
     replace X:=X.trans' hx (by simp)
     refine⟨k0 X,k1 X,?_⟩
     replace hS:=hS.ext hx (by simp)
     replace hA:=hA.ext hx (by simp)
     replace hB:=hB.ext hx (by simp) (by simp)
     exact fin X hA hA2 hS hS2 dS hB hB2 hB3 d1 d2 d3 d4 hM hM2
    ·intro r H2 hn
     obtain⟨hM,hx,hM2⟩:=N X hn
     replace X:=X.trans' hx (by simp)
     refine⟨k0 X,k1 X,?_⟩
     replace hS:=hS.ext hx (by simp)
     replace hA:=hA.ext hx (by simp)
     have hSlt0:=hS.lt bS (by simp[blkOf])
     have hAlt:=hA.lt
     refine(B X).mono ?_
     rintro _ H2 ⟨pb',ba',bc',rfl,hB,hx,hB2,hB3,hB4,hB5⟩
     replace X:=X.trans' hx (by simp)
     refine⟨_,rfl,k1 X,?_⟩
     have d1:pb'≠b:=by omega
     have d2:b∉blkOf ba':=fun h=>by have:=hB5 _ h;omega
     have d3:pb'≠bS:=by omega
     have d4:bS∉blkOf ba':=fun h=>by have:=hB5 _ h;omega
     replace hS:=hS.ext hx (by simp)
     replace hA:=hA.ext hx (by simp)
     replace hM:=MapIs.ext hM hx (by simp)
     exact fin X hA hA2 hS hS2 dS hB hB2 hB3 d1 d2 d3 d4 hM hM2
 ·refine⟨?_,?_⟩
  ·refine(B X).mono ?_
   rintro _ H2 ⟨pb',ba',bc',rfl,hB,hx,hB2,hB3,hB4,hB5⟩
   replace X:=X.trans' hx (by simp)
   refine⟨_,rfl,k1 X,?_⟩
   refine⟨?_,?_⟩
   ·have hBlt0:=hB.lt
    refine⟨hss0,Int.le_refl _,by omega,fun bS H2 hn=>?_⟩
    obtain⟨hS,hx,hS2,hS3⟩:=S X hn
    replace X:=X.trans' hx (by simp)
    refine⟨k0 X,?_⟩
    have d3:pb'≠bS:=by have:=hBlt0.1;omega
    have d4:bS∉blkOf ba':=fun h=>by have:=hBlt0.2 _ h;omega
    replace hB:=hB.ext hx (by simp) (by simp)
    refine⟨?_,?_⟩
    ·intro r H2 hn
     obtain⟨hM,hx,hM2⟩:=N X hn
     replace X:=X.trans' hx (by simp)
     refine⟨k0 X,k1 X,?_⟩
     replace hB:=hB.ext hx (by simp) (by simp)
     replace hS:=hS.ext hx (by simp)
     have hBlt:=hB.lt
     have hSlt:=hS.lt bS (by simp[blkOf])
     intro b H2 hn
     have hnb:=hn.eq
     obtain⟨hA,hx,hA2⟩:=A X hn
     replace X:=X.trans' hx (by simp)
     refine⟨k0 X,k1 X,?_⟩
     have dS:b≠bS:=by omega
     have d1:pb'≠b:=by have:=hBlt.1;omega
     have d2:b∉blkOf ba':=fun h=>by have:=hBlt.2 _ h;omega
     replace hB:=hB.ext hx (by simp) (by simp)
     replace hS:=hS.ext hx (by simp)
     replace hM:=MapIs.ext hM hx (by simp)
     exact fin X hA hA2 hS hS2 dS hB hB2 hB3 d1 d2 d3 d4 hM hM2
    ·have hBlt:=hB.lt
     have hSlt:=hS.lt bS (by simp[blkOf])
     intro b H2 hn
     have hnb:=hn.eq
     obtain⟨hA,hx,hA2⟩:=A X hn
     replace X:=X.trans' hx (by simp)
     refine⟨k0 X,k1 X,?_⟩
     have dS:b≠bS:=by omega
     have d1:pb'≠b:=by have:=hBlt.1;omega
     have d2:b∉blkOf ba':=fun h=>by have:=hBlt.2 _ h;omega
     replace hB:=hB.ext hx (by simp) (by simp)
     replace hS:=hS.ext hx (by simp)
     intro r H2 hn
     obtain⟨hM,hx,hM2⟩:=N X hn
     replace X:=X.trans' hx (by simp)
     refine⟨k0 X,k1 X,?_⟩
     replace hB:=hB.ext hx (by simp) (by simp)
     replace hS:=hS.ext hx (by simp)
     replace hA:=hA.ext hx (by simp)
     exact fin X hA hA2 hS hS2 dS hB hB2 hB3 d1 d2 d3 d4 hM hM2
   ·refine⟨?_,?_⟩
    ·intro r H2 hn
     obtain⟨hM,hx,hM2⟩:=N X hn
     replace X:=X.trans' hx (by simp)
     refine⟨k0 X,k1 X,?_⟩
     replace hB:=hB.ext hx (by simp) (by simp)
     refine⟨?_,?_⟩
     ·have hBlt0:=hB.lt
      refine⟨hss0,Int.le_refl _,by omega,fun bS H2 hn=>?_⟩
      obtain⟨hS,hx,hS2,hS3⟩:=S X hn
      replace X:=X.trans' hx (by simp)
      refine⟨k0 X,?_⟩
      have d3:pb'≠bS:=by have:=hBlt0.1;omega
      have d4:bS∉blkOf ba':=fun h=>by have:=hBlt0.2 _ h;omega
      replace hB:=hB.ext hx (by simp) (by simp)
      replace hM:=MapIs.ext hM hx (by simp)
      have hBlt:=hB.lt
      have hSlt:=hS.lt bS (by simp[blkOf])
      intro b H2 hn
      have hnb:=hn.eq
      obtain⟨hA,hx,hA2⟩:=A X hn
      replace X:=X.trans' hx (by simp)
      refine⟨k0 X,k1 X,?_⟩
      have dS:b≠bS:=by omega
      have d1:pb'≠b:=by have:=hBlt.1;omega
      have d2:b∉blkOf ba':=fun h=>by have:=hBlt.2 _ h;omega
      replace hB:=hB.ext hx (by simp) (by simp)
      replace hM:=MapIs.ext hM hx (by simp)
      replace hS:=hS.ext hx (by simp)
      exact fin X hA hA2 hS hS2 dS hB hB2 hB3 d1 d2 d3 d4 hM hM2
     ·have hBlt:=hB.lt
      intro b H2 hn
      have hnb:=hn.eq
      obtain⟨hA,hx,hA2⟩:=A X hn
      replace X:=X.trans' hx (by simp)
      refine⟨k0 X,k1 X,?_⟩
      have d1:pb'≠b:=by have:=hBlt.1;omega
      have d2:b∉blkOf ba':=fun h=>by have:=hBlt.2 _ h;omega
      replace hB:=hB.ext hx (by simp) (by simp)
      replace hM:=MapIs.ext hM hx (by simp)
      have hBlt0:=hB.lt
      have hAlt:=hA.lt
      refine⟨hss0,Int.le_refl _,by omega,fun bS H2 hn=>?_⟩
      obtain⟨hS,hx,hS2,hS3⟩:=S X hn
      replace X:=X.trans' hx (by simp)
      refine⟨k0 X,?_⟩
      have dS:b≠bS:=by omega
      have d3:pb'≠bS:=by have:=hBlt0.1;omega
      have d4:bS∉blkOf ba':=fun h=>by have:=hBlt0.2 _ h;omega
      replace hB:=hB.ext hx (by simp) (by simp)
      replace hM:=MapIs.ext hM hx (by simp)
      replace hA:=hA.ext hx (by simp)
      exact fin X hA hA2 hS hS2 dS hB hB2 hB3 d1 d2 d3 d4 hM hM2
    ·have hBlt:=hB.lt
     intro b H2 hn
     have hnb:=hn.eq
     obtain⟨hA,hx,hA2⟩:=A X hn
     replace X:=X.trans' hx (by simp)
     refine⟨k0 X,k1 X,?_⟩
     have d1:pb'≠b:=by have:=hBlt.1;omega
     have d2:b∉blkOf ba':=fun h=>by have:=hBlt.2 _ h;omega
     replace hB:=hB.ext hx (by simp) (by simp)
     refine⟨?_,?_⟩
     ·have hBlt0:=hB.lt
      have hAlt:=hA.lt
      refine⟨hss0,Int.le_refl _,by omega,fun bS H2 hn=>?_⟩
      obtain⟨hS,hx,hS2,hS3⟩:=S X hn
      replace X:=X.trans' hx (by simp)
      refine⟨k0 X,?_⟩
      have dS:b≠bS:=by omega
      have d3:pb'≠bS:=by have:=hBlt0.1;omega
      have d4:bS∉blkOf ba':=fun h=>by have:=hBlt0.2 _ h;omega
      replace hB:=hB.ext hx (by simp) (by simp)
      replace hA:=hA.ext hx (by simp)
      intro r H2 hn
      obtain⟨hM,hx,hM2⟩:=N X hn
      replace X:=X.trans' hx (by simp)
      refine⟨k0 X,k1 X,?_⟩
      replace hB:=hB.ext hx (by simp) (by simp)
      replace hA:=hA.ext hx (by simp)
      replace hS:=hS.ext hx (by simp)
      exact fin X hA hA2 hS hS2 dS hB hB2 hB3 d1 d2 d3 d4 hM hM2
     ·intro r H2 hn
      obtain⟨hM,hx,hM2⟩:=N X hn
      replace X:=X.trans' hx (by simp)
      refine⟨k0 X,k1 X,?_⟩
      replace hB:=hB.ext hx (by simp) (by simp)
      replace hA:=hA.ext hx (by simp)
      have hBlt0:=hB.lt
      have hAlt:=hA.lt
      refine⟨hss0,Int.le_refl _,by omega,fun bS H2 hn=>?_⟩
      obtain⟨hS,hx,hS2,hS3⟩:=S X hn
      replace X:=X.trans' hx (by simp)
      refine⟨k0 X,?_⟩
      have dS:b≠bS:=by omega
      have d3:pb'≠bS:=by have:=hBlt0.1;omega
      have d4:bS∉blkOf ba':=fun h=>by have:=hBlt0.2 _ h;omega
      replace hB:=hB.ext hx (by simp) (by simp)
      replace hA:=hA.ext hx (by simp)
      replace hM:=MapIs.ext hM hx (by simp)
      exact fin X hA hA2 hS hS2 dS hB hB2 hB3 d1 d2 d3 d4 hM hM2
  ·refine⟨?_,?_⟩
   ·intro r H2 hn
    obtain⟨hM,hx,hM2⟩:=N X hn
    replace X:=X.trans' hx (by simp)
    refine⟨k0 X,k1 X,?_⟩
    refine⟨?_,?_⟩
    ·refine⟨hss0,Int.le_refl _,by omega,fun bS H2 hn=>?_⟩
     obtain⟨hS,hx,hS2,hS3⟩:=S X hn
     replace X:=X.trans' hx (by simp)
     refine⟨k0 X,?_⟩
     replace hM:=MapIs.ext hM hx (by simp)
     refine⟨?_,?_⟩
     ·have hSlt0:=hS.lt bS (by simp[blkOf])
      refine(B X).mono ?_
      rintro _ H2 ⟨pb',ba',bc',rfl,hB,hx,hB2,hB3,hB4,hB5⟩
      replace X:=X.trans' hx (by simp)
      refine⟨_,rfl,k1 X,?_⟩
      have d3:pb'≠bS:=by omega
      have d4:bS∉blkOf ba':=fun h=>by have:=hB5 _ h;omega
      replace hM:=MapIs.ext hM hx (by simp)
      replace hS:=hS.ext hx (by simp)
      have hBlt:=hB.lt
      have hSlt:=hS.lt bS (by simp[blkOf])
      intro b H2 hn
      have hnb:=hn.eq
      obtain⟨hA,hx,hA2⟩:=A X hn
      replace X:=X.trans' hx (by simp)
      refine⟨k0 X,k1 X,?_⟩
      have dS:b≠bS:=by omega
      have d1:pb'≠b:=by have:=hBlt.1;omega
      have d2:b∉blkOf ba':=fun h=>by have:=hBlt.2 _ h;omega
      replace hM:=MapIs.ext hM hx (by simp)
      replace hS:=hS.ext hx (by simp)
      replace hB:=hB.ext hx (by simp) (by simp)
      exact fin X hA hA2 hS hS2 dS hB hB2 hB3 d1 d2 d3 d4 hM hM2
     ·have hSlt:=hS.lt bS (by simp[blkOf])
      intro b H2 hn
      have hnb:=hn.eq
      obtain⟨hA,hx,hA2⟩:=A X hn
      replace X:=X.trans' hx (by simp)
      refine⟨k0 X,k1 X,?_⟩
      have dS:b≠bS:=by omega
      replace hM:=MapIs.ext hM hx (by simp)
      replace hS:=hS.ext hx (by simp)
      have hSlt0:=hS.lt bS (by simp[blkOf])
      have hAlt:=hA.lt
      refine(B X).mono ?_
      rintro _ H2 ⟨pb',ba',bc',rfl,hB,hx,hB2,hB3,hB4,hB5⟩
      replace X:=X.trans' hx (by simp)
      refine⟨_,rfl,k1 X,?_⟩
      have d1:pb'≠b:=by omega
      have d2:b∉blkOf ba':=fun h=>by have:=hB5 _ h;omega
      have d3:pb'≠bS:=by omega
      have d4:bS∉blkOf ba':=fun h=>by have:=hB5 _ h;omega
      replace hM:=MapIs.ext hM hx (by simp)
      replace hS:=hS.ext hx (by simp)
      replace hA:=hA.ext hx (by simp)
      exact fin X hA hA2 hS hS2 dS hB hB2 hB3 d1 d2 d3 d4 hM hM2
    ·refine⟨?_,?_⟩
     ·refine(B X).mono ?_
      rintro _ H2 ⟨pb',ba',bc',rfl,hB,hx,hB2,hB3,hB4,hB5⟩
      replace X:=X.trans' hx (by simp)
      refine⟨_,rfl,k1 X,?_⟩
      replace hM:=MapIs.ext hM hx (by simp)
      refine⟨?_,?_⟩
      ·have hBlt0:=hB.lt
       refine⟨hss0,Int.le_refl _,by omega,fun bS H2 hn=>?_⟩
       obtain⟨hS,hx,hS2,hS3⟩:=S X hn
       replace X:=X.trans' hx (by simp)
       refine⟨k0 X,?_⟩
       have d3:pb'≠bS:=by have:=hBlt0.1;omega
       have d4:bS∉blkOf ba':=fun h=>by have:=hBlt0.2 _ h;omega
       replace hM:=MapIs.ext hM hx (by simp)
       replace hB:=hB.ext hx (by simp) (by simp)
       have hBlt:=hB.lt
       have hSlt:=hS.lt bS (by simp[blkOf])
       intro b H2 hn
       have hnb:=hn.eq
       obtain⟨hA,hx,hA2⟩:=A X hn
       replace X:=X.trans' hx (by simp)
       refine⟨k0 X,k1 X,?_⟩
       have dS:b≠bS:=by omega
       have d1:pb'≠b:=by have:=hBlt.1;omega
       have d2:b∉blkOf ba':=fun h=>by have:=hBlt.2 _ h;omega
       replace hM:=MapIs.ext hM hx (by simp)
       replace hB:=hB.ext hx (by simp) (by simp)
       replace hS:=hS.ext hx (by simp)
       exact fin X hA hA2 hS hS2 dS hB hB2 hB3 d1 d2 d3 d4 hM hM2
      ·have hBlt:=hB.lt
       intro b H2 hn
       have hnb:=hn.eq
       obtain⟨hA,hx,hA2⟩:=A X hn
       replace X:=X.trans' hx (by simp)
       refine⟨k0 X,k1 X,?_⟩
       have d1:pb'≠b:=by have:=hBlt.1;omega
       have d2:b∉blkOf ba':=fun h=>by have:=hBlt.2 _ h;omega
       replace hM:=MapIs.ext hM hx (by simp)
       replace hB:=hB.ext hx (by simp) (by simp)
       have hBlt0:=hB.lt
       have hAlt:=hA.lt
       refine⟨hss0,Int.le_refl _,by omega,fun bS H2 hn=>?_⟩
       obtain⟨hS,hx,hS2,hS3⟩:=S X hn
       replace X:=X.trans' hx (by simp)
       refine⟨k0 X,?_⟩
       have dS:b≠bS:=by omega
       have d3:pb'≠bS:=by have:=hBlt0.1;omega
       have d4:bS∉blkOf ba':=fun h=>by have:=hBlt0.2 _ h;omega
       replace hM:=MapIs.ext hM hx (by simp)
       replace hB:=hB.ext hx (by simp) (by simp)
       replace hA:=hA.ext hx (by simp)
       exact fin X hA hA2 hS hS2 dS hB hB2 hB3 d1 d2 d3 d4 hM hM2
     ·intro b H2 hn
      have hnb:=hn.eq
      obtain⟨hA,hx,hA2⟩:=A X hn
      replace X:=X.trans' hx (by simp)
      refine⟨k0 X,k1 X,?_⟩
      replace hM:=MapIs.ext hM hx (by simp)
      refine⟨?_,?_⟩
      ·have hAlt:=hA.lt
       refine⟨hss0,Int.le_refl _,by omega,fun bS H2 hn=>?_⟩
       obtain⟨hS,hx,hS2,hS3⟩:=S X hn
       replace X:=X.trans' hx (by simp)
       refine⟨k0 X,?_⟩
       have dS:b≠bS:=by omega
       replace hM:=MapIs.ext hM hx (by simp)
       replace hA:=hA.ext hx (by simp)
       have hSlt0:=hS.lt bS (by simp[blkOf])
       have hAlt:=hA.lt
       refine(B X).mono ?_
       rintro _ H2 ⟨pb',ba',bc',rfl,hB,hx,hB2,hB3,hB4,hB5⟩
       replace X:=X.trans' hx (by simp)
       refine⟨_,rfl,k1 X,?_⟩
       have d1:pb'≠b:=by omega
       have d2:b∉blkOf ba':=fun h=>by have:=hB5 _ h;omega
       have d3:pb'≠bS:=by omega
       have d4:bS∉blkOf ba':=fun h=>by have:=hB5 _ h;omega
       replace hM:=MapIs.ext hM hx (by simp)
       replace hA:=hA.ext hx (by simp)
       replace hS:=hS.ext hx (by simp)
       exact fin X hA hA2 hS hS2 dS hB hB2 hB3 d1 d2 d3 d4 hM hM2
      ·have hAlt:=hA.lt
       refine(B X).mono ?_
       rintro _ H2 ⟨pb',ba',bc',rfl,hB,hx,hB2,hB3,hB4,hB5⟩
       replace X:=X.trans' hx (by simp)
       refine⟨_,rfl,k1 X,?_⟩
       have d1:pb'≠b:=by omega
       have d2:b∉blkOf ba':=fun h=>by have:=hB5 _ h;omega
       replace hM:=MapIs.ext hM hx (by simp)
       replace hA:=hA.ext hx (by simp)
       have hBlt0:=hB.lt
       have hAlt:=hA.lt
       refine⟨hss0,Int.le_refl _,by omega,fun bS H2 hn=>?_⟩
       obtain⟨hS,hx,hS2,hS3⟩:=S X hn
       replace X:=X.trans' hx (by simp)
       refine⟨k0 X,?_⟩
       have dS:b≠bS:=by omega
       have d3:pb'≠bS:=by have:=hBlt0.1;omega
       have d4:bS∉blkOf ba':=fun h=>by have:=hBlt0.2 _ h;omega
       replace hM:=MapIs.ext hM hx (by simp)
       replace hA:=hA.ext hx (by simp)
       replace hB:=hB.ext hx (by simp) (by simp)
       exact fin X hA hA2 hS hS2 dS hB hB2 hB3 d1 d2 d3 d4 hM hM2
   ·intro b H2 hn
    have hnb:=hn.eq
    obtain⟨hA,hx,hA2⟩:=A X hn
    replace X:=X.trans' hx (by simp)
    refine⟨k0 X,k1 X,?_⟩
    refine⟨?_,?_⟩
    ·have hAlt:=hA.lt
     refine⟨hss0,Int.le_refl _,by omega,fun bS H2 hn=>?_⟩
     obtain⟨hS,hx,hS2,hS3⟩:=S X hn
     replace X:=X.trans' hx (by simp)
     refine⟨k0 X,?_⟩
     have dS:b≠bS:=by omega
     replace hA:=hA.ext hx (by simp)
     refine⟨?_,?_⟩
     ·have hSlt0:=hS.lt bS (by simp[blkOf])
      have hAlt:=hA.lt
      refine(B X).mono ?_
      rintro _ H2 ⟨pb',ba',bc',rfl,hB,hx,hB2,hB3,hB4,hB5⟩
      replace X:=X.trans' hx (by simp)
      refine⟨_,rfl,k1 X,?_⟩
      have d1:pb'≠b:=by omega
      have d2:b∉blkOf ba':=fun h=>by have:=hB5 _ h;omega
      have d3:pb'≠bS:=by omega
      have d4:bS∉blkOf ba':=fun h=>by have:=hB5 _ h;omega
      replace hA:=hA.ext hx (by simp)
      replace hS:=hS.ext hx (by simp)
      intro r H2 hn
      obtain⟨hM,hx,hM2⟩:=N X hn
      replace X:=X.trans' hx (by simp)
      refine⟨k0 X,k1 X,?_⟩
      replace hA:=hA.ext hx (by simp)
      replace hS:=hS.ext hx (by simp)
      replace hB:=hB.ext hx (by simp) (by simp)
      exact fin X hA hA2 hS hS2 dS hB hB2 hB3 d1 d2 d3 d4 hM hM2
     ·intro r H2 hn
      obtain⟨hM,hx,hM2⟩:=N X hn
      replace X:=X.trans' hx (by simp)
      refine⟨k0 X,k1 X,?_⟩
      replace hA:=hA.ext hx (by simp)
      replace hS:=hS.ext hx (by simp)
      have hSlt0:=hS.lt bS (by simp[blkOf])
      have hAlt:=hA.lt
      refine(B X).mono ?_
      rintro _ H2 ⟨pb',ba',bc',rfl,hB,hx,hB2,hB3,hB4,hB5⟩
      replace X:=X.trans' hx (by simp)
      refine⟨_,rfl,k1 X,?_⟩
      have d1:pb'≠b:=by omega
      have d2:b∉blkOf ba':=fun h=>by have:=hB5 _ h;omega
      have d3:pb'≠bS:=by omega
      have d4:bS∉blkOf ba':=fun h=>by have:=hB5 _ h;omega
      replace hA:=hA.ext hx (by simp)
      replace hS:=hS.ext hx (by simp)
      replace hM:=MapIs.ext hM hx (by simp)
      exact fin X hA hA2 hS hS2 dS hB hB2 hB3 d1 d2 d3 d4 hM hM2
    ·refine⟨?_,?_⟩
     ·have hAlt:=hA.lt
      refine(B X).mono ?_
      rintro _ H2 ⟨pb',ba',bc',rfl,hB,hx,hB2,hB3,hB4,hB5⟩
      replace X:=X.trans' hx (by simp)
      refine⟨_,rfl,k1 X,?_⟩
      have d1:pb'≠b:=by omega
      have d2:b∉blkOf ba':=fun h=>by have:=hB5 _ h;omega
      replace hA:=hA.ext hx (by simp)
      refine⟨?_,?_⟩
      ·have hBlt0:=hB.lt
       have hAlt:=hA.lt
       refine⟨hss0,Int.le_refl _,by omega,fun bS H2 hn=>?_⟩
       obtain⟨hS,hx,hS2,hS3⟩:=S X hn
       replace X:=X.trans' hx (by simp)
       refine⟨k0 X,?_⟩
       have dS:b≠bS:=by omega
       have d3:pb'≠bS:=by have:=hBlt0.1;omega
       have d4:bS∉blkOf ba':=fun h=>by have:=hBlt0.2 _ h;omega
       replace hA:=hA.ext hx (by simp)
       replace hB:=hB.ext hx (by simp) (by simp)
       intro r H2 hn
       obtain⟨hM,hx,hM2⟩:=N X hn
       replace X:=X.trans' hx (by simp)
       refine⟨k0 X,k1 X,?_⟩
       replace hA:=hA.ext hx (by simp)
       replace hB:=hB.ext hx (by simp) (by simp)
       replace hS:=hS.ext hx (by simp)
       exact fin X hA hA2 hS hS2 dS hB hB2 hB3 d1 d2 d3 d4 hM hM2
      ·intro r H2 hn
       obtain⟨hM,hx,hM2⟩:=N X hn
       replace X:=X.trans' hx (by simp)
       refine⟨k0 X,k1 X,?_⟩
       replace hA:=hA.ext hx (by simp)
       replace hB:=hB.ext hx (by simp) (by simp)
       have hBlt0:=hB.lt
       have hAlt:=hA.lt
       refine⟨hss0,Int.le_refl _,by omega,fun bS H2 hn=>?_⟩
       obtain⟨hS,hx,hS2,hS3⟩:=S X hn
       replace X:=X.trans' hx (by simp)
       refine⟨k0 X,?_⟩
       have dS:b≠bS:=by omega
       have d3:pb'≠bS:=by have:=hBlt0.1;omega
       have d4:bS∉blkOf ba':=fun h=>by have:=hBlt0.2 _ h;omega
       replace hA:=hA.ext hx (by simp)
       replace hB:=hB.ext hx (by simp) (by simp)
       replace hM:=MapIs.ext hM hx (by simp)
       exact fin X hA hA2 hS hS2 dS hB hB2 hB3 d1 d2 d3 d4 hM hM2
     ·intro r H2 hn
      obtain⟨hM,hx,hM2⟩:=N X hn
      replace X:=X.trans' hx (by simp)
      refine⟨k0 X,k1 X,?_⟩
      replace hA:=hA.ext hx (by simp)
      refine⟨?_,?_⟩
      ·have hAlt:=hA.lt
       refine⟨hss0,Int.le_refl _,by omega,fun bS H2 hn=>?_⟩
       obtain⟨hS,hx,hS2,hS3⟩:=S X hn
       replace X:=X.trans' hx (by simp)
       refine⟨k0 X,?_⟩
       have dS:b≠bS:=by omega
       replace hA:=hA.ext hx (by simp)
       replace hM:=MapIs.ext hM hx (by simp)
       have hSlt0:=hS.lt bS (by simp[blkOf])
       have hAlt:=hA.lt
       refine(B X).mono ?_
       rintro _ H2 ⟨pb',ba',bc',rfl,hB,hx,hB2,hB3,hB4,hB5⟩
       replace X:=X.trans' hx (by simp)
       refine⟨_,rfl,k1 X,?_⟩
       have d1:pb'≠b:=by omega
       have d2:b∉blkOf ba':=fun h=>by have:=hB5 _ h;omega
       have d3:pb'≠bS:=by omega
       have d4:bS∉blkOf ba':=fun h=>by have:=hB5 _ h;omega
       replace hA:=hA.ext hx (by simp)
       replace hM:=MapIs.ext hM hx (by simp)
       replace hS:=hS.ext hx (by simp)
       exact fin X hA hA2 hS hS2 dS hB hB2 hB3 d1 d2 d3 d4 hM hM2
      ·have hAlt:=hA.lt
       refine(B X).mono ?_
       rintro _ H2 ⟨pb',ba',bc',rfl,hB,hx,hB2,hB3,hB4,hB5⟩
       replace X:=X.trans' hx (by simp)
       refine⟨_,rfl,k1 X,?_⟩
       have d1:pb'≠b:=by omega
       have d2:b∉blkOf ba':=fun h=>by have:=hB5 _ h;omega
       replace hA:=hA.ext hx (by simp)
       replace hM:=MapIs.ext hM hx (by simp)
       have hBlt0:=hB.lt
       have hAlt:=hA.lt
       refine⟨hss0,Int.le_refl _,by omega,fun bS H2 hn=>?_⟩
       obtain⟨hS,hx,hS2,hS3⟩:=S X hn
       replace X:=X.trans' hx (by simp)
       refine⟨k0 X,?_⟩
       have dS:b≠bS:=by omega
       have d3:pb'≠bS:=by have:=hBlt0.1;omega
       have d4:bS∉blkOf ba':=fun h=>by have:=hBlt0.2 _ h;omega
       replace hA:=hA.ext hx (by simp)
       replace hM:=MapIs.ext hM hx (by simp)
       replace hB:=hB.ext hx (by simp) (by simp)
       exact fin X hA hA2 hS hS2 dS hB hB2 hB3 d1 d2 d3 d4 hM hM2
set_option maxHeartbeats 1000000 in
theorem empty_ok{H:Heap}{Fd:Nat→Prop}{h s b f:Int}(hs0:0≤s)(hs:s≤1000000)(hh:h≤1000000000)(hf:f≤1000000)(hFd:∀k,Fd k→k<H.size) :
  Does Tryz.prog 118 [layV h s b f] H fun v H'=>∃x rl ba bc,v=stateV x∧NowIs H' Fd x rl ba bc [] (emptyP h s f)∧Ext [] H H'∧(∀k,ownS x ba k→H.size≤k)∧x.n=s.toNat:=by
 intro w hw
 subst hw
 refine calls_of_wp Tryz.func118 rfl ?_
 have ha0:Ag Tryz.f118.ntmps [(0,.v (layV h s b f))] {tmps:=#[layV h s b f]++Array.replicate (Tryz.f118.ntmps - 1) undef,defers:=[]}:=
  ⟨by simp[Tryz.ntmps118],rfl,start_agree [layV h s b f] _⟩
 refine wp_seq (wp_mono (part_wp Tryz.mixed (EmA h s b f w.heap fun v H'=>∃b1 b2,v=.tuple #[.pointer (some ⟨b1,0,none⟩),.pointer (some ⟨b2,0,none⟩)]∧Blk H' b1 [.int .i64 h,.int .i64 s,.int .i64 b,.int .i64 f]∧Blk H' b2 [.slice none 0 0,.pointer none,.map none]∧Ext [] w.heap H'∧w.heap.size≤b1∧w.heap.size≤b2∧b1≠b2)
  (fun b1 H2 h2 b3 H4 h4=>⟨b1,b3,rfl,h2.blk.ext h4.ext (by simp),h4.blk,h2.ext.trans' h4.ext (by simp),by rw[h2.eq];exact Nat.le_refl _,by rw[h4.eq,h2.size];omega,by rw[h4.eq,h2.size,h2.eq];omega⟩) Tryz.func118 rfl rfl ha0 (ha0.pick (by intro y hy;simp only[List.mem_cons,List.mem_nil_iff,or_false]at hy;rcases hy with rfl;rfl)) rfl) ?_)
 rintro e a1 w1 ⟨rfl,hs1,vs,hvl,⟨b1,b2,hv,hb1,hb2,hx1,hg1,hg2,hb12⟩,ha1⟩
 have hvs:vs=[.pointer (some ⟨b1,0,none⟩),.pointer (some ⟨b2,0,none⟩)]:=tupV_two hvl hv
 rw[hvs]at ha1
 have haB:Ag Tryz.f118.ntmps [(1,.v (.pointer (some ⟨b1,0,none⟩))),(2,.v (.pointer (some ⟨b2,0,none⟩)))] a1:=ha1.pick (by
  intro y hy;simp only[List.mem_cons,List.mem_nil_iff,or_false]at hy;rcases hy with rfl|rfl<;>rfl)
 refine wp_seq (wp_mono (part_wp Tryz.mixed (V:=Part Tryz.prog 118 1 [(1,.v (.pointer (some ⟨b1,0,none⟩)))] [3] w1.heap (EmMid w1.heap s.toNat h.toNat)) rfl (emMid_ok hb1 hs0 hs hh) Tryz.func118 rfl rfl haB (haB.pick (by
  intro y hy;simp only[List.mem_cons,List.mem_nil_iff,or_false]at hy;rcases hy with rfl;rfl)) rfl) ?_)
 rintro e a2 w2 ⟨rfl,hs2,vs,hvl,⟨b3,x',ba',bc',hv,hx2,hb3,hn',ho',hbm',hmm',q1,q2,q3,q4,q5,q6,q7,q8,q9,q10⟩,ha2⟩
 rw[one_of hvl,hv]at ha2
 have haC:Ag Tryz.f118.ntmps [(1,.v (.pointer (some ⟨b1,0,none⟩))),(2,.v (.pointer (some ⟨b2,0,none⟩))),(3,.v (.pointer (some ⟨b3,0,none⟩)))] a2:=ha2.pick (by
  intro y hy;simp only[List.mem_cons,List.mem_nil_iff,or_false]at hy;rcases hy with rfl|rfl|rfl<;>rfl)
 have hsz1:=hx1.size
 have hsz2:=hx2.size
 have hb1':=hb1.ext hx2 (by simp)
 have hb2':=hb2.ext hx2 (by simp)
 have hlt1:=hb1.lt
 have hlt2:=hb2.lt
 let T:Nat→List Bool:=fun k=>setAll (List.replicate h.toNat false) ((List.range k).map fun (j:Nat)=>(j:Int)) true
 refine wp_seq (wp_mono (partS_wp Tryz.mixed (V:=PartS Tryz.prog 118 2 [(1,.v (.pointer (some ⟨b1,0,none⟩))),(3,.v (.pointer (some ⟨b3,0,none⟩)))] [] w2.heap fun _ H'=>IsB H' x'.tb ba' bc' (T f.toNat)∧Ext (blkOf ba') w2.heap H') rfl ?_ Tryz.func118 rfl rfl haC (haC.pick (by
  intro y hy;simp only[List.mem_cons,List.mem_nil_iff,or_false]at hy;rcases hy with rfl|rfl<;>rfl)) rfl) ?_)
 ·rw[EmC]
  refine⟨f,by rw[hb1'.cell];rfl,fun i K=>∃k:Nat,i=k∧k≤f.toNat∧IsB K x'.tb ba' bc' (T k)∧Ext (blkOf ba') w2.heap K,fun i _=>(f - i).toNat,⟨0,rfl,Nat.zero_le _,hbm',Ext.refl _ _⟩,?_⟩
  rintro _ H5 ⟨k,rfl,hk,hB5,hx5⟩
  refine⟨fun hlt=>?_,fun hge=>?_⟩
  ·have hb3':=hb3.ext hx5 q8
   refine⟨some ⟨x'.tb,0,none⟩,by rw[hb3'.cell];rfl,(setb_ok hB5 (k:Int) true).mono ?_⟩
   rintro _ H8 ⟨⟨t,rfl⟩,hB8,hx8⟩
   refine⟨t,rfl,by unfold In64;omega,⟨k+1,by omega,by omega,?_,hx5.trans' hx8 (fun i hi=>.inr hi)⟩,by simp only;omega⟩
   have:T (k+1)=setB (T k) (k:Int) true:=by
    simp only[T,List.range_succ,List.map_append,setAll_append]
    rfl
   rw[this]
   exact hB8
  ·have:k=f.toNat:=by omega
   subst this
   exact⟨hB5,hx5⟩
 rintro e a3 w3 ⟨rfl,hs3,vs,hvl,⟨g1,hx3⟩,ha3⟩
 have haD:Ag Tryz.f118.ntmps [(3,.v (.pointer (some ⟨b3,0,none⟩))),(2,.v (.pointer (some ⟨b2,0,none⟩)))] a3:=ha3.pick (by
  intro y hy;simp only[List.mem_cons,List.mem_nil_iff,or_false]at hy;rcases hy with rfl|rfl<;>rfl)
 have hb3':=hb3.ext hx3 q8
 have hb2'':=hb2'.ext hx3 (fun hm=>by have:=q4 _ hm;omega)
 have hmN:=own_not_map ho' hmm'
 have hsz3:=hx3.size
 have key:NowIs w3.heap Fd x' (List.replicate s.toNat noSl) ba' bc' [] (emptyP h s f):=by
  have hmR:x'.mb∉blkOf ba':=by
   obtain⟨xs,hM,hB⟩:=hbm'
   exact own_not_map hM.own hmm'
  have hmT:x'.tb≠x'.mb:=by
   obtain⟨xs,hM,hB⟩:=hbm'
   exact blk_not_map hM.head hmm'
  refine⟨?_,by simp[hn'],by simp[emptyP],fun i r sl hr hsl=>?_,g1,MapIs.ext hmm' hx3 hmR,List.nodup_nil,fun k=>?_,fun k hk hq=>?_,q6,fun q hq=>⟨q7 q hq,fun e=>hmR (e▸hq)⟩,hmN,Ne.symm hmT⟩
  ·rw[hn']
   exact ho'.ext hx3 fun q hq hm=>q7 q hm hq
  ·have e1:r=noSl:=by
    rw[List.getElem?_replicate]at hr
    split at hr
    ·cases hr;rfl
    ·cases hr
   have e2:sl=⟨0,0,[]⟩:=by
    simp only[emptyP,List.getElem?_replicate]at hsl
    split at hsl
    ·cases hsl;rfl
    ·cases hsl
   subst e1;subst e2
   exact⟨rfl,rfl,⟨rfl,fun c=>⟨rfl,rfl⟩⟩,Nat.le_refl _,fun q hq=>by simp[noSl,blkOf]at hq⟩
  ·show k∉[].map _
   simp
  ·have:=hFd k hq
   rcases hk with hk|rfl|hk|rfl
   ·have:=q2 k hk;omega
   ·omega
   ·have:=q4 k hk;omega
   ·omega
 show Code.wp _ _ _ _ _
 refine partT_wp Tryz.mixed (R:=fun v H'=>∃x rl ba bc,v=stateV x∧NowIs H' Fd x rl ba bc [] (emptyP h s f)∧Ext [] w.heap H'∧(∀k,ownS x ba k→w.heap.size≤k)∧x.n=s.toNat) (EmD b3 b2 w3.heap _) ?_ Tryz.func118 rfl rfl ((hs1.trans hs2).trans hs3) haD rfl
 refine⟨x'.a,x'.n,x'.c,by rw[hb3'.cell];rfl,some ⟨x'.tb,0,none⟩,by rw[hb3'.cell];rfl,some x'.mb,by rw[hb3'.cell];rfl,hb2''.cells 3 0 (by simp),fun H6 hp=>?_⟩
 have hb6:=hp.blk hb2'' (by simp)
 have hx6:=hp.ext
 refine⟨x'.a,x'.n,x'.c,by rw[hb6.cell];rfl,some ⟨x'.tb,0,none⟩,by rw[hb6.cell];rfl,some x'.mb,by rw[hb6.cell];rfl,x',_,ba',bc',rfl,key.extP hx6.toP (fun k hk=>?_) (fun k hk=>?_),⟨?_,fun j hj _=>?_⟩,?_,hn'⟩
 ·simp only[List.mem_singleton]
  rintro rfl
  rcases hk with hk|hk|hk|hk
  ·have:=q2 _ hk;omega
  ·omega
  ·have:=q4 _ hk;omega
  ·omega
 ·simp only[List.mem_singleton]
  rintro rfl
  have:=hFd _ hk
  omega
 ·have:=hx6.size;omega
 ·rw[hx6.keep j (by omega) (by simp;omega),hx3.keep j (by omega) (fun hm=>by have:=q4 j hm;omega),hx2.keep j (by omega) (by simp),hx1.keep j hj (by simp)]
 ·rintro k (hk|rfl|hk|rfl)
  ·have:=q2 k hk;omega
  ·omega
  ·have:=q4 k hk;omega
  ·omega
end Go.Proofs
end
section
open Go Go.Vc Go.Proofs.Bx
namespace Go.Proofs
def idsP(st:PSt):List Int:=((List.range st.slots.length).filter fun k=>match st.slots[k]? with|some s=>decide (0<s.refs)|none=>false).map fun (k:Nat)=>(k:Int)+1
def idsTo(st:PSt)(n:Nat):List Int:=((List.range n).filter fun k=>match st.slots[k]? with|some s=>decide (0<s.refs)|none=>false).map fun (k:Nat)=>(k:Int)+1
theorem idsTo_succ{st:PSt}{n:Nat}{s:PSl}(h:st.slots[n]?=some s):idsTo st (n+1)=idsTo st n++(if 0<s.refs then [(n:Int)+1]else []):=by
 unfold idsTo
 rw[List.range_succ,List.filter_append,List.map_append]
 congr 1
 simp only[List.filter_cons,List.filter_nil,h]
 by_cases hr:0<s.refs
 ·simp[hr]
 ·simp[hr]
theorem idsTo_length(st:PSt)(n:Nat):(idsTo st n).length≤n:=by
 unfold idsTo
 rw[List.length_map]
 exact Nat.le_trans (List.length_filter_le _ _) (by simp)
def freeN(st:PSt):Int:=cntF (onB st.bits) st.bits.length
theorem freebm_ok{H:Heap}{pb:Nat}{a:Option Addr}{c:Nat}{bs:List Bool}(h:IsB H pb a c bs):Does Tryz.prog 101 [.pointer (some ⟨pb,0,none⟩)] H fun v H'=>v=.int .i64 (cntF (onB bs) bs.length)∧H=H':=by
 obtain⟨xs,hm,hb⟩:=h
 refine(Bx.free_ok hm).mono ?_
 rintro _ _ ⟨rfl,rfl⟩
 rw[show bit xs=onB bs from funext hb.bits]
 exact⟨rfl,rfl⟩
section
variable {H:Heap} {Fj Fx Fy Fd:Nat→Prop} {ps pj pd:Nat} {hh ss bb ff:Int} {x y:RSt} {now kept:PSt} {J:Jn} {D:Dev}
theorem freeS_ok(hS:Sto H Fj Fx Fy Fd ps pj pd hh ss bb ff x y now kept J D):Does Tryz.prog 30 [.pointer (some ⟨ps,0,none⟩)] H fun v H'=>v=.int .i64 (freeN now)∧H=H':=by
 refine Fn_of_vc Tryz.mixed (FreeV _ _ _) ?_
 obtain⟨rl,ba,bc,ml,hn,_⟩:=hS.now
 refine⟨ps,0,rfl,some ⟨x.tb,0,none⟩,by rw[hS.blk.cell];rfl,(freebm_ok hn.bits).mono ?_⟩
 rintro _ _ ⟨rfl,rfl⟩
 exact⟨_,rfl,rfl,rfl⟩
theorem usedS_ok(hS:Sto H Fj Fx Fy Fd ps pj pd hh ss bb ff x y now kept J D)(h1:0≤hh∧hh≤1000000)(h2:0≤ff∧ff≤1000000)(h3:now.bits.length≤1000000):Does Tryz.prog 32 [.pointer (some ⟨ps,0,none⟩)] H fun v H'=>v=.int .i64 (hh - ff - freeN now)∧H=H':=by
 refine Fn_of_vc Tryz.mixed (UsedV _ _ _) ?_
 have c1:hcell H ps (0+1)=some (.int .i64 hh):=by rw[hS.blk.cell];rfl
 have c4:hcell H ps ((0+1)+3)=some (.int .i64 ff):=by rw[hS.blk.cell];rfl
 refine⟨ps,0,rfl,hh,c1,ps,0,rfl,ff,c4,by unfold In64;omega,(freeS_ok hS).mono ?_⟩
 rintro _ _ ⟨rfl,rfl⟩
 have hc:=cntF_le (onB now.bits) now.bits.length
 exact⟨_,rfl,⟨c4,trivial⟩,⟨c1,trivial⟩,by unfold In64 freeN;omega,rfl,rfl⟩
theorem refsS_ok(hS:Sto H Fj Fx Fy Fd ps pj pd hh ss bb ff x y now kept J D)(id:Int):Does Tryz.prog 50 [.pointer (some ⟨ps,0,none⟩),.int .i64 id] H fun v H'=>v=.int .i64 (refsP now id)∧H=H':=by
 obtain⟨rl,ba,bc,ml,hn,_⟩:=hS.now
 refine(refs_ok hS.blk hn.rows hS.num.1 id).mono ?_
 rintro _ _ ⟨rfl,rfl⟩
 rw[refs_eq hn]
 exact⟨rfl,rfl⟩
theorem idsS_ok(hS:Sto H Fj Fx Fy Fd ps pj pd hh ss bb ff x y now kept J D):Does Tryz.prog 33 [.pointer (some ⟨ps,0,none⟩)] H fun v H'=>∃a c,v=.slice a (idsP now).length c∧Own H' 1 a (idsP now).length c ((idsP now).map (.int .i64))∧Ext [] H H'∧∀q∈blkOf a,H.size≤q:=by
 refine Fn_of_vc Tryz.mixed (IDsV _ _ _) ?_
 obtain⟨rl,ba,bc,ml,hn,_⟩:=hS.now
 have hnl:x.n=now.slots.length:=by have:=hn.num;have:=hn.len;omega
 have hnm:=hS.num.1
 refine⟨ps,0,rfl,x.a,x.n,x.c,by rw[hS.blk.cell];rfl,fun a l c i K=>∃k:Nat,i=k∧k≤x.n∧l=(idsTo now k).length∧Ext [] H K∧Own K 1 a l c ((idsTo now k).map (.int .i64))∧(∀q∈blkOf a,H.size≤q),fun _ _ _ i _=>(x.n - i).toNat,⟨0,rfl,Nat.zero_le _,rfl,Ext.refl _ _,Own.nil _ _,by simp[blkOf]⟩,?_⟩
 rintro a8 _ c10 _ H12 ⟨k,rfl,hk,rfl,hx,ho,hf⟩
 refine⟨fun hlt=>?_,fun hge=>?_⟩
 ·have hk':k<now.slots.length:=by omega
  have hkr:k<rl.length:=by have:=hn.len;omega
  have h12:=hn.extP (M:=fun _=>False) hx.anyP (fun _ _ h=>h) (fun _ _ h=>h)
  obtain⟨b,o,ha,c0,c1,c2⟩:=h12.rows.get k rl[k] (List.getElem?_eq_getElem hkr)
  obtain⟨s1,s2,_⟩:=h12.slot k rl[k] now.slots[k] (List.getElem?_eq_getElem hkr) (List.getElem?_eq_getElem hk')
  refine⟨by omega,by omega,b,o,ha,_,c0,_,c1,_,_,_,c2,fun b20 H21 hn21=>⟨hn21.blk.cells _ _ (by simp),fun H22 hp22=>?_⟩⟩
  obtain⟨hb22,hx22,e22,z22⟩:=new_put hn21 hp22 rfl
  have hxx:=hx.trans' hx22 (by simp)
  have ho22:=ho.ext hx22 (by simp)
  have hs:=idsTo_succ (List.getElem?_eq_getElem hk')
  have hle:=idsTo_length now k
  refine⟨_,by rw[hb22.cell];rfl,fun hr=>?_,fun hr=>?_⟩
  ·rw[s2]at hr
   rw[if_pos hr]at hs
   refine⟨by unfold In64;omega,fun b24 H25 hn25=>?_⟩
   have hx25:=hn25.ext
   have ho25:=ho22.ext hx25 (by simp)
   have hxy:=hxx.trans' hx25 (by simp)
   refine⟨_,[.int .i64 ((k:Int)+1)],ho25.row _ _,⟨rfl,.inr rfl,fun j u hj=>?_⟩,fun u hu=>by simp only[List.mem_singleton]at hu;subst hu;rfl,by omega,fun hle=>ho25.room hle,fun a28 c29 H30 happ=>?_⟩
   ·show hcell H25 b24 (0+j)=some u
    rw[Nat.zero_add,hn25.blk.cell]
    exact hj
   obtain⟨g1,g2,g3⟩:=happ.own ho25 (ho25.row _ _) (by simp) rfl
   refine⟨by unfold In64;omega,⟨k+1,by omega,by omega,by rw[hs];simp,hxy.trans' g2 (fun i hi=>.inl (hf i hi)),?_,fun q hq=>?_⟩,by simp only;omega⟩
   ·rw[hs,List.map_append]
    exact g1
   ·rcases g3 q hq with h|h
    ·exact hf q h
    ·have:=hxy.size;omega
  ·rw[s2]at hr
   rw[if_neg hr,List.append_nil]at hs
   exact⟨by unfold In64;omega,⟨k+1,by omega,by omega,by rw[hs],hxx,by rw[hs];exact ho22,hf⟩,by simp only;omega⟩
 ·have:k=now.slots.length:=by omega
  subst this
  exact⟨a8,c10,rfl,ho,hx,hf⟩
theorem undo_ok(hS:Sto H Fj Fx Fy Fd ps pj pd hh ss bb ff x y now kept J D):Does Tryz.prog 38 [.pointer (some ⟨ps,0,none⟩)] H fun v H'=>v=.tuple #[]∧∃Fx' x',Sto H' Fj Fx' Fy Fd ps pj pd hh ss bb ff x' y kept kept J D∧ExtP (fun q=>q=ps) H H'∧∀q,Fx' q→H.size≤q:=by
 refine Fn_of_vc Tryz.mixed (UndoV _ _ _) ?_
 obtain⟨rl,ba,bc,ml,hn,ho⟩:=hS.kept
 refine⟨ps,0,rfl,y.a,y.n,y.c,by rw[hS.blk.cell];rfl,some ⟨y.tb,0,none⟩,by rw[hS.blk.cell];rfl,some y.mb,by rw[hS.blk.cell];rfl,(copied_ok hn hS.num.2 hS.lt).mono ?_⟩
 rintro _ H9 ⟨x',ba',bc',ml',rfl,h9,hx9,hf9,hnn⟩
 have hb9:=hS.blk.ext hx9 (by simp)
 have hpsl:=hS.blk.lt
 have hlj:=hS.jd.lt
 have hly:=hS.kept.lt
 refine⟨_,_,_,_,_,rfl,ps,0,rfl,hb9.cells 3 5 (by simp[stoV,rstV]),fun H17 hp=>?_⟩
 have hb17:Blk H17 ps (stoV pj hh ss bb ff x' y):=hp.blk hb9 (by simp[stoV,rstV])
 have hx17:=hp.ext
 have hx:ExtP (fun q=>q=ps) H H17:=(hx9.anyP).trans (hx17.lift fun q _ hq=>by simpa using hq)
 have hN:∀q,H.size≤q→q≠ps:=fun q hq=>by omega
 refine⟨rfl,ownS x' ba',x',⟨hb17,hS.jd.ext hx (fun q hq e=>hS.sep.1 (e▸hq)),⟨rl,ba',bc',ml',h9.extP (hx17.lift (N:=fun q=>q=ps) fun q _ hq=>by simpa using hq) (fun q hq=>hN q (hf9 q hq)) (fun q hq e=>hS.sep.2.2.2 (e▸hq)),fun _=>Iff.rfl⟩,
  hS.kept.extP hx (fun q hq e=>hS.sep.2.2.1 (e▸hq)) (fun q hq e=>hS.sep.2.2.2 (e▸hq)),⟨hS.sep.1,fun h=>by have:=hf9 ps h;omega,hS.sep.2.2⟩,fun q hq=>⟨fun h=>by have:=hf9 q h;have:=hlj q hq;omega,(hS.sepJ q hq).2⟩,fun q hq h=>by have:=hf9 q hq;have:=hly q h;omega,hS.sepY,fun q hq=>by have:=hS.lt q hq;have:=hx.size;omega,⟨by rw[hnn];exact hS.num.2,hS.num.2⟩⟩,hx,hf9⟩
end
end Go.Proofs
end
section
open Go Go.Vc
namespace Go.Proofs
theorem LayRead2V(x0_0:Int) (x0_1:Int) (x0_2:Int) (x0_3:Int) (x1:Option Addr) (x1l:Nat) (x1c:Nat) (H:Heap) (R:Value→Heap→Prop):Walk Tryz.prog 150 [(9,[])] [.agg #[.int .i64 x0_0,.int .i64 x0_1,.int .i64 x0_2,.int .i64 x0_3],.slice x1 x1l x1c] H R=(∀b1 H2,New H b1 [.int .i64 x0_0,.int .i64 x0_1,.int .i64 x0_2,.int .i64 x0_3] 131 H2→∀b3 H4,New H2 b3 [.int .i64 0,.int .i64 0,.slice none 0 0] 147 H4→Does Tryz.prog 148 [.slice x1 x1l x1c] H4 fun v5 H6=>∃p7:Option Addr,v5=(.pointer p7)∧Does Tryz.prog 190 [.pointer p7] H6 fun v8 H9=>∃n10,v8=(.int .i64 n10)∧Does Tryz.prog 149 [.pointer p7] H9 fun v11 H12=>∃n13,v11=(.int .i64 n13)∧∀b14 H15,New H12 b14 [.int .i64 0,.int .i64 0,.slice none 0 0] 147 H15→Cells H15 b14 0 3∧∀H16,Puts H15 b14 0 [.int .i64 n10,.int .i64 n13,.slice none 0 0] H16→Does Tryz.prog 195 [.pointer p7] H16 fun v17 H18=>∃n19,v17=(.int .i64 n19)∧Does Tryz.prog 195 [.pointer p7] H18 fun v20 H21=>∃n22,v20=(.int .i64 n22)∧∃I23:Heap→Prop,(∃I24:Int→Heap→Prop,∃μ25:Int→Heap→Nat,(I24 0 H21) ∧∀n26 H27,I24 n26 H27→(((n26<n19)→(((n26<6)→∃a28 l29 c30,hcell H27 b14 (0+2)=some (.slice a28 l29 c30)∧Does Tryz.prog 149 [.pointer p7] H27 fun v31 H32=>∃n33,v31=(.int .i64 n33)∧isL H32 b14 (0+2) [.slice a28 l29 c30]∧Does Tryz.prog 149 [.pointer p7] H32 fun v34 H35=>∃n36,v34=(.int .i64 n36)∧isL H35 b14 (0+2) [.slice a28 l29 c30]∧∀b37 H38,New H35 b37 [.int .i64 n33,.int .i64 n36] 103 H38→isL H38 b14 (0+2) [.slice a28 l29 c30]∧∃old39 new40:List Value,SRow H38 2 l29 (.slice a28 l29 c30) old39∧SRow H38 2 1 (.slice (some ⟨b37,0,none⟩) 1 1) new40∧(∀u∈new40,Value.oneCell' u=true)∧(l29+1)*16≤140737488355328∧(l29+1≤c30→roomOf H38 a28 (l29*2) (1*2))∧∀a41:Option Addr,∀c42:Nat,∀H43,App H38 2 103 [.int .i64 0,.int .i64 0] a28 l29 c30 old39 new40 1 a41 c42 H43→Cells H43 b14 (0+2) 1∧∀H44,Puts H43 b14 (0+2) [.slice a41 (l29+1) c42] H44→In64 (n26+1) ∧(I24 (n26+1) H44)∧μ25 (n26+1) H44<μ25 n26 H27)∧(¬(n26<6)→(I23 H27))))∧(¬(n26<n19)→(I23 H27)))) ∧∀H45,I23 H45→∃n46,hcell H45 b14 0=some (.int .i64 n46)∧∃n47,hcell H45 b14 (0+1)=some (.int .i64 n47)∧∃a48 l49 c50,hcell H45 b14 (0+1+1)=some (.slice a48 l49 c50)∧Does Tryz.prog 183 [.agg #[.int .i64 n46,.int .i64 n47,.slice a48 l49 c50]] H45 fun v51 H52=>∃a53 l54 c55,v51=(.slice a53 l54 c55)∧Does Tryz.prog 152 [.slice a53 l54 c55,.slice x1 x1l x1c] H52 fun v56 H57=>∃t58,v56=(.bool t58)∧(((t58=false)→∃n59,hcell H57 b14 0=some (.int .i64 n59)∧∃n60,hcell H57 b14 (0+1)=some (.int .i64 n60)∧∃a61 l62 c63,hcell H57 b14 (0+1+1)=some (.slice a61 l62 c63)∧Cells H57 b3 0 3∧∀H64,Puts H57 b3 0 [.int .i64 n59,.int .i64 n60,.slice a61 l62 c63] H64→∃n65,hcell H64 b3 0=some (.int .i64 n65)∧∃n66,hcell H64 b3 (0+1)=some (.int .i64 n66)∧∃a67 l68 c69,hcell H64 b3 (0+1+1)=some (.slice a67 l68 c69)∧R (.tuple #[.agg #[.int .i64 n65,.int .i64 n66,.slice a67 l68 c69],.bool false]) H64)∧(¬(t58=false)→∃n70,hcell H57 b14 (0+1)=some (.int .i64 n70)∧(((n70=0)→∃n71,hcell H57 b14 0=some (.int .i64 n71)∧∃n72,hcell H57 b14 (0+1)=some (.int .i64 n72)∧∃a73 l74 c75,hcell H57 b14 (0+1+1)=some (.slice a73 l74 c75)∧∃n76,hcell H57 b14 0=some (.int .i64 n76)∧(((n76=0)→∃a77 l78 c79,hcell H57 b14 (0+2)=some (.slice a77 l78 c79)∧Cells H57 b3 0 3∧∀H80,Puts H57 b3 0 [.int .i64 n71,.int .i64 n72,.slice a73 l74 c75] H80→isL H80 b14 (0+2) [.slice a77 l78 c79]∧∃n81,hcell H80 b3 0=some (.int .i64 n81)∧∃n82,hcell H80 b3 (0+1)=some (.int .i64 n82)∧∃a83 l84 c85,hcell H80 b3 (0+1+1)=some (.slice a83 l84 c85)∧R (.tuple #[.agg #[.int .i64 n81,.int .i64 n82,.slice a83 l84 c85],.bool (@decide (((l78:Int):Int)=0) (Classical.propDecidable _))]) H80)∧(¬(n76=0)→Cells H57 b3 0 3∧∀H86,Puts H57 b3 0 [.int .i64 n71,.int .i64 n72,.slice a73 l74 c75] H86→∃n87,hcell H86 b3 0=some (.int .i64 n87)∧∃n88,hcell H86 b3 (0+1)=some (.int .i64 n88)∧∃a89 l90 c91,hcell H86 b3 (0+1+1)=some (.slice a89 l90 c91)∧R (.tuple #[.agg #[.int .i64 n87,.int .i64 n88,.slice a89 l90 c91],.bool false]) H86)))∧(¬(n70=0)→∃n92,hcell H57 b14 0=some (.int .i64 n92)∧∃n93,hcell H57 b14 (0+1)=some (.int .i64 n93)∧∃a94 l95 c96,hcell H57 b14 (0+1+1)=some (.slice a94 l95 c96)∧∃a97 l98 c99,hcell H57 b14 (0+2)=some (.slice a97 l98 c99)∧∃n100,hcell H57 b1 (0+3)=some (.int .i64 n100)∧∃n101,hcell H57 b1 0=some (.int .i64 n101)∧Does Tryz.prog 167 [.slice a97 l98 c99,.int .i64 n100,.int .i64 n101] H57 fun v102 H103=>∃t104,v102=(.bool t104)∧(isL H103 b14 0 [.int .i64 n92,.int .i64 n93,.slice a94 l95 c96]∧((t104=true→∃a105 l106 c107,hcell H103 b14 (0+2)=some (.slice a105 l106 c107)∧∃n108,hcell H103 b14 0=some (.int .i64 n108)∧Does Tryz.prog 161 [.slice a105 l106 c107] H103 fun v109 H110=>∃n111,v109=(.int .i64 n111)∧isL H110 b14 0 [.int .i64 n108]∧isL H110 b14 0 [.int .i64 n92,.int .i64 n93,.slice a94 l95 c96]∧Does Tryz.prog 160 [.int .i64 n108] H110 fun v112 H113=>∃n114,v112=(.int .i64 n114)∧isL H113 b14 0 [.int .i64 n92,.int .i64 n93,.slice a94 l95 c96]∧Cells H113 b3 0 3∧∀H115,Puts H113 b3 0 [.int .i64 n92,.int .i64 n93,.slice a94 l95 c96] H115→∃n116,hcell H115 b3 0=some (.int .i64 n116)∧∃n117,hcell H115 b3 (0+1)=some (.int .i64 n117)∧∃a118 l119 c120,hcell H115 b3 (0+1+1)=some (.slice a118 l119 c120)∧R (.tuple #[.agg #[.int .i64 n116,.int .i64 n117,.slice a118 l119 c120],.bool (@decide (n111=n114) (Classical.propDecidable _))]) H115)∧(t104=false→Cells H103 b3 0 3∧∀H121,Puts H103 b3 0 [.int .i64 n92,.int .i64 n93,.slice a94 l95 c96] H121→∃n122,hcell H121 b3 0=some (.int .i64 n122)∧∃n123,hcell H121 b3 (0+1)=some (.int .i64 n123)∧∃a124 l125 c126,hcell H121 b3 (0+1+1)=some (.slice a124 l125 c126)∧R (.tuple #[.agg #[.int .i64 n122,.int .i64 n123,.slice a124 l125 c126],.bool false]) H121)))))))):=by kernel_rfl
end Go.Proofs
end
section
open Go Go.Vc Go.Proofs.Bx
namespace Go.Proofs
def rdN(s:Octs×Bool)(n:Nat):Octs×Bool:=(rdU s n).2
def pcSt(s:Octs×Bool):Nat→Octs×Bool
 | 0=>s
 | k+1=>rdN (rdN (pcSt s k) 2) 2
def pcAt(s:Octs×Bool)(k:Nat):Pc:=⟨numU (pcSt s k) 2,numU (rdN (pcSt s k) 2) 2⟩
def pcsTo(s:Octs×Bool)(k:Nat):List Pc:=(List.range k).map (pcAt s)
theorem pcsTo_length(s:Octs×Bool)(k:Nat):(pcsTo s k).length=k:=by simp[pcsTo]
theorem pcsTo_succ(s:Octs×Bool)(k:Nat):pcsTo s (k+1)=pcsTo s k++[pcAt s k]:=by simp[pcsTo,List.range_succ]
def parseSl(xs:Octs):PSl:=
 ⟨numU (xs,false) 4,numU (rdN (xs,false) 4) 2,pcsTo (rdN (rdN (rdN (rdN (xs,false) 4) 2) 1) 1) (min (numU (rdN (rdN (xs,false) 4) 2) 1).toNat 6)⟩
def readOk(f h:Int)(xs:Octs):Prop:=slotO (parseSl xs)=xs∧(((parseSl xs).refs=0∧(parseSl xs).size=0∧(parseSl xs).ps=[])∨((parseSl xs).refs≠0∧RightP (parseSl xs).ps f h∧countF (parseSl xs).ps=blocksF (parseSl xs).size))
theorem numU_bd(s:Octs×Bool)(n:Nat)(hn:n≤4):0≤numU s n∧numU s n<4294967296:=by
 have:=num_lt (s:=(toI s.1,s.2)) (toI_byt s.1) hn
 rwa[num_toI]at this
theorem pcAt_bd(s:Octs×Bool)(k:Nat):0≤(pcAt s k).s∧(pcAt s k).s<65536∧0≤(pcAt s k).c∧(pcAt s k).c<65536:=by
 have h1:=numU_lt2 (pcSt s k)
 have h2:=numU_lt2 (rdN (pcSt s k) 2)
 exact⟨h1.1,h1.2,h2.1,h2.2⟩
theorem pcsTo_mem{s:Octs×Bool}{k:Nat}{p:Pc}(h:p∈pcsTo s k):∃j,p=pcAt s j:=by
 simp only[pcsTo,List.mem_map,List.mem_range]at h
 obtain⟨j,_,rfl⟩:=h
 exact⟨j,rfl⟩
theorem parse_ok(xs:Octs):SlotOk (parseSl xs):=by
 have h1:=numU_bd (xs,false) 4 (by omega)
 have h2:=numU_bd (rdN (xs,false) 4) 2 (by omega)
 refine⟨by simp only[parseSl,pcsTo_length];omega,h1.1,by simp only[parseSl];omega,h2.1,by simp only[parseSl];omega,fun p hp=>?_⟩
 obtain⟨j,rfl⟩:=pcsTo_mem hp
 obtain⟨q1,q2,q3,q4⟩:=pcAt_bd (rdN (rdN (rdN (rdN (xs,false) 4) 2) 1) 1) j
 omega
theorem ru8B_ok{G:Nat→Prop}{b:Nat}{s:Octs×Bool}{H:Heap}(h:RB G H b s) :
  Does Tryz.prog 195 [.pointer (some ⟨b,0,none⟩)] H fun v H'=>v=.int .i64 (numU s 1)∧RB G H' b (rdN s 1)∧ExtP G H H':=by
 refine(ru8_ok h).mono ?_
 rintro _ _ ⟨rfl,h1,h2⟩
 rw[num_toI]
 rw[rd_toI]at h1
 exact⟨rfl,h1,h2⟩
theorem pcs_of_own{H:Heap}{a:Option Addr}{n c:Nat}{l:List Pc}(h:Own H 2 a n c (piecesV l))(hl:l.length=n):Pcs H a n l:=⟨hl,fun c'=>h.row n c'⟩
set_option maxHeartbeats 1000000 in
theorem read_slot_ok{H:Heap}{hh ss bb ff:Int}{xa:Option Addr}{xc:Nat}{xs:Octs}(hx:SRow H 1 xs.length (.slice xa xs.length xc) (bytesV xs))(hl:xs.length≤1000)(hf0:0≤ff)(hf1:ff≤1000000)(hh1:hh≤1000000000) :
  Does Tryz.prog 150 [layV hh ss bb ff,.slice xa xs.length xc] H fun v H'=>∃a n c,v=.tuple #[.agg #[.int .i64 (parseSl xs).size,.int .i64 (parseSl xs).refs,.slice a n c],.bool (decP (readOk ff hh xs))]∧Pcs H' a n (parseSl xs).ps∧n≤c∧(∀q∈blkOf a,H.size≤q∧q<H'.size)∧Ext [] H H':=by
 refine Fn_of_vc Tryz.mixed (LayRead2V _ _ _ _ _ _ _ _ _) ?_
 intro b1 H2 hn1 b3 H4 hn3
 have hx4:=hn1.ext.trans' hn3.ext (by simp)
 have g1:=hn1.eq;have g3:=hn3.eq;have z2:=hn1.size;have z4:=hn3.size
 have hb1:=hn1.blk.ext hn3.ext (by simp)
 have hb3:=hn3.blk
 refine(nrB_ok (by omega) (hx.ext hx4 (by simp))).mono ?_
 rintro _ H6 ⟨p,rfl,hr6,hx6⟩
 refine⟨_,rfl,(ruB_ok (n:=4) (.inr ⟨rfl,rfl⟩) hr6).mono ?_⟩
 rintro _ H9 ⟨rfl,hr9,hx9⟩
 refine⟨_,rfl,(ruB_ok (n:=2) (.inl ⟨rfl,rfl⟩) hr9).mono ?_⟩
 rintro _ H12 ⟨rfl,hr12,hx12⟩
 refine⟨_,rfl,fun b14 H15 hn15=>⟨hn15.blk.cells _ _ (by simp),fun H16 hp16=>?_⟩⟩
 obtain⟨hb16,hx16,e14,z16⟩:=new_put hn15 hp16 rfl
 have z6:=hx6.size;have z9:=hx9.size;have z12:=hx12.size
 let G1:Nat→Prop:=fun k=>H4.size≤k∧k<H12.size
 have hX12:Ext [] H H12:=(hx4.trans' hx6 (by simp)).transP (hx9.trans hx12) (fun i hi=>by have:H4.size≤i:=hi;omega)
 have hX16:=hX12.trans' hx16 (by simp)
 have hr16:RB G1 H16 p _:=(RIs.mono (G':=G1) hr12 (fun k hk hg=>⟨hg,hk⟩)).ext hx16
 have hb1_16:Blk H16 b1 _:=((((hb1.ext hx6 (by simp)).extP hx9 (fun h=>by have:H4.size≤b1:=h;omega)).extP hx12 (fun h=>by have:H4.size≤b1:=h;omega))).ext hx16 (by simp)
 have hb3_16:Blk H16 b3 _:=((((hb3.ext hx6 (by simp)).extP hx9 (fun h=>by have:H4.size≤b3:=h;omega)).extP hx12 (fun h=>by have:H4.size≤b3:=h;omega))).ext hx16 (by simp)
 have hG14:¬G1 b14:=fun h=>by have:=h.2;omega
 refine(ru8B_ok hr16).mono ?_
 rintro _ H18 ⟨rfl,hr18,hx18⟩
 refine⟨_,rfl,(ru8B_ok hr18).mono ?_⟩
 rintro _ H21 ⟨rfl,hr21,hx21⟩
 have hx16_21:ExtP G1 H16 H21:=hx18.trans hx21
 have hcb:=numU_bd (rdN (rdN (xs,false) 4) 2) 1 (by omega)
 obtain⟨cnt,hcnt⟩:∃cnt:Nat,numU (rdN (rdN (xs,false) 4) 2) 1=cnt:=⟨(numU (rdN (rdN (xs,false) 4) 2) 1).toNat,by omega⟩
 let s0:Octs×Bool:=rdN (rdN (rdN (rdN (xs,false) 4) 2) 1) 1
 let J:Nat→Heap→Prop:=fun k K=>k≤6∧RB G1 K p (pcSt s0 k)∧(∃a c,Blk K b14 [.int .i64 (parseSl xs).size,.int .i64 (parseSl xs).refs,.slice a k c]∧Own K 2 a k c (piecesV (pcsTo s0 k))∧∀q∈blkOf a,H16.size≤q)∧ExtP (fun q=>H4.size≤q) H16 K
 refine⟨_,rfl,fun K=>J (min cnt 6) K,⟨fun i K=>∃k:Nat,i=k∧k≤cnt∧J k K,fun i _=>(cnt - i).toNat,⟨0,rfl,Nat.zero_le _,by omega,hr21,⟨none,0,hb16.extP hx16_21 hG14,Own.nil _ _,by simp[blkOf]⟩,hx16_21.mono fun _ _ h=>h.1⟩,?_⟩,?_⟩
 ·rintro _ H27 ⟨k,rfl,hk,hk6,hr27,⟨a,c,hb27,ho27,hf27⟩,hx27⟩
  rw[show numU (rdU (rdU (xs,false) 4).snd 2).snd 1=cnt from hcnt]
  refine⟨fun hlt=>⟨fun hlt6=>?_,fun h6=>?_⟩,fun hge=>?_⟩
  ·have hGa:∀q∈blkOf a,¬G1 q:=fun q hq h=>by have:=hf27 q hq;have:=h.2;omega
   have c27:hcell H27 b14 (0+2)=some (.slice a k c):=by rw[hb27.cell];rfl
   refine⟨a,k,c,c27,(ruB_ok (n:=2) (.inl ⟨rfl,rfl⟩) hr27).mono ?_⟩
   rintro _ H32 ⟨rfl,hr32,hx32⟩
   have hb32:=hb27.extP hx32 hG14
   refine⟨_,rfl,⟨by rw[hb32.cell];rfl,trivial⟩,(ruB_ok (n:=2) (.inl ⟨rfl,rfl⟩) hr32).mono ?_⟩
   rintro _ H35 ⟨rfl,hr35,hx35⟩
   have hb35:=hb32.extP hx35 hG14
   refine⟨_,rfl,⟨by rw[hb35.cell];rfl,trivial⟩,fun b37 H38 hn37=>?_⟩
   have hx38:=hn37.ext
   have hb38:=hb35.ext hx38 (by simp)
   have e37:=hn37.eq
   have ho38:=(Own.extP (Own.extP ho27 hx32 hGa) hx35 hGa).ext hx38 (by simp)
   have hr38:RB G1 H38 p (pcSt s0 (k+1)):=RIs.ext hr35 hx38
   have z27:=hx27.size;have z32:=hx32.size;have z35:=hx35.size;have z38:=hx38.size
   refine⟨⟨by rw[hb38.cell];rfl,trivial⟩,_,[.int .i64 (numU (pcSt s0 k) 2),.int .i64 (numU (rdU (pcSt s0 k) 2).2 2)],ho38.row _ _,⟨rfl,.inr rfl,fun j u hj=>?_⟩,fun u hu=>?_,by omega,fun hle=>ho38.room hle,fun a41 c42 H43 happ=>?_⟩
   ·show hcell H38 b37 (0+j)=some u
    rw[Nat.zero_add,hn37.blk.cell]
    exact hj
   ·simp only[List.mem_cons,List.not_mem_nil,or_false]at hu
    rcases hu with rfl|rfl<;>rfl
   obtain⟨q1,q2,q3⟩:=happ.own ho38 (ho38.row _ _) rfl rfl
   have hd14:b14∉blkOf a:=fun h=>by have:=hf27 b14 h;omega
   have hb43:=hb38.ext q2 hd14
   refine⟨hb43.cells 1 2 (by simp),fun H44 hp44=>?_⟩
   have hb44:Blk H44 b14 [.int .i64 (parseSl xs).size,.int .i64 (parseSl xs).refs,.slice a41 (k+1) c42]:=hp44.blk hb43 (by simp)
   have hx44:=hp44.ext
   have hd41:∀q∈blkOf a41,H16.size≤q:=fun q hq=>by
    rcases q3 q hq with h|h
    ·exact hf27 q h
    ·omega
   have hpG:∀q,G1 q→q∉blkOf a:=fun q hq h=>hGa q h hq
   have hr44:RB G1 H44 p (pcSt s0 (k+1)):=(RIs.extP hr38 q2.toP hpG).extP hx44.toP (fun q hq=>by simp only[List.mem_singleton];rintro rfl;exact hG14 hq)
   refine⟨by unfold In64;omega,⟨k+1,by omega,by omega,by omega,hr44,⟨a41,c42,hb44,?_,hd41⟩,?_⟩,by simp only;omega⟩
   ·rw[pcsTo_succ]
    have:piecesV (pcsTo s0 k++[pcAt s0 k])=piecesV (pcsTo s0 k)++[.int .i64 (numU (pcSt s0 k) 2),.int .i64 (numU (rdU (pcSt s0 k) 2).2 2)]:=by simp[piecesV,pcV,pcAt,rdN]
    rw[this]
    exact q1.ext hx44 (fun q hq=>by simp only[List.mem_singleton];rintro rfl;have:=hd41 _ hq;omega)
   ·exact((((hx27.trans (hx32.mono fun _ _ h=>h.1)).trans (hx35.mono fun _ _ h=>h.1)).trans hx38.anyP).trans (q2.lift fun q _ hq=>by have:=hf27 q hq;omega)).trans (hx44.lift fun q _ hq=>by simp only[List.mem_singleton]at hq;omega)
  ·have:min cnt 6=k:=by omega
   show J (min cnt 6) H27
   rw[this]
   exact⟨hk6,hr27,⟨a,c,hb27,ho27,hf27⟩,hx27⟩
  ·have:min cnt 6=k:=by omega
   show J (min cnt 6) H27
   rw[this]
   exact⟨hk6,hr27,⟨a,c,hb27,ho27,hf27⟩,hx27⟩
 ·rintro H45 ⟨_,hr45,⟨a,c,hb45,ho45,hf45⟩,hx45⟩
  have z45:=hx45.size
  have eps:(parseSl xs).ps=pcsTo s0 (min cnt 6):=by
   have e:(numU (rdN (rdN (xs,false) 4) 2) 1).toNat=cnt:=by omega
   simp only[parseSl,e]
   rfl
  rw[←eps]at ho45
  have hln:(parseSl xs).ps.length=min cnt 6:=by rw[eps,pcsTo_length]
  generalize min cnt 6=n at *
  have hX45:Ext [] H H45:=hX16.transP hx45 (fun i hi=>by have:H4.size≤i:=hi;omega)
  have hb1_45:Blk H45 b1 _:=hb1_16.extP hx45 (fun h=>by have:H4.size≤b1:=h;omega)
  have hb3_45:Blk H45 b3 _:=hb3_16.extP hx45 (fun h=>by have:H4.size≤b3:=h;omega)
  obtain⟨t1,t2,t3,t4,t5,t6⟩:=parse_ok xs
  have hpc45:=pcs_of_own ho45 hln
  have hcap:n≤c:=ho45.2.1
  have ha45:∀q∈blkOf a,H.size≤q∧q<H45.size:=fun q hq=>⟨by have:=hf45 q hq;omega,ho45.lt q hq⟩
  have hne:b14≠b3:=by omega
  have fin:∀(K:Heap) (t:Bool),Ext [] H45 K→t=decP (readOk ff hh xs)→Cells K b3 0 3∧∀K':Heap,Puts K b3 0 [.int .i64 (parseSl xs).size,.int .i64 (parseSl xs).refs,.slice a n c] K' →
    ∃n1:Int,hcell K' b3 0=some (.int .i64 n1)∧(∃n2:Int,hcell K' b3 (0+1)=some (.int .i64 n2)∧(∃a1:Option Addr,∃l1:Nat,∃c1:Nat,hcell K' b3 ((0+1)+1)=some (.slice a1 l1 c1) ∧
     ∃a n c,Value.tuple #[.agg #[.int .i64 n1,.int .i64 n2,.slice a1 l1 c1],.bool t]=.tuple #[.agg #[.int .i64 (parseSl xs).size,.int .i64 (parseSl xs).refs,.slice a n c],.bool (decP (readOk ff hh xs))]∧Pcs K' a n (parseSl xs).ps∧n≤c∧(∀q∈blkOf a,H.size≤q∧q<K'.size)∧Ext [] H K')):=by
   intro K t hk ht
   have hb3K:=hb3_45.ext hk (by simp)
   refine⟨hb3K.cells _ _ (by simp),fun K' hp=>?_⟩
   have hb3K':=hp.blk hb3K (by simp)
   have hxp:=hp.ext
   have zk:=hk.size
   have zp:=hxp.size
   refine⟨_,by rw[hb3K'.cell];rfl,_,by rw[hb3K'.cell];rfl,_,_,_,by rw[hb3K'.cell];rfl,a,n,c,by rw[ht],(hpc45.ext hk (by simp)).ext hxp (fun q hq=>?_),hcap,fun q hq=>⟨(ha45 q hq).1,by have:=(ha45 q hq).2;omega⟩,(hX45.trans' hk (by simp)).trans' hxp (fun i hi=>?_)⟩
   ·have:=hf45 q hq
    simp only[List.mem_singleton]
    omega
   ·simp only[List.mem_singleton]at hi
    omega
  refine⟨(parseSl xs).size,by rw[hb45.cell];rfl,(parseSl xs).refs,by rw[hb45.cell];rfl,a,n,c,by rw[hb45.cell];rfl,(slotlay_ok hpc45 t1 t2 t3 t4 t5 t6).mono ?_⟩
  rintro _ H52 ⟨⟨a53,c55,rfl,ho53,hf53⟩,hx52⟩
  have e1:(slotI (parseSl xs).size (parseSl xs).refs (parseSl xs).ps).length=(slotO (parseSl xs)).length:=by rw[←toI_len,toI_slotO]
  have e2:u8s (slotI (parseSl xs).size (parseSl xs).refs (parseSl xs).ps)=bytesV (slotO (parseSl xs)):=by rw[←toI_slotO,u8s_toI]
  rw[e1,e2]at ho53
  rw[e1]
  have hl32:=slotO_length (parse_ok xs)
  refine⟨_,_,_,rfl,(eqB_ok (by omega) (ho53.row _ _) ((hx.ext hX45 (by simp)).ext hx52 (by simp))).mono ?_⟩
  rintro _ H57 ⟨rfl,rfl⟩
  have hb52:=hb45.ext hx52 (by simp)
  have hb1_52:=hb1_45.ext hx52 (by simp)
  refine⟨_,rfl,fun hf=>?_,fun ht=>?_⟩
  ·refine⟨_,by rw[hb52.cell];rfl,_,by rw[hb52.cell];rfl,_,_,_,by rw[hb52.cell];rfl,fin H52 false hx52 ?_⟩
   have:¬slotO (parseSl xs)=xs:=of_decide_eq_false hf
   exact decP_false fun h=>this h.1
  have hT:slotO (parseSl xs)=xs:=of_decide_eq_true (by
   cases hd:decide (slotO (parseSl xs)=xs)with
   | true=>rfl
   | false=>exact absurd hd ht)
  refine⟨(parseSl xs).refs,by rw[hb52.cell];rfl,fun h0=>?_,fun h0=>?_⟩
  ·refine⟨_,by rw[hb52.cell];rfl,_,by rw[hb52.cell];rfl,_,_,_,by rw[hb52.cell];rfl,(parseSl xs).size,by rw[hb52.cell];rfl,fun hz=>?_,fun hz=>?_⟩
   ·obtain⟨g1,g2⟩:=fin H52 (@decide (((n:Int):Int)=0) (Classical.propDecidable _)) hx52 (dec_eq ⟨fun h=>⟨hT,.inl ⟨h0,hz,List.eq_nil_of_length_eq_zero (by omega)⟩⟩,fun h=>by
     rcases h.2 with h|h
     ·have:(parseSl xs).ps.length=0:=by rw[h.2.2];rfl
      omega
     ·exact absurd h0 h.1⟩)
    refine⟨a,n,c,by rw[hb52.cell];rfl,g1,fun K' hp=>⟨⟨by rw[(hb52.ext hp.ext (by simpa using hne)).cell];rfl,trivial⟩,g2 K' hp⟩⟩
   ·exact fin H52 false hx52 (decP_false fun h=>by
     rcases h.2 with h|h
     ·exact hz h.2.1
     ·exact h.1 h0)
  ·refine⟨_,by rw[hb52.cell];rfl,_,by rw[hb52.cell];rfl,_,_,_,by rw[hb52.cell];rfl,a,n,c,by rw[hb52.cell];rfl,ff,by rw[hb1_52.cell];rfl,hh,by rw[hb1_52.cell];rfl,(right_ok (hpc45.ext hx52 (by simp)) hcap ff hh hf0 (by omega) (by omega)).mono ?_⟩
   rintro _ H103 ⟨rfl,hx103⟩
   have hxx:=hx52.trans' hx103 (by simp)
   have hb103:=hb52.ext hx103 (by simp)
   refine⟨_,rfl,⟨by rw[hb103.cell];rfl,by rw[hb103.cell];rfl,by rw[hb103.cell];rfl,trivial⟩,fun hr=>?_,fun hr=>?_⟩
   ·have hR:RightP (parseSl xs).ps ff hh:=@of_decide_eq_true _ (Classical.propDecidable _) hr
    refine⟨a,n,c,by rw[hb103.cell];rfl,(parseSl xs).size,by rw[hb103.cell];rfl,(count_ok (hpc45.ext hxx (by simp))).mono ?_⟩
    rintro _ H110 ⟨rfl,hx110⟩
    have hb110:=hb103.ext hx110 (by simp)
    refine⟨_,rfl,⟨by rw[hb110.cell];rfl,trivial⟩,⟨by rw[hb110.cell];rfl,by rw[hb110.cell];rfl,by rw[hb110.cell];rfl,trivial⟩,(blocks_ok _ H110 t3).mono ?_⟩
    rintro _ _ ⟨rfl,rfl⟩
    refine⟨_,rfl,⟨by rw[hb110.cell];rfl,by rw[hb110.cell];rfl,by rw[hb110.cell];rfl,trivial⟩,fin H110 _ (hxx.trans' hx110 (by simp)) (dec_eq ⟨fun h=>⟨hT,.inr ⟨h0,hR,h⟩⟩,fun h=>by
     rcases h.2 with h|h
     ·exact absurd h.1 h0
     ·exact h.2.2⟩)⟩
   ·have hR:¬RightP (parseSl xs).ps ff hh:=@of_decide_eq_false _ (Classical.propDecidable _) hr
    exact fin H103 false hxx (decP_false fun h=>by
     rcases h.2 with h|h
     ·exact h0 h.1
     ·exact hR h.2.1)
end Go.Proofs
end
section
open Go Go.Vc
namespace Go.Proofs
theorem Load2V(x0:Option Addr) (H:Heap) (R:Value→Heap→Prop):Walk Tryz.prog 93 [(22,[(16,(.pointer none)),(17,(.bool false))])] [.pointer x0] H R=(∀b1 H2,New H b1 [.int .i64 0,.int .i64 0,.int .i64 0,.int .i64 0] 131 H2→∀b3 H4,New H2 b3 [.slice none 0 0,.pointer none,.map none] 136 H4→Does Tryz.prog 146 [.pointer x0,.int .i64 0] H4 fun v5 H6=>∃a7 l8 c9,∃n10,v5=(.tuple #[.slice a7 l8 c9,.int .i64 n10])∧(((n10≠0)→Cells H6 b1 0 4∧∀H11,Puts H6 b1 0 [.int .i64 0,.int .i64 0,.int .i64 0,.int .i64 0] H11→Cells H11 b3 0 3∧∀H12,Puts H11 b3 0 [.slice none 0 0,.pointer none,.map none] H12→∃n13,hcell H12 b1 0=some (.int .i64 n13)∧∃n14,hcell H12 b1 (0+1)=some (.int .i64 n14)∧∃n15,hcell H12 b1 (0+1+1)=some (.int .i64 n15)∧∃n16,hcell H12 b1 (0+1+1+1)=some (.int .i64 n16)∧∃a17 l18 c19,hcell H12 b3 0=some (.slice a17 l18 c19)∧∃p20:Option Addr,hcell H12 b3 (0+1)=some (.pointer p20)∧∃m21:Option Nat,hcell H12 b3 (0+1+1)=some (.map m21)∧R (.tuple #[.agg #[.int .i64 n13,.int .i64 n14,.int .i64 n15,.int .i64 n16],.agg #[.slice a17 l18 c19,.pointer p20,.map m21],.int .i64 n10]) H12)∧(¬(n10≠0)→Does Tryz.prog 147 [.pointer x0] H6 fun v22 H23=>∃n24,v22=(.int .i64 n24)∧Does Tryz.prog 148 [.slice a7 l8 c9] H23 fun v25 H26=>∃p27:Option Addr,v25=(.pointer p27)∧Does Tryz.prog 149 [.pointer p27] H26 fun v28 H29=>∃n30,v28=(.int .i64 n30)∧Does Tryz.prog 115 [.int .i64 n24,.int .i64 n30] H29 fun v31 H32=>∃n33 n34,∃n35 n36,∃t37,v31=(.tuple #[.agg #[.int .i64 n33,.int .i64 n34,.int .i64 n35,.int .i64 n36],.bool t37])∧∀b38 H39,New H32 b38 [.int .i64 0,.int .i64 0,.int .i64 0,.int .i64 0] 131 H39→Cells H39 b38 0 4∧∀H40,Puts H39 b38 0 [.int .i64 n33,.int .i64 n34,.int .i64 n35,.int .i64 n36] H40→(((t37=false)→∃n41,hcell H40 b38 0=some (.int .i64 n41)∧∃n42,hcell H40 b38 (0+1)=some (.int .i64 n42)∧∃n43,hcell H40 b38 (0+1+1)=some (.int .i64 n43)∧∃n44,hcell H40 b38 (0+1+1+1)=some (.int .i64 n44)∧Cells H40 b1 0 4∧∀H45,Puts H40 b1 0 [.int .i64 n41,.int .i64 n42,.int .i64 n43,.int .i64 n44] H45→Cells H45 b3 0 3∧∀H46,Puts H45 b3 0 [.slice none 0 0,.pointer none,.map none] H46→∃n47,hcell H46 b1 0=some (.int .i64 n47)∧∃n48,hcell H46 b1 (0+1)=some (.int .i64 n48)∧∃n49,hcell H46 b1 (0+1+1)=some (.int .i64 n49)∧∃n50,hcell H46 b1 (0+1+1+1)=some (.int .i64 n50)∧∃a51 l52 c53,hcell H46 b3 0=some (.slice a51 l52 c53)∧∃p54:Option Addr,hcell H46 b3 (0+1)=some (.pointer p54)∧∃m55:Option Nat,hcell H46 b3 (0+1+1)=some (.map m55)∧R (.tuple #[.agg #[.int .i64 n47,.int .i64 n48,.int .i64 n49,.int .i64 n50],.agg #[.slice a51 l52 c53,.pointer p54,.map m55],.int .i64 2]) H46)∧(¬(t37=false)→∃n56,hcell H40 b38 (0+3)=some (.int .i64 n56)∧∃I57:Option Addr→Nat→Nat→Int→Heap→Prop,∃μ58:Option Addr→Nat→Nat→Int→Heap→Nat,(I57 none 0 0 0 H40) ∧∀a59 l60 c61,∀n62:Int,∀H63:Heap,I57 a59 l60 c61 n62 H63→(((n62<n56)→Does Tryz.prog 146 [.pointer x0,.int .i64 n62] H63 fun v64 H65=>∃a66 l67 c68,∃n69,v64=(.tuple #[.slice a66 l67 c68,.int .i64 n69])∧(((n69≠0)→∃n70,hcell H65 b38 0=some (.int .i64 n70)∧∃n71,hcell H65 b38 (0+1)=some (.int .i64 n71)∧∃n72,hcell H65 b38 (0+1+1)=some (.int .i64 n72)∧∃n73,hcell H65 b38 (0+1+1+1)=some (.int .i64 n73)∧Cells H65 b1 0 4∧∀H74,Puts H65 b1 0 [.int .i64 n70,.int .i64 n71,.int .i64 n72,.int .i64 n73] H74→Cells H74 b3 0 3∧∀H75,Puts H74 b3 0 [.slice none 0 0,.pointer none,.map none] H75→∃n76,hcell H75 b1 0=some (.int .i64 n76)∧∃n77,hcell H75 b1 (0+1)=some (.int .i64 n77)∧∃n78,hcell H75 b1 (0+1+1)=some (.int .i64 n78)∧∃n79,hcell H75 b1 (0+1+1+1)=some (.int .i64 n79)∧∃a80 l81 c82,hcell H75 b3 0=some (.slice a80 l81 c82)∧∃p83:Option Addr,hcell H75 b3 (0+1)=some (.pointer p83)∧∃m84:Option Nat,hcell H75 b3 (0+1+1)=some (.map m84)∧R (.tuple #[.agg #[.int .i64 n76,.int .i64 n77,.int .i64 n78,.int .i64 n79],.agg #[.slice a80 l81 c82,.pointer p83,.map m84],.int .i64 n69]) H75)∧(¬(n69≠0)→∃old85 new86:List Value,SRow H65 1 l60 (.slice a59 l60 c61) old85∧SRow H65 1 l67 (.slice a66 l67 c68) new86∧(∀u∈new86,Value.oneCell' u=true)∧(l60+l67)*1≤140737488355328∧(l60+l67≤c61→roomOf H65 a59 (l60*1) (l67*1))∧∀a87:Option Addr,∀c88:Nat,∀H89,App H65 1 5 [.int .u8 0] a59 l60 c61 old85 new86 l67 a87 c88 H89→In64 (n62+1) ∧(I57 a87 (l60+l67) c88 (n62+1) H89)∧μ58 a87 (l60+l67) c88 (n62+1) H89<μ58 a59 l60 c61 n62 H63)))∧(¬(n62<n56)→∃n90,hcell H63 b38 0=some (.int .i64 n90)∧∃n91,hcell H63 b38 (0+1)=some (.int .i64 n91)∧∃n92,hcell H63 b38 (0+1+1)=some (.int .i64 n92)∧∃n93,hcell H63 b38 (0+1+1+1)=some (.int .i64 n93)∧Does Tryz.prog 118 [.agg #[.int .i64 n90,.int .i64 n91,.int .i64 n92,.int .i64 n93]] H63 fun v94 H95=>∃a96 l97 c98,∃p99:Option Addr,∃m100:Option Nat,v94=(.agg #[.slice a96 l97 c98,.pointer p99,.map m100])∧∀b101 H102,New H95 b101 [.slice none 0 0,.pointer none,.map none] 136 H102→Cells H102 b101 0 3∧∀H103,Puts H102 b101 0 [.slice a96 l97 c98,.pointer p99,.map m100] H103→∃n104,hcell H103 b38 (0+2)=some (.int .i64 n104)∧In64 (1+n104) ∧In64 ((1+n104)*128) ∧∃a105 l106 c107,hcell H103 b101 0=some (.slice a105 l106 c107)∧∃I108:Int→Heap→Prop,∃μ109:Int→Heap→Nat,(I108 0 H103) ∧∀n110 H111,I108 n110 H111→(((n110<(l106:Int))→∃I112:Option Addr→Bool→Heap→Prop,(∃n113,hcell H111 b38 0=some (.int .i64 n113)∧∃n114,hcell H111 b38 (0+1)=some (.int .i64 n114)∧∃n115,hcell H111 b38 (0+1+1)=some (.int .i64 n115)∧∃n116,hcell H111 b38 (0+1+1+1)=some (.int .i64 n116)∧In64 (n110*32) ∧In64 (((1+n104)*128)+(n110*32)) ∧In64 (n110+1) ∧In64 ((n110+1)*32) ∧In64 (((1+n104)*128)+((n110+1)*32)) ∧(0:Int)≤(((1+n104)*128)+(n110*32))∧((((1+n104)*128)+(n110*32)):Int)≤(((1+n104)*128)+((n110+1)*32))∧((((1+n104)*128)+((n110+1)*32)):Int)≤(c61:Int)∧∀a117:Option Addr,a117=(if c61=(Int.toNat (((1+n104)*128)+(n110*32)))then a59 else Option.map (fun x=>Addr.add x ((Int.toNat (((1+n104)*128)+(n110*32)))*1)) a59)→((Does Tryz.prog 150 [.agg #[.int .i64 n113,.int .i64 n114,.int .i64 n115,.int .i64 n116],.slice a117 ((Int.toNat (((1+n104)*128)+((n110+1)*32))) - (Int.toNat (((1+n104)*128)+(n110*32)))) (c61 - (Int.toNat (((1+n104)*128)+(n110*32))))] H111 fun v118 H119=>∃n120 n121,∃a122 l123 c124,∃t125,v118=(.tuple #[.agg #[.int .i64 n120,.int .i64 n121,.slice a122 l123 c124],.bool t125])∧∀b126 H127,New H119 b126 [.int .i64 0,.int .i64 0,.slice none 0 0] 147 H127→isL H127 b38 0 [.int .i64 n113,.int .i64 n114,.int .i64 n115,.int .i64 n116]∧Cells H127 b126 0 3∧∀H128,Puts H127 b126 0 [.int .i64 n120,.int .i64 n121,.slice a122 l123 c124] H128→(I112 (some (⟨b126,0,none⟩:Addr)) t125 H128))∧∀b129 H130,New H111 b129 [.int .i64 0,.int .i64 0,.slice none 0 0] 147 H130→isL H130 b38 0 [.int .i64 n113,.int .i64 n114,.int .i64 n115,.int .i64 n116]∧Does Tryz.prog 150 [.agg #[.int .i64 n113,.int .i64 n114,.int .i64 n115,.int .i64 n116],.slice a117 ((Int.toNat (((1+n104)*128)+((n110+1)*32))) - (Int.toNat (((1+n104)*128)+(n110*32)))) (c61 - (Int.toNat (((1+n104)*128)+(n110*32))))] H130 fun v131 H132=>∃n133 n134,∃a135 l136 c137,∃t138,v131=(.tuple #[.agg #[.int .i64 n133,.int .i64 n134,.slice a135 l136 c137],.bool t138])∧Cells H132 b129 0 3∧∀H139,Puts H132 b129 0 [.int .i64 n133,.int .i64 n134,.slice a135 l136 c137] H139→(I112 (some (⟨b129,0,none⟩:Addr)) t138 H139))) ∧∀p140:Option Addr,∀t141:Bool,∀H142:Heap,I112 p140 t141 H142→(((t141=false)→∃n143,hcell H142 b38 0=some (.int .i64 n143)∧∃n144,hcell H142 b38 (0+1)=some (.int .i64 n144)∧∃n145,hcell H142 b38 (0+1+1)=some (.int .i64 n145)∧∃n146,hcell H142 b38 (0+1+1+1)=some (.int .i64 n146)∧∃a147 l148 c149,hcell H142 b101 0=some (.slice a147 l148 c149)∧∃p150:Option Addr,hcell H142 b101 (0+1)=some (.pointer p150)∧∃m151:Option Nat,hcell H142 b101 (0+1+1)=some (.map m151)∧Cells H142 b1 0 4∧∀H152,Puts H142 b1 0 [.int .i64 n143,.int .i64 n144,.int .i64 n145,.int .i64 n146] H152→isL H152 b101 0 [.slice a147 l148 c149,.pointer p150,.map m151]∧Cells H152 b3 0 3∧∀H153,Puts H152 b3 0 [.slice a147 l148 c149,.pointer p150,.map m151] H153→∃n154,hcell H153 b1 0=some (.int .i64 n154)∧∃n155,hcell H153 b1 (0+1)=some (.int .i64 n155)∧∃n156,hcell H153 b1 (0+1+1)=some (.int .i64 n156)∧∃n157,hcell H153 b1 (0+1+1+1)=some (.int .i64 n157)∧∃a158 l159 c160,hcell H153 b3 0=some (.slice a158 l159 c160)∧∃p161:Option Addr,hcell H153 b3 (0+1)=some (.pointer p161)∧∃m162:Option Nat,hcell H153 b3 (0+1+1)=some (.map m162)∧R (.tuple #[.agg #[.int .i64 n154,.int .i64 n155,.int .i64 n156,.int .i64 n157],.agg #[.slice a158 l159 c160,.pointer p161,.map m162],.int .i64 2]) H153)∧(¬(t141=false)→∃a163 l164 c165,hcell H142 b101 0=some (.slice a163 l164 c165)∧(withA p140 (fun (b166:Nat) (o167:Nat)=>(∃n168,hcell H142 b166 o167=some (.int .i64 n168)∧∃n169,hcell H142 b166 (o167+1)=some (.int .i64 n169)∧∃a170 l171 c172,hcell H142 b166 (o167+1+1)=some (.slice a170 l171 c172)∧(0:Int)≤n110∧n110<(l164:Int)∧∃b173 o174:Nat,a163=some (⟨b173,o174,none⟩:Addr)∧Cells H142 b173 (o174+(Int.toNat n110)*3) 3∧∀H175,Puts H142 b173 (o174+(Int.toNat n110)*3) [.int .i64 n168,.int .i64 n169,.slice a170 l171 c172] H175→(withA p140 (fun (b176:Nat) (o177:Nat)=>(∃a178 l179 c180,hcell H175 b176 (o177+2)=some (.slice a178 l179 c180)∧∃I181:Int→Heap→Prop,∃μ182:Int→Heap→Nat,(I181 0 H175) ∧∀n183 H184,I181 n183 H184→(((n183<(l179:Int))→(0:Int)≤n183∧n183<(l179:Int)∧∃b185 o186:Nat,a178=some (⟨b185,o186,none⟩:Addr)∧∃n187,hcell H184 b185 (o186+(Int.toNat n183)*2)=some (.int .i64 n187)∧∃n188,hcell H184 b185 (o186+(Int.toNat n183)*2+1)=some (.int .i64 n188)∧∀b189 H190,New H184 b189 [.int .i64 0,.int .i64 0] 103 H190→Cells H190 b189 0 2∧∀H191,Puts H190 b189 0 [.int .i64 n187,.int .i64 n188] H191→∃n192,hcell H191 b189 (0+1)=some (.int .i64 n192)∧∃I193:Int→Heap→Prop,∃μ194:Int→Heap→Nat,(I193 0 H191) ∧∀n195 H196,I193 n195 H196→(((n195<n192)→∃p197:Option Addr,hcell H196 b101 (0+1)=some (.pointer p197)∧∃n198,hcell H196 b189 0=some (.int .i64 n198)∧In64 (n198+n195) ∧Does Tryz.prog 151 [.pointer p197,.int .i64 (n198+n195),.bool true] H196 fun v199 H200=>∃t201,v199=(.bool t201)∧(((t201=false)→∃n202,hcell H200 b38 0=some (.int .i64 n202)∧∃n203,hcell H200 b38 (0+1)=some (.int .i64 n203)∧∃n204,hcell H200 b38 (0+1+1)=some (.int .i64 n204)∧∃n205,hcell H200 b38 (0+1+1+1)=some (.int .i64 n205)∧∃a206 l207 c208,hcell H200 b101 0=some (.slice a206 l207 c208)∧∃p209:Option Addr,hcell H200 b101 (0+1)=some (.pointer p209)∧∃m210:Option Nat,hcell H200 b101 (0+1+1)=some (.map m210)∧Cells H200 b1 0 4∧∀H211,Puts H200 b1 0 [.int .i64 n202,.int .i64 n203,.int .i64 n204,.int .i64 n205] H211→isL H211 b101 0 [.slice a206 l207 c208,.pointer p209,.map m210]∧Cells H211 b3 0 3∧∀H212,Puts H211 b3 0 [.slice a206 l207 c208,.pointer p209,.map m210] H212→∃n213,hcell H212 b1 0=some (.int .i64 n213)∧∃n214,hcell H212 b1 (0+1)=some (.int .i64 n214)∧∃n215,hcell H212 b1 (0+1+1)=some (.int .i64 n215)∧∃n216,hcell H212 b1 (0+1+1+1)=some (.int .i64 n216)∧∃a217 l218 c219,hcell H212 b3 0=some (.slice a217 l218 c219)∧∃p220:Option Addr,hcell H212 b3 (0+1)=some (.pointer p220)∧∃m221:Option Nat,hcell H212 b3 (0+1+1)=some (.map m221)∧R (.tuple #[.agg #[.int .i64 n213,.int .i64 n214,.int .i64 n215,.int .i64 n216],.agg #[.slice a217 l218 c219,.pointer p220,.map m221],.int .i64 2]) H212)∧(¬(t201=false)→In64 (n195+1) ∧(I193 (n195+1) H200)∧μ194 (n195+1) H200<μ194 n195 H196)))∧(¬(n195<n192)→In64 (n183+1) ∧(I181 (n183+1) H196)∧μ182 (n183+1) H196<μ182 n183 H184)))∧(¬(n183<(l179:Int))→In64 (n110+1) ∧(I108 (n110+1) H184)∧μ109 (n110+1) H184<μ109 n110 H111)))))))))))∧(¬(n110<(l106:Int))→∃n222,hcell H111 b38 0=some (.int .i64 n222)∧∃n223,hcell H111 b38 (0+1)=some (.int .i64 n223)∧∃n224,hcell H111 b38 (0+1+1)=some (.int .i64 n224)∧∃n225,hcell H111 b38 (0+1+1+1)=some (.int .i64 n225)∧∃a226 l227 c228,hcell H111 b101 0=some (.slice a226 l227 c228)∧∃p229:Option Addr,hcell H111 b101 (0+1)=some (.pointer p229)∧∃m230:Option Nat,hcell H111 b101 (0+1+1)=some (.map m230)∧Does Tryz.prog 117 [.agg #[.int .i64 n222,.int .i64 n223,.int .i64 n224,.int .i64 n225],.agg #[.slice a226 l227 c228,.pointer p229,.map m230]] H111 fun v231 H232=>∃a233 l234 c235,v231=(.slice a233 l234 c235)∧Does Tryz.prog 125 [.slice a233 l234 c235] H232 fun v236 H237=>∃a238 l239 c240,v236=(.slice a238 l239 c240)∧Does Tryz.prog 152 [.slice a238 l239 c240,.slice a59 l60 c61] H237 fun v241 H242=>∃t243,v241=(.bool t243)∧(((t243=false)→∃n244,hcell H242 b38 0=some (.int .i64 n244)∧∃n245,hcell H242 b38 (0+1)=some (.int .i64 n245)∧∃n246,hcell H242 b38 (0+1+1)=some (.int .i64 n246)∧∃n247,hcell H242 b38 (0+1+1+1)=some (.int .i64 n247)∧∃a248 l249 c250,hcell H242 b101 0=some (.slice a248 l249 c250)∧∃p251:Option Addr,hcell H242 b101 (0+1)=some (.pointer p251)∧∃m252:Option Nat,hcell H242 b101 (0+1+1)=some (.map m252)∧Cells H242 b1 0 4∧∀H253,Puts H242 b1 0 [.int .i64 n244,.int .i64 n245,.int .i64 n246,.int .i64 n247] H253→isL H253 b101 0 [.slice a248 l249 c250,.pointer p251,.map m252]∧Cells H253 b3 0 3∧∀H254,Puts H253 b3 0 [.slice a248 l249 c250,.pointer p251,.map m252] H254→∃n255,hcell H254 b1 0=some (.int .i64 n255)∧∃n256,hcell H254 b1 (0+1)=some (.int .i64 n256)∧∃n257,hcell H254 b1 (0+1+1)=some (.int .i64 n257)∧∃n258,hcell H254 b1 (0+1+1+1)=some (.int .i64 n258)∧∃a259 l260 c261,hcell H254 b3 0=some (.slice a259 l260 c261)∧∃p262:Option Addr,hcell H254 b3 (0+1)=some (.pointer p262)∧∃m263:Option Nat,hcell H254 b3 (0+1+1)=some (.map m263)∧R (.tuple #[.agg #[.int .i64 n255,.int .i64 n256,.int .i64 n257,.int .i64 n258],.agg #[.slice a259 l260 c261,.pointer p262,.map m263],.int .i64 2]) H254)∧(¬(t243=false)→∃n264,hcell H242 b38 (0+3)=some (.int .i64 n264)∧∃I265:Int→Int→Heap→Prop,∃μ266:Int→Int→Heap→Nat,(I265 n10 n264 H242) ∧∀n267:Int,∀n268:Int,∀H269:Heap,I265 n267 n268 H269→∃n270,hcell H269 b38 0=some (.int .i64 n270)∧(((n268<n270)→∃p271:Option Addr,hcell H269 b101 (0+1)=some (.pointer p271)∧Does Tryz.prog 153 [.pointer p271,.int .i64 n268] H269 fun v272 H273=>∃t274,v272=(.bool t274)∧((t274=true→∃m275:Option Nat,hcell H273 b101 (0+2)=some (.map m275)∧Does Tryz.prog 146 [.pointer x0,.int .i64 n268] H273 fun v276 H277=>∃a278 l279 c280,∃n281,v276=(.tuple #[.slice a278 l279 c280,.int .i64 n281])∧isL H277 b101 (0+2) [.map m275]∧∃r282:Nat,∃l283:List (Int×Value),m275=some r282∧MapIs H277 r282 l283∧∀H284,MapPut H277 r282 (mapSet l283 n268 (.slice a278 l279 c280)) H284→(((n281≠0)→∃n285,hcell H284 b38 0=some (.int .i64 n285)∧∃n286,hcell H284 b38 (0+1)=some (.int .i64 n286)∧∃n287,hcell H284 b38 (0+1+1)=some (.int .i64 n287)∧∃n288,hcell H284 b38 (0+1+1+1)=some (.int .i64 n288)∧∃a289 l290 c291,hcell H284 b101 0=some (.slice a289 l290 c291)∧∃p292:Option Addr,hcell H284 b101 (0+1)=some (.pointer p292)∧∃m293:Option Nat,hcell H284 b101 (0+1+1)=some (.map m293)∧Cells H284 b1 0 4∧∀H294,Puts H284 b1 0 [.int .i64 n285,.int .i64 n286,.int .i64 n287,.int .i64 n288] H294→isL H294 b101 0 [.slice a289 l290 c291,.pointer p292,.map m293]∧Cells H294 b3 0 3∧∀H295,Puts H294 b3 0 [.slice a289 l290 c291,.pointer p292,.map m293] H295→∃n296,hcell H295 b1 0=some (.int .i64 n296)∧∃n297,hcell H295 b1 (0+1)=some (.int .i64 n297)∧∃n298,hcell H295 b1 (0+1+1)=some (.int .i64 n298)∧∃n299,hcell H295 b1 (0+1+1+1)=some (.int .i64 n299)∧∃a300 l301 c302,hcell H295 b3 0=some (.slice a300 l301 c302)∧∃p303:Option Addr,hcell H295 b3 (0+1)=some (.pointer p303)∧∃m304:Option Nat,hcell H295 b3 (0+1+1)=some (.map m304)∧R (.tuple #[.agg #[.int .i64 n296,.int .i64 n297,.int .i64 n298,.int .i64 n299],.agg #[.slice a300 l301 c302,.pointer p303,.map m304],.int .i64 n281]) H295)∧(¬(n281≠0)→In64 (n268+1) ∧(I265 n281 (n268+1) H284)∧μ266 n281 (n268+1) H284<μ266 n267 n268 H269)))∧(t274=false→In64 (n268+1) ∧(I265 n267 (n268+1) H273)∧μ266 n267 (n268+1) H273<μ266 n267 n268 H269)))∧(¬(n268<n270)→∃n305,hcell H269 b38 0=some (.int .i64 n305)∧∃n306,hcell H269 b38 (0+1)=some (.int .i64 n306)∧∃n307,hcell H269 b38 (0+1+1)=some (.int .i64 n307)∧∃n308,hcell H269 b38 (0+1+1+1)=some (.int .i64 n308)∧∃a309 l310 c311,hcell H269 b101 0=some (.slice a309 l310 c311)∧∃p312:Option Addr,hcell H269 b101 (0+1)=some (.pointer p312)∧∃m313:Option Nat,hcell H269 b101 (0+1+1)=some (.map m313)∧Cells H269 b1 0 4∧∀H314,Puts H269 b1 0 [.int .i64 n305,.int .i64 n306,.int .i64 n307,.int .i64 n308] H314→isL H314 b101 0 [.slice a309 l310 c311,.pointer p312,.map m313]∧Cells H314 b3 0 3∧∀H315,Puts H314 b3 0 [.slice a309 l310 c311,.pointer p312,.map m313] H315→∃n316,hcell H315 b1 0=some (.int .i64 n316)∧∃n317,hcell H315 b1 (0+1)=some (.int .i64 n317)∧∃n318,hcell H315 b1 (0+1+1)=some (.int .i64 n318)∧∃n319,hcell H315 b1 (0+1+1+1)=some (.int .i64 n319)∧∃a320 l321 c322,hcell H315 b3 0=some (.slice a320 l321 c322)∧∃p323:Option Addr,hcell H315 b3 (0+1)=some (.pointer p323)∧∃m324:Option Nat,hcell H315 b3 (0+1+1)=some (.map m324)∧R (.tuple #[.agg #[.int .i64 n316,.int .i64 n317,.int .i64 n318,.int .i64 n319],.agg #[.slice a320 l321 c322,.pointer p323,.map m324],.int .i64 0]) H315))))))))))))):=by kernel_rfl
end Go.Proofs
end
section
open Go Go.Vc Go.Proofs.Bx
namespace Go.Proofs
theorem Own.cut{H:Heap}{size:Nat}{a:Option Addr}{n c:Nat}{xs:List Value}(h:Own H size a n c xs):Own H size a 0 c []:=by
 obtain⟨h1,h2,h3,h4⟩:=h
 refine⟨by simp,Nat.zero_le _,h3,?_⟩
 rcases h4 with h4|⟨b,tl,h4,h5,h6⟩
 ·exact .inl h4
 ·exact .inr ⟨b,xs++tl,h4,by simpa using h5,by simpa using h6⟩
theorem growB_ok(n:Nat)(H:Heap)(hn:n≤1000000000):Does Tryz.prog 185 [.slice none 0 0,.int .i64 n] H fun v H'=>∃a c,v=.slice a 0 c∧Own H' 1 a 0 c []∧Ext [] H H'∧∀q∈blkOf a,H.size≤q:=by
 refine Fn_of_vc Tryz.mixed (GrowBV _ _ _ _ _ _) ?_
 refine⟨fun h=>by omega,fun _=>⟨by unfold In64;omega,by unfold In64;omega,fun h=>⟨by omega,by omega,[],(Own.nil H 1).row _ _,by omega,by simp;omega,fun hle=>absurd hle (by simp;omega),fun a2 c3 H4 happ=>⟨by omega,by omega,?_⟩⟩,fun h=>⟨none,0,rfl,Own.nil _ _,Ext.refl _ _,fun q hq=>by cases hq⟩⟩⟩
 have e:(Int.toNat ((n:Int) - (((0:Nat):Int) - ((0:Nat):Int))))=n:=by omega
 rw[e]at happ
 obtain⟨g1,g2,g3⟩:=happ.own (Own.nil H 1) ((Own.nil H 1).row _ _) (by simp) rfl
 refine⟨a2,c3,rfl,Own.cut g1,g2.mono (fun k _ hk=>by cases hk),fun q hq=>?_⟩
 rcases g3 q hq with h'|h'
 ·cases h'
 ·exact h'
def catP(P:Nat→Octs)(k:Nat):Octs:=((List.range k).map P).flatten
theorem catP_succ(P:Nat→Octs)(k:Nat):catP P (k+1)=catP P k++P k:=by simp[catP,List.range_succ]
theorem concat_ok{H:Heap}{a:Option Addr}{k c:Nat}{vs:List Value}{P:Nat→Octs}(hv:SRow H 1 k (.slice a k c) vs)(hp:∀i,i<k→∃ai ci,vs[i]?=some (.slice ai (P i).length ci)∧SRow H 1 (P i).length (.slice ai (P i).length ci) (bytesV (P i)))(hk:k≤100000)(hl:∀i,i≤k→(catP P i).length≤100000000) :
  Does Tryz.prog 125 [.slice a k c] H fun v H'=>ToldB H H' v (catP P k)∧Ext [] H H':=by
 refine Fn_of_vc Tryz.mixed (ConcatV _ _ _ _ _) ?_
 have get:∀{K:Heap} (j:Nat),j<k→Ext [] H K→∃b o ai ci,a=some ⟨b,o,none⟩∧hcell K b (o+j)=some (.slice ai (P j).length ci)∧SRow K 1 (P j).length (.slice ai (P j).length ci) (bytesV (P j)):=by
  intro K j hj hx
  obtain⟨ai,ci,h1,h2⟩:=hp j hj
  obtain⟨b,o,rfl,h3⟩:=(hv.ext hx (by simp)).at h1
  exact⟨b,o,ai,ci,rfl,h3,h2.ext hx (by simp)⟩
 refine⟨fun n i K=>∃j:Nat,i=j∧j≤k∧n=((catP P j).length:Int)∧H=K,fun _ i _=>(k - i).toNat,⟨0,rfl,Nat.zero_le _,rfl,rfl⟩,?_⟩
 rintro _ _ _ ⟨j,rfl,hj,rfl,rfl⟩
 have hlj:=hl j hj
 refine⟨fun hlt=>?_,fun hge=>?_⟩
 ·have hj':j<k:=by omega
  obtain⟨b,o,ai,ci,ha,h3,h4⟩:=get j hj' (Ext.refl [] _)
  have hl2:=hl (j+1) hj'
  rw[catP_succ,List.length_append]at hl2
  refine⟨by omega,by omega,b,o,ha,ai,_,ci,by rw[Int.toNat_natCast];exact h3,by unfold In64;omega,fun h=>by omega,fun _=>⟨by unfold In64;omega,⟨j+1,by omega,by omega,?_,rfl⟩,by simp only;omega⟩⟩
  rw[catP_succ,List.length_append];omega
 ·have:j=k:=by omega
  subst this
  refine(growB_ok _ _ (by omega)).mono ?_
  rintro _ H12 ⟨a13,c15,rfl,ho13,hx12,hf13⟩
  refine⟨_,_,_,rfl,fun a l c i K=>∃m:Nat,i=m∧m≤j∧l=(catP P m).length∧Own K 1 a l c (bytesV (catP P m))∧(∀q∈blkOf a,H.size≤q)∧Ext [] H K,fun _ _ _ i _=>(j - i).toNat,⟨0,rfl,Nat.zero_le _,rfl,ho13,hf13,hx12⟩,?_⟩
  rintro a18 _ c20 _ H22 ⟨m,rfl,hm,rfl,ho,hf,hx⟩
  refine⟨fun hlt=>?_,fun hge=>?_⟩
  ·have hm':m<j:=by omega
   obtain⟨b,o,ai,ci,ha,h3,h4⟩:=get m hm' hx
   have hl2:=hl (m+1) hm'
   rw[catP_succ,List.length_append]at hl2
   refine⟨by omega,by omega,b,o,ha,ai,_,ci,by rw[Int.toNat_natCast];exact h3,_,_,ho.row _ _,h4,bytesV_one _,by omega,fun hle=>ho.room hle,fun a30 c31 H32 happ=>?_⟩
   obtain⟨g1,g2,g3⟩:=happ.own ho (ho.row _ _) (by rw[bytesV_length];omega) rfl
   refine⟨by unfold In64;omega,⟨m+1,by omega,by omega,by rw[catP_succ,List.length_append],?_,fun q hq=>?_,hx.trans' g2 (fun i hi=>.inl (hf i hi))⟩,by simp only;omega⟩
   ·rw[catP_succ,bytesV_append];exact g1
   ·rcases g3 q hq with h'|h'
    ·exact hf q h'
    ·have:=hx.size;omega
  ·have:m=j:=by omega
   subst this
   exact⟨⟨a18,c20,rfl,ho,hf⟩,hx⟩
theorem catP_rows{xs:Octs}:∀{k:Nat},k*128≤xs.length→catP (fun i=>(xs.drop (i*128)).take 128) k=xs.take (k*128)
 | 0,_=>by simp[catP]
 | k+1,h=>by
  rw[catP_succ,catP_rows (by omega)]
  have:(k+1)*128=k*128+128:=by omega
  rw[this,List.take_add]
theorem concatR_ok{H0 H:Heap}{v:Value}{xs:Octs}(h:RowsOf H0 H v xs)(hl:xs.length≤10000000):Does Tryz.prog 125 [v] H fun v H'=>ToldB H H' v xs∧Ext [] H H':=by
 obtain⟨k,a,c,vs,rfl,h1,h2,h3,h4,h5⟩:=h
 have e:catP (fun i=>(xs.drop (i*128)).take 128) k=xs:=by rw[catP_rows (by omega),List.take_of_length_le (by omega)]
 have hP:∀i,i<k→((fun i=>(xs.drop (i*128)).take 128) i).length=128:=fun i hi=>by simp only[List.length_take,List.length_drop];omega
 have:=concat_ok (P:=fun i=>(xs.drop (i*128)).take 128) (h2.row k c) (fun i hi=>by
  obtain⟨ai,q1,q2,_⟩:=h5 i hi
  rw[hP i hi]
  exact⟨ai,128,q1,q2⟩) (by omega) (fun i hi=>by rw[catP_rows (by omega),List.length_take];omega)
 rw[e]at this
 exact this
end Go.Proofs
end
section
open Go Go.Vc Go.Proofs.Bx
namespace Go.Proofs
theorem setb2_ok{H:Heap}{pb:Nat}{a:Option Addr}{c:Nat}{bs:List Bool}(h:IsB H pb a c bs)(k:Int)(on:Bool) :
  Does Tryz.prog 151 [.pointer (some ⟨pb,0,none⟩),.int .i64 k,.bool on] H fun v H'=>(∃t,v=.bool t∧(t=true↔0≤k∧k<bs.length∧onB bs k.toNat≠on))∧IsB H' pb a c (setB bs k on)∧Ext (blkOf a) H H':=by
 obtain⟨xs,hm,hb⟩:=h
 have gk:0≤k∧k<bs.length→getB bs.length xs k=bit xs k.toNat:=fun hin=>by
  have:=getB_nat bs.length xs k.toNat (by omega)
  rw[show((k.toNat:Nat):Int)=k by omega]at this
  exact this
 refine(Bx.set_ok hm k on).mono ?_
 rintro _ H' (⟨rfl,rfl,hh⟩|⟨rfl,h0,h1,hne,hm',hx⟩)
 ·refine⟨⟨_,rfl,⟨fun h=>(by cases h),fun ⟨h1,h2,h3⟩=>?_⟩⟩,?_,Ext.refl _ _⟩
  ·rcases hh with hh|hh|hh
   ·omega
   ·omega
   ·rw[gk ⟨h1,h2⟩,hb.bits]at hh;exact absurd hh h3
  unfold setB
  split
  ·rename_i hin
   refine⟨xs,by rw[List.length_set];exact hm,hb.same (by omega) ?_⟩
   rcases hh with hh|hh|hh
   ·omega
   ·omega
   ·rw[←gk hin];exact hh
  ·exact⟨xs,hm,hb⟩
 ·refine⟨⟨_,rfl,⟨fun _=>⟨h0,h1,by rw[←hb.bits,←gk ⟨h0,h1⟩];exact hne⟩,fun _=>rfl⟩⟩,?_,hx⟩
  unfold setB
  rw[if_pos ⟨h0,h1⟩]
  exact⟨flipL xs k.toNat,by rw[List.length_set];exact hm',hb.flip (by omega) (by rw[←gk ⟨h0,h1⟩];exact hne)⟩
def headN(cur:Nat→Octs):Int:=numU (cur 0,false) 2
def pieceO(N:Nat)(cur:Nat→Octs)(k:Nat):Octs:=((catP cur (firstN N (headN cur)).toNat).drop (((1+bitsN N)*128).toNat+k*32)).take 32
def slotsL(N:Nat)(cur:Nat→Octs)(k:Nat):List PSl:=(List.range k).map fun j=>parseSl (pieceO N cur j)
def allBlk(l:List PSl):List Int:=(l.map fun s=>blocksI s.ps).flatten
def firstB(N f:Int):List Bool:=setAll (List.replicate N.toNat false) ((List.range f.toNat).map fun (k:Nat)=>(k:Int)) true
structure LoadOk(N:Nat) (cur:Nat→Octs) (st:PSt):Prop where
 good:¬laidBad N (headN cur)
 room:firstN N (headN cur)<N
 slots:st.slots=slotsL N cur (headN cur).toNat
 right:∀k:Nat,(k:Int)<headN cur→readOk (firstN N (headN cur)) N (pieceO N cur k)
 once:(allBlk st.slots).Nodup
 bits:st.bits=setAll (firstB N (firstN N (headN cur))) (allBlk st.slots) true
 fix:∀xs,BytesAre st.bits xs→fixO (headN cur) xs st.slots=catP cur (firstN N (headN cur)).toNat
 data:st.data=fun k=>if firstN N (headN cur)≤k∧k<N∧onB st.bits k.toNat=true then some (cur k.toNat)else none
theorem slotsL_length(N:Nat)(cur:Nat→Octs)(k:Nat):(slotsL N cur k).length=k:=by simp[slotsL]
theorem slotsL_succ(N:Nat)(cur:Nat→Octs)(k:Nat):slotsL N cur (k+1)=slotsL N cur k++[parseSl (pieceO N cur k)]:=by simp[slotsL,List.range_succ]
theorem allBlk_append(l m:List PSl):allBlk (l++m)=allBlk l++allBlk m:=by simp[allBlk]
theorem allBlk_one(s:PSl):allBlk [s]=blocksI s.ps:=by simp[allBlk]
theorem allBlk_prefix{N:Nat}{cur:Nat→Octs}{k n:Nat}(h:k≤n):∃r,allBlk (slotsL N cur n)=allBlk (slotsL N cur k)++r:=by
 obtain⟨d,rfl⟩:∃d,n=k+d:=⟨n - k,by omega⟩
 clear h
 induction d with
 | zero=>exact⟨[],by simp⟩
 | succ d ih=>
  obtain⟨r,hr⟩:=ih
  refine⟨r++allBlk [parseSl (pieceO N cur (k+d))],?_⟩
  rw[show k+(d+1)=(k+d)+1 by omega,slotsL_succ,allBlk_append,hr,List.append_assoc]
theorem catP_length{P:Nat→Octs}{n m:Nat}(h:∀i,i<n→(P i).length=m):(catP P n).length=n*m:=by
 induction n with
 | zero=>simp[catP]
 | succ n ih=>rw[catP_succ,List.length_append,ih (fun i hi=>h i (by omega)),h n (by omega),Nat.succ_mul]
def OutT(K:Heap)(b1 b3 b38 b101:Nat)(e:Int)(R:Value→Heap→Prop):Prop:=
 ∃n143:Int,hcell K b38 0=some (.int .i64 n143)∧(∃n144:Int,hcell K b38 (0+1)=some (.int .i64 n144)∧(∃n145:Int,hcell K b38 ((0+1)+1)=some (.int .i64 n145)∧(∃n146:Int,hcell K b38 (((0+1)+1)+1)=some (.int .i64 n146)∧(
  ∃a147:Option Addr,∃l148:Nat,∃c149:Nat,hcell K b101 0=some (.slice a147 l148 c149)∧(∃p150:Option Addr,hcell K b101 (0+1)=some (.pointer p150)∧(∃m151:Option Nat,hcell K b101 ((0+1)+1)=some (.map m151)∧(
   Cells K b1 0 4∧∀H152:Heap,Puts K b1 0 [(.int .i64 n143),(.int .i64 n144),(.int .i64 n145),(.int .i64 n146)] H152→(
    isL H152 b101 0 [(.slice a147 l148 c149),(.pointer p150),(.map m151)]∧(Cells H152 b3 0 3∧∀H153:Heap,Puts H152 b3 0 [(.slice a147 l148 c149),(.pointer p150),(.map m151)] H153→(
     (∃n154:Int,hcell H153 b1 0=some (.int .i64 n154)∧(∃n155:Int,hcell H153 b1 (0+1)=some (.int .i64 n155)∧(∃n156:Int,hcell H153 b1 ((0+1)+1)=some (.int .i64 n156)∧(∃n157:Int,hcell H153 b1 (((0+1)+1)+1)=some (.int .i64 n157)∧(
      ∃a158:Option Addr,∃l159:Nat,∃c160:Nat,hcell H153 b3 0=some (.slice a158 l159 c160)∧(∃p161:Option Addr,hcell H153 b3 (0+1)=some (.pointer p161)∧(∃m162:Option Nat,hcell H153 b3 ((0+1)+1)=some (.map m162)∧(
       R (.tuple #[(.agg #[(.int .i64 n154),(.int .i64 n155),(.int .i64 n156),(.int .i64 n157)]),(.agg #[(.slice a158 l159 c160),(.pointer p161),(.map m162)]),(.int .i64 e)]) H153))))))))))))))))))
theorem outT{K:Heap}{b1 b3 b38 b101:Nat}{e h s b f:Int}{x:RSt}{z1 z3:List Value}{R:Value→Heap→Prop}(h1:Blk K b1 z1)(hz1:z1.length=4)(h3:Blk K b3 z3)(hz3:z3.length=3)(h38:Blk K b38 [.int .i64 h,.int .i64 s,.int .i64 b,.int .i64 f])(h101:Blk K b101 (rstV x))(d1:b1≠b3)(d2:b1≠b101)
  (hR:∀K',ExtP (fun q=>q=b1∨q=b3) K K'→R (.tuple #[layV h s b f,stateV x,.int .i64 e]) K'):OutT K b1 b3 b38 b101 e R:=by
 refine⟨_,by rw[h38.cell];rfl,_,by rw[h38.cell];rfl,_,by rw[h38.cell];rfl,_,by rw[h38.cell];rfl,_,_,_,by rw[h101.cell];rfl,_,by rw[h101.cell];rfl,_,by rw[h101.cell];rfl,h1.cells _ _ (by simp[hz1]),fun K1 hp1=>?_⟩
 have hx1:=hp1.ext
 have h1':Blk K1 b1 [.int .i64 h,.int .i64 s,.int .i64 b,.int .i64 f]:=by
  have:=hp1.blk h1 (by simp[hz1])
  match z1,hz1 with
  | [_,_,_,_],_=>exact this
 have h3':=h3.ext hx1 (by simpa using d1.symm)
 have h101':=h101.ext hx1 (by simpa using d2.symm)
 refine⟨⟨by rw[h101'.cell];rfl,by rw[h101'.cell];rfl,by rw[h101'.cell];rfl,trivial⟩,h3'.cells _ _ (by simp[hz3]),fun K2 hp2=>?_⟩
 have hx2:=hp2.ext
 have h3'':Blk K2 b3 (rstV x):=by
  have:=hp2.blk h3' (by simp[hz3])
  match z3,hz3 with
  | [_,_,_],_=>exact this
 have h1'':=h1'.ext hx2 (by simpa using d1)
 refine⟨_,by rw[h1''.cell];rfl,_,by rw[h1''.cell];rfl,_,by rw[h1''.cell];rfl,_,by rw[h1''.cell];rfl,_,_,_,by rw[h3''.cell];rfl,_,by rw[h3''.cell];rfl,_,by rw[h3''.cell];rfl,hR K2 ?_⟩
 exact(hx1.lift (N:=fun q=>q=b1∨q=b3) fun q _ hq=>.inl (by simpa using hq)).trans (hx2.lift fun q _ hq=>.inr (by simpa using hq))
end Go.Proofs
end
section
open Go Go.Vc
namespace Go.Proofs.Bx
theorem right_nil'(x e:Int):RightP [] x e:=⟨by simp,fun i p hp=>by simp at hp⟩
theorem onB_setB(bs:List Bool)(x:Int)(on:Bool)(h:0≤x∧x<bs.length)(i:Nat):onB (setB bs x on) i=if(i:Int)=x then on else onB bs i:=by
 rw[setB_in h,onB_set _ _ _ _ (by omega)]
 by_cases e:(i:Int)=x
 ·rw[if_pos e,if_pos (by omega)]
 ·rw[if_neg e,if_neg (by omega)]
theorem onB_setAll:∀(xs:List Int)(bs:List Bool)(on:Bool),(∀x∈xs,0≤x∧x<bs.length)→∀i:Nat,onB (setAll bs xs on) i=if(i:Int)∈xs then on else onB bs i
 | [],bs,on,_,i=>by simp[setAll]
 | x::xs,bs,on,h,i=>by
  have e:setAll bs (x::xs) on=setAll (setB bs x on) xs on:=rfl
  rw[e,onB_setAll xs _ on (fun y hy=>by rw[setB_length];exact h y (by simp[hy])) i,onB_setB _ _ _ (h x (by simp))]
  by_cases h1:(i:Int)∈xs
  ·rw[if_pos h1,if_pos (by simp[h1])]
  ·rw[if_neg h1]
   by_cases h2:(i:Int)=x
   ·rw[if_pos h2,if_pos (by simp[h2])]
   ·rw[if_neg h2,if_neg (by simp[h1,h2])]
theorem offs_spec(p:Nat→Bool):∀(f k c:Nat)(x:Int),x∈offs p f k c→(k:Int)≤x∧x<(k:Int)+f∧p x.toNat=false
 | 0,k,c,x,h=>by simp[offs]at h
 | f+1,k,0,x,h=>by simp[offs]at h
 | f+1,k,c+1,x,h=>by
  rw[offs]at h
  split at h
  ·have:=offs_spec p f (k+1) (c+1) x h
   exact⟨by omega,by omega,this.2.2⟩
  ·rename_i hp
   rcases List.mem_cons.1 h with rfl|h
   ·refine⟨by omega,by omega,by simpa using hp⟩
   ·have:=offs_spec p f (k+1) c x h
    exact⟨by omega,by omega,this.2.2⟩
theorem offs_nodup(p:Nat→Bool):∀(f k c:Nat),(offs p f k c).Nodup
 | 0,k,c=>by simp[offs]
 | f+1,k,0=>by simp[offs]
 | f+1,k,c+1=>by
  rw[offs]
  split
  ·exact offs_nodup p f (k+1) (c+1)
  ·rw[List.nodup_cons]
   refine⟨fun h=>?_,offs_nodup p f (k+1) c⟩
   have:=(offs_spec p f (k+1) c _ h).1
   omega
theorem blocksI_rev_cons(rs:List Pc)(q:Pc):blocksI (q::rs).reverse=blocksI rs.reverse++blkI q:=by
 rw[List.reverse_cons,blocksI_append]
 simp[blocksI]
theorem blkI_one(b:Int):blkI ⟨b,1⟩=[b]:=by simp[blkI]
theorem blkI_succ(q:Pc)(h:0≤q.c):blkI ⟨q.s,q.c+1⟩=blkI q++[q.s+q.c]:=by
 unfold blkI
 have:(q.c+1).toNat=q.c.toNat+1:=by omega
 simp only[this,List.range_succ,List.map_append,List.map_cons,List.map_nil]
 rw[show((q.c.toNat:Nat):Int)=q.c by omega]
theorem pushB_pos{rs:List Pc}(h:∀p∈rs,1≤p.c)(b:Int):∀p∈pushB rs b,1≤p.c:=by
 intro p hp
 cases rs with
 | nil=>simp only[pushB,List.mem_singleton]at hp;subst hp;simp
 | cons q r=>
  simp only[pushB]at hp
  have hq:=h q (by simp)
  split at hp
  ·rcases List.mem_cons.1 hp with rfl|hp
   ·simp only;omega
   ·exact h p (by simp[hp])
  ·rcases List.mem_cons.1 hp with rfl|hp
   ·simp
   ·exact h p hp
theorem pushB_blocks{rs:List Pc}(h:∀p∈rs,1≤p.c)(b:Int):blocksI (pushB rs b).reverse=blocksI rs.reverse++[b]:=by
 cases rs with
 | nil=>simp[pushB,blocksI,blkI]
 | cons q r=>
  have hq:=h q (by simp)
  simp only[pushB]
  split
  ·rename_i e
   rw[blocksI_rev_cons,blocksI_rev_cons,blkI_succ q (by omega),e,List.append_assoc]
  ·rw[blocksI_rev_cons,blkI_one]
def RNorm:List Pc→Prop
 | p::q::r=>q.s+q.c≠p.s∧RNorm (q::r)
 | _=>True
theorem pushB_norm{rs:List Pc}(h:RNorm rs)(b:Int):RNorm (pushB rs b):=by
 match rs,h with
 | [],_=>trivial
 | [q],_=>
  simp only[pushB]
  split
  ·trivial
  ·rename_i e;exact⟨e,trivial⟩
 | q::q'::r,h=>
  simp only[pushB]
  split
  ·exact⟨h.1,h.2⟩
  ·rename_i e;exact⟨e,h⟩
theorem foldB_all:∀(xs:List Int)(rs:List Pc),(∀p∈rs,1≤p.c)→RNorm rs→(∀p∈xs.foldl pushB rs,1≤p.c)∧RNorm (xs.foldl pushB rs)∧blocksI (xs.foldl pushB rs).reverse=blocksI rs.reverse++xs
 | [],rs,h1,h2=>⟨h1,h2,by simp⟩
 | x::xs,rs,h1,h2=>by
  obtain⟨h3,h4,h5⟩:=foldB_all xs (pushB rs x) (pushB_pos h1 x) (pushB_norm h2 x)
  refine⟨h3,h4,?_⟩
  rw[List.foldl_cons,h5,pushB_blocks h1]
  simp
theorem rnorm_at:∀{rs:List Pc},RNorm rs→∀{i:Nat}{p q:Pc},rs[i]?=some p→rs[i+1]?=some q→q.s+q.c≠p.s
 | p::q::r,h,0,a,b,ha,hb=>by
  simp only[List.getElem?_cons_zero,Option.some.injEq,List.getElem?_cons_succ]at ha hb
  subst ha;subst hb
  exact h.1
 | p::q::r,h,i+1,a,b,ha,hb=>by
  simp only[List.getElem?_cons_succ]at ha hb
  exact rnorm_at (rs:=q::r) h.2 (i:=i) (by simpa using ha) (by simpa using hb)
 | [p],h,i,a,b,ha,hb=>by
  cases i<;>simp at hb
 | [],h,i,a,b,ha,hb=>by simp at ha
theorem piecesF_spec(xs:List Int):(∀p∈piecesF xs,1≤p.c)∧(∀(i:Nat)(p q:Pc),(piecesF xs)[i]?=some q→(piecesF xs)[i+1]?=some p→q.s+q.c≠p.s)∧blocksI (piecesF xs)=xs:=by
 obtain⟨h1,h2,h3⟩:=foldB_all xs [] (by simp) trivial
 refine⟨fun p hp=>h1 p (by simpa[piecesF]using hp),fun i p q hq hp=>?_,by simpa[piecesF,blocksI]using h3⟩
 unfold piecesF at hq hp
 obtain⟨hi,_⟩:=List.getElem?_eq_some_iff.1 hp
 rw[List.length_reverse]at hi
 rw[List.getElem?_reverse (by omega)]at hq hp
 refine rnorm_at h2 hp ?_
 rw[show(xs.foldl pushB []).length - 1 - (i+1)+1=(xs.foldl pushB []).length - 1 - i by omega]
 exact hq
theorem mem_blkI_iff{p:Pc}{x:Int}:x∈blkI p↔p.s≤x∧x<p.s+p.c:=by
 refine⟨mem_blkI,fun h=>?_⟩
 simp only[blkI,List.mem_map,List.mem_range]
 exact⟨(x - p.s).toNat,by omega,by omega⟩
theorem apart_of_nodup:∀{l:List Pc},(∀p∈l,1≤p.c)→(blocksI l).Nodup→∀(i k:Nat)(p q:Pc),k<i→l[i]?=some p→l[k]?=some q→apartP q p
 | [],_,_,i,k,p,q,_,hp,_=>by simp at hp
 | r::l,hpos,hn,i+1,0,p,q,_,hp,hq=>by
  simp only[List.getElem?_cons_zero,Option.some.injEq]at hq
  subst hq
  simp only[List.getElem?_cons_succ]at hp
  have hpl:=List.mem_of_getElem? hp
  rw[blocksI_cons,List.nodup_append]at hn
  have h1:=hpos r (by simp)
  have h2:=hpos p (by simp[hpl])
  unfold apartP
  rcases Int.lt_or_le p.s (r.s+r.c)with h3|h3
  ·rcases Int.lt_or_le r.s (p.s+p.c)with h4|h4
   ·exfalso
    refine hn.2.2 (max r.s p.s) (mem_blkI_iff.2 (by omega)) (max r.s p.s) ?_ rfl
    simp only[blocksI,List.mem_flatten,List.mem_map]
    exact⟨_,⟨p,hpl,rfl⟩,mem_blkI_iff.2 (by omega)⟩
   ·exact .inr h4
  ·exact .inl h3
 | r::l,hpos,hn,i+1,k+1,p,q,hk,hp,hq=>by
  rw[blocksI_cons,List.nodup_append]at hn
  exact apart_of_nodup (l:=l) (fun p hp=>hpos p (by simp[hp])) hn.2.1 i k p q (by omega) (by simpa using hp) (by simpa using hq)
theorem mem_blocksI_of{l:List Pc}{p:Pc}(hp:p∈l){x:Int}(h:p.s≤x∧x<p.s+p.c):x∈blocksI l:=by
 simp only[blocksI,List.mem_flatten,List.mem_map]
 exact⟨_,⟨p,hp,rfl⟩,mem_blkI_iff.2 h⟩
theorem right_pieces{xs:List Int}{a e:Int}(h6:(piecesF xs).length≤6)(hr:∀x∈xs,a≤x∧x<e)(hn:xs.Nodup):RightP (piecesF xs) a e:=by
 obtain⟨h1,h2,h3⟩:=piecesF_spec xs
 refine⟨h6,fun i p hp=>⟨?_,fun k q hk hq=>⟨apart_of_nodup h1 (by rw[h3];exact hn) i k p q hk hp hq,fun e=>?_⟩⟩⟩
 ·have hpm:=List.mem_of_getElem? hp
  have hc:=h1 p hpm
  have b1:=hr p.s (by rw[←h3];exact mem_blocksI_of hpm (by omega))
  have b2:=hr (p.s+p.c - 1) (by rw[←h3];exact mem_blocksI_of hpm (by omega))
  exact⟨hc,by omega,by omega,by omega⟩
 ·subst e
  exact h2 k p q hq hp
theorem nodup_of_apart:∀{l:List Pc},(∀(i k:Nat)(p q:Pc),k<i→l[i]?=some p→l[k]?=some q→apartP q p)→(blocksI l).Nodup
 | [],_=>by simp[blocksI]
 | r::l,h=>by
  rw[blocksI_cons,List.nodup_append]
  refine⟨?_,nodup_of_apart (l:=l) (fun i k p q hk hp hq=>h (i+1) (k+1) p q (by omega) (by simpa using hp) (by simpa using hq)),fun x hx y hy e=>?_⟩
  ·unfold blkI
   unfold List.Nodup
   rw[List.pairwise_map]
   exact List.nodup_range.imp fun h1 e=>h1 (by omega)
  ·subst e
   obtain⟨p,hp,hx'⟩:=mem_blocksI hy
   have hxr:=mem_blkI hx
   obtain⟨i,hi,rfl⟩:=List.mem_iff_getElem.1 hp
   have:=h (i+1) 0 _ r (by omega) (by simp[List.getElem?_eq_getElem hi];rfl) rfl
   unfold apartP at this
   omega
theorem right_nodup{l:List Pc}{a e:Int}(h:RightP l a e):(blocksI l).Nodup:=nodup_of_apart fun i k p q hk hp hq=>((h.2 i p hp).2 k q hk hq).1
theorem right_range{l:List Pc}{a e:Int}(h:RightP l a e):∀x∈blocksI l,a≤x∧x<e:=by
 intro x hx
 obtain⟨p,hp,h1⟩:=mem_blocksI hx
 have:=right_in h p hp
 omega
structure Held(bs:List Bool) (ls:List (List Pc)):Prop where
 right:∀l∈ls,RightP l 0 bs.length
 on:∀l∈ls,∀x∈blocksI l,onB bs x.toNat=true
 once:∀(i k:Nat) (l m:List Pc),i≠k→ls[i]?=some l→ls[k]?=some m→∀x,x∈blocksI l→x∉blocksI m
section
variable {bs:List Bool} {ls:List (List Pc)}
theorem found_spec{k n:Int}{x:Int}(h:x∈foundF bs k n.toNat):0≤x∧x<bs.length∧onB bs x.toNat=false:=by
 have:=offs_spec _ _ _ _ _ h
 refine⟨by omega,?_,this.2.2⟩
 by_cases hk:k.toNat≤bs.length<;>omega
theorem Held.grow(h:Held bs ls){i:Nat}{l:List Pc}(hl:ls[i]?=some l){k n:Int}(hg:growOk bs l k n):Held (setAll bs (foundF bs k n.toNat) true) (ls.set i (growF bs l k n)):=by
 have hfs:∀x∈foundF bs k n.toNat,0≤x∧x<bs.length∧onB bs x.toNat=false:=fun x hx=>found_spec hx
 have hfr:∀x∈foundF bs k n.toNat,0≤x∧x<(bs.length:Int):=fun x hx=>⟨(hfs x hx).1,(hfs x hx).2.1⟩
 have hlm:=List.mem_of_getElem? hl
 have hil:i<ls.length:=(List.getElem?_eq_some_iff.1 hl).1
 have hblk:blocksI (growF bs l k n)=blocksI l++foundF bs k n.toNat:=(piecesF_spec _).2.2
 have hRl:=h.right l hlm
 have hon:∀x,0≤x→onB (setAll bs (foundF bs k n.toNat) true) x.toNat=(if x∈foundF bs k n.toNat then true else onB bs x.toNat):=fun x hx=>by
  rw[onB_setAll _ _ _ hfr,show((x.toNat:Nat):Int)=x by omega]
 refine⟨fun m hm=>?_,fun m hm x hx=>?_,fun a b m m' hab hm hm' x hx hx'=>?_⟩
 ·rw[setAll_length]
  rcases List.mem_or_eq_of_mem_set hm with hm|rfl
  ·exact h.right m hm
  ·refine right_pieces hg.2.2.2 (fun x hx=>?_) ?_
   ·rcases List.mem_append.1 hx with hx|hx
    ·exact right_range hRl x hx
    ·exact hfr x hx
   ·rw[List.nodup_append]
    refine⟨right_nodup hRl,offs_nodup _ _ _ _,fun x hx y hy e=>?_⟩
    subst e
    have h1:=h.on l hlm x hx
    have h2:=(hfs x hy).2.2
    rw[h1]at h2
    cases h2
 ·rcases List.mem_or_eq_of_mem_set hm with hm|rfl
  ·have h0:=right_range (h.right m hm) x hx
   rw[hon x h0.1,h.on m hm x hx]
   split<;>rfl
  ·rw[hblk]at hx
   rcases List.mem_append.1 hx with hx|hx
   ·have h0:=right_range hRl x hx
    rw[hon x h0.1,h.on l hlm x hx]
    split<;>rfl
   ·rw[hon x (hfr x hx).1,if_pos hx]
 ·have off:∀(c:Nat) (q:List Pc),c≠i→ls[c]?=some q→x∈blocksI q→x∈blocksI (growF bs l k n)→False:=by
   intro c q hc hq hxq hxg
   rw[hblk]at hxg
   rcases List.mem_append.1 hxg with h1|h1
   ·exact h.once i c l q (Ne.symm hc) hl hq x h1 hxq
   ·have h2:=h.on q (List.mem_of_getElem? hq) x hxq
    have h3:=(hfs x h1).2.2
    rw[h2]at h3
    cases h3
  by_cases ha:i=a
  ·subst ha
   rw[List.getElem?_set_self hil,Option.some.injEq]at hm
   rw[List.getElem?_set_ne hab]at hm'
   subst hm
   exact off b m' (Ne.symm hab) hm' hx' hx
  ·rw[List.getElem?_set_ne ha]at hm
   by_cases hb:i=b
   ·subst hb
    rw[List.getElem?_set_self hil,Option.some.injEq]at hm'
    subst hm'
    exact off a m hab hm hx hx'
   ·rw[List.getElem?_set_ne hb]at hm'
    exact h.once a b m m' hab hm hm' x hx hx'
theorem Held.shrink(h:Held bs ls){i:Nat}{l:List Pc}(hl:ls[i]?=some l)(n:Int):Held (setAll bs ((blocksI l).drop n.toNat) false) (ls.set i (piecesF ((blocksI l).take n.toNat))):=by
 have hlm:=List.mem_of_getElem? hl
 have hRl:=h.right l hlm
 have hil:i<ls.length:=(List.getElem?_eq_some_iff.1 hl).1
 have hdr:∀x∈(blocksI l).drop n.toNat,0≤x∧x<(bs.length:Int):=fun x hx=>right_range hRl x (List.mem_of_mem_drop hx)
 have hblk:blocksI (piecesF ((blocksI l).take n.toNat))=(blocksI l).take n.toNat:=(piecesF_spec _).2.2
 have hnd:=right_nodup hRl
 have hon:∀x,0≤x→x∉(blocksI l).drop n.toNat→onB (setAll bs ((blocksI l).drop n.toNat) false) x.toNat=onB bs x.toNat:=fun x hx h1=>by
  rw[onB_setAll _ _ _ hdr,show((x.toNat:Nat):Int)=x by omega,if_neg h1]
 have hdis:∀x,x∈(blocksI l).take n.toNat→x∉(blocksI l).drop n.toNat:=fun x h1 h2=>by
  rw[←List.take_append_drop n.toNat (blocksI l),List.nodup_append]at hnd
  exact hnd.2.2 x h1 x h2 rfl
 refine⟨fun m hm=>?_,fun m hm x hx=>?_,fun a b m m' hab hm hm' x hx hx'=>?_⟩
 ·rw[setAll_length]
  rcases List.mem_or_eq_of_mem_set hm with hm|rfl
  ·exact h.right m hm
  ·refine right_pieces ?_ (fun x hx=>right_range hRl x (List.mem_of_mem_take hx)) (hnd.sublist (List.take_sublist _ _))
   rw[←keepP_pieces hRl]
   have:=keepP_length l n.toNat
   have:=hRl.1
   omega
 ·obtain⟨j,hj⟩:=List.mem_iff_getElem?.1 hm
  by_cases hji:i=j
  ·subst hji
   rw[List.getElem?_set_self hil,Option.some.injEq]at hj
   subst hj
   rw[hblk]at hx
   have hxl:=List.mem_of_mem_take hx
   rw[hon x (right_range hRl x hxl).1 (hdis x hx)]
   exact h.on l hlm x hxl
  ·rw[List.getElem?_set_ne hji]at hj
   have hmm:=List.mem_of_getElem? hj
   rw[hon x (right_range (h.right m hmm) x hx).1 (fun h1=>h.once i j l m hji hl hj x (List.mem_of_mem_drop h1) hx)]
   exact h.on m hmm x hx
 ·by_cases ha:i=a
  ·subst ha
   rw[List.getElem?_set_self hil,Option.some.injEq]at hm
   rw[List.getElem?_set_ne hab]at hm'
   subst hm
   rw[hblk]at hx
   exact h.once i b l m' hab hl hm' x (List.mem_of_mem_take hx) hx'
  ·rw[List.getElem?_set_ne ha]at hm
   by_cases hb:i=b
   ·subst hb
    rw[List.getElem?_set_self hil,Option.some.injEq]at hm'
    subst hm'
    rw[hblk]at hx'
    exact h.once a i m l hab hm hl x hx (List.mem_of_mem_take hx')
   ·rw[List.getElem?_set_ne hb]at hm'
    exact h.once a b m m' hab hm hm' x hx hx'
end
end Go.Proofs.Bx
end
section
open Go Go.Vc Go.Proofs.Bx
namespace Go.Proofs
def LoadR(N:Nat)(cur:Nat→Octs)(H:Heap)(F:Nat→Prop)(pj pd:Nat)(J:Jn)(D:Dev)(v:Value)(H':Heap):Prop:=
 ExtP F H H'∧JD H' F pj pd J D∧∃(e h s b f:Int) (a:Option Addr) (n c:Nat) (p:Option Addr) (m:Option Nat),v=.tuple #[layV h s b f,.agg #[.slice a n c,.pointer p,.map m],.int .i64 e] ∧
  ((e=0∧∃(x:RSt) (rl:List RSl) (ba:Option Addr) (bc:Nat) (ml:List (Int×Value)) (Fd:Nat→Prop) (st:PSt),LoadOk N cur st∧h=N∧s=headN cur∧b=bitsN N∧f=firstN N (headN cur)∧.agg #[.slice a n c,.pointer p,.map m]=stateV x∧NowIs H' Fd x rl ba bc ml st∧(∀q,ownS x ba q∨Fd q→H.size≤q∧q<H'.size)∧x.n=(headN cur).toNat) ∨
   (e=2∧∀st,¬LoadOk N cur st))
def stL(N:Nat)(cur:Nat→Octs)(k:Nat):PSt:={slots:=slotsL N cur k++List.replicate ((headN cur).toNat - k) ⟨0,0,[]⟩,bits:=setAll (firstB N (firstN N (headN cur))) (allBlk (slotsL N cur k)) true,data:=fun _=>none}
theorem stL_set{N:Nat}{cur:Nat→Octs}{k:Nat}(hk:k<(headN cur).toNat):(stL N cur k).slots.set k (parseSl (pieceO N cur k))=(stL N cur (k+1)).slots:=by
 simp only[stL]
 rw[slotsL_succ]
 obtain⟨d,hd⟩:∃d,(headN cur).toNat - k=d+1:=⟨(headN cur).toNat - k - 1,by omega⟩
 rw[hd,show(headN cur).toNat - (k+1)=d by omega,List.set_append_right _ _ (by rw[slotsL_length];exact Nat.le_refl _),slotsL_length,Nat.sub_self,List.replicate_succ,List.set_cons_zero,List.append_assoc]
 rfl
theorem firstB_length(N f:Int):(firstB N f).length=N.toNat:=by unfold firstB;rw[setAll_length,List.length_replicate]
theorem firstB_on{N f:Int}(hf:f≤N)(i:Nat):onB (firstB N f) i=decide ((i:Int)<f):=by
 unfold firstB
 rw[onB_setAll _ _ _ (fun x hx=>by
  obtain⟨k,hk,rfl⟩:=List.mem_map.1 hx
  have:=List.mem_range.1 hk
  rw[List.length_replicate];omega)]
 by_cases h:(i:Int)<f
 ·rw[if_pos (List.mem_map.2 ⟨i,List.mem_range.2 (by omega),rfl⟩)]
  simp[h]
 ·rw[if_neg (fun hm=>by
   obtain⟨k,hk,e⟩:=List.mem_map.1 hm
   have:=List.mem_range.1 hk
   omega)]
  simp only[h,decide_false]
  unfold onB
  rw[List.getD_eq_getElem?_getD,List.getElem?_replicate]
  split<;>rfl
theorem next_off{N f:Int}{L:List Int}{b:Int}(hf0:0≤f)(hf:f≤N)(hL:∀x∈L,f≤x∧x<N)(hb:f≤b∧b<N):(0≤b∧b<(setAll (firstB N f) L true).length∧onB (setAll (firstB N f) L true) b.toNat≠true)↔b∉L:=by
 have hl:((setAll (firstB N f) L true).length:Int)=N:=by rw[setAll_length,firstB_length];omega
 rw[onB_setAll _ _ _ (fun x hx=>by have:=hL x hx;rw[firstB_length];omega),show((b.toNat:Nat):Int)=b by omega,firstB_on hf]
 by_cases hm:b∈L
 ·simp[hm]
 ·simp only[hm,if_false,not_false_eq_true,iff_true]
  refine⟨by omega,by omega,?_⟩
  have:¬((b.toNat:Nat):Int)<f:=by omega
  rw[decide_eq_false this]
  decide
theorem blkI_take{p:Pc}{n:Nat}(hn:(n:Int)<p.c):(blkI p).take (n+1)=(blkI p).take n++[p.s+(n:Int)]:=by
 unfold blkI
 rw[List.take_add_one,←List.map_take]
 congr 1
 rw[List.getElem?_map,List.getElem?_range (by omega)]
 rfl
theorem blkI_len(p:Pc):(blkI p).length=p.c.toNat:=by simp[blkI]
theorem blocksI_take{l:List Pc}{j:Nat}{p:Pc}(h:l[j]?=some p):blocksI (l.take (j+1))=blocksI (l.take j)++blkI p:=by
 unfold blocksI
 rw[List.take_add_one,h,List.map_append,List.flatten_append]
 simp
theorem blocksI_pre{l:List Pc}{j:Nat}:∃r,blocksI l=blocksI (l.take j)++r:=⟨blocksI (l.drop j),by
 unfold blocksI
 rw[←List.flatten_append,←List.map_append,List.take_append_drop]⟩
theorem pieceO_length{N:Nat}{cur:Nat→Octs}{k:Nat}(hl:∀k,k<N→(cur k).length=128)(hr:firstN N (headN cur)<N)(hg:¬laidBad N (headN cur))(hk:(k:Int)<headN cur):(pieceO N cur k).length=32∧((1+bitsN N)*128).toNat+k*32+32≤(catP cur (firstN N (headN cur)).toNat).length:=by
 have h0:¬(headN cur<1∨256<headN cur∨(N:Int)<1):=hg
 have hb:0≤bitsN N:=by unfold bitsN;omega
 have hf:firstN N (headN cur)=1+bitsN N+(headN cur+3) / 4:=rfl
 have hc:(catP cur (firstN N (headN cur)).toNat).length=(firstN N (headN cur)).toNat*128:=catP_length fun i hi=>hl i (by omega)
 have h2:((1+bitsN N)*128).toNat+k*32+32≤(catP cur (firstN N (headN cur)).toNat).length:=by rw[hc];omega
 refine⟨?_,h2⟩
 unfold pieceO
 rw[List.length_take,List.length_drop]
 omega
theorem mem_allBlk_slotsL{N:Nat}{cur:Nat→Octs}{k:Nat}{x:Int}(h:x∈allBlk (slotsL N cur k)):∃j,j<k∧x∈blocksI (parseSl (pieceO N cur j)).ps:=by
 simp only[allBlk,slotsL,List.map_map,List.mem_flatten,List.mem_map,List.mem_range]at h
 obtain⟨l,⟨j,hj,rfl⟩,hx⟩:=h
 exact⟨j,hj,hx⟩
theorem readOk_range{f h:Int}{xs:Octs}(hr:readOk f h xs):∀x∈blocksI (parseSl xs).ps,f≤x∧x<h:=by
 rcases hr.2 with h1|h1
 ·rw[h1.2.2];simp[blocksI]
 ·exact right_range h1.2.1
theorem bitsN_bd{N:Nat}(h:N≤4096):0≤bitsN N∧bitsN N≤4:=by unfold bitsN;omega
end Go.Proofs
end
section
open Go Go.Vc Go.Proofs.Bx
namespace Go.Proofs
theorem eqB_ok2{xs ys:Octs}{a a':Option Addr}{c c':Nat}{H:Heap}(hl:xs.length≤1000000)(h:SRow H 1 xs.length (.slice a xs.length c) (bytesV xs))(k:SRow H 1 ys.length (.slice a' ys.length c') (bytesV ys)) :
  Does Tryz.prog 152 [.slice a xs.length c,.slice a' ys.length c'] H fun v H'=>v=.bool (decide (xs=ys))∧H=H':=eqB_ok hl h k
set_option maxHeartbeats 4000000 in
theorem load_ok{H:Heap}{F:Nat→Prop}{pj pd N:Nat}{J:Jn}{D:Dev}{cur:Nat→Octs}(hJ:JD H F pj pd J D)(hl:∀k,k<N→(cur k).length=128)(hN0:0<N)(hN:N≤4096)
  (hm:∀K,JD K F pj pd J D→Does Tryz.prog 147 [.pointer (some ⟨pj,0,none⟩)] K fun v K'=>v=.int .i64 (N:Int)∧K=K')
  (rd:∀K,JD K F pj pd J D→∀k:Nat,k<N→Does Tryz.prog 146 [.pointer (some ⟨pj,0,none⟩),.int .i64 k] K fun v K'=>∃a c,v=.tuple #[.slice a (cur k).length c,.int .i64 0]∧Own K' 1 a (cur k).length c (bytesV (cur k))∧(∀i∈blkOf a,K.size≤i)∧JD K' F pj pd J D∧ExtP F K K') :
  Does Tryz.prog 93 [.pointer (some ⟨pj,0,none⟩)] H (LoadR N cur H F pj pd J D):=by
 have hFl:=hJ.lt
 have hbb:=bitsN_bd hN
 refine Fn_of_vc Tryz.mixed (Load2V _ _ _) ?_
 intro b1 H2 hn1 b3 H4 hn3
 have g1:=hn1.eq;have g3:=hn3.eq;have z2:=hn1.size;have z4:=hn3.size
 have hx4:=hn1.ext.trans' hn3.ext (by simp)
 have hb1:=hn1.blk.ext hn3.ext (by simp)
 have hb3:=hn3.blk
 have hJ4:JD H4 F pj pd J D:=hJ.ext (M:=fun _=>False) hx4.anyP (fun _ _ h=>h)
 refine(rd H4 hJ4 0 hN0).mono ?_
 rintro _ H6 ⟨a7,c9,rfl,ho7,hf7,hJ6,hx6⟩
 have z6:=hx6.size
 refine⟨_,_,_,_,rfl,fun h=>absurd rfl h,fun _=>(hm H6 hJ6).mono ?_⟩
 rintro _ _ ⟨rfl,rfl⟩
 refine⟨_,rfl,(nrB_ok (by rw[hl 0 hN0];omega) (ho7.row _ _)).mono ?_⟩
 rintro _ H26 ⟨p27,rfl,hr26,hx26⟩
 refine⟨_,rfl,(ruB_ok (n:=2) (.inl ⟨rfl,rfl⟩) hr26).mono ?_⟩
 rintro _ H29 ⟨rfl,_,hx29⟩
 have z26:=hx26.size;have z29:=hx29.size
 have hs:numU (cur 0,false) 2=headN cur:=rfl
 rw[hs]
 have hx629:Ext [] H6 H29:=hx26.transP hx29 (fun i hi=>hi)
 refine⟨_,rfl,(laidOut_ok (N:Int) (headN cur) H29 (by omega)).mono ?_⟩
 rintro _ H32 ⟨hx32,hcase⟩
 have z32:=hx32.size
 have hx632:Ext [] H6 H32:=hx629.trans' hx32 (by simp)
 obtain⟨lh,ls,lb,lf,t,hv,hlay⟩:∃lh ls lb lf t,(∀v,((laidBad (N:Int) (headN cur)∧v=Value.tuple #[layV 0 0 0 0,.bool false])∨(¬laidBad (N:Int) (headN cur)∧v=Value.tuple #[layV N (headN cur) (bitsN N) (firstN N (headN cur)),.bool (decP (firstN N (headN cur)<N))]))→v=Value.tuple #[layV lh ls lb lf,.bool t]) ∧
   ((t=false∧∀st,¬LoadOk N cur st)∨(t=true∧¬laidBad (N:Int) (headN cur)∧firstN N (headN cur)<N∧lh=N∧ls=headN cur∧lb=bitsN N∧lf=firstN N (headN cur))):=by
  by_cases hbad:laidBad (N:Int) (headN cur)
  ·exact⟨0,0,0,0,false,fun v hv=>hv.elim (fun h=>h.2) (fun h=>absurd hbad h.1),.inl ⟨rfl,fun st h=>h.good hbad⟩⟩
  ·refine⟨N,headN cur,bitsN N,firstN N (headN cur),_,fun v hv=>hv.elim (fun h=>absurd h.1 hbad) (fun h=>h.2),?_⟩
   by_cases hr:firstN N (headN cur)<N
   ·exact .inr ⟨(decP_true hr).symm,hbad,hr,rfl,rfl,rfl,rfl⟩
   ·exact .inl ⟨(decP_false hr).symm,fun st h=>hr h.room⟩
 refine⟨lh,ls,lb,lf,t,hv _ hcase,fun b38 H39 hn38=>⟨hn38.blk.cells _ _ (by simp),fun H40 hp38=>?_⟩⟩
 obtain⟨hb38,hx40,e38,z40⟩:=new_put hn38 hp38 rfl
 have hx640:Ext [] H6 H40:=hx632.trans' hx40 (by simp)
 have hJ40:JD H40 F pj pd J D:=hJ6.ext (M:=fun _=>False) hx640.anyP (fun _ _ h=>h)
 have hF1:∀q,H.size≤q→¬F q:=fun q hq h=>by have:=hFl q h;omega
 have hb1_40:Blk H40 b1 _:=(hb1.extP hx6 (hF1 b1 (by omega))).ext hx640 (by simp)
 have hb3_40:Blk H40 b3 _:=(hb3.extP hx6 (hF1 b3 (by omega))).ext hx640 (by simp)
 have hX40:ExtP F H H40:=(hx4.anyP.trans hx6).trans hx640.anyP
 have zA:H4.size≤H6.size∧H6.size≤H40.size:=⟨z6,hx640.size⟩
 rcases hlay with⟨rfl,hno⟩|⟨rfl,hgood,hroom,rfl,rfl,rfl,rfl⟩
 ·refine⟨fun _=>?_,fun h=>absurd rfl h⟩
  refine⟨_,by rw[hb38.cell];rfl,_,by rw[hb38.cell];rfl,_,by rw[hb38.cell];rfl,_,by rw[hb38.cell];rfl,hb1_40.cells _ _ (by simp),fun H45 hp1=>?_⟩
  have hb1':=hp1.blk hb1_40 (by simp)
  have hx45:=hp1.ext
  have hb3':=hb3_40.ext hx45 (by simp;omega)
  refine⟨hb3'.cells _ _ (by simp),fun H46 hp3=>?_⟩
  have hb3'':=hp3.blk hb3' (by simp)
  have hx46:=hp3.ext
  have hb1'':=hb1'.ext hx46 (by simp;omega)
  have hxo:ExtP (fun q=>q=b1∨q=b3) H40 H46:=(hx45.lift (N:=fun q=>q=b1∨q=b3) fun q _ hq=>.inl (by simpa using hq)).trans (hx46.lift fun q _ hq=>.inr (by simpa using hq))
  refine⟨_,by rw[hb1''.cell];rfl,_,by rw[hb1''.cell];rfl,_,by rw[hb1''.cell];rfl,_,by rw[hb1''.cell];rfl,_,_,_,by rw[hb3''.cell];rfl,_,by rw[hb3''.cell];rfl,_,by rw[hb3''.cell];rfl,?_⟩
  exact⟨hX40.trans' hxo (fun q hq=>.inl (by omega)),hJ40.ext hxo (fun q hq h=>hF1 q (by omega) hq),_,_,_,_,_,_,_,_,_,_,rfl,.inr ⟨rfl,hno⟩⟩
 have h0:¬(headN cur<1∨256<headN cur∨(N:Int)<1):=hgood
 have hfd:firstN N (headN cur)=1+bitsN N+(headN cur+3) / 4:=rfl
 obtain⟨s,hs⟩:∃s:Nat,headN cur=s:=⟨(headN cur).toNat,by omega⟩
 obtain⟨f,hf⟩:∃f:Nat,firstN N (headN cur)=f:=⟨(firstN N (headN cur)).toNat,by omega⟩
 have hs256:1≤s∧s≤256:=by omega
 have hfN:f<N:=by omega
 have hf69:f≤69:=by omega
 have hhN:(N:Int).toNat=N:=Int.toNat_natCast N
 let M40:Nat→Prop:=fun q=>F q∨H40.size≤q
 refine⟨fun h=>(by cases h),fun _=>⟨firstN N (headN cur),by rw[hb38.cell];rfl,fun a l c i K=>∃k:Nat,i=k∧k≤f∧l=(catP cur k).length∧Own K 1 a l c (bytesV (catP cur k))∧(∀q∈blkOf a,H40.size≤q)∧JD K F pj pd J D∧ExtP M40 H40 K,fun _ _ _ i _=>(f - i).toNat,⟨0,rfl,Nat.zero_le _,rfl,Own.nil _ _,by simp[blkOf],hJ40,ExtP.refl _ _⟩,?_⟩⟩
 rintro a59 _ c61 _ H63 ⟨k,rfl,hk,rfl,ho59,hf59,hJ63,hx63⟩
 have z63:=hx63.size
 rw[hf]
 have hck:∀j,j≤N→(catP cur j).length=j*128:=fun j hj=>catP_length fun i hi=>hl i (by omega)
 refine⟨fun hlt=>?_,fun hge=>?_⟩
 ·have hk':k<f:=by omega
  refine(rd H63 hJ63 k (by omega)).mono ?_
  rintro _ H65 ⟨a66,c68,rfl,ho66,hf66,hJ65,hx65⟩
  have z65:=hx65.size
  have ho65:=Own.extP ho59 hx65 (fun q hq=>hF1 q (by have:=hf59 q hq;omega))
  have q1:=hck k (by omega)
  have q2:=hl k (by omega)
  refine⟨_,_,_,_,rfl,fun h=>absurd rfl h,fun _=>⟨_,_,ho65.row _ _,ho66.row _ _,bytesV_one _,by omega,fun hle=>ho65.room hle,fun a87 c88 H89 happ=>?_⟩⟩
  obtain⟨r1,r2,r3⟩:=happ.own ho65 (ho65.row _ _) (by rw[bytesV_length];omega) rfl
  have r2':ExtP M40 H65 H89:=r2.lift fun q _ hq=>.inr (hf59 q hq)
  refine⟨by unfold In64;omega,⟨k+1,by omega,by omega,by rw[catP_succ,List.length_append],?_,fun q hq=>?_,hJ65.ext (M:=fun q=>H40.size≤q) (r2.lift fun q _ hq=>hf59 q hq) (fun q hq h=>hF1 q (by omega) hq),(hx63.trans (hx65.mono fun _ _ h=>.inl h)).trans r2'⟩,by simp only;omega⟩
  ·rw[catP_succ,bytesV_append];exact r1
  ·rcases r3 q hq with h|h
   ·exact hf59 q h
   ·omega
 have hkf:k=f:=by omega
 subst hkf
 have hall:=hck k (by omega)
 have hbN:∀q,q<H40.size→H.size≤q→¬M40 q:=fun q h1 h2 h=>h.elim (hF1 q h2) fun h=>by omega
 have hb1_63:=hb1_40.extP hx63 (hbN b1 (by omega) (by omega))
 have hb3_63:=hb3_40.extP hx63 (hbN b3 (by omega) (by omega))
 have hb38_63:=hb38.extP hx63 (hbN b38 (by omega) (by omega))
 refine⟨_,by rw[hb38_63.cell];rfl,_,by rw[hb38_63.cell];rfl,_,by rw[hb38_63.cell];rfl,_,by rw[hb38_63.cell];rfl,(empty_ok (Fd:=fun _=>False) (by omega) (by omega) (by omega) (by omega) (fun _ h=>h.elim)).mono ?_⟩
 rintro _ H95 ⟨x,rl0,ba,bc,rfl,hn95,hx95,ho95,hxn⟩
 have z95:=hx95.size
 have hol95:=hn95.lt
 refine⟨_,_,_,_,_,rfl,fun b101 H102 hn101=>⟨hn101.blk.cells _ _ (by simp),fun H103 hp101=>?_⟩⟩
 obtain⟨hb101,hx103,e101,z103⟩:=new_put hn101 hp101 rfl
 have hX103:Ext [] H63 H103:=hx95.trans' hx103 (by simp)
 have hb1_103:=hb1_63.ext hX103 (by simp)
 have hb3_103:=hb3_63.ext hX103 (by simp)
 have hb38_103:=hb38_63.ext hX103 (by simp)
 have hJ103:JD H103 F pj pd J D:=hJ63.ext (M:=fun _=>False) hX103.anyP (fun _ _ h=>h)
 have hn103:NowIs H103 (fun _=>False) x rl0 ba bc [] (stL N cur 0):=hn95.extP (M:=fun _=>False) hx103.anyP (fun _ _ h=>h) (fun _ h=>h.elim)
 have hownF:∀q,ownS x ba q→¬F q:=fun q hq=>hF1 q (by have:=ho95 q hq;omega)
 let M:Nat→Prop:=fun q=>ownS x ba q∨F q
 have hnM:∀q,H.size≤q→¬ownS x ba q→¬M q:=fun q h1 h2 h=>h.elim h2 (hF1 q h1)
 have hno63:∀q,q<H63.size→¬ownS x ba q:=fun q h1 h=>by have:=ho95 q h;omega
 have hno95:∀q,H95.size≤q→¬ownS x ba q:=fun q h1 h=>by have:=hol95 q h;omega
 have kb1:∀{K},ExtP M H103 K→Blk K b1 _:=fun hx=>hb1_103.extP hx (hnM b1 (by omega) (hno63 b1 (by omega)))
 have kb3:∀{K},ExtP M H103 K→Blk K b3 _:=fun hx=>hb3_103.extP hx (hnM b3 (by omega) (hno63 b3 (by omega)))
 have kb38:∀{K},ExtP M H103 K→Blk K b38 _:=fun hx=>hb38_103.extP hx (hnM b38 (by omega) (hno63 b38 (by omega)))
 have kb101:∀{K},ExtP M H103 K→Blk K b101 (rstV x):=fun hx=>hb101.extP hx (hnM b101 (by omega) (hno95 b101 (by omega)))
 have hXH:∀{K},ExtP M H103 K→ExtP F H K:=fun hx=>((hX40.trans' hx63 (fun q hq=>hq.elim .inr fun h=>.inl (by omega))).trans hX103.anyP).trans' hx (fun q hq=>hq.elim (fun h=>.inl (by have:=ho95 q h;omega)) .inr)
 have outE:∀{K},ExtP M H103 K→JD K F pj pd J D→(∀st,¬LoadOk N cur st)→OutT K b1 b3 b38 b101 2 (LoadR N cur H F pj pd J D):=fun {K} hx hJK hno=>
  outT (kb1 hx) rfl (kb3 hx) rfl (kb38 hx) (kb101 hx) (by omega) (by omega) fun K' hk=>⟨(hXH hx).trans' hk (fun q hq=>.inl (by omega)),hJK.ext hk (fun q hq h=>hF1 q (by omega) hq),_,_,_,_,_,_,_,_,_,_,rfl,.inr ⟨rfl,hno⟩⟩
 have hsn:(headN cur).toNat=s:=by omega
 have hxns:x.n=s:=by rw[hxn,hsn]
 have hrow:∀{K},ExtP M H103 K→SRow K 1 (catP cur k).length (.slice a59 (catP cur k).length c61) (bytesV (catP cur k)):=fun hx=>((ho59.row _ _).ext hX103 (by simp)).extP hx (fun q hq=>hnM q (by have:=hf59 q hq;omega) (hno63 q (ho59.lt q hq)))
 have hcap:=ho59.2.1
 have hMo:∀{A B:Heap},ExtP (ownS x ba) A B→ExtP M A B:=fun h=>h.mono fun _ _ h=>.inl h
 have hJo:∀{A B:Heap},JD A F pj pd J D→ExtP (ownS x ba) A B→JD B F pj pd J D:=fun hJ h=>hJ.ext h (fun q hq h=>hownF q h hq)
 refine⟨bitsN N,by rw[hb38_103.cell];rfl,by unfold In64;omega,by unfold In64;omega,x.a,x.n,x.c,by rw[hb101.cell];rfl,?_⟩
 refine⟨fun i K=>∃j:Nat,i=j∧j≤s∧ExtP (ownS x ba) H103 K∧∃rl Fd,(∀q,Fd q→H103.size≤q∧q<K.size)∧NowIs K Fd x rl ba bc [] (stL N cur j)∧(∀i,i<j→readOk (firstN N (headN cur)) N (pieceO N cur i))∧(allBlk (slotsL N cur j)).Nodup,fun i _=>(s - i).toNat,⟨0,rfl,Nat.zero_le _,ExtP.refl _ _,rl0,_,fun q hq=>hq.elim,hn103,fun i hi=>by omega,by simp[slotsL,allBlk]⟩,?_⟩
 rintro _ H111 ⟨j,rfl,hjs,hx111,rl,Fd,hFd,hn111,hread,hnod⟩
 have z111:=hx111.size
 rw[hxns]
 refine⟨fun hlt=>?_,fun hge=>?_⟩
 ·have hj':j<s:=by omega
  have hjh:(j:Int)<headN cur:=by omega
  obtain⟨hp32,hpin⟩:=pieceO_length hl hroom hgood hjh
  rw[hf,Int.toNat_natCast]at hpin
  have hx111M:=hMo hx111
  have h38:=kb38 hx111M
  obtain⟨o,ho⟩:∃o,o=((1+bitsN N)*128).toNat+j*32:=⟨_,rfl⟩
  have eo:(((1+bitsN N)*128)+((j:Int)*32)).toNat=o:=by omega
  have eh:(((1+bitsN N)*128)+(((j:Int)+1)*32)).toNat=o+32:=by omega
  have hpO:pieceO N cur j=((catP cur k).drop o).take 32:=by unfold pieceO;rw[hf,Int.toNat_natCast,ho]
  have hprow:SRow H111 1 (pieceO N cur j).length (.slice (a59.map (·.add o)) (pieceO N cur j).length (c61 - o)) (bytesV (pieceO N cur j)):=by
   rw[hp32,hpO]
   exact srow_sub (hrow hx111M) (by omega)
  obtain⟨t1,t2,t3,t4,t5,t6⟩:=parse_ok (pieceO N cur j)
  refine⟨fun p t K=>∃b a n c,p=some ⟨b,0,none⟩∧t=decP (readOk (firstN N (headN cur)) N (pieceO N cur j))∧Blk K b [.int .i64 (parseSl (pieceO N cur j)).size,.int .i64 (parseSl (pieceO N cur j)).refs,.slice a n c]∧Pcs K a n (parseSl (pieceO N cur j)).ps∧n≤c∧(∀q∈blkOf a,H111.size≤q∧q<K.size)∧Ext [] H111 K∧H111.size≤b,
   ⟨_,by rw[h38.cell];rfl,_,by rw[h38.cell];rfl,_,by rw[h38.cell];rfl,_,by rw[h38.cell];rfl,by unfold In64;omega,by unfold In64;omega,by unfold In64;omega,by unfold In64;omega,by unfold In64;omega,by omega,by omega,by omega,?_⟩,?_⟩
  ·intro a117 ha117
   rw[eo,if_neg (by omega)]at ha117
   have ha117:a117=a59.map (·.add o):=by rw[ha117];simp
   subst ha117
   rw[eo,eh,show o+32 - o=(pieceO N cur j).length by rw[hp32];omega]
   refine⟨?_,?_⟩
   ·refine(read_slot_ok hprow (by omega) (by omega) (by omega) (by omega)).mono ?_
    rintro _ H119 ⟨a,n,c,rfl,hpc,hnc,hfa,hx119⟩
    refine⟨_,_,_,_,_,_,rfl,fun b126 H127 hn126=>?_⟩
    have h38':=(h38.ext hx119 (by simp)).ext hn126.ext (by simp)
    refine⟨⟨by rw[h38'.cell];rfl,by rw[h38'.cell];rfl,by rw[h38'.cell];rfl,by rw[h38'.cell];rfl,trivial⟩,hn126.blk.cells _ _ (by simp),fun H128 hp126=>?_⟩
    obtain⟨hb126,hx128,e126,z128⟩:=new_put hn126 hp126 rfl
    have z119:=hx119.size
    exact⟨b126,a,n,c,rfl,rfl,hb126,hpc.ext hx128 (by simp),hnc,fun q hq=>by have:=hfa q hq;omega,hx119.trans' hx128 (by simp),by omega⟩
   ·intro b129 H130 hn129
    have hx130:=hn129.ext
    have e129:=hn129.eq
    have z130:=hn129.size
    have h38':=h38.ext hx130 (by simp)
    refine⟨⟨by rw[h38'.cell];rfl,by rw[h38'.cell];rfl,by rw[h38'.cell];rfl,by rw[h38'.cell];rfl,trivial⟩,(read_slot_ok (hprow.ext hx130 (by simp)) (by omega) (by omega) (by omega) (by omega)).mono ?_⟩
    rintro _ H132 ⟨a,n,c,rfl,hpc,hnc,hfa,hx132⟩
    have hb132:=hn129.blk.ext hx132 (by simp)
    have z132:=hx132.size
    refine⟨_,_,_,_,_,_,rfl,hb132.cells _ _ (by simp),fun H139 hp129=>?_⟩
    have hb139:=hp129.blk hb132 (by simp)
    have hx139:=hp129.ext
    have z139:=hx139.size
    exact⟨b129,a,n,c,rfl,rfl,hb139,hpc.ext hx139 (fun q hq=>by have:=hfa q hq;simp;omega),hnc,fun q hq=>by have:=hfa q hq;omega,(hx130.trans' hx132 (by simp)).trans' hx139 (fun i hi=>by simp only[List.mem_singleton]at hi;omega),by omega⟩
  ·rintro p140 t141 H142 ⟨b126,a,n,c,rfl,rfl,hb126,hpc,hnc,hfa,hx142,hb126g⟩
   have z142:=hx142.size
   have hx142M:ExtP M H103 H142:=hx111M.trans hx142.anyP
   have hJ142:=(hJo hJ103 hx111).ext (M:=fun _=>False) hx142.anyP (fun _ _ h=>h)
   refine⟨fun hf=>?_,fun ht=>?_⟩
   ·refine outE hx142M hJ142 fun st h=>?_
    have:=h.right j hjh
    rw[←decP_true this]at hf
    cases hf
   have hok:readOk (firstN N (headN cur)) N (pieceO N cur j):=by
    apply Classical.byContradiction
    intro hno
    exact ht (decP_false hno).symm
   have h101:=kb101 hx142M
   have hn142:=hn111.extP (M:=fun _=>False) hx142.anyP (fun _ _ h=>h) (fun _ _ h=>h)
   have hnl:x.n=rl.length:=hn142.num.symm
   obtain⟨sb,hsb⟩:=hn142.head (by omega)
   have hjr:j<rl.length:=by omega
   have hrj:rl[j]?=some rl[j]:=List.getElem?_eq_getElem hjr
   have hsbo:ownS x ba sb:=.inl (by rw[hsb];simp[blkOf])
   have hob:∀q,H103.size≤q→¬ownS x ba q:=fun q hq=>hno95 q (by omega)
   have hFd2:∀q,ownS x ba q→¬(Fd q∨(H111.size≤q∧q<H142.size)):=fun q hq h=>h.elim (fun h=>hob q (hFd q h).1 hq) fun h=>hob q (by omega) hq
   have hn142':=hn142.up (Fd':=fun q=>Fd q∨(H111.size≤q∧q<H142.size)) (fun q hq=>.inl hq) hFd2
   refine⟨x.a,x.n,x.c,by rw[h101.cell];rfl,?_⟩
   refine⟨_,by rw[hb126.cell];rfl,_,by rw[hb126.cell];rfl,a,n,c,by rw[hb126.cell];rfl,by omega,by omega,sb,0,hsb,?_,fun H175 hp175=>?_⟩
   ·have:=hn142.own
    rw[hsb]at this
    rcases this.2.2.2 with⟨e,_⟩|⟨bq,tl,e,hbq,hlq⟩
    ·cases e
    ·cases e
     refine hbq.cells 3 (0+j*3) ?_
     rw[List.length_append,rslsV_length];omega
   rw[Int.toNat_natCast,Nat.zero_add]at hp175
   obtain⟨hn175,hx175⟩:=hn142'.setSlot (r':=⟨(parseSl (pieceO N cur j)).size,(parseSl (pieceO N cur j)).refs,a,n,c⟩) (s':=parseSl (pieceO N cur j)) hsb hrj (j:=0) (vs:=[.int .i64 (parseSl (pieceO N cur j)).size,.int .i64 (parseSl (pieceO N cur j)).refs,.slice a n c]) (by simp) rfl hp175 ⟨rfl,rfl,hpc,hnc,fun q hq=>.inr (hfa q hq)⟩
   have z175:=hp175.size
   rw[stL_set (by omega)]at hn175
   have hx175o:ExtP (ownS x ba) H142 H175:=hx175.mono fun q _ h=>.inl h
   have hb126_175:=hb126.extP hx175o (hob b126 (by omega))
   refine⟨a,n,c,by rw[hb126_175.cell];rfl,?_⟩
   let L:=allBlk (slotsL N cur j)
   let ps:=(parseSl (pieceO N cur j)).ps
   let rl':=rl.set j ⟨(parseSl (pieceO N cur j)).size,(parseSl (pieceO N cur j)).refs,a,n,c⟩
   let Fd':Nat→Prop:=fun q=>Fd q∨(H111.size≤q∧q<H142.size)
   let stM:List Int→PSt:=fun l=>{slots:=(stL N cur (j+1)).slots,bits:=setAll (firstB N (firstN N (headN cur))) l true,data:=fun _=>none}
   have hlen:ps.length=n:=hpc.leng
   have hps6:ps.length≤6:=t1
   have hpsr:∀y∈blocksI ps,firstN N (headN cur)≤y∧y<(N:Int):=readOk_range hok
   have hLr:∀y∈L,firstN N (headN cur)≤y∧y<(N:Int):=fun y hy=>by
    obtain⟨i,hi,hy⟩:=mem_allBlk_slotsL hy
    exact readOk_range (hread i hi) y hy
   have hnew:allBlk (slotsL N cur (j+1))=L++blocksI ps:=by rw[slotsL_succ,allBlk_append,allBlk_one]
   have hnoN:∀l r:List Int,L++blocksI ps=l++r→¬l.Nodup→∀st,¬LoadOk N cur st:=fun l r e hl st h=>by
    have h1:=h.once
    rw[h.slots,hsn]at h1
    obtain⟨r2,hr2⟩:=allBlk_prefix (N:=N) (cur:=cur) (show j+1≤s by omega)
    rw[hr2,hnew,e,List.append_assoc]at h1
    exact hl (h1.sublist (List.sublist_append_left _ _))
   have hn175s:NowIs H175 Fd' x rl' ba bc [] (stM (L++blocksI (ps.take 0))):=by
    simp only[List.take_zero,blocksI,List.map_nil,List.flatten_nil,List.append_nil]
    exact hn175
   refine⟨fun i K=>∃m:Nat,i=m∧m≤ps.length∧ExtP (ownS x ba) H175 K∧NowIs K Fd' x rl' ba bc [] (stM (L++blocksI (ps.take m)))∧(L++blocksI (ps.take m)).Nodup,fun i _=>(ps.length - i).toNat,⟨0,rfl,Nat.zero_le _,ExtP.refl _ _,hn175s,by simpa[blocksI]using hnod⟩,?_⟩
   rintro _ H184 ⟨m,rfl,hm,hx184,hn184,hnod184⟩
   have z184:=hx184.size
   have haO:∀q∈blkOf a,¬ownS x ba q:=fun q hq=>hob q (by have:=hfa q hq;omega)
   have hpc184:Pcs H184 a n ps:=Pcs.extP' (Pcs.extP' hpc hx175o haO) hx184 haO
   refine⟨fun hlt2=>?_,fun hge2=>?_⟩
   ·have hm':m<ps.length:=by omega
    obtain⟨b,o2,ha,c0,c1⟩:=hpc184.get m ps[m] (List.getElem?_eq_getElem hm')
    have hpm:=List.getElem?_eq_getElem hm'
    obtain⟨pcs,hpcs⟩:∃pc,pc=ps[m]:=⟨_,rfl⟩
    rw[←hpcs]at c0 c1 hpm
    obtain⟨v1,v2,v3,v4⟩:=t6 pcs (List.mem_of_getElem? hpm)
    refine⟨by omega,by omega,b,o2,ha,_,c0,_,c1,fun b189 H190 hn189=>⟨hn189.blk.cells _ _ (by simp),fun H191 hp189=>?_⟩⟩
    obtain⟨hb189,hx191,e189,z191⟩:=new_put hn189 hp189 rfl
    have hb189o:=hob b189 (by omega)
    have hn191:=hn184.extP (M:=fun _=>False) hx191.anyP (fun _ _ h=>h) (fun _ _ h=>h)
    refine⟨pcs.c,by rw[hb189.cell];rfl,?_⟩
    refine⟨fun i K=>∃u:Nat,i=u∧u≤pcs.c.toNat∧ExtP (ownS x ba) H191 K∧NowIs K Fd' x rl' ba bc [] (stM ((L++blocksI (ps.take m))++(blkI pcs).take u))∧((L++blocksI (ps.take m))++(blkI pcs).take u).Nodup,fun i _=>(pcs.c - i).toNat,⟨0,rfl,Nat.zero_le _,ExtP.refl _ _,by rw[List.take_zero,List.append_nil];exact hn191,by rw[List.take_zero,List.append_nil];exact hnod184⟩,?_⟩
    rintro _ H196 ⟨u,rfl,hu,hx196,hn196,hnod196⟩
    have z196:=hx196.size
    refine⟨fun hlt3=>?_,fun hge3=>?_⟩
    ·have hX196:ExtP (ownS x ba) H103 H196:=((((hx111.trans hx142.anyP).trans hx175o).trans hx184).trans hx191.anyP).trans hx196
     have h101':=kb101 (hMo hX196)
     have hb189':=hb189.extP hx196 hb189o
     have hbt:=blkI_take (p:=pcs) (n:=u) (by omega)
     have hpre:∃r,L++blocksI ps=(((L++blocksI (ps.take m))++(blkI pcs).take u)++[pcs.s+(u:Int)])++r:=by
      obtain⟨r1,hr1⟩:=blocksI_pre (l:=ps) (j:=m+1)
      rw[blocksI_take hpm]at hr1
      refine⟨(blkI pcs).drop (u+1)++r1,?_⟩
      rw[hr1]
      conv=>lhs;rw[←List.take_append_drop (u+1) (blkI pcs),hbt]
      simp[List.append_assoc]
     have hbIn:pcs.s+(u:Int)∈blocksI ps:=mem_blocksI_of (List.mem_of_getElem? hpm) ⟨by omega,by omega⟩
     have hbR:=hpsr _ hbIn
     have hLr2:∀y∈(L++blocksI (ps.take m))++(blkI pcs).take u,firstN N (headN cur)≤y∧y<(N:Int):=fun y hy=>by
      obtain⟨r,hr⟩:=hpre
      have:y∈L++blocksI ps:=by rw[hr];simp only[List.mem_append]at hy ⊢;exact .inl (.inl hy)
      rcases List.mem_append.1 this with h|h
      ·exact hLr y h
      ·exact hpsr y h
     have hoff:=next_off (N:=(N:Int)) (f:=firstN N (headN cur)) (by omega) (by omega) hLr2 hbR
     refine⟨some ⟨x.tb,0,none⟩,by rw[h101'.cell];rfl,pcs.s,by rw[hb189'.cell];rfl,by unfold In64;omega,(setb2_ok hn196.bits (pcs.s+(u:Int)) true).mono ?_⟩
     rintro _ H200 ⟨⟨t,rfl,hti⟩,hB200,hx200⟩
     have z200:=hx200.size
     have hx200o:ExtP (ownS x ba) H196 H200:=hx200.lift fun q _ hq=>.inr (.inr (.inl hq))
     refine⟨t,rfl,fun hf=>?_,fun ht=>?_⟩
     ·obtain⟨r,hr⟩:=hpre
      refine outE (hMo (hX196.trans hx200o)) (hJo (hJo hJ103 hX196) hx200o) (hnoN _ _ hr fun hN2=>?_)
      have h1:pcs.s+(u:Int)∉(L++blocksI (ps.take m))++(blkI pcs).take u:=by
       rw[List.nodup_append]at hN2
       exact fun hm=>hN2.2.2 _ hm _ (by simp) rfl
      rw[hti.2 (hoff.2 h1)]at hf
      cases hf
     ·have htt:t=true:=by cases t with|true=>rfl|false=>exact absurd rfl ht
      have h1:=hoff.1 (hti.1 htt)
      refine⟨by unfold In64;omega,⟨u+1,by omega,by omega,hx196.trans hx200o,?_,?_⟩,by simp only;omega⟩
      ·have:=hn196.setBits hx200 hB200
       rw[hbt,←List.append_assoc]
       have e:setAll (firstB N (firstN N (headN cur))) (((L++blocksI (ps.take m))++(blkI pcs).take u)++[pcs.s+(u:Int)]) true=setB (setAll (firstB N (firstN N (headN cur))) ((L++blocksI (ps.take m))++(blkI pcs).take u) true) (pcs.s+(u:Int)) true:=by rw[setAll_append];rfl
       show NowIs H200 Fd' x rl' ba bc [] {slots:=_,bits:=setAll _ (((L++blocksI (ps.take m))++(blkI pcs).take u)++[pcs.s+(u:Int)]) true,data:=_}
       rw[e]
       exact this
      ·rw[hbt,←List.append_assoc,List.nodup_append]
       exact⟨hnod196,by simp,fun y hy z hz e=>by simp only[List.mem_singleton]at hz;rw[e,hz]at hy;exact h1 hy⟩
    ·have hu':u=pcs.c.toNat:=by omega
     have hlb:=blkI_len pcs
     rw[List.take_of_length_le (l:=blkI pcs) (by omega)]at hn196 hnod196
     refine⟨by unfold In64;omega,⟨m+1,by omega,by omega,(hx184.trans hx191.anyP).trans hx196,?_,?_⟩,by simp only;omega⟩
     ·rw[blocksI_take hpm,←List.append_assoc];exact hn196
     ·rw[blocksI_take hpm,←List.append_assoc];exact hnod196
   ·have hm':m=ps.length:=by omega
    subst hm'
    rw[List.take_length,←hnew]at hn184 hnod184
    refine⟨by unfold In64;omega,⟨j+1,by omega,by omega,((hx111.trans hx142.anyP).trans hx175o).trans hx184,rl',Fd',fun q hq=>?_,hn184,fun i hi=>?_,hnod184⟩,by simp only;omega⟩
    ·rcases hq with hq|hq
     ·have:=hFd q hq;omega
     ·omega
    ·by_cases e:i=j
     ·subst e;exact hok
     ·exact hread i (by omega)
 ·have hjs':j=s:=by omega
  subst hjs'
  have hx111M:=hMo hx111
  have h38:=kb38 hx111M
  have h101:=kb101 hx111M
  have hsl:(stL N cur j).slots=slotsL N cur j:=by simp[stL,hsn]
  have hbl:(stL N cur j).bits.length=N:=by simp only[stL];rw[setAll_length,firstB_length,hhN]
  refine⟨_,by rw[h38.cell];rfl,_,by rw[h38.cell];rfl,_,by rw[h38.cell];rfl,_,by rw[h38.cell];rfl,_,_,_,by rw[h101.cell];rfl,_,by rw[h101.cell];rfl,_,by rw[h101.cell];rfl,(fixed_ok hn111 (by omega) (by omega) (fun sl hs=>?_) (N:Int) (headN cur) (bitsN N) (firstN N (headN cur))).mono ?_⟩
  ·rw[hsl]at hs
   simp only[slotsL,List.mem_map]at hs
   obtain⟨i,_,rfl⟩:=hs
   exact parse_ok _
  rintro _ H232 ⟨xs,hxs,⟨kk,ra,rc,vs,rfl,hrr⟩,hx232⟩
  have hfl:(fixO (headN cur) xs (stL N cur j).slots).length≤1000000:=by
   have h1:=hxs.len
   have h2:=padO_length (beU 2 (w64 (headN cur)))
   have h3:=padO_length xs
   have h4:=padO_length ((stL N cur j).slots.map slotO).flatten
   have h5:=slotOs_length (l:=(stL N cur j).slots) (fun sl hs=>by
    rw[hsl]at hs
    simp only[slotsL,List.mem_map]at hs
    obtain⟨i,_,rfl⟩:=hs
    exact parse_ok _)
   have h6:(stL N cur j).slots.length=j:=by rw[hsl,slotsL_length]
   have h7:(beU 2 (w64 (headN cur))).length=2:=beU_len _ _
   unfold fixO
   rw[List.length_append,List.length_append,h2,h3,h4,h5,h6,h7]
   omega
  refine⟨_,_,_,rfl,(concatR_ok ⟨kk,ra,rc,vs,rfl,hrr⟩ (by omega)).mono ?_⟩
  rintro _ H237 ⟨⟨a238,c240,rfl,ho238,hf238⟩,hx237⟩
  have hx37:Ext [] H111 H237:=hx232.trans' hx237 (by simp)
  have hx237M:ExtP M H103 H237:=hx111M.trans hx37.anyP
  refine⟨_,_,_,rfl,(eqB_ok2 (by omega) (ho238.row _ _) (hrow hx237M)).mono ?_⟩
  rintro _ H242 ⟨rfl,rfl⟩
  have hJ237:=(hJo hJ103 hx111).ext (M:=fun _=>False) hx37.anyP (fun _ _ h=>h)
  have hbs:∀st,LoadOk N cur st→st.slots=(stL N cur j).slots∧st.bits=(stL N cur j).bits:=fun st h=>by
   have h1:=h.slots
   have h2:=h.bits
   rw[hsn]at h1
   rw[h1]at h2
   exact⟨by rw[h1,hsl],h2⟩
  refine⟨_,rfl,fun hff=>?_,fun ht=>?_⟩
  ·refine outE hx237M hJ237 fun st h=>?_
   have hne:¬fixO (headN cur) xs (stL N cur j).slots=catP cur k:=of_decide_eq_false hff
   obtain⟨e1,e2⟩:=hbs st h
   have:=h.fix xs (by rw[e2];exact hxs)
   rw[e1,hf,Int.toNat_natCast]at this
   exact hne this
  have hfix:fixO (headN cur) xs (stL N cur j).slots=catP cur k:=by
   apply Classical.byContradiction
   intro hno
   exact ht (decide_eq_false hno)
  have hn237:=hn111.extP (M:=fun _=>False) hx37.anyP (fun _ _ h=>h) (fun _ _ h=>h)
  have h38':=kb38 hx237M
  have z37:=hx37.size
  let dataK:Nat→Int→Option Octs:=fun m i=>if firstN N (headN cur)≤i∧i<(m:Int)∧onB (stL N cur j).bits i.toNat=true then some (cur i.toNat)else none
  have hd0:NowIs H237 Fd x rl ba bc [] {stL N cur j with data:=dataK k}:=by
   have e:dataK k=(stL N cur j).data:=by
    funext i
    exact if_neg (fun h=>by have:=h.1;have:=h.2.1;omega)
   rw[e]
   exact hn237
  refine⟨firstN N (headN cur),by rw[h38'.cell];rfl,fun e i K=>e=0∧∃m:Nat,i=m∧k≤m∧m≤N∧ExtP M H103 K∧JD K F pj pd J D∧∃Fd' ml,(∀q,Fd' q→H103.size≤q∧q<K.size)∧NowIs K Fd' x rl ba bc ml {stL N cur j with data:=dataK m},fun _ i _=>(N - i).toNat,⟨rfl,k,hf,Nat.le_refl _,by omega,hx237M,hJ237,Fd,[],fun q hq=>by have:=hFd q hq;omega,hd0⟩,?_⟩
  rintro _ _ H269 ⟨rfl,m,rfl,hkm,hmN,hx269,hJ269,Fd',ml,hFd',hn269⟩
  have z269:=hx269.size
  have h38'':=kb38 hx269
  have h101'':=kb101 hx269
  refine⟨(N:Int),by rw[h38''.cell];rfl,fun hlt=>?_,fun hge=>?_⟩
  ·have hm':m<N:=by omega
   refine⟨some ⟨x.tb,0,none⟩,by rw[h101''.cell];rfl,(getbm_ok hn269.bits (m:Int)).mono ?_⟩
   rintro _ _ ⟨rfl,rfl⟩
   refine⟨_,rfl,fun hon=>?_,fun hoff=>?_⟩
   ·have hon':onB (stL N cur j).bits m=true:=by
     simp only[Int.toNat_natCast,Bool.and_eq_true,decide_eq_true_eq]at hon
     exact hon.2.2
    refine⟨some x.mb,by rw[h101''.cell];rfl,(rd H269 hJ269 m hm').mono ?_⟩
    rintro _ H277 ⟨a278,c280,rfl,ho278,hf278,hJ277,hx277⟩
    have z277:=hx277.size
    have hx277M:ExtP M H103 H277:=hx269.trans (hx277.mono fun _ _ h=>.inr h)
    have h101c:=kb101 hx277M
    have hFdF:∀q,Fd' q→¬F q:=fun q hq=>hF1 q (by have:=hFd' q hq;omega)
    have hn277:=(hn269.extP hx277 hownF hFdF).up (Fd':=fun q=>Fd' q∨(H269.size≤q∧q<H277.size)) (fun q hq=>.inl hq) (fun q hq h=>h.elim (fun h=>hno95 q (by have:=hFd' q h;omega) hq) fun h=>hno95 q (by omega) hq)
    have hmb:ownS x ba x.mb:=.inr (.inr (.inr rfl))
    have hl128:=hl m hm'
    refine⟨_,_,_,_,rfl,⟨by rw[h101c.cell];rfl,trivial⟩,x.mb,ml,rfl,hn277.map,fun H284 hp284=>?_⟩
    have hrw:SRow H277 1 128 (.slice a278 128 c280) (bytesV (cur m)):=by have:=ho278.row (cur m).length c280;rw[hl128]at this;exact this
    rw[hl128]at hp284
    obtain⟨hn284,hx284⟩:=hn277.setData (o:=cur m) hl128 hrw (fun q hq=>.inr ⟨hf278 q hq,ho278.lt q hq⟩) hp284
    have hx284o:ExtP (ownS x ba) H277 H284:=hx284.lift fun q _ hq=>by simp only[List.mem_singleton]at hq;rw[hq];exact hmb
    have z284:=hx284.size
    refine⟨fun h=>absurd rfl h,fun _=>⟨by unfold In64;omega,⟨rfl,m+1,by omega,by omega,by omega,hx277M.trans (hMo hx284o),hJo hJ277 hx284o,(fun q=>Fd' q∨(H269.size≤q∧q<H277.size)),mapSet ml (m:Int) (.slice a278 128 c280),fun q hq=>?_,?_⟩,by simp only;omega⟩⟩
    ·rcases hq with hq|hq
     ·have:=hFd' q hq;omega
     ·omega
    ·have e:dataK (m+1)=fun i=>if i=(m:Int)then some (cur m)else dataK m i:=by
      funext i
      simp only[dataK]
      by_cases e:i=(m:Int)
      ·subst e
       rw[if_pos ⟨by omega,by omega,by simpa using hon'⟩,if_pos rfl,Int.toNat_natCast]
      ·rw[if_neg e]
       by_cases h1:firstN N (headN cur)≤i∧i<(m:Int)∧onB (stL N cur j).bits i.toNat=true
       ·rw[if_pos h1,if_pos ⟨h1.1,by omega,h1.2.2⟩]
       ·rw[if_neg h1,if_neg (fun h=>h1 ⟨h.1,by omega,h.2.2⟩)]
     rw[e]
     exact hn284
   ·have hoff':¬onB (stL N cur j).bits m=true:=fun h=>by
     have h1:(decide (0≤(m:Int)) && (decide ((m:Int)<((stL N cur j).bits.length:Int)) && onB (stL N cur j).bits ((m:Int)).toNat))=true:=by
      rw[hbl]
      simp only[Int.toNat_natCast,Bool.and_eq_true,decide_eq_true_eq]
      exact⟨by omega,by omega,h⟩
     rw[h1]at hoff
     cases hoff
    refine⟨by unfold In64;omega,⟨rfl,m+1,by omega,by omega,by omega,hx269,hJ269,Fd',ml,hFd',?_⟩,by simp only;omega⟩
    have e:dataK (m+1)=dataK m:=by
     funext i
     simp only[dataK]
     by_cases h1:firstN N (headN cur)≤i∧i<(m:Int)∧onB (stL N cur j).bits i.toNat=true
     ·rw[if_pos h1,if_pos ⟨h1.1,by omega,h1.2.2⟩]
     ·rw[if_neg h1,if_neg (fun h=>h1 ⟨h.1,by
       have:¬i=(m:Int):=fun e=>hoff' (by rw[←Int.toNat_natCast m,←e];exact h.2.2)
       omega,h.2.2⟩)]
    rw[e]
    exact hn269
  ·have hm':m=N:=by omega
   subst hm'
   refine outT (kb1 hx269) rfl (kb3 hx269) rfl (kb38 hx269) (kb101 hx269) (by omega) (by omega) fun K' hk=>?_
   have hbO:∀q,q=b1∨q=b3→q<H63.size∧q<H103.size:=fun q hq=>by omega
   have hok:LoadOk m cur {stL m cur j with data:=dataK m}:={
    good:=hgood
    room:=hroom
    slots:=by rw[hsn];exact hsl
    right:=fun i hi=>hread i (by omega)
    once:=by show(allBlk (stL m cur j).slots).Nodup;rw[hsl];exact hnod
    bits:=by show(stL m cur j).bits=setAll _ (allBlk (stL m cur j).slots) true;rw[hsl];rfl
    fix:=fun ys hys=>by
     have:xs=ys:=hxs.one hys
     rw[←this,hf,Int.toNat_natCast]
     exact hfix
    data:=rfl}
   refine⟨(hXH hx269).trans' hk (fun q hq=>.inl (by omega)),hJ269.ext hk (fun q hq h=>hF1 q (by omega) hq),_,_,_,_,_,_,_,_,_,_,rfl,.inl ⟨rfl,x,rl,ba,bc,ml,Fd',_,hok,rfl,rfl,rfl,rfl,rfl,hn269.extP hk (fun q hq h=>hno63 q (hbO q h).1 hq) (fun q hq h=>by have:=hFd' q hq;have:=hbO q h;omega),fun q hq=>?_,hxn⟩⟩
   have zk:=hk.size
   rcases hq with hq|hq
   ·have:=hol95 q hq;have:=ho95 q hq;omega
   ·have:=hFd' q hq;omega
end Go.Proofs
end
section
open Go Go.Vc Go.Proofs.Bx
namespace Go.Proofs
def Reads(pj pd:Nat)(F:Nat→Prop)(J:Jn)(D:Dev)(N:Nat)(cur:Nat→Octs):Prop:=
 (∀K,JD K F pj pd J D→Does Tryz.prog 147 [.pointer (some ⟨pj,0,none⟩)] K fun v K'=>v=.int .i64 (N:Int)∧K=K') ∧
 (∀K,JD K F pj pd J D→∀k:Nat,k<N→Does Tryz.prog 146 [.pointer (some ⟨pj,0,none⟩),.int .i64 k] K fun v K'=>∃a c,v=.tuple #[.slice a (cur k).length c,.int .i64 0]∧Own K' 1 a (cur k).length c (bytesV (cur k))∧(∀i∈blkOf a,K.size≤i)∧JD K' F pj pd J D∧ExtP F K K')
theorem reads_of{n B:Nat}{J:Jn}{D:Dev}{cur:Nat→Octs}{N:Nat}(hw:D.Wf n B)(hj:J.Wf n)(hn:n≤4096)(hN:homeN n J.h.size=N)(hr:∀k:Nat,k<N→jreadM n k J D=(J,some (cur k),0))(pj pd:Nat)(F:Nat→Prop):Reads pj pd F J D N cur:=by
 refine⟨fun K hK=>?_,fun K hK k hk=>?_⟩
 ·refine(jhome_ok hK hw).mono ?_
  rintro _ _ ⟨rfl,rfl⟩
  exact⟨by rw[hN],rfl⟩
 ·refine(jread_ok hK hw hj hn k).mono ?_
  rintro _ K' ⟨a,c,hjd,hx,rfl,ho,hf⟩
  rw[hr k hk]at hjd ho ⊢
  exact⟨a,c,rfl,ho,hf,hjd,hx⟩
theorem LiveA.reads{n z B:Nat}{J:Jn}{D:Dev}{cur:Nat→Octs}{S:(Nat→Octs)→Prop}(h:LiveA n z B J D cur S)(hw:D.Wf n B)(hj:J.Wf n)(pj pd:Nat)(F:Nat→Prop):Reads pj pd F J D (n - 1 - z) cur:=by
 have hl:=h.lays
 exact reads_of hw hj hl.2.1 (by rw[hl.2.2.2.2.2.2.2];omega) (fun k hk=>live_read h hk) pj pd F
theorem LoadOk.length{N:Nat}{cur:Nat→Octs}{st:PSt}(h:LoadOk N cur st):st.slots.length=(headN cur).toNat∧(headN cur).toNat≤256:=by
 have h0:¬(headN cur<1∨256<headN cur∨(N:Int)<1):=h.good
 rw[h.slots,slotsL_length]
 omega
theorem openS_ok{H:Heap}{d:Option Addr}{R:Value→Heap→Prop}
  (ho:Does Tryz.prog 92 [.pointer d] H fun v H2=>(∃e,e≠0∧v=.tuple #[.pointer none,.int .i64 e]∧R v H2) ∨
   ∃pj pd F J D N cur,v=.tuple #[.pointer (some ⟨pj,0,none⟩),.int .i64 0]∧JD H2 F pj pd J D∧(∀k,k<N→(cur k).length=128)∧0<N∧N≤4096∧Reads pj pd F J D N cur ∧
    (∀H3,ExtP F H2 H3→JD H3 F pj pd J D→(∀st,¬LoadOk N cur st)→R (.tuple #[.pointer none,.int .i64 2]) H3) ∧
    (∀H3 ps x y Fx Fy Fd st,LoadOk N cur st→ExtP F H2 H3→Sto H3 F Fx Fy Fd ps pj pd N (headN cur) (bitsN N) (firstN N (headN cur)) x y st st J D→(∀q,Fx q∨Fy q∨Fd q∨q=ps→H2.size≤q)→R (.tuple #[.pointer (some ⟨ps,0,none⟩),.int .i64 0]) H3)) :
  Does Tryz.prog 27 [.pointer d] H R:=by
 refine Fn_of_vc Tryz.mixed (OpenSV _ _ _) ?_
 refine ho.mono ?_
 rintro v H2 (⟨e,he,rfl,hr⟩|⟨pj,pd,F,J,D,N,cur,rfl,hJ,hl,hN0,hN,hrd,hbad,hok⟩)
 ·exact⟨_,_,rfl,fun _=>hr,fun h=>absurd he h⟩
 refine⟨_,_,rfl,fun h=>absurd rfl h,fun _=>(load_ok hJ hl hN0 hN hrd.1 hrd.2).mono ?_⟩
 rintro _ H6 ⟨hx6,hJ6,e,lh,ls,lb,lf,a,n,c,p,m,rfl,hcase⟩
 have hFl:=hJ.lt
 have z6:=hx6.size
 refine⟨_,_,_,_,_,_,_,_,_,_,rfl,fun b17 H18 hn17 b19 H20 hn19=>?_⟩
 have e17:=hn17.eq;have e19:=hn19.eq
 have z18:=hn17.size;have z20:=hn19.size
 have hb17:=hn17.blk.ext hn19.ext (by simp)
 have hb19:=hn19.blk
 refine⟨hb17.cells _ _ (by simp),fun H21 hp17=>?_⟩
 have hb17':Blk H21 b17 [.int .i64 lh,.int .i64 ls,.int .i64 lb,.int .i64 lf]:=hp17.blk hb17 (by simp)
 have hx21:=hp17.ext
 have hb19':=hb19.ext hx21 (by simp;omega)
 refine⟨hb19'.cells _ _ (by simp),fun H22 hp19=>?_⟩
 have hb19'':Blk H22 b19 [.slice a n c,.pointer p,.map m]:=hp19.blk hb19' (by simp)
 have hx22:=hp19.ext
 have hb17'':=hb17'.ext hx22 (by simp;omega)
 have z21:=hx21.size;have z22:=hx22.size
 have hx622:Ext [] H6 H22:=((hn17.ext.trans' hn19.ext (by simp)).trans' hx21 (fun i hi=>.inl (by simp only[List.mem_singleton]at hi;omega))).trans' hx22 (fun i hi=>.inl (by simp only[List.mem_singleton]at hi;omega))
 have hJ22:JD H22 F pj pd J D:=hJ6.ext (M:=fun _=>False) hx622.anyP (fun _ _ h=>h)
 rcases hcase with⟨rfl,x,rl,ba,bc,ml,Fd,st,hlo,rfl,rfl,rfl,rfl,hsv,hn6,hfr,hxn⟩|⟨rfl,hno⟩
 ·refine⟨fun h=>absurd rfl h,fun _=>?_⟩
  simp only[stateV,Value.agg.injEq,Array.mk.injEq,List.cons.injEq,and_true,Value.slice.injEq,Value.pointer.injEq,Value.map.injEq]at hsv
  obtain⟨⟨rfl,rfl,rfl⟩,rfl,rfl⟩:=hsv
  have hlen:=hlo.length
  have hn22:=hn6.extP (M:=fun _=>False) hx622.anyP (fun _ _ h=>h) (fun _ _ h=>h)
  refine⟨_,by rw[hb17''.cell];rfl,_,by rw[hb17''.cell];rfl,_,by rw[hb17''.cell];rfl,_,by rw[hb17''.cell];rfl,_,_,_,by rw[hb19''.cell];rfl,_,by rw[hb19''.cell];rfl,_,by rw[hb19''.cell];rfl,
   _,_,_,by rw[hb19''.cell];rfl,_,by rw[hb19''.cell];rfl,_,by rw[hb19''.cell];rfl,(copied_ok hn22 (by omega) (fun q hq=>by have:=hfr q (.inr hq);omega)).mono ?_⟩
  rintro _ H38 ⟨y,ba',bc',ml',rfl,hy38,hx38,hfy,hyn⟩
  have hb17c:=hb17''.ext hx38 (by simp)
  have hb19c:=hb19''.ext hx38 (by simp)
  refine⟨_,_,_,_,_,rfl,⟨by rw[hb19c.cell];rfl,by rw[hb19c.cell];rfl,by rw[hb19c.cell];rfl,trivial⟩,⟨by rw[hb17c.cell];rfl,by rw[hb17c.cell];rfl,by rw[hb17c.cell];rfl,by rw[hb17c.cell];rfl,trivial⟩,fun b44 H45 hn44=>?_⟩
  have hx45:=hn44.ext
  have e44:=hn44.eq
  have z38:=hx38.size;have z45:=hn44.size
  have hx2245:Ext [] H22 H45:=hx38.trans' hx45 (by simp)
  have hx245:ExtP F H2 H45:=(hx6.trans hx622.anyP).trans hx2245.anyP
  have hxl:∀q,ownS x ba q→H2.size≤q∧q<H6.size:=fun q hq=>hfr q (.inl hq)
  have hdl:∀q,Fd q→H2.size≤q∧q<H6.size:=fun q hq=>hfr q (.inr hq)
  have hyl:=hy38.lt
  refine hok H45 b44 x y (ownS x ba) (ownS y ba') Fd st hlo hx245 ⟨hn44.blk,hJ22.ext (M:=fun _=>False) hx2245.anyP (fun _ _ h=>h),⟨rl,ba,bc,ml,hn22.extP (M:=fun _=>False) hx2245.anyP (fun _ _ h=>h) (fun _ _ h=>h),fun _=>Iff.rfl⟩,
   ⟨rl,ba',bc',ml',hy38.extP (M:=fun _=>False) hx45.anyP (fun _ _ h=>h) (fun _ _ h=>h),fun _=>Iff.rfl⟩,⟨fun h=>by have:=hFl _ h;omega,fun h=>by have:=hxl _ h;omega,fun h=>by have:=hyl _ h;omega,fun h=>by have:=hdl _ h;omega⟩,
   fun q hq=>⟨fun h=>by have:=hFl q hq;have:=hxl q h;omega,fun h=>by have:=hFl q hq;have:=hfy q h;omega,fun h=>by have:=hFl q hq;have:=hdl q h;omega⟩,fun q hq h=>by have:=hxl q hq;have:=hfy q h;omega,
   fun q hq h=>by have:=hfy q hq;have:=hdl q h;omega,fun q hq=>by have:=hdl q hq;omega,⟨by omega,by omega⟩⟩ fun q hq=>?_
  rcases hq with hq|hq|hq|hq
  ·exact(hxl q hq).1
  ·have:=hfy q hq;omega
  ·exact(hdl q hq).1
  ·omega
 ·exact⟨fun _=>hbad H22 (hx6.trans hx622.anyP) hJ22 hno,fun h=>absurd (by decide) h⟩
end Go.Proofs
end
section
open Go
namespace Go.Vc
def splitS:Nat→Code→Option (Code×Code)
 | 0,.seq a b=>some (a,b)
 | n+1,.seq a b=>match splitS n b with
  | some (x,y)=>some (.seq a x,y)
  | none=>none
 | _,_=>none
def dropN:Nat→Code→Code
 | 0,c=>c
 | n+1,.seq _ b=>dropN n b
 | _,c=>c
def PartH(P:Program)(f i n:Nat)(S:Sym)(outs:List Nat)(H:Heap)(C R:Value→Heap→Prop):Prop:=
 match P.funcs[f]? with
 | none=>False
 | some fn=>match fn.body with
  | none=>False
  | some c=>match splitS n (dropN i c)with
   | none=>False
   | some (c,_)=>match compC P fn.ntmps (resSlots fn.results.toList) [] c,compRes P fn.results.toList with
    | some sc,some rs=>WP P (Does P) (fun _ _=>False) sc ⟨fun S H=>retK (tmpsR outs) C S H,fun _ _ _=>False,fun S H=>retK rs R S H⟩ S H
    | _,_=>False
theorem ag_zip{N:Nat}{S:Sym}{a:Act}(ha:Ag N S a)(outs:List Nat):Ag N (outs.map fun t=>(t,SV.v (a.tmps.getD t undef))) a:=by
 refine⟨ha.size,ha.defers,fun t s ht=>?_⟩
 induction outs with
 | nil=>cases ht
 | cons x r ih=>
  rw[List.map_cons,get_cons]at ht
  split at ht
  ·rename_i e
   subst e
   cases ht
   rfl
  ·exact ih ht
theorem zip_map(g:Nat→Value):∀l:List Nat,((l.zip (l.map g)).map fun x=>(x.1,SV.v x.2))=l.map fun t=>(t,SV.v (g t))
 | []=>rfl
 | t::r=>by simp only[List.map_cons,List.zip_cons_cons];rw[zip_map g r]
section
variable {P:Program} {N:Nat}
theorem head_sound(hm:P.follows .mixedOrders=true){ex:List Nat}{K:Kont}{Q:Exit→Act→World→Prop}{w0:World}(hexit:∀id S H,¬K.exit id S H)(hret:∀a' w',Sim w0 w'→(∃S',Ag N S' a'∧K.ret S' w'.heap)→Q .ret a' w'):∀(n:Nat)(c x y:Code),splitS n c=some (x,y)→∀sc,compC P N ex [] x=some sc →
  ∀S a w,Sim w0 w→Ag N S a→WP P (Does P) (fun _ _=>False) sc K S w.heap→(∀S' a' w',Sim w0 w'→Ag N S' a'→K.norm S' w'.heap→y.wp P Q a' w')→c.wp P Q a w
 | 0,.seq c1 c2,x,y,hs,sc,hc,S,a,w,h0,ha,h,hk=>by
  simp only[splitS,Option.some.injEq,Prod.mk.injEq]at hs
  obtain⟨rfl,rfl⟩:=hs
  refine wp_seq (wp_mono (code_sound hm c1 sc hc K S a w ha h) ?_)
  intro e a' w' hq
  cases e with
  | normal=>
   obtain⟨hf,hs,S',ha',hk'⟩:=hq
   exact hk S' a' w' (h0.trans hs) ha' hk'
  | exit id=>obtain⟨_,_,S',_,h'⟩:=hq;exact absurd h' (hexit _ _ _)
  | ret=>obtain⟨_,hs,S',ha',h'⟩:=hq;exact hret a' w' (h0.trans hs) ⟨S',ha',h'⟩
  | panic ch=>obtain⟨_,_,_,_,h'⟩:=hq;exact h'.elim
  | _=>exact hq.elim
 | n+1,.seq c1 c2,x,y,hs,sc,hc,S,a,w,h0,ha,h,hk=>by
  simp only[splitS]at hs
  split at hs
  ·rename_i x' y' hs'
   simp only[Option.some.injEq,Prod.mk.injEq]at hs
   obtain⟨rfl,rfl⟩:=hs
   simp only[compC]at hc
   split at hc
   ·rename_i sx sy h1 h2
    split at hc
    ·rename_i hcut
     unfold annOf at hcut
     split at hcut
     ·cases hcut
     ·cases hcut
    ·simp only[Option.some.injEq]at hc;subst hc
     simp only[WP]at h
     refine wp_seq (wp_mono (code_sound hm c1 sx h1 _ S a w ha h) ?_)
     intro e a' w' hq
     cases e with
     | normal=>
      obtain⟨hf,hs,S',ha',hk'⟩:=hq
      exact head_sound hm hexit hret n c2 x' y' hs' sy h2 S' a' w' (h0.trans hs) ha' hk' hk
     | exit id=>obtain⟨_,_,S',_,h'⟩:=hq;exact absurd h' (hexit _ _ _)
     | ret=>obtain⟨_,hs,S',ha',h'⟩:=hq;exact hret a' w' (h0.trans hs) ⟨S',ha',h'⟩
     | panic ch=>obtain⟨_,_,_,_,h'⟩:=hq;exact h'.elim
     | _=>exact hq.elim
   ·cases hc
  ·cases hs
variable {f i n:Nat} {S:Sym} {outs:List Nat} {H:Heap} {C R:Value→Heap→Prop} {V:Prop} {fn:Func} {c0 x y:Code}
theorem partH_gen(hm:P.follows .mixedOrders=true)(e:PartH P f i n S outs H C R=V)(h:V)(hf:P.funcs[f]?=some fn)(hb:fn.body=some c0)(hc:splitS n (dropN i c0)=some (x,y)){a:Act}{w w0:World}(h0:Sim w0 w)(ha:Ag fn.ntmps S a)(hw:w.heap=H){Q:Exit→Act→World→Prop}
  (hret:∀a' w' v,Sim w0 w'→a'.defers=[]→(results fn a'.tmps).run P w'=.ok v w'→R v w'.heap→Q .ret a' w')
  (hk:∀vs a' w',vs.length=outs.length→Sim w0 w'→Ag fn.ntmps ((outs.zip vs).map fun x=>(x.1,.v x.2)) a'→C (tupV vs) w'.heap→y.wp P Q a' w') :
  (dropN i c0).wp P Q a w:=by
 rw[←e]at h
 unfold PartH at h
 rw[hf]at h
 simp only[hb,hc]at h
 split at h
 ·rename_i sc rs hsc hrs
  subst hw
  refine head_sound hm (w0:=w0) (K:=⟨fun S H=>retK (tmpsR outs) C S H,fun _ _ _=>False,fun S H=>retK rs R S H⟩) (fun _ _ _ h=>h) ?_ n _ x y hc sc hsc S a w h0 ha h ?_
  ·rintro a' w' hs ⟨S',ha',hk'⟩
   obtain⟨vs,h1,h2⟩:=res_sound (P:=P) ha'.agree fn.results.toList rs _ hrs hk'
   refine hret a' w' (if h:vs.toArray.size=1 then vs.toArray[0]else .tuple vs.toArray) hs ha'.defers ?_ ?_
   ·rw[results_eq]
    have e:fn.results=fn.results.toList.toArray:=by simp
    rw[e,List.mapM_toArray]
    simp only[Sem.run_bind,Sem.run_map,h1,Result.andThen_ok,Sem.run_pure]
   ·match vs,h2 with
    | [],h2=>exact h2
    | [v],h2=>exact h2
    | _::_::_,h2=>exact h2
  ·intro S' a' w' hs ha' hk'
   have h1:=resK_tmps ha'.agree outs _ hk'
   have h2:=ag_zip ha' outs
   have e3:((outs.zip (outs.map fun t=>a'.tmps.getD t undef)).map fun x=>(x.1,SV.v x.2))=outs.map fun t=>(t,SV.v (a'.tmps.getD t undef)):=by
    exact zip_map _ _
   refine hk (outs.map fun t=>a'.tmps.getD t undef) a' w' (by simp) hs (by rw[e3];exact h2) ?_
   generalize (outs.map fun t=>a'.tmps.getD t undef)=vs at h1
   match vs,h1 with
   | [],h1=>exact h1
   | [v],h1=>exact h1
   | _::_::_,h1=>exact h1
 ·exact h.elim
theorem tupV_many{vs:List Value}{l:List Value}(h:2≤vs.length)(e:tupV vs=.tuple l.toArray):vs=l:=by
 match vs,h,e with
 | _::_::_,_,e=>simpa[tupV]using e
end
end Go.Vc
end
section
open Go Go.Vc
namespace Go.Proofs
theorem FoA(x0:Option Addr) (x1:Int) (x2:Int) (H:Heap) (C R:Value→Heap→Prop):PartH Tryz.prog 40 0 3 [(0,.v (.pointer x0)),(1,.v (.int .i64 x1)),(2,.v (.int .i64 x2))] [0,1,6,7,8] H C R=(∀b1 H2,New H b1 [.int .i64 0] 26 H2→((((x0:Option Addr)=none)→Cells H2 b1 0 1∧∀H3,Puts H2 b1 0 [.int .i64 1] H3→∃n4,hcell H3 b1 0=some (.int .i64 n4)∧R (.int .i64 n4) H3)∧(¬((x0:Option Addr)=none)→∀b5 H6,New H2 b5 [.int .i64 0,.int .i64 0,.int .i64 0,.int .i64 0] 131 H6→Cells H6 b5 0 4∧∀H7,Puts H6 b5 0 [.int .i64 0,.int .i64 0,.int .i64 0,.int .i64 0] H7→((((0:Int)≤x1)→Does Tryz.prog 114 [.pointer x0] H7 fun v8 H9=>∃n10,v8=(.int .i64 n10)∧((((x1:Int)<n10)→Does Tryz.prog 114 [.pointer x0] H9 fun v11 H12=>∃n13,v11=(.int .i64 n13)∧In64 (n13 - 1) ∧In64 ((n13 - 1) - x1) ∧Does Tryz.prog 115 [.int .i64 ((n13 - 1) - x1),.int .i64 x2] H12 fun v14 H15=>∃n16 n17,∃n18 n19,∃t20,v14=(.tuple #[.agg #[.int .i64 n16,.int .i64 n17,.int .i64 n18,.int .i64 n19],.bool t20])∧Cells H15 b5 0 4∧∀H21,Puts H15 b5 0 [.int .i64 n16,.int .i64 n17,.int .i64 n18,.int .i64 n19] H21→(C (.tuple #[.pointer x0,.int .i64 x1,.pointer (some ⟨b1,0,none⟩),.pointer (some ⟨b5,0,none⟩),.bool t20]) H21))∧(¬((x1:Int)<n10)→(C (.tuple #[.pointer x0,.int .i64 x1,.pointer (some ⟨b1,0,none⟩),.pointer (some ⟨b5,0,none⟩),.bool false]) H9))))∧(¬((0:Int)≤x1)→(C (.tuple #[.pointer x0,.int .i64 x1,.pointer (some ⟨b1,0,none⟩),.pointer (some ⟨b5,0,none⟩),.bool false]) H7)))))):=by kernel_rfl
theorem FoB(x0:Option Addr) (x1:Int) (p6:Nat) (p7:Nat) (x8:Bool) (H:Heap) (C R:Value→Heap→Prop):PartH Tryz.prog 40 4 7 [(0,.v (.pointer x0)),(1,.v (.int .i64 x1)),(6,.v (.pointer (some ⟨p6,0,none⟩))),(7,.v (.pointer (some ⟨p7,0,none⟩))),(8,.v (.bool x8))] [6,10,12,15] H C R=(((x8=false)→Cells H p6 0 1∧∀H1,Puts H p6 0 [.int .i64 1] H1→∃n2,hcell H1 p6 0=some (.int .i64 n2)∧R (.int .i64 n2) H1)∧(¬(x8=false)→Does Tryz.prog 116 [.pointer x0,.int .i64 x1] H fun v3 H4=>∃n5,v3=(.int .i64 n5)∧(((n5≠0)→Cells H4 p6 0 1∧∀H6,Puts H4 p6 0 [.int .i64 n5] H6→∃n7,hcell H6 p6 0=some (.int .i64 n7)∧R (.int .i64 n7) H6)∧(¬(n5≠0)→Does Tryz.prog 92 [.pointer x0] H4 fun v8 H9=>∃p10:Option Addr,∃n11,v8=(.tuple #[.pointer p10,.int .i64 n11])∧∀b12 H13,New H9 b12 [.pointer none] 127 H13→Cells H13 b12 0 1∧∀H14,Puts H13 b12 0 [.pointer p10] H14→(((n11≠0)→Cells H14 p6 0 1∧∀H15,Puts H14 p6 0 [.int .i64 n11] H15→∃n16,hcell H15 p6 0=some (.int .i64 n16)∧R (.int .i64 n16) H15)∧(¬(n11≠0)→∃n17,hcell H14 p7 0=some (.int .i64 n17)∧∃n18,hcell H14 p7 (0+1)=some (.int .i64 n18)∧∃n19,hcell H14 p7 (0+1+1)=some (.int .i64 n19)∧∃n20,hcell H14 p7 (0+1+1+1)=some (.int .i64 n20)∧∃n21,hcell H14 p7 0=some (.int .i64 n21)∧∃n22,hcell H14 p7 (0+1)=some (.int .i64 n22)∧∃n23,hcell H14 p7 (0+1+1)=some (.int .i64 n23)∧∃n24,hcell H14 p7 (0+1+1+1)=some (.int .i64 n24)∧Does Tryz.prog 118 [.agg #[.int .i64 n21,.int .i64 n22,.int .i64 n23,.int .i64 n24]] H14 fun v25 H26=>∃a27 l28 c29,∃p30:Option Addr,∃m31:Option Nat,v25=(.agg #[.slice a27 l28 c29,.pointer p30,.map m31])∧isL H26 p7 0 [.int .i64 n17,.int .i64 n18,.int .i64 n19,.int .i64 n20]∧Does Tryz.prog 117 [.agg #[.int .i64 n17,.int .i64 n18,.int .i64 n19,.int .i64 n20],.agg #[.slice a27 l28 c29,.pointer p30,.map m31]] H26 fun v32 H33=>∃a34 l35 c36,v32=(.slice a34 l35 c36)∧∃I37:Option Addr→Nat→Nat→Int→Heap→Prop,∃μ38:Option Addr→Nat→Nat→Int→Heap→Nat,(I37 none 0 0 0 H33) ∧∀a39 l40 c41,∀n42:Int,∀H43:Heap,I37 a39 l40 c41 n42 H43→(((n42<(l35:Int))→(0:Int)≤n42∧n42<(l35:Int)∧∃b44 o45:Nat,a34=some (⟨b44,o45,none⟩:Addr)∧∃a46 l47 c48,hcell H43 b44 (o45+(Int.toNat n42))=some (.slice a46 l47 c48)∧∀b49 H50,New H43 b49 [.int .i64 n42,.slice a46 l47 c48] 162 H50→∃old51 new52:List Value,SRow H50 2 l40 (.slice a39 l40 c41) old51∧SRow H50 2 1 (.slice (some ⟨b49,0,none⟩) 1 1) new52∧(∀u∈new52,Value.oneCell' u=true)∧(l40+1)*32≤140737488355328∧(l40+1≤c41→roomOf H50 a39 (l40*2) (1*2))∧∀a53:Option Addr,∀c54:Nat,∀H55,App H50 2 162 [.int .i64 0,.slice none 0 0] a39 l40 c41 old51 new52 1 a53 c54 H55→In64 (n42+1) ∧(I37 a53 (l40+1) c54 (n42+1) H55)∧μ38 a53 (l40+1) c54 (n42+1) H55<μ38 a39 l40 c41 n42 H43)∧(¬(n42<(l35:Int))→Does Tryz.prog 119 [.int .i64 (l40:Int)] H43 fun v56 H57=>∃n58,v56=(.int .i64 n58)∧((((x1:Int)<n58)→(C (.tuple #[.pointer (some ⟨p6,0,none⟩),.pointer (some ⟨b12,0,none⟩),.slice a39 l40 c41,.int .i64 1]) H57))∧(¬((x1:Int)<n58)→(C (.tuple #[.pointer (some ⟨p6,0,none⟩),.pointer (some ⟨b12,0,none⟩),.slice a39 l40 c41,.int .i64 (l40:Int)]) H57))))))))))):=by kernel_rfl
theorem Fo23(x12:Option Addr) (x12l:Nat) (x12c:Nat) (x15:Int) (H:Heap) (R:Value→Heap→Prop):Part Tryz.prog 40 23 [(12,.v (.slice x12 x12l x12c)),(15,.v (.int .i64 x15))] [81] H R=(Does Tryz.prog 120 [.slice x12 x12l x12c,.int .i64 x15] H fun v1 H2=>∃f3:FuncId,∃fa4:Array Value,∃fc5:Array Value,v1=(.func (.func f3) fa4 fc5)∧R (.func (.func f3) fa4 fc5) H2):=by kernel_rfl
theorem Fo24(x82:Option Addr) (x82l:Nat) (x82c:Nat) (H:Heap) (R:Value→Heap→Prop):Part Tryz.prog 40 24 [(82,.v (.slice x82 x82l x82c))] [16] H R=(R (.slice x82 x82l x82c) H):=by kernel_rfl
theorem Fo25(p10:Nat) (x16:Option Addr) (x16l:Nat) (x16c:Nat) (H:Heap) (R:Value→Heap→Prop):Part Tryz.prog 40 25 [(10,.v (.pointer (some ⟨p10,0,none⟩))),(16,.v (.slice x16 x16l x16c))] [17] H R=(∃p1:Option Addr,hcell H p10 0=some (.pointer p1)∧Does Tryz.prog 113 [.pointer p1,.slice x16 x16l x16c] H fun v2 H3=>∃n4,v2=(.int .i64 n4)∧R (.int .i64 n4) H3):=by kernel_rfl
theorem Fo26(x17:Int) (H:Heap) (R:Value→Heap→Prop):Part Tryz.prog 40 26 [(17,.v (.int .i64 x17))] [87] H R=(R (.bool (@decide ((x17:Int)≠0) (Classical.propDecidable _))) H):=by kernel_rfl
theorem Fo28(p10:Nat) (p6:Nat) (H:Heap) (R:Value→Heap→Prop):Part Tryz.prog 40 28 [(10,.v (.pointer (some ⟨p10,0,none⟩))),(6,.v (.pointer (some ⟨p6,0,none⟩)))] [] H R=(∃p1:Option Addr,hcell H p10 0=some (.pointer p1)∧Does Tryz.prog 121 [.pointer p1] H fun v2 H3=>∃n4,v2=(.int .i64 n4)∧Cells H3 p6 0 1∧∀H5,Puts H3 p6 0 [.int .i64 n4] H5→R (.tuple #[]) H5):=by kernel_rfl
end Go.Proofs
end
section
open Go Go.Vc Go.Proofs.Bx
namespace Go.Proofs
theorem srow_subv{H:Heap}{sz L c:Nat}{a:Option Addr}{xs:List Value}(h:SRow H sz L (.slice a L c) xs){o n c':Nat}(ho:o+n≤L):SRow H sz n (.slice (a.map (·.add (o*sz))) n c') ((xs.drop (o*sz)).take (n*sz)):=by
 obtain⟨h1,h2⟩:=h
 have hle:(o+n)*sz≤L*sz:=Nat.mul_le_mul_right _ ho
 rw[Nat.add_mul]at hle
 refine⟨by rw[List.length_take,List.length_drop];omega,?_⟩
 cases a with
 | none=>
  have h2:xs=[]:=h2
  subst h2
  simp
 | some ad=>
  obtain⟨h3,h4⟩:=h2
  rcases h3 with h3|h3
  ·subst h3
   exact⟨.inl (by simp),fun j u hj=>by simp at hj⟩
  ·show(_∨(ad.add (o*sz)).spot=none)∧∀(j:Nat) (u:Value),_→hcell H (ad.add (o*sz)).block ((ad.add (o*sz)).off+j)=some u
   have e1:(ad.add (o*sz)).spot=none:=by unfold Addr.add;split;exact h3;rfl
   have e2:(ad.add (o*sz)).block=ad.block:=by unfold Addr.add;split<;>rfl
   have e3:(ad.add (o*sz)).off=ad.off+o*sz:=by unfold Addr.add;split<;>simp_all
   refine⟨.inr e1,fun j u hj=>?_⟩
   rw[e2,e3,Nat.add_assoc]
   refine h4 (o*sz+j) u ?_
   have hj':j<n*sz:=by
    have:=(List.getElem?_eq_some_iff.1 hj).1
    rw[List.length_take]at this;omega
   simp only[List.getElem?_take,List.getElem?_drop]at hj
   rw[if_pos hj']at hj
   exact hj
theorem rows_drop{sz:Nat}:∀{vs:List (List Value)}(k:Nat),(∀r∈vs,r.length=sz)→(vs.drop k).flatten=vs.flatten.drop (k*sz)
 | [],k,_=>by simp
 | r::rs,0,_=>by simp
 | r::rs,k+1,h=>by
  have h1:=h r (by simp)
  rw[List.drop_succ_cons,rows_drop k (fun r hr=>h r (by simp[hr])),List.flatten_cons,Nat.succ_mul,List.drop_append,h1]
  have e:(r.drop (k*sz+sz))=[]:=List.drop_of_length_le (by omega)
  rw[e,List.nil_append,Nat.add_sub_cancel]
theorem rows_take{sz:Nat}:∀{vs:List (List Value)}(k:Nat),(∀r∈vs,r.length=sz)→(vs.take k).flatten=vs.flatten.take (k*sz)
 | [],k,_=>by simp
 | r::rs,0,_=>by simp
 | r::rs,k+1,h=>by
  have h1:=h r (by simp)
  rw[List.take_succ_cons,List.flatten_cons,rows_take k (fun r hr=>h r (by simp[hr])),List.flatten_cons,Nat.succ_mul,List.take_append,h1]
  have e:r.take (k*sz+sz)=r:=List.take_of_length_le (by omega)
  rw[e,Nat.add_sub_cancel]
theorem SeqV.sub{α:Type}{E:Elem α}{H:Heap}{a:Option Addr}{xs:List α}(h:SeqV E H a xs){o n:Nat}(ho:o+n≤xs.length):SeqV E H (a.map (·.add (o*E.sz))) ((xs.drop o).take n):=by
 obtain⟨vs,h1,h2,h3⟩:=h
 have hrows:∀r∈vs,r.length=E.sz:=by
  intro r hr
  obtain⟨i,hi,rfl⟩:=List.mem_iff_getElem.1 hr
  obtain⟨v,q1,q2⟩:=h3 i _ (List.getElem?_eq_getElem (by omega))
  rw[List.getElem?_eq_getElem hi,Option.some.injEq]at q1
  rw[q1]
  exact E.len q2
 have hn:((xs.drop o).take n).length=n:=by rw[List.length_take,List.length_drop];omega
 refine⟨(vs.drop o).take n,?_,by rw[hn,List.length_take,List.length_drop,h2];omega,fun i x hx=>?_⟩
 ·rw[hn,rows_take n (fun r hr=>hrows r (List.mem_of_mem_drop hr)),rows_drop o hrows]
  exact srow_subv h1 ho
 ·rw[List.getElem?_take]at hx ⊢
  split at hx
  ·rename_i hi
   rw[if_pos hi,List.getElem?_drop]
   rw[List.getElem?_drop]at hx
   exact h3 _ _ hx
  ·cases hx
theorem overT_one(base:Nat→Octs)(j:Int)(x:Octs)(k:Nat):overT base [(j,x)] k=if(k:Int)=j then x else base k:=by
 unfold overT tAll
 simp only[List.foldl_cons,List.foldl_nil,tSet,tGet]
 by_cases e:(k:Int)=j
 ·rw[if_pos e,if_pos e.symm];rfl
 ·rw[if_neg e,if_neg (fun h=>e h.symm)];rfl
def blksW(P:Nat→Octs)(f:Nat):List Wr:=(List.range f).map fun (k:Nat)=>((k:Int),P k)
theorem blksW_length(P:Nat→Octs)(f:Nat):(blksW P f).length=f:=by simp[blksW]
theorem over_blks(base:Nat→Octs)(P:Nat→Octs):∀f,overT base (blksW P f)=fun k=>if k<f then P k else base k
 | 0=>by
  funext k
  simp[blksW,overT,tAll,tGet]
 | f+1=>by
  have e:blksW P (f+1)=blksW P f++[((f:Int),P f)]:=by simp[blksW,List.range_succ]
  rw[e,over_app,over_blks base P f]
  funext k
  rw[overT_one]
  by_cases h:k=f
  ·subst h;simp
  ·rw[if_neg (by omega)]
   by_cases h2:k<f
   ·rw[if_pos h2,if_pos (by omega)]
   ·rw[if_neg h2,if_neg (by omega)]
theorem blks_may{P:Nat→Octs}{f N:Nat}(hP:∀k,k<f→(P k).length=128)(hf:f≤N){o n:Nat}(hn:0<n)(ho:o+n≤f):MayP (((blksW P f).drop o).take n) (N:Int):=by
 have hl:(((blksW P f).drop o).take n).length=n:=by rw[List.length_take,List.length_drop,blksW_length];omega
 have hsub:(((blksW P f).drop o).take n).Sublist (blksW P f):=(List.take_sublist _ _).trans (List.drop_sublist _ _)
 refine⟨fun e=>by rw[e]at hl;simp at hl;omega,fun w hw=>?_,?_⟩
 ·obtain⟨k,hk,rfl⟩:=List.mem_map.1 (hsub.mem hw)
  have:=List.mem_range.1 hk
  exact⟨by simp only;omega,by simp only;omega,hP k this⟩
 ·refine(hsub.map _).nodup ?_
  simp only[blksW,List.map_map]
  have:(List.range f).map ((fun x:Wr=>x.1) ∘ fun (k:Nat)=>((k:Int),P k))=(List.range f).map fun (k:Nat)=>(k:Int):=rfl
  rw[this]
  exact(List.nodup_range).map _ (fun a b h=>by intro e;exact h (by omega))
theorem needs_bd(n:Nat):needsN (n:Int)=if n=0 then 0 else((n*132+117) / 116:Nat):=by
 unfold needsN
 by_cases h:n=0
 ·subst h;rfl
 ·rw[if_neg (by omega),if_neg h];omega
theorem chunkW_ok(a:Option Addr)(l c:Nat)(n:Int)(H:Heap)(hn:1≤n):Does Tryz.prog 120 [.slice a l c,.int .i64 n] H fun v H'=>
  v=.func (.func 184) #[] #[.pointer (some ⟨H.size,0,none⟩),.pointer (some ⟨H.size+1,0,none⟩)]∧Blk H' H.size [.slice a l c]∧Blk H' (H.size+1) [.int .i64 n]∧Ext [] H H'∧H'.size=H.size+2:=by
 refine Fn_of_vc Tryz.mixed (ChunkWV _ _ _ _ _ _) ?_
 intro b1 H2 h2 b3 H4 h4
 have e1:=h2.eq
 have e3:=h4.eq
 have s2:=h2.size
 have s4:=h4.size
 have hb1:=h2.blk.ext h4.ext (by simp)
 subst e1
 refine⟨n,by rw[h4.blk.cell];rfl,fun h=>by omega,fun _=>?_⟩
 have:b3=H.size+1:=by omega
 subst this
 exact⟨rfl,hb1,h4.blk,h2.ext.trans' h4.ext (by simp),by omega⟩
end Go.Proofs
end
section
open Go Go.Vc Go.Proofs.Bx
namespace Go.Proofs
theorem res40:compRes Tryz.prog Tryz.f40.results.toList=some [.cell [.int .i64 0] false 6]:=by kernel_rfl
theorem results40{a:Act}{w:World}{p6:Nat}{n:Int}(ha:Agree [(6,.v (.pointer (some ⟨p6,0,none⟩)))] a)(hc:hcell w.heap p6 0=some (.int .i64 n)):(results Tryz.f40 a.tmps).run Tryz.prog w=.ok (.int .i64 n) w:=by
 obtain⟨vs,h1,h2⟩:=res_sound (P:=Tryz.prog) (w:=w) ha Tryz.f40.results.toList _ (fun vs=>vs=[.int .i64 n]) res40 ⟨n,hc,rfl⟩
 subst h2
 rw[results_eq]
 have e:Tryz.f40.results=Tryz.f40.results.toList.toArray:=by simp
 rw[e,List.mapM_toArray]
 simp only[Sem.run_bind,Sem.run_map,h1,Result.andThen_ok,Sem.run_pure]
 rfl
def fmtP(N:Nat)(s:Int)(xs:Octs)(k:Nat):Octs:=((fixO s xs (emptyP N s (firstN N s)).slots).drop (k*128)).take 128
def fmtHm(N:Nat)(s:Int)(xs:Octs):Nat→Octs:=fun k=>if k<(firstN N s).toNat then fmtP N s xs k else zeros
theorem fixE_length{N:Nat}{s:Int}{xs:Octs}(hs:0≤s)(hx:xs.length=(N+7) / 8):(fixO s xs (emptyP N s (firstN N s)).slots).length=(firstN N s).toNat*128:=by
 have h2:=padO_length (beU 2 (w64 s))
 have h3:=padO_length xs
 have h4:=padO_length ((emptyP N s (firstN N s)).slots.map slotO).flatten
 have h5:=slotOs_length (l:=(emptyP N s (firstN N s)).slots) (fun sl hsl=>by
  have:=List.eq_of_mem_replicate hsl
  subst this
  exact⟨by simp,by simp,by simp,by simp,by simp,by simp⟩)
 have h6:(emptyP N s (firstN N s)).slots.length=s.toNat:=by simp[emptyP]
 have h7:(beU 2 (w64 s)).length=2:=beU_len _ _
 unfold fixO
 rw[List.length_append,List.length_append,h2,h3,h4,h5,h6,h7,hx]
 unfold firstN bitsN
 rw[Int.toNat_natCast]
 omega
def FmMid(H0 H1 H9:Heap)(F:Nat→Prop)(pd n z:Nat)(s:Int)(v:Value)(H:Heap):Prop:=
 ∃(p6 b12 pj:Nat) (a:Option Addr) (c st:Nat) (J:Jn) (D1:Dev) (F1:Nat→Prop) (n0:Nat) (xs:Octs),v=.tuple #[.pointer (some ⟨p6,0,none⟩),.pointer (some ⟨b12,0,none⟩),.slice a (firstN ((n - 1 - z:Nat):Int) s).toNat c,.int .i64 st] ∧
  Blk H p6 [.int .i64 0]∧Blk H b12 [.pointer (some ⟨pj,0,none⟩)]∧¬F1 p6∧¬F1 b12∧H1.size≤p6∧JL H0 H F1 pj pd n z 10000 J D1 (fun _=>zeros) (fun _=>True)∧D1.fuse=-1∧(∀q,F1 q→q<n0) ∧
  BytesAre (emptyP ((n - 1 - z:Nat):Int) s (firstN ((n - 1 - z:Nat):Int) s)).bits xs∧MySeq writeE n0 H a (firstN ((n - 1 - z:Nat):Int) s).toNat c (blksW (fmtP (n - 1 - z) s xs) (firstN ((n - 1 - z:Nat):Int) s).toNat)∧(firstN ((n - 1 - z:Nat):Int) s).toNat≤c ∧
  1≤st∧st≤100∧(∀m,m≤st→m≤(firstN ((n - 1 - z:Nat):Int) s).toNat→needsN m≤z)∧n0≤H.size∧(∀q,F1 q→F q∨H1.size≤q)∧ExtP (fun q=>F q∨H1.size≤q) H9 H
set_option maxHeartbeats 2000000 in
theorem fmt_head{H0 H H9:Heap}{F:Nat→Prop}{pd n z p6 p7:Nat}{s:Int}(hd:DvIn H0 H9 F pd (newD n) n 0)(hz:4≤z∧z+4≤n)(hn:n≤4096)(hg:¬laidBad ((n - 1 - z:Nat):Int) s)(_:firstN ((n - 1 - z:Nat):Int) s<((n - 1 - z:Nat):Int))
  (hb6:Blk H9 p6 [.int .i64 0]) (h6:¬F p6) (hH:H.size≤p6) (hb7:Blk H9 p7 [.int .i64 ((n - 1 - z:Nat):Int),.int .i64 s,.int .i64 (bitsN ((n - 1 - z:Nat):Int)),.int .i64 (firstN ((n - 1 - z:Nat):Int) s)]) (h7:¬F p7) {R:Value→Heap→Prop} :
  PartH Tryz.prog 40 4 7 [(0,.v (.pointer (some ⟨pd,0,none⟩))),(1,.v (.int .i64 z)),(6,.v (.pointer (some ⟨p6,0,none⟩))),(7,.v (.pointer (some ⟨p7,0,none⟩))),(8,.v (.bool true))] [6,10,12,15] H9 (FmMid H0 H H9 F pd n z s) R:=by
 rw[FoB]
 obtain⟨N,hN⟩:∃N,N=n - 1 - z:=⟨_,rfl⟩
 rw[←hN]at hg hb7
 have h0:¬(s<1∨256<s∨(N:Int)<1):=hg
 have hbb:=bitsN_bd (N:=N) (by omega)
 have hfd:firstN (N:Int) s=1+bitsN N+(s+3) / 4:=rfl
 refine⟨fun h=>(by cases h),fun _=>?_⟩
 refine(format_ok hd.dev hd.wf (by omega) hn (z:Int)).mono ?_
 rintro _ H4 ⟨rfl,hdv4,hx4⟩
 obtain⟨hf0,K,hat,hfuse,hsure⟩:=format_sure hz hn
 have hwf4:=format_dwf (size:=(z:Int)) hd.wf hn
 have hd4:=hd.step hdv4 hx4 hwf4
 have z4:=hx4.size
 have hlt9:=hd.dev.lt
 rw[hf0]
 refine⟨_,rfl,fun h=>absurd rfl h,fun _=>?_⟩
 have hb6_4:=hb6.extP hx4 h6
 have hb7_4:=hb7.extP hx4 h7
 refine(hd4.open_ (S:=fun _=>True) (by omega) hat (hsure.up (by omega) (by omega)) trivial).mono ?_
 rintro v H9' ⟨hx9,hcase⟩
 have hlt4:=hd4.dev.lt
 have hg6:∀{A B:Heap} {q:Nat},¬F q→q<A.size→¬grow F A B q:=fun h1 h2 h=>h.elim h1 fun h=>by omega
 have hl6:=hb6.lt
 have hl7:=hb7.lt
 obtain⟨pj,J,D1,rfl,hJL,hfu,hused,hpend⟩:=hcase.resolve_right (fun ⟨_,_,_,hne,_⟩=>hne hfuse)
 have z9:=hx9.size
 have hb6_9:=hb6_4.extP hx9 (hg6 h6 hl6)
 have hb7_9:=hb7_4.extP hx9 (hg6 h7 hl7)
 let F1:Nat→Prop:=grow (grow F H9 H4) H4 H9'
 have hF1lt:∀q,F1 q→q<H9'.size:=hJL.lt
 have hF16:¬F1 p6:=fun h=>h.elim (hg6 h6 hl6) fun h=>by omega
 have hF17:¬F1 p7:=fun h=>h.elim (hg6 h7 hl7) fun h=>by omega
 refine⟨_,_,rfl,fun b12 H13 hn12=>⟨hn12.blk.cells _ _ (by simp),fun H14 hp12=>?_⟩⟩
 obtain⟨hb12,hx14,e12,z14⟩:=new_put hn12 hp12 rfl
 have hb6_14:=hb6_9.ext hx14 (by simp)
 have hb7_14:=hb7_9.ext hx14 (by simp)
 refine⟨fun h=>absurd rfl h,fun _=>?_⟩
 refine⟨_,by rw[hb7_14.cell];rfl,_,by rw[hb7_14.cell];rfl,_,by rw[hb7_14.cell];rfl,_,by rw[hb7_14.cell];rfl,_,by rw[hb7_14.cell];rfl,_,by rw[hb7_14.cell];rfl,_,by rw[hb7_14.cell];rfl,_,by rw[hb7_14.cell];rfl,?_⟩
 refine(empty_ok (Fd:=fun _=>False) (by omega) (by omega) (by omega) (by omega) (fun _ h=>h.elim)).mono ?_
 rintro _ H26 ⟨x,rl,ba,bc,rfl,hn26,hx26,ho26,hxn⟩
 have hb7_26:=hb7_14.ext hx26 (by simp)
 refine⟨_,_,_,_,_,rfl,⟨by rw[hb7_26.cell];rfl,by rw[hb7_26.cell];rfl,by rw[hb7_26.cell];rfl,by rw[hb7_26.cell];rfl,trivial⟩,?_⟩
 have hbl:(emptyP (N:Int) s (firstN (N:Int) s)).bits.length=N:=by simp only[emptyP];rw[setAll_length,List.length_replicate,Int.toNat_natCast]
 refine(fixed_ok hn26 (by omega) (by omega) (fun sl hs=>?_) _ _ _ _).mono ?_
 ·have:=List.eq_of_mem_replicate hs
  subst this
  exact⟨by simp,by simp,by simp,by simp,by simp,by simp⟩
 rintro _ H33 ⟨xs,hxs,⟨kk,ra,rc,vs,rfl,hlen,hro,hvl,hrf,hri⟩,hx33⟩
 have hfl:=fixE_length (N:=N) (s:=s) (xs:=xs) (by omega) (by have:=hxs.len;rw[hbl]at this;exact this)
 obtain⟨f,hf⟩:∃f:Nat,firstN (N:Int) s=f:=⟨(firstN (N:Int) s).toNat,by omega⟩
 have hkk:kk=f:=by rw[hfl,hf,Int.toNat_natCast]at hlen;omega
 subst hkk
 have z26:=hx26.size;have z33:=hx33.size
 have hX33:Ext [] H9' H33:=(hx14.trans' hx26 (by simp)).trans' hx33 (by simp)
 have hX14_33:Ext [] H14 H33:=hx26.trans' hx33 (by simp)
 let G:Nat→Prop:=fun q=>H26.size≤q∧q<H33.size
 refine⟨_,_,_,rfl,fun a l c i K'=>∃j:Nat,i=j∧j≤kk∧Seq writeE K' G a l c (blksW (fmtP N s xs) j)∧Ext [] H33 K'∧(∀q∈blkOf a,H33.size≤q),fun _ _ _ i _=>(kk - i).toNat,⟨0,rfl,Nat.zero_le _,Seq.nil _ _ _,Ext.refl _ _,by simp[blkOf]⟩,?_⟩
 rintro a39 l40 c41 _ H43 ⟨j,rfl,hj,hms,hx43,hfa⟩
 have hnum:=hms.num
 rw[blksW_length]at hnum
 subst hnum
 have z43:=hx43.size
 refine⟨fun hlt=>?_,fun hge=>?_⟩
 ·have hj':j<kk:=by omega
  obtain⟨ai,hvi,hsr,hbi⟩:=hri j hj'
  have hro43:=hro.ext hx43 (by simp)
  rcases hro43.2.2.2 with⟨_,e⟩|⟨bb,tl,e,hbb',hbl'⟩
  ·have:=hro43.2.1;omega
  subst e
  have hcell43:hcell H43 bb (0+j)=some (.slice ai 128 128):=(hro43.row kk rc).2.2 j _ hvi
  refine⟨by omega,hlt,bb,0,rfl,ai,128,128,by rw[Int.toNat_natCast];exact hcell43,fun b49 H50 hn49=>?_⟩
  have hok:writeE.ok H43 [.int .i64 (j:Int),.slice ai 128 128] ((j:Int),fmtP N s xs j):=⟨ai,128,128,rfl,hsr.ext hx43 (by simp),fun q hq=>by have:=hbi q hq;omega⟩
  refine hms.push (w:=32) (e':=162) (z:=[.int .i64 0,.slice none 0 0]) (fun q hq hm=>by have:=hfa q hm;have:=hq.2;omega) hok (fun q hq=>?_) rfl (by omega) (R:=fun a53 c54 H55=>In64 ((j:Int)+1)∧(∃j':Nat,(j:Int)+1=j'∧j'≤kk∧Seq writeE H55 G a53 (j+1) c54 (blksW (fmtP N s xs) j')∧Ext [] H33 H55∧(∀q∈blkOf a53,H33.size≤q))∧((kk:Int) - ((j:Int)+1)).toNat<((kk:Int) - (j:Int)).toNat) ?_ b49 H50 hn49
  ·have hq:q∈blkOf ai:=hq
   exact hbi q hq
  ·intro a' c' H' g1 g2 g3
   have e:blksW (fmtP N s xs) (j+1)=blksW (fmtP N s xs) j++[((j:Int),fmtP N s xs j)]:=by simp[blksW,List.range_succ]
   refine⟨by unfold In64;omega,⟨j+1,rfl,by omega,by rw[e];exact g1,hx43.trans' g2 (fun i hi=>.inl (hfa i hi)),fun q hq=>?_⟩,by omega⟩
   rcases g3 q hq with h|h
   ·exact hfa q h
   ·omega
 ·have:j=kk:=by omega
  subst this
  refine(needs_ok _ H43 (by omega)).mono ?_
  rintro _ _ ⟨rfl,rfl⟩
  have hnb:=needs_bd
  have hxA:ExtP (fun q=>F q∨H.size≤q) H9 H43:=((hx4.mono (fun _ _ h=>.inl h)).trans' hx9 (fun q hq=>by
   rcases hq with hq|hq
   ·exact .inr (.inl hq)
   ·exact .inl hq.1)).trans' (hX33.trans' hx43 (by simp)).anyP (fun q hq=>hq)
  have hcap:j≤c41:=by obtain⟨vs',ho',_⟩:=hms;exact ho'.2.1
  have fin:∀st:Nat,1≤st→st≤100→(∀m,m≤st→m≤j→needsN (m:Int)≤z)→FmMid H0 H H9 F pd n z s (.tuple #[.pointer (some ⟨p6,0,none⟩),.pointer (some ⟨b12,0,none⟩),.slice a39 j c41,.int .i64 st]) H43:=fun st h1 h2 h3=>by
   unfold FmMid
   rw[←hN,hf,Int.toNat_natCast]
   refine⟨p6,b12,pj,a39,c41,st,J,D1,F1,H9'.size,xs,rfl,((hb6_14.ext hX14_33 (by simp)).ext hx43 (by simp)),((hb12.ext hX14_33 (by simp)).ext hx43 (by simp)),hF16,fun h=>by have:=hF1lt _ h;omega,hH,
    ((hJL.up (by omega) (by omega) (fun _ h=>h)).more hX33).more hx43,hfu hfuse,hF1lt,hf▸hxs,⟨G,hms,fun q hq=>⟨by have:=hq.1;have:=hx26.size;omega,by have:=hq.2;omega,fun hm=>by have:=hfa q hm;have:=hq.2;omega⟩,fun q hq=>by have:=hfa q hq;omega⟩,hcap,h1,h2,h3,by omega,fun q hq=>?_,hxA⟩
   rcases hq with (hq|hq)|hq
   ·exact .inl hq
   ·exact .inr (by omega)
   ·exact .inr (by omega)
  refine⟨_,rfl,fun hlt=>?_,fun hge2=>?_⟩
  ·have:=fin 1 (Nat.le_refl _) (by omega) (fun m hm _=>by rw[hnb];split<;>omega)
   exact this
  ·exact fin j (by omega) (by omega) (fun m hm _=>by rw[hnb];rw[hnb]at hge2;split<;>split at hge2<;>omega)
end Go.Proofs
end
