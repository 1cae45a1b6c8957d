/-
  What the law rests on, part 6. No condition.
-/
import Derived.Test.YtlfmjamcinnimaaGreatPe
import Derived.Test.YtlfmjamcinnimaaGreatPd
import Derived.Test.YtlfmjamcinnimaaGreatProg
import Derived.Test.YtlfmjamcinnimaaGreatPb
import Derived.SizedLaws
import Derived.ChangeArms
import Derived.Test.YtlfmjamcinnimaaGreatPc
import Derived.Laws.Cover2
set_option maxRecDepth 100000
section
open Go Go.Vc Go.Proofs.Bx
namespace Go.Proofs
theorem ag_of{N:Nat}{a:Act}(hs:a.tmps.size=N)(hd:a.defers=[])(l:List (Nat×Value))(h:∀x∈l,a.tmps.getD x.1 undef=x.2):Ag N (l.map fun x=>(x.1,.v x.2)) a:=by
 refine⟨hs,hd,fun t s ht=>?_⟩
 induction l with
 | nil=>cases ht
 | cons x r ih=>
  rw[List.map_cons,get_cons]at ht
  split at ht
  ·rename_i e
   subst e
   cases ht
   exact h x List.mem_cons_self
  ·exact ih (fun y hy=>h y (List.mem_cons_of_mem _ hy)) ht
def FmI(H0 Hs:Heap)(X:Nat→Prop)(pj pd n z f st N:Nat)(P:Nat→Octs)(k:Nat)(H:Heap):Prop:=
 k≤f∧N≤H.size∧∃(F:Nat→Prop) (J:Jn) (D:Dev),ExtP X Hs H∧(∀q,F q→X q)∧(∀q,F q→q<Hs.size∨N≤q)∧(∀q,F q→q<H.size) ∧
  JL H0 H F pj pd n z (10000+14100*k) J D (overT (fun _=>zeros) ((blksW P f).take (k*st))) (fun _=>True)∧D.fuse=-1
def FmtR(H0 H:Heap)(F:Nat→Prop)(pd n z:Nat)(s:Int)(v:Value)(H':Heap):Prop:=
 v=.int .i64 0∧∃(F':Nat→Prop) (D':Dev) (B:Nat) (xs:Octs),DvIn H0 H' F' pd D' n B∧B≤2000000∧D'.fuse=-1∧D'.dead=false∧BytesAre (emptyP ((n - 1 - z:Nat):Int) s (firstN ((n - 1 - z:Nat):Int) s)).bits xs ∧
  Sure n z B (laid D'.kept D'.pend) (fmtHm (n - 1 - z) s xs)∧ExtP (fun q=>F q∨H.size≤q) H H'∧(∀q,F' q→F q∨H.size≤q)
theorem chunkAt_pos{a:Option Addr}{L st k:Nat}(hst:1≤st)(h:k*st<L):chunkAt a L st 2 k=.slice (a.map (·.add (k*st*2))) (min st (L - k*st)) (min st (L - k*st)):=by
 have hne:¬min st (L - k*st)=0:=by omega
 simp only[chunkAt,if_neg hne]
set_option maxHeartbeats 4000000 in
theorem fmt_ok{H0 H:Heap}{F:Nat→Prop}{pd n z:Nat}{s:Int}(hd:DvIn H0 H F pd (newD n) n 0)(hz:4≤z∧z+4≤n)(hn:n≤4096)(hg:¬laidBad ((n - 1 - z:Nat):Int) s)(hr:firstN ((n - 1 - z:Nat):Int) s<((n - 1 - z:Nat):Int)) :
  Does Tryz.prog 40 [.pointer (some ⟨pd,0,none⟩),.int .i64 z,.int .i64 s] H (FmtR H0 H F pd n z s):=by
 intro w hw
 subst hw
 refine callsIn_wide.1 (callsIn_of_wp_marks (n:=0) Tryz.func40 rfl trivial (wpIn_wide.2 ?_))
 have ha0:Ag Tryz.f40.ntmps [(0,.v (.pointer (some ⟨pd,0,none⟩))),(1,.v (.int .i64 z)),(2,.v (.int .i64 s))]
   {tmps:=#[.pointer (some ⟨pd,0,none⟩),.int .i64 z,.int .i64 s]++Array.replicate (Tryz.f40.ntmps - 3) undef,defers:=[]}:=
  ⟨by simp[Tryz.ntmps40],rfl,start_agree [.pointer (some ⟨pd,0,none⟩),.int .i64 z,.int .i64 s] _⟩
 refine partH_gen (C:=fun v H'=>∃p6 p7:Nat,v=.tuple #[.pointer (some ⟨pd,0,none⟩),.int .i64 z,.pointer (some ⟨p6,0,none⟩),.pointer (some ⟨p7,0,none⟩),.bool true]∧DvIn H0 H' F pd (newD n) n 0∧Blk H' p6 [.int .i64 0]∧¬F p6∧w.heap.size≤p6 ∧
   Blk H' p7 [.int .i64 ((n - 1 - z:Nat):Int),.int .i64 s,.int .i64 (bitsN ((n - 1 - z:Nat):Int)),.int .i64 (firstN ((n - 1 - z:Nat):Int) s)]∧¬F p7∧Ext [] w.heap H') (R:=FmtR H0 w.heap F pd n z s)
  Tryz.mixed (FoA (some ⟨pd,0,none⟩) z s w.heap _ _) ?_ Tryz.func40 rfl rfl (Sim.refl w) ha0 rfl ?_ ?_
 ·have hlt:=hd.dev.lt
  intro b1 H2 hn1
  refine⟨fun h=>(by cases h),fun _ b5 H6 hn5=>⟨hn5.blk.cells _ _ (by simp),fun H7 hp5=>?_⟩⟩
  have e1:=hn1.eq;have e5:=hn5.eq
  have z2:=hn1.size;have z6:=hn5.size
  have hb1:=hn1.blk.ext hn5.ext (by simp)
  have hb5:Blk H7 b5 [.int .i64 0,.int .i64 0,.int .i64 0,.int .i64 0]:=hp5.blk hn5.blk (by simp)
  have hx7:=hp5.ext
  have hb1':=hb1.ext hx7 (by simp;omega)
  have hx:Ext [] w.heap H7:=(hn1.ext.trans' hn5.ext (by simp)).trans' hx7 (fun i hi=>.inl (by simp only[List.mem_singleton]at hi;omega))
  have hd7:=hd.more hx
  have hlen:((newD n).kept.length:Int)=n:=by simp[newD]
  refine⟨fun _=>(dblocks_ok hd7.dev).mono ?_,fun h=>absurd (by omega) h⟩
  rintro _ _ ⟨rfl,rfl⟩
  rw[hlen]
  refine⟨_,rfl,fun _=>(dblocks_ok hd7.dev).mono ?_,fun h=>absurd (by omega) h⟩
  rintro _ _ ⟨rfl,rfl⟩
  rw[hlen]
  have eN:((n:Int) - 1) - z=((n - 1 - z:Nat):Int):=by omega
  refine⟨_,rfl,by unfold In64;omega,by unfold In64;omega,?_⟩
  rw[eN]
  refine(laidOut_ok _ s H7 (by omega)).mono ?_
  rintro v H15 ⟨hx15,(⟨hb,_⟩|⟨_,rfl⟩)⟩
  ·exact absurd hb hg
  rw[show decP (firstN ((n - 1 - z:Nat):Int) s<((n - 1 - z:Nat):Int))=true from(decP_true hr).symm]
  have hb5':=hb5.ext hx15 (by simp)
  refine⟨_,_,_,_,_,rfl,hb5'.cells _ _ (by simp),fun H21 hp21=>?_⟩
  have hx21:=hp21.ext
  have z15:=hx15.size
  have z7:=hx7.size
  have hx':Ext [] w.heap H21:=(hx.trans' hx15 (by simp)).trans' hx21 (fun i hi=>.inl (by simp only[List.mem_singleton]at hi;omega))
  exact⟨b1,b5,rfl,hd.more hx',(hb1'.ext hx15 (by simp)).ext hx21 (by simp;omega),fun h=>by have:=hlt _ h;omega,by omega,hp21.blk hb5' (by simp),fun h=>by have:=hlt _ h;omega,hx'⟩
 ·intro a' w' v hs hdf hres hR
  show LeavesInM _ _ _ _ _ _ a'.defers _ _
  rw[hdf]
  exact⟨v,hres,v,rfl,hs,hR⟩
 intro vs a1 w1 hl hs1 ha1 ⟨p6,p7,hv,hd1,hb6,h6,hH,hb7,h7,hx1⟩
 have:=tupV_many (l:=[.pointer (some ⟨pd,0,none⟩),.int .i64 z,.pointer (some ⟨p6,0,none⟩),.pointer (some ⟨p7,0,none⟩),.bool true]) (by rw[hl];decide) hv
 subst this
 refine partH_gen (i:=4) (n:=7) (R:=FmtR H0 w.heap F pd n z s) Tryz.mixed rfl (fmt_head (R:=FmtR H0 w.heap F pd n z s) (H:=w.heap) hd1 hz hn hg hr hb6 h6 hH hb7 h7) Tryz.func40 rfl rfl hs1 (ha1.pick (by
  intro x hx;simp only[List.mem_cons,List.mem_nil_iff,or_false]at hx;rcases hx with rfl|rfl|rfl|rfl|rfl<;>rfl)) rfl ?_ ?_
 ·intro a' w' v hs hdf hres hR
  show LeavesInM _ _ _ _ _ _ a'.defers _ _
  rw[hdf]
  exact⟨v,hres,v,rfl,hs,hR⟩
 clear hl hv
 intro vs a2 w2 hl hs2 ha2 hmid
 obtain⟨q6,b12,pj,a,c,st,J,D1,F1,n0,xs,hv,hb6',hb12,hF6,hF12,hq6,hJL,hfu,hFn,hxs,hms,hcap,hst,hst2,hnd,hn0,hFF,hxA⟩:=hmid
 have:=tupV_many (l:=[.pointer (some ⟨q6,0,none⟩),.pointer (some ⟨b12,0,none⟩),.slice a (firstN ((n - 1 - z:Nat):Int) s).toNat c,.int .i64 st]) (by rw[hl];decide) hv
 subst this
 obtain⟨N,hN⟩:∃N,N=n - 1 - z:=⟨_,rfl⟩
 rw[←hN]at hg hr
 have hbb:=bitsN_bd (N:=N) (by omega)
 have hfd:firstN (N:Int) s=1+bitsN N+(s+3) / 4:=rfl
 have h0g:¬(s<1∨256<s∨(N:Int)<1):=hg
 obtain⟨f,hf⟩:∃f:Nat,firstN (N:Int) s=f:=⟨(firstN (N:Int) s).toNat,by omega⟩
 rw[←hN,hf,Int.toNat_natCast]at hms hnd hcap ha2
 rw[←hN]at hxs
 have haB:Ag Tryz.f40.ntmps [(6,.v (.pointer (some ⟨q6,0,none⟩))),(10,.v (.pointer (some ⟨b12,0,none⟩))),(12,.v (.slice a f c)),(15,.v (.int .i64 st))] a2:=ha2
 apply wp_seq
 refine wp_seq (wp_mono (part_wp Tryz.mixed (Fo23 a f c st w2.heap fun v H'=>v=.func (.func 184) #[] #[.pointer (some ⟨w2.heap.size,0,none⟩),.pointer (some ⟨w2.heap.size+1,0,none⟩)]∧Blk H' w2.heap.size [.slice a f c]∧Blk H' (w2.heap.size+1) [.int .i64 st]∧Ext [] w2.heap H'∧H'.size=w2.heap.size+2)
  ((chunkW_ok a f c st w2.heap (by omega)).mono (fun v H' h=>⟨184,#[],_,h.1,rfl,h.2⟩)) Tryz.func40 rfl rfl haB (haB.pick (by
   intro x hx;simp only[List.mem_cons,List.mem_nil_iff,or_false]at hx;rcases hx with rfl|rfl<;>rfl)) rfl) ?_)
 rintro e a3 w3 ⟨rfl,hs3,vs,hl3,⟨hv3,hr1,hr2,hx3,z3⟩,ha3⟩
 rw[one_of hl3,hv3]at ha3
 have haC:Ag Tryz.f40.ntmps [(81,.v (.func (.func 184) #[] #[.pointer (some ⟨w2.heap.size,0,none⟩),.pointer (some ⟨w2.heap.size+1,0,none⟩)])),(6,.v (.pointer (some ⟨q6,0,none⟩))),(10,.v (.pointer (some ⟨b12,0,none⟩)))] a3:=ha3.pick (by
  intro x hx;simp only[List.mem_cons,List.mem_nil_iff,or_false]at hx;rcases hx with rfl|rfl|rfl<;>rfl)
 let X:Nat→Prop:=fun q=>F1 q∨w3.heap.size≤q
 have hJL3:=hJL.more hx3
 have hms3:=hms.ext hx3
 have hb6_3:=hb6'.ext hx3 (by simp)
 have hb12_3:=hb12.ext hx3 (by simp)
 have l6:=hb6'.lt;have l12:=hb12.lt
 have hF2:∀q,F1 q→q<w2.heap.size:=fun q hq=>by have:=hFn q hq;omega
 have hX6:¬X q6:=fun h=>h.elim hF6 (by omega)
 have hX12:¬X b12:=fun h=>h.elim hF12 (by omega)
 have hXr1:¬X w2.heap.size:=fun h=>h.elim (fun h=>by have:=hF2 _ h;omega) (by omega)
 have hXr2:¬X (w2.heap.size+1):=fun h=>h.elim (fun h=>by have:=hF2 _ h;omega) (by omega)
 have hkept:∀K,ExtP X w3.heap K→SeqV writeE K a (blksW (fmtP N s xs) f):=fun K hK=>(hms3.extP hK (fun k hk h0 hx=>hx.elim (fun h=>by have:=hFn k h;omega) (by omega))).view
 have hH0:H0.size≤w3.heap.size:=hJL3.jin.ext.size
 have hPl:∀k,k<f→(fmtP N s xs k).length=128:=by
  intro k hk
  unfold fmtP
  have hbl:(emptyP (N:Int) s (firstN (N:Int) s)).bits.length=N:=by simp only[emptyP];rw[setAll_length,List.length_replicate,Int.toNat_natCast]
  rw[List.length_take,List.length_drop,fixE_length (by omega) (by have:=hxs.len;rw[hbl]at this;exact this),hf,Int.toNat_natCast]
  have:(k+1)*128≤f*128:=Nat.mul_le_mul_right _ hk
  omega
 apply wp_block
 refine range_heap (gf:=184) (lb:=[.pointer (some ⟨w2.heap.size,0,none⟩),.pointer (some ⟨w2.heap.size+1,0,none⟩)]) (haC.agree 81 _ rfl) enters184 (chunk184_seq w2.heap.size (w2.heap.size+1) a f c st hst (by omega) (by omega) hcap) (fun k=>rfl)
  (FmI H0 w3.heap X pj pd n z f st (w3.heap.size+2) (fmtP N s xs)) (fun _=>False) ?_ ?_ ?_ (fun H rec h=>h.elim)
  (fun k a'=>Ag Tryz.f40.ntmps [(10,.v (.pointer (some ⟨b12,0,none⟩))),(16,.v (chunkAt a f st 2 k))] a') ?_ ?_ ?_ (fun W h=>h.elim)
 ·rintro k K ⟨_,_,Fk,Jk,Dk,hxk,_⟩
  have h1:=hr1.extP hxk hXr1
  have h2:=hr2.extP hxk hXr2
  exact⟨by rw[h1.cell];rfl,by rw[h2.cell];rfl⟩
 ·intro rec
  have hx4:Ext [] w3.heap ((w3.heap.push (.deferred (some []))).push (.loop rec)):=⟨by simp;omega,fun k hk _=>by rw[Array.getElem?_push,if_neg (by simp;omega),Array.getElem?_push,if_neg (by omega)]⟩
  refine⟨Nat.zero_le _,by simp,F1,J,D1,hx4.anyP,fun q h=>.inl h,fun q h=>.inl (by have:=hF2 q h;omega),fun q h=>by have:=hF2 q h;have:=hx4.size;omega,?_,hfu⟩
  have e0:overT (fun _=>zeros) ((blksW (fmtP N s xs) f).take (0*st))=fun _=>zeros:=by
   rw[Nat.zero_mul,List.take_zero];funext k;simp[overT,tAll,tGet]
  rw[e0]
  exact(hJL3.more hx4).up (by omega) (by omega) (fun _ h=>h)
 ·rintro k K rec ⟨hkl,hsz,Fk,Jk,Dk,hxk,hF,hFl,hFs,hj,hfk⟩
  have hne:¬Fk (w3.heap.size+1):=fun h=>by have:=hFl _ h;omega
  refine⟨hkl,by simpa using hsz,Fk,Jk,Dk,hxk.trans' (ext_set K (w3.heap.size+1) (.loop rec)).toP (fun i hi=>by simp only[List.mem_singleton]at hi;exact .inl (by omega)),hF,hFl,fun q hq=>by have:=hFs q hq;simpa using this,?_,hfk⟩
  exact hj.off (ext_set K (w3.heap.size+1) (.loop rec)) (fun k hk=>by simp only[List.mem_singleton]at hk;subst hk;exact⟨by omega,hne⟩)
 ·intro l k W
  obtain⟨ya,yl,yc,he⟩:∃ya yl yc,chunkAt a f st 2 k=.slice ya yl yc:=⟨_,_,_,rfl⟩
  have hact:Ag Tryz.f40.ntmps [(82,.v (.slice ya yl yc)),(10,.v (.pointer (some ⟨b12,0,none⟩)))] {tmps:=(#[82].zip [chunkAt a f st 2 k].toArray).foldl (fun t (p,v)=>t.setIfInBounds p v) a3.tmps,defers:=[]}:=by
   have hsz:a3.tmps.size=91:=haC.size
   refine ag_of (by simp[hsz,Tryz.ntmps40]) rfl [(82,.slice ya yl yc),(10,.pointer (some ⟨b12,0,none⟩))] ?_
   intro x hx
   simp only[List.mem_cons,List.mem_nil_iff,or_false]at hx
   rcases hx with rfl|rfl
   ·simp[hsz,he]
   ·have:(a3.tmps.setIfInBounds 82 (chunkAt a f st 2 k)).getD 10 undef=a3.tmps.getD 10 undef:=by
     simp only[Array.getD_eq_getD_getElem?]
     rw[Array.getElem?_setIfInBounds_ne (by omega)]
    have h2:=haC.agree 10 (.v (.pointer (some ⟨b12,0,none⟩))) rfl
    simpa[this,SV.toV]using h2
  refine wpIn_mono (part_in Tryz.mixed (Fo24 ya yl yc W.heap fun v H'=>v=.slice ya yl yc∧H'=W.heap) ⟨rfl,rfl⟩ Tryz.func40 rfl rfl rfl hact (hact.pick (by
   intro x hx;simp only[List.mem_cons,List.mem_nil_iff,or_false]at hx;rcases hx with rfl;rfl)) rfl) ?_
  rintro e a' W' ⟨rfl,hs,vs,hl,⟨hv,hh⟩,ha'⟩
  rw[one_of hl,hv]at ha'
  rw[he]
  exact⟨rfl,hs,hh,ha'.pick (by intro x hx;simp only[List.mem_cons,List.mem_nil_iff,or_false]at hx;rcases hx with rfl|rfl<;>rfl)⟩
 ·rintro k a' W rec hA ⟨hkl,hsz,Fk,Jk,Dk,hxk,hF,hFl,hFs,hj,hfk⟩ hfin hD hL
  have hlt:k*st<f:=by
   have hfin:¬f≤k*st:=hfin
   omega
  have hkf:k<f:=by
   have:k*1≤k*st:=Nat.mul_le_mul_left k hst
   omega
  rw[chunkAt_pos hst hlt]at hA
  have hb12_k:=hb12_3.extP hxk hX12
  obtain⟨m,hm⟩:∃m,min st (f - k*st)=m:=⟨_,rfl⟩
  rw[hm]at hA
  have hll:(((blksW (fmtP N s xs) f).drop (k*st)).take st).length=m:=by rw[List.length_take,List.length_drop,blksW_length];omega
  have hte:((blksW (fmtP N s xs) f).drop (k*st)).take st=((blksW (fmtP N s xs) f).drop (k*st)).take m:=by
   apply List.ext_getElem?
   intro i
   rw[List.getElem?_take,List.getElem?_take]
   by_cases h1:i<m
   ·rw[if_pos h1,if_pos (by omega)]
   ·rw[if_neg h1]
    split
    ·rw[List.getElem?_drop,List.getElem?_eq_none (by rw[blksW_length];omega)]
    ·rfl
  have hK:KeptW Fk W.heap (a.map (·.add (k*st*2))) (((blksW (fmtP N s xs) f).drop (k*st)).take m):=fun K hK=>by
   have:=hkept K (hxk.trans' hK (fun i hi=>.inr (hF i hi)))
   exact this.sub (o:=k*st) (n:=m) (by rw[blksW_length];omega)
  have hmay:MayP (((blksW (fmtP N s xs) f).drop (k*st)).take m) (n - 1 - z:Int):=by
   have:=blks_may (N:=N) hPl (by omega) (o:=k*st) (n:=m) (by omega) (by omega)
   have e:(N:Int)=n - 1 - z:=by omega
   rw[←e];exact this
  apply wpIn_block
  refine wpIn_seq (wpIn_mono (part_in Tryz.mixed (Fo25 b12 _ _ _ W.heap fun v H'=>v=.int .i64 0∧FmI H0 w3.heap X pj pd n z f st (w3.heap.size+2) (fmtP N s xs) (k+1) H'∧H'[w3.heap.size]?=some (.deferred (some []))∧H'[w3.heap.size+1]?=some (.loop rec)) ⟨some ⟨pj,0,none⟩,by rw[hb12_k.cell];rfl,?_⟩ Tryz.func40 rfl rfl rfl hA hA rfl) ?_)
  ·have hcm:=hj.commit (S':=fun _=>True) (by omega) (fun _ h=>h) trivial hK (by rw[←hte,hll];omega) (c:=m)
   rw[←hte]at hcm
   rw[hll]at hcm
   refine hcm.mono ?_
   rw[←hte]at hmay
   rintro v H' ⟨hx',e,J',D',rfl,_,(⟨g1,_⟩|⟨_,g2,_⟩|⟨_,_,rfl,g4,g5⟩|⟨_,_,_,_,g5⟩)⟩
   ·exact absurd hmay g1
   ·have:=hnd m (by omega) (by omega)
    omega
   ·have hsz':=hx'.size
    refine⟨0,rfl,rfl,⟨by omega,by omega,grow Fk W.heap H',J',D',hxk.trans' hx' (fun i hi=>.inr (hF i hi)),fun q hq=>?_,fun q hq=>?_,g4.lt,?_,g5 hfk⟩,?_,?_⟩
    ·rcases hq with hq|hq
     ·exact hF q hq
     ·exact .inr (by omega)
    ·rcases hq with hq|hq
     ·exact hFl q hq
     ·exact .inr (by omega)
    ·have e1:overT (overT (fun _=>zeros) ((blksW (fmtP N s xs) f).take (k*st))) (((blksW (fmtP N s xs) f).drop (k*st)).take st)=overT (fun _=>zeros) ((blksW (fmtP N s xs) f).take ((k+1)*st)):=by
      rw[←over_app,←List.take_add,Nat.succ_mul]
     rw[e1]at g4
     exact g4.up (by omega) (by omega) (fun _ h=>h)
    ·rw[hx'.keep _ (by omega) (fun h=>by have:=hFl _ h;omega)];exact hD
    ·rw[hx'.keep _ (by omega) (fun h=>by have:=hFl _ h;omega)];exact hL
   ·exact absurd hfk g5
  ·rintro e a2' W2 ⟨rfl,hsW,vs,hlW,⟨hvW,hI2,hD2,hL2⟩,haW⟩
   rw[one_of hlW,hvW]at haW
   have haW':Ag Tryz.f40.ntmps [(17,.v (.int .i64 0))] a2':=haW.pick (by
    intro x hx;simp only[List.mem_cons,List.mem_nil_iff,or_false]at hx;rcases hx with rfl;rfl)
   show Code.wpIn _ _ _ _ _ _ _
   refine wpIn_seq (wpIn_mono (part_in Tryz.mixed (Fo26 0 W2.heap fun v H'=>v=.bool false∧H'=W2.heap) ⟨by simp,rfl⟩ Tryz.func40 rfl rfl rfl haW' haW' rfl) ?_)
   rintro e a3' W3 ⟨rfl,hs3',vs,hl3',⟨hv3',hh3⟩,ha3'⟩
   rw[one_of hl3',hv3']at ha3'
   show Code.wpIn _ _ _ _ _ _ _
   refine wpIn_cond (t:=false) (ha3'.agree 87 (.v (.bool false)) rfl) ?_
   simp only[Bool.false_eq_true,if_false]
   refine wpIn_skip ?_
   exact⟨hsW.trans hs3',by rw[hh3];exact hD2,by rw[hh3];exact hL2,.inl ⟨rfl,by rw[hh3];exact hI2⟩⟩
 ·rintro k W hfin ⟨hkl,hsz,Fk,Jk,Dk,hxk,hF,hFl,hFs,hj,hfk⟩ hD hsim
  have hge:f≤k*st:=hfin
  have hcur:overT (fun _=>zeros) ((blksW (fmtP N s xs) f).take (k*st))=fmtHm N s xs:=by
   rw[List.take_of_length_le (by rw[blksW_length];exact hge),over_blks]
   funext i
   unfold fmtHm
   rw[hf,Int.toNat_natCast]
  rw[hcur]at hj
  show Code.wp _ _ _ _ _
  have haT:Ag Tryz.f40.ntmps [(10,.v (.pointer (some ⟨b12,0,none⟩))),(6,.v (.pointer (some ⟨q6,0,none⟩)))] {tmps:=a3.tmps,defers:=[]}:=by
   have:=haC.pick (S':=[(10,.v (.pointer (some ⟨b12,0,none⟩))),(6,.v (.pointer (some ⟨q6,0,none⟩)))]) (by intro x hx;simp only[List.mem_cons,List.mem_nil_iff,or_false]at hx;rcases hx with rfl|rfl<;>rfl)
   exact⟨this.size,rfl,this.agree⟩
  have hb12_k:=hb12_3.extP hxk hX12
  have hb6_k:=hb6_3.extP hxk hX6
  have hwH:H0.size≤w.heap.size:=hd.ext.size
  have zW:=hxk.size
  have z1:=hx1.size
  have z2:=hxA.size
  have hXw:∀q,X q→F q∨w.heap.size≤q:=fun q hq=>by
   rcases hq with hq|hq
   ·exact hFF q hq
   ·exact .inr (by omega)
  have hxW:ExtP (fun q=>F q∨w.heap.size≤q) w.heap W.heap:=((hx1.anyP.trans hxA).trans hx3.anyP).trans' hxk (fun q hq=>.inr (hXw q hq))
  refine wp_seq (wp_mono (part_with (Fo28 b12 q6 W.heap fun v H'=>∃(F':Nat→Prop) (J':Jn) (D':Dev),JL H0 H' F' pj pd n z (10000+14100*k+14100) J' D' (fmtHm N s xs) (fun _=>True)∧D'.fuse=-1∧Blk H' q6 [.int .i64 0]∧H'[w3.heap.size]?=some (.deferred (some [])) ∧
   ExtP (fun q=>F q∨w.heap.size≤q) w.heap H'∧(∀q,F' q→X q)∧¬F' w3.heap.size) ⟨some ⟨pj,0,none⟩,by rw[hb12_k.cell];rfl,?_⟩ Tryz.func40 rfl rfl haT haT rfl) ?_)
  ·refine(hj.sync (S':=fun _=>True) (by omega) trivial).mono ?_
   rintro v H3 ⟨hx',J',D',(⟨rfl,g1,g2⟩|⟨_,_,_,g2⟩)⟩
   ·have z3':=hx'.size
    have hb6_4:=hb6_k.extP hx' (fun h=>hX6 (hF _ h))
    refine⟨0,rfl,hb6_4.cells _ _ (by simp),fun H5 hp=>?_⟩
    have hx5:=hp.ext
    have hng6:¬grow Fk W.heap H3 q6:=fun h=>h.elim (fun h=>hX6 (hF _ h)) (fun h=>by omega)
    have hngd:¬grow Fk W.heap H3 w3.heap.size:=fun h=>h.elim (fun h=>by have:=hFl _ h;omega) (fun h=>by omega)
    refine⟨grow Fk W.heap H3,J',D',g1.off hx5 (fun q hq=>by simp only[List.mem_singleton]at hq;subst hq;exact⟨by omega,hng6⟩),g2 hfk,hp.blk hb6_4 (by simp),?_,?_,?_,hngd⟩
    ·rw[hx5.keep _ (by omega) (by simp only[List.mem_singleton];omega),hx'.keep _ (by omega) (fun h=>by have:=hFl _ h;omega)]
     exact hD
    ·exact(hxW.trans' hx' (fun q hq=>.inr (hXw q (hF q hq)))).trans' hx5.toP (fun q hq=>by simp only[List.mem_singleton]at hq;exact .inr (.inr (by omega)))
    ·rintro q (hq|hq)
     ·exact hF q hq
     ·exact .inr (by omega)
   ·exact absurd hfk g2
  ·rintro e a5 w5 ⟨⟨rfl,hs5,vs,hl5,⟨F',J',D',g1,g2,g3,g4,g5,g6,g7⟩,ha5⟩,hd5⟩
   refine wp_ret ?_
   show LeavesInM _ _ _ _ _ _ a5.defers _ _
   rw[hd5]
   refine⟨by simp,.inl ⟨w3.heap.size,_,rfl,run_takeDeferred g4,?_⟩⟩
   show LeavesInM _ _ _ _ _ _ a3.defers _ _
   rw[haC.defers]
   have hx6:=ext_set w5.heap w3.heap.size (.deferred none)
   have hb6_5:Blk (w5.heap.setIfInBounds w3.heap.size (.deferred none)) q6 [.int .i64 0]:=g3.ext hx6 (by simp only[List.mem_singleton];omega)
   have hsW:Sim w w5:=((hs2.trans hs3).trans hsim).trans hs5
   refine⟨.int .i64 0,results40 (a:=a5) (p6:=q6) ?_ ?_,.int .i64 0,rfl,⟨hsW.os,hsW.tape,hsW.output⟩,?_⟩
   ·intro t s' ht
    rw[get_cons]at ht
    split at ht
    ·rename_i e;subst e;cases ht
     exact ha5.agree 6 (.v (.pointer (some ⟨q6,0,none⟩))) rfl
    ·cases ht
   ·show hcell (w5.heap.setIfInBounds w3.heap.size (.deferred none)) q6 0=_
    rw[hb6_5.cell];rfl
   ·have g1':=g1.off hx6 (fun q hq=>by simp only[List.mem_singleton]at hq;subst hq;exact⟨by omega,g7⟩)
    obtain⟨e,sq,T,ff,base,hlv,hcb,_⟩:=g1'.live
    refine⟨rfl,F',D',10000+14100*k+14100,xs,g1'.jin.dv,by omega,g2,hlv.dead,hN▸hxs,?_,?_,fun q hq=>hXw q (g6 q hq)⟩
    ·rw[←hN,hcb]
     exact⟨e,sq,T,hlv.sure.1⟩
    ·exact g5.trans' hx6.toP (fun q hq=>by simp only[List.mem_singleton]at hq;exact .inr (.inr (by omega)))
end Go.Proofs
end
section
open Go Go.Vc Go.Proofs.Bx
namespace Go.Proofs
theorem toU_append(a b:List Int):toU (a++b)=toU a++toU b:=by simp[toU]
theorem toU_flat{α:Type}(g:α→List Int)(l:List α):toU ((l.map g).flatten)=(l.map fun x=>toU (g x)).flatten:=by
 induction l with
 | nil=>rfl
 | cons x r ih=>rw[List.map_cons,List.flatten_cons,toU_append,ih];rfl
theorem be_one{v:Int}(h0:0≤v)(h1:v<256):be (beL 1 v)=v:=by simp[be,beL];omega
theorem numB_app{n:Nat}{v:Int}{ys:Octs}(h:be (beL n v)=v):numU (toU (beL n v)++ys,false) n=v:=by
 unfold numU
 rw[show toU (beL n v)=beU n v from rfl,rdU_app (beU_len n _),toI_beU,h]
theorem rdB_app{n:Nat}{v:Int}{ys:Octs}:rdN (toU (beL n v)++ys,false) n=(ys,false):=by
 unfold rdN
 rw[show toU (beL n v)=beU n v from rfl,rdU_app (beU_len n _)]
def SlSmall(s:PSl):Prop:=s.ps.length≤6∧0≤s.size∧s.size<4294967296∧0≤s.refs∧s.refs<65536∧∀p∈s.ps,0≤p.s∧p.s<65536∧0≤p.c∧p.c<65536
theorem SlSmall.ok{s:PSl}(h:SlSmall s):SlotOk s:=by
 obtain⟨h1,h2,h3,h4,h5,h6⟩:=h
 exact⟨h1,h2,by omega,h4,by omega,fun p hp=>by have:=h6 p hp;omega⟩
theorem pc_read:∀(l:List Pc)(r:Octs),(∀p∈l,0≤p.s∧p.s<65536∧0≤p.c∧p.c<65536)→∀k,k≤l.length→pcSt (((l.map fun p=>toU (pcO p)).flatten)++r,false) k=((((l.drop k).map fun p=>toU (pcO p)).flatten)++r,false)
 | l,r,h,0,_=>rfl
 | l,r,h,k+1,hk=>by
  have hk':k<l.length:=by omega
  rw[pcSt,pc_read l r h k (by omega),List.drop_eq_getElem_cons hk',List.map_cons,List.flatten_cons]
  unfold pcO
  rw[toU_append,List.append_assoc,List.append_assoc,rdB_app,rdB_app]
theorem pcs_read{l:List Pc}{r:Octs}(h:∀p∈l,0≤p.s∧p.s<65536∧0≤p.c∧p.c<65536):pcsTo (((l.map fun p=>toU (pcO p)).flatten)++r,false) l.length=l:=by
 apply List.ext_getElem
 ·simp[pcsTo]
 ·intro i h1 h2
  have hp:=h _ (List.getElem_mem h2)
  simp only[pcsTo,List.getElem_map,List.getElem_range]
  unfold pcAt
  rw[pc_read l r h i (by omega),List.drop_eq_getElem_cons h2,List.map_cons,List.flatten_cons]
  have e:toU (pcO l[i])=toU (beL 2 l[i].s)++toU (beL 2 l[i].c):=by unfold pcO;rw[toU_append]
  rw[e,List.append_assoc,List.append_assoc,numB_app (be_two (by omega) (by omega)),rdB_app,numB_app (be_two (by omega) (by omega))]
theorem slotO_eq(s:PSl):∃z,slotO s=toU (beL 4 s.size)++(toU (beL 2 s.refs)++(toU (beL 1 s.ps.length)++(toU (beL 1 0)++((s.ps.map fun p=>toU (pcO p)).flatten++z)))):=by
 refine⟨toU (List.replicate (32 - (layI s.size s.refs s.ps).length) 0),?_⟩
 unfold slotO slotI
 have e:toU (layI s.size s.refs s.ps)=toU (beL 4 s.size)++(toU (beL 2 s.refs)++(toU (beL 1 s.ps.length)++(toU (beL 1 0)++(s.ps.map fun p=>toU (pcO p)).flatten))):=by
  simp only[layI,toU_append,toU_flat,List.append_assoc]
 rw[toU_append,e]
 simp only[List.append_assoc]
theorem parse_slot{s:PSl}(h:SlSmall s):parseSl (slotO s)=s:=by
 obtain⟨h1,h2,h3,h4,h5,h6⟩:=h
 obtain⟨z,e⟩:=slotO_eq s
 unfold parseSl
 rw[e,numB_app (be_four h2 h3),rdB_app,numB_app (be_two h4 h5),rdB_app,numB_app (be_one (by omega) (by omega)),rdB_app,rdB_app]
 have e6:min (((s.ps.length:Nat):Int)).toNat 6=s.ps.length:=by omega
 rw[e6,pcs_read h6]
theorem chunk_flat{m:Nat}:∀{l:List Octs}{r:Octs}{j:Nat}{x:Octs},(∀y∈l,y.length=m)→l[j]?=some x→((l.flatten++r).drop (j*m)).take m=x
 | [],r,j,x,_,hx=>by simp at hx
 | y::l,r,0,x,h,hx=>by
  simp only[List.getElem?_cons_zero,Option.some.injEq]at hx
  subst hx
  rw[Nat.zero_mul,List.drop_zero,List.flatten_cons,List.append_assoc,List.take_left' (h y (by simp))]
 | y::l,r,j+1,x,h,hx=>by
  have hy:=h y (by simp)
  rw[List.flatten_cons,List.append_assoc,Nat.succ_mul,Nat.add_comm,←List.drop_drop,List.drop_left' hy]
  exact chunk_flat (l:=l) (fun z hz=>h z (by simp[hz])) (by simpa using hx)
theorem fix_length{N:Nat}{s:Int}{xs:Octs}{sl:List PSl}(hs:0≤s)(hx:xs.length=(N+7) / 8)(hl:sl.length=s.toNat)(hok:∀y∈sl,SlotOk y):(fixO s xs sl).length=(firstN N s).toNat*128∧(padO (beU 2 (w64 s))++padO xs).length=((1+bitsN N)*128).toNat:=by
 have h2:=padO_length (beU 2 (w64 s))
 have h3:=padO_length xs
 have h4:=padO_length ((sl.map slotO).flatten)
 have h5:=slotOs_length (l:=sl) hok
 have h7:(beU 2 (w64 s)).length=2:=beU_len _ _
 unfold fixO
 rw[List.length_append,List.length_append,h2,h3,h4,h5,hl,h7,hx]
 unfold firstN bitsN
 rw[Int.toNat_natCast]
 omega
theorem load_of{N:Nat}{s:Int}{st:PSt}{cur:Nat→Octs}{xs:Octs}(hg:¬laidBad N s)(hr:firstN N s<N)(hN:N≤4096)(hb:BytesAre st.bits xs)(hl:st.bits.length=N)(hsl:st.slots.length=s.toNat)
  (hcur:∀k:Nat,(k:Int)<firstN N s→cur k=((fixO s xs st.slots).drop (k*128)).take 128)
  (hok:∀y∈st.slots,SlSmall y∧((y.refs=0∧y.size=0∧y.ps=[])∨(y.refs≠0∧RightP y.ps (firstN N s) N∧countF y.ps=blocksF y.size)))
  (hone:(allBlk st.slots).Nodup) (hbits:st.bits=setAll (firstB N (firstN N s)) (allBlk st.slots) true)
  (hdata:st.data=fun k=>if firstN N s≤k∧k<N∧onB st.bits k.toNat=true then some (cur k.toNat)else none):headN cur=s∧LoadOk N cur st:=by
 have h0:¬(s<1∨256<s∨(N:Int)<1):=hg
 have hbb:=bitsN_bd (N:=N) (by omega)
 have hfd:firstN (N:Int) s=1+bitsN N+(s+3) / 4:=rfl
 have hxl:xs.length=(N+7) / 8:=by rw[hb.len,hl]
 obtain⟨hfl,hpl⟩:=fix_length (N:=N) (s:=s) (xs:=xs) (sl:=st.slots) (by omega) hxl hsl (fun y hy=>(hok y hy).1.ok)
 have hcat:catP cur (firstN N s).toNat=fixO s xs st.slots:=by
  unfold catP
  have e:(List.range (firstN N s).toNat).map cur=(List.range (firstN N s).toNat).map (fun k=>((fixO s xs st.slots).drop (k*128)).take 128):=by
   apply List.map_congr_left
   intro k hk
   have:=List.mem_range.1 hk
   exact hcur k (by omega)
  rw[e,pieces_all 128 _ _ hfl]
 have hhead:headN cur=s:=by
  unfold headN
  rw[hcur 0 (by omega),Nat.zero_mul,List.drop_zero]
  unfold fixO
  conv=>lhs;unfold padO
  rw[List.append_assoc,List.append_assoc,List.take_append,List.take_of_length_le (by rw[beU_len];omega)]
  exact numU2_app (by omega) (by omega)
 have hpiece:∀(j:Nat) (y:PSl),st.slots[j]?=some y→pieceO N cur j=slotO y:=by
  intro j y hy
  unfold pieceO
  rw[hhead,hcat]
  have e:fixO s xs st.slots=(padO (beU 2 (w64 s))++padO xs)++(((st.slots.map slotO).flatten)++List.replicate ((blocksF ((st.slots.map slotO).flatten).length).toNat*128 - ((st.slots.map slotO).flatten).length) 0):=rfl
  rw[e,←hpl,←List.drop_drop,List.drop_left]
  refine chunk_flat (fun z hz=>?_) (by rw[List.getElem?_map,hy];rfl)
  obtain⟨y',hy',rfl⟩:=List.mem_map.1 hz
  exact slotO_length (hok y' hy').1.ok
 have hsls:st.slots=slotsL N cur s.toNat:=by
  apply List.ext_getElem?
  intro j
  by_cases hj:j<s.toNat
  ·have hy:=List.getElem?_eq_getElem (l:=st.slots) (i:=j) (by omega)
   rw[hy]
   have e:(slotsL N cur s.toNat)[j]?=some (parseSl (pieceO N cur j)):=by simp[slotsL,hj]
   rw[e,hpiece j _ hy,parse_slot (hok _ (List.getElem_mem (by omega))).1]
  ·rw[List.getElem?_eq_none (by omega),List.getElem?_eq_none (by rw[slotsL_length];omega)]
 refine⟨hhead,⟨by rw[hhead];exact hg,by rw[hhead];exact hr,by rw[hhead];exact hsls,fun k hk=>?_,hone,by rw[hhead];exact hbits,fun ys hys=>by rw[hhead,hcat,hys.one hb],by rw[hhead];exact hdata⟩⟩
 rw[hhead]at hk ⊢
 have hk':k<st.slots.length:=by omega
 have hy:=List.getElem?_eq_getElem hk'
 obtain⟨h1,h2⟩:=hok _ (List.getElem_mem hk')
 rw[hpiece k _ hy]
 refine⟨by rw[parse_slot h1],?_⟩
 rw[parse_slot h1]
 exact h2
theorem LoadOk.one{N:Nat}{cur:Nat→Octs}{st st':PSt}(h:LoadOk N cur st)(h':LoadOk N cur st'):st=st':=by
 have e1:st.slots=st'.slots:=by rw[h.slots,h'.slots]
 have e2:st.bits=st'.bits:=by rw[h.bits,h'.bits,e1]
 have e3:st.data=st'.data:=by rw[h.data,h'.data,e2]
 cases st;cases st'
 simp only at e1 e2 e3
 subst e1;subst e2;subst e3
 rfl
theorem allBlk_none{l:List PSl}(h:∀y∈l,y.ps=[]):allBlk l=[]:=by
 induction l with
 | nil=>rfl
 | cons y r ih=>
  have e:allBlk (y::r)=blocksI y.ps++allBlk r:=by simp[allBlk]
  rw[e,ih (fun z hz=>h z (by simp[hz])),h y (by simp)]
  simp[blocksI]
theorem load_empty{N:Nat}{s:Int}{xs:Octs}(hg:¬laidBad N s)(hr:firstN N s<N)(hN:N≤4096)(hb:BytesAre (emptyP N s (firstN N s)).bits xs){cur:Nat→Octs}(hcur:∀k:Nat,(k:Int)<firstN N s→cur k=((fixO s xs (emptyP N s (firstN N s)).slots).drop (k*128)).take 128) :
  headN cur=s∧LoadOk N cur (emptyP N s (firstN N s)):=by
 have h0:¬(s<1∨256<s∨(N:Int)<1):=hg
 have hbb:=bitsN_bd (N:=N) (by omega)
 have hfd:firstN (N:Int) s=1+bitsN N+(s+3) / 4:=rfl
 have hno:allBlk (emptyP N s (firstN N s)).slots=[]:=allBlk_none fun y hy=>by
  have:=List.eq_of_mem_replicate hy
  subst this;rfl
 have hbits:(emptyP N s (firstN N s)).bits=firstB N (firstN N s):=by
  unfold emptyP firstB
  rfl
 refine load_of hg hr hN hb (by simp only[emptyP];rw[setAll_length,List.length_replicate,Int.toNat_natCast]) (by simp[emptyP]) hcur (fun y hy=>?_) (by rw[hno];simp) (by rw[hno,hbits];rfl) ?_
 ·have:=List.eq_of_mem_replicate hy
  subst this
  exact⟨⟨by simp,by simp,by simp,by simp,by simp,by simp⟩,.inl ⟨rfl,rfl,rfl⟩⟩
 ·funext k
  show none=_
  rw[if_neg]
  rintro⟨h1,h2,h3⟩
  rw[hbits]at h3
  unfold firstB at h3
  rw[onB_setAll _ _ _ (fun x hx=>by
   obtain⟨j,hj,rfl⟩:=List.mem_map.1 hx
   have:=List.mem_range.1 hj
   rw[List.length_replicate]
   omega)]at h3
  rw[if_neg (fun hm=>by
   obtain⟨j,hj,e⟩:=List.mem_map.1 hm
   have:=List.mem_range.1 hj
   omega)]at h3
  unfold onB at h3
  simp[List.getD_eq_getElem?_getD,List.getElem?_replicate]at h3
  split at h3<;>simp at h3
end Go.Proofs
end
section
open Go Go.Vc Go.Proofs.Bx
namespace Go.Proofs
theorem offs_off(p:Nat→Bool):∀(F k c E:Nat),k+F=E→(∀i,k≤i→i<E→p i=false)→offs p F k c=(List.range (min c (E - k))).map fun (j:Nat)=>((k+j:Nat):Int)
 | 0,k,c,E,h,_=>by
  have e:min c (E - k)=0:=by omega
  rw[e];simp[offs]
 | F+1,k,0,E,h,_=>by simp[offs]
 | F+1,k,c+1,E,h,hp=>by
  rw[offs,hp k (by omega) (by omega)]
  show(k:Int)::offs p F (k+1) c=_
  rw[offs_off p F (k+1) c E (by omega) (fun i h1 h2=>hp i (by omega) h2)]
  have e:min (c+1) (E - k)=min c (E - (k+1))+1:=by omega
  rw[e,List.range_succ_eq_map,List.map_cons,List.map_map]
  congr 1
  apply List.map_congr_left
  intro j _
  simp only[Function.comp_apply]
  omega
theorem offs_run(p:Nat→Bool)(m E:Nat)(hoff:∀i,m≤i→i<E→p i=false):∀(F k c:Nat),k+F=E→k≤m→(∀i,k≤i→i<m→p i=true)→m≤E→offs p F k c=(List.range (min c (E - m))).map fun (j:Nat)=>((m+j:Nat):Int)
 | F,k,c,h,hk,hon,hm=>by
  by_cases e:k=m
  ·subst e
   exact offs_off p F k c E h hoff
  ·match F,c with
   | 0,c=>omega
   | F+1,0=>simp[offs]
   | F+1,c+1=>
    rw[offs,hon k (Nat.le_refl _) (by omega)]
    exact offs_run p m E hoff F (k+1) (c+1) (by omega) (by omega) (fun i h1 h2=>hon i (by omega) h2) hm
theorem found_run{bs:List Bool}{f m need:Nat}(hf:f≤m)(hm:m≤bs.length)(hon:∀i,f≤i→i<m→onB bs i=true)(hoff:∀i,m≤i→i<bs.length→onB bs i=false) :
  foundF bs f need=(List.range (min need (bs.length - m))).map fun (j:Nat)=>((m+j:Nat):Int):=by
 unfold foundF
 rw[Int.toNat_natCast]
 exact offs_run (onB bs) m bs.length hoff _ f need (by omega) hf hon hm
theorem found_blk{bs:List Bool}{f m need:Nat}(hf:f≤m)(hm:m+need≤bs.length)(hon:∀i,f≤i→i<m→onB bs i=true)(hoff:∀i,m≤i→i<bs.length→onB bs i=false) :
  foundF bs f need=blkI ⟨m,need⟩:=by
 rw[found_run hf (by omega) hon hoff,show min need (bs.length - m)=need by omega]
 unfold blkI
 simp only[Int.toNat_natCast]
 apply List.map_congr_left
 intro j _
 omega
theorem countF_nil:countF []=0:=by unfold countF;split<;>rfl
theorem piecesF_one{m need:Int}(h:1≤need):piecesF (blkI ⟨m,need⟩)=[⟨m,need⟩]:=by
 have:=piecesF_blocks (l:=[⟨m,need⟩]) (fun p hp=>by simp only[List.mem_singleton]at hp;subst hp;exact h) ⟨fun q hq=>by simp at hq,trivial⟩
 rwa[show blocksI [⟨m,need⟩]=blkI ⟨m,need⟩by simp[blocksI]]at this
end Go.Proofs
end
section
open Go Go.Vc
namespace Go.Proofs
theorem OpnV(x0:Int) (x1:Int) (x2:Int) (H:Heap) (R:Value→Heap→Prop):Walk Tryz.prog 29 [] [.int .i64 x0,.int .i64 x1,.int .i64 x2] H R=(Does Tryz.prog 18 [.int .i64 x0] H fun v1 H2=>∃p3:Option Addr,∃n4,v1=(.tuple #[.pointer p3,.int .i64 n4])∧(((n4≠0)→R (.tuple #[.pointer none,.pointer none]) H2)∧(¬(n4≠0)→(((p3=none)→R (.tuple #[.pointer none,.pointer none]) H2)∧(¬(p3=none)→Does Tryz.prog 40 [.pointer p3,.int .i64 x1,.int .i64 x2] H2 fun v5 H6=>∃n7,v5=(.int .i64 n7)∧(((n7≠0)→R (.tuple #[.pointer none,.pointer none]) H6)∧(¬(n7≠0)→Does Tryz.prog 27 [.pointer p3] H6 fun v8 H9=>∃p10:Option Addr,∃n11,v8=(.tuple #[.pointer p10,.int .i64 n11])∧(((n11≠0)→R (.tuple #[.pointer none,.pointer none]) H9)∧(¬(n11≠0)→(((p10=none)→R (.tuple #[.pointer none,.pointer none]) H9)∧(¬(p10=none)→R (.tuple #[.pointer p10,.pointer p3]) H9))))))))))):=by kernel_rfl
end Go.Proofs
end
section
open Go Go.Vc Go.Proofs.Bx
namespace Go.Proofs
theorem Sto.extP{H H':Heap}{Fj Fx Fy Fd P:Nat→Prop}{ps pj pd:Nat}{hh ss bb ff:Int}{x y:RSt}{now kept:PSt}{J:Jn}{D:Dev}(h:Sto H Fj Fx Fy Fd ps pj pd hh ss bb ff x y now kept J D)(he:ExtP P H H')(hp:∀q,Fj q∨Fx q∨Fy q∨Fd q∨q=ps→¬P q) :
  Sto H' Fj Fx Fy Fd ps pj pd hh ss bb ff x y now kept J D:=
 ⟨h.blk.extP he (hp _ (.inr (.inr (.inr (.inr rfl))))),h.jd.ext he (fun q hq=>hp q (.inl hq)),h.now.extP he (fun q hq=>hp q (.inr (.inl hq))) (fun q hq=>hp q (.inr (.inr (.inr (.inl hq))))),
  h.kept.extP he (fun q hq=>hp q (.inr (.inr (.inl hq)))) (fun q hq=>hp q (.inr (.inr (.inr (.inl hq))))),h.sep,h.sepJ,h.sepX,h.sepY,fun q hq=>Nat.lt_of_lt_of_le (h.lt q hq) he.size,h.num⟩
theorem ext_low{H0 H H':Heap}{P:Nat→Prop}(h:Ext [] H0 H)(he:ExtP P H H')(hp:∀q,P q→q<H.size→H0.size≤q):Ext [] H0 H':=⟨by have:=h.size;have:=he.size;omega,fun k hk _=>by
 have:=h.size
 rw[he.keep k (by omega) (fun hm=>by have:=hp k hm (by omega);omega)]
 exact h.keep k hk (by simp)⟩
structure StL(H0 H:Heap) (M:Nat→Prop) (ps pj pd n z B N:Nat) (s:Int) (now kept:PSt) (J:Jn) (D:Dev) (cur:Nat→Octs) (S:(Nat→Octs)→Prop):Prop where
 ex:∃Fj Fx Fy Fd x y,Sto H Fj Fx Fy Fd ps pj pd N s (bitsN N) (firstN N s) x y now kept J D∧JL H0 H Fj pj pd n z B J D cur S∧∀q,Fj q∨Fx q∨Fy q∨Fd q∨q=ps↔M q
 low:∀q,M q→H0.size≤q
 num:N+1+z=n
structure Step(H:Heap) (M:Nat→Prop) (H':Heap) (M':Nat→Prop):Prop where
 ext:ExtP M H H'
 reg:∀q,M' q→M q∨H.size≤q
section
variable {H0 H H':Heap} {M M':Nat→Prop} {ps pj pd n z B N:Nat} {s:Int} {now kept now':PSt} {J:Jn} {D:Dev} {cur:Nat→Octs} {S:(Nat→Octs)→Prop}
theorem Step.refl(H:Heap)(M:Nat→Prop):Step H M H M:=⟨ExtP.refl _ _,fun _ h=>.inl h⟩
theorem StL.base(h:StL H0 H M ps pj pd n z B N s now kept J D cur S):Ext [] H0 H:=by
 obtain⟨Fj,Fx,Fy,Fd,x,y,hS,hJ,_⟩:=h.ex
 exact hJ.jin.ext
theorem StL.lt(h:StL H0 H M ps pj pd n z B N s now kept J D cur S):∀q,M q→q<H.size:=by
 obtain⟨Fj,Fx,Fy,Fd,x,y,hS,hJ,hM⟩:=h.ex
 intro q hq
 rcases (hM q).2 hq with h|h|h|h|h
 ·exact hJ.lt q h
 ·exact hS.now.lt q h
 ·exact hS.kept.lt q h
 ·exact hS.lt q h
 ·subst h;exact hS.blk.lt
theorem StL.off(h:StL H0 H M ps pj pd n z B N s now kept J D cur S){P:Nat→Prop}(he:ExtP P H H')(hp:∀q,M q→¬P q)(hl:∀q,P q→q<H.size→H0.size≤q):StL H0 H' M ps pj pd n z B N s now kept J D cur S:=by
 obtain⟨Fj,Fx,Fy,Fd,x,y,hS,hJ,hM⟩:=h.ex
 have hS':=hS.extP he (fun q hq=>hp q ((hM q).1 hq))
 exact⟨⟨Fj,Fx,Fy,Fd,x,y,hS',⟨⟨hS'.jd,hJ.jin.wf,hJ.jin.jwf,hJ.jin.low,ext_low hJ.jin.ext he hl⟩,hJ.live⟩,hM⟩,h.low,h.num⟩
theorem StL.more(h:StL H0 H M ps pj pd n z B N s now kept J D cur S)(he:Ext [] H H'):StL H0 H' M ps pj pd n z B N s now kept J D cur S:=h.off (P:=fun _=>False) he.anyP (fun _ _ h=>h) (fun _ h=>h.elim)
theorem StL.left{Fj Fx Fy Fd:Nat→Prop}{x y:RSt}(_:Sto H Fj Fx Fy Fd ps pj pd N s (bitsN N) (firstN N s) x y now kept J D)(hJ:JL H0 H Fj pj pd n z B J D cur S)(hM:∀q,Fj q∨Fx q∨Fy q∨Fd q∨q=ps↔M q)(hl:∀q,M q→H0.size≤q)(hn:N+1+z=n)
  (h:Left H Fj Fx Fy Fd ps pj pd N s (bitsN N) (firstN N s) y kept J D now' H'):∃M',StL H0 H' M' ps pj pd n z B N s now' kept J D cur S∧Step H M H' M':=by
 obtain⟨Fx',Fd',x',hS',hx,hr,hd⟩:=h
 have hP:∀q,Fx q∨q=ps→M q:=fun q hq=>(hM q).1 (hq.elim (fun h=>.inr (.inl h)) fun h=>.inr (.inr (.inr (.inr h))))
 have hz:=hJ.jin.ext.size
 refine⟨fun q=>Fj q∨Fx' q∨Fy q∨Fd' q∨q=ps,⟨⟨Fj,Fx',Fy,Fd',x',y,hS',⟨⟨hS'.jd,hJ.jin.wf,hJ.jin.jwf,hJ.jin.low,ext_low hJ.jin.ext hx (fun q hq _=>hl q (hP q hq))⟩,hJ.live⟩,fun _=>Iff.rfl⟩,?_,hn⟩,⟨hx.mono fun q _ hq=>hP q hq,?_⟩⟩
 ·rintro q (hq|hq|hq|hq|hq)
  ·exact hl q ((hM q).1 (.inl hq))
  ·rcases hr q (.inl hq)with h|h|h
   ·exact hl q ((hM q).1 (.inr (.inl h)))
   ·exact hl q ((hM q).1 (.inr (.inr (.inr (.inl h)))))
   ·omega
  ·exact hl q ((hM q).1 (.inr (.inr (.inl hq))))
  ·rcases hr q (.inr hq)with h|h|h
   ·exact hl q ((hM q).1 (.inr (.inl h)))
   ·exact hl q ((hM q).1 (.inr (.inr (.inr (.inl h)))))
   ·omega
  ·exact hl q ((hM q).1 (.inr (.inr (.inr (.inr hq)))))
 ·rintro q (hq|hq|hq|hq|hq)
  ·exact .inl ((hM q).1 (.inl hq))
  ·rcases hr q (.inl hq)with h|h|h
   ·exact .inl ((hM q).1 (.inr (.inl h)))
   ·exact .inl ((hM q).1 (.inr (.inr (.inr (.inl h)))))
   ·exact .inr h
  ·exact .inl ((hM q).1 (.inr (.inr (.inl hq))))
  ·rcases hr q (.inr hq)with h|h|h
   ·exact .inl ((hM q).1 (.inr (.inl h)))
   ·exact .inl ((hM q).1 (.inr (.inr (.inr (.inl h)))))
   ·exact .inr h
  ·exact .inl ((hM q).1 (.inr (.inr (.inr (.inr hq)))))
theorem StL.free(h:StL H0 H M ps pj pd n z B N s now kept J D cur S):Does Tryz.prog 30 [.pointer (some ⟨ps,0,none⟩)] H fun v H'=>v=.int .i64 (freeN now)∧H=H':=by
 obtain⟨Fj,Fx,Fy,Fd,x,y,hS,_⟩:=h.ex
 exact freeS_ok hS
theorem StL.lays(h:StL H0 H M ps pj pd n z B N s now kept J D cur S):(4≤z∧z+4≤n)∧n≤4096∧J.dead=false:=by
 obtain⟨Fj,Fx,Fy,Fd,x,y,hS,hJ,_⟩:=h.ex
 have:=hJ.live.lays
 exact⟨this.1,this.2.1,this.2.2.2.2.1⟩
theorem StL.used(h:StL H0 H M ps pj pd n z B N s now kept J D cur S)(h2:0≤firstN N s∧firstN N s≤1000000)(h3:now.bits.length≤1000000):Does Tryz.prog 32 [.pointer (some ⟨ps,0,none⟩)] H fun v H'=>v=.int .i64 (N - firstN N s - freeN now)∧H=H':=by
 have hl:=h.lays
 have hn:=h.num
 obtain⟨Fj,Fx,Fy,Fd,x,y,hS,_⟩:=h.ex
 exact usedS_ok hS (by omega) h2 h3
theorem StL.ids(h:StL H0 H M ps pj pd n z B N s now kept J D cur S):Does Tryz.prog 33 [.pointer (some ⟨ps,0,none⟩)] H fun v H'=>∃a c,v=.slice a (idsP now).length c∧Own H' 1 a (idsP now).length c ((idsP now).map (.int .i64))∧Ext [] H H'∧∀q∈blkOf a,H.size≤q:=by
 obtain⟨Fj,Fx,Fy,Fd,x,y,hS,_⟩:=h.ex
 exact idsS_ok hS
theorem StL.refs(h:StL H0 H M ps pj pd n z B N s now kept J D cur S)(id:Int):Does Tryz.prog 50 [.pointer (some ⟨ps,0,none⟩),.int .i64 id] H fun v H'=>v=.int .i64 (refsP now id)∧H=H':=by
 obtain⟨Fj,Fx,Fy,Fd,x,y,hS,_⟩:=h.ex
 exact refsS_ok hS id
theorem StL.create(h:StL H0 H M ps pj pd n z B N s now kept J D cur S)(hf:Fine now (firstN N s)){xa:Option Addr}{xc:Nat}{xs:Octs}(hx:SRow H 1 xs.length (.slice xa xs.length xc) (bytesV xs))(hxo:∀q∈blkOf xa,¬M q) :
  Does Tryz.prog 31 [.pointer (some ⟨ps,0,none⟩),.slice xa xs.length xc] H fun v H'=>∃now' id e M',v=.tuple #[.int .i64 id,.int .i64 e]∧StL H0 H' M' ps pj pd n z B N s now' kept J D cur S∧Step H M H' M' ∧
   ((e=0∧CreateOk (firstN N s) now xs now' id)∨(e≠0∧id=0∧now'=now∧CreateNo (firstN N s) now xs e)):=by
 have hd:=h.lays.2.2
 obtain⟨Fj,Fx,Fy,Fd,x,y,hS,hJ,hM⟩:=h.ex
 refine(create_ok hS hf hx (fun q hq h=>hxo q hq ((hM q).1 (.inr (.inl h))))).mono ?_
 rintro v H' ⟨now',id,e,rfl,hL,hc⟩
 obtain⟨M',h1,h2⟩:=StL.left hS hJ hM h.low h.num hL
 refine⟨now',id,e,M',rfl,h1,h2,?_⟩
 rcases hc with⟨g1,_,g2⟩|⟨g1,g2,g3,g4|⟨g4,_⟩⟩
 ·exact .inl ⟨g1,g2⟩
 ·exact .inr ⟨g1,g2,g3,g4⟩
 ·rw[hd]at g4;cases g4
theorem StL.unref(h:StL H0 H M ps pj pd n z B N s now kept J D cur S)(hf:Fine now (firstN N s))(hsm:∀(k:Nat)(s:PSl),now.slots[k]?=some s→s.refs≤1000000)(id:Int) :
  Does Tryz.prog 34 [.pointer (some ⟨ps,0,none⟩),.int .i64 id] H fun v H'=>∃now' last e M',v=.tuple #[.bool last,.int .i64 e]∧StL H0 H' M' ps pj pd n z B N s now' kept J D cur S∧Step H M H' M' ∧
   ((e=0∧UnrefOk now id now' last)∨(e≠0∧last=false∧now'=now∧¬0<refsP now id∧e=6)):=by
 have hd:=h.lays.2.2
 obtain⟨Fj,Fx,Fy,Fd,x,y,hS,hJ,hM⟩:=h.ex
 refine(unref_ok hS hf hsm id).mono ?_
 rintro v H' ⟨now',last,e,rfl,hL,hc⟩
 obtain⟨M',h1,h2⟩:=StL.left hS hJ hM h.low h.num hL
 refine⟨now',last,e,M',rfl,h1,h2,?_⟩
 rcases hc with⟨g1,_,g2⟩|⟨g1,g2,g3,⟨g4,g5⟩|⟨g4,_⟩⟩
 ·exact .inl ⟨g1,g2⟩
 ·exact .inr ⟨g1,g2,g3,g4,g5⟩
 ·rw[hd]at g4;cases g4
end
theorem opn_ok{H:Heap}{n z N:Nat}{s:Int}(hn:N+1+z=n)(hz:4≤z∧z+4≤n)(hn8:8≤n∧n≤4096)(hg:¬laidBad N s)(hr:firstN N s<N){S:(Nat→Octs)→Prop}(hSS:∀xs,BytesAre (emptyP N s (firstN N s)).bits xs→S (fmtHm N s xs)) :
  Does Tryz.prog 29 [.int .i64 n,.int .i64 z,.int .i64 s] H fun v H'=>∃M ps pj pd J D xs,v=.tuple #[.pointer (some ⟨ps,0,none⟩),.pointer (some ⟨pd,0,none⟩)] ∧
   StL H H' M ps pj pd n z 3000000 N s (emptyP N s (firstN N s)) (emptyP N s (firstN N s)) J D (fmtHm N s xs) S∧D.fuse=-1∧BytesAre (emptyP N s (firstN N s)).bits xs:=by
 have eN:N=n - 1 - z:=by omega
 subst eN
 refine Fn_of_vc Tryz.mixed (OpnV _ _ _ _ _) ?_
 refine(dnew_ok n H).mono ?_
 rintro v H2 ⟨hx2,(⟨h0,_⟩|⟨_,pd,rfl,hdv⟩)⟩
 ·omega
 refine⟨_,_,rfl,fun h=>absurd rfl h,fun _=>⟨fun h=>(by cases h),fun _=>?_⟩⟩
 rw[Int.toNat_natCast]at hdv
 have hd:DvIn H H2 (grow none_ H H2) pd (newD n) n 0:=⟨hdv,newWf (by omega),fun q hq=>hq.elim (fun h=>h.elim) fun h=>h.1,hx2⟩
 refine(fmt_ok hd hz hn8.2 hg hr).mono ?_
 rintro v H6 ⟨rfl,F',D',B,xs,hd6,hB,hfu,hdead,hxs,hsure,hx6,hF'⟩
 refine⟨_,rfl,fun h=>absurd rfl h,fun _=>?_⟩
 have z2:=hx2.size
 have z6:=hx6.size
 have hfl:=fix_length (N:=n - 1 - z) (s:=s) (xs:=xs) (sl:=(emptyP ((n - 1 - z:Nat):Int) s (firstN ((n - 1 - z:Nat):Int) s)).slots) (by have h0:¬(s<1∨256<s∨((n - 1 - z:Nat):Int)<1):=hg;omega)
  (by rw[hxs.len];simp only[emptyP];rw[setAll_length,List.length_replicate,Int.toNat_natCast]) (by simp[emptyP]) (fun y hy=>by
   have:=List.eq_of_mem_replicate hy
   subst this
   exact⟨by simp,by simp,by simp,by simp,by simp,by simp⟩)
 have hle:=load_empty hg hr (by omega) hxs (cur:=fmtHm (n - 1 - z) s xs) (fun k hk=>by
  unfold fmtHm
  rw[if_pos (by omega)]
  rfl)
 have hlen:∀k,k<n - 1 - z→(fmtHm (n - 1 - z) s xs k).length=128:=fun k _=>by
  unfold fmtHm
  split
  ·rename_i hk
   unfold fmtP
   rw[List.length_take,List.length_drop,hfl.1]
   have:(k+1)*128≤(firstN ((n - 1 - z:Nat):Int) s).toNat*128:=Nat.mul_le_mul_right _ hk
   omega
  ·simp[zeros]
 refine(openS_ok (H:=H6) (d:=some ⟨pd,0,none⟩) (R:=fun v H'=>∃M ps pj J D,v=.tuple #[.pointer (some ⟨ps,0,none⟩),.int .i64 0] ∧
   StL H H' M ps pj pd n z 3000000 (n - 1 - z) s (emptyP ((n - 1 - z:Nat):Int) s (firstN ((n - 1 - z:Nat):Int) s)) (emptyP ((n - 1 - z:Nat):Int) s (firstN ((n - 1 - z:Nat):Int) s)) J D (fmtHm (n - 1 - z) s xs) S∧D.fuse=-1) ?_).mono ?_
 ·refine(hd6.open_ (S:=S) (by omega) ⟨rfl,rfl,hdead⟩ hsure (hSS xs hxs)).mono ?_
  rintro v H9 ⟨hx9,(⟨pj,J,D9,rfl,hJ,hf9,_,_⟩|⟨_,_,_,hne,_⟩)⟩
  ·have hFl:=hJ.lt
   refine .inr ⟨pj,pd,_,J,D9,n - 1 - z,_,rfl,hJ.jin.jd,hlen,by omega,by omega,hJ.live.reads hJ.jin.wf hJ.jin.jwf _ _ _,fun H3 _ _ hno=>absurd hle.2 (hno _),?_⟩
   intro H3 ps x y Fx Fy Fd st hlo hx3 hS hfr
   have e:=hlo.one hle.2
   subst e
   rw[hle.1]at hS
   have z9:=hx9.size
   have z3:=hx3.size
   refine⟨fun q=>grow F' H6 H9 q∨Fx q∨Fy q∨Fd q∨q=ps,ps,pj,J,D9,rfl,⟨⟨_,Fx,Fy,Fd,x,y,hS,⟨(hJ.up (B':=3000000) (by omega) (by omega) (fun _ h=>h)).jin.same hS.jd hx3 (hJ.up (B':=3000000) (S':=S) (by omega) (by omega) (fun _ h=>h)).jin.wf hJ.jin.jwf,(hJ.up (B':=3000000) (by omega) (by omega) (fun _ h=>h)).live⟩,fun _=>Iff.rfl⟩,?_,hn⟩,hf9 hfu⟩
   rintro q (hq|hq|hq|hq|hq)
   ·exact hJ.jin.low q hq
   ·have:=hfr q (.inl hq);omega
   ·have:=hfr q (.inr (.inl hq));omega
   ·have:=hfr q (.inr (.inr (.inl hq)));omega
   ·have:=hfr q (.inr (.inr (.inr hq)));omega
  ·exact absurd hfu hne
 ·rintro v H9 ⟨M,ps,pj,J,D9,rfl,hL,hf9⟩
  exact⟨_,_,rfl,fun h=>absurd rfl h,fun _=>⟨fun h=>(by cases h),fun _=>⟨M,ps,pj,pd,J,D9,xs,rfl,hL,hf9,hxs⟩⟩⟩
end Go.Proofs
end
section
open Go Go.Vc Go.Proofs.Bx
namespace Go.Proofs
structure Shape(N:Nat) (s:Int) (st:PSt):Prop where
 slots:st.slots.length=s.toNat
 bits:st.bits.length=N
 ok:∀y∈st.slots,SlotOk y
def fxB(s:Int)(xs:Octs)(st:PSt)(k:Nat):Octs:=((fixO s xs st.slots).drop (k*128)).take 128
def datO(st:PSt)(k:Int):Octs:=(st.data k).getD []
def trnA(P Q:Nat→Octs)(n:Nat):List Wr:=(List.range n).filterMap fun k=>if P k=Q k then none else some ((k:Int),P k)
def datT(now kept:PSt)(k:Nat):Prop:=onB now.bits k=true∧(onB kept.bits k=false∨datO now k≠datO kept k)
open Classical in
noncomputable def trnB(now kept:PSt)(f n:Nat):List Wr:=(List.range n).filterMap fun j=>if datT now kept (f+j)then some (((f+j:Nat):Int),datO now ((f+j:Nat):Int))else none
theorem trnA_succ(P Q:Nat→Octs)(n:Nat):trnA P Q (n+1)=trnA P Q n++(if P n=Q n then []else [((n:Int),P n)]):=by
 unfold trnA
 rw[List.range_succ,List.filterMap_append]
 congr 1
 by_cases h:P n=Q n<;>simp[h]
theorem trnB_succ(now kept:PSt)(f n:Nat):(datT now kept (f+n)→trnB now kept f (n+1)=trnB now kept f n++[(((f+n:Nat):Int),datO now ((f+n:Nat):Int))])∧(¬datT now kept (f+n)→trnB now kept f (n+1)=trnB now kept f n):=by
 unfold trnB
 rw[List.range_succ,List.filterMap_append]
 refine⟨fun h=>?_,fun h=>?_⟩
 ·congr 1;simp only[List.filterMap_cons,List.filterMap_nil,if_pos h]
 ·simp only[List.filterMap_cons,List.filterMap_nil,if_neg h,List.append_nil]
noncomputable def turnW(N:Nat)(s:Int)(xN xK:Octs)(now kept:PSt):List Wr:=trnA (fxB s xN now) (fxB s xK kept) (firstN N s).toNat++trnB now kept (firstN N s).toNat (N - (firstN N s).toNat)
theorem trnA_length(P Q:Nat→Octs)(n:Nat):(trnA P Q n).length≤n:=by
 unfold trnA
 have:=List.length_filterMap_le (fun k=>if P k=Q k then none else some ((k:Int),P k)) (List.range n)
 rwa[List.length_range]at this
theorem trnB_length(now kept:PSt)(f n:Nat):(trnB now kept f n).length≤n:=by
 unfold trnB
 refine Nat.le_trans (List.length_filterMap_le _ (List.range n)) ?_
 rw[List.length_range];exact Nat.le_refl _
theorem NowIs.dat{H:Heap}{Fd:Nat→Prop}{x:RSt}{rl:List RSl}{ba:Option Addr}{bc:Nat}{ml:List (Int×Value)}{st:PSt}(h:NowIs H Fd x rl ba bc ml st)(k:Int) :
  ∃a c,mapGet ml k (.slice none 0 0)=.slice a (datO st k).length c∧SRow H 1 (datO st k).length (.slice a (datO st k).length c) (bytesV (datO st k))∧(∀q∈blkOf a,Fd q)∧(datO st k).length≤128:=by
 have hd:=h.data k
 unfold datO
 cases e:st.data k with
 | none=>
  rw[e]at hd
  have hd:k∉ml.map (·.1):=hd
  refine⟨none,0,?_,⟨rfl,rfl⟩,by simp[blkOf],by simp⟩
  have:∀l:List (Int×Value),k∉l.map (·.1)→mapGet l k (.slice none 0 0)=.slice none 0 0:=fun l=>by
   induction l with
   | nil=>intro _;rfl
   | cons p r ih=>
    intro hn
    simp only[List.map_cons,List.mem_cons,not_or]at hn
    unfold mapGet
    rw[if_neg (fun e=>hn.1 e.symm)]
    exact ih hn.2
  exact this ml hd
 | some o=>
  rw[e]at hd
  obtain⟨h1,a,c,h2,h3,h4⟩:=hd
  refine⟨a,c,?_,?_,h4,by simp only[Option.getD_some];omega⟩
  ·rw[mapGet_of h.nod h2];simp only[Option.getD_some];rw[h1]
  ·simp only[Option.getD_some];rw[h1];exact h3
section
variable {H:Heap} {Fj Fx Fy Fd:Nat→Prop} {ps pj pd N:Nat} {s:Int} {x y:RSt} {now kept:PSt} {J:Jn} {D:Dev}
set_option maxHeartbeats 4000000 in
theorem turned_ok(hS:Sto H Fj Fx Fy Fd ps pj pd N s (bitsN N) (firstN N s) x y now kept J D)(h1:Shape N s now)(h2:Shape N s kept)(hN:N≤4096)(hg:¬laidBad N s)(hr:firstN N s<N) :
  Does Tryz.prog 112 [.pointer (some ⟨ps,0,none⟩)] H fun v H'=>∃a c xN xK,BytesAre now.bits xN∧BytesAre kept.bits xK∧v=.slice a (turnW N s xN xK now kept).length c ∧
   Seq writeE H' (fun q=>Fd q∨(H.size≤q∧q<H'.size)) a (turnW N s xN xK now kept).length c (turnW N s xN xK now kept)∧(∀q∈blkOf a,H.size≤q)∧Ext [] H H':=by
 have h0:¬(s<1∨256<s∨(N:Int)<1):=hg
 have hbb:=bitsN_bd (N:=N) (by omega)
 have hfd:firstN (N:Int) s=1+bitsN N+(s+3) / 4:=rfl
 obtain⟨f,hf⟩:∃f:Nat,firstN (N:Int) s=f:=⟨(firstN (N:Int) s).toNat,by omega⟩
 obtain⟨rl,ba,bc,ml,hn,_⟩:=hS.now
 obtain⟨kl,ka,kc,mk,hk,_⟩:=hS.kept
 have hxn:x.n=s.toNat:=by have:=hn.num;have:=hn.len;have:=h1.slots;omega
 have hyn:y.n=s.toNat:=by have:=hk.num;have:=hk.len;have:=h2.slots;omega
 refine Fn_of_vc Tryz.mixed (TurnedV _ _ _) ?_
 refine⟨ps,0,rfl,_,by rw[hS.blk.cell];rfl,_,by rw[hS.blk.cell];rfl,_,by rw[hS.blk.cell];rfl,_,by rw[hS.blk.cell];rfl,ps,0,rfl,_,_,_,by rw[hS.blk.cell];rfl,_,by rw[hS.blk.cell];rfl,_,by rw[hS.blk.cell];rfl,?_⟩
 refine(fixed_ok hk (by omega) (by rw[h2.bits];omega) h2.ok _ _ _ _).mono ?_
 rintro _ H15 ⟨xK,hxK,⟨nK,aK,cK,vK,rfl,lenK,oK,lK,fK,rK⟩,hx15⟩
 have hb15:=hS.blk.ext hx15 (by simp)
 have hn15:=hn.extP (M:=fun _=>False) hx15.anyP (fun _ _ h=>h) (fun _ _ h=>h)
 have hFd15:∀q,Fd q→q<H.size:=hS.lt
 refine⟨_,_,_,rfl,ps,0,rfl,_,by rw[hb15.cell];rfl,_,by rw[hb15.cell];rfl,_,by rw[hb15.cell];rfl,_,by rw[hb15.cell];rfl,ps,0,rfl,_,_,_,by rw[hb15.cell];rfl,_,by rw[hb15.cell];rfl,_,by rw[hb15.cell];rfl,?_⟩
 refine(fixed_ok hn15 (by omega) (by rw[h1.bits];omega) h1.ok _ _ _ _).mono ?_
 rintro _ H33 ⟨xN,hxN,⟨nN,aN,cN,vN,rfl,lenN,oN,lN,fN,rN⟩,hx33⟩
 have z15:=hx15.size;have z33:=hx33.size
 have hx1533:Ext [] H H33:=hx15.trans' hx33 (by simp)
 have flK:=(fix_length (N:=N) (s:=s) (xs:=xK) (sl:=kept.slots) (by omega) (by rw[hxK.len,h2.bits]) h2.slots h2.ok).1
 have flN:=(fix_length (N:=N) (s:=s) (xs:=xN) (sl:=now.slots) (by omega) (by rw[hxN.len,h1.bits]) h1.slots h1.ok).1
 rw[hf,Int.toNat_natCast]at flK flN
 have eK:nK=f:=by omega
 have eN:nN=f:=by omega
 subst eK
 subst eN
 let G:Nat→Prop:=fun q=>Fd q∨(H.size≤q∧q<H33.size)
 have hGlt:∀q,G q→q<H33.size:=fun q hq=>hq.elim (fun h=>by have:=hFd15 q h;omega) fun h=>h.2
 have hlenB:∀(xs:Octs) (st:PSt) (j:Nat),(fixO s xs st.slots).length=nN*128→j<nN→(fxB s xs st j).length=128:=fun xs st j hl hj=>by
  unfold fxB
  rw[List.length_take,List.length_drop,hl]
  have:(j+1)*128≤nN*128:=Nat.mul_le_mul_right _ hj
  omega
 refine⟨_,_,_,rfl,fun a l c i K=>∃j:Nat,i=j∧j≤nN∧Seq writeE K G a l c (trnA (fxB s xN now) (fxB s xK kept) j)∧Ext [] H33 K∧(∀q∈blkOf a,H33.size≤q),fun _ _ _ i _=>(nN - i).toNat,⟨0,rfl,Nat.zero_le _,Seq.nil _ _ _,Ext.refl _ _,by simp[blkOf]⟩,?_⟩
 rintro a39 l40 c41 _ H43 ⟨j,rfl,hj,hms,hx43,hfa⟩
 have hnum:=hms.num
 have hcn:=trnA_length (fxB s xN now) (fxB s xK kept) j
 have z43:=hx43.size
 refine⟨fun hlt=>?_,fun hge=>?_⟩
 ·have hj':j<nN:=by omega
  obtain⟨ai,hvi,hsr,hbi⟩:=rN j hj'
  obtain⟨bi,hvi2,hsr2,hbi2⟩:=rK j hj'
  obtain⟨b44,o45,e44,c44⟩:=((oN.ext hx43 (by simp)).row nN cN).at hvi
  obtain⟨b49,o50,e49,c49⟩:=((oK.ext (hx33.trans' hx43 (by simp)) (by simp)).row nN cK).at hvi2
  refine⟨by omega,hlt,b44,o45,e44,ai,128,128,by rw[Int.toNat_natCast];exact c44,by omega,hlt,b49,o50,e49,bi,128,128,by rw[Int.toNat_natCast];exact c49,?_⟩
  have lA:=hlenB xN now j flN hj'
  have lB:=hlenB xK kept j flK hj'
  have hsA:SRow H43 1 (fxB s xN now j).length (.slice ai (fxB s xN now j).length 128) (bytesV (fxB s xN now j)):=by rw[lA];exact hsr.ext hx43 (by simp)
  have hsB:SRow H43 1 (fxB s xK kept j).length (.slice bi (fxB s xK kept j).length 128) (bytesV (fxB s xK kept j)):=by rw[lB];exact(hsr2.ext hx33 (by simp)).ext hx43 (by simp)
  have hEq:=eqB_ok (H:=H43) (by omega) hsA hsB
  rw[lA,lB]at hEq
  refine hEq.mono ?_
  rintro _ _ ⟨rfl,rfl⟩
  refine⟨_,rfl,fun hne=>?_,fun heq=>?_⟩
  ·have hne:fxB s xN now j≠fxB s xK kept j:=of_decide_eq_false hne
   intro b57 H58 hn57
   have hok:writeE.ok H43 [.int .i64 (j:Int),.slice ai 128 128] ((j:Int),fxB s xN now j):=⟨ai,128,128,rfl,by rw[lA]at hsA;exact hsA,fun q hq=>by have:=hbi q hq;omega⟩
   refine hms.push (w:=32) (e':=162) (z:=[.int .i64 0,.slice none 0 0]) (fun q hq hm=>by have:=hfa q hm;have:=hGlt q hq;omega) hok (fun q hq=>?_) rfl (by omega) (R:=fun a53 c54 H55=>In64 ((j:Int)+1)∧(∃j':Nat,(j:Int)+1=j'∧j'≤nN∧Seq writeE H55 G a53 (l40+1) c54 (trnA (fxB s xN now) (fxB s xK kept) j')∧Ext [] H33 H55∧(∀q∈blkOf a53,H33.size≤q))∧((nN:Int) - ((j:Int)+1)).toNat<((nN:Int) - (j:Int)).toNat) ?_ b57 H58 hn57
   ·have hq:q∈blkOf ai:=hq
    have:=hbi q hq
    exact .inr (by omega)
   ·intro a' c' H' g1 g2 g3
    refine⟨by unfold In64;omega,⟨j+1,rfl,by omega,by rw[trnA_succ,if_neg hne];exact g1,hx43.trans' g2 (fun i hi=>.inl (hfa i hi)),fun q hq=>?_⟩,by omega⟩
    rcases g3 q hq with h|h
    ·exact hfa q h
    ·omega
  ·have heq:fxB s xN now j=fxB s xK kept j:=by
    by_cases e:fxB s xN now j=fxB s xK kept j
    ·exact e
    ·exact absurd (decide_eq_false e) heq
   exact⟨by unfold In64;omega,⟨j+1,rfl,by omega,by rw[trnA_succ,if_pos heq,List.append_nil];exact hms,hx43,hfa⟩,by dsimp only;omega⟩
 have ej:j=nN:=by omega
 subst ej
 have hx0_43:=hx1533.trans' hx43 (by simp)
 have hb43:=hS.blk.ext hx0_43 (by simp)
 have cf:∀{K:Heap},Ext [] H K→hcell K ps 4=some (.int .i64 (j:Int)):=fun {K} hx=>by rw[(hS.blk.ext hx (by simp)).cell,hf];rfl
 refine⟨ps,0,rfl,_,cf hx0_43,fun a l c i K=>∃i':Nat,i=j+i'∧j+i'≤N∧Seq writeE K G a l c (trnA (fxB s xN now) (fxB s xK kept) j++trnB now kept j i')∧Ext [] H33 K∧(∀q∈blkOf a,H33.size≤q),fun _ _ _ i _=>(N - i).toNat,⟨0,by simp,by omega,by simpa[trnB]using hms,hx43,hfa⟩,?_⟩
 clear hms hnum hfa hx43 hcn z43 hx0_43 hb43
 rintro a69 l70 c71 _ H73 ⟨i,rfl,hi,hms,hx73,hfa⟩
 have hnum:=hms.num
 rw[List.length_append]at hnum
 have hcn:=trnA_length (fxB s xN now) (fxB s xK kept) j
 have hcm:=trnB_length now kept j i
 have z73:=hx73.size
 have hx0:Ext [] H H73:=hx1533.trans' hx73 (by simp)
 have hb:=hS.blk.ext hx0 (by simp)
 have hnH:=hn.extP (M:=fun _=>False) hx0.anyP (fun _ _ h=>h) (fun _ _ h=>h)
 have hkH:=hk.extP (M:=fun _=>False) hx0.anyP (fun _ _ h=>h) (fun _ _ h=>h)
 refine⟨ps,0,rfl,_,by rw[hb.cell];rfl,fun hlt=>?_,fun hge=>?_⟩
 ·obtain⟨b0,c0,g0,s0,d0,l0⟩:=hnH.dat ((j+i:Nat):Int)
  obtain⟨b1,c1,g1,s1,d1,l1⟩:=hkH.dat ((j+i:Nat):Int)
  have ecast:(j:Int)+i=((j+i:Nat):Int):=by omega
  rw[ecast]at hlt ⊢
  refine⟨ps,0,rfl,_,by rw[hb.cell];rfl,x.mb,ml,rfl,hnH.map,b0,_,c0,g0.symm,ps,0,rfl,_,by rw[hb.cell];rfl,(getbm_ok hnH.bits _).mono ?_⟩
  rintro _ _ ⟨rfl,rfl⟩
  have hin:∀st:PSt,st.bits.length=N→(decide ((0:Int)≤((j+i:Nat):Int)) && (decide (((j+i:Nat):Int)<(st.bits.length:Int)) && onB st.bits (((j+i:Nat):Int)).toNat))=onB st.bits (j+i):=fun st hl=>by
   rw[hl,Int.toNat_natCast,decide_eq_true (by omega:(0:Int)≤((j+i:Nat):Int)),decide_eq_true hlt];simp
  rw[hin now h1.bits]
  have hs1:=(trnB_succ now kept j i).1
  have hs2:=(trnB_succ now kept j i).2
  have hnext:∀{a':Option Addr} {c' l':Nat} {K:Heap},Seq writeE K G a' l' c' (trnA (fxB s xN now) (fxB s xK kept) j++trnB now kept j (i+1))→Ext [] H33 K→(∀q∈blkOf a',H33.size≤q)→(∃i':Nat,((j+i:Nat):Int)+1=j+i'∧j+i'≤N∧Seq writeE K G a' l' c' (trnA (fxB s xN now) (fxB s xK kept) j++trnB now kept j i')∧Ext [] H33 K∧(∀q∈blkOf a',H33.size≤q))∧((N:Int) - (((j+i:Nat):Int)+1)).toNat<((N:Int) - ((j+i:Nat):Int)).toNat:=fun g1 g2 g3=>⟨⟨i+1,by omega,by omega,g1,g2,g3⟩,by omega⟩
  have hpush:datT now kept (j+i)→∀b57 H58,New H73 b57 [.int .i64 ((j+i:Nat):Int),.slice b0 (datO now ((j+i:Nat):Int)).length c0] 162 H58→∃old new:List Value,SRow H58 2 l70 (.slice a69 l70 c71) old∧SRow H58 2 1 (.slice (some ⟨b57,0,none⟩) 1 1) new∧(∀u∈new,Value.oneCell' u=true)∧(l70+1)*32≤140737488355328∧(l70+1≤c71→roomOf H58 a69 (l70*2) (1*2))∧∀a' c' K,App H58 2 162 [.int .i64 0,.slice none 0 0] a69 l70 c71 old new 1 a' c' K →
    In64 (((j+i:Nat):Int)+1)∧(∃i':Nat,((j+i:Nat):Int)+1=j+i'∧j+i'≤N∧Seq writeE K G a' (l70+1) c' (trnA (fxB s xN now) (fxB s xK kept) j++trnB now kept j i')∧Ext [] H33 K∧(∀q∈blkOf a',H33.size≤q))∧((N:Int) - (((j+i:Nat):Int)+1)).toNat<((N:Int) - ((j+i:Nat):Int)).toNat:=fun hT b57 H58 hn57=>by
   have hok:writeE.ok H73 [.int .i64 ((j+i:Nat):Int),.slice b0 (datO now ((j+i:Nat):Int)).length c0] (((j+i:Nat):Int),datO now ((j+i:Nat):Int)):=⟨b0,_,c0,rfl,s0,fun q hq=>by have:=hFd15 q (d0 q hq);omega⟩
   refine hms.push (w:=32) (e':=162) (z:=[.int .i64 0,.slice none 0 0]) (fun q hq hm=>by have:=hfa q hm;have:=hGlt q hq;omega) hok (fun q hq=>.inl (d0 q hq)) rfl (by omega) ?_ b57 H58 hn57
   intro a' c' K k1 k2 k3
   refine⟨by unfold In64;omega,hnext (by rw[hs1 hT,←List.append_assoc];exact k1) (hx73.trans' k2 (fun i hi=>.inl (hfa i hi))) fun q hq=>?_⟩
   rcases k3 q hq with h|h
   ·exact hfa q h
   ·omega
  have hskip:¬datT now kept (j+i)→In64 (((j+i:Nat):Int)+1)∧(∃i':Nat,((j+i:Nat):Int)+1=j+i'∧j+i'≤N∧Seq writeE H73 G a69 l70 c71 (trnA (fxB s xN now) (fxB s xK kept) j++trnB now kept j i')∧Ext [] H33 H73∧(∀q∈blkOf a69,H33.size≤q))∧((N:Int) - (((j+i:Nat):Int)+1)).toNat<((N:Int) - ((j+i:Nat):Int)).toNat:=fun hT=>⟨by unfold In64;omega,hnext (by rw[hs2 hT];exact hms) hx73 hfa⟩
  refine⟨_,rfl,fun hon=>?_,fun hoff=>hskip fun hT=>by rw[hT.1]at hoff;cases hoff⟩
  refine⟨ps,0,rfl,_,by rw[hb.cell];rfl,(getbm_ok hkH.bits _).mono ?_⟩
  rintro _ _ ⟨rfl,rfl⟩
  rw[hin kept h2.bits]
  refine⟨_,rfl,fun hoff=>hpush ⟨hon,.inl hoff⟩,fun hon2=>?_⟩
  refine⟨ps,0,rfl,_,by rw[hb.cell];rfl,y.mb,mk,rfl,hkH.map,b1,_,c1,g1.symm,(eqB_ok (H:=H73) (by omega) s0 s1).mono ?_⟩
  rintro _ _ ⟨rfl,rfl⟩
  refine⟨_,rfl,fun hne=>hpush ⟨hon,.inr (of_decide_eq_false hne)⟩,fun heq=>hskip fun hT=>?_⟩
  rcases hT.2 with h|h
  ·exact hon2 h
  ·exact heq (decide_eq_false h)
 ·have ei:i=N - j:=by omega
  subst ei
  refine⟨a69,c71,xN,xK,hxN,hxK,?_,?_,fun q hq=>by have:=hfa q hq;omega,hx0⟩
  ·unfold turnW
   rw[hf,Int.toNat_natCast,List.length_append,hnum]
  ·unfold turnW
   rw[hf,Int.toNat_natCast,List.length_append,hnum]
   exact hms.mono fun q _ hq=>hq.imp (fun h=>h) fun h=>by omega
end
end Go.Proofs
end
section
open Go Go.Vc Go.Proofs.Bx
namespace Go.Proofs
section
variable {l:List Pc} {N:Nat}
theorem right_ok(h:RightP l 0 N){p:Pc}(hp:p∈l):1≤p.c∧0≤p.s∧p.s<N∧p.c≤N - p.s:=by
 obtain⟨i,hi,rfl⟩:=List.mem_iff_getElem.1 hp
 exact(h.2 i _ (List.getElem?_eq_getElem hi)).1
theorem right_small(h:RightP l 0 N)(hN:N≤4096):SmallP l:=⟨h.1,fun i p hp=>by
 have:=right_ok h (List.mem_of_getElem? hp)
 exact⟨this.1,by omega⟩⟩
theorem right_I(h:RightP l 0 N)(hN:N≤4096):Bx.blocksW l=blocksI l:=blocksW_I fun p hp=>by
 have:=right_ok h hp
 omega
theorem count_right(h:RightP l 0 N)(hN:N≤4096):countF l=(blocksI l).length:=by
 unfold countF
 rw[←decP_true (right_small h hN),if_pos rfl,←right_I h hN]
 exact(blocksW_total (small_pos (right_small h hN))).symm
theorem at_right(h:RightP l 0 N)(hN:N≤4096){k:Nat}(hk:k<(blocksI l).length):(atF l (k:Int)).1=(blocksI l)[k]:=by
 have ht:=blocksW_total (small_pos (right_small h hN))
 rw[right_I h hN]at ht
 rw[atF_yes ⟨right_small h hN,by omega,by omega⟩,right_I h hN,Int.toNat_natCast,List.getD_eq_getElem?_getD,List.getElem?_eq_getElem hk]
 rfl
theorem putN_at(h:RightP l 0 N)(hN:N≤4096)(d:Int→Option Octs)(xs:Octs):∀(n k:Nat)(_:n≤(blocksI l).length)(hk:k<n),putN d l xs n ((blocksI l)[k]'(by omega))=some (partO xs k)
 | 0,k,_,hk=>by omega
 | n+1,k,hn,hk=>by
  rw[putN]
  dsimp only
  have e:=at_right h hN (k:=n) (by omega)
  by_cases ek:k=n
  ·subst ek;rw[if_pos e.symm]
  ·rw[if_neg (fun h'=>ek ?_)]
   ·exact putN_at h hN d xs n k (by omega) (by omega)
   ·rw[e]at h'
    exact(List.getElem_inj (right_nodup h)).1 h'
theorem putN_off(h:RightP l 0 N)(hN:N≤4096)(d:Int→Option Octs)(xs:Octs){j:Int}(hj:j∉blocksI l):∀n:Nat,n≤(blocksI l).length→putN d l xs n j=d j
 | 0,_=>rfl
 | n+1,hn=>by
  rw[putN]
  dsimp only
  rw[if_neg (fun e=>hj ?_),putN_off h hN d xs hj n (by omega)]
  rw[e,at_right h hN (k:=n) (by omega)]
  exact List.getElem_mem _
end
theorem catD_flat(d:Nat→Octs):∀n,catD d n=((List.range n).map d).flatten
 | 0=>rfl
 | n+1=>by rw[catD,catD_flat d n,List.range_succ,List.map_append,List.flatten_append];simp
theorem catD_congr{d e:Nat→Octs}{n:Nat}(h:∀k,k<n→d k=e k):catD d n=catD e n:=by
 rw[catD_flat,catD_flat]
 congr 1
 exact List.map_congr_left fun k hk=>h k (List.mem_range.1 hk)
theorem catD_part(xs:Octs):(catD (partO xs) (blocksF xs.length).toNat).take xs.length=xs:=by
 rw[catD_flat]
 have hl:=padO_length xs
 have e:(blocksF (xs.length:Int)).toNat=(xs.length+127) / 128:=by rw[blocksF_nat,Int.toNat_natCast]
 rw[e]
 have:=pieces_all 128 ((xs.length+127) / 128) (padO xs) hl
 have e2:(List.range ((xs.length+127) / 128)).map (partO xs)=(List.range ((xs.length+127) / 128)).map (fun k=>((padO xs).drop (k*128)).take 128):=rfl
 rw[e2,this]
 unfold padO
 rw[List.take_left' rfl]
theorem partO_length(xs:Octs){k:Nat}(hk:k<(blocksF xs.length).toNat):(partO xs k).length=128:=by
 have hl:=padO_length xs
 rw[blocksF_nat,Int.toNat_natCast]at hk
 unfold partO
 rw[List.length_take,List.length_drop,hl]
 have:(k+1)*128≤(xs.length+127) / 128*128:=Nat.mul_le_mul_right _ hk
 omega
theorem bytesP_congr{st st':PSt}{y:PSl}{N:Nat}(hN:N≤4096)(hr:RightP y.ps 0 N)(h:∀b∈blocksI y.ps,st'.data b=st.data b):bytesP st' y=bytesP st y:=by
 unfold bytesP
 congr 1
 refine catD_congr fun k hk=>?_
 rw[count_right hr hN]at hk
 rw[at_right hr hN (by omega),h _ (List.getElem_mem _)]
theorem mem_allBlk{l:List PSl}{x:Int}:x∈allBlk l↔∃(j:Nat)(y:PSl),l[j]?=some y∧x∈blocksI y.ps:=by
 unfold allBlk
 rw[List.mem_flatten]
 constructor
 ·rintro⟨b,hb,hx⟩
  obtain⟨y,hy,rfl⟩:=List.mem_map.1 hb
  obtain⟨j,hj⟩:=List.mem_iff_getElem?.1 hy
  exact⟨j,y,hj,hx⟩
 ·rintro⟨j,y,hj,hx⟩
  exact⟨_,List.mem_map.2 ⟨y,List.mem_of_getElem? hj,rfl⟩,hx⟩
theorem mem_allSet{l:List PSl}{k:Nat}{s y':PSl}(hk:l[k]?=some s){x:Int}:x∈allBlk (l.set k y')↔x∈blocksI y'.ps∨∃(j:Nat)(y:PSl),j≠k∧l[j]?=some y∧x∈blocksI y.ps:=by
 have hlt:=(List.getElem?_eq_some_iff.1 hk).1
 rw[mem_allBlk]
 constructor
 ·rintro⟨j,y,hj,hx⟩
  by_cases e:j=k
  ·subst e
   rw[List.getElem?_set_self hlt]at hj
   cases hj
   exact .inl hx
  ·rw[List.getElem?_set_ne (Ne.symm e)]at hj
   exact .inr ⟨j,y,e,hj,hx⟩
 ·rintro (hx|⟨j,y,e,hj,hx⟩)
  ·exact⟨k,y',List.getElem?_set_self hlt,hx⟩
  ·exact⟨j,y,by rw[List.getElem?_set_ne (Ne.symm e)];exact hj,hx⟩
structure Leg(N:Nat) (s:Int) (st:PSt):Prop where
 slots:st.slots.length=s.toNat
 bits:st.bits.length=N
 held:Held st.bits (st.slots.map (·.ps))
 on:∀i:Nat,i<N→(onB st.bits i=true↔(i:Int)<firstN N s∨(i:Int)∈allBlk st.slots)
 lo:∀b∈allBlk st.slots,firstN N s≤b
 sl:∀(k:Nat) (y:PSl),st.slots[k]?=some y→0≤y.refs∧y.refs<65536∧0≤y.size∧y.size≤524288∧countF y.ps=blocksF y.size∧(y.refs=0→y.size=0∧y.ps=[])
 data:∀b∈allBlk st.slots,∃o,st.data b=some o∧o.length=128
 num:0≤firstN N s∧firstN N s≤N∧N≤4096
section
variable {N:Nat} {s:Int} {st:PSt}
theorem Leg.right(h:Leg N s st){k:Nat}{y:PSl}(hk:st.slots[k]?=some y):RightP y.ps 0 N:=by
 have:=h.held.right y.ps (List.mem_map_of_mem (List.mem_of_getElem? hk))
 rwa[h.bits]at this
theorem Leg.fine(h:Leg N s st):Fine st (firstN N s):=by
 have hn:=h.num
 exact⟨by rw[h.bits];omega,by omega,fun k y hk=>by rw[h.bits];exact h.right hk⟩
theorem Leg.few(h:Leg N s st):∀(k:Nat)(y:PSl),st.slots[k]?=some y→y.refs≤1000000:=fun k y hk=>by have:=h.sl k y hk;omega
theorem Leg.whole(h:Leg N s st):∀(k:Nat)(y:PSl),st.slots[k]?=some y→Whole st y∧y.size≤524288:=fun k y hk=>by
 have hs:=h.sl k y hk
 have hr:=h.right hk
 have hN:=h.num.2.2
 have hc:=count_right hr hN
 have hb:=countF_bd y.ps
 obtain⟨sz,hsz⟩:∃sz:Nat,y.size=sz:=⟨y.size.toNat,by omega⟩
 have hbl:=hs.2.2.2.2.1
 rw[hsz,blocksF_nat]at hbl
 refine⟨⟨hs.2.2.1,hb.2,by rw[hsz,hbl];omega,fun j hj=>?_⟩,hs.2.2.2.1⟩
 rw[at_right hr hN (k:=j) (by omega)]
 obtain⟨o,ho,_⟩:=h.data ((blocksI y.ps)[j]'(by omega)) (mem_allBlk.2 ⟨k,y,hk,List.getElem_mem _⟩)
 rw[ho];rfl
theorem Leg.small(h:Leg N s st){k:Nat}{y:PSl}(hk:st.slots[k]?=some y):SlSmall y:=by
 have hs:=h.sl k y hk
 have hr:=h.right hk
 have hN:=h.num.2.2
 exact⟨hr.1,hs.2.2.1,by omega,hs.1,hs.2.1,fun p hp=>by have:=right_ok hr hp;omega⟩
theorem Leg.shape(h:Leg N s st):Shape N s st:=⟨h.slots,h.bits,fun y hy=>by
 obtain⟨k,hk⟩:=List.mem_iff_getElem?.1 hy
 exact(h.small hk).ok⟩
theorem Leg.once(h:Leg N s st){i k:Nat}{y z:PSl}(hi:st.slots[i]?=some y)(hk:st.slots[k]?=some z)(hne:i≠k){x:Int}(hx:x∈blocksI y.ps):x∉blocksI z.ps:=
 h.held.once i k y.ps z.ps hne (by rw[List.getElem?_map,hi];rfl) (by rw[List.getElem?_map,hk];rfl) x hx
theorem Leg.read(h:Leg N s st){k:Nat}{y:PSl}(hk:st.slots[k]?=some y):(y.refs=0∧y.size=0∧y.ps=[])∨(y.refs≠0∧RightP y.ps (firstN N s) N∧countF y.ps=blocksF y.size):=by
 have hs:=h.sl k y hk
 by_cases e:y.refs=0
 ·exact .inl ⟨e,hs.2.2.2.2.2 e⟩
 ·refine .inr ⟨e,?_,hs.2.2.2.2.1⟩
  have hr:=h.right hk
  refine⟨hr.1,fun i p hp=>⟨?_,(hr.2 i p hp).2⟩⟩
  have ho:=right_ok hr (List.mem_of_getElem? hp)
  have:=h.lo p.s (mem_allBlk.2 ⟨k,y,hk,mem_blocksI_of (List.mem_of_getElem? hp) (by omega)⟩)
  exact⟨ho.1,this,ho.2.2.1,ho.2.2.2⟩
theorem nodup_flat:∀{l:List PSl},(∀y∈l,(blocksI y.ps).Nodup)→(∀(i k:Nat)(y z:PSl),i≠k→l[i]?=some y→l[k]?=some z→∀x∈blocksI y.ps,x∉blocksI z.ps)→(allBlk l).Nodup
 | [],_,_=>by simp[allBlk]
 | y::r,h1,h2=>by
  have e:allBlk (y::r)=blocksI y.ps++allBlk r:=by simp[allBlk]
  rw[e,List.nodup_append]
  refine⟨h1 y (by simp),nodup_flat (l:=r) (fun z hz=>h1 z (by simp[hz])) (fun i k a b hne hi hk=>h2 (i+1) (k+1) a b (by omega) (by simpa using hi) (by simpa using hk)),fun a ha b hb e=>?_⟩
  subst e
  obtain⟨j,z,hj,hx⟩:=mem_allBlk.1 hb
  exact h2 0 (j+1) y z (by omega) rfl (by simpa using hj) a ha hx
theorem Leg.nodup(h:Leg N s st):(allBlk st.slots).Nodup:=nodup_flat (fun y hy=>by
 obtain⟨k,hk⟩:=List.mem_iff_getElem?.1 hy
 exact right_nodup (h.right hk)) fun _ _ _ _ hne hi hk _ hx=>h.once hi hk hne hx
theorem Leg.inN(h:Leg N s st){b:Int}(hb:b∈allBlk st.slots):0≤b∧b<N:=by
 obtain⟨j,y,hj,hx⟩:=mem_allBlk.1 hb
 exact right_range (h.right hj) b hx
theorem Leg.bitsEq(h:Leg N s st):st.bits=setAll (firstB N (firstN N s)) (allBlk st.slots) true:=by
 obtain⟨n0,n1,n2⟩:=h.num
 have hin0:∀x∈((List.range (firstN N s).toNat).map fun (k:Nat)=>(k:Int)),0≤x∧x<((List.replicate (N:Int).toNat false).length:Int):=fun x hx=>by
  obtain⟨j,hj,rfl⟩:=List.mem_map.1 hx
  have:=List.mem_range.1 hj
  rw[List.length_replicate]
  omega
 have hl:(firstB N (firstN N s)).length=N:=by unfold firstB;rw[setAll_length,List.length_replicate,Int.toNat_natCast]
 apply List.ext_getElem?
 intro i
 by_cases hi:i<N
 ·have e1:st.bits[i]?=some (onB st.bits i):=by unfold onB;rw[List.getD_eq_getElem?_getD,List.getElem?_eq_getElem (by rw[h.bits];exact hi)];rfl
  have e2:(setAll (firstB N (firstN N s)) (allBlk st.slots) true)[i]?=some (onB (setAll (firstB N (firstN N s)) (allBlk st.slots) true) i):=by unfold onB;rw[List.getD_eq_getElem?_getD,List.getElem?_eq_getElem (by rw[setAll_length,hl];exact hi)];rfl
  rw[e1,e2]
  congr 1
  rw[onB_setAll _ _ _ (fun x hx=>by rw[hl];exact h.inN hx),Bool.eq_iff_iff,h.on i hi]
  have h0:onB (firstB N (firstN N s)) i=true↔(i:Int)<firstN N s:=by
   unfold firstB
   rw[onB_setAll _ _ _ hin0]
   by_cases hm:(i:Int)∈((List.range (firstN N s).toNat).map fun (k:Nat)=>(k:Int))
   ·rw[if_pos hm]
    obtain⟨j,hj,e⟩:=List.mem_map.1 hm
    have:=List.mem_range.1 hj
    exact⟨fun _=>by omega,fun _=>rfl⟩
   ·rw[if_neg hm]
    constructor
    ·intro hon
     unfold onB at hon
     simp only[List.getD_eq_getElem?_getD,List.getElem?_replicate]at hon
     split at hon<;>simp at hon
    ·intro hlt
     exact absurd (List.mem_map.2 ⟨i,List.mem_range.2 (by omega),rfl⟩) hm
  by_cases hm:(i:Int)∈allBlk st.slots
  ·rw[if_pos hm]
   exact⟨fun _=>rfl,fun _=>.inr hm⟩
  ·rw[if_neg hm,h0]
   exact⟨fun h'=>h'.resolve_right hm,.inl⟩
 ·rw[List.getElem?_eq_none (by rw[h.bits];omega),List.getElem?_eq_none (by rw[setAll_length,hl];omega)]
def Image(N:Nat)(s:Int)(st:PSt)(cur:Nat→Octs):Prop:=
 ∃xs,BytesAre st.bits xs∧(∀k:Nat,(k:Int)<firstN N s→cur k=fxB s xs st k)∧∀k:Nat,firstN N s≤k→k<N→onB st.bits k=true→cur k=datO st k
def nrm(N:Nat)(s:Int)(st:PSt):PSt:={st with data:=fun k=>if firstN N s≤k∧k<N∧onB st.bits k.toNat=true then some (datO st k)else none}
theorem Leg.load(h:Leg N s st)(hg:¬laidBad N s)(hr:firstN N s<N){cur:Nat→Octs}(hi:Image N s st cur):headN cur=s∧LoadOk N cur (nrm N s st):=by
 obtain⟨xs,h1,h2,h3⟩:=hi
 refine load_of (st:=nrm N s st) hg hr h.num.2.2 h1 h.bits h.slots h2 (fun y hy=>?_) h.nodup h.bitsEq ?_
 ·obtain⟨k,hk⟩:=List.mem_iff_getElem?.1 hy
  exact⟨h.small hk,h.read hk⟩
 ·funext k
  show(if _ then some (datO st k)else none)=_
  by_cases hc:firstN N s≤k∧k<N∧onB st.bits k.toNat=true
  ·have hc':firstN N s≤k∧k<N∧onB (nrm N s st).bits k.toNat=true:=hc
   rw[if_pos hc,if_pos hc',h3 k.toNat (by have:=h.num;omega) (by have:=h.num;omega) hc.2.2,show((k.toNat:Nat):Int)=k by have:=h.num;omega]
  ·have hc':¬(firstN N s≤k∧k<N∧onB (nrm N s st).bits k.toNat=true):=hc
   rw[if_neg hc,if_neg hc']
theorem nrm_data(h:Leg N s st){b:Int}(hb:b∈allBlk st.slots):(nrm N s st).data b=st.data b:=by
 have hin:=h.inN hb
 have hlo:=h.lo b hb
 obtain⟨o,ho,_⟩:=h.data b hb
 show(if _ then some (datO st b)else none)=_
 rw[if_pos ⟨hlo,hin.2,(h.on b.toNat (by omega)).2 (.inr (by rw[show((b.toNat:Nat):Int)=b by omega];exact hb))⟩]
 unfold datO
 rw[ho];rfl
theorem Leg.nrm(h:Leg N s st):Leg N s (nrm N s st):=⟨h.slots,h.bits,h.held,h.on,h.lo,h.sl,fun b hb=>by rw[nrm_data h hb];exact h.data b hb,h.num⟩
theorem nrm_bytes(h:Leg N s st){k:Nat}{y:PSl}(hk:st.slots[k]?=some y):bytesP (Go.Proofs.nrm N s st) y=bytesP st y:=
 bytesP_congr h.num.2.2 (h.right hk) fun _ hb=>nrm_data h (mem_allBlk.2 ⟨k,y,hk,hb⟩)
theorem Leg.set(h:Leg N s st){k:Nat}{y:PSl}(hk:st.slots[k]?=some y){y':PSl}{bits':List Bool}{data':Int→Option Octs}(hb:bits'.length=N)(hheld:Held bits' ((st.slots.map (·.ps)).set k y'.ps))
  (hon:∀i:Nat,i<N→(onB bits' i=true↔(i:Int)<firstN N s∨(i:Int)∈blocksI y'.ps∨∃(j:Nat) (z:PSl),j≠k∧st.slots[j]?=some z∧(i:Int)∈blocksI z.ps)) (hlo:∀b∈blocksI y'.ps,firstN N s≤b)
  (hsl:0≤y'.refs∧y'.refs<65536∧0≤y'.size∧y'.size≤524288∧countF y'.ps=blocksF y'.size∧(y'.refs=0→y'.size=0∧y'.ps=[])) (hd:∀b∈blocksI y'.ps,∃o,data' b=some o∧o.length=128)
  (hd2:∀b:Int,b∉blocksI y'.ps→data' b=st.data b):Leg N s {slots:=st.slots.set k y',bits:=bits',data:=data'}:=by
 have hlt:=(List.getElem?_eq_some_iff.1 hk).1
 refine⟨by simp only[List.length_set];exact h.slots,hb,by simp only[List.map_set];exact hheld,fun i hi=>?_,fun b hb'=>?_,fun j z hj=>?_,fun b hb'=>?_,h.num⟩
 ·rw[hon i hi,mem_allSet hk]
 ·rcases (mem_allSet hk).1 hb' with hx|⟨j,z,_,hj,hx⟩
  ·exact hlo b hx
  ·exact h.lo b (mem_allBlk.2 ⟨j,z,hj,hx⟩)
 ·by_cases e:j=k
  ·subst e
   simp only[List.getElem?_set_self hlt,Option.some.injEq]at hj
   subst hj
   exact hsl
  ·simp only[List.getElem?_set_ne (Ne.symm e)]at hj
   exact h.sl j z hj
 ·by_cases hm:b∈blocksI y'.ps
  ·exact hd b hm
  ·rcases (mem_allSet hk).1 hb' with hx|⟨j,z,_,hj,hx⟩
   ·exact absurd hx hm
   ·simp only[hd2 b hm]
    exact h.data b (mem_allBlk.2 ⟨j,z,hj,hx⟩)
theorem Leg.setRefs(h:Leg N s st){k:Nat}{y:PSl}(hk:st.slots[k]?=some y){r:Int}(hr:0<r∧r<65536):Leg N s {st with slots:=st.slots.set k {y with refs:=r}}:=by
 have hs:=h.sl k y hk
 refine h.set hk h.bits ?_ (fun i hi=>?_) (fun b hb=>h.lo b (mem_allBlk.2 ⟨k,y,hk,hb⟩)) ⟨by show 0≤r;omega,hr.2,hs.2.2.1,hs.2.2.2.1,hs.2.2.2.2.1,fun e=>by have e:r=0:=e;omega⟩ (fun b hb=>h.data b (mem_allBlk.2 ⟨k,y,hk,hb⟩)) (fun _ _=>rfl)
 ·have e:(st.slots.map (·.ps)).set k y.ps=st.slots.map (·.ps):=by
   apply List.ext_getElem?
   intro j
   by_cases ej:j=k
   ·subst ej
    rw[List.getElem?_set_self (by rw[List.length_map];exact(List.getElem?_eq_some_iff.1 hk).1),List.getElem?_map,hk];rfl
   ·rw[List.getElem?_set_ne (Ne.symm ej)]
  show Held st.bits ((st.slots.map (·.ps)).set k y.ps)
  rw[e];exact h.held
 ·rw[h.on i hi,mem_allBlk]
  refine or_congr Iff.rfl ⟨?_,?_⟩
  ·rintro⟨j,z,hj,hx⟩
   by_cases e:j=k
   ·subst e;rw[hk]at hj;cases hj;exact .inl hx
   ·exact .inr ⟨j,z,e,hj,hx⟩
  ·rintro (hx|⟨j,z,_,hj,hx⟩)
   ·exact⟨k,y,hk,hx⟩
   ·exact⟨j,z,hj,hx⟩
theorem Leg.shrinkOn(h:Leg N s st){k:Nat}{y:PSl}(hk:st.slots[k]?=some y)(n:Nat){i:Nat}(hi:i<N):onB (setAll st.bits ((blocksI y.ps).drop n) false) i=true↔(i:Int)<firstN N s∨(i:Int)∈(blocksI y.ps).take n∨∃(j:Nat)(z:PSl),j≠k∧st.slots[j]?=some z∧(i:Int)∈blocksI z.ps:=by
 have hr:=h.right hk
 have hnd:=right_nodup hr
 rw[onB_setAll _ _ _ (fun x hx=>by rw[h.bits];exact right_range hr x (List.mem_of_mem_drop hx))]
 by_cases hm:(i:Int)∈(blocksI y.ps).drop n
 ·rw[if_pos hm]
  have hmy:=List.mem_of_mem_drop hm
  refine⟨fun h=>(by cases h),fun h'=>?_⟩
  exfalso
  rcases h' with h1|h1|⟨j,z,hne,hj,h1⟩
  ·have:=h.lo _ (mem_allBlk.2 ⟨k,y,hk,hmy⟩);omega
  ·rw[←List.take_append_drop n (blocksI y.ps),List.nodup_append]at hnd
   exact hnd.2.2 _ h1 _ hm rfl
  ·exact h.once hk hj (Ne.symm hne) hmy h1
 ·rw[if_neg hm,h.on i hi,mem_allBlk]
  refine or_congr Iff.rfl ⟨?_,?_⟩
  ·rintro⟨j,z,hj,hx⟩
   by_cases e:j=k
   ·subst e;rw[hk]at hj;cases hj
    rw[←List.take_append_drop n (blocksI y.ps)]at hx
    rcases List.mem_append.1 hx with hx|hx
    ·exact .inl hx
    ·exact absurd hx hm
   ·exact .inr ⟨j,z,e,hj,hx⟩
  ·rintro (hx|⟨j,z,_,hj,hx⟩)
   ·exact⟨k,y,hk,List.mem_of_mem_take hx⟩
   ·exact⟨j,z,hj,hx⟩
theorem Leg.drop(h:Leg N s st){k:Nat}{y:PSl}(hk:st.slots[k]?=some y):Leg N s {st with slots:=st.slots.set k ⟨0,0,[]⟩,bits:=setAll st.bits (blocksI y.ps) false}:=by
 have hh:=h.held.shrink (i:=k) (l:=y.ps) (by rw[List.getElem?_map,hk];rfl) 0
 have e0:piecesF ((blocksI y.ps).take (0:Int).toNat)=[]:=by simp[piecesF]
 rw[e0]at hh
 refine h.set hk (by rw[setAll_length];exact h.bits) hh (fun i hi=>?_) (fun b hb=>by simp[blocksI]at hb) ⟨by simp,by simp,by simp,by simp,by rw[countF_nil];rfl,fun _=>⟨rfl,rfl⟩⟩ (fun b hb=>by simp[blocksI]at hb) (fun _ _=>rfl)
 have:=h.shrinkOn hk 0 hi
 rw[List.drop_zero,List.take_zero]at this
 exact this
theorem Leg.fill(h:Leg N s st){k:Nat}{y:PSl}(hk:st.slots[k]?=some y)(hy:0<y.refs){xs:Octs}(hx:xs.length≤524288){ps':List Pc}{bits':List Bool}(hf:FillTo (firstN N s) st y (blocksF xs.length) ps' bits') :
  Leg N s (fillSt st k y xs ps' bits')∧bytesP (fillSt st k y xs ps' bits') ⟨xs.length,y.refs,ps'⟩=xs∧∀(j:Nat) (z:PSl),j≠k→st.slots[j]?=some z→bytesP (fillSt st k y xs ps' bits') z=bytesP st z:=by
 have hs:=h.sl k y hk
 have hr:=h.right hk
 have hN:=h.num.2.2
 have hc:=count_right hr hN
 have hkm:(st.slots.map (·.ps))[k]?=some y.ps:=by rw[List.getElem?_map,hk];rfl
 have hb0:0≤blocksF (xs.length:Int):=by rw[blocksF_nat];omega
 obtain⟨n,hn⟩:∃n:Nat,blocksF (xs.length:Int)=n:=⟨_,(Int.toNat_of_nonneg hb0).symm⟩
 have key:bits'.length=N∧Held bits' ((st.slots.map (·.ps)).set k ps')∧(blocksI ps').length=n∧(∀b∈blocksI ps',firstN N s≤b) ∧
   ∀i:Nat,i<N→(onB bits' i=true↔(i:Int)<firstN N s∨(i:Int)∈blocksI ps'∨∃(j:Nat) (z:PSl),j≠k∧st.slots[j]?=some z∧(i:Int)∈blocksI z.ps):=by
  unfold FillTo at hf
  rw[hn,hc]at hf
  rcases hf with⟨h1,rfl,rfl⟩|⟨h1,h2,rfl,rfl⟩|⟨h1,rfl,rfl⟩
  ·have hblk:blocksI (piecesF ((blocksI y.ps).take (n:Int).toNat))=(blocksI y.ps).take (n:Int).toNat:=(piecesF_spec _).2.2
   refine⟨by rw[setAll_length];exact h.bits,h.held.shrink hkm n,by rw[hblk,List.length_take];omega,fun b hb=>?_,fun i hi=>?_⟩
   ·rw[hblk]at hb
    exact h.lo b (mem_allBlk.2 ⟨k,y,hk,List.mem_of_mem_take hb⟩)
   ·rw[hblk];exact h.shrinkOn hk _ hi
  ·have hblk:blocksI (growF st.bits y.ps (firstN N s) ((n:Int) - (blocksI y.ps).length))=blocksI y.ps++foundF st.bits (firstN N s) ((n:Int) - (blocksI y.ps).length).toNat:=(piecesF_spec _).2.2
   have hfs:∀x∈foundF st.bits (firstN N s) ((n:Int) - (blocksI y.ps).length).toNat,0≤x∧x<st.bits.length∧onB st.bits x.toNat=false:=fun x hx=>found_spec hx
   refine⟨by rw[setAll_length];exact h.bits,h.held.grow hkm h2,by rw[hblk,List.length_append,h2.2.2.1];omega,fun b hb=>?_,fun i hi=>?_⟩
   ·rw[hblk]at hb
    rcases List.mem_append.1 hb with hb|hb
    ·exact h.lo b (mem_allBlk.2 ⟨k,y,hk,hb⟩)
    ·have:=hfs b hb
     have hno:¬b<firstN N s:=fun hlt=>by
      have:=(h.on b.toNat (by rw[h.bits]at this;omega)).2 (.inl (by omega))
      rw[(hfs b hb).2.2]at this
      cases this
     omega
   ·rw[hblk,onB_setAll _ _ _ (fun x hx=>⟨(hfs x hx).1,(hfs x hx).2.1⟩)]
    have hon:=h.on i hi
    rw[mem_allBlk]at hon
    by_cases hm:(i:Int)∈foundF st.bits (firstN N s) ((n:Int) - (blocksI y.ps).length).toNat
    ·rw[if_pos hm]
     exact⟨fun _=>.inr (.inl (List.mem_append_right _ hm)),fun _=>rfl⟩
    ·rw[if_neg hm,hon]
     refine or_congr Iff.rfl ⟨?_,?_⟩
     ·rintro⟨j,z,hj,hx⟩
      by_cases e:j=k
      ·subst e;rw[hk]at hj;cases hj;exact .inl (List.mem_append_left _ hx)
      ·exact .inr ⟨j,z,e,hj,hx⟩
     ·rintro (hx|⟨j,z,_,hj,hx⟩)
      ·rcases List.mem_append.1 hx with hx|hx
       ·exact⟨k,y,hk,hx⟩
       ·exact absurd hx hm
      ·exact⟨j,z,hj,hx⟩
  ·have hl:=h.setRefs hk (r:=1) (by omega)
   have e:(st.slots.map (·.ps)).set k y.ps=st.slots.map (·.ps):=by
    apply List.ext_getElem?
    intro j
    by_cases ej:j=k
    ·subst ej
     rw[List.getElem?_set_self (by rw[List.length_map];exact(List.getElem?_eq_some_iff.1 hk).1),hkm]
    ·rw[List.getElem?_set_ne (Ne.symm ej)]
   refine⟨h.bits,by rw[e];exact h.held,by omega,fun b hb=>h.lo b (mem_allBlk.2 ⟨k,y,hk,hb⟩),fun i hi=>?_⟩
   have:=hl.on i hi
   rw[mem_allSet hk]at this
   exact this
 obtain⟨k1,k2,k3,k4,k5⟩:=key
 have hlt:=(List.getElem?_eq_some_iff.1 hk).1
 have hr':RightP ps' 0 N:=by
  have:=k2.right ps' (List.mem_iff_getElem?.2 ⟨k,List.getElem?_set_self (by rw[List.length_map];exact hlt)⟩)
  rwa[k1]at this
 have hc':=count_right hr' hN
 have hnN:(blocksF (xs.length:Int)).toNat=n:=by omega
 have hat:∀i (hi:i<n),putN st.data ps' xs n ((blocksI ps')[i]'(by omega))=some (partO xs i):=fun i hi=>putN_at hr' hN st.data xs n i (by omega) hi
 have hoff:∀b,b∉blocksI ps'→putN st.data ps' xs n b=st.data b:=fun b hb=>putN_off hr' hN st.data xs hb n (by omega)
 refine⟨h.set hk (y':=⟨xs.length,y.refs,ps'⟩) k1 k2 k5 k4 ⟨hs.1,hs.2.1,by simp only;omega,by simp only;omega,by simp only;rw[hc',k3,hn],fun e=>by simp only at e;omega⟩ (fun b hb=>?_) (fun b hb=>?_),?_,fun j z hne hj=>?_⟩
 ·rw[hnN]
  obtain⟨i,hi,rfl⟩:=List.mem_iff_getElem.1 hb
  exact⟨_,hat i (by rw[←k3];exact hi),partO_length xs (by rw[k3]at hi;omega)⟩
 ·rw[hnN];exact hoff b hb
 ·unfold bytesP
  simp only[hc',k3,Int.toNat_natCast]
  have e:catD (fun i=>((fillSt st k y xs ps' bits').data (atF ps' (i:Int)).1).getD []) n=catD (partO xs) n:=catD_congr fun i hi=>by
   show(putN st.data ps' xs (blocksF (xs.length:Int)).toNat _).getD []=_
   rw[hnN,at_right hr' hN (by omega),hat i hi];rfl
  rw[e,←hnN]
  exact catD_part xs
 ·refine bytesP_congr hN (h.right hj) fun b hb=>?_
  show putN st.data ps' xs (blocksF (xs.length:Int)).toNat b=_
  rw[hnN]
  refine hoff b fun hm=>?_
  refine k2.once j k z.ps ps' hne ?_ (List.getElem?_set_self (by rw[List.length_map];exact hlt)) b hb hm
  rw[List.getElem?_set_ne (Ne.symm hne),List.getElem?_map,hj];rfl
end
theorem Leg.empty{N:Nat}{s:Int}(hg:¬laidBad N s)(hr:firstN N s<N)(hN:N≤4096):Leg N s (emptyP N s (firstN N s)):=by
 have h0:¬(s<1∨256<s∨(N:Int)<1):=hg
 have hbb:=bitsN_bd (N:=N) (by omega)
 have hfd:firstN (N:Int) s=1+bitsN N+(s+3) / 4:=rfl
 have hno:allBlk (emptyP N s (firstN N s)).slots=[]:=allBlk_none fun y hy=>by
  have:=List.eq_of_mem_replicate hy
  subst this;rfl
 have hsl:∀(k:Nat) (y:PSl),(emptyP N s (firstN N s)).slots[k]?=some y→y=⟨0,0,[]⟩:=fun k y hk=>List.eq_of_mem_replicate (List.mem_of_getElem? hk)
 refine⟨by simp[emptyP],by simp only[emptyP];rw[setAll_length,List.length_replicate,Int.toNat_natCast],⟨fun l hl=>?_,fun l hl x hx=>?_,fun i k l m _ hl _ x hx=>?_⟩,fun i hi=>?_,fun b hb=>by rw[hno]at hb;simp at hb,fun k y hk=>?_,fun b hb=>by rw[hno]at hb;simp at hb,by omega,by omega,hN⟩
 ·obtain⟨y,hy,rfl⟩:=List.mem_map.1 hl
  have:=List.eq_of_mem_replicate hy
  subst this
  exact right_nil' _ _
 ·obtain⟨y,hy,rfl⟩:=List.mem_map.1 hl
  have:=List.eq_of_mem_replicate hy
  subst this
  simp[blocksI]at hx
 ·obtain⟨y,hy,rfl⟩:=List.mem_map.1 (List.mem_of_getElem? hl)
  have:=List.eq_of_mem_replicate hy
  subst this
  simp[blocksI]at hx
 ·rw[hno]
  obtain⟨f,hf⟩:∃f:Nat,firstN (N:Int) s=f:=⟨(firstN (N:Int) s).toNat,by omega⟩
  simp only[emptyP,hf]
  rw[onB_setAll _ _ _ (fun x hx=>by
   obtain⟨j,hj,rfl⟩:=List.mem_map.1 hx
   have:=List.mem_range.1 hj
   rw[List.length_replicate]
   omega)]
  by_cases hm:(i:Int)∈((List.range (f:Int).toNat).map fun (k:Nat)=>(k:Int))
  ·rw[if_pos hm]
   obtain⟨j,hj,e⟩:=List.mem_map.1 hm
   have:=List.mem_range.1 hj
   exact⟨fun _=>.inl (by omega),fun _=>rfl⟩
  ·rw[if_neg hm]
   refine⟨fun h1=>?_,fun h1=>?_⟩
   ·unfold onB at h1
    simp only[List.getD_eq_getElem?_getD,List.getElem?_replicate]at h1
    split at h1<;>simp at h1
   ·rcases h1 with h1|h1
    ·exact absurd (List.mem_map.2 ⟨i,List.mem_range.2 (by omega),rfl⟩) hm
    ·simp at h1
 ·have:=hsl k y hk
  subst this
  exact⟨by simp,by simp,by simp,by simp,by rw[countF_nil];rfl,fun _=>⟨rfl,rfl⟩⟩
end Go.Proofs
end
section
open Go Go.Vc Go.Proofs.Bx
namespace Go.Proofs
theorem over_trnA(P Q:Nat→Octs)(base:Nat→Octs):∀(n k:Nat),overT base (trnA P Q n) k=if k<n∧P k≠Q k then P k else base k
 | 0,k=>by simp[trnA,overT,tAll,tGet]
 | n+1,k=>by
  rw[trnA_succ,over_app]
  by_cases h:P n=Q n
  ·rw[if_pos h]
   have e:overT (overT base (trnA P Q n)) []=overT base (trnA P Q n):=by funext j;simp[overT,tAll,tGet]
   rw[e,over_trnA P Q base n k]
   by_cases hk:k=n
   ·subst hk;rw[if_neg (by omega),if_neg (fun hh=>hh.2 h)]
   ·by_cases h2:k<n∧P k≠Q k
    ·rw[if_pos h2,if_pos ⟨by omega,h2.2⟩]
    ·rw[if_neg h2,if_neg (fun hh=>h2 ⟨by omega,hh.2⟩)]
  ·rw[if_neg h,overT_one]
   by_cases hk:k=n
   ·subst hk;rw[if_pos rfl,if_pos ⟨by omega,h⟩]
   ·rw[if_neg (by omega),over_trnA P Q base n k]
    by_cases h2:k<n∧P k≠Q k
    ·rw[if_pos h2,if_pos ⟨by omega,h2.2⟩]
    ·rw[if_neg h2,if_neg (fun hh=>h2 ⟨by omega,hh.2⟩)]
open Classical in
theorem over_trnB(now kept:PSt)(f:Nat)(base:Nat→Octs):∀(n k:Nat),overT base (trnB now kept f n) k=if f≤k∧k<f+n∧datT now kept k then datO now k else base k
 | 0,k=>by
  rw[if_neg (by omega)]
  simp[trnB,overT,tAll,tGet]
 | n+1,k=>by
  have ih:=over_trnB now kept f base n k
  by_cases h:datT now kept (f+n)
  ·rw[(trnB_succ now kept f n).1 h,over_app,overT_one]
   by_cases hk:k=f+n
   ·subst hk;rw[if_pos rfl,if_pos ⟨by omega,by omega,h⟩]
   ·rw[if_neg (by omega),ih]
    by_cases h2:f≤k∧k<f+n∧datT now kept k
    ·rw[if_pos h2,if_pos ⟨h2.1,by omega,h2.2.2⟩]
    ·rw[if_neg h2,if_neg (fun hh=>h2 ⟨hh.1,by omega,hh.2.2⟩)]
  ·rw[(trnB_succ now kept f n).2 h,ih]
   by_cases hk:k=f+n
   ·subst hk;rw[if_neg (by omega),if_neg (fun hh=>h hh.2.2)]
   ·by_cases h2:f≤k∧k<f+n∧datT now kept k
    ·rw[if_pos h2,if_pos ⟨h2.1,by omega,h2.2.2⟩]
    ·rw[if_neg h2,if_neg (fun hh=>h2 ⟨hh.1,by omega,hh.2.2⟩)]
open Classical in
theorem image_next{N:Nat}{s:Int}{now kept:PSt}{cur:Nat→Octs}(hf:0≤firstN N s∧firstN N s≤N)(h:Image N s kept cur){xN xK:Octs}(hN:BytesAre now.bits xN)(hK:BytesAre kept.bits xK):Image N s now (overT cur (turnW N s xN xK now kept)):=by
 obtain⟨xs,h1,h2,h3⟩:=h
 have e:=h1.one hK
 subst e
 obtain⟨f,hff⟩:∃f:Nat,firstN (N:Int) s=f:=⟨(firstN N s).toNat,by omega⟩
 have key:∀k:Nat,overT cur (turnW N s xN xs now kept) k=if f≤k∧k<N∧datT now kept k then datO now k else if k<f∧fxB s xN now k≠fxB s xs kept k then fxB s xN now k else cur k:=by
  intro k
  unfold turnW
  rw[hff,Int.toNat_natCast,over_app,over_trnB,over_trnA]
  by_cases h1:f≤k∧k<N∧datT now kept k
  ·rw[if_pos ⟨h1.1,by omega,h1.2.2⟩,if_pos h1]
  ·rw[if_neg (fun hh=>h1 ⟨hh.1,by omega,hh.2.2⟩),if_neg h1]
 refine⟨xN,hN,fun k hk=>?_,fun k hk1 hk2 hon=>?_⟩
 ·rw[key,if_neg (by omega)]
  by_cases hd:fxB s xN now k=fxB s xs kept k
  ·rw[if_neg (fun hh=>hh.2 hd),h2 k hk,hd]
  ·rw[if_pos ⟨by omega,hd⟩]
 ·rw[key]
  by_cases hd:datT now kept k
  ·rw[if_pos ⟨by omega,by omega,hd⟩]
  ·rw[if_neg (fun hh=>hd hh.2.2),if_neg (fun hh=>by omega)]
   have hk3:onB kept.bits k=true:=by
    cases e:onB kept.bits k with
    | true=>rfl
    | false=>exact absurd ⟨hon,.inl e⟩ hd
   rw[h3 k hk1 hk2 hk3]
   by_cases e:datO now k=datO kept k
   ·exact e.symm
   ·exact absurd ⟨hon,.inr e⟩ hd
theorem turn_may{N:Nat}{s:Int}{now kept:PSt}(hl:Leg N s now)(hg:¬laidBad N s){xN xK:Octs}(hN:BytesAre now.bits xN)(hne:turnW N s xN xK now kept≠[]):MayP (turnW N s xN xK now kept) (N:Int):=by
 have h0:¬(s<1∨256<s∨(N:Int)<1):=hg
 obtain⟨f,hff⟩:∃f:Nat,firstN (N:Int) s=f:=⟨(firstN N s).toNat,by have:=hl.num;omega⟩
 have hnum:=hl.num
 have fl:=(fix_length (N:=N) (s:=s) (xs:=xN) (sl:=now.slots) (by omega) (by rw[hN.len,hl.bits]) hl.slots hl.shape.ok).1
 rw[hff,Int.toNat_natCast]at fl
 have hA:∀w∈trnA (fxB s xN now) (fxB s xK kept) f,∃k:Nat,k<f∧w=((k:Int),fxB s xN now k):=fun w hw=>by
  unfold trnA at hw
  obtain⟨k,hk,e⟩:=List.mem_filterMap.1 hw
  split at e
  ·cases e
  ·cases e;exact⟨k,List.mem_range.1 hk,rfl⟩
 have hB:∀w∈trnB now kept f (N - f),∃k:Nat,f≤k∧k<N∧onB now.bits k=true∧w=((k:Int),datO now k):=fun w hw=>by
  unfold trnB at hw
  obtain⟨k,hk,e⟩:=List.mem_filterMap.1 hw
  split at e
  ·rename_i ht
   cases e
   have:=List.mem_range.1 hk
   exact⟨f+k,by omega,by omega,ht.1,rfl⟩
  ·cases e
 have hnodA:((trnA (fxB s xN now) (fxB s xK kept) f).map (·.1)).Nodup:=by
  have:((trnA (fxB s xN now) (fxB s xK kept) f).map (·.1)).Sublist ((List.range f).map fun (k:Nat)=>(k:Int)):=by
   unfold trnA
   rw[List.map_filterMap]
   have:∀l:List Nat,(l.filterMap fun k=>((if fxB s xN now k=fxB s xK kept k then none else some ((k:Int),fxB s xN now k)):Option Wr).map (·.1)).Sublist (l.map fun (k:Nat)=>(k:Int)):=fun l=>by
    induction l with
    | nil=>exact List.Sublist.refl _
    | cons a r ih=>
     rw[List.filterMap_cons,List.map_cons]
     split
     ·exact ih.cons _
     ·rename_i b e
      split at e
      ·cases e
      ·cases e;exact ih.cons_cons _
   exact this _
  exact this.nodup ((List.nodup_range).map _ fun a b h e=>h (by omega))
 have hnodB:((trnB now kept f (N - f)).map (·.1)).Nodup:=by
  have:((trnB now kept f (N - f)).map (·.1)).Sublist ((List.range (N - f)).map fun (k:Nat)=>((f+k:Nat):Int)):=by
   unfold trnB
   rw[List.map_filterMap]
   generalize List.range (N - f)=l
   induction l with
   | nil=>exact List.Sublist.refl _
   | cons a r ih=>
    rw[List.filterMap_cons,List.map_cons]
    split
    ·exact ih.cons _
    ·rename_i b e
     split at e
     ·cases e;exact ih.cons_cons _
     ·cases e
  exact this.nodup ((List.nodup_range).map _ fun a b h e=>h (by omega))
 unfold turnW at hne ⊢
 rw[hff,Int.toNat_natCast]at hne ⊢
 refine⟨hne,fun w hw=>?_,?_⟩
 ·rcases List.mem_append.1 hw with hw|hw
  ·obtain⟨k,hk,rfl⟩:=hA w hw
   refine⟨by simp only;omega,by simp only;omega,?_⟩
   show(fxB s xN now k).length=128
   unfold fxB
   rw[List.length_take,List.length_drop,fl]
   have:(k+1)*128≤f*128:=Nat.mul_le_mul_right _ hk
   omega
  ·obtain⟨k,hk1,hk2,hon,rfl⟩:=hB w hw
   refine⟨by simp only;omega,by simp only;omega,?_⟩
   have hm:(k:Int)∈allBlk now.slots:=((hl.on k hk2).1 hon).resolve_left (by omega)
   obtain⟨o,ho,hol⟩:=hl.data _ hm
   show(datO now k).length=128
   unfold datO
   rw[ho];exact hol
 ·rw[List.map_append,List.nodup_append]
  refine⟨hnodA,hnodB,fun a ha b hb e=>?_⟩
  obtain⟨w,hw,rfl⟩:=List.mem_map.1 ha
  obtain⟨w',hw',rfl⟩:=List.mem_map.1 hb
  obtain⟨k,hk,rfl⟩:=hA w hw
  obtain⟨k',hk',_,_,rfl⟩:=hB w' hw'
  simp only at e
  omega
theorem turn_length(N:Nat)(s:Int)(xN xK:Octs)(now kept:PSt)(h:0≤firstN N s∧firstN N s≤N):(turnW N s xN xK now kept).length≤N:=by
 unfold turnW
 have h1:=trnA_length (fxB s xN now) (fxB s xK kept) (firstN N s).toNat
 have h2:=trnB_length now kept (firstN N s).toNat (N - (firstN N s).toNat)
 rw[List.length_append]
 omega
section
variable {H0 H:Heap} {M:Nat→Prop} {ps pj pd n z B N:Nat} {s:Int} {now kept:PSt} {J:Jn} {D:Dev} {cur:Nat→Octs} {S S':(Nat→Octs)→Prop}
def FellS(H0 H:Heap)(M:Nat→Prop)(pd n z B:Nat)(S:(Nat→Octs)→Prop):Prop:=∃Fj D,DvIn H0 H Fj pd D n B∧Fell n z B D S∧(∀q,Fj q→M q)∧∀q,M q→H0.size≤q∧q<H.size
theorem over_nil(cur:Nat→Octs):overT cur []=cur:=by funext k;simp[overT,tAll,tGet]
set_option maxHeartbeats 2000000 in
theorem StL.commitR(h:StL H0 H M ps pj pd n z B N s now kept J D cur S)(hB:B≤600000000)(h1:Leg N s now)(h2:Leg N s kept)(hg:¬laidBad N s)(hr:firstN N s<N)(hSS:∀x,S x→S' x)(hS':∀xN xK,BytesAre now.bits xN→BytesAre kept.bits xK→S' (overT cur (turnW N s xN xK now kept))){R:Value→Heap→Prop}
  (r0:∀H' M' xN xK J' D',BytesAre now.bits xN→BytesAre kept.bits xK→Step H M H' M'→StL H0 H' M' ps pj pd n z (B+14100) N s now now J' D' (overT cur (turnW N s xN xK now kept)) S'→(D.fuse=-1→D'.fuse=-1)→R (.int .i64 0) H')
  (r5:∀H' M' xN xK,BytesAre now.bits xN→BytesAre kept.bits xK→Step H M H' M'→(z:Int)<needsN (turnW N s xN xK now kept).length→StL H0 H' M' ps pj pd n z (B+14100) N s kept kept J D cur S→R (.int .i64 5) H')
  (r4:∀H' M' xN xK,BytesAre now.bits xN→BytesAre kept.bits xK→Step H M H' M'→D.fuse≠-1→FellS H0 H' M' pd n z (B+14100) S'→R (.int .i64 4) H'):Does Tryz.prog 36 [.pointer (some ⟨ps,0,none⟩)] H R:=by
 have hnn:=h.num
 have hlo:=h.low
 obtain⟨Fj,Fx,Fy,Fd,x,y,hT,hJ,hM⟩:=h.ex
 have hdead:=hJ.live.lays.2.2.2.2.1
 have hps:M ps:=(hM ps).1 (.inr (.inr (.inr (.inr rfl))))
 have hpsl:=hT.blk.lt
 have hjl:=hT.jd.lt
 have hxl:=hT.now.lt
 have hyl:=hT.kept.lt
 have hz0:=hJ.jin.ext.size
 have hkeep:∀{K:Heap} {Fj':Nat→Prop} {J':Jn} {D':Dev} {B':Nat} {cur':Nat→Octs} {S1:(Nat→Octs)→Prop} {M1:Nat→Prop},Sto K Fj' Fx Fy Fd ps pj pd N s (bitsN N) (firstN N s) x y now kept J' D'→JL H0 K Fj' pj pd n z B' J' D' cur' S1→Step H M K M1→(∀q,Fj' q∨Fx q∨Fy q∨Fd q∨q=ps↔M1 q)→(∀q,M1 q→H0.size≤q) →
   (∀K' M',Step H M K' M'→StL H0 K' M' ps pj pd n z B' N s now now J' D' cur' S1→R (.int .i64 0) K') →
   ∃b18 o19:Nat,some (⟨ps,0,none⟩:Addr)=some (⟨b18,o19,none⟩:Addr)∧(∃a20:Option Addr,∃l21:Nat,∃c22:Nat,hcell K b18 (o19+5)=some (.slice a20 l21 c22)∧(∃p23:Option Addr,hcell K b18 ((o19+5)+1)=some (.pointer p23)∧(∃m24:Option Nat,hcell K b18 (((o19+5)+1)+1)=some (.map m24)∧(
    Does Tryz.prog 94 [(.agg #[(.slice a20 l21 c22),(.pointer p23),(.map m24)])] K fun v25 H26=>∃a27:Option Addr,∃l28:Nat,∃c29:Nat,∃p30:Option Addr,∃m31:Option Nat,v25=(.agg #[(.slice a27 l28 c29),(.pointer p30),(.map m31)])∧(
     ∃b32 o33:Nat,some (⟨ps,0,none⟩:Addr)=some (⟨b32,o33,none⟩:Addr)∧(Cells H26 b32 (o33+8) 3∧∀H34:Heap,Puts H26 b32 (o33+8) [(.slice a27 l28 c29),(.pointer p30),(.map m31)] H34→R (.int .i64 0) H34)))))):=by
  intro K Fj' J' D' B' cur' S1 M1 hT' hJ' hst hM1 hlo1 hR
  obtain⟨rl,ba,bc,ml,hn,ho⟩:=hT'.now
  refine⟨ps,0,rfl,x.a,x.n,x.c,by rw[hT'.blk.cell];rfl,some ⟨x.tb,0,none⟩,by rw[hT'.blk.cell];rfl,some x.mb,by rw[hT'.blk.cell];rfl,(copied_ok hn hT'.num.1 hT'.lt).mono ?_⟩
  rintro _ K1 ⟨x',ba',bc',ml',rfl,h9,hx9,hf9,hnn'⟩
  have hb9:=hT'.blk.ext hx9 (by simp)
  refine⟨_,_,_,_,_,rfl,ps,0,rfl,hb9.cells 3 8 (by simp[stoV,rstV]),fun K2 hp=>?_⟩
  have hb2:Blk K2 ps (stoV pj N s (bitsN N) (firstN N s) x x'):=hp.blk hb9 (by simp[stoV,rstV])
  have hx2:=hp.ext
  have hx:ExtP (fun q=>q=ps) K K2:=(hx9.anyP).trans (hx2.lift fun q _ hq=>by simpa using hq)
  have hKps:=hT'.blk.lt
  have z9:=hx9.size
  have zst:=hst.ext.size
  have hjl':=hT'.jd.lt
  have hxl':=hT'.now.lt
  have hN:∀q,K.size≤q→q≠ps:=fun q hq=>by omega
  have hn2:NowE K2 Fd x Fx now:=hT'.now.extP hx (fun q hq e=>hT'.sep.2.1 (e▸hq)) (fun q hq e=>hT'.sep.2.2.2 (e▸hq))
  have hk2:NowE K2 Fd x' (ownS x' ba') now:=⟨rl,ba',bc',ml',h9.extP (hx2.lift (N:=fun q=>q=ps) fun q _ hq=>by simpa using hq) (fun q hq=>hN q (hf9 q hq)) (fun q hq e=>hT'.sep.2.2.2 (e▸hq)),fun _=>Iff.rfl⟩
  have hSt:Sto K2 Fj' Fx (ownS x' ba') Fd ps pj pd N s (bitsN N) (firstN N s) x x' now now J' D':=⟨hb2,hT'.jd.ext hx (fun q hq e=>hT'.sep.1 (e▸hq)),hn2,hk2,⟨hT'.sep.1,hT'.sep.2.1,fun h=>by have:=hf9 ps h;omega,hT'.sep.2.2.2⟩,
   fun q hq=>⟨(hT'.sepJ q hq).1,fun h=>by have:=hf9 q h;have:=hjl' q hq;omega,(hT'.sepJ q hq).2.2⟩,fun q hq h=>by have:=hf9 q h;have:=hxl' q hq;omega,fun q hq h=>by have:=hf9 q hq;have:=hT'.lt q h;omega,fun q hq=>by have:=hT'.lt q hq;have:=hx.size;omega,⟨hT'.num.1,by rw[hnn'];exact hT'.num.1⟩⟩
  have hJL:JL H0 K2 Fj' pj pd n z B' J' D' cur' S1:=⟨⟨hSt.jd,hJ'.jin.wf,hJ'.jin.jwf,hJ'.jin.low,ext_low hJ'.jin.ext hx (fun q hq _=>by rw[hq];exact hlo ps hps)⟩,hJ'.live⟩
  refine hR K2 (fun q=>Fj' q∨Fx q∨ownS x' ba' q∨Fd q∨q=ps) ⟨hst.ext.trans' hx (fun q hq=>.inr (hq▸hps)),?_⟩ ⟨⟨Fj',Fx,ownS x' ba',Fd,x,x',hSt,hJL,fun _=>Iff.rfl⟩,?_,hnn⟩
  ·rintro q (hq|hq|hq|hq|hq)
   ·exact hst.reg q ((hM1 q).1 (.inl hq))
   ·exact hst.reg q ((hM1 q).1 (.inr (.inl hq)))
   ·have:=hf9 q hq;exact .inr (by omega)
   ·exact hst.reg q ((hM1 q).1 (.inr (.inr (.inr (.inl hq)))))
   ·exact hst.reg q ((hM1 q).1 (.inr (.inr (.inr (.inr hq)))))
  ·rintro q (hq|hq|hq|hq|hq)
   ·exact hlo1 q ((hM1 q).1 (.inl hq))
   ·exact hlo1 q ((hM1 q).1 (.inr (.inl hq)))
   ·have:=hf9 q hq;have:=hJ'.jin.ext.size;omega
   ·exact hlo1 q ((hM1 q).1 (.inr (.inr (.inr (.inl hq)))))
   ·exact hlo1 q ((hM1 q).1 (.inr (.inr (.inr (.inr hq)))))
 refine Fn_of_vc Tryz.mixed (CommitSV _ _ _) ?_
 refine⟨ps,0,rfl,some ⟨pj,0,none⟩,by rw[hT.blk.cell];rfl,(jdead_ok hT.jd).mono ?_⟩
 rintro _ _ ⟨rfl,rfl⟩
 rw[hdead]
 refine⟨_,rfl,fun h=>(by cases h),fun _=>(turned_ok hT h1.shape h2.shape h1.num.2.2 hg hr).mono ?_⟩
 rintro _ H8 ⟨a,c,xN,xK,hxN,hxK,rfl,hsq,hfr,hx8⟩
 have z8:=hx8.size
 have hT8:=hT.extP (P:=fun _=>False) hx8.anyP (fun _ _ h=>h)
 have hJ8:=hJ.more hx8
 have hst8:Step H M H8 M:=⟨hx8.anyP,fun _ h=>.inl h⟩
 obtain⟨W,hW⟩:∃W,turnW N s xN xK now kept=W:=⟨_,rfl⟩
 rw[hW]at hsq ⊢
 have hWl:W.length≤N:=by rw[←hW];exact turn_length N s xN xK now kept ⟨h1.num.1,h1.num.2.1⟩
 have hN4:=h1.num.2.2
 refine⟨a,W.length,c,rfl,fun hpos=>?_,fun hz=>?_⟩
 ·have hne:W≠[]:=fun e=>by rw[e]at hpos;simp at hpos
  have hmay:MayP W (n - 1 - z:Int):=by
   have:=turn_may (xK:=xK) (kept:=kept) h1 hg hxN (by rw[hW];exact hne)
   rw[hW]at this
   have e:(N:Int)=n - 1 - z:=by omega
   rw[←e];exact this
  have hKw:KeptW Fj H8 a W:=fun K hK=>by
   have:=hsq.extP hK (fun q hq hm=>by have:=hfr q hq;have:=hjl q hm;omega) (fun q hq hm=>by
    rcases hq with hq|hq
    ·exact(hT.sepJ q hm).2.2 hq
    ·have:=hjl q hm;omega)
   obtain⟨vs,g1,g2,g3⟩:=this
   have hrow:=g1.row W.length c
   rw[hsq.num]at hrow
   exact⟨vs,g1.row _ _,g2,fun i w hw=>by
    obtain⟨v,q1,q2,_⟩:=g3 i w hw
    exact⟨v,q1,q2⟩⟩
  refine⟨ps,0,rfl,some ⟨pj,0,none⟩,by rw[hT8.blk.cell];rfl,(hJ8.commit (S':=S') hB hSS (hW▸hS' xN xK hxN hxK) hKw (by omega) (c:=c)).mono ?_⟩
  rintro v H16 ⟨hx16,e,J',D',rfl,_,hcase⟩
  have z16:=hx16.size
  have hjM:∀q,Fj q→M q:=fun q hq=>(hM q).1 (.inl hq)
  have hst16:Step H M H16 (fun q=>grow Fj H8 H16 q∨Fx q∨Fy q∨Fd q∨q=ps):=⟨hst8.ext.trans' hx16 (fun q hq=>.inr (hjM q hq)),by
   rintro q ((hq|hq)|hq|hq|hq|hq)
   ·exact .inl (hjM q hq)
   ·exact .inr (by omega)
   ·exact .inl ((hM q).1 (.inr (.inl hq)))
   ·exact .inl ((hM q).1 (.inr (.inr (.inl hq))))
   ·exact .inl ((hM q).1 (.inr (.inr (.inr (.inl hq)))))
   ·exact .inl ((hM q).1 (.inr (.inr (.inr (.inr hq)))))⟩
  have hlo16:∀q,(grow Fj H8 H16 q∨Fx q∨Fy q∨Fd q∨q=ps)→H0.size≤q:=by
   rintro q ((hq|hq)|hq|hq|hq|hq)
   ·exact hlo q (hjM q hq)
   ·omega
   ·exact hlo q ((hM q).1 (.inr (.inl hq)))
   ·exact hlo q ((hM q).1 (.inr (.inr (.inl hq))))
   ·exact hlo q ((hM q).1 (.inr (.inr (.inr (.inl hq)))))
   ·exact hlo q ((hM q).1 (.inr (.inr (.inr (.inr hq)))))
  have hT16:∀{J1:Jn} {D1:Dev},JD H16 (grow Fj H8 H16) pj pd J1 D1→Sto H16 (grow Fj H8 H16) Fx Fy Fd ps pj pd N s (bitsN N) (firstN N s) x y now kept J1 D1:=fun {J1 D1} hjd=>by
   have hg1:∀q,q<H8.size→¬Fj q→¬grow Fj H8 H16 q:=fun q hq h1 h2=>h2.elim h1 fun h=>by omega
   exact⟨hT8.blk.extP hx16 hT8.sep.1,hjd,hT8.now.extP hx16 (fun q hq h=>(hT8.sepJ q h).1 hq) (fun q hq h=>(hT8.sepJ q h).2.2 hq),hT8.kept.extP hx16 (fun q hq h=>(hT8.sepJ q h).2.1 hq) (fun q hq h=>(hT8.sepJ q h).2.2 hq),
    ⟨hg1 ps hT8.blk.lt hT8.sep.1,hT8.sep.2⟩,fun q hq=>by
     rcases hq with hq|hq
     ·exact hT8.sepJ q hq
     ·exact⟨fun h=>by have:=hT8.now.lt q h;omega,fun h=>by have:=hT8.kept.lt q h;omega,fun h=>by have:=hT8.lt q h;omega⟩,hT8.sepX,hT8.sepY,fun q hq=>by have:=hT8.lt q hq;omega,hT8.num⟩
  rcases hcase with⟨g1,_⟩|⟨_,hbig,rfl,hJ16⟩|⟨_,_,rfl,hJ16,hfu⟩|⟨_,rfl,hJn,hfell,hfu⟩
  ·exact absurd hmay g1
  ·refine⟨5,rfl,fun h=>absurd h (by decide),fun _=>⟨fun _=>?_,fun h=>absurd rfl h⟩⟩
   have hSt:=hT16 hJ16.jin.jd
   refine(undo_ok hSt).mono ?_
   rintro _ H36 ⟨rfl,Fx',x',hS36,hx36,hf36⟩
   have z36:=hx36.size
   refine⟨rfl,r5 H36 (fun q=>grow Fj H8 H16 q∨Fx' q∨Fy q∨Fd q∨q=ps) xN xK hxN hxK ⟨hst16.ext.trans' hx36 (fun q hq=>.inr (hq▸hps)),?_⟩ (by rw[hW];exact hbig) ⟨⟨_,Fx',Fy,Fd,x',y,hS36,⟨⟨hS36.jd,hJ16.jin.wf,hJ16.jin.jwf,hJ16.jin.low,ext_low hJ16.jin.ext hx36 (fun q hq _=>by rw[hq];exact hlo ps hps)⟩,hJ16.live⟩,fun _=>Iff.rfl⟩,?_,hnn⟩⟩
   ·rintro q (hq|hq|hq|hq|hq)
    ·exact hst16.reg q (.inl hq)
    ·have:=hf36 q hq;exact .inr (by omega)
    ·exact hst16.reg q (.inr (.inr (.inl hq)))
    ·exact hst16.reg q (.inr (.inr (.inr (.inl hq))))
    ·exact hst16.reg q (.inr (.inr (.inr (.inr hq))))
   ·rintro q (hq|hq|hq|hq|hq)
    ·exact hlo16 q (.inl hq)
    ·have:=hf36 q hq;omega
    ·exact hlo16 q (.inr (.inr (.inl hq)))
    ·exact hlo16 q (.inr (.inr (.inr (.inl hq))))
    ·exact hlo16 q (.inr (.inr (.inr (.inr hq))))
  ·refine⟨0,rfl,fun _=>?_,fun h=>absurd rfl h⟩
   refine hkeep (hT16 hJ16.jin.jd) hJ16 hst16 (fun _=>Iff.rfl) hlo16 fun K' M' hs hL=>?_
   exact r0 K' M' xN xK J' D' hxN hxK hs (by rw[hW];exact hL) hfu
  ·refine⟨4,rfl,fun h=>absurd h (by decide),fun _=>⟨fun h=>absurd h (by decide),fun _=>?_⟩⟩
   exact r4 H16 _ xN xK hxN hxK hst16 hfu ⟨_,D',hJn.dv,hfell,fun q hq=>.inl hq,fun q hq=>⟨hlo16 q hq,by
    rcases hq with (hq|hq)|hq|hq|hq|hq
    ·have:=hjl q hq;omega
    ·omega
    ·have:=hxl q hq;omega
    ·have:=hyl q hq;omega
    ·have:=hT.lt q hq;omega
    ·omega⟩⟩
 ·have hW0:W=[]:=List.eq_nil_of_length_eq_zero (by omega)
  refine hkeep hT8 (hJ8.up (B':=B+14100) (S':=S') (by omega) (by omega) hSS) hst8 hM hlo fun K' M' hs hL=>?_
  exact r0 K' M' xN xK J D hxN hxK hs (by rw[hW,hW0,over_nil];exact hL) (fun h=>h)
theorem StL.commit(h:StL H0 H M ps pj pd n z B N s now kept J D cur S)(hB:B≤600000000)(h1:Leg N s now)(h2:Leg N s kept)(hg:¬laidBad N s)(hr:firstN N s<N)(hSS:∀x,S x→S' x)(hS':∀xN xK,BytesAre now.bits xN→BytesAre kept.bits xK→S' (overT cur (turnW N s xN xK now kept))) :
  Does Tryz.prog 36 [.pointer (some ⟨ps,0,none⟩)] H fun v H'=>∃xN xK M',BytesAre now.bits xN∧BytesAre kept.bits xK∧Step H M H' M' ∧
   ((v=.int .i64 0∧∃J' D',StL H0 H' M' ps pj pd n z (B+14100) N s now now J' D' (overT cur (turnW N s xN xK now kept)) S'∧(D.fuse=-1→D'.fuse=-1)) ∨
    (v=.int .i64 5∧(z:Int)<needsN (turnW N s xN xK now kept).length∧StL H0 H' M' ps pj pd n z (B+14100) N s kept kept J D cur S) ∨
    (v=.int .i64 4∧D.fuse≠-1∧FellS H0 H' M' pd n z (B+14100) S')):=by
 refine h.commitR hB h1 h2 hg hr hSS hS' (fun H' M' xN xK J' D' g1 g2 g3 g4 g5=>?_) (fun H' M' xN xK g1 g2 g3 g4 g5=>?_) (fun H' M' xN xK g1 g2 g3 g4 g5=>?_)
 ·exact⟨xN,xK,M',g1,g2,g3,.inl ⟨rfl,J',D',g4,g5⟩⟩
 ·exact⟨xN,xK,M',g1,g2,g3,.inr (.inl ⟨rfl,g4,g5⟩)⟩
 ·exact⟨xN,xK,M',g1,g2,g3,.inr (.inr ⟨rfl,g4,g5⟩)⟩
end
end Go.Proofs
end
section
open Go Go.Vc
namespace Go.Proofs
theorem KnownV(H:Heap) (R:Value→Heap→Prop):Walk Tryz.prog 19 [] [] H R=(Does Tryz.prog 29 [.int .i64 60,.int .i64 12,.int .i64 8] H fun v1 H2=>∃p3:Option Addr,∃p4:Option Addr,v1=(.tuple #[.pointer p3,.pointer p4])∧(((p3=none)→R (.bool false) H2)∧(¬(p3=none)→(((p4=none)→R (.bool false) H2)∧(¬(p4=none)→∀b5 H6,New H2 b5 [.int .u8 97,.int .u8 98] 5 H6→∃b7 o8:Nat,(some (⟨b5,0,none⟩:Addr))=some (⟨b7,o8,none⟩:Addr)∧(IsCells H6 b7∧∀H9:Heap,MarkTo H6 b7 H9→Does Tryz.prog 31 [.pointer p3,.slice (some ⟨b5,0,none⟩) 2 2] H9 fun v10 H11=>∃n12 n13,v10=(.tuple #[.int .i64 n12,.int .i64 n13])∧(((n13≠0)→R (.bool false) H11)∧(¬(n13≠0)→(((n12≠1)→R (.bool false) H11)∧(¬(n12≠1)→Does Tryz.prog 36 [.pointer p3] H11 fun v14 H15=>∃n16,v14=(.int .i64 n16)∧(((n16≠0)→R (.bool false) H15)∧(¬(n16≠0)→Does Tryz.prog 47 [.pointer p3] H15 fun v17 H18=>∃n19,v17=(.int .i64 n19)∧(((n19≠0)→R (.bool false) H18)∧(¬(n19≠0)→Does Tryz.prog 49 [.pointer p4,.slice none 0 0] H18 fun v20 H21=>v20=(.tuple #[])∧Does Tryz.prog 27 [.pointer p4] H21 fun v22 H23=>∃p24:Option Addr,∃n25,v22=(.tuple #[.pointer p24,.int .i64 n25])∧(((n25≠0)→R (.bool false) H23)∧(¬(n25≠0)→(((p24=none)→R (.bool false) H23)∧(¬(p24=none)→Does Tryz.prog 45 [.pointer p24,.int .i64 1] H23 fun v26 H27=>∃a28 l29 c30,∃n31,v26=(.tuple #[.slice a28 l29 c30,.int .i64 n31])∧(((n31=0)→∃l32:List UInt8,SRow H27 1 l29 (.slice a28 l29 c30) (List.map (fun (b:UInt8)=>Value.int .u8 b.toNat) l32)∧(((((ByteArray.mk (List.toArray l32)):ByteArray)=(ByteArray.mk #[97,98]))→Does Tryz.prog 32 [.pointer p24] H27 fun v33 H34=>∃n35,v33=(.int .i64 n35)∧(((n35=1)→Does Tryz.prog 50 [.pointer p24,.int .i64 1] H34 fun v36 H37=>∃n38,v36=(.int .i64 n38)∧R (.bool (@decide (n38=1) (Classical.propDecidable _))) H37)∧(¬(n35=1)→R (.bool false) H34)))∧(¬(((ByteArray.mk (List.toArray l32)):ByteArray)=(ByteArray.mk #[97,98]))→R (.bool false) H27)))∧(¬(n31=0)→R (.bool false) H27)))))))))))))))))))):=by kernel_rfl
theorem BytesLV(x0_0:Int) (x0_1:Int) (x0_2:Int) (x0_3:Option Addr) (x0_3l:Nat) (x0_3c:Nat) (x0_4:Option Addr) (x0_4l:Nat) (x0_4c:Nat) (x1:Int) (H:Heap) (R:Value→Heap→Prop):Walk Tryz.prog 14 [(999999,[])] [.agg #[.int .i64 x0_0,.int .i64 x0_1,.int .i64 x0_2,.slice x0_3 x0_3l x0_3c,.slice x0_4 x0_4l x0_4c],.int .i64 x1] H R=(∀b1 H2,New H b1 [.int .i64 x0_0,.int .i64 x0_1,.int .i64 x0_2,.slice x0_3 x0_3l x0_3c,.slice x0_4 x0_4l x0_4c] 36 H2→∃a3 l4 c5,hcell H2 b1 (0+3)=some (.slice a3 l4 c5)∧Does Tryz.prog 21 [.slice a3 l4 c5,.int .i64 200] H2 fun v6 H7=>∃a8 l9 c10,v6=(.slice a8 l9 c10)∧∃n11,hcell H7 b1 (0+2)=some (.int .i64 n11)∧(((3:Int)≠0) ∧∀q12:Int,q12=Int.tmod n11 3→(((q12=0)→∃I13:Option Addr→Nat→Nat→Heap→Prop,∃μ14:Option Addr→Nat→Nat→Heap→Nat,(I13 a8 l9 c10 H7) ∧∀a15 l16 c17,∀H18:Heap,I13 a15 l16 c17 H18→∃n19,hcell H18 b1 (0+2)=some (.int .i64 n19)∧(((3:Int)≠0) ∧∀q20:Int,q20=IntKind.wrap .i64 (Int.tdiv n19 3)→Does Tryz.prog 22 [.int .i64 q20,.int .i64 x1] H18 fun v21 H22=>∃n23,v21=(.int .i64 n23)∧(((((l16:Int):Int)<n23)→∃n24,hcell H22 b1 (0+1)=some (.int .i64 n24)∧∀q25:Int,q25=IntKind.wrap .i64 ((l16:Int)+n24)→∀q26:Int,q26=IntKind.wrap .u8 q25→∀b27 H28,New H22 b27 [.int .u8 q26] 5 H28→∃old29 new30:List Value,SRow H28 1 l16 (.slice a15 l16 c17) old29∧SRow H28 1 1 (.slice (some ⟨b27,0,none⟩) 1 1) new30∧(∀u∈new30,Value.oneCell' u=true)∧(l16+1)*1≤140737488355328∧(l16+1≤c17→roomOf H28 a15 (l16*1) (1*1))∧∀a31:Option Addr,∀c32:Nat,∀H33,App H28 1 5 [.int .u8 0] a15 l16 c17 old29 new30 1 a31 c32 H33→((I13 a31 (l16+1) c32 H33)∧μ14 a31 (l16+1) c32 H33<μ14 a15 l16 c17 H18))∧(¬(((l16:Int):Int)<n23)→R (.slice a15 l16 c17) H22))))∧(¬(q12=0)→R (.slice a8 l9 c10) H7)))):=by kernel_rfl
theorem FewV(x0:Option Addr) (x0l:Nat) (x0c:Nat) (x1:Int) (H:Heap) (R:Value→Heap→Prop):Walk Tryz.prog 21 [] [.slice x0 x0l x0c,.int .i64 x1] H R=(∀b1 H2,New H b1 [] 5 H2→(0:Int)≤(min (x0l:Int) x1)∧((min (x0l:Int) x1):Int)≤(x0c:Int)∧∃old3 new4:List Value,SRow H2 1 0 (.slice (some ⟨b1,0,none⟩) 0 0) old3∧SRow H2 1 (Int.toNat (min (x0l:Int) x1)) (.slice x0 (Int.toNat (min (x0l:Int) x1)) x0c) new4∧(∀u∈new4,Value.oneCell' u=true)∧(0+(Int.toNat (min (x0l:Int) x1)))*1≤140737488355328∧(0+(Int.toNat (min (x0l:Int) x1))≤0→roomOf H2 (some (⟨b1,0,none⟩:Addr)) (0*1) ((Int.toNat (min (x0l:Int) x1))*1))∧∀a5:Option Addr,∀c6:Nat,∀H7,App H2 1 5 [.int .u8 0] (some (⟨b1,0,none⟩:Addr)) 0 0 old3 new4 (Int.toNat (min (x0l:Int) x1)) a5 c6 H7→R (.slice a5 (0+(Int.toNat (min (x0l:Int) x1))) c6) H7):=by kernel_rfl
end Go.Proofs
end
section
open Go Go.Vc Go.Proofs.Bx
namespace Go.Proofs
theorem tGet_len{k:Int}{x:Octs}:∀{t:List Wr},(∀w∈t,w.2.length=128)→tGet t k=some x→x.length=128
 | [],_,h=>by simp[tGet]at h
 | p::r,hl,h=>by
  simp only[tGet]at h
  split at h
  ·cases h;exact hl p (by simp)
  ·exact tGet_len (fun w hw=>hl w (by simp[hw])) h
theorem sure_len{n z B:Nat}{X:List Octs}{hm:Nat→Octs}(h:Sure n z B X hm){k:Nat}(hk:k<n - 1 - z):(hm k).length=128:=by
 obtain⟨e,s,T,h⟩:=h
 obtain⟨b,hb,e1⟩:=h.home k hk
 have hto:=(h.lays.may.pre (fullT_pre e T s (jbX z X))).tok
 rw[←e1]
 cases ht:tGet (tAll [] (fullT e s (jbX z X) T).flatten) k with
 | none=>exact h.size b (List.mem_of_getElem? hb)
 | some x=>exact tGet_len (fun w hw=>(hto.1 w hw).2.2) ht
theorem Sto.jstep{H H':Heap}{Fj Fx Fy Fd:Nat→Prop}{ps pj pd:Nat}{hh ss bb ff:Int}{x y:RSt}{now kept:PSt}{J J':Jn}{D D':Dev}(h:Sto H Fj Fx Fy Fd ps pj pd hh ss bb ff x y now kept J D)(hx:ExtP Fj H H')(hjd:JD H' (grow Fj H H') pj pd J' D') :
  Sto H' (grow Fj H H') Fx Fy Fd ps pj pd hh ss bb ff x y now kept J' D':=by
 have hz:=hx.size
 exact⟨h.blk.extP hx h.sep.1,hjd,h.now.extP hx (fun q hq h'=>(h.sepJ q h').1 hq) (fun q hq h'=>(h.sepJ q h').2.2 hq),h.kept.extP hx (fun q hq h'=>(h.sepJ q h').2.1 hq) (fun q hq h'=>(h.sepJ q h').2.2 hq),
  ⟨fun h'=>h'.elim h.sep.1 fun h'=>by have:=h.blk.lt;omega,h.sep.2⟩,fun q hq=>by
   rcases hq with hq|hq
   ·exact h.sepJ q hq
   ·exact⟨fun h'=>by have:=h.now.lt q h';omega,fun h'=>by have:=h.kept.lt q h';omega,fun h'=>by have:=h.lt q h';omega⟩,h.sepX,h.sepY,fun q hq=>by have:=h.lt q hq;omega,h.num⟩
def CrashS(H0 H:Heap)(M:Nat→Prop)(pd n z B:Nat)(S:(Nat→Octs)→Prop):Prop:=∃Fj D,DvIn H0 H Fj pd D n B∧(∀ms,∃hm,S hm∧Sure n z B (crashL ms D.pend 0 D.kept) hm)∧(∀q,Fj q→M q)∧∀q,M q→H0.size≤q∧q<H.size
section
variable {H0 H:Heap} {M:Nat→Prop} {ps pj pd n z B N:Nat} {s:Int} {now kept:PSt} {J:Jn} {D:Dev} {cur:Nat→Octs} {S S':(Nat→Octs)→Prop}
theorem StL.falls(h:StL H0 H M ps pj pd n z B N s now kept J D cur S):CrashS H0 H M pd n z B S:=by
 have hl:=h.lt
 have hlo:=h.low
 obtain⟨Fj,Fx,Fy,Fd,x,y,hT,hJ,hM⟩:=h.ex
 exact⟨Fj,D,hJ.jin.dv,fun ms=>Live.crash hJ.live ms,fun q hq=>(hM q).1 (.inl hq),fun q hq=>⟨hlo q hq,hl q hq⟩⟩
theorem StL.sync(h:StL H0 H M ps pj pd n z B N s now kept J D cur S)(hB:B≤600000000)(hS':S' cur) :
  Does Tryz.prog 47 [.pointer (some ⟨ps,0,none⟩)] H fun v H'=>∃M',Step H M H' M'∧((v=.int .i64 0∧∃J' D',StL H0 H' M' ps pj pd n z (B+14100) N s now kept J' D' cur S'∧(D.fuse=-1→D'.fuse=-1)) ∨
   (v=.int .i64 4∧D.fuse≠-1∧FellS H0 H' M' pd n z (B+14100) S)):=by
 have hnn:=h.num
 have hlo:=h.low
 have hlt:=h.lt
 obtain⟨Fj,Fx,Fy,Fd,x,y,hT,hJ,hM⟩:=h.ex
 refine Fn_of_vc Tryz.mixed (SyncV _ _ _) ?_
 refine⟨ps,0,rfl,some ⟨pj,0,none⟩,by rw[hT.blk.cell];rfl,(hJ.sync (S':=S') hB hS').mono ?_⟩
 rintro v H' ⟨hx,J',D',hc⟩
 have z1:=hx.size
 have z0:=hJ.jin.ext.size
 have hjM:∀q,Fj q→M q:=fun q hq=>(hM q).1 (.inl hq)
 have hlo':∀q,(grow Fj H H' q∨Fx q∨Fy q∨Fd q∨q=ps)→(M q∨H.size≤q)∧q<H'.size:=by
  rintro q ((hq|hq)|hq)
  ·have:=hlt q (hjM q hq);exact⟨.inl (hjM q hq),by omega⟩
  ·exact⟨.inr hq.1,hq.2⟩
  ·have hm:=(hM q).1 (.inr hq)
   have:=hlt q hm;exact⟨.inl hm,by omega⟩
 have hlow:∀q,(grow Fj H H' q∨Fx q∨Fy q∨Fd q∨q=ps)→H0.size≤q:=fun q hq=>(hlo' q hq).1.elim (hlo q) fun h=>by omega
 have hst:Step H M H' (fun q=>grow Fj H H' q∨Fx q∨Fy q∨Fd q∨q=ps):=⟨hx.mono fun q _ hq=>hjM q hq,fun q hq=>(hlo' q hq).1⟩
 rcases hc with⟨rfl,hJ',hf⟩|⟨rfl,hJn,hfl,hf⟩
 ·exact⟨0,rfl,_,hst,.inl ⟨rfl,J',D',⟨⟨_,Fx,Fy,Fd,x,y,hT.jstep hx hJ'.jin.jd,hJ',fun _=>Iff.rfl⟩,hlow,hnn⟩,hf⟩⟩
 ·exact⟨4,rfl,_,hst,.inr ⟨rfl,hf,_,D',hJn.dv,hfl,fun q hq=>.inl hq,fun q hq=>⟨hlow q hq,(hlo' q hq).2⟩⟩⟩
theorem StL.read(h:StL H0 H M ps pj pd n z B N s now kept J D cur S)(hl:Leg N s now)(id:Int) :
  Does Tryz.prog 45 [.pointer (some ⟨ps,0,none⟩),.int .i64 id] H fun v H'=>∃out e M' a c,v=.tuple #[.slice a out.length c,.int .i64 e]∧SRow H' 1 out.length (.slice a out.length c) (bytesV out)∧(∀q∈blkOf a,H.size≤q) ∧
   StL H0 H' M' ps pj pd n z B N s now kept J D cur S∧Step H M H' M'∧((e=0∧ReadOk now id out)∨(e=6∧out=[]∧¬0<refsP now id)):=by
 have hd:=h.lays.2.2
 have hlo:=h.low
 have hnn:=h.num
 obtain⟨Fj,Fx,Fy,Fd,x,y,hT,hJ,hM⟩:=h.ex
 refine(read_ok hT hl.whole id).mono ?_
 rintro v H' ⟨out,e,⟨a,c,rfl,hr,hf⟩,hL,hc⟩
 obtain⟨M',h1,h2⟩:=StL.left hT hJ hM hlo hnn hL
 refine⟨out,e,M',a,c,rfl,hr,hf,h1,h2,?_⟩
 rcases hc with⟨g1,_,g2⟩|⟨g1,g2,⟨g3,g4⟩|⟨g3,_⟩⟩
 ·exact .inl ⟨g1,g2⟩
 ·exact .inr ⟨g4,g2,g3⟩
 ·rw[hd]at g3;cases g3
theorem fall_ok(h:CrashS H0 H M pd n z B S)(hB:B≤600000000){a:Option Addr}{len cap:Nat}{ms:Octs}(hs:∀F:Nat→Prop,(∀q,F q→H0.size≤q)→KeptB F H a len cap ms) :
  Does Tryz.prog 49 [.pointer (some ⟨pd,0,none⟩),.slice a len cap] H fun v H'=>v=.tuple #[]∧∃M' hm K D',Step H M H' M'∧S hm∧DvIn H0 H' M' pd D' n B∧At D' K []∧Sure n z B K hm∧D'.fuse=-1∧∀q,M' q→q<H'.size:=by
 obtain⟨Fj,D,h1,h2,h3,h4⟩:=h
 refine(h1.crash hB (hs Fj h1.low)).mono ?_
 rintro _ H' ⟨rfl,hx,hd,hat,hfu⟩
 obtain⟨hm,g1,g2⟩:=h2 ms
 have hz:=hx.size
 exact⟨rfl,_,hm,_,_,⟨hx.mono fun q _ hq=>h3 q hq,fun q hq=>hq.elim (fun h=>.inl (h3 q h)) fun h=>.inr h.1⟩,g1,hd,hat,g2,hfu,fun q hq=>hq.elim (fun h=>by have:=(h4 q (h3 q h)).2;omega) fun h=>h.2⟩
theorem reopen_ok{K:List Octs}{hm:Nat→Octs}(hd:DvIn H0 H M pd D n B)(_:∀q,M q→q<H.size)(hn:N+1+z=n)(hN:0<N∧N≤4096)(hB:B≤600000000)(hat:At D K [])(hs:Sure n z B K hm)(hfu:D.fuse=-1){st:PSt}(hh:headN hm=s)(hl:LoadOk N hm st)(hS:S hm) :
  Does Tryz.prog 27 [.pointer (some ⟨pd,0,none⟩)] H fun v H'=>∃M' ps pj J D',v=.tuple #[.pointer (some ⟨ps,0,none⟩),.int .i64 0]∧StL H0 H' M' ps pj pd n z (B+5000) N s st st J D' hm S∧D'.fuse=-1∧Step H M H' M':=by
 have eN:N=n - 1 - z:=by omega
 refine openS_ok (H:=H) (d:=some ⟨pd,0,none⟩) ?_
 refine(hd.open_ (S:=S) hB hat hs hS).mono ?_
 rintro v H9 ⟨hx9,(⟨pj,J,D9,rfl,hJ,hf9,_,_⟩|⟨_,_,_,hne,_⟩)⟩
 ·have hFl:=hJ.lt
  have hrd:=hJ.live.reads hJ.jin.wf hJ.jin.jwf pj pd (grow M H H9)
  rw[←eN]at hrd
  refine .inr ⟨pj,pd,_,J,D9,N,hm,rfl,hJ.jin.jd,fun k hk=>sure_len hs (by omega),hN.1,hN.2,hrd,fun H3 _ _ hno=>absurd hl (hno _),?_⟩
  intro H3 ps x y Fx Fy Fd st' hlo hx3 hT hfr
  have e:=hlo.one hl
  subst e
  rw[hh]at hT
  have z9:=hx9.size
  have z3:=hx3.size
  have z0:=hd.ext.size
  refine⟨fun q=>grow M H H9 q∨Fx q∨Fy q∨Fd q∨q=ps,ps,pj,J,D9,rfl,⟨⟨_,Fx,Fy,Fd,x,y,hT,⟨hJ.jin.same hT.jd hx3 hJ.jin.wf hJ.jin.jwf,hJ.live⟩,fun _=>Iff.rfl⟩,?_,hn⟩,hf9 hfu,⟨hx9.trans' hx3 fun q hq=>?_,?_⟩⟩
  ·rintro q (hq|hq|hq|hq|hq)
   ·exact hJ.jin.low q hq
   ·have:=hfr q (.inl hq);omega
   ·have:=hfr q (.inr (.inl hq));omega
   ·have:=hfr q (.inr (.inr (.inl hq)));omega
   ·have:=hfr q (.inr (.inr (.inr hq)));omega
  ·exact hq.elim .inr fun h=>.inl h.1
  ·rintro q (hq|hq|hq|hq|hq)
   ·exact hq.elim .inl fun h=>.inr h.1
   ·have:=hfr q (.inl hq);exact .inr (by omega)
   ·have:=hfr q (.inr (.inl hq));exact .inr (by omega)
   ·have:=hfr q (.inr (.inr (.inl hq)));exact .inr (by omega)
   ·have:=hfr q (.inr (.inr (.inr hq)));exact .inr (by omega)
 ·exact absurd hfu hne
end
theorem image_empty{N:Nat}{s:Int}(hg:¬laidBad N s)(hr:firstN N s<N)(hN:N≤4096){xs:Octs}(hb:BytesAre (emptyP N s (firstN N s)).bits xs):Image N s (emptyP N s (firstN N s)) (fmtHm N s xs):=by
 have hl:=Leg.empty hg hr hN
 refine⟨xs,hb,fun k hk=>?_,fun k h1 h2 hon=>?_⟩
 ·unfold fmtHm
  rw[if_pos (by omega)];rfl
 ·exfalso
  have hno:allBlk (emptyP N s (firstN N s)).slots=[]:=allBlk_none fun y hy=>by
   have:=List.eq_of_mem_replicate hy
   subst this;rfl
  have:=(hl.on k h2).1 hon
  rw[hno]at this
  rcases this with h|h
  ·omega
  ·simp at h
theorem mark_ok{H H':Heap}{b:Nat}(hm:MarkTo H b H'):Ext [b] H H'∧∀o v,hcell H b o=some v→hcell H' b o=some v:=by
 obtain⟨cs',e,lo,hi,h1,rfl⟩:=hm
 have hlt:=(Array.getElem?_eq_some_iff.1 h1).1
 refine⟨ext_set _ _ _,fun o v h=>?_⟩
 unfold hcell at h ⊢
 rw[h1]at h
 rw[Array.getElem?_setIfInBounds_self_of_lt hlt]
 exact h
end Go.Proofs
end
section
open Go Go.Vc Go.Proofs.Bx
namespace Go.Proofs
theorem trnB_none{now kept:PSt}{f:Nat}:∀{n:Nat},(∀j,j<n→¬datT now kept (f+j))→trnB now kept f n=[]
 | 0,_=>rfl
 | n+1,h=>by rw[(trnB_succ now kept f n).2 (h n (by omega)),trnB_none fun j hj=>h j (by omega)]
theorem trnB_one{now kept:PSt}{f c:Nat}(h:∀j,datT now kept (f+j)→j=c):∀n:Nat,(trnB now kept f n).length≤1
 | 0=>by simp[trnB]
 | n+1=>by
  by_cases hn:datT now kept (f+n)
  ·rw[(trnB_succ now kept f n).1 hn,trnB_none (fun j hj hd=>by have:=h j hd;have:=h n hn;omega)]
   simp
  ·rw[(trnB_succ now kept f n).2 hn];exact trnB_one h n
theorem onlyBlk{N:Nat}{s:Int}{st:PSt}(_:Leg N s st){k:Nat}{y:PSl}(hk:st.slots[k]?=some y)(ho:∀(j:Nat)(z:PSl),j≠k→st.slots[j]?=some z→z.ps=[])(x:Int):x∈allBlk st.slots↔x∈blocksI y.ps:=by
 rw[mem_allBlk]
 constructor
 ·rintro⟨j,z,hj,hx⟩
  by_cases e:j=k
  ·subst e;rw[hk]at hj;cases hj;exact hx
  ·rw[ho j z e hj]at hx;simp[blocksI]at hx
 ·intro hx;exact⟨k,y,hk,hx⟩
theorem known_ok(H:Heap):Does Tryz.prog 19 [] H fun v H'=>v=.bool true∧Ext [] H H':=by
 have hf4:firstN ((47:Nat):Int) 8=4:=by decide
 have hg:¬laidBad ((47:Nat):Int) 8:=by unfold laidBad;omega
 have hr:firstN ((47:Nat):Int) 8<((47:Nat):Int):=by rw[hf4];decide
 refine Fn_of_vc Tryz.mixed (KnownV _ _) ?_
 refine(opn_ok (H:=H) (n:=60) (z:=12) (N:=47) (s:=8) (by decide) (by decide) (by decide) hg hr (S:=fun _=>True) (fun _ _=>trivial)).mono ?_
 rintro _ H2 ⟨M,ps,pj,pd,J,D,xs,rfl,hL,hfu,hxs⟩
 have hE:=Leg.empty (N:=47) (s:=8) hg hr (by decide)
 have hI:=image_empty hg hr (by decide) hxs
 obtain⟨E,hEe⟩:∃E,emptyP ((47:Nat):Int) 8 (firstN ((47:Nat):Int) 8)=E:=⟨_,rfl⟩
 have hEs:E.slots=List.replicate 8 ⟨0,0,[]⟩:=by rw[←hEe];rfl
 rw[hEe]at hL hE hI
 refine⟨_,_,rfl,fun h=>(by cases h),fun _=>⟨fun h=>(by cases h),fun _=>?_⟩⟩
 intro b5 H6 hn5
 refine⟨b5,0,rfl,⟨_,_,_,hn5.blk.choose_spec⟩,fun H9 hm=>?_⟩
 obtain⟨hx9,hc9⟩:=mark_ok hm
 have hlt:=hL.lt
 have e5:=hn5.eq
 have z6:=hn5.size
 have hb2:=hL.base.size
 have hL6:=hL.more hn5.ext
 have hL9:=hL6.off hx9.toP (fun q hq h=>by
  simp only[List.mem_singleton]at h
  have:=hlt q hq;omega) (fun q h _=>by
  simp only[List.mem_singleton]at h
  omega)
 have hrow:SRow H9 1 ([97,98]:Octs).length (.slice (some ⟨b5,0,none⟩) ([97,98]:Octs).length 2) (bytesV [97,98]):=by
  refine⟨rfl,.inr rfl,fun j u hj=>hc9 _ _ ?_⟩
  show hcell H6 b5 (0+j)=some u
  rw[Nat.zero_add,hn5.blk.cell]
  exact hj
 refine(hL9.create hE.fine hrow (fun q hq h=>by
  simp only[blkOf,List.mem_singleton]at hq
  have:=hlt q h;omega)).mono ?_
 rintro _ H11 ⟨st,id,e,M1,rfl,hL11,hst11,hc⟩
 have hz0:E.slots[0]?=some ⟨0,0,[]⟩:=by rw[hEs];rfl
 have hfree:freeP E=((0:Nat):Int):=by
  unfold freeP;rw[hEs];rfl
 have hbl:blocksF (([97,98]:Octs).length:Int)=((1:Nat):Int):=by decide
 have hall:allBlk E.slots=[]:=by rw[hEs];rfl
 have honE:∀i:Nat,i<47→(onB E.bits i=true↔i<4):=fun i hi=>by
  have:=hE.on i hi
  rw[hall,hf4]at this
  rw[this]
  constructor
  ·rintro (h|h)
   ·omega
   ·simp at h
  ·intro h;exact .inl (by omega)
 have hfound:foundF E.bits 4 1=blkI ⟨((4:Nat):Int),((1:Nat):Int)⟩:=found_blk (f:=4) (m:=4) (need:=1) (by decide) (by rw[hE.bits];decide) (fun i h1 h2=>by omega) (fun i h1 h2=>by
  rw[hE.bits]at h2
  cases h:onB E.bits i with
  | false=>rfl
  | true=>have:=(honE i h2).1 h;omega)
 have hgrow:growOk E.bits [] (firstN ((47:Nat):Int) 8) ((1:Nat):Int):=by
  rw[hf4]
  refine⟨right_nil' _ _,by decide,?_,?_⟩
  ·rw[show(((1:Nat):Int)).toNat=1 from rfl,hfound];rfl
  ·rw[show(((1:Nat):Int)).toNat=1 from rfl,hfound]
   show(piecesF (blocksI []++blkI _)).length≤6
   rw[show blocksI []++blkI ⟨((4:Nat):Int),((1:Nat):Int)⟩=blkI ⟨((4:Nat):Int),((1:Nat):Int)⟩by simp[blocksI],piecesF_one (by decide)]
   decide
 have hok:e=0∧CreateOk (firstN ((47:Nat):Int) 8) E [97,98] st id:=by
  rcases hc with h|⟨_,_,_,hno⟩
  ·exact h
  exfalso
  rcases hno with⟨h,_⟩|⟨_,h,_⟩|⟨_,k,y,h1,h2,⟨_,h3⟩,_⟩
  ·exact absurd h (by decide)
  ·rw[hfree]at h;exact absurd h (by decide)
  ·rw[hfree]at h1
   have ek:k=0:=by omega
   subst ek
   rw[hz0]at h2
   cases h2
   rw[hbl]at h3
   simp only[countF_nil,Int.sub_zero]at h3
   exact h3 hgrow
 obtain⟨rfl,_,k,y,ps',bits',g1,rfl,g3,g4,g5,rfl⟩:=hok
 rw[hfree]at g1
 have ek:k=0:=by omega
 subst ek
 rw[hz0]at g3
 cases g3
 have hE1:Leg 47 8 (refd E 0 ⟨0,0,[]⟩):=hE.setRefs hz0 (r:=1) (by decide)
 have hz1:(refd E 0 ⟨0,0,[]⟩).slots[0]?=some ⟨0,1,[]⟩:=by
  show(E.slots.set 0 _)[0]?=_
  rw[hEs];rfl
 obtain⟨hL1,hby,_⟩:=hE1.fill hz1 (by decide) (by decide) g5
 have hps:ps'=[⟨((4:Nat):Int),((1:Nat):Int)⟩]:=by
  have g6:=g5
  unfold FillTo at g6
  rw[hbl]at g6
  simp only[countF_nil,Int.sub_zero]at g6
  rcases g6 with⟨h,_⟩|⟨_,_,h,_⟩|⟨h,_⟩
  ·exact absurd h (by decide)
  ·rw[h,hf4]
   unfold growF
   rw[show(((1:Nat):Int)).toNat=1 from rfl,show(refd E 0 ⟨0,0,[]⟩).bits=E.bits from rfl,hfound,show blocksI []++blkI ⟨((4:Nat):Int),((1:Nat):Int)⟩=blkI ⟨((4:Nat):Int),((1:Nat):Int)⟩by simp[blocksI],piecesF_one (by decide)]
  ·exact absurd h (by decide)
 obtain⟨st1,hst1⟩:∃st1,fillSt (refd E 0 ⟨0,0,[]⟩) 0 {(⟨0,0,[]⟩:PSl)with refs:=1} [97,98] ps' bits'=st1:=⟨_,rfl⟩
 rw[hst1]at hL11
 have hL1:Leg 47 8 st1:=hst1▸hL1
 have hby:bytesP st1 ⟨(([97,98]:Octs).length:Int),1,ps'⟩=[97,98]:=hst1▸hby
 have hsl:st1.slots=(⟨(([97,98]:Octs).length:Int),1,ps'⟩:PSl)::List.replicate 7 ⟨0,0,[]⟩:=by
  rw[←hst1]
  show(E.slots.set 0 _).set 0 _=_
  rw[hEs];rfl
 have hs0:st1.slots[0]?=some ⟨(([97,98]:Octs).length:Int),1,ps'⟩:=by rw[hsl];rfl
 have hone:∀x,x∈allBlk st1.slots↔x=4:=fun x=>by
  rw[onlyBlk hL1 hs0 (fun j z hj hz=>by
   rw[hsl]at hz
   cases j with
   | zero=>exact absurd rfl hj
   | succ j=>
    rw[List.getElem?_cons_succ]at hz
    have:=List.eq_of_mem_replicate (List.mem_of_getElem? hz)
    subst this;rfl),hps]
  simp[blocksI,blkI]
 have hon1:∀i:Nat,i<47→(onB st1.bits i=true↔i<5):=fun i hi=>by
  have:=hL1.on i hi
  rw[hone,hf4]at this
  rw[this]
  omega
 refine⟨_,_,rfl,fun h=>absurd rfl h,fun _=>⟨fun h=>absurd rfl h,fun _=>?_⟩⟩
 refine(hL11.commit (S':=fun _=>True) (by decide) hL1 hE hg hr (fun _ _=>trivial) (fun _ _ _ _=>trivial)).mono ?_
 rintro v15 H15 ⟨xN,xK,M2,hxN,hxK,_,hcase⟩
 have hcase':v15=.int .i64 0∧∃J1 D1,StL H H15 M2 ps pj pd 60 12 (3000000+14100) 47 8 st1 st1 J1 D1 (overT (fmtHm 47 8 xs) (turnW 47 8 xN xK st1 E)) (fun _=>True)∧(D.fuse=-1→D1.fuse=-1):=by
  rcases hcase with⟨h0,J1,D1,h1,h2⟩|⟨_,hbig,_⟩|⟨_,hne,_⟩
  ·exact⟨h0,J1,D1,h1,h2⟩
  ·exfalso
   have h1:=trnA_length (fxB 8 xN st1) (fxB 8 xK E) 4
   have h2:=trnB_one (now:=st1) (kept:=E) (f:=4) (c:=0) (fun j hd=>by
    by_cases hj:4+j<47
    ·have:=(hon1 _ hj).1 hd.1;omega
    ·have h:=hd.1
     rw[onB_beyond (by rw[hL1.bits];omega)]at h
     cases h) (47 - 4)
   have h3:(turnW 47 8 xN xK st1 E).length≤5:=by
    unfold turnW
    rw[hf4,List.length_append]
    show(trnA _ _ 4).length+(trnB _ _ 4 (47 - 4)).length≤5
    omega
   rw[needs_bd]at hbig
   split at hbig<;>omega
  ·exact absurd hfu hne
 clear hcase
 obtain⟨rfl,J1,D1,hL15,hfu1⟩:=hcase'
 have hfu1:=hfu1 hfu
 have himg:Image 47 8 st1 (overT (fmtHm 47 8 xs) (turnW 47 8 xN xK st1 E)):=image_next (by rw[hf4];decide) hI hxN hxK
 obtain⟨cur,hcur⟩:∃cur,overT (fmtHm 47 8 xs) (turnW 47 8 xN xK st1 E)=cur:=⟨_,rfl⟩
 rw[hcur]at hL15 himg
 refine⟨_,rfl,fun h=>absurd rfl h,fun _=>?_⟩
 refine(hL15.sync (S':=fun x=>x=cur) (by decide) rfl).mono ?_
 rintro v18 H18 ⟨M3,_,hcase⟩
 have hcase':v18=.int .i64 0∧∃J2 D2,StL H H18 M3 ps pj pd 60 12 (3000000+14100+14100) 47 8 st1 st1 J2 D2 cur (fun x=>x=cur):=by
  rcases hcase with⟨h0,J2,D2,h1,_⟩|⟨_,hne,_⟩
  ·exact⟨h0,J2,D2,h1⟩
  ·exact absurd hfu1 hne
 clear hcase
 obtain⟨rfl,J2,D2,hL18⟩:=hcase'
 refine⟨_,rfl,fun h=>absurd rfl h,fun _=>?_⟩
 refine(fall_ok hL18.falls (by decide) (a:=none) (len:=0) (cap:=0) (ms:=[]) (fun F _=>nil_kept F _)).mono ?_
 rintro _ H21 ⟨rfl,M4,hm4,K,D4,_,rfl,hd4,hat4,hs4,hfu4,hlt4⟩
 refine⟨rfl,?_⟩
 obtain⟨hh,hlo⟩:=hL1.load hg hr himg
 refine(reopen_ok (N:=47) (s:=8) (S:=fun _=>True) hd4 hlt4 (by decide) (by decide) (by decide) hat4 hs4 hfu4 hh hlo trivial).mono ?_
 rintro _ H23 ⟨M5,ps5,pj5,J5,D5,rfl,hL23,_,_⟩
 refine⟨_,_,rfl,fun h=>absurd rfl h,fun _=>⟨fun h=>(by cases h),fun _=>?_⟩⟩
 have hLn:=hL1.nrm
 have hsn0:(nrm 47 8 st1).slots[0]?=some ⟨(([97,98]:Octs).length:Int),1,ps'⟩:=hs0
 have hrefs:refsP (nrm 47 8 st1) 1=1:=by
  unfold refsP
  rw[if_neg (by rw[show(nrm 47 8 st1).slots=st1.slots from rfl,hsl];simp),show((1:Int) - 1).toNat=0 from rfl,hsn0]
 refine(hL23.read hLn 1).mono ?_
 rintro _ H27 ⟨out,e27,M6,a28,c30,rfl,hr27,_,hL27,_,hcase⟩
 have hout:e27=0∧out=[97,98]:=by
  rcases hcase with⟨h0,k,y,h1,h2,_,h3⟩|⟨_,_,h⟩
  ·have ek:k=0:=by omega
   subst ek
   rw[hsn0]at h2
   cases h2
   rw[nrm_bytes hL1 hs0,hby]at h3
   exact⟨h0,h3⟩
  ·rw[hrefs]at h;exact absurd (by decide) h
 clear hcase
 obtain⟨rfl,rfl⟩:=hout
 refine⟨_,_,_,_,rfl,fun _=>⟨[97,98],hr27,fun _=>?_,fun h=>absurd rfl h⟩,fun h=>absurd rfl h⟩
 have hfree1:freeN (nrm 47 8 st1)=((42:Nat):Int):=by
  unfold freeN
  have hb:(nrm 47 8 st1).bits=st1.bits:=rfl
  rw[hb,hL1.bits]
  have h1:=cntF_off (p:=onB st1.bits) (s:=5) (c:=42) (fun i h1 h2=>by
   cases e:onB st1.bits i with
   | false=>rfl
   | true=>have:=(hon1 i (by omega)).1 e;omega)
  have h2:=cntF_on (p:=onB st1.bits) (k:=0) (s:=5) (by omega) (fun i _ h2=>(hon1 i (by omega)).2 h2)
  rw[h2]at h1
  have e:cntF (onB st1.bits) 47=42:=by rw[show(47:Nat)=5+42 from rfl,h1];simp[cntF]
  rw[e]
 refine(hL27.used (by rw[hf4];decide) (by rw[show(nrm 47 8 st1).bits=st1.bits from rfl,hL1.bits];decide)).mono ?_
 rintro _ _ ⟨rfl,rfl⟩
 rw[hfree1,hf4]
 refine⟨_,rfl,fun _=>(hL27.refs 1).mono ?_,fun h=>absurd (by decide) h⟩
 rintro _ _ ⟨rfl,rfl⟩
 rw[hrefs]
 exact⟨_,rfl,by simp,hL27.base⟩
end Go.Proofs
end
section
open Go Go.Vc Go.Proofs.Bx
namespace Go.Proofs
def patchO(w:Octs)(k:Nat)(b:Octs):Octs:=(w.take k++b)++w.drop (w.take k++b).length
def PatchOk(f:Int)(st:PSt)(id n:Int)(b:Octs)(st':PSt):Prop:=∃(k:Nat)(s:PSl)(ps':List Pc)(bits':List Bool),id=(k:Int)+1∧st.slots[k]?=some s∧0<s.refs∧(0≤n∧n≤s.size∧(b.length:Int)≤524288 - n) ∧
 FillTo f st s (blocksF (patchO (bytesP st s) n.toNat b).length) ps' bits'∧st'=fillSt st k s (patchO (bytesP st s) n.toNat b) ps' bits'
def PatchNo(f:Int)(st:PSt)(id n:Int)(b:Octs)(e:Int):Prop:=(¬0<refsP st id∧e=6) ∨
 ∃(k:Nat) (s:PSl),id=(k:Int)+1∧st.slots[k]?=some s∧0<s.refs∧((¬(0≤n∧n≤s.size∧(b.length:Int)≤524288 - n)∧e=1)∨((0≤n∧n≤s.size∧(b.length:Int)≤524288 - n)∧FillNo f st s (blocksF (patchO (bytesP st s) n.toNat b).length)∧e=3))
section
variable {H:Heap} {Fj Fx Fy Fd:Nat→Prop} {ps pj pd:Nat} {hh ss bb ff:Int} {x y:RSt} {now kept:PSt} {J:Jn} {D:Dev}
set_option maxHeartbeats 2000000 in
theorem patch_ok(hS:Sto H Fj Fx Fy Fd ps pj pd hh ss bb ff x y now kept J D)(hfine:Fine now ff)(hwh:∀(k:Nat)(s:PSl),now.slots[k]?=some s→Whole now s∧s.size≤524288)(id n:Int)(hn64:In64 n){xa:Option Addr}{xc:Nat}{xs:Octs}(hx:SRow H 1 xs.length (.slice xa xs.length xc) (bytesV xs)) :
  Does Tryz.prog 42 [.pointer (some ⟨ps,0,none⟩),.int .i64 id,.int .i64 n,.slice xa xs.length xc] H fun v H'=>∃now' e,v=.int .i64 e∧Left H Fj Fx Fy Fd ps pj pd hh ss bb ff y kept J D now' H' ∧
   ((e=0∧J.dead=false∧PatchOk ff now id n xs now')∨(e≠0∧now'=now∧(PatchNo ff now id n xs e∨(J.dead=true∧e=4)))):=by
 have hlx:=hS.now.lt
 have hpsl:=hS.blk.lt
 refine Fn_of_vc Tryz.mixed (PatchV _ _ _ _ _ _ _ _) ?_
 intro b1 H2 hn1 b3 H4 hn3 b5 H6 hn5 b7 H8 hn7
 have hx2:=hn1.ext
 have hx4:=hx2.trans' hn3.ext (by simp)
 have hx6:=hx4.trans' hn5.ext (by simp)
 have hx8:=hx6.trans' hn7.ext (by simp)
 have g1:=hn1.eq;have g3:=hn3.eq;have g5:=hn5.eq;have g7:=hn7.eq
 have z2:=hn1.size;have z4:=hn3.size;have z6:=hn5.size;have z8:=hn7.size
 have hb1:=((hn1.blk.ext hn3.ext (by simp)).ext hn5.ext (by simp)).ext hn7.ext (by simp)
 have hb3:=(hn3.blk.ext hn5.ext (by simp)).ext hn7.ext (by simp)
 have hb5:=hn5.blk.ext hn7.ext (by simp)
 have hb7:=hn7.blk
 have hS8:=hS.more hx8
 have hrow8:=hx.ext hx8 (by simp)
 refine⟨some ⟨ps,0,none⟩,by rw[hb1.cell];rfl,(op_ok (k:=123) (first:=[]) (cap:=[.pointer (some ⟨b1,0,none⟩),.pointer (some ⟨b3,0,none⟩),.pointer (some ⟨b5,0,none⟩),.pointer (some ⟨b7,0,none⟩)]) (c:=b1) (C:=fun _=>False) (P:=fun e _=>PatchNo ff now id n xs e) (Q:=fun now' _=>PatchOk ff now id n xs now') hS8 (by omega) (by omega) (fun q hq=>hq.elim) (of_eq_true (show hasB Tryz.prog 123 True=True by kernel_rfl)) ?_).mono ?_⟩
 ·intro hd g H1 rl ba bc ml hxx hg hbg hn ho
  have hb1':=hb1.ext hxx (by simp)
  have hb3':=hb3.ext hxx (by simp)
  have hb5':=hb5.ext hxx (by simp)
  have hb7':=hb7.ext hxx (by simp)
  have hrow1:=hrow8.ext hxx (by simp)
  have hblk:=hS8.blk.ext hxx (by simp)
  have zx:=hxx.size
  have hnN:∀q,H.size≤q→¬Fx q:=fun q hq h=>by have:=hlx q h;omega
  refine FnX_of_vc Tryz.mixed (Patch1V _ _ _ _ _ _ _ _) ?_
  refine⟨some ⟨ps,0,none⟩,by rw[hb1'.cell];rfl,id,by rw[hb3'.cell];rfl,there_ok hblk hn.rows hS.num.1 id (fun sb o k r ha hid hr hrp _=>?_) (hbg.cells 1 0 (by simp)) (fun hnp H3 hp3=>?_)⟩
  ·obtain⟨rfl,s,hs,hsl,hrs,c0,c1,c2,tl,hbq,hlq⟩:=slot_at hn ha hr
   obtain⟨hw,hz⟩:=hwh k s hs
   rw[Nat.zero_add]
   have no1:¬(0≤n∧n≤s.size∧(xs.length:Int)≤524288 - n)→∀H3,Puts H1 g 0 [.int .i64 1] H3→∃n',n'≠0∧PatchNo ff now id n xs n'∧Value.iface 229 (.agg #[.pointer (some ⟨g,0,none⟩)])=.iface 229 (.agg #[.pointer (some ⟨g,0,none⟩)])∧hcell H3 g 0=some (.int .i64 n')∧ExtP (fun q=>Fx q∨False∨q=g) H1 H3:=fun hb H3 hp3=>
    ⟨1,by decide,.inr ⟨k,s,hid,hs,by omega,.inl ⟨hb,rfl⟩⟩,rfl,by rw[(hp3.blk hbg (by simp)).cell];rfl,hp3.ext.lift fun q _ hq=>.inr (.inr (by simpa using hq))⟩
   refine⟨_,rfl,n,by rw[hb5'.cell];rfl,fun h0=>?_,fun h0=>want_ok (by decide) (fun h=>by cases h) (fun _=>hbg.cells 1 0 (by simp)) (fun _ H3 hp3=>no1 (fun h=>h0 h.1) H3 hp3)⟩
   refine⟨n,by rw[hb5'.cell];rfl,sb,k*3,rfl,r.size,c0,fun h1=>?_,fun h1=>want_ok (by decide) (fun h=>by cases h) (fun _=>hbg.cells 1 0 (by simp)) (fun _ H3 hp3=>no1 (fun h=>h1 (by rw[hsl.1];exact h.2.1)) H3 hp3)⟩
   rw[hsl.1]at h1
   refine⟨xa,xs.length,xc,by rw[hb7'.cell];rfl,n,by rw[hb5'.cell];rfl,by unfold In64 at hn64 ⊢;omega,want_ok (by decide) (fun h2=>?_) (fun _=>hbg.cells 1 0 (by simp)) (fun h2 H3 hp3=>?_)⟩
   ·have h2:=@of_decide_eq_true _ (Classical.propDecidable _) h2
    refine⟨rfl,some ⟨ps,0,none⟩,by rw[hb1'.cell];rfl,(Does.x (X:=fun _ _=>False) (sbytes_ok hblk hn hsl c0 c2 hw)).mono ?_ (fun _ _ h=>h.elim)⟩
    rintro _ H19 ⟨a,c,rfl,hrow,hfr,hx19,hlc⟩
    have z19:=hx19.size
    have hlen:=bytesP_length hn hw
    obtain⟨w,hwd⟩:∃w,bytesP now s=w:=⟨_,rfl⟩
    rw[hwd]at hrow hlen hlc ⊢
    obtain⟨m,hm⟩:∃m:Nat,n=m:=⟨n.toNat,by omega⟩
    subst hm
    have hmw:m≤w.length:=by omega
    have hxs19:=hrow1.ext hx19 (by simp)
    refine⟨a,_,c,rfl,m,by rw[(hb5'.ext hx19 (by simp)).cell];rfl,by omega,by omega,xa,xs.length,xc,by rw[(hb7'.ext hx19 (by simp)).cell];rfl,fun b27 H28 hn27=>?_⟩
    rw[Int.toNat_natCast]at hn27
    have z28:=hn27.size
    have e27:=hn27.eq
    have hx28:=hn27.ext
    have hlt:(w.take m).length=m:=by rw[List.length_take];omega
    have hrowA:SRow H28 1 (w.take m).length (.slice a (w.take m).length c) (bytesV (w.take m)):=by
     have:=SRow.take1 (l':=m) (c':=c) (hrow.ext hx28 (by simp)) (k:=m) hmw
     rw[hlt]
     rwa[show(bytesV w).take m=bytesV (w.take m)from by simp[bytesV]]at this
    have hrowB:=hxs19.ext hx28 (by simp)
    have hvs:SRow H28 1 2 (.slice (some ⟨b27,0,none⟩) 2 2) [.slice a m c,.slice xa xs.length xc]:=by
     refine⟨rfl,.inr rfl,fun j u hj=>?_⟩
     show hcell H28 b27 (0+j)=some u
     rw[Nat.zero_add,hn27.blk.cell]
     exact hj
    have hcat:catP (fun i=>if i=0 then w.take m else xs) 2=w.take m++xs:=by simp[catP,List.range_succ]
    have hcl:∀i,i≤2→(catP (fun i=>if i=0 then w.take m else xs) i).length≤100000000:=fun i hi=>by
     match i,hi with
     | 0,_=>simp[catP]
     | 1,_=>simp[catP,List.range_succ];omega
     | 2,_=>rw[hcat,List.length_append];omega
    have hcc:=concat_ok (H:=H28) (a:=some ⟨b27,0,none⟩) (k:=2) (c:=2) (P:=fun i=>if i=0 then w.take m else xs) hvs (fun i hi=>by
     match i,hi with
     | 0,_=>exact⟨a,c,by simp[hmw],hrowA⟩
     | 1,_=>exact⟨xa,xc,rfl,hrowB⟩) (by omega) hcl
    rw[hcat]at hcc
    refine(Does.x (X:=fun _ _=>False) hcc).mono ?_ (fun _ _ h=>h.elim)
    rintro _ H30 ⟨⟨a31,c33,rfl,ho31,hf31⟩,hx30⟩
    have z30:=hx30.size
    have hx130:Ext [] H1 H30:=(hx19.trans' hx28 (by simp)).trans' hx30 (by simp)
    have hn30:=hn.extP (M:=fun _=>False) hx130.anyP (fun _ _ h=>h) (fun _ _ h=>h)
    have hbl:∀{K:Heap} {L:List Nat},Ext L H30 K→(∀q∈L,H1.size≤q)→Blk K b1 [.pointer (some ⟨ps,0,none⟩)]∧Blk K ps (stoV pj hh ss bb ff x y)∧Blk K g [.int .i64 0]:=fun {K L} hK hL=>by
     have h1:=hb1'.lt;have h2:=hblk.lt;have h3:=hbg.lt
     exact⟨(hb1'.ext hx130 (by simp)).ext hK (fun h=>by have:=hL _ h;omega),(hblk.ext hx130 (by simp)).ext hK (fun h=>by have:=hL _ h;omega),(hbg.ext hx130 (by simp)).ext hK (fun h=>by have:=hL _ h;omega)⟩
    have fin:∀{K:Heap} {L:List Nat} {af:Option Addr} {cf lf:Nat},Ext L H30 K→(∀q∈L,H1.size≤q)→lf=(patchO w m xs).length→SRow K 1 (patchO w m xs).length (.slice af (patchO w m xs).length cf) (bytesV (patchO w m xs))→(∀q∈blkOf af,H1.size≤q) →
      DoesX Tryz.prog 107 [.pointer (some ⟨ps,0,none⟩),.pointer (some ⟨g,0,none⟩),.pointer (some ⟨sb,k*3,none⟩),.slice af lf cf] K (fun (v41:Value) H42=>v41=.tuple #[]∧(fun (v:Value) H2=>v=.tuple #[]∧∃now' rl' ml' Fd',NowIs H2 Fd' x rl' ba bc ml' now'∧PatchOk ff now id m xs now'∧ExtP (fun q=>Fx q∨False) H1 H2∧(∀q,Fd q→Fd' q)∧∀q,Fd' q→Fd q∨(H1.size≤q∧q<H2.size)) (.tuple #[]) H42)
       (fun p H2=>∃n',n'≠0∧PatchNo ff now id m xs n'∧p=.iface 229 (.agg #[.pointer (some ⟨g,0,none⟩)])∧hcell H2 g 0=some (.int .i64 n')∧ExtP (fun q=>Fx q∨False∨q=g) H1 H2):=fun {K L af cf lf} hK hL el hrw hfw=>by
     subst el
     obtain⟨k1,k2,k3⟩:=hbl hK hL
     have zK:=hK.size
     have hlf:(patchO w m xs).length≤524288:=by
      unfold patchO
      rw[List.length_append,List.length_drop,List.length_append,hlt]
      omega
     have hnK:=hn30.extP (M:=fun q=>q∈L) hK.toP (fun q hq h=>by have:=hL q h;have:=hn.lt q hq;omega) (fun q hq h=>by have:=hL q h;have:=hS8.lt q hq;omega)
     have hxK:ExtP (fun _=>False) H1 K:=⟨by omega,fun q hq _=>by rw[hK.keep q (by omega) (fun h=>by have:=hL q h;omega),hx130.keep q hq (by simp)]⟩
     refine fill_ok k2 hnK (fun q hq=>by have:=hS8.lt q hq;omega) ha hr hs (hfine.2.2 k s hs) hfine.1 hfine.2.1 hrw hlf (fun q hq h=>hnN q (by have:=hfw q hq;omega) ((ho q).1 h)) (fun h=>hS.sep.2.1 ((ho ps).1 h)) k3 (fun h=>hnN g (by omega) ((ho g).1 h)) ?_ ?_
     ·intro H' ps' bits' rl' ml' Fd' hT hN he hF1 hF2
      exact⟨rfl,rfl,_,rl',ml',Fd',hN,⟨k,s,ps',bits',hid,hs,by omega,⟨h0,h1,h2⟩,by rw[hwd,Int.toNat_natCast];exact hT,by rw[hwd,Int.toNat_natCast]⟩,(hxK.mono fun _ _ h=>h.elim).trans (he.mono fun q _ hq=>.inl ((ho q).1 hq)),hF1,fun q hq=>(hF2 q hq).imp _root_.id fun h=>⟨by omega,h.2⟩⟩
     ·intro hno H' hc he
      exact⟨3,by decide,.inr ⟨k,s,hid,hs,by omega,.inr ⟨⟨h0,h1,h2⟩,by rw[hwd,Int.toNat_natCast];exact hno,rfl⟩⟩,rfl,hc,(hxK.mono fun _ _ h=>h.elim).trans (he.mono fun q _ hq=>hq.elim (fun h=>.inl ((ho q).1 h)) fun h=>.inr (.inr h))⟩
    have hmm:(w.take m++xs).length=m+xs.length:=by rw[List.length_append,hlt]
    refine⟨_,_,_,rfl,fun hl1=>?_,fun hl1=>?_⟩
    ·refine⟨by omega,by omega,fun a34 ha34=>?_⟩
     rw[Int.toNat_natCast]at ha34 ⊢
     rw[if_neg (by omega)]at ha34
     have hrowW:=(hrow.ext hx28 (by simp)).ext hx30 (by simp)
     have hsub:=srow_sub hrowW (o:=(w.take m++xs).length) (n:=w.length - (w.take m++xs).length) (c':=c - (w.take m++xs).length) (by omega)
     have etk:(w.drop (w.take m++xs).length).take (w.length - (w.take m++xs).length)=w.drop (w.take m++xs).length:=List.take_of_length_le (by rw[List.length_drop];exact Nat.le_refl _)
     rw[etk]at hsub
     rw[Nat.mul_one]at ha34
     rw[←ha34]at hsub
     refine⟨bytesV (w.take m++xs),bytesV (w.drop (w.take m++xs).length),ho31.row _ _,hsub,bytesV_one _,by omega,fun hle=>ho31.room hle,fun a37 c38 H39 happ=>?_⟩
     obtain⟨q1,q2,q3⟩:=happ.own ho31 (ho31.row _ _) (by rw[bytesV_length,List.length_drop];omega) rfl
     have hLb:∀q∈blkOf a31,H1.size≤q:=fun q hq=>by have:=hf31 q hq;omega
     have hpl:(w.take m++xs).length+(w.length - (w.take m++xs).length)=(patchO w m xs).length:=by unfold patchO;conv=>rhs;rw[List.length_append,List.length_drop]
     refine⟨some ⟨ps,0,none⟩,by rw[(hbl q2 hLb).1.cell];rfl,fin q2 hLb hpl ?_ (fun q hq=>?_)⟩
     ·rw[←bytesV_append]at q1
      have:=q1.row (patchO w m xs).length c38
      rw[hpl]at this
      exact this
     ·rcases q3 q hq with h|h
      ·exact hLb q h
      ·omega
    ·have hpe:w.take m++xs=patchO w m xs:=by
      unfold patchO
      rw[List.drop_eq_nil_of_le (by omega),List.append_nil]
     rw[hpe]at ho31
     exact⟨some ⟨ps,0,none⟩,by rw[(hbl (Ext.refl [] H30) (by simp)).1.cell];rfl,fin (Ext.refl [] H30) (by simp) (by rw[hpe]) (ho31.row _ _) (fun q hq=>by have:=hf31 q hq;omega)⟩
   ·have h2:=@of_decide_eq_false _ (Classical.propDecidable _) h2
    exact no1 (fun h=>h2 h.2.2) H3 hp3
  ·exact⟨6,by decide,.inl ⟨by rw[←refs_eq hn];exact hnp,rfl⟩,rfl,by rw[(hp3.blk hbg (by simp)).cell];rfl,hp3.ext.lift fun q _ hq=>.inr (.inr (by simpa using hq))⟩
 ·rintro v H9 ⟨now',e,Fx',Fd',x',rfl,h9,he,hF,hF2,hr⟩
  refine⟨e,rfl,now',e,rfl,⟨Fx',Fd',x',h9,⟨by have:=he.size;omega,fun q hq hm=>?_⟩,fun q hq=>(hF q hq).imp _root_.id fun h=>h.imp _root_.id fun h=>by omega,hF2⟩,hr.imp _root_.id fun ⟨r1,r2,r3⟩=>⟨r1,r2,r3.imp _root_.id fun h=>⟨h.1,h.2.1⟩⟩⟩
  rw[he.keep q (by omega) (fun h=>h.elim (fun h=>hm (.inl h)) fun h=>h.elim (fun h=>h) fun h=>hm (.inr h)),hx8.keep q hq (by simp)]
end
end Go.Proofs
end
namespace Go.Vc
open Go Go.ChangeShapes Go.WideShapes
abbrev Rd:=Heap→List Value→Prop
def KInt(k:IntKind):Rd:=fun _ cs=>∃n,cs=[.int k n]∧(Lit.int k n).wf=true
def KAll:List (Nat×Rd)→Rd
 | [],_,cs=>cs=[]
 | (c,R)::r,H,cs=>(cs.take c).length=c∧R H (cs.take c)∧KAll r H (cs.drop c)
def KSlice(c:Nat)(R:Rd):Rd:=fun H cs=>∃(a:Option Addr)(len cap:Nat)(rows:List (List Value)),cs=[.slice a len cap]∧rows.length=len∧len≤maxLen∧(∀r∈rows,r.length=c)∧SRow H c len (.slice a len cap) rows.flatten∧∀r∈rows,R H r
def KBytes:Rd:=fun H cs=>∃(a:Option Addr)(len cap:Nat)(xs:List UInt8),cs=[.slice a len cap]∧xs.length=len∧len≤maxLen∧SRow H 1 len (.slice a len cap) (bytesV xs)
def KInts(k:IntKind):Rd:=fun H cs=>∃(a:Option Addr)(len cap:Nat)(xs:List Int),cs=[.slice a len cap]∧xs.length=len∧len≤maxLen∧SRow H 1 len (.slice a len cap) (xs.map fun n=>.int k n)∧∀n∈xs,(Lit.int k n).wf=true
def Sound(P:Program)(t:TypeId)(R:Rd):Prop:=
 ∀(H:Type) (enc:TypeId×Value→H) (w:World) (base:Nat) (spare:Nat→Bool) (held:Bool) (fuel:Nat) (cs:List Value) (y:DataW H×List MemPlace),DataW.trod enc P w base spare held fuel t cs=some y→R w.heap cs
theorem sound_int{P:Program}{t:TypeId}{k:IntKind}(ht:P.underlying t=some (.int k)):Sound P t (KInt k):=by
 intro H enc w base spare held fuel cs y h
 obtain⟨z,hz,_,hw⟩:=DataW.trod_int ht h
 exact⟨z,hz,hw⟩
def FieldsS(P:Program):Nat→List Field→List (Nat×Rd)→Prop
 | _,[],[]=>True
 | off,fd::fs,(c,R)::l=>fd.offset=off∧P.cellsOf fd.type=c∧Sound P fd.type R∧FieldsS P (off+c) fs l
 | _,_,_=>False
theorem FieldsS.nil{P:Program}{off:Nat}:FieldsS P off [] []:=trivial
theorem FieldsS.cons{P:Program}{off:Nat}{fd:Field}{fs:List Field}{c:Nat}{R:Rd}{l:List (Nat×Rd)}(h1:fd.offset=off)(h2:P.cellsOf fd.type=c)(h3:Sound P fd.type R)(h4:FieldsS P (off+c) fs l):FieldsS P off (fd::fs) ((c,R)::l):=⟨h1,h2,h3,h4⟩
def total:List (Nat×Rd)→Nat
 | []=>0
 | p::l=>p.1+total l
theorem fields_sound{P:Program}{M:Heap}{g:TypeId→List Value→Prop}(cs:List Value):∀(fs:List Field)(off:Nat)(l:List (Nat×Rd)),FieldsS P off fs l→(∀fd∈fs,∀R:Rd,Sound P fd.type R→R M ((cs.drop fd.offset).take (P.cellsOf fd.type)))→off+total l=cs.length→KAll l M (cs.drop off)
 | [],off,[],_,_,hl=>by simp only[total]at hl;exact List.drop_eq_nil_of_le (by omega)
 | fd::fs,off,(c,R)::l,h,hm,hl=>by
  obtain⟨h1,h2,h3,h4⟩:=h
  simp only[total]at hl
  have:=hm fd (by simp) R h3
  rw[h1,h2]at this
  refine⟨by rw[List.length_take,List.length_drop];omega,this,?_⟩
  rw[List.drop_drop]
  exact fields_sound (g:=g) cs fs (off+c) l h4 (fun fd hfd=>hm fd (by simp[hfd])) (by omega)
 | [],_,_::_,h,_,_=>h.elim
 | _::_,_,[],h,_,_=>h.elim
theorem sound_struct{P:Program}{t:TypeId}{fs:Array Field}{l:List (Nat×Rd)}(ht:P.underlying t=some (.struct fs))(hc:P.cellsOf t=total l)(hf:FieldsS P 0 fs.toList l):Sound P t (KAll l):=by
 intro H enc w base spare held fuel cs y h
 obtain⟨xs,m,_,_,hlen,hl2,hm⟩:=DataW.trod_struct ht h
 have:=fields_sound (P:=P) (M:=w.heap) (g:=fun _ _=>True) cs fs.toList 0 l hf (fun fd hfd R hR=>by
  obtain⟨i,hi,he⟩:=List.mem_iff_getElem.1 hfd
  simp only[Array.length_toList]at hi
  have:=hm i fd (by rw[Array.getElem?_eq_getElem hi];simpa using he)
  rw[List.getElem?_eq_getElem (by omega)]at this
  exact hR H enc w base spare held m _ _ this) (by omega)
 rw[List.drop_zero]at this
 exact this
theorem slice_spot{H:Type}{enc:TypeId×Value→H}{P:Program}{w:World}{base:Nat}{spare:Nat→Bool}{held:Bool}{t e:TypeId}{fuel:Nat}{cs:List Value}{y:DataW H×List MemPlace}{c:Nat}(ht:P.underlying t=some (.slice e))(hc:P.cellsOf e=c)(hc0:0<c)
  (h:DataW.trod enc P w base spare held fuel t cs=some y):∃a len cap,cs=[.slice a len cap]∧(len=0∨∀x,a=some x→x.spot=none):=by
 rcases DataW.trod_slice ht h with⟨rfl,_⟩|⟨ad,len,cap,elems,rest,n,_,rfl,_,hb,hl,hm,hlen,hel,_,_⟩
 ·exact⟨none,0,0,rfl,.inl rfl⟩
 ·refine⟨some ad,len,cap,rfl,?_⟩
  by_cases h0:len=0
  ·exact .inl h0
  ·right
   rintro x ⟨rfl⟩
   have h1:=hel 0 (by omega)
   rw[List.getElem?_eq_getElem (by omega),hc]at h1
   cases h2:w.cells? base (ad.add (0*c)) c with
   | none=>rw[h2]at h1;cases h1
   | some r=>
    unfold World.cells? at h2
    split at h2
    ·have h3:=Go.mapM_some_length h2
     simp only[List.length_range]at h3
     have h4:=Go.mapM_some_get h2 0 0 (by simp[hc0])
     rw[List.getElem?_eq_getElem (by omega)]at h4
     have e0:(ad.add (0*c)).add 0=ad:=by simp[Addr.add]
     rw[e0]at h4
     unfold World.cell? at h4
     split at h4
     ·split at h4
      ·cases h4
      ·rename_i hs
       simpa using hs
     ·cases h4
    ·cases h2
theorem sound_slice{P:Program}{t e:TypeId}{c:Nat}{R:Rd}(ht:P.underlying t=some (.slice e))(hc:P.cellsOf e=c)(hc0:0<c)(hs:Sound P e R):Sound P t (KSlice c R):=by
 intro H enc w base spare held fuel cs y h
 obtain⟨a,len,cap,rfl,h0|hsp⟩:=slice_spot ht hc hc0 h
 ·subst h0
  refine⟨a,0,cap,[],rfl,rfl,Nat.zero_le _,by simp,⟨by simp,?_⟩,by simp⟩
  cases a with
  | none=>rfl
  | some x=>exact⟨.inl rfl,fun j u hj=>by simp at hj⟩
 ·obtain⟨rows,h1,h2,h3,h4,h5⟩:=trod_rows ht hc hsp h
  refine⟨a,len,cap,rows,rfl,h1,h2,h4,h5,fun r hr=>?_⟩
  obtain⟨n,y',hy⟩:=h3 r hr
  exact hs H enc w base spare held n r y' hy
theorem sound_ints{P:Program}{t e:TypeId}{k:IntKind}(ht:P.underlying t=some (.slice e))(he:P.underlying e=some (.int k))(hc:P.cellsOf e=1):Sound P t (KInts k):=by
 intro H enc w base spare held fuel cs y h
 obtain⟨a,len,cap,rows,rfl,h1,h2,h3,h4,h5⟩:=sound_slice ht hc (by decide) (sound_int he) H enc w base spare held fuel cs y h
 obtain⟨xs,rfl,h7⟩:=rows_map (f:=fun n:Int=>[.int k n]) (good:=fun n=>(Lit.int k n).wf=true) rows h5
 rw[flatten_single]at h4
 exact⟨a,len,cap,xs,rfl,by simpa using h1,h2,h4,h7⟩
theorem sound_bytes{P:Program}{t e:TypeId}(ht:P.underlying t=some (.slice e))(he:P.underlying e=some (.int .u8))(hc:P.cellsOf e=1):Sound P t KBytes:=by
 intro H enc w base spare held fuel cs y h
 obtain⟨a,len,cap,xs,rfl,h1,h2,h3,h4⟩:=sound_ints ht he hc H enc w base spare held fuel cs y h
 refine⟨a,len,cap,xs.map fun n=>UInt8.ofNat n.toNat,rfl,by simpa using h1,h2,?_⟩
 have:bytesV (xs.map fun n=>UInt8.ofNat n.toNat)=xs.map fun n=>.int .u8 n:=by
  unfold bytesV
  rw[List.map_map]
  refine List.map_congr_left fun n hn=>?_
  have:=h4 n hn
  simp only[Lit.wf,IntKind.min,IntKind.max,IntKind.signed,IntKind.bits]at this
  simp only[Function.comp,Value.int.injEq,true_and]
  rw[UInt8.toNat_ofNat']
  simp at this
  omega
 rw[this]
 exact h3
theorem Sound.of{P:Program}{t:TypeId}{R:Rd}(h:Sound P t R){H:Type}{enc:TypeId×Value→H}{w:World}{base:Nat}{spare:Nat→Bool}{held:Bool}{v:Value}{d:DataW H}{ps:List MemPlace}(hd:DataW.Trod enc P w base spare held t v d ps):R w.heap v.cells.toList:=by
 obtain⟨fuel,hf⟩:=hd
 exact h H enc w base spare held fuel _ _ hf
theorem kslice_at{H:Heap}{c:Nat}{rows:List (List Value)}{a:Option Addr}{len cap:Nat}(h3:∀r∈rows,r.length=c)(h4:SRow H c len (.slice a len cap) rows.flatten)(hc:0<c){i:Nat}{r:List Value}(hi:rows[i]?=some r):∃b o,a=some ⟨b,o,none⟩∧∀j u,r[j]?=some u→hcell H b (o+i*c+j)=some u:=by
 have hr:=h3 r (List.mem_of_getElem? hi)
 have hcell:∀j u,r[j]?=some u→∃b o,a=some ⟨b,o,none⟩∧hcell H b (o+(i*c+j))=some u:=fun j u hj=>by
  have hlt:=(List.getElem?_eq_some_iff.1 hj).1
  have:=flatten_at h3 hi (j:=j) (by omega)
  rw[hj]at this
  exact h4.at this
 obtain⟨b,o,rfl,_⟩:=hcell 0 _ (List.getElem?_eq_getElem (by omega))
 refine⟨b,o,rfl,fun j u hj=>?_⟩
 obtain⟨b',o',e,hc⟩:=hcell j u hj
 cases e
 rw[Nat.add_assoc]
 exact hc
end Go.Vc
section
open Go Go.Vc Go.Proofs.Bx
namespace Go.Vc
def KBytesC:Rd:=fun H cs=>∃(a:Option Addr)(len cap:Nat)(xs:List UInt8),cs=[.slice a len cap]∧xs.length=len∧len≤maxLen∧len≤cap∧SRow H 1 len (.slice a len cap) (bytesV xs)
theorem sound_bytesC{P:Program}{t e:TypeId}(ht:P.underlying t=some (.slice e))(he:P.underlying e=some (.int .u8))(hc:P.cellsOf e=1):Sound P t KBytesC:=by
 intro H enc w base spare held fuel cs y h
 obtain⟨a,len,cap,xs,rfl,h1,h2,h3⟩:=sound_bytes ht he hc H enc w base spare held fuel cs y h
 refine⟨a,len,cap,xs,rfl,h1,h2,?_,h3⟩
 rcases DataW.trod_slice ht h with⟨h0,_⟩|⟨ad,len',cap',elems,rest,n,_,h0,_,_,hl,_⟩
 ·have h0:[Value.slice a len cap]=[.slice none 0 0]:=h0
  simp only[List.cons.injEq,Value.slice.injEq,and_true]at h0
  obtain⟨_,rfl,rfl⟩:=h0
  exact Nat.le_refl _
 ·have h0:[Value.slice a len cap]=[.slice (some ad) len' cap']:=h0
  simp only[List.cons.injEq,Value.slice.injEq,and_true]at h0
  obtain⟨_,rfl,rfl⟩:=h0
  exact hl
end Go.Vc
namespace Go.Proofs
abbrev OStepR:Rd:=KAll [(1,KInt .i64),(1,KInt .i64),(1,KInt .i64),(1,KBytesC),(1,KBytesC)]
theorem ostep_at{H:Heap}{a:Option Addr}{len cap:Nat}(h:KSlice 5 OStepR H [.slice a len cap]){j:Nat}(hj:j<len) :
  ∃b o what id n,∃(pa:Option Addr) (la ca:Nat) (xs:Octs) (pm:Option Addr) (lm cm:Nat) (ms:Octs),a=some ⟨b,o,none⟩∧hcell H b (o+j*5)=some (.int .i64 what)∧hcell H b (o+j*5+1)=some (.int .i64 id)∧hcell H b (o+j*5+1+1)=some (.int .i64 n)∧hcell H b (o+j*5+1+1+1)=some (.slice pa la ca)∧hcell H b (o+j*5+1+1+1+1)=some (.slice pm lm cm) ∧
   xs.length=la∧la≤ca∧SRow H 1 la (.slice pa la ca) (bytesV xs)∧ms.length=lm∧lm≤cm∧SRow H 1 lm (.slice pm lm cm) (bytesV ms)∧In64 n:=by
 obtain⟨a',len',cap',rows,e,h1,h2,h3,h4,h5⟩:=h
 simp only[List.cons.injEq,Value.slice.injEq,and_true]at e
 obtain⟨rfl,rfl,rfl⟩:=e
 have hi:rows[j]?=some (rows[j]'(by omega)):=List.getElem?_eq_getElem (by omega)
 obtain⟨b,o,rfl,hc⟩:=kslice_at h3 h4 (by decide) hi
 have hr:=h5 _ (List.getElem_mem (by omega:j<rows.length))
 have hl:=h3 _ (List.getElem_mem (by omega:j<rows.length))
 generalize rows[j]'(by omega)=r at *
 match r,hl with
 | [v0,v1,v2,v3,v4],_=>
  obtain⟨_,⟨x,e0,_⟩,_,⟨i,e1,_⟩,_,⟨n,e2,w2⟩,_,⟨pa,la,ca,xs,e3,k1,k2,k3,k4⟩,_,⟨pm,lm,cm,ms,e4,m1,m2,m3,m4⟩,_⟩:=hr
  cases e0;cases e1;cases e2;cases e3;cases e4
  refine⟨b,o,x,i,n,pa,la,ca,xs,pm,lm,cm,ms,rfl,hc 0 _ rfl,hc 1 _ rfl,hc 2 _ rfl,hc 3 _ rfl,hc 4 _ rfl,k1,k3,k4,m1,m3,m4,?_⟩
  simp only[Lit.wf,IntKind.min,IntKind.max,IntKind.signed,IntKind.bits]at w2
  simp at w2
  unfold In64
  omega
theorem w8_bd(z:Int):0≤IntKind.wrap .u8 z∧IntKind.wrap .u8 z<256:=by
 have:IntKind.wrap .u8 z=z % 256:=rfl
 omega
theorem byt_w8{l:List Int}:Byt (l.map (IntKind.wrap .u8)):=fun z hz=>by
 obtain⟨x,_,rfl⟩:=List.mem_map.1 hz
 have:=w8_bd x
 omega
theorem bytesV_toU{l:List Int}(h:Byt l):bytesV (toU l)=u8s l:=by rw[←u8s_toI,toI_toU h]
theorem few_ok{H:Heap}{a:Option Addr}{l c:Nat}{xs:Octs}(hx:SRow H 1 l (.slice a l c) (bytesV xs))(hl:xs.length=l)(hlc:l≤c) :
  Does Tryz.prog 21 [.slice a l c,.int .i64 200] H fun v H'=>ToldB H H' v (xs.take 200)∧Ext [] H H':=by
 refine Fn_of_vc Tryz.mixed (FewV _ _ _ _ _ _) ?_
 intro b1 H2 hn1
 have em:Int.toNat (min (l:Int) 200)=min l 200:=by omega
 have ho2:Own H2 1 (some ⟨b1,0,none⟩) 0 0 []:=⟨rfl,Nat.le_refl _,Nat.zero_le _,.inr ⟨b1,[],rfl,hn1.blk,rfl⟩⟩
 rw[em]
 have hrow:SRow H2 1 (min l 200) (.slice a (min l 200) c) ((bytesV xs).take (min l 200)):=SRow.take1 (hx.ext hn1.ext (by simp)) (by omega)
 refine⟨by omega,by omega,[],(bytesV xs).take (min l 200),ho2.row 0 0,hrow,fun u hu=>bytesV_one xs u (List.mem_of_mem_take hu),by omega,fun hle=>by have:=ho2.room (n:=min l 200) hle;simpa using this,fun a5 c6 H7 happ=>?_⟩
 obtain⟨q1,q2,q3⟩:=happ.own ho2 (ho2.row 0 0) (by rw[List.length_take,bytesV_length];omega) rfl
 have e1:=hn1.eq
 have z2:=hn1.size
 have et:(bytesV xs).take (min l 200)=bytesV (xs.take 200):=by
  unfold bytesV
  rw[←List.map_take]
  congr 1
  by_cases h:l≤200
  ·rw[List.take_of_length_le (by omega),List.take_of_length_le (by omega)]
  ·rw[show min l 200=200 by omega]
 have el:(xs.take 200).length=min l 200:=by rw[List.length_take];omega
 rw[List.nil_append,et,Nat.zero_add]at q1
 rw[Nat.zero_add]
 refine⟨⟨a5,c6,by rw[el],by rw[el];exact q1,fun q hq=>?_⟩,hn1.ext.trans' q2 (fun i hi=>by simp only[blkOf,List.mem_singleton]at hi;exact .inl (by omega))⟩
 rcases q3 q hq with h|h
 ·simp only[blkOf,List.mem_singleton]at h;omega
 ·omega
def moreO(k id:Int)(n:Nat):List Int:=((List.range n).map fun (j:Nat)=>IntKind.wrap .i64 (k+j+id)).map (IntKind.wrap .u8)
def bytesO(xs:Octs)(n id more:Int):Octs:=xs.take 200++(if Int.tmod n 3=0 then toU (moreO (xs.take 200).length id ((IntKind.wrap .i64 (Int.tdiv n 3)) % more - (xs.take 200).length).toNat)else [])
theorem moreO_succ(k id:Int)(n:Nat):moreO k id (n+1)=moreO k id n++[IntKind.wrap .u8 (IntKind.wrap .i64 (k+n+id))]:=by simp[moreO,List.range_succ]
theorem moreO_byt(k id:Int)(n:Nat):Byt (moreO k id n):=byt_w8
theorem bytesO_length(xs:Octs)(n id more:Int)(hm:0<more):((bytesO xs n id more).length:Int)≤200+more:=by
 unfold bytesO
 rw[List.length_append]
 have h1:(xs.take 200).length≤200:=by rw[List.length_take];omega
 have h2:=Int.emod_nonneg (IntKind.wrap .i64 (Int.tdiv n 3)) (show more≠0 by omega)
 have h3:=Int.emod_lt_of_pos (IntKind.wrap .i64 (Int.tdiv n 3)) hm
 split
 ·have:(toU (moreO (xs.take 200).length id ((IntKind.wrap .i64 (Int.tdiv n 3)) % more - (xs.take 200).length).toNat)).length=((IntKind.wrap .i64 (Int.tdiv n 3)) % more - (xs.take 200).length).toNat:=by simp[toU,moreO]
  rw[this];omega
 ·simp;omega
set_option maxHeartbeats 1000000 in
theorem bytesL_ok{H:Heap}{a a':Option Addr}{l c l' c':Nat}{xs:Octs}(hx:SRow H 1 l (.slice a l c) (bytesV xs))(hl:xs.length=l)(hlc:l≤c)(what id n more:Int)(hm:0<more∧more≤1000000) :
  Does Tryz.prog 14 [.agg #[.int .i64 what,.int .i64 id,.int .i64 n,.slice a l c,.slice a' l' c'],.int .i64 more] H fun v H'=>ToldB H H' v (bytesO xs n id more)∧Ext [] H H':=by
 refine Fn_of_vc Tryz.mixed (BytesLV _ _ _ _ _ _ _ _ _ _ _ _) ?_
 intro b1 H2 hn1
 have e1:=hn1.eq
 have z2:=hn1.size
 refine⟨a,l,c,by rw[hn1.blk.cell];rfl,(few_ok (hx.ext hn1.ext (by simp)) hl hlc).mono ?_⟩
 rintro _ H7 ⟨⟨a8,c10,rfl,ho7,hf7⟩,hx7⟩
 have z7:=hx7.size
 have hb7:=hn1.blk.ext hx7 (by simp)
 obtain⟨b,hb⟩:∃b,xs.take 200=b:=⟨_,rfl⟩
 rw[hb]at ho7 ⊢
 have hbl:b.length≤200:=by rw[←hb,List.length_take];omega
 refine⟨a8,b.length,c10,rfl,n,by rw[hb7.cell];rfl,by decide,?_⟩
 rintro q12 rfl
 have h2:=Int.emod_nonneg (IntKind.wrap .i64 (Int.tdiv n 3)) (show more≠0 by omega)
 have h3:=Int.emod_lt_of_pos (IntKind.wrap .i64 (Int.tdiv n 3)) hm.1
 obtain⟨m,hmm⟩:∃m:Nat,(IntKind.wrap .i64 (Int.tdiv n 3)) % more=m:=⟨_,(Int.toNat_of_nonneg h2).symm⟩
 refine⟨fun h0=>?_,fun h0=>?_⟩
 ·refine⟨fun a l c K=>∃j:Nat,l=b.length+j∧(j=0∨b.length+j≤m)∧Own K 1 a l c (bytesV (b++toU (moreO b.length id j)))∧(∀q∈blkOf a,H2.size≤q)∧Ext [] H2 K,fun _ l _ _=>m - l,⟨0,rfl,.inl rfl,by simpa[moreO,toU]using ho7,fun q hq=>hf7 q hq,hx7⟩,?_⟩
  rintro a15 _ c17 H18 ⟨j,rfl,hj,ho,hf,hxk⟩
  have z18:=hxk.size
  have hb18:=hn1.blk.ext hxk (by simp)
  refine⟨n,by rw[hb18.cell];rfl,by decide,?_⟩
  rintro q20 rfl
  refine(Go.Proofs.pick_ok _ _ _ hm.1 (by omega)).mono ?_
  rintro _ _ ⟨rfl,rfl⟩
  rw[hmm]
  refine⟨_,rfl,fun hlt=>?_,fun hge=>?_⟩
  ·refine⟨id,by rw[hb18.cell];rfl,?_⟩
   rintro q25 rfl q26 rfl b27 H28 hn28
   have hx28:=hn28.ext
   have ho28:=ho.ext hx28 (by simp)
   refine⟨bytesV (b++toU (moreO b.length id j)),[.int .u8 (IntKind.wrap .u8 (IntKind.wrap .i64 (((b.length+j:Nat):Int)+id)))],ho28.row _ _,?_,fun u hu=>by simp only[List.mem_singleton]at hu;subst hu;rfl,by omega,fun hle=>ho28.room hle,fun a31 c32 H33 happ=>?_⟩
   ·refine⟨rfl,.inr rfl,fun i u hi=>?_⟩
    show hcell H28 b27 (0+i)=some u
    rw[Nat.zero_add,hn28.blk.cell]
    exact hi
   ·obtain⟨q1,q2,q3⟩:=happ.own ho28 (ho28.row _ _) rfl rfl
    have z28:=hn28.size
    refine⟨⟨j+1,by omega,by omega,?_,fun q hq=>?_,(hxk.trans' hx28 (by simp)).trans' q2 (fun i hi=>.inl (hf i hi))⟩,by dsimp only;omega⟩
    ·have e:bytesV (b++toU (moreO b.length id (j+1)))=bytesV (b++toU (moreO b.length id j))++[.int .u8 (IntKind.wrap .u8 (IntKind.wrap .i64 (((b.length+j:Nat):Int)+id)))]:=by
      rw[bytesV_append,bytesV_append,bytesV_toU (moreO_byt _ _ _),bytesV_toU (moreO_byt _ _ _),moreO_succ,u8s_append,List.append_assoc]
      rw[show((b.length+j:Nat):Int)=(b.length:Int)+j by omega];rfl
     rw[e]
     exact q1
    ·rcases q3 q hq with h|h
     ·exact hf q h
     ·omega
  ·have ej:j=((m:Int) - b.length).toNat:=by omega
   have e:bytesO xs n id more=b++toU (moreO b.length id j):=by
    unfold bytesO
    rw[hb,if_pos h0,hmm,←ej]
   have el:(b++toU (moreO b.length id j)).length=b.length+j:=by simp[toU,moreO]
   rw[e]
   exact⟨⟨a15,c17,by rw[el],by rw[el];exact ho,fun q hq=>by have:=hf q hq;omega⟩,hn1.ext.trans' hxk (by simp)⟩
 ·have e:bytesO xs n id more=b:=by
   unfold bytesO
   rw[hb,if_neg h0,List.append_nil]
  rw[e]
  exact⟨⟨a8,c10,rfl,ho7,fun q hq=>by have:=hf7 q hq;omega⟩,hn1.ext.trans' hx7 (by simp)⟩
noncomputable def contP(st:PSt)(id:Int):Octs:=match st.slots[(id - 1).toNat]? with|some y=>bytesP st y|none=>[]
theorem idsP_at{N:Nat}{s:Int}{st:PSt}(_:Leg N s st){id:Int}(hi:id∈idsP st):∃(k:Nat)(y:PSl),id=(k:Int)+1∧st.slots[k]?=some y∧0<y.refs∧contP st id=bytesP st y∧refsP st id=y.refs:=by
 unfold idsP at hi
 obtain⟨k,hk,rfl⟩:=List.mem_map.1 hi
 obtain⟨h1,h2⟩:=List.mem_filter.1 hk
 have hk:=List.mem_range.1 h1
 have hy:=List.getElem?_eq_getElem hk
 rw[hy]at h2
 refine⟨k,st.slots[k],rfl,hy,by simpa using h2,?_,?_⟩
 ·unfold contP
  rw[show((k:Int)+1 - 1).toNat=k by omega,hy]
 ·unfold refsP
  rw[if_neg (by omega),show((k:Int)+1 - 1).toNat=k by omega,hy]
theorem mk_size(l:Octs):(ByteArray.mk l.toArray).size=l.length:=by simp[ByteArray.size]
section
variable {H0 H:Heap} {M:Nat→Prop} {ps pj pd n z B N:Nat} {s:Int} {now kept:PSt} {J:Jn} {D:Dev} {cur:Nat→Octs} {S:(Nat→Octs)→Prop}
theorem Step.trans{H H1 H2:Heap}{M M1 M2:Nat→Prop}(h:Step H M H1 M1)(k:Step H1 M1 H2 M2):Step H M H2 M2:=⟨h.ext.trans' k.ext (fun q hq=>(h.reg q hq).symm),fun q hq=>by
 rcases k.reg q hq with h'|h'
 ·exact h.reg q h'
 ·exact .inr (by have:=h.ext.size;omega)⟩
theorem Step.more{H H1:Heap}{M:Nat→Prop}(h:Ext [] H H1):Step H M H1 M:=⟨h.anyP,fun _ h=>.inl h⟩
theorem Leg.bytes_len(h:Leg N s now){k:Nat}{y:PSl}(hk:now.slots[k]?=some y):(bytesP now y).length=y.size.toNat:=by
 have hw:=(h.whole k y hk).1
 unfold bytesP
 have h0:=countF_bd y.ps
 rw[List.length_take,catD_length _ _ (fun j hj=>?_)]
 ·have:=hw.1;have:=hw.2.2.1;omega
 ·rw[count_right (h.right hk) h.num.2.2]at hj
  rw[at_right (h.right hk) h.num.2.2 (by omega)]
  obtain⟨o,ho,hol⟩:=h.data _ (mem_allBlk.2 ⟨k,y,hk,List.getElem_mem (by omega:j<(blocksI y.ps).length)⟩)
  rw[ho];exact hol
end
end Go.Proofs
end
section
open Go Go.Vc Go.Proofs.Bx
namespace Go.Proofs
noncomputable def objP(st:PSt)(k:Nat):Option (Octs×Int):=match st.slots[k]? with|some y=>if 0<y.refs then some (bytesP st y,y.refs)else none|none=>none
def ChgO(st st':PSt)(id:Int)(f:Octs×Int→Option (Octs×Int)):Prop:=∃(k:Nat)(o:Octs×Int),id=(k:Int)+1∧objP st k=some o∧∀j,objP st' j=if j=k then f o else objP st j
def NoO(st:PSt)(id:Int):Prop:=∀k:Nat,id=(k:Int)+1→objP st k=none
def HasO(st:PSt)(id:Int):Prop:=∃(k:Nat)(o:Octs×Int),id=(k:Int)+1∧objP st k=some o
section
variable {N:Nat} {s:Int} {st:PSt}
theorem objP_some{k:Nat}{y:PSl}(hk:st.slots[k]?=some y)(hr:0<y.refs):objP st k=some (bytesP st y,y.refs):=by unfold objP;rw[hk];simp only;rw[if_pos hr]
theorem objP_get{k:Nat}{o:Octs×Int}(h:objP st k=some o):∃y,st.slots[k]?=some y∧0<y.refs∧o=(bytesP st y,y.refs):=by
 unfold objP at h
 split at h
 ·rename_i y hy
  split at h
  ·rename_i hr
   cases h
   exact⟨y,hy,hr,rfl⟩
  ·cases h
 ·cases h
theorem noO_of{id:Int}(h:¬0<refsP st id):NoO st id:=by
 intro k hk
 subst hk
 unfold objP
 split
 ·rename_i y hy
  rw[if_neg]
  unfold refsP at h
  have:=(List.getElem?_eq_some_iff.1 hy).1
  rw[if_neg (by omega),show((k:Int)+1 - 1).toNat=k by omega,hy]at h
  exact h
 ·rfl
theorem Leg.objFill(h:Leg N s st){k:Nat}{y:PSl}(hk:st.slots[k]?=some y)(hy:0<y.refs){xs:Octs}(hx:xs.length≤524288){ps':List Pc}{bits':List Bool}(hf:FillTo (firstN N s) st y (blocksF xs.length) ps' bits')(j:Nat) :
  objP (fillSt st k y xs ps' bits') j=if j=k then some (xs,y.refs)else objP st j:=by
 obtain⟨_,h2,h3⟩:=h.fill hk hy hx hf
 have hlt:=(List.getElem?_eq_some_iff.1 hk).1
 by_cases e:j=k
 ·subst e
  rw[if_pos rfl,objP_some (y:=⟨xs.length,y.refs,ps'⟩) (List.getElem?_set_self hlt) hy,h2]
 ·rw[if_neg e]
  have hs:(fillSt st k y xs ps' bits').slots[j]?=st.slots[j]?:=List.getElem?_set_ne (Ne.symm e)
  unfold objP
  rw[hs]
  cases hj:st.slots[j]? with
  | none=>rfl
  | some z=>simp only;rw[h3 j z e hj]
theorem objRefs{k:Nat}{y:PSl}(hk:st.slots[k]?=some y){r:Int}(hr:0<r)(j:Nat):objP {st with slots:=st.slots.set k {y with refs:=r}} j=if j=k then some (bytesP st y,r)else objP st j:=by
 have hlt:=(List.getElem?_eq_some_iff.1 hk).1
 by_cases e:j=k
 ·subst e
  rw[if_pos rfl,objP_some (y:={y with refs:=r}) (List.getElem?_set_self hlt) hr];rfl
 ·rw[if_neg e]
  have hs:(st.slots.set k {y with refs:=r})[j]?=st.slots[j]?:=List.getElem?_set_ne (Ne.symm e)
  unfold objP
  simp only[hs]
  rfl
theorem objDrop{k:Nat}{y:PSl}(hk:st.slots[k]?=some y)(bs:List Bool)(j:Nat):objP {st with slots:=st.slots.set k ⟨0,0,[]⟩,bits:=bs} j=if j=k then none else objP st j:=by
 have hlt:=(List.getElem?_eq_some_iff.1 hk).1
 by_cases e:j=k
 ·subst e
  rw[if_pos rfl]
  unfold objP
  simp only[List.getElem?_set_self hlt]
  simp
 ·rw[if_neg e]
  have hs:(st.slots.set k ⟨0,0,[]⟩)[j]?=st.slots[j]?:=List.getElem?_set_ne (Ne.symm e)
  unfold objP
  simp only[hs]
  rfl
end
section
variable {H0 H:Heap} {M:Nat→Prop} {ps pj pd n z B N:Nat} {s:Int} {now kept:PSt} {J:Jn} {D:Dev} {cur:Nat→Octs} {S:(Nat→Octs)→Prop}
theorem StL.createL(h:StL H0 H M ps pj pd n z B N s now kept J D cur S)(hl:Leg N s now){xa:Option Addr}{xc:Nat}{xs:Octs}(hx:SRow H 1 xs.length (.slice xa xs.length xc) (bytesV xs))(hxo:∀q∈blkOf xa,¬M q) :
  Does Tryz.prog 31 [.pointer (some ⟨ps,0,none⟩),.slice xa xs.length xc] H fun v H'=>∃now' id e M',v=.tuple #[.int .i64 id,.int .i64 e]∧StL H0 H' M' ps pj pd n z B N s now' kept J D cur S∧Step H M H' M'∧Leg N s now' ∧
   ((e=0∧∃k:Nat,id=(k:Int)+1∧k<now.slots.length∧objP now k=none∧∀j,objP now' j=if j=k then some (xs,1)else objP now j)∨(e≠0∧id=0∧now'=now∧((e=1∧524288<xs.length)∨e=3))):=by
 refine(h.create hl.fine hx hxo).mono ?_
 rintro v H' ⟨now',id,e,M',rfl,h1,h2,hc⟩
 refine⟨now',id,e,M',rfl,h1,h2,?_⟩
 rcases hc with⟨rfl,hl5,k,y,ps',bits',g1,rfl,g3,g4,g5,rfl⟩|⟨g1,g2,rfl,g4⟩
 ·have hL1:Leg N s (refd now k y):=hl.setRefs g3 (r:=1) (by decide)
  have hlt:=(List.getElem?_eq_some_iff.1 g3).1
  have hz1:(refd now k y).slots[k]?=some {y with refs:=1}:=List.getElem?_set_self hlt
  refine⟨(hL1.fill hz1 (show(0:Int)<1 by decide) hl5 g5).1,.inl ⟨rfl,k,rfl,hlt,?_,fun j=>?_⟩⟩
  ·unfold objP;rw[g3];simp only;rw[if_neg (by omega)]
  ·rw[hL1.objFill hz1 (show(0:Int)<1 by decide) hl5 g5 j]
   by_cases e:j=k
   ·rw[if_pos e,if_pos e]
   ·rw[if_neg e,if_neg e]
    have:=objRefs g3 (r:=1) (by decide) j
    rw[if_neg e]at this
    exact this
 ·refine⟨hl,.inr ⟨g1,g2,rfl,?_⟩⟩
  rcases g4 with⟨g,rfl⟩|⟨_,_,rfl⟩|⟨_,_,_,_,_,_,rfl⟩
  ·exact .inl ⟨rfl,g⟩
  ·exact .inr rfl
  ·exact .inr rfl
theorem StL.writeL(h:StL H0 H M ps pj pd n z B N s now kept J D cur S)(hl:Leg N s now)(id:Int){xa:Option Addr}{xc:Nat}{xs:Octs}(hx:SRow H 1 xs.length (.slice xa xs.length xc) (bytesV xs))(hxo:∀q∈blkOf xa,¬M q) :
  Does Tryz.prog 41 [.pointer (some ⟨ps,0,none⟩),.int .i64 id,.slice xa xs.length xc] H fun v H'=>∃now' e M',v=.int .i64 e∧StL H0 H' M' ps pj pd n z B N s now' kept J D cur S∧Step H M H' M'∧Leg N s now' ∧
   ((e=0∧ChgO now now' id fun o=>some (xs,o.2))∨(e≠0∧now'=now∧((e=1∧524288<xs.length)∨(e=6∧NoO now id)∨(e=3∧HasO now id)))):=by
 have hd:=h.lays.2.2
 have hlo:=h.low
 have hnn:=h.num
 obtain⟨Fj,Fx,Fy,Fd,x,y,hT,hJ,hM⟩:=h.ex
 refine(write_ok hT hl.fine id hx (fun q hq hq'=>hxo q hq ((hM q).1 (.inr (.inl hq'))))).mono ?_
 rintro v H' ⟨now',e,rfl,hL,hc⟩
 obtain⟨M',h1,h2⟩:=StL.left hT hJ hM hlo hnn hL
 refine⟨now',e,M',rfl,h1,h2,?_⟩
 rcases hc with⟨rfl,_,hl5,k,y,ps',bits',rfl,g3,g4,g5,rfl⟩|⟨g1,rfl,g3|⟨g3,_⟩⟩
 ·exact⟨(hl.fill g3 g4 hl5 g5).1,.inl ⟨rfl,k,_,rfl,objP_some g3 g4,fun j=>hl.objFill g3 g4 hl5 g5 j⟩⟩
 ·refine⟨hl,.inr ⟨g1,rfl,?_⟩⟩
  rcases g3 with⟨g,rfl⟩|⟨_,g,rfl⟩|⟨_,k,y,rfl,g,g',_,rfl⟩
  ·exact .inl ⟨rfl,g⟩
  ·exact .inr (.inl ⟨rfl,noO_of g⟩)
  ·exact .inr (.inr ⟨rfl,k,_,rfl,objP_some g g'⟩)
 ·rw[hd]at g3;cases g3
theorem StL.patchL(h:StL H0 H M ps pj pd n z B N s now kept J D cur S)(hl:Leg N s now)(id m:Int)(hm:In64 m){xa:Option Addr}{xc:Nat}{xs:Octs}(hx:SRow H 1 xs.length (.slice xa xs.length xc) (bytesV xs)) :
  Does Tryz.prog 42 [.pointer (some ⟨ps,0,none⟩),.int .i64 id,.int .i64 m,.slice xa xs.length xc] H fun v H'=>∃now' e M',v=.int .i64 e∧StL H0 H' M' ps pj pd n z B N s now' kept J D cur S∧Step H M H' M'∧Leg N s now' ∧
   ((e=0∧ChgO now now' id fun o=>some (patchO o.1 m.toNat xs,o.2))∨(e≠0∧now'=now∧((e=6∧NoO now id)∨(e=1∧∃(k:Nat) (o:Octs×Int),id=(k:Int)+1∧objP now k=some o∧¬(0≤m∧m≤o.1.length∧(xs.length:Int)≤524288 - m))∨(e=3∧HasO now id)))):=by
 have hd:=h.lays.2.2
 have hlo:=h.low
 have hnn:=h.num
 obtain⟨Fj,Fx,Fy,Fd,x,y,hT,hJ,hM⟩:=h.ex
 refine(patch_ok hT hl.fine hl.whole id m hm hx).mono ?_
 rintro v H' ⟨now',e,rfl,hL,hc⟩
 obtain⟨M',h1,h2⟩:=StL.left hT hJ hM hlo hnn hL
 refine⟨now',e,M',rfl,h1,h2,?_⟩
 rcases hc with⟨rfl,_,k,y,ps',bits',rfl,g3,g4,⟨g5,g6,g7⟩,g8,rfl⟩|⟨g1,rfl,g3|⟨g3,_⟩⟩
 ·have hbl:=hl.bytes_len g3
  have hsl:=hl.sl k y g3
  have hlp:(patchO (bytesP now y) m.toNat xs).length≤524288:=by
   unfold patchO
   rw[List.length_append,List.length_drop,List.length_append,List.length_take]
   omega
  exact⟨(hl.fill g3 g4 hlp g8).1,.inl ⟨rfl,k,_,rfl,objP_some g3 g4,fun j=>hl.objFill g3 g4 hlp g8 j⟩⟩
 ·refine⟨hl,.inr ⟨g1,rfl,?_⟩⟩
  rcases g3 with⟨g,rfl⟩|⟨k,y,rfl,g,g',⟨g5,rfl⟩|⟨_,_,rfl⟩⟩
  ·exact .inl ⟨rfl,noO_of g⟩
  ·have hbl:=hl.bytes_len g
   have hsl:=hl.sl k y g
   exact .inr (.inl ⟨rfl,k,_,rfl,objP_some g g',fun hh=>g5 ⟨hh.1,by have:=hh.2.1;simp only at this;omega,hh.2.2⟩⟩)
  ·exact .inr (.inr ⟨rfl,k,_,rfl,objP_some g g'⟩)
 ·rw[hd]at g3;cases g3
theorem StL.truncL(h:StL H0 H M ps pj pd n z B N s now kept J D cur S)(hl:Leg N s now)(id m:Int) :
  Does Tryz.prog 43 [.pointer (some ⟨ps,0,none⟩),.int .i64 id,.int .i64 m] H fun v H'=>∃now' e M',v=.int .i64 e∧StL H0 H' M' ps pj pd n z B N s now' kept J D cur S∧Step H M H' M'∧Leg N s now' ∧
   ((e=0∧ChgO now now' id fun o=>some (o.1.take m.toNat,o.2))∨(e≠0∧now'=now∧((e=6∧NoO now id)∨(e=1∧∃(k:Nat) (o:Octs×Int),id=(k:Int)+1∧objP now k=some o∧¬(0≤m∧m≤o.1.length))∨(e=3∧HasO now id)))):=by
 have hd:=h.lays.2.2
 have hlo:=h.low
 have hnn:=h.num
 obtain⟨Fj,Fx,Fy,Fd,x,y,hT,hJ,hM⟩:=h.ex
 refine(trunc_ok hT hl.fine hl.whole id m).mono ?_
 rintro v H' ⟨now',e,rfl,hL,hc⟩
 obtain⟨M',h1,h2⟩:=StL.left hT hJ hM hlo hnn hL
 refine⟨now',e,M',rfl,h1,h2,?_⟩
 rcases hc with⟨rfl,_,k,y,ps',bits',rfl,g3,g4,g5,g6,g8,rfl⟩|⟨g1,rfl,g3|⟨g3,_⟩⟩
 ·have hbl:=hl.bytes_len g3
  have hsl:=hl.sl k y g3
  have hlp:((bytesP now y).take m.toNat).length≤524288:=by
   rw[List.length_take]
   omega
  exact⟨(hl.fill g3 g4 hlp g8).1,.inl ⟨rfl,k,_,rfl,objP_some g3 g4,fun j=>hl.objFill g3 g4 hlp g8 j⟩⟩
 ·refine⟨hl,.inr ⟨g1,rfl,?_⟩⟩
  rcases g3 with⟨g,rfl⟩|⟨k,y,rfl,g,g',⟨g5,rfl⟩|⟨_,_,rfl⟩⟩
  ·exact .inl ⟨rfl,noO_of g⟩
  ·have hbl:=hl.bytes_len g
   have hsl:=hl.sl k y g
   exact .inr (.inl ⟨rfl,k,_,rfl,objP_some g g',fun hh=>g5 ⟨hh.1,by have:=hh.2;simp only at this;omega⟩⟩)
  ·exact .inr (.inr ⟨rfl,k,_,rfl,objP_some g g'⟩)
 ·rw[hd]at g3;cases g3
theorem StL.refL(h:StL H0 H M ps pj pd n z B N s now kept J D cur S)(hl:Leg N s now)(id:Int) :
  Does Tryz.prog 44 [.pointer (some ⟨ps,0,none⟩),.int .i64 id] H fun v H'=>∃now' e M',v=.int .i64 e∧StL H0 H' M' ps pj pd n z B N s now' kept J D cur S∧Step H M H' M'∧Leg N s now' ∧
   ((e=0∧ChgO now now' id fun o=>some (o.1,o.2+1))∨(e≠0∧now'=now∧((e=6∧NoO now id)∨(e=3∧HasO now id)))):=by
 have hd:=h.lays.2.2
 have hlo:=h.low
 have hnn:=h.num
 obtain⟨Fj,Fx,Fy,Fd,x,y,hT,hJ,hM⟩:=h.ex
 refine(ref_ok hT id).mono ?_
 rintro v H' ⟨now',e,rfl,hL,hc⟩
 obtain⟨M',h1,h2⟩:=StL.left hT hJ hM hlo hnn hL
 refine⟨now',e,M',rfl,h1,h2,?_⟩
 rcases hc with⟨rfl,_,k,y,rfl,g3,g4,g5,rfl⟩|⟨g1,rfl,g3|⟨g3,_⟩⟩
 ·exact⟨hl.setRefs g3 (by omega),.inl ⟨rfl,k,_,rfl,objP_some g3 g4,fun j=>objRefs g3 (by omega) j⟩⟩
 ·refine⟨hl,.inr ⟨g1,rfl,?_⟩⟩
  rcases g3 with⟨g,rfl⟩|⟨g,rfl⟩
  ·exact .inl ⟨rfl,noO_of g⟩
  ·refine .inr ⟨rfl,?_⟩
   unfold refsP at g
   split at g
   ·omega
   ·rename_i hb
    have hk:(id - 1).toNat<now'.slots.length:=by omega
    rw[List.getElem?_eq_getElem hk]at g
    exact⟨(id - 1).toNat,_,by omega,objP_some (List.getElem?_eq_getElem hk) (by simp only at g;omega)⟩
 ·rw[hd]at g3;cases g3
theorem StL.unrefL(h:StL H0 H M ps pj pd n z B N s now kept J D cur S)(hl:Leg N s now)(id:Int) :
  Does Tryz.prog 34 [.pointer (some ⟨ps,0,none⟩),.int .i64 id] H fun v H'=>∃now' last e M',v=.tuple #[.bool last,.int .i64 e]∧StL H0 H' M' ps pj pd n z B N s now' kept J D cur S∧Step H M H' M'∧Leg N s now' ∧
   ((e=0∧∃(k:Nat) (o:Octs×Int),id=(k:Int)+1∧objP now k=some o∧(last=true↔o.2=1)∧∀j,objP now' j=if j=k then(if o.2=1 then none else some (o.1,o.2 - 1))else objP now j)∨(e≠0∧last=false∧now'=now∧NoO now id∧e=6)):=by
 refine(h.unref hl.fine hl.few id).mono ?_
 rintro v H' ⟨now',last,e,M',rfl,h1,h2,hc⟩
 refine⟨now',last,e,M',rfl,h1,h2,?_⟩
 rcases hc with⟨rfl,k,y,rfl,g3,g4,⟨g5,rfl,rfl⟩|⟨g5,rfl,rfl⟩⟩|⟨g1,rfl,rfl,g4,g5⟩
 ·have hs:=hl.sl k y g3
  refine⟨hl.setRefs g3 (by omega),.inl ⟨rfl,k,_,rfl,objP_some g3 g4,⟨fun h=>(by cases h),fun h=>absurd h g5⟩,fun j=>?_⟩⟩
  simp only
  rw[if_neg g5]
  exact objRefs g3 (by omega) j
 ·refine⟨hl.drop g3,.inl ⟨rfl,k,_,rfl,objP_some g3 g4,⟨fun _=>g5,fun _=>rfl⟩,fun j=>?_⟩⟩
  simp only
  rw[if_pos g5]
  exact objDrop g3 _ j
 ·exact⟨hl,.inr ⟨g1,rfl,rfl,noO_of g4,g5⟩⟩
end
end Go.Proofs
end
section
open Go Go.Vc Go.Proofs.Bx
end
section
open Go Go.Vc Go.Proofs.Bx
namespace Go.Proofs
theorem mapHas_mem{l:List (Int×Value)}{x:Int}:mapHas l x=true↔x∈l.map (·.1):=by
 unfold mapHas
 rw[List.any_eq_true,List.mem_map]
 constructor
 ·rintro⟨p,h1,h2⟩;exact⟨p,h1,by simpa using h2⟩
 ·rintro⟨p,h1,h2⟩;exact⟨p,h1,by simpa using h2⟩
theorem mapGet_no{l:List (Int×Value)}{x:Int}(h:mapHas l x=false)(z:Value):mapGet l x z=z:=by
 induction l with
 | nil=>rfl
 | cons p r ih=>
  simp only[mapHas,List.any_cons,Bool.or_eq_false_iff]at h
  have h1:¬p.1=x:=by simpa using h.1
  unfold mapGet
  rw[if_neg h1]
  exact ih h.2
theorem mapHas_set(l:List (Int×Value))(k:Int)(v:Value)(x:Int):mapHas (mapSet l k v) x=if x=k then true else mapHas l x:=by
 induction l with
 | nil=>
  simp only[mapSet,mapHas,List.any_cons,List.any_nil,Bool.or_false]
  by_cases h:x=k
  ·subst h;simp
  ·rw[if_neg h];simpa using fun e=>h e.symm
 | cons p r ih=>
  unfold mapSet
  by_cases hp:p.1=k
  ·rw[if_pos hp]
   simp only[mapHas,List.any_cons]
   by_cases h:x=k
   ·subst h;simp
   ·rw[if_neg h,hp]
  ·rw[if_neg hp]
   have ih':(mapSet r k v).any (fun p=>p.1 == x)=if x=k then true else r.any (fun p=>p.1 == x):=ih
   simp only[mapHas,List.any_cons,ih']
   by_cases h:x=k
   ·rw[if_pos h,if_pos h];simp
   ·rw[if_neg h,if_neg h]
theorem mapDel_spec{l:List (Int×Value)}(hn:(l.map (·.1)).Nodup)(k:Int):mapHas (mapDel l k) k=false∧∀x,x≠k→mapHas (mapDel l k) x=mapHas l x∧∀z,mapGet (mapDel l k) x z=mapGet l x z:=by
 induction l with
 | nil=>exact⟨rfl,fun _ _=>⟨rfl,fun _=>rfl⟩⟩
 | cons p r ih=>
  simp only[List.map_cons,List.nodup_cons]at hn
  obtain⟨h1,h2⟩:=ih hn.2
  unfold mapDel
  by_cases hp:p.1=k
  ·rw[if_pos hp]
   refine⟨?_,fun x hx=>⟨?_,fun z=>?_⟩⟩
   ·cases e:mapHas r k with
    | false=>rfl
    | true=>exact absurd (mapHas_mem.1 e) (hp▸hn.1)
   ·simp only[mapHas,List.any_cons]
    have:(p.1 == x)=false:=by simpa[hp]using fun e:k=x=>hx e.symm
    rw[this,Bool.false_or]
   ·conv=>rhs;unfold mapGet
    rw[if_neg (by rw[hp];exact fun e=>hx e.symm)]
  ·rw[if_neg hp]
   refine⟨?_,fun x hx=>⟨?_,fun z=>?_⟩⟩
   ·have h1':(mapDel r k).any (fun p=>p.1 == k)=false:=h1
    simp only[mapHas,List.any_cons,h1',Bool.or_false]
    simpa using hp
   ·have h2':(mapDel r k).any (fun p=>p.1 == x)=r.any (fun p=>p.1 == x):=(h2 x hx).1
    simp only[mapHas,List.any_cons,h2']
   ·unfold mapGet
    rw[(h2 x hx).2 z]
theorem MapIs.nod{H:Heap}{r:Nat}{l:List (Int×Value)}(h:MapIs H r l):(l.map (·.1)).Nodup:=by
 obtain⟨es,clock,_,he,_,_,hk⟩:=h
 have e:es.toList.map (·.key)=(l.map (·.1)).map (Value.int .i64):=by
  have:=congrArg (List.map Prod.fst) he
  rw[List.map_map,List.map_map]at this
  rw[List.map_map]
  exact this
 rw[e]at hk
 exact(List.pairwise_map.1 hk).imp fun h1 e=>h1 (by rw[e])
theorem len_sub:∀(l m:List Int),l.Nodup→(∀x∈l,x∈m)→l.length≤m.length
 | [],_,_,_=>Nat.zero_le _
 | a::l,m,hn,hs=>by
  rw[List.nodup_cons]at hn
  have ha:=hs a (by simp)
  have:=len_sub l (m.erase a) hn.2 (fun x hx=>(List.mem_erase_of_ne (fun e=>hn.1 (by rw[←e];exact hx))).2 (hs x (by simp[hx])))
  rw[List.length_erase_of_mem ha]at this
  have hm:0<m.length:=List.length_pos_of_mem ha
  rw[List.length_cons]
  omega
abbrev strO(w:Octs):ByteArray:=ByteArray.mk w.toArray
theorem strO_size(w:Octs):(strO w).size=w.length:=mk_size w
theorem strO_app(a b:Octs):strO a++strO b=strO (a++b):=by
 apply ByteArray.ext
 simp[strO]
theorem strO_take(w:Octs)(n:Nat):(strO w).extract 0 n=strO (w.take n):=by
 apply ByteArray.ext
 simp[strO,ByteArray.data_extract]
theorem strO_drop(w:Octs)(n:Nat):(strO w).extract n w.length=strO (w.drop n):=by
 apply ByteArray.ext
 rw[ByteArray.data_extract]
 apply Array.ext'
 simp only[strO,Array.toList_extract,List.extract_eq_take_drop]
 exact List.take_of_length_le (by rw[List.length_drop];exact Nat.le_refl _)
structure WantP(st:PSt) (lw lr:List (Int×Value)):Prop where
 has:∀x:Int,mapHas lw x=true↔∃(k:Nat) (o:Octs×Int),x=(k:Int)+1∧objP st k=some o
 get:∀(k:Nat) (o:Octs×Int),objP st k=some o→mapGet lw ((k:Int)+1) (.string (ByteArray.mk #[]))=.string (strO o.1)∧mapGet lr ((k:Int)+1) (.int .i64 0)=.int .i64 o.2
section
variable {st st':PSt} {lw lr lw' lr':List (Int×Value)}
theorem WantP.chg(h:WantP st lw lr){k:Nat}(hj:∀j,j≠k→objP st' j=objP st j)(hw:∀x:Int,x≠(k:Int)+1→mapHas lw' x=mapHas lw x∧∀z,mapGet lw' x z=mapGet lw x z)(hr:∀x:Int,x≠(k:Int)+1→∀z,mapGet lr' x z=mapGet lr x z)
  (hk:(objP st' k=none∧mapHas lw' ((k:Int)+1)=false)∨∃o,objP st' k=some o∧mapHas lw' ((k:Int)+1)=true∧mapGet lw' ((k:Int)+1) (.string (ByteArray.mk #[]))=.string (strO o.1)∧mapGet lr' ((k:Int)+1) (.int .i64 0)=.int .i64 o.2):WantP st' lw' lr':=by
 refine⟨fun x=>?_,fun j o ho=>?_⟩
 ·by_cases e:x=(k:Int)+1
  ·subst e
   rcases hk with⟨h1,h2⟩|⟨o,h1,h2,_⟩
   ·rw[h2]
    refine⟨fun h=>(by cases h),?_⟩
    rintro⟨j,o,hj',ho⟩
    have:j=k:=by omega
    subst this
    rw[h1]at ho;cases ho
   ·exact⟨fun _=>⟨k,o,rfl,h1⟩,fun _=>h2⟩
  ·rw[(hw x e).1,h.has]
   constructor
   ·rintro⟨j,o,rfl,ho⟩
    exact⟨j,o,rfl,by rw[hj j (fun e'=>e (by rw[e']))];exact ho⟩
   ·rintro⟨j,o,rfl,ho⟩
    exact⟨j,o,rfl,by rw[←hj j (fun e'=>e (by rw[e']))];exact ho⟩
 ·by_cases e:j=k
  ·subst e
   rcases hk with⟨h1,_⟩|⟨o',h1,_,h3,h4⟩
   ·rw[h1]at ho;cases ho
   ·rw[h1]at ho;cases ho;exact⟨h3,h4⟩
  ·rw[hj j e]at ho
   have hne:(j:Int)+1≠(k:Int)+1:=by omega
   rw[(hw _ hne).2,hr _ hne]
   exact h.get j o ho
theorem WantP.put(h:WantP st lw lr){k:Nat}{o:Octs×Int}(hj:∀j,objP st' j=if j=k then some o else objP st j)(hr1:mapGet lr' ((k:Int)+1) (.int .i64 0)=.int .i64 o.2)(hr:∀x:Int,x≠(k:Int)+1→∀z,mapGet lr' x z=mapGet lr x z):WantP st' (mapSet lw ((k:Int)+1) (.string (strO o.1))) lr':=
 h.chg (k:=k) (fun j hne=>by rw[hj,if_neg hne]) (fun x hx=>⟨by rw[mapHas_set,if_neg hx],fun z=>by rw[mapGet_set,if_neg hx]⟩) hr
  (.inr ⟨o,by rw[hj,if_pos rfl],by rw[mapHas_set,if_pos rfl],by rw[mapGet_set,if_pos rfl],hr1⟩)
theorem WantP.no(h:WantP st lw lr){id:Int}(hn:NoO st id):mapHas lw id=false:=by
 cases e:mapHas lw id with
 | false=>rfl
 | true=>
  obtain⟨k,o,hk,ho⟩:=(h.has id).1 e
  rw[hn k hk]at ho;cases ho
theorem WantP.old(h:WantP st lw lr)(x:Int):∃w:Octs,mapGet lw x (.string (ByteArray.mk #[]))=.string (strO w)∧(mapHas lw x=false→w=[])∧∀(k:Nat)(o:Octs×Int),x=(k:Int)+1→objP st k=some o→w=o.1:=by
 cases e:mapHas lw x with
 | false=>
  refine⟨[],mapGet_no e _,fun _=>rfl,fun k o hk ho=>?_⟩
  rw[(h.has x).2 ⟨k,o,hk,ho⟩]at e;cases e
 | true=>
  obtain⟨k,o,hk,ho⟩:=(h.has x).1 e
  subst hk
  refine⟨o.1,(h.get k o ho).1,fun h=>(by cases h),fun k' o' hk' ho'=>?_⟩
  have:k'=k:=by omega
  subst this
  rw[ho]at ho';cases ho';rfl
theorem mem_ids{N:Nat}{s:Int}(hl:Leg N s st){x:Int}:x∈idsP st↔∃(k:Nat)(o:Octs×Int),x=(k:Int)+1∧objP st k=some o:=by
 constructor
 ·intro hx
  obtain⟨k,y,h1,h2,h3,_⟩:=idsP_at hl hx
  exact⟨k,_,h1,objP_some h2 h3⟩
 ·rintro⟨k,o,rfl,ho⟩
  obtain⟨y,h1,h2,_⟩:=objP_get ho
  unfold idsP
  refine List.mem_map.2 ⟨k,List.mem_filter.2 ⟨List.mem_range.2 (List.getElem?_eq_some_iff.1 h1).1,?_⟩,rfl⟩
  rw[h1];simpa using h2
theorem ids_nodup(st:PSt):(idsP st).Nodup:=by
 unfold idsP
 exact((List.nodup_range).sublist List.filter_sublist).map _ (fun a b h e=>h (by omega))
theorem WantP.len{N:Nat}{s:Int}(h:WantP st lw lr)(hl:Leg N s st)(hn:(lw.map (·.1)).Nodup):(idsP st).length=lw.length:=by
 have h1:=len_sub (idsP st) (lw.map (·.1)) (ids_nodup st) (fun x hx=>mapHas_mem.1 ((h.has x).2 ((mem_ids hl).1 hx)))
 have h2:=len_sub (lw.map (·.1)) (idsP st) hn (fun x hx=>(mem_ids hl).2 ((h.has x).1 (mapHas_mem.2 hx)))
 rw[List.length_map]at h1 h2
 omega
end
theorem Leg.objLen{N:Nat}{s:Int}{st:PSt}(h:Leg N s st){k:Nat}{o:Octs×Int}(ho:objP st k=some o):o.1.length≤N*128∧0<o.2∧o.2<65536:=by
 obtain⟨y,h1,h2,rfl⟩:=objP_get ho
 have hs:=h.sl k y h1
 have hr:=h.right h1
 have hN:=h.num.2.2
 have hc:=count_right hr hN
 have hw:=(h.whole k y h1).1
 have hnb:(blocksI y.ps).length≤N:=by
  have:=len_sub (blocksI y.ps) ((List.range N).map fun (j:Nat)=>(j:Int)) (right_nodup hr) (fun x hx=>by
   have:=right_range hr x hx
   exact List.mem_map.2 ⟨x.toNat,List.mem_range.2 (by omega),by omega⟩)
  rwa[List.length_map,List.length_range]at this
 have hb:=h.bytes_len h1
 have h3:=hw.2.2.1
 refine⟨?_,h2,hs.2.1⟩
 show(bytesP st y).length≤N*128
 rw[hb]
 omega
end Go.Proofs
end
section
open Go Go.Vc Go.Proofs.Bx
namespace Go.Proofs
theorem NewB.extN{H H':Heap}{b c:Nat}{s:ByteArray}{e:TypeId}(h:NewB H b s c e H'):Ext [] H H':=by
 obtain⟨rfl,_,rfl⟩:=h
 refine⟨by simp,fun k hk _=>?_⟩
 rw[Array.getElem?_push,if_neg (by omega)]
theorem NewB.rowN{H H':Heap}{b c:Nat}{w:Octs}{e:TypeId}(h:NewB H b (strO w) c e H'):SRow H' 1 w.length (.slice (some ⟨b,0,none⟩) w.length c) (bytesV w):=by
 obtain⟨rfl,_,rfl⟩:=h
 refine⟨by rw[bytesV_length,Nat.mul_one],.inr rfl,fun j u hj=>?_⟩
 have hlt:=(List.getElem?_eq_some_iff.1 hj).1
 rw[bytesV_length]at hlt
 rw[bytesV_get _ _ (by omega),Option.some.injEq]at hj
 subst hj
 show hcell _ H.size (0+j)=_
 rw[Nat.zero_add]
 have h2:(strO w).size=w.length:=strO_size w
 simp[hcell,bytesRow,Array.getElem?_append,h2,hlt]
structure MemB(H K:Heap) (M:Nat→Prop) (r t ps pj pd n N:Nat) (E st:PSt) (J:Jn) (D:Dev) (cur:Nat→Octs) (lw lr:List (Int×Value)):Prop where
 L:StL H K M ps pj pd n 20 3000000 N 6 st E J D cur (fun _=>True)
 g:Leg N 6 st
 w:MapIs K r lw
 c:MapIs K t lr
 off:¬M r∧¬M t∧r≠t∧H.size≤r∧H.size≤t
theorem MapIs.ltN{H:Heap}{r:Nat}{l:List (Int×Value)}(h:MapIs H r l):r<H.size:=by
 obtain⟨es,c,h1,_⟩:=h
 exact(Array.getElem?_eq_some_iff.1 h1).1
section
variable {H K K':Heap} {M M':Nat→Prop} {r t ps pj pd n N:Nat} {E st st':PSt} {J:Jn} {D:Dev} {cur:Nat→Octs} {lw lr l:List (Int×Value)}
theorem MemB.step(h:MemB H K M r t ps pj pd n N E st J D cur lw lr)(hL:StL H K' M' ps pj pd n 20 3000000 N 6 st' E J D cur (fun _=>True))(hs:Step K M K' M')(hg:Leg N 6 st'):MemB H K' M' r t ps pj pd n N E st' J D cur lw lr:=by
 have hn:∀q,q<K.size→¬M q→¬M' q:=fun q hq h1 h2=>(hs.reg q h2).elim h1 fun h=>by omega
 exact⟨hL,hg,MapIs.extP h.w hs.ext h.off.1,MapIs.extP h.c hs.ext h.off.2.1,hn r (MapIs.ltN h.w) h.off.1,hn t (MapIs.ltN h.c) h.off.2.1,h.off.2.2⟩
theorem MemB.more(h:MemB H K M r t ps pj pd n N E st J D cur lw lr)(hx:Ext [] K K'):MemB H K' M r t ps pj pd n N E st J D cur lw lr:=h.step (h.L.more hx) (Step.more hx) h.g
theorem MemB.offP(h:MemB H K M r t ps pj pd n N E st J D cur lw lr){b:Nat}(hx:Ext [b] K K')(hb:¬M b∧H.size≤b):StL H K' M ps pj pd n 20 3000000 N 6 st E J D cur (fun _=>True):=
 h.L.off (P:=fun q=>q=b) ⟨hx.size,fun q hq hn=>hx.keep q hq (by simpa using hn)⟩ (fun q hq e=>hb.1 (e▸hq)) (fun q hq _=>by rw[hq];exact hb.2)
theorem MemB.putW(h:MemB H K M r t ps pj pd n N E st J D cur lw lr)(hp:MapPut K r l K'):MemB H K' M r t ps pj pd n N E st J D cur l lr:=by
 obtain⟨h1,h2⟩:=MapPut.is hp (MapIs.ltN h.w)
 exact⟨h.offP h2 ⟨h.off.1,h.off.2.2.2.1⟩,h.g,h1,MapIs.ext h.c h2 (by simpa using fun e:t=r=>h.off.2.2.1 e.symm),h.off⟩
theorem MemB.putC(h:MemB H K M r t ps pj pd n N E st J D cur lw lr)(hp:MapPut K t l K'):MemB H K' M r t ps pj pd n N E st J D cur lw l:=by
 obtain⟨h1,h2⟩:=MapPut.is hp (MapIs.ltN h.c)
 exact⟨h.offP h2 ⟨h.off.2.1,h.off.2.2.2.2⟩,h.g,MapIs.ext h.w h2 (by simpa using h.off.2.2.1),h1,h.off⟩
theorem WantP.wr(h:WantP st lw lr){id:Int}{f:Octs→Octs}{g:Int→Int}(hc:ChgO st st' id fun o=>some (f o.1,g o.2)):∃(k:Nat)(o:Octs×Int),id=(k:Int)+1∧objP st k=some o∧mapHas lw id=true∧mapGet lw id (.string (ByteArray.mk #[]))=.string (strO o.1)∧mapGet lr id (.int .i64 0)=.int .i64 o.2 ∧
  ∀lr',mapGet lr' id (.int .i64 0)=.int .i64 (g o.2)→(∀x:Int,x≠id→∀z,mapGet lr' x z=mapGet lr x z)→WantP st' (mapSet lw id (.string (strO (f o.1)))) lr':=by
 obtain⟨k,o,rfl,ho,hj⟩:=hc
 exact⟨k,o,rfl,ho,(h.has _).2 ⟨k,o,rfl,ho⟩,(h.get k o ho).1,(h.get k o ho).2,fun lr' h1 h2=>h.put (o:=(f o.1,g o.2)) hj h1 h2⟩
theorem WantP.yes(h:WantP st lw lr){id:Int}(hh:HasO st id):mapHas lw id=true:=(h.has id).2 hh
def TurnB(st:PSt)(lw lr:List (Int×Value))(id:Int)(is:Bool)(e:Int)(nx:ByteArray):Prop:=
 (is=true∧e=0∧WantP st (mapSet lw id (.string nx)) lr)∨(((is=true∧e=3)∨(is=false∧e=6))∧WantP st lw lr)
theorem TurnB.of{id e:Int}{w':Octs}(h:WantP st lw lr){f:Octs→Octs}(hu:∀(k:Nat)(o:Octs×Int),id=(k:Int)+1→objP st k=some o→w'=f o.1)
  (hc:(e=0∧ChgO st st' id fun o=>some (f o.1,o.2))∨(st'=st∧((e=6∧NoO st id)∨(e=3∧HasO st id)))):TurnB st' lw lr id (mapHas lw id) e (strO w'):=by
 rcases hc with⟨rfl,hc⟩|⟨rfl,(⟨rfl,hn⟩|⟨rfl,hh⟩)⟩
 ·obtain⟨k,o,hk,ho,h1,_,h3,h4⟩:=h.wr (g:=fun x=>x) hc
  exact .inl ⟨h1,rfl,by rw[hu k o hk ho];exact h4 lr h3 (fun _ _ _=>rfl)⟩
 ·exact .inr ⟨.inr ⟨h.no hn,rfl⟩,h⟩
 ·exact .inr ⟨.inl ⟨h.yes hh,rfl⟩,h⟩
theorem first4(h:19≤N∧N≤58):firstN (N:Int) 6=4:=by
 unfold firstN bitsN
 rw[Int.toNat_natCast]
 omega
end
end Go.Proofs
end
section
open Go Go.Vc Go.Proofs.Bx
end
section
open Go Go.Vc
namespace Go.Proofs
theorem BytesBV(x0:Int) (x1:Option Addr) (x1l:Nat) (x1c:Nat) (H:Heap) (R:Value→Heap→Prop):Walk Tryz.prog 8 [(54,[(12,(.int .i64 0)),(14,(.bool false)),(15,(.int .i64 0)),(16,(.string (ByteArray.mk #[])))]),(37,[(16,(.string (ByteArray.mk #[]))),(18,(.string (ByteArray.mk #[])))]),(25,[]),(29,[(107,(.bool false))]),(50,[]),(56,[]),(58,[])] [.int .i64 x0,.slice x1 x1l x1c] H R=(Does Tryz.prog 22 [.int .i64 x0,.int .i64 40] H fun v1 H2=>∃n3,v1=(.int .i64 n3)∧In64 (40+n3) ∧Does Tryz.prog 29 [.int .i64 (40+n3),.int .i64 20,.int .i64 6] H2 fun v4 H5=>∃p6:Option Addr,∃p7:Option Addr,v4=(.tuple #[.pointer p6,.pointer p7])∧Does Tryz.prog 19 [] H5 fun v8 H9=>∃t10,v8=(.bool t10)∧(((t10=false)→R (.bool false) H9)∧(¬(t10=false)→(((p6=none)→R (.bool false) H9)∧(¬(p6=none)→Does Tryz.prog 30 [.pointer p6] H9 fun v11 H12=>∃n13,v11=(.int .i64 n13)∧Does Tryz.prog 32 [.pointer p6] H12 fun v14 H15=>∃n16,v14=(.int .i64 n16)∧In64 (n13+n16) ∧∀r17:Nat,∀H18:Heap,NewMap H15 r17 H18→∀r19:Nat,∀H20:Heap,NewMap H18 r19 H20→∃I21:Int→Heap→Prop,∃μ22:Int→Heap→Nat,(I21 0 H20) ∧∀n23 H24,I21 n23 H24→(((n23<(x1l:Int))→(((n23<30)→(0:Int)≤n23∧n23<(x1l:Int)∧∃b25 o26:Nat,x1=some (⟨b25,o26,none⟩:Addr)∧∃n27,hcell H24 b25 (o26+(Int.toNat n23)*5)=some (.int .i64 n27)∧∃n28,hcell H24 b25 (o26+(Int.toNat n23)*5+1)=some (.int .i64 n28)∧∃n29,hcell H24 b25 ((o26+(Int.toNat n23)*5+1)+1)=some (.int .i64 n29)∧∃a30 l31 c32,hcell H24 b25 (((o26+(Int.toNat n23)*5+1)+1)+1)=some (.slice a30 l31 c32)∧∃a33 l34 c35,hcell H24 b25 ((((o26+(Int.toNat n23)*5+1)+1)+1)+1)=some (.slice a33 l34 c35)∧∀b36 H37,New H24 b36 [.int .i64 0,.int .i64 0,.int .i64 0,.slice none 0 0,.slice none 0 0] 36 H37→Cells H37 b36 0 5∧∀H38,Puts H37 b36 0 [.int .i64 n27,.int .i64 n28,.int .i64 n29,.slice a30 l31 c32,.slice a33 l34 c35] H38→∃n39,hcell H38 b36 (0+1)=some (.int .i64 n39)∧Does Tryz.prog 22 [.int .i64 n39,.int .i64 6] H38 fun v40 H41=>∃n42,v40=(.int .i64 n42)∧In64 (1+n42) ∧∃r43:Nat,∃l44:List (Int×Value),(some r17)=some r43∧MapIs H41 r43 l44∧∃s45:ByteArray,(.string s45)=mapGet l44 (1+n42) (.string (ByteArray.mk #[]))∧∃I46:Int→Bool→Int→ByteArray→Heap→Prop,(∃n47,hcell H41 b36 0=some (.int .i64 n47)∧Does Tryz.prog 22 [.int .i64 n47,.int .i64 9] H41 fun v48 H49=>∃n50,v48=(.int .i64 n50)∧∃I51:Bool→Heap→Prop,(((n50=3)→(I51 (@decide (n50=3) (Classical.propDecidable _)) H49))∧(¬(n50=3)→(I51 (@decide (n50=4) (Classical.propDecidable _)) H49))) ∧∀t52:Bool,∀H53:Heap,I51 t52 H53→((t52=true→∃n54,hcell H53 b36 0=some (.int .i64 n54)∧∃n55,hcell H53 b36 (0+1)=some (.int .i64 n55)∧∃n56,hcell H53 b36 (0+1+1)=some (.int .i64 n56)∧∃a57 l58 c59,hcell H53 b36 (0+1+1+1)=some (.slice a57 l58 c59)∧∃a60 l61 c62,hcell H53 b36 (0+1+1+1+1)=some (.slice a60 l61 c62)∧Does Tryz.prog 14 [.agg #[.int .i64 n54,.int .i64 n55,.int .i64 n56,.slice a57 l58 c59,.slice a60 l61 c62],.int .i64 700] H53 fun v63 H64=>∃a65 l66 c67,v63=(.slice a65 l66 c67)∧∃l68:List UInt8,SRow H64 1 l66 (.slice a65 l66 c67) (List.map (fun (b:UInt8)=>Value.int .u8 b.toNat) l68)∧∃n69,hcell H64 b36 0=some (.int .i64 n69)∧∃n70,hcell H64 b36 (0+1)=some (.int .i64 n70)∧∃n71,hcell H64 b36 (0+1+1)=some (.int .i64 n71)∧∃a72 l73 c74,hcell H64 b36 (0+1+1+1)=some (.slice a72 l73 c74)∧∃a75 l76 c77,hcell H64 b36 (0+1+1+1+1)=some (.slice a75 l76 c77)∧Does Tryz.prog 14 [.agg #[.int .i64 n69,.int .i64 n70,.int .i64 n71,.slice a72 l73 c74,.slice a75 l76 c77],.int .i64 700] H64 fun v78 H79=>∃a80 l81 c82,v78=(.slice a80 l81 c82)∧Does Tryz.prog 41 [.pointer p6,.int .i64 (1+n42),.slice a80 l81 c82] H79 fun v83 H84=>∃n85,v83=(.int .i64 n85)∧(I46 (1+n42) (mapHas l44 (1+n42)) n85 (ByteArray.mk (List.toArray l68)) H84))∧(t52=false→(((n50=5)→∃n86,hcell H53 b36 (0+2)=some (.int .i64 n86)∧In64 ((ByteArray.size s45:Int)+1) ∧Does Tryz.prog 22 [.int .i64 n86,.int .i64 ((ByteArray.size s45:Int)+1)] H53 fun v87 H88=>∃n89,v87=(.int .i64 n89)∧∃n90,hcell H88 b36 0=some (.int .i64 n90)∧∃n91,hcell H88 b36 (0+1)=some (.int .i64 n91)∧∃n92,hcell H88 b36 (0+1+1)=some (.int .i64 n92)∧∃a93 l94 c95,hcell H88 b36 (0+1+1+1)=some (.slice a93 l94 c95)∧∃a96 l97 c98,hcell H88 b36 (0+1+1+1+1)=some (.slice a96 l97 c98)∧Does Tryz.prog 14 [.agg #[.int .i64 n90,.int .i64 n91,.int .i64 n92,.slice a93 l94 c95,.slice a96 l97 c98],.int .i64 300] H88 fun v99 H100=>∃a101 l102 c103,v99=(.slice a101 l102 c103)∧∃l104:List UInt8,SRow H100 1 l102 (.slice a101 l102 c103) (List.map (fun (b:UInt8)=>Value.int .u8 b.toNat) l104)∧(0:Int)≤n89∧n89≤((ByteArray.size s45):Int)∧In64 (((ByteArray.size (ByteArray.extract s45 0 (Int.toNat n89)))+(ByteArray.size (ByteArray.mk (List.toArray l104))):Nat):Int) ∧∃I105:ByteArray→ByteArray→Heap→Prop,(((((ByteArray.size ((ByteArray.extract s45 0 (Int.toNat n89))++(ByteArray.mk (List.toArray l104))):Int):Int)<(ByteArray.size s45:Int))→(0:Int)≤(ByteArray.size ((ByteArray.extract s45 0 (Int.toNat n89))++(ByteArray.mk (List.toArray l104))):Int)∧((ByteArray.size ((ByteArray.extract s45 0 (Int.toNat n89))++(ByteArray.mk (List.toArray l104))):Int):Int)≤((ByteArray.size s45):Int)∧In64 (((ByteArray.size ((ByteArray.extract s45 0 (Int.toNat n89))++(ByteArray.mk (List.toArray l104))))+(ByteArray.size (ByteArray.extract s45 (Int.toNat (ByteArray.size ((ByteArray.extract s45 0 (Int.toNat n89))++(ByteArray.mk (List.toArray l104))):Int)) (ByteArray.size s45))):Nat):Int) ∧I105 (((ByteArray.extract s45 0 (Int.toNat n89))++(ByteArray.mk (List.toArray l104)))++(ByteArray.extract s45 (Int.toNat (ByteArray.size ((ByteArray.extract s45 0 (Int.toNat n89))++(ByteArray.mk (List.toArray l104))):Int)) (ByteArray.size s45))) (ByteArray.mk (List.toArray l104)) H100)∧(¬(((ByteArray.size ((ByteArray.extract s45 0 (Int.toNat n89))++(ByteArray.mk (List.toArray l104))):Int):Int)<(ByteArray.size s45:Int))→(I105 ((ByteArray.extract s45 0 (Int.toNat n89))++(ByteArray.mk (List.toArray l104))) (ByteArray.mk (List.toArray l104)) H100))) ∧∀s106:ByteArray,∀s107:ByteArray,∀H108:Heap,I105 s106 s107 H108→∀c109 b110:Nat,∀H111:Heap,NewB H108 b110 s107 c109 5 H111→Does Tryz.prog 42 [.pointer p6,.int .i64 (1+n42),.int .i64 n89,.slice (some ⟨b110,0,none⟩) (ByteArray.size s107) c109] H111 fun v112 H113=>∃n114,v112=(.int .i64 n114)∧(I46 (1+n42) (mapHas l44 (1+n42)) n114 s106 H113))∧(¬(n50=5)→(((n50=6)→∃n115,hcell H53 b36 (0+2)=some (.int .i64 n115)∧In64 ((ByteArray.size s45:Int)+1) ∧Does Tryz.prog 22 [.int .i64 n115,.int .i64 ((ByteArray.size s45:Int)+1)] H53 fun v116 H117=>∃n118,v116=(.int .i64 n118)∧(0:Int)≤n118∧n118≤((ByteArray.size s45):Int)∧Does Tryz.prog 43 [.pointer p6,.int .i64 (1+n42),.int .i64 n118] H117 fun v119 H120=>∃n121,v119=(.int .i64 n121)∧(I46 (1+n42) (mapHas l44 (1+n42)) n121 (ByteArray.extract s45 0 (Int.toNat n118)) H120))∧(¬(n50=6)→(((n50=7)→Does Tryz.prog 44 [.pointer p6,.int .i64 (1+n42)] H53 fun v122 H123=>∃n124,v122=(.int .i64 n124)∧(((n124=0)→∃r125:Nat,∃l126:List (Int×Value),(some r19)=some r125∧MapIs H123 r125 l126∧∃n127,(.int .i64 n127)=mapGet l126 (1+n42) (.int .i64 0)∧In64 (n127+1) ∧∃r128:Nat,∃l129:List (Int×Value),(some r19)=some r128∧MapIs H123 r128 l129∧∀H130,MapPut H123 r128 (mapSet l129 (1+n42) (.int .i64 (n127+1))) H130→(I46 (1+n42) (mapHas l44 (1+n42)) n124 s45 H130))∧(¬(n124=0)→(I46 (1+n42) (mapHas l44 (1+n42)) n124 s45 H123))))∧(¬(n50=7)→(((n50=8)→Does Tryz.prog 34 [.pointer p6,.int .i64 (1+n42)] H53 fun v131 H132=>∃t133,∃n134,v131=(.tuple #[.bool t133,.int .i64 n134])∧∃I135:Heap→Prop,(((¬((n134=0)↔((mapHas l44 (1+n42))=true)))→R (.bool false) H132)∧(¬(¬((n134=0)↔((mapHas l44 (1+n42))=true)))→(((mapHas l44 (1+n42))=true→∃r136:Nat,∃l137:List (Int×Value),(some r19)=some r136∧MapIs H132 r136 l137∧∃n138,(.int .i64 n138)=mapGet l137 (1+n42) (.int .i64 0)∧(((¬((t133=true)↔(n138=1)))→R (.bool false) H132)∧(¬(¬((t133=true)↔(n138=1)))→(I135 H132))))∧((mapHas l44 (1+n42))=false→(((¬((t133=true)↔False))→R (.bool false) H132)∧(¬(¬((t133=true)↔False))→(I135 H132))))))) ∧∀H139,I135 H139→(((mapHas l44 (1+n42))=true→∃r140:Nat,∃l141:List (Int×Value),(some r19)=some r140∧MapIs H139 r140 l141∧∃n142,(.int .i64 n142)=mapGet l141 (1+n42) (.int .i64 0)∧In64 (n142 - 1) ∧∃r143:Nat,∃l144:List (Int×Value),(some r19)=some r143∧MapIs H139 r143 l144∧∀H145,MapPut H139 r143 (mapSet l144 (1+n42) (.int .i64 (n142 - 1))) H145→∃r146:Nat,∃l147:List (Int×Value),(some r19)=some r146∧MapIs H145 r146 l147∧∃n148,(.int .i64 n148)=mapGet l147 (1+n42) (.int .i64 0)∧(((n148=0)→∃r149:Nat,∃l150:List (Int×Value),(some r17)=some r149∧MapIs H145 r149 l150∧∀H151,MapPut H145 r149 (mapDel l150 (1+n42)) H151→In64 (n23+1) ∧(I21 (n23+1) H151)∧μ22 (n23+1) H151<μ22 n23 H24)∧(¬(n148=0)→In64 (n23+1) ∧(I21 (n23+1) H145)∧μ22 (n23+1) H145<μ22 n23 H24)))∧((mapHas l44 (1+n42))=false→In64 (n23+1) ∧(I21 (n23+1) H139)∧μ22 (n23+1) H139<μ22 n23 H24)))∧(¬(n50=8)→∃n152,hcell H53 b36 0=some (.int .i64 n152)∧∃n153,hcell H53 b36 (0+1)=some (.int .i64 n153)∧∃n154,hcell H53 b36 (0+1+1)=some (.int .i64 n154)∧∃a155 l156 c157,hcell H53 b36 (0+1+1+1)=some (.slice a155 l156 c157)∧∃a158 l159 c160,hcell H53 b36 (0+1+1+1+1)=some (.slice a158 l159 c160)∧Does Tryz.prog 14 [.agg #[.int .i64 n152,.int .i64 n153,.int .i64 n154,.slice a155 l156 c157,.slice a158 l159 c160],.int .i64 700] H53 fun v161 H162=>∃a163 l164 c165,v161=(.slice a163 l164 c165)∧Does Tryz.prog 31 [.pointer p6,.slice a163 l164 c165] H162 fun v166 H167=>∃n168 n169,v166=(.tuple #[.int .i64 n168,.int .i64 n169])∧∃I170:Heap→Prop,(((n169=0)→∃r171:Nat,∃l172:List (Int×Value),(some r17)=some r171∧MapIs H167 r171 l172∧∃s173:ByteArray,(.string s173)=mapGet l172 n168 (.string (ByteArray.mk #[]))∧(((mapHas l172 n168)=true→R (.bool false) H167)∧((mapHas l172 n168)=false→∃n174,hcell H167 b36 0=some (.int .i64 n174)∧∃n175,hcell H167 b36 (0+1)=some (.int .i64 n175)∧∃n176,hcell H167 b36 (0+1+1)=some (.int .i64 n176)∧∃a177 l178 c179,hcell H167 b36 (0+1+1+1)=some (.slice a177 l178 c179)∧∃a180 l181 c182,hcell H167 b36 (0+1+1+1+1)=some (.slice a180 l181 c182)∧Does Tryz.prog 14 [.agg #[.int .i64 n174,.int .i64 n175,.int .i64 n176,.slice a177 l178 c179,.slice a180 l181 c182],.int .i64 700] H167 fun v183 H184=>∃a185 l186 c187,v183=(.slice a185 l186 c187)∧∃l188:List UInt8,SRow H184 1 l186 (.slice a185 l186 c187) (List.map (fun (b:UInt8)=>Value.int .u8 b.toNat) l188)∧∃r189:Nat,∃l190:List (Int×Value),(some r17)=some r189∧MapIs H184 r189 l190∧∀H191,MapPut H184 r189 (mapSet l190 n168 (.string (ByteArray.mk (List.toArray l188)))) H191→∃r192:Nat,∃l193:List (Int×Value),(some r19)=some r192∧MapIs H191 r192 l193∧∀H194,MapPut H191 r192 (mapSet l193 n168 (.int .i64 1)) H194→(I170 H194))))∧(¬(n169=0)→(((n169≠3)→R (.bool false) H167)∧(¬(n169≠3)→(((n168≠0)→R (.bool false) H167)∧(¬(n168≠0)→(I170 H167))))))) ∧∀H195,I170 H195→(I46 (1+n42) false 6 s45 H195)))))))))))) ∧∀n196:Int,∀t197:Bool,∀n198:Int,∀s199:ByteArray,∀H200:Heap,I46 n196 t197 n198 s199 H200→∃I201:Heap→Prop,((t197=true→(((n198=0)→∃r202:Nat,∃l203:List (Int×Value),(some r17)=some r202∧MapIs H200 r202 l203∧∀H204,MapPut H200 r202 (mapSet l203 n196 (.string s199)) H204→(I201 H204))∧(¬(n198=0)→(I201 H200))))∧(t197=false→(I201 H200))) ∧∀H205,I201 H205→∃I206:Heap→Prop,((t197=true→(((n198≠0)→(((n198≠3)→R (.bool false) H205)∧(¬(n198≠3)→(((t197=false)→(((n198≠6)→R (.bool false) H205)∧(¬(n198≠6)→(I206 H205))))∧(¬(t197=false)→(I206 H205))))))∧(¬(n198≠0)→(((t197=false)→(((n198≠6)→R (.bool false) H205)∧(¬(n198≠6)→(I206 H205))))∧(¬(t197=false)→(I206 H205))))))∧(t197=false→(((t197=false)→(((n198≠6)→R (.bool false) H205)∧(¬(n198≠6)→(I206 H205))))∧(¬(t197=false)→(I206 H205))))) ∧∀H207,I206 H207→Does Tryz.prog 33 [.pointer p6] H207 fun v208 H209=>∃a210 l211 c212,v208=(.slice a210 l211 c212)∧∃r213:Nat,∃l214:List (Int×Value),(some r17)=some r213∧MapIs H209 r213 l214∧(((((l211:Int):Int)≠(l214.length:Int))→R (.bool false) H209)∧(¬(((l211:Int):Int)≠(l214.length:Int))→Does Tryz.prog 30 [.pointer p6] H209 fun v215 H216=>∃n217,v215=(.int .i64 n217)∧Does Tryz.prog 32 [.pointer p6] H216 fun v218 H219=>∃n220,v218=(.int .i64 n220)∧(In64 (n217+n220) ∧(((((n217+n220):Int)≠(n13+n16))→R (.bool false) H219)∧(¬(((n217+n220):Int)≠(n13+n16))→∃I221:Int→Heap→Prop,∃μ222:Int→Heap→Nat,(I221 0 H219) ∧∀n223 H224,I221 n223 H224→(((n223<(l211:Int))→(0:Int)≤n223∧n223<(l211:Int)∧∃b225 o226:Nat,a210=some (⟨b225,o226,none⟩:Addr)∧∃n227,hcell H224 b225 (o226+(Int.toNat n223))=some (.int .i64 n227)∧Does Tryz.prog 45 [.pointer p6,.int .i64 n227] H224 fun v228 H229=>∃a230 l231 c232,∃n233,v228=(.tuple #[.slice a230 l231 c232,.int .i64 n233])∧(((n233≠0)→R (.bool false) H229)∧(¬(n233≠0)→∃l234:List UInt8,SRow H229 1 l231 (.slice a230 l231 c232) (List.map (fun (b:UInt8)=>Value.int .u8 b.toNat) l234)∧(0:Int)≤n223∧n223<(l211:Int)∧∃b235 o236:Nat,a210=some (⟨b235,o236,none⟩:Addr)∧∃n237,hcell H229 b235 (o236+(Int.toNat n223))=some (.int .i64 n237)∧∃r238:Nat,∃l239:List (Int×Value),(some r17)=some r238∧MapIs H229 r238 l239∧∃s240:ByteArray,(.string s240)=mapGet l239 n237 (.string (ByteArray.mk #[]))∧(((((ByteArray.mk (List.toArray l234)):ByteArray)≠s240)→R (.bool false) H229)∧(¬(((ByteArray.mk (List.toArray l234)):ByteArray)≠s240)→(0:Int)≤n223∧n223<(l211:Int)∧∃b241 o242:Nat,a210=some (⟨b241,o242,none⟩:Addr)∧∃n243,hcell H229 b241 (o242+(Int.toNat n223))=some (.int .i64 n243)∧(0:Int)≤n223∧n223<(l211:Int)∧∃b244 o245:Nat,a210=some (⟨b244,o245,none⟩:Addr)∧∃n246,hcell H229 b244 (o245+(Int.toNat n223))=some (.int .i64 n246)∧∃r247:Nat,∃l248:List (Int×Value),(some r19)=some r247∧MapIs H229 r247 l248∧∃n249,(.int .i64 n249)=mapGet l248 n246 (.int .i64 0)∧Does Tryz.prog 50 [.pointer p6,.int .i64 n243] H229 fun v250 H251=>∃n252,v250=(.int .i64 n252)∧(MapIs H251 r247 l248∧isL H251 b244 (o245+(Int.toNat n223)) [.int .i64 n246]∧(((n252≠n249)→R (.bool false) H251)∧(¬(n252≠n249)→In64 (n223+1) ∧(I221 (n223+1) H251)∧μ222 (n223+1) H251<μ222 n223 H224))))))))∧(¬(n223<(l211:Int))→In64 (n23+1) ∧(I21 (n23+1) H224)∧μ22 (n23+1) H224<μ22 n23 H24))))))))∧(¬(n23<30)→R (.bool true) H24)))∧(¬(n23<(x1l:Int))→R (.bool true) H24))))))):=by kernel_rfl
end Go.Proofs
end
section
open Go Go.Vc Go.Proofs.Bx
namespace Go.Proofs
set_option maxHeartbeats 4000000 in
theorem bytes_law(H:Heap)(a0:Int)(_:(Lit.int IntKind.i64 a0).wf=true)(a1:Option Addr)(len1 cap1:Nat)(s1:KSlice 5 OStepR H [.slice a1 len1 cap1]) :
  Does Tryz.prog 8 [.int .i64 a0,.slice a1 len1 cap1] H fun v H'=>v=.bool true∧Ext [] H H':=by
 refine Fn_of_vc Tryz.mixed (BytesBV _ _ _ _ _ _) ?_
 refine(Go.Proofs.pick_ok a0 40 _ (by decide) (by decide)).mono ?_
 rintro _ _ ⟨rfl,rfl⟩
 have h00:=Int.emod_nonneg a0 (show(40:Int)≠0 by decide)
 have h01:=Int.emod_lt_of_pos a0 (show(0:Int)<40 by decide)
 refine⟨_,rfl,by unfold In64;omega,?_⟩
 obtain⟨N,hN⟩:∃N:Nat,40+a0 % 40=((N+21:Nat):Int):=⟨(19+a0 % 40).toNat,by omega⟩
 have hNN:19≤N∧N≤58:=by omega
 rw[hN]
 clear hN h00 h01
 have hf4:firstN (N:Int) 6=4:=first4 hNN
 have hg:¬laidBad (N:Int) 6:=by unfold laidBad;omega
 have hr:firstN (N:Int) 6<(N:Int):=by rw[hf4];omega
 have hE:=Leg.empty (N:=N) (s:=6) hg hr (by omega)
 refine(opn_ok (H:=H) (n:=N+21) (z:=20) (N:=N) (s:=6) (by omega) (by omega) (by omega) hg hr (S:=fun _=>True) (fun _ _=>trivial)).mono ?_
 have hEm:∀k,objP (emptyP (N:Int) 6 (firstN (N:Int) 6)) k=none:=fun k=>by
  unfold objP emptyP
  simp only
  split
  ·rename_i y hy
   rw[List.getElem?_replicate]at hy
   split at hy
   ·cases hy;rfl
   ·cases hy
  ·rfl
 obtain⟨E,hEe⟩:∃E,emptyP (N:Int) 6 (firstN (N:Int) 6)=E:=⟨_,rfl⟩
 rw[hEe]at hE hEm ⊢
 rintro _ H2 ⟨M,ps,pj,pd,J,D,xs,rfl,hL,-,-⟩
 obtain⟨cur,hcur⟩:∃cur,fmtHm N 6 xs=cur:=⟨_,rfl⟩
 rw[hcur]at hL
 obtain⟨n,hn⟩:∃n,N+21=n:=⟨_,rfl⟩
 rw[hn]at hL
 refine⟨_,_,rfl,(known_ok H2).mono ?_⟩
 rintro _ H6 ⟨rfl,hx6⟩
 refine⟨_,rfl,fun h=>(by cases h),fun _=>⟨fun h=>(by cases h),fun _=>?_⟩⟩
 have hL:=hL.more hx6
 have bitsL:∀{st:PSt},Leg N 6 st→st.bits.length≤1000000:=fun h=>by rw[h.bits];omega
 refine hL.free.mono ?_
 rintro _ _ ⟨rfl,rfl⟩
 refine⟨_,rfl,(hL.used (by omega) (bitsL hE)).mono ?_⟩
 rintro _ _ ⟨rfl,rfl⟩
 refine⟨_,rfl,?_,fun r H18 hn18 t H20 hn20=>?_⟩
 ·have:=hE.num
  unfold In64;omega
 have hx18:=NewMap.ext hn18
 have hx20:=NewMap.ext hn20
 have hM0:MemB H H20 M r t ps pj pd n N E E J D cur [] []:=by
  have hz:=hL.base.size
  have hlt:=hL.lt
  obtain⟨e18,e18'⟩:=hn18
  obtain⟨e20,e20'⟩:=hn20
  have z18:H18.size=H6.size+1:=by rw[e18'];simp
  refine⟨(hL.more hx18).more hx20,hE,MapIs.ext (M:=[]) ⟨#[],0,?_,rfl,MapKept.stamped_empty _⟩ hx20 (by simp),⟨#[],0,?_,rfl,MapKept.stamped_empty _⟩,fun h=>?_,fun h=>?_,by omega,by omega,by omega⟩
  ·rw[e18',e18];simp
  ·rw[e20',e20];simp
  ·have:=hlt _ h;omega
  ·have:=hlt _ h;omega
 have hW0:WantP E [] []:=⟨fun x=>⟨fun h=>(by cases h),fun ⟨k,o,_,h⟩=>by rw[hEm]at h;cases h⟩,fun k o h=>by rw[hEm]at h;cases h⟩
 clear hL hx18 hx20 hn18 hn20 hx6
 refine⟨fun i K=>∃(j:Nat) (st:PSt) (M:Nat→Prop) (lw lr:List (Int×Value)),i=j∧j≤30∧MemB H K M r t ps pj pd n N E st J D cur lw lr∧WantP st lw lr,fun i _=>(30 - i).toNat,⟨0,E,M,[],[],rfl,by omega,hM0,hW0⟩,?_⟩
 clear hM0 hW0 hEm
 rintro _ H24 ⟨j,st,M,lw,lr,rfl,hj30,hB,hW⟩
 have htrue:Ext [] H H24:=hB.L.base
 refine⟨fun hlt=>⟨fun h30=>?_,fun _=>⟨rfl,htrue⟩⟩,fun _=>⟨rfl,htrue⟩⟩
 obtain⟨b,o,what,id0,m,pa,la,ca,ys,pm,lm,cm,ms,rfl,c0,c1,c2,c3,c4,k1,k2,k3,m1,m2,m3,hm64⟩:=ostep_at s1 (j:=j) (by omega)
 have cc:∀{k:Nat} {v:Value},hcell H b k=some v→hcell H24 b k=some v:=fun h1=>hcell_ext h1 htrue (by simp)
 rw[Int.toNat_natCast]
 refine⟨by omega,hlt,b,o,rfl,what,cc c0,id0,cc c1,m,cc c2,pa,la,ca,cc c3,pm,lm,cm,cc c4,?_⟩
 intro b36 H37 hn37
 refine⟨hn37.blk.cells _ _ (by simp),fun H38 hp38=>?_⟩
 obtain⟨xv,hxv⟩:∃xv:List Value,[.int .i64 what,.int .i64 id0,.int .i64 m,.slice pa la ca,.slice pm lm cm]=xv:=⟨_,rfl⟩
 have hb38:Blk H38 b36 xv:=by rw[←hxv];exact hp38.blk hn37.blk (by simp)
 have e37:=hn37.eq
 have hlt24:=hB.L.lt
 have hnM:¬M b36:=fun h=>by have:=hlt24 _ h;omega
 have hx38:Ext [] H24 H38:=hn37.ext.trans' hp38.ext (fun i hi=>.inl (by simp only[List.mem_singleton]at hi;omega))
 have hB:=hB.more hx38
 clear hn37 hp38 hx38 htrue cc hlt24 e37
 have rd:∀{K:Heap} {k:Nat} {v:Value},Blk K b36 xv→xv[k]?=some v→hcell K b36 k=some v:=fun h1 h2=>by rw[h1.cell];exact h2
 subst hxv
 refine⟨id0,rd (k:=1) hb38 rfl,(Go.Proofs.pick_ok id0 6 _ (by decide) (by decide)).mono ?_⟩
 rintro _ _ ⟨rfl,rfl⟩
 have h60:=Int.emod_nonneg id0 (show(6:Int)≠0 by decide)
 have h61:=Int.emod_lt_of_pos id0 (show(0:Int)<6 by decide)
 refine⟨_,rfl,by unfold In64;omega,r,lw,rfl,hB.w,?_⟩
 obtain⟨id,hid⟩:∃id,1+id0 % 6=id:=⟨_,rfl⟩
 rw[hid]
 clear h60 h61 hid
 obtain⟨w,hw,hw0,hwo⟩:=hW.old id
 have hwl:w.length≤7424:=by
  cases hh:mapHas lw id with
  | false=>rw[hw0 hh];simp
  | true=>
   obtain⟨k,o,hk,ho⟩:=(hW.has id).1 hh
   rw[hwo k o hk ho]
   have:=(hB.g.objLen ho).1
   omega
 refine⟨strO w,hw.symm,fun i2 is e nx K=>∃(st:PSt) (M:Nat→Prop) (lw lr:List (Int×Value)),i2=id∧MemB H K M r t ps pj pd n N E st J D cur lw lr∧TurnB st lw lr id is e nx,?_,?_⟩
 ·-- the calls
  have hys:SRow H38 1 la (.slice pa la ca) (bytesV ys):=k3.ext hB.L.base (by simp)
  have hltM:=hB.L.lt
  have fresh:∀{a30:Option Addr},(∀q∈blkOf a30,H38.size≤q)→∀q∈blkOf a30,¬M q:=fun hf q hq hmq=>by have:=hf q hq;have:=hltM q hmq;omega
  have hbl:∀more:Int,0<more→more≤700→¬524288<(bytesO ys m id0 more).length:=fun more h1 h2=>by
   have:=bytesO_length ys m id0 more h1
   omega
  refine⟨what,rd (k:=0) hb38 rfl,(Go.Proofs.pick_ok what 9 _ (by decide) (by decide)).mono ?_⟩
  rintro _ _ ⟨rfl,rfl⟩
  refine⟨_,rfl,fun _ K=>H38=K,⟨fun _=>rfl,fun _=>rfl⟩,?_⟩
  rintro t52 _ rfl
  refine⟨fun _=>?_,fun _=>⟨fun _=>?_,fun _=>⟨fun _=>?_,fun _=>⟨fun _=>?_,fun _=>⟨fun _=>?_,fun _=>?_⟩⟩⟩⟩⟩
  ·-- Write
   refine⟨what,rd (k:=0) hb38 rfl,id0,rd (k:=1) hb38 rfl,m,rd (k:=2) hb38 rfl,pa,la,ca,rd (k:=3) hb38 rfl,pm,lm,cm,rd (k:=4) hb38 rfl,(bytesL_ok hys k1 k2 what id0 m 700 (by decide)).mono ?_⟩
   rintro _ H64 ⟨⟨a65,c67,rfl,ho,hf⟩,hx⟩
   have hb64:=hb38.ext hx (by simp)
   refine⟨a65,_,c67,rfl,_,ho.row _ c67,what,rd (k:=0) hb64 rfl,id0,rd (k:=1) hb64 rfl,m,rd (k:=2) hb64 rfl,pa,la,ca,rd (k:=3) hb64 rfl,pm,lm,cm,rd (k:=4) hb64 rfl,(bytesL_ok (hys.ext hx (by simp)) k1 k2 what id0 m 700 (by decide)).mono ?_⟩
   rintro _ H79 ⟨⟨a80,c82,rfl,ho',hf'⟩,hx'⟩
   have hB79:=(hB.more hx).more hx'
   have hxs:=hx.size
   refine⟨a80,_,c82,rfl,(hB79.L.writeL hB79.g id (ho'.row _ c82) (fresh fun q hq=>Nat.le_trans hxs (hf' q hq))).mono ?_⟩
   rintro _ H84 ⟨st',e,M',rfl,g1,g2,g3,g4⟩
   refine⟨e,rfl,st',M',lw,lr,rfl,hB79.step g1 g2 g3,TurnB.of hW (f:=fun _=>bytesO ys m id0 700) (fun _ _ _ _=>rfl) ?_⟩
   rcases g4 with g4|⟨_,h1,(⟨_,h2⟩|h2|h2)⟩
   ·exact .inl g4
   ·exact absurd h2 (hbl 700 (by decide) (by decide))
   ·exact .inr ⟨h1,.inl h2⟩
   ·exact .inr ⟨h1,.inr h2⟩
  ·-- Patch
   refine⟨m,rd (k:=2) hb38 rfl,?_⟩
   rw[strO_size]
   refine⟨by unfold In64;omega,(Go.Proofs.pick_ok m _ _ (by omega) (by omega)).mono ?_⟩
   rintro _ _ ⟨rfl,rfl⟩
   have h70:=Int.emod_nonneg m (show((w.length:Int)+1)≠0 by omega)
   have h71:=Int.emod_lt_of_pos m (show(0:Int)<(w.length:Int)+1 by omega)
   obtain⟨k,hk⟩:∃k:Nat,m % ((w.length:Int)+1)=k:=⟨(m % ((w.length:Int)+1)).toNat,by omega⟩
   rw[hk]
   have hkw:k≤w.length:=by omega
   clear h70 h71 hk
   refine⟨_,rfl,what,rd (k:=0) hb38 rfl,id0,rd (k:=1) hb38 rfl,m,rd (k:=2) hb38 rfl,pa,la,ca,rd (k:=3) hb38 rfl,pm,lm,cm,rd (k:=4) hb38 rfl,(bytesL_ok hys k1 k2 what id0 m 300 (by decide)).mono ?_⟩
   rintro _ H100 ⟨⟨a101,c103,rfl,ho,hf⟩,hx⟩
   obtain⟨bs,hbs⟩:∃bs,bytesO ys m id0 300=bs:=⟨_,rfl⟩
   have hbl':bs.length≤500:=by have:=bytesO_length ys m id0 300 (by decide);rw[hbs]at this;omega
   rw[hbs]at ho ⊢
   refine⟨a101,_,c103,rfl,bs,ho.row _ c103,by omega,by omega,?_⟩
   rw[Int.toNat_natCast,strO_take,show ByteArray.mk (List.toArray bs)=strO bs from rfl,strO_app,strO_size,strO_size,strO_size,Int.toNat_natCast]
   obtain⟨u,hu⟩:∃u,w.take k++bs=u:=⟨_,rfl⟩
   have hul:u.length=k+bs.length:=by rw[←hu,List.length_append,List.length_take];omega
   rw[hu]
   refine⟨by rw[List.length_take];unfold In64;omega,fun s106 s107 K=>s106=strO (patchO w k bs)∧s107=strO bs∧H100=K,⟨fun hlt'=>⟨by omega,by omega,?_⟩,fun hge=>⟨?_,rfl,rfl⟩⟩,?_⟩
   ·have hd:(strO w).extract u.length w.length=strO (w.drop u.length):=strO_drop w u.length
    rw[hd,strO_size,List.length_drop]
    refine⟨by unfold In64;omega,?_,rfl,rfl⟩
    rw[strO_app]
    unfold patchO
    rw[hu]
   ·unfold patchO
    rw[hu,List.drop_of_length_le (by omega),List.append_nil]
   rintro _ _ _ ⟨rfl,rfl,rfl⟩ c109 b110 H111 hn111
   have hB111:=(hB.more hx).more (NewB.extN hn111)
   have hrow:=NewB.rowN hn111
   rw[strO_size]
   refine(hB111.L.patchL hB111.g id k (by unfold In64;omega) hrow).mono ?_
   rintro _ H113 ⟨st',e,M',rfl,g1,g2,g3,g4⟩
   refine⟨e,rfl,st',M',lw,lr,rfl,hB111.step g1 g2 g3,TurnB.of hW (f:=fun x=>patchO x k bs) (fun k' o hk' ho'=>by rw[hwo k' o hk' ho']) ?_⟩
   rcases g4 with g4|⟨_,h1,(h2|⟨_,k',o,hk',ho',h2⟩|h2)⟩
   ·exact .inl g4
   ·exact .inr ⟨h1,.inl h2⟩
   ·rw[←hwo k' o hk' ho']at h2
    exact absurd ⟨by omega,by omega,by omega⟩ h2
   ·exact .inr ⟨h1,.inr h2⟩
  ·-- Truncate
   refine⟨m,rd (k:=2) hb38 rfl,?_⟩
   rw[strO_size]
   refine⟨by unfold In64;omega,(Go.Proofs.pick_ok m _ _ (by omega) (by omega)).mono ?_⟩
   rintro _ _ ⟨rfl,rfl⟩
   have h70:=Int.emod_nonneg m (show((w.length:Int)+1)≠0 by omega)
   have h71:=Int.emod_lt_of_pos m (show(0:Int)<(w.length:Int)+1 by omega)
   obtain⟨k,hk⟩:∃k:Nat,m % ((w.length:Int)+1)=k:=⟨(m % ((w.length:Int)+1)).toNat,by omega⟩
   rw[hk]
   have hkw:k≤w.length:=by omega
   clear h70 h71 hk
   refine⟨_,rfl,by omega,by omega,?_⟩
   rw[Int.toNat_natCast,strO_take]
   refine(hB.L.truncL hB.g id k).mono ?_
   rintro _ H120 ⟨st',e,M',rfl,g1,g2,g3,g4⟩
   refine⟨e,rfl,st',M',lw,lr,rfl,hB.step g1 g2 g3,TurnB.of hW (f:=fun x=>x.take k) (fun k' o hk' ho'=>by rw[hwo k' o hk' ho']) ?_⟩
   rcases g4 with g4|⟨_,h1,(h2|⟨_,k',o,hk',ho',h2⟩|h2)⟩
   ·exact .inl g4
   ·exact .inr ⟨h1,.inl h2⟩
   ·rw[←hwo k' o hk' ho']at h2
    exact absurd ⟨by omega,by omega⟩ h2
   ·exact .inr ⟨h1,.inr h2⟩
  ·-- Ref
   refine(hB.L.refL hB.g id).mono ?_
   rintro _ H123 ⟨st',e,M',rfl,g1,g2,g3,g4⟩
   have hB':=hB.step g1 g2 g3
   refine⟨e,rfl,fun he=>?_,fun he=>?_⟩
   ·rcases g4 with⟨_,g4⟩|⟨h,_⟩
    ·obtain⟨k,o,hk,ho,h1,h2,h3,h4⟩:=hW.wr (f:=fun x=>x) (g:=fun x=>x+1) g4
     have ho2:=(hB.g.objLen ho).2
     refine⟨t,lr,rfl,hB'.c,o.2,h3.symm,by unfold In64;omega,t,lr,rfl,hB'.c,fun H130 hp=>?_⟩
     refine⟨st',M',lw,_,rfl,hB'.putC hp,.inl ⟨h1,he,?_⟩⟩
     rw[hwo k o hk ho]
     exact h4 _ (by rw[mapGet_set,if_pos rfl]) (fun x hx z=>by rw[mapGet_set,if_neg hx])
    ·exact absurd he h
   ·rcases g4 with⟨h,_⟩|⟨_,rfl,(⟨rfl,h2⟩|⟨rfl,h2⟩)⟩
    ·exact absurd h he
    ·exact⟨st',M',lw,lr,rfl,hB',.inr ⟨.inr ⟨hW.no h2,rfl⟩,hW⟩⟩
    ·exact⟨st',M',lw,lr,rfl,hB',.inr ⟨.inl ⟨hW.yes h2,rfl⟩,hW⟩⟩
  ·-- Unref
   refine(hB.L.unrefL hB.g id).mono ?_
   rintro _ H132 ⟨st',last,e,M',rfl,g1,g2,g3,g4⟩
   have hB':=hB.step g1 g2 g3
   refine⟨last,e,rfl,fun K=>H132=K,?_,?_⟩
   ·rcases g4 with⟨rfl,k,o,rfl,ho,hla,_⟩|⟨he,rfl,_,hno,_⟩
    ·have hh:=(hW.has _).2 ⟨k,o,rfl,ho⟩
     refine⟨fun h=>absurd (by simp[hh]) h,fun _=>⟨fun _=>⟨t,lr,rfl,hB'.c,o.2,((hW.get k o ho).2).symm,fun h=>absurd hla h,fun _=>rfl⟩,fun h=>?_⟩⟩
     rw[hh]at h;cases h
    ·have hh:=hW.no hno
     refine⟨fun h=>absurd (by simp[hh,he]) h,fun _=>⟨fun h=>?_,fun _=>⟨fun h=>absurd (by simp) h,fun _=>rfl⟩⟩⟩
     rw[hh]at h;cases h
   rintro _ rfl
   have hj64:In64 ((j:Int)+1):=by unfold In64;omega
   refine⟨fun hh=>?_,fun hh=>?_⟩
   ·rcases g4 with⟨rfl,k,o,rfl,ho,hla,hj⟩|⟨_,_,_,hno,_⟩
    ·have ho2:=(hB.g.objLen ho).2
     refine⟨t,lr,rfl,hB'.c,o.2,((hW.get k o ho).2).symm,by unfold In64;omega,t,lr,rfl,hB'.c,fun H145 hp=>?_⟩
     have hB1:=hB'.putC hp
     refine⟨t,_,rfl,hB1.c,o.2 - 1,by rw[mapGet_set,if_pos rfl],fun h1=>⟨r,lw,rfl,hB1.w,fun H151 hp'=>⟨hj64,⟨j+1,st',M',_,_,by omega,by omega,hB1.putW hp',?_⟩,by dsimp only;omega⟩⟩,fun h1=>⟨hj64,⟨j+1,st',M',_,_,by omega,by omega,hB1,?_⟩,by dsimp only;omega⟩⟩
     ·obtain⟨d1,d2⟩:=mapDel_spec (MapIs.nod hB1.w) ((k:Int)+1)
      refine hW.chg (k:=k) (fun i hi=>by rw[hj,if_neg hi]) d2 (fun x hx z=>by rw[mapGet_set,if_neg hx]) (.inl ⟨by rw[hj,if_pos rfl,if_pos (by omega)],d1⟩)
     ·exact hW.chg (k:=k) (fun i hi=>by rw[hj,if_neg hi]) (fun x _=>⟨rfl,fun _=>rfl⟩) (fun x hx z=>by rw[mapGet_set,if_neg hx]) (.inr ⟨(o.1,o.2 - 1),by rw[hj,if_pos rfl,if_neg (by omega)],hh,(hW.get k o ho).1,by rw[mapGet_set,if_pos rfl]⟩)
    ·rw[hW.no hno]at hh;cases hh
   ·rcases g4 with⟨_,k,o,rfl,ho,_⟩|⟨_,_,rfl,_,_⟩
    ·rw[(hW.has _).2 ⟨k,o,rfl,ho⟩]at hh;cases hh
    ·exact⟨hj64,⟨j+1,st',M',lw,lr,by omega,by omega,hB',hW⟩,by dsimp only;omega⟩
  ·-- Create
   refine⟨what,rd (k:=0) hb38 rfl,id0,rd (k:=1) hb38 rfl,m,rd (k:=2) hb38 rfl,pa,la,ca,rd (k:=3) hb38 rfl,pm,lm,cm,rd (k:=4) hb38 rfl,(bytesL_ok hys k1 k2 what id0 m 700 (by decide)).mono ?_⟩
   rintro _ H162 ⟨⟨a163,c165,rfl,ho,hf⟩,hx⟩
   have hB1:=hB.more hx
   refine⟨a163,_,c165,rfl,(hB1.L.createL hB1.g (ho.row _ c165) (fresh hf)).mono ?_⟩
   rintro _ H167 ⟨st',id',e,M',rfl,g1,g2,g3,g4⟩
   have hB2:=hB1.step g1 g2 g3
   have hb167:=(hb38.ext hx (by simp)).extP g2.ext hnM
   refine⟨id',e,rfl,fun K=>∃(st:PSt) (M:Nat→Prop) (lw lr:List (Int×Value)),MemB H K M r t ps pj pd n N E st J D cur lw lr∧WantP st lw lr,⟨fun he=>?_,fun he=>?_⟩,?_⟩
   ·rcases g4 with⟨_,k,rfl,_,ho0,hj⟩|⟨h,_⟩
    ·have hn:NoO st ((k:Int)+1):=fun k' hk'=>by
      have:k'=k:=by omega
      subst this;exact ho0
     obtain⟨w2,hw2,_⟩:=hW.old ((k:Int)+1)
     refine⟨r,lw,rfl,hB2.w,strO w2,hw2.symm,fun h=>?_,fun _=>?_⟩
     ·rw[hW.no hn]at h;cases h
     have hy2:SRow H167 1 la (.slice pa la ca) (bytesV ys):=k3.ext g1.base (by simp)
     refine⟨what,rd (k:=0) hb167 rfl,id0,rd (k:=1) hb167 rfl,m,rd (k:=2) hb167 rfl,pa,la,ca,rd (k:=3) hb167 rfl,pm,lm,cm,rd (k:=4) hb167 rfl,(bytesL_ok hy2 k1 k2 what id0 m 700 (by decide)).mono ?_⟩
     rintro _ H184 ⟨⟨a185,c187,rfl,ho',hf'⟩,hx'⟩
     have hB3:=hB2.more hx'
     refine⟨a185,_,c187,rfl,_,ho'.row _ c187,r,lw,rfl,hB3.w,fun H191 hp=>?_⟩
     have hB4:=hB3.putW hp
     refine⟨t,lr,rfl,hB4.c,fun H194 hp'=>⟨st',M',_,_,hB4.putC hp',?_⟩⟩
     exact hW.put (o:=(bytesO ys m id0 700,1)) hj (by rw[mapGet_set,if_pos rfl]) (fun x hx z=>by rw[mapGet_set,if_neg hx])
    ·exact absurd he h
   ·rcases g4 with⟨h,_⟩|⟨_,rfl,rfl,(⟨_,h⟩|rfl)⟩
    ·exact absurd h he
    ·exact absurd h (hbl 700 (by decide) (by decide))
    ·exact⟨fun h=>absurd rfl h,fun _=>⟨fun h=>absurd rfl h,fun _=>⟨st',M',lw,lr,hB2,hW⟩⟩⟩
   rintro K ⟨st2,M2,lw2,lr2,h1,h2⟩
   exact⟨st2,M2,lw2,lr2,rfl,h1,.inr ⟨.inr ⟨rfl,rfl⟩,h2⟩⟩
 clear hB hW hb38 hnM hw hw0 hwo hwl k1 k2 k3 m1 m2 m3 c0 c1 c2 c3 c4 hlt
 rintro _ is e nx H200 ⟨st2,M2,lw2,lr2,rfl,hB,hT⟩
 refine⟨fun K=>∃(st:PSt) (M:Nat→Prop) (lw lr:List (Int×Value)),MemB H K M r t ps pj pd n N E st J D cur lw lr∧WantP st lw lr,⟨fun hi=>⟨fun he=>⟨r,lw2,rfl,hB.w,fun H204 hp=>?_⟩,fun he=>?_⟩,fun hi=>?_⟩,?_⟩
 ·rcases hT with⟨_,_,h⟩|⟨(⟨_,h⟩|⟨_,h⟩),_⟩
  ·exact⟨st2,M2,_,lr2,hB.putW hp,h⟩
  ·omega
  ·omega
 ·rcases hT with⟨_,h,_⟩|⟨_,h⟩
  ·exact absurd h he
  ·exact⟨st2,M2,lw2,lr2,hB,h⟩
 ·rcases hT with⟨h,_⟩|⟨_,h⟩
  ·rw[hi]at h;cases h
  ·exact⟨st2,M2,lw2,lr2,hB,h⟩
 have hTe:(is=true∧(e=0∨e=3))∨(is=false∧e=6):=by
  rcases hT with⟨h1,h2,_⟩|⟨(h|h),_⟩
  ·exact .inl ⟨h1,.inl h2⟩
  ·exact .inl ⟨h.1,.inr h.2⟩
  ·exact .inr h
 clear hT hB
 rintro H205 hSt
 refine⟨fun K=>H205=K,?_,?_⟩
 ·rcases hTe with⟨rfl,(rfl|rfl)⟩|⟨rfl,rfl⟩
  ·simp
  ·simp
  ·simp
 rintro _ rfl
 obtain⟨st3,M3,lw3,lr3,hB,hW⟩:=hSt
 clear hTe
 refine hB.L.ids.mono ?_
 rintro _ H209 ⟨a210,c212,rfl,ho,hx,hf⟩
 have hlt3:=hB.L.lt
 have hb3:=hB.L.base.size
 have hwlt:=MapIs.ltN hB.w
 have hclt:=MapIs.ltN hB.c
 have hlen:=hW.len hB.g (MapIs.nod hB.w)
 have hB1:=hB.more hx
 refine⟨a210,_,c212,rfl,r,lw3,rfl,hB1.w,fun h=>absurd (by rw[hlen]) h,fun _=>?_⟩
 refine hB1.L.free.mono ?_
 rintro _ _ ⟨rfl,rfl⟩
 refine⟨_,rfl,(hB1.L.used (by omega) (bitsL hB1.g)).mono ?_⟩
 rintro _ _ ⟨rfl,rfl⟩
 refine⟨_,rfl,by unfold In64;omega,fun h=>absurd (by omega) h,fun _=>?_⟩
 have hidl:(idsP st3).length≤6:=by
  unfold idsP
  rw[List.length_map]
  refine Nat.le_trans (List.length_filter_le _ _) ?_
  rw[List.length_range,hB.g.slots]
  omega
 have hfM:∀q∈blkOf a210,¬M3 q:=fun q hq hm=>by have:=hf q hq;have:=hlt3 q hm;omega
 refine⟨fun i K=>∃(d:Nat) (M:Nat→Prop),i=d∧d≤(idsP st3).length∧MemB H K M r t ps pj pd n N E st3 J D cur lw3 lr3∧Step H209 M3 K M,fun i _=>((idsP st3).length - i).toNat,⟨0,M3,rfl,Nat.zero_le _,hB1,Step.refl _ _⟩,?_⟩
 rintro _ H224 ⟨d,M4,rfl,hd,hB4,hs4⟩
 refine⟨fun hlt=>?_,fun hge=>⟨by unfold In64;omega,⟨j+1,st3,M4,lw3,lr3,by omega,by omega,hB4,hW⟩,by dsimp only;omega⟩⟩
 have hd':d<(idsP st3).length:=by omega
 have hv:((idsP st3).map (Value.int .i64))[d]?=some (.int .i64 (idsP st3)[d]):=by rw[List.getElem?_map,List.getElem?_eq_getElem hd'];rfl
 have keep:∀{K:Heap} {M':Nat→Prop},Step H209 M3 K M'→Own K 1 a210 (idsP st3).length c212 ((idsP st3).map (.int .i64)):=fun hS=>ho.extP hS.ext hfM
 obtain⟨bb,oo,e3,c3⟩:=((keep hs4).row (idsP st3).length c212).at hv
 obtain⟨k,y,hid,hy,hyr,_,hrefs⟩:=idsP_at hB4.g (List.getElem_mem hd')
 refine⟨by omega,hlt,bb,oo,e3,_,by rw[Int.toNat_natCast];exact c3,(hB4.L.read hB4.g _).mono ?_⟩
 rintro _ H229 ⟨out,e,M5,a230,c232,rfl,hr5,_,hL5,hs5,hcs⟩
 have hB5:=hB4.step hL5 hs5 hB4.g
 have hout:e=0∧out=bytesP st3 y:=by
  rcases hcs with⟨h0,k',y',h1,h2,_,h3⟩|⟨_,_,h⟩
  ·have:k'=k:=by omega
   subst this
   rw[hy]at h2;cases h2
   exact⟨h0,h3⟩
  ·rw[hrefs]at h;exact absurd hyr h
 obtain⟨rfl,rfl⟩:=hout
 obtain⟨hg1,hg2⟩:=hW.get k _ (objP_some hy hyr)
 have hst5:=hs4.trans hs5
 obtain⟨bb',oo',e3',c3'⟩:=((keep hst5).row (idsP st3).length c212).at hv
 rw[e3]at e3'
 cases e3'
 have c5:hcell H229 bb (oo+Int.toNat ((d:Nat):Int))=some (.int .i64 (idsP st3)[d]):=by rw[Int.toNat_natCast];exact c3'
 refine⟨a230,_,c232,_,rfl,fun h=>absurd rfl h,fun _=>⟨_,hr5,by omega,hlt,bb,oo,e3,_,c5,r,lw3,rfl,hB5.w,strO (bytesP st3 y),by rw[hid];exact hg1.symm,fun h=>absurd rfl h,fun _=>?_⟩⟩
 refine⟨by omega,hlt,bb,oo,e3,_,c5,by omega,hlt,bb,oo,e3,_,c5,t,lr3,rfl,hB5.c,y.refs,by rw[hid];exact hg2.symm,(hB5.L.refs _).mono ?_⟩
 rintro _ _ ⟨rfl,rfl⟩
 refine⟨_,rfl,hB5.c,⟨c5,trivial⟩,fun h=>absurd hrefs h,fun _=>⟨by unfold In64;omega,⟨d+1,M5,by omega,by omega,hB5,hst5⟩,by dsimp only;omega⟩⟩
end Go.Proofs
end
