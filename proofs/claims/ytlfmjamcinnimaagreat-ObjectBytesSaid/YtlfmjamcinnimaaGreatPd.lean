/-
  What the law rests on, part 4. No condition.
-/
import Derived.Test.YtlfmjamcinnimaaGreatPc
import Derived.Test.YtlfmjamcinnimaaGreatProg
import Derived.Test.YtlfmjamcinnimaaGreatPb
import Derived.RangeFuncBound
import Derived.Tactics
import Derived.Tactics2
import Derived.Defers
import Derived.Recover
import Derived.Laws.Pointers
import Derived.Laws.NewBlocks
import Derived.Deep.RegionHeld
import Derived.RowKit3
import Derived.Laws.IdiomCopy
set_option maxRecDepth 100000
section
open Go Go.Vc
namespace Go.Proofs
theorem ft1:∀(vs:List (List Value))(k:Nat),(∀r∈vs,r.length=1)→(vs.drop k).flatten=vs.flatten.drop k:=by
 intro vs
 induction vs with
 | nil=>intro k _;simp
 | cons r rs ih=>
  intro k hk
  cases k with
  | zero=>simp
  | succ k=>
   have h1:=hk r (by simp)
   match r,h1 with
   | [u],_=>simp only[List.drop_succ_cons,List.flatten_cons,List.cons_append,List.nil_append];rw[ih k (fun r hr=>hk r (by simp[hr]))]
theorem SeqV.drop1{H:Heap}{a:Option Addr}{c:Nat}{xs:List Octs}(h:SeqV bytesC H a xs){k:Nat}(hk:k≤xs.length)(hc:xs.length≤c):SeqV bytesC H (if c=k then a else Option.map (fun x=>Addr.add x (k*1)) a) (xs.drop k):=by
 obtain⟨vs,h1,h2,h3⟩:=h
 have hrows:∀r∈vs,r.length=1:=by
  intro r hr
  obtain⟨i,hi,rfl⟩:=List.mem_iff_getElem.1 hr
  obtain⟨v,q1,q2⟩:=h3 i _ (List.getElem?_eq_getElem (by omega))
  rw[List.getElem?_eq_getElem hi,Option.some.injEq]at q1
  rw[q1]
  exact bytesC.len q2
 refine⟨vs.drop k,?_,by rw[List.length_drop,List.length_drop,h2],fun i x hx=>?_⟩
 ·rw[ft1 vs k hrows,List.length_drop]
  have h1':SRow H 1 xs.length (.slice a xs.length c) vs.flatten:=by
   obtain⟨g1,g2⟩:=h1
   exact⟨g1,by cases a<;>exact g2⟩
  exact SRow.drop1 h1' hk hc
 ·rw[List.getElem?_drop]at hx
  obtain⟨v,q1,q2⟩:=h3 (k+i) x hx
  exact⟨v,by rw[List.getElem?_drop];exact q1,q2⟩
def KeptS{α:Type}(E:Elem α)(F:Nat→Prop)(H:Heap)(a:Option Addr)(xs:List α):Prop:=∀H',ExtP F H H'→SeqV E H' a xs
theorem KeptS.at_{α:Type}{E:Elem α}{F:Nat→Prop}{H:Heap}{a:Option Addr}{xs:List α}(h:KeptS E F H a xs):SeqV E H a xs:=h H (ExtP.refl _ _)
theorem KeptS.ext{α:Type}{E:Elem α}{F:Nat→Prop}{H H':Heap}{a:Option Addr}{xs:List α}(h:KeptS E F H a xs)(he:ExtP F H H'):KeptS E F H' a xs:=fun _ hx=>h _ (he.trans hx)
theorem MySeq.kept{α:Type}{E:Elem α}{n0:Nat}{H:Heap}{a:Option Addr}{n c:Nat}{xs:List α}{F:Nat→Prop}(h:MySeq E n0 H a n c xs)(hF:∀k,F k→k<n0):KeptS E F H a xs:=fun _ hx=>(h.extP hx (fun k _ h0 hk=>by have:=hF k hk;omega)).view
theorem KeptS.drop{F:Nat→Prop}{H:Heap}{a:Option Addr}{c:Nat}{xs:List Octs}(h:KeptS bytesC F H a xs){k:Nat}(hk:k≤xs.length)(hc:xs.length≤c):KeptS bytesC F H (if c=k then a else Option.map (fun x=>Addr.add x (k*1)) a) (xs.drop k):=fun _ hx=>(h _ hx).drop1 hk hc
theorem MySeq.wr{n0:Nat}{H:Heap}{a:Option Addr}{n c:Nat}{xs:List Wr}(h:MySeq writeE n0 H a n c xs){i:Nat}{x:Wr}(hx:xs[i]?=some x):∃b o a' c',a=some ⟨b,o,none⟩∧hcell H b (o+i*2)=some (.int .i64 x.1)∧hcell H b (o+i*2+1)=some (.slice a' x.2.length c')∧SRow H 1 x.2.length (.slice a' x.2.length c') (bytesV x.2)∧∀k∈blkOf a',n0≤k∧k<H.size:=by
 obtain⟨G,h1,h2,h3⟩:=h
 obtain⟨b,o,v,e,hc,⟨a',n,c',rfl,h4,h5⟩,hf⟩:=h1.get hx
 have hn:x.2.length=n:=by have:=h4.1;rw[bytesV_length]at this;omega
 subst hn
 have q0:=hc 0 _ rfl
 have q1:=hc 1 _ rfl
 exact⟨b,o,a',c',e,by simpa[writeE]using q0,by simpa[writeE]using q1,h4,fun k hk=>⟨(h2 k (hf k hk)).1,h5 k hk⟩⟩
theorem wholeB_spec(h:Hd)(bs:List Octs)(homes:Int):(wholeB h bs homes).2=0∨(0<(wholeB h bs homes).2∧(wholeB h bs homes).2≤bs.length∧MayP (wholeB h bs homes).1 homes∧laidB h (wholeB h bs homes).1=bs.take (wholeB h bs homes).2.toNat):=by
 unfold wholeB
 cases bs with
 | nil=>exact .inl rfl
 | cons b0 r=>
  have:=(numU_lt2 (rdU (b0,false) 10).2).1
  simp only
  generalize numU (rdU (b0,false) 10).2 2=c at *
  split
  ·exact .inl rfl
  ·rename_i h1
   split
   ·rename_i h2
    by_cases hc:c=0
    ·exact .inl hc
    ·exact .inr ⟨by simp only;omega,by simp only;omega,of_decide_eq_true h2.1,h2.2⟩
   ·exact .inl rfl
theorem TOk.all{homes:Int}:∀(l:List Wr){t:List Wr},TOk t homes→(∀w∈l,0≤w.1∧w.1<homes∧w.2.length=128)→TOk (tAll t l) homes
 | [],t,h,_=>h
 | w::l,t,h,hl=>by
  have:=hl w (by simp)
  exact TOk.all l (h.set this.1 this.2.1 this.2.2) (fun x hx=>hl x (by simp[hx]))
theorem tAll_snoc(t l:List Wr)(w:Wr):tAll t (l++[w])=tSet (tAll t l) w.1 w.2:=by unfold tAll;rw[List.foldl_append];rfl
def recJ(J:Jn)(r:Hd×List Wr):Jn:={J with h:=r.1,taken:=r.2}
set_option maxHeartbeats 2000000 in
theorem recover_ok{H:Heap}{F:Nat→Prop}{pj pd:Nat}{J:Jn}{D:Dev}{n B:Nat}(h:JD H F pj pd J D)(hw:D.Wf n B)(hB:B≤800000000)(hn:n≤4096)(hj:J.Wf n)(hseq:J.h.seq≤900000000000)(he9:J.h.epoch≤900000000000) :
  Does Tryz.prog 145 [.pointer (some ⟨pj,0,none⟩)] H fun v H'=>v=.int .i64 (recoverM n J D).2.2∧JD H' (grow F H H') pj pd (recoverM n J D).2.1 (recoverM n J D).1∧ExtP F H H':=by
 obtain⟨Fd,Fj,r,l,hd,hJ,hdis,hfd,hfj,hlt⟩:=h
 have hsz:=hj.size
 have hho:=homeN_of hsz
 have hnow:D.now.length=n:=by rw[←hw.len];exact laid_length _ _
 refine Fn_of_vc Tryz.mixed (vc_recover _ _ _) ?_
 refine⟨pj,0,rfl,_,hJ.head.cell 3,fun a6 l7 c8 i H'=>∃j:Nat,i=j∧j=l7∧j≤J.h.size∧(0<j→D.dead=false)∧MySeq bytesC H.size H' a6 l7 c8 ((D.now.drop 1).take j)∧Ext [] H H',fun _ _ _ i _=>J.h.size.toNat - i.toNat,
  ⟨0,rfl,rfl,by omega,by omega,MySeq.nil _ _ _,Ext.refl _ _⟩,?_⟩
 rintro a6 l7 c8 _ H10 ⟨j,rfl,rfl,hjs,hjd,hm10,hx10⟩
 have hs10:=hx10.size
 have hd10:=hd.ext hx10.toP (by simp)
 have hJ10:=hJ.extP hx10.toP (by simp) (fun _ h=>h) (fun k hk=>by have:=hJ.lt k hk;omega)
 refine⟨fun hlt1=>?_,fun hge=>?_⟩
 ·refine⟨pj,0,rfl,_,hJ10.head.cell 0,⟨by omega,by omega⟩,(dread_ok hd10 hw (1+(j:Int))).mono ?_⟩
  rintro _ H15 ⟨hx15,⟨hno,_⟩|⟨_,hdd,rfl⟩|⟨_,hdd,a16,c18,b,hb,rfl,ho15,hf15⟩⟩
  ·omega
  ·refine⟨_,_,_,_,rfl,fun _=>?_,fun he=>absurd (by decide) he⟩
   have hX:=hx10.trans hx15
   unfold recoverM
   rw[if_pos hdd]
   exact⟨rfl,⟨Fd,Fj,r,l,hd.ext hX.toP (by simp),hJ.extP hX.toP (by simp) (fun _ h=>h) (fun k hk=>by have:=hJ.lt k hk;have:=hX.size;omega),hdis,fun k hk=>.inl (hfd k hk),fun k hk=>.inl (hfj k hk),grow_lt hlt hX.size⟩,hX.anyP⟩
  ·refine⟨_,_,_,_,rfl,fun he=>absurd rfl he,fun _ b20 H21 hn21=>?_⟩
   have hX15:=hx10.trans hx15
   have hs15:=hx15.size
   have hidx:((1+(j:Int)).toNat)=1+j:=by omega
   rw[hidx]at hb
   have hi:(D.now.drop 1)[j]?=some b:=by rw[List.getElem?_drop];exact hb
   have htk:(D.now.drop 1).take (j+1)=(D.now.drop 1).take j++[b]:=by rw[List.take_add_one,hi];rfl
   refine(hm10.ext hx15).push (E:=bytesC) (x:=b) (v:=[.slice a16 b.length c18]) ⟨a16,_,c18,rfl,ho15.2.1,ho15.row _ _,ho15.lt⟩ (fun k hk=>⟨by have:=hf15 k hk;omega,fun hm=>by
    have:=hf15 k hk
    obtain⟨G,g1,_⟩:=hm10
    have:=g1.lt k hm
    omega⟩) (by omega) rfl (by omega) (fun a24 c25 H26 g1 _ g2=>⟨⟨by omega,by omega⟩,⟨j+1,by omega,rfl,by omega,fun _=>hdd,by rw[htk];exact g1,?_⟩,by simp only[];omega⟩) b20 H21 hn21
   exact ext_new hX15 g2 (fun i hi=>by obtain⟨G,_,_,g3⟩:=hm10;exact g3 i hi)
 have hjj:(j:Int)=J.h.size:=by omega
 have hdd:D.dead=false:=hjd (by omega)
 have hbs:jblocks D J.h.size=(D.now.drop 1).take j:=by unfold jblocks;rw[←hjj,Int.toNat_natCast]
 have hbl:(jblocks D J.h.size).length=j:=by rw[hbs,List.length_take,List.length_drop];omega
 have hb128:∀x∈jblocks D J.h.size,x.length=128:=fun x hx=>nowSize hw x (by rw[hbs]at hx;exact List.mem_of_mem_drop (List.mem_of_mem_take hx))
 have hcap:j≤c8:=by obtain⟨G,g1,_⟩:=hm10;exact g1.cap.1
 rw[←hbs]at hm10
 have hRM:recoverM n J D=(let rr:=recL (j+1) J.h (jblocks D J.h.size) J.taken (homeN n J.h.size)
  let J1:Jn:=recJ J rr
  let g:=goHomeM n J1 D
  if g.2≠0 then(g.1,J1,g.2)else beginM n ⟨rr.1.epoch+1,1,rr.1.size⟩ J1 g.1):=by
  unfold recoverM
  rw[if_neg (by rw[hdd];decide),hbl];rfl
 rw[hRM]
 have hFjlt:∀k,Fj k→k<H.size:=hJ.lt
 generalize jblocks D J.h.size=bs0 at *
 refine⟨fun a29 l30 c31 H'=>∃(bs:List Octs) (f:Nat) (h':Hd) (t':List Wr) (l':List (Int×Value)),bs.length=l30∧l30≤c31∧l30≤j∧l30+1≤f∧(∀x∈bs,x.length=128)∧KeptS bytesC Fj H' a29 bs∧recL (j+1) J.h bs0 J.taken (homeN n J.h.size)=recL f h' bs t' (homeN n J.h.size)∧h'.epoch=J.h.epoch∧h'.size=J.h.size∧0≤h'.seq∧h'.seq+l30≤J.h.seq+j∧TOk t' (homeN n J.h.size) ∧
   IsDev H' Fd pd D∧IsJn H' (grow Fj H H') pj pd (recJ J (h',t')) r l'∧ExtP Fj H H',fun _ l30 _ _=>l30,
  ⟨bs0,j+1,J.h,J.taken,l,hbl,hcap,Nat.le_refl _,Nat.le_refl _,hb128,hm10.kept hFjlt,rfl,rfl,rfl,hj.seq.1,Int.le_refl _,hj.took,hd10,hJ10.extP (ExtP.refl (fun _=>False) _) (by simp) (fun _=>.inl) (grow_lt hFjlt hs10),hx10.anyP⟩,?_⟩
 rintro a29 l30 c31 H32 ⟨bs,f,h',t',l',rfl,hc31,hlj,hf,hbb,hk32,hrec,he',hz',hs0,hsq,hto,hd32,hJ32,hx32⟩
 have hs32:=hx32.size
 have hjd32:JD H32 (grow F H H32) pj pd (recJ J (h',t')) D:=⟨Fd,_,r,l',hd32,hJ32,fun k hk hk'=>by
  rcases hk' with hk'|hk'
  ·exact hdis k hk hk'
  ·have:=hd.lt k hk;omega,fun k hk=>.inl (hfd k hk),grow_in hfj (Nat.le_refl _) (Nat.le_refl _),grow_lt hlt hs32⟩
 refine⟨pj,0,rfl,h'.epoch,hJ32.head.cell 1,h'.seq,hJ32.head.cell 2,h'.size,hJ32.head.cell 3,(jhome_ok hjd32 hw).mono ?_⟩
 rintro _ _ ⟨rfl,rfl⟩
 have hho':homeN n (recJ J (h',t')).h.size=homeN n J.h.size:=by show homeN n h'.size=_;rw[hz']
 rw[hho']
 refine⟨_,rfl,⟨hJ32.head.cell 1,hJ32.head.cell 2,hJ32.head.cell 3,trivial⟩,(whole_ok h' (homeN n J.h.size) hbb (by omega) hc31 (by omega) hk32.at_).mono ?_⟩
 rintro _ H42 ⟨a43,c45,rfl,hm42,hx42⟩
 have hs42:=hx42.size
 have hspec:=wholeB_spec h' bs (homeN n J.h.size)
 have hX42:ExtP Fj H H42:=hx32.trans hx42.anyP
 have hd42:=hd32.ext hx42.toP (by simp)
 have hJ42:=hJ32.extP (F':=grow Fj H H42) hx42.toP (by simp) (grow_in (fun _ h=>h) (Nat.le_refl _) hs42) (grow_lt hFjlt (by omega))
 refine⟨_,_,_,_,rfl,fun hz=>?_,fun hnz=>?_⟩
 ·have hrec2:recL (j+1) J.h bs0 J.taken (homeN n J.h.size)=(h',t'):=by
   rw[hrec]
   obtain⟨f,rfl⟩:∃k,f=k+1:=⟨f - 1,by omega⟩
   rw[recL,if_pos hz]
  rw[hrec2]
  have hjd42:JD H42 (grow F H H42) pj pd (recJ J (h',t')) D:=⟨Fd,_,r,l',hd42,hJ42,fun k hk hk'=>by
   rcases hk' with hk'|hk'
   ·exact hdis k hk hk'
   ·have:=hd.lt k hk;omega,fun k hk=>.inl (hfd k hk),grow_in hfj (Nat.le_refl _) (Nat.le_refl _),grow_lt hlt (by omega)⟩
  have hjw:(recJ J (h',t')).Wf n:=⟨by show 4≤h'.size∧h'.size≤_;omega,by show 0≤h'.seq∧h'.seq≤_;omega,by show 0≤h'.epoch∧h'.epoch≤_;have:=hj.epoch;omega,by show 0≤J.used∧J.used≤h'.size;have:=hj.used;omega,by show TOk t' (homeN n h'.size);rw[hz'];exact hto⟩
  have hXF:ExtP F H H42:=hX42.mono (fun k _ hk=>hfj k hk)
  refine(goHome_ok hjd42 hw (by omega) hn hjw).mono ?_
  rintro _ H48 ⟨rfl,hjd48,hx48⟩
  have hs48:=hx48.size
  have hgw:=goHome_wf hw hjw.took (by rw[hho'];omega)
  have hXF48:ExtP F H H48:=hXF.trans' hx48 (fun i hi=>by
   rcases hi with hi|hi
   ·exact .inr hi
   ·exact .inl hi.1)
  have hjd48':=hjd48.up (F':=grow F H H48) (grow_sub (by omega) hs48) (grow_lt hlt (by omega))
  simp only
  refine⟨_,rfl,fun hne=>?_,fun he0=>?_⟩
  ·rw[if_pos hne]
   exact⟨rfl,hjd48',hXF48⟩
  ·rw[if_neg he0]
   have hgJ:=hjd48
   obtain⟨_,_,_,_,_,hJ48,_⟩:=hgJ
   refine⟨pj,0,rfl,h'.epoch,hJ48.head.cell 1,⟨by have:=hj.epoch;omega,by omega⟩,pj,0,rfl,h'.size,hJ48.head.cell 3,(begin_ok hjd48' hgw (by omega) ⟨h'.epoch+1,1,h'.size⟩).mono ?_⟩
   rintro _ H57 ⟨rfl,hjd57,hx57⟩
   have hs57:=hx57.size
   exact⟨_,rfl,rfl,hjd57.up (grow_sub (by omega) hs57) (grow_lt hlt (by omega)),hXF48.trans' hx57 (fun i hi=>by
    rcases hi with hi|hi
    ·exact .inr hi
    ·exact .inl hi.1)⟩
 ·rcases hspec with hspec|⟨hw0,hw1,hmay,hlaid⟩
  ·exact absurd hspec hnz
  have hrec2:recL (j+1) J.h bs0 J.taken (homeN n J.h.size)=recL (f - 1) {h' with seq:=h'.seq+1} (bs.drop (wholeB h' bs (homeN n J.h.size)).2.toNat) (tAll t' (wholeB h' bs (homeN n J.h.size)).1) (homeN n J.h.size):=by
   rw[hrec]
   obtain⟨f,rfl⟩:∃k,f=k+1:=⟨f - 1,by omega⟩
   rw[recL,if_neg hnz];rfl
  generalize (wholeB h' bs (homeN n J.h.size)).2=q at *
  generalize (wholeB h' bs (homeN n J.h.size)).1=wl at *
  have hwl:=hmay.few (n:=4096) (by omega)
  refine⟨fun i H'=>∃(k:Nat) (l'':List (Int×Value)),i=k∧k≤wl.length∧IsJn H' (grow Fj H H') pj pd (recJ J (h',tAll t' (wl.take k))) r l''∧ExtP (fun k=>k=pj∨k=r) H42 H',fun i _=>wl.length - i.toNat,
   ⟨0,l',rfl,by omega,hJ42,ExtP.refl _ _⟩,?_⟩
  rintro _ H62 ⟨i,l'',rfl,hil,hJ62,hx62⟩
  have hs62:=hx62.size
  have hpj:=hJ.lt _ hJ.hj
  have hr:=hJ.lt _ hJ.hr
  refine⟨fun hlt2=>?_,fun hge2=>?_⟩
  ·have hi:wl[i]?=some wl[i]:=List.getElem?_eq_getElem (by omega)
   have htk:wl.take (i+1)=wl.take i++[wl[i]]:=by rw[List.take_add_one,hi];rfl
   obtain⟨b63,o64,a66,c68,ea,g0,g1,gr,gf⟩:=(hm42.extP hx62 (fun k hk h0 hm=>by omega)).wr hi
   generalize wl[i]=w at *
   refine⟨by omega,hlt2,b63,o64,ea,_,by rw[Int.toNat_natCast];exact g0,a66,_,c68,by rw[Int.toNat_natCast];exact g1,fun b69 H70 hn70=>⟨hn70.blk.cells _ _ (by simp),fun H71 hp71=>?_⟩⟩
   have hb71:Blk H71 b69 [.int .i64 w.1,.slice a66 w.2.length c68]:=by simpa[splice]using hp71.blk hn70.blk (by simp)
   have e69:=hn70.eq
   have hx71:Ext [] H62 H71:=ext_new hn70.ext hp71.ext (by simp;omega)
   have hs71:=hx71.size
   have hJ71:=hJ62.extP (F':=grow Fj H H71) hx71.toP (by simp) (grow_in (fun _ h=>h) (Nat.le_refl _) hs71) (grow_lt hFjlt (by omega))
   refine⟨pj,0,rfl,_,hJ71.head.cell 5,w.1,hb71.cell 0,a66,_,c68,hb71.cell 1,r,l'',rfl,hJ71.map,fun H81 hp81=>?_⟩
   obtain⟨hJ81,hx81⟩:=hJ71.take (k:=w.1) (x:=w.2) ⟨a66,c68,rfl,gr.ext hx71 (by simp),fun k hk=>by
    have:=gf k hk
    exact⟨.inr ⟨by omega,by omega⟩,by omega,by omega⟩⟩ hp81
   have hs81:H81.size=H71.size:=by obtain⟨_,_,_,rfl,_⟩:=hp81;simp
   refine⟨⟨by omega,by omega⟩,⟨i+1,mapSet l'' w.1 (.slice a66 w.2.length c68),by omega,by omega,?_,hx62.trans (hx71.anyP.trans (hx81.toP.mono (fun k _ hk=>.inr (by simpa using hk))))⟩,by simp only[];omega⟩
   rw[htk,tAll_snoc]
   have:grow Fj H H81=grow Fj H H71:=by unfold grow;rw[hs81]
   rw[this]
   exact hJ81
  ·have:i=wl.length:=by omega
   subst this
   rw[List.take_length]at hJ62
   refine⟨by omega,by omega,?_⟩
   rintro _ rfl
   refine⟨pj,0,rfl,h'.seq,hJ62.head.cell 2,⟨by omega,by omega⟩,pj,0,rfl,hJ62.head.cells 1 2 (by simp[Jn.cells]),fun H88 hp88=>?_⟩
   obtain⟨hJ88,hx88⟩:=hJ62.poke (J':=recJ J ({h' with seq:=h'.seq+1},tAll t' wl)) hp88 (by decide) (by simp[Jn.cells,recJ]) rfl
   have hs88:H88.size=H62.size:=hp88.size
   have hxj:ExtP (fun k=>k=pj∨k=r) H42 H88:=hx62.trans (hx88.toP.mono (fun k _ hk=>.inl (by simpa using hk)))
   have hpr:∀k,k=pj∨k=r→Fj k:=fun k hk=>by
    rcases hk with rfl|rfl
    ·exact hJ.hj
    ·exact hJ.hr
   have hxF:ExtP Fj H42 H88:=hxj.mono (fun k _ hk=>hpr k hk)
   refine⟨⟨bs.drop q.toNat,f - 1,{h' with seq:=h'.seq+1},tAll t' wl,l'',by rw[List.length_drop],by omega,by omega,by omega,fun x hx=>hbb x (List.mem_of_mem_drop hx),?_,hrec2,he',hz',by show 0≤h'.seq+1;omega,by show h'.seq+1+_≤_;omega,hto.all wl hmay.2.1,hd42.ext hxj (fun k hk hk'=>hdis k hk (hpr k hk')),?_,hX42.trans hxF⟩,by simp only[];omega⟩
   ·exact((hk32.ext hx42.anyP).ext hxF).drop (by omega) hc31
   ·have:grow Fj H H88=grow Fj H H62:=by unfold grow;rw[hs88]
    rw[this]
    exact hJ88
end Go.Proofs
end
section
open Go Go.Vc
namespace Go.Proofs
theorem numU4(s:Octs×Bool):0≤numU s 4∧numU s 4<4294967296:=numU_lt4 s
theorem readM_ok{n:Nat}{D:Dev}(h:(readM n D).2=0):D.dead=false∧(readM n D).1=parseH (D.now[0]?.getD [])∧hdrB (readM n D).1=D.now[0]?.getD []∧4≤(readM n D).1.size∧(readM n D).1.size≤n - 4∧0<(readM n D).1.seq∧(readM n D).1.seq<4294967296∧0≤(readM n D).1.epoch∧(readM n D).1.epoch<4294967296:=by
 unfold readM at h ⊢
 split at h
 ·simp at h
 ·rename_i h1
  simp only at h ⊢
  split at h
  ·simp at h
  ·rename_i h2
   rw[if_neg h1,if_neg h2]
   simp only[not_or,Decidable.not_not]at h2
   obtain⟨g1,g2,g3⟩:=h2
   have k1:=numU4 (rdU (D.now[0]?.getD [],false) 4).2
   have k2:=numU4 (rdU (rdU (D.now[0]?.getD [],false) 4).2 4).2
   have k3:¬homeN n (parseH (D.now[0]?.getD [])).size<0:=g2
   have k4:4≤(parseH (D.now[0]?.getD [])).size∧(parseH (D.now[0]?.getD [])).size≤n - 4:=by
    unfold homeN at k3
    split at k3
    ·exact absurd (by decide) k3
    ·omega
   refine⟨by simpa using h1,rfl,g1,k4.1,k4.2,?_,k2.2,k1.1,k1.2⟩
   have:0≤(parseH (D.now[0]?.getD [])).seq:=k2.1
   show 0<(parseH (D.now[0]?.getD [])).seq
   omega
def OpenR(n:Nat)(H:Heap)(F:Nat→Prop)(pd:Nat)(D:Dev)(v:Value)(H':Heap):Prop:=
 (∃e,openM n D=((openM n D).1,none,e)∧e≠0∧v=.tuple #[.pointer none,.int .i64 e]∧IsDev H' (grow F H H') pd (openM n D).1) ∨
 (∃pj J,openM n D=((openM n D).1,some J,0)∧v=.tuple #[.pointer (some ⟨pj,0,none⟩),.int .i64 0]∧JD H' (grow F H H') pj pd J (openM n D).1)
set_option maxHeartbeats 1000000 in
theorem open_ok{H:Heap}{F:Nat→Prop}{pd:Nat}{D:Dev}{n B:Nat}(hd:IsDev H F pd D)(hw:D.Wf n B)(hB:B≤800000000)(hn:n≤4096)(h8:0<n) :
  Does Tryz.prog 92 [.pointer (some ⟨pd,0,none⟩)] H fun v H'=>OpenR n H F pd D v H'∧ExtP F H H':=by
 refine Fn_of_vc Tryz.mixed (vc_open _ _ _) ?_
 refine⟨fun h=>by simp at h,fun _=>(hread_ok hd hw h8).mono ?_⟩
 rintro _ H2 ⟨rfl,hx2⟩
 refine⟨_,_,_,_,rfl,fun b7 H8 hn8=>⟨hn8.blk.cells 3 0 (by simp),fun H9 hp9=>?_⟩⟩
 have e7:=hn8.eq
 have hb9:Blk H9 b7 (readM n D).1.cells:=by simpa[splice,Hd.cells]using hp9.blk hn8.blk (by simp)
 have hx9:Ext [] H H9:=hx2.trans (ext_new hn8.ext hp9.ext (by simp;omega))
 have hs9:=hx9.size
 refine⟨fun hne=>⟨.inl ⟨(readM n D).2,?_,hne,rfl,?_⟩,hx9.anyP⟩,fun he0=>?_⟩
 ·unfold openM;rw[if_pos hne]
 ·have:(openM n D).1=D:=by unfold openM;rw[if_pos hne]
  rw[this]
  exact(hd.ext hx9.toP (by simp)).up (fun _=>.inl) (grow_lt hd.lt hs9)
 have he0':(readM n D).2=0:=by simpa using he0
 obtain⟨hdd,_,_,z0,z1,q0,q1,p0,p1⟩:=readM_ok he0'
 have hO:openM n D=(if(recoverM n ⟨(readM n D).1,0,[],false⟩ D).2.2≠0 then((recoverM n ⟨(readM n D).1,0,[],false⟩ D).1,none,(recoverM n ⟨(readM n D).1,0,[],false⟩ D).2.2)else((recoverM n ⟨(readM n D).1,0,[],false⟩ D).1,some (recoverM n ⟨(readM n D).1,0,[],false⟩ D).2.1,0)):=by
  unfold openM;rw[if_neg he0]
 rw[show OpenR n H F pd D=fun v H'=>OpenR n H F pd D v H' from rfl]
 unfold OpenR
 rw[hO]
 generalize (readM n D).1=h at *
 refine⟨_,hb9.cell 0,_,hb9.cell 1,_,hb9.cell 2,fun r13 H14 hnm=>fun b15 H16 hn16=>?_⟩
 have e13:r13=H9.size:=hnm.1
 have hx14:=NewMap.ext hnm
 have hs14:H14.size=H9.size+1:=by obtain⟨_,rfl⟩:=hnm;simp
 have hm14:MapIs H14 r13 []:=by
  obtain⟨rfl,rfl⟩:=hnm
  exact⟨#[],0,by simp,rfl,MapKept.stamped_empty _⟩
 have e15:=hn16.eq
 have hs16:=hn16.size
 have hX16:=(hx9.trans hx14).trans hn16.ext
 have hb16:Blk H16 b15 ((⟨h,0,[],false⟩:Jn).cells pd r13):=hn16.blk
 have hjd:JD H16 (grow F H H16) b15 pd ⟨h,0,[],false⟩ D:=⟨F,fun k=>k=b15∨k=r13,r13,[],hd.ext hX16.toP (by simp),⟨hb16,MapIs.ext hm14 hn16.ext (by simp),trivial,.inl rfl,.inr rfl,by omega,fun k hk=>by rcases hk with rfl|rfl<;>omega⟩,fun k hk hk'=>by
   have:=hd.lt k hk
   rcases hk' with rfl|rfl<;>omega,fun k hk=>.inl hk,fun k hk=>by rcases hk with rfl|rfl<;>exact .inr ⟨by omega,by omega⟩,grow_lt hd.lt (by omega)⟩
 have hjw:(⟨h,0,[],false⟩:Jn).Wf n:=⟨⟨z0,z1⟩,⟨by show 0≤h.seq;omega,by show h.seq≤_;omega⟩,⟨p0,by show h.epoch≤_;omega⟩,⟨Int.le_refl _,by show 0≤h.size;omega⟩,TOk.nil _⟩
 refine(recover_ok hjd hw hB hn hjw (by show h.seq≤_;omega) (by show h.epoch≤_;omega)).mono ?_
 rintro _ H18 ⟨rfl,hjd18,hx18⟩
 have hs18:=hx18.size
 have hjd18':=hjd18.up (F':=grow F H H18) (grow_sub (by omega) hs18) (grow_lt hd.lt (by omega))
 have hX18:ExtP F H H18:=hX16.anyP.trans' hx18 (fun i hi=>by
  rcases hi with hi|hi
  ·exact .inr hi
  ·exact .inl hi.1)
 refine⟨_,rfl,fun hne=>⟨.inl ⟨_,?_,hne,rfl,?_⟩,hX18⟩,fun he=>⟨.inr ⟨b15,(recoverM n ⟨h,0,[],false⟩ D).2.1,?_,rfl,?_⟩,hX18⟩⟩
 ·rw[if_pos hne]
 ·rw[if_pos hne];exact hjd18'.dev
 ·rw[if_neg he]
 ·rw[if_neg he];exact hjd18'
theorem format_ok{H:Heap}{F:Nat→Prop}{pd:Nat}{D:Dev}{n B:Nat}(hd:IsDev H F pd D)(hw:D.Wf n B)(hB:B≤800000000)(hn:n≤4096)(size:Int) :
  Does Tryz.prog 116 [.pointer (some ⟨pd,0,none⟩),.int .i64 size] H fun v H'=>v=.int .i64 (formatM n size D).2∧IsDev H' (grow F H H') pd (formatM n size D).1∧ExtP F H H':=by
 refine Fn_of_vc Tryz.mixed (vc_format _ _ _ _) ?_
 have hlt:=hd.lt
 refine⟨fun h=>by simp at h,fun _=>(home_ok hd hw size).mono ?_⟩
 rintro _ _ ⟨rfl,rfl⟩
 unfold formatM
 refine⟨_,rfl,fun hneg=>?_,fun hpos=>?_⟩
 ·rw[if_pos hneg]
  exact⟨rfl,hd.up (fun _=>.inl) (grow_lt hlt (Nat.le_refl _)),ExtP.refl _ _⟩
 rw[if_neg hpos]
 have hsz:4≤size∧size≤n - 4:=by
  unfold homeN at hpos
  split at hpos
  ·exact absurd (by decide) hpos
  ·omega
 have step:∀{A C:Heap},ExtP F H A→ExtP (grow F H A) A C→ExtP F H C:=fun h1 h2=>h1.trans' h2 (fun i hi=>by
  rcases hi with hi|hi
  ·exact .inr hi
  ·exact .inl hi.1)
 refine⟨fun i H'=>∃(j:Nat) (D':Dev),i=j∧j≤size.toNat∧fmtW n size.toNat 0 D=fmtW n (size.toNat - j) j D'∧D'.Wf n (B+j)∧IsDev H' (grow F H H') pd D'∧ExtP F H H',fun i _=>size.toNat - i.toNat,
  ⟨0,D,rfl,by omega,rfl,hw,hd.up (fun _=>.inl) (grow_lt hlt (Nat.le_refl _)),ExtP.refl _ _⟩,?_⟩
 rintro _ H7 ⟨j,D',rfl,hj,hf,hw',hd',hx'⟩
 have hs':=hx'.size
 refine⟨fun h1=>⟨⟨by omega,by omega⟩,by decide,by decide,by decide,fun b8 H9 hn9=>?_⟩,fun h1=>?_⟩
 ·have e128:Int.toNat 128=128:=rfl
  rw[e128]at hn9 ⊢
  have e8:=hn9.eq
  have hs9:=hn9.size
  have hel:=new_elem hn9
  obtain⟨a0,m0,c0,ev,hrow,_⟩:=hel
  cases ev
  have hX9:=hx'.trans hn9.ext.anyP
  have hd9:=(hd'.ext hn9.ext.toP (by simp)).up (F':=grow F H H9) (grow_in (fun _ h=>h) (Nat.le_refl _) (by omega)) (grow_lt hlt (by omega))
  refine(dwrite_ok (hd'.ext hn9.ext.toP (by simp)) hw' (by omega) (1+(j:Int)) (KeptB.of hrow (fun i hi hg=>by
   simp only[blkOf,List.mem_singleton]at hi
   subst hi
   have:=hd'.lt _ hg
   omega))).mono ?_
  rintro _ H11 ⟨rfl,hd11,hx11⟩
  have hs11:=hx11.size
  have hX11:ExtP F H H11:=hX9.trans' hx11 (fun i hi=>by
   rcases hi with hi|hi
   ·exact .inr hi
   ·exact .inl hi.1)
  have hd11':=hd11.up (F':=grow F H H11) (fun k hk=>by
   rcases hk with (hk|hk)|hk
   ·exact .inl hk
   ·exact .inr ⟨hk.1,by omega⟩
   ·exact .inr ⟨by omega,hk.2⟩) (grow_lt hlt (by omega))
  have hfj:fmtW n (size.toNat - j) j D'=if(writeD D' n (1+(j:Int)) zeros).2≠0 then writeD D' n (1+(j:Int)) zeros else fmtW n (size.toNat - (j+1)) ((j+1:Nat):Int) (writeD D' n (1+(j:Int)) zeros).1:=by
   obtain⟨m,hm⟩:∃m,size.toNat - j=m+1:=⟨size.toNat - j - 1,by omega⟩
   rw[hm,fmtW,show size.toNat - (j+1)=m by omega];rfl
  refine⟨_,rfl,fun hne=>?_,fun he=>⟨⟨by omega,by omega⟩,⟨j+1,_,by omega,by omega,?_,(writeWf hw' (1+(j:Int)) zeros).up (by omega),hd11',hX11⟩,by simp only[];omega⟩⟩
  ·rw[hf,hfj,if_pos hne,if_pos hne]
   exact⟨rfl,hd11',hX11⟩
  ·rw[hf,hfj,if_neg he]
 ·have:j=size.toNat:=by omega
  subst this
  have hf0:fmtW n size.toNat 0 D=(D',0):=by rw[hf,Nat.sub_self];rfl
  rw[hf0]
  simp only[ne_eq,not_true,if_false]
  refine(hlay_ok ⟨1,1,size⟩ H7).mono ?_
  rintro _ H14 ⟨⟨a15,c17,rfl,ho14,hf14⟩,hx14⟩
  have hs14:=hx14.size
  refine⟨_,_,_,rfl,(dwrite_ok (hd'.ext hx14.toP (by simp)) hw' (by omega) 0 (KeptB.of (ho14.row _ c17) (fun i hi hg=>by have:=hf14 i hi;have:=hd'.lt i hg;omega))).mono ?_⟩
  rintro _ H19 ⟨rfl,hd19,hx19⟩
  have hs19:=hx19.size
  have hX19:ExtP F H H19:=(hx'.trans hx14.anyP).trans' hx19 (fun i hi=>by
   rcases hi with hi|hi
   ·exact .inr hi
   ·exact .inl hi.1)
  have hd19':=hd19.up (F':=grow F H H19) (fun k hk=>by
   rcases hk with (hk|hk)|hk
   ·exact .inl hk
   ·exact .inr ⟨hk.1,by omega⟩
   ·exact .inr ⟨by omega,hk.2⟩) (grow_lt hlt (by omega))
  have hw19:=writeWf hw' 0 (hdrB ⟨1,1,size⟩)
  refine⟨_,rfl,fun hne=>?_,fun he=>(dflush_ok hd19' hw19 (by omega)).mono ?_⟩
  ·rw[if_pos hne]
   exact⟨rfl,hd19',hX19⟩
  ·rintro _ H22 ⟨rfl,hd22,hx22⟩
   rw[if_neg he]
   refine⟨_,rfl,rfl,hd22.up (grow_sub (by omega) hx22.size) (grow_lt hlt (by have:=hx22.size;omega)),step hX19 hx22⟩
end Go.Proofs
end
section
open Go Go.Vc
namespace Go.Proofs
theorem JD.of{H:Heap}{F:Nat→Prop}{pj pd:Nat}{J:Jn}{D:Dev}(h:JD H F pj pd J D):∃r,Blk H pj (J.cells pd r):=by
 obtain⟨_,_,r,l,_,hJ,_⟩:=h
 exact⟨r,hJ.head⟩
theorem jread_ok{H:Heap}{F:Nat→Prop}{pj pd:Nat}{J:Jn}{D:Dev}{n B:Nat}(h:JD H F pj pd J D)(hw:D.Wf n B)(hj:J.Wf n)(hn:n≤4096)(k:Int) :
  Does Tryz.prog 146 [.pointer (some ⟨pj,0,none⟩),.int .i64 k] H fun v H'=>∃a c,JD H' F pj pd (jreadM n k J D).1 D∧ExtP F H H'∧v=.tuple #[.slice a ((jreadM n k J D).2.1.getD []).length c,.int .i64 (jreadM n k J D).2.2] ∧
   Own H' 1 a ((jreadM n k J D).2.1.getD []).length c (bytesV ((jreadM n k J D).2.1.getD []))∧∀i∈blkOf a,H.size≤i:=by
 have hsz:=hj.size
 have hho:=homeN_of hsz
 refine Fn_of_vc Tryz.mixed (vc_jread _ _ _ _) ?_
 have bad:∀e,(k<0∨homeN n J.h.size≤k)∧e=1∨¬(k<0∨homeN n J.h.size≤k)∧J.dead=true∧e=4→∃a c,JD H F pj pd (jreadM n k J D).1 D∧ExtP F H H∧Value.tuple #[.slice none 0 0,.int .i64 e]=.tuple #[.slice a ((jreadM n k J D).2.1.getD []).length c,.int .i64 (jreadM n k J D).2.2] ∧
   Own H 1 a ((jreadM n k J D).2.1.getD []).length c (bytesV ((jreadM n k J D).2.1.getD []))∧∀i∈blkOf a,H.size≤i:=by
  intro e he
  have:jreadM n k J D=(J,none,e):=by
   unfold jreadM
   rcases he with⟨h1,rfl⟩|⟨h1,h2,rfl⟩
   ·rw[if_pos h1]
   ·rw[if_neg h1,if_pos h2]
  rw[this]
  exact⟨none,0,h,ExtP.refl _ _,rfl,Own.nil _ _,by simp[blkOf]⟩
 refine⟨fun h0=>bad 1 (.inl ⟨.inl h0,rfl⟩),fun h0=>(jhome_ok h hw).mono ?_⟩
 rintro _ _ ⟨rfl,rfl⟩
 refine⟨_,rfl,fun h1=>bad 1 (.inl ⟨.inr h1,rfl⟩),fun h1=>?_⟩
 have hin:¬(k<0∨homeN n J.h.size≤k):=by omega
 obtain⟨Fd,Fj,r,l,hd,hJ,hdis,hfd,hfj,hlt⟩:=h
 have hjd:JD H F pj pd J D:=⟨Fd,Fj,r,l,hd,hJ,hdis,hfd,hfj,hlt⟩
 refine⟨pj,0,rfl,J.dead,hJ.head.cell 6,fun h2=>bad 4 (.inr ⟨hin,h2,rfl⟩),fun h2=>?_⟩
 have hM:jreadM n k J D=match tGet J.taken k with
  | some x=>(J,some x,0)
  | none=>if D.dead=true then(endsM J 4,none,4)else(endsM J 0,D.now[(1+J.h.size+k).toNat]?,0):=by
  unfold jreadM;rw[if_neg hin,if_neg (by simp[h2])];try rfl
 refine⟨pj,0,rfl,_,hJ.head.cell 5,r,l,rfl,hJ.map,?_⟩
 rcases TVs.get k (.slice none 0 0) hJ.vals with⟨g1,g2,g3⟩|⟨x,g1,⟨a,c,g2,g3,g4⟩,g5⟩
 ·rw[g2]
  refine⟨_,_,_,rfl,fun h3=>absurd h3 (by simp[g3]),fun _=>?_⟩
  rw[g1]at hM
  simp only at hM
  refine⟨pj,0,rfl,_,hJ.head.cell 0,pj,0,rfl,_,hJ.head.cell 3,⟨by omega,by omega⟩,⟨by omega,by omega⟩,(dread_ok hd hw (1+J.h.size+k)).mono ?_⟩
  rintro _ H27 ⟨hx27,hr⟩
  have hjd27:=hjd.ext hx27.toP (by simp)
  rcases hr with⟨hno,_⟩|⟨_,hdd,rfl⟩|⟨_,hdd,a28,c30,b,hb,rfl,ho,hf⟩
  ·omega
  ·refine⟨_,_,_,_,rfl,(ends_ok hjd27 4).mono ?_⟩
   rintro _ H33 ⟨rfl,hjd33,hx33⟩
   rw[hM,if_pos hdd]
   exact⟨_,rfl,none,0,hjd33,hx27.anyP.trans hx33,rfl,Own.nil _ _,by simp[blkOf]⟩
  ·refine⟨_,_,_,_,rfl,(ends_ok hjd27 0).mono ?_⟩
   rintro _ H33 ⟨rfl,hjd33,hx33⟩
   rw[hM,if_neg (by simp[hdd])]
   simp only[hb,Option.getD_some]
   exact⟨_,rfl,a28,c30,hjd33,hx27.anyP.trans hx33,rfl,ho.extP hx33 (fun i hi hF=>by have:=hf i hi;have:=hlt i hF;omega),hf⟩
 ·rw[g1]at hM
  simp only at hM
  have hx128:x.length=128:=by
   have hmem:∀{t:List Wr} {x},tGet t k=some x→(k,x)∈t:=by
    intro t
    induction t with
    | nil=>intro x h;cases h
    | cons p t ih=>
     intro x h
     simp only[tGet]at h
     split at h
     ·rename_i e;cases h;rw[←e];simp
     ·exact List.mem_cons_of_mem _ (ih h)
   exact(hj.took.1 _ (hmem g1)).2.2
  rw[g2]
  refine⟨_,_,_,rfl,fun _=>(clonel_ok g3 (by omega)).mono ?_,fun h3=>absurd h3 (by simp[g5])⟩
  rintro _ H16 ⟨a17,c19,rfl,ho,hx,hf⟩
  rw[hM]
  exact⟨_,_,_,rfl,a17,c19,hjd.ext hx.toP (by simp),hx.anyP,rfl,ho,hf⟩
def KeptW(F:Nat→Prop)(H:Heap)(a:Option Addr)(l:List Wr):Prop:=∀H',ExtP F H H'→SeqV writeE H' a l
theorem KeptW.at_{F:Nat→Prop}{H:Heap}{a:Option Addr}{l:List Wr}(h:KeptW F H a l):SeqV writeE H a l:=h H (ExtP.refl _ _)
theorem KeptW.go{F:Nat→Prop}{H H1:Heap}{a:Option Addr}{l:List Wr}(h:KeptW F H a l)(hx:ExtP F H H1):KeptW (grow F H H1) H1 a l:=fun H' hx'=>h H' (hx.trans' hx' (fun i hi=>by
 rcases hi with hi|hi
 ·exact .inr hi
 ·exact .inl hi.1))
theorem KeptW.on{F:Nat→Prop}{H H1:Heap}{a:Option Addr}{l:List Wr}(h:KeptW F H a l)(hx:ExtP F H H1):KeptW F H1 a l:=fun H' hx'=>h H' (hx.trans hx')
theorem layW_used(n:Nat):∀(bs:List Octs)(u:Int)(D:Dev),u≤(layW n bs u D).2.1∧(layW n bs u D).2.1≤u+bs.length
 | [],u,D=>by simp[layW]
 | b::bs,u,D=>by
  rw[layW]
  split
  ·simp
   omega
  ·have:=layW_used n bs (u+1) (writeD D n (1+u) b).1
   simp only[List.length_cons];omega
set_option maxHeartbeats 1000000 in
theorem jlay_ok{H:Heap}{F:Nat→Prop}{pj pd:Nat}{J:Jn}{D:Dev}{n B:Nat}(h:JD H F pj pd J D)(hw:D.Wf n B)(hB:B≤800000000)(hn:n≤4096)(hj:J.Wf n)(hseq:J.h.seq≤900000000000)
  {l:List Wr} {a:Option Addr} {c:Nat} (hk:KeptW F H a l) (hm:MayP l (homeN n J.h.size)) (hfit:needsN l.length≤J.h.size - J.used) :
  Does Tryz.prog 174 [.pointer (some ⟨pj,0,none⟩),.slice a l.length c] H fun v H'=>v=.int .i64 (layM n l J D).2.2∧JD H' (grow F H H') pj pd (layM n l J D).2.1 (layM n l J D).1∧ExtP F H H':=by
 have hsz:=hj.size
 have hus:=hj.used
 have hsq:=hj.seq
 have hho:=homeN_of hsz
 have hfew:=hm.few (n:=4096) (by omega)
 have hfull:=hm.full
 have hcn:cntN l≤10000:=by have:=needs_nat l;omega
 refine Fn_of_vc Tryz.mixed (vc_jlay _ _ _ _ _ _) ?_
 obtain⟨Fd,Fj,r,ml,hd,hJ,hdis,hfd,hfj,hlt⟩:=h
 refine⟨pj,0,rfl,_,hJ.head.cell 1,_,hJ.head.cell 2,_,hJ.head.cell 3,(laid_ok J.h (c:=c) (by omega) hfull hk.at_).mono ?_⟩
 rintro _ H7 ⟨a8,c10,rfl,hmy,hx7⟩
 refine⟨_,_,_,rfl,?_⟩
 have hs7:=hx7.size
 have hlaid:=laidB_len J.h l
 have hlb:∀x∈laidB J.h l,x.length=128:=fun x hx=>by
  unfold laidB at hx
  obtain⟨i,hi,rfl⟩:=List.mem_map.1 hx
  exact jblk_len hfull (by simpa using hi)
 unfold layM
 generalize hbs:laidB J.h l=bs at *
 have hd7:=hd.ext hx7.toP (by simp)
 have hJ7:=hJ.extP hx7.toP (by simp) (fun _ h=>h) (fun k hk=>Nat.lt_of_lt_of_le (hJ.lt k hk) hs7)
 have hpj:=hJ.lt _ hJ.hj
 have hpr:=hJ.lt _ hJ.hr
 refine⟨fun i H'=>∃(j:Nat) (D':Dev),i=j∧j≤bs.length∧layW n bs J.used D=layW n (bs.drop j) (J.used+j) D'∧D'.Wf n (B+j)∧IsDev H' (grow Fd H7 H') pd D'∧IsJn H' Fj pj pd {J with used:=J.used+j} r ml∧ExtP (fun k=>Fd k∨k=pj) H7 H',fun i _=>bs.length - i.toNat,
  ⟨0,D,rfl,by omega,by simp,hw,hd7.up (fun _=>.inl) (grow_lt (fun k hk=>hd7.lt k hk) (Nat.le_refl _)),by simpa using hJ7,ExtP.refl _ _⟩,?_⟩
 rintro _ H14 ⟨j,D',rfl,hjl,hgo,hw',hd',hJ',hx'⟩
 have hs14:=hx'.size
 have fin:∀{H':Heap} {D':Dev} {J':Jn} {Fj':Nat→Prop} {ml':List (Int×Value)},IsDev H' (grow Fd H7 H14) pd D'→IsJn H' Fj' pj pd J' r ml'→ExtP (fun k=>Fd k∨Fj k) H7 H'→H14.size≤H'.size→(∀k,Fj' k→Fj k∨(H14.size≤k∧k<H'.size))→JD H' (grow F H H') pj pd J' D'∧ExtP F H H':=by
  intro H' D' J' Fj' ml' hd' hJ' hx' hss hFj
  refine⟨⟨_,Fj',r,ml',hd',hJ',?_,?_,?_,grow_lt hlt (by omega)⟩,hx7.anyP.trans (hx'.mono (fun k _ hk=>by
   rcases hk with hk|hk
   ·exact hfd k hk
   ·exact hfj k hk))⟩
  ·rintro k (hk|hk) hk'
   ·rcases hFj k hk' with h'|h'
    ·exact hdis k hk h'
    ·have:=hd.lt k hk;omega
   ·rcases hFj k hk' with h'|h'
    ·have:=hJ.lt k h';omega
    ·omega
  ·rintro k (hk|hk)
   ·exact .inl (hfd k hk)
   ·exact .inr ⟨by omega,by omega⟩
  ·intro k hk
   rcases hFj k hk with h'|h'
   ·exact .inl (hfj k h')
   ·exact .inr ⟨by omega,by omega⟩
 have hxF:∀{H'},ExtP (fun k=>Fd k∨k=pj) H7 H'→ExtP (fun k=>Fd k∨Fj k) H7 H':=fun hx=>hx.mono (fun k _ hk=>by
  rcases hk with hk|rfl
  ·exact .inl hk
  ·exact .inr hJ.hj)
 refine⟨fun hlt1=>?_,fun hge=>?_⟩
 ·have hi:bs[j]?=some bs[j]:=List.getElem?_eq_getElem (by omega)
  have hdr:bs.drop j=bs[j]::bs.drop (j+1):=List.drop_eq_getElem_cons (by omega)
  have hm14:=hmy.extP hx' (fun k _ h0 hk=>by
   rcases hk with hk|rfl
   ·have:=hd.lt k hk;omega
   ·omega)
  obtain⟨G,hG,hG2,hG3⟩:=hm14
  obtain⟨b15,o16,u,ea,hc,hok,hfp⟩:=hG.get1 rfl hi
  obtain⟨a17,m17,c19,eu,hle,hrow,_⟩:=hok
  cases eu
  have hm17:bs[j].length=m17:=by have:=hrow.1;rw[bytesV_length]at this;omega
  have hfp':∀k∈blkOf a17,H.size≤k:=fun k hk=>(hG2 k (hfp k hk)).1
  have hfp2:∀k∈blkOf a17,k<H7.size:=by
   obtain⟨G',hG',hG2',hG3'⟩:=hmy
   obtain⟨b15',o16',u',ea',hc',hok',hfp'⟩:=hG'.get1 rfl hi
   have e1:a8=some ⟨b15,o16,none⟩:=ea
   rw[e1]at ea'
   cases ea'
   have hne:¬(Fd b15∨b15=pj):=by
    have:=hG3' b15 (by rw[e1];simp[blkOf])
    rintro (hk|rfl)
    ·have:=hd.lt _ hk;omega
    ·omega
   have:=hcell_extP hc' hx' hne
   rw[hc]at this
   cases this
   intro k hk
   exact(hG2' k (hfp' k hk)).2.1
  generalize bs[j]=b at *
  have hu:J.used+j+1≤J.h.size:=by have:=needs_nat l;omega
  refine⟨by omega,by omega,b15,o16,ea,a17,m17,c19,by rw[Int.toNat_natCast];exact hc,pj,0,rfl,_,hJ'.head.cell 0,pj,0,rfl,_,hJ'.head.cell 4,⟨by show _≤1+(J.used+j);omega,by show 1+(J.used+j)≤_;omega⟩,(dwrite_ok hd' hw' (by omega) (1+(J.used+j)) (KeptB.of hrow (fun i hi hg=>?_))).mono ?_⟩
  ·have h1:=hfp' i hi
   have h2:=hfp2 i hi
   rcases hg with hg|hg
   ·have:=hd.lt i hg;omega
   ·omega
  rintro _ H27 ⟨rfl,hd27,hx27⟩
  have hs27:=hx27.size
  have hw27:=writeWf hw' (1+(J.used+j)) b
  have hd27':=hd27.up (grow_sub (F:=Fd) hs14 hs27) (grow_lt (fun k hk=>hd7.lt k hk) (by omega))
  have hx27':ExtP (fun k=>Fd k∨k=pj) H7 H27:=hx'.trans' hx27 (fun i hi=>by
   rcases hi with hi|hi
   ·exact .inr (.inl hi)
   ·exact .inl hi.1)
  have hJ27:=hJ'.extP (F':=Fj) hx27 (fun k hk hk'=>by
   rcases hk' with hk'|hk'
   ·exact hdis k hk' hk
   ·have:=hJ.lt k hk;omega) (fun _ h=>h) (fun k hk=>by have:=hJ.lt k hk;omega)
  rw[hdr,layW]at hgo
  refine⟨_,rfl,fun hne=>?_,fun he=>?_⟩
  ·rw[if_pos hne]at hgo
   rw[hgo]
   simp only[if_pos hne]
   refine⟨trivial,?_⟩
   refine⟨⟨_,Fj,r,ml,hd27',hJ27,?_,?_,fun k hk=>.inl (hfj k hk),grow_lt hlt (by omega)⟩,hx7.anyP.trans ((hxF hx27').mono (fun k _ hk=>by
    rcases hk with hk|hk
    ·exact hfd k hk
    ·exact hfj k hk))⟩
   ·rintro k (hk|hk) hk'
    ·exact hdis k hk hk'
    ·have:=hJ.lt k hk';omega
   ·rintro k (hk|hk)
    ·exact .inl (hfd k hk)
    ·exact .inr ⟨by omega,by omega⟩
  ·rw[if_neg he]at hgo
   refine⟨pj,0,rfl,_,hJ27.head.cell 4,⟨by show _≤J.used+j+1;omega,by show J.used+j+1≤_;omega⟩,pj,0,rfl,hJ27.head.cells 1 4 (by simp[Jn.cells]),fun H34 hp34=>?_⟩
   obtain⟨hJ34,hx34⟩:=hJ27.poke (J':={J with used:=J.used+(j+1:Nat)}) hp34 (by decide) (by simp[Jn.cells];omega) rfl
   have hs34:H34.size=H27.size:=hp34.size
   refine⟨⟨by omega,by omega⟩,⟨j+1,_,by omega,by omega,by rw[hgo];congr 1;omega,hw27.up (by omega),?_,hJ34,hx27'.trans (hx34.toP.mono (fun k _ hk=>.inr (by simpa using hk)))⟩,by simp only[];omega⟩
   have:=hd27'.ext hx34.toP (fun k hk hk'=>by
    simp only[List.mem_singleton]at hk';subst hk'
    rcases hk with hk|hk
    ·exact hdis _ hk hJ.hj
    ·omega)
   refine this.up (fun k hk=>by unfold grow at hk ⊢;rw[hs34];exact hk) (grow_lt (fun k hk=>hd7.lt k hk) (by omega))
 ·have:j=bs.length:=by omega
  subst this
  rw[List.drop_eq_nil_of_le (by omega),layW]at hgo
  rw[hgo]
  simp only[ne_eq,not_true,if_false]
  have hKW:SeqV writeE H14 a l:=hk H14 (hx7.anyP.trans (hx'.mono (fun k _ hk=>by
   rcases hk with hk|rfl
   ·exact hfd k hk
   ·exact hfj _ hJ.hj)))
  refine⟨fun i H'=>∃(j:Nat) (ml':List (Int×Value)),i=j∧j≤l.length∧IsJn H' (grow Fj H14 H') pj pd {J with used:=J.used+bs.length,taken:=tAll J.taken (l.take j)} r ml'∧ExtP (fun k=>k=pj∨k=r) H14 H',fun i _=>l.length - i.toNat,
   ⟨0,ml,rfl,by omega,by simpa[tAll]using hJ'.extP (ExtP.refl (fun _=>False) _) (by simp) (fun _ h=>.inl h) (grow_lt (fun k hk=>by have:=hJ.lt k hk;omega) (Nat.le_refl _)),ExtP.refl _ _⟩,?_⟩
  rintro _ H38 ⟨i,ml',rfl,hil,hJ38,hx38⟩
  have hs38:=hx38.size
  have hxF38:ExtP F H H38:=(hx7.anyP.trans (hx'.mono (fun k _ hk=>by
   rcases hk with hk|rfl
   ·exact hfd k hk
   ·exact hfj _ hJ.hj))).trans (hx38.mono (fun k _ hk=>by
   rcases hk with rfl|rfl
   ·exact hfj _ hJ.hj
   ·exact hfj _ hJ.hr))
  refine⟨fun hlt2=>?_,fun hge2=>?_⟩
  ·have hi:l[i]?=some l[i]:=List.getElem?_eq_getElem (by omega)
   have htk:l.take (i+1)=l.take i++[l[i]]:=by rw[List.take_add_one,hi];rfl
   obtain⟨b39,o40,a42,c44,ea,g0,g1,gr,gf⟩:=(hk H38 hxF38).wr hi
   have hw128:l[i].2.length=128:=hfull _ (List.getElem_mem _)
   generalize l[i]=w at *
   refine⟨by omega,by omega,b39,o40,ea,_,by rw[Int.toNat_natCast];exact g0,a42,_,c44,by rw[Int.toNat_natCast];exact g1,fun b45 H46 hn46=>⟨hn46.blk.cells _ _ (by simp),fun H47 hp47=>?_⟩⟩
   have hb47:Blk H47 b45 [.int .i64 w.1,.slice a42 w.2.length c44]:=by simpa[splice]using hp47.blk hn46.blk (by simp)
   have e45:=hn46.eq
   have hx47:Ext [] H38 H47:=ext_new hn46.ext hp47.ext (by simp;omega)
   have hs47:=hx47.size
   have hJ47:=hJ38.extP (F':=grow Fj H14 H47) hx47.toP (by simp) (grow_in (fun _ h=>h) (Nat.le_refl _) hs47) (grow_lt (fun k hk=>by have:=hJ.lt k hk;omega) (by omega))
   refine⟨pj,0,rfl,_,hJ47.head.cell 5,w.1,hb47.cell 0,a42,_,c44,hb47.cell 1,(clonel_ok (gr.ext hx47 (by simp)) (by omega)).mono ?_⟩
   rintro _ H56 ⟨a57,c59,rfl,ho56,hx56,hf56⟩
   have hs56:=hx56.size
   have hJ56:=hJ47.extP (F':=grow Fj H14 H56) hx56.toP (by simp) (grow_in (fun _ h=>h) (Nat.le_refl _) hs56) (grow_lt (fun k hk=>by have:=hJ.lt k hk;omega) (by omega))
   refine⟨_,_,_,rfl,⟨(hb47.ext hx56 (by simp)).cell 0,trivial⟩,⟨hJ56.head.cell 5,trivial⟩,r,ml',rfl,hJ56.map,fun H62 hp62=>?_⟩
   obtain⟨hJ62,hx62⟩:=hJ56.take (k:=w.1) (x:=w.2) ⟨a57,c59,rfl,ho56.row _ _,fun k hk=>by
    have h1:=hf56 k hk
    have h2:=ho56.lt k hk
    exact⟨.inr ⟨by omega,by omega⟩,by omega,by omega⟩⟩ hp62
   have hs62:H62.size=H56.size:=by obtain⟨_,_,_,rfl,_⟩:=hp62;simp
   refine⟨⟨by omega,by omega⟩,⟨i+1,mapSet ml' w.1 (.slice a57 w.2.length c59),by omega,by omega,?_,hx38.trans ((hx47.trans hx56).anyP.trans (hx62.toP.mono (fun k _ hk=>.inr (by simpa using hk))))⟩,by simp only[];omega⟩
   rw[htk,tAll_snoc]
   have:grow Fj H14 H62=grow Fj H14 H56:=by unfold grow;rw[hs62]
   rw[this]
   exact hJ62
  ·have:i=l.length:=by omega
   subst this
   rw[List.take_length]at hJ38
   refine⟨pj,0,rfl,_,hJ38.head.cell 2,⟨by show _≤J.h.seq+1;omega,by show J.h.seq+1≤_;omega⟩,pj,0,rfl,hJ38.head.cells 1 2 (by simp[Jn.cells]),fun H68 hp68=>?_⟩
   obtain⟨hJ68,hx68⟩:=hJ38.poke (J':={J with used:=J.used+bs.length,taken:=tAll J.taken l,h:={J.h with seq:=J.h.seq+1}}) hp68 (by decide) (by simp[Jn.cells]) rfl
   have hs68:H68.size=H38.size:=hp68.size
   have hx1468:ExtP (fun k=>k=pj∨k=r) H14 H68:=hx38.trans (hx68.toP.mono (fun k _ hk=>.inl (by simpa using hk)))
   refine⟨trivial,fin (hd'.ext hx1468 (fun k hk hk'=>?_)) hJ68 ((hxF hx').trans (hx1468.mono (fun k _ hk=>?_))) (by omega) (fun k hk=>?_)⟩
   ·have hkj:Fj k:=by
     rcases hk' with rfl|rfl
     ·exact hJ.hj
     ·exact hJ.hr
    rcases hk with hk|hk
    ·exact hdis k hk hkj
    ·have:=hJ.lt k hkj;omega
   ·rcases hk with rfl|rfl
    ·exact .inr hJ.hj
    ·exact .inr hJ.hr
   ·rcases hk with hk|hk
    ·exact .inl hk
    ·exact .inr ⟨by omega,by omega⟩
end Go.Proofs
end
section
open Go Go.Vc
namespace Go.Proofs
theorem Jn.Wf.ends{J:Jn}{n:Nat}(h:J.Wf n)(e:Int):(endsM J e).Wf n:=⟨h.size,h.seq,h.epoch,h.used,h.took⟩
theorem begin_jwf{n:Nat}{h:Hd}{J:Jn}{D:Dev}(hj:J.Wf n)(hh:4≤h.size∧h.size≤n - 4)(hs:0≤h.seq∧h.seq≤1000000000000)(he:0≤h.epoch∧h.epoch≤1000000000000):(beginM n h J D).2.1.Wf n:=by
 unfold beginM
 split
 ·exact hj
 ·split
  ·exact hj
  ·exact⟨hh,hs,he,⟨by simp,by show 0≤h.size;omega⟩,TOk.nil _⟩
theorem ckpt_jwf{n:Nat}{J:Jn}{D:Dev}(hj:J.Wf n):(ckptM n J D).2.1.Wf n:=by
 unfold ckptM
 split
 ·exact hj
 ·split
  ·exact hj
  ·exact begin_jwf hj hj.size hj.seq hj.epoch
theorem ckpt_dwf{n B:Nat}{J:Jn}{D:Dev}(hw:D.Wf n B)(hj:J.Wf n)(hn:n≤4096):(ckptM n J D).1.Wf n (B+4100):=by
 have h1:=flushWf hw
 have h2:=goHome_wf h1 hj.took (by rw[homeN_of hj.size];have:=hj.size;omega)
 unfold ckptM
 split
 ·exact h1.up (by omega)
 ·split
  ·exact h2.up (by omega)
  ·exact(begin_wf h2).up (by omega)
theorem checkpoint_jwf{n:Nat}{J:Jn}{D:Dev}(hj:J.Wf n):(checkpointM n J D).2.1.Wf n:=by
 unfold checkpointM
 split
 ·exact hj
 ·exact(ckpt_jwf hj).ends _
theorem checkpoint_dwf{n B:Nat}{J:Jn}{D:Dev}(hw:D.Wf n B)(hj:J.Wf n)(hn:n≤4096):(checkpointM n J D).1.Wf n (B+4100):=by
 unfold checkpointM
 split
 ·exact hw.up (by omega)
 ·exact ckpt_dwf hw hj hn
theorem sync_jwf{n:Nat}{J:Jn}{D:Dev}(hj:J.Wf n):(syncM J D).2.1.Wf n:=by
 unfold syncM
 split
 ·exact hj
 ·exact hj.ends _
theorem sync_dwf{n B:Nat}{J:Jn}{D:Dev}(hw:D.Wf n B):(syncM J D).1.Wf n (B+1):=by
 unfold syncM
 split
 ·exact hw.up (by omega)
 ·exact flushWf hw
theorem begin_keep{n:Nat}{h:Hd}{J:Jn}{D:Dev}:(beginM n h J D).2.1.dead=J.dead∧((beginM n h J D).2.1=J∨(beginM n h J D).2.1={J with h:=h,used:=0,taken:=[]}):=by
 unfold beginM
 split
 ·exact⟨rfl,.inl rfl⟩
 ·split
  ·exact⟨rfl,.inl rfl⟩
  ·exact⟨rfl,.inr rfl⟩
theorem ckpt_keep{n:Nat}{J:Jn}{D:Dev}:(ckptM n J D).2.1.h=J.h:=by
 unfold ckptM
 split
 ·rfl
 ·split
  ·rfl
  ·rcases (begin_keep (n:=n) (h:=J.h) (J:=J) (D:=(goHomeM n J (flushD D).1).1)).2 with h|h<;>rw[h]
theorem checkpoint_h{n:Nat}{J:Jn}{D:Dev}:(checkpointM n J D).2.1.h=J.h:=by
 unfold checkpointM
 split
 ·rfl
 ·exact ckpt_keep
theorem checkpoint_ok0{n:Nat}{J:Jn}{D:Dev}(h:(checkpointM n J D).2.2=0):(checkpointM n J D).2.1.used=0∧(checkpointM n J D).2.1.taken=[]∧J.dead=false∧(checkpointM n J D).2.1.dead=false:=by
 unfold checkpointM at h ⊢
 split at h
 ·simp at h
 ·rename_i hd
  rw[if_neg hd]
  simp only at h ⊢
  have hd':J.dead=false:=by simpa using hd
  have:(ckptM n J D).2.1={J with h:=J.h,used:=0,taken:=[]}:=by
   unfold ckptM at h ⊢
   split at h
   ·rename_i h1;exact absurd h h1
   ·rename_i h1
    rw[if_neg h1]
    split at h
    ·rename_i h2;exact absurd h h2
    ·rename_i h2
     rw[if_neg h2]
     unfold beginM at h ⊢
     split at h
     ·rename_i h3;exact absurd h h3
     ·rename_i h3
      rw[if_neg h3]
      split at h
      ·rename_i h4;exact absurd h h4
      ·rename_i h4
       rw[if_neg h4]
  rw[h,this]
  exact⟨rfl,rfl,hd',by simp[endsM,hd']⟩
theorem lay_jwf{n:Nat}{l:List Wr}{J:Jn}{D:Dev}(hj:J.Wf n)(hseq:J.h.seq≤900000000000)(hm:MayP l (homeN n J.h.size))(hfit:needsN l.length≤J.h.size - J.used):(layM n l J D).2.1.Wf n:=by
 have h1:=layW_used n (laidB J.h l) J.used D
 have h2:=laidB_len J.h l
 have h3:=needs_nat l
 have hu:=hj.used
 have hs:=hj.seq
 unfold layM
 simp only
 split
 ·exact⟨hj.size,hj.seq,hj.epoch,⟨by show 0≤(layW n (laidB J.h l) J.used D).2.1;omega,by show(layW n (laidB J.h l) J.used D).2.1≤J.h.size;omega⟩,hj.took⟩
 ·exact⟨hj.size,⟨by show 0≤J.h.seq+1;omega,by show J.h.seq+1≤_;omega⟩,hj.epoch,⟨by show 0≤(layW n (laidB J.h l) J.used D).2.1;omega,by show(layW n (laidB J.h l) J.used D).2.1≤J.h.size;omega⟩,hj.took.all l hm.2.1⟩
theorem lay_dwf{n B:Nat}{l:List Wr}{J:Jn}{D:Dev}(hw:D.Wf n B)(hcn:cntN l≤10000):(layM n l J D).1.Wf n (B+10000):=by
 have h1:=layW_wf (n:=n) (laidB J.h l) J.used hw
 rw[laidB_len]at h1
 unfold layM
 simp only
 split<;>exact h1.up (by omega)
theorem may_few{n:Nat}{l:List Wr}{J:Jn}(hj:J.Wf n)(hn:n≤4096)(hm:MayP l (homeN n J.h.size)):cntN l≤10000:=by
 have:=hm.few (n:=4096) (by rw[homeN_of hj.size];have:=hj.size;omega)
 have h2:=needs_nat l
 unfold needsN at h2
 split at h2<;>omega
theorem mayB_iff{l:List Wr}{homes:Int}(h:mayB l homes≠false):MayP l homes:=by simpa[mayB]using h
theorem commit_jwf{n:Nat}{l:List Wr}{J:Jn}{D:Dev}(hj:J.Wf n)(hseq:J.h.seq≤900000000000):(commitM n l J D).2.1.Wf n:=by
 unfold commitM
 split
 ·exact hj
 rename_i h1
 have hm:=mayB_iff h1
 split
 ·exact hj
 split
 ·exact hj
 rename_i h2
 split
 ·split
  ·exact checkpoint_jwf hj
  ·rename_i h3
   have:=checkpoint_ok0 (n:=n) (J:=J) (D:=D) (by simpa using h3)
   have hh:=checkpoint_h (n:=n) (J:=J) (D:=D)
   exact(lay_jwf (checkpoint_jwf hj) (by rw[hh];exact hseq) (by rw[hh];exact hm) (by rw[hh,this.1];omega)).ends _
 ·exact(lay_jwf hj hseq hm (by omega)).ends _
theorem commit_dwf{n B:Nat}{l:List Wr}{J:Jn}{D:Dev}(hw:D.Wf n B)(hj:J.Wf n)(hn:n≤4096):(commitM n l J D).1.Wf n (B+14100):=by
 unfold commitM
 split
 ·exact hw.up (by omega)
 rename_i h1
 have hcn:=may_few hj hn (mayB_iff h1)
 split
 ·exact hw.up (by omega)
 split
 ·exact hw.up (by omega)
 split
 ·split
  ·exact(checkpoint_dwf hw hj hn).up (by omega)
  ·exact(lay_dwf (checkpoint_dwf hw hj hn) hcn).up (by omega)
 ·exact(lay_dwf hw hcn).up (by omega)
theorem sync_ok{H:Heap}{F:Nat→Prop}{pj pd:Nat}{J:Jn}{D:Dev}{n B:Nat}(h:JD H F pj pd J D)(hw:D.Wf n B)(hB:B≤900000000) :
  Does Tryz.prog 121 [.pointer (some ⟨pj,0,none⟩)] H fun v H'=>v=.int .i64 (syncM J D).2.2∧JD H' (grow F H H') pj pd (syncM J D).2.1 (syncM J D).1∧ExtP F H H':=by
 obtain⟨r,hb⟩:=h.of
 refine Fn_of_vc Tryz.mixed (vc_sync _ _ _) ?_
 refine⟨pj,0,rfl,J.dead,hb.cell 6,fun hd=>?_,fun hd=>?_⟩
 ·have:syncM J D=(D,J,4):=if_pos hd
  rw[this]
  exact⟨rfl,h.up (fun _=>.inl) (grow_lt h.lt (Nat.le_refl _)),ExtP.refl _ _⟩
 ·have:syncM J D=((flushD D).1,endsM J (flushD D).2,(flushD D).2):=if_neg (by simp[hd])
  rw[this]
  obtain⟨Fd,Fj,r,l,hdv,hJ,hdis,hfd,hfj,hlt⟩:=h
  refine⟨pj,0,rfl,_,hb.cell 0,(dflush_ok hdv hw (by omega)).mono ?_⟩
  rintro _ H8 ⟨rfl,hd8,hx8⟩
  have hs8:=hx8.size
  have hJ8:=hJ.extP (F':=Fj) hx8 (fun k hk hk'=>hdis k hk' hk) (fun _ h=>h) (fun k hk=>by have:=hJ.lt k hk;omega)
  have hjd8:JD H8 (grow F H H8) pj pd J (flushD D).1:=⟨_,Fj,r,l,hd8,hJ8,fun k hk hk'=>by
   rcases hk with hk|hk
   ·exact hdis k hk hk'
   ·have:=hJ.lt k hk';omega,grow_in hfd (Nat.le_refl _) (Nat.le_refl _),fun k hk=>.inl (hfj k hk),grow_lt hlt hs8⟩
  refine⟨_,rfl,(ends_ok hjd8 (flushD D).2).mono ?_⟩
  rintro _ H11 ⟨rfl,hjd11,hx11⟩
  have hs11:=hx11.size
  exact⟨_,rfl,rfl,hjd11.up (fun k hk=>by
   rcases hk with hk|hk
   ·exact .inl hk
   ·exact .inr ⟨hk.1,by omega⟩) (grow_lt hlt (by omega)),(hx8.mono (fun k _ hk=>hfd k hk)).trans' hx11 (fun i hi=>by
   rcases hi with hi|hi
   ·exact .inr hi
   ·exact .inl hi.1)⟩
theorem ckpt_ok{H:Heap}{F:Nat→Prop}{pj pd:Nat}{J:Jn}{D:Dev}{n B:Nat}(h:JD H F pj pd J D)(hw:D.Wf n B)(hB:B≤800000000)(hn:n≤4096)(hj:J.Wf n) :
  Does Tryz.prog 202 [.pointer (some ⟨pj,0,none⟩)] H fun v H'=>v=.int .i64 (ckptM n J D).2.2∧JD H' (grow F H H') pj pd (ckptM n J D).2.1 (ckptM n J D).1∧ExtP F H H':=by
 obtain⟨r,hb⟩:=h.of
 have hlt:=h.lt
 refine Fn_of_vc Tryz.mixed (vc_ckpt _ _ _) ?_
 obtain⟨Fd,Fj,r',l,hdv,hJ,hdis,hfd,hfj,_⟩:=h
 refine⟨pj,0,rfl,_,hb.cell 0,(dflush_ok hdv hw (by omega)).mono ?_⟩
 rintro _ H8 ⟨rfl,hd8,hx8⟩
 have hs8:=hx8.size
 have hJ8:=hJ.extP (F':=Fj) hx8 (fun k hk hk'=>hdis k hk' hk) (fun _ h=>h) (fun k hk=>by have:=hJ.lt k hk;omega)
 have hxF8:ExtP F H H8:=hx8.mono (fun k _ hk=>hfd k hk)
 have hjd8:JD H8 (grow F H H8) pj pd J (flushD D).1:=⟨_,Fj,r',l,hd8,hJ8,fun k hk hk'=>by
  rcases hk with hk|hk
  ·exact hdis k hk hk'
  ·have:=hJ.lt k hk';omega,grow_in hfd (Nat.le_refl _) (Nat.le_refl _),fun k hk=>.inl (hfj k hk),grow_lt hlt hs8⟩
 have step:∀{A C:Heap},ExtP F H A→ExtP (grow F H A) A C→ExtP F H C:=fun h1 h2=>h1.trans' h2 (fun i hi=>by
  rcases hi with hi|hi
  ·exact .inr hi
  ·exact .inl hi.1)
 unfold ckptM
 refine⟨_,rfl,fun hne=>?_,fun he=>?_⟩
 ·rw[if_pos hne];exact⟨rfl,hjd8,hxF8⟩
 rw[if_neg he]
 have hw8:=flushWf hw
 refine(goHome_ok hjd8 hw8 (by omega) hn hj).mono ?_
 rintro _ H9 ⟨rfl,hjd9,hx9⟩
 have hs9:=hx9.size
 have hxF9:=step hxF8 hx9
 have hjd9':=hjd9.up (F':=grow F H H9) (grow_sub hs8 hs9) (grow_lt hlt (by omega))
 refine⟨_,rfl,fun hne=>?_,fun he=>?_⟩
 ·rw[if_pos hne];exact⟨rfl,hjd9',hxF9⟩
 rw[if_neg he]
 have hw9:=goHome_wf hw8 hj.took (by rw[homeN_of hj.size];have:=hj.size;omega)
 obtain⟨r9,hb9⟩:=hjd9'.of
 refine⟨pj,0,rfl,_,hb9.cell 1,_,hb9.cell 2,_,hb9.cell 3,(begin_ok hjd9' hw9 (by omega) J.h).mono ?_⟩
 rintro _ H16 ⟨rfl,hjd16,hx16⟩
 exact⟨_,rfl,rfl,hjd16.up (grow_sub (by omega) hx16.size) (grow_lt hlt (by have:=hx16.size;omega)),step hxF9 hx16⟩
theorem checkpoint_ok{H:Heap}{F:Nat→Prop}{pj pd:Nat}{J:Jn}{D:Dev}{n B:Nat}(h:JD H F pj pd J D)(hw:D.Wf n B)(hB:B≤800000000)(hn:n≤4096)(hj:J.Wf n) :
  Does Tryz.prog 172 [.pointer (some ⟨pj,0,none⟩)] H fun v H'=>v=.int .i64 (checkpointM n J D).2.2∧JD H' (grow F H H') pj pd (checkpointM n J D).2.1 (checkpointM n J D).1∧ExtP F H H':=by
 obtain⟨r,hb⟩:=h.of
 have hlt:=h.lt
 refine Fn_of_vc Tryz.mixed (vc_checkpoint _ _ _) ?_
 unfold checkpointM
 refine⟨pj,0,rfl,J.dead,hb.cell 6,fun hd=>?_,fun hd=>(ckpt_ok h hw hB hn hj).mono ?_⟩
 ·rw[if_pos hd]
  exact⟨rfl,h.up (fun _=>.inl) (grow_lt h.lt (Nat.le_refl _)),ExtP.refl _ _⟩
 ·rintro _ H5 ⟨rfl,hjd5,hx5⟩
  rw[if_neg (by simp[hd])]
  have hs5:=hx5.size
  refine⟨_,rfl,(ends_ok hjd5 _).mono ?_⟩
  rintro _ H8 ⟨rfl,hjd8,hx8⟩
  have hs8:=hx8.size
  exact⟨_,rfl,rfl,hjd8.up (fun k hk=>by
   rcases hk with hk|hk
   ·exact .inl hk
   ·exact .inr ⟨hk.1,by omega⟩) (grow_lt hlt (by omega)),hx5.trans' hx8 (fun i hi=>by
   rcases hi with hi|hi
   ·exact .inr hi
   ·exact .inl hi.1)⟩
theorem commit_ok{H:Heap}{F:Nat→Prop}{pj pd:Nat}{J:Jn}{D:Dev}{n B:Nat}(h:JD H F pj pd J D)(hw:D.Wf n B)(hB:B≤700000000)(hn:n≤4096)(hj:J.Wf n)(hseq:J.h.seq≤900000000000)
  {l:List Wr} {a:Option Addr} {c:Nat} (hk:KeptW F H a l) (hl:l.length≤1000000) :
  Does Tryz.prog 113 [.pointer (some ⟨pj,0,none⟩),.slice a l.length c] H fun v H'=>v=.int .i64 (commitM n l J D).2.2∧JD H' (grow F H H') pj pd (commitM n l J D).2.1 (commitM n l J D).1∧ExtP F H H':=by
 have hlt:=h.lt
 have hsz:=hj.size
 refine Fn_of_vc Tryz.mixed (vc_commit _ _ _ _ _ _) ?_
 refine(jhome_ok h hw).mono ?_
 rintro _ _ ⟨rfl,rfl⟩
 refine⟨_,rfl,(may_ok (homeN n J.h.size) (by omega) hk.at_).mono ?_⟩
 rintro _ H5 ⟨rfl,hx5⟩
 have hs5:=hx5.size
 have hjd5:=(h.ext hx5.toP (by simp))
 have hk5:KeptW F H5 a l:=hk.on hx5.anyP
 have step:∀{A C:Heap},ExtP F H A→ExtP (grow F H A) A C→ExtP F H C:=fun h1 h2=>h1.trans' h2 (fun i hi=>by
  rcases hi with hi|hi
  ·exact .inr hi
  ·exact .inl hi.1)
 have lift:∀{A:Heap} {J':Jn} {D':Dev},H5.size≤A.size→JD A (grow F H5 A) pj pd J' D'→JD A (grow F H A) pj pd J' D':=fun hs h'=>h'.up (fun k hk=>by
  rcases hk with hk|hk
  ·exact .inl hk
  ·exact .inr ⟨by omega,hk.2⟩) (grow_lt hlt (by omega))
 have now5:JD H5 (grow F H H5) pj pd J D:=hjd5.up (fun _=>.inl) (grow_lt hlt hs5)
 obtain⟨r5,hb5⟩:=hjd5.of
 unfold commitM
 refine⟨_,rfl,fun h1=>?_,fun h1=>⟨pj,0,rfl,J.dead,hb5.cell 6,fun h2=>?_,fun h2=>?_⟩⟩
 ·rw[if_pos h1];exact⟨rfl,now5,hx5.anyP⟩
 ·rw[if_neg h1,if_pos h2];exact⟨rfl,now5,hx5.anyP⟩
 rw[if_neg h1,if_neg (by simp[h2])]
 have hm:=mayB_iff h1
 refine⟨pj,0,rfl,_,hb5.cell 3,(needs_ok l.length H5 (by omega)).mono ?_⟩
 rintro _ _ ⟨rfl,rfl⟩
 refine⟨_,rfl,⟨hb5.cell 3,trivial⟩,fun h3=>?_,fun h3=>(needs_ok l.length H5 (by omega)).mono ?_⟩
 ·rw[if_pos h3];exact⟨rfl,now5,hx5.anyP⟩
 rw[if_neg h3]
 rintro _ _ ⟨rfl,rfl⟩
 refine⟨_,rfl,(jfree_ok hjd5 hj hn).mono ?_⟩
 rintro _ _ ⟨rfl,rfl⟩
 refine⟨_,rfl,fun h4=>?_,fun h4=>?_⟩
 ·rw[if_pos h4]
  refine(checkpoint_ok hjd5 hw (by omega) hn hj).mono ?_
  rintro _ H23 ⟨rfl,hjd23,hx23⟩
  have hs23:=hx23.size
  refine⟨_,rfl,fun hne=>?_,fun he=>?_⟩
  ·rw[if_pos hne];exact⟨rfl,lift hs23 hjd23,hx5.anyP.trans hx23⟩
  rw[if_neg he]
  have hck:=checkpoint_ok0 (n:=n) (J:=J) (D:=D) (by simpa using he)
  have hh:=checkpoint_h (n:=n) (J:=J) (D:=D)
  refine(jlay_ok (lift hs23 hjd23) (checkpoint_dwf hw hj hn) (by omega) hn (checkpoint_jwf hj) (by rw[hh];exact hseq) (c:=c) ((hk.go (hx5.anyP.trans hx23))) (by rw[hh];exact hm) (by rw[hh,hck.1];omega)).mono ?_
  rintro _ H26 ⟨rfl,hjd26,hx26⟩
  have hs26:=hx26.size
  refine⟨_,rfl,(ends_ok hjd26 _).mono ?_⟩
  rintro _ H29 ⟨rfl,hjd29,hx29⟩
  have hs29:=hx29.size
  refine⟨_,rfl,rfl,hjd29.up (fun k hk=>?_) (grow_lt hlt (by omega)),(step (hx5.anyP.trans hx23) hx26).trans' hx29 (fun i hi=>?_)⟩
  ·rcases hk with (hk|hk)|hk
   ·exact .inl hk
   ·exact .inr ⟨hk.1,by omega⟩
   ·exact .inr ⟨by omega,by omega⟩
  ·rcases hi with (hi|hi)|hi
   ·exact .inr hi
   ·exact .inl hi.1
   ·exact .inl (by omega)
 ·rw[if_neg h4]
  refine(jlay_ok hjd5 hw (by omega) hn hj hseq (c:=c) hk5 hm (by omega)).mono ?_
  rintro _ H26 ⟨rfl,hjd26,hx26⟩
  have hs26:=hx26.size
  refine⟨_,rfl,(ends_ok (lift hs26 hjd26) _).mono ?_⟩
  rintro _ H29 ⟨rfl,hjd29,hx29⟩
  have hs29:=hx29.size
  refine⟨_,rfl,rfl,hjd29.up (fun k hk=>?_) (grow_lt hlt (by omega)),(hx5.anyP.trans hx26).trans' hx29 (fun i hi=>?_)⟩
  ·rcases hk with hk|hk
   ·exact .inl hk
   ·exact .inr ⟨hk.1,by omega⟩
  ·rcases hi with hi|hi
   ·exact .inr hi
   ·exact .inl hi.1
end Go.Proofs
end
section
open Go Go.Vc
namespace Go.Proofs
theorem w64_small{v:Int}(h0:0≤v)(h1:v<18446744073709551616):w64 v=v:=by unfold w64;rw[wrap_u64];omega
theorem rdU_app{xs ys:Octs}{n:Nat}(h:xs.length=n):rdU (xs++ys,false) n=(xs,(ys,false)):=by
 subst h
 unfold rdU
 rw[if_pos ⟨rfl,by simp⟩]
 simp
theorem be_four{v:Int}(h0:0≤v)(h1:v<4294967296):be (beL 4 v)=v:=by simp[be,beL];omega
theorem be_two{v:Int}(h0:0≤v)(h1:v<65536):be (beL 2 v)=v:=by simp[be,beL];omega
theorem numU4_app{v:Int}{ys:Octs}(h0:0≤v)(h1:v<4294967296):numU (beU 4 (w64 v)++ys,false) 4=v:=by
 unfold numU
 rw[rdU_app (beU_len 4 _),w64_small h0 (by omega),toI_beU,be_four h0 h1]
theorem numU2_app{v:Int}{ys:Octs}(h0:0≤v)(h1:v<65536):numU (beU 2 (w64 v)++ys,false) 2=v:=by
 unfold numU
 rw[rdU_app (beU_len 2 _),w64_small h0 (by omega),toI_beU,be_two h0 h1]
def tagE(b:Octs):Int:=numU (b,false) 4
def tagS(b:Octs):Int:=numU (rdU (b,false) 4).2 4
def tagC(b:Octs):Int:=numU (rdU (b,false) 10).2 2
def Small(h:Hd):Prop:=0≤h.epoch∧h.epoch<4294967296∧0≤h.seq∧h.seq<4294967296
theorem jblk_tags{h:Hd}(hs:Small h){l:List Wr}(hc:cntN l<65536)(k:Nat):tagE (jblk h l k)=h.epoch∧tagS (jblk h l k)=h.seq∧tagC (jblk h l k)=cntN l:=by
 obtain⟨h0,h1,h2,h3⟩:=hs
 refine⟨?_,?_,?_⟩
 ·unfold tagE jblk
  rw[List.append_assoc,List.append_assoc,List.append_assoc,numU4_app h0 h1]
 ·unfold tagS jblk
  rw[List.append_assoc,List.append_assoc,List.append_assoc,rdU_app (beU_len 4 _),numU4_app h2 h3]
 ·unfold tagC jblk
  rw[show beU 4 (w64 h.epoch)++beU 4 (w64 h.seq)++beU 2 (w64 ↑k)++beU 2 (w64 ↑(cntN l))++((bodyB l).drop (k*116)).take 116=(beU 4 (w64 h.epoch)++beU 4 (w64 h.seq)++beU 2 (w64 ↑k))++(beU 2 (w64 ↑(cntN l))++((bodyB l).drop (k*116)).take 116)by simp only[List.append_assoc]]
  rw[rdU_app (by simp[beU_len]),numU2_app (by omega) (by omega)]
theorem numU_zeros(n m k:Nat):numU (List.replicate n (0:UInt8),false) k=0∧((rdU (List.replicate n (0:UInt8),false) m).2.1=List.replicate (n - m) 0∨(rdU (List.replicate n (0:UInt8),false) m).2=([],true)):=by
 have z:∀m,be (toI (List.replicate m (0:UInt8)))=0:=by
  intro m
  unfold be toI
  rw[List.map_replicate]
  induction m with
  | zero=>rfl
  | succ m ih=>rw[List.replicate_succ,List.foldl_cons];exact ih
 constructor
 ·unfold numU rdU
  split
  ·simp only[List.take_replicate];exact z _
  ·rfl
 ·unfold rdU
  split
  ·exact .inl (by simp)
  ·exact .inr rfl
theorem tagE_zeros:tagE zeros=0:=(numU_zeros 128 0 4).1
theorem pieces_all(n:Nat):∀(c:Nat)(xs:Octs),xs.length=c*n→((List.range c).map (fun k=>(xs.drop (k*n)).take n)).flatten=xs
 | 0,xs,h=>by simp at h;subst h;rfl
 | c+1,xs,h=>by
  rw[List.range_succ_eq_map,List.map_cons,List.map_map,List.flatten_cons]
  have e:(fun k=>(xs.drop (k*n)).take n) ∘ Nat.succ=fun k=>((xs.drop n).drop (k*n)).take n:=by
   funext k
   simp only[Function.comp_apply,List.drop_drop,Nat.succ_eq_add_one,Nat.add_mul,Nat.one_mul]
   rw[Nat.add_comm n]
  rw[e,pieces_all n c (xs.drop n) (by rw[List.length_drop,h,Nat.add_mul];omega)]
  simp
theorem restB_laid{h:Hd}{l:List Wr}(hf:Full l)(hl:0<l.length):restB (laidB h l)=bodyB l:=by
 unfold restB laidB
 rw[List.map_map]
 have e:(fun x:Octs=>x.drop 12) ∘ jblk h l=fun k=>((bodyB l).drop (k*116)).take 116:=by
  funext k
  simp only[Function.comp_apply]
  unfold jblk
  rw[List.drop_left' (by simp[beU_len])]
 rw[e]
 exact pieces_all 116 (cntN l) (bodyB l) (bodyB_len hf hl)
theorem parse_laid:∀(l:List Wr)(rest:Octs),(∀w∈l,0≤w.1∧w.1<4294967296∧w.2.length=128)→parseW l.length ((l.map wrB).flatten++rest,false)=l
 | [],_,_=>rfl
 | w::l,rest,h=>by
  obtain⟨h0,h1,h2⟩:=h w (by simp)
  rw[List.length_cons,parseW,if_neg (by simp),List.map_cons,List.flatten_cons]
  unfold wrB
  rw[List.append_assoc,List.append_assoc,numU4_app h0 h1,rdU_app (beU_len 4 _),rdU_app h2]
  rw[show(fun w:Wr=>beU 4 (w64 w.1)++w.2)=wrB from rfl,parse_laid l rest (fun x hx=>h x (by simp[hx]))]
theorem writes_laid{l:List Wr}(h:∀w∈l,0≤w.1∧w.1<4294967296∧w.2.length=128)(hn:l.length<65536):writesM (bodyB l)=l:=by
 unfold writesM bodyB padL streamB
 rw[List.append_assoc,numU2_app (by omega) (by omega),rdU_app (beU_len 2 _),Int.toNat_natCast]
 exact parse_laid l _ h
theorem cnt_pos{l:List Wr}(h:l≠[]):0<cntN l:=by
 have h':0<l.length:=by cases l with
  | nil=>exact absurd rfl h
  | cons=>simp
 have:=cnt_len h'
 omega
theorem cnt_more{l:List Wr}:l.length≤cntN l:=by
 rcases Nat.eq_zero_or_pos l.length with h|h
 ·omega
 ·have:=cnt_len h;omega
theorem whole_all{h:Hd}(hs:Small h){l:List Wr}{homes:Int}(hm:MayP l homes)(hh:homes≤4294967296)(hc:cntN l<65536)(rest:List Octs):wholeB h (laidB h l++rest) homes=(l,(cntN l:Int)):=by
 have hpos:=cnt_pos hm.1
 have hlen:0<l.length:=by have:=hm.1;cases l with
  | nil=>exact absurd rfl this
  | cons=>simp
 have hlaid:=laidB_len h l
 have htake:(laidB h l++rest).take (cntN l)=laidB h l:=List.take_left' hlaid
 have hhead:∃r,laidB h l++rest=jblk h l 0::r:=by
  obtain⟨c,e⟩:∃c,cntN l=c+1:=⟨cntN l - 1,by omega⟩
  unfold laidB
  rw[e,List.range_succ_eq_map]
  exact⟨_,rfl⟩
 obtain⟨r,hr⟩:=hhead
 have hlen2:cntN l≤(laidB h l++rest).length:=by rw[List.length_append,hlaid];omega
 have ht:=(jblk_tags hs hc 0).2.2
 unfold tagC at ht
 unfold wholeB
 rw[hr]at htake hlen2 ⊢
 simp only[ht,Int.toNat_natCast]
 rw[if_neg (by omega),htake,restB_laid hm.full hlen,writes_laid (fun w hw=>by have:=hm.2.1 w hw;omega) (by have:=cnt_more (l:=l);omega)]
 rw[if_pos ⟨decide_eq_true hm,rfl⟩]
theorem whole_tags{h:Hd}(hs:Small h){bs:List Octs}{homes:Int}(hne:(wholeB h bs homes).2≠0):∃b0 r,bs=b0::r∧0<(wholeB h bs homes).2∧(wholeB h bs homes).2=tagC b0∧(wholeB h bs homes).2≤bs.length∧∀b∈bs.take (wholeB h bs homes).2.toNat,tagE b=h.epoch∧tagS b=h.seq:=by
 rcases wholeB_spec h bs homes with h0|⟨h1,h2,h3,h4⟩
 ·exact absurd h0 hne
 ·have hc:(wholeB h bs homes).2<65536∧∃b0 r,bs=b0::r∧(wholeB h bs homes).2=tagC b0:=by
   cases bs with
   | nil=>exact absurd rfl hne
   | cons b0 r=>
    have hl2:=numU_lt2 (rdU (b0,false) 10).2
    have:(wholeB h (b0::r) homes).2=0∨(wholeB h (b0::r) homes).2=tagC b0:=by
     unfold wholeB tagC
     simp only
     split
     ·exact .inl rfl
     ·split
      ·exact .inr rfl
      ·exact .inl rfl
    rcases this with h|h
    ·exact absurd h hne
    ·exact⟨by rw[h];exact hl2.2,b0,r,rfl,h⟩
  obtain⟨hlt,b0,r,hb,ht⟩:=hc
  refine⟨b0,r,hb,h1,ht,h2,?_⟩
  rw[←h4]
  intro b hb'
  have hcn:cntN (wholeB h bs homes).1<65536:=by
   have:=laidB_len h (wholeB h bs homes).1
   rw[h4,List.length_take]at this
   omega
  unfold laidB at hb'
  obtain⟨k,_,rfl⟩:=List.mem_map.1 hb'
  have:=jblk_tags hs hcn k
  exact⟨this.1,this.2.1⟩
def OldB(e s:Int)(b:Octs):Prop:=tagE b<e∨(tagE b=e∧tagS b<s)
theorem OldB.up{e s s':Int}{b:Octs}(h:OldB e s b)(hs:s≤s'):OldB e s' b:=by
 rcases h with h|h
 ·exact .inl h
 ·exact .inr ⟨h.1,by omega⟩
theorem OldB.life{e e' s s':Int}{b:Octs}(h:OldB e s b)(he:e<e'):OldB e' s' b:=by
 rcases h with h|h
 ·exact .inl (by omega)
 ·exact .inl (by omega)
def LT(e:Int):Int→List (List Wr)→List Octs
 | _,[]=>[]
 | s,l::T=>laidB ⟨e,s,0⟩ l++LT e (s+1) T
theorem laidB_size(e s z:Int)(l:List Wr):laidB ⟨e,s,z⟩ l=laidB ⟨e,s,0⟩ l:=rfl
def fullT(e:Int):Int→List Octs→List (List Wr)→List (List Wr)
 | _,_,[]=>[]
 | s,bs,l::T=>if laidB ⟨e,s,0⟩ l=bs.take (cntN l)then l::fullT e (s+1) (bs.drop (cntN l)) T else []
def GoodB(e s:Int)(T:List (List Wr))(bs:List Octs):Prop:=∀(p:Nat)(b:Octs),bs[p]?=some b→(LT e s T)[p]?=some b∨OldB e s b
def MayT(T:List (List Wr))(homes:Int):Prop:=∀l∈T,MayP l homes∧cntN l<65536
theorem recL_good(e z homes:Int)(he0:0≤e)(he1:e<4294967296)(hh:homes≤4294967296):∀(T:List (List Wr))(s:Int)(bs:List Octs)(t:List Wr)(f:Nat),0≤s→s+T.length<4294967296→MayT T homes→GoodB e s T bs→bs.length<f →
  recL f ⟨e,s,z⟩ bs t homes=(⟨e,s+(fullT e s bs T).length,z⟩,tAll t (fullT e s bs T).flatten)
 | [],s,bs,t,f,h0,h1,hm,hg,hf=>by
  simp only[List.length_nil]at h1
  obtain⟨f,rfl⟩:∃k,f=k+1:=⟨f - 1,by omega⟩
  have hs:Small ⟨e,s,z⟩:=⟨he0,he1,h0,by show s<_;omega⟩
  have:(wholeB ⟨e,s,z⟩ bs homes).2=0:=by
   by_cases hne:(wholeB ⟨e,s,z⟩ bs homes).2=0
   ·exact hne
   ·obtain⟨b0,r,hb,hp,_,_,ht⟩:=whole_tags hs hne
    have h2:=ht b0 (by rw[hb];obtain⟨c,hc⟩:∃c,(wholeB ⟨e,s,z⟩ (b0::r) homes).2.toNat=c+1:=⟨(wholeB ⟨e,s,z⟩ (b0::r) homes).2.toNat - 1,by rw[hb]at hp;omega⟩;rw[hc];simp)
    rcases hg 0 b0 (by rw[hb];rfl)with h3|h3
    ·simp[LT]at h3
    ·rcases h3 with h3|h3
     ·have:=h2.1;simp only at this;omega
     ·have:=h2.2;simp only at this;omega
  rw[recL,if_pos this]
  simp[fullT,tAll]
 | l::T,s,bs,t,f,h0,h1,hm,hg,hf=>by
  simp only[List.length_cons]at h1
  obtain⟨f,rfl⟩:∃k,f=k+1:=⟨f - 1,by omega⟩
  have hs:Small ⟨e,s,z⟩:=⟨he0,he1,h0,by show s<_;omega⟩
  obtain⟨hml,hcl⟩:=hm l (by simp)
  have hpos:=cnt_pos hml.1
  by_cases hfull:laidB ⟨e,s,0⟩ l=bs.take (cntN l)
  ·have hlen:cntN l≤bs.length:=by
    have:=laidB_len ⟨e,s,0⟩ l
    rw[hfull,List.length_take]at this
    omega
   have hbs:bs=laidB ⟨e,s,z⟩ l++bs.drop (cntN l):=by
    rw[laidB_size,hfull,List.take_append_drop]
   have hw:wholeB ⟨e,s,z⟩ bs homes=(l,(cntN l:Int)):=by
    conv=>lhs;rw[hbs]
    exact whole_all hs hml hh hcl _
   have hstep:recL (f+1) ⟨e,s,z⟩ bs t homes=recL f ⟨e,s+1,z⟩ (bs.drop (cntN l)) (tAll t l) homes:=by
    rw[recL,hw,if_neg (by simp only;omega),Int.toNat_natCast]
   rw[hstep,recL_good e z homes he0 he1 hh T (s+1) (bs.drop (cntN l)) (tAll t l) f (by omega) (by omega) (fun x hx=>hm x (by simp[hx])) ?_ (by rw[List.length_drop];omega)]
   ·rw[fullT,if_pos hfull,List.length_cons,List.flatten_cons]
    congr 1
    ·congr 1;omega
    ·unfold tAll;rw[List.foldl_append]
   ·intro p b hp
    rw[List.getElem?_drop]at hp
    rcases hg _ b hp with h3|h3
    ·rw[LT,List.getElem?_append_right (by rw[laidB_len];omega),laidB_len,Nat.add_sub_cancel_left]at h3
     exact .inl h3
    ·exact .inr (h3.up (by omega))
  ·have:(wholeB ⟨e,s,z⟩ bs homes).2=0:=by
    by_cases hne:(wholeB ⟨e,s,z⟩ bs homes).2=0
    ·exact hne
    ·exfalso
     obtain⟨b0,r,hb,hp,htc,hle,ht⟩:=whole_tags hs hne
     have notold:∀b,tagE b=e∧tagS b=s→¬OldB e s b:=fun b h3 h4=>by
      rcases h4 with h4|h4<;>omega
     have hmem:∀p,p<(wholeB ⟨e,s,z⟩ bs homes).2.toNat→∃b,bs[p]?=some b∧(LT e s (l::T))[p]?=some b:=fun p hp'=>by
      have hlt:p<bs.length:=by omega
      refine⟨bs[p],List.getElem?_eq_getElem hlt,?_⟩
      have h2:=ht bs[p] (List.mem_take_iff_getElem.2 ⟨p,by omega,rfl⟩)
      rcases hg p _ (List.getElem?_eq_getElem hlt)with h3|h3
      ·exact h3
      ·exact absurd h3 (notold _ h2)
     have hc0:(wholeB ⟨e,s,z⟩ bs homes).2=cntN l:=by
      obtain⟨b,hb1,hb2⟩:=hmem 0 (by omega)
      rw[LT,List.getElem?_append_left (by rw[laidB_len];omega)]at hb2
      unfold laidB at hb2
      rw[List.getElem?_map,List.getElem?_range (by omega)]at hb2
      simp only[Option.map_some,Option.some.injEq]at hb2
      rw[hb]at hb1
      simp only[List.getElem?_cons_zero,Option.some.injEq]at hb1
      have hs0:Small ⟨e,s,0⟩:=hs
      rw[htc,hb1,←hb2]
      exact(jblk_tags hs0 hcl 0).2.2
     apply hfull
     rw[hc0,Int.toNat_natCast]at hmem
     have hll:=laidB_len ⟨e,s,0⟩ l
     apply List.ext_getElem?
     intro p
     by_cases hp':p<cntN l
     ·obtain⟨b,hb1,hb2⟩:=hmem p hp'
      rw[LT,List.getElem?_append_left (by omega)]at hb2
      rw[hb2,List.getElem?_take,if_pos hp',hb1]
     ·rw[List.getElem?_eq_none (by omega),List.getElem?_take,if_neg hp']
   rw[recL,if_pos this,fullT,if_neg hfull]
   simp[tAll]
theorem fullT_pre(e:Int):∀(T:List (List Wr))(s:Int)(bs:List Octs),fullT e s bs T <+: T
 | [],_,_=>List.prefix_refl _
 | l::T,s,bs=>by
  rw[fullT]
  split
  ·exact(List.prefix_cons_inj l).2 (fullT_pre e T _ _)
  ·exact List.nil_prefix
theorem fullT_ahead(e:Int):∀(T U:List (List Wr))(s:Int)(bs:List Octs),LT e s T <+: bs→T <+: fullT e s bs (T++U)
 | [],U,s,bs,_=>List.nil_prefix
 | l::T,U,s,bs,h=>by
  rw[LT]at h
  obtain⟨r,hr⟩:=h
  rw[List.append_assoc]at hr
  rw[List.cons_append,fullT,←hr,List.take_left' (laidB_len _ _),if_pos rfl,List.drop_left' (laidB_len _ _)]
  exact(List.prefix_cons_inj l).2 (fullT_ahead e T U _ _ ⟨r,rfl⟩)
end Go.Proofs
end
section
open Go Go.Vc
namespace Go.Proofs
structure At(D:Dev) (K:List Octs) (P:List (Int×Octs)):Prop where
 kept:D.kept=K
 pend:D.pend=P
 dead:D.dead=false
structure Down(D:Dev) (K:List Octs) (P:List (Int×Octs)):Prop where
 kept:D.kept=K
 pend:D.pend=P
 dead:D.dead=true
theorem wk_cases{D:Dev}{K:List Octs}{P:List (Int×Octs)}(h:At D K P):((wk D).2=true∧At (wk D).1 K P∧(D.fuse=-1→(wk D).1.fuse=-1))∨((wk D).2=false∧Down (wk D).1 K P∧D.fuse≠-1):=by
 have hk:=wk_kept D
 unfold wk at hk ⊢
 by_cases h1:D.fuse=0∨D.dead=true
 ·rw[if_pos h1]at hk ⊢
  refine .inr ⟨rfl,⟨h.kept,h.pend,rfl⟩,?_⟩
  rcases h1 with h1|h1
  ·omega
  ·rw[h.dead]at h1;cases h1
 ·rw[if_neg h1]
  refine .inl ⟨rfl,⟨h.kept,h.pend,h.dead⟩,fun he=>?_⟩
  show(if 0<D.fuse then D.fuse - 1 else D.fuse)=-1
  rw[he];rfl
theorem flush_cases{D:Dev}{K:List Octs}{P:List (Int×Octs)}(h:At D K P):((flushD D).2=0∧At (flushD D).1 (laid K P) []∧(D.fuse=-1→(flushD D).1.fuse=-1))∨((flushD D).2=4∧Down (flushD D).1 K P∧D.fuse≠-1):=by
 unfold flushD
 rcases wk_cases h with⟨h1,h2,h3⟩|⟨h1,h2,h3⟩
 ·rw[if_pos h1]
  refine .inl ⟨rfl,⟨?_,rfl,h2.dead⟩,h3⟩
  show D.now=_
  unfold Dev.now
  rw[h.kept,h.pend]
 ·rw[if_neg (by simp[h1])]
  exact .inr ⟨rfl,h2,h3⟩
theorem write_cases{D:Dev}{K:List Octs}{P:List (Int×Octs)}(h:At D K P){n:Nat}{k:Int}{b:Octs}(hk:0≤k∧k<n)(hb:b.length=128) :
  ((writeD D n k b).2=0∧At (writeD D n k b).1 K (P++[(k,b)])∧(D.fuse=-1→(writeD D n k b).1.fuse=-1))∨((writeD D n k b).2=4∧Down (writeD D n k b).1 K P∧D.fuse≠-1):=by
 unfold writeD
 rw[if_neg (by simp[hk,hb])]
 rcases wk_cases h with⟨h1,h2,h3⟩|⟨h1,h2,h3⟩
 ·rw[if_pos h1]
  exact .inl ⟨rfl,⟨h2.kept,by rw[←h.pend],h2.dead⟩,h3⟩
 ·rw[if_neg (by simp[h1])]
  exact .inr ⟨rfl,h2,h3⟩
def homeWs(size:Int)(t:List Wr)(ks:List Int):List (Int×Octs):=ks.map fun k=>(1+size+k,(tGet t k).getD [])
theorem goW_cases{n:Nat}{size:Int}{t:List Wr}:∀(ks:List Int){D:Dev}{K:List Octs}{P:List (Int×Octs)},At D K P→(∀k∈ks,0≤1+size+k∧1+size+k<n∧((tGet t k).getD []).length=128) →
  ((goW n size t ks D).2=0∧At (goW n size t ks D).1 (laid K (P++homeWs size t ks)) []∧(D.fuse=-1→(goW n size t ks D).1.fuse=-1))∨((goW n size t ks D).2=4∧(∃i,Down (goW n size t ks D).1 K (P++(homeWs size t ks).take i))∧D.fuse≠-1)
 | [],D,K,P,h,_=>by
  rw[goW]
  rcases flush_cases h with⟨h1,h2,h3⟩|⟨h1,h2,h3⟩
  ·exact .inl ⟨h1,by simpa[homeWs]using h2,h3⟩
  ·exact .inr ⟨h1,⟨0,by simpa[homeWs]using h2⟩,h3⟩
 | k::ks,D,K,P,h,hk=>by
  obtain⟨a0,a1,a2⟩:=hk k (by simp)
  rw[goW]
  rcases write_cases (n:=n) h ⟨a0,a1⟩ a2 with⟨h1,h2,h3⟩|⟨h1,h2,h3⟩
  ·rw[if_neg (by simp[h1])]
   rcases goW_cases ks h2 (fun k hk'=>hk k (by simp[hk']))with⟨g1,g2,g3⟩|⟨g1,⟨i,g2⟩,g3⟩
   ·exact .inl ⟨g1,by simpa[homeWs]using g2,fun he=>g3 (h3 he)⟩
   ·exact .inr ⟨g1,⟨i+1,by simpa[homeWs]using g2⟩,fun he=>g3 (h3 he)⟩
  ·rw[if_pos (by simp[h1])]
   exact .inr ⟨h1,⟨0,by simpa using h2⟩,h3⟩
def rowWs:Int→List Octs→List (Int×Octs)
 | _,[]=>[]
 | u,b::r=>(1+u,b)::rowWs (u+1) r
theorem layW_cases{n:Nat}:∀(bs:List Octs)(u:Int){D:Dev}{K:List Octs}{P:List (Int×Octs)},At D K P→0≤u→u+bs.length<n→(∀b∈bs,b.length=128) →
  ((layW n bs u D).2.2=0∧(layW n bs u D).2.1=u+bs.length∧At (layW n bs u D).1 K (P++rowWs u bs)∧(D.fuse=-1→(layW n bs u D).1.fuse=-1))∨((layW n bs u D).2.2=4∧(∃i,Down (layW n bs u D).1 K (P++(rowWs u bs).take i))∧D.fuse≠-1)
 | [],u,D,K,P,h,_,_,_=>by
  rw[layW]
  exact .inl ⟨rfl,by simp,by simpa[rowWs]using h,fun he=>he⟩
 | b::bs,u,D,K,P,h,h0,h1,hb=>by
  simp only[List.length_cons]at h1
  rw[layW]
  rcases write_cases (n:=n) (k:=1+u) h ⟨by omega,by omega⟩ (hb b (by simp))with⟨g1,g2,g3⟩|⟨g1,g2,g3⟩
  ·rw[if_neg (by simp[g1])]
   rcases layW_cases (n:=n) bs (u+1) g2 (by omega) (by omega) (fun x hx=>hb x (by simp[hx]))with⟨k1,k2,k3,k4⟩|⟨k1,⟨i,k2⟩,k3⟩
   ·exact .inl ⟨k1,by rw[k2,List.length_cons];omega,by simpa[rowWs]using k3,fun he=>k4 (g3 he)⟩
   ·exact .inr ⟨k1,⟨i+1,by simpa[rowWs]using k2⟩,fun he=>k3 (g3 he)⟩
  ·rw[if_pos (by simp[g1])]
   exact .inr ⟨g1,⟨0,by simpa using g2⟩,g3⟩
theorem fmtW_safe{n:Nat}:∀(m:Nat)(k:Int){D:Dev}{K:List Octs}{P:List (Int×Octs)},At D K P→D.fuse=-1→0≤k→k+m<n→∃W,(fmtW n m k D).2=0∧At (fmtW n m k D).1 K (P++W)∧(fmtW n m k D).1.fuse=-1∧(∀w∈W,w.2=zeros∧1+k≤w.1∧w.1<1+k+m)∧∀i:Int,1+k≤i→i<1+k+m→(i,zeros)∈W
 | 0,k,D,K,P,h,hf,_,_=>⟨[],rfl,by rw[List.append_nil];exact h,hf,by simp,fun i h1 h2=>by omega⟩
 | m+1,k,D,K,P,h,hf,h0,h1=>by
  rw[fmtW]
  rcases write_cases (n:=n) (k:=1+k) h ⟨by omega,by omega⟩ (show zeros.length=128 by simp[zeros])with⟨g1,g2,g3⟩|⟨_,_,g3⟩
  ·rw[if_neg (by simp[g1])]
   obtain⟨W,k1,k2,k3,k4,k5⟩:=fmtW_safe (n:=n) m (k+1) g2 (g3 hf) (by omega) (by omega)
   refine⟨(1+k,zeros)::W,k1,by rw[List.append_assoc]at k2;exact k2,k3,fun w hw=>?_,fun i h2 h3=>?_⟩
   ·rcases List.mem_cons.1 hw with rfl|hw
    ·exact⟨rfl,by simp,by simp only;omega⟩
    ·have:=k4 w hw;exact⟨this.1,by omega,by omega⟩
   ·by_cases e:i=1+k
    ·subst e;simp
    ·exact List.mem_cons_of_mem _ (k5 i (by omega) (by omega))
  ·exact absurd hf g3
theorem laid_none{i:Nat}:∀(P:List (Int×Octs))(K:List Octs),(∀w∈P,w.1.toNat≠i)→(laid K P)[i]?=K[i]?
 | [],_,_=>rfl
 | w::P,K,h=>by
  show(laid (K.set w.1.toNat w.2) P)[i]?=_
  rw[laid_none P _ (fun x hx=>h x (by simp[hx])),List.getElem?_set_ne (h w (by simp))]
theorem laid_same{i:Nat}{x:Octs}:∀(P:List (Int×Octs))(K:List Octs),(∀w∈P,w.1.toNat=i→w.2=x)→K[i]?=some x∨(∃w∈P,w.1.toNat=i)∧i<K.length→(laid K P)[i]?=some x
 | [],K,_,h=>by
  rcases h with h|⟨⟨w,hw,_⟩,_⟩
  ·exact h
  ·cases hw
 | w::P,K,hs,h=>by
  show(laid (K.set w.1.toNat w.2) P)[i]?=_
  by_cases e:w.1.toNat=i
  ·have hx:=hs w (by simp) e
   refine laid_same P _ (fun y hy=>hs y (by simp[hy])) (.inl ?_)
   subst e
   have hlt:w.1.toNat<K.length:=by
    rcases h with h|h
    ·exact(List.getElem?_eq_some_iff.1 h).1
    ·exact h.2
   rw[List.getElem?_set_self hlt,hx]
  ·refine laid_same P _ (fun y hy=>hs y (by simp[hy])) ?_
   rcases h with h|⟨⟨y,hy,he⟩,hl⟩
   ·exact .inl (by rw[List.getElem?_set_ne e];exact h)
   ·rcases List.mem_cons.1 hy with rfl|hy
    ·exact absurd he e
    ·exact .inr ⟨⟨y,hy,he⟩,by simpa using hl⟩
theorem crash_poss(ms:Octs){i:Nat}{b:Octs}:∀(P:List (Int×Octs))(j:Nat)(K:List Octs),(crashL ms P j K)[i]?=some b→K[i]?=some b∨∃w∈P,w.1.toNat=i∧w.2=b
 | [],j,K,h=>.inl h
 | w::P,j,K,h=>by
  rw[crashL]at h
  rcases crash_poss ms P (j+1) _ h with h1|⟨y,hy,h1⟩
  ·split at h1
   ·by_cases e:w.1.toNat=i
    ·rw[e,List.getElem?_set]at h1
     simp only[if_true]at h1
     split at h1
     ·exact .inr ⟨w,by simp,e,by simpa using h1⟩
     ·cases h1
    ·rw[List.getElem?_set_ne e]at h1;exact .inl h1
   ·exact .inl h1
  ·exact .inr ⟨y,by simp[hy],h1⟩
theorem parseH_hdrB{h:Hd}(hs:Small h)(hz:0≤h.size∧h.size<4294967296):parseH (hdrB h)=h:=by
 obtain⟨h0,h1,h2,h3⟩:=hs
 unfold parseH hdrB padL
 generalize (128 - _)=m
 rw[List.append_assoc,List.append_assoc,List.append_assoc,rdU_app (beU_len 4 _),numU4_app h0 h1,rdU_app (beU_len 4 _),numU4_app h2 h3,rdU_app (beU_len 4 _),numU4_app hz.1 hz.2]
theorem readM_good{n:Nat}{D:Dev}{e s:Int}{z:Nat}(hd:D.dead=false)(hh:D.now[0]?=some (hdrB ⟨e,s,z⟩))(he:0≤e∧e<4294967296)(hs:1≤s∧s<4294967296)(hz:4≤z∧z+4≤n)(hn:n≤4096):readM n D=(⟨e,s,z⟩,0):=by
 unfold readM
 rw[if_neg (by simp[hd])]
 simp only[hh,Option.getD_some]
 rw[parseH_hdrB ⟨he.1,he.2,by show 0≤s;omega,hs.2⟩ ⟨by show(0:Int)≤z;omega,by show(z:Int)<_;omega⟩,if_neg]
 rintro (h|h|h)
 ·exact h rfl
 ·rw[homeN_of (by show 4≤(z:Int)∧(z:Int)≤n - 4;omega)]at h
  simp only at h;omega
 ·simp only at h;omega
end Go.Proofs
end
section
open Go Go.Vc
namespace Go.Proofs
def overT(base:Nat→Octs)(l:List Wr):Nat→Octs:=fun k=>(tGet (tAll [] l) k).getD (base k)
def hmT(base:Nat→Octs)(T:List (List Wr)):Nat→Octs:=overT base T.flatten
theorem tGet_all(k:Int):∀(l t:List Wr),tGet (tAll t l) k=(tGet (tAll [] l) k).or (tGet t k)
 | [],t=>rfl
 | w::l,t=>by
  show tGet (tAll (tSet t w.1 w.2) l) k=(tGet (tAll (tSet [] w.1 w.2) l) k).or (tGet t k)
  rw[tGet_all k l (tSet t w.1 w.2),tGet_all k l (tSet [] w.1 w.2),tGet_set,tGet_set]
  by_cases h:k=w.1
  ·rw[if_pos h,if_pos h];cases tGet (tAll [] l) k<;>rfl
  ·rw[if_neg h,if_neg h];cases tGet (tAll [] l) k<;>rfl
theorem tAll_app(t l m:List Wr):tAll t (l++m)=tAll (tAll t l) m:=by unfold tAll;rw[List.foldl_append]
theorem over_app(base:Nat→Octs)(l m:List Wr):overT base (l++m)=overT (overT base l) m:=by
 funext k
 unfold overT
 rw[tAll_app,tGet_all k m (tAll [] l)]
 cases tGet (tAll [] m) k<;>rfl
theorem hmT_snoc(base:Nat→Octs)(T:List (List Wr))(l:List Wr):hmT base (T++[l])=overT (hmT base T) l:=by
 unfold hmT
 rw[List.flatten_append,over_app]
 simp
theorem hmT_nil(base:Nat→Octs):hmT base []=base:=rfl
theorem LT_app(e:Int):∀(T U:List (List Wr))(s:Int),LT e s (T++U)=LT e s T++LT e (s+T.length) U
 | [],U,s=>by simp[LT]
 | l::T,U,s=>by
  rw[List.cons_append,LT,LT,LT_app e T U (s+1),List.append_assoc,List.length_cons]
  congr 3;omega
theorem LT_tags{e:Int}(he:0≤e∧e<4294967296):∀(T:List (List Wr))(s:Int),0≤s→s+T.length≤4294967296→(∀l∈T,cntN l<65536)→∀b∈LT e s T,tagE b=e∧s≤tagS b∧tagS b<s+T.length
 | [],s,_,_,_,b,hb=>by simp[LT]at hb
 | l::T,s,h0,h1,hc,b,hb=>by
  simp only[List.length_cons]at h1 ⊢
  rw[LT]at hb
  rcases List.mem_append.1 hb with hb|hb
  ·unfold laidB at hb
   obtain⟨k,_,rfl⟩:=List.mem_map.1 hb
   have:=jblk_tags (h:=⟨e,s,0⟩) ⟨he.1,he.2,h0,by show s<_;omega⟩ (hc l (by simp)) k
   exact⟨this.1,by rw[this.2.1];exact Int.le_refl _,by rw[this.2.1];show s<_;omega⟩
  ·have:=LT_tags he T (s+1) (by omega) (by omega) (fun x hx=>hc x (by simp[hx])) b hb
   exact⟨this.1,by omega,by omega⟩
theorem LT_size{e:Int}:∀(T:List (List Wr))(s:Int),(∀l∈T,Full l)→∀b∈LT e s T,b.length=128
 | [],s,_,b,hb=>by simp[LT]at hb
 | l::T,s,hc,b,hb=>by
  rw[LT]at hb
  rcases List.mem_append.1 hb with hb|hb
  ·unfold laidB at hb
   obtain⟨k,hk,rfl⟩:=List.mem_map.1 hb
   exact jblk_len (hc l (by simp)) (by simpa using hk)
  ·exact LT_size T _ (fun x hx=>hc x (by simp[hx])) b hb
theorem prefix_of{α:Type}:∀(A C:List α),(∀(p:Nat) b,A[p]?=some b→C[p]?=some b)→A <+: C
 | [],C,_=>List.nil_prefix
 | a::A,C,h=>by
  have h0:=h 0 a rfl
  cases C with
  | nil=>cases h0
  | cons c C=>
   simp only[List.getElem?_cons_zero,Option.some.injEq]at h0
   subst h0
   exact(List.prefix_cons_inj c).2 (prefix_of A C fun p b hp=>by simpa using h (p+1) b (by simpa using hp))
structure Lays(n z B:Nat) (e s:Int) (T:List (List Wr)):Prop where
 zn:4≤z∧z+4≤n
 nn:n≤4096
 e0:1≤e
 s0:1≤s
 top:e≤B∧s+T.length≤B
 bb:B≤1000000000
 may:MayT T (n - 1 - z:Int)
theorem Lays.up{n z B B':Nat}{e s:Int}{T:List (List Wr)}(h:Lays n z B e s T)(h1:B≤B')(h2:B'≤1000000000):Lays n z B' e s T:=⟨h.zn,h.nn,h.e0,h.s0,⟨by have:=h.top;omega,by have:=h.top;omega⟩,h2,h.may⟩
def jbX(z:Nat)(X:List Octs):List Octs:=(X.drop 1).take z
theorem jbX_at{z:Nat}{X:List Octs}{p:Nat}(hp:p<z):(jbX z X)[p]?=X[1+p]?:=by unfold jbX;rw[List.getElem?_take,if_pos hp,List.getElem?_drop]
theorem jbX_lt{z:Nat}{X:List Octs}{p:Nat}{b:Octs}(h:(jbX z X)[p]?=some b):p<z:=by
 unfold jbX at h
 rw[List.getElem?_take]at h
 split at h
 ·assumption
 ·cases h
structure SureAt(n z B:Nat) (X:List Octs) (hm:Nat→Octs) (e s:Int) (T:List (List Wr)):Prop where
 lays:Lays n z B e s T
 len:X.length=n
 size:∀b∈X,b.length=128
 hdr:X[0]?=some (hdrB ⟨e,s,z⟩)
 good:GoodB e s T (jbX z X)
 home:∀k,k<n - 1 - z→∃b,X[1+z+k]?=some b∧(tGet (tAll [] (fullT e s (jbX z X) T).flatten) k).getD b=hm k
def Sure(n z B:Nat)(X:List Octs)(hm:Nat→Octs):Prop:=∃e s T,SureAt n z B X hm e s T
theorem Sure.up{n z B B':Nat}{X:List Octs}{hm:Nat→Octs}(h:Sure n z B X hm)(h1:B≤B')(h2:B'≤1000000000):Sure n z B' X hm:=by
 obtain⟨e,s,T,h⟩:=h
 exact⟨e,s,T,h.lays.up h1 h2,h.len,h.size,h.hdr,h.good,h.home⟩
def keysOf(t:List Wr):List Int:=sorted (t.map (·.1))
theorem keysOf_mem{t:List Wr}{k:Int}:k∈keysOf t↔k∈t.map (·.1):=by unfold keysOf sorted;rw[List.mem_mergeSort]
theorem homeWs_mem{z:Nat}{n:Nat}{t:List Wr}(hto:TOk t (n - 1 - z:Int)){w:Int×Octs}(hw:w∈homeWs z t (keysOf t)):∃k:Nat,k<n - 1 - z∧w.1=((1+z+k:Nat):Int)∧tGet t k=some w.2∧w.2.length=128:=by
 unfold homeWs at hw
 obtain⟨k,hk,rfl⟩:=List.mem_map.1 hw
 obtain⟨x,hx,hxm⟩:=tGet_mem (keysOf_mem.1 hk)
 have:=hto.1 _ hxm
 simp only at this
 refine⟨k.toNat,by omega,by simp only;omega,?_,?_⟩
 ·rw[show((k.toNat:Nat):Int)=k by omega,hx];rfl
 ·rw[hx];exact this.2.2
theorem home_low{n z:Nat}{t:List Wr}(hto:TOk t (n - 1 - z:Int))(X:List Octs){i:Nat}(hi:i≤z):(laid X (homeWs z t (keysOf t)))[i]?=X[i]?:=
 laid_none _ _ fun w hw=>by
  obtain⟨k,h1,h2,_⟩:=homeWs_mem hto hw
  omega
theorem home_high{n z:Nat}{t:List Wr}(hto:TOk t (n - 1 - z:Int)){X:List Octs}(hX:X.length=n){k:Nat}(hk:k<n - 1 - z){b:Octs}(hb:X[1+z+k]?=some b):(laid X (homeWs z t (keysOf t)))[1+z+k]?=some ((tGet t k).getD b):=by
 by_cases h:(k:Int)∈t.map (·.1)
 ·obtain⟨x,hx,hxm⟩:=tGet_mem h
  rw[hx,Option.getD_some]
  refine laid_same _ _ (fun w hw he=>?_) (.inr ⟨⟨(1+(z:Int)+k,x),?_,by simp only;omega⟩,by omega⟩)
  ·obtain⟨k',h1,h2,h3,_⟩:=homeWs_mem hto hw
   have:k'=k:=by omega
   subst this
   rw[hx]at h3
   exact(Option.some.inj h3).symm
  ·unfold homeWs
   exact List.mem_map.2 ⟨k,keysOf_mem.2 h,by rw[hx];rfl⟩
 ·rw[tGet_none h,Option.getD_none]
  rw[laid_none _ _ fun w hw=>?_]
  ·exact hb
  ·obtain⟨k',h1,h2,h3,_⟩:=homeWs_mem hto hw
   intro he
   have:k'=k:=by omega
   subst this
   rw[tGet_none h]at h3
   cases h3
theorem SureAt.part{n z B:Nat}{X X':List Octs}{hm:Nat→Octs}{e s:Int}{T:List (List Wr)}(h:SureAt n z B X hm e s T){t:List Wr}(ht:t=tAll [] (fullT e s (jbX z X) T).flatten)(hto:TOk t (n - 1 - z:Int))
  (hl:X'.length=n) (hs:∀b∈X',b.length=128) (hp:∀(i:Nat) (b:Octs),X'[i]?=some b→X[i]?=some b∨∃w∈homeWs z t (keysOf t),w.1.toNat=i∧w.2=b):SureAt n z B X' hm e s T:=by
 have hzn:=h.lays.zn
 have low:∀i:Nat,i≤z→X'[i]?=X[i]?:=fun i hi=>by
  have h1:X'[i]?=some X'[i]:=List.getElem?_eq_getElem (by omega)
  rcases hp i _ h1 with h2|⟨w,hw,h2,_⟩
  ·rw[h1,h2]
  ·obtain⟨k,_,h3,_⟩:=homeWs_mem hto hw
   omega
 have hj:jbX z X'=jbX z X:=by
  apply List.ext_getElem?
  intro p
  by_cases hp:p<z
  ·rw[jbX_at hp,jbX_at hp,low _ (by omega)]
  ·unfold jbX;rw[List.getElem?_take,if_neg hp,List.getElem?_take,if_neg hp]
 refine⟨h.lays,hl,hs,by rw[low 0 (by omega)];exact h.hdr,by rw[hj];exact h.good,fun k hk=>?_⟩
 rw[hj,←ht]
 obtain⟨b,hb,he⟩:=h.home k hk
 rw[←ht]at he
 have h1:X'[1+z+k]?=some X'[1+z+k]:=List.getElem?_eq_getElem (by omega)
 refine⟨_,h1,?_⟩
 rcases hp _ _ h1 with h2|⟨w,hw,h2,h3⟩
 ·rw[hb]at h2
  rw[←Option.some.inj h2]
  exact he
 ·obtain⟨k',_,h4,h5,_⟩:=homeWs_mem hto hw
  have:k'=k:=by omega
  subst this
  rw[h5,Option.getD_some]at he ⊢
  exact he
theorem SureAt.fresh{n z B:Nat}{X:List Octs}{hm:Nat→Octs}{e s:Int}(hly:Lays n z B e s [])(hl:X.length=n)(hs:∀b∈X,b.length=128)(hh:X[0]?=some (hdrB ⟨e,s,z⟩))(hj:∀p b,p<z→X[1+p]?=some b→OldB e s b)(hk:∀k,k<n - 1 - z→X[1+z+k]?=some (hm k)):SureAt n z B X hm e s []:=by
 refine⟨hly,hl,hs,hh,fun p b hp=>.inr ?_,fun k h=>⟨_,hk k h,rfl⟩⟩
 have:=jbX_lt hp
 rw[jbX_at this]at hp
 exact hj p b this hp
theorem MayT.flat{T:List (List Wr)}{homes:Int}(h:MayT T homes):∀w∈T.flatten,0≤w.1∧w.1<homes∧w.2.length=128:=fun w hw=>by
 obtain⟨l,hl,hw⟩:=List.mem_flatten.1 hw
 exact(h l hl).1.2.1 w hw
theorem MayT.tok{T:List (List Wr)}{homes:Int}(h:MayT T homes):TOk (tAll [] T.flatten) homes:=(TOk.nil _).all _ h.flat
theorem MayT.pre{T U:List (List Wr)}{homes:Int}(h:MayT T homes)(hp:U <+: T):MayT U homes:=fun l hl=>h l (hp.subset hl)
theorem GoodB.old{e s:Int}{T:List (List Wr)}{bs:List Octs}(h:GoodB e s T bs)(he:0≤e∧e<4294967296)(h0:0≤s)(h1:s+T.length≤4294967296)(hc:∀l∈T,cntN l<65536){e' s':Int}(hn:e<e'∨(e=e'∧s+T.length≤s')){p:Nat}{b:Octs}(hp:bs[p]?=some b):OldB e' s' b:=by
 rcases h p b hp with h2|h2
 ·have:=LT_tags he T s h0 h1 hc b (List.mem_of_getElem? h2)
  rcases hn with hn|⟨rfl,hn⟩
  ·exact .inl (by omega)
  ·exact .inr ⟨this.1,by omega⟩
 ·rcases hn with hn|⟨rfl,hn⟩
  ·exact h2.life hn
  ·exact h2.up (by omega)
theorem home_sure{n z B:Nat}{X:List Octs}{hm:Nat→Octs}{e s:Int}{T:List (List Wr)}(h:SureAt n z B X hm e s T){t:List Wr}(ht:t=tAll [] (fullT e s (jbX z X) T).flatten)(hto:TOk t (n - 1 - z:Int))(i:Nat)(ms:Octs):SureAt n z B (crashL ms ((homeWs z t (keysOf t)).take i) 0 X) hm e s T:=by
 refine h.part ht hto (by rw[crashL_length];exact h.len) (crashL_size ms _ _ _ h.size fun w hw=>?_) fun i b hb=>?_
 ·obtain⟨_,_,_,_,h5⟩:=homeWs_mem hto (List.mem_of_mem_take hw)
  exact h5
 ·rcases crash_poss ms _ _ _ hb with h1|⟨w,hw,h1,h2⟩
  ·exact .inl h1
  ·exact .inr ⟨w,List.mem_of_mem_take hw,h1,h2⟩
theorem home_laid{n z B:Nat}{X:List Octs}{hm:Nat→Octs}{e s:Int}{T:List (List Wr)}(h:SureAt n z B X hm e s T){t:List Wr}(ht:t=tAll [] (fullT e s (jbX z X) T).flatten)(hto:TOk t (n - 1 - z:Int)) :
  SureAt n z B (laid X (homeWs z t (keysOf t))) hm e s T∧∀k,k<n - 1 - z→(laid X (homeWs z t (keysOf t)))[1+z+k]?=some (hm k):=by
 have hsz:∀b∈laid X (homeWs z t (keysOf t)),b.length=128:=laid_size _ _ h.size fun w hw=>by
  obtain⟨_,_,_,_,h5⟩:=homeWs_mem hto hw
  exact h5
 have hk:∀k,k<n - 1 - z→(laid X (homeWs z t (keysOf t)))[1+z+k]?=some (hm k):=fun k hk=>by
  obtain⟨b,hb,he⟩:=h.home k hk
  rw[←ht]at he
  rw[home_high hto h.len hk hb,he]
 refine⟨h.part ht hto (by rw[laid_length];exact h.len) hsz fun i b hb=>?_,hk⟩
 by_cases hi:i≤z
 ·rw[home_low hto X hi]at hb
  exact .inl hb
 ·have hlt:i<n:=by rw[←h.len,←laid_length (homeWs z t (keysOf t)) X];exact(List.getElem?_eq_some_iff.1 hb).1
  obtain⟨k,rfl⟩:∃k,i=1+z+k:=⟨i - 1 - z,by omega⟩
  have hxl:1+z+k<X.length:=by rw[h.len];exact hlt
  have hx:X[1+z+k]?=some X[1+z+k]:=List.getElem?_eq_getElem hxl
  rw[home_high hto h.len (by omega) hx]at hb
  cases hg:tGet t (k:Int)with
  | none=>rw[hg]at hb;exact .inl (by rw[hx];exact hb)
  | some x=>
   rw[hg,Option.getD_some,Option.some.injEq]at hb
   subst hb
   refine .inr ⟨(1+(z:Int)+k,x),?_,by simp only;omega,rfl⟩
   unfold homeWs
   refine List.mem_map.2 ⟨k,keysOf_mem.2 ?_,by rw[hg];rfl⟩
   by_cases hkm:(k:Int)∈t.map (·.1)
   ·exact hkm
   ·rw[tGet_none hkm]at hg;cases hg
theorem hdr_sure{n z B:Nat}{X:List Octs}{hm:Nat→Octs}{e s:Int}{T:List (List Wr)}(h:SureAt n z B X hm e s T)(hk:∀k,k<n - 1 - z→X[1+z+k]?=some (hm k)){e' s':Int}(hn:e<e'∨(e=e'∧s+T.length≤s')){B':Nat}(hly:Lays n z B' e' s' []) :
  SureAt n z B' (X.set 0 (hdrB ⟨e',s',z⟩)) hm e' s' []:=by
 have hzn:=h.lays.zn
 have hb:=h.lays.bb
 have htop:=h.lays.top
 have he0:=h.lays.e0
 have hs0:=h.lays.s0
 refine .fresh hly (by rw[List.length_set];exact h.len) (fun b hb=>?_) (by rw[List.getElem?_set_self (by have:=h.len;omega)]) (fun p b hp hb=>?_) fun k hk'=>by rw[List.getElem?_set_ne (by omega)];exact hk k hk'
 ·rcases List.mem_or_eq_of_mem_set hb with hb|rfl
  ·exact h.size b hb
  ·exact hdrB_len _
 ·rw[List.getElem?_set_ne (by omega),←jbX_at hp]at hb
  exact h.good.old ⟨by omega,by omega⟩ (by omega) (by omega) (fun l hl=>(h.lays.may l hl).2) hn hb
theorem begin_cases{n z B:Nat}{X:List Octs}{hm:Nat→Octs}{e s:Int}{T:List (List Wr)}(h:SureAt n z B X hm e s T){J:Jn}{D:Dev}{K:List Octs}{P:List (Int×Octs)}(ha:At D K P)(hX:laid K P=X)(hJs:J.h.size=z)
  (hJt:J.taken=tAll [] (fullT e s (jbX z X) T).flatten) {e' s':Int} (hn:e<e'∨(e=e'∧s+T.length≤s')) {B':Nat} (hB:B≤B') (hly:Lays n z B' e' s' []) :
  ((goHomeM n J D).2=0∧(beginM n ⟨e',s',z⟩ J (goHomeM n J D).1).2.2=0∧(beginM n ⟨e',s',z⟩ J (goHomeM n J D).1).2.1={J with h:=⟨e',s',z⟩,used:=0,taken:=[]} ∧
   ∃K',At (beginM n ⟨e',s',z⟩ J (goHomeM n J D).1).1 K' []∧SureAt n z B' K' hm e' s' []∧(∀k,k<n - 1 - z→K'[1+z+k]?=some (hm k))∧(D.fuse=-1→(beginM n ⟨e',s',z⟩ J (goHomeM n J D).1).1.fuse=-1)) ∨
  (D.fuse≠-1∧(goHomeM n J D).2=4∧∃i,Down (goHomeM n J D).1 K (P++(homeWs z J.taken (keysOf J.taken)).take i)) ∨
  (D.fuse≠-1∧(goHomeM n J D).2=0∧(beginM n ⟨e',s',z⟩ J (goHomeM n J D).1).2.2=4∧∃K' P',Down (beginM n ⟨e',s',z⟩ J (goHomeM n J D).1).1 K' P'∧∀ms,Sure n z B' (crashL ms P' 0 K') hm):=by
 have hzn:=h.lays.zn
 have hto:TOk J.taken (n - 1 - z:Int):=by rw[hJt];exact(h.lays.may.pre (fullT_pre e T s _)).tok
 have hgo:goHomeM n J D=goW n z J.taken (keysOf J.taken) D:=by unfold goHomeM keysOf;rw[hJs]
 rw[hgo]
 have hok:∀k∈keysOf J.taken,0≤1+(z:Int)+k∧1+(z:Int)+k<n∧((tGet J.taken k).getD []).length=128:=fun k hk=>by
  obtain⟨x,hx,hxm⟩:=tGet_mem (keysOf_mem.1 hk)
  have:=hto.1 _ hxm
  simp only at this
  rw[hx]
  exact⟨by omega,by omega,this.2.2⟩
 rcases goW_cases (n:=n) (size:=z) (t:=J.taken) (keysOf J.taken) ha hok with⟨g1,g2,g3⟩|⟨g1,g2,g3⟩
 ·have hlaid:laid K (P++homeWs z J.taken (keysOf J.taken))=laid X (homeWs z J.taken (keysOf J.taken)):=by
   rw[←hX];unfold laid;rw[List.foldl_append]
  rw[hlaid]at g2
  obtain⟨q1,q2⟩:=home_laid h hJt hto
  generalize laid X (homeWs z J.taken (keysOf J.taken))=X1 at *
  generalize goW n z J.taken (keysOf J.taken) D=r at *
  unfold beginM
  have hset:laid X1 [((0:Int),hdrB ⟨e',s',z⟩)]=X1.set 0 (hdrB ⟨e',s',z⟩):=rfl
  have hs:=hdr_sure q1 q2 hn hly
  have hk':∀k,k<n - 1 - z→(X1.set 0 (hdrB ⟨e',s',z⟩))[1+z+k]?=some (hm k):=fun k hk=>by rw[List.getElem?_set_ne (by omega)];exact q2 k hk
  have old:∀ms,Sure n z B' (crashL ms [] 0 X1) hm:=fun ms=>Sure.up ⟨e,s,T,q1⟩ hB hly.bb
  rcases write_cases (n:=n) (k:=0) g2 ⟨by omega,by omega⟩ (hdrB_len ⟨e',s',z⟩)with⟨w1,w2,w3⟩|⟨w1,w2,w3⟩
  ·rw[if_neg (by simp[w1])]
   rcases flush_cases w2 with⟨f1,f2,f3⟩|⟨f1,f2,f3⟩
   ·rw[if_neg (by simp[f1])]
    rw[List.nil_append,hset]at f2
    exact .inl ⟨g1,rfl,rfl,_,f2,hs,hk',fun he=>f3 (w3 (g3 he))⟩
   ·rw[if_pos (by simp[f1])]
    refine .inr (.inr ⟨fun he=>f3 (w3 (g3 he)),g1,f1,X1,_,f2,fun ms=>?_⟩)
    rw[List.nil_append,crashL,crashL]
    split
    ·exact⟨e',s',[],hs⟩
    ·exact old ms
  ·rw[if_pos (by simp[w1])]
   exact .inr (.inr ⟨fun he=>w3 (g3 he),g1,w1,X1,[],w2,old⟩)
 ·exact .inr (.inl ⟨g3,g1,g2⟩)
end Go.Proofs
end
section
open Go Go.Vc
namespace Go.Proofs
structure Pers(n z B:Nat) (K:List Octs) (P:List (Int×Octs)) (e s:Int) (T:List (List Wr)) (f:Nat) (base:Nat→Octs):Prop where
 lays:Lays n z B e s T
 fits:(LT e s T).length≤z
 ff:f≤T.length
 len:K.length=n
 size:∀b∈K,b.length=128
 hdr:K[0]?=some (hdrB ⟨e,s,z⟩)
 pin:∀w∈P,∃p:Nat,w.1=((1+p:Nat):Int)∧(LT e s T)[p]?=some w.2
 jb:∀(p:Nat) (b:Octs),p<z→K[1+p]?=some b→(LT e s T)[p]?=some b∨OldB e s b
 ahead:∀(p:Nat) (b:Octs),(LT e s (T.take f))[p]?=some b→K[1+p]?=some b
 home:∀k,k<n - 1 - z→K[1+z+k]?=some (base k)
theorem Pers.lt{n z B:Nat}{K:List Octs}{P:List (Int×Octs)}{e s:Int}{T:List (List Wr)}{f:Nat}{base:Nat→Octs}(h:Pers n z B K P e s T f base){w:Int×Octs}(hw:w∈P):∃p:Nat,w.1.toNat=1+p∧p<z∧(LT e s T)[p]?=some w.2∧w.2.length=128:=by
 obtain⟨p,h1,h2⟩:=h.pin w hw
 have:=(List.getElem?_eq_some_iff.1 h2).1
 have hf:=h.fits
 exact⟨p,by omega,by omega,h2,LT_size T s (fun l hl=>(h.lays.may l hl).1.full) _ (List.mem_of_getElem? h2)⟩
theorem Pers.crash{n z B:Nat}{K:List Octs}{P:List (Int×Octs)}{e s:Int}{T:List (List Wr)}{f:Nat}{base:Nat→Octs}(h:Pers n z B K P e s T f base)(ms:Octs):∃j,f≤j∧j≤T.length∧Sure n z B (crashL ms P 0 K) (hmT base (T.take j)):=by
 have hzn:=h.lays.zn
 have hl:(crashL ms P 0 K).length=n:=by rw[crashL_length];exact h.len
 have hs:∀b∈crashL ms P 0 K,b.length=128:=crashL_size ms _ _ _ h.size fun w hw=>by obtain⟨_,_,_,_,h5⟩:=h.lt hw;exact h5
 have low:∀{i:Nat} {b:Octs},(crashL ms P 0 K)[i]?=some b→K[i]?=some b∨∃p,i=1+p∧p<z∧(LT e s T)[p]?=some b:=fun hb=>by
  rcases crash_poss ms _ _ _ hb with h1|⟨w,hw,h1,rfl⟩
  ·exact .inl h1
  ·obtain⟨p,h2,h3,h4,_⟩:=h.lt hw
   exact .inr ⟨p,by omega,h3,h4⟩
 generalize crashL ms P 0 K=X at *
 have hpre:=fullT_pre e T s (jbX z X)
 obtain⟨j,hj,hT⟩:∃j,j≤T.length∧fullT e s (jbX z X) T=T.take j:=⟨_,hpre.length_le,List.prefix_iff_eq_take.1 hpre⟩
 refine⟨j,?_,hj,e,s,T,h.lays,hl,hs,?_,fun p b hp=>?_,fun k hk=>?_⟩
 ·have h1:LT e s (T.take f) <+: jbX z X:=prefix_of _ _ fun p b hp=>by
   have hLT:(LT e s T)[p]?=some b:=by
    conv=>lhs;rw[←List.take_append_drop f T,LT_app]
    rw[List.getElem?_append_left (List.getElem?_eq_some_iff.1 hp).1]
    exact hp
   have hpz:p<z:=by have:=(List.getElem?_eq_some_iff.1 hLT).1;have:=h.fits;omega
   rw[jbX_at hpz]
   have hx:X[1+p]?=some (X[1+p]'(by omega)):=List.getElem?_eq_getElem _
   rw[hx]
   rcases low hx with h2|⟨q,h2,h3,h4⟩
   ·rw[←h2];exact h.ahead p b hp
   ·have:q=p:=by omega
    subst this
    rw[←h4];exact hLT
  have h2:=(fullT_ahead e (T.take f) (T.drop f) s _ h1).length_le
  rw[List.take_append_drop,hT,List.length_take,List.length_take]at h2
  have:=h.ff
  omega
 ·have hx:X[0]?=some (X[0]'(by omega)):=List.getElem?_eq_getElem _
  rcases low hx with h2|⟨q,h2,_⟩
  ·rw[hx,←h2];exact h.hdr
  ·omega
 ·have hpz:=jbX_lt hp
  rw[jbX_at hpz]at hp
  rcases low hp with h2|⟨q,h2,h3,h4⟩
  ·exact h.jb p b hpz h2
  ·have:q=p:=by omega
   subst this
   exact .inl h4
 ·have hlt:1+z+k<X.length:=by omega
  have hx:X[1+z+k]?=some X[1+z+k]:=List.getElem?_eq_getElem hlt
  refine⟨_,hx,?_⟩
  rw[hT]
  rcases low hx with h2|⟨q,h2,h3,_⟩
  ·rw[h.home k hk]at h2
   rw[←Option.some.inj h2]
   rfl
  ·omega
structure Live(n z B:Nat) (J:Jn) (D:Dev) (e s:Int) (T:List (List Wr)) (f:Nat) (base:Nat→Octs):Prop where
 pers:Pers n z B D.kept D.pend e s T f base
 dead:D.dead=false
 jdead:J.dead=false
 jh:J.h=⟨e,s+T.length,z⟩
 used:J.used=(LT e s T).length
 taken:J.taken=tAll [] T.flatten
 now:∀(p:Nat) (b:Octs),(LT e s T)[p]?=some b→D.now[1+p]?=some b
def LiveA(n z B:Nat)(J:Jn)(D:Dev)(cur:Nat→Octs)(S:(Nat→Octs)→Prop):Prop:=
 ∃e s T f base,Live n z B J D e s T f base∧cur=hmT base T∧∀j,f≤j→j≤T.length→S (hmT base (T.take j))
def Fell(n z B:Nat)(D:Dev)(S:(Nat→Octs)→Prop):Prop:=D.dead=true∧∀ms,∃hm,S hm∧Sure n z B (crashL ms D.pend 0 D.kept) hm
theorem Live.low{n z B:Nat}{J:Jn}{D:Dev}{e s:Int}{T:List (List Wr)}{f:Nat}{base:Nat→Octs}(h:Live n z B J D e s T f base){i:Nat}(hi:i=0∨z<i):D.now[i]?=D.kept[i]?:=
 laid_none _ _ fun w hw=>by
  obtain⟨p,h1,h2,_⟩:=h.pers.lt hw
  omega
theorem Live.at_{n z B:Nat}{J:Jn}{D:Dev}{e s:Int}{T:List (List Wr)}{f:Nat}{base:Nat→Octs}(h:Live n z B J D e s T f base):At D D.kept D.pend:=⟨rfl,rfl,h.dead⟩
theorem Live.sure{n z B:Nat}{J:Jn}{D:Dev}{e s:Int}{T:List (List Wr)}{f:Nat}{base:Nat→Octs}(h:Live n z B J D e s T f base):SureAt n z B D.now (hmT base T) e s T∧fullT e s (jbX z D.now) T=T:=by
 have hp:=h.pers
 have hzn:=hp.lays.zn
 have hfull:fullT e s (jbX z D.now) T=T:=by
  have h1:LT e s T <+: jbX z D.now:=prefix_of _ _ fun p b hb=>by
   have:=(List.getElem?_eq_some_iff.1 hb).1
   rw[jbX_at (by have:=hp.fits;omega)]
   exact h.now p b hb
  have h2:=(fullT_ahead e T [] s _ h1)
  rw[List.append_nil]at h2
  exact(h2.eq_of_length_le (fullT_pre e T s _).length_le).symm
 refine⟨⟨hp.lays,by unfold Dev.now;rw[laid_length];exact hp.len,laid_size _ _ hp.size fun w hw=>by obtain⟨_,_,_,_,h5⟩:=hp.lt hw;exact h5,by rw[h.low (.inl rfl)];exact hp.hdr,fun p b hb=>?_,fun k hk=>?_⟩,hfull⟩
 ·have hpz:=jbX_lt hb
  rw[jbX_at hpz]at hb
  by_cases hl:p<(LT e s T).length
  ·have h1:(LT e s T)[p]?=some (LT e s T)[p]:=List.getElem?_eq_getElem hl
   rw[h.now p _ h1]at hb
   rw[h1];exact .inl hb
  ·have:D.now[1+p]?=D.kept[1+p]?:=laid_none _ _ fun w hw=>by
    obtain⟨q,h1,h2,h3,_⟩:=hp.lt hw
    have:=(List.getElem?_eq_some_iff.1 h3).1
    omega
   rw[this]at hb
   exact hp.jb p b hpz hb
 ·rw[hfull,h.low (.inr (by omega)),hp.home k hk]
  exact⟨_,rfl,rfl⟩
theorem Live.crash{n z B:Nat}{J:Jn}{D:Dev}{cur:Nat→Octs}{S:(Nat→Octs)→Prop}(h:LiveA n z B J D cur S)(ms:Octs):∃hm,S hm∧Sure n z B (crashL ms D.pend 0 D.kept) hm:=by
 obtain⟨e,s,T,f,base,h,_,hS⟩:=h
 obtain⟨j,h1,h2,h3⟩:=h.pers.crash ms
 exact⟨_,hS j h1 h2,h3⟩
theorem live_new{n z B:Nat}{X:List Octs}{hm:Nat→Octs}{e s:Int}(h:SureAt n z B X hm e s []){D:Dev}(ha:At D X []){J:Jn}(hJ:J=⟨⟨e,s,z⟩,0,[],false⟩):Live n z B J D e s [] 0 hm:=by
 obtain⟨rfl,hp,hd⟩:=ha
 refine⟨⟨h.lays,Nat.zero_le _,Nat.le_refl _,h.len,h.size,h.hdr,by rw[hp];simp,fun p b hz hb=>?_,by simp[LT],fun k hk=>?_⟩,hd,by rw[hJ],by rw[hJ];simp,by rw[hJ];rfl,by rw[hJ];rfl,by simp[LT]⟩
 ·rcases h.good p b (by rw[jbX_at hz];exact hb)with h1|h1
  ·simp[LT]at h1
  ·exact .inr h1
 ·obtain⟨b,hb,he⟩:=h.home k hk
  rw[hb]
  exact congrArg _ he
theorem Lays.next{n z B:Nat}{e s:Int}{T:List (List Wr)}(h:Lays n z B e s T){B':Nat}(hB:B+1≤B')(hB':B'≤1000000000):Lays n z B' (e+1) 1 []:=
 ⟨h.zn,h.nn,by have:=h.e0;omega,Int.le_refl _,⟨by have:=h.top;omega,by have:=h.top;have:=h.e0;simp;omega⟩,hB',by intro l hl;cases hl⟩
theorem open_cases{n z B:Nat}{X:List Octs}{hm:Nat→Octs}(h:Sure n z B X hm){D:Dev}{K:List Octs}{P:List (Int×Octs)}(ha:At D K P)(hX:laid K P=X)(hB:B+1≤1000000000) :
  (∃J e,openM n D=((openM n D).1,some J,0)∧Live n z (B+1) J (openM n D).1 e 1 [] 0 hm∧(D.fuse=-1→(openM n D).1.fuse=-1)) ∨
  (openM n D=((openM n D).1,none,4)∧D.fuse≠-1∧(openM n D).1.dead=true∧(P=[]→∀ms,Sure n z (B+1) (crashL ms (openM n D).1.pend 0 (openM n D).1.kept) hm)):=by
 obtain⟨e,s,T,h⟩:=h
 have hzn:=h.lays.zn
 have hnn:=h.lays.nn
 have he0:=h.lays.e0
 have hs0:=h.lays.s0
 have htop:=h.lays.top
 have hnow:D.now=X:=by unfold Dev.now;rw[ha.kept,ha.pend];exact hX
 have hread:readM n D=(⟨e,s,z⟩,0):=readM_good ha.dead (by rw[hnow];exact h.hdr) ⟨by omega,by omega⟩ ⟨hs0,by omega⟩ hzn hnn
 have hjl:(jbX z X).length=z:=by unfold jbX;rw[List.length_take,List.length_drop,h.len];omega
 have hho:homeN n z=n - 1 - z:=homeN_of (by omega)
 have hrec:recL ((jblocks D z).length+1) ⟨e,s,z⟩ (jblocks D z) [] (homeN n z)=(⟨e,s+(fullT e s (jbX z X) T).length,z⟩,tAll [] (fullT e s (jbX z X) T).flatten):=by
  have:jblocks D z=jbX z X:=by unfold jblocks jbX;rw[hnow,Int.toNat_natCast]
  rw[this,hho]
  exact recL_good e z _ (by omega) (by omega) (by omega) T s _ [] _ (by omega) (by omega) h.lays.may h.good (by omega)
 have hopen:openM n D=(if(recoverM n ⟨⟨e,s,z⟩,0,[],false⟩ D).2.2≠0 then((recoverM n ⟨⟨e,s,z⟩,0,[],false⟩ D).1,none,(recoverM n ⟨⟨e,s,z⟩,0,[],false⟩ D).2.2)else((recoverM n ⟨⟨e,s,z⟩,0,[],false⟩ D).1,some (recoverM n ⟨⟨e,s,z⟩,0,[],false⟩ D).2.1,0)):=by
  unfold openM;rw[hread];simp
 generalize hJ1:(⟨⟨e,s+(fullT e s (jbX z X) T).length,z⟩,0,tAll [] (fullT e s (jbX z X) T).flatten,false⟩:Jn)=J1 at *
 have hrecM:recoverM n ⟨⟨e,s,z⟩,0,[],false⟩ D=if(goHomeM n J1 D).2≠0 then((goHomeM n J1 D).1,J1,(goHomeM n J1 D).2)else beginM n ⟨e+1,1,z⟩ J1 (goHomeM n J1 D).1:=by
  unfold recoverM
  rw[if_neg (by simp[ha.dead])]
  simp only[hrec,hJ1]
 have hlast:=begin_cases h (J:=J1) ha hX (by rw[←hJ1]) (by rw[←hJ1]) (e':=e+1) (s':=1) (.inl (by omega)) (B':=B+1) (by omega) (h.lays.next (Nat.le_refl _) hB)
 rcases hlast with⟨g1,g2,g3,K',g4,g5,g6,g7⟩|⟨g0,g1,i,g2⟩|⟨g0,g1,g2,K',P',g3,g4⟩
 ·rw[if_neg (by simp[g1])]at hrecM
  rw[hrecM,if_neg (by simp[g2])]at hopen
  refine .inl ⟨(beginM n ⟨e+1,1,z⟩ J1 (goHomeM n J1 D).1).2.1,e+1,by rw[hopen],?_,by rw[hopen];exact g7⟩
  rw[hopen]
  exact live_new g5 g4 (by rw[g3,←hJ1])
 ·rw[if_pos (by simp[g1])]at hrecM
  rw[hrecM,if_pos (by simp[g1])]at hopen
  simp only[g1]at hopen
  refine .inr ⟨by rw[hopen],g0,by rw[hopen];exact g2.dead,fun hP ms=>?_⟩
  rw[hopen]
  simp only[g2.pend,g2.kept]
  subst hP
  have hKX:K=X:=hX
  rw[List.nil_append,hKX,←hJ1]
  exact Sure.up ⟨e,s,T,home_sure h rfl ((h.lays.may.pre (fullT_pre e T s _)).tok) i ms⟩ (by omega) hB
 ·rw[if_neg (by simp[g1])]at hrecM
  rw[hrecM,if_pos (by simp[g2])]at hopen
  rw[g2]at hopen
  refine .inr ⟨by rw[hopen],g0,by rw[hopen];exact g3.dead,fun _ ms=>?_⟩
  rw[hopen]
  simp only[g3.pend,g3.kept]
  exact g4 ms
theorem Live.up{n z B B':Nat}{J:Jn}{D:Dev}{e s:Int}{T:List (List Wr)}{f:Nat}{base:Nat→Octs}(h:Live n z B J D e s T f base)(h1:B≤B')(h2:B'≤1000000000):Live n z B' J D e s T f base:=
 ⟨⟨h.pers.lays.up h1 h2,h.pers.fits,h.pers.ff,h.pers.len,h.pers.size,h.pers.hdr,h.pers.pin,h.pers.jb,h.pers.ahead,h.pers.home⟩,h.dead,h.jdead,h.jh,h.used,h.taken,h.now⟩
theorem LiveA.up{n z B B':Nat}{J:Jn}{D:Dev}{cur:Nat→Octs}{S S':(Nat→Octs)→Prop}(h:LiveA n z B J D cur S)(h1:B≤B')(h2:B'≤1000000000)(hS:∀x,S x→S' x):LiveA n z B' J D cur S':=by
 obtain⟨e,s,T,f,base,h,hc,hs⟩:=h
 exact⟨e,s,T,f,base,h.up h1 h2,hc,fun j a b=>hS _ (hs j a b)⟩
theorem Live.flushed{n z B:Nat}{J:Jn}{D D':Dev}{e s:Int}{T:List (List Wr)}{f:Nat}{base:Nat→Octs}(h:Live n z B J D e s T f base)(ha:At D' D.now []):Live n z B J D' e s T T.length base:=by
 have hs:=h.sure.1
 have hp:=h.pers
 refine⟨⟨hp.lays,hp.fits,Nat.le_refl _,by rw[ha.kept];exact hs.len,by rw[ha.kept];exact hs.size,by rw[ha.kept];exact hs.hdr,by rw[ha.pend];simp,fun p b hz hb=>?_,fun p b hb=>?_,fun k hk=>?_⟩,ha.dead,h.jdead,h.jh,h.used,h.taken,fun p b hb=>?_⟩
 ·rw[ha.kept]at hb
  exact hs.good p b (by rw[jbX_at hz];exact hb)
 ·rw[List.take_length]at hb
  rw[ha.kept];exact h.now p b hb
 ·rw[ha.kept,h.low (.inr (by omega))];exact hp.home k hk
 ·unfold Dev.now
  rw[ha.kept,ha.pend]
  exact h.now p b hb
theorem endsM_ok{J:Jn}(h:J.dead=false):endsM J 0=J:=by
 obtain⟨a,b,c,d⟩:=J
 simp only at h
 subst h
 rfl
theorem sync_cases{n z B:Nat}{J:Jn}{D:Dev}{cur:Nat→Octs}{S:(Nat→Octs)→Prop}(h:LiveA n z B J D cur S):((syncM J D).2.2=0∧(∀S':(Nat→Octs)→Prop,S' cur→LiveA n z B (syncM J D).2.1 (syncM J D).1 cur S')∧(D.fuse=-1→(syncM J D).1.fuse=-1))∨((syncM J D).2.2=4∧Fell n z B (syncM J D).1 S∧D.fuse≠-1):=by
 obtain⟨e,s,T,f,base,h,hc,hS⟩:=h
 unfold syncM
 rw[if_neg (by simp[h.jdead])]
 rcases flush_cases h.at_ with⟨g1,g2,g3⟩|⟨g1,g2,g3⟩
 ·refine .inl ⟨g1,fun S' hS'=>?_,g3⟩
  simp only[g1,endsM_ok h.jdead]
  exact⟨e,s,T,_,base,h.flushed g2,hc,fun j h1 h2=>by rw[show j=T.length by omega,List.take_length,←hc];exact hS'⟩
 ·refine .inr ⟨g1,⟨g2.dead,fun ms=>?_⟩,g3⟩
  simp only[g2.pend,g2.kept]
  obtain⟨j,h1,h2,h3⟩:=h.pers.crash ms
  exact⟨_,hS j h1 h2,h3⟩
theorem checkpoint_cases{n z B:Nat}{J:Jn}{D:Dev}{cur:Nat→Octs}{S:(Nat→Octs)→Prop}(h:LiveA n z B J D cur S):((checkpointM n J D).2.2=0∧(∀S':(Nat→Octs)→Prop,S' cur→LiveA n z B (checkpointM n J D).2.1 (checkpointM n J D).1 cur S')∧(D.fuse=-1→(checkpointM n J D).1.fuse=-1))∨((checkpointM n J D).2.2=4∧Fell n z B (checkpointM n J D).1 S∧D.fuse≠-1):=by
 obtain⟨e,s,T,f,base,h,hc,hS⟩:=h
 have hScur:S cur:=by have:=hS T.length h.pers.ff (Nat.le_refl _);rw[List.take_length,←hc]at this;exact this
 have hM:checkpointM n J D=((ckptM n J D).1,endsM (ckptM n J D).2.1 (ckptM n J D).2.2,(ckptM n J D).2.2):=by
  unfold checkpointM;rw[if_neg (by simp[h.jdead])]
 rw[hM]
 unfold ckptM
 rcases flush_cases h.at_ with⟨g1,g2,g3⟩|⟨g1,g2,g3⟩
 ·rw[if_neg (by simp[g1])]
  have hl:=h.flushed g2
  have hnow:laid (flushD D).1.kept (flushD D).1.pend=D.now:=by rw[g2.kept,g2.pend];rfl
  obtain⟨q1,q2⟩:=h.sure
  have hly:Lays n z B e (s+T.length) []:=⟨h.pers.lays.zn,h.pers.lays.nn,h.pers.lays.e0,by have:=h.pers.lays.s0;omega,⟨h.pers.lays.top.1,by have:=h.pers.lays.top.2;simp;omega⟩,h.pers.lays.bb,by intro l hl;cases hl⟩
  have hjh:(⟨e,s+T.length,z⟩:Hd)=J.h:=h.jh.symm
  have hlast:=begin_cases q1 (J:=J) g2 rfl (by rw[h.jh]) (by rw[h.taken,q2]) (e':=e) (s':=s+T.length) (.inr ⟨rfl,Int.le_refl _⟩) (Nat.le_refl B) hly
  rw[hjh]at hlast
  generalize (flushD D).1=D1 at *
  rcases hlast with⟨k1,k2,k3,K',k4,k5,k6,k7⟩|⟨k0,k1,i,k2⟩|⟨k0,k1,k2,K',P',k3,k4⟩
  ·rw[if_neg (by simp[k1])]
   refine .inl ⟨k2,fun S' hS'=>?_,fun he=>k7 (g3 he)⟩
   simp only[k2]
   rw[endsM_ok (by rw[k3];exact h.jdead)]
   exact⟨e,s+T.length,[],0,hmT base T,live_new k5 k4 (by rw[k3,h.jdead,h.jh]),hc,fun j h1 h2=>by simp only[List.take_nil,hmT_nil];rw[←hc];exact hS'⟩
  ·rw[if_pos (by simp[k1])]
   refine .inr ⟨k1,⟨k2.dead,fun ms=>⟨cur,hScur,?_⟩⟩,fun he=>k0 (g3 he)⟩
   simp only[k2.pend,k2.kept,List.nil_append]
   rw[hc]
   exact⟨e,s,T,home_sure q1 (by rw[h.taken,q2]) (by rw[h.taken];exact h.pers.lays.may.tok) i ms⟩
  ·rw[if_neg (by simp[k1])]
   refine .inr ⟨k2,⟨k3.dead,fun ms=>⟨cur,hScur,?_⟩⟩,fun he=>k0 (g3 he)⟩
   simp only[k3.pend,k3.kept]
   rw[hc]
   exact k4 ms
 ·rw[if_pos (by simp[g1])]
  refine .inr ⟨g1,⟨g2.dead,fun ms=>?_⟩,g3⟩
  simp only[g2.pend,g2.kept]
  obtain⟨j,h1,h2,h3⟩:=h.pers.crash ms
  exact⟨_,hS j h1 h2,h3⟩
theorem rowWs_mem:∀(bs:List Octs)(u:Int){w:Int×Octs},w∈rowWs u bs→∃i:Nat,w.1=1+u+i∧bs[i]?=some w.2
 | [],u,w,h=>by cases h
 | b::bs,u,w,h=>by
  rcases List.mem_cons.1 h with rfl|h
  ·exact⟨0,by simp,rfl⟩
  ·obtain⟨i,h1,h2⟩:=rowWs_mem bs (u+1) h
   exact⟨i+1,by rw[h1];omega,by simpa using h2⟩
theorem rowWs_at:∀(bs:List Octs)(u:Int){i:Nat}{b:Octs},bs[i]?=some b→(1+u+i,b)∈rowWs u bs
 | [],u,i,b,h=>by simp at h
 | c::bs,u,0,b,h=>by
  simp only[List.getElem?_cons_zero,Option.some.injEq]at h
  subst h
  simp[rowWs]
 | c::bs,u,i+1,b,h=>by
  have:=rowWs_at bs (u+1) (i:=i) (b:=b) (by simpa using h)
  rw[rowWs]
  refine List.mem_cons_of_mem _ ?_
  rw[show 1+u+((i+1:Nat):Int)=1+(u+1)+i by omega]
  exact this
theorem Pers.add{n z B:Nat}{K:List Octs}{P:List (Int×Octs)}{e s:Int}{T:List (List Wr)}{f:Nat}{base:Nat→Octs}(h:Pers n z B K P e s T f base){l:List Wr}(hm:MayP l (n - 1 - z:Int))(hfit:(LT e s T).length+cntN l≤z)(hB:B+1≤1000000000){W:List (Int×Octs)}(hW:∀w∈W,w∈rowWs (LT e s T).length (laidB ⟨e,s+T.length,z⟩ l)):Pers n z (B+1) K (P++W) e s (T++[l]) f base:=by
 have happ:LT e s (T++[l])=LT e s T++laidB ⟨e,s+T.length,z⟩ l:=by rw[LT_app];simp[LT,laidB_size]
 have hzn:=h.lays.zn
 have hnn:=h.lays.nn
 have keep:∀{p:Nat} {b:Octs},(LT e s T)[p]?=some b→(LT e s (T++[l]))[p]?=some b:=fun hb=>by
  rw[happ,List.getElem?_append_left (List.getElem?_eq_some_iff.1 hb).1];exact hb
 refine⟨⟨h.lays.zn,h.lays.nn,h.lays.e0,h.lays.s0,⟨by have:=h.lays.top;omega,by have:=h.lays.top;simp;omega⟩,hB,fun x hx=>?_⟩,by rw[happ,List.length_append,laidB_len];exact hfit,by have:=h.ff;simp;omega,h.len,h.size,h.hdr,fun w hw=>?_,fun p b hz hb=>?_,fun p b hb=>?_,h.home⟩
 ·rcases List.mem_append.1 hx with hx|hx
  ·exact h.lays.may x hx
  ·simp only[List.mem_singleton]at hx
   subst hx
   exact⟨hm,by omega⟩
 ·rcases List.mem_append.1 hw with hw|hw
  ·obtain⟨p,h1,h2⟩:=h.pin w hw
   exact⟨p,h1,keep h2⟩
  ·obtain⟨i,h1,h2⟩:=rowWs_mem _ _ (hW w hw)
   refine⟨(LT e s T).length+i,by rw[h1];omega,?_⟩
   rw[happ,List.getElem?_append_right (by omega),Nat.add_sub_cancel_left]
   exact h2
 ·rcases h.jb p b hz hb with h1|h1
  ·exact .inl (keep h1)
  ·exact .inr h1
 ·rw[List.take_append_of_le_length h.ff]at hb
  exact h.ahead p b hb
theorem lay_cases{n z B:Nat}{J:Jn}{D:Dev}{cur:Nat→Octs}{S S':(Nat→Octs)→Prop}(h:LiveA n z B J D cur S){l:List Wr}(hm:MayP l (n - 1 - z:Int))(hfit:needsN l.length≤J.h.size - J.used)(hB:B+1≤1000000000)(hSS:∀x,S x→S' x)(hS':S' (overT cur l)) :
  ((layE n l J D).2.2=0∧LiveA n z (B+1) (layE n l J D).2.1 (layE n l J D).1 (overT cur l) S'∧(D.fuse=-1→(layE n l J D).1.fuse=-1))∨((layE n l J D).2.2=4∧Fell n z (B+1) (layE n l J D).1 S'∧D.fuse≠-1):=by
 obtain⟨e,s,T,f,base,h,hc,hS⟩:=h
 have hzn:=h.pers.lays.zn
 have hfits:(LT e s T).length+cntN l≤z:=by rw[needs_nat,h.used,h.jh]at hfit;simp only at hfit;omega
 have happ:LT e s (T++[l])=LT e s T++laidB ⟨e,s+T.length,z⟩ l:=by rw[LT_app];simp[LT,laidB_size]
 have hcur:hmT base (T++[l])=overT cur l:=by rw[hmT_snoc,hc]
 have hSnew:∀j,f≤j→j≤(T++[l]).length→S' (hmT base ((T++[l]).take j)):=fun j h1 h2=>by
  simp only[List.length_append,List.length_cons,List.length_nil]at h2
  by_cases hj:j≤T.length
  ·rw[List.take_append_of_le_length hj];exact hSS _ (hS j h1 hj)
  ·rw[List.take_of_length_le (by simp;omega),hcur];exact hS'
 have hlb:∀b∈laidB ⟨e,s+T.length,z⟩ l,b.length=128:=fun b hb=>by
  unfold laidB at hb
  obtain⟨k,hk,rfl⟩:=List.mem_map.1 hb
  exact jblk_len hm.full (by simpa using hk)
 unfold layE layM
 rw[h.jh,h.used]
 rcases layW_cases (n:=n) (laidB ⟨e,s+T.length,z⟩ l) (LT e s T).length h.at_ (by omega) (by rw[laidB_len];omega) hlb with⟨g1,g2,g3,g4⟩|⟨g1,⟨i,g2⟩,g3⟩
 ·simp only[g1,ne_eq,not_true,if_false]
  refine .inl ⟨trivial,⟨e,s,T++[l],f,base,⟨?_,g3.dead,?_,?_,?_,?_,fun p b hb=>?_⟩,hcur.symm,hSnew⟩,g4⟩
  ·rw[g3.kept,g3.pend];exact h.pers.add hm hfits hB (fun w hw=>hw)
  ·show(J.dead || decide ((0:Int)=4))=false
   rw[h.jdead];rfl
  ·show(⟨e,s+T.length+1,z⟩:Hd)=⟨e,s+(T++[l]).length,z⟩
   rw[List.length_append]
   congr 1
   simp;omega
  ·show(layW n (laidB ⟨e,s+T.length,z⟩ l) (LT e s T).length D).2.1=_
   rw[g2,happ,List.length_append];omega
  ·show tAll J.taken l=_
   rw[h.taken,List.flatten_append,tAll_app];simp
  ·have hd:(layW n (laidB ⟨e,s+T.length,z⟩ l) (LT e s T).length D).1.now=laid D.now (rowWs (LT e s T).length (laidB ⟨e,s+T.length,z⟩ l)):=by
    show laid _ _=_
    rw[g3.kept,g3.pend]
    unfold Dev.now laid
    rw[List.foldl_append]
   show(layW n (laidB ⟨e,s+T.length,z⟩ l) (LT e s T).length D).1.now[1+p]?=some b
   rw[hd]
   rw[happ]at hb
   by_cases hp:p<(LT e s T).length
   ·rw[List.getElem?_append_left hp]at hb
    rw[laid_none _ _ fun w hw=>?_]
    ·exact h.now p b hb
    ·obtain⟨i,h1,_⟩:=rowWs_mem _ _ hw
     omega
   ·rw[List.getElem?_append_right (by omega)]at hb
    have hlt:=(List.getElem?_eq_some_iff.1 hb).1
    rw[laidB_len]at hlt
    refine laid_same _ _ (fun w hw he=>?_) (.inr ⟨⟨_,rowWs_at _ _ hb,by simp only;omega⟩,?_⟩)
    ·obtain⟨i,h1,h2⟩:=rowWs_mem _ _ hw
     have:i=p - (LT e s T).length:=by omega
     subst this
     rw[hb]at h2
     exact(Option.some.inj h2).symm
    ·have:D.now.length=n:=by unfold Dev.now;rw[laid_length];exact h.pers.len
     omega
 ·simp only[g1,ne_eq,show ¬((4:Int)=0)by decide,not_false_eq_true,if_true]
  refine .inr ⟨trivial,⟨g2.dead,fun ms=>?_⟩,g3⟩
  rw[g2.pend,g2.kept]
  obtain⟨j,h1,h2,h3⟩:=(h.pers.add hm hfits hB (W:=(rowWs (LT e s T).length (laidB ⟨e,s+T.length,z⟩ l)).take i) (fun w hw=>List.mem_of_mem_take hw)).crash ms
  exact⟨_,hSnew j h1 h2,h3⟩
theorem commit_cases{n z B:Nat}{J:Jn}{D:Dev}{cur:Nat→Octs}{S S':(Nat→Octs)→Prop}(h:LiveA n z B J D cur S)(l:List Wr)(hB:B+1≤1000000000)(hSS:∀x,S x→S' x)(hS':S' (overT cur l)) :
  (¬MayP l (n - 1 - z:Int)∧commitM n l J D=(D,J,1))∨(MayP l (n - 1 - z:Int)∧(z:Int)<needsN l.length∧commitM n l J D=(D,J,5)) ∨
  (MayP l (n - 1 - z:Int)∧needsN l.length≤z∧(commitM n l J D).2.2=0∧LiveA n z (B+1) (commitM n l J D).2.1 (commitM n l J D).1 (overT cur l) S'∧(D.fuse=-1→(commitM n l J D).1.fuse=-1)) ∨
  (MayP l (n - 1 - z:Int)∧(commitM n l J D).2.2=4∧Fell n z (B+1) (commitM n l J D).1 S'∧D.fuse≠-1):=by
 have hL:=h
 obtain⟨e,s,T,f,base,h,hc,hS⟩:=h
 have hzn:=h.pers.lays.zn
 have hho:homeN n J.h.size=n - 1 - z:=by rw[h.jh];exact homeN_of (by simp only;omega)
 have hSc:S cur:=by have:=hS T.length h.pers.ff (Nat.le_refl _);rw[List.take_length,←hc]at this;exact this
 unfold commitM
 rw[hho]
 by_cases hm:MayP l (n - 1 - z:Int)
 ·rw[if_neg (by simp[mayB,hm]),if_neg (by simp[h.jdead])]
  have hz:J.h.size=z:=by rw[h.jh]
  by_cases hbig:J.h.size<needsN l.length
  ·rw[if_pos hbig]
   exact .inr (.inl ⟨hm,by omega,rfl⟩)
  ·rw[if_neg hbig]
   by_cases hck:J.h.size - J.used<needsN l.length
   ·rw[if_pos hck]
    rcases checkpoint_cases hL with⟨g1,g2,g3⟩|⟨g1,g2,g3⟩
    ·rw[if_neg (by simp[g1])]
     have ck:=checkpoint_ok0 g1
     have ckh:=checkpoint_h (n:=n) (J:=J) (D:=D)
     rcases lay_cases (S':=S') (g2 S hSc) hm (by rw[ck.1,ckh];omega) hB hSS hS' with⟨k1,k2,k3⟩|⟨k1,k2,k3⟩
     ·exact .inr (.inr (.inl ⟨hm,by omega,k1,k2,fun he=>k3 (g3 he)⟩))
     ·exact .inr (.inr (.inr ⟨hm,k1,k2,fun he=>k3 (g3 he)⟩))
    ·rw[if_pos (by simp[g1])]
     refine .inr (.inr (.inr ⟨hm,g1,⟨g2.1,fun ms=>?_⟩,g3⟩))
     obtain⟨x,h1,h2⟩:=g2.2 ms
     exact⟨x,hSS x h1,h2.up (by omega) hB⟩
   ·rw[if_neg hck]
    rcases lay_cases (S':=S') hL hm (by omega) hB hSS hS' with⟨k1,k2,k3⟩|⟨k1,k2,k3⟩
    ·exact .inr (.inr (.inl ⟨hm,by omega,k1,k2,k3⟩))
    ·exact .inr (.inr (.inr ⟨hm,k1,k2,k3⟩))
 ·rw[if_pos (by simp[mayB,hm])]
  exact .inl ⟨hm,rfl⟩
theorem live_read{n z B:Nat}{J:Jn}{D:Dev}{cur:Nat→Octs}{S:(Nat→Octs)→Prop}(h:LiveA n z B J D cur S){k:Nat}(hk:k<n - 1 - z):jreadM n k J D=(J,some (cur k),0):=by
 obtain⟨e,s,T,f,base,h,hc,hS⟩:=h
 have hzn:=h.pers.lays.zn
 have hho:homeN n J.h.size=n - 1 - z:=by rw[h.jh];exact homeN_of (by simp only;omega)
 unfold jreadM
 rw[hho,if_neg (by omega),if_neg (by simp[h.jdead]),h.taken,hc]
 unfold hmT overT
 cases hg:tGet (tAll [] T.flatten) k with
 | some x=>rfl
 | none=>
  simp only[Option.getD_none]
  rw[if_neg (by simp[h.dead]),endsM_ok h.jdead]
  have:(1+J.h.size+(k:Int)).toNat=1+z+k:=by rw[h.jh];simp only;omega
  rw[this,h.low (.inr (by omega)),h.pers.home k hk]
theorem format_sure{n z:Nat}(hzn:4≤z∧z+4≤n)(hn:n≤4096):(formatM n z (newD n)).2=0∧∃K,At (formatM n z (newD n)).1 K []∧(formatM n z (newD n)).1.fuse=-1∧Sure n z 1 K fun _=>zeros:=by
 have hho:homeN n z=n - 1 - z:=homeN_of (by omega)
 unfold formatM
 rw[hho,if_neg (by omega)]
 have ha:At (newD n) (List.replicate n zeros) []:=⟨rfl,rfl,rfl⟩
 obtain⟨W,h1,h2,h3,h4,h5⟩:=fmtW_safe (n:=n) (z:Int).toNat 0 ha rfl (Int.le_refl _) (by omega)
 generalize fmtW n (z:Int).toNat 0 (newD n)=r at *
 simp only
 rw[if_neg (by simp[h1])]
 rcases write_cases (n:=n) (k:=0) h2 ⟨by omega,by omega⟩ (hdrB_len ⟨1,1,z⟩)with⟨g1,g2,g3⟩|⟨_,_,g3⟩
 ·rw[if_neg (by simp[g1])]
  rcases flush_cases g2 with⟨k1,k2,k3⟩|⟨_,_,k3⟩
  ·have hz:laid (List.replicate n zeros) ([]++W)=List.replicate n zeros:=by
    rw[List.nil_append]
    apply List.ext_getElem?
    intro i
    by_cases hi:i<n
    ·rw[List.getElem?_replicate,if_pos hi]
     exact laid_same _ _ (fun w hw _=>(h4 w hw).1) (.inl (by rw[List.getElem?_replicate,if_pos hi]))
    ·rw[List.getElem?_eq_none (by rw[laid_length];simp;omega),List.getElem?_eq_none (by simp;omega)]
   have hK:laid (List.replicate n zeros) ([]++W++[(0,hdrB ⟨1,1,z⟩)])=(List.replicate n zeros).set 0 (hdrB ⟨1,1,z⟩):=by
    have:laid (List.replicate n zeros) ([]++W++[(0,hdrB ⟨1,1,z⟩)])=(laid (List.replicate n zeros) ([]++W)).set 0 (hdrB ⟨1,1,z⟩):=laid_snoc _ _ _
    rw[this,hz]
   rw[hK]at k2
   refine⟨k1,_,k2,k3 (g3 h3),1,1,[],.fresh ⟨hzn,hn,Int.le_refl _,Int.le_refl _,⟨by simp,by simp⟩,by omega,by intro l hl;cases hl⟩ (by simp) (fun b hb=>?_) ?_ (fun p b hp hb=>?_) fun k hk=>?_⟩
   ·rcases List.mem_or_eq_of_mem_set hb with hb|rfl
    ·rw[List.eq_of_mem_replicate hb];simp[zeros]
    ·exact hdrB_len _
   ·rw[List.getElem?_set_self (by simp;omega)]
   ·rw[List.getElem?_set_ne (by omega),List.getElem?_replicate]at hb
    split at hb
    ·cases hb
     exact .inl (by rw[tagE_zeros];decide)
    ·cases hb
   ·rw[List.getElem?_set_ne (by omega),List.getElem?_replicate,if_pos (by omega)]
  ·exact absurd (g3 h3) k3
 ·exact absurd h3 g3
end Go.Proofs
end
section
open Go Go.Vc
end
section
open Go Go.Vc
namespace Go.Proofs
structure JnIn(H0 H:Heap) (F:Nat→Prop) (pj pd:Nat) (J:Jn) (D:Dev) (n B:Nat):Prop where
 jd:JD H F pj pd J D
 wf:D.Wf n B
 jwf:J.Wf n
 low:∀i,F i→H0.size≤i
 ext:Ext [] H0 H
section
variable {H0 H H':Heap} {F:Nat→Prop} {pj pd:Nat} {J J':Jn} {D D':Dev} {n B B':Nat}
theorem JnIn.more(h:JnIn H0 H F pj pd J D n B)(hx:Ext [] H H'):JnIn H0 H' F pj pd J D n B:=
 ⟨h.jd.ext hx.toP (by simp),h.wf,h.jwf,h.low,h.ext.trans hx⟩
theorem JnIn.off(h:JnIn H0 H F pj pd J D n B){M:List Nat}(hx:Ext M H H')(hm:∀k∈M,H0.size≤k∧¬F k):JnIn H0 H' F pj pd J D n B:=
 ⟨h.jd.ext hx.toP (fun k hk hk'=>(hm k hk').2 hk),h.wf,h.jwf,h.low,ext_new h.ext hx (fun k hk=>(hm k hk).1)⟩
theorem JnIn.step(h:JnIn H0 H F pj pd J D n B)(hd:JD H' (grow F H H') pj pd J' D')(hx:ExtP F H H')(hw:D'.Wf n B')(hj:J'.Wf n):JnIn H0 H' (grow F H H') pj pd J' D' n B':=
 ⟨hd,hw,hj,fun i hi=>by
  rcases hi with hi|hi
  ·exact h.low i hi
  ·have:=h.ext.size;omega,h.ext.transP hx h.low⟩
theorem JnIn.same(h:JnIn H0 H F pj pd J D n B)(hd:JD H' F pj pd J' D')(hx:ExtP F H H')(hw:D'.Wf n B')(hj:J'.Wf n):JnIn H0 H' F pj pd J' D' n B':=
 ⟨hd,hw,hj,h.low,h.ext.transP hx h.low⟩
theorem JnIn.up(h:JnIn H0 H F pj pd J D n B)(hB:B≤B'):JnIn H0 H F pj pd J D n B':=⟨h.jd,h.wf.up hB,h.jwf,h.low,h.ext⟩
end
end Go.Proofs
end
section
open Go Go.Vc
namespace Go.Proofs
theorem recL_tok{homes:Int}:∀(f:Nat)(h:Hd)(bs:List Octs)(t:List Wr),TOk t homes→TOk (recL f h bs t homes).2 homes∧(recL f h bs t homes).1.size=h.size∧(recL f h bs t homes).1.epoch=h.epoch∧h.seq≤(recL f h bs t homes).1.seq∧(recL f h bs t homes).1.seq≤h.seq+f
 | 0,h,bs,t,ht=>⟨ht,rfl,rfl,Int.le_refl _,by simp[recL]⟩
 | f+1,h,bs,t,ht=>by
  rw[recL]
  split
  ·exact⟨ht,rfl,rfl,Int.le_refl _,by simp only;omega⟩
  ·rename_i hne
   rcases wholeB_spec h bs homes with h0|⟨_,_,h3,_⟩
   ·exact absurd h0 hne
   ·have:=recL_tok f {h with seq:=h.seq+1} (bs.drop (wholeB h bs homes).2.toNat) (tAll t (wholeB h bs homes).1) (ht.all _ h3.2.1)
    obtain⟨g1,g2,g3,g4,g5⟩:=this
    exact⟨g1,g2,g3,by simp only at g4;omega,by simp only at g5;omega⟩
theorem open_dwf{n B:Nat}{D:Dev}(hw:D.Wf n B)(hn:n≤4096):(openM n D).1.Wf n (B+5000):=by
 unfold openM
 split
 ·exact hw.up (by omega)
 ·rename_i h0
  have h0':(readM n D).2=0:=by simpa using h0
  obtain⟨hdd,_,_,z0,z1,_⟩:=readM_ok h0'
  generalize (readM n D).1=h at *
  have hho:homeN n h.size=n - 1 - h.size:=homeN_of ⟨z0,z1⟩
  have hrec:(recoverM n ⟨h,0,[],false⟩ D).1.Wf n (B+5000):=by
   unfold recoverM
   rw[if_neg (by simp[hdd])]
   have ht:=recL_tok (homes:=homeN n h.size) ((jblocks D h.size).length+1) h (jblocks D h.size) [] (TOk.nil _)
   simp only
   generalize recL ((jblocks D h.size).length+1) h (jblocks D h.size) [] (homeN n h.size)=r at *
   have hg:=goHome_wf (J:=⟨r.1,0,r.2,false⟩) hw (by show TOk r.2 (homeN n r.1.size);rw[ht.2.1];exact ht.1) (by show homeN n r.1.size≤4096;rw[ht.2.1];omega)
   split
   ·exact hg.up (by omega)
   ·exact(begin_wf hg).up (by omega)
  simp only
  split
  ·exact hrec
  ·exact hrec
theorem newWf{n:Nat}(hn:n≤100000):(newD n).Wf n 0:=
 ⟨by simp[newD],hn,fun b hb=>by
  have:=List.eq_of_mem_replicate hb
  subst this;simp[zeros],by simp[newD],by simp[newD],⟨by simp[newD],by simp[newD]⟩,⟨by simp[newD],by simp[newD]⟩⟩
theorem format_dwf{n B:Nat}{D:Dev}(hw:D.Wf n B)(hn:n≤4096)(size:Int):(formatM n size D).1.Wf n (B+5000):=by
 unfold formatM
 split
 ·exact hw.up (by omega)
 ·rename_i h
  have hsz:size≤n - 4:=by
   unfold homeN at h
   split at h
   ·exact absurd (by decide) h
   ·omega
  have h1:=fmtW_wf (n:=n) size.toNat 0 hw
  generalize fmtW n size.toNat 0 D=r at *
  simp only
  split
  ·exact h1.up (by omega)
  ·have h2:=writeWf h1 0 (hdrB ⟨1,1,size⟩)
   split
   ·exact h2.up (by omega)
   ·exact(flushWf h2).up (by omega)
structure DvIn(H0 H:Heap) (F:Nat→Prop) (pd:Nat) (D:Dev) (n B:Nat):Prop where
 dev:IsDev H F pd D
 wf:D.Wf n B
 low:∀i,F i→H0.size≤i
 ext:Ext [] H0 H
section
variable {H0 H H':Heap} {F:Nat→Prop} {pd:Nat} {D D':Dev} {n B B':Nat}
theorem DvIn.more(h:DvIn H0 H F pd D n B)(hx:Ext [] H H'):DvIn H0 H' F pd D n B:=⟨h.dev.ext hx.toP (by simp),h.wf,h.low,h.ext.trans hx⟩
theorem DvIn.step(h:DvIn H0 H F pd D n B)(hd:IsDev H' (grow F H H') pd D')(hx:ExtP F H H')(hw:D'.Wf n B'):DvIn H0 H' (grow F H H') pd D' n B':=
 ⟨hd,hw,fun i hi=>by
  rcases hi with hi|hi
  ·exact h.low i hi
  ·have:=h.ext.size;omega,h.ext.transP hx h.low⟩
theorem JnIn.dv{pj:Nat}{J:Jn}(h:JnIn H0 H F pj pd J D n B):DvIn H0 H F pd D n B:=⟨h.jd.dev,h.wf,h.low,h.ext⟩
end
structure JL(H0 H:Heap) (F:Nat→Prop) (pj pd n z B:Nat) (J:Jn) (D:Dev) (cur:Nat→Octs) (S:(Nat→Octs)→Prop):Prop where
 jin:JnIn H0 H F pj pd J D n B
 live:LiveA n z B J D cur S
theorem LiveA.lays{n z B:Nat}{J:Jn}{D:Dev}{cur:Nat→Octs}{S:(Nat→Octs)→Prop}(h:LiveA n z B J D cur S):(4≤z∧z+4≤n)∧n≤4096∧J.h.size=z∧J.h.seq≤1000000000∧J.dead=false∧D.dead=false∧S cur∧homeN n J.h.size=n - 1 - z:=by
 obtain⟨e,s,T,f,base,h,hc,hS⟩:=h
 refine⟨h.pers.lays.zn,h.pers.lays.nn,by rw[h.jh],by rw[h.jh];have:=h.pers.lays.top;have:=h.pers.lays.bb;simp only;omega,h.jdead,h.dead,?_,?_⟩
 ·have:=hS T.length h.pers.ff (Nat.le_refl _)
  rw[List.take_length,←hc]at this
  exact this
 ·rw[h.jh]
  have:=h.pers.lays.zn
  exact homeN_of (by simp only;omega)
section
variable {H0 H H':Heap} {F:Nat→Prop} {pj pd n z B B':Nat} {J:Jn} {D:Dev} {cur:Nat→Octs} {S S':(Nat→Octs)→Prop}
theorem JL.more(h:JL H0 H F pj pd n z B J D cur S)(hx:Ext [] H H'):JL H0 H' F pj pd n z B J D cur S:=⟨h.jin.more hx,h.live⟩
theorem JL.off(h:JL H0 H F pj pd n z B J D cur S){M:List Nat}(hx:Ext M H H')(hm:∀k∈M,H0.size≤k∧¬F k):JL H0 H' F pj pd n z B J D cur S:=⟨h.jin.off hx hm,h.live⟩
theorem JL.up(h:JL H0 H F pj pd n z B J D cur S)(h1:B≤B')(h2:B'≤1000000000)(hS:∀x,S x→S' x):JL H0 H F pj pd n z B' J D cur S':=⟨h.jin.up h1,h.live.up h1 h2 hS⟩
theorem JL.lt(h:JL H0 H F pj pd n z B J D cur S):∀k,F k→k<H.size:=h.jin.jd.lt
theorem JL.commit(h:JL H0 H F pj pd n z B J D cur S)(hB:B≤600000000)(hSS:∀x,S x→S' x){l:List Wr}(hS':S' (overT cur l)){a:Option Addr}{c:Nat}(hk:KeptW F H a l)(hl:l.length≤1000000) :
  Does Tryz.prog 113 [.pointer (some ⟨pj,0,none⟩),.slice a l.length c] H fun v H'=>ExtP F H H'∧∃e J' D',v=.int .i64 e∧commitM n l J D=(D',J',e) ∧
   ((¬MayP l (n - 1 - z:Int)∧e=1∧JL H0 H' (grow F H H') pj pd n z (B+14100) J D cur S)∨(MayP l (n - 1 - z:Int)∧(z:Int)<needsN l.length∧e=5∧JL H0 H' (grow F H H') pj pd n z (B+14100) J D cur S) ∨
    (MayP l (n - 1 - z:Int)∧needsN l.length≤z∧e=0∧JL H0 H' (grow F H H') pj pd n z (B+14100) J' D' (overT cur l) S'∧(D.fuse=-1→D'.fuse=-1)) ∨
    (MayP l (n - 1 - z:Int)∧e=4∧JnIn H0 H' (grow F H H') pj pd J' D' n (B+14100)∧Fell n z (B+14100) D' S'∧D.fuse≠-1)):=by
 have hly:=h.live.lays
 have hsq:J.h.seq≤900000000000:=by have:=hly.2.2.2.1;omega
 refine(commit_ok h.jin.jd h.jin.wf (by omega) hly.2.1 h.jin.jwf hsq hk hl (c:=c)).mono ?_
 rintro _ H' ⟨rfl,hjd,hx⟩
 have hin:JnIn H0 H' (grow F H H') pj pd (commitM n l J D).2.1 (commitM n l J D).1 n (B+14100):=h.jin.step hjd hx (commit_dwf h.jin.wf h.jin.jwf hly.2.1) (commit_jwf h.jin.jwf hsq)
 refine⟨hx,(commitM n l J D).2.2,(commitM n l J D).2.1,(commitM n l J D).1,rfl,rfl,?_⟩
 rcases commit_cases h.live l (by omega) hSS hS' with⟨g1,g2⟩|⟨g1,g2,g3⟩|⟨g1,g2,g3,g4,g5⟩|⟨g1,g2,g3,g4⟩
 ·rw[g2]at hin ⊢
  exact .inl ⟨g1,rfl,hin,h.live.up (by omega) (by omega) (fun _ h=>h)⟩
 ·rw[g3]at hin ⊢
  exact .inr (.inl ⟨g1,g2,rfl,hin,h.live.up (by omega) (by omega) (fun _ h=>h)⟩)
 ·exact .inr (.inr (.inl ⟨g1,g2,g3,⟨hin,g4.up (by omega) (by omega) (fun _ h=>h)⟩,g5⟩))
 ·refine .inr (.inr (.inr ⟨g1,g2,hin,⟨g3.1,fun ms=>?_⟩,g4⟩))
  obtain⟨x,h1,h2⟩:=g3.2 ms
  exact⟨x,h1,h2.up (by omega) (by omega)⟩
theorem JL.sync(h:JL H0 H F pj pd n z B J D cur S)(hB:B≤600000000)(hS':S' cur) :
  Does Tryz.prog 121 [.pointer (some ⟨pj,0,none⟩)] H fun v H'=>ExtP F H H'∧∃J' D',((v=.int .i64 0∧JL H0 H' (grow F H H') pj pd n z (B+14100) J' D' cur S'∧(D.fuse=-1→D'.fuse=-1)) ∨
    (v=.int .i64 4∧JnIn H0 H' (grow F H H') pj pd J' D' n (B+14100)∧Fell n z (B+14100) D' S∧D.fuse≠-1)):=by
 have hly:=h.live.lays
 refine(sync_ok h.jin.jd h.jin.wf (by omega)).mono ?_
 rintro _ H' ⟨rfl,hjd,hx⟩
 have hin:JnIn H0 H' (grow F H H') pj pd (syncM J D).2.1 (syncM J D).1 n (B+14100):=h.jin.step hjd hx ((sync_dwf h.jin.wf).up (by omega)) (sync_jwf h.jin.jwf)
 refine⟨hx,(syncM J D).2.1,(syncM J D).1,?_⟩
 rcases sync_cases h.live with⟨g1,g2,g3⟩|⟨g1,g2,g3⟩
 ·rw[g1];exact .inl ⟨rfl,⟨hin,(g2 S' hS').up (by omega) (by omega) (fun _ h=>h)⟩,g3⟩
 ·rw[g1]
  refine .inr ⟨rfl,hin,⟨g2.1,fun ms=>?_⟩,g3⟩
  obtain⟨x,h1,h2⟩:=g2.2 ms
  exact⟨x,h1,h2.up (by omega) (by omega)⟩
end
theorem DvIn.open_{H0 H:Heap}{F:Nat→Prop}{pd n z B:Nat}{D:Dev}(h:DvIn H0 H F pd D n B)(hB:B≤600000000){K:List Octs}{P:List (Int×Octs)}{hm:Nat→Octs}(ha:At D K P)(hs:Sure n z B (laid K P) hm){S:(Nat→Octs)→Prop}(hS:S hm) :
  Does Tryz.prog 92 [.pointer (some ⟨pd,0,none⟩)] H fun v H'=>ExtP F H H' ∧
   ((∃pj J D',v=.tuple #[.pointer (some ⟨pj,0,none⟩),.int .i64 0]∧JL H0 H' (grow F H H') pj pd n z (B+5000) J D' hm S∧(D.fuse=-1→D'.fuse=-1)∧J.used=0∧D'.pend=[]) ∨
    (∃D',v=.tuple #[.pointer none,.int .i64 4]∧DvIn H0 H' (grow F H H') pd D' n (B+5000)∧D.fuse≠-1∧D'.dead=true∧(P=[]→∀ms,Sure n z (B+5000) (crashL ms D'.pend 0 D'.kept) hm))):=by
 have hly:(4≤z∧z+4≤n)∧n≤4096:=by obtain⟨e,s,T,h⟩:=hs;exact⟨h.lays.zn,h.lays.nn⟩
 refine(open_ok h.dev h.wf (by omega) hly.2 (by omega)).mono ?_
 rintro v H' ⟨hr,hx⟩
 have hdw:=open_dwf h.wf hly.2
 refine⟨hx,?_⟩
 rcases open_cases hs ha rfl (by omega)with⟨J,e,g1,g2,g3⟩|⟨g1,g2,g3,g4⟩
 ·rcases hr with⟨e',h1,h2,_⟩|⟨pj,J',h1,h2,h3⟩
  ·rw[g1]at h1
   simp only[Prod.mk.injEq]at h1
   exact absurd h1.2.1 (by simp)
  ·rw[g1]at h1
   simp only[Prod.mk.injEq,Option.some.injEq,true_and,and_true]at h1
   subst h1
   have hlive:LiveA n z (B+5000) J (openM n D).1 hm S:=⟨e,1,[],0,hm,g2.up (by omega) (by omega),rfl,fun j _ _=>by simp only[List.take_nil,hmT_nil];exact hS⟩
   have hj:J.Wf n:=by
    have hjh:=g2.jh
    have hu:=g2.used
    have ht:=g2.taken
    have hl:=g2.pers.lays
    refine⟨by rw[hjh];simp only;omega,by rw[hjh];simp only;exact⟨by simp,by simp⟩,by rw[hjh];simp only;have:=hl.e0;have:=hl.top;have:=hl.bb;omega,by rw[hu,hjh];simp[LT],by rw[ht];exact TOk.nil _⟩
   have hdv:=h.step h3.dev hx hdw
   exact .inl ⟨pj,J,(openM n D).1,h2,⟨⟨h3,hdw,hj,hdv.low,hdv.ext⟩,hlive⟩,g3,by have:=g2.used;simpa[LT]using this,by
    have:=g2.pers.pin
    cases hp:(openM n D).1.pend with
    | nil=>rfl
    | cons w r=>
     obtain⟨p,_,h2⟩:=this w (by rw[hp];simp)
     simp[LT]at h2⟩
 ·rcases hr with⟨e',h1,h2,h3,h4⟩|⟨pj,J',h1,h2,h3⟩
  ·rw[g1]at h1
   simp only[Prod.mk.injEq,true_and]at h1
   subst h1
   exact .inr ⟨(openM n D).1,h3,h.step h4 hx hdw,g2,g3,fun hP ms=>(g4 hP ms).up (by omega) (by omega)⟩
  ·rw[g1]at h1
   simp only[Prod.mk.injEq]at h1
   exact absurd h1.2.1 (by simp)
theorem nil_kept(F:Nat→Prop)(H:Heap):KeptB F H none 0 0 []:=KeptB.of ⟨rfl,rfl⟩ (by simp[blkOf])
theorem DvIn.crash{H0 H:Heap}{F:Nat→Prop}{pd n B:Nat}{D:Dev}(h:DvIn H0 H F pd D n B)(hB:B≤600000000){a:Option Addr}{len cap:Nat}{ms:Octs}(hs:KeptB F H a len cap ms) :
  Does Tryz.prog 49 [.pointer (some ⟨pd,0,none⟩),.slice a len cap] H fun v H'=>v=.tuple #[]∧ExtP F H H'∧DvIn H0 H' (grow F H H') pd (crashD D ms) n B∧At (crashD D ms) (crashL ms D.pend 0 D.kept) []∧(crashD D ms).fuse=-1:=by
 refine(dcrash_ok h.dev h.wf (by omega) hs).mono ?_
 rintro _ H' ⟨rfl,hd,hx⟩
 exact⟨rfl,hx,h.step hd hx (crashWf h.wf ms),⟨rfl,rfl,rfl⟩,rfl⟩
end Go.Proofs
end
section
open Go Go.Vc
namespace Go.Proofs
open Go.Proofs.Bx (clone_ok blocks_ok blocksF)
def padO(xs:Octs):Octs:=xs++List.replicate ((blocksF xs.length).toNat*128 - xs.length) 0
theorem blocksF_nat(n:Nat):blocksF (n:Int)=((n+127) / 128:Nat):=by
 unfold blocksF
 split
 ·have:n=0:=by omega
  subst this;rfl
 ·omega
theorem padO_length(xs:Octs):(padO xs).length=(xs.length+127) / 128*128:=by
 simp only[padO,List.length_append,List.length_replicate,blocksF_nat,Int.toNat_natCast]
 omega
theorem opadded_ok{H:Heap}{a:Option Addr}{c:Nat}{xs:Octs}(h:SRow H 1 xs.length (.slice a xs.length c) (bytesV xs))(hl:xs.length≤1000000000) :
  Does Tryz.prog 165 [.slice a xs.length c] H fun v H'=>ToldB H H' v (padO xs)∧Ext [] H H':=by
 refine Fn_of_vc Tryz.mixed (PaddedV _ _ _ _ _) ?_
 refine(clone_ok h (by omega)).mono ?_
 rintro _ H2 ⟨a',c',rfl,ho,hx,hf⟩
 refine⟨_,_,_,rfl,(blocks_ok _ H2 (by omega)).mono ?_⟩
 rintro _ H7 ⟨rfl,rfl⟩
 have hb:=blocksF_nat xs.length
 have hp:=padO_length xs
 refine⟨_,rfl,by unfold In64;omega,by unfold In64;omega,bytesV xs,ho.row _ _,by omega,by omega,fun hle=>ho.room hle,?_⟩
 intro a10 c11 H12 happ
 have e1:(blocksF (xs.length:Int)*128 - (xs.length:Int)).toNat=(blocksF xs.length).toNat*128 - xs.length:=by omega
 rw[e1]at happ ⊢
 obtain⟨g1,g2,g3⟩:=happ.own ho (ho.row _ _) (by simp) rfl
 have e2:xs.length+((blocksF xs.length).toNat*128 - xs.length)=(padO xs).length:=by simp[padO]
 have e3:bytesV xs++List.replicate ((blocksF (xs.length:Int)).toNat*128 - xs.length) (Value.int .u8 0)=bytesV (padO xs):=by
  simp[bytesV,padO]
 rw[e2,e3]at g1
 rw[e2]
 refine⟨⟨a10,c11,rfl,g1,fun k hk=>?_⟩,hx.trans' g2 (fun i hi=>?_)⟩
 ·rcases g3 k hk with h|h
  ·exact hf k h
  ·have:=hx.size;omega
 ·have:=hf i hi;omega
end Go.Proofs
end
section
open Go Go.Vc
namespace Go.Proofs
theorem WU8V(x0:Option Addr) (x1:Int) (H:Heap) (R:Value→Heap→Prop):Walk Tryz.prog 207 [] [.pointer x0,.int .i64 x1] H R=(∀q1:Int,q1=IntKind.wrap .u64 x1→Does Tryz.prog 206 [.pointer x0,.int .u64 q1,.int .i64 1] H fun v2 H3=>v2=(.tuple #[])∧R (.tuple #[]) H3):=by kernel_rfl
theorem RU8V(x0:Option Addr) (H:Heap) (R:Value→Heap→Prop):Walk Tryz.prog 195 [] [.pointer x0] H R=(Does Tryz.prog 194 [.pointer x0,.int .i64 1] H fun v1 H2=>∃n3,v1=(.int .u64 n3)∧∀q4:Int,q4=IntKind.wrap .i64 n3→R (.int .i64 q4) H2):=by kernel_rfl
end Go.Proofs
end
section
open Go Go.Vc
namespace Go.Proofs
theorem wu8_ok{G:Nat→Prop}{b:Nat}{bs:List Int}{x:Int}{H:Heap}(hG:∀k,H.size≤k→G k)(hl:bs.length≤1000000)(h:WIs G H b bs) :
  Does Tryz.prog 207 [.pointer (some ⟨b,0,none⟩),.int .i64 x] H fun v H'=>v=.tuple #[]∧WIs G H' b (bs++beL 1 (IntKind.wrap .u64 x))∧ExtP G H H':=by
 refine Fn_of_vc Tryz.mixed (WU8V _ _ _ _) ?_
 rintro _ rfl
 refine(put_ok (n:=1) hG (by omega) hl h).mono ?_
 rintro _ _ ⟨rfl,h1,h2⟩
 exact⟨rfl,rfl,h1,h2⟩
theorem ru8_ok{G:Nat→Prop}{b:Nat}{s:List Int×Bool}{H:Heap}(h:RIs G H b s) :
  Does Tryz.prog 195 [.pointer (some ⟨b,0,none⟩)] H fun v H'=>v=.int .i64 (num s 1)∧RIs G H' b (rd s 1).2∧ExtP G H H':=by
 refine Fn_of_vc Tryz.mixed (RU8V _ _ _) ?_
 refine(get_ok (n:=1) (by omega) h).mono ?_
 rintro _ _ ⟨rfl,h1,h2⟩
 refine⟨_,rfl,?_⟩
 rintro _ rfl
 obtain⟨g1,g2⟩:=num_lt h.2.1 (n:=1) (by omega)
 have hw:IntKind.wrap .i64 (num s 1)=num s 1:=wrap_of_in64 ⟨by omega,by omega⟩
 exact⟨congrArg _ hw,h1,h2⟩
end Go.Proofs
end
section
open Go Go.Vc
namespace Go.Proofs
theorem wrap_u64_id{x:Int}(h0:0≤x)(h1:x≤9223372036854775807):IntKind.wrap .u64 x=x:=by rw[wrap_u64];omega
def pcO(p:Pc):List Int:=beL 2 p.s++beL 2 p.c
def layI(size refs:Int)(ps:List Pc):List Int:=(((beL 4 size++beL 2 refs)++beL 1 ps.length)++beL 1 0)++(ps.map pcO).flatten
def slotI(size refs:Int)(ps:List Pc):List Int:=layI size refs ps++List.replicate (32 - (layI size refs ps).length) 0
theorem pcO_length(p:Pc):(pcO p).length=4:=by simp[pcO,beL_length]
theorem pcOs_length:∀(ps:List Pc),((ps.map pcO).flatten).length=4*ps.length
 | []=>rfl
 | p::r=>by simp only[List.map_cons,List.flatten_cons,List.length_append,pcO_length,pcOs_length r,List.length_cons];omega
theorem layI_length(size refs:Int)(ps:List Pc):(layI size refs ps).length=8+4*ps.length:=by
 simp only[layI,List.length_append,beL_length,pcOs_length]
theorem slotI_length(size refs:Int)(ps:List Pc)(h:ps.length≤6):(slotI size refs ps).length=32:=by
 simp only[slotI,List.length_append,List.length_replicate,layI_length];omega
theorem slotlay_ok{size refs:Int}{ps:List Pc}{a:Option Addr}{n c:Nat}{H:Heap}(h:Pcs H a n ps)(hn:ps.length≤6)(hs0:0≤size)(hs:size≤9223372036854775807)(hr0:0≤refs)(hr:refs≤9223372036854775807)
  (hp:∀p∈ps,0≤p.s∧p.s≤9223372036854775807∧0≤p.c∧p.c≤9223372036854775807) :
  Does Tryz.prog 183 [.agg #[.int .i64 size,.int .i64 refs,.slice a n c]] H fun v H'=>Told H H' v (slotI size refs ps)∧Ext [] H H':=by
 refine Fn_of_vc Tryz.mixed (SlotLayV _ _ _ _ _ _ _) ?_
 intro b1 H2 hnew
 have e1:=hnew.eq
 have s2:=hnew.size
 have hblk:=hnew.blk
 refine(nw_ok H2).mono ?_
 rintro _ H4 ⟨rfl,hw,hx4⟩
 have hb4:=hblk.ext hx4 (by simp)
 let G:Nat→Prop:=fun k=>H2.size≤k
 have hG:∀{K:Heap},H2.size≤K.size→∀k,K.size≤k→G k:=fun hK k hk=>Nat.le_trans hK hk
 have toE:∀{K:Heap},ExtP G H2 K→Ext [] H2 K:=fun hx=>(Ext.refl [] H2).transP hx (fun i hi=>hi)
 refine⟨_,rfl,size,by rw[hb4.cell];rfl,(wu_ok (n:=4) (.inr ⟨rfl,rfl⟩) (hG hx4.size) (by simp) hw).mono ?_⟩
 rintro _ H8 ⟨rfl,hw8,hx8⟩
 have hx28:=hx4.anyP.trans hx8
 have hb8:=hblk.ext (toE hx28) (by simp)
 refine⟨rfl,refs,by rw[hb8.cell];rfl,(wu_ok (n:=2) (.inl ⟨rfl,rfl⟩) (hG hx28.size) (by simp[beL_length]) hw8).mono ?_⟩
 rintro _ H11 ⟨rfl,hw11,hx11⟩
 have hx2b:=hx28.trans hx11
 have hb11:=hblk.ext (toE hx2b) (by simp)
 refine⟨rfl,a,n,c,by rw[hb11.cell];rfl,(wu8_ok (hG hx2b.size) (by simp[beL_length]) hw11).mono ?_⟩
 rintro _ H16 ⟨rfl,hw16,hx16⟩
 have hx2c:=hx2b.trans hx16
 refine⟨rfl,(wu8_ok (hG hx2c.size) (by simp[beL_length]) hw16).mono ?_⟩
 rintro _ H18 ⟨rfl,hw18,hx18⟩
 have hx2d:=hx2c.trans hx18
 have hb18:=hblk.ext (toE hx2d) (by simp)
 have hlen:=h.leng
 rw[wrap_u64_id hs0 hs,wrap_u64_id hr0 hr,wrap_u64_id (by omega) (by omega),wrap_u64_id (by omega) (by omega),List.nil_append]at hw18
 refine⟨rfl,a,n,c,by rw[hb18.cell];rfl,fun i K=>∃k:Nat,i=k∧k≤ps.length∧ExtP G H2 K∧WIs G K H2.size ((((beL 4 size++beL 2 refs)++beL 1 ps.length)++beL 1 0)++((ps.take k).map pcO).flatten),
  fun i _=>(n - i).toNat,⟨0,rfl,Nat.zero_le _,hx2d,by simpa[hlen]using hw18⟩,?_⟩
 rintro _ H25 ⟨k,rfl,hk,hx25,hw25⟩
 have hH25:=hnew.ext.transP hx25 (fun i hi=>by have:H2.size≤i:=hi;omega)
 have hpc:=h.ext hH25 (by simp)
 refine⟨fun hlt=>?_,fun hge=>?_⟩
 ·have hk':k<ps.length:=by omega
  obtain⟨b,o,ha,c0,c1⟩:=hpc.get k ps[k] (List.getElem?_eq_getElem hk')
  refine⟨by omega,by omega,b,o,ha,_,c0,_,c1,?_⟩
  intro b30 H31 hn30
  refine⟨hn30.blk.cells _ _ (by simp),fun H32 hput=>?_⟩
  obtain⟨hb32,hx32,e30,s32⟩:=new_put hn30 hput rfl
  have hlt25:=hw25.lt
  have hsz25:=hx25.size
  let G':Nat→Prop:=fun k=>H2.size≤k∧k≠H25.size
  have hw32:WIs G' H32 H2.size _:=(hw25.mono (G':=G') (fun k hk hg=>⟨hg,by omega⟩)).ext hx32
  obtain⟨q1,q2,q3,q4⟩:=hp ps[k] (List.getElem_mem hk')
  refine⟨_,by rw[hb32.cell];rfl,(wu_ok (G:=G') (n:=2) (.inl ⟨rfl,rfl⟩) (fun j hj=>⟨by omega,by omega⟩) ?_ hw32).mono ?_⟩
  ·simp only[List.length_append,beL_length,pcOs_length,List.length_take];omega
  rintro _ H35 ⟨rfl,hw35,hx35⟩
  have hb35:=hb32.extP hx35 (fun hg=>by subst e30;exact hg.2 rfl)
  have hs35:=hx35.size
  refine⟨rfl,_,by rw[hb35.cell];rfl,(wu_ok (G:=G') (n:=2) (.inl ⟨rfl,rfl⟩) (fun j hj=>⟨by omega,by omega⟩) ?_ hw35).mono ?_⟩
  ·simp only[List.length_append,beL_length,pcOs_length,List.length_take];omega
  rintro _ H38 ⟨rfl,hw38,hx38⟩
  refine⟨rfl,by unfold In64;omega,⟨k+1,by omega,by omega,((hx25.trans hx32.anyP).trans (hx35.mono fun _ _ hg=>hg.1)).trans (hx38.mono fun _ _ hg=>hg.1),?_⟩,by simp only;omega⟩
  have:=hw38.mono (G':=G) (fun k _ hg=>hg.1)
  rw[wrap_u64_id q1 q2,wrap_u64_id q3 q4]at this
  have et:(ps.take (k+1)).map pcO=(ps.take k).map pcO++[pcO ps[k]]:=by rw[List.take_add_one,List.getElem?_eq_getElem hk',List.map_append];rfl
  rw[et,List.flatten_append]
  simpa[pcO,List.append_assoc]using this
 ·have hk':k=ps.length:=by omega
  subst hk'
  rw[List.take_length]at hw25
  have hl8:=layI_length size refs ps
  have hw25':WIs G H25 H2.size (layI size refs ps):=hw25
  refine(bytes_ok (by omega) hw25').mono ?_
  rintro _ H40 ⟨⟨a41,c43,rfl,ho41,hf41⟩,hx40⟩
  refine⟨_,_,_,rfl,(bytes_ok (by omega) (hw25'.ext hx40)).mono ?_⟩
  rintro _ H45 ⟨⟨a46,c48,rfl,ho46,hf46⟩,hx45⟩
  have ho:=ho41.ext hx45 (by simp)
  refine⟨_,_,_,rfl,by unfold In64;omega,u8s (layI size refs ps),ho.row _ _,by omega,by omega,fun hle=>ho.room hle,?_⟩
  intro a50 c51 H52 happ
  have en:(32 - ((layI size refs ps).length:Int)).toNat=32 - (layI size refs ps).length:=by omega
  rw[en]at happ ⊢
  obtain⟨g1,g2,g3⟩:=happ.own ho (ho.row _ _) (by simp) rfl
  have el:(layI size refs ps).length+(32 - (layI size refs ps).length)=(slotI size refs ps).length:=by simp[slotI]
  have ev:u8s (layI size refs ps)++List.replicate (32 - (layI size refs ps).length) (.int .u8 0)=u8s (slotI size refs ps):=by simp[slotI,u8s]
  rw[el,ev]at g1
  rw[el]
  have s25:=hH25.size
  have s40:=hx40.size
  have s45:=hx45.size
  refine⟨⟨a50,c51,rfl,g1,fun k hk=>?_⟩,((hH25.trans' hx40 (by simp)).trans' hx45 (by simp)).trans' g2 (fun i hi=>?_)⟩
  ·rcases g3 k hk with h'|h'
   ·have:=hf41 k h';omega
   ·omega
  ·have:=hf41 i hi;exact .inl (by omega)
end Go.Proofs
end
section
open Go Go.Vc
namespace Go.Proofs
open Go.Proofs.Bx (decP)
def laidBad(h s:Int):Prop:=s<1∨256<s∨h<1
def bitsN(h:Int):Int:=(((h.toNat+7) / 8+127) / 128:Nat)
def firstN(h s:Int):Int:=1+bitsN h+(s+3) / 4
def layV(h s b f:Int):Value:=.agg #[.int .i64 h,.int .i64 s,.int .i64 b,.int .i64 f]
theorem laidOut_ok(h s:Int)(H:Heap)(hh:h≤1000000000):Does Tryz.prog 115 [.int .i64 h,.int .i64 s] H fun v H'=>
  Ext [] H H'∧((laidBad h s∧v=.tuple #[layV 0 0 0 0,.bool false])∨(¬laidBad h s∧v=.tuple #[layV h s (bitsN h) (firstN h s),.bool (decP (firstN h s<h))])):=by
 refine Fn_of_vc Tryz.mixed (LaidOutV _ _ _ _) ?_
 intro b1 H2 hn
 have hblk:=hn.blk
 have e1:=hn.eq
 have s1:=hn.size
 have bad:∀H3,Puts H2 b1 0 [.int .i64 0,.int .i64 0,.int .i64 0,.int .i64 0] H3→Ext [] H H3∧hcell H3 b1 0=some (.int .i64 0)∧hcell H3 b1 1=some (.int .i64 0)∧hcell H3 b1 2=some (.int .i64 0)∧hcell H3 b1 3=some (.int .i64 0):=by
  intro H3 hp
  obtain⟨hb,hx,_⟩:=new_put hn hp rfl
  exact⟨hx,by rw[hb.cell];rfl,by rw[hb.cell];rfl,by rw[hb.cell];rfl,by rw[hb.cell];rfl⟩
 refine⟨fun h1=>⟨hblk.cells _ _ (by simp),fun H3 hp=>?_⟩,fun h1=>⟨fun h2=>⟨hblk.cells _ _ (by simp),fun H3 hp=>?_⟩,fun h2=>⟨fun h3=>⟨hblk.cells _ _ (by simp),fun H3 hp=>?_⟩,fun h3=>?_⟩⟩⟩
 ·obtain⟨hx,c0,c1,c2,c3⟩:=bad _ hp
  exact⟨_,c0,_,c1,_,c2,_,c3,hx,.inl ⟨.inl h1,rfl⟩⟩
 ·obtain⟨hx,c0,c1,c2,c3⟩:=bad _ hp
  exact⟨_,c0,_,c1,_,c2,_,c3,hx,.inl ⟨.inr (.inl h2),rfl⟩⟩
 ·obtain⟨hx,c0,c1,c2,c3⟩:=bad _ hp
  exact⟨_,c0,_,c1,_,c2,_,c3,hx,.inl ⟨.inr (.inr h3),rfl⟩⟩
 ·refine(Bx.new_ok h H2 (by omega)).mono ?_
  rintro _ H19 ⟨pb,bb,rfl,hm,hx19,_,_⟩
  refine⟨_,rfl,(Bx.bytes_ok hm).mono ?_⟩
  rintro _ H22 ⟨a',c',rfl,ho,hx22,_⟩
  refine⟨_,_,_,rfl,(Bx.blocks_ok _ H22 (by simp;omega)).mono ?_⟩
  rintro _ H27 ⟨rfl,rfl⟩
  have hbits:Bx.blocksF ((List.replicate ((h.toNat+7) / 8) (0:UInt8)).length:Int)=bitsN h:=by
   rw[blocksF_nat,List.length_replicate];rfl
  rw[hbits]
  have hb0:0≤bitsN h∧bitsN h≤1000000000:=by unfold bitsN;omega
  have hx2:Ext [] H2 H22:=hx19.trans' hx22 (by simp)
  have hbk22:=hblk.ext hx2 (by simp)
  refine⟨_,rfl,?_⟩
  intro b29 H30 hn29
  refine⟨hn29.blk.cells _ _ (by simp),fun H31 hp31=>?_⟩
  obtain⟨hb31,hx31,e29,s31⟩:=new_put hn29 hp31 rfl
  refine⟨_,by rw[hb31.cell];rfl,by unfold In64;omega,by unfold In64;omega,by unfold In64;omega,by omega,?_⟩
  have hq:IntKind.wrap .i64 (Int.tdiv ((s+4) - 1) 4)=(s+3) / 4:=by
   rw[wrap_of_in64 (by unfold In64;rw[Int.tdiv_eq_ediv_of_nonneg (by omega)];omega),Int.tdiv_eq_ediv_of_nonneg (by omega)]
   congr 1;omega
  rintro _ rfl
  rw[hq]
  refine⟨by unfold In64;omega,hb31.cells _ _ (by simp),fun H34 hp34=>?_⟩
  have hb34:=hp34.blk hb31 (by simp)
  have hne:b1≠b29:=by have:=hx2.size;omega
  have hbk34:=(hbk22.ext hx31 (by simp)).ext hp34.ext (by simpa using hne)
  refine⟨_,by rw[hb34.cell];rfl,_,by rw[hb34.cell];rfl,_,by rw[hb34.cell];rfl,_,by rw[hb34.cell];rfl,_,by rw[hb34.cell];rfl,hbk34.cells _ _ (by simp),fun H40 hp40=>?_⟩
  have hb40:=hp40.blk hbk34 (by simp)
  have hb29:=hb34.ext hp40.ext (by simpa using hne.symm)
  refine⟨⟨by rw[hb29.cell];rfl,trivial⟩,_,by rw[hb40.cell];rfl,_,by rw[hb40.cell];rfl,_,by rw[hb40.cell];rfl,_,by rw[hb40.cell];rfl,?_,.inr ⟨?_,rfl⟩⟩
  ·have s2:=hx2.size
   refine((((hn.ext.trans' hx2 (by simp)).trans' hx31 (by simp)).trans' hp34.ext (fun i hi=>?_))).trans' hp40.ext (fun i hi=>?_)
   ·simp only[List.mem_singleton]at hi;omega
   ·simp only[List.mem_singleton]at hi;omega
  ·rintro (h|h|h)
   ·exact h1 h
   ·exact h2 h
   ·exact h3 h
end Go.Proofs
end
section
open Go Go.Vc
namespace Go.Proofs
open Go.Proofs.Bx (decP)
structure RSl where
 size:Int
 refs:Int
 a:Option Addr
 n:Nat
 c:Nat
def rslV(x:RSl):List Value:=[.int .i64 x.size,.int .i64 x.refs,.slice x.a x.n x.c]
def rslsV(l:List RSl):List Value:=(l.map rslV).flatten
theorem rslsV_length:∀(l:List RSl),(rslsV l).length=l.length*3
 | []=>rfl
 | x::l=>by
  have:=rslsV_length l
  simp only[rslsV]at this
  simp only[rslsV,List.map_cons,List.flatten_cons,List.length_append,this,List.length_cons]
  simp only[rslV,List.length_cons,List.length_nil]
  omega
theorem rslsV_one(l:List RSl):∀u∈rslsV l,Value.oneCell' u=true:=by
 intro u hu
 simp only[rslsV,List.mem_flatten,List.mem_map]at hu
 obtain⟨r,⟨p,_,rfl⟩,hu⟩:=hu
 simp only[rslV,List.mem_cons,List.not_mem_nil,or_false]at hu
 rcases hu with rfl|rfl|rfl<;>rfl
structure RSls(H:Heap) (a:Option Addr) (len:Nat) (l:List RSl):Prop where
 leng:l.length=len
 row:∀c,SRow H 3 len (.slice a len c) (rslsV l)
theorem RSls.ext{M:List Nat}{H H':Heap}{a:Option Addr}{len:Nat}{l:List RSl}(h:RSls H a len l)(he:Ext M H H')(hm:∀k,k∈blkOf a→k∉M):RSls H' a len l:=
 ⟨h.leng,fun c=>(h.row c).ext he hm⟩
theorem RSls.get{H:Heap}{a:Option Addr}{len:Nat}{l:List RSl}(h:RSls H a len l)(i:Nat)(x:RSl)(hx:l[i]?=some x) :
  ∃b o,a=some ⟨b,o,none⟩∧hcell H b (o+i*3)=some (.int .i64 x.size)∧hcell H b ((o+i*3)+1)=some (.int .i64 x.refs)∧hcell H b (((o+i*3)+1)+1)=some (.slice x.a x.n x.c):=by
 have hr:(l.map rslV)[i]?=some (rslV x):=by simp[hx]
 have hlen:∀r∈l.map rslV,r.length=3:=by
  intro r hr
  obtain⟨q,_,rfl⟩:=List.mem_map.1 hr
  rfl
 have h0:=flatten_at (j:=0) hlen hr (by decide)
 have h1:=flatten_at (j:=1) hlen hr (by decide)
 have h2:=flatten_at (j:=2) hlen hr (by decide)
 obtain⟨b,o,rfl,c0⟩:=(h.row 0).at (h0.trans rfl)
 obtain⟨b1,o1,e1,c1⟩:=(h.row 0).at (h1.trans rfl)
 obtain⟨b2,o2,e2,c2⟩:=(h.row 0).at (h2.trans rfl)
 cases e1;cases e2
 exact⟨b,o,rfl,c0,by rw[Nat.add_assoc];exact c1,by rw[Nat.add_assoc,Nat.add_assoc];exact c2⟩
theorem clones_ok{H:Heap}{a:Option Addr}{len cap:Nat}{l:List RSl}(h:RSls H a len l)(hl:len≤1000000):Does Tryz.prog 154 [.slice a len cap] H fun v H'=>
  ∃a' c',v=.slice a' len c'∧Own H' 3 a' len c' (rslsV l)∧Ext [] H H'∧(∀k,k∈blkOf a'→H.size≤k):=by
 refine Fn_of_vc Tryz.mixed (CloneSV _ _ _ _ _) ?_
 refine⟨fun h0=>?_,fun h0=>?_⟩
 ·subst h0
  have h1:=(h.row 0)
  have h2:=h1.2
  simp only at h2
  have h3:=h1.1
  rw[h2]at h3
  have:len=0:=by simp at h3;omega
  subst this
  rw[h2]
  exact⟨none,0,rfl,Own.nil _ _,Ext.refl _ _,fun k hk=>by cases hk⟩
 ·intro b H2 hn
  have hx:=hn.ext
  have ho:Own H2 3 (some ⟨b,0,none⟩) 0 0 []:=⟨rfl,Nat.le_refl _,by unfold maxLen;omega,.inr ⟨b,[],rfl,hn.blk,rfl⟩⟩
  refine⟨[],rslsV l,ho.row 0 0,(h.row cap).ext hx (by simp),rslsV_one l,by omega,fun hle=>ho.room (n:=len) hle,?_⟩
  intro a5 c6 H7 happ
  obtain⟨h1,h2,h3⟩:=happ.own ho (ho.row _ _) (by rw[rslsV_length,h.leng]) rfl
  have he:=hn.eq
  have hs:=hn.size
  simp only[Nat.zero_add,List.nil_append]at h1 ⊢
  refine⟨a5,c6,rfl,h1,ext_new hx h2 (fun k hk=>by simp only[blkOf,List.mem_singleton]at hk;omega),fun k hk=>?_⟩
  rcases h3 k hk with h'|h'
  ·simp only[blkOf,List.mem_singleton]at h';omega
  ·omega
theorem noref_ok(x:RSl)(H:Heap):Does Tryz.prog 106 [.agg #[.int .i64 x.size,.int .i64 x.refs,.slice x.a x.n x.c]] H fun v H'=>v=.bool (decP (x.refs=0))∧Ext [] H H':=by
 refine Fn_of_vc Tryz.mixed (NoRefV _ _ _ _ _ _ _) ?_
 intro b H2 hn
 exact⟨x.refs,by rw[hn.blk.cell];rfl,rfl,hn.ext⟩
def freeF(l:List RSl):Int:=match l.findIdx? (fun x=>x.refs == 0)with|some k=>k|none=>-1
theorem indexF_ok{H:Heap}{a:Option Addr}{len cap:Nat}{l:List RSl}(h:RSls H a len l)(hl:len≤1000000):Does Tryz.prog 105 [.slice a len cap,.func (.func 106) #[] #[]] H fun v H'=>
  v=.int .i64 (freeF l)∧Ext [] H H':=by
 refine Fn_of_vc Tryz.mixed (IndexFV _ _ _ _ _) ?_
 have hlen:=h.leng
 refine⟨fun i K=>∃k:Nat,i=k∧k≤len∧Ext [] H K∧∀j,j<k→∀x,l[j]?=some x→x.refs≠0,fun i _=>(len - i).toNat,⟨0,rfl,Nat.zero_le _,Ext.refl _ _,fun j hj=>by omega⟩,?_⟩
 rintro _ H4 ⟨k,rfl,hk,hx,hno⟩
 refine⟨fun hlt=>?_,fun hge=>?_⟩
 ·have hk':k<l.length:=by omega
  obtain⟨b,o,ha,c0,c1,c2⟩:=(h.ext hx (by simp)).get k l[k] (List.getElem?_eq_getElem hk')
  refine⟨by omega,by omega,b,o,ha,_,c0,_,c1,_,_,_,c2,(noref_ok l[k] H4).mono ?_⟩
  rintro _ H13 ⟨rfl,hx13⟩
  refine⟨_,rfl,fun ht=>⟨?_,hx.trans' hx13 (by simp)⟩,fun ht=>⟨by unfold In64;omega,⟨k+1,by omega,by omega,hx.trans' hx13 (by simp),fun j hj x hxj=>?_⟩,by simp only;omega⟩⟩
  ·have ht':l[k].refs=0:=@of_decide_eq_true _ (Classical.propDecidable _) ht
   have:l.findIdx? (fun x=>x.refs == 0)=some k:=by
    rw[List.findIdx?_eq_some_iff_getElem]
    refine⟨hk',by simpa using ht',fun j hj=>?_⟩
    simpa using hno j hj _ (List.getElem?_eq_getElem (by omega))
   simp only[freeF,this]
  ·have ht':¬l[k].refs=0:=@of_decide_eq_false _ (Classical.propDecidable _) ht
   by_cases hjk:j=k
   ·subst hjk
    rw[List.getElem?_eq_getElem hk']at hxj
    cases hxj
    exact ht'
   ·exact hno j (by omega) x hxj
 ·refine⟨?_,hx⟩
  have:l.findIdx? (fun x=>x.refs == 0)=none:=by
   rw[List.findIdx?_eq_none_iff]
   intro x hxm
   obtain⟨j,hj,rfl⟩:=List.getElem_of_mem hxm
   simpa using hno j (by omega) _ (List.getElem?_eq_getElem hj)
  simp only[freeF,this]
end Go.Proofs
end
section
open Go Go.Vc
namespace Go.Proofs.Bx
theorem getbm_ok{H:Heap}{pb:Nat}{a:Option Addr}{c:Nat}{bs:List Bool}(h:IsB H pb a c bs)(k:Int):Does Tryz.prog 153 [.pointer (some ⟨pb,0,none⟩),.int .i64 k] H fun v H'=>v=.bool (decide (0≤k) && (decide (k<bs.length) && onB bs k.toNat))∧H=H':=by
 obtain⟨xs,hm,hb⟩:=h
 refine(get_ok hm k).mono ?_
 rintro _ _ ⟨rfl,rfl⟩
 exact⟨by rw[getB,hb.bits],rfl⟩
theorem copybm_ok{H:Heap}{pb:Nat}{a:Option Addr}{c:Nat}{bs:List Bool}(h:IsB H pb a c bs):Does Tryz.prog 155 [.pointer (some ⟨pb,0,none⟩)] H fun v H'=>
  ∃pb' a' c',v=.pointer (some ⟨pb',0,none⟩)∧IsB H' pb' a' c' bs∧Ext [] H H'∧H.size≤pb'∧(∀k,k∈blkOf a'→H.size≤k):=by
 obtain⟨xs,hm,hb⟩:=h
 refine(copy_ok hm).mono ?_
 rintro _ H' ⟨pb',a',c',rfl,h1,h2,h3,h4⟩
 exact⟨pb',a',c',rfl,⟨xs,h1,hb⟩,h2,h3,h4⟩
theorem bytesbm_ok{H:Heap}{pb:Nat}{a:Option Addr}{c:Nat}{bs:List Bool}(h:IsB H pb a c bs):Does Tryz.prog 176 [.pointer (some ⟨pb,0,none⟩)] H fun v H'=>
  ∃a' c' xs,BytesAre bs xs∧v=.slice a' xs.length c'∧Own H' 1 a' xs.length c' (bytesV xs)∧Ext [] H H'∧(∀k,k∈blkOf a'→H.size≤k):=by
 obtain⟨xs,hm,hb⟩:=h
 refine(bytes_ok hm).mono ?_
 rintro _ H' ⟨a',c',rfl,h1,h2,h3⟩
 exact⟨a',c',xs,hb,rfl,h1,h2,h3⟩
end Go.Proofs.Bx
end
section
open Go Go.Vc
namespace Go.Proofs
structure RSt where
 a:Option Addr
 n:Nat
 c:Nat
 tb:Nat
 mb:Nat
def rstV(x:RSt):List Value:=[.slice x.a x.n x.c,.pointer (some ⟨x.tb,0,none⟩),.map (some x.mb)]
def stoV(pj:Nat)(h s b f:Int)(x y:RSt):List Value:=[.pointer (some ⟨pj,0,none⟩),.int .i64 h,.int .i64 s,.int .i64 b,.int .i64 f]++rstV x++rstV y
def refsF(l:List RSl)(id:Int):Int:=if id<1∨l.length<id then 0 else match l[(id - 1).toNat]? with|some x=>x.refs|none=>0
theorem refs_ok{H:Heap}{ps pj:Nat}{h s b f:Int}{x y:RSt}{l:List RSl}(hb:Blk H ps (stoV pj h s b f x y))(hs:RSls H x.a x.n l)(hl:x.n≤1000000)(id:Int) :
  Does Tryz.prog 50 [.pointer (some ⟨ps,0,none⟩),.int .i64 id] H fun v H'=>v=.int .i64 (refsF l id)∧H=H':=by
 refine Fn_of_vc Tryz.mixed (RefsV _ _ _ _) ?_
 have hlen:=hs.leng
 refine⟨fun h1=>⟨by simp[refsF,h1],rfl⟩,fun h1=>⟨ps,0,rfl,_,_,_,by rw[hb.cell];rfl,fun h2=>⟨by simp only[refsF];rw[if_pos (.inr (by omega))],rfl⟩,fun h2=>⟨ps,0,rfl,_,_,_,by rw[hb.cell];rfl,by unfold In64;omega,by omega,by omega,?_⟩⟩⟩
 have hk:(id - 1).toNat<l.length:=by omega
 obtain⟨b,o,ha,_,c1,_⟩:=hs.get (id - 1).toNat l[(id - 1).toNat] (List.getElem?_eq_getElem hk)
 refine⟨b,o,ha,_,c1,?_,rfl⟩
 simp only[refsF]
 rw[if_neg (by omega),List.getElem?_eq_getElem hk]
end Go.Proofs
end
section
open Go Go.Vc
namespace Go.Proofs
theorem Ck0(H:Heap) (R:Value→Heap→Prop):Part Tryz.prog 201 0 [] [4] H R=(R (.int .i64 0) H):=by kernel_rfl
theorem Ck1(p1:Nat) (x4:Int) (H:Heap) (R:Value→Heap→Prop):Part Tryz.prog 201 1 [(1,.v (.pointer (some ⟨p1,0,none⟩))),(4,.v (.int .i64 x4))] [9] H R=(∃a1 l2 c3,hcell H p1 0=some (.slice a1 l2 c3)∧R (.bool (@decide ((x4:Int)<(l2:Int)) (Classical.propDecidable _))) H):=by kernel_rfl
theorem Ck3(p1:Nat) (p2:Nat) (x4:Int) (H:Heap) (R:Value→Heap→Prop):Part Tryz.prog 201 3 [(1,.v (.pointer (some ⟨p1,0,none⟩))),(2,.v (.pointer (some ⟨p2,0,none⟩))),(4,.v (.int .i64 x4))] [5] H R=(∃n1,hcell H p2 0=some (.int .i64 n1)∧∃a2 l3 c4,hcell H p1 0=some (.slice a2 l3 c4)∧(0:Int)≤x4∧(x4:Int)≤(l3:Int)∧∀a5:Option Addr,a5=(if c4=(Int.toNat x4)then a2 else Option.map (fun x=>Addr.add x ((Int.toNat x4)*1)) a2)→R (.int .i64 (min n1 ((l3 - (Int.toNat x4):Nat):Int))) H):=by kernel_rfl
theorem Ck4(y0:Nat) (p1:Nat) (x4:Int) (x5:Int) (H:Heap) (R:Value→Heap→Prop):Piece Tryz.prog 201 4 0 10 [(0,.v (.func (.yield y0) #[] #[])),(1,.v (.pointer (some ⟨p1,0,none⟩))),(4,.v (.int .i64 x4)),(5,.v (.int .i64 x5))] [19,28] H R=(∃a1 l2 c3,hcell H p1 0=some (.slice a1 l2 c3)∧In64 (x4+x5) ∧In64 (x4+x5) ∧(0:Int)≤x4∧(x4:Int)≤(x4+x5)∧((x4+x5):Int)≤(x4+x5)∧((x4+x5):Int)≤(c3:Int)∧∀a4:Option Addr,a4=(if Int.toNat (x4+x5)=(Int.toNat x4)then a1 else Option.map (fun x=>Addr.add x ((Int.toNat x4)*1)) a1)→R (.tuple #[.func (.yield y0) #[] #[],.slice a4 (Int.toNat (x4+x5) - (Int.toNat x4)) (Int.toNat (x4+x5) - (Int.toNat x4))]) H):=by kernel_rfl
theorem Ck5(x29:Bool) (H:Heap) (R:Value→Heap→Prop):Piece Tryz.prog 201 4 11 12 [(29,.v (.bool x29))] [30] H R=(R (.bool (@decide (x29=false) (Classical.propDecidable _))) H):=by kernel_rfl
theorem Ck2(p2:Nat) (x4:Int) (H:Heap) (R:Value→Heap→Prop):Part Tryz.prog 201 2 [(2,.v (.pointer (some ⟨p2,0,none⟩))),(4,.v (.int .i64 x4))] [4] H R=(∃n1,hcell H p2 0=some (.int .i64 n1)∧In64 (x4+n1) ∧R (.int .i64 (x4+n1)) H):=by kernel_rfl
theorem Cw0(H:Heap) (R:Value→Heap→Prop):Part Tryz.prog 184 0 [] [4] H R=(R (.int .i64 0) H):=by kernel_rfl
theorem Cw1(p1:Nat) (x4:Int) (H:Heap) (R:Value→Heap→Prop):Part Tryz.prog 184 1 [(1,.v (.pointer (some ⟨p1,0,none⟩))),(4,.v (.int .i64 x4))] [9] H R=(∃a1 l2 c3,hcell H p1 0=some (.slice a1 l2 c3)∧R (.bool (@decide ((x4:Int)<(l2:Int)) (Classical.propDecidable _))) H):=by kernel_rfl
theorem Cw3(p1:Nat) (p2:Nat) (x4:Int) (H:Heap) (R:Value→Heap→Prop):Part Tryz.prog 184 3 [(1,.v (.pointer (some ⟨p1,0,none⟩))),(2,.v (.pointer (some ⟨p2,0,none⟩))),(4,.v (.int .i64 x4))] [5] H R=(∃n1,hcell H p2 0=some (.int .i64 n1)∧∃a2 l3 c4,hcell H p1 0=some (.slice a2 l3 c4)∧(0:Int)≤x4∧(x4:Int)≤(l3:Int)∧∀a5:Option Addr,a5=(if c4=(Int.toNat x4)then a2 else Option.map (fun x=>Addr.add x ((Int.toNat x4)*2)) a2)→R (.int .i64 (min n1 ((l3 - (Int.toNat x4):Nat):Int))) H):=by kernel_rfl
theorem Cw4(y0:Nat) (p1:Nat) (x4:Int) (x5:Int) (H:Heap) (R:Value→Heap→Prop):Piece Tryz.prog 184 4 0 10 [(0,.v (.func (.yield y0) #[] #[])),(1,.v (.pointer (some ⟨p1,0,none⟩))),(4,.v (.int .i64 x4)),(5,.v (.int .i64 x5))] [19,28] H R=(∃a1 l2 c3,hcell H p1 0=some (.slice a1 l2 c3)∧In64 (x4+x5) ∧In64 (x4+x5) ∧(0:Int)≤x4∧(x4:Int)≤(x4+x5)∧((x4+x5):Int)≤(x4+x5)∧((x4+x5):Int)≤(c3:Int)∧∀a4:Option Addr,a4=(if Int.toNat (x4+x5)=(Int.toNat x4)then a1 else Option.map (fun x=>Addr.add x ((Int.toNat x4)*2)) a1)→R (.tuple #[.func (.yield y0) #[] #[],.slice a4 (Int.toNat (x4+x5) - (Int.toNat x4)) (Int.toNat (x4+x5) - (Int.toNat x4))]) H):=by kernel_rfl
theorem Cw5(x29:Bool) (H:Heap) (R:Value→Heap→Prop):Piece Tryz.prog 184 4 11 12 [(29,.v (.bool x29))] [30] H R=(R (.bool (@decide (x29=false) (Classical.propDecidable _))) H):=by kernel_rfl
theorem Cw2(p2:Nat) (x4:Int) (H:Heap) (R:Value→Heap→Prop):Part Tryz.prog 184 2 [(2,.v (.pointer (some ⟨p2,0,none⟩))),(4,.v (.int .i64 x4))] [4] H R=(∃n1,hcell H p2 0=some (.int .i64 n1)∧In64 (x4+n1) ∧R (.int .i64 (x4+n1)) H):=by kernel_rfl
theorem Aq0(x0:Option Addr) (x0l:Nat) (x0c:Nat) (H:Heap) (R:Value→Heap→Prop):Part Tryz.prog 200 0 [(0,.v (.slice x0 x0l x0c))] [2] H R=(∀b1 H2,New H b1 [.slice x0 x0l x0c] 81 H2→R (.pointer (some ⟨b1,0,none⟩)) H2):=by kernel_rfl
theorem Aq1(x1:Value) (H:Heap) (R:Value→Heap→Prop):Part Tryz.prog 200 1 [(1,.v x1)] [6] H R=(R x1 H):=by kernel_rfl
theorem Aq2(x7:Option Addr) (x7l:Nat) (x7c:Nat) (H:Heap) (R:Value→Heap→Prop):Part Tryz.prog 200 2 [(7,.v (.slice x7 x7l x7c))] [5] H R=(R (.slice x7 x7l x7c) H):=by kernel_rfl
theorem Aq3(p2:Nat) (x5:Option Addr) (x5l:Nat) (x5c:Nat) (H:Heap) (R:Value→Heap→Prop):Part Tryz.prog 200 3 [(2,.v (.pointer (some ⟨p2,0,none⟩))),(5,.v (.slice x5 x5l x5c))] [] H R=(∃a1 l2 c3,hcell H p2 0=some (.slice a1 l2 c3)∧∀b4 H5,New H b4 [.slice x5 x5l x5c] 33 H5→∃old6 new7:List Value,SRow H5 1 l2 (.slice a1 l2 c3) old6∧SRow H5 1 1 (.slice (some ⟨b4,0,none⟩) 1 1) new7∧(∀u∈new7,Value.oneCell' u=true)∧(l2+1)*24≤140737488355328∧(l2+1≤c3→roomOf H5 a1 (l2*1) (1*1))∧∀a8:Option Addr,∀c9:Nat,∀H10,App H5 1 33 [.slice none 0 0] a1 l2 c3 old6 new7 1 a8 c9 H10→Cells H10 p2 0 1∧∀H11,Puts H10 p2 0 [.slice a8 (l2+1) c9] H11→R (.tuple #[]) H11):=by kernel_rfl
theorem Aq4(p2:Nat) (H:Heap) (R:Value→Heap→Prop):Part Tryz.prog 200 4 [(2,.v (.pointer (some ⟨p2,0,none⟩)))] [4] H R=(∃a1 l2 c3,hcell H p2 0=some (.slice a1 l2 c3)∧R (.slice a1 l2 c3) H):=by kernel_rfl
end Go.Proofs
end
section
open Go Go.Vc
namespace Go.Vc
theorem Ag.pick{N:Nat}{S S':Sym}{a:Act}(h:Ag N S a)(hs:∀x∈S',Sym.get S x.1=some x.2):Ag N S' a:=by
 refine⟨h.size,h.defers,fun t s ht=>h.agree t s ?_⟩
 have:(t,s)∈S':=by
  clear hs
  induction S' with
  | nil=>cases ht
  | cons x r ih=>
   obtain⟨i,u⟩:=x
   rw[get_cons]at ht
   split at ht
   ·rename_i e
    subst e
    cases ht
    exact List.mem_cons_self
   ·exact List.mem_cons_of_mem _ (ih ht)
 exact hs _ this
theorem one_of{vs:List Value}(h:vs.length=1):vs=[tupV vs]:=by
 match vs,h with
 | [v],_=>rfl
end Go.Vc
namespace Go.Proofs
def chunkAt(a:Option Addr)(L n sz k:Nat):Value:=
 .slice (if min n (L - k*n)=0 then a else a.map (·.add (k*n*sz))) (min n (L - k*n)) (min n (L - k*n))
set_option maxHeartbeats 1000000 in
theorem chunk201_seq(p1 p2:Nat)(a:Option Addr)(L C n:Nat)(hn:1≤n)(hL:L≤4611686018427387903)(hn2:n≤4611686018427387903)(hLC:L≤C) :
  SeqH Tryz.prog 201 [.pointer (some ⟨p1,0,none⟩),.pointer (some ⟨p2,0,none⟩)] (fun k=>[chunkAt a L n 1 k]) (fun k=>L≤k*n) (fun H=>hcell H p1 0=some (.slice a L C)∧hcell H p2 0=some (.int .i64 n)):=by
 intro l J Jx hpre hY H hJ w hw
 subst hw
 refine calls_of_wp Tryz.func201 rfl ?_
 have ha0:Ag Tryz.f201.ntmps [(0,.v (.func (.yield l) #[] #[])),(1,.v (.pointer (some ⟨p1,0,none⟩))),(2,.v (.pointer (some ⟨p2,0,none⟩)))]
   {tmps:=#[.func (.yield l) #[] #[],.pointer (some ⟨p1,0,none⟩),.pointer (some ⟨p2,0,none⟩)]++Array.replicate (Tryz.f201.ntmps - 3) undef,defers:=[]}:=
  ⟨by simp[Tryz.ntmps201],rfl,start_agree [.func (.yield l) #[] #[],.pointer (some ⟨p1,0,none⟩),.pointer (some ⟨p2,0,none⟩)] _⟩
 let B:Nat→Sym:=fun k=>[(4,.v (.int .i64 ((k*n:Nat):Int))),(0,.v (.func (.yield l) #[] #[])),(1,.v (.pointer (some ⟨p1,0,none⟩))),(2,.v (.pointer (some ⟨p2,0,none⟩)))]
 refine wp_seq (wp_mono (part_wp Tryz.mixed (Ck0 w.heap fun v H'=>v=.int .i64 0∧H'=w.heap) ⟨rfl,rfl⟩ Tryz.func201 rfl rfl ha0 (ha0.pick (by simp)) rfl) ?_)
 rintro e a1 w1 ⟨rfl,hs1,vs,hl,⟨hv,hh⟩,ha1⟩
 rw[one_of hl,hv]at ha1
 apply wp_block
 refine wp_loop (fun a' w'=>Sim w w'∧∃k,Ag Tryz.f201.ntmps (B k) a'∧J k w'.heap∧k*n≤L+n) (fun a' _=>L+n - (Go.RowKit.intOf (a'.tmps.getD 4 undef)).toNat) ⟨hs1,0,ha1.pick (by
  intro x hx;simp only[B,List.mem_cons,List.mem_nil_iff,or_false]at hx;rcases hx with rfl|rfl|rfl|rfl<;>simp<;>rfl),by rw[hh];exact hJ,by omega⟩ ?_
 rintro a2 w2 ⟨hs2,k,ha2,hj2,hk2⟩
 obtain⟨hp1,hp2⟩:=hpre k _ hj2
 have hmu:Go.RowKit.intOf (a2.tmps.getD 4 undef)=((k*n:Nat):Int):=by rw[ha2.agree 4 _ rfl];rfl
 apply wp_seq
 apply wp_seq
 refine wp_mono (part_wp Tryz.mixed (Ck1 p1 ((k*n:Nat):Int) w2.heap fun v H'=>v=.bool (decide (k*n<L))∧H'=w2.heap) ⟨a,L,C,hp1,congrArg Value.bool (decide_eq_decide.2 Int.ofNat_lt),rfl⟩ Tryz.func201 rfl rfl ha2
  (ha2.pick (by intro x hx;simp only[List.mem_cons,List.mem_nil_iff,or_false]at hx;rcases hx with rfl|rfl<;>rfl)) rfl) ?_
 rintro e a3 w3 ⟨rfl,hs3,vs,hl,⟨hv,hh3⟩,ha3⟩
 rw[one_of hl,hv]at ha3
 by_cases hlt:k*n<L
 ·rw[decide_eq_true hlt]at ha3
  refine wp_cond (t:=true) (ha3.agree 9 (.v (.bool true)) rfl) ?_
  simp only[if_true]
  refine wp_skip ?_
  show Code.wp _ _ _ _ _
  apply wp_seq
  apply wp_block
  have haB:Ag Tryz.f201.ntmps (B k) a3:=ha3.pick (by
   intro x hx;simp only[B,List.mem_cons,List.mem_nil_iff,or_false]at hx;rcases hx with rfl|rfl|rfl|rfl<;>rfl)
  have hlen:((L - ((k*n:Nat):Int).toNat:Nat):Int)=((L - k*n:Nat):Int):=by rw[Int.toNat_natCast]
  refine wp_seq (wp_mono (part_wp Tryz.mixed (Ck3 p1 p2 ((k*n:Nat):Int) w3.heap fun v H'=>v=.int .i64 ((min n (L - k*n):Nat):Int)∧H'=w2.heap) ⟨(n:Int),by rw[hh3];exact hp2,a,L,C,by rw[hh3];exact hp1,Int.natCast_nonneg _,Int.ofNat_le.2 (Nat.le_of_lt hlt),fun a5 h5=>⟨by rw[hlen];simp only[Value.int.injEq,true_and];omega,hh3⟩⟩
   Tryz.func201 rfl rfl haB (haB.pick (by intro x hx;simp only[List.mem_cons,List.mem_nil_iff,or_false]at hx;rcases hx with rfl|rfl|rfl<;>rfl)) rfl) ?_)
  rintro e a4 w4 ⟨rfl,hs4,vs,hl,⟨hv,hh4⟩,ha4⟩
  rw[one_of hl,hv]at ha4
  obtain⟨m,hm⟩:∃m,m=min n (L - k*n):=⟨_,rfl⟩
  rw[←hm]at ha4
  have haB5:Ag Tryz.f201.ntmps ((5,.v (.int .i64 (m:Int)))::B k) a4:=ha4.pick (by
   intro x hx;simp only[B,List.mem_cons,List.mem_nil_iff,or_false]at hx;rcases hx with rfl|rfl|rfl|rfl|rfl<;>rfl)
  have hbig:k*n+m≤L:=by omega
  have hin:In64 (((k*n:Nat):Int)+(m:Int)):=by unfold In64;omega
  have hsum:(((k*n:Nat):Int)+(m:Int)).toNat=k*n+m:=by omega
  have hnn:((k*n:Nat):Int).toNat=k*n:=Int.toNat_natCast _
  refine wp_seq (wp_mono (yield_wp (d2:=30) (T:=fun x H'=>(x=true∧J (k+1) H')∨(x=false∧Jx H')) (Ck4 l p1 ((k*n:Nat):Int) (m:Int) w4.heap fun v H'=>v=.tuple #[.func (.yield l) #[] #[],chunkAt a L n 1 k]∧H'=w2.heap)
   ⟨a,L,C,by rw[hh4];exact hp1,hin,hin,Int.natCast_nonneg _,by omega,Int.le_refl _,by omega,fun a4 h4=>⟨?_,hh4⟩⟩ Tryz.func201 rfl rfl rfl (o:=_) (post:=_) rfl rfl rfl rfl (by decide) (by decide) ?_ ?_ haB5
   (haB5.pick (by intro x hx;simp only[List.mem_cons,List.mem_nil_iff,or_false]at hx;rcases hx with rfl|rfl|rfl|rfl<;>rfl)) rfl) ?_)
  ·rw[hsum,hnn]at h4
   subst h4
   simp only[hsum,hnn]
   simp only[chunkAt,←hm,Nat.add_sub_cancel_left]
   congr 2
   by_cases e:m=0
   ·simp[e]
   ·simp[e]
  ·rintro v H' ⟨rfl,rfl⟩
   refine⟨l,_,rfl,fun w' hw'=>?_⟩
   refine YieldAt.mono (hY k w' (by rw[hw'];exact hj2) (by omega)) ?_
   rintro e W' ⟨hs,(⟨rfl,h⟩|⟨rfl,h⟩)⟩
   ·exact⟨hs,true,rfl,.inl ⟨rfl,h⟩⟩
   ·exact⟨hs,false,rfl,.inr ⟨rfl,h⟩⟩
  ·intro x H'
   show Piece _ 201 4 11 12 _ _ _ _
   rw[Ck5]
   exact⟨by cases x<;>simp,rfl⟩
  rintro e a5 w5 ⟨rfl,hs5,x,hT,ha5⟩
  have hsim:Sim w w5:=(((hs2.trans hs3).trans hs4).trans hs5)
  have haC:Ag Tryz.f201.ntmps ((30,.v (.bool (!x)))::B k) a5:=ha5.pick (by
   intro y hy;simp only[B,List.mem_cons,List.mem_nil_iff,or_false]at hy;rcases hy with rfl|rfl|rfl|rfl|rfl<;>rfl)
  rcases hT with⟨rfl,hj⟩|⟨rfl,hj⟩
  ·refine wp_cond (t:=false) (haC.agree 30 (.v (.bool false)) rfl) ?_
   simp only[Bool.false_eq_true,if_false]
   refine wp_skip ?_
   show Code.wp _ _ _ _ _
   obtain⟨hq1,hq2⟩:=hpre (k+1) _ hj
   refine wp_mono (part_wp Tryz.mixed (Ck2 p2 ((k*n:Nat):Int) w5.heap fun v H'=>v=.int .i64 (((k+1)*n:Nat):Int)∧H'=w5.heap) ⟨(n:Int),hq2,by unfold In64;omega,by simp only[Value.int.injEq,true_and];rw[Nat.succ_mul];omega,rfl⟩
    Tryz.func201 rfl rfl haC (haC.pick (by intro x hx;simp only[List.mem_cons,List.mem_nil_iff,or_false]at hx;rcases hx with rfl|rfl<;>rfl)) rfl) ?_
   rintro e a6 w6 ⟨rfl,hs6,vs,hl,⟨hv,hh6⟩,ha6⟩
   rw[one_of hl,hv]at ha6
   have haD:Ag Tryz.f201.ntmps (B (k+1)) a6:=ha6.pick (by
    intro y hy;simp only[B,List.mem_cons,List.mem_nil_iff,or_false]at hy;rcases hy with rfl|rfl|rfl|rfl<;>rfl)
   have hmu2:Go.RowKit.intOf (a6.tmps.getD 4 undef)=(((k+1)*n:Nat):Int):=by rw[haD.agree 4 _ rfl];rfl
   refine⟨⟨hsim.trans hs6,k+1,haD,by rw[hh6];exact hj,by rw[Nat.succ_mul];omega⟩,?_⟩
   show _<_
   simp only[hmu,hmu2,Int.toNat_natCast]
   rw[Nat.succ_mul]
   omega
  ·refine wp_cond (t:=true) (haC.agree 30 (.v (.bool true)) rfl) ?_
   simp only[if_true]
   refine wp_ret ?_
   exact⟨haC.defers,.tuple #[],by simp[results,Tryz.results201],_,rfl,hsim,.inr hj⟩
 ·rw[decide_eq_false hlt]at ha3
  refine wp_cond (t:=false) (ha3.agree 9 (.v (.bool false)) rfl) ?_
  simp only[Bool.false_eq_true,if_false]
  refine wp_exit ?_
  exact⟨ha3.defers,.tuple #[],by simp[results,Tryz.results201],_,rfl,hs2.trans hs3,.inl ⟨k,by omega,by rw[hh3];exact hj2⟩⟩
set_option maxHeartbeats 1000000 in
theorem chunk184_seq(p1 p2:Nat)(a:Option Addr)(L C n:Nat)(hn:1≤n)(hL:L≤4611686018427387903)(hn2:n≤4611686018427387903)(hLC:L≤C) :
  SeqH Tryz.prog 184 [.pointer (some ⟨p1,0,none⟩),.pointer (some ⟨p2,0,none⟩)] (fun k=>[chunkAt a L n 2 k]) (fun k=>L≤k*n) (fun H=>hcell H p1 0=some (.slice a L C)∧hcell H p2 0=some (.int .i64 n)):=by
 intro l J Jx hpre hY H hJ w hw
 subst hw
 refine calls_of_wp Tryz.func184 rfl ?_
 have ha0:Ag Tryz.f184.ntmps [(0,.v (.func (.yield l) #[] #[])),(1,.v (.pointer (some ⟨p1,0,none⟩))),(2,.v (.pointer (some ⟨p2,0,none⟩)))]
   {tmps:=#[.func (.yield l) #[] #[],.pointer (some ⟨p1,0,none⟩),.pointer (some ⟨p2,0,none⟩)]++Array.replicate (Tryz.f184.ntmps - 3) undef,defers:=[]}:=
  ⟨by simp[Tryz.ntmps184],rfl,start_agree [.func (.yield l) #[] #[],.pointer (some ⟨p1,0,none⟩),.pointer (some ⟨p2,0,none⟩)] _⟩
 let B:Nat→Sym:=fun k=>[(4,.v (.int .i64 ((k*n:Nat):Int))),(0,.v (.func (.yield l) #[] #[])),(1,.v (.pointer (some ⟨p1,0,none⟩))),(2,.v (.pointer (some ⟨p2,0,none⟩)))]
 refine wp_seq (wp_mono (part_wp Tryz.mixed (Cw0 w.heap fun v H'=>v=.int .i64 0∧H'=w.heap) ⟨rfl,rfl⟩ Tryz.func184 rfl rfl ha0 (ha0.pick (by simp)) rfl) ?_)
 rintro e a1 w1 ⟨rfl,hs1,vs,hl,⟨hv,hh⟩,ha1⟩
 rw[one_of hl,hv]at ha1
 apply wp_block
 refine wp_loop (fun a' w'=>Sim w w'∧∃k,Ag Tryz.f184.ntmps (B k) a'∧J k w'.heap∧k*n≤L+n) (fun a' _=>L+n - (Go.RowKit.intOf (a'.tmps.getD 4 undef)).toNat) ⟨hs1,0,ha1.pick (by
  intro x hx;simp only[B,List.mem_cons,List.mem_nil_iff,or_false]at hx;rcases hx with rfl|rfl|rfl|rfl<;>simp<;>rfl),by rw[hh];exact hJ,by omega⟩ ?_
 rintro a2 w2 ⟨hs2,k,ha2,hj2,hk2⟩
 obtain⟨hp1,hp2⟩:=hpre k _ hj2
 have hmu:Go.RowKit.intOf (a2.tmps.getD 4 undef)=((k*n:Nat):Int):=by rw[ha2.agree 4 _ rfl];rfl
 apply wp_seq
 apply wp_seq
 refine wp_mono (part_wp Tryz.mixed (Cw1 p1 ((k*n:Nat):Int) w2.heap fun v H'=>v=.bool (decide (k*n<L))∧H'=w2.heap) ⟨a,L,C,hp1,congrArg Value.bool (decide_eq_decide.2 Int.ofNat_lt),rfl⟩ Tryz.func184 rfl rfl ha2
  (ha2.pick (by intro x hx;simp only[List.mem_cons,List.mem_nil_iff,or_false]at hx;rcases hx with rfl|rfl<;>rfl)) rfl) ?_
 rintro e a3 w3 ⟨rfl,hs3,vs,hl,⟨hv,hh3⟩,ha3⟩
 rw[one_of hl,hv]at ha3
 by_cases hlt:k*n<L
 ·rw[decide_eq_true hlt]at ha3
  refine wp_cond (t:=true) (ha3.agree 9 (.v (.bool true)) rfl) ?_
  simp only[if_true]
  refine wp_skip ?_
  show Code.wp _ _ _ _ _
  apply wp_seq
  apply wp_block
  have haB:Ag Tryz.f184.ntmps (B k) a3:=ha3.pick (by
   intro x hx;simp only[B,List.mem_cons,List.mem_nil_iff,or_false]at hx;rcases hx with rfl|rfl|rfl|rfl<;>rfl)
  have hlen:((L - ((k*n:Nat):Int).toNat:Nat):Int)=((L - k*n:Nat):Int):=by rw[Int.toNat_natCast]
  refine wp_seq (wp_mono (part_wp Tryz.mixed (Cw3 p1 p2 ((k*n:Nat):Int) w3.heap fun v H'=>v=.int .i64 ((min n (L - k*n):Nat):Int)∧H'=w2.heap) ⟨(n:Int),by rw[hh3];exact hp2,a,L,C,by rw[hh3];exact hp1,Int.natCast_nonneg _,Int.ofNat_le.2 (Nat.le_of_lt hlt),fun a5 h5=>⟨by rw[hlen];simp only[Value.int.injEq,true_and];omega,hh3⟩⟩
   Tryz.func184 rfl rfl haB (haB.pick (by intro x hx;simp only[List.mem_cons,List.mem_nil_iff,or_false]at hx;rcases hx with rfl|rfl|rfl<;>rfl)) rfl) ?_)
  rintro e a4 w4 ⟨rfl,hs4,vs,hl,⟨hv,hh4⟩,ha4⟩
  rw[one_of hl,hv]at ha4
  obtain⟨m,hm⟩:∃m,m=min n (L - k*n):=⟨_,rfl⟩
  rw[←hm]at ha4
  have haB5:Ag Tryz.f184.ntmps ((5,.v (.int .i64 (m:Int)))::B k) a4:=ha4.pick (by
   intro x hx;simp only[B,List.mem_cons,List.mem_nil_iff,or_false]at hx;rcases hx with rfl|rfl|rfl|rfl|rfl<;>rfl)
  have hbig:k*n+m≤L:=by omega
  have hin:In64 (((k*n:Nat):Int)+(m:Int)):=by unfold In64;omega
  have hsum:(((k*n:Nat):Int)+(m:Int)).toNat=k*n+m:=by omega
  have hnn:((k*n:Nat):Int).toNat=k*n:=Int.toNat_natCast _
  refine wp_seq (wp_mono (yield_wp (d2:=30) (T:=fun x H'=>(x=true∧J (k+1) H')∨(x=false∧Jx H')) (Cw4 l p1 ((k*n:Nat):Int) (m:Int) w4.heap fun v H'=>v=.tuple #[.func (.yield l) #[] #[],chunkAt a L n 2 k]∧H'=w2.heap)
   ⟨a,L,C,by rw[hh4];exact hp1,hin,hin,Int.natCast_nonneg _,by omega,Int.le_refl _,by omega,fun a4 h4=>⟨?_,hh4⟩⟩ Tryz.func184 rfl rfl rfl (o:=_) (post:=_) rfl rfl rfl rfl (by decide) (by decide) ?_ ?_ haB5
   (haB5.pick (by intro x hx;simp only[List.mem_cons,List.mem_nil_iff,or_false]at hx;rcases hx with rfl|rfl|rfl|rfl<;>rfl)) rfl) ?_)
  ·rw[hsum,hnn]at h4
   subst h4
   simp only[hsum,hnn]
   simp only[chunkAt,←hm,Nat.add_sub_cancel_left]
   congr 2
   by_cases e:m=0
   ·simp[e]
   ·simp[e]
  ·rintro v H' ⟨rfl,rfl⟩
   refine⟨l,_,rfl,fun w' hw'=>?_⟩
   refine YieldAt.mono (hY k w' (by rw[hw'];exact hj2) (by omega)) ?_
   rintro e W' ⟨hs,(⟨rfl,h⟩|⟨rfl,h⟩)⟩
   ·exact⟨hs,true,rfl,.inl ⟨rfl,h⟩⟩
   ·exact⟨hs,false,rfl,.inr ⟨rfl,h⟩⟩
  ·intro x H'
   show Piece _ 184 4 11 12 _ _ _ _
   rw[Cw5]
   exact⟨by cases x<;>simp,rfl⟩
  rintro e a5 w5 ⟨rfl,hs5,x,hT,ha5⟩
  have hsim:Sim w w5:=(((hs2.trans hs3).trans hs4).trans hs5)
  have haC:Ag Tryz.f184.ntmps ((30,.v (.bool (!x)))::B k) a5:=ha5.pick (by
   intro y hy;simp only[B,List.mem_cons,List.mem_nil_iff,or_false]at hy;rcases hy with rfl|rfl|rfl|rfl|rfl<;>rfl)
  rcases hT with⟨rfl,hj⟩|⟨rfl,hj⟩
  ·refine wp_cond (t:=false) (haC.agree 30 (.v (.bool false)) rfl) ?_
   simp only[Bool.false_eq_true,if_false]
   refine wp_skip ?_
   show Code.wp _ _ _ _ _
   obtain⟨hq1,hq2⟩:=hpre (k+1) _ hj
   refine wp_mono (part_wp Tryz.mixed (Cw2 p2 ((k*n:Nat):Int) w5.heap fun v H'=>v=.int .i64 (((k+1)*n:Nat):Int)∧H'=w5.heap) ⟨(n:Int),hq2,by unfold In64;omega,by simp only[Value.int.injEq,true_and];rw[Nat.succ_mul];omega,rfl⟩
    Tryz.func184 rfl rfl haC (haC.pick (by intro x hx;simp only[List.mem_cons,List.mem_nil_iff,or_false]at hx;rcases hx with rfl|rfl<;>rfl)) rfl) ?_
   rintro e a6 w6 ⟨rfl,hs6,vs,hl,⟨hv,hh6⟩,ha6⟩
   rw[one_of hl,hv]at ha6
   have haD:Ag Tryz.f184.ntmps (B (k+1)) a6:=ha6.pick (by
    intro y hy;simp only[B,List.mem_cons,List.mem_nil_iff,or_false]at hy;rcases hy with rfl|rfl|rfl|rfl<;>rfl)
   have hmu2:Go.RowKit.intOf (a6.tmps.getD 4 undef)=(((k+1)*n:Nat):Int):=by rw[haD.agree 4 _ rfl];rfl
   refine⟨⟨hsim.trans hs6,k+1,haD,by rw[hh6];exact hj,by rw[Nat.succ_mul];omega⟩,?_⟩
   show _<_
   simp only[hmu,hmu2,Int.toNat_natCast]
   rw[Nat.succ_mul]
   omega
  ·refine wp_cond (t:=true) (haC.agree 30 (.v (.bool true)) rfl) ?_
   simp only[if_true]
   refine wp_ret ?_
   exact⟨haC.defers,.tuple #[],by simp[results,Tryz.results184],_,rfl,hsim,.inr hj⟩
 ·rw[decide_eq_false hlt]at ha3
  refine wp_cond (t:=false) (ha3.agree 9 (.v (.bool false)) rfl) ?_
  simp only[Bool.false_eq_true,if_false]
  refine wp_exit ?_
  exact⟨ha3.defers,.tuple #[],by simp[results,Tryz.results184],_,rfl,hs2.trans hs3,.inl ⟨k,by omega,by rw[hh3];exact hj2⟩⟩
end Go.Proofs
end
section
open Go Go.Vc Go.Proofs.Bx
namespace Go.Vc
theorem MIter.set{H:Heap}{r m r2:Nat}{l:List (Int×Value)}{done:List Int}{o:Obj}(h:MIter H r m l done)(h1:r≠r2)(h2:m≠r2):MIter (H.setIfInBounds r2 o) r m l done:=by
 obtain⟨es,clock,seen,ds,g1,g2,g3⟩:=h
 exact⟨es,clock,seen,ds,by rw[Array.getElem?_setIfInBounds_ne (Ne.symm h1)];exact g1,by rw[Array.getElem?_setIfInBounds_ne (Ne.symm h2)];exact g2,g3⟩
theorem mapSet_new:∀{l:List (Int×Value)}{k:Int}{v:Value},k∉l.map (·.1)→mapSet l k v=l++[(k,v)]
 | [],_,_,_=>rfl
 | p::r,k,v,h=>by
  simp only[List.map_cons,List.mem_cons,not_or]at h
  unfold mapSet
  rw[if_neg (fun e=>h.1 e.symm),mapSet_new h.2]
  rfl
end Go.Vc
namespace Go.Proofs
def CpI(H0:Heap)(r4 r1 r2:Nat)(l:List (Int×Value))(H:Heap):Prop:=
 ∃done l2,H.size=H0.size∧(∀j,j≠r4→j≠r2→H[j]?=H0[j]?)∧MIter H r4 r1 l done∧MapIs H r2 l2∧l2.map (·.1)=done∧done.Nodup∧∀p∈l2,p∈l
def keysAt(H:Heap)(r:Nat):List Int:=match H[r]? with
 | some (.map es _)=>es.toList.map fun e=>keyI e.key
 | _=>[]
theorem keysAt_is{H:Heap}{r:Nat}{l:List (Int×Value)}(h:MapIs H r l):keysAt H r=l.map (·.1):=by
 obtain⟨es,clock,h1,h2,_⟩:=h
 unfold keysAt
 rw[h1]
 have:=congrArg (List.map fun p=>keyI p.1) h2
 simpa[List.map_map,Function.comp_def,keyI]using this
theorem filter_less{L:List Int}{d:List Int}{k:Int}(hk:k∈L)(hd:k∉d):(L.filter fun x=>!(d++[k]).contains x).length<(L.filter fun x=>!d.contains x).length:=by
 have e:(L.filter fun x=>!(d++[k]).contains x)=(L.filter fun x=>!d.contains x).filter fun x=>x != k:=by
  rw[List.filter_filter]
  apply List.filter_congr
  intro x _
  simp[Bool.not_or,Bool.and_comm]
  rfl
 rw[e]
 refine List.length_filter_lt_length_iff_exists.2 ⟨k,?_,by simp⟩
 rw[List.mem_filter]
 exact⟨hk,by simpa using hd⟩
theorem cpLoop{H:Heap}{p1 p3 r1 r2:Nat}{l:List (Int×Value)}{R:Value→Heap→Prop}(h1:hcell H p1 2=some (.map (some r1)))(h3:hcell H p3 2=some (.map (some r2)))(hM1:MapIs H r1 l)(hM2:MapIs H r2 [])(hl:(l.map (·.1)).Nodup)(hs:∀p∈l,∃a n c,p.2=.slice a n c)(hne:r1≠r2)
  (hR:∀H' l2,H'.size=H.size+1→(∀j,j<H.size→j≠r2→H'[j]?=H[j]?)→MapIs H' r2 l2→(l2.map (·.1)).Nodup→(∀p,p∈l2↔p∈l)→R (.tuple #[]) H'):PartS Tryz.prog 94 2 [(1,.v (.pointer (some ⟨p1,0,none⟩))),(3,.v (.pointer (some ⟨p3,0,none⟩)))] [] H R:=by
 rw[CpC]
 have hlt2:r2<H.size:=by obtain⟨_,_,h,_⟩:=hM2;exact(Array.getElem?_eq_some_iff.1 h).1
 have hlt1:r1<H.size:=by obtain⟨_,_,h,_⟩:=hM1;exact(Array.getElem?_eq_some_iff.1 h).1
 have hp3:p3≠r2:=fun e=>by
  subst e
  obtain⟨es,clock,hx,_⟩:=hM2
  rw[show hcell H p3 2=none by simp[hcell,hx]]at h3
  cases h3
 refine⟨some r1,h1,r1,l,rfl,hM1,fun r4 H5 hn=>?_⟩
 obtain⟨rfl,hs5,hk5,hi5⟩:=hn
 have hM25:MapIs H5 r2 []:=by
  obtain⟨es,clock,hx,hy⟩:=hM2
  exact⟨es,clock,by rw[hk5 r2 hlt2];exact hx,hy⟩
 refine⟨CpI H5 H.size r1 r2 l,fun H=>((l.map (·.1)).filter fun x=>!(keysAt H r2).contains x).length,⟨[],[],rfl,fun _ _ _=>rfl,hi5,hM25,rfl,List.nodup_nil,fun p hp=>(by cases hp)⟩,?_⟩
 rintro H8 ⟨done,l2,hs8,hk8,hi8,hm8,hkeys,hnd,hsub⟩
 refine⟨r1,l,done,hi8,?_,fun hall=>?_⟩
 ·intro k12 v13 H14 hmem hnot hst
  obtain⟨hs14,hk14,hi14⟩:=hst
  refine⟨fun _=>?_,fun h=>by cases h⟩
  obtain⟨ya,yl,yc,hv⟩:=hs _ hmem
  have hv:v13=.slice ya yl yc:=hv
  subst hv
  have hm14:MapIs H14 r2 l2:=by
   obtain⟨es,clock,hx,hy⟩:=hm8
   exact⟨es,clock,by rw[hk14 r2 (by omega)];exact hx,hy⟩
  have hc14:hcell H14 p3 2=some (.map (some r2)):=by
   have hlt3:=hcell_lt h3
   unfold hcell at h3 ⊢
   rw[hk14 p3 (by omega),hk8 p3 (by omega) hp3,hk5 p3 hlt3]
   exact h3
  refine⟨r1,l,done,k12,hi14,ya,yl,yc,hmem,some r2,hc14,r2,l2,rfl,hm14,fun H25 hp=>?_⟩
  have hkn:k12∉l2.map (·.1):=by rw[hkeys];exact hnot
  rw[mapSet_new hkn]at hp
  obtain⟨hm25,hx25⟩:=Go.Proofs.MapPut.is hp (by rw[hs14,hs8];omega)
  have hp':=hp
  obtain⟨es,clock,_,rfl,_⟩:=hp'
  have hmu1:keysAt H8 r2=done:=by rw[keysAt_is hm8,hkeys]
  have hmu2:keysAt (H14.setIfInBounds r2 (.map es clock)) r2=done++[k12]:=by rw[keysAt_is hm25,List.map_append,hkeys];rfl
  refine⟨⟨done++[k12],_,by simp[hs14,hs8],fun j hj1 hj2=>?_,MIter.set hi14 (by omega) hne,hm25,by rw[List.map_append,hkeys];rfl,?_,fun p hp=>?_⟩,?_⟩
  ·rw[Array.getElem?_setIfInBounds_ne (Ne.symm hj2),hk14 j hj1,hk8 j hj1 hj2]
  ·rw[List.nodup_append]
   refine⟨hnd,by simp,fun a ha b hb=>?_⟩
   simp only[List.mem_singleton]at hb
   subst hb
   rintro rfl
   exact hnot ha
  ·rcases List.mem_append.1 hp with h|h
   ·exact hsub p h
   ·simp only[List.mem_singleton]at h
    subst h
    exact hmem
  ·show List.length _<List.length _
   simp only[hmu1,hmu2]
   exact filter_less (List.mem_map.2 ⟨_,hmem,rfl⟩) hnot
 ·refine⟨(fun h=>by cases h),fun _=>hR H8 l2 (by omega) (fun j hj hne=>by rw[hk8 j (by omega) hne,hk5 j hj]) hm8 (by rw[hkeys];exact hnd) fun p=>⟨hsub p,fun hp=>?_⟩⟩
  have:=hall p hp
  rw[←hkeys]at this
  obtain⟨q,hq,e⟩:=List.mem_map.1 this
  have:=nodup_map_inj hl (hsub q hq) hp e
  subst this
  exact hq
end Go.Proofs
end
section
open Go Go.Vc Go.Proofs.Bx
namespace Go.Proofs
def CpMid(H0:Heap)(l:List RSl)(bs:List Bool)(n:Nat)(v:Value)(H:Heap):Prop:=
 ∃b3 x ba bc,v=.pointer (some ⟨b3,0,none⟩)∧Ext [] H0 H∧Blk H b3 (rstV x)∧x.n=n∧Own H 3 x.a n x.c (rslsV l)∧IsB H x.tb ba bc bs∧MapIs H x.mb [] ∧
  H0.size≤b3∧(∀q∈blkOf x.a,H0.size≤q)∧H0.size≤x.tb∧(∀q∈blkOf ba,H0.size≤q)∧H0.size≤x.mb∧x.tb∉blkOf x.a∧∀q∈blkOf ba,q∉blkOf x.a
set_option maxHeartbeats 4000000 in
theorem cpMid_ok{H:Heap}{p1:Nat}{x:RSt}{l:List RSl}{ba:Option Addr}{bc:Nat}{bs:List Bool}(hb:Blk H p1 (rstV x))(hs:RSls H x.a x.n l)(hl:x.n≤1000000)(hm:IsB H x.tb ba bc bs):Part Tryz.prog 94 1 [(1,.v (.pointer (some ⟨p1,0,none⟩)))] [3] H (CpMid H l bs x.n):=by
 rw[CpB]
 have c0:hcell H p1 0=some (.slice x.a x.n x.c):=by rw[hb.cell];rfl
 have c1:hcell H p1 (0+1)=some (.pointer (some ⟨x.tb,0,none⟩)):=by rw[hb.cell];rfl
 refine⟨x.a,x.n,x.c,c0,some ⟨x.tb,0,none⟩,c1,?_⟩
 have k0:∀{H':Heap},Ext [] H H'→isL H' p1 0 [.slice x.a x.n x.c]:=fun h=>⟨hcell_ext c0 h (by simp),trivial⟩
 have k1:∀{H':Heap},Ext [] H H'→isL H' p1 (0+1) [.pointer (some ⟨x.tb,0,none⟩)]:=fun h=>⟨hcell_ext c1 h (by simp),trivial⟩
 have S:∀{H':Heap},Ext [] H H'→Does Tryz.prog 154 [.slice x.a x.n x.c] H' fun v H''=>∃a' c',v=.slice a' x.n c'∧Own H'' 3 a' x.n c' (rslsV l)∧Ext [] H' H''∧(∀q,q∈blkOf a'→H.size≤q)∧(∀q,q∈blkOf a'→H'.size≤q):=fun {H'} h=>(clones_ok (hs.ext h (by simp)) hl).mono fun v H'' ⟨a',c',h1,h2,h3,h4⟩=>⟨a',c',h1,h2,h3,fun q hq=>Nat.le_trans h.size (h4 q hq),h4⟩
 have B:∀{H':Heap},Ext [] H H'→Does Tryz.prog 155 [.pointer (some ⟨x.tb,0,none⟩)] H' fun v H''=>∃pb' a' c',v=.pointer (some ⟨pb',0,none⟩)∧IsB H'' pb' a' c' bs∧Ext [] H' H''∧H.size≤pb'∧(∀q,q∈blkOf a'→H.size≤q)∧H'.size≤pb'∧(∀q,q∈blkOf a'→H'.size≤q):=fun {H'} h=>(copybm_ok (hm.ext h (by simp) (by simp))).mono fun v H'' ⟨pb',a',c',h1,h2,h3,h4,h5⟩=>⟨pb',a',c',h1,h2,h3,Nat.le_trans h.size h4,fun q hq=>Nat.le_trans h.size (h5 q hq),h4,h5⟩
 have N:∀{H' H'':Heap} {r:Nat},Ext [] H H'→NewMap H' r H''→MapIs H'' r []∧Ext [] H' H''∧H.size≤r:=fun {H' H'' r} h hn=>by
  have hx:=NewMap.ext hn
  obtain⟨rfl,rfl⟩:=hn
  exact⟨⟨#[],0,by simp,rfl,MapKept.stamped_empty _⟩,hx,h.size⟩
 have A:∀{H' H'':Heap} {b:Nat},Ext [] H H'→New H' b [.slice none 0 0,.pointer none,.map none] 136 H''→Blk H'' b [.slice none 0 0,.pointer none,.map none]∧Ext [] H' H''∧H.size≤b:=fun {H' H'' b} h hn=>⟨hn.blk,hn.ext,by rw[hn.eq];exact h.size⟩
 have fin:∀{H':Heap} {b3 pb r:Nat} {a' ba':Option Addr} {c' bc':Nat},Ext [] H H'→Blk H' b3 [.slice none 0 0,.pointer none,.map none]→H.size≤b3→Own H' 3 a' x.n c' (rslsV l)→(∀q,q∈blkOf a'→H.size≤q)→b3∉blkOf a'→IsB H' pb ba' bc' bs→H.size≤pb→(∀q,q∈blkOf ba'→H.size≤q)→pb≠b3→b3∉blkOf ba'→pb∉blkOf a'→(∀q∈blkOf ba',q∉blkOf a')→MapIs H' r []→H.size≤r →
   Cells H' b3 0 3∧∀H'':Heap,Puts H' b3 0 [.slice a' x.n c',.pointer (some ⟨pb,0,none⟩),.map (some r)] H''→CpMid H l bs x.n (.pointer (some ⟨b3,0,none⟩)) H'':=by
  intro H' b3 pb r a' ba' c' bc' hx h1 h2 h3 h4 h5 h6 h7 h8 h9 h10 h13 h14 h11 h12
  refine⟨h1.cells 3 0 (by simp),fun H'' hp=>?_⟩
  have hpx:=hp.ext
  have hbr:b3≠r:=fun e=>by
   subst e
   obtain⟨e1,g1⟩:=h1
   obtain⟨es,c,g2,_⟩:=h11
   rw[g1]at g2;cases g2
  refine⟨b3,⟨a',x.n,c',pb,r⟩,ba',bc',rfl,⟨Nat.le_trans hx.size hpx.size,fun k hk _=>?_⟩,hp.blk h1 (by simp),rfl,h3.ext hpx (fun q hq=>?_),h6.ext hpx (by simpa using h9) (fun q hq=>?_),MapIs.ext h11 hpx (by simpa using Ne.symm hbr),h2,h4,h7,h8,h12,h13,h14⟩
  ·rw[hpx.keep k (by have:=hx.size;omega) (by simp;omega)];exact hx.keep k hk (by simp)
  ·simp only[List.mem_singleton];rintro rfl;exact h5 hq
  ·simp only[List.mem_singleton];rintro rfl;exact h10 hq
 have X:=Ext.refl [] H
 refine⟨?_,?_⟩
 ·refine(S X).mono ?_
  rintro _ H2 ⟨a',c',rfl,hS,hx,hS2,hS3⟩
  replace X:=X.trans' hx (by simp)
  refine⟨_,_,_,rfl,k1 X,?_⟩
  refine⟨?_,?_⟩
  ·have hSlt0:=hS.lt
   refine(B X).mono ?_
   rintro _ H2 ⟨pb',ba',bc',rfl,hB,hx,hB2,hB3,hB4,hB5⟩
   replace X:=X.trans' hx (by simp)
   refine⟨_,rfl,?_⟩
   have d3:pb'∉blkOf a':=fun h=>by have:=hSlt0 _ h;omega
   have d4:∀q∈blkOf ba',q∉blkOf a':=fun q hq h=>by have:=hSlt0 q h;have:=hB5 q hq;omega
   replace hS:=hS.ext hx (by simp)
   refine⟨?_,?_⟩
   ·intro r H2 hn
    obtain⟨hM,hx,hM2⟩:=N X hn
    replace X:=X.trans' hx (by simp)
    refine⟨k1 X,k0 X,?_⟩
    replace hS:=hS.ext hx (by simp)
    replace hB:=hB.ext hx (by simp) (by simp)
    have hBlt:=hB.lt
    have hSlt:=hS.lt
    intro b H2 hn
    have hnb:=hn.eq
    obtain⟨hA,hx,hA2⟩:=A X hn
    replace X:=X.trans' hx (by simp)
    refine⟨k1 X,k0 X,?_⟩
    have dS:b∉blkOf a':=fun h=>by have:=hSlt _ h;omega
    have d1:pb'≠b:=by have:=hBlt.1;omega
    have d2:b∉blkOf ba':=fun h=>by have:=hBlt.2 _ h;omega
    replace hS:=hS.ext hx (by simp)
    replace hB:=hB.ext hx (by simp) (by simp)
    replace hM:=MapIs.ext hM hx (by simp)
    exact fin X hA hA2 hS hS2 dS hB hB2 hB3 d1 d2 d3 d4 hM hM2
   ·have hBlt:=hB.lt
    have hSlt:=hS.lt
    intro b H2 hn
    have hnb:=hn.eq
    obtain⟨hA,hx,hA2⟩:=A X hn
    replace X:=X.trans' hx (by simp)
    refine⟨k1 X,k0 X,?_⟩
    have dS:b∉blkOf a':=fun h=>by have:=hSlt _ h;omega
    have d1:pb'≠b:=by have:=hBlt.1;omega
    have d2:b∉blkOf ba':=fun h=>by have:=hBlt.2 _ h;omega
    replace hS:=hS.ext hx (by simp)
    replace hB:=hB.ext hx (by simp) (by simp)
    intro r H2 hn
    obtain⟨hM,hx,hM2⟩:=N X hn
    replace X:=X.trans' hx (by simp)
    refine⟨k1 X,k0 X,?_⟩
    replace hS:=hS.ext hx (by simp)
    replace hB:=hB.ext hx (by simp) (by simp)
    replace hA:=hA.ext hx (by simp)
    exact fin X hA hA2 hS hS2 dS hB hB2 hB3 d1 d2 d3 d4 hM hM2
  ·refine⟨?_,?_⟩
   ·intro r H2 hn
    obtain⟨hM,hx,hM2⟩:=N X hn
    replace X:=X.trans' hx (by simp)
    refine⟨k1 X,k0 X,?_⟩
    replace hS:=hS.ext hx (by simp)
    refine⟨?_,?_⟩
    ·have hSlt0:=hS.lt
     refine(B X).mono ?_
     rintro _ H2 ⟨pb',ba',bc',rfl,hB,hx,hB2,hB3,hB4,hB5⟩
     replace X:=X.trans' hx (by simp)
     refine⟨_,rfl,?_⟩
     have d3:pb'∉blkOf a':=fun h=>by have:=hSlt0 _ h;omega
     have d4:∀q∈blkOf ba',q∉blkOf a':=fun q hq h=>by have:=hSlt0 q h;have:=hB5 q hq;omega
     replace hS:=hS.ext hx (by simp)
     replace hM:=MapIs.ext hM hx (by simp)
     have hBlt:=hB.lt
     have hSlt:=hS.lt
     intro b H2 hn
     have hnb:=hn.eq
     obtain⟨hA,hx,hA2⟩:=A X hn
     replace X:=X.trans' hx (by simp)
     refine⟨k1 X,k0 X,?_⟩
     have dS:b∉blkOf a':=fun h=>by have:=hSlt _ h;omega
     have d1:pb'≠b:=by have:=hBlt.1;omega
     have d2:b∉blkOf ba':=fun h=>by have:=hBlt.2 _ h;omega
     replace hS:=hS.ext hx (by simp)
     replace hM:=MapIs.ext hM hx (by simp)
     replace hB:=hB.ext hx (by simp) (by simp)
     exact fin X hA hA2 hS hS2 dS hB hB2 hB3 d1 d2 d3 d4 hM hM2
    ·have hSlt:=hS.lt
     intro b H2 hn
     have hnb:=hn.eq
     obtain⟨hA,hx,hA2⟩:=A X hn
     replace X:=X.trans' hx (by simp)
     refine⟨k1 X,k0 X,?_⟩
     have dS:b∉blkOf a':=fun h=>by have:=hSlt _ h;omega
     replace hS:=hS.ext hx (by simp)
     replace hM:=MapIs.ext hM hx (by simp)
     have hSlt0:=hS.lt
     have hAlt:=hA.lt
     refine(B X).mono ?_
     rintro _ H2 ⟨pb',ba',bc',rfl,hB,hx,hB2,hB3,hB4,hB5⟩
     replace X:=X.trans' hx (by simp)
     refine⟨_,rfl,?_⟩
     have d1:pb'≠b:=by omega
     have d2:b∉blkOf ba':=fun h=>by have:=hB5 _ h;omega
     have d3:pb'∉blkOf a':=fun h=>by have:=hSlt0 _ h;omega
     have d4:∀q∈blkOf ba',q∉blkOf a':=fun q hq h=>by have:=hSlt0 q h;have:=hB5 q hq;omega
     replace hS:=hS.ext hx (by simp)
     replace hM:=MapIs.ext hM hx (by simp)
     replace hA:=hA.ext hx (by simp)
     exact fin X hA hA2 hS hS2 dS hB hB2 hB3 d1 d2 d3 d4 hM hM2
   ·have hSlt:=hS.lt
    intro b H2 hn
    have hnb:=hn.eq
    obtain⟨hA,hx,hA2⟩:=A X hn
    replace X:=X.trans' hx (by simp)
    refine⟨k1 X,k0 X,?_⟩
    have dS:b∉blkOf a':=fun h=>by have:=hSlt _ h;omega
    replace hS:=hS.ext hx (by simp)
    refine⟨?_,?_⟩
    ·have hSlt0:=hS.lt
     have hAlt:=hA.lt
     refine(B X).mono ?_
     rintro _ H2 ⟨pb',ba',bc',rfl,hB,hx,hB2,hB3,hB4,hB5⟩
     replace X:=X.trans' hx (by simp)
     refine⟨_,rfl,?_⟩
     have d1:pb'≠b:=by omega
     have d2:b∉blkOf ba':=fun h=>by have:=hB5 _ h;omega
     have d3:pb'∉blkOf a':=fun h=>by have:=hSlt0 _ h;omega
     have d4:∀q∈blkOf ba',q∉blkOf a':=fun q hq h=>by have:=hSlt0 q h;have:=hB5 q hq;omega
     replace hS:=hS.ext hx (by simp)
     replace hA:=hA.ext hx (by simp)
     intro r H2 hn
     obtain⟨hM,hx,hM2⟩:=N X hn
     replace X:=X.trans' hx (by simp)
     refine⟨k1 X,k0 X,?_⟩
     replace hS:=hS.ext hx (by simp)
     replace hA:=hA.ext hx (by simp)
     replace hB:=hB.ext hx (by simp) (by simp)
     exact fin X hA hA2 hS hS2 dS hB hB2 hB3 d1 d2 d3 d4 hM hM2
    ·intro r H2 hn
     obtain⟨hM,hx,hM2⟩:=N X hn
     replace X:=X.trans' hx (by simp)
     refine⟨k1 X,k0 X,?_⟩
     replace hS:=hS.ext hx (by simp)
     replace hA:=hA.ext hx (by simp)
     have hSlt0:=hS.lt
     have hAlt:=hA.lt
     refine(B X).mono ?_
     rintro _ H2 ⟨pb',ba',bc',rfl,hB,hx,hB2,hB3,hB4,hB5⟩
     replace X:=X.trans' hx (by simp)
     refine⟨_,rfl,?_⟩
     have d1:pb'≠b:=by omega
     have d2:b∉blkOf ba':=fun h=>by have:=hB5 _ h;omega
     have d3:pb'∉blkOf a':=fun h=>by have:=hSlt0 _ h;omega
     have d4:∀q∈blkOf ba',q∉blkOf a':=fun q hq h=>by have:=hSlt0 q h;have:=hB5 q hq;omega
     replace hS:=hS.ext hx (by simp)
     replace hA:=hA.ext hx (by simp)
     replace hM:=MapIs.ext hM hx (by simp)
     exact fin X hA hA2 hS hS2 dS hB hB2 hB3 d1 d2 d3 d4 hM hM2
 ·refine⟨?_,?_⟩
  ·intro r H2 hn
   obtain⟨hM,hx,hM2⟩:=N X hn
   replace X:=X.trans' hx (by simp)
   refine⟨k1 X,k0 X,?_⟩
   refine⟨?_,?_⟩
   ·refine(S X).mono ?_
    rintro _ H2 ⟨a',c',rfl,hS,hx,hS2,hS3⟩
    replace X:=X.trans' hx (by simp)
    refine⟨_,_,_,rfl,k1 X,?_⟩
    replace hM:=MapIs.ext hM hx (by simp)
    refine⟨?_,?_⟩
    ·have hSlt0:=hS.lt
     refine(B X).mono ?_
     rintro _ H2 ⟨pb',ba',bc',rfl,hB,hx,hB2,hB3,hB4,hB5⟩
     replace X:=X.trans' hx (by simp)
     refine⟨_,rfl,?_⟩
     have d3:pb'∉blkOf a':=fun h=>by have:=hSlt0 _ h;omega
     have d4:∀q∈blkOf ba',q∉blkOf a':=fun q hq h=>by have:=hSlt0 q h;have:=hB5 q hq;omega
     replace hM:=MapIs.ext hM hx (by simp)
     replace hS:=hS.ext hx (by simp)
     have hBlt:=hB.lt
     have hSlt:=hS.lt
     intro b H2 hn
     have hnb:=hn.eq
     obtain⟨hA,hx,hA2⟩:=A X hn
     replace X:=X.trans' hx (by simp)
     refine⟨k1 X,k0 X,?_⟩
     have dS:b∉blkOf a':=fun h=>by have:=hSlt _ h;omega
     have d1:pb'≠b:=by have:=hBlt.1;omega
     have d2:b∉blkOf ba':=fun h=>by have:=hBlt.2 _ h;omega
     replace hM:=MapIs.ext hM hx (by simp)
     replace hS:=hS.ext hx (by simp)
     replace hB:=hB.ext hx (by simp) (by simp)
     exact fin X hA hA2 hS hS2 dS hB hB2 hB3 d1 d2 d3 d4 hM hM2
    ·have hSlt:=hS.lt
     intro b H2 hn
     have hnb:=hn.eq
     obtain⟨hA,hx,hA2⟩:=A X hn
     replace X:=X.trans' hx (by simp)
     refine⟨k1 X,k0 X,?_⟩
     have dS:b∉blkOf a':=fun h=>by have:=hSlt _ h;omega
     replace hM:=MapIs.ext hM hx (by simp)
     replace hS:=hS.ext hx (by simp)
     have hSlt0:=hS.lt
     have hAlt:=hA.lt
     refine(B X).mono ?_
     rintro _ H2 ⟨pb',ba',bc',rfl,hB,hx,hB2,hB3,hB4,hB5⟩
     replace X:=X.trans' hx (by simp)
     refine⟨_,rfl,?_⟩
     have d1:pb'≠b:=by omega
     have d2:b∉blkOf ba':=fun h=>by have:=hB5 _ h;omega
     have d3:pb'∉blkOf a':=fun h=>by have:=hSlt0 _ h;omega
     have d4:∀q∈blkOf ba',q∉blkOf a':=fun q hq h=>by have:=hSlt0 q h;have:=hB5 q hq;omega
     replace hM:=MapIs.ext hM hx (by simp)
     replace hS:=hS.ext hx (by simp)
     replace hA:=hA.ext hx (by simp)
     exact fin X hA hA2 hS hS2 dS hB hB2 hB3 d1 d2 d3 d4 hM hM2
   ·intro b H2 hn
    have hnb:=hn.eq
    obtain⟨hA,hx,hA2⟩:=A X hn
    replace X:=X.trans' hx (by simp)
    refine⟨k1 X,k0 X,?_⟩
    replace hM:=MapIs.ext hM hx (by simp)
    have hAlt:=hA.lt
    refine(S X).mono ?_
    rintro _ H2 ⟨a',c',rfl,hS,hx,hS2,hS3⟩
    replace X:=X.trans' hx (by simp)
    refine⟨_,_,_,rfl,k1 X,?_⟩
    have dS:b∉blkOf a':=fun h=>by have:=hS3 _ h;omega
    replace hM:=MapIs.ext hM hx (by simp)
    replace hA:=hA.ext hx (by simp)
    have hSlt0:=hS.lt
    have hAlt:=hA.lt
    refine(B X).mono ?_
    rintro _ H2 ⟨pb',ba',bc',rfl,hB,hx,hB2,hB3,hB4,hB5⟩
    replace X:=X.trans' hx (by simp)
    refine⟨_,rfl,?_⟩
    have d1:pb'≠b:=by omega
    have d2:b∉blkOf ba':=fun h=>by have:=hB5 _ h;omega
    have d3:pb'∉blkOf a':=fun h=>by have:=hSlt0 _ h;omega
    have d4:∀q∈blkOf ba',q∉blkOf a':=fun q hq h=>by have:=hSlt0 q h;have:=hB5 q hq;omega
    replace hM:=MapIs.ext hM hx (by simp)
    replace hA:=hA.ext hx (by simp)
    replace hS:=hS.ext hx (by simp)
    exact fin X hA hA2 hS hS2 dS hB hB2 hB3 d1 d2 d3 d4 hM hM2
  ·intro b H2 hn
   have hnb:=hn.eq
   obtain⟨hA,hx,hA2⟩:=A X hn
   replace X:=X.trans' hx (by simp)
   refine⟨k1 X,k0 X,?_⟩
   refine⟨?_,?_⟩
   ·have hAlt:=hA.lt
    refine(S X).mono ?_
    rintro _ H2 ⟨a',c',rfl,hS,hx,hS2,hS3⟩
    replace X:=X.trans' hx (by simp)
    refine⟨_,_,_,rfl,k1 X,?_⟩
    have dS:b∉blkOf a':=fun h=>by have:=hS3 _ h;omega
    replace hA:=hA.ext hx (by simp)
    refine⟨?_,?_⟩
    ·have hSlt0:=hS.lt
     have hAlt:=hA.lt
     refine(B X).mono ?_
     rintro _ H2 ⟨pb',ba',bc',rfl,hB,hx,hB2,hB3,hB4,hB5⟩
     replace X:=X.trans' hx (by simp)
     refine⟨_,rfl,?_⟩
     have d1:pb'≠b:=by omega
     have d2:b∉blkOf ba':=fun h=>by have:=hB5 _ h;omega
     have d3:pb'∉blkOf a':=fun h=>by have:=hSlt0 _ h;omega
     have d4:∀q∈blkOf ba',q∉blkOf a':=fun q hq h=>by have:=hSlt0 q h;have:=hB5 q hq;omega
     replace hA:=hA.ext hx (by simp)
     replace hS:=hS.ext hx (by simp)
     intro r H2 hn
     obtain⟨hM,hx,hM2⟩:=N X hn
     replace X:=X.trans' hx (by simp)
     refine⟨k1 X,k0 X,?_⟩
     replace hA:=hA.ext hx (by simp)
     replace hS:=hS.ext hx (by simp)
     replace hB:=hB.ext hx (by simp) (by simp)
     exact fin X hA hA2 hS hS2 dS hB hB2 hB3 d1 d2 d3 d4 hM hM2
    ·intro r H2 hn
     obtain⟨hM,hx,hM2⟩:=N X hn
     replace X:=X.trans' hx (by simp)
     refine⟨k1 X,k0 X,?_⟩
     replace hA:=hA.ext hx (by simp)
     replace hS:=hS.ext hx (by simp)
     have hSlt0:=hS.lt
     have hAlt:=hA.lt
     refine(B X).mono ?_
     rintro _ H2 ⟨pb',ba',bc',rfl,hB,hx,hB2,hB3,hB4,hB5⟩
     replace X:=X.trans' hx (by simp)
     refine⟨_,rfl,?_⟩
     have d1:pb'≠b:=by omega
     have d2:b∉blkOf ba':=fun h=>by have:=hB5 _ h;omega
     have d3:pb'∉blkOf a':=fun h=>by have:=hSlt0 _ h;omega
     have d4:∀q∈blkOf ba',q∉blkOf a':=fun q hq h=>by have:=hSlt0 q h;have:=hB5 q hq;omega
     replace hA:=hA.ext hx (by simp)
     replace hS:=hS.ext hx (by simp)
     replace hM:=MapIs.ext hM hx (by simp)
     exact fin X hA hA2 hS hS2 dS hB hB2 hB3 d1 d2 d3 d4 hM hM2
   ·intro r H2 hn
    obtain⟨hM,hx,hM2⟩:=N X hn
    replace X:=X.trans' hx (by simp)
    refine⟨k1 X,k0 X,?_⟩
    replace hA:=hA.ext hx (by simp)
    have hAlt:=hA.lt
    refine(S X).mono ?_
    rintro _ H2 ⟨a',c',rfl,hS,hx,hS2,hS3⟩
    replace X:=X.trans' hx (by simp)
    refine⟨_,_,_,rfl,k1 X,?_⟩
    have dS:b∉blkOf a':=fun h=>by have:=hS3 _ h;omega
    replace hA:=hA.ext hx (by simp)
    replace hM:=MapIs.ext hM hx (by simp)
    have hSlt0:=hS.lt
    have hAlt:=hA.lt
    refine(B X).mono ?_
    rintro _ H2 ⟨pb',ba',bc',rfl,hB,hx,hB2,hB3,hB4,hB5⟩
    replace X:=X.trans' hx (by simp)
    refine⟨_,rfl,?_⟩
    have d1:pb'≠b:=by omega
    have d2:b∉blkOf ba':=fun h=>by have:=hB5 _ h;omega
    have d3:pb'∉blkOf a':=fun h=>by have:=hSlt0 _ h;omega
    have d4:∀q∈blkOf ba',q∉blkOf a':=fun q hq h=>by have:=hSlt0 q h;have:=hB5 q hq;omega
    replace hA:=hA.ext hx (by simp)
    replace hM:=MapIs.ext hM hx (by simp)
    replace hS:=hS.ext hx (by simp)
    exact fin X hA hA2 hS hS2 dS hB hB2 hB3 d1 d2 d3 d4 hM hM2
end Go.Proofs
end
section
open Go Go.Vc Go.Proofs.Bx
namespace Go.Proofs
structure PSl where
 size:Int
 refs:Int
 ps:List Pc
structure PSt where
 slots:List PSl
 bits:List Bool
 data:Int→Option Octs
def ownS(x:RSt)(ba:Option Addr)(k:Nat):Prop:=k∈blkOf x.a∨k=x.tb∨k∈blkOf ba∨k=x.mb
def DatAt(Fd:Nat→Prop)(H:Heap)(ml:List (Int×Value))(k:Int):Option Octs→Prop
 | some o=>o.length=128∧∃a c,(k,Value.slice a 128 c)∈ml∧SRow H 1 128 (.slice a 128 c) (bytesV o)∧∀q∈blkOf a,Fd q
 | none=>k∉ml.map (·.1)
def SlAt(Fd:Nat→Prop)(H:Heap)(r:RSl)(s:PSl):Prop:=r.size=s.size∧r.refs=s.refs∧Pcs H r.a r.n s.ps∧r.n≤r.c∧∀q∈blkOf r.a,Fd q
structure NowIs(H:Heap) (Fd:Nat→Prop) (x:RSt) (rl:List RSl) (ba:Option Addr) (bc:Nat) (ml:List (Int×Value)) (st:PSt):Prop where
 own:Own H 3 x.a x.n x.c (rslsV rl)
 num:rl.length=x.n
 len:rl.length=st.slots.length
 slot:∀(i:Nat) (r:RSl) (s:PSl),rl[i]?=some r→st.slots[i]?=some s→SlAt Fd H r s
 bits:IsB H x.tb ba bc st.bits
 map:MapIs H x.mb ml
 nod:(ml.map (·.1)).Nodup
 data:∀k,DatAt Fd H ml k (st.data k)
 apart:(∀k,ownS x ba k→¬Fd k)∧x.tb∉blkOf x.a∧(∀k∈blkOf ba,k∉blkOf x.a∧k≠x.mb)∧x.mb∉blkOf x.a∧x.mb≠x.tb
theorem Own.extP{M:Nat→Prop}{H H':Heap}{size:Nat}{a:Option Addr}{len cap:Nat}{xs:List Value}(h:Own H size a len cap xs)(he:ExtP M H H')(hm:∀k,k∈blkOf a→¬M k):Own H' size a len cap xs:=by
 obtain⟨h1,h2,h3,h4⟩:=h
 refine⟨h1,h2,h3,?_⟩
 rcases h4 with h4|⟨b,tail,rfl,hb,hl⟩
 ·exact .inl h4
 ·exact .inr ⟨b,tail,rfl,hb.extP he (hm b (by simp[blkOf])),hl⟩
theorem IsB.extP'{M:Nat→Prop}{H H':Heap}{pb:Nat}{a:Option Addr}{c:Nat}{bs:List Bool}(h:IsB H pb a c bs)(he:ExtP M H H')(h1:¬M pb)(h2:∀k,k∈blkOf a→¬M k):IsB H' pb a c bs:=by
 obtain⟨xs,hm,hb⟩:=h
 exact⟨xs,⟨hm.head.extP he h1,Own.extP hm.own he h2,hm.apart,hm.len,hm.small⟩,hb⟩
theorem Pcs.extP'{M:Nat→Prop}{H H':Heap}{a:Option Addr}{len:Nat}{l:List Pc}(h:Pcs H a len l)(he:ExtP M H H')(hm:∀k,k∈blkOf a→¬M k):Pcs H' a len l:=⟨h.leng,fun c=>(h.row c).extP he hm⟩
theorem MapIs.extP''{M:Nat→Prop}{H H':Heap}{r:Nat}{l:List (Int×Value)}(h:MapIs H r l)(he:ExtP M H H')(hm:¬M r):MapIs H' r l:=by
 obtain⟨es,c,h1,h2⟩:=h
 exact⟨es,c,(he.keep r (Array.getElem?_eq_some_iff.1 h1).1 hm).trans h1,h2⟩
theorem DatAt.extP{M Fd:Nat→Prop}{H H':Heap}{ml:List (Int×Value)}{k:Int}{o:Option Octs}(h:DatAt Fd H ml k o)(he:ExtP M H H')(hm:∀q,Fd q→¬M q):DatAt Fd H' ml k o:=by
 cases o with
 | none=>exact h
 | some o=>
  obtain⟨h1,a,c,h2,h3,h4⟩:=h
  exact⟨h1,a,c,h2,h3.extP he fun q hq=>hm q (h4 q hq),h4⟩
theorem SlAt.extP{M Fd:Nat→Prop}{H H':Heap}{r:RSl}{s:PSl}(h:SlAt Fd H r s)(he:ExtP M H H')(hm:∀q,Fd q→¬M q):SlAt Fd H' r s:=
 ⟨h.1,h.2.1,Pcs.extP' h.2.2.1 he fun q hq=>hm q (h.2.2.2.2 q hq),h.2.2.2.1,h.2.2.2.2⟩
theorem blk_not_map{H:Heap}{b r:Nat}{cs:List Value}{l:List (Int×Value)}(hb:Blk H b cs)(hm:MapIs H r l):b≠r:=fun e=>by
 subst e
 obtain⟨_,k1⟩:=hb
 obtain⟨_,_,k2,_⟩:=hm
 rw[k1]at k2;cases k2
theorem own_not_map{H:Heap}{s n c r:Nat}{a:Option Addr}{xs:List Value}{l:List (Int×Value)}(ho:Own H s a n c xs)(hm:MapIs H r l):r∉blkOf a:=fun hq=>by
 rcases ho.2.2.2 with⟨e,_⟩|⟨bb,tail,e,hb,_⟩
 ·rw[e]at hq;cases hq
 ·rw[e]at hq
  simp only[blkOf,List.mem_singleton]at hq
  exact blk_not_map hb hm hq.symm
theorem NowIs.extP{M Fd:Nat→Prop}{H H':Heap}{x:RSt}{rl:List RSl}{ba:Option Addr}{bc:Nat}{ml:List (Int×Value)}{st:PSt}(h:NowIs H Fd x rl ba bc ml st)(he:ExtP M H H')(h1:∀k,ownS x ba k→¬M k)(h2:∀k,Fd k→¬M k):NowIs H' Fd x rl ba bc ml st:=
 ⟨Own.extP h.own he fun k hk=>h1 k (.inl hk),h.num,h.len,fun i r s hr hs=>(h.slot i r s hr hs).extP he h2,IsB.extP' h.bits he (h1 _ (.inr (.inl rfl))) fun k hk=>h1 k (.inr (.inr (.inl hk))),
  MapIs.extP'' h.map he (h1 _ (.inr (.inr (.inr rfl)))),h.nod,fun k=>(h.data k).extP he h2,h.apart⟩
theorem NowIs.rows{Fd:Nat→Prop}{H:Heap}{x:RSt}{rl:List RSl}{ba:Option Addr}{bc:Nat}{ml:List (Int×Value)}{st:PSt}(h:NowIs H Fd x rl ba bc ml st):RSls H x.a x.n rl:=⟨h.num,fun c=>h.own.row x.n c⟩
theorem NowIs.lt{Fd:Nat→Prop}{H:Heap}{x:RSt}{rl:List RSl}{ba:Option Addr}{bc:Nat}{ml:List (Int×Value)}{st:PSt}(h:NowIs H Fd x rl ba bc ml st):∀k,ownS x ba k→k<H.size:=by
 rintro k (hk|rfl|hk|rfl)
 ·exact h.own.lt k hk
 ·exact h.bits.lt.1
 ·exact h.bits.lt.2 k hk
 ·obtain⟨_,_,hm,_⟩:=h.map;exact(Array.getElem?_eq_some_iff.1 hm).1
theorem NowIs.slices{Fd:Nat→Prop}{H:Heap}{x:RSt}{rl:List RSl}{ba:Option Addr}{bc:Nat}{ml:List (Int×Value)}{st:PSt}(h:NowIs H Fd x rl ba bc ml st):∀p∈ml,∃a n c,p.2=.slice a n c:=by
 intro p hp
 have:=h.data p.1
 cases hd:st.data p.1 with
 | none=>rw[hd]at this;exact absurd (List.mem_map.2 ⟨p,hp,rfl⟩) this
 | some o=>
  rw[hd]at this
  obtain⟨_,a,c,h2,_⟩:=this
  have:=nodup_map_inj h.nod h2 hp rfl
  exact⟨a,128,c,by rw[←this]⟩
set_option maxHeartbeats 1000000 in
theorem copied_ok{H:Heap}{Fd:Nat→Prop}{x:RSt}{rl:List RSl}{ba:Option Addr}{bc:Nat}{ml:List (Int×Value)}{st:PSt}(h:NowIs H Fd x rl ba bc ml st)(hl:x.n≤1000000)(hFd:∀k,Fd k→k<H.size) :
  Does Tryz.prog 94 [.agg #[.slice x.a x.n x.c,.pointer (some ⟨x.tb,0,none⟩),.map (some x.mb)]] H fun v H'=>∃x' ba' bc' ml',v=.agg #[.slice x'.a x'.n x'.c,.pointer (some ⟨x'.tb,0,none⟩),.map (some x'.mb)] ∧
   NowIs H' Fd x' rl ba' bc' ml' st∧Ext [] H H'∧(∀k,ownS x' ba' k→H.size≤k)∧x'.n=x.n:=by
 intro w hw
 subst hw
 refine calls_of_wp Tryz.func94 rfl ?_
 have ha0:Ag Tryz.f94.ntmps [(0,.v (.agg #[.slice x.a x.n x.c,.pointer (some ⟨x.tb,0,none⟩),.map (some x.mb)]))]
   {tmps:=#[.agg #[.slice x.a x.n x.c,.pointer (some ⟨x.tb,0,none⟩),.map (some x.mb)]]++Array.replicate (Tryz.f94.ntmps - 1) undef,defers:=[]}:=
  ⟨by simp[Tryz.ntmps94],rfl,start_agree [.agg #[.slice x.a x.n x.c,.pointer (some ⟨x.tb,0,none⟩),.map (some x.mb)]] _⟩
 refine wp_seq (wp_mono (part_wp Tryz.mixed (CpA x.a x.n x.c (some ⟨x.tb,0,none⟩) (some x.mb) w.heap fun v H'=>∃b1 b2,v=.tuple #[.pointer (some ⟨b1,0,none⟩),.pointer (some ⟨b2,0,none⟩)]∧Blk H' b1 (rstV x)∧Blk H' b2 [.slice none 0 0,.pointer none,.map none]∧Ext [] w.heap H'∧w.heap.size≤b1∧w.heap.size≤b2∧b1≠b2)
  (fun b1 H2 h2 b3 H4 h4=>⟨b1,b3,rfl,h2.blk.ext h4.ext (by simp),h4.blk,h2.ext.trans' h4.ext (by simp),by rw[h2.eq];exact Nat.le_refl _,by rw[h4.eq,h2.size];omega,by rw[h4.eq,h2.size,h2.eq];omega⟩) Tryz.func94 rfl rfl ha0 (ha0.pick (by intro y hy;simp only[List.mem_cons,List.mem_nil_iff,or_false]at hy;rcases hy with rfl;rfl)) rfl) ?_)
 rintro e a1 w1 ⟨rfl,hs1,vs,hvl,⟨b1,b2,hv,hb1,hb2,hx1,hg1,hg2,hb12⟩,ha1⟩
 have hvs:vs=[.pointer (some ⟨b1,0,none⟩),.pointer (some ⟨b2,0,none⟩)]:=tupV_two hvl hv
 rw[hvs]at ha1
 have haB:Ag Tryz.f94.ntmps [(1,.v (.pointer (some ⟨b1,0,none⟩))),(2,.v (.pointer (some ⟨b2,0,none⟩)))] a1:=ha1.pick (by
  intro y hy;simp only[List.mem_cons,List.mem_nil_iff,or_false]at hy;rcases hy with rfl|rfl<;>rfl)
 have h1:=h.extP (M:=fun _=>False) hx1.anyP (fun _ _ h=>h) (fun _ _ h=>h)
 refine wp_seq (wp_mono (part_wp Tryz.mixed (V:=Part Tryz.prog 94 1 [(1,.v (.pointer (some ⟨b1,0,none⟩)))] [3] w1.heap (CpMid w1.heap rl st.bits x.n)) rfl (cpMid_ok hb1 h1.rows hl h1.bits) Tryz.func94 rfl rfl haB (haB.pick (by
  intro y hy;simp only[List.mem_cons,List.mem_nil_iff,or_false]at hy;rcases hy with rfl;rfl)) rfl) ?_)
 rintro e a2 w2 ⟨rfl,hs2,vs,hvl,⟨b3,x',ba',bc',hv,hx2,hb3,hn',ho',hbm',hmm',q1,q2,q3,q4,q5,q6,q7⟩,ha2⟩
 rw[one_of hvl,hv]at ha2
 have haC:Ag Tryz.f94.ntmps [(1,.v (.pointer (some ⟨b1,0,none⟩))),(2,.v (.pointer (some ⟨b2,0,none⟩))),(3,.v (.pointer (some ⟨b3,0,none⟩)))] a2:=ha2.pick (by
  intro y hy;simp only[List.mem_cons,List.mem_nil_iff,or_false]at hy;rcases hy with rfl|rfl|rfl<;>rfl)
 have h2:=h1.extP (M:=fun _=>False) hx2.anyP (fun _ _ h=>h) (fun _ _ h=>h)
 have hsz1:=hx1.size
 have hmb:x.mb<w.heap.size:=h.lt _ (.inr (.inr (.inr rfl)))
 have hb1':=hb1.ext hx2 (by simp)
 have hb2':=hb2.ext hx2 (by simp)
 have hlt1:=hb1.lt
 have hlt2:=hb2.lt
 apply wp_seq
 refine wp_mono (partS_wp Tryz.mixed (V:=PartS Tryz.prog 94 2 [(1,.v (.pointer (some ⟨b1,0,none⟩))),(3,.v (.pointer (some ⟨b3,0,none⟩)))] [] w2.heap fun _ H'=>H'.size=w2.heap.size+1∧(∀j,j<w2.heap.size→j≠x'.mb→H'[j]?=w2.heap[j]?)∧∃l2,MapIs H' x'.mb l2∧(l2.map (·.1)).Nodup∧∀p,p∈l2↔p∈ml) rfl
  (cpLoop (by rw[hb1'.cell];rfl) (by rw[hb3.cell];rfl) h2.map hmm' h2.nod h2.slices (by omega) fun H' l2 g1 g2 g3 g4 g5=>⟨g1,g2,l2,g3,g4,g5⟩) Tryz.func94 rfl rfl haC (haC.pick (by
  intro y hy;simp only[List.mem_cons,List.mem_nil_iff,or_false]at hy;rcases hy with rfl|rfl<;>rfl)) rfl) ?_
 rintro e a3 w3 ⟨rfl,hs3,vs,hvl,⟨g1,g2,l2,g3,g4,g5⟩,ha3⟩
 have haD:Ag Tryz.f94.ntmps [(3,.v (.pointer (some ⟨b3,0,none⟩))),(2,.v (.pointer (some ⟨b2,0,none⟩)))] a3:=ha3.pick (by
  intro y hy;simp only[List.mem_cons,List.mem_nil_iff,or_false]at hy;rcases hy with rfl|rfl<;>rfl)
 have hx3:Ext [x'.mb] w2.heap w3.heap:=⟨by omega,fun j hj hm=>g2 j hj (by simpa using hm)⟩
 have hne3:b3≠x'.mb:=fun e=>by
  subst e
  obtain⟨_,k1⟩:=hb3
  obtain⟨_,_,k2,_⟩:=hmm'
  rw[k1]at k2;cases k2
 have hb3':=hb3.ext hx3 (by simpa using hne3)
 have hne2:b2≠x'.mb:=by omega
 have hb2'':=hb2'.ext hx3 (by simpa using hne2)
 have key:NowIs w3.heap Fd x' rl ba' bc' l2 st:=by
  have hmN:=own_not_map ho' hmm'
  obtain⟨xs,hM,hB⟩:=hbm'
  have hmT:x'.tb≠x'.mb:=blk_not_map hM.head hmm'
  have hmR:=own_not_map hM.own hmm'
  have hsm:∀q,Fd q→q∉[x'.mb]:=fun q hq=>by have:=hFd q hq;simp;omega
  refine⟨?_,h.num.trans hn'.symm,h.len,fun i r s hr hs=>(h2.slot i r s hr hs).extP hx3.toP hsm,⟨xs,hM.ext hx3 (by simpa using hmT) (fun q hq=>by simp only[List.mem_singleton];rintro rfl;exact hmR hq),hB⟩,g3,g4,fun k=>?_,fun k hk hq=>?_,q6,fun q hq=>⟨q7 q hq,fun e=>hmR (e▸hq)⟩,hmN,Ne.symm hmT⟩
  ·rw[hn']
   exact ho'.ext hx3 fun q hq=>by simp only[List.mem_singleton];rintro rfl;exact hmN hq
  ·have:=(h2.data k).extP hx3.toP hsm
   cases hd:st.data k with
   | none=>
    rw[hd]at this
    intro hk
    obtain⟨p,hp,e⟩:=List.mem_map.1 hk
    exact this (List.mem_map.2 ⟨p,(g5 p).1 hp,e⟩)
   | some o=>
    rw[hd]at this
    obtain⟨z1,za,zc,z2,z3⟩:=this
    exact⟨z1,za,zc,(g5 _).2 z2,z3⟩
  ·have:=hFd k hq
   rcases hk with hk|rfl|hk|rfl
   ·have:=q2 k hk;omega
   ·omega
   ·have:=q4 k hk;omega
   ·omega
 show Code.wp _ _ _ _ _
 refine partT_wp Tryz.mixed (R:=fun v H'=>∃x' ba' bc' ml',v=.agg #[.slice x'.a x'.n x'.c,.pointer (some ⟨x'.tb,0,none⟩),.map (some x'.mb)]∧NowIs H' Fd x' rl ba' bc' ml' st∧Ext [] w.heap H'∧(∀k,ownS x' ba' k→w.heap.size≤k)∧x'.n=x.n) (CpD b3 b2 w3.heap _) ?_ Tryz.func94 rfl rfl ((hs1.trans hs2).trans hs3) haD rfl
 refine⟨x'.a,x'.n,x'.c,by rw[hb3'.cell];rfl,some ⟨x'.tb,0,none⟩,by rw[hb3'.cell];rfl,some x'.mb,by rw[hb3'.cell];rfl,hb2''.cells 3 0 (by simp),fun H6 hp=>?_⟩
 have hb6:=hp.blk hb2'' (by simp)
 have hx6:=hp.ext
 refine⟨x'.a,x'.n,x'.c,by rw[hb6.cell];rfl,some ⟨x'.tb,0,none⟩,by rw[hb6.cell];rfl,some x'.mb,by rw[hb6.cell];rfl,x',ba',bc',l2,rfl,key.extP hx6.toP (fun k hk=>?_) (fun k hk=>?_),⟨?_,fun j hj _=>?_⟩,?_,hn'⟩
 ·simp only[List.mem_singleton]
  rintro rfl
  rcases hk with hk|hk|hk|hk
  ·have:=q2 _ hk;omega
  ·omega
  ·have:=q4 _ hk;omega
  ·omega
 ·simp only[List.mem_singleton]
  rintro rfl
  have:=hFd _ hk
  omega
 ·have:=hx2.size;have:=hx6.size;omega
 ·rw[hx6.keep j (by have:=hx2.size;omega) (by simp;omega),g2 j (by have:=hx2.size;omega) (by omega),hx2.keep j (by omega) (by simp),hx1.keep j hj (by simp)]
 ·rintro k (hk|rfl|hk|rfl)
  ·have:=q2 k hk;omega
  ·omega
  ·have:=q4 k hk;omega
  ·omega
end Go.Proofs
end
section
open Go Go.Vc
namespace Go.Proofs
theorem FailV(x0:Option Addr) (x1:Int) (H:Heap) (R X:Value→Heap→Prop):WalkX Tryz.prog 159 [] [.pointer x0,.int .i64 x1] H R X=((((x1:Int)≠0)→∃b1 o2:Nat,x0=some (⟨b1,o2,none⟩:Addr)∧Cells H b1 o2 1∧∀H3,Puts H b1 o2 [.int .i64 x1] H3→(X (.iface 229 (.agg #[.pointer x0])) H3))∧(¬((x1:Int)≠0)→R (.tuple #[]) H)):=by kernel_rfl
theorem WantV(x0:Option Addr) (x1:Bool) (x2:Int) (H:Heap) (R X:Value→Heap→Prop):WalkX Tryz.prog 104 [] [.pointer x0,.bool x1,.int .i64 x2] H R X=(((x1=false)→(DoesX (X:=X) Tryz.prog 159 [.pointer x0,.int .i64 x2] H fun v1 H2=>v1=(.tuple #[])∧R (.tuple #[]) H2))∧(¬(x1=false)→R (.tuple #[]) H)):=by kernel_rfl
end Go.Proofs
end
section
open Go Go.Vc
namespace Go.Proofs
theorem assert229(W:World)(v:Value):(Instr.typeAssert (.iface 229 v) 20 229 true).run Tryz.prog W=.ok (.tuple #[v,.bool true]) W:=by kernel_rfl
theorem eqIn143(d:Nat)(a:Addr)(W:World):(Op.equalIn (d+1) 143 (.pointer (some a)) (.pointer (some a))).run Tryz.prog W=.ok true W:=by
 simp[Op.equalIn,run_underlying Tryz.underlying143,sameAddr]
theorem neq143(a:Addr)(W:World):(binOp .neq 143 (.pointer (some a)) (.pointer (some a))).run Tryz.prog W=.ok (.bool false) W:=by
 have h:(Op.equal 143 (.pointer (some a)) (.pointer (some a))).run Tryz.prog W=.ok true W:=eqIn143 9999 a W
 simp only[binOp]
 simp[h]
set_option linter.unusedSimpArgs false in
set_option maxHeartbeats 400000 in
theorem back_given(g e:Nat)(n m:Int)(w:World)(hg:w.cell? ⟨g,0,none⟩=some (.int .i64 n))(he:w.cell? ⟨e,0,none⟩=some (.int .i64 m))(hz:w.frozen? ⟨e,0,none⟩=false) :
  CallsD Tryz.prog 196 #[.pointer (some ⟨g,0,none⟩),.pointer (some ⟨e,0,none⟩)] (.panicking ({v:=.iface 229 (.agg #[.pointer (some ⟨g,0,none⟩)]),recovered:=false}::[])) w fun en u' w'=>
   en=.returned (.tuple #[])∧u'=.panicking ({v:=.iface 229 (.agg #[.pointer (some ⟨g,0,none⟩)]),recovered:=true}::[])∧w'=(w.alloc (.cells #[.pointer (some ⟨g,0,none⟩)] 229)).setCell ⟨e,0,none⟩ (.int .i64 n):=by
 refine callsD_of_wpS Tryz.func196 rfl fun c₀ cs hu=>?_
 apply wpS_seq
 apply wpS_region
 simp[wpOpsS,go_sem,recoverD,hu,Tryz.ntmps196,Exit.thenS]
 refine wpS_of_wp ?_
 apply wp_block
 apply wp_seq
 apply wp_region
 simp[wpOps,go_sem,Exit.then]
 repeat left
 refine wp_cond (t:=false) (by simp[Act.eval]) ?_
 simp only[Bool.false_eq_true,if_false]
 apply wp_seq
 apply wp_region
 simp[wpOps,go_sem,Exit.then,assert229]
 repeat left
 refine wp_cond (t:=true) (by simp[Act.eval]) ?_
 simp only[if_true]
 apply wp_seq
 apply wp_region
 simp[wpOps,go_sem,Exit.then]
 repeat left
 apply wp_seq
 apply wp_seq
 apply wp_region
 simp[wpOps,go_sem,Exit.then,neq143]
 repeat left
 refine wp_cond (t:=false) (by simp[Act.eval]) ?_
 simp only[Bool.false_eq_true,if_false]
 apply wp_skip
 simp only[Exit.then]
 have lt_of:∀{b:Nat} {v:Value},w.cell? ⟨b,0,none⟩=some v→b<w.heap.size:=fun {b v} h=>by
  rw[Go.Vc.cell_hcell]at h
  exact Go.Vc.hcell_lt h
 have hgl:=lt_of hg
 have hel:=lt_of he
 have hg2:(w.alloc (.cells #[.pointer (some ⟨g,0,none⟩)] 229)).cell? ⟨g,0,none⟩=some (.int .i64 n):=by
  rw[World.cell?_alloc_some _ _ _ (by rw[hg];rfl)];exact hg
 have he2:(w.alloc (.cells #[.pointer (some ⟨g,0,none⟩)] 229)).cell? ⟨e,0,none⟩=some (.int .i64 m):=by
  rw[World.cell?_alloc_some _ _ _ (by rw[he];rfl)];exact he
 have hz2:(w.alloc (.cells #[.pointer (some ⟨g,0,none⟩)] 229)).frozen? ⟨e,0,none⟩=false:=by
  rw[Go.RowKit.frozen?_alloc_cells]
  exact hz
 apply wp_region
 simp[wpOps,go_sem,Exit.then,hg2,he2,hz2]
 repeat left
 exact⟨rfl,_,rfl,.tuple #[],by simp[results,Tryz.results196],rfl,rfl,rfl⟩
set_option linter.unusedSimpArgs false in
set_option maxHeartbeats 400000 in
theorem back_idle(g e:Nat)(w:World) :
  CallsD Tryz.prog 196 #[.pointer (some ⟨g,0,none⟩),.pointer (some ⟨e,0,none⟩)] .returning w fun en u' w'=>
   en=.returned (.tuple #[])∧u'=.returning∧w'=w:=by
 refine callsD_of_wpS Tryz.func196 rfl fun c₀ cs hu=>?_
 apply wpS_seq
 apply wpS_region
 simp[wpOpsS,go_sem,recoverD,hu,Tryz.ntmps196,Exit.thenS]
 refine wpS_of_wp ?_
 apply wp_block
 apply wp_seq
 apply wp_region
 simp[wpOps,go_sem,Exit.then]
 repeat left
 refine wp_cond (t:=true) (by simp[Act.eval]) ?_
 simp only[if_true]
 apply wp_region
 simp[wpOps,go_sem]
 repeat left
 cases c₀
 simp_all[bodyPostS,results,Tryz.results196]
theorem eqIn151(d:Nat)(k:FuncId)(first cap:Array Value)(W:World):(Op.equalIn (d+1) 151 (.func (.func k) first cap) .nilFunc).run Tryz.prog W=.ok false W:=by
 simp[Op.equalIn,run_underlying Tryz.underlying151]
theorem eql151(k:FuncId)(first cap:Array Value)(W:World):(binOp .eql 151 (.func (.func k) first cap) .nilFunc).run Tryz.prog W=.ok (.bool false) W:=by
 have h:(Op.equal 151 (.func (.func k) first cap) .nilFunc).run Tryz.prog W=.ok false W:=eqIn151 9999 k first cap W
 simp only[binOp]
 simp[h]
theorem build225(W:World):(Instr.build 225 #[]).run Tryz.prog W=.ok (.agg #[.int .i64 0]) W:=by kernel_rfl
set_option linter.unusedSimpArgs false in
set_option maxHeartbeats 400000 in
theorem do_walk(k:FuncId)(first cap:Array Value)(w:World){R:Ending→World→Prop}(hcf:∀args w,(callFunc k args).run Tryz.prog w=.ok (.enter k args) w){Q:World→Prop}{X:Int→World→Prop}
  (h:Calls Tryz.prog k (first.push (.pointer (some ⟨w.heap.size+1,0,none⟩))++cap) ((w.alloc (.cells #[.int .i64 0] 26)).alloc (.cells #[.int .i64 0] 225)) fun e w'=>
   (e=.returned (.tuple #[])∧w'.cell? ⟨w.heap.size,0,none⟩=some (.int .i64 0)∧w'.frozen? ⟨w.heap.size,0,none⟩=false∧Q (w'.setCell ⟨w.heap.size,0,none⟩ (.int .i64 0))) ∨
   ∃n,e=.panicked [{v:=.iface 229 (.agg #[.pointer (some ⟨w.heap.size+1,0,none⟩)]),recovered:=false}]∧w'.cell? ⟨w.heap.size+1,0,none⟩=some (.int .i64 n)∧w'.cell? ⟨w.heap.size,0,none⟩=some (.int .i64 0)∧w'.frozen? ⟨w.heap.size,0,none⟩=false ∧
    X n ((w'.alloc (.cells #[.pointer (some ⟨w.heap.size+1,0,none⟩)] 229)).setCell ⟨w.heap.size,0,none⟩ (.int .i64 n)))
  (hQ:∀w',Q w'→w'.cell? ⟨w.heap.size,0,none⟩=some (.int .i64 0)→R (.returned (.int .i64 0)) w') (hX:∀n w',X n w'→w'.cell? ⟨w.heap.size,0,none⟩=some (.int .i64 n)→R (.returned (.int .i64 n)) w'):Calls Tryz.prog 157 #[.func (.func k) first cap] w R:=by
 refine calls_of_wp_defers Tryz.func157 rfl ?_
 apply wp_seq
 apply wp_region
 simp[wpOps,go_sem,Tryz.ntmps157,Exit.then]
 repeat left
 apply wp_seq
 apply wp_seq
 apply wp_region
 simp[wpOps,go_sem,Exit.then,eql151]
 repeat left
 refine wp_cond (t:=false) (by simp[Act.eval]) ?_
 simp only[Bool.false_eq_true,if_false]
 apply wp_skip
 simp only[Exit.then]
 apply wp_seq
 apply wp_region
 simp[wpOps,go_sem,Exit.then,build225]
 repeat left
 apply wp_seq
 apply wp_region
 simp[wpOps,go_sem,Exit.then]
 repeat left
 apply wp_seq
 apply wp_region
 simp[wpOps,go_sem,Exit.then,hcf]
 repeat left
 refine h.mono ?_
 rintro e w' (⟨rfl,hc,hz,hq⟩|⟨n,rfl,hg,hc,hz,hx⟩)
 ·show Code.wp _ _ _ _ _
  apply wp_seq
  apply wp_region
  simp[wpOps,go_sem,Exit.then,hc,hz]
  repeat left
  apply wp_ret
  refine leaves_cons (f:=196) (args:=#[.pointer (some ⟨w.heap.size+1,0,none⟩),.pointer (some ⟨w.heap.size,0,none⟩)]) (by simp) (by simp[go_sem]) ?_
  refine(back_idle _ _ _).mono ?_
  rintro e u' w'' ⟨rfl,rfl,rfl⟩
  have hc2:(w'.setCell ⟨w.heap.size,0,none⟩ (.int .i64 0)).cell? ⟨w.heap.size,0,none⟩=some (.int .i64 0):=by simp[go_sem,hc]
  refine⟨.int .i64 0,?_,hQ _ hq hc2⟩
  simp[results,Tryz.results157,go_sem,hc]
 ·show bodyPostD _ _ _ _ _ _
  refine leaves_cons (f:=196) (args:=#[.pointer (some ⟨w.heap.size+1,0,none⟩),.pointer (some ⟨w.heap.size,0,none⟩)]) (by simp) (by simp[go_sem]) ?_
  refine(back_given _ _ _ _ _ hg hc hz).mono ?_
  rintro e u' w'' ⟨rfl,rfl,rfl⟩
  have hc3:(w'.alloc (.cells #[.pointer (some ⟨w.heap.size+1,0,none⟩)] 229)).cell? ⟨w.heap.size,0,none⟩=some (.int .i64 0):=by
   rw[World.cell?_alloc_some _ _ _ (by rw[hc];rfl)];exact hc
  have hc2:((w'.alloc (.cells #[.pointer (some ⟨w.heap.size+1,0,none⟩)] 229)).setCell ⟨w.heap.size,0,none⟩ (.int .i64 n)).cell? ⟨w.heap.size,0,none⟩=some (.int .i64 n):=by simp[go_sem,hc3]
  refine⟨.int .i64 n,?_,hX _ _ hx hc2⟩
  simp[results,Tryz.results157,go_sem,hc3]
end Go.Proofs
end
section
open Go Go.Vc
namespace Go.Proofs
theorem sim_set(w:World)(b o:Nat)(v:Value):Sim w (w.setCell ⟨b,o,none⟩ v):=(heap_setCells b [v] o w).2
theorem guard_ok{H:Heap}{k:FuncId}{first cap:List Value}{Q:Value→Heap→Prop}
  (hcf:∀args w,(callFunc k args).run Tryz.prog w=.ok (.enter k args) w)
  (h:∀e g H1 H2,New H e [.int .i64 0] 26 H1→New H1 g [.int .i64 0] 225 H2 →
   DoesX Tryz.prog k (first++[.pointer (some ⟨g,0,none⟩)]++cap) H2
    (fun v H'=>v=.tuple #[]∧Blk H' e [.int .i64 0]∧∀H3,Puts H' e 0 [.int .i64 0] H3→Q (.int .i64 0) H3)
    (fun p H'=>∃n,p=.iface 229 (.agg #[.pointer (some ⟨g,0,none⟩)])∧hcell H' g 0=some (.int .i64 n)∧Blk H' e [.int .i64 0]∧∀b H3 H4,New H' b [.pointer (some ⟨g,0,none⟩)] 229 H3→Puts H3 e 0 [.int .i64 n] H4→Q (.int .i64 n) H4)) :
  Does Tryz.prog 157 [.func (.func k) first.toArray cap.toArray] H Q:=by
 intro w hw
 subst hw
 have hd:=h w.heap.size (w.heap.size+1) (w.heap.push (.cells #[.int .i64 0] 26)) ((w.heap.push (.cells #[.int .i64 0] 26)).push (.cells #[.int .i64 0] 225)) ⟨rfl,rfl⟩ ⟨by simp,rfl⟩
 have hd2:=hd ((w.alloc (.cells #[.int .i64 0] 26)).alloc (.cells #[.int .i64 0] 225)) rfl
 refine do_walk k first.toArray cap.toArray w hcf (Q:=fun w'=>Sim w w'∧Q (.int .i64 0) w'.heap) (X:=fun n w'=>Sim w w'∧Q (.int .i64 n) w'.heap) ?_ ?_ ?_
 ·have ea:first.toArray.push (Value.pointer (some ⟨w.heap.size+1,0,none⟩))++cap.toArray=(first++[Value.pointer (some ⟨w.heap.size+1,0,none⟩)]++cap).toArray:=by simp
  rw[ea]
  refine hd2.mono ?_
  rintro e w' (⟨v,rfl,hs,rfl,hb,hq⟩|⟨p,rfl,hs,n,rfl,hg,hb,hx⟩)
  ·left
   have hs':Sim w w':=⟨hs.os,hs.tape,hs.output⟩
   have hs2:=sim_set w' w.heap.size 0 (.int .i64 0)
   refine⟨rfl,by rw[cell_hcell,hb.cell];rfl,by rw[frozen_eq];exact hb.free 0,⟨hs2.os.trans hs'.os,hs2.tape.trans hs'.tape,hs2.output.trans hs'.output⟩,?_⟩
   rw[heap_setCell]
   exact hq _ rfl
  ·right
   have hs':Sim w w':=⟨hs.os,hs.tape,hs.output⟩
   have hs2:=sim_set (w'.alloc (.cells #[.pointer (some ⟨w.heap.size+1,0,none⟩)] 229)) w.heap.size 0 (.int .i64 n)
   have hs3:=sim_alloc w' (.cells #[.pointer (some ⟨w.heap.size+1,0,none⟩)] 229)
   refine⟨n,rfl,by rw[cell_hcell];exact hg,by rw[cell_hcell,hb.cell];rfl,by rw[frozen_eq];exact hb.free 0,⟨(hs2.os.trans hs3.os).trans hs'.os,(hs2.tape.trans hs3.tape).trans hs'.tape,(hs2.output.trans hs3.output).trans hs'.output⟩,?_⟩
   rw[heap_setCell]
   exact hx w'.heap.size _ _ ⟨rfl,rfl⟩ rfl
 ·rintro w' ⟨hs,hq⟩ _
  exact⟨_,rfl,hs,hq⟩
 ·rintro n w' ⟨hs,hq⟩ _
  exact⟨_,rfl,hs,hq⟩
end Go.Proofs
end
section
open Go Go.Vc
namespace Go.Proofs
open Go.Proofs.Bx (decP)
theorem fail_ok{H:Heap}{g:Nat}{e:Int}{X:Value→Heap→Prop}(he:e≠0)(hc:Cells H g 0 1)(hx:∀H3,Puts H g 0 [.int .i64 e] H3→X (.iface 229 (.agg #[.pointer (some ⟨g,0,none⟩)])) H3) :
  DoesX Tryz.prog 159 [.pointer (some ⟨g,0,none⟩),.int .i64 e] H (fun _ _=>False) X:=by
 refine FnX_of_vc Tryz.mixed (FailV _ _ _ _ _) ?_
 exact⟨fun _=>⟨g,0,rfl,hc,hx⟩,fun h=>absurd he h⟩
theorem want_ok{H:Heap}{g:Nat}{b:Bool}{e:Int}{R X:Value→Heap→Prop}(he:e≠0)(h1:b=true→R (.tuple #[]) H)(hc:b=false→Cells H g 0 1)
  (hx:b=false→∀H3,Puts H g 0 [.int .i64 e] H3→X (.iface 229 (.agg #[.pointer (some ⟨g,0,none⟩)])) H3) :
  DoesX Tryz.prog 104 [.pointer (some ⟨g,0,none⟩),.bool b,.int .i64 e] H R X:=by
 refine FnX_of_vc Tryz.mixed (WantV _ _ _ _ _ _) ?_
 refine⟨fun hb=>?_,fun hb=>h1 (by simpa using hb)⟩
 exact(fail_ok he (hc hb) (hx hb)).mono (fun _ _ h=>h.elim) (fun _ _ h=>h)
end Go.Proofs
end
section
open Go Go.Vc Go.Proofs.Bx
namespace Go.Proofs
theorem hasB_of{p:Program}{k:FuncId}{Q:Prop}(h:hasB p k True)(hq:Q):hasB p k Q:=by
 unfold hasB at h ⊢
 split at h
 ·split at h
  ·exact hq
  ·exact h.elim
 ·exact h.elim
theorem enters158(args:Array Value)(w:World):(callFunc 158 args).run Tryz.prog w=.ok (.enter 158 args) w:=by kernel_rfl
set_option maxHeartbeats 1000000 in
theorem does_ok{H:Heap}{Fd C:Nat→Prop}{ps pj:Nat}{h s b f:Int}{x y:RSt}{rl:List RSl}{ba:Option Addr}{bc:Nat}{ml:List (Int×Value)}{now:PSt}{k:FuncId}{first cap:List Value}{dead:Bool}{c:Nat}{P:Int→Option Value→Prop}{R:Value→Heap→Prop}
  (hb:Blk H ps (stoV pj h s b f x y)) (hn:NowIs H Fd x rl ba bc ml now) (hl:x.n≤1000000) (hFd:∀q,Fd q→q<H.size) (hj:hcell H pj 6=some (.bool dead))
  (hps:¬ownS x ba ps∧¬C ps∧¬Fd ps) (hCF:∀q,C q→¬Fd q) (hk:hasB Tryz.prog k True) (hc:c<H.size) (hcp:c≠ps)
  (hop:dead=false→∀g H1,Ext [] H H1→H.size≤g→Blk H1 g [.int .i64 0]→DoesX Tryz.prog k (first++[.pointer (some ⟨g,0,none⟩)]++cap) H1
   (fun v H2=>v=.tuple #[]∧ExtP (fun q=>ownS x ba q∨C q) H1 H2∧∀H3,ExtP (fun q=>H.size≤q∧q<H1.size) H2 H3→R (.int .i64 0) H3)
   (fun p H2=>∃n,n≠0∧P n (hcell H2 c 0)∧p=.iface 229 (.agg #[.pointer (some ⟨g,0,none⟩)])∧hcell H2 g 0=some (.int .i64 n)∧ExtP (fun q=>ownS x ba q∨C q∨q=g) H1 H2))
  (hC:∀q,C q→q<H.size)
  (hfail:∀n H3 x' ba' bc' ml',n≠0→(P n (hcell H3 c 0)∨(dead=true∧n=4∧hcell H3 c 0=hcell H c 0))→ExtP (fun q=>ownS x ba q∨C q∨q=ps) H H3→Blk H3 ps (stoV pj h s b f x' y)→NowIs H3 Fd x' rl ba' bc' ml' now→(∀q,ownS x' ba' q→H.size≤q)→x'.n=x.n→R (.int .i64 n) H3) :
  Does Tryz.prog 102 [.pointer (some ⟨ps,0,none⟩),.func (.func k) first.toArray cap.toArray] H R:=by
 have hpsl:=hb.lt
 have hown:=hn.lt
 refine Fn_of_vc Tryz.mixed (DoesGV _ _ _ _ _ _) ?_
 intro b1 H2 hn1 b3 H4 hn3
 have hx2:=hn1.ext
 have hx4:=hx2.trans' hn3.ext (by simp)
 have g1:=hn1.eq
 have g3:=hn3.eq
 have z2:=hn1.size
 have z4:=hn3.size
 have hb1:=hn1.blk.ext hn3.ext (by simp)
 have hb3:=hn3.blk
 have hb4:=hb.ext hx4 (by simp)
 have hn4:=hn.extP (M:=fun _=>False) hx4.anyP (fun _ _ h=>h) (fun _ _ h=>h)
 refine⟨some ⟨ps,0,none⟩,by rw[hb1.cell];rfl,ps,0,rfl,x.a,x.n,x.c,by rw[hb4.cell];rfl,some ⟨x.tb,0,none⟩,by rw[hb4.cell];rfl,some x.mb,by rw[hb4.cell];rfl,(copied_ok hn4 hl (fun q hq=>by have:=hFd q hq;omega)).mono ?_⟩
 rintro _ H14 ⟨x',ba',bc',ml',rfl,hnw,hx14,hge,hnn⟩
 refine⟨x'.a,x'.n,x'.c,_,_,rfl,?_⟩
 intro b20 H21 hn20
 have hx21:=hn20.ext
 have z14:=hx14.size
 have z21:=hn20.size
 have g20:=hn20.eq
 refine⟨hn20.blk.cells 3 0 (by simp),fun H22 hp22=>?_⟩
 have hx22':=hp22.ext
 have hb20:Blk H22 b20 (rstV x'):=hp22.blk hn20.blk (by simp)
 have z22:=hp22.size
 have hx22:Ext [] H14 H22:=⟨by omega,fun j hj _=>by rw[hx22'.keep j (by omega) (by simp;omega),hx21.keep j hj (by simp)]⟩
 have hxA:Ext [] H H22:=(hx4.trans' hx14 (by simp)).trans' hx22 (by simp)
 have hb1A:=(hb1.ext hx14 (by simp)).ext hx22 (by simp)
 have hb3A:=(hb3.ext hx14 (by simp)).ext hx22 (by simp)
 have hbA:=hb.ext hxA (by simp)
 have hnA:=hnw.extP (M:=fun _=>False) hx22.anyP (fun _ _ h=>h) (fun _ _ h=>h)
 have hjA:=hcell_ext hj hxA (by simp)
 have hgeA:∀q,ownS x' ba' q→H4.size≤q∧q<H14.size:=fun q hq=>⟨hge q hq,hnw.lt q hq⟩
 have hjlt:=hcell_lt hj
 refine(guard_ok (first:=[]) (cap:=[.pointer (some ⟨b1,0,none⟩),.pointer (some ⟨b3,0,none⟩)]) (Q:=fun v H24=>∃n:Int,v=.int .i64 n∧((n≠0→Blk H24 b1 [.pointer (some ⟨ps,0,none⟩)]∧Blk H24 b20 (rstV x')∧Blk H24 ps (stoV pj h s b f x y) ∧
  ∀H34,Puts H24 ps 5 (rstV x') H34→R (.int .i64 n) H34)∧(n=0→R (.int .i64 0) H24))) enters158 ?_).mono ?_
 rotate_left
 ·rintro v H24 ⟨n,rfl,q1,q2⟩
  refine⟨n,rfl,fun hne=>?_,fun he=>?_⟩
  ·obtain⟨r1,r2,r3,r4⟩:=q1 hne
   exact⟨some ⟨ps,0,none⟩,by rw[r1.cell];rfl,x'.a,x'.n,x'.c,by rw[r2.cell];rfl,some ⟨x'.tb,0,none⟩,by rw[r2.cell];rfl,some x'.mb,by rw[r2.cell];rfl,ps,0,rfl,r3.cells 3 (0+5) (by simp[stoV,rstV]),fun H34 hp=>r4 H34 hp⟩
  ·have he:n=0:=by omega
   subst he
   exact q2 rfl
 intro e g H1 HH hne hng
 have hxe:=hne.ext
 have hxg:=hng.ext
 have ze:=hne.size
 have zg:=hng.size
 have ge:=hne.eq
 have gg:=hng.eq
 have hxB:Ext [] H22 HH:=hxe.trans' hxg (by simp)
 have hxC:Ext [] H HH:=hxA.trans' hxB (by simp)
 have hbe:=hne.blk.ext hxg (by simp)
 have hbg:=hng.blk
 have hb1B:=hb1A.ext hxB (by simp)
 have hb3B:=hb3A.ext hxB (by simp)
 have hbB:=hbA.ext hxB (by simp)
 have hb20B:=hb20.ext hxB (by simp)
 have hnB:=hnA.extP (M:=fun _=>False) hxB.anyP (fun _ _ h=>h) (fun _ _ h=>h)
 have hjB:=hcell_ext hjA hxB (by simp)
 have hnF:∀q,Fd q→¬(ownS x ba q∨C q∨q=g∨q=e):=by
  rintro q hq (hh|hh|hh|hh)
  ·exact hn.apart.1 q hh hq
  ·exact hCF q hh hq
  ·have:=hFd q hq;omega
  ·have:=hFd q hq;omega
 have hN':∀q,H.size≤q→q≠g→q≠e→¬(ownS x ba q∨C q∨q=g∨q=e):=by
  rintro q hq h1 h2 (hh|hh|hh|hh)
  ·have:=hown q hh;omega
  ·have:=hC q hh;omega
  ·exact h1 hh
  ·exact h2 hh
 have hpsN:¬(ownS x ba ps∨C ps∨ps=g∨ps=e):=by
  rintro (hh|hh|hh|hh)
  ·exact hps.1 hh
  ·exact hps.2.1 hh
  ·omega
  ·omega
 have fail:∀(n:Int) (H5:Heap),n≠0→(P n (hcell H5 c 0)∨(dead=true∧n=4∧hcell H5 c 0=hcell H c 0))→ExtP (fun q=>ownS x ba q∨C q∨q=g) HH H5 →
   Blk H5 e [.int .i64 0]∧∀b6 H6 H7,New H5 b6 [.pointer (some ⟨g,0,none⟩)] 229 H6→Puts H6 e 0 [.int .i64 n] H7→∃n':Int,Value.int .i64 n=.int .i64 n'∧((n'≠0→Blk H7 b1 [.pointer (some ⟨ps,0,none⟩)]∧Blk H7 b20 (rstV x')∧Blk H7 ps (stoV pj h s b f x y) ∧
    ∀H34,Puts H7 ps 5 (rstV x') H34→R (.int .i64 n') H34)∧(n'=0→R (.int .i64 0) H7)):=by
  intro n H5 hn0 hPn he5
  have h5e:Blk H5 e [.int .i64 0]:=hbe.extP he5 (by rintro (hh|hh|hh)<;>first|(have:=hown _ hh;omega)|(have:=hC _ hh;omega)|omega)
  refine⟨h5e,fun b6 H6 H7 hn6 hp7=>⟨n,rfl,fun _=>?_,fun h0=>absurd h0 hn0⟩⟩
  have hx6:=hn6.ext
  have hx7:=hp7.ext
  have z5:=he5.size
  have z6:=hn6.size
  have z7:=hp7.size
  have heA:ExtP (fun q=>ownS x ba q∨C q∨q=g∨q=e) HH H7:=⟨by omega,fun q hq hm=>by
   rw[hx7.keep q (by omega) (by simp only[List.mem_singleton];rintro rfl;exact hm (.inr (.inr (.inr rfl)))),hx6.keep q (by omega) (by simp),he5.keep q hq (fun hh=>hm (hh.elim .inl fun hh=>.inr (hh.elim .inl fun hh=>.inr (.inl hh))))]⟩
  have hb7:=hbB.extP heA hpsN
  refine⟨hb1B.extP heA (hN' b1 (by omega) (by omega) (by omega)),hb20B.extP heA (hN' b20 (by omega) (by omega) (by omega)),hb7,fun H34 hp34=>?_⟩
  have hx34:=hp34.ext
  have z34:=hp34.size
  have hn7:=hnB.extP heA (fun q hq=>by have:=hgeA q hq;exact hN' q (by omega) (by omega) (by omega)) hnF
  have hn34:=hn7.extP hx34.toP (fun q hq=>by have:=hgeA q hq;simp;omega) (fun q hq=>by simp only[List.mem_singleton];rintro rfl;exact hps.2.2 hq)
  have hcc:hcell H34 c 0=hcell H5 c 0:=by
   unfold hcell
   rw[hx34.keep c (by have:=hxC.size;omega) (by simpa using hcp),hx7.keep c (by have:=hxC.size;omega) (by simp;omega),hx6.keep c (by have:=hxC.size;omega) (by simp)]
  refine hfail n H34 x' ba' bc' ml' hn0 (by rw[hcc];exact hPn) ⟨by have:=hxC.size;omega,fun q hq hm=>?_⟩ (hp34.blk hb7 (by simp[stoV,rstV])) hn34 (fun q hq=>by have:=hgeA q hq;omega) hnn
  have:=hxC.size
  rw[hx34.keep q (by omega) (by simp only[List.mem_singleton];rintro rfl;exact hm (.inr (.inr rfl))),heA.keep q (by omega) (fun hh=>by
   rcases hh with hh|hh|hh|hh
   ·exact hm (.inl hh)
   ·exact hm (.inr (.inl hh))
   ·omega
   ·omega),hxC.keep q hq (by simp)]
 refine FnX_of_vc Tryz.mixed (DoesG1V _ _ _ _ _ _) ?_
 refine⟨some ⟨ps,0,none⟩,by rw[hb1B.cell];rfl,ps,0,rfl,some ⟨pj,0,none⟩,by rw[hbB.cell];rfl,?_⟩
 refine(Does.x (X:=fun _ _=>False) (R:=fun v H'=>v=.bool dead∧HH=H') (Fn_of_vc Tryz.mixed (JDeadV _ _ _) ⟨pj,0,rfl,dead,hjB,rfl,rfl⟩)).mono ?_ (fun _ _ h=>h.elim)
 rintro _ _ ⟨rfl,rfl⟩
 refine⟨dead,rfl,want_ok (by decide) (fun hd=>?_) (fun _=>hbg.cells 1 0 (by simp)) (fun hd H3 hp3=>?_)⟩
 ·have hd:dead=false:=by simpa using hd
  refine⟨rfl,k,_,_,by rw[hb3B.cell];rfl,hasB_of hk ?_⟩
  have:=hop hd g HH hxC (by omega) hbg
  refine DoesX.mono this ?_ ?_
  ·rintro v H2' ⟨rfl,he,hR⟩
   refine⟨rfl,rfl,hbe.extP he (by rintro (hh|hh)<;>first|(have:=hown _ hh;omega)|(have:=hC _ hh;omega)),fun H3 hp3=>⟨0,rfl,fun h=>absurd rfl h,fun _=>hR H3 ?_⟩⟩
   have hx3:=hp3.ext
   have:=hxC.size
   exact⟨hx3.size,fun q hq hm=>hx3.keep q hq (by simp only[List.mem_singleton];rintro rfl;exact hm ⟨by omega,by omega⟩)⟩
  ·rintro p H2' ⟨n,h1,h2,rfl,h4,h5⟩
   obtain⟨f1,f2⟩:=fail n H2' h1 (.inl h2) h5
   exact⟨n,rfl,h4,f1,f2⟩
 ·have hd:dead=true:=by
   cases dead
   ·simp at hd
   ·rfl
  have hx3:=hp3.ext
  have hcc:hcell H3 c 0=hcell H c 0:=by
   unfold hcell
   rw[hx3.keep c (by have:=hxC.size;omega) (by simp;omega),hxC.keep c hc (by simp)]
  obtain⟨f1,f2⟩:=fail 4 H3 (by decide) (.inr ⟨hd,rfl,hcc⟩) (hx3.toP.mono fun q _ hq=>.inr (.inr (by simpa using hq)))
  refine⟨4,rfl,?_,f1,f2⟩
  rw[(hp3.blk hbg (by simp)).cell];rfl
end Go.Proofs
end
section
open Go Go.Vc Go.Proofs.Bx
namespace Go.Proofs
theorem own_puts{H H':Heap}{size sb n c o:Nat}{xs vs:List Value}(h:Own H size (some ⟨sb,0,none⟩) n c xs)(hp:Puts H sb o vs H')(ho:o+vs.length≤xs.length):Own H' size (some ⟨sb,0,none⟩) n c (splice xs o vs):=by
 obtain⟨h1,h2,h3,h4⟩:=h
 have hl:(splice xs o vs).length=xs.length:=by unfold splice;simp;omega
 refine⟨by rw[hl];exact h1,h2,h3,?_⟩
 rcases h4 with⟨e,_⟩|⟨b,tail,e,hb,hl2⟩
 ·cases e
 ·cases e
  refine .inr ⟨sb,tail,rfl,?_,by rw[List.length_append,hl,←List.length_append];exact hl2⟩
  have:=hp.blk hb (by rw[List.length_append];omega)
  have e:splice (xs++tail) o vs=splice xs o vs++tail:=by
   unfold splice
   rw[List.take_append_of_le_length (by omega),List.drop_append_of_le_length (by omega)]
   simp
  rw[e]at this
  exact this
theorem rslsV_split{rl:List RSl}{k:Nat}{r:RSl}(h:rl[k]?=some r):rslsV rl=rslsV (rl.take k)++rslV r++rslsV (rl.drop (k+1))∧(rslsV (rl.take k)).length=k*3:=by
 have hk:=(List.getElem?_eq_some_iff.1 h).1
 have e:rl=rl.take k++r::rl.drop (k+1):=by
  have h2:=(List.getElem?_eq_some_iff.1 h).2
  rw[←h2,←List.drop_eq_getElem_cons hk,List.take_append_drop]
 refine⟨?_,by rw[rslsV_length,List.length_take,Nat.min_eq_left (by omega)]⟩
 conv=>lhs;rw[e]
 simp[rslsV]
theorem splice_append_right(xs ys vs:List Value)(o:Nat):splice (xs++ys) (xs.length+o) vs=xs++splice ys o vs:=by
 unfold splice
 rw[List.take_length_add_append,Nat.add_assoc,List.drop_length_add_append]
 simp
theorem splice_slot{rl:List RSl}{k:Nat}{r r':RSl}(h:rl[k]?=some r){j:Nat}{vs:List Value}(hj:j+vs.length≤3)(he:splice (rslV r) j vs=rslV r'):splice (rslsV rl) (k*3+j) vs=rslsV (rl.set k r'):=by
 have hk:=(List.getElem?_eq_some_iff.1 h).1
 obtain⟨e1,e2⟩:=rslsV_split h
 have h':(rl.set k r')[k]?=some r':=by simp[hk]
 obtain⟨e3,_⟩:=rslsV_split h'
 have hlr:(rslV r).length=3:=rfl
 rw[e1,e3,List.take_set_of_le (Nat.le_refl _),List.drop_set_of_lt (by omega),←he,List.append_assoc,List.append_assoc,←e2,splice_append_right,splice_append_left (by omega)]
section
variable {H H':Heap} {Fd:Nat→Prop} {x:RSt} {rl:List RSl} {ba:Option Addr} {bc:Nat} {ml:List (Int×Value)} {st:PSt}
theorem NowIs.head(h:NowIs H Fd x rl ba bc ml st)(hn:0<x.n):∃sb,x.a=some ⟨sb,0,none⟩:=by
 rcases h.own.2.2.2 with⟨_,e⟩|⟨b,_,e,_⟩
 ·have:=h.own.2.1;omega
 ·exact⟨b,e⟩
theorem NowIs.setSlot(h:NowIs H Fd x rl ba bc ml st){k sb:Nat}{r r':RSl}{s':PSl}(ha:x.a=some ⟨sb,0,none⟩)(hr:rl[k]?=some r){j:Nat}{vs:List Value}(hj:j+vs.length≤3)(he:splice (rslV r) j vs=rslV r')(hp:Puts H sb (k*3+j) vs H')(hs':SlAt Fd H r' s') :
  NowIs H' Fd x (rl.set k r') ba bc ml {st with slots:=st.slots.set k s'}∧ExtP (fun q=>q∈blkOf x.a) H H':=by
 have hx:=hp.ext
 have hxx:ExtP (fun q=>q∈blkOf x.a) H H':=hx.lift fun q _ hq=>by rw[ha];simpa[blkOf]using hq
 have hk:=(List.getElem?_eq_some_iff.1 hr).1
 have hFa:∀q,Fd q→q∉blkOf x.a:=fun q hq hm=>h.apart.1 q (.inl hm) hq
 refine⟨⟨?_,by rw[List.length_set];exact h.num,by rw[List.length_set,List.length_set];exact h.len,fun i r0 s0 h1 h2=>?_,IsB.extP' h.bits hxx h.apart.2.1 fun q hq=>(h.apart.2.2.1 q hq).1,MapIs.extP'' h.map hxx h.apart.2.2.2.1,h.nod,fun k=>(h.data k).extP hxx hFa,h.apart⟩,hxx⟩
 ·have ho:=h.own
  rw[ha]at ho ⊢
  rw[←splice_slot hr hj he]
  refine own_puts ho hp ?_
  rw[rslsV_length];omega
 ·by_cases e:i=k
  ·subst e
   have e1:r0=r':=by simpa[hk]using h1.symm
   have hk2:i<st.slots.length:=by rw[←h.len];exact hk
   have e2:s0=s':=by simpa[hk2]using h2.symm
   subst e1;subst e2
   exact hs'.extP hxx hFa
  ·rw[List.getElem?_set_ne (Ne.symm e)]at h1 h2
   exact(h.slot i r0 s0 h1 h2).extP hxx hFa
theorem NowIs.up(h:NowIs H Fd x rl ba bc ml st){Fd':Nat→Prop}(h1:∀q,Fd q→Fd' q)(h2:∀q,ownS x ba q→¬Fd' q):NowIs H Fd' x rl ba bc ml st:=
 ⟨h.own,h.num,h.len,fun i r s hr hs=>⟨(h.slot i r s hr hs).1,(h.slot i r s hr hs).2.1,(h.slot i r s hr hs).2.2.1,(h.slot i r s hr hs).2.2.2.1,fun q hq=>h1 q ((h.slot i r s hr hs).2.2.2.2 q hq)⟩,h.bits,h.map,h.nod,fun k=>by
  have:=h.data k
  cases hd:st.data k with
  | none=>rw[hd]at this;exact this
  | some o=>rw[hd]at this;obtain⟨z1,a,c,z2,z3,z4⟩:=this;exact⟨z1,a,c,z2,z3,fun q hq=>h1 q (z4 q hq)⟩,h2,h.apart.2⟩
theorem NowIs.setBits(h:NowIs H Fd x rl ba bc ml st){bs:List Bool}(he:Ext (blkOf ba) H H')(hb:IsB H' x.tb ba bc bs):NowIs H' Fd x rl ba bc ml {st with bits:=bs}:=by
 have hxx:=he.toP
 have hF:∀q,Fd q→q∉blkOf ba:=fun q hq hm=>h.apart.1 q (.inr (.inr (.inl hm))) hq
 refine⟨Own.extP h.own hxx fun q hq hm=>(h.apart.2.2.1 q hm).1 hq,h.num,h.len,fun i r s hr hs=>(h.slot i r s hr hs).extP hxx hF,hb,MapIs.extP'' h.map hxx fun hm=>(h.apart.2.2.1 _ hm).2 rfl,h.nod,fun k=>(h.data k).extP hxx hF,h.apart⟩
theorem NowIs.setData(h:NowIs H Fd x rl ba bc ml st){k:Int}{a:Option Addr}{c:Nat}{o:Octs}(ho:o.length=128)(hr:SRow H 1 128 (.slice a 128 c) (bytesV o))(hf:∀q∈blkOf a,Fd q)(hp:MapPut H x.mb (mapSet ml k (.slice a 128 c)) H') :
  NowIs H' Fd x rl ba bc (mapSet ml k (.slice a 128 c)) {st with data:=fun j=>if j=k then some o else st.data j}∧Ext [x.mb] H H':=by
 have hlt:=h.lt x.mb (.inr (.inr (.inr rfl)))
 obtain⟨hm,hx⟩:=Go.Proofs.MapPut.is hp hlt
 have hxx:=hx.toP
 have hF:∀q,Fd q→q∉[x.mb]:=fun q hq=>by simp only[List.mem_singleton];rintro rfl;exact h.apart.1 _ (.inr (.inr (.inr rfl))) hq
 have hkeys:∀(l:List (Int×Value)) (v:Value),(∀j,j∈(mapSet l k v).map (·.1)↔j∈l.map (·.1)∨j=k)∧((l.map (·.1)).Nodup→((mapSet l k v).map (·.1)).Nodup)∧(∀p,p.1≠k→(p∈mapSet l k v↔p∈l))∧(k,v)∈mapSet l k v:=by
  intro l v
  induction l with
  | nil=>exact⟨fun j=>by simp[mapSet],fun _=>by simp[mapSet],fun p hp=>by simp[mapSet];rintro rfl;exact hp rfl,by simp[mapSet]⟩
  | cons q r ih=>
   obtain⟨i1,i2,i3,i4⟩:=ih
   unfold mapSet
   by_cases e:q.1=k
   ·rw[if_pos e]
    refine⟨fun j=>?_,fun hn=>?_,fun p hp=>?_,List.mem_cons_self⟩
    ·simp only[List.map_cons,List.mem_cons,e]
     constructor
     ·rintro (h|h);exact .inr h;exact .inl (.inr h)
     ·rintro ((h|h)|h);exact .inl h;exact .inr h;exact .inl h
    ·simp only[List.map_cons,e]at hn ⊢;exact hn
    ·simp only[List.mem_cons]
     constructor
     ·rintro (rfl|h);exact absurd rfl hp;exact .inr h
     ·rintro (rfl|h);exact absurd e hp;exact .inr h
   ·rw[if_neg e]
    refine⟨fun j=>?_,fun hn=>?_,fun p hp=>?_,List.mem_cons_of_mem _ i4⟩
    ·simp only[List.map_cons,List.mem_cons,i1 j,or_assoc]
    ·simp only[List.map_cons,List.nodup_cons]at hn ⊢
     refine⟨fun hm=>?_,i2 hn.2⟩
     rcases (i1 q.1).1 hm with h|h
     ·exact hn.1 h
     ·exact e h
    ·simp only[List.mem_cons,i3 p hp]
 obtain⟨i1,i2,i3,i4⟩:=hkeys ml (.slice a 128 c)
 refine⟨⟨h.own.ext hx (fun q hq=>by simp only[List.mem_singleton];rintro rfl;exact h.apart.2.2.2.1 hq),h.num,h.len,fun i r s hr hs=>(h.slot i r s hr hs).extP hxx hF,h.bits.ext hx (by simpa using Ne.symm h.apart.2.2.2.2) (fun q hq=>by simpa using (h.apart.2.2.1 q hq).2),hm,i2 h.nod,fun j=>?_,h.apart⟩,hx⟩
 show DatAt Fd H' _ j (if j=k then some o else st.data j)
 by_cases e:j=k
 ·subst e
  rw[if_pos rfl]
  exact⟨ho,a,c,i4,hr.extP hxx (fun q hq=>hF q (hf q hq)),hf⟩
 ·rw[if_neg e]
  have:=(h.data j).extP hxx hF
  cases hd:st.data j with
  | none=>rw[hd]at this;intro hm;exact((i1 j).1 hm).elim this e
  | some o'=>rw[hd]at this;obtain⟨z1,a',c',z2,z3⟩:=this;exact⟨z1,a',c',(i3 _ e).2 z2,z3⟩
end
end Go.Proofs
end
section
open Go Go.Vc
namespace Go.Vc
theorem ext_set(H:Heap)(l:Nat)(o:Obj):Ext [l] H (H.setIfInBounds l o):=⟨by simp,fun k _ hm=>by
 simp only[List.mem_singleton]at hm
 rw[Array.getElem?_setIfInBounds_ne (Ne.symm hm)]⟩
theorem ext_set_new{H0 H:Heap}{l:Nat}(o:Obj)(h:Ext [] H0 H)(hl:H0.size≤l):Ext [] H0 (H.setIfInBounds l o):=⟨by simpa using h.size,fun k hk _=>by
 rw[Array.getElem?_setIfInBounds_ne (by omega)]
 exact h.keep k hk (by simp)⟩
end Go.Vc
namespace Go.Proofs
def ApI(H0:Heap)(base:Nat)(enc:Nat→Value)(fin:Nat→Prop)(k:Nat)(H:Heap):Prop:=
 (∀j,j<k→¬fin j)∧Ext [] H0 H∧base+2≤H.size∧∃a c,Blk H H0.size [.slice a k c]∧Own H 1 a k c ((List.range k).map enc)∧(∀q∈blkOf a,base+2≤q)∧(k=0→a=none∧c=0)
set_option maxHeartbeats 1000000 in
theorem appendSeq_ok{gf:Nat}{lb:List Value}(eg:∀args w,(callFunc gf args).run Tryz.prog w=.ok (.enter gf args) w){enc:Nat→Value}(henc:∀k,∃a l c,enc k=.slice a l c){fin:Nat→Prop}{pre:Heap→Prop}
  (hseq:SeqH Tryz.prog gf lb (fun k=>[enc k]) fin pre) {H:Heap} (hpre:∀H',Ext [] H H'→pre H') (hfew:∀k,¬fin k→(k+1)*24≤140737488355328) :
  Does Tryz.prog 200 [.slice none 0 0,.func (.func gf) #[] lb.toArray] H fun v H'=>∃k a c,fin k∧(∀j,j<k→¬fin j)∧v=.slice a k c∧Own H' 1 a k c ((List.range k).map enc)∧(∀q∈blkOf a,H.size≤q)∧(k=0→a=none∧c=0)∧Ext [] H H':=by
 intro w hw
 subst hw
 refine callsIn_wide.1 (callsIn_of_wp_marks (n:=0) Tryz.func200 rfl trivial (wpIn_wide.2 ?_))
 have ha0:Ag Tryz.f200.ntmps [(0,.v (.slice none 0 0)),(1,.v (.func (.func gf) #[] lb.toArray))]
   {tmps:=#[.slice none 0 0,.func (.func gf) #[] lb.toArray]++Array.replicate (Tryz.f200.ntmps - 2) undef,defers:=[]}:=
  ⟨by simp[Tryz.ntmps200],rfl,start_agree [.slice none 0 0,.func (.func gf) #[] lb.toArray] _⟩
 refine wp_seq (wp_mono (part_wp Tryz.mixed (Aq0 none 0 0 w.heap fun v H'=>v=.pointer (some ⟨w.heap.size,0,none⟩)∧New w.heap w.heap.size [.slice none 0 0] 81 H') (fun b1 H2 hn=>by
  obtain⟨rfl,h⟩:=hn
  exact⟨rfl,rfl,h⟩) Tryz.func200 rfl rfl ha0 (ha0.pick (by intro x hx;simp only[List.mem_cons,List.mem_nil_iff,or_false]at hx;rcases hx with rfl;rfl)) rfl) ?_)
 rintro e a1 w1 ⟨rfl,hs1,vs,hl,⟨hv,hnew⟩,ha1⟩
 rw[one_of hl,hv]at ha1
 have hsz1:w1.heap.size=w.heap.size+1:=hnew.size
 apply wp_seq
 refine wp_seq (wp_mono (part_wp Tryz.mixed (Aq1 (.func (.func gf) #[] lb.toArray) w1.heap fun v H'=>v=.func (.func gf) #[] lb.toArray∧H'=w1.heap) ⟨rfl,rfl⟩ Tryz.func200 rfl rfl ha1 (ha1.pick (by
  intro x hx;simp only[List.mem_cons,List.mem_nil_iff,or_false]at hx;rcases hx with rfl;rfl)) rfl) ?_)
 rintro e a2 w2 ⟨rfl,hs2,vs,hl,⟨hv,hh2⟩,ha2⟩
 rw[one_of hl,hv]at ha2
 have haB:Ag Tryz.f200.ntmps [(6,.v (.func (.func gf) #[] lb.toArray)),(2,.v (.pointer (some ⟨w.heap.size,0,none⟩)))] a2:=ha2.pick (by
  intro x hx;simp only[List.mem_cons,List.mem_nil_iff,or_false]at hx;rcases hx with rfl|rfl<;>rfl)
 have hsz2:w2.heap.size=w.heap.size+1:=by rw[hh2];exact hsz1
 apply wp_block
 refine range_heap (gf:=gf) (lb:=lb) (haB.agree 6 _ rfl) eg hseq (fun k=>rfl) (ApI w.heap w2.heap.size enc fin) (fun _=>False) (fun k H h=>hpre H h.2.1) ?_ ?_ (fun H rec h=>h.elim) (fun k a'=>Ag Tryz.f200.ntmps [(5,.v (enc k)),(2,.v (.pointer (some ⟨w.heap.size,0,none⟩)))] a') ?_ ?_ ?_ (fun W h=>h.elim)
 ·intro rec
  have hb:Blk w2.heap w.heap.size [.slice none 0 0]:=by rw[hh2];exact hnew.blk
  have hx2:Ext [] w.heap w2.heap:=by rw[hh2];exact hnew.ext
  have hx3:Ext [] w2.heap ((w2.heap.push (.deferred (some []))).push (.loop rec)):=⟨by simp;omega,fun k hk _=>by rw[Array.getElem?_push,if_neg (by simp;omega),Array.getElem?_push,if_neg (by omega)]⟩
  exact⟨fun j hj=>by omega,hx2.trans' hx3 (by simp),by simp,none,0,hb.ext hx3 (by simp),Own.nil _ _,fun q hq=>(by cases hq),fun _=>⟨rfl,rfl⟩⟩
 ·rintro k H rec ⟨h1,h2,h3,a,c,h4,h5,h6,h7⟩
  exact⟨h1,ext_set_new _ h2 (by omega),by simpa using h3,a,c,h4.ext (ext_set H _ _) (by simp;omega),h5.ext (ext_set H _ _) (fun q hq=>by have:=h6 q hq;simp;omega),h6,h7⟩
 ·intro l k W
  obtain⟨xa,xl,xc,he⟩:=henc k
  have hact:Ag Tryz.f200.ntmps [(7,.v (enc k)),(2,.v (.pointer (some ⟨w.heap.size,0,none⟩)))] {tmps:=(#[7].zip [enc k].toArray).foldl (fun t (p,v)=>t.setIfInBounds p v) a2.tmps,defers:=[]}:=by
   have hsz:a2.tmps.size=13:=haB.size
   refine⟨by simp[hsz,Tryz.ntmps200],rfl,fun t s ht=>?_⟩
   rw[get_cons]at ht
   split at ht
   ·rename_i e;subst e;cases ht
    simp[hsz];rfl
   ·rename_i e
    have:(a2.tmps.setIfInBounds 7 (enc k)).getD t undef=a2.tmps.getD t undef:=by
     simp only[Array.getD_eq_getD_getElem?]
     rw[Array.getElem?_setIfInBounds_ne e]
    have h2:=haB.agree t s (by
     rw[get_cons]at ht ⊢
     split at ht
     ·rename_i e;subst e;cases ht;rfl
     ·cases ht)
    simpa[this]using h2
  rw[he]at hact
  refine wpIn_mono (part_in Tryz.mixed (Aq2 xa xl xc W.heap fun v H'=>v=enc k∧H'=W.heap) ⟨he.symm,rfl⟩ Tryz.func200 rfl rfl rfl (by rw[he];exact hact) (by rw[he];exact hact.pick (by
   intro x hx;simp only[List.mem_cons,List.mem_nil_iff,or_false]at hx;rcases hx with rfl;rfl)) rfl) ?_
  rintro e a' W' ⟨rfl,hs,vs,hl,⟨hv,hh⟩,ha'⟩
  rw[one_of hl,hv]at ha'
  exact⟨rfl,hs,hh,ha'.pick (by intro x hx;simp only[List.mem_cons,List.mem_nil_iff,or_false]at hx;rcases hx with rfl|rfl<;>rfl)⟩
 ·rintro k a' W rec hA ⟨h1,h2,h3,a,c,h4,h5,h6,h7⟩ hfin hD hL
  obtain⟨xa,xl,xc,he⟩:=henc k
  rw[he]at hA
  apply wpIn_block
  refine wpIn_mono (part_in Tryz.mixed (Aq3 w.heap.size xa xl xc W.heap fun v H'=>ApI w.heap w2.heap.size enc fin (k+1) H'∧H'[w2.heap.size]?=some (.deferred (some []))∧H'[w2.heap.size+1]?=some (.loop rec)) ?_ Tryz.func200 rfl rfl rfl hA (hA.pick (by
   intro x hx;simp only[List.mem_cons,List.mem_nil_iff,or_false]at hx;rcases hx with rfl|rfl<;>rfl)) rfl) ?_
  ·refine⟨a,k,c,by rw[h4.cell];rfl,fun b4 H5 hn5=>?_⟩
   have hx5:=hn5.ext
   have ho5:=h5.ext hx5 (by simp)
   have hb4:=h4.ext hx5 (by simp)
   refine⟨(List.range k).map enc,[.slice xa xl xc],ho5.row k c,⟨rfl,.inr rfl,fun j u hj=>?_⟩,fun u hu=>by simp only[List.mem_singleton]at hu;subst hu;rfl,hfew k hfin,fun hle=>ho5.room hle,fun a8 c9 H10 happ=>?_⟩
   ·show hcell H5 b4 (0+j)=some u
    rw[Nat.zero_add,hn5.blk.cell]
    exact hj
   ·obtain⟨q1,q2,q3⟩:=happ.own ho5 (ho5.row k c) rfl rfl
    have hsz5:=hn5.size
    have hd4:w.heap.size∉blkOf a:=fun h=>by have:=h6 _ h;omega
    have hb10:=hb4.ext q2 hd4
    refine⟨hb10.cells 1 0 (by simp),fun H11 hp=>?_⟩
    have hb11:Blk H11 w.heap.size [.slice a8 (k+1) c9]:=hp.blk hb10 (by simp)
    have hx11:=hp.ext
    have hq8:∀q∈blkOf a8,w2.heap.size+2≤q:=fun q hq=>by
     rcases q3 q hq with h|h
     ·exact h6 q h
     ·omega
    have keep:∀j,j<W.heap.size→j≠w.heap.size→j∉blkOf a→H11[j]?=W.heap[j]?:=fun j hj hne hna=>by
     have e5:=hx5.keep j hj (by simp)
     have e10:=q2.keep j (by rw[hsz5];omega) hna
     have e11:=hx11.keep j (by have:=q2.size;omega) (by simpa using hne)
     rw[e11,e10,e5]
    have hsz11:W.heap.size≤H11.size:=by have:=q2.size;have:=hx11.size;omega
    refine⟨⟨fun j hj=>?_,⟨by have:=h2.size;omega,fun j hj _=>?_⟩,by omega,a8,c9,?_,?_,hq8,fun h=>by omega⟩,?_,?_⟩
    ·by_cases e:j=k
     ·subst e;exact hfin
     ·exact h1 j (by omega)
    ·rw[keep j (by have:=h2.size;omega) (by omega) (fun h=>by have:=h6 j h;omega)]
     exact h2.keep j hj (by simp)
    ·exact hb11
    ·have:=q1.ext hx11 (fun q hq=>by have:=hq8 q hq;simp;omega)
     rw[List.range_succ,List.map_append,List.map_singleton,he]
     exact this
    ·rw[keep _ (by omega) (by omega) (fun h=>by have:=h6 _ h;omega)];exact hD
    ·rw[keep _ (by omega) (by omega) (fun h=>by have:=h6 _ h;omega)];exact hL
  ·rintro e a'' W' ⟨rfl,hs,vs,hl,⟨hi,hd,hl'⟩,_⟩
   exact⟨hs,hd,hl',.inl ⟨rfl,hi⟩⟩
 ·rintro k W hfin ⟨h1,h2,h3,a,c,h4,h5,h6,h7⟩ hD hs
  show Code.wp _ _ _ _ _
  have haT:Ag Tryz.f200.ntmps [(2,.v (.pointer (some ⟨w.heap.size,0,none⟩)))] {tmps:=a2.tmps,defers:=[]}:=by
   have:=haB.pick (S':=[(2,.v (.pointer (some ⟨w.heap.size,0,none⟩)))]) (by intro x hx;simp only[List.mem_cons,List.mem_nil_iff,or_false]at hx;rcases hx with rfl;rfl)
   exact⟨this.size,rfl,this.agree⟩
  refine wp_seq (wp_mono (part_with (Aq4 w.heap.size W.heap fun v H'=>v=.slice a k c∧H'=W.heap) ⟨a,k,c,by rw[h4.cell];rfl,rfl,rfl⟩ Tryz.func200 rfl rfl haT haT rfl) ?_)
  rintro e a5 w5 ⟨⟨rfl,hs5,vs,hl,⟨hv,hh5⟩,ha5⟩,hd5⟩
  rw[one_of hl,hv]at ha5
  refine wp_ret ?_
  show LeavesInM _ _ _ _ _ _ a5.defers _ _
  rw[hd5]
  have hK:w5.heap[w2.heap.size]?=some (.deferred (some [])):=by rw[hh5];exact hD
  refine⟨by simp,.inl ⟨w2.heap.size,_,rfl,run_takeDeferred hK,?_⟩⟩
  show LeavesInM _ _ _ _ _ _ a2.defers _ _
  rw[haB.defers]
  have hsW:Sim w w5:=((hs1.trans hs2).trans hs).trans hs5
  refine⟨.slice a k c,(results_tmp rfl _ _ _).trans (by rw[show a5.tmps.getD 4 undef=.slice a k c from ha5.agree 4 (.v (.slice a k c)) rfl]),.slice a k c,rfl,⟨hsW.os,hsW.tape,hsW.output⟩,k,a,c,hfin,h1,rfl,?_,fun q hq=>by have:=h6 q hq;omega,h7,?_⟩
  ·show Own (w5.heap.setIfInBounds _ _) _ _ _ _ _
   rw[hh5]
   exact h5.ext (ext_set _ _ _) fun q hq=>by have:=h6 q hq;simp;omega
  ·show Ext [] w.heap (w5.heap.setIfInBounds _ _)
   rw[hh5]
   exact ext_set_new _ h2 (by omega)
end Go.Proofs
namespace Go.Proofs
open Go Go.Vc
theorem CollV(x0:Value)(H:Heap)(R:Value→Heap→Prop):Walk Tryz.prog 163 [] [x0] H R=(
 Does Tryz.prog 200 [(.slice none 0 0),x0] H fun v1 H2=>∃a3:Option Addr,∃l4:Nat,∃c5:Nat,v1=(.slice a3 l4 c5)∧(
  R (.slice a3 l4 c5) H2)):=by kernel_rfl
theorem enters201(args:Array Value)(w:World):(callFunc 201 args).run Tryz.prog w=.ok (.enter 201 args) w:=by kernel_rfl
theorem enters184(args:Array Value)(w:World):(callFunc 184 args).run Tryz.prog w=.ok (.enter 184 args) w:=by kernel_rfl
theorem collect_ok{H:Heap}(p1 p2:Nat)(a:Option Addr)(L C n:Nat)(h1:hcell H p1 0=some (.slice a L C))(h2:hcell H p2 0=some (.int .i64 n))(hn:1≤n)(hn2:n≤1000000)(hL:L≤1000000)(hLC:L≤C) :
  Does Tryz.prog 163 [.func (.func 201) #[] #[.pointer (some ⟨p1,0,none⟩),.pointer (some ⟨p2,0,none⟩)]] H fun v H'=>∃k a' c,L≤k*n∧(∀j,j<k→j*n<L)∧v=.slice a' k c∧Own H' 1 a' k c ((List.range k).map (chunkAt a L n 1))∧(∀q∈blkOf a',H.size≤q)∧(k=0→a'=none∧c=0)∧Ext [] H H':=by
 refine Fn_of_vc Tryz.mixed (CollV _ _ _) ?_
 refine(appendSeq_ok (lb:=[.pointer (some ⟨p1,0,none⟩),.pointer (some ⟨p2,0,none⟩)]) enters201 (fun k=>⟨_,_,_,rfl⟩) (chunk201_seq p1 p2 a L C n hn (by omega) (by omega) hLC) (fun H' he=>⟨hcell_ext h1 he (by simp),hcell_ext h2 he (by simp)⟩) (fun k hk=>?_)).mono ?_
 ·have:k*1≤k*n:=Nat.mul_le_mul_left k hn
  have hk:¬L≤k*n:=hk
  omega
 ·rintro v H' ⟨k,a',c,g1,g2,rfl,g4⟩
  exact⟨a',k,c,rfl,k,a',c,g1,fun j hj=>by have:=g2 j hj;omega,rfl,g4⟩
end Go.Proofs
end
section
open Go Go.Vc
namespace Go.Proofs
open Go.Proofs.Bx (decP)
theorem refsF_pos{l:List RSl}{id:Int}(h:0<refsF l id):∃(k:Nat)(x:RSl),id=k+1∧l[k]?=some x∧refsF l id=x.refs:=by
 unfold refsF at h ⊢
 by_cases h1:id<1∨l.length<id
 ·rw[if_pos h1]at h;omega
 ·rw[if_neg h1]at h ⊢
  have hk:(id - 1).toNat<l.length:=by omega
  rw[List.getElem?_eq_getElem hk]at h ⊢
  exact⟨(id - 1).toNat,_,by omega,List.getElem?_eq_getElem hk,rfl⟩
theorem there_ok{H:Heap}{g ps pj:Nat}{h s b f:Int}{x y:RSt}{l:List RSl}{R X:Value→Heap→Prop}(hb:Blk H ps (stoV pj h s b f x y))(hs:RSls H x.a x.n l)(hl:x.n≤1000000)(id:Int)
  (h1:∀(bb o k:Nat) (r:RSl),x.a=some ⟨bb,o,none⟩→id=k+1→l[k]?=some r→0<r.refs→refsF l id=r.refs→R (.pointer (some ⟨bb,o+k*3,none⟩)) H)
  (hc:Cells H g 0 1) (hx:¬0<refsF l id→∀H3,Puts H g 0 [.int .i64 6] H3→X (.iface 229 (.agg #[.pointer (some ⟨g,0,none⟩)])) H3) :
  DoesX Tryz.prog 109 [.pointer (some ⟨ps,0,none⟩),.pointer (some ⟨g,0,none⟩),.int .i64 id] H R X:=by
 refine FnX_of_vc Tryz.mixed (ThereV _ _ _ _ _ _) ?_
 refine DoesX.mono ((refs_ok hb hs hl id).x) ?_ (fun _ _ h=>h)
 rintro _ _ ⟨rfl,rfl⟩
 refine⟨_,rfl,want_ok (by decide) (fun ht=>?_) (fun _=>hc) (fun hf=>hx (@of_decide_eq_false _ (Classical.propDecidable _) hf))⟩
 have hp:0<refsF l id:=@of_decide_eq_true _ (Classical.propDecidable _) ht
 obtain⟨k,r,rfl,hk,hr⟩:=refsF_pos hp
 obtain⟨bb,o,ha,_⟩:=hs.get k r hk
 have hlen:=hs.leng
 have hkl:k<l.length:=(List.getElem?_eq_some_iff.1 hk).1
 refine⟨rfl,ps,0,rfl,_,_,_,by rw[hb.cell];rfl,by unfold In64;omega,by omega,by omega,bb,o,ha,?_⟩
 have e:((k:Int)+1 - 1).toNat=k:=by omega
 rw[e]
 exact h1 bb o k r ha rfl hk (by omega) hr
end Go.Proofs
end
section
open Go Go.Vc
namespace Go.Proofs
def catD(d:Nat→Octs):Nat→Octs
 | 0=>[]
 | k+1=>catD d k++d k
theorem catD_length(d:Nat→Octs)(n:Nat)(h:∀k,k<n→(d k).length=128):(catD d n).length=n*128:=by
 induction n with
 | zero=>rfl
 | succ n ih=>simp only[catD,List.length_append,ih (fun k hk=>h k (by omega)),h n (by omega)];omega
theorem bytesS_ok{H:Heap}{ps pj sb so:Nat}{h s b f size:Int}{x y:RSt}{ml:List (Int×Value)}{pa:Option Addr}{pn pc N:Nat}{pl:List Pc}{d:Nat→Octs}
  (hb:Blk H ps (stoV pj h s b f x y)) (hm:MapIs H x.mb ml) (hp:Pcs H pa pn pl) (c0:hcell H sb so=some (.int .i64 size)) (c2:hcell H sb (so+2)=some (.slice pa pn pc))
  (hN:Bx.countF pl=(N:Int)) (hN2:N≤1000000) (hd:∀k,k<N→(d k).length=128∧∃a c,mapGet ml (Bx.atF pl (k:Int)).1 (.slice none 0 0)=.slice a 128 c∧SRow H 1 128 (.slice a 128 c) (bytesV (d k)))
  (hs0:0≤size) (hs:size≤N*128) :
  Does Tryz.prog 124 [.pointer (some ⟨ps,0,none⟩),.pointer (some ⟨sb,so,none⟩)] H fun v H'=>∃a c,v=.slice a size.toNat c∧SRow H' 1 size.toNat (.slice a size.toNat c) (bytesV ((catD d N).take size.toNat))∧(∀k∈blkOf a,H.size≤k)∧Ext [] H H'∧size.toNat≤c:=by
 refine Fn_of_vc Tryz.mixed (BytesSV _ _ _ _) ?_
 refine⟨sb,so,rfl,_,_,_,c2,(Bx.count_ok hp).mono ?_⟩
 rintro _ H7 ⟨rfl,hx7⟩
 refine⟨_,rfl,fun a l c i K=>∃k:Nat,i=k∧k≤N∧l=k*128∧Own K 1 a l c (bytesV (catD d k))∧(∀j∈blkOf a,H.size≤j)∧Ext [] H K,fun _ _ _ i _=>(N - i).toNat,⟨0,rfl,Nat.zero_le _,rfl,Own.nil _ _,by simp[blkOf],hx7⟩,?_⟩
 rintro a11 _ c13 _ H15 ⟨k,rfl,hk,rfl,ho,hf,hx⟩
 rw[hN]
 refine⟨fun hlt=>?_,fun hge=>?_⟩
 ·have hk':k<N:=by omega
  obtain⟨hdl,a,c,hg,hr⟩:=hd k hk'
  refine⟨sb,so,rfl,_,_,_,hcell_ext c2 hx (by simp),(Bx.at_ok (hp.ext hx (by simp)) k).mono ?_⟩
  rintro _ H22 ⟨rfl,hx22⟩
  have hxx:=hx.trans' hx22 (by simp)
  have ho22:=ho.ext hx22 (by simp)
  have hb22:=hb.ext hxx (by simp)
  have hm22:MapIs H22 x.mb ml:=by
   obtain⟨es,cl,g1,g2⟩:=hm
   exact⟨es,cl,by rw[hxx.keep _ (Array.getElem?_eq_some_iff.1 g1).1 (by simp)];exact g1,g2⟩
  refine⟨_,_,rfl,ps,0,rfl,_,by rw[hb22.cell];rfl,_,ml,rfl,hm22,a,128,c,hg.symm,_,_,ho22.row _ _,hr.ext hxx (by simp),bytesV_one _,by omega,fun hle=>ho22.room hle,?_⟩
  intro a35 c36 H37 happ
  obtain⟨g1,g2,g3⟩:=happ.own ho22 (ho22.row _ _) (by simp[bytesV,hdl]) rfl
  refine⟨by unfold In64;omega,⟨k+1,by omega,by omega,by omega,?_,fun j hj=>?_,hxx.trans' g2 (fun i hi=>.inl (hf i hi))⟩,by simp only;omega⟩
  ·have e:bytesV (catD d (k+1))=bytesV (catD d k)++bytesV (d k):=by simp[catD,bytesV]
   rw[e];exact g1
  ·rcases g3 j hj with h'|h'
   ·exact hf j h'
   ·have:=hxx.size;omega
 ·have hk':k=N:=by omega
  subst hk'
  have hle:=ho.2.1
  refine⟨sb,so,rfl,_,hcell_ext c0 hx (by simp),hs0,by omega,a11,c13,rfl,?_,hf,hx,by omega⟩
  have:=SRow.take1 (l':=size.toNat) (c':=c13) (ho.row 0 0) (k:=size.toNat) (by omega)
  rwa[show(bytesV (catD d k)).take size.toNat=bytesV ((catD d k).take size.toNat)from by simp[bytesV]]at this
end Go.Proofs
end
section
open Go Go.Vc
namespace Go.Proofs
theorem ChunkV(x0:Option Addr) (x0l:Nat) (x0c:Nat) (x1:Int) (H:Heap) (R:Value→Heap→Prop):Walk Tryz.prog 164 [] [.slice x0 x0l x0c,.int .i64 x1] H R=(∀b1 H2,New H b1 [.slice x0 x0l x0c] 33 H2→∀b3 H4,New H2 b3 [.int .i64 x1] 3 H4→∃n5,hcell H4 b3 0=some (.int .i64 n5)∧(((n5<1)→((fun (_:Value) (_:Heap)=>False) (.iface 9 (.string (ByteArray.mk #[99,97,110,110,111,116,32,98,101,32,108,101,115,115,32,116,104,97,110,32,49]))) H4))∧(¬(n5<1)→R (.func (.func 201) #[] #[.pointer (some ⟨b1,0,none⟩),.pointer (some ⟨b3,0,none⟩)]) H4))):=by kernel_rfl
theorem ChunkWV(x0:Option Addr) (x0l:Nat) (x0c:Nat) (x1:Int) (H:Heap) (R:Value→Heap→Prop):Walk Tryz.prog 120 [] [.slice x0 x0l x0c,.int .i64 x1] H R=(∀b1 H2,New H b1 [.slice x0 x0l x0c] 154 H2→∀b3 H4,New H2 b3 [.int .i64 x1] 3 H4→∃n5,hcell H4 b3 0=some (.int .i64 n5)∧(((n5<1)→((fun (_:Value) (_:Heap)=>False) (.iface 9 (.string (ByteArray.mk #[99,97,110,110,111,116,32,98,101,32,108,101,115,115,32,116,104,97,110,32,49]))) H4))∧(¬(n5<1)→R (.func (.func 184) #[] #[.pointer (some ⟨b1,0,none⟩),.pointer (some ⟨b3,0,none⟩)]) H4))):=by kernel_rfl
end Go.Proofs
end
section
open Go Go.Vc
namespace Go.Proofs
theorem chunk_ok(a:Option Addr)(l c:Nat)(n:Int)(H:Heap)(hn:1≤n):Does Tryz.prog 164 [.slice a l c,.int .i64 n] H fun v H'=>
  v=.func (.func 201) #[] #[.pointer (some ⟨H.size,0,none⟩),.pointer (some ⟨H.size+1,0,none⟩)]∧Blk H' H.size [.slice a l c]∧Blk H' (H.size+1) [.int .i64 n]∧Ext [] H H'∧H'.size=H.size+2:=by
 refine Fn_of_vc Tryz.mixed (ChunkV _ _ _ _ _ _) ?_
 intro b1 H2 h2 b3 H4 h4
 have e1:=h2.eq
 have e3:=h4.eq
 have s2:=h2.size
 have s4:=h4.size
 have hb1:=h2.blk.ext h4.ext (by simp)
 subst e1
 refine⟨n,by rw[h4.blk.cell];rfl,fun h=>by omega,fun _=>?_⟩
 have:b3=H.size+1:=by omega
 subst this
 exact⟨rfl,hb1,h4.blk,h2.ext.trans' h4.ext (by simp),by omega⟩
end Go.Proofs
end
section
open Go Go.Vc Go.Proofs.Bx
namespace Go.Proofs
def FillTo(f:Int)(st:PSt)(s:PSl)(n:Int)(ps':List Pc)(bits':List Bool):Prop:=
 (n<countF s.ps∧ps'=piecesF ((blocksI s.ps).take n.toNat)∧bits'=setAll st.bits ((blocksI s.ps).drop n.toNat) false) ∨
 (countF s.ps<n∧growOk st.bits s.ps f (n - countF s.ps)∧ps'=growF st.bits s.ps f (n - countF s.ps)∧bits'=setAll st.bits (foundF st.bits f (n - countF s.ps).toNat) true) ∨
 (n=countF s.ps∧ps'=s.ps∧bits'=st.bits)
def FillNo(f:Int)(st:PSt)(s:PSl)(n:Int):Prop:=countF s.ps<n∧¬growOk st.bits s.ps f (n - countF s.ps)
def partO(xs:Octs)(i:Nat):Octs:=((padO xs).drop (i*128)).take 128
noncomputable def putN(d:Int→Option Octs)(ps:List Pc)(xs:Octs):Nat→Int→Option Octs
 | 0=>d
 | n+1=>fun j=>if j=(atF ps n).1 then some (partO xs n)else putN d ps xs n j
noncomputable def fillSt(st:PSt)(k:Nat)(s:PSl)(xs:Octs)(ps':List Pc)(bits':List Bool):PSt:=
 {slots:=st.slots.set k ⟨xs.length,s.refs,ps'⟩,bits:=bits',data:=putN st.data ps' xs (blocksF xs.length).toNat}
def FMid(H0:Heap)(Fd:Nat→Prop)(x:RSt)(ba:Option Addr)(bc:Nat)(ml:List (Int×Value))(st:PSt)(k:Nat)(r:RSl)(s:PSl)(f n:Int)(H':Heap):Prop:=
 ∃ps' bits' rl1 r1 Fd1,FillTo f st s n ps' bits'∧NowIs H' Fd1 x rl1 ba bc ml {st with slots:=st.slots.set k ⟨s.size,s.refs,ps'⟩,bits:=bits'}∧rl1[k]?=some r1∧r1.size=r.size∧r1.refs=r.refs∧ExtP (ownS x ba) H0 H'∧(∀q,Fd q→Fd1 q)∧∀q,Fd1 q→Fd q∨(H0.size≤q∧q<H'.size)
section
variable {H H1 H2 H3:Heap} {Fd:Nat→Prop} {x:RSt} {rl:List RSl} {ba:Option Addr} {bc:Nat} {ml:List (Int×Value)} {st:PSt}
theorem fill_pieces(h:NowIs H Fd x rl ba bc ml st)(_:∀q,Fd q→q<H.size){sb k:Nat}{r:RSl}{s:PSl}(ha:x.a=some ⟨sb,0,none⟩)(hr:rl[k]?=some r)(hs:st.slots[k]?=some s){f n:Int}{bits':List Bool}{ps':List Pc}{a:Option Addr}{c:Nat}
  (hT:FillTo f st s n ps' bits') (h1:Ext [] H H1) (h2:Ext (blkOf ba) H1 H2) (hb:IsB H2 x.tb ba bc bits') (ho:Own H2 2 a ps'.length c (piecesV ps')) (hn:∀q∈blkOf a,H.size≤q) (hp:Puts H2 sb (k*3+2) [.slice a ps'.length c] H3):FMid H Fd x ba bc ml st k r s f n H3:=by
 have g1:=h.extP (M:=fun _=>False) h1.anyP (fun _ _ h=>h) (fun _ _ h=>h)
 have g2:=g1.setBits h2 hb
 have hown:=h.lt
 have z1:=h1.size
 have z2:=h2.size
 have g3:=g2.up (Fd':=fun q=>Fd q∨(H.size≤q∧q<H2.size)) (fun q hq=>.inl hq) (fun q hq hm=>by
  rcases hm with hm|hm
  ·exact h.apart.1 q hq hm
  ·have:=hown q hq;omega)
 have hsl:=h.slot k r s hr hs
 obtain⟨g4,hx4⟩:=g3.setSlot (r':={r with a:=a,n:=ps'.length,c:=c}) (s':=⟨s.size,s.refs,ps'⟩) ha hr (j:=2) (vs:=[.slice a ps'.length c]) (by simp) rfl hp ⟨hsl.1,hsl.2.1,⟨rfl,fun c=>ho.row _ c⟩,ho.2.1,fun q hq=>.inr ⟨hn q hq,ho.lt q hq⟩⟩
 have hk:=(List.getElem?_eq_some_iff.1 hr).1
 refine⟨ps',bits',_,{r with a:=a,n:=ps'.length,c:=c},_,hT,g4,by simp[hk],rfl,rfl,?_,fun q hq=>.inl hq,fun q hq=>?_⟩
 ·exact(((h1.anyP (N:=ownS x ba)).trans (h2.lift fun q _ hq=>.inr (.inr (.inl hq)))).trans (hx4.mono fun q _ hq=>.inl hq))
 ·have:=hp.size
  rcases hq with hq|hq
  ·exact .inl hq
  ·exact .inr ⟨hq.1,by omega⟩
end
end Go.Proofs
end
section
open Go Go.Vc Go.Proofs.Bx
namespace Go.Proofs
theorem countF_bd(l:List Pc):0≤countF l∧countF l≤1000000:=by
 unfold countF
 by_cases h:SmallP l
 ·rw[←decP_true h,if_pos rfl]
  have h1:=blocksW_total (small_pos h)
  have h2:=small_len h
  omega
 ·rw[←decP_false h,if_neg (by decide)]
  omega
theorem srow_sub{H:Heap}{a:Option Addr}{L c:Nat}{xs:Octs}(h:SRow H 1 L (.slice a L c) (bytesV xs)){o n c':Nat}(ho:o+n≤xs.length):SRow H 1 n (.slice (a.map (·.add o)) n c') (bytesV ((xs.drop o).take n)):=by
 obtain⟨h1,h2⟩:=h
 refine⟨by simp[bytesV];omega,?_⟩
 cases a with
 | none=>
  have h2:bytesV xs=[]:=h2
  have:xs=[]:=by
   have:=congrArg List.length h2
   simp[bytesV]at this
   exact this
  subst this
  simp at ho
  simp[bytesV]
 | some ad=>
  obtain⟨h3,h4⟩:=h2
  rcases h3 with h3|h3
  ·have:xs=[]:=by
    have:=congrArg List.length h3
    simp[bytesV]at this
    exact this
   subst this
   simp at ho
   obtain⟨rfl,rfl⟩:=ho
   exact⟨.inl (by simp[bytesV]),fun j u hj=>by simp[bytesV]at hj⟩
  ·show(_∨(ad.add o).spot=none)∧∀(j:Nat) (u:Value),_→hcell H (ad.add o).block ((ad.add o).off+j)=some u
   have e1:(ad.add o).spot=none:=by unfold Addr.add;split;exact h3;rfl
   have e2:(ad.add o).block=ad.block:=by unfold Addr.add;split<;>rfl
   have e3:(ad.add o).off=ad.off+o:=by unfold Addr.add;split<;>simp_all
   refine⟨.inr e1,fun j u hj=>?_⟩
   rw[e2,e3,Nat.add_assoc]
   refine h4 (o+j) u ?_
   have hj':j<n:=by
    have:=(List.getElem?_eq_some_iff.1 hj).1
    simp[bytesV]at this;omega
   simp only[bytesV,List.getElem?_map,List.getElem?_take,List.getElem?_drop]at hj ⊢
   rw[if_pos hj']at hj
   exact hj
end Go.Proofs
end
