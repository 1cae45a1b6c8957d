/-
  What the law rests on, part 6. No condition.
-/
import Derived.Test.YtlfmjamcinnimaaGreatPe
import Derived.Test.YtlfmjamcinnimaaGreatPb
import Derived.Test.YtlfmjamcinnimaaGreatProg

section
open Go Go.Vc Go.Proofs.Bx
namespace Go.Proofs
theorem eqB_ok2 {xs ys:Octs} {a a':Option Addr} {c c':Nat} {H:Heap} (hl:xs.length≤1000000) (h:SRow H 1 xs.length (.slice a xs.length c) (bytesV xs)) (k:SRow H 1 ys.length (.slice a' ys.length c') (bytesV ys)) :
  Does Tryz.prog 152 [.slice a xs.length c,.slice a' ys.length c'] H fun v H' => v=.bool (decide (xs=ys))∧H=H' := eqB_ok hl h k
set_option maxRecDepth 100000 in
set_option maxHeartbeats 4000000 in
theorem load_ok {H:Heap} {F:Nat→Prop} {pj pd N:Nat} {J:Jn} {D:Dev} {cur:Nat→Octs} (hJ:JD H F pj pd J D) (hl:∀ k,k<N→(cur k).length=128) (hN0:0<N) (hN:N≤4096)
  (hm:∀ K,JD K F pj pd J D→Does Tryz.prog 147 [.pointer (some ⟨pj,0,none⟩)] K fun v K' => v=.int .i64 (N:Int)∧K=K')
  (rd:∀ K,JD K F pj pd J D→∀ k:Nat,k<N→Does Tryz.prog 146 [.pointer (some ⟨pj,0,none⟩),.int .i64 k] K fun v K' => ∃ a c,v=.tuple #[.slice a (cur k).length c,.int .i64 0]∧Own K' 1 a (cur k).length c (bytesV (cur k))∧(∀ i∈blkOf a,K.size≤i)∧JD K' F pj pd J D∧ExtP F K K') :
  Does Tryz.prog 93 [.pointer (some ⟨pj,0,none⟩)] H (LoadR N cur H F pj pd J D) := by
 have hFl := hJ.lt
 have hbb := bitsN_bd hN
 refine Fn_of_vc Tryz.mixed (Load2V _ _ _) ?_
 intro b1 H2 hn1 b3 H4 hn3
 have g1 := hn1.eq; have g3 := hn3.eq; have z2 := hn1.size; have z4 := hn3.size
 have hx4 := hn1.ext.trans' hn3.ext (by simp)
 have hb1 := hn1.blk.ext hn3.ext (by simp)
 have hb3 := hn3.blk
 have hJ4:JD H4 F pj pd J D := hJ.ext (M := fun _ => False) hx4.anyP (fun _ _ h => h)
 refine (rd H4 hJ4 0 hN0).mono ?_
 rintro _ H6 ⟨a7,c9,rfl,ho7,hf7,hJ6,hx6⟩
 have z6 := hx6.size
 refine ⟨_,_,_,_,rfl,fun h => absurd rfl h,fun _ => (hm H6 hJ6).mono ?_⟩
 rintro _ _ ⟨rfl,rfl⟩
 refine ⟨_,rfl,(nrB_ok (by rw [hl 0 hN0]; omega) (ho7.row _ _)).mono ?_⟩
 rintro _ H26 ⟨p27,rfl,hr26,hx26⟩
 refine ⟨_,rfl,(ruB_ok (n := 2) (.inl ⟨rfl,rfl⟩) hr26).mono ?_⟩
 rintro _ H29 ⟨rfl,_,hx29⟩
 have z26 := hx26.size; have z29 := hx29.size
 have hs:numU (cur 0,false) 2=headN cur := rfl
 rw [hs]
 have hx629:Ext [] H6 H29 := hx26.transP hx29 (fun i hi => hi)
 refine ⟨_,rfl,(laidOut_ok (N:Int) (headN cur) H29 (by omega)).mono ?_⟩
 rintro _ H32 ⟨hx32,hcase⟩
 have z32 := hx32.size
 have hx632:Ext [] H6 H32 := hx629.trans' hx32 (by simp)
 obtain ⟨lh,ls,lb,lf,t,hv,hlay⟩:∃ lh ls lb lf t,(∀ v,((laidBad (N:Int) (headN cur)∧v=Value.tuple #[layV 0 0 0 0,.bool false])∨(¬ laidBad (N:Int) (headN cur)∧v=Value.tuple #[layV N (headN cur) (bitsN N) (firstN N (headN cur)),.bool (decP (firstN N (headN cur)<N))]))→v=Value.tuple #[layV lh ls lb lf,.bool t]) ∧
   ((t=false∧∀ st,¬ LoadOk N cur st)∨(t=true∧¬ laidBad (N:Int) (headN cur)∧firstN N (headN cur)<N∧lh=N∧ls=headN cur∧lb=bitsN N∧lf=firstN N (headN cur))) := by
  by_cases hbad:laidBad (N:Int) (headN cur)
  ·exact ⟨0,0,0,0,false,fun v hv => hv.elim (fun h => h.2) (fun h => absurd hbad h.1),.inl ⟨rfl,fun st h => h.good hbad⟩⟩
  ·refine ⟨N,headN cur,bitsN N,firstN N (headN cur),_,fun v hv => hv.elim (fun h => absurd h.1 hbad) (fun h => h.2),?_⟩
   by_cases hr:firstN N (headN cur)<N
   ·exact .inr ⟨(decP_true hr).symm,hbad,hr,rfl,rfl,rfl,rfl⟩
   ·exact .inl ⟨(decP_false hr).symm,fun st h => hr h.room⟩
 refine ⟨lh,ls,lb,lf,t,hv _ hcase,fun b38 H39 hn38 => ⟨hn38.blk.cells _ _ (by simp),fun H40 hp38 => ?_⟩⟩
 obtain ⟨hb38,hx40,e38,z40⟩ := new_put hn38 hp38 rfl
 have hx640:Ext [] H6 H40 := hx632.trans' hx40 (by simp)
 have hJ40:JD H40 F pj pd J D := hJ6.ext (M := fun _ => False) hx640.anyP (fun _ _ h => h)
 have hF1:∀ q,H.size≤q→¬ F q := fun q hq h => by have := hFl q h; omega
 have hb1_40:Blk H40 b1 _ := (hb1.extP hx6 (hF1 b1 (by omega))).ext hx640 (by simp)
 have hb3_40:Blk H40 b3 _ := (hb3.extP hx6 (hF1 b3 (by omega))).ext hx640 (by simp)
 have hX40:ExtP F H H40 := (hx4.anyP.trans hx6).trans hx640.anyP
 have zA:H4.size≤H6.size∧H6.size≤H40.size := ⟨z6,hx640.size⟩
 rcases hlay with ⟨rfl,hno⟩ | ⟨rfl,hgood,hroom,rfl,rfl,rfl,rfl⟩
 ·refine ⟨fun _ => ?_,fun h => absurd rfl h⟩
  refine ⟨_,by rw [hb38.cell]; rfl,_,by rw [hb38.cell]; rfl,_,by rw [hb38.cell]; rfl,_,by rw [hb38.cell]; rfl,hb1_40.cells _ _ (by simp),fun H45 hp1 => ?_⟩
  have hb1' := hp1.blk hb1_40 (by simp)
  have hx45 := hp1.ext
  have hb3' := hb3_40.ext hx45 (by simp; omega)
  refine ⟨hb3'.cells _ _ (by simp),fun H46 hp3 => ?_⟩
  have hb3'' := hp3.blk hb3' (by simp)
  have hx46 := hp3.ext
  have hb1'' := hb1'.ext hx46 (by simp; omega)
  have hxo:ExtP (fun q => q=b1∨q=b3) H40 H46 := (hx45.lift (N := fun q => q=b1∨q=b3) fun q _ hq => .inl (by simpa using hq)).trans (hx46.lift fun q _ hq => .inr (by simpa using hq))
  refine ⟨_,by rw [hb1''.cell]; rfl,_,by rw [hb1''.cell]; rfl,_,by rw [hb1''.cell]; rfl,_,by rw [hb1''.cell]; rfl,_,_,_,by rw [hb3''.cell]; rfl,_,by rw [hb3''.cell]; rfl,_,by rw [hb3''.cell]; rfl,?_⟩
  exact ⟨hX40.trans' hxo (fun q hq => .inl (by omega)),hJ40.ext hxo (fun q hq h => hF1 q (by omega) hq),_,_,_,_,_,_,_,_,_,_,rfl,.inr ⟨rfl,hno⟩⟩
 have h0:¬ (headN cur<1∨256<headN cur∨(N:Int)<1) := hgood
 have hfd:firstN N (headN cur)=1+bitsN N+(headN cur+3) / 4 := rfl
 obtain ⟨s,hs⟩:∃ s:Nat,headN cur=s := ⟨(headN cur).toNat,by omega⟩
 obtain ⟨f,hf⟩:∃ f:Nat,firstN N (headN cur)=f := ⟨(firstN N (headN cur)).toNat,by omega⟩
 have hs256:1≤s∧s≤256 := by omega
 have hfN:f<N := by omega
 have hf69:f≤69 := by omega
 have hhN:(N:Int).toNat=N := Int.toNat_natCast N
 let M40:Nat→Prop := fun q => F q∨H40.size≤q
 refine ⟨fun h => (by cases h),fun _ => ⟨firstN N (headN cur),by rw [hb38.cell]; rfl,fun a l c i K => ∃ k:Nat,i=k∧k≤f∧l=(catP cur k).length∧Own K 1 a l c (bytesV (catP cur k))∧(∀ q∈blkOf a,H40.size≤q)∧JD K F pj pd J D∧ExtP M40 H40 K,fun _ _ _ i _ => (f - i).toNat,⟨0,rfl,Nat.zero_le _,rfl,Own.nil _ _,by simp [blkOf],hJ40,ExtP.refl _ _⟩,?_⟩⟩
 rintro a59 _ c61 _ H63 ⟨k,rfl,hk,rfl,ho59,hf59,hJ63,hx63⟩
 have z63 := hx63.size
 rw [hf]
 have hck:∀ j,j≤N→(catP cur j).length=j*128 := fun j hj => catP_length fun i hi => hl i (by omega)
 refine ⟨fun hlt => ?_,fun hge => ?_⟩
 ·have hk':k<f := by omega
  refine (rd H63 hJ63 k (by omega)).mono ?_
  rintro _ H65 ⟨a66,c68,rfl,ho66,hf66,hJ65,hx65⟩
  have z65 := hx65.size
  have ho65 := Own.extP ho59 hx65 (fun q hq => hF1 q (by have := hf59 q hq; omega))
  have q1 := hck k (by omega)
  have q2 := hl k (by omega)
  refine ⟨_,_,_,_,rfl,fun h => absurd rfl h,fun _ => ⟨_,_,ho65.row _ _,ho66.row _ _,bytesV_one _,by omega,fun hle => ho65.room hle,fun a87 c88 H89 happ => ?_⟩⟩
  obtain ⟨r1,r2,r3⟩ := happ.own ho65 (ho65.row _ _) (by rw [bytesV_length]; omega) rfl
  have r2':ExtP M40 H65 H89 := r2.lift fun q _ hq => .inr (hf59 q hq)
  refine ⟨by unfold In64; omega,⟨k+1,by omega,by omega,by rw [catP_succ,List.length_append],?_,fun q hq => ?_,hJ65.ext (M := fun q => H40.size≤q) (r2.lift fun q _ hq => hf59 q hq) (fun q hq h => hF1 q (by omega) hq),(hx63.trans (hx65.mono fun _ _ h => .inl h)).trans r2'⟩,by simp only; omega⟩
  ·rw [catP_succ,bytesV_append]; exact r1
  ·rcases r3 q hq with h | h
   ·exact hf59 q h
   ·omega
 have hkf:k=f := by omega
 subst hkf
 have hall := hck k (by omega)
 have hbN:∀ q,q<H40.size→H.size≤q→¬ M40 q := fun q h1 h2 h => h.elim (hF1 q h2) fun h => by omega
 have hb1_63 := hb1_40.extP hx63 (hbN b1 (by omega) (by omega))
 have hb3_63 := hb3_40.extP hx63 (hbN b3 (by omega) (by omega))
 have hb38_63 := hb38.extP hx63 (hbN b38 (by omega) (by omega))
 refine ⟨_,by rw [hb38_63.cell]; rfl,_,by rw [hb38_63.cell]; rfl,_,by rw [hb38_63.cell]; rfl,_,by rw [hb38_63.cell]; rfl,(empty_ok (Fd := fun _ => False) (by omega) (by omega) (by omega) (by omega) (fun _ h => h.elim)).mono ?_⟩
 rintro _ H95 ⟨x,rl0,ba,bc,rfl,hn95,hx95,ho95,hxn⟩
 have z95 := hx95.size
 have hol95 := hn95.lt
 refine ⟨_,_,_,_,_,rfl,fun b101 H102 hn101 => ⟨hn101.blk.cells _ _ (by simp),fun H103 hp101 => ?_⟩⟩
 obtain ⟨hb101,hx103,e101,z103⟩ := new_put hn101 hp101 rfl
 have hX103:Ext [] H63 H103 := hx95.trans' hx103 (by simp)
 have hb1_103 := hb1_63.ext hX103 (by simp)
 have hb3_103 := hb3_63.ext hX103 (by simp)
 have hb38_103 := hb38_63.ext hX103 (by simp)
 have hJ103:JD H103 F pj pd J D := hJ63.ext (M := fun _ => False) hX103.anyP (fun _ _ h => h)
 have hn103:NowIs H103 (fun _ => False) x rl0 ba bc [] (stL N cur 0) := hn95.extP (M := fun _ => False) hx103.anyP (fun _ _ h => h) (fun _ h => h.elim)
 have hownF:∀ q,ownS x ba q→¬ F q := fun q hq => hF1 q (by have := ho95 q hq; omega)
 let M:Nat→Prop := fun q => ownS x ba q∨F q
 have hnM:∀ q,H.size≤q→¬ ownS x ba q→¬ M q := fun q h1 h2 h => h.elim h2 (hF1 q h1)
 have hno63:∀ q,q<H63.size→¬ ownS x ba q := fun q h1 h => by have := ho95 q h; omega
 have hno95:∀ q,H95.size≤q→¬ ownS x ba q := fun q h1 h => by have := hol95 q h; omega
 have kb1:∀ {K},ExtP M H103 K→Blk K b1 _ := fun hx => hb1_103.extP hx (hnM b1 (by omega) (hno63 b1 (by omega)))
 have kb3:∀ {K},ExtP M H103 K→Blk K b3 _ := fun hx => hb3_103.extP hx (hnM b3 (by omega) (hno63 b3 (by omega)))
 have kb38:∀ {K},ExtP M H103 K→Blk K b38 _ := fun hx => hb38_103.extP hx (hnM b38 (by omega) (hno63 b38 (by omega)))
 have kb101:∀ {K},ExtP M H103 K→Blk K b101 (rstV x) := fun hx => hb101.extP hx (hnM b101 (by omega) (hno95 b101 (by omega)))
 have hXH:∀ {K},ExtP M H103 K→ExtP F H K := fun hx => ((hX40.trans' hx63 (fun q hq => hq.elim .inr fun h => .inl (by omega))).trans hX103.anyP).trans' hx (fun q hq => hq.elim (fun h => .inl (by have := ho95 q h; omega)) .inr)
 have outE:∀ {K},ExtP M H103 K→JD K F pj pd J D→(∀ st,¬ LoadOk N cur st)→OutT K b1 b3 b38 b101 2 (LoadR N cur H F pj pd J D) := fun {K} hx hJK hno =>
  outT (kb1 hx) rfl (kb3 hx) rfl (kb38 hx) (kb101 hx) (by omega) (by omega) fun K' hk => ⟨(hXH hx).trans' hk (fun q hq => .inl (by omega)),hJK.ext hk (fun q hq h => hF1 q (by omega) hq),_,_,_,_,_,_,_,_,_,_,rfl,.inr ⟨rfl,hno⟩⟩
 have hsn:(headN cur).toNat=s := by omega
 have hxns:x.n=s := by rw [hxn,hsn]
 have hrow:∀ {K},ExtP M H103 K→SRow K 1 (catP cur k).length (.slice a59 (catP cur k).length c61) (bytesV (catP cur k)) := fun hx => ((ho59.row _ _).ext hX103 (by simp)).extP hx (fun q hq => hnM q (by have := hf59 q hq; omega) (hno63 q (ho59.lt q hq)))
 have hcap := ho59.2.1
 have hMo:∀ {A B:Heap},ExtP (ownS x ba) A B→ExtP M A B := fun h => h.mono fun _ _ h => .inl h
 have hJo:∀ {A B:Heap},JD A F pj pd J D→ExtP (ownS x ba) A B→JD B F pj pd J D := fun hJ h => hJ.ext h (fun q hq h => hownF q h hq)
 refine ⟨bitsN N,by rw [hb38_103.cell]; rfl,by unfold In64; omega,by unfold In64; omega,x.a,x.n,x.c,by rw [hb101.cell]; rfl,?_⟩
 refine ⟨fun i K => ∃ j:Nat,i=j∧j≤s∧ExtP (ownS x ba) H103 K∧∃ rl Fd,(∀ q,Fd q→H103.size≤q∧q<K.size)∧NowIs K Fd x rl ba bc [] (stL N cur j)∧(∀ i,i<j→readOk (firstN N (headN cur)) N (pieceO N cur i))∧(allBlk (slotsL N cur j)).Nodup,fun i _ => (s - i).toNat,⟨0,rfl,Nat.zero_le _,ExtP.refl _ _,rl0,_,fun q hq => hq.elim,hn103,fun i hi => by omega,by simp [slotsL,allBlk]⟩,?_⟩
 rintro _ H111 ⟨j,rfl,hjs,hx111,rl,Fd,hFd,hn111,hread,hnod⟩
 have z111 := hx111.size
 rw [hxns]
 refine ⟨fun hlt => ?_,fun hge => ?_⟩
 ·have hj':j<s := by omega
  have hjh:(j:Int)<headN cur := by omega
  obtain ⟨hp32,hpin⟩ := pieceO_length hl hroom hgood hjh
  rw [hf,Int.toNat_natCast] at hpin
  have hx111M := hMo hx111
  have h38 := kb38 hx111M
  obtain ⟨o,ho⟩:∃ o,o=((1+bitsN N)*128).toNat+j*32 := ⟨_,rfl⟩
  have eo:(((1+bitsN N)*128)+((j:Int)*32)).toNat=o := by omega
  have eh:(((1+bitsN N)*128)+(((j:Int)+1)*32)).toNat=o+32 := by omega
  have hpO:pieceO N cur j=((catP cur k).drop o).take 32 := by unfold pieceO; rw [hf,Int.toNat_natCast,ho]
  have hprow:SRow H111 1 (pieceO N cur j).length (.slice (a59.map (·.add o)) (pieceO N cur j).length (c61 - o)) (bytesV (pieceO N cur j)) := by
   rw [hp32,hpO]
   exact srow_sub (hrow hx111M) (by omega)
  obtain ⟨t1,t2,t3,t4,t5,t6⟩ := parse_ok (pieceO N cur j)
  refine ⟨fun p t K => ∃ b a n c,p=some ⟨b,0,none⟩∧t=decP (readOk (firstN N (headN cur)) N (pieceO N cur j))∧Blk K b [.int .i64 (parseSl (pieceO N cur j)).size,.int .i64 (parseSl (pieceO N cur j)).refs,.slice a n c]∧Pcs K a n (parseSl (pieceO N cur j)).ps∧n≤c∧(∀ q∈blkOf a,H111.size≤q∧q<K.size)∧Ext [] H111 K∧H111.size≤b,
   ⟨_,by rw [h38.cell]; rfl,_,by rw [h38.cell]; rfl,_,by rw [h38.cell]; rfl,_,by rw [h38.cell]; rfl,by unfold In64; omega,by unfold In64; omega,by unfold In64; omega,by unfold In64; omega,by unfold In64; omega,by omega,by omega,by omega,?_⟩,?_⟩
  ·intro a117 ha117
   rw [eo,if_neg (by omega)] at ha117
   have ha117:a117=a59.map (·.add o) := by rw [ha117]; simp
   subst ha117
   rw [eo,eh,show o+32 - o=(pieceO N cur j).length by rw [hp32]; omega]
   refine ⟨?_,?_⟩
   ·refine (read_slot_ok hprow (by omega) (by omega) (by omega) (by omega)).mono ?_
    rintro _ H119 ⟨a,n,c,rfl,hpc,hnc,hfa,hx119⟩
    refine ⟨_,_,_,_,_,_,rfl,fun b126 H127 hn126 => ?_⟩
    have h38' := (h38.ext hx119 (by simp)).ext hn126.ext (by simp)
    refine ⟨⟨by rw [h38'.cell]; rfl,by rw [h38'.cell]; rfl,by rw [h38'.cell]; rfl,by rw [h38'.cell]; rfl,trivial⟩,hn126.blk.cells _ _ (by simp),fun H128 hp126 => ?_⟩
    obtain ⟨hb126,hx128,e126,z128⟩ := new_put hn126 hp126 rfl
    have z119 := hx119.size
    exact ⟨b126,a,n,c,rfl,rfl,hb126,hpc.ext hx128 (by simp),hnc,fun q hq => by have := hfa q hq; omega,hx119.trans' hx128 (by simp),by omega⟩
   ·intro b129 H130 hn129
    have hx130 := hn129.ext
    have e129 := hn129.eq
    have z130 := hn129.size
    have h38' := h38.ext hx130 (by simp)
    refine ⟨⟨by rw [h38'.cell]; rfl,by rw [h38'.cell]; rfl,by rw [h38'.cell]; rfl,by rw [h38'.cell]; rfl,trivial⟩,(read_slot_ok (hprow.ext hx130 (by simp)) (by omega) (by omega) (by omega) (by omega)).mono ?_⟩
    rintro _ H132 ⟨a,n,c,rfl,hpc,hnc,hfa,hx132⟩
    have hb132 := hn129.blk.ext hx132 (by simp)
    have z132 := hx132.size
    refine ⟨_,_,_,_,_,_,rfl,hb132.cells _ _ (by simp),fun H139 hp129 => ?_⟩
    have hb139 := hp129.blk hb132 (by simp)
    have hx139 := hp129.ext
    have z139 := hx139.size
    exact ⟨b129,a,n,c,rfl,rfl,hb139,hpc.ext hx139 (fun q hq => by have := hfa q hq; simp; omega),hnc,fun q hq => by have := hfa q hq; omega,(hx130.trans' hx132 (by simp)).trans' hx139 (fun i hi => by simp only [List.mem_singleton] at hi; omega),by omega⟩
  ·rintro p140 t141 H142 ⟨b126,a,n,c,rfl,rfl,hb126,hpc,hnc,hfa,hx142,hb126g⟩
   have z142 := hx142.size
   have hx142M:ExtP M H103 H142 := hx111M.trans hx142.anyP
   have hJ142 := (hJo hJ103 hx111).ext (M := fun _ => False) hx142.anyP (fun _ _ h => h)
   refine ⟨fun hf => ?_,fun ht => ?_⟩
   ·refine outE hx142M hJ142 fun st h => ?_
    have := h.right j hjh
    rw [← decP_true this] at hf
    cases hf
   have hok:readOk (firstN N (headN cur)) N (pieceO N cur j) := by
    apply Classical.byContradiction
    intro hno
    exact ht (decP_false hno).symm
   have h101 := kb101 hx142M
   have hn142 := hn111.extP (M := fun _ => False) hx142.anyP (fun _ _ h => h) (fun _ _ h => h)
   have hnl:x.n=rl.length := hn142.num.symm
   obtain ⟨sb,hsb⟩ := hn142.head (by omega)
   have hjr:j<rl.length := by omega
   have hrj:rl[j]?=some rl[j] := List.getElem?_eq_getElem hjr
   have hsbo:ownS x ba sb := .inl (by rw [hsb]; simp [blkOf])
   have hob:∀ q,H103.size≤q→¬ ownS x ba q := fun q hq => hno95 q (by omega)
   have hFd2:∀ q,ownS x ba q→¬ (Fd q∨(H111.size≤q∧q<H142.size)) := fun q hq h => h.elim (fun h => hob q (hFd q h).1 hq) fun h => hob q (by omega) hq
   have hn142' := hn142.up (Fd' := fun q => Fd q∨(H111.size≤q∧q<H142.size)) (fun q hq => .inl hq) hFd2
   refine ⟨x.a,x.n,x.c,by rw [h101.cell]; rfl,?_⟩
   refine ⟨_,by rw [hb126.cell]; rfl,_,by rw [hb126.cell]; rfl,a,n,c,by rw [hb126.cell]; rfl,by omega,by omega,sb,0,hsb,?_,fun H175 hp175 => ?_⟩
   ·have := hn142.own
    rw [hsb] at this
    rcases this.2.2.2 with ⟨e,_⟩ | ⟨bq,tl,e,hbq,hlq⟩
    ·cases e
    ·cases e
     refine hbq.cells 3 (0+j*3) ?_
     rw [List.length_append,rslsV_length]; omega
   rw [Int.toNat_natCast,Nat.zero_add] at hp175
   obtain ⟨hn175,hx175⟩ := hn142'.setSlot (r' := ⟨(parseSl (pieceO N cur j)).size,(parseSl (pieceO N cur j)).refs,a,n,c⟩) (s' := parseSl (pieceO N cur j)) hsb hrj (j := 0) (vs := [.int .i64 (parseSl (pieceO N cur j)).size,.int .i64 (parseSl (pieceO N cur j)).refs,.slice a n c]) (by simp) rfl hp175 ⟨rfl,rfl,hpc,hnc,fun q hq => .inr (hfa q hq)⟩
   have z175 := hp175.size
   rw [stL_set (by omega)] at hn175
   have hx175o:ExtP (ownS x ba) H142 H175 := hx175.mono fun q _ h => .inl h
   have hb126_175 := hb126.extP hx175o (hob b126 (by omega))
   refine ⟨a,n,c,by rw [hb126_175.cell]; rfl,?_⟩
   let L := allBlk (slotsL N cur j)
   let ps := (parseSl (pieceO N cur j)).ps
   let rl' := rl.set j ⟨(parseSl (pieceO N cur j)).size,(parseSl (pieceO N cur j)).refs,a,n,c⟩
   let Fd':Nat→Prop := fun q => Fd q∨(H111.size≤q∧q<H142.size)
   let stM:List Int→PSt := fun l => { slots := (stL N cur (j+1)).slots,bits := setAll (firstB N (firstN N (headN cur))) l true,data := fun _ => none }
   have hlen:ps.length=n := hpc.leng
   have hps6:ps.length≤6 := t1
   have hpsr:∀ y∈blocksI ps,firstN N (headN cur)≤y∧y<(N:Int) := readOk_range hok
   have hLr:∀ y∈L,firstN N (headN cur)≤y∧y<(N:Int) := fun y hy => by
    obtain ⟨i,hi,hy⟩ := mem_allBlk_slotsL hy
    exact readOk_range (hread i hi) y hy
   have hnew:allBlk (slotsL N cur (j+1))=L++blocksI ps := by rw [slotsL_succ,allBlk_append,allBlk_one]
   have hnoN:∀ l r:List Int,L++blocksI ps=l++r→¬ l.Nodup→∀ st,¬ LoadOk N cur st := fun l r e hl st h => by
    have h1 := h.once
    rw [h.slots,hsn] at h1
    obtain ⟨r2,hr2⟩ := allBlk_prefix (N := N) (cur := cur) (show j+1≤s by omega)
    rw [hr2,hnew,e,List.append_assoc] at h1
    exact hl (h1.sublist (List.sublist_append_left _ _))
   have hn175s:NowIs H175 Fd' x rl' ba bc [] (stM (L++blocksI (ps.take 0))) := by
    simp only [List.take_zero,blocksI,List.map_nil,List.flatten_nil,List.append_nil]
    exact hn175
   refine ⟨fun i K => ∃ m:Nat,i=m∧m≤ps.length∧ExtP (ownS x ba) H175 K∧NowIs K Fd' x rl' ba bc [] (stM (L++blocksI (ps.take m)))∧(L++blocksI (ps.take m)).Nodup,fun i _ => (ps.length - i).toNat,⟨0,rfl,Nat.zero_le _,ExtP.refl _ _,hn175s,by simpa [blocksI] using hnod⟩,?_⟩
   rintro _ H184 ⟨m,rfl,hm,hx184,hn184,hnod184⟩
   have z184 := hx184.size
   have haO:∀ q∈blkOf a,¬ ownS x ba q := fun q hq => hob q (by have := hfa q hq; omega)
   have hpc184:Pcs H184 a n ps := Pcs.extP' (Pcs.extP' hpc hx175o haO) hx184 haO
   refine ⟨fun hlt2 => ?_,fun hge2 => ?_⟩
   ·have hm':m<ps.length := by omega
    obtain ⟨b,o2,ha,c0,c1⟩ := hpc184.get m ps[m] (List.getElem?_eq_getElem hm')
    have hpm := List.getElem?_eq_getElem hm'
    obtain ⟨pcs,hpcs⟩:∃ pc,pc=ps[m] := ⟨_,rfl⟩
    rw [← hpcs] at c0 c1 hpm
    obtain ⟨v1,v2,v3,v4⟩ := t6 pcs (List.mem_of_getElem? hpm)
    refine ⟨by omega,by omega,b,o2,ha,_,c0,_,c1,fun b189 H190 hn189 => ⟨hn189.blk.cells _ _ (by simp),fun H191 hp189 => ?_⟩⟩
    obtain ⟨hb189,hx191,e189,z191⟩ := new_put hn189 hp189 rfl
    have hb189o := hob b189 (by omega)
    have hn191 := hn184.extP (M := fun _ => False) hx191.anyP (fun _ _ h => h) (fun _ _ h => h)
    refine ⟨pcs.c,by rw [hb189.cell]; rfl,?_⟩
    refine ⟨fun i K => ∃ u:Nat,i=u∧u≤pcs.c.toNat∧ExtP (ownS x ba) H191 K∧NowIs K Fd' x rl' ba bc [] (stM ((L++blocksI (ps.take m))++(blkI pcs).take u))∧((L++blocksI (ps.take m))++(blkI pcs).take u).Nodup,fun i _ => (pcs.c - i).toNat,⟨0,rfl,Nat.zero_le _,ExtP.refl _ _,by rw [List.take_zero,List.append_nil]; exact hn191,by rw [List.take_zero,List.append_nil]; exact hnod184⟩,?_⟩
    rintro _ H196 ⟨u,rfl,hu,hx196,hn196,hnod196⟩
    have z196 := hx196.size
    refine ⟨fun hlt3 => ?_,fun hge3 => ?_⟩
    ·have hX196:ExtP (ownS x ba) H103 H196 := ((((hx111.trans hx142.anyP).trans hx175o).trans hx184).trans hx191.anyP).trans hx196
     have h101' := kb101 (hMo hX196)
     have hb189' := hb189.extP hx196 hb189o
     have hbt := blkI_take (p := pcs) (n := u) (by omega)
     have hpre:∃ r,L++blocksI ps=(((L++blocksI (ps.take m))++(blkI pcs).take u)++[pcs.s+(u:Int)])++r := by
      obtain ⟨r1,hr1⟩ := blocksI_pre (l := ps) (j := m+1)
      rw [blocksI_take hpm] at hr1
      refine ⟨(blkI pcs).drop (u+1)++r1,?_⟩
      rw [hr1]
      conv => lhs; rw [← List.take_append_drop (u+1) (blkI pcs),hbt]
      simp [List.append_assoc]
     have hbIn:pcs.s+(u:Int)∈blocksI ps := mem_blocksI_of (List.mem_of_getElem? hpm) ⟨by omega,by omega⟩
     have hbR := hpsr _ hbIn
     have hLr2:∀ y∈(L++blocksI (ps.take m))++(blkI pcs).take u,firstN N (headN cur)≤y∧y<(N:Int) := fun y hy => by
      obtain ⟨r,hr⟩ := hpre
      have:y∈L++blocksI ps := by rw [hr]; simp only [List.mem_append] at hy ⊢; exact .inl (.inl hy)
      rcases List.mem_append.1 this with h | h
      ·exact hLr y h
      ·exact hpsr y h
     have hoff := next_off (N := (N:Int)) (f := firstN N (headN cur)) (by omega) (by omega) hLr2 hbR
     refine ⟨some ⟨x.tb,0,none⟩,by rw [h101'.cell]; rfl,pcs.s,by rw [hb189'.cell]; rfl,by unfold In64; omega,(setb2_ok hn196.bits (pcs.s+(u:Int)) true).mono ?_⟩
     rintro _ H200 ⟨⟨t,rfl,hti⟩,hB200,hx200⟩
     have z200 := hx200.size
     have hx200o:ExtP (ownS x ba) H196 H200 := hx200.lift fun q _ hq => .inr (.inr (.inl hq))
     refine ⟨t,rfl,fun hf => ?_,fun ht => ?_⟩
     ·obtain ⟨r,hr⟩ := hpre
      refine outE (hMo (hX196.trans hx200o)) (hJo (hJo hJ103 hX196) hx200o) (hnoN _ _ hr fun hN2 => ?_)
      have h1:pcs.s+(u:Int)∉(L++blocksI (ps.take m))++(blkI pcs).take u := by
       rw [List.nodup_append] at hN2
       exact fun hm => hN2.2.2 _ hm _ (by simp) rfl
      rw [hti.2 (hoff.2 h1)] at hf
      cases hf
     ·have htt:t=true := by cases t with | true => rfl | false => exact absurd rfl ht
      have h1 := hoff.1 (hti.1 htt)
      refine ⟨by unfold In64; omega,⟨u+1,by omega,by omega,hx196.trans hx200o,?_,?_⟩,by simp only; omega⟩
      ·have := hn196.setBits hx200 hB200
       rw [hbt,← List.append_assoc]
       have e:setAll (firstB N (firstN N (headN cur))) (((L++blocksI (ps.take m))++(blkI pcs).take u)++[pcs.s+(u:Int)]) true=setB (setAll (firstB N (firstN N (headN cur))) ((L++blocksI (ps.take m))++(blkI pcs).take u) true) (pcs.s+(u:Int)) true := by rw [setAll_append]; rfl
       show NowIs H200 Fd' x rl' ba bc [] { slots := _,bits := setAll _ (((L++blocksI (ps.take m))++(blkI pcs).take u)++[pcs.s+(u:Int)]) true,data := _ }
       rw [e]
       exact this
      ·rw [hbt,← List.append_assoc,List.nodup_append]
       exact ⟨hnod196,by simp,fun y hy z hz e => by simp only [List.mem_singleton] at hz; rw [e,hz] at hy; exact h1 hy⟩
    ·have hu':u=pcs.c.toNat := by omega
     have hlb := blkI_len pcs
     rw [List.take_of_length_le (l := blkI pcs) (by omega)] at hn196 hnod196
     refine ⟨by unfold In64; omega,⟨m+1,by omega,by omega,(hx184.trans hx191.anyP).trans hx196,?_,?_⟩,by simp only; omega⟩
     ·rw [blocksI_take hpm,← List.append_assoc]; exact hn196
     ·rw [blocksI_take hpm,← List.append_assoc]; exact hnod196
   ·have hm':m=ps.length := by omega
    subst hm'
    rw [List.take_length,← hnew] at hn184 hnod184
    refine ⟨by unfold In64; omega,⟨j+1,by omega,by omega,((hx111.trans hx142.anyP).trans hx175o).trans hx184,rl',Fd',fun q hq => ?_,hn184,fun i hi => ?_,hnod184⟩,by simp only; omega⟩
    ·rcases hq with hq | hq
     ·have := hFd q hq; omega
     ·omega
    ·by_cases e:i=j
     ·subst e; exact hok
     ·exact hread i (by omega)
 ·have hjs':j=s := by omega
  subst hjs'
  have hx111M := hMo hx111
  have h38 := kb38 hx111M
  have h101 := kb101 hx111M
  have hsl:(stL N cur j).slots=slotsL N cur j := by simp [stL,hsn]
  have hbl:(stL N cur j).bits.length=N := by simp only [stL]; rw [setAll_length,firstB_length,hhN]
  refine ⟨_,by rw [h38.cell]; rfl,_,by rw [h38.cell]; rfl,_,by rw [h38.cell]; rfl,_,by rw [h38.cell]; rfl,_,_,_,by rw [h101.cell]; rfl,_,by rw [h101.cell]; rfl,_,by rw [h101.cell]; rfl,(fixed_ok hn111 (by omega) (by omega) (fun sl hs => ?_) (N:Int) (headN cur) (bitsN N) (firstN N (headN cur))).mono ?_⟩
  ·rw [hsl] at hs
   simp only [slotsL,List.mem_map] at hs
   obtain ⟨i,_,rfl⟩ := hs
   exact parse_ok _
  rintro _ H232 ⟨xs,hxs,⟨kk,ra,rc,vs,rfl,hrr⟩,hx232⟩
  have hfl:(fixO (headN cur) xs (stL N cur j).slots).length≤1000000 := by
   have h1 := hxs.len
   have h2 := padO_length (beU 2 (w64 (headN cur)))
   have h3 := padO_length xs
   have h4 := padO_length ((stL N cur j).slots.map slotO).flatten
   have h5 := slotOs_length (l := (stL N cur j).slots) (fun sl hs => by
    rw [hsl] at hs
    simp only [slotsL,List.mem_map] at hs
    obtain ⟨i,_,rfl⟩ := hs
    exact parse_ok _)
   have h6:(stL N cur j).slots.length=j := by rw [hsl,slotsL_length]
   have h7:(beU 2 (w64 (headN cur))).length=2 := beU_len _ _
   unfold fixO
   rw [List.length_append,List.length_append,h2,h3,h4,h5,h6,h7]
   omega
  refine ⟨_,_,_,rfl,(concatR_ok ⟨kk,ra,rc,vs,rfl,hrr⟩ (by omega)).mono ?_⟩
  rintro _ H237 ⟨⟨a238,c240,rfl,ho238,hf238⟩,hx237⟩
  have hx37:Ext [] H111 H237 := hx232.trans' hx237 (by simp)
  have hx237M:ExtP M H103 H237 := hx111M.trans hx37.anyP
  refine ⟨_,_,_,rfl,(eqB_ok2 (by omega) (ho238.row _ _) (hrow hx237M)).mono ?_⟩
  rintro _ H242 ⟨rfl,rfl⟩
  have hJ237 := (hJo hJ103 hx111).ext (M := fun _ => False) hx37.anyP (fun _ _ h => h)
  have hbs:∀ st,LoadOk N cur st→st.slots=(stL N cur j).slots∧st.bits=(stL N cur j).bits := fun st h => by
   have h1 := h.slots
   have h2 := h.bits
   rw [hsn] at h1
   rw [h1] at h2
   exact ⟨by rw [h1,hsl],h2⟩
  refine ⟨_,rfl,fun hff => ?_,fun ht => ?_⟩
  ·refine outE hx237M hJ237 fun st h => ?_
   have hne:¬ fixO (headN cur) xs (stL N cur j).slots=catP cur k := of_decide_eq_false hff
   obtain ⟨e1,e2⟩ := hbs st h
   have := h.fix xs (by rw [e2]; exact hxs)
   rw [e1,hf,Int.toNat_natCast] at this
   exact hne this
  have hfix:fixO (headN cur) xs (stL N cur j).slots=catP cur k := by
   apply Classical.byContradiction
   intro hno
   exact ht (decide_eq_false hno)
  have hn237 := hn111.extP (M := fun _ => False) hx37.anyP (fun _ _ h => h) (fun _ _ h => h)
  have h38' := kb38 hx237M
  have z37 := hx37.size
  let dataK:Nat→Int→Option Octs := fun m i => if firstN N (headN cur)≤i∧i<(m:Int)∧onB (stL N cur j).bits i.toNat=true then some (cur i.toNat) else none
  have hd0:NowIs H237 Fd x rl ba bc [] { stL N cur j with data := dataK k } := by
   have e:dataK k=(stL N cur j).data := by
    funext i
    exact if_neg (fun h => by have := h.1; have := h.2.1; omega)
   rw [e]
   exact hn237
  refine ⟨firstN N (headN cur),by rw [h38'.cell]; rfl,fun e i K => e=0∧∃ m:Nat,i=m∧k≤m∧m≤N∧ExtP M H103 K∧JD K F pj pd J D∧∃ Fd' ml,(∀ q,Fd' q→H103.size≤q∧q<K.size)∧NowIs K Fd' x rl ba bc ml { stL N cur j with data := dataK m },fun _ i _ => (N - i).toNat,⟨rfl,k,hf,Nat.le_refl _,by omega,hx237M,hJ237,Fd,[],fun q hq => by have := hFd q hq; omega,hd0⟩,?_⟩
  rintro _ _ H269 ⟨rfl,m,rfl,hkm,hmN,hx269,hJ269,Fd',ml,hFd',hn269⟩
  have z269 := hx269.size
  have h38'' := kb38 hx269
  have h101'' := kb101 hx269
  refine ⟨(N:Int),by rw [h38''.cell]; rfl,fun hlt => ?_,fun hge => ?_⟩
  ·have hm':m<N := by omega
   refine ⟨some ⟨x.tb,0,none⟩,by rw [h101''.cell]; rfl,(getbm_ok hn269.bits (m:Int)).mono ?_⟩
   rintro _ _ ⟨rfl,rfl⟩
   refine ⟨_,rfl,fun hon => ?_,fun hoff => ?_⟩
   ·have hon':onB (stL N cur j).bits m=true := by
     simp only [Int.toNat_natCast,Bool.and_eq_true,decide_eq_true_eq] at hon
     exact hon.2.2
    refine ⟨some x.mb,by rw [h101''.cell]; rfl,(rd H269 hJ269 m hm').mono ?_⟩
    rintro _ H277 ⟨a278,c280,rfl,ho278,hf278,hJ277,hx277⟩
    have z277 := hx277.size
    have hx277M:ExtP M H103 H277 := hx269.trans (hx277.mono fun _ _ h => .inr h)
    have h101c := kb101 hx277M
    have hFdF:∀ q,Fd' q→¬ F q := fun q hq => hF1 q (by have := hFd' q hq; omega)
    have hn277 := (hn269.extP hx277 hownF hFdF).up (Fd' := fun q => Fd' q∨(H269.size≤q∧q<H277.size)) (fun q hq => .inl hq) (fun q hq h => h.elim (fun h => hno95 q (by have := hFd' q h; omega) hq) fun h => hno95 q (by omega) hq)
    have hmb:ownS x ba x.mb := .inr (.inr (.inr rfl))
    have hl128 := hl m hm'
    refine ⟨_,_,_,_,rfl,⟨by rw [h101c.cell]; rfl,trivial⟩,x.mb,ml,rfl,hn277.map,fun H284 hp284 => ?_⟩
    have hrw:SRow H277 1 128 (.slice a278 128 c280) (bytesV (cur m)) := by have := ho278.row (cur m).length c280; rw [hl128] at this; exact this
    rw [hl128] at hp284
    obtain ⟨hn284,hx284⟩ := hn277.setData (o := cur m) hl128 hrw (fun q hq => .inr ⟨hf278 q hq,ho278.lt q hq⟩) hp284
    have hx284o:ExtP (ownS x ba) H277 H284 := hx284.lift fun q _ hq => by simp only [List.mem_singleton] at hq; rw [hq]; exact hmb
    have z284 := hx284.size
    refine ⟨fun h => absurd rfl h,fun _ => ⟨by unfold In64; omega,⟨rfl,m+1,by omega,by omega,by omega,hx277M.trans (hMo hx284o),hJo hJ277 hx284o,(fun q => Fd' q∨(H269.size≤q∧q<H277.size)),mapSet ml (m:Int) (.slice a278 128 c280),fun q hq => ?_,?_⟩,by simp only; omega⟩⟩
    ·rcases hq with hq | hq
     ·have := hFd' q hq; omega
     ·omega
    ·have e:dataK (m+1)=fun i => if i=(m:Int) then some (cur m) else dataK m i := by
      funext i
      simp only [dataK]
      by_cases e:i=(m:Int)
      ·subst e
       rw [if_pos ⟨by omega,by omega,by simpa using hon'⟩,if_pos rfl,Int.toNat_natCast]
      ·rw [if_neg e]
       by_cases h1:firstN N (headN cur)≤i∧i<(m:Int)∧onB (stL N cur j).bits i.toNat=true
       ·rw [if_pos h1,if_pos ⟨h1.1,by omega,h1.2.2⟩]
       ·rw [if_neg h1,if_neg (fun h => h1 ⟨h.1,by omega,h.2.2⟩)]
     rw [e]
     exact hn284
   ·have hoff':¬ onB (stL N cur j).bits m=true := fun h => by
     have h1:(decide (0≤(m:Int)) && (decide ((m:Int)<((stL N cur j).bits.length:Int)) && onB (stL N cur j).bits ((m:Int)).toNat))=true := by
      rw [hbl]
      simp only [Int.toNat_natCast,Bool.and_eq_true,decide_eq_true_eq]
      exact ⟨by omega,by omega,h⟩
     rw [h1] at hoff
     cases hoff
    refine ⟨by unfold In64; omega,⟨rfl,m+1,by omega,by omega,by omega,hx269,hJ269,Fd',ml,hFd',?_⟩,by simp only; omega⟩
    have e:dataK (m+1)=dataK m := by
     funext i
     simp only [dataK]
     by_cases h1:firstN N (headN cur)≤i∧i<(m:Int)∧onB (stL N cur j).bits i.toNat=true
     ·rw [if_pos h1,if_pos ⟨h1.1,by omega,h1.2.2⟩]
     ·rw [if_neg h1,if_neg (fun h => h1 ⟨h.1,by
       have:¬ i=(m:Int) := fun e => hoff' (by rw [← Int.toNat_natCast m,← e]; exact h.2.2)
       omega,h.2.2⟩)]
    rw [e]
    exact hn269
  ·have hm':m=N := by omega
   subst hm'
   refine outT (kb1 hx269) rfl (kb3 hx269) rfl (kb38 hx269) (kb101 hx269) (by omega) (by omega) fun K' hk => ?_
   have hbO:∀ q,q=b1∨q=b3→q<H63.size∧q<H103.size := fun q hq => by omega
   have hok:LoadOk m cur { stL m cur j with data := dataK m } := {
    good := hgood
    room := hroom
    slots := by rw [hsn]; exact hsl
    right := fun i hi => hread i (by omega)
    once := by show (allBlk (stL m cur j).slots).Nodup; rw [hsl]; exact hnod
    bits := by show (stL m cur j).bits=setAll _ (allBlk (stL m cur j).slots) true; rw [hsl]; rfl
    fix := fun ys hys => by
     have:xs=ys := hxs.one hys
     rw [← this,hf,Int.toNat_natCast]
     exact hfix
    data := rfl }
   refine ⟨(hXH hx269).trans' hk (fun q hq => .inl (by omega)),hJ269.ext hk (fun q hq h => hF1 q (by omega) hq),_,_,_,_,_,_,_,_,_,_,rfl,.inl ⟨rfl,x,rl,ba,bc,ml,Fd',_,hok,rfl,rfl,rfl,rfl,rfl,hn269.extP hk (fun q hq h => hno63 q (hbO q h).1 hq) (fun q hq h => by have := hFd' q hq; have := hbO q h; omega),fun q hq => ?_,hxn⟩⟩
   have zk := hk.size
   rcases hq with hq | hq
   ·have := hol95 q hq; have := ho95 q hq; omega
   ·have := hFd' q hq; omega
end Go.Proofs
end

section
open Go Go.Vc Go.Proofs.Bx
namespace Go.Proofs
def Reads (pj pd:Nat) (F:Nat→Prop) (J:Jn) (D:Dev) (N:Nat) (cur:Nat→Octs):Prop :=
 (∀ K,JD K F pj pd J D→Does Tryz.prog 147 [.pointer (some ⟨pj,0,none⟩)] K fun v K' => v=.int .i64 (N:Int)∧K=K') ∧
 (∀ K,JD K F pj pd J D→∀ k:Nat,k<N→Does Tryz.prog 146 [.pointer (some ⟨pj,0,none⟩),.int .i64 k] K fun v K' => ∃ a c,v=.tuple #[.slice a (cur k).length c,.int .i64 0]∧Own K' 1 a (cur k).length c (bytesV (cur k))∧(∀ i∈blkOf a,K.size≤i)∧JD K' F pj pd J D∧ExtP F K K')
theorem reads_of {n B:Nat} {J:Jn} {D:Dev} {cur:Nat→Octs} {N:Nat} (hw:D.Wf n B) (hj:J.Wf n) (hn:n≤4096) (hN:homeN n J.h.size=N) (hr:∀ k:Nat,k<N→jreadM n k J D=(J,some (cur k),0)) (pj pd:Nat) (F:Nat→Prop):Reads pj pd F J D N cur := by
 refine ⟨fun K hK => ?_,fun K hK k hk => ?_⟩
 ·refine (jhome_ok hK hw).mono ?_
  rintro _ _ ⟨rfl,rfl⟩
  exact ⟨by rw [hN],rfl⟩
 ·refine (jread_ok hK hw hj hn k).mono ?_
  rintro _ K' ⟨a,c,hjd,hx,rfl,ho,hf⟩
  rw [hr k hk] at hjd ho ⊢
  exact ⟨a,c,rfl,ho,hf,hjd,hx⟩
theorem LiveA.reads {n z B:Nat} {J:Jn} {D:Dev} {cur:Nat→Octs} {S:(Nat→Octs)→Prop} (h:LiveA n z B J D cur S) (hw:D.Wf n B) (hj:J.Wf n) (pj pd:Nat) (F:Nat→Prop):Reads pj pd F J D (n - 1 - z) cur := by
 have hl := h.lays
 exact reads_of hw hj hl.2.1 (by rw [hl.2.2.2.2.2.2.2]; omega) (fun k hk => live_read h hk) pj pd F
theorem LoadOk.length {N:Nat} {cur:Nat→Octs} {st:PSt} (h:LoadOk N cur st):st.slots.length=(headN cur).toNat∧(headN cur).toNat≤256 := by
 have h0:¬ (headN cur<1∨256<headN cur∨(N:Int)<1) := h.good
 rw [h.slots,slotsL_length]
 omega
set_option maxRecDepth 100000 in
theorem openS_ok {H:Heap} {d:Option Addr} {R:Value→Heap→Prop}
  (ho:Does Tryz.prog 92 [.pointer d] H fun v H2 => (∃ e,e≠0∧v=.tuple #[.pointer none,.int .i64 e]∧R v H2) ∨
   ∃ pj pd F J D N cur,v=.tuple #[.pointer (some ⟨pj,0,none⟩),.int .i64 0]∧JD H2 F pj pd J D∧(∀ k,k<N→(cur k).length=128)∧0<N∧N≤4096∧Reads pj pd F J D N cur ∧
    (∀ H3,ExtP F H2 H3→JD H3 F pj pd J D→(∀ st,¬ LoadOk N cur st)→R (.tuple #[.pointer none,.int .i64 2]) H3) ∧
    (∀ H3 ps x y Fx Fy Fd st,LoadOk N cur st→ExtP F H2 H3→Sto H3 F Fx Fy Fd ps pj pd N (headN cur) (bitsN N) (firstN N (headN cur)) x y st st J D→(∀ q,Fx q∨Fy q∨Fd q∨q=ps→H2.size≤q)→R (.tuple #[.pointer (some ⟨ps,0,none⟩),.int .i64 0]) H3)) :
  Does Tryz.prog 27 [.pointer d] H R := by
 refine Fn_of_vc Tryz.mixed (OpenSV _ _ _) ?_
 refine ho.mono ?_
 rintro v H2 (⟨e,he,rfl,hr⟩ | ⟨pj,pd,F,J,D,N,cur,rfl,hJ,hl,hN0,hN,hrd,hbad,hok⟩)
 ·exact ⟨_,_,rfl,fun _ => hr,fun h => absurd he h⟩
 refine ⟨_,_,rfl,fun h => absurd rfl h,fun _ => (load_ok hJ hl hN0 hN hrd.1 hrd.2).mono ?_⟩
 rintro _ H6 ⟨hx6,hJ6,e,lh,ls,lb,lf,a,n,c,p,m,rfl,hcase⟩
 have hFl := hJ.lt
 have z6 := hx6.size
 refine ⟨_,_,_,_,_,_,_,_,_,_,rfl,fun b17 H18 hn17 b19 H20 hn19 => ?_⟩
 have e17 := hn17.eq; have e19 := hn19.eq
 have z18 := hn17.size; have z20 := hn19.size
 have hb17 := hn17.blk.ext hn19.ext (by simp)
 have hb19 := hn19.blk
 refine ⟨hb17.cells _ _ (by simp),fun H21 hp17 => ?_⟩
 have hb17':Blk H21 b17 [.int .i64 lh,.int .i64 ls,.int .i64 lb,.int .i64 lf] := hp17.blk hb17 (by simp)
 have hx21 := hp17.ext
 have hb19' := hb19.ext hx21 (by simp; omega)
 refine ⟨hb19'.cells _ _ (by simp),fun H22 hp19 => ?_⟩
 have hb19'':Blk H22 b19 [.slice a n c,.pointer p,.map m] := hp19.blk hb19' (by simp)
 have hx22 := hp19.ext
 have hb17'' := hb17'.ext hx22 (by simp; omega)
 have z21 := hx21.size; have z22 := hx22.size
 have hx622:Ext [] H6 H22 := ((hn17.ext.trans' hn19.ext (by simp)).trans' hx21 (fun i hi => .inl (by simp only [List.mem_singleton] at hi; omega))).trans' hx22 (fun i hi => .inl (by simp only [List.mem_singleton] at hi; omega))
 have hJ22:JD H22 F pj pd J D := hJ6.ext (M := fun _ => False) hx622.anyP (fun _ _ h => h)
 rcases hcase with ⟨rfl,x,rl,ba,bc,ml,Fd,st,hlo,rfl,rfl,rfl,rfl,hsv,hn6,hfr,hxn⟩ | ⟨rfl,hno⟩
 ·refine ⟨fun h => absurd rfl h,fun _ => ?_⟩
  simp only [stateV,Value.agg.injEq,Array.mk.injEq,List.cons.injEq,and_true,Value.slice.injEq,Value.pointer.injEq,Value.map.injEq] at hsv
  obtain ⟨⟨rfl,rfl,rfl⟩,rfl,rfl⟩ := hsv
  have hlen := hlo.length
  have hn22 := hn6.extP (M := fun _ => False) hx622.anyP (fun _ _ h => h) (fun _ _ h => h)
  refine ⟨_,by rw [hb17''.cell]; rfl,_,by rw [hb17''.cell]; rfl,_,by rw [hb17''.cell]; rfl,_,by rw [hb17''.cell]; rfl,_,_,_,by rw [hb19''.cell]; rfl,_,by rw [hb19''.cell]; rfl,_,by rw [hb19''.cell]; rfl,
   _,_,_,by rw [hb19''.cell]; rfl,_,by rw [hb19''.cell]; rfl,_,by rw [hb19''.cell]; rfl,(copied_ok hn22 (by omega) (fun q hq => by have := hfr q (.inr hq); omega)).mono ?_⟩
  rintro _ H38 ⟨y,ba',bc',ml',rfl,hy38,hx38,hfy,hyn⟩
  have hb17c := hb17''.ext hx38 (by simp)
  have hb19c := hb19''.ext hx38 (by simp)
  refine ⟨_,_,_,_,_,rfl,⟨by rw [hb19c.cell]; rfl,by rw [hb19c.cell]; rfl,by rw [hb19c.cell]; rfl,trivial⟩,⟨by rw [hb17c.cell]; rfl,by rw [hb17c.cell]; rfl,by rw [hb17c.cell]; rfl,by rw [hb17c.cell]; rfl,trivial⟩,fun b44 H45 hn44 => ?_⟩
  have hx45 := hn44.ext
  have e44 := hn44.eq
  have z38 := hx38.size; have z45 := hn44.size
  have hx2245:Ext [] H22 H45 := hx38.trans' hx45 (by simp)
  have hx245:ExtP F H2 H45 := (hx6.trans hx622.anyP).trans hx2245.anyP
  have hxl:∀ q,ownS x ba q→H2.size≤q∧q<H6.size := fun q hq => hfr q (.inl hq)
  have hdl:∀ q,Fd q→H2.size≤q∧q<H6.size := fun q hq => hfr q (.inr hq)
  have hyl := hy38.lt
  refine hok H45 b44 x y (ownS x ba) (ownS y ba') Fd st hlo hx245 ⟨hn44.blk,hJ22.ext (M := fun _ => False) hx2245.anyP (fun _ _ h => h),⟨rl,ba,bc,ml,hn22.extP (M := fun _ => False) hx2245.anyP (fun _ _ h => h) (fun _ _ h => h),fun _ => Iff.rfl⟩,
   ⟨rl,ba',bc',ml',hy38.extP (M := fun _ => False) hx45.anyP (fun _ _ h => h) (fun _ _ h => h),fun _ => Iff.rfl⟩,⟨fun h => by have := hFl _ h; omega,fun h => by have := hxl _ h; omega,fun h => by have := hyl _ h; omega,fun h => by have := hdl _ h; omega⟩,
   fun q hq => ⟨fun h => by have := hFl q hq; have := hxl q h; omega,fun h => by have := hFl q hq; have := hfy q h; omega,fun h => by have := hFl q hq; have := hdl q h; omega⟩,fun q hq h => by have := hxl q hq; have := hfy q h; omega,
   fun q hq h => by have := hfy q hq; have := hdl q h; omega,fun q hq => by have := hdl q hq; omega,⟨by omega,by omega⟩⟩ fun q hq => ?_
  rcases hq with hq | hq | hq | hq
  ·exact (hxl q hq).1
  ·have := hfy q hq; omega
  ·exact (hdl q hq).1
  ·omega
 ·exact ⟨fun _ => hbad H22 (hx6.trans hx622.anyP) hJ22 hno,fun h => absurd (by decide) h⟩
end Go.Proofs
end

section
open Go
namespace Go.Vc
def splitS:Nat→Code→Option (Code×Code)
 | 0,.seq a b => some (a,b)
 | n+1,.seq a b => match splitS n b with
  | some (x,y) => some (.seq a x,y)
  | none => none
 | _,_ => none
def dropN:Nat→Code→Code
 | 0,c => c
 | n+1,.seq _ b => dropN n b
 | _,c => c
def PartH (P:Program) (f i n:Nat) (S:Sym) (outs:List Nat) (H:Heap) (C R:Value→Heap→Prop):Prop :=
 match P.funcs[f]? with
 | none => False
 | some fn => match fn.body with
  | none => False
  | some c => match splitS n (dropN i c) with
   | none => False
   | some (c,_) => match compC P fn.ntmps (resSlots fn.results.toList) [] c,compRes P fn.results.toList with
    | some sc,some rs => WP P (Does P) (fun _ _ => False) sc ⟨fun S H => retK (tmpsR outs) C S H,fun _ _ _ => False,fun S H => retK rs R S H⟩ S H
    | _,_ => False
theorem ag_zip {N:Nat} {S:Sym} {a:Act} (ha:Ag N S a) (outs:List Nat):Ag N (outs.map fun t => (t,SV.v (a.tmps.getD t undef))) a := by
 refine ⟨ha.size,ha.defers,fun t s ht => ?_⟩
 induction outs with
 | nil => cases ht
 | cons x r ih =>
  rw [List.map_cons,get_cons] at ht
  split at ht
  ·rename_i e
   subst e
   cases ht
   rfl
  ·exact ih ht
theorem zip_map (g:Nat→Value):∀ l:List Nat,((l.zip (l.map g)).map fun x => (x.1,SV.v x.2))=l.map fun t => (t,SV.v (g t))
 | [] => rfl
 | t::r => by simp only [List.map_cons,List.zip_cons_cons]; rw [zip_map g r]
section
variable {P:Program} {N:Nat}
theorem head_sound (hm:P.follows .mixedOrders=true) {ex:List Nat} {K:Kont} {Q:Exit→Act→World→Prop} {w0:World} (hexit:∀ id S H,¬ K.exit id S H) (hret:∀ a' w',Sim w0 w'→(∃ S',Ag N S' a'∧K.ret S' w'.heap)→Q .ret a' w'):∀ (n:Nat) (c x y:Code),splitS n c=some (x,y)→∀ sc,compC P N ex [] x=some sc →
  ∀ S a w,Sim w0 w→Ag N S a→WP P (Does P) (fun _ _ => False) sc K S w.heap→(∀ S' a' w',Sim w0 w'→Ag N S' a'→K.norm S' w'.heap→y.wp P Q a' w')→c.wp P Q a w
 | 0,.seq c1 c2,x,y,hs,sc,hc,S,a,w,h0,ha,h,hk => by
  simp only [splitS,Option.some.injEq,Prod.mk.injEq] at hs
  obtain ⟨rfl,rfl⟩ := hs
  refine wp_seq (wp_mono (code_sound hm c1 sc hc K S a w ha h) ?_)
  intro e a' w' hq
  cases e with
  | normal =>
   obtain ⟨hf,hs,S',ha',hk'⟩ := hq
   exact hk S' a' w' (h0.trans hs) ha' hk'
  | exit id => obtain ⟨_,_,S',_,h'⟩ := hq; exact absurd h' (hexit _ _ _)
  | ret => obtain ⟨_,hs,S',ha',h'⟩ := hq; exact hret a' w' (h0.trans hs) ⟨S',ha',h'⟩
  | panic ch => obtain ⟨_,_,_,_,h'⟩ := hq; exact h'.elim
  | _ => exact hq.elim
 | n+1,.seq c1 c2,x,y,hs,sc,hc,S,a,w,h0,ha,h,hk => by
  simp only [splitS] at hs
  split at hs
  ·rename_i x' y' hs'
   simp only [Option.some.injEq,Prod.mk.injEq] at hs
   obtain ⟨rfl,rfl⟩ := hs
   simp only [compC] at hc
   split at hc
   ·rename_i sx sy h1 h2
    split at hc
    ·rename_i hcut
     unfold annOf at hcut
     split at hcut
     ·cases hcut
     ·cases hcut
    ·simp only [Option.some.injEq] at hc; subst hc
     simp only [WP] at h
     refine wp_seq (wp_mono (code_sound hm c1 sx h1 _ S a w ha h) ?_)
     intro e a' w' hq
     cases e with
     | normal =>
      obtain ⟨hf,hs,S',ha',hk'⟩ := hq
      exact head_sound hm hexit hret n c2 x' y' hs' sy h2 S' a' w' (h0.trans hs) ha' hk' hk
     | exit id => obtain ⟨_,_,S',_,h'⟩ := hq; exact absurd h' (hexit _ _ _)
     | ret => obtain ⟨_,hs,S',ha',h'⟩ := hq; exact hret a' w' (h0.trans hs) ⟨S',ha',h'⟩
     | panic ch => obtain ⟨_,_,_,_,h'⟩ := hq; exact h'.elim
     | _ => exact hq.elim
   ·cases hc
  ·cases hs
variable {f i n:Nat} {S:Sym} {outs:List Nat} {H:Heap} {C R:Value→Heap→Prop} {V:Prop} {fn:Func} {c0 x y:Code}
theorem partH_gen (hm:P.follows .mixedOrders=true) (e:PartH P f i n S outs H C R=V) (h:V) (hf:P.funcs[f]?=some fn) (hb:fn.body=some c0) (hc:splitS n (dropN i c0)=some (x,y)) {a:Act} {w w0:World} (h0:Sim w0 w) (ha:Ag fn.ntmps S a) (hw:w.heap=H) {Q:Exit→Act→World→Prop}
  (hret:∀ a' w' v,Sim w0 w'→a'.defers=[]→(results fn a'.tmps).run P w'=.ok v w'→R v w'.heap→Q .ret a' w')
  (hk:∀ vs a' w',vs.length=outs.length→Sim w0 w'→Ag fn.ntmps ((outs.zip vs).map fun x => (x.1,.v x.2)) a'→C (tupV vs) w'.heap→y.wp P Q a' w') :
  (dropN i c0).wp P Q a w := by
 rw [← e] at h
 unfold PartH at h
 rw [hf] at h
 simp only [hb,hc] at h
 split at h
 ·rename_i sc rs hsc hrs
  subst hw
  refine head_sound hm (w0 := w0) (K := ⟨fun S H => retK (tmpsR outs) C S H,fun _ _ _ => False,fun S H => retK rs R S H⟩) (fun _ _ _ h => h) ?_ n _ x y hc sc hsc S a w h0 ha h ?_
  ·rintro a' w' hs ⟨S',ha',hk'⟩
   obtain ⟨vs,h1,h2⟩ := res_sound (P := P) ha'.agree fn.results.toList rs _ hrs hk'
   refine hret a' w' (if h:vs.toArray.size=1 then vs.toArray[0] else .tuple vs.toArray) hs ha'.defers ?_ ?_
   ·rw [results_eq]
    have e:fn.results=fn.results.toList.toArray := by simp
    rw [e,List.mapM_toArray]
    simp only [Sem.run_bind,Sem.run_map,h1,Result.andThen_ok,Sem.run_pure]
   ·match vs,h2 with
    | [],h2 => exact h2
    | [v],h2 => exact h2
    | _::_::_,h2 => exact h2
  ·intro S' a' w' hs ha' hk'
   have h1 := resK_tmps ha'.agree outs _ hk'
   have h2 := ag_zip ha' outs
   have e3:((outs.zip (outs.map fun t => a'.tmps.getD t undef)).map fun x => (x.1,SV.v x.2))=outs.map fun t => (t,SV.v (a'.tmps.getD t undef)) := by
    exact zip_map _ _
   refine hk (outs.map fun t => a'.tmps.getD t undef) a' w' (by simp) hs (by rw [e3]; exact h2) ?_
   generalize (outs.map fun t => a'.tmps.getD t undef)=vs at h1
   match vs,h1 with
   | [],h1 => exact h1
   | [v],h1 => exact h1
   | _::_::_,h1 => exact h1
 ·exact h.elim
theorem tupV_many {vs:List Value} {l:List Value} (h:2≤vs.length) (e:tupV vs=.tuple l.toArray):vs=l := by
 match vs,h,e with
 | _::_::_,_,e => simpa [tupV] using e
end
end Go.Vc
end

section
open Go Go.Vc
namespace Go.Proofs
set_option maxRecDepth 100000
theorem FoA (x0:Option Addr) (x1:Int) (x2:Int) (H:Heap) (C R:Value→Heap→Prop):PartH Tryz.prog 40 0 3 [(0,.v (.pointer x0)),(1,.v (.int .i64 x1)),(2,.v (.int .i64 x2))] [0,1,6,7,8] H C R=(
 ∀ b1:Nat,∀ H2:Heap,New H b1 [(.int .i64 0)] 26 H2→(
 ((((x0:Option Addr)=none)→(
 Cells H2 b1 0 1∧∀ H3:Heap,Puts H2 b1 0 [(.int .i64 1)] H3→(
 ∃ n4:Int,hcell H3 b1 0=some (.int .i64 n4)∧(
 R (.int .i64 n4) H3))))∧(¬ ((x0:Option Addr)=none)→(
 ∀ b5:Nat,∀ H6:Heap,New H2 b5 [(.int .i64 0),(.int .i64 0),(.int .i64 0),(.int .i64 0)] 131 H6→(
 Cells H6 b5 0 4∧∀ H7:Heap,Puts H6 b5 0 [(.int .i64 0),(.int .i64 0),(.int .i64 0),(.int .i64 0)] H7→(
 ((((0:Int)≤x1)→(
 Does Tryz.prog 114 [(.pointer x0)] H7 fun v8 H9 => ∃ n10:Int,v8=(.int .i64 n10)∧(
 ((((x1:Int)<n10)→(
 Does Tryz.prog 114 [(.pointer x0)] H9 fun v11 H12 => ∃ n13:Int,v11=(.int .i64 n13)∧(
 (In64 (n13 - 1)) ∧
 (In64 ((n13 - 1) - x1)) ∧
 Does Tryz.prog 115 [(.int .i64 ((n13 - 1) - x1)),(.int .i64 x2)] H12 fun v14 H15 => ∃ n16:Int,∃ n17:Int,∃ n18:Int,∃ n19:Int,∃ t20:Bool,v14=(.tuple #[(.agg #[(.int .i64 n16),(.int .i64 n17),(.int .i64 n18),(.int .i64 n19)]),(.bool t20)])∧(
 Cells H15 b5 0 4∧∀ H21:Heap,Puts H15 b5 0 [(.int .i64 n16),(.int .i64 n17),(.int .i64 n18),(.int .i64 n19)] H21→(
 C (.tuple #[(.pointer x0),(.int .i64 x1),(.pointer (some (⟨b1,0,none⟩:Addr))),(.pointer (some (⟨b5,0,none⟩:Addr))),(.bool t20)]) H21)))))∧(¬ ((x1:Int)<n10)→(
 C (.tuple #[(.pointer x0),(.int .i64 x1),(.pointer (some (⟨b1,0,none⟩:Addr))),(.pointer (some (⟨b5,0,none⟩:Addr))),(.bool false)]) H9))))))∧(¬ ((0:Int)≤x1)→(
 C (.tuple #[(.pointer x0),(.int .i64 x1),(.pointer (some (⟨b1,0,none⟩:Addr))),(.pointer (some (⟨b5,0,none⟩:Addr))),(.bool false)]) H7)))))))))) := by kernel_rfl
theorem FoB (x0:Option Addr) (x1:Int) (p6:Nat) (p7:Nat) (x8:Bool) (H:Heap) (C R:Value→Heap→Prop):PartH Tryz.prog 40 4 7 [(0,.v (.pointer x0)),(1,.v (.int .i64 x1)),(6,.v (.pointer (some (⟨p6,0,none⟩:Addr)))),(7,.v (.pointer (some (⟨p7,0,none⟩:Addr)))),(8,.v (.bool x8))] [6,10,12,15] H C R=(
 (((x8=false)→(
 Cells H p6 0 1∧∀ H1:Heap,Puts H p6 0 [(.int .i64 1)] H1→(
 ∃ n2:Int,hcell H1 p6 0=some (.int .i64 n2)∧(
 R (.int .i64 n2) H1))))∧(¬ (x8=false)→(
 Does Tryz.prog 116 [(.pointer x0),(.int .i64 x1)] H fun v3 H4 => ∃ n5:Int,v3=(.int .i64 n5)∧(
 ((((n5:Int)≠0)→(
 Cells H4 p6 0 1∧∀ H6:Heap,Puts H4 p6 0 [(.int .i64 n5)] H6→(
 ∃ n7:Int,hcell H6 p6 0=some (.int .i64 n7)∧(
 R (.int .i64 n7) H6))))∧(¬ ((n5:Int)≠0)→(
 Does Tryz.prog 92 [(.pointer x0)] H4 fun v8 H9 => ∃ p10:Option Addr,∃ n11:Int,v8=(.tuple #[(.pointer p10),(.int .i64 n11)])∧(
 ∀ b12:Nat,∀ H13:Heap,New H9 b12 [(.pointer none)] 127 H13→(
 Cells H13 b12 0 1∧∀ H14:Heap,Puts H13 b12 0 [(.pointer p10)] H14→(
 ((((n11:Int)≠0)→(
 Cells H14 p6 0 1∧∀ H15:Heap,Puts H14 p6 0 [(.int .i64 n11)] H15→(
 ∃ n16:Int,hcell H15 p6 0=some (.int .i64 n16)∧(
 R (.int .i64 n16) H15))))∧(¬ ((n11:Int)≠0)→(
 ∃ n17:Int,hcell H14 p7 0=some (.int .i64 n17)∧(
 ∃ n18:Int,hcell H14 p7 (0+1)=some (.int .i64 n18)∧(
 ∃ n19:Int,hcell H14 p7 ((0+1)+1)=some (.int .i64 n19)∧(
 ∃ n20:Int,hcell H14 p7 (((0+1)+1)+1)=some (.int .i64 n20)∧(
 ∃ n21:Int,hcell H14 p7 0=some (.int .i64 n21)∧(
 ∃ n22:Int,hcell H14 p7 (0+1)=some (.int .i64 n22)∧(
 ∃ n23:Int,hcell H14 p7 ((0+1)+1)=some (.int .i64 n23)∧(
 ∃ n24:Int,hcell H14 p7 (((0+1)+1)+1)=some (.int .i64 n24)∧(
 Does Tryz.prog 118 [(.agg #[(.int .i64 n21),(.int .i64 n22),(.int .i64 n23),(.int .i64 n24)])] H14 fun v25 H26 => ∃ a27:Option Addr,∃ l28:Nat,∃ c29:Nat,∃ p30:Option Addr,∃ m31:Option Nat,v25=(.agg #[(.slice a27 l28 c29),(.pointer p30),(.map m31)])∧(
 isL H26 p7 0 [(.int .i64 n17),(.int .i64 n18),(.int .i64 n19),(.int .i64 n20)]∧(Does Tryz.prog 117 [(.agg #[(.int .i64 n17),(.int .i64 n18),(.int .i64 n19),(.int .i64 n20)]),(.agg #[(.slice a27 l28 c29),(.pointer p30),(.map m31)])] H26 fun v32 H33 => ∃ a34:Option Addr,∃ l35:Nat,∃ c36:Nat,v32=(.slice a34 l35 c36)∧(
 (∃ I37:Option Addr→Nat→Nat→Int→Heap→Prop,∃ μ38:Option Addr→Nat→Nat→Int→Heap→Nat,(I37 none 0 0 0 H33) ∧
 ∀ a39:Option Addr,∀ l40:Nat,∀ c41:Nat,∀ n42:Int,∀ H43:Heap,I37 a39 l40 c41 n42 H43→(
 ((((n42:Int)<(l35:Int))→(
 (0:Int)≤n42∧(n42:Int)<(l35:Int)∧∃ b44 o45:Nat,a34=some (⟨b44,o45,none⟩:Addr)∧(
 ∃ a46:Option Addr,∃ l47:Nat,∃ c48:Nat,hcell H43 b44 (o45+(Int.toNat n42))=some (.slice a46 l47 c48)∧(
 ∀ b49:Nat,∀ H50:Heap,New H43 b49 [(.int .i64 n42),(.slice a46 l47 c48)] 162 H50→(
 ∃ old51 new52:List Value,SRow H50 2 l40 (.slice a39 l40 c41) old51∧SRow H50 2 1 (.slice (some (⟨b49,0,none⟩:Addr)) 1 1) new52∧(∀ u∈new52,Value.oneCell' u=true)∧(l40+1)*32≤140737488355328∧(l40+1≤c41→roomOf H50 a39 (l40*2) (1*2))∧∀ a53:Option Addr,∀ c54:Nat,∀ H55:Heap,App H50 2 162 [(.int .i64 0),(.slice none 0 0)] a39 l40 c41 old51 new52 1 a53 c54 H55→(
 (In64 (n42+1)) ∧
 (I37 a53 (l40+1) c54 (n42+1) H55)∧μ38 a53 (l40+1) c54 (n42+1) H55<μ38 a39 l40 c41 n42 H43))))))∧(¬ ((n42:Int)<(l35:Int))→(
 Does Tryz.prog 119 [(.int .i64 (l40:Int))] H43 fun v56 H57 => ∃ n58:Int,v56=(.int .i64 n58)∧(
 ((((x1:Int)<n58)→(
 C (.tuple #[(.pointer (some (⟨p6,0,none⟩:Addr))),(.pointer (some (⟨b12,0,none⟩:Addr))),(.slice a39 l40 c41),(.int .i64 1)]) H57))∧(¬ ((x1:Int)<n58)→(
 C (.tuple #[(.pointer (some (⟨p6,0,none⟩:Addr))),(.pointer (some (⟨b12,0,none⟩:Addr))),(.slice a39 l40 c41),(.int .i64 (l40:Int))]) H57)))))))))))))))))))))))))))))))))) := by kernel_rfl
theorem Fo23 (x12:Option Addr) (x12l:Nat) (x12c:Nat) (x15:Int) (H:Heap) (R:Value→Heap→Prop):Part Tryz.prog 40 23 [(12,.v (.slice x12 x12l x12c)),(15,.v (.int .i64 x15))] [81] H R=(
 Does Tryz.prog 120 [(.slice x12 x12l x12c),(.int .i64 x15)] H fun v1 H2 => ∃ f3:FuncId,∃ fa4:Array Value,∃ fc5:Array Value,v1=(.func (.func f3) fa4 fc5)∧(
 R (.func (.func f3) fa4 fc5) H2)) := by kernel_rfl
theorem Fo24 (x82:Option Addr) (x82l:Nat) (x82c:Nat) (H:Heap) (R:Value→Heap→Prop):Part Tryz.prog 40 24 [(82,.v (.slice x82 x82l x82c))] [16] H R=(
 R (.slice x82 x82l x82c) H) := by kernel_rfl
theorem Fo25 (p10:Nat) (x16:Option Addr) (x16l:Nat) (x16c:Nat) (H:Heap) (R:Value→Heap→Prop):Part Tryz.prog 40 25 [(10,.v (.pointer (some (⟨p10,0,none⟩:Addr)))),(16,.v (.slice x16 x16l x16c))] [17] H R=(
 ∃ p1:Option Addr,hcell H p10 0=some (.pointer p1)∧(
 Does Tryz.prog 113 [(.pointer p1),(.slice x16 x16l x16c)] H fun v2 H3 => ∃ n4:Int,v2=(.int .i64 n4)∧(
 R (.int .i64 n4) H3))) := by kernel_rfl
theorem Fo26 (x17:Int) (H:Heap) (R:Value→Heap→Prop):Part Tryz.prog 40 26 [(17,.v (.int .i64 x17))] [87] H R=(
 R (.bool (@decide ((x17:Int)≠0) (Classical.propDecidable _))) H) := by kernel_rfl
theorem Fo28 (p10:Nat) (p6:Nat) (H:Heap) (R:Value→Heap→Prop):Part Tryz.prog 40 28 [(10,.v (.pointer (some (⟨p10,0,none⟩:Addr)))),(6,.v (.pointer (some (⟨p6,0,none⟩:Addr))))] [] H R=(
 ∃ p1:Option Addr,hcell H p10 0=some (.pointer p1)∧(
 Does Tryz.prog 121 [(.pointer p1)] H fun v2 H3 => ∃ n4:Int,v2=(.int .i64 n4)∧(
 Cells H3 p6 0 1∧∀ H5:Heap,Puts H3 p6 0 [(.int .i64 n4)] H5→(
 R (.tuple #[]) H5)))) := by kernel_rfl
end Go.Proofs
end



section
open Go Go.Vc Go.Proofs.Bx
namespace Go.Proofs
theorem srow_subv {H:Heap} {sz L c:Nat} {a:Option Addr} {xs:List Value} (h:SRow H sz L (.slice a L c) xs) {o n c':Nat} (ho:o+n≤L):SRow H sz n (.slice (a.map (·.add (o*sz))) n c') ((xs.drop (o*sz)).take (n*sz)) := by
 obtain ⟨h1,h2⟩ := h
 have hle:(o+n)*sz≤L*sz := Nat.mul_le_mul_right _ ho
 rw [Nat.add_mul] at hle
 refine ⟨by rw [List.length_take,List.length_drop]; omega,?_⟩
 cases a with
 | none =>
  have h2:xs=[] := h2
  subst h2
  simp
 | some ad =>
  obtain ⟨h3,h4⟩ := h2
  rcases h3 with h3 | h3
  ·subst h3
   exact ⟨.inl (by simp),fun j u hj => by simp at hj⟩
  ·show (_∨(ad.add (o*sz)).spot=none)∧∀ (j:Nat) (u:Value),_→hcell H (ad.add (o*sz)).block ((ad.add (o*sz)).off+j)=some u
   have e1:(ad.add (o*sz)).spot=none := by unfold Addr.add; split; exact h3; rfl
   have e2:(ad.add (o*sz)).block=ad.block := by unfold Addr.add; split <;> rfl
   have e3:(ad.add (o*sz)).off=ad.off+o*sz := by unfold Addr.add; split <;> simp_all
   refine ⟨.inr e1,fun j u hj => ?_⟩
   rw [e2,e3,Nat.add_assoc]
   refine h4 (o*sz+j) u ?_
   have hj':j<n*sz := by
    have := (List.getElem?_eq_some_iff.1 hj).1
    rw [List.length_take] at this; omega
   simp only [List.getElem?_take,List.getElem?_drop] at hj
   rw [if_pos hj'] at hj
   exact hj
theorem rows_drop {sz:Nat}:∀ {vs:List (List Value)} (k:Nat),(∀ r∈vs,r.length=sz)→(vs.drop k).flatten=vs.flatten.drop (k*sz)
 | [],k,_ => by simp
 | r::rs,0,_ => by simp
 | r::rs,k+1,h => by
  have h1 := h r (by simp)
  rw [List.drop_succ_cons,rows_drop k (fun r hr => h r (by simp [hr])),List.flatten_cons,Nat.succ_mul,List.drop_append,h1]
  have e:(r.drop (k*sz+sz))=[] := List.drop_of_length_le (by omega)
  rw [e,List.nil_append,Nat.add_sub_cancel]
theorem rows_take {sz:Nat}:∀ {vs:List (List Value)} (k:Nat),(∀ r∈vs,r.length=sz)→(vs.take k).flatten=vs.flatten.take (k*sz)
 | [],k,_ => by simp
 | r::rs,0,_ => by simp
 | r::rs,k+1,h => by
  have h1 := h r (by simp)
  rw [List.take_succ_cons,List.flatten_cons,rows_take k (fun r hr => h r (by simp [hr])),List.flatten_cons,Nat.succ_mul,List.take_append,h1]
  have e:r.take (k*sz+sz)=r := List.take_of_length_le (by omega)
  rw [e,Nat.add_sub_cancel]
theorem SeqV.sub {α:Type} {E:Elem α} {H:Heap} {a:Option Addr} {xs:List α} (h:SeqV E H a xs) {o n:Nat} (ho:o+n≤xs.length):SeqV E H (a.map (·.add (o*E.sz))) ((xs.drop o).take n) := by
 obtain ⟨vs,h1,h2,h3⟩ := h
 have hrows:∀ r∈vs,r.length=E.sz := by
  intro r hr
  obtain ⟨i,hi,rfl⟩ := List.mem_iff_getElem.1 hr
  obtain ⟨v,q1,q2⟩ := h3 i _ (List.getElem?_eq_getElem (by omega))
  rw [List.getElem?_eq_getElem hi,Option.some.injEq] at q1
  rw [q1]
  exact E.len q2
 have hn:((xs.drop o).take n).length=n := by rw [List.length_take,List.length_drop]; omega
 refine ⟨(vs.drop o).take n,?_,by rw [hn,List.length_take,List.length_drop,h2]; omega,fun i x hx => ?_⟩
 ·rw [hn,rows_take n (fun r hr => hrows r (List.mem_of_mem_drop hr)),rows_drop o hrows]
  exact srow_subv h1 ho
 ·rw [List.getElem?_take] at hx ⊢
  split at hx
  ·rename_i hi
   rw [if_pos hi,List.getElem?_drop]
   rw [List.getElem?_drop] at hx
   exact h3 _ _ hx
  ·cases hx
theorem overT_one (base:Nat→Octs) (j:Int) (x:Octs) (k:Nat):overT base [(j,x)] k=if (k:Int)=j then x else base k := by
 unfold overT tAll
 simp only [List.foldl_cons,List.foldl_nil,tSet,tGet]
 by_cases e:(k:Int)=j
 ·rw [if_pos e,if_pos e.symm]; rfl
 ·rw [if_neg e,if_neg (fun h => e h.symm)]; rfl
def blksW (P:Nat→Octs) (f:Nat):List Wr := (List.range f).map fun (k:Nat) => ((k:Int),P k)
theorem blksW_length (P:Nat→Octs) (f:Nat):(blksW P f).length=f := by simp [blksW]
theorem over_blks (base:Nat→Octs) (P:Nat→Octs):∀ f,overT base (blksW P f)=fun k => if k<f then P k else base k
 | 0 => by
  funext k
  simp [blksW,overT,tAll,tGet]
 | f+1 => by
  have e:blksW P (f+1)=blksW P f++[((f:Int),P f)] := by simp [blksW,List.range_succ]
  rw [e,over_app,over_blks base P f]
  funext k
  rw [overT_one]
  by_cases h:k=f
  ·subst h; simp
  ·rw [if_neg (by omega)]
   by_cases h2:k<f
   ·rw [if_pos h2,if_pos (by omega)]
   ·rw [if_neg h2,if_neg (by omega)]
theorem blks_may {P:Nat→Octs} {f N:Nat} (hP:∀ k,k<f→(P k).length=128) (hf:f≤N) {o n:Nat} (hn:0<n) (ho:o+n≤f):MayP (((blksW P f).drop o).take n) (N:Int) := by
 have hl:(((blksW P f).drop o).take n).length=n := by rw [List.length_take,List.length_drop,blksW_length]; omega
 have hsub:(((blksW P f).drop o).take n).Sublist (blksW P f) := (List.take_sublist _ _).trans (List.drop_sublist _ _)
 refine ⟨fun e => by rw [e] at hl; simp at hl; omega,fun w hw => ?_,?_⟩
 ·obtain ⟨k,hk,rfl⟩ := List.mem_map.1 (hsub.mem hw)
  have := List.mem_range.1 hk
  exact ⟨by simp only; omega,by simp only; omega,hP k this⟩
 ·refine (hsub.map _).nodup ?_
  simp only [blksW,List.map_map]
  have:(List.range f).map ((fun x:Wr => x.1) ∘ fun (k:Nat) => ((k:Int),P k))=(List.range f).map fun (k:Nat) => (k:Int) := rfl
  rw [this]
  exact (List.nodup_range).map _ (fun a b h => by intro e; exact h (by omega))
theorem needs_bd (n:Nat):needsN (n:Int)=if n=0 then 0 else ((n*132+117) / 116:Nat) := by
 unfold needsN
 by_cases h:n=0
 ·subst h; rfl
 ·rw [if_neg (by omega),if_neg h]; omega
theorem chunkW_ok (a:Option Addr) (l c:Nat) (n:Int) (H:Heap) (hn:1≤n):Does Tryz.prog 120 [.slice a l c,.int .i64 n] H fun v H' =>
  v=.func (.func 184) #[] #[.pointer (some ⟨H.size,0,none⟩),.pointer (some ⟨H.size+1,0,none⟩)]∧Blk H' H.size [.slice a l c]∧Blk H' (H.size+1) [.int .i64 n]∧Ext [] H H'∧H'.size=H.size+2 := by
 refine Fn_of_vc Tryz.mixed (ChunkWV _ _ _ _ _ _) ?_
 intro b1 H2 h2 b3 H4 h4
 have e1 := h2.eq
 have e3 := h4.eq
 have s2 := h2.size
 have s4 := h4.size
 have hb1 := h2.blk.ext h4.ext (by simp)
 subst e1
 refine ⟨n,by rw [h4.blk.cell]; rfl,fun h => by omega,fun _ => ?_⟩
 have:b3=H.size+1 := by omega
 subst this
 exact ⟨rfl,hb1,h4.blk,h2.ext.trans' h4.ext (by simp),by omega⟩
end Go.Proofs
end

section
open Go Go.Vc Go.Proofs.Bx
namespace Go.Proofs
theorem res40:compRes Tryz.prog Tryz.f40.results.toList=some [.cell [.int .i64 0] false 6] := by kernel_rfl
theorem results40 {a:Act} {w:World} {p6:Nat} {n:Int} (ha:Agree [(6,.v (.pointer (some ⟨p6,0,none⟩)))] a) (hc:hcell w.heap p6 0=some (.int .i64 n)):(results Tryz.f40 a.tmps).run Tryz.prog w=.ok (.int .i64 n) w := by
 obtain ⟨vs,h1,h2⟩ := res_sound (P := Tryz.prog) (w := w) ha Tryz.f40.results.toList _ (fun vs => vs=[.int .i64 n]) res40 ⟨n,hc,rfl⟩
 subst h2
 rw [results_eq]
 have e:Tryz.f40.results=Tryz.f40.results.toList.toArray := by simp
 rw [e,List.mapM_toArray]
 simp only [Sem.run_bind,Sem.run_map,h1,Result.andThen_ok,Sem.run_pure]
 rfl
def fmtP (N:Nat) (s:Int) (xs:Octs) (k:Nat):Octs := ((fixO s xs (emptyP N s (firstN N s)).slots).drop (k*128)).take 128
def fmtHm (N:Nat) (s:Int) (xs:Octs):Nat→Octs := fun k => if k<(firstN N s).toNat then fmtP N s xs k else zeros
theorem fixE_length {N:Nat} {s:Int} {xs:Octs} (hs:0≤s) (hx:xs.length=(N+7) / 8):(fixO s xs (emptyP N s (firstN N s)).slots).length=(firstN N s).toNat*128 := by
 have h2 := padO_length (beU 2 (w64 s))
 have h3 := padO_length xs
 have h4 := padO_length ((emptyP N s (firstN N s)).slots.map slotO).flatten
 have h5 := slotOs_length (l := (emptyP N s (firstN N s)).slots) (fun sl hsl => by
  have := List.eq_of_mem_replicate hsl
  subst this
  exact ⟨by simp,by simp,by simp,by simp,by simp,by simp⟩)
 have h6:(emptyP N s (firstN N s)).slots.length=s.toNat := by simp [emptyP]
 have h7:(beU 2 (w64 s)).length=2 := beU_len _ _
 unfold fixO
 rw [List.length_append,List.length_append,h2,h3,h4,h5,h6,h7,hx]
 unfold firstN bitsN
 rw [Int.toNat_natCast]
 omega
def FmMid (H0 H1 H9:Heap) (F:Nat→Prop) (pd n z:Nat) (s:Int) (v:Value) (H:Heap):Prop :=
 ∃ (p6 b12 pj:Nat) (a:Option Addr) (c st:Nat) (J:Jn) (D1:Dev) (F1:Nat→Prop) (n0:Nat) (xs:Octs),v=.tuple #[.pointer (some ⟨p6,0,none⟩),.pointer (some ⟨b12,0,none⟩),.slice a (firstN ((n - 1 - z:Nat):Int) s).toNat c,.int .i64 st] ∧
  Blk H p6 [.int .i64 0]∧Blk H b12 [.pointer (some ⟨pj,0,none⟩)]∧¬ F1 p6∧¬ F1 b12∧H1.size≤p6∧JL H0 H F1 pj pd n z 10000 J D1 (fun _ => zeros) (fun _ => True)∧D1.fuse=-1∧(∀ q,F1 q→q<n0) ∧
  BytesAre (emptyP ((n - 1 - z:Nat):Int) s (firstN ((n - 1 - z:Nat):Int) s)).bits xs∧MySeq writeE n0 H a (firstN ((n - 1 - z:Nat):Int) s).toNat c (blksW (fmtP (n - 1 - z) s xs) (firstN ((n - 1 - z:Nat):Int) s).toNat)∧(firstN ((n - 1 - z:Nat):Int) s).toNat≤c ∧
  1≤st∧st≤100∧(∀ m,m≤st→m≤(firstN ((n - 1 - z:Nat):Int) s).toNat→needsN m≤z)∧n0≤H.size∧(∀ q,F1 q→F q∨H1.size≤q)∧ExtP (fun q => F q∨H1.size≤q) H9 H
set_option maxRecDepth 100000 in
set_option maxHeartbeats 2000000 in
theorem fmt_head {H0 H H9:Heap} {F:Nat→Prop} {pd n z p6 p7:Nat} {s:Int} (hd:DvIn H0 H9 F pd (newD n) n 0) (hz:4≤z∧z+4≤n) (hn:n≤4096) (hg:¬ laidBad ((n - 1 - z:Nat):Int) s) (_:firstN ((n - 1 - z:Nat):Int) s<((n - 1 - z:Nat):Int))
  (hb6:Blk H9 p6 [.int .i64 0]) (h6:¬ F p6) (hH:H.size≤p6) (hb7:Blk H9 p7 [.int .i64 ((n - 1 - z:Nat):Int),.int .i64 s,.int .i64 (bitsN ((n - 1 - z:Nat):Int)),.int .i64 (firstN ((n - 1 - z:Nat):Int) s)]) (h7:¬ F p7) {R:Value→Heap→Prop} :
  PartH Tryz.prog 40 4 7 [(0,.v (.pointer (some ⟨pd,0,none⟩))),(1,.v (.int .i64 z)),(6,.v (.pointer (some ⟨p6,0,none⟩))),(7,.v (.pointer (some ⟨p7,0,none⟩))),(8,.v (.bool true))] [6,10,12,15] H9 (FmMid H0 H H9 F pd n z s) R := by
 rw [FoB]
 obtain ⟨N,hN⟩:∃ N,N=n - 1 - z := ⟨_,rfl⟩
 rw [← hN] at hg hb7
 have h0:¬ (s<1∨256<s∨(N:Int)<1) := hg
 have hbb := bitsN_bd (N := N) (by omega)
 have hfd:firstN (N:Int) s=1+bitsN N+(s+3) / 4 := rfl
 refine ⟨fun h => (by cases h),fun _ => ?_⟩
 refine (format_ok hd.dev hd.wf (by omega) hn (z:Int)).mono ?_
 rintro _ H4 ⟨rfl,hdv4,hx4⟩
 obtain ⟨hf0,K,hat,hfuse,hsure⟩ := format_sure hz hn
 have hwf4 := format_dwf (size := (z:Int)) hd.wf hn
 have hd4 := hd.step hdv4 hx4 hwf4
 have z4 := hx4.size
 have hlt9 := hd.dev.lt
 rw [hf0]
 refine ⟨_,rfl,fun h => absurd rfl h,fun _ => ?_⟩
 have hb6_4 := hb6.extP hx4 h6
 have hb7_4 := hb7.extP hx4 h7
 refine (hd4.open_ (S := fun _ => True) (by omega) hat (hsure.up (by omega) (by omega)) trivial).mono ?_
 rintro v H9' ⟨hx9,hcase⟩
 have hlt4 := hd4.dev.lt
 have hg6:∀ {A B:Heap} {q:Nat},¬ F q→q<A.size→¬ grow F A B q := fun h1 h2 h => h.elim h1 fun h => by omega
 have hl6 := hb6.lt
 have hl7 := hb7.lt
 obtain ⟨pj,J,D1,rfl,hJL,hfu,hused,hpend⟩ := hcase.resolve_right (fun ⟨_,_,_,hne,_⟩ => hne hfuse)
 have z9 := hx9.size
 have hb6_9 := hb6_4.extP hx9 (hg6 h6 hl6)
 have hb7_9 := hb7_4.extP hx9 (hg6 h7 hl7)
 let F1:Nat→Prop := grow (grow F H9 H4) H4 H9'
 have hF1lt:∀ q,F1 q→q<H9'.size := hJL.lt
 have hF16:¬ F1 p6 := fun h => h.elim (hg6 h6 hl6) fun h => by omega
 have hF17:¬ F1 p7 := fun h => h.elim (hg6 h7 hl7) fun h => by omega
 refine ⟨_,_,rfl,fun b12 H13 hn12 => ⟨hn12.blk.cells _ _ (by simp),fun H14 hp12 => ?_⟩⟩
 obtain ⟨hb12,hx14,e12,z14⟩ := new_put hn12 hp12 rfl
 have hb6_14 := hb6_9.ext hx14 (by simp)
 have hb7_14 := hb7_9.ext hx14 (by simp)
 refine ⟨fun h => absurd rfl h,fun _ => ?_⟩
 refine ⟨_,by rw [hb7_14.cell]; rfl,_,by rw [hb7_14.cell]; rfl,_,by rw [hb7_14.cell]; rfl,_,by rw [hb7_14.cell]; rfl,_,by rw [hb7_14.cell]; rfl,_,by rw [hb7_14.cell]; rfl,_,by rw [hb7_14.cell]; rfl,_,by rw [hb7_14.cell]; rfl,?_⟩
 refine (empty_ok (Fd := fun _ => False) (by omega) (by omega) (by omega) (by omega) (fun _ h => h.elim)).mono ?_
 rintro _ H26 ⟨x,rl,ba,bc,rfl,hn26,hx26,ho26,hxn⟩
 have hb7_26 := hb7_14.ext hx26 (by simp)
 refine ⟨_,_,_,_,_,rfl,⟨by rw [hb7_26.cell]; rfl,by rw [hb7_26.cell]; rfl,by rw [hb7_26.cell]; rfl,by rw [hb7_26.cell]; rfl,trivial⟩,?_⟩
 have hbl:(emptyP (N:Int) s (firstN (N:Int) s)).bits.length=N := by simp only [emptyP]; rw [setAll_length,List.length_replicate,Int.toNat_natCast]
 refine (fixed_ok hn26 (by omega) (by omega) (fun sl hs => ?_) _ _ _ _).mono ?_
 ·have := List.eq_of_mem_replicate hs
  subst this
  exact ⟨by simp,by simp,by simp,by simp,by simp,by simp⟩
 rintro _ H33 ⟨xs,hxs,⟨kk,ra,rc,vs,rfl,hlen,hro,hvl,hrf,hri⟩,hx33⟩
 have hfl := fixE_length (N := N) (s := s) (xs := xs) (by omega) (by have := hxs.len; rw [hbl] at this; exact this)
 obtain ⟨f,hf⟩:∃ f:Nat,firstN (N:Int) s=f := ⟨(firstN (N:Int) s).toNat,by omega⟩
 have hkk:kk=f := by rw [hfl,hf,Int.toNat_natCast] at hlen; omega
 subst hkk
 have z26 := hx26.size; have z33 := hx33.size
 have hX33:Ext [] H9' H33 := (hx14.trans' hx26 (by simp)).trans' hx33 (by simp)
 have hX14_33:Ext [] H14 H33 := hx26.trans' hx33 (by simp)
 let G:Nat→Prop := fun q => H26.size≤q∧q<H33.size
 refine ⟨_,_,_,rfl,fun a l c i K' => ∃ j:Nat,i=j∧j≤kk∧Seq writeE K' G a l c (blksW (fmtP N s xs) j)∧Ext [] H33 K'∧(∀ q∈blkOf a,H33.size≤q),fun _ _ _ i _ => (kk - i).toNat,⟨0,rfl,Nat.zero_le _,Seq.nil _ _ _,Ext.refl _ _,by simp [blkOf]⟩,?_⟩
 rintro a39 l40 c41 _ H43 ⟨j,rfl,hj,hms,hx43,hfa⟩
 have hnum := hms.num
 rw [blksW_length] at hnum
 subst hnum
 have z43 := hx43.size
 refine ⟨fun hlt => ?_,fun hge => ?_⟩
 ·have hj':j<kk := by omega
  obtain ⟨ai,hvi,hsr,hbi⟩ := hri j hj'
  have hro43 := hro.ext hx43 (by simp)
  rcases hro43.2.2.2 with ⟨_,e⟩ | ⟨bb,tl,e,hbb',hbl'⟩
  ·have := hro43.2.1; omega
  subst e
  have hcell43:hcell H43 bb (0+j)=some (.slice ai 128 128) := (hro43.row kk rc).2.2 j _ hvi
  refine ⟨by omega,hlt,bb,0,rfl,ai,128,128,by rw [Int.toNat_natCast]; exact hcell43,fun b49 H50 hn49 => ?_⟩
  have hok:writeE.ok H43 [.int .i64 (j:Int),.slice ai 128 128] ((j:Int),fmtP N s xs j) := ⟨ai,128,128,rfl,hsr.ext hx43 (by simp),fun q hq => by have := hbi q hq; omega⟩
  refine hms.push (w := 32) (e' := 162) (z := [.int .i64 0,.slice none 0 0]) (fun q hq hm => by have := hfa q hm; have := hq.2; omega) hok (fun q hq => ?_) rfl (by omega) (R := fun a53 c54 H55 => In64 ((j:Int)+1)∧(∃ j':Nat,(j:Int)+1=j'∧j'≤kk∧Seq writeE H55 G a53 (j+1) c54 (blksW (fmtP N s xs) j')∧Ext [] H33 H55∧(∀ q∈blkOf a53,H33.size≤q))∧((kk:Int) - ((j:Int)+1)).toNat<((kk:Int) - (j:Int)).toNat) ?_ b49 H50 hn49
  ·have hq:q∈blkOf ai := hq
   exact hbi q hq
  ·intro a' c' H' g1 g2 g3
   have e:blksW (fmtP N s xs) (j+1)=blksW (fmtP N s xs) j++[((j:Int),fmtP N s xs j)] := by simp [blksW,List.range_succ]
   refine ⟨by unfold In64; omega,⟨j+1,rfl,by omega,by rw [e]; exact g1,hx43.trans' g2 (fun i hi => .inl (hfa i hi)),fun q hq => ?_⟩,by omega⟩
   rcases g3 q hq with h | h
   ·exact hfa q h
   ·omega
 ·have:j=kk := by omega
  subst this
  refine (needs_ok _ H43 (by omega)).mono ?_
  rintro _ _ ⟨rfl,rfl⟩
  have hnb := needs_bd
  have hxA:ExtP (fun q => F q∨H.size≤q) H9 H43 := ((hx4.mono (fun _ _ h => .inl h)).trans' hx9 (fun q hq => by
   rcases hq with hq | hq
   ·exact .inr (.inl hq)
   ·exact .inl hq.1)).trans' (hX33.trans' hx43 (by simp)).anyP (fun q hq => hq)
  have hcap:j≤c41 := by obtain ⟨vs',ho',_⟩ := hms; exact ho'.2.1
  have fin:∀ st:Nat,1≤st→st≤100→(∀ m,m≤st→m≤j→needsN (m:Int)≤z)→FmMid H0 H H9 F pd n z s (.tuple #[.pointer (some ⟨p6,0,none⟩),.pointer (some ⟨b12,0,none⟩),.slice a39 j c41,.int .i64 st]) H43 := fun st h1 h2 h3 => by
   unfold FmMid
   rw [← hN,hf,Int.toNat_natCast]
   refine ⟨p6,b12,pj,a39,c41,st,J,D1,F1,H9'.size,xs,rfl,((hb6_14.ext hX14_33 (by simp)).ext hx43 (by simp)),((hb12.ext hX14_33 (by simp)).ext hx43 (by simp)),hF16,fun h => by have := hF1lt _ h; omega,hH,
    ((hJL.up (by omega) (by omega) (fun _ h => h)).more hX33).more hx43,hfu hfuse,hF1lt,hf ▸ hxs,⟨G,hms,fun q hq => ⟨by have := hq.1; have := hx26.size; omega,by have := hq.2; omega,fun hm => by have := hfa q hm; have := hq.2; omega⟩,fun q hq => by have := hfa q hq; omega⟩,hcap,h1,h2,h3,by omega,fun q hq => ?_,hxA⟩
   rcases hq with (hq | hq) | hq
   ·exact .inl hq
   ·exact .inr (by omega)
   ·exact .inr (by omega)
  refine ⟨_,rfl,fun hlt => ?_,fun hge2 => ?_⟩
  ·have := fin 1 (Nat.le_refl _) (by omega) (fun m hm _ => by rw [hnb]; split <;> omega)
   exact this
  ·exact fin j (by omega) (by omega) (fun m hm _ => by rw [hnb]; rw [hnb] at hge2; split <;> split at hge2 <;> omega)
end Go.Proofs
end

section
open Go Go.Vc Go.Proofs.Bx
namespace Go.Proofs
theorem ag_of {N:Nat} {a:Act} (hs:a.tmps.size=N) (hd:a.defers=[]) (l:List (Nat×Value)) (h:∀ x∈l,a.tmps.getD x.1 undef=x.2):Ag N (l.map fun x => (x.1,.v x.2)) a := by
 refine ⟨hs,hd,fun t s ht => ?_⟩
 induction l with
 | nil => cases ht
 | cons x r ih =>
  rw [List.map_cons,get_cons] at ht
  split at ht
  ·rename_i e
   subst e
   cases ht
   exact h x List.mem_cons_self
  ·exact ih (fun y hy => h y (List.mem_cons_of_mem _ hy)) ht
def FmI (H0 Hs:Heap) (X:Nat→Prop) (pj pd n z f st N:Nat) (P:Nat→Octs) (k:Nat) (H:Heap):Prop :=
 k≤f∧N≤H.size∧∃ (F:Nat→Prop) (J:Jn) (D:Dev),ExtP X Hs H∧(∀ q,F q→X q)∧(∀ q,F q→q<Hs.size∨N≤q)∧(∀ q,F q→q<H.size) ∧
  JL H0 H F pj pd n z (10000+14100*k) J D (overT (fun _ => zeros) ((blksW P f).take (k*st))) (fun _ => True)∧D.fuse=-1
def FmtR (H0 H:Heap) (F:Nat→Prop) (pd n z:Nat) (s:Int) (v:Value) (H':Heap):Prop :=
 v=.int .i64 0∧∃ (F':Nat→Prop) (D':Dev) (B:Nat) (xs:Octs),DvIn H0 H' F' pd D' n B∧B≤2000000∧D'.fuse=-1∧D'.dead=false∧BytesAre (emptyP ((n - 1 - z:Nat):Int) s (firstN ((n - 1 - z:Nat):Int) s)).bits xs ∧
  Sure n z B (laid D'.kept D'.pend) (fmtHm (n - 1 - z) s xs)∧ExtP (fun q => F q∨H.size≤q) H H'∧(∀ q,F' q→F q∨H.size≤q)
theorem chunkAt_pos {a:Option Addr} {L st k:Nat} (hst:1≤st) (h:k*st<L):chunkAt a L st 2 k=.slice (a.map (·.add (k*st*2))) (min st (L - k*st)) (min st (L - k*st)) := by
 have hne:¬ min st (L - k*st)=0 := by omega
 simp only [chunkAt,if_neg hne]
set_option maxRecDepth 100000 in
set_option maxHeartbeats 4000000 in
theorem fmt_ok {H0 H:Heap} {F:Nat→Prop} {pd n z:Nat} {s:Int} (hd:DvIn H0 H F pd (newD n) n 0) (hz:4≤z∧z+4≤n) (hn:n≤4096) (hg:¬ laidBad ((n - 1 - z:Nat):Int) s) (hr:firstN ((n - 1 - z:Nat):Int) s<((n - 1 - z:Nat):Int)) :
  Does Tryz.prog 40 [.pointer (some ⟨pd,0,none⟩),.int .i64 z,.int .i64 s] H (FmtR H0 H F pd n z s) := by
 intro w hw
 subst hw
 refine callsIn_wide.1 (callsIn_of_wp_marks (n := 0) Tryz.func40 rfl trivial (wpIn_wide.2 ?_))
 have ha0:Ag Tryz.f40.ntmps [(0,.v (.pointer (some ⟨pd,0,none⟩))),(1,.v (.int .i64 z)),(2,.v (.int .i64 s))]
   { tmps := #[.pointer (some ⟨pd,0,none⟩),.int .i64 z,.int .i64 s]++Array.replicate (Tryz.f40.ntmps - 3) undef,defers := [] } :=
  ⟨by simp [Tryz.ntmps40],rfl,start_agree [.pointer (some ⟨pd,0,none⟩),.int .i64 z,.int .i64 s] _⟩
 refine partH_gen (C := fun v H' => ∃ p6 p7:Nat,v=.tuple #[.pointer (some ⟨pd,0,none⟩),.int .i64 z,.pointer (some ⟨p6,0,none⟩),.pointer (some ⟨p7,0,none⟩),.bool true]∧DvIn H0 H' F pd (newD n) n 0∧Blk H' p6 [.int .i64 0]∧¬ F p6∧w.heap.size≤p6 ∧
   Blk H' p7 [.int .i64 ((n - 1 - z:Nat):Int),.int .i64 s,.int .i64 (bitsN ((n - 1 - z:Nat):Int)),.int .i64 (firstN ((n - 1 - z:Nat):Int) s)]∧¬ F p7∧Ext [] w.heap H') (R := FmtR H0 w.heap F pd n z s)
  Tryz.mixed (FoA (some ⟨pd,0,none⟩) z s w.heap _ _) ?_ Tryz.func40 rfl rfl (Sim.refl w) ha0 rfl ?_ ?_
 ·have hlt := hd.dev.lt
  intro b1 H2 hn1
  refine ⟨fun h => (by cases h),fun _ b5 H6 hn5 => ⟨hn5.blk.cells _ _ (by simp),fun H7 hp5 => ?_⟩⟩
  have e1 := hn1.eq; have e5 := hn5.eq
  have z2 := hn1.size; have z6 := hn5.size
  have hb1 := hn1.blk.ext hn5.ext (by simp)
  have hb5:Blk H7 b5 [.int .i64 0,.int .i64 0,.int .i64 0,.int .i64 0] := hp5.blk hn5.blk (by simp)
  have hx7 := hp5.ext
  have hb1' := hb1.ext hx7 (by simp; omega)
  have hx:Ext [] w.heap H7 := (hn1.ext.trans' hn5.ext (by simp)).trans' hx7 (fun i hi => .inl (by simp only [List.mem_singleton] at hi; omega))
  have hd7 := hd.more hx
  have hlen:((newD n).kept.length:Int)=n := by simp [newD]
  refine ⟨fun _ => (dblocks_ok hd7.dev).mono ?_,fun h => absurd (by omega) h⟩
  rintro _ _ ⟨rfl,rfl⟩
  rw [hlen]
  refine ⟨_,rfl,fun _ => (dblocks_ok hd7.dev).mono ?_,fun h => absurd (by omega) h⟩
  rintro _ _ ⟨rfl,rfl⟩
  rw [hlen]
  have eN:((n:Int) - 1) - z=((n - 1 - z:Nat):Int) := by omega
  refine ⟨_,rfl,by unfold In64; omega,by unfold In64; omega,?_⟩
  rw [eN]
  refine (laidOut_ok _ s H7 (by omega)).mono ?_
  rintro v H15 ⟨hx15,(⟨hb,_⟩ | ⟨_,rfl⟩)⟩
  ·exact absurd hb hg
  rw [show decP (firstN ((n - 1 - z:Nat):Int) s<((n - 1 - z:Nat):Int))=true from (decP_true hr).symm]
  have hb5' := hb5.ext hx15 (by simp)
  refine ⟨_,_,_,_,_,rfl,hb5'.cells _ _ (by simp),fun H21 hp21 => ?_⟩
  have hx21 := hp21.ext
  have z15 := hx15.size
  have z7 := hx7.size
  have hx':Ext [] w.heap H21 := (hx.trans' hx15 (by simp)).trans' hx21 (fun i hi => .inl (by simp only [List.mem_singleton] at hi; omega))
  exact ⟨b1,b5,rfl,hd.more hx',(hb1'.ext hx15 (by simp)).ext hx21 (by simp; omega),fun h => by have := hlt _ h; omega,by omega,hp21.blk hb5' (by simp),fun h => by have := hlt _ h; omega,hx'⟩
 ·intro a' w' v hs hdf hres hR
  show LeavesInM _ _ _ _ _ _ a'.defers _ _
  rw [hdf]
  exact ⟨v,hres,v,rfl,hs,hR⟩
 intro vs a1 w1 hl hs1 ha1 ⟨p6,p7,hv,hd1,hb6,h6,hH,hb7,h7,hx1⟩
 have := tupV_many (l := [.pointer (some ⟨pd,0,none⟩),.int .i64 z,.pointer (some ⟨p6,0,none⟩),.pointer (some ⟨p7,0,none⟩),.bool true]) (by rw [hl]; decide) hv
 subst this
 refine partH_gen (i := 4) (n := 7) (R := FmtR H0 w.heap F pd n z s) Tryz.mixed rfl (fmt_head (R := FmtR H0 w.heap F pd n z s) (H := w.heap) hd1 hz hn hg hr hb6 h6 hH hb7 h7) Tryz.func40 rfl rfl hs1 (ha1.pick (by
  intro x hx; simp only [List.mem_cons,List.mem_nil_iff,or_false] at hx; rcases hx with rfl | rfl | rfl | rfl | rfl <;> rfl)) rfl ?_ ?_
 ·intro a' w' v hs hdf hres hR
  show LeavesInM _ _ _ _ _ _ a'.defers _ _
  rw [hdf]
  exact ⟨v,hres,v,rfl,hs,hR⟩
 clear hl hv
 intro vs a2 w2 hl hs2 ha2 hmid
 obtain ⟨q6,b12,pj,a,c,st,J,D1,F1,n0,xs,hv,hb6',hb12,hF6,hF12,hq6,hJL,hfu,hFn,hxs,hms,hcap,hst,hst2,hnd,hn0,hFF,hxA⟩ := hmid
 have := tupV_many (l := [.pointer (some ⟨q6,0,none⟩),.pointer (some ⟨b12,0,none⟩),.slice a (firstN ((n - 1 - z:Nat):Int) s).toNat c,.int .i64 st]) (by rw [hl]; decide) hv
 subst this
 obtain ⟨N,hN⟩:∃ N,N=n - 1 - z := ⟨_,rfl⟩
 rw [← hN] at hg hr
 have hbb := bitsN_bd (N := N) (by omega)
 have hfd:firstN (N:Int) s=1+bitsN N+(s+3) / 4 := rfl
 have h0g:¬ (s<1∨256<s∨(N:Int)<1) := hg
 obtain ⟨f,hf⟩:∃ f:Nat,firstN (N:Int) s=f := ⟨(firstN (N:Int) s).toNat,by omega⟩
 rw [← hN,hf,Int.toNat_natCast] at hms hnd hcap ha2
 rw [← hN] at hxs
 have haB:Ag Tryz.f40.ntmps [(6,.v (.pointer (some ⟨q6,0,none⟩))),(10,.v (.pointer (some ⟨b12,0,none⟩))),(12,.v (.slice a f c)),(15,.v (.int .i64 st))] a2 := ha2
 apply wp_seq
 refine wp_seq (wp_mono (part_wp Tryz.mixed (Fo23 a f c st w2.heap fun v H' => v=.func (.func 184) #[] #[.pointer (some ⟨w2.heap.size,0,none⟩),.pointer (some ⟨w2.heap.size+1,0,none⟩)]∧Blk H' w2.heap.size [.slice a f c]∧Blk H' (w2.heap.size+1) [.int .i64 st]∧Ext [] w2.heap H'∧H'.size=w2.heap.size+2)
  ((chunkW_ok a f c st w2.heap (by omega)).mono (fun v H' h => ⟨184,#[],_,h.1,rfl,h.2⟩)) Tryz.func40 rfl rfl haB (haB.pick (by
   intro x hx; simp only [List.mem_cons,List.mem_nil_iff,or_false] at hx; rcases hx with rfl | rfl <;> rfl)) rfl) ?_)
 rintro e a3 w3 ⟨rfl,hs3,vs,hl3,⟨hv3,hr1,hr2,hx3,z3⟩,ha3⟩
 rw [one_of hl3,hv3] at ha3
 have haC:Ag Tryz.f40.ntmps [(81,.v (.func (.func 184) #[] #[.pointer (some ⟨w2.heap.size,0,none⟩),.pointer (some ⟨w2.heap.size+1,0,none⟩)])),(6,.v (.pointer (some ⟨q6,0,none⟩))),(10,.v (.pointer (some ⟨b12,0,none⟩)))] a3 := ha3.pick (by
  intro x hx; simp only [List.mem_cons,List.mem_nil_iff,or_false] at hx; rcases hx with rfl | rfl | rfl <;> rfl)
 let X:Nat→Prop := fun q => F1 q∨w3.heap.size≤q
 have hJL3 := hJL.more hx3
 have hms3 := hms.ext hx3
 have hb6_3 := hb6'.ext hx3 (by simp)
 have hb12_3 := hb12.ext hx3 (by simp)
 have l6 := hb6'.lt; have l12 := hb12.lt
 have hF2:∀ q,F1 q→q<w2.heap.size := fun q hq => by have := hFn q hq; omega
 have hX6:¬ X q6 := fun h => h.elim hF6 (by omega)
 have hX12:¬ X b12 := fun h => h.elim hF12 (by omega)
 have hXr1:¬ X w2.heap.size := fun h => h.elim (fun h => by have := hF2 _ h; omega) (by omega)
 have hXr2:¬ X (w2.heap.size+1) := fun h => h.elim (fun h => by have := hF2 _ h; omega) (by omega)
 have hkept:∀ K,ExtP X w3.heap K→SeqV writeE K a (blksW (fmtP N s xs) f) := fun K hK => (hms3.extP hK (fun k hk h0 hx => hx.elim (fun h => by have := hFn k h; omega) (by omega))).view
 have hH0:H0.size≤w3.heap.size := hJL3.jin.ext.size
 have hPl:∀ k,k<f→(fmtP N s xs k).length=128 := by
  intro k hk
  unfold fmtP
  have hbl:(emptyP (N:Int) s (firstN (N:Int) s)).bits.length=N := by simp only [emptyP]; rw [setAll_length,List.length_replicate,Int.toNat_natCast]
  rw [List.length_take,List.length_drop,fixE_length (by omega) (by have := hxs.len; rw [hbl] at this; exact this),hf,Int.toNat_natCast]
  have:(k+1)*128≤f*128 := Nat.mul_le_mul_right _ hk
  omega
 apply wp_block
 refine range_heap (gf := 184) (lb := [.pointer (some ⟨w2.heap.size,0,none⟩),.pointer (some ⟨w2.heap.size+1,0,none⟩)]) (haC.agree 81 _ rfl) enters184 (chunk184_seq w2.heap.size (w2.heap.size+1) a f c st hst (by omega) (by omega) hcap) (fun k => rfl)
  (FmI H0 w3.heap X pj pd n z f st (w3.heap.size+2) (fmtP N s xs)) (fun _ => False) ?_ ?_ ?_ (fun H rec h => h.elim)
  (fun k a' => Ag Tryz.f40.ntmps [(10,.v (.pointer (some ⟨b12,0,none⟩))),(16,.v (chunkAt a f st 2 k))] a') ?_ ?_ ?_ (fun W h => h.elim)
 ·rintro k K ⟨_,_,Fk,Jk,Dk,hxk,_⟩
  have h1 := hr1.extP hxk hXr1
  have h2 := hr2.extP hxk hXr2
  exact ⟨by rw [h1.cell]; rfl,by rw [h2.cell]; rfl⟩
 ·intro rec
  have hx4:Ext [] w3.heap ((w3.heap.push (.deferred (some []))).push (.loop rec)) := ⟨by simp; omega,fun k hk _ => by rw [Array.getElem?_push,if_neg (by simp; omega),Array.getElem?_push,if_neg (by omega)]⟩
  refine ⟨Nat.zero_le _,by simp,F1,J,D1,hx4.anyP,fun q h => .inl h,fun q h => .inl (by have := hF2 q h; omega),fun q h => by have := hF2 q h; have := hx4.size; omega,?_,hfu⟩
  have e0:overT (fun _ => zeros) ((blksW (fmtP N s xs) f).take (0*st))=fun _ => zeros := by
   rw [Nat.zero_mul,List.take_zero]; funext k; simp [overT,tAll,tGet]
  rw [e0]
  exact (hJL3.more hx4).up (by omega) (by omega) (fun _ h => h)
 ·rintro k K rec ⟨hkl,hsz,Fk,Jk,Dk,hxk,hF,hFl,hFs,hj,hfk⟩
  have hne:¬ Fk (w3.heap.size+1) := fun h => by have := hFl _ h; omega
  refine ⟨hkl,by simpa using hsz,Fk,Jk,Dk,hxk.trans' (ext_set K (w3.heap.size+1) (.loop rec)).toP (fun i hi => by simp only [List.mem_singleton] at hi; exact .inl (by omega)),hF,hFl,fun q hq => by have := hFs q hq; simpa using this,?_,hfk⟩
  exact hj.off (ext_set K (w3.heap.size+1) (.loop rec)) (fun k hk => by simp only [List.mem_singleton] at hk; subst hk; exact ⟨by omega,hne⟩)
 ·intro l k W
  obtain ⟨ya,yl,yc,he⟩:∃ ya yl yc,chunkAt a f st 2 k=.slice ya yl yc := ⟨_,_,_,rfl⟩
  have hact:Ag Tryz.f40.ntmps [(82,.v (.slice ya yl yc)),(10,.v (.pointer (some ⟨b12,0,none⟩)))] { tmps := (#[82].zip [chunkAt a f st 2 k].toArray).foldl (fun t (p,v) => t.setIfInBounds p v) a3.tmps,defers := [] } := by
   have hsz:a3.tmps.size=91 := haC.size
   refine ag_of (by simp [hsz,Tryz.ntmps40]) rfl [(82,.slice ya yl yc),(10,.pointer (some ⟨b12,0,none⟩))] ?_
   intro x hx
   simp only [List.mem_cons,List.mem_nil_iff,or_false] at hx
   rcases hx with rfl | rfl
   ·simp [hsz,he]
   ·have:(a3.tmps.setIfInBounds 82 (chunkAt a f st 2 k)).getD 10 undef=a3.tmps.getD 10 undef := by
     simp only [Array.getD_eq_getD_getElem?]
     rw [Array.getElem?_setIfInBounds_ne (by omega)]
    have h2 := haC.agree 10 (.v (.pointer (some ⟨b12,0,none⟩))) rfl
    simpa [this,SV.toV] using h2
  refine wpIn_mono (part_in Tryz.mixed (Fo24 ya yl yc W.heap fun v H' => v=.slice ya yl yc∧H'=W.heap) ⟨rfl,rfl⟩ Tryz.func40 rfl rfl rfl hact (hact.pick (by
   intro x hx; simp only [List.mem_cons,List.mem_nil_iff,or_false] at hx; rcases hx with rfl; rfl)) rfl) ?_
  rintro e a' W' ⟨rfl,hs,vs,hl,⟨hv,hh⟩,ha'⟩
  rw [one_of hl,hv] at ha'
  rw [he]
  exact ⟨rfl,hs,hh,ha'.pick (by intro x hx; simp only [List.mem_cons,List.mem_nil_iff,or_false] at hx; rcases hx with rfl | rfl <;> rfl)⟩
 ·rintro k a' W rec hA ⟨hkl,hsz,Fk,Jk,Dk,hxk,hF,hFl,hFs,hj,hfk⟩ hfin hD hL
  have hlt:k*st<f := by
   have hfin:¬ f≤k*st := hfin
   omega
  have hkf:k<f := by
   have:k*1≤k*st := Nat.mul_le_mul_left k hst
   omega
  rw [chunkAt_pos hst hlt] at hA
  have hb12_k := hb12_3.extP hxk hX12
  obtain ⟨m,hm⟩:∃ m,min st (f - k*st)=m := ⟨_,rfl⟩
  rw [hm] at hA
  have hll:(((blksW (fmtP N s xs) f).drop (k*st)).take st).length=m := by rw [List.length_take,List.length_drop,blksW_length]; omega
  have hte:((blksW (fmtP N s xs) f).drop (k*st)).take st=((blksW (fmtP N s xs) f).drop (k*st)).take m := by
   apply List.ext_getElem?
   intro i
   rw [List.getElem?_take,List.getElem?_take]
   by_cases h1:i<m
   ·rw [if_pos h1,if_pos (by omega)]
   ·rw [if_neg h1]
    split
    ·rw [List.getElem?_drop,List.getElem?_eq_none (by rw [blksW_length]; omega)]
    ·rfl
  have hK:KeptW Fk W.heap (a.map (·.add (k*st*2))) (((blksW (fmtP N s xs) f).drop (k*st)).take m) := fun K hK => by
   have := hkept K (hxk.trans' hK (fun i hi => .inr (hF i hi)))
   exact this.sub (o := k*st) (n := m) (by rw [blksW_length]; omega)
  have hmay:MayP (((blksW (fmtP N s xs) f).drop (k*st)).take m) (n - 1 - z:Int) := by
   have := blks_may (N := N) hPl (by omega) (o := k*st) (n := m) (by omega) (by omega)
   have e:(N:Int)=n - 1 - z := by omega
   rw [← e]; exact this
  apply wpIn_block
  refine wpIn_seq (wpIn_mono (part_in Tryz.mixed (Fo25 b12 _ _ _ W.heap fun v H' => v=.int .i64 0∧FmI H0 w3.heap X pj pd n z f st (w3.heap.size+2) (fmtP N s xs) (k+1) H'∧H'[w3.heap.size]?=some (.deferred (some []))∧H'[w3.heap.size+1]?=some (.loop rec)) ⟨some ⟨pj,0,none⟩,by rw [hb12_k.cell]; rfl,?_⟩ Tryz.func40 rfl rfl rfl hA hA rfl) ?_)
  ·have hcm := hj.commit (S' := fun _ => True) (by omega) (fun _ h => h) trivial hK (by rw [← hte,hll]; omega) (c := m)
   rw [← hte] at hcm
   rw [hll] at hcm
   refine hcm.mono ?_
   rw [← hte] at hmay
   rintro v H' ⟨hx',e,J',D',rfl,_,(⟨g1,_⟩ | ⟨_,g2,_⟩ | ⟨_,_,rfl,g4,g5⟩ | ⟨_,_,_,_,g5⟩)⟩
   ·exact absurd hmay g1
   ·have := hnd m (by omega) (by omega)
    omega
   ·have hsz' := hx'.size
    refine ⟨0,rfl,rfl,⟨by omega,by omega,grow Fk W.heap H',J',D',hxk.trans' hx' (fun i hi => .inr (hF i hi)),fun q hq => ?_,fun q hq => ?_,g4.lt,?_,g5 hfk⟩,?_,?_⟩
    ·rcases hq with hq | hq
     ·exact hF q hq
     ·exact .inr (by omega)
    ·rcases hq with hq | hq
     ·exact hFl q hq
     ·exact .inr (by omega)
    ·have e1:overT (overT (fun _ => zeros) ((blksW (fmtP N s xs) f).take (k*st))) (((blksW (fmtP N s xs) f).drop (k*st)).take st)=overT (fun _ => zeros) ((blksW (fmtP N s xs) f).take ((k+1)*st)) := by
      rw [← over_app,← List.take_add,Nat.succ_mul]
     rw [e1] at g4
     exact g4.up (by omega) (by omega) (fun _ h => h)
    ·rw [hx'.keep _ (by omega) (fun h => by have := hFl _ h; omega)]; exact hD
    ·rw [hx'.keep _ (by omega) (fun h => by have := hFl _ h; omega)]; exact hL
   ·exact absurd hfk g5
  ·rintro e a2' W2 ⟨rfl,hsW,vs,hlW,⟨hvW,hI2,hD2,hL2⟩,haW⟩
   rw [one_of hlW,hvW] at haW
   have haW':Ag Tryz.f40.ntmps [(17,.v (.int .i64 0))] a2' := haW.pick (by
    intro x hx; simp only [List.mem_cons,List.mem_nil_iff,or_false] at hx; rcases hx with rfl; rfl)
   show Code.wpIn _ _ _ _ _ _ _
   refine wpIn_seq (wpIn_mono (part_in Tryz.mixed (Fo26 0 W2.heap fun v H' => v=.bool false∧H'=W2.heap) ⟨by simp,rfl⟩ Tryz.func40 rfl rfl rfl haW' haW' rfl) ?_)
   rintro e a3' W3 ⟨rfl,hs3',vs,hl3',⟨hv3',hh3⟩,ha3'⟩
   rw [one_of hl3',hv3'] at ha3'
   show Code.wpIn _ _ _ _ _ _ _
   refine wpIn_cond (t := false) (ha3'.agree 87 (.v (.bool false)) rfl) ?_
   simp only [Bool.false_eq_true,if_false]
   refine wpIn_skip ?_
   exact ⟨hsW.trans hs3',by rw [hh3]; exact hD2,by rw [hh3]; exact hL2,.inl ⟨rfl,by rw [hh3]; exact hI2⟩⟩
 ·rintro k W hfin ⟨hkl,hsz,Fk,Jk,Dk,hxk,hF,hFl,hFs,hj,hfk⟩ hD hsim
  have hge:f≤k*st := hfin
  have hcur:overT (fun _ => zeros) ((blksW (fmtP N s xs) f).take (k*st))=fmtHm N s xs := by
   rw [List.take_of_length_le (by rw [blksW_length]; exact hge),over_blks]
   funext i
   unfold fmtHm
   rw [hf,Int.toNat_natCast]
  rw [hcur] at hj
  show Code.wp _ _ _ _ _
  have haT:Ag Tryz.f40.ntmps [(10,.v (.pointer (some ⟨b12,0,none⟩))),(6,.v (.pointer (some ⟨q6,0,none⟩)))] { tmps := a3.tmps,defers := [] } := by
   have := haC.pick (S' := [(10,.v (.pointer (some ⟨b12,0,none⟩))),(6,.v (.pointer (some ⟨q6,0,none⟩)))]) (by intro x hx; simp only [List.mem_cons,List.mem_nil_iff,or_false] at hx; rcases hx with rfl | rfl <;> rfl)
   exact ⟨this.size,rfl,this.agree⟩
  have hb12_k := hb12_3.extP hxk hX12
  have hb6_k := hb6_3.extP hxk hX6
  have hwH:H0.size≤w.heap.size := hd.ext.size
  have zW := hxk.size
  have z1 := hx1.size
  have z2 := hxA.size
  have hXw:∀ q,X q→F q∨w.heap.size≤q := fun q hq => by
   rcases hq with hq | hq
   ·exact hFF q hq
   ·exact .inr (by omega)
  have hxW:ExtP (fun q => F q∨w.heap.size≤q) w.heap W.heap := ((hx1.anyP.trans hxA).trans hx3.anyP).trans' hxk (fun q hq => .inr (hXw q hq))
  refine wp_seq (wp_mono (part_with (Fo28 b12 q6 W.heap fun v H' => ∃ (F':Nat→Prop) (J':Jn) (D':Dev),JL H0 H' F' pj pd n z (10000+14100*k+14100) J' D' (fmtHm N s xs) (fun _ => True)∧D'.fuse=-1∧Blk H' q6 [.int .i64 0]∧H'[w3.heap.size]?=some (.deferred (some [])) ∧
   ExtP (fun q => F q∨w.heap.size≤q) w.heap H'∧(∀ q,F' q→X q)∧¬ F' w3.heap.size) ⟨some ⟨pj,0,none⟩,by rw [hb12_k.cell]; rfl,?_⟩ Tryz.func40 rfl rfl haT haT rfl) ?_)
  ·refine (hj.sync (S' := fun _ => True) (by omega) trivial).mono ?_
   rintro v H3 ⟨hx',J',D',(⟨rfl,g1,g2⟩ | ⟨_,_,_,g2⟩)⟩
   ·have z3' := hx'.size
    have hb6_4 := hb6_k.extP hx' (fun h => hX6 (hF _ h))
    refine ⟨0,rfl,hb6_4.cells _ _ (by simp),fun H5 hp => ?_⟩
    have hx5 := hp.ext
    have hng6:¬ grow Fk W.heap H3 q6 := fun h => h.elim (fun h => hX6 (hF _ h)) (fun h => by omega)
    have hngd:¬ grow Fk W.heap H3 w3.heap.size := fun h => h.elim (fun h => by have := hFl _ h; omega) (fun h => by omega)
    refine ⟨grow Fk W.heap H3,J',D',g1.off hx5 (fun q hq => by simp only [List.mem_singleton] at hq; subst hq; exact ⟨by omega,hng6⟩),g2 hfk,hp.blk hb6_4 (by simp),?_,?_,?_,hngd⟩
    ·rw [hx5.keep _ (by omega) (by simp only [List.mem_singleton]; omega),hx'.keep _ (by omega) (fun h => by have := hFl _ h; omega)]
     exact hD
    ·exact (hxW.trans' hx' (fun q hq => .inr (hXw q (hF q hq)))).trans' hx5.toP (fun q hq => by simp only [List.mem_singleton] at hq; exact .inr (.inr (by omega)))
    ·rintro q (hq | hq)
     ·exact hF q hq
     ·exact .inr (by omega)
   ·exact absurd hfk g2
  ·rintro e a5 w5 ⟨⟨rfl,hs5,vs,hl5,⟨F',J',D',g1,g2,g3,g4,g5,g6,g7⟩,ha5⟩,hd5⟩
   refine wp_ret ?_
   show LeavesInM _ _ _ _ _ _ a5.defers _ _
   rw [hd5]
   refine ⟨by simp,.inl ⟨w3.heap.size,_,rfl,run_takeDeferred g4,?_⟩⟩
   show LeavesInM _ _ _ _ _ _ a3.defers _ _
   rw [haC.defers]
   have hx6 := ext_set w5.heap w3.heap.size (.deferred none)
   have hb6_5:Blk (w5.heap.setIfInBounds w3.heap.size (.deferred none)) q6 [.int .i64 0] := g3.ext hx6 (by simp only [List.mem_singleton]; omega)
   have hsW:Sim w w5 := ((hs2.trans hs3).trans hsim).trans hs5
   refine ⟨.int .i64 0,results40 (a := a5) (p6 := q6) ?_ ?_,.int .i64 0,rfl,⟨hsW.os,hsW.tape,hsW.output⟩,?_⟩
   ·intro t s' ht
    rw [get_cons] at ht
    split at ht
    ·rename_i e; subst e; cases ht
     exact ha5.agree 6 (.v (.pointer (some ⟨q6,0,none⟩))) rfl
    ·cases ht
   ·show hcell (w5.heap.setIfInBounds w3.heap.size (.deferred none)) q6 0=_
    rw [hb6_5.cell]; rfl
   ·have g1' := g1.off hx6 (fun q hq => by simp only [List.mem_singleton] at hq; subst hq; exact ⟨by omega,g7⟩)
    obtain ⟨e,sq,T,ff,base,hlv,hcb,_⟩ := g1'.live
    refine ⟨rfl,F',D',10000+14100*k+14100,xs,g1'.jin.dv,by omega,g2,hlv.dead,hN ▸ hxs,?_,?_,fun q hq => hXw q (g6 q hq)⟩
    ·rw [← hN,hcb]
     exact ⟨e,sq,T,hlv.sure.1⟩
    ·exact g5.trans' hx6.toP (fun q hq => by simp only [List.mem_singleton] at hq; exact .inr (.inr (by omega)))
end Go.Proofs
end

section
open Go Go.Vc Go.Proofs.Bx
namespace Go.Proofs
theorem toU_append (a b:List Int):toU (a++b)=toU a++toU b := by simp [toU]
theorem toU_flat {α:Type} (g:α→List Int) (l:List α):toU ((l.map g).flatten)=(l.map fun x => toU (g x)).flatten := by
 induction l with
 | nil => rfl
 | cons x r ih => rw [List.map_cons,List.flatten_cons,toU_append,ih]; rfl
theorem be_one {v:Int} (h0:0≤v) (h1:v<256):be (beL 1 v)=v := by simp [be,beL]; omega
theorem numB_app {n:Nat} {v:Int} {ys:Octs} (h:be (beL n v)=v):numU (toU (beL n v)++ys,false) n=v := by
 unfold numU
 rw [show toU (beL n v)=beU n v from rfl,rdU_app (beU_len n _),toI_beU,h]
theorem rdB_app {n:Nat} {v:Int} {ys:Octs}:rdN (toU (beL n v)++ys,false) n=(ys,false) := by
 unfold rdN
 rw [show toU (beL n v)=beU n v from rfl,rdU_app (beU_len n _)]
def SlSmall (s:PSl):Prop := s.ps.length≤6∧0≤s.size∧s.size<4294967296∧0≤s.refs∧s.refs<65536∧∀ p∈s.ps,0≤p.s∧p.s<65536∧0≤p.c∧p.c<65536
theorem SlSmall.ok {s:PSl} (h:SlSmall s):SlotOk s := by
 obtain ⟨h1,h2,h3,h4,h5,h6⟩ := h
 exact ⟨h1,h2,by omega,h4,by omega,fun p hp => by have := h6 p hp; omega⟩
theorem pc_read:∀ (l:List Pc) (r:Octs),(∀ p∈l,0≤p.s∧p.s<65536∧0≤p.c∧p.c<65536)→∀ k,k≤l.length→pcSt (((l.map fun p => toU (pcO p)).flatten)++r,false) k=((((l.drop k).map fun p => toU (pcO p)).flatten)++r,false)
 | l,r,h,0,_ => rfl
 | l,r,h,k+1,hk => by
  have hk':k<l.length := by omega
  rw [pcSt,pc_read l r h k (by omega),List.drop_eq_getElem_cons hk',List.map_cons,List.flatten_cons]
  unfold pcO
  rw [toU_append,List.append_assoc,List.append_assoc,rdB_app,rdB_app]
theorem pcs_read {l:List Pc} {r:Octs} (h:∀ p∈l,0≤p.s∧p.s<65536∧0≤p.c∧p.c<65536):pcsTo (((l.map fun p => toU (pcO p)).flatten)++r,false) l.length=l := by
 apply List.ext_getElem
 ·simp [pcsTo]
 ·intro i h1 h2
  have hp := h _ (List.getElem_mem h2)
  simp only [pcsTo,List.getElem_map,List.getElem_range]
  unfold pcAt
  rw [pc_read l r h i (by omega),List.drop_eq_getElem_cons h2,List.map_cons,List.flatten_cons]
  have e:toU (pcO l[i])=toU (beL 2 l[i].s)++toU (beL 2 l[i].c) := by unfold pcO; rw [toU_append]
  rw [e,List.append_assoc,List.append_assoc,numB_app (be_two (by omega) (by omega)),rdB_app,numB_app (be_two (by omega) (by omega))]
theorem slotO_eq (s:PSl):∃ z,slotO s=toU (beL 4 s.size)++(toU (beL 2 s.refs)++(toU (beL 1 s.ps.length)++(toU (beL 1 0)++((s.ps.map fun p => toU (pcO p)).flatten++z)))) := by
 refine ⟨toU (List.replicate (32 - (layI s.size s.refs s.ps).length) 0),?_⟩
 unfold slotO slotI
 have e:toU (layI s.size s.refs s.ps)=toU (beL 4 s.size)++(toU (beL 2 s.refs)++(toU (beL 1 s.ps.length)++(toU (beL 1 0)++(s.ps.map fun p => toU (pcO p)).flatten))) := by
  simp only [layI,toU_append,toU_flat,List.append_assoc]
 rw [toU_append,e]
 simp only [List.append_assoc]
theorem parse_slot {s:PSl} (h:SlSmall s):parseSl (slotO s)=s := by
 obtain ⟨h1,h2,h3,h4,h5,h6⟩ := h
 obtain ⟨z,e⟩ := slotO_eq s
 unfold parseSl
 rw [e,numB_app (be_four h2 h3),rdB_app,numB_app (be_two h4 h5),rdB_app,numB_app (be_one (by omega) (by omega)),rdB_app,rdB_app]
 have e6:min (((s.ps.length:Nat):Int)).toNat 6=s.ps.length := by omega
 rw [e6,pcs_read h6]
theorem chunk_flat {m:Nat}:∀ {l:List Octs} {r:Octs} {j:Nat} {x:Octs},(∀ y∈l,y.length=m)→l[j]?=some x→((l.flatten++r).drop (j*m)).take m=x
 | [],r,j,x,_,hx => by simp at hx
 | y::l,r,0,x,h,hx => by
  simp only [List.getElem?_cons_zero,Option.some.injEq] at hx
  subst hx
  rw [Nat.zero_mul,List.drop_zero,List.flatten_cons,List.append_assoc,List.take_left' (h y (by simp))]
 | y::l,r,j+1,x,h,hx => by
  have hy := h y (by simp)
  rw [List.flatten_cons,List.append_assoc,Nat.succ_mul,Nat.add_comm,← List.drop_drop,List.drop_left' hy]
  exact chunk_flat (l := l) (fun z hz => h z (by simp [hz])) (by simpa using hx)
theorem fix_length {N:Nat} {s:Int} {xs:Octs} {sl:List PSl} (hs:0≤s) (hx:xs.length=(N+7) / 8) (hl:sl.length=s.toNat) (hok:∀ y∈sl,SlotOk y):(fixO s xs sl).length=(firstN N s).toNat*128∧(padO (beU 2 (w64 s))++padO xs).length=((1+bitsN N)*128).toNat := by
 have h2 := padO_length (beU 2 (w64 s))
 have h3 := padO_length xs
 have h4 := padO_length ((sl.map slotO).flatten)
 have h5 := slotOs_length (l := sl) hok
 have h7:(beU 2 (w64 s)).length=2 := beU_len _ _
 unfold fixO
 rw [List.length_append,List.length_append,h2,h3,h4,h5,hl,h7,hx]
 unfold firstN bitsN
 rw [Int.toNat_natCast]
 omega
theorem load_of {N:Nat} {s:Int} {st:PSt} {cur:Nat→Octs} {xs:Octs} (hg:¬ laidBad N s) (hr:firstN N s<N) (hN:N≤4096) (hb:BytesAre st.bits xs) (hl:st.bits.length=N) (hsl:st.slots.length=s.toNat)
  (hcur:∀ k:Nat,(k:Int)<firstN N s→cur k=((fixO s xs st.slots).drop (k*128)).take 128)
  (hok:∀ y∈st.slots,SlSmall y∧((y.refs=0∧y.size=0∧y.ps=[])∨(y.refs≠0∧RightP y.ps (firstN N s) N∧countF y.ps=blocksF y.size)))
  (hone:(allBlk st.slots).Nodup) (hbits:st.bits=setAll (firstB N (firstN N s)) (allBlk st.slots) true)
  (hdata:st.data=fun k => if firstN N s≤k∧k<N∧onB st.bits k.toNat=true then some (cur k.toNat) else none):headN cur=s∧LoadOk N cur st := by
 have h0:¬ (s<1∨256<s∨(N:Int)<1) := hg
 have hbb := bitsN_bd (N := N) (by omega)
 have hfd:firstN (N:Int) s=1+bitsN N+(s+3) / 4 := rfl
 have hxl:xs.length=(N+7) / 8 := by rw [hb.len,hl]
 obtain ⟨hfl,hpl⟩ := fix_length (N := N) (s := s) (xs := xs) (sl := st.slots) (by omega) hxl hsl (fun y hy => (hok y hy).1.ok)
 have hcat:catP cur (firstN N s).toNat=fixO s xs st.slots := by
  unfold catP
  have e:(List.range (firstN N s).toNat).map cur=(List.range (firstN N s).toNat).map (fun k => ((fixO s xs st.slots).drop (k*128)).take 128) := by
   apply List.map_congr_left
   intro k hk
   have := List.mem_range.1 hk
   exact hcur k (by omega)
  rw [e,pieces_all 128 _ _ hfl]
 have hhead:headN cur=s := by
  unfold headN
  rw [hcur 0 (by omega),Nat.zero_mul,List.drop_zero]
  unfold fixO
  conv => lhs; unfold padO
  rw [List.append_assoc,List.append_assoc,List.take_append,List.take_of_length_le (by rw [beU_len]; omega)]
  exact numU2_app (by omega) (by omega)
 have hpiece:∀ (j:Nat) (y:PSl),st.slots[j]?=some y→pieceO N cur j=slotO y := by
  intro j y hy
  unfold pieceO
  rw [hhead,hcat]
  have e:fixO s xs st.slots=(padO (beU 2 (w64 s))++padO xs)++(((st.slots.map slotO).flatten)++List.replicate ((blocksF ((st.slots.map slotO).flatten).length).toNat*128 - ((st.slots.map slotO).flatten).length) 0) := rfl
  rw [e,← hpl,← List.drop_drop,List.drop_left]
  refine chunk_flat (fun z hz => ?_) (by rw [List.getElem?_map,hy]; rfl)
  obtain ⟨y',hy',rfl⟩ := List.mem_map.1 hz
  exact slotO_length (hok y' hy').1.ok
 have hsls:st.slots=slotsL N cur s.toNat := by
  apply List.ext_getElem?
  intro j
  by_cases hj:j<s.toNat
  ·have hy := List.getElem?_eq_getElem (l := st.slots) (i := j) (by omega)
   rw [hy]
   have e:(slotsL N cur s.toNat)[j]?=some (parseSl (pieceO N cur j)) := by simp [slotsL,hj]
   rw [e,hpiece j _ hy,parse_slot (hok _ (List.getElem_mem (by omega))).1]
  ·rw [List.getElem?_eq_none (by omega),List.getElem?_eq_none (by rw [slotsL_length]; omega)]
 refine ⟨hhead,⟨by rw [hhead]; exact hg,by rw [hhead]; exact hr,by rw [hhead]; exact hsls,fun k hk => ?_,hone,by rw [hhead]; exact hbits,fun ys hys => by rw [hhead,hcat,hys.one hb],by rw [hhead]; exact hdata⟩⟩
 rw [hhead] at hk ⊢
 have hk':k<st.slots.length := by omega
 have hy := List.getElem?_eq_getElem hk'
 obtain ⟨h1,h2⟩ := hok _ (List.getElem_mem hk')
 rw [hpiece k _ hy]
 refine ⟨by rw [parse_slot h1],?_⟩
 rw [parse_slot h1]
 exact h2
theorem LoadOk.one {N:Nat} {cur:Nat→Octs} {st st':PSt} (h:LoadOk N cur st) (h':LoadOk N cur st'):st=st' := by
 have e1:st.slots=st'.slots := by rw [h.slots,h'.slots]
 have e2:st.bits=st'.bits := by rw [h.bits,h'.bits,e1]
 have e3:st.data=st'.data := by rw [h.data,h'.data,e2]
 cases st; cases st'
 simp only at e1 e2 e3
 subst e1; subst e2; subst e3
 rfl
theorem allBlk_none {l:List PSl} (h:∀ y∈l,y.ps=[]):allBlk l=[] := by
 induction l with
 | nil => rfl
 | cons y r ih =>
  have e:allBlk (y::r)=blocksI y.ps++allBlk r := by simp [allBlk]
  rw [e,ih (fun z hz => h z (by simp [hz])),h y (by simp)]
  simp [blocksI]
theorem load_empty {N:Nat} {s:Int} {xs:Octs} (hg:¬ laidBad N s) (hr:firstN N s<N) (hN:N≤4096) (hb:BytesAre (emptyP N s (firstN N s)).bits xs) {cur:Nat→Octs} (hcur:∀ k:Nat,(k:Int)<firstN N s→cur k=((fixO s xs (emptyP N s (firstN N s)).slots).drop (k*128)).take 128) :
  headN cur=s∧LoadOk N cur (emptyP N s (firstN N s)) := by
 have h0:¬ (s<1∨256<s∨(N:Int)<1) := hg
 have hbb := bitsN_bd (N := N) (by omega)
 have hfd:firstN (N:Int) s=1+bitsN N+(s+3) / 4 := rfl
 have hno:allBlk (emptyP N s (firstN N s)).slots=[] := allBlk_none fun y hy => by
  have := List.eq_of_mem_replicate hy
  subst this; rfl
 have hbits:(emptyP N s (firstN N s)).bits=firstB N (firstN N s) := by
  unfold emptyP firstB
  rfl
 refine load_of hg hr hN hb (by simp only [emptyP]; rw [setAll_length,List.length_replicate,Int.toNat_natCast]) (by simp [emptyP]) hcur (fun y hy => ?_) (by rw [hno]; simp) (by rw [hno,hbits]; rfl) ?_
 ·have := List.eq_of_mem_replicate hy
  subst this
  exact ⟨⟨by simp,by simp,by simp,by simp,by simp,by simp⟩,.inl ⟨rfl,rfl,rfl⟩⟩
 ·funext k
  show none=_
  rw [if_neg]
  rintro ⟨h1,h2,h3⟩
  rw [hbits] at h3
  unfold firstB at h3
  rw [onB_setAll _ _ _ (fun x hx => by
   obtain ⟨j,hj,rfl⟩ := List.mem_map.1 hx
   have := List.mem_range.1 hj
   rw [List.length_replicate]
   omega)] at h3
  rw [if_neg (fun hm => by
   obtain ⟨j,hj,e⟩ := List.mem_map.1 hm
   have := List.mem_range.1 hj
   omega)] at h3
  unfold onB at h3
  simp [List.getD_eq_getElem?_getD,List.getElem?_replicate] at h3
  split at h3 <;> simp at h3
end Go.Proofs
end

section
open Go Go.Vc Go.Proofs.Bx
namespace Go.Proofs
theorem offs_off (p:Nat→Bool):∀ (F k c E:Nat),k+F=E→(∀ i,k≤i→i<E→p i=false)→offs p F k c=(List.range (min c (E - k))).map fun (j:Nat) => ((k+j:Nat):Int)
 | 0,k,c,E,h,_ => by
  have e:min c (E - k)=0 := by omega
  rw [e]; simp [offs]
 | F+1,k,0,E,h,_ => by simp [offs]
 | F+1,k,c+1,E,h,hp => by
  rw [offs,hp k (by omega) (by omega)]
  show (k:Int)::offs p F (k+1) c=_
  rw [offs_off p F (k+1) c E (by omega) (fun i h1 h2 => hp i (by omega) h2)]
  have e:min (c+1) (E - k)=min c (E - (k+1))+1 := by omega
  rw [e,List.range_succ_eq_map,List.map_cons,List.map_map]
  congr 1
  apply List.map_congr_left
  intro j _
  simp only [Function.comp_apply]
  omega
theorem offs_run (p:Nat→Bool) (m E:Nat) (hoff:∀ i,m≤i→i<E→p i=false):∀ (F k c:Nat),k+F=E→k≤m→(∀ i,k≤i→i<m→p i=true)→m≤E→offs p F k c=(List.range (min c (E - m))).map fun (j:Nat) => ((m+j:Nat):Int)
 | F,k,c,h,hk,hon,hm => by
  by_cases e:k=m
  ·subst e
   exact offs_off p F k c E h hoff
  ·match F,c with
   | 0,c => omega
   | F+1,0 => simp [offs]
   | F+1,c+1 =>
    rw [offs,hon k (Nat.le_refl _) (by omega)]
    exact offs_run p m E hoff F (k+1) (c+1) (by omega) (by omega) (fun i h1 h2 => hon i (by omega) h2) hm
theorem found_run {bs:List Bool} {f m need:Nat} (hf:f≤m) (hm:m≤bs.length) (hon:∀ i,f≤i→i<m→onB bs i=true) (hoff:∀ i,m≤i→i<bs.length→onB bs i=false) :
  foundF bs f need=(List.range (min need (bs.length - m))).map fun (j:Nat) => ((m+j:Nat):Int) := by
 unfold foundF
 rw [Int.toNat_natCast]
 exact offs_run (onB bs) m bs.length hoff _ f need (by omega) hf hon hm
theorem found_blk {bs:List Bool} {f m need:Nat} (hf:f≤m) (hm:m+need≤bs.length) (hon:∀ i,f≤i→i<m→onB bs i=true) (hoff:∀ i,m≤i→i<bs.length→onB bs i=false) :
  foundF bs f need=blkI ⟨m,need⟩ := by
 rw [found_run hf (by omega) hon hoff,show min need (bs.length - m)=need by omega]
 unfold blkI
 simp only [Int.toNat_natCast]
 apply List.map_congr_left
 intro j _
 omega
theorem countF_nil:countF []=0 := by unfold countF; split <;> rfl
theorem piecesF_one {m need:Int} (h:1≤need):piecesF (blkI ⟨m,need⟩)=[⟨m,need⟩] := by
 have := piecesF_blocks (l := [⟨m,need⟩]) (fun p hp => by simp only [List.mem_singleton] at hp; subst hp; exact h) ⟨fun q hq => by simp at hq,trivial⟩
 rwa [show blocksI [⟨m,need⟩]=blkI ⟨m,need⟩ by simp [blocksI]] at this
def flSl (T:Nat→Bool) (f need size:Nat) (k:Nat):PSl := if T k=true then ⟨size,1,[⟨((f+k*need:Nat):Int),need⟩]⟩ else ⟨0,0,[]⟩
structure Flt (N f need size:Nat) (T:Nat→Bool) (st:PSt):Prop where
 slots:st.slots=(List.range 30).map (flSl T f need size)
 len:st.bits.length=N
 bits:∀ i,i<N→(onB st.bits i=true↔i<f∨∃ k,k<30∧T k=true∧f+k*need≤i∧i<f+(k+1)*need)
 room:∀ k,k<30→T k=true→f+(k+1)*need≤N
 num:1≤need∧N≤4096∧f≤N
section
variable {N f need size:Nat} {T:Nat→Bool} {st:PSt}
theorem Flt.slot (h:Flt N f need size T st) {k:Nat} {s:PSl} (hs:st.slots[k]?=some s):k<30∧s=flSl T f need size k := by
 rw [h.slots,List.getElem?_map] at hs
 by_cases hk:k<30
 ·rw [List.getElem?_range hk] at hs
  simp only [Option.map_some,Option.some.injEq] at hs
  exact ⟨hk,hs.symm⟩
 ·rw [List.getElem?_eq_none (by rw [List.length_range]; omega)] at hs
  cases hs
theorem Flt.at_ (h:Flt N f need size T st) {k:Nat} (hk:k<30):st.slots[k]?=some (flSl T f need size k) := by
 rw [h.slots,List.getElem?_map,List.getElem?_range hk]; rfl
theorem flSl_refs (k:Nat):(flSl T f need size k).refs=0↔T k=false := by
 unfold flSl; split <;> simp_all
theorem Flt.length (h:Flt N f need size T st):st.slots.length=30 := by rw [h.slots]; simp
theorem Flt.fine (h:Flt N f need size T st):Fine st f := by
 obtain ⟨n1,n2,n3⟩ := h.num
 refine ⟨by rw [h.len]; omega,by omega,fun k s hs => ?_⟩
 obtain ⟨hk,rfl⟩ := h.slot hs
 unfold flSl
 split
 ·rename_i ht
  have hr := h.room k hk ht
  rw [Nat.add_mul] at hr
  refine ⟨by simp,fun i p hp => ?_⟩
  match i,hp with
  | 0,hp =>
   simp only [List.getElem?_cons_zero,Option.some.injEq] at hp
   subst hp
   refine ⟨⟨by simp only; omega,by simp only; omega,by simp only [h.len]; omega,by simp only [h.len]; omega⟩,fun k q hk => by omega⟩
  | i+1,hp => simp at hp
 ·exact right_nil' _ _
theorem Flt.few (h:Flt N f need size T st):∀ (k:Nat) (s:PSl),st.slots[k]?=some s→s.refs≤1000000 := by
 intro k s hs
 obtain ⟨_,rfl⟩ := h.slot hs
 unfold flSl
 split <;> simp
def upTo (n:Nat):Nat→Bool := fun k => decide (k<n)
theorem Flt.bits_up {n:Nat} (h:Flt N f need size (upTo n) st) (hn:n≤30):∀ i,i<N→(onB st.bits i=true↔i<f+n*need) := by
 intro i hi
 rw [h.bits i hi]
 constructor
 ·rintro (h1 | ⟨k,_,hk,h1,h2⟩)
  ·omega
  ·have hk:k<n := by simpa [upTo] using hk
   have := Nat.mul_le_mul_right need (show k+1≤n from hk)
   omega
 ·intro h1
  by_cases hf:i<f
  ·exact .inl hf
  ·refine .inr ⟨(i - f) / need,?_,?_,?_,?_⟩
   ·have:(i - f) / need<n := (Nat.div_lt_iff_lt_mul h.num.1).2 (by omega)
    omega
   ·have:(i - f) / need<n := (Nat.div_lt_iff_lt_mul h.num.1).2 (by omega)
    simpa [upTo] using this
   ·have := Nat.div_mul_le_self (i - f) need
    omega
   ·have := Nat.lt_div_mul_add h.num.1 (a := i - f)
    rw [Nat.add_mul]
    omega
theorem Flt.roomN {n:Nat} (h:Flt N f need size (upTo n) st) (hn:n≤30):f+n*need≤N := by
 by_cases e:n=0
 ·subst e; have := h.num.2.2; omega
 ·have := h.room (n - 1) (by omega) (by simp [upTo]; omega)
  rw [show n - 1+1=n by omega] at this
  exact this
theorem Flt.freeAt {n:Nat} (h:Flt N f need size (upTo n) st) (hn:n≤30) {k:Nat} (hk:freeP st=(k:Int)):k=n∧n<30 := by
 unfold freeP at hk
 split at hk
 ·rename_i j hj
  obtain ⟨h1,h2,h3⟩ := List.findIdx?_eq_some_iff_getElem.1 hj
  have h1':j<st.slots.length := by simpa using h1
  have hj30:j<30 := by rw [h.length] at h1'; exact h1'
  have e0:(flSl (upTo n) f need size j).refs=0 := by
   have e := h.at_ hj30
   rw [List.getElem?_eq_getElem h1',Option.some.injEq] at e
   rw [← e]
   simpa using h2
  have hnj:¬ j<n := by
   have := (flSl_refs j).1 e0
   simpa [upTo] using this
  have:¬ n<j := fun hlt => by
   have h4 := h3 n hlt
   have e := h.at_ (k := n) (by omega)
   rw [List.getElem?_eq_getElem (by rw [h.length]; omega),Option.some.injEq] at e
   have h4:¬ (st.slots[n]'(by rw [h.length]; omega)).refs=0 := by simpa using h4
   rw [e] at h4
   exact h4 ((flSl_refs n).2 (by simp [upTo]))
  omega
 ·omega
theorem Flt.noFree {n:Nat} (h:Flt N f need size (upTo n) st) (hn:n≤30) (hk:freeP st<0):n=30 := by
 unfold freeP at hk
 split at hk
 ·omega
 ·rename_i hj
  rw [List.findIdx?_eq_none_iff] at hj
  by_cases e:n=30
  ·exact e
  ·exfalso
   have h1 := List.mem_of_getElem? (h.at_ (k := n) (by omega))
   have := hj _ (List.mem_map_of_mem (f := (·.refs)) h1)
   rw [(flSl_refs n).2 (by simp [upTo])] at this
   simp at this
theorem Flt.found {n:Nat} (h:Flt N f need size (upTo n) st) (hn:n≤30) (hm:f+n*need+need≤N):foundF st.bits f need=blkI ⟨((f+n*need:Nat):Int),need⟩ :=
 found_blk (by omega) (by rw [h.len]; omega) (fun i _ h2 => (h.bits_up hn i (by omega)).2 h2) (fun i h1 h2 => by
  rw [h.len] at h2
  have := h.bits_up hn i h2
  cases e:onB st.bits i with
  | false => rfl
  | true => have := this.1 e; omega)
theorem Flt.grow {n:Nat} (h:Flt N f need size (upTo n) st) (hn:n≤30):growOk st.bits [] f need↔f+n*need+need≤N := by
 constructor
 ·rintro ⟨_,_,h3,_⟩
  by_cases hm:f+n*need+need≤N
  ·exact hm
  ·exfalso
   have hr := h.roomN hn
   rw [Int.toNat_natCast,found_run (m := f+n*need) (by omega) (by rw [h.len]; omega) (fun i _ h2 => (h.bits_up hn i (by omega)).2 h2) (fun i h1 h2 => by
    rw [h.len] at h2
    have := h.bits_up hn i h2
    cases e:onB st.bits i with
    | false => rfl
    | true => have := this.1 e; omega),List.length_map,List.length_range,h.len] at h3
   omega
 ·intro hm
  refine ⟨right_nil' _ _,by omega,?_,?_⟩
  ·rw [Int.toNat_natCast,h.found hn hm]; simp [blkI]
  ·rw [Int.toNat_natCast,h.found hn hm]
   show (piecesF (blocksI []++blkI _)).length≤6
   rw [show blocksI []++blkI ⟨((f+n*need:Nat):Int),need⟩=blkI ⟨((f+n*need:Nat):Int),need⟩ by simp [blocksI],piecesF_one (by have := h.num.1; omega)]
   simp
theorem Flt.create {n:Nat} (h:Flt N f need size (upTo n) st) (hn:n≤30) {xs:Octs} (hx:xs.length=size) (hb:blocksF size=need) {st':PSt} {id:Int} (ho:CreateOk f st xs st' id):id=n+1∧n<30∧f+n*need+need≤N∧Flt N f need size (upTo (n+1)) st' := by
 obtain ⟨_,k,s,ps',bits',h1,h2,h3,h4,h5,rfl⟩ := ho
 obtain ⟨rfl,hn30⟩ := h.freeAt hn h1
 obtain ⟨_,rfl⟩ := h.slot h3
 have es:flSl (upTo k) f need size k=⟨0,0,[]⟩ := by unfold flSl; rw [if_neg (by simp [upTo])]
 rw [es] at h3 h5 ⊢
 have hp := h.num.1
 rw [hx,hb] at h5
 unfold FillTo at h5
 simp only [countF_nil,Int.sub_zero] at h5
 rcases h5 with ⟨h5,_⟩ | ⟨_,h5,rfl,rfl⟩ | ⟨h5,_⟩
 ·omega
 ·have hm := (h.grow hn).1 h5
  have hfd := h.found hn hm
  have hgf:growF (refd st k ⟨0,0,[]⟩).bits [] f need=[⟨((f+k*need:Nat):Int),need⟩] := by
   unfold growF
   rw [show (refd st k ⟨0,0,[]⟩).bits=st.bits from rfl,Int.toNat_natCast,hfd,show blocksI []++blkI ⟨((f+k*need:Nat):Int),need⟩=blkI ⟨((f+k*need:Nat):Int),need⟩ by simp [blocksI],piecesF_one (by omega)]
  refine ⟨h2,hn30,hm,?_,?_,?_,?_,h.num⟩
  ·show ((st.slots.set k _).set k _)=_
   rw [List.set_set,hgf,hx]
   apply List.ext_getElem?
   intro j
   by_cases e:j=k
   ·subst e
    rw [List.getElem?_set_self (by rw [h.length]; exact hn30),List.getElem?_map,List.getElem?_range hn30]
    simp [flSl,upTo]
   ·rw [List.getElem?_set_ne (Ne.symm e),h.slots,List.getElem?_map,List.getElem?_map]
    by_cases hj:j<30
    ·rw [List.getElem?_range hj]
     have e2:(j<k)=(j<k+1) := propext (by omega)
     simp [flSl,upTo,e2]
    ·rw [List.getElem?_eq_none (by rw [List.length_range]; omega)]; rfl
  ·show (setAll st.bits _ true).length=N
   rw [setAll_length,h.len]
  ·intro i hi
   show onB (setAll st.bits _ true) i=true↔_
   rw [Int.toNat_natCast,show (refd st k ⟨0,0,[]⟩).bits=st.bits from rfl,hfd,onB_setAll _ _ _ (fun x hx => by
    have := mem_blkI_iff.1 hx
    simp only at this
    rw [h.len]; omega)]
   have hup := h.bits_up hn i hi
   have hmem:(i:Int)∈blkI ⟨((f+k*need:Nat):Int),need⟩↔f+k*need≤i∧i<f+k*need+need := by
    rw [mem_blkI_iff]; simp only; omega
   by_cases hin:(i:Int)∈blkI ⟨((f+k*need:Nat):Int),need⟩
   ·rw [if_pos hin]
    have hin := hmem.1 hin
    refine ⟨fun _ => .inr ⟨k,hn30,by simp [upTo],hin.1,by rw [Nat.add_mul]; omega⟩,fun _ => rfl⟩
   ·rw [if_neg hin,h.bits i hi]
    have hin := fun a => hin (hmem.2 a)
    refine or_congr Iff.rfl ⟨fun ⟨j,a,b,c⟩ => ⟨j,a,by simp only [upTo,decide_eq_true_eq] at b ⊢; omega,c⟩,fun ⟨j,a,b,c,d⟩ => ⟨j,a,?_,c,d⟩⟩
    simp only [upTo,decide_eq_true_eq] at b ⊢
    rcases Nat.lt_or_ge j k with hjk | hjk
    ·exact hjk
    ·exfalso
     have:j=k := by omega
     subst this
     rw [Nat.add_mul] at d
     exact hin ⟨c,by omega⟩
  ·intro j hj ht
   simp only [upTo,decide_eq_true_eq] at ht
   by_cases e:j=k
   ·subst e; rw [Nat.add_mul]; omega
   ·exact h.room j hj (by simp [upTo]; omega)
 ·omega
theorem Flt.createNo {n:Nat} (h:Flt N f need size (upTo n) st) (hn:n≤30) {xs:Octs} (hx:xs.length=size) (hb:blocksF size=need) (hl:size≤524288) {e:Int} (ho:CreateNo f st xs e):e=3∧(n=30∨N<f+n*need+need) := by
 rcases ho with ⟨h1,_⟩ | ⟨_,h1,rfl⟩ | ⟨_,k,s,h1,h2,⟨_,h3⟩,rfl⟩
 ·omega
 ·exact ⟨rfl,.inl (h.noFree hn h1)⟩
 ·obtain ⟨rfl,hn30⟩ := h.freeAt hn h1
  obtain ⟨_,rfl⟩ := h.slot h2
  have es:flSl (upTo k) f need size k=⟨0,0,[]⟩ := by unfold flSl; rw [if_neg (by simp [upTo])]
  rw [es,hx,hb] at h3
  simp only [countF_nil,Int.sub_zero] at h3
  refine ⟨rfl,.inr ?_⟩
  have:¬ (f+k*need+need≤N) := fun hm => h3 ((h.grow hn).2 hm)
  omega
theorem Flt.unref (h:Flt N f need size T st) {id:Int} {st':PSt} {last:Bool} (ho:UnrefOk st id st' last):∃ k:Nat,id=k+1∧k<30∧T k=true∧last=true∧Flt N f need size (fun j => T j && !(j == k)) st' := by
 obtain ⟨k,s,h1,h2,h3,h4⟩ := ho
 obtain ⟨hk,rfl⟩ := h.slot h2
 have ht:T k=true := by
  cases e:T k with
  | true => rfl
  | false => rw [(flSl_refs k).2 e] at h3; omega
 have es:flSl T f need size k=⟨size,1,[⟨((f+k*need:Nat):Int),need⟩]⟩ := by unfold flSl; rw [if_pos ht]
 rw [es] at h4
 rcases h4 with ⟨h4,_⟩ | ⟨_,rfl,rfl⟩
 ·exact absurd rfl h4
 have hr := h.room k hk ht
 refine ⟨k,h1,hk,ht,rfl,?_,?_,?_,?_,h.num⟩
 ·show st.slots.set k _=_
  apply List.ext_getElem?
  intro j
  by_cases e:j=k
  ·subst e
   rw [List.getElem?_set_self (by rw [h.length]; exact hk),List.getElem?_map,List.getElem?_range hk]
   simp [flSl]
  ·rw [List.getElem?_set_ne (Ne.symm e),h.slots,List.getElem?_map,List.getElem?_map]
   by_cases hj:j<30
   ·rw [List.getElem?_range hj]
    simp [flSl,e]
   ·rw [List.getElem?_eq_none (by rw [List.length_range]; omega)]; rfl
 ·show (setAll st.bits _ false).length=N
  rw [setAll_length,h.len]
 ·intro i hi
  show onB (setAll st.bits _ false) i=true↔_
  rw [show blocksI [⟨((f+k*need:Nat):Int),(need:Int)⟩]=blkI ⟨((f+k*need:Nat):Int),need⟩ by simp [blocksI],onB_setAll _ _ _ (fun x hx => by
   have := mem_blkI_iff.1 hx
   simp only at this
   rw [h.len,Nat.add_mul] at *; omega)]
  have hmem:(i:Int)∈blkI ⟨((f+k*need:Nat):Int),need⟩↔f+k*need≤i∧i<f+(k+1)*need := by
   rw [mem_blkI_iff,Nat.add_mul]; simp only; omega
  by_cases hin:(i:Int)∈blkI ⟨((f+k*need:Nat):Int),need⟩
  ·rw [if_pos hin]
   have hin := hmem.1 hin
   refine ⟨fun h => (by cases h),fun h => ?_⟩
   exfalso
   rcases h with h | ⟨j,_,h1,h2,h3⟩
   ·omega
   ·simp only [Bool.and_eq_true,Bool.not_eq_true',beq_eq_false_iff_ne] at h1
    rcases Nat.lt_or_ge j k with hjk | hjk
    ·have := Nat.mul_le_mul_right need (show j+1≤k from hjk)
     omega
    ·have := Nat.mul_le_mul_right need (show k+1≤j by omega)
     omega
  ·rw [if_neg hin,h.bits i hi]
   have hin := fun a => hin (hmem.2 a)
   refine or_congr Iff.rfl ⟨fun ⟨j,a,b,c,d⟩ => ⟨j,a,?_,c,d⟩,fun ⟨j,a,b,c⟩ => ⟨j,a,by simp only [Bool.and_eq_true] at b; exact b.1,c⟩⟩
   simp only [Bool.and_eq_true,Bool.not_eq_true',beq_eq_false_iff_ne]
   refine ⟨b,fun e => ?_⟩
   subst e
   exact hin ⟨c,d⟩
 ·intro j hj hb
  simp only [Bool.and_eq_true] at hb
  exact h.room j hj hb.1
theorem Flt.free {n:Nat} (h:Flt N f need size (upTo n) st) (hn:n≤30):freeN st=N - f - n*need := by
 have hr := h.roomN hn
 have hc:cntF (onB st.bits) N=N - (f+n*need) := by
  have e:N=(f+n*need)+(N - (f+n*need)) := by omega
  have h1 := cntF_off (p := onB st.bits) (s := f+n*need) (c := N - (f+n*need)) (fun i h1 h2 => by
   have := h.bits_up hn i (by omega)
   cases e:onB st.bits i with
   | false => rfl
   | true => have := this.1 e; omega)
  have h2 := cntF_on (p := onB st.bits) (k := 0) (s := f+n*need) (by omega) (fun i _ h2 => (h.bits_up hn i (by omega)).2 h2)
  rw [← e,h2] at h1
  rw [h1]
  simp [cntF]
 unfold freeN
 rw [h.len,hc]
 have:((n*need:Nat):Int)=(n:Int)*need := by simp
 omega
theorem Flt.ids (h:Flt N f need size T st):idsP st=((List.range 30).filter T).map fun (k:Nat) => (k:Int)+1 := by
 unfold idsP
 rw [h.length]
 congr 1
 apply List.filter_congr
 intro k hk
 have hk := List.mem_range.1 hk
 rw [h.at_ hk]
 cases ht:T k <;> simp [flSl,ht]
theorem Flt.congr {T':Nat→Bool} (h:Flt N f need size T st) (e:∀ k,k<30→T k=T' k):Flt N f need size T' st := by
 refine ⟨?_,h.len,fun i hi => ?_,fun k hk ht => h.room k hk (by rw [e k hk]; exact ht),h.num⟩
 ·rw [h.slots]
  apply List.map_congr_left
  intro k hk
  have := e k (List.mem_range.1 hk)
  unfold flSl
  rw [this]
 ·rw [h.bits i hi]
  exact or_congr Iff.rfl ⟨fun ⟨j,a,b,c⟩ => ⟨j,a,by rw [← e j a]; exact b,c⟩,fun ⟨j,a,b,c⟩ => ⟨j,a,by rw [e j a]; exact b,c⟩⟩
end
theorem Flt.empty {N f:Nat} (need size:Nat) (hn:1≤need) (hN:N≤4096) (hf:f≤N):Flt N f need size (upTo 0) (emptyP N 30 f) := by
 refine ⟨?_,?_,fun i hi => ?_,fun k _ h => by simp [upTo] at h,hn,hN,hf⟩
 ·apply List.ext_getElem?
  intro j
  simp only [emptyP,List.getElem?_map]
  by_cases hj:j<30
  ·rw [List.getElem?_replicate,if_pos (by simpa using hj),List.getElem?_range hj]
   simp [flSl,upTo]
  ·rw [List.getElem?_eq_none (by simp; omega),List.getElem?_eq_none (by simp; omega)]; rfl
 ·simp only [emptyP]; rw [setAll_length,List.length_replicate,Int.toNat_natCast]
 ·simp only [emptyP]
  rw [onB_setAll _ _ _ (fun x hx => by
   obtain ⟨j,hj,rfl⟩ := List.mem_map.1 hx
   have := List.mem_range.1 hj
   rw [List.length_replicate]
   omega)]
  have hm:(i:Int)∈((List.range (f:Int).toNat).map fun (k:Nat) => (k:Int))↔i<f := by
   simp only [List.mem_map,List.mem_range]
   constructor
   ·rintro ⟨j,h1,h2⟩; omega
   ·intro h; exact ⟨i,by omega,rfl⟩
  by_cases h:(i:Int)∈((List.range (f:Int).toNat).map fun (k:Nat) => (k:Int))
  ·rw [if_pos h]
   exact ⟨fun _ => .inl (hm.1 h),fun _ => rfl⟩
  ·rw [if_neg h]
   have h := fun a => h (hm.2 a)
   refine ⟨fun h1 => ?_,fun h1 => ?_⟩
   ·unfold onB at h1
    simp only [List.getD_eq_getElem?_getD,List.getElem?_replicate] at h1
    split at h1 <;> simp at h1
   ·rcases h1 with h1 | ⟨j,_,h1,_⟩
    ·exact absurd h1 h
    ·simp [upTo] at h1
end Go.Proofs
end

section
open Go Go.Vc
namespace Go.Proofs
set_option maxRecDepth 100000
theorem OpnV (x0:Int) (x1:Int) (x2:Int) (H:Heap) (R:Value→Heap→Prop):Walk Tryz.prog 29 [] [(.int .i64 x0),(.int .i64 x1),(.int .i64 x2)] H R=(
 Does Tryz.prog 18 [(.int .i64 x0)] H fun v1 H2 => ∃ p3:Option Addr,∃ n4:Int,v1=(.tuple #[(.pointer p3),(.int .i64 n4)])∧(
 ((((n4:Int)≠0)→(
 R (.tuple #[(.pointer none),(.pointer none)]) H2))∧(¬ ((n4:Int)≠0)→(
 ((((p3:Option Addr)=none)→(
 R (.tuple #[(.pointer none),(.pointer none)]) H2))∧(¬ ((p3:Option Addr)=none)→(
 Does Tryz.prog 40 [(.pointer p3),(.int .i64 x1),(.int .i64 x2)] H2 fun v5 H6 => ∃ n7:Int,v5=(.int .i64 n7)∧(
 ((((n7:Int)≠0)→(
 R (.tuple #[(.pointer none),(.pointer none)]) H6))∧(¬ ((n7:Int)≠0)→(
 Does Tryz.prog 27 [(.pointer p3)] H6 fun v8 H9 => ∃ p10:Option Addr,∃ n11:Int,v8=(.tuple #[(.pointer p10),(.int .i64 n11)])∧(
 ((((n11:Int)≠0)→(
 R (.tuple #[(.pointer none),(.pointer none)]) H9))∧(¬ ((n11:Int)≠0)→(
 ((((p10:Option Addr)=none)→(
 R (.tuple #[(.pointer none),(.pointer none)]) H9))∧(¬ ((p10:Option Addr)=none)→(
 R (.tuple #[(.pointer p10),(.pointer p3)]) H9))))))))))))))))))) := by kernel_rfl
theorem FillsV (x0:Int) (x1:Int) (x2:Option Addr) (x2l:Nat) (x2c:Nat) (H:Heap) (R:Value→Heap→Prop):Walk Tryz.prog 4 [(28,[(18,(.int .i64 0))]),(17,[(12,(.int .i64 0))]),(20,[])] [(.int .i64 x0),(.int .i64 x1),(.slice x2 x2l x2c)] H R=(
 Does Tryz.prog 22 [(.int .i64 x0),(.int .i64 60)] H fun v1 H2 => ∃ n3:Int,v1=(.int .i64 n3)∧(
 (In64 (40+n3)) ∧
 Does Tryz.prog 29 [(.int .i64 (40+n3)),(.int .i64 20),(.int .i64 30)] H2 fun v4 H5 => ∃ p6:Option Addr,∃ p7:Option Addr,v4=(.tuple #[(.pointer p6),(.pointer p7)])∧(
 Does Tryz.prog 19 [] H5 fun v8 H9 => ∃ t10:Bool,v8=(.bool t10)∧(
 (((t10=false)→(
 R (.bool false) H9))∧(¬ (t10=false)→(
 ((((p6:Option Addr)=none)→(
 R (.bool false) H9))∧(¬ ((p6:Option Addr)=none)→(
 Does Tryz.prog 22 [(.int .i64 x1),(.int .i64 900)] H9 fun v11 H12 => ∃ n13:Int,v11=(.int .i64 n13)∧(
 (In64 (1+n13)) ∧
 Does Tryz.prog 30 [(.pointer p6)] H12 fun v14 H15 => ∃ n16:Int,v14=(.int .i64 n16)∧(
 ∃ I17:Int→Int→Heap→Prop,∃ μ18:Int→Int→Heap→Nat,(I17 0 0 H15) ∧
 ∀ n19:Int,∀ n20:Int,∀ H21:Heap,I17 n19 n20 H21→(
 ((((n20:Int)<2)→(
 ∃ I22:Int→Heap→Prop,(
 ∃ I23:Int→Heap→Prop,∃ μ24:Int→Heap→Nat,(I23 0 H21) ∧
 ∀ n25:Int,∀ H26:Heap,I23 n25 H26→(
 ((((n25:Int)<40)→(
 (0:Int)≤(1+n13)∧((1+n13):Int)≤(1+n13)∧(1:Int)*(1+n13)≤281474976710656∧∀ b27:Nat,∀ H28:Heap,New H26 b27 (List.replicate (Int.toNat (1+n13)) (.int .u8 0)) 5 H28→(
 Does Tryz.prog 31 [(.pointer p6),(.slice (some (⟨b27,0,none⟩:Addr)) (Int.toNat (1+n13)) (Int.toNat (1+n13)))] H28 fun v29 H30 => ∃ n31:Int,∃ n32:Int,v29=(.tuple #[(.int .i64 n31),(.int .i64 n32)])∧(
 ((((n32:Int)=3)→(
 I22 n25 H30))∧(¬ ((n32:Int)=3)→(
 ((((n32:Int)≠0)→(
 R (.bool false) H30))∧(¬ ((n32:Int)≠0)→(
 (In64 (n25+1)) ∧
 ((((n31:Int)≠(n25+1))→(
 R (.bool false) H30))∧(¬ ((n31:Int)≠(n25+1))→(
 (In64 (n25+1)) ∧
 (I23 (n25+1) H30)∧μ24 (n25+1) H30<μ24 n25 H26)))))))))))))∧(¬ ((n25:Int)<40)→(
 I22 n25 H26))))) ∧
 ∀ n33:Int,∀ H34:Heap,I22 n33 H34→(
 (In64 ((1+n13)+128)) ∧
 (In64 (((1+n13)+128) - 1)) ∧
 ((128:Int)≠0) ∧
 ∀ q35:Int,q35=IntKind.wrap .i64 (Int.tdiv (((1+n13)+128) - 1) 128)→(
 ∃ I36:Heap→Prop,(
 ((q35:Int)≠0) ∧
 ∀ q37:Int,q37=IntKind.wrap .i64 (Int.tdiv n16 q35)→(
 ((((n33:Int)≠(min 30 q37))→(
 R (.bool false) H34))∧(¬ ((n33:Int)≠(min 30 q37))→(
 Does Tryz.prog 32 [(.pointer p6)] H34 fun v38 H39 => ∃ n40:Int,v38=(.int .i64 n40)∧(
 (In64 (n33*q35)) ∧
 ((((n40:Int)≠(n33*q35))→(
 R (.bool false) H39))∧(¬ ((n40:Int)≠(n33*q35))→(
 ((((n20:Int)=1)→(
 ((((n33:Int)≠n19)→(
 R (.bool false) H39))∧(¬ ((n33:Int)≠n19)→(
 I36 H39)))))∧(¬ ((n20:Int)=1)→(
 I36 H39)))))))))))) ∧
 ∀ H41:Heap,I36 H41→(
 Does Tryz.prog 33 [(.pointer p6)] H41 fun v42 H43 => ∃ a44:Option Addr,∃ l45:Nat,∃ c46:Nat,v42=(.slice a44 l45 c46)∧(
 ∃ I47:Option Addr→Nat→Nat→Int→Heap→Prop,∃ μ48:Option Addr→Nat→Nat→Int→Heap→Nat,(I47 a44 l45 c46 0 H43) ∧
 ∀ a49:Option Addr,∀ l50:Nat,∀ c51:Nat,∀ n52:Int,∀ H53:Heap,I47 a49 l50 c51 n52 H53→(
 ((((0:Int)<(l50:Int))→(
 ∃ I54:Int→Heap→Prop,(
 ((((n52:Int)<(x2l:Int))→(
 (0:Int)≤n52∧(n52:Int)<(x2l:Int)∧∃ b55 o56:Nat,x2=some (⟨b55,o56,none⟩:Addr)∧(
 ∃ n57:Int,hcell H53 b55 (o56+(Int.toNat n52))=some (.int .i64 n57)∧(
 Does Tryz.prog 22 [(.int .i64 n57),(.int .i64 (l50:Int))] H53 fun v58 H59 => ∃ n60:Int,v58=(.int .i64 n60)∧(
 I54 n60 H59)))))∧(¬ ((n52:Int)<(x2l:Int))→(
 I54 0 H53)))) ∧
 ∀ n61:Int,∀ H62:Heap,I54 n61 H62→(
 (0:Int)≤n61∧(n61:Int)<(l50:Int)∧∃ b63 o64:Nat,a49=some (⟨b63,o64,none⟩:Addr)∧(
 ∃ n65:Int,hcell H62 b63 (o64+(Int.toNat n61))=some (.int .i64 n65)∧(
 Does Tryz.prog 34 [(.pointer p6),(.int .i64 n65)] H62 fun v66 H67 => ∃ t68:Bool,∃ n69:Int,v66=(.tuple #[(.bool t68),(.int .i64 n69)])∧(
 (((t68=false)→(
 R (.bool false) H67))∧(¬ (t68=false)→(
 ((((n69:Int)≠0)→(
 R (.bool false) H67))∧(¬ ((n69:Int)≠0)→(
 (0:Int)≤n61∧(n61:Int)≤(c51:Int)∧(
 (In64 (n61+1)) ∧
 (0:Int)≤(n61+1)∧((n61+1):Int)≤(l50:Int)∧∀ a70:Option Addr,a70=(if c51=(Int.toNat (n61+1)) then a49 else Option.map (fun x => Addr.add x ((Int.toNat (n61+1))*1)) a49)→(
 ∀ b71:Nat,∀ H72:Heap,New H67 b71 [] 3 H72→(
 (∃ old73 new74:List Value,SRow H72 1 0 (.slice (some (⟨b71,0,none⟩:Addr)) 0 0) old73∧SRow H72 1 (Int.toNat n61) (.slice a49 (Int.toNat n61) c51) new74∧(∀ u∈new74,Value.oneCell' u=true)∧(0+(Int.toNat n61))*8≤140737488355328∧(0+(Int.toNat n61)≤0→roomOf H72 (some (⟨b71,0,none⟩:Addr)) (0*1) ((Int.toNat n61)*1))∧∀ a75:Option Addr,∀ c76:Nat,∀ H77:Heap,App H72 1 3 [(.int .i64 0)] (some (⟨b71,0,none⟩:Addr)) 0 0 old73 new74 (Int.toNat n61) a75 c76 H77→(
 (∃ old78 new79:List Value,SRow H77 1 (0+(Int.toNat n61)) (.slice a75 (0+(Int.toNat n61)) c76) old78∧SRow H77 1 (l50 - (Int.toNat (n61+1))) (.slice a70 (l50 - (Int.toNat (n61+1))) (c51 - (Int.toNat (n61+1)))) new79∧(∀ u∈new79,Value.oneCell' u=true)∧((0+(Int.toNat n61))+(l50 - (Int.toNat (n61+1))))*8≤140737488355328∧((0+(Int.toNat n61))+(l50 - (Int.toNat (n61+1)))≤c76→roomOf H77 a75 ((0+(Int.toNat n61))*1) ((l50 - (Int.toNat (n61+1)))*1))∧∀ a80:Option Addr,∀ c81:Nat,∀ H82:Heap,App H77 1 3 [(.int .i64 0)] a75 (0+(Int.toNat n61)) c76 old78 new79 (l50 - (Int.toNat (n61+1))) a80 c81 H82→(
 ((In64 (n52+1)) ∧
 (I47 a80 ((0+(Int.toNat n61))+(l50 - (Int.toNat (n61+1)))) c81 (n52+1) H82)∧μ48 a80 ((0+(Int.toNat n61))+(l50 - (Int.toNat (n61+1)))) c81 (n52+1) H82<μ48 a49 l50 c51 n52 H53))))))))))))))))))))∧(¬ ((0:Int)<(l50:Int))→(
 Does Tryz.prog 30 [(.pointer p6)] H53 fun v83 H84 => ∃ n85:Int,v83=(.int .i64 n85)∧(
 ((((n85:Int)≠n16)→(
 R (.bool false) H84))∧(¬ ((n85:Int)≠n16)→(
 Does Tryz.prog 32 [(.pointer p6)] H84 fun v86 H87 => ∃ n88:Int,v86=(.int .i64 n88)∧(
 ((((n88:Int)≠0)→(
 R (.bool false) H87))∧(¬ ((n88:Int)≠0)→(
 Does Tryz.prog 33 [(.pointer p6)] H87 fun v89 H90 => ∃ a91:Option Addr,∃ l92:Nat,∃ c93:Nat,v89=(.slice a91 l92 c93)∧(
 (((((l92:Int):Int)≠0)→(
 R (.bool false) H90))∧(¬ (((l92:Int):Int)≠0)→(
 (In64 (n20+1)) ∧
 (I17 n33 (n20+1) H90)∧μ18 n33 (n20+1) H90<μ18 n19 n20 H21))))))))))))))))))))))∧(¬ ((n20:Int)<2)→(
 R (.bool true) H21)))))))))))))))) := by kernel_rfl
end Go.Proofs
end

section
open Go Go.Vc Go.Proofs.Bx
namespace Go.Proofs
theorem Sto.extP {H H':Heap} {Fj Fx Fy Fd P:Nat→Prop} {ps pj pd:Nat} {hh ss bb ff:Int} {x y:RSt} {now kept:PSt} {J:Jn} {D:Dev} (h:Sto H Fj Fx Fy Fd ps pj pd hh ss bb ff x y now kept J D) (he:ExtP P H H') (hp:∀ q,Fj q∨Fx q∨Fy q∨Fd q∨q=ps→¬ P q) :
  Sto H' Fj Fx Fy Fd ps pj pd hh ss bb ff x y now kept J D :=
 ⟨h.blk.extP he (hp _ (.inr (.inr (.inr (.inr rfl))))),h.jd.ext he (fun q hq => hp q (.inl hq)),h.now.extP he (fun q hq => hp q (.inr (.inl hq))) (fun q hq => hp q (.inr (.inr (.inr (.inl hq))))),
  h.kept.extP he (fun q hq => hp q (.inr (.inr (.inl hq)))) (fun q hq => hp q (.inr (.inr (.inr (.inl hq))))),h.sep,h.sepJ,h.sepX,h.sepY,fun q hq => Nat.lt_of_lt_of_le (h.lt q hq) he.size,h.num⟩
theorem ext_low {H0 H H':Heap} {P:Nat→Prop} (h:Ext [] H0 H) (he:ExtP P H H') (hp:∀ q,P q→q<H.size→H0.size≤q):Ext [] H0 H' := ⟨by have := h.size; have := he.size; omega,fun k hk _ => by
 have := h.size
 rw [he.keep k (by omega) (fun hm => by have := hp k hm (by omega); omega)]
 exact h.keep k hk (by simp)⟩
structure StL (H0 H:Heap) (M:Nat→Prop) (ps pj pd n z B N:Nat) (s:Int) (now kept:PSt) (J:Jn) (D:Dev) (cur:Nat→Octs) (S:(Nat→Octs)→Prop):Prop where
 ex:∃ Fj Fx Fy Fd x y,Sto H Fj Fx Fy Fd ps pj pd N s (bitsN N) (firstN N s) x y now kept J D∧JL H0 H Fj pj pd n z B J D cur S∧∀ q,Fj q∨Fx q∨Fy q∨Fd q∨q=ps↔M q
 low:∀ q,M q→H0.size≤q
 num:N+1+z=n
structure Step (H:Heap) (M:Nat→Prop) (H':Heap) (M':Nat→Prop):Prop where
 ext:ExtP M H H'
 reg:∀ q,M' q→M q∨H.size≤q
section
variable {H0 H H':Heap} {M M':Nat→Prop} {ps pj pd n z B N:Nat} {s:Int} {now kept now':PSt} {J:Jn} {D:Dev} {cur:Nat→Octs} {S:(Nat→Octs)→Prop}
theorem StL.base (h:StL H0 H M ps pj pd n z B N s now kept J D cur S):Ext [] H0 H := by
 obtain ⟨Fj,Fx,Fy,Fd,x,y,hS,hJ,_⟩ := h.ex
 exact hJ.jin.ext
theorem StL.lt (h:StL H0 H M ps pj pd n z B N s now kept J D cur S):∀ q,M q→q<H.size := by
 obtain ⟨Fj,Fx,Fy,Fd,x,y,hS,hJ,hM⟩ := h.ex
 intro q hq
 rcases (hM q).2 hq with h | h | h | h | h
 ·exact hJ.lt q h
 ·exact hS.now.lt q h
 ·exact hS.kept.lt q h
 ·exact hS.lt q h
 ·subst h; exact hS.blk.lt
theorem StL.off (h:StL H0 H M ps pj pd n z B N s now kept J D cur S) {P:Nat→Prop} (he:ExtP P H H') (hp:∀ q,M q→¬ P q) (hl:∀ q,P q→q<H.size→H0.size≤q):StL H0 H' M ps pj pd n z B N s now kept J D cur S := by
 obtain ⟨Fj,Fx,Fy,Fd,x,y,hS,hJ,hM⟩ := h.ex
 have hS' := hS.extP he (fun q hq => hp q ((hM q).1 hq))
 exact ⟨⟨Fj,Fx,Fy,Fd,x,y,hS',⟨⟨hS'.jd,hJ.jin.wf,hJ.jin.jwf,hJ.jin.low,ext_low hJ.jin.ext he hl⟩,hJ.live⟩,hM⟩,h.low,h.num⟩
theorem StL.more (h:StL H0 H M ps pj pd n z B N s now kept J D cur S) (he:Ext [] H H'):StL H0 H' M ps pj pd n z B N s now kept J D cur S := h.off (P := fun _ => False) he.anyP (fun _ _ h => h) (fun _ h => h.elim)
theorem StL.left {Fj Fx Fy Fd:Nat→Prop} {x y:RSt} (_:Sto H Fj Fx Fy Fd ps pj pd N s (bitsN N) (firstN N s) x y now kept J D) (hJ:JL H0 H Fj pj pd n z B J D cur S) (hM:∀ q,Fj q∨Fx q∨Fy q∨Fd q∨q=ps↔M q) (hl:∀ q,M q→H0.size≤q) (hn:N+1+z=n)
  (h:Left H Fj Fx Fy Fd ps pj pd N s (bitsN N) (firstN N s) y kept J D now' H'):∃ M',StL H0 H' M' ps pj pd n z B N s now' kept J D cur S∧Step H M H' M' := by
 obtain ⟨Fx',Fd',x',hS',hx,hr,hd⟩ := h
 have hP:∀ q,Fx q∨q=ps→M q := fun q hq => (hM q).1 (hq.elim (fun h => .inr (.inl h)) fun h => .inr (.inr (.inr (.inr h))))
 have hz := hJ.jin.ext.size
 refine ⟨fun q => Fj q∨Fx' q∨Fy q∨Fd' q∨q=ps,⟨⟨Fj,Fx',Fy,Fd',x',y,hS',⟨⟨hS'.jd,hJ.jin.wf,hJ.jin.jwf,hJ.jin.low,ext_low hJ.jin.ext hx (fun q hq _ => hl q (hP q hq))⟩,hJ.live⟩,fun _ => Iff.rfl⟩,?_,hn⟩,⟨hx.mono fun q _ hq => hP q hq,?_⟩⟩
 ·rintro q (hq | hq | hq | hq | hq)
  ·exact hl q ((hM q).1 (.inl hq))
  ·rcases hr q (.inl hq) with h | h | h
   ·exact hl q ((hM q).1 (.inr (.inl h)))
   ·exact hl q ((hM q).1 (.inr (.inr (.inr (.inl h)))))
   ·omega
  ·exact hl q ((hM q).1 (.inr (.inr (.inl hq))))
  ·rcases hr q (.inr hq) with h | h | h
   ·exact hl q ((hM q).1 (.inr (.inl h)))
   ·exact hl q ((hM q).1 (.inr (.inr (.inr (.inl h)))))
   ·omega
  ·exact hl q ((hM q).1 (.inr (.inr (.inr (.inr hq)))))
 ·rintro q (hq | hq | hq | hq | hq)
  ·exact .inl ((hM q).1 (.inl hq))
  ·rcases hr q (.inl hq) with h | h | h
   ·exact .inl ((hM q).1 (.inr (.inl h)))
   ·exact .inl ((hM q).1 (.inr (.inr (.inr (.inl h)))))
   ·exact .inr h
  ·exact .inl ((hM q).1 (.inr (.inr (.inl hq))))
  ·rcases hr q (.inr hq) with h | h | h
   ·exact .inl ((hM q).1 (.inr (.inl h)))
   ·exact .inl ((hM q).1 (.inr (.inr (.inr (.inl h)))))
   ·exact .inr h
  ·exact .inl ((hM q).1 (.inr (.inr (.inr (.inr hq)))))
theorem StL.free (h:StL H0 H M ps pj pd n z B N s now kept J D cur S):Does Tryz.prog 30 [.pointer (some ⟨ps,0,none⟩)] H fun v H' => v=.int .i64 (freeN now)∧H=H' := by
 obtain ⟨Fj,Fx,Fy,Fd,x,y,hS,_⟩ := h.ex
 exact freeS_ok hS
theorem StL.lays (h:StL H0 H M ps pj pd n z B N s now kept J D cur S):(4≤z∧z+4≤n)∧n≤4096∧J.dead=false := by
 obtain ⟨Fj,Fx,Fy,Fd,x,y,hS,hJ,_⟩ := h.ex
 have := hJ.live.lays
 exact ⟨this.1,this.2.1,this.2.2.2.2.1⟩
theorem StL.used (h:StL H0 H M ps pj pd n z B N s now kept J D cur S) (h2:0≤firstN N s∧firstN N s≤1000000) (h3:now.bits.length≤1000000):Does Tryz.prog 32 [.pointer (some ⟨ps,0,none⟩)] H fun v H' => v=.int .i64 (N - firstN N s - freeN now)∧H=H' := by
 have hl := h.lays
 have hn := h.num
 obtain ⟨Fj,Fx,Fy,Fd,x,y,hS,_⟩ := h.ex
 exact usedS_ok hS (by omega) h2 h3
theorem StL.ids (h:StL H0 H M ps pj pd n z B N s now kept J D cur S):Does Tryz.prog 33 [.pointer (some ⟨ps,0,none⟩)] H fun v H' => ∃ a c,v=.slice a (idsP now).length c∧Own H' 1 a (idsP now).length c ((idsP now).map (.int .i64))∧Ext [] H H'∧∀ q∈blkOf a,H.size≤q := by
 obtain ⟨Fj,Fx,Fy,Fd,x,y,hS,_⟩ := h.ex
 exact idsS_ok hS
theorem StL.refs (h:StL H0 H M ps pj pd n z B N s now kept J D cur S) (id:Int):Does Tryz.prog 50 [.pointer (some ⟨ps,0,none⟩),.int .i64 id] H fun v H' => v=.int .i64 (refsP now id)∧H=H' := by
 obtain ⟨Fj,Fx,Fy,Fd,x,y,hS,_⟩ := h.ex
 exact refsS_ok hS id
theorem StL.create (h:StL H0 H M ps pj pd n z B N s now kept J D cur S) (hf:Fine now (firstN N s)) {xa:Option Addr} {xc:Nat} {xs:Octs} (hx:SRow H 1 xs.length (.slice xa xs.length xc) (bytesV xs)) (hxo:∀ q∈blkOf xa,¬ M q) :
  Does Tryz.prog 31 [.pointer (some ⟨ps,0,none⟩),.slice xa xs.length xc] H fun v H' => ∃ now' id e M',v=.tuple #[.int .i64 id,.int .i64 e]∧StL H0 H' M' ps pj pd n z B N s now' kept J D cur S∧Step H M H' M' ∧
   ((e=0∧CreateOk (firstN N s) now xs now' id)∨(e≠0∧id=0∧now'=now∧CreateNo (firstN N s) now xs e)) := by
 have hd := h.lays.2.2
 obtain ⟨Fj,Fx,Fy,Fd,x,y,hS,hJ,hM⟩ := h.ex
 refine (create_ok hS hf hx (fun q hq h => hxo q hq ((hM q).1 (.inr (.inl h))))).mono ?_
 rintro v H' ⟨now',id,e,rfl,hL,hc⟩
 obtain ⟨M',h1,h2⟩ := StL.left hS hJ hM h.low h.num hL
 refine ⟨now',id,e,M',rfl,h1,h2,?_⟩
 rcases hc with ⟨g1,_,g2⟩ | ⟨g1,g2,g3,g4 | ⟨g4,_⟩⟩
 ·exact .inl ⟨g1,g2⟩
 ·exact .inr ⟨g1,g2,g3,g4⟩
 ·rw [hd] at g4; cases g4
theorem StL.unref (h:StL H0 H M ps pj pd n z B N s now kept J D cur S) (hf:Fine now (firstN N s)) (hsm:∀ (k:Nat) (s:PSl),now.slots[k]?=some s→s.refs≤1000000) (id:Int) :
  Does Tryz.prog 34 [.pointer (some ⟨ps,0,none⟩),.int .i64 id] H fun v H' => ∃ now' last e M',v=.tuple #[.bool last,.int .i64 e]∧StL H0 H' M' ps pj pd n z B N s now' kept J D cur S∧Step H M H' M' ∧
   ((e=0∧UnrefOk now id now' last)∨(e≠0∧last=false∧now'=now∧¬ 0<refsP now id∧e=6)) := by
 have hd := h.lays.2.2
 obtain ⟨Fj,Fx,Fy,Fd,x,y,hS,hJ,hM⟩ := h.ex
 refine (unref_ok hS hf hsm id).mono ?_
 rintro v H' ⟨now',last,e,rfl,hL,hc⟩
 obtain ⟨M',h1,h2⟩ := StL.left hS hJ hM h.low h.num hL
 refine ⟨now',last,e,M',rfl,h1,h2,?_⟩
 rcases hc with ⟨g1,_,g2⟩ | ⟨g1,g2,g3,⟨g4,g5⟩ | ⟨g4,_⟩⟩
 ·exact .inl ⟨g1,g2⟩
 ·exact .inr ⟨g1,g2,g3,g4,g5⟩
 ·rw [hd] at g4; cases g4
end
set_option maxRecDepth 100000 in
theorem opn_ok {H:Heap} {n z N:Nat} {s:Int} (hn:N+1+z=n) (hz:4≤z∧z+4≤n) (hn8:8≤n∧n≤4096) (hg:¬ laidBad N s) (hr:firstN N s<N) {S:(Nat→Octs)→Prop} (hSS:∀ xs,BytesAre (emptyP N s (firstN N s)).bits xs→S (fmtHm N s xs)) :
  Does Tryz.prog 29 [.int .i64 n,.int .i64 z,.int .i64 s] H fun v H' => ∃ M ps pj pd J D xs,v=.tuple #[.pointer (some ⟨ps,0,none⟩),.pointer (some ⟨pd,0,none⟩)] ∧
   StL H H' M ps pj pd n z 3000000 N s (emptyP N s (firstN N s)) (emptyP N s (firstN N s)) J D (fmtHm N s xs) S∧D.fuse=-1∧BytesAre (emptyP N s (firstN N s)).bits xs := by
 have eN:N=n - 1 - z := by omega
 subst eN
 refine Fn_of_vc Tryz.mixed (OpnV _ _ _ _ _) ?_
 refine (dnew_ok n H).mono ?_
 rintro v H2 ⟨hx2,(⟨h0,_⟩ | ⟨_,pd,rfl,hdv⟩)⟩
 ·omega
 refine ⟨_,_,rfl,fun h => absurd rfl h,fun _ => ⟨fun h => (by cases h),fun _ => ?_⟩⟩
 rw [Int.toNat_natCast] at hdv
 have hd:DvIn H H2 (grow none_ H H2) pd (newD n) n 0 := ⟨hdv,newWf (by omega),fun q hq => hq.elim (fun h => h.elim) fun h => h.1,hx2⟩
 refine (fmt_ok hd hz hn8.2 hg hr).mono ?_
 rintro v H6 ⟨rfl,F',D',B,xs,hd6,hB,hfu,hdead,hxs,hsure,hx6,hF'⟩
 refine ⟨_,rfl,fun h => absurd rfl h,fun _ => ?_⟩
 have z2 := hx2.size
 have z6 := hx6.size
 have hfl := fix_length (N := n - 1 - z) (s := s) (xs := xs) (sl := (emptyP ((n - 1 - z:Nat):Int) s (firstN ((n - 1 - z:Nat):Int) s)).slots) (by have h0:¬ (s<1∨256<s∨((n - 1 - z:Nat):Int)<1) := hg; omega)
  (by rw [hxs.len]; simp only [emptyP]; rw [setAll_length,List.length_replicate,Int.toNat_natCast]) (by simp [emptyP]) (fun y hy => by
   have := List.eq_of_mem_replicate hy
   subst this
   exact ⟨by simp,by simp,by simp,by simp,by simp,by simp⟩)
 have hle := load_empty hg hr (by omega) hxs (cur := fmtHm (n - 1 - z) s xs) (fun k hk => by
  unfold fmtHm
  rw [if_pos (by omega)]
  rfl)
 have hlen:∀ k,k<n - 1 - z→(fmtHm (n - 1 - z) s xs k).length=128 := fun k _ => by
  unfold fmtHm
  split
  ·rename_i hk
   unfold fmtP
   rw [List.length_take,List.length_drop,hfl.1]
   have:(k+1)*128≤(firstN ((n - 1 - z:Nat):Int) s).toNat*128 := Nat.mul_le_mul_right _ hk
   omega
  ·simp [zeros]
 refine (openS_ok (H := H6) (d := some ⟨pd,0,none⟩) (R := fun v H' => ∃ M ps pj J D,v=.tuple #[.pointer (some ⟨ps,0,none⟩),.int .i64 0] ∧
   StL H H' M ps pj pd n z 3000000 (n - 1 - z) s (emptyP ((n - 1 - z:Nat):Int) s (firstN ((n - 1 - z:Nat):Int) s)) (emptyP ((n - 1 - z:Nat):Int) s (firstN ((n - 1 - z:Nat):Int) s)) J D (fmtHm (n - 1 - z) s xs) S∧D.fuse=-1) ?_).mono ?_
 ·refine (hd6.open_ (S := S) (by omega) ⟨rfl,rfl,hdead⟩ hsure (hSS xs hxs)).mono ?_
  rintro v H9 ⟨hx9,(⟨pj,J,D9,rfl,hJ,hf9,_,_⟩ | ⟨_,_,_,hne,_⟩)⟩
  ·have hFl := hJ.lt
   refine .inr ⟨pj,pd,_,J,D9,n - 1 - z,_,rfl,hJ.jin.jd,hlen,by omega,by omega,hJ.live.reads hJ.jin.wf hJ.jin.jwf _ _ _,fun H3 _ _ hno => absurd hle.2 (hno _),?_⟩
   intro H3 ps x y Fx Fy Fd st hlo hx3 hS hfr
   have e := hlo.one hle.2
   subst e
   rw [hle.1] at hS
   have z9 := hx9.size
   have z3 := hx3.size
   refine ⟨fun q => grow F' H6 H9 q∨Fx q∨Fy q∨Fd q∨q=ps,ps,pj,J,D9,rfl,⟨⟨_,Fx,Fy,Fd,x,y,hS,⟨(hJ.up (B' := 3000000) (by omega) (by omega) (fun _ h => h)).jin.same hS.jd hx3 (hJ.up (B' := 3000000) (S' := S) (by omega) (by omega) (fun _ h => h)).jin.wf hJ.jin.jwf,(hJ.up (B' := 3000000) (by omega) (by omega) (fun _ h => h)).live⟩,fun _ => Iff.rfl⟩,?_,hn⟩,hf9 hfu⟩
   rintro q (hq | hq | hq | hq | hq)
   ·exact hJ.jin.low q hq
   ·have := hfr q (.inl hq); omega
   ·have := hfr q (.inr (.inl hq)); omega
   ·have := hfr q (.inr (.inr (.inl hq))); omega
   ·have := hfr q (.inr (.inr (.inr hq))); omega
  ·exact absurd hfu hne
 ·rintro v H9 ⟨M,ps,pj,J,D9,rfl,hL,hf9⟩
  exact ⟨_,_,rfl,fun h => absurd rfl h,fun _ => ⟨fun h => (by cases h),fun _ => ⟨M,ps,pj,pd,J,D9,xs,rfl,hL,hf9,hxs⟩⟩⟩
end Go.Proofs
end

section
open Go Go.Vc Go.Proofs.Bx
namespace Go.Proofs
structure Shape (N:Nat) (s:Int) (st:PSt):Prop where
 slots:st.slots.length=s.toNat
 bits:st.bits.length=N
 ok:∀ y∈st.slots,SlotOk y
def fxB (s:Int) (xs:Octs) (st:PSt) (k:Nat):Octs := ((fixO s xs st.slots).drop (k*128)).take 128
def datO (st:PSt) (k:Int):Octs := (st.data k).getD []
def trnA (P Q:Nat→Octs) (n:Nat):List Wr := (List.range n).filterMap fun k => if P k=Q k then none else some ((k:Int),P k)
def datT (now kept:PSt) (k:Nat):Prop := onB now.bits k=true∧(onB kept.bits k=false∨datO now k≠datO kept k)
open Classical in
noncomputable def trnB (now kept:PSt) (f n:Nat):List Wr := (List.range n).filterMap fun j => if datT now kept (f+j) then some (((f+j:Nat):Int),datO now ((f+j:Nat):Int)) else none
theorem trnA_succ (P Q:Nat→Octs) (n:Nat):trnA P Q (n+1)=trnA P Q n++(if P n=Q n then [] else [((n:Int),P n)]) := by
 unfold trnA
 rw [List.range_succ,List.filterMap_append]
 congr 1
 by_cases h:P n=Q n <;> simp [h]
theorem trnB_succ (now kept:PSt) (f n:Nat):(datT now kept (f+n)→trnB now kept f (n+1)=trnB now kept f n++[(((f+n:Nat):Int),datO now ((f+n:Nat):Int))])∧(¬ datT now kept (f+n)→trnB now kept f (n+1)=trnB now kept f n) := by
 unfold trnB
 rw [List.range_succ,List.filterMap_append]
 refine ⟨fun h => ?_,fun h => ?_⟩
 ·congr 1; simp only [List.filterMap_cons,List.filterMap_nil,if_pos h]
 ·simp only [List.filterMap_cons,List.filterMap_nil,if_neg h,List.append_nil]
noncomputable def turnW (N:Nat) (s:Int) (xN xK:Octs) (now kept:PSt):List Wr := trnA (fxB s xN now) (fxB s xK kept) (firstN N s).toNat++trnB now kept (firstN N s).toNat (N - (firstN N s).toNat)
theorem trnA_length (P Q:Nat→Octs) (n:Nat):(trnA P Q n).length≤n := by
 unfold trnA
 have := List.length_filterMap_le (fun k => if P k=Q k then none else some ((k:Int),P k)) (List.range n)
 rwa [List.length_range] at this
theorem trnB_length (now kept:PSt) (f n:Nat):(trnB now kept f n).length≤n := by
 unfold trnB
 refine Nat.le_trans (List.length_filterMap_le _ (List.range n)) ?_
 rw [List.length_range]; exact Nat.le_refl _
theorem NowIs.dat {H:Heap} {Fd:Nat→Prop} {x:RSt} {rl:List RSl} {ba:Option Addr} {bc:Nat} {ml:List (Int×Value)} {st:PSt} (h:NowIs H Fd x rl ba bc ml st) (k:Int) :
  ∃ a c,mapGet ml k (.slice none 0 0)=.slice a (datO st k).length c∧SRow H 1 (datO st k).length (.slice a (datO st k).length c) (bytesV (datO st k))∧(∀ q∈blkOf a,Fd q)∧(datO st k).length≤128 := by
 have hd := h.data k
 unfold datO
 cases e:st.data k with
 | none =>
  rw [e] at hd
  have hd:k∉ml.map (·.1) := hd
  refine ⟨none,0,?_,⟨rfl,rfl⟩,by simp [blkOf],by simp⟩
  have:∀ l:List (Int×Value),k∉l.map (·.1)→mapGet l k (.slice none 0 0)=.slice none 0 0 := fun l => by
   induction l with
   | nil => intro _; rfl
   | cons p r ih =>
    intro hn
    simp only [List.map_cons,List.mem_cons,not_or] at hn
    unfold mapGet
    rw [if_neg (fun e => hn.1 e.symm)]
    exact ih hn.2
  exact this ml hd
 | some o =>
  rw [e] at hd
  obtain ⟨h1,a,c,h2,h3,h4⟩ := hd
  refine ⟨a,c,?_,?_,h4,by simp only [Option.getD_some]; omega⟩
  ·rw [mapGet_of h.nod h2]; simp only [Option.getD_some]; rw [h1]
  ·simp only [Option.getD_some]; rw [h1]; exact h3
section
variable {H:Heap} {Fj Fx Fy Fd:Nat→Prop} {ps pj pd N:Nat} {s:Int} {x y:RSt} {now kept:PSt} {J:Jn} {D:Dev}
set_option maxRecDepth 100000 in
set_option maxHeartbeats 4000000 in
theorem turned_ok (hS:Sto H Fj Fx Fy Fd ps pj pd N s (bitsN N) (firstN N s) x y now kept J D) (h1:Shape N s now) (h2:Shape N s kept) (hN:N≤4096) (hg:¬ laidBad N s) (hr:firstN N s<N) :
  Does Tryz.prog 112 [.pointer (some ⟨ps,0,none⟩)] H fun v H' => ∃ a c xN xK,BytesAre now.bits xN∧BytesAre kept.bits xK∧v=.slice a (turnW N s xN xK now kept).length c ∧
   Seq writeE H' (fun q => Fd q∨(H.size≤q∧q<H'.size)) a (turnW N s xN xK now kept).length c (turnW N s xN xK now kept)∧(∀ q∈blkOf a,H.size≤q)∧Ext [] H H' := by
 have h0:¬ (s<1∨256<s∨(N:Int)<1) := hg
 have hbb := bitsN_bd (N := N) (by omega)
 have hfd:firstN (N:Int) s=1+bitsN N+(s+3) / 4 := rfl
 obtain ⟨f,hf⟩:∃ f:Nat,firstN (N:Int) s=f := ⟨(firstN (N:Int) s).toNat,by omega⟩
 obtain ⟨rl,ba,bc,ml,hn,_⟩ := hS.now
 obtain ⟨kl,ka,kc,mk,hk,_⟩ := hS.kept
 have hxn:x.n=s.toNat := by have := hn.num; have := hn.len; have := h1.slots; omega
 have hyn:y.n=s.toNat := by have := hk.num; have := hk.len; have := h2.slots; omega
 refine Fn_of_vc Tryz.mixed (TurnedV _ _ _) ?_
 refine ⟨ps,0,rfl,_,by rw [hS.blk.cell]; rfl,_,by rw [hS.blk.cell]; rfl,_,by rw [hS.blk.cell]; rfl,_,by rw [hS.blk.cell]; rfl,ps,0,rfl,_,_,_,by rw [hS.blk.cell]; rfl,_,by rw [hS.blk.cell]; rfl,_,by rw [hS.blk.cell]; rfl,?_⟩
 refine (fixed_ok hk (by omega) (by rw [h2.bits]; omega) h2.ok _ _ _ _).mono ?_
 rintro _ H15 ⟨xK,hxK,⟨nK,aK,cK,vK,rfl,lenK,oK,lK,fK,rK⟩,hx15⟩
 have hb15 := hS.blk.ext hx15 (by simp)
 have hn15 := hn.extP (M := fun _ => False) hx15.anyP (fun _ _ h => h) (fun _ _ h => h)
 have hFd15:∀ q,Fd q→q<H.size := hS.lt
 refine ⟨_,_,_,rfl,ps,0,rfl,_,by rw [hb15.cell]; rfl,_,by rw [hb15.cell]; rfl,_,by rw [hb15.cell]; rfl,_,by rw [hb15.cell]; rfl,ps,0,rfl,_,_,_,by rw [hb15.cell]; rfl,_,by rw [hb15.cell]; rfl,_,by rw [hb15.cell]; rfl,?_⟩
 refine (fixed_ok hn15 (by omega) (by rw [h1.bits]; omega) h1.ok _ _ _ _).mono ?_
 rintro _ H33 ⟨xN,hxN,⟨nN,aN,cN,vN,rfl,lenN,oN,lN,fN,rN⟩,hx33⟩
 have z15 := hx15.size; have z33 := hx33.size
 have hx1533:Ext [] H H33 := hx15.trans' hx33 (by simp)
 have flK := (fix_length (N := N) (s := s) (xs := xK) (sl := kept.slots) (by omega) (by rw [hxK.len,h2.bits]) h2.slots h2.ok).1
 have flN := (fix_length (N := N) (s := s) (xs := xN) (sl := now.slots) (by omega) (by rw [hxN.len,h1.bits]) h1.slots h1.ok).1
 rw [hf,Int.toNat_natCast] at flK flN
 have eK:nK=f := by omega
 have eN:nN=f := by omega
 subst eK
 subst eN
 let G:Nat→Prop := fun q => Fd q∨(H.size≤q∧q<H33.size)
 have hGlt:∀ q,G q→q<H33.size := fun q hq => hq.elim (fun h => by have := hFd15 q h; omega) fun h => h.2
 have hlenB:∀ (xs:Octs) (st:PSt) (j:Nat),(fixO s xs st.slots).length=nN*128→j<nN→(fxB s xs st j).length=128 := fun xs st j hl hj => by
  unfold fxB
  rw [List.length_take,List.length_drop,hl]
  have:(j+1)*128≤nN*128 := Nat.mul_le_mul_right _ hj
  omega
 refine ⟨_,_,_,rfl,fun a l c i K => ∃ j:Nat,i=j∧j≤nN∧Seq writeE K G a l c (trnA (fxB s xN now) (fxB s xK kept) j)∧Ext [] H33 K∧(∀ q∈blkOf a,H33.size≤q),fun _ _ _ i _ => (nN - i).toNat,⟨0,rfl,Nat.zero_le _,Seq.nil _ _ _,Ext.refl _ _,by simp [blkOf]⟩,?_⟩
 rintro a39 l40 c41 _ H43 ⟨j,rfl,hj,hms,hx43,hfa⟩
 have hnum := hms.num
 have hcn := trnA_length (fxB s xN now) (fxB s xK kept) j
 have z43 := hx43.size
 refine ⟨fun hlt => ?_,fun hge => ?_⟩
 ·have hj':j<nN := by omega
  obtain ⟨ai,hvi,hsr,hbi⟩ := rN j hj'
  obtain ⟨bi,hvi2,hsr2,hbi2⟩ := rK j hj'
  obtain ⟨b44,o45,e44,c44⟩ := ((oN.ext hx43 (by simp)).row nN cN).at hvi
  obtain ⟨b49,o50,e49,c49⟩ := ((oK.ext (hx33.trans' hx43 (by simp)) (by simp)).row nN cK).at hvi2
  refine ⟨by omega,hlt,b44,o45,e44,ai,128,128,by rw [Int.toNat_natCast]; exact c44,by omega,hlt,b49,o50,e49,bi,128,128,by rw [Int.toNat_natCast]; exact c49,?_⟩
  have lA := hlenB xN now j flN hj'
  have lB := hlenB xK kept j flK hj'
  have hsA:SRow H43 1 (fxB s xN now j).length (.slice ai (fxB s xN now j).length 128) (bytesV (fxB s xN now j)) := by rw [lA]; exact hsr.ext hx43 (by simp)
  have hsB:SRow H43 1 (fxB s xK kept j).length (.slice bi (fxB s xK kept j).length 128) (bytesV (fxB s xK kept j)) := by rw [lB]; exact (hsr2.ext hx33 (by simp)).ext hx43 (by simp)
  have hEq := eqB_ok (H := H43) (by omega) hsA hsB
  rw [lA,lB] at hEq
  refine hEq.mono ?_
  rintro _ _ ⟨rfl,rfl⟩
  refine ⟨_,rfl,fun hne => ?_,fun heq => ?_⟩
  ·have hne:fxB s xN now j≠fxB s xK kept j := of_decide_eq_false hne
   intro b57 H58 hn57
   have hok:writeE.ok H43 [.int .i64 (j:Int),.slice ai 128 128] ((j:Int),fxB s xN now j) := ⟨ai,128,128,rfl,by rw [lA] at hsA; exact hsA,fun q hq => by have := hbi q hq; omega⟩
   refine hms.push (w := 32) (e' := 162) (z := [.int .i64 0,.slice none 0 0]) (fun q hq hm => by have := hfa q hm; have := hGlt q hq; omega) hok (fun q hq => ?_) rfl (by omega) (R := fun a53 c54 H55 => In64 ((j:Int)+1)∧(∃ j':Nat,(j:Int)+1=j'∧j'≤nN∧Seq writeE H55 G a53 (l40+1) c54 (trnA (fxB s xN now) (fxB s xK kept) j')∧Ext [] H33 H55∧(∀ q∈blkOf a53,H33.size≤q))∧((nN:Int) - ((j:Int)+1)).toNat<((nN:Int) - (j:Int)).toNat) ?_ b57 H58 hn57
   ·have hq:q∈blkOf ai := hq
    have := hbi q hq
    exact .inr (by omega)
   ·intro a' c' H' g1 g2 g3
    refine ⟨by unfold In64; omega,⟨j+1,rfl,by omega,by rw [trnA_succ,if_neg hne]; exact g1,hx43.trans' g2 (fun i hi => .inl (hfa i hi)),fun q hq => ?_⟩,by omega⟩
    rcases g3 q hq with h | h
    ·exact hfa q h
    ·omega
  ·have heq:fxB s xN now j=fxB s xK kept j := by
    by_cases e:fxB s xN now j=fxB s xK kept j
    ·exact e
    ·exact absurd (decide_eq_false e) heq
   exact ⟨by unfold In64; omega,⟨j+1,rfl,by omega,by rw [trnA_succ,if_pos heq,List.append_nil]; exact hms,hx43,hfa⟩,by dsimp only; omega⟩
 have ej:j=nN := by omega
 subst ej
 have hx0_43 := hx1533.trans' hx43 (by simp)
 have hb43 := hS.blk.ext hx0_43 (by simp)
 have cf:∀ {K:Heap},Ext [] H K→hcell K ps 4=some (.int .i64 (j:Int)) := fun {K} hx => by rw [(hS.blk.ext hx (by simp)).cell,hf]; rfl
 refine ⟨ps,0,rfl,_,cf hx0_43,fun a l c i K => ∃ i':Nat,i=j+i'∧j+i'≤N∧Seq writeE K G a l c (trnA (fxB s xN now) (fxB s xK kept) j++trnB now kept j i')∧Ext [] H33 K∧(∀ q∈blkOf a,H33.size≤q),fun _ _ _ i _ => (N - i).toNat,⟨0,by simp,by omega,by simpa [trnB] using hms,hx43,hfa⟩,?_⟩
 clear hms hnum hfa hx43 hcn z43 hx0_43 hb43
 rintro a69 l70 c71 _ H73 ⟨i,rfl,hi,hms,hx73,hfa⟩
 have hnum := hms.num
 rw [List.length_append] at hnum
 have hcn := trnA_length (fxB s xN now) (fxB s xK kept) j
 have hcm := trnB_length now kept j i
 have z73 := hx73.size
 have hx0:Ext [] H H73 := hx1533.trans' hx73 (by simp)
 have hb := hS.blk.ext hx0 (by simp)
 have hnH := hn.extP (M := fun _ => False) hx0.anyP (fun _ _ h => h) (fun _ _ h => h)
 have hkH := hk.extP (M := fun _ => False) hx0.anyP (fun _ _ h => h) (fun _ _ h => h)
 refine ⟨ps,0,rfl,_,by rw [hb.cell]; rfl,fun hlt => ?_,fun hge => ?_⟩
 ·obtain ⟨b0,c0,g0,s0,d0,l0⟩ := hnH.dat ((j+i:Nat):Int)
  obtain ⟨b1,c1,g1,s1,d1,l1⟩ := hkH.dat ((j+i:Nat):Int)
  have ecast:(j:Int)+i=((j+i:Nat):Int) := by omega
  rw [ecast] at hlt ⊢
  refine ⟨ps,0,rfl,_,by rw [hb.cell]; rfl,x.mb,ml,rfl,hnH.map,b0,_,c0,g0.symm,ps,0,rfl,_,by rw [hb.cell]; rfl,(getbm_ok hnH.bits _).mono ?_⟩
  rintro _ _ ⟨rfl,rfl⟩
  have hin:∀ st:PSt,st.bits.length=N→(decide ((0:Int)≤((j+i:Nat):Int)) && (decide (((j+i:Nat):Int)<(st.bits.length:Int)) && onB st.bits (((j+i:Nat):Int)).toNat))=onB st.bits (j+i) := fun st hl => by
   rw [hl,Int.toNat_natCast,decide_eq_true (by omega:(0:Int)≤((j+i:Nat):Int)),decide_eq_true hlt]; simp
  rw [hin now h1.bits]
  have hs1 := (trnB_succ now kept j i).1
  have hs2 := (trnB_succ now kept j i).2
  have hnext:∀ {a':Option Addr} {c' l':Nat} {K:Heap},Seq writeE K G a' l' c' (trnA (fxB s xN now) (fxB s xK kept) j++trnB now kept j (i+1))→Ext [] H33 K→(∀ q∈blkOf a',H33.size≤q)→(∃ i':Nat,((j+i:Nat):Int)+1=j+i'∧j+i'≤N∧Seq writeE K G a' l' c' (trnA (fxB s xN now) (fxB s xK kept) j++trnB now kept j i')∧Ext [] H33 K∧(∀ q∈blkOf a',H33.size≤q))∧((N:Int) - (((j+i:Nat):Int)+1)).toNat<((N:Int) - ((j+i:Nat):Int)).toNat := fun g1 g2 g3 => ⟨⟨i+1,by omega,by omega,g1,g2,g3⟩,by omega⟩
  have hpush:datT now kept (j+i)→∀ b57 H58,New H73 b57 [.int .i64 ((j+i:Nat):Int),.slice b0 (datO now ((j+i:Nat):Int)).length c0] 162 H58→∃ old new:List Value,SRow H58 2 l70 (.slice a69 l70 c71) old∧SRow H58 2 1 (.slice (some ⟨b57,0,none⟩) 1 1) new∧(∀ u∈new,Value.oneCell' u=true)∧(l70+1)*32≤140737488355328∧(l70+1≤c71→roomOf H58 a69 (l70*2) (1*2))∧∀ a' c' K,App H58 2 162 [.int .i64 0,.slice none 0 0] a69 l70 c71 old new 1 a' c' K →
    In64 (((j+i:Nat):Int)+1)∧(∃ i':Nat,((j+i:Nat):Int)+1=j+i'∧j+i'≤N∧Seq writeE K G a' (l70+1) c' (trnA (fxB s xN now) (fxB s xK kept) j++trnB now kept j i')∧Ext [] H33 K∧(∀ q∈blkOf a',H33.size≤q))∧((N:Int) - (((j+i:Nat):Int)+1)).toNat<((N:Int) - ((j+i:Nat):Int)).toNat := fun hT b57 H58 hn57 => by
   have hok:writeE.ok H73 [.int .i64 ((j+i:Nat):Int),.slice b0 (datO now ((j+i:Nat):Int)).length c0] (((j+i:Nat):Int),datO now ((j+i:Nat):Int)) := ⟨b0,_,c0,rfl,s0,fun q hq => by have := hFd15 q (d0 q hq); omega⟩
   refine hms.push (w := 32) (e' := 162) (z := [.int .i64 0,.slice none 0 0]) (fun q hq hm => by have := hfa q hm; have := hGlt q hq; omega) hok (fun q hq => .inl (d0 q hq)) rfl (by omega) ?_ b57 H58 hn57
   intro a' c' K k1 k2 k3
   refine ⟨by unfold In64; omega,hnext (by rw [hs1 hT,← List.append_assoc]; exact k1) (hx73.trans' k2 (fun i hi => .inl (hfa i hi))) fun q hq => ?_⟩
   rcases k3 q hq with h | h
   ·exact hfa q h
   ·omega
  have hskip:¬ datT now kept (j+i)→In64 (((j+i:Nat):Int)+1)∧(∃ i':Nat,((j+i:Nat):Int)+1=j+i'∧j+i'≤N∧Seq writeE H73 G a69 l70 c71 (trnA (fxB s xN now) (fxB s xK kept) j++trnB now kept j i')∧Ext [] H33 H73∧(∀ q∈blkOf a69,H33.size≤q))∧((N:Int) - (((j+i:Nat):Int)+1)).toNat<((N:Int) - ((j+i:Nat):Int)).toNat := fun hT => ⟨by unfold In64; omega,hnext (by rw [hs2 hT]; exact hms) hx73 hfa⟩
  refine ⟨_,rfl,fun hon => ?_,fun hoff => hskip fun hT => by rw [hT.1] at hoff; cases hoff⟩
  refine ⟨ps,0,rfl,_,by rw [hb.cell]; rfl,(getbm_ok hkH.bits _).mono ?_⟩
  rintro _ _ ⟨rfl,rfl⟩
  rw [hin kept h2.bits]
  refine ⟨_,rfl,fun hoff => hpush ⟨hon,.inl hoff⟩,fun hon2 => ?_⟩
  refine ⟨ps,0,rfl,_,by rw [hb.cell]; rfl,y.mb,mk,rfl,hkH.map,b1,_,c1,g1.symm,(eqB_ok (H := H73) (by omega) s0 s1).mono ?_⟩
  rintro _ _ ⟨rfl,rfl⟩
  refine ⟨_,rfl,fun hne => hpush ⟨hon,.inr (of_decide_eq_false hne)⟩,fun heq => hskip fun hT => ?_⟩
  rcases hT.2 with h | h
  ·exact hon2 h
  ·exact heq (decide_eq_false h)
 ·have ei:i=N - j := by omega
  subst ei
  refine ⟨a69,c71,xN,xK,hxN,hxK,?_,?_,fun q hq => by have := hfa q hq; omega,hx0⟩
  ·unfold turnW
   rw [hf,Int.toNat_natCast,List.length_append,hnum]
  ·unfold turnW
   rw [hf,Int.toNat_natCast,List.length_append,hnum]
   exact hms.mono fun q _ hq => hq.imp (fun h => h) fun h => by omega
end
end Go.Proofs
end

section
open Go Go.Vc Go.Proofs.Bx
namespace Go.Proofs
section
variable {l:List Pc} {N:Nat}
theorem right_ok (h:RightP l 0 N) {p:Pc} (hp:p∈l):1≤p.c∧0≤p.s∧p.s<N∧p.c≤N - p.s := by
 obtain ⟨i,hi,rfl⟩ := List.mem_iff_getElem.1 hp
 exact (h.2 i _ (List.getElem?_eq_getElem hi)).1
theorem right_small (h:RightP l 0 N) (hN:N≤4096):SmallP l := ⟨h.1,fun i p hp => by
 have := right_ok h (List.mem_of_getElem? hp)
 exact ⟨this.1,by omega⟩⟩
theorem right_I (h:RightP l 0 N) (hN:N≤4096):Bx.blocksW l=blocksI l := blocksW_I fun p hp => by
 have := right_ok h hp
 omega
theorem count_right (h:RightP l 0 N) (hN:N≤4096):countF l=(blocksI l).length := by
 unfold countF
 rw [← decP_true (right_small h hN),if_pos rfl,← right_I h hN]
 exact (blocksW_total (small_pos (right_small h hN))).symm
theorem at_right (h:RightP l 0 N) (hN:N≤4096) {k:Nat} (hk:k<(blocksI l).length):(atF l (k:Int)).1=(blocksI l)[k] := by
 have ht := blocksW_total (small_pos (right_small h hN))
 rw [right_I h hN] at ht
 rw [atF_yes ⟨right_small h hN,by omega,by omega⟩,right_I h hN,Int.toNat_natCast,List.getD_eq_getElem?_getD,List.getElem?_eq_getElem hk]
 rfl
theorem putN_at (h:RightP l 0 N) (hN:N≤4096) (d:Int→Option Octs) (xs:Octs):∀ (n k:Nat) (_:n≤(blocksI l).length) (hk:k<n),putN d l xs n ((blocksI l)[k]'(by omega))=some (partO xs k)
 | 0,k,_,hk => by omega
 | n+1,k,hn,hk => by
  rw [putN]
  dsimp only
  have e := at_right h hN (k := n) (by omega)
  by_cases ek:k=n
  ·subst ek; rw [if_pos e.symm]
  ·rw [if_neg (fun h' => ek ?_)]
   ·exact putN_at h hN d xs n k (by omega) (by omega)
   ·rw [e] at h'
    exact (List.getElem_inj (right_nodup h)).1 h'
theorem putN_off (h:RightP l 0 N) (hN:N≤4096) (d:Int→Option Octs) (xs:Octs) {j:Int} (hj:j∉blocksI l):∀ n:Nat,n≤(blocksI l).length→putN d l xs n j=d j
 | 0,_ => rfl
 | n+1,hn => by
  rw [putN]
  dsimp only
  rw [if_neg (fun e => hj ?_),putN_off h hN d xs hj n (by omega)]
  rw [e,at_right h hN (k := n) (by omega)]
  exact List.getElem_mem _
end
theorem catD_flat (d:Nat→Octs):∀ n,catD d n=((List.range n).map d).flatten
 | 0 => rfl
 | n+1 => by rw [catD,catD_flat d n,List.range_succ,List.map_append,List.flatten_append]; simp
theorem catD_congr {d e:Nat→Octs} {n:Nat} (h:∀ k,k<n→d k=e k):catD d n=catD e n := by
 rw [catD_flat,catD_flat]
 congr 1
 exact List.map_congr_left fun k hk => h k (List.mem_range.1 hk)
theorem catD_part (xs:Octs):(catD (partO xs) (blocksF xs.length).toNat).take xs.length=xs := by
 rw [catD_flat]
 have hl := padO_length xs
 have e:(blocksF (xs.length:Int)).toNat=(xs.length+127) / 128 := by rw [blocksF_nat,Int.toNat_natCast]
 rw [e]
 have := pieces_all 128 ((xs.length+127) / 128) (padO xs) hl
 have e2:(List.range ((xs.length+127) / 128)).map (partO xs)=(List.range ((xs.length+127) / 128)).map (fun k => ((padO xs).drop (k*128)).take 128) := rfl
 rw [e2,this]
 unfold padO
 rw [List.take_left' rfl]
theorem partO_length (xs:Octs) {k:Nat} (hk:k<(blocksF xs.length).toNat):(partO xs k).length=128 := by
 have hl := padO_length xs
 rw [blocksF_nat,Int.toNat_natCast] at hk
 unfold partO
 rw [List.length_take,List.length_drop,hl]
 have:(k+1)*128≤(xs.length+127) / 128*128 := Nat.mul_le_mul_right _ hk
 omega
theorem bytesP_congr {st st':PSt} {y:PSl} {N:Nat} (hN:N≤4096) (hr:RightP y.ps 0 N) (h:∀ b∈blocksI y.ps,st'.data b=st.data b):bytesP st' y=bytesP st y := by
 unfold bytesP
 congr 1
 refine catD_congr fun k hk => ?_
 rw [count_right hr hN] at hk
 rw [at_right hr hN (by omega),h _ (List.getElem_mem _)]
theorem mem_allBlk {l:List PSl} {x:Int}:x∈allBlk l↔∃ (j:Nat) (y:PSl),l[j]?=some y∧x∈blocksI y.ps := by
 unfold allBlk
 rw [List.mem_flatten]
 constructor
 ·rintro ⟨b,hb,hx⟩
  obtain ⟨y,hy,rfl⟩ := List.mem_map.1 hb
  obtain ⟨j,hj⟩ := List.mem_iff_getElem?.1 hy
  exact ⟨j,y,hj,hx⟩
 ·rintro ⟨j,y,hj,hx⟩
  exact ⟨_,List.mem_map.2 ⟨y,List.mem_of_getElem? hj,rfl⟩,hx⟩
theorem mem_allSet {l:List PSl} {k:Nat} {s y':PSl} (hk:l[k]?=some s) {x:Int}:x∈allBlk (l.set k y')↔x∈blocksI y'.ps∨∃ (j:Nat) (y:PSl),j≠k∧l[j]?=some y∧x∈blocksI y.ps := by
 have hlt := (List.getElem?_eq_some_iff.1 hk).1
 rw [mem_allBlk]
 constructor
 ·rintro ⟨j,y,hj,hx⟩
  by_cases e:j=k
  ·subst e
   rw [List.getElem?_set_self hlt] at hj
   cases hj
   exact .inl hx
  ·rw [List.getElem?_set_ne (Ne.symm e)] at hj
   exact .inr ⟨j,y,e,hj,hx⟩
 ·rintro (hx | ⟨j,y,e,hj,hx⟩)
  ·exact ⟨k,y',List.getElem?_set_self hlt,hx⟩
  ·exact ⟨j,y,by rw [List.getElem?_set_ne (Ne.symm e)]; exact hj,hx⟩
structure Leg (N:Nat) (s:Int) (st:PSt):Prop where
 slots:st.slots.length=s.toNat
 bits:st.bits.length=N
 held:Held st.bits (st.slots.map (·.ps))
 on:∀ i:Nat,i<N→(onB st.bits i=true↔(i:Int)<firstN N s∨(i:Int)∈allBlk st.slots)
 lo:∀ b∈allBlk st.slots,firstN N s≤b
 sl:∀ (k:Nat) (y:PSl),st.slots[k]?=some y→0≤y.refs∧y.refs<65536∧0≤y.size∧y.size≤524288∧countF y.ps=blocksF y.size∧(y.refs=0→y.size=0∧y.ps=[])
 data:∀ b∈allBlk st.slots,∃ o,st.data b=some o∧o.length=128
 num:0≤firstN N s∧firstN N s≤N∧N≤4096
section
variable {N:Nat} {s:Int} {st:PSt}
theorem Leg.right (h:Leg N s st) {k:Nat} {y:PSl} (hk:st.slots[k]?=some y):RightP y.ps 0 N := by
 have := h.held.right y.ps (List.mem_map_of_mem (List.mem_of_getElem? hk))
 rwa [h.bits] at this
theorem Leg.fine (h:Leg N s st):Fine st (firstN N s) := by
 have hn := h.num
 exact ⟨by rw [h.bits]; omega,by omega,fun k y hk => by rw [h.bits]; exact h.right hk⟩
theorem Leg.whole (h:Leg N s st):∀ (k:Nat) (y:PSl),st.slots[k]?=some y→Whole st y∧y.size≤524288 := fun k y hk => by
 have hs := h.sl k y hk
 have hr := h.right hk
 have hN := h.num.2.2
 have hc := count_right hr hN
 have hb := countF_bd y.ps
 obtain ⟨sz,hsz⟩:∃ sz:Nat,y.size=sz := ⟨y.size.toNat,by omega⟩
 have hbl := hs.2.2.2.2.1
 rw [hsz,blocksF_nat] at hbl
 refine ⟨⟨hs.2.2.1,hb.2,by rw [hsz,hbl]; omega,fun j hj => ?_⟩,hs.2.2.2.1⟩
 rw [at_right hr hN (k := j) (by omega)]
 obtain ⟨o,ho,_⟩ := h.data ((blocksI y.ps)[j]'(by omega)) (mem_allBlk.2 ⟨k,y,hk,List.getElem_mem _⟩)
 rw [ho]; rfl
theorem Leg.small (h:Leg N s st) {k:Nat} {y:PSl} (hk:st.slots[k]?=some y):SlSmall y := by
 have hs := h.sl k y hk
 have hr := h.right hk
 have hN := h.num.2.2
 exact ⟨hr.1,hs.2.2.1,by omega,hs.1,hs.2.1,fun p hp => by have := right_ok hr hp; omega⟩
theorem Leg.shape (h:Leg N s st):Shape N s st := ⟨h.slots,h.bits,fun y hy => by
 obtain ⟨k,hk⟩ := List.mem_iff_getElem?.1 hy
 exact (h.small hk).ok⟩
theorem Leg.once (h:Leg N s st) {i k:Nat} {y z:PSl} (hi:st.slots[i]?=some y) (hk:st.slots[k]?=some z) (hne:i≠k) {x:Int} (hx:x∈blocksI y.ps):x∉blocksI z.ps :=
 h.held.once i k y.ps z.ps hne (by rw [List.getElem?_map,hi]; rfl) (by rw [List.getElem?_map,hk]; rfl) x hx
theorem Leg.read (h:Leg N s st) {k:Nat} {y:PSl} (hk:st.slots[k]?=some y):(y.refs=0∧y.size=0∧y.ps=[])∨(y.refs≠0∧RightP y.ps (firstN N s) N∧countF y.ps=blocksF y.size) := by
 have hs := h.sl k y hk
 by_cases e:y.refs=0
 ·exact .inl ⟨e,hs.2.2.2.2.2 e⟩
 ·refine .inr ⟨e,?_,hs.2.2.2.2.1⟩
  have hr := h.right hk
  refine ⟨hr.1,fun i p hp => ⟨?_,(hr.2 i p hp).2⟩⟩
  have ho := right_ok hr (List.mem_of_getElem? hp)
  have := h.lo p.s (mem_allBlk.2 ⟨k,y,hk,mem_blocksI_of (List.mem_of_getElem? hp) (by omega)⟩)
  exact ⟨ho.1,this,ho.2.2.1,ho.2.2.2⟩
theorem nodup_flat:∀ {l:List PSl},(∀ y∈l,(blocksI y.ps).Nodup)→(∀ (i k:Nat) (y z:PSl),i≠k→l[i]?=some y→l[k]?=some z→∀ x∈blocksI y.ps,x∉blocksI z.ps)→(allBlk l).Nodup
 | [],_,_ => by simp [allBlk]
 | y::r,h1,h2 => by
  have e:allBlk (y::r)=blocksI y.ps++allBlk r := by simp [allBlk]
  rw [e,List.nodup_append]
  refine ⟨h1 y (by simp),nodup_flat (l := r) (fun z hz => h1 z (by simp [hz])) (fun i k a b hne hi hk => h2 (i+1) (k+1) a b (by omega) (by simpa using hi) (by simpa using hk)),fun a ha b hb e => ?_⟩
  subst e
  obtain ⟨j,z,hj,hx⟩ := mem_allBlk.1 hb
  exact h2 0 (j+1) y z (by omega) rfl (by simpa using hj) a ha hx
theorem Leg.nodup (h:Leg N s st):(allBlk st.slots).Nodup := nodup_flat (fun y hy => by
 obtain ⟨k,hk⟩ := List.mem_iff_getElem?.1 hy
 exact right_nodup (h.right hk)) fun _ _ _ _ hne hi hk _ hx => h.once hi hk hne hx
theorem Leg.inN (h:Leg N s st) {b:Int} (hb:b∈allBlk st.slots):0≤b∧b<N := by
 obtain ⟨j,y,hj,hx⟩ := mem_allBlk.1 hb
 exact right_range (h.right hj) b hx
theorem Leg.bitsEq (h:Leg N s st):st.bits=setAll (firstB N (firstN N s)) (allBlk st.slots) true := by
 obtain ⟨n0,n1,n2⟩ := h.num
 have hin0:∀ x∈((List.range (firstN N s).toNat).map fun (k:Nat) => (k:Int)),0≤x∧x<((List.replicate (N:Int).toNat false).length:Int) := fun x hx => by
  obtain ⟨j,hj,rfl⟩ := List.mem_map.1 hx
  have := List.mem_range.1 hj
  rw [List.length_replicate]
  omega
 have hl:(firstB N (firstN N s)).length=N := by unfold firstB; rw [setAll_length,List.length_replicate,Int.toNat_natCast]
 apply List.ext_getElem?
 intro i
 by_cases hi:i<N
 ·have e1:st.bits[i]?=some (onB st.bits i) := by unfold onB; rw [List.getD_eq_getElem?_getD,List.getElem?_eq_getElem (by rw [h.bits]; exact hi)]; rfl
  have e2:(setAll (firstB N (firstN N s)) (allBlk st.slots) true)[i]?=some (onB (setAll (firstB N (firstN N s)) (allBlk st.slots) true) i) := by unfold onB; rw [List.getD_eq_getElem?_getD,List.getElem?_eq_getElem (by rw [setAll_length,hl]; exact hi)]; rfl
  rw [e1,e2]
  congr 1
  rw [onB_setAll _ _ _ (fun x hx => by rw [hl]; exact h.inN hx),Bool.eq_iff_iff,h.on i hi]
  have h0:onB (firstB N (firstN N s)) i=true↔(i:Int)<firstN N s := by
   unfold firstB
   rw [onB_setAll _ _ _ hin0]
   by_cases hm:(i:Int)∈((List.range (firstN N s).toNat).map fun (k:Nat) => (k:Int))
   ·rw [if_pos hm]
    obtain ⟨j,hj,e⟩ := List.mem_map.1 hm
    have := List.mem_range.1 hj
    exact ⟨fun _ => by omega,fun _ => rfl⟩
   ·rw [if_neg hm]
    constructor
    ·intro hon
     unfold onB at hon
     simp only [List.getD_eq_getElem?_getD,List.getElem?_replicate] at hon
     split at hon <;> simp at hon
    ·intro hlt
     exact absurd (List.mem_map.2 ⟨i,List.mem_range.2 (by omega),rfl⟩) hm
  by_cases hm:(i:Int)∈allBlk st.slots
  ·rw [if_pos hm]
   exact ⟨fun _ => rfl,fun _ => .inr hm⟩
  ·rw [if_neg hm,h0]
   exact ⟨fun h' => h'.resolve_right hm,.inl⟩
 ·rw [List.getElem?_eq_none (by rw [h.bits]; omega),List.getElem?_eq_none (by rw [setAll_length,hl]; omega)]
def Image (N:Nat) (s:Int) (st:PSt) (cur:Nat→Octs):Prop :=
 ∃ xs,BytesAre st.bits xs∧(∀ k:Nat,(k:Int)<firstN N s→cur k=fxB s xs st k)∧∀ k:Nat,firstN N s≤k→k<N→onB st.bits k=true→cur k=datO st k
def nrm (N:Nat) (s:Int) (st:PSt):PSt := { st with data := fun k => if firstN N s≤k∧k<N∧onB st.bits k.toNat=true then some (datO st k) else none }
theorem Leg.load (h:Leg N s st) (hg:¬ laidBad N s) (hr:firstN N s<N) {cur:Nat→Octs} (hi:Image N s st cur):headN cur=s∧LoadOk N cur (nrm N s st) := by
 obtain ⟨xs,h1,h2,h3⟩ := hi
 refine load_of (st := nrm N s st) hg hr h.num.2.2 h1 h.bits h.slots h2 (fun y hy => ?_) h.nodup h.bitsEq ?_
 ·obtain ⟨k,hk⟩ := List.mem_iff_getElem?.1 hy
  exact ⟨h.small hk,h.read hk⟩
 ·funext k
  show (if _ then some (datO st k) else none)=_
  by_cases hc:firstN N s≤k∧k<N∧onB st.bits k.toNat=true
  ·have hc':firstN N s≤k∧k<N∧onB (nrm N s st).bits k.toNat=true := hc
   rw [if_pos hc,if_pos hc',h3 k.toNat (by have := h.num; omega) (by have := h.num; omega) hc.2.2,show ((k.toNat:Nat):Int)=k by have := h.num; omega]
  ·have hc':¬ (firstN N s≤k∧k<N∧onB (nrm N s st).bits k.toNat=true) := hc
   rw [if_neg hc,if_neg hc']
theorem nrm_data (h:Leg N s st) {b:Int} (hb:b∈allBlk st.slots):(nrm N s st).data b=st.data b := by
 have hin := h.inN hb
 have hlo := h.lo b hb
 obtain ⟨o,ho,_⟩ := h.data b hb
 show (if _ then some (datO st b) else none)=_
 rw [if_pos ⟨hlo,hin.2,(h.on b.toNat (by omega)).2 (.inr (by rw [show ((b.toNat:Nat):Int)=b by omega]; exact hb))⟩]
 unfold datO
 rw [ho]; rfl
theorem Leg.nrm (h:Leg N s st):Leg N s (nrm N s st) := ⟨h.slots,h.bits,h.held,h.on,h.lo,h.sl,fun b hb => by rw [nrm_data h hb]; exact h.data b hb,h.num⟩
theorem nrm_bytes (h:Leg N s st) {k:Nat} {y:PSl} (hk:st.slots[k]?=some y):bytesP (Go.Proofs.nrm N s st) y=bytesP st y :=
 bytesP_congr h.num.2.2 (h.right hk) fun _ hb => nrm_data h (mem_allBlk.2 ⟨k,y,hk,hb⟩)
theorem Leg.set (h:Leg N s st) {k:Nat} {y:PSl} (hk:st.slots[k]?=some y) {y':PSl} {bits':List Bool} {data':Int→Option Octs} (hb:bits'.length=N) (hheld:Held bits' ((st.slots.map (·.ps)).set k y'.ps))
  (hon:∀ i:Nat,i<N→(onB bits' i=true↔(i:Int)<firstN N s∨(i:Int)∈blocksI y'.ps∨∃ (j:Nat) (z:PSl),j≠k∧st.slots[j]?=some z∧(i:Int)∈blocksI z.ps)) (hlo:∀ b∈blocksI y'.ps,firstN N s≤b)
  (hsl:0≤y'.refs∧y'.refs<65536∧0≤y'.size∧y'.size≤524288∧countF y'.ps=blocksF y'.size∧(y'.refs=0→y'.size=0∧y'.ps=[])) (hd:∀ b∈blocksI y'.ps,∃ o,data' b=some o∧o.length=128)
  (hd2:∀ b:Int,b∉blocksI y'.ps→data' b=st.data b):Leg N s { slots := st.slots.set k y',bits := bits',data := data' } := by
 have hlt := (List.getElem?_eq_some_iff.1 hk).1
 refine ⟨by simp only [List.length_set]; exact h.slots,hb,by simp only [List.map_set]; exact hheld,fun i hi => ?_,fun b hb' => ?_,fun j z hj => ?_,fun b hb' => ?_,h.num⟩
 ·rw [hon i hi,mem_allSet hk]
 ·rcases (mem_allSet hk).1 hb' with hx | ⟨j,z,_,hj,hx⟩
  ·exact hlo b hx
  ·exact h.lo b (mem_allBlk.2 ⟨j,z,hj,hx⟩)
 ·by_cases e:j=k
  ·subst e
   simp only [List.getElem?_set_self hlt,Option.some.injEq] at hj
   subst hj
   exact hsl
  ·simp only [List.getElem?_set_ne (Ne.symm e)] at hj
   exact h.sl j z hj
 ·by_cases hm:b∈blocksI y'.ps
  ·exact hd b hm
  ·rcases (mem_allSet hk).1 hb' with hx | ⟨j,z,_,hj,hx⟩
   ·exact absurd hx hm
   ·simp only [hd2 b hm]
    exact h.data b (mem_allBlk.2 ⟨j,z,hj,hx⟩)
theorem Leg.setRefs (h:Leg N s st) {k:Nat} {y:PSl} (hk:st.slots[k]?=some y) {r:Int} (hr:0<r∧r<65536):Leg N s { st with slots := st.slots.set k { y with refs := r } } := by
 have hs := h.sl k y hk
 refine h.set hk h.bits ?_ (fun i hi => ?_) (fun b hb => h.lo b (mem_allBlk.2 ⟨k,y,hk,hb⟩)) ⟨by show 0≤r; omega,hr.2,hs.2.2.1,hs.2.2.2.1,hs.2.2.2.2.1,fun e => by have e:r=0 := e; omega⟩ (fun b hb => h.data b (mem_allBlk.2 ⟨k,y,hk,hb⟩)) (fun _ _ => rfl)
 ·have e:(st.slots.map (·.ps)).set k y.ps=st.slots.map (·.ps) := by
   apply List.ext_getElem?
   intro j
   by_cases ej:j=k
   ·subst ej
    rw [List.getElem?_set_self (by rw [List.length_map]; exact (List.getElem?_eq_some_iff.1 hk).1),List.getElem?_map,hk]; rfl
   ·rw [List.getElem?_set_ne (Ne.symm ej)]
  show Held st.bits ((st.slots.map (·.ps)).set k y.ps)
  rw [e]; exact h.held
 ·rw [h.on i hi,mem_allBlk]
  refine or_congr Iff.rfl ⟨?_,?_⟩
  ·rintro ⟨j,z,hj,hx⟩
   by_cases e:j=k
   ·subst e; rw [hk] at hj; cases hj; exact .inl hx
   ·exact .inr ⟨j,z,e,hj,hx⟩
  ·rintro (hx | ⟨j,z,_,hj,hx⟩)
   ·exact ⟨k,y,hk,hx⟩
   ·exact ⟨j,z,hj,hx⟩
theorem Leg.shrinkOn (h:Leg N s st) {k:Nat} {y:PSl} (hk:st.slots[k]?=some y) (n:Nat) {i:Nat} (hi:i<N):onB (setAll st.bits ((blocksI y.ps).drop n) false) i=true↔(i:Int)<firstN N s∨(i:Int)∈(blocksI y.ps).take n∨∃ (j:Nat) (z:PSl),j≠k∧st.slots[j]?=some z∧(i:Int)∈blocksI z.ps := by
 have hr := h.right hk
 have hnd := right_nodup hr
 rw [onB_setAll _ _ _ (fun x hx => by rw [h.bits]; exact right_range hr x (List.mem_of_mem_drop hx))]
 by_cases hm:(i:Int)∈(blocksI y.ps).drop n
 ·rw [if_pos hm]
  have hmy := List.mem_of_mem_drop hm
  refine ⟨fun h => (by cases h),fun h' => ?_⟩
  exfalso
  rcases h' with h1 | h1 | ⟨j,z,hne,hj,h1⟩
  ·have := h.lo _ (mem_allBlk.2 ⟨k,y,hk,hmy⟩); omega
  ·rw [← List.take_append_drop n (blocksI y.ps),List.nodup_append] at hnd
   exact hnd.2.2 _ h1 _ hm rfl
  ·exact h.once hk hj (Ne.symm hne) hmy h1
 ·rw [if_neg hm,h.on i hi,mem_allBlk]
  refine or_congr Iff.rfl ⟨?_,?_⟩
  ·rintro ⟨j,z,hj,hx⟩
   by_cases e:j=k
   ·subst e; rw [hk] at hj; cases hj
    rw [← List.take_append_drop n (blocksI y.ps)] at hx
    rcases List.mem_append.1 hx with hx | hx
    ·exact .inl hx
    ·exact absurd hx hm
   ·exact .inr ⟨j,z,e,hj,hx⟩
  ·rintro (hx | ⟨j,z,_,hj,hx⟩)
   ·exact ⟨k,y,hk,List.mem_of_mem_take hx⟩
   ·exact ⟨j,z,hj,hx⟩
theorem Leg.fill (h:Leg N s st) {k:Nat} {y:PSl} (hk:st.slots[k]?=some y) (hy:0<y.refs) {xs:Octs} (hx:xs.length≤524288) {ps':List Pc} {bits':List Bool} (hf:FillTo (firstN N s) st y (blocksF xs.length) ps' bits') :
  Leg N s (fillSt st k y xs ps' bits')∧bytesP (fillSt st k y xs ps' bits') ⟨xs.length,y.refs,ps'⟩=xs∧∀ (j:Nat) (z:PSl),j≠k→st.slots[j]?=some z→bytesP (fillSt st k y xs ps' bits') z=bytesP st z := by
 have hs := h.sl k y hk
 have hr := h.right hk
 have hN := h.num.2.2
 have hc := count_right hr hN
 have hkm:(st.slots.map (·.ps))[k]?=some y.ps := by rw [List.getElem?_map,hk]; rfl
 have hb0:0≤blocksF (xs.length:Int) := by rw [blocksF_nat]; omega
 obtain ⟨n,hn⟩:∃ n:Nat,blocksF (xs.length:Int)=n := ⟨_,(Int.toNat_of_nonneg hb0).symm⟩
 have key:bits'.length=N∧Held bits' ((st.slots.map (·.ps)).set k ps')∧(blocksI ps').length=n∧(∀ b∈blocksI ps',firstN N s≤b) ∧
   ∀ i:Nat,i<N→(onB bits' i=true↔(i:Int)<firstN N s∨(i:Int)∈blocksI ps'∨∃ (j:Nat) (z:PSl),j≠k∧st.slots[j]?=some z∧(i:Int)∈blocksI z.ps) := by
  unfold FillTo at hf
  rw [hn,hc] at hf
  rcases hf with ⟨h1,rfl,rfl⟩ | ⟨h1,h2,rfl,rfl⟩ | ⟨h1,rfl,rfl⟩
  ·have hblk:blocksI (piecesF ((blocksI y.ps).take (n:Int).toNat))=(blocksI y.ps).take (n:Int).toNat := (piecesF_spec _).2.2
   refine ⟨by rw [setAll_length]; exact h.bits,h.held.shrink hkm n,by rw [hblk,List.length_take]; omega,fun b hb => ?_,fun i hi => ?_⟩
   ·rw [hblk] at hb
    exact h.lo b (mem_allBlk.2 ⟨k,y,hk,List.mem_of_mem_take hb⟩)
   ·rw [hblk]; exact h.shrinkOn hk _ hi
  ·have hblk:blocksI (growF st.bits y.ps (firstN N s) ((n:Int) - (blocksI y.ps).length))=blocksI y.ps++foundF st.bits (firstN N s) ((n:Int) - (blocksI y.ps).length).toNat := (piecesF_spec _).2.2
   have hfs:∀ x∈foundF st.bits (firstN N s) ((n:Int) - (blocksI y.ps).length).toNat,0≤x∧x<st.bits.length∧onB st.bits x.toNat=false := fun x hx => found_spec hx
   refine ⟨by rw [setAll_length]; exact h.bits,h.held.grow hkm h2,by rw [hblk,List.length_append,h2.2.2.1]; omega,fun b hb => ?_,fun i hi => ?_⟩
   ·rw [hblk] at hb
    rcases List.mem_append.1 hb with hb | hb
    ·exact h.lo b (mem_allBlk.2 ⟨k,y,hk,hb⟩)
    ·have := hfs b hb
     have hno:¬ b<firstN N s := fun hlt => by
      have := (h.on b.toNat (by rw [h.bits] at this; omega)).2 (.inl (by omega))
      rw [(hfs b hb).2.2] at this
      cases this
     omega
   ·rw [hblk,onB_setAll _ _ _ (fun x hx => ⟨(hfs x hx).1,(hfs x hx).2.1⟩)]
    have hon := h.on i hi
    rw [mem_allBlk] at hon
    by_cases hm:(i:Int)∈foundF st.bits (firstN N s) ((n:Int) - (blocksI y.ps).length).toNat
    ·rw [if_pos hm]
     exact ⟨fun _ => .inr (.inl (List.mem_append_right _ hm)),fun _ => rfl⟩
    ·rw [if_neg hm,hon]
     refine or_congr Iff.rfl ⟨?_,?_⟩
     ·rintro ⟨j,z,hj,hx⟩
      by_cases e:j=k
      ·subst e; rw [hk] at hj; cases hj; exact .inl (List.mem_append_left _ hx)
      ·exact .inr ⟨j,z,e,hj,hx⟩
     ·rintro (hx | ⟨j,z,_,hj,hx⟩)
      ·rcases List.mem_append.1 hx with hx | hx
       ·exact ⟨k,y,hk,hx⟩
       ·exact absurd hx hm
      ·exact ⟨j,z,hj,hx⟩
  ·have hl := h.setRefs hk (r := 1) (by omega)
   have e:(st.slots.map (·.ps)).set k y.ps=st.slots.map (·.ps) := by
    apply List.ext_getElem?
    intro j
    by_cases ej:j=k
    ·subst ej
     rw [List.getElem?_set_self (by rw [List.length_map]; exact (List.getElem?_eq_some_iff.1 hk).1),hkm]
    ·rw [List.getElem?_set_ne (Ne.symm ej)]
   refine ⟨h.bits,by rw [e]; exact h.held,by omega,fun b hb => h.lo b (mem_allBlk.2 ⟨k,y,hk,hb⟩),fun i hi => ?_⟩
   have := hl.on i hi
   rw [mem_allSet hk] at this
   exact this
 obtain ⟨k1,k2,k3,k4,k5⟩ := key
 have hlt := (List.getElem?_eq_some_iff.1 hk).1
 have hr':RightP ps' 0 N := by
  have := k2.right ps' (List.mem_iff_getElem?.2 ⟨k,List.getElem?_set_self (by rw [List.length_map]; exact hlt)⟩)
  rwa [k1] at this
 have hc' := count_right hr' hN
 have hnN:(blocksF (xs.length:Int)).toNat=n := by omega
 have hat:∀ i (hi:i<n),putN st.data ps' xs n ((blocksI ps')[i]'(by omega))=some (partO xs i) := fun i hi => putN_at hr' hN st.data xs n i (by omega) hi
 have hoff:∀ b,b∉blocksI ps'→putN st.data ps' xs n b=st.data b := fun b hb => putN_off hr' hN st.data xs hb n (by omega)
 refine ⟨h.set hk (y' := ⟨xs.length,y.refs,ps'⟩) k1 k2 k5 k4 ⟨hs.1,hs.2.1,by simp only; omega,by simp only; omega,by simp only; rw [hc',k3,hn],fun e => by simp only at e; omega⟩ (fun b hb => ?_) (fun b hb => ?_),?_,fun j z hne hj => ?_⟩
 ·rw [hnN]
  obtain ⟨i,hi,rfl⟩ := List.mem_iff_getElem.1 hb
  exact ⟨_,hat i (by rw [← k3]; exact hi),partO_length xs (by rw [k3] at hi; omega)⟩
 ·rw [hnN]; exact hoff b hb
 ·unfold bytesP
  simp only [hc',k3,Int.toNat_natCast]
  have e:catD (fun i => ((fillSt st k y xs ps' bits').data (atF ps' (i:Int)).1).getD []) n=catD (partO xs) n := catD_congr fun i hi => by
   show (putN st.data ps' xs (blocksF (xs.length:Int)).toNat _).getD []=_
   rw [hnN,at_right hr' hN (by omega),hat i hi]; rfl
  rw [e,← hnN]
  exact catD_part xs
 ·refine bytesP_congr hN (h.right hj) fun b hb => ?_
  show putN st.data ps' xs (blocksF (xs.length:Int)).toNat b=_
  rw [hnN]
  refine hoff b fun hm => ?_
  refine k2.once j k z.ps ps' hne ?_ (List.getElem?_set_self (by rw [List.length_map]; exact hlt)) b hb hm
  rw [List.getElem?_set_ne (Ne.symm hne),List.getElem?_map,hj]; rfl
end
theorem Leg.empty {N:Nat} {s:Int} (hg:¬ laidBad N s) (hr:firstN N s<N) (hN:N≤4096):Leg N s (emptyP N s (firstN N s)) := by
 have h0:¬ (s<1∨256<s∨(N:Int)<1) := hg
 have hbb := bitsN_bd (N := N) (by omega)
 have hfd:firstN (N:Int) s=1+bitsN N+(s+3) / 4 := rfl
 have hno:allBlk (emptyP N s (firstN N s)).slots=[] := allBlk_none fun y hy => by
  have := List.eq_of_mem_replicate hy
  subst this; rfl
 have hsl:∀ (k:Nat) (y:PSl),(emptyP N s (firstN N s)).slots[k]?=some y→y=⟨0,0,[]⟩ := fun k y hk => List.eq_of_mem_replicate (List.mem_of_getElem? hk)
 refine ⟨by simp [emptyP],by simp only [emptyP]; rw [setAll_length,List.length_replicate,Int.toNat_natCast],⟨fun l hl => ?_,fun l hl x hx => ?_,fun i k l m _ hl _ x hx => ?_⟩,fun i hi => ?_,fun b hb => by rw [hno] at hb; simp at hb,fun k y hk => ?_,fun b hb => by rw [hno] at hb; simp at hb,by omega,by omega,hN⟩
 ·obtain ⟨y,hy,rfl⟩ := List.mem_map.1 hl
  have := List.eq_of_mem_replicate hy
  subst this
  exact right_nil' _ _
 ·obtain ⟨y,hy,rfl⟩ := List.mem_map.1 hl
  have := List.eq_of_mem_replicate hy
  subst this
  simp [blocksI] at hx
 ·obtain ⟨y,hy,rfl⟩ := List.mem_map.1 (List.mem_of_getElem? hl)
  have := List.eq_of_mem_replicate hy
  subst this
  simp [blocksI] at hx
 ·rw [hno]
  obtain ⟨f,hf⟩:∃ f:Nat,firstN (N:Int) s=f := ⟨(firstN (N:Int) s).toNat,by omega⟩
  simp only [emptyP,hf]
  rw [onB_setAll _ _ _ (fun x hx => by
   obtain ⟨j,hj,rfl⟩ := List.mem_map.1 hx
   have := List.mem_range.1 hj
   rw [List.length_replicate]
   omega)]
  by_cases hm:(i:Int)∈((List.range (f:Int).toNat).map fun (k:Nat) => (k:Int))
  ·rw [if_pos hm]
   obtain ⟨j,hj,e⟩ := List.mem_map.1 hm
   have := List.mem_range.1 hj
   exact ⟨fun _ => .inl (by omega),fun _ => rfl⟩
  ·rw [if_neg hm]
   refine ⟨fun h1 => ?_,fun h1 => ?_⟩
   ·unfold onB at h1
    simp only [List.getD_eq_getElem?_getD,List.getElem?_replicate] at h1
    split at h1 <;> simp at h1
   ·rcases h1 with h1 | h1
    ·exact absurd (List.mem_map.2 ⟨i,List.mem_range.2 (by omega),rfl⟩) hm
    ·simp at h1
 ·have := hsl k y hk
  subst this
  exact ⟨by simp,by simp,by simp,by simp,by rw [countF_nil]; rfl,fun _ => ⟨rfl,rfl⟩⟩
end Go.Proofs
end

section
open Go Go.Vc Go.Proofs.Bx
namespace Go.Proofs
theorem over_trnA (P Q:Nat→Octs) (base:Nat→Octs):∀ (n k:Nat),overT base (trnA P Q n) k=if k<n∧P k≠Q k then P k else base k
 | 0,k => by simp [trnA,overT,tAll,tGet]
 | n+1,k => by
  rw [trnA_succ,over_app]
  by_cases h:P n=Q n
  ·rw [if_pos h]
   have e:overT (overT base (trnA P Q n)) []=overT base (trnA P Q n) := by funext j; simp [overT,tAll,tGet]
   rw [e,over_trnA P Q base n k]
   by_cases hk:k=n
   ·subst hk; rw [if_neg (by omega),if_neg (fun hh => hh.2 h)]
   ·by_cases h2:k<n∧P k≠Q k
    ·rw [if_pos h2,if_pos ⟨by omega,h2.2⟩]
    ·rw [if_neg h2,if_neg (fun hh => h2 ⟨by omega,hh.2⟩)]
  ·rw [if_neg h,overT_one]
   by_cases hk:k=n
   ·subst hk; rw [if_pos rfl,if_pos ⟨by omega,h⟩]
   ·rw [if_neg (by omega),over_trnA P Q base n k]
    by_cases h2:k<n∧P k≠Q k
    ·rw [if_pos h2,if_pos ⟨by omega,h2.2⟩]
    ·rw [if_neg h2,if_neg (fun hh => h2 ⟨by omega,hh.2⟩)]
open Classical in
theorem over_trnB (now kept:PSt) (f:Nat) (base:Nat→Octs):∀ (n k:Nat),overT base (trnB now kept f n) k=if f≤k∧k<f+n∧datT now kept k then datO now k else base k
 | 0,k => by
  rw [if_neg (by omega)]
  simp [trnB,overT,tAll,tGet]
 | n+1,k => by
  have ih := over_trnB now kept f base n k
  by_cases h:datT now kept (f+n)
  ·rw [(trnB_succ now kept f n).1 h,over_app,overT_one]
   by_cases hk:k=f+n
   ·subst hk; rw [if_pos rfl,if_pos ⟨by omega,by omega,h⟩]
   ·rw [if_neg (by omega),ih]
    by_cases h2:f≤k∧k<f+n∧datT now kept k
    ·rw [if_pos h2,if_pos ⟨h2.1,by omega,h2.2.2⟩]
    ·rw [if_neg h2,if_neg (fun hh => h2 ⟨hh.1,by omega,hh.2.2⟩)]
  ·rw [(trnB_succ now kept f n).2 h,ih]
   by_cases hk:k=f+n
   ·subst hk; rw [if_neg (by omega),if_neg (fun hh => h hh.2.2)]
   ·by_cases h2:f≤k∧k<f+n∧datT now kept k
    ·rw [if_pos h2,if_pos ⟨h2.1,by omega,h2.2.2⟩]
    ·rw [if_neg h2,if_neg (fun hh => h2 ⟨hh.1,by omega,hh.2.2⟩)]
open Classical in
theorem image_next {N:Nat} {s:Int} {now kept:PSt} {cur:Nat→Octs} (hf:0≤firstN N s∧firstN N s≤N) (h:Image N s kept cur) {xN xK:Octs} (hN:BytesAre now.bits xN) (hK:BytesAre kept.bits xK):Image N s now (overT cur (turnW N s xN xK now kept)) := by
 obtain ⟨xs,h1,h2,h3⟩ := h
 have e := h1.one hK
 subst e
 obtain ⟨f,hff⟩:∃ f:Nat,firstN (N:Int) s=f := ⟨(firstN N s).toNat,by omega⟩
 have key:∀ k:Nat,overT cur (turnW N s xN xs now kept) k=if f≤k∧k<N∧datT now kept k then datO now k else if k<f∧fxB s xN now k≠fxB s xs kept k then fxB s xN now k else cur k := by
  intro k
  unfold turnW
  rw [hff,Int.toNat_natCast,over_app,over_trnB,over_trnA]
  by_cases h1:f≤k∧k<N∧datT now kept k
  ·rw [if_pos ⟨h1.1,by omega,h1.2.2⟩,if_pos h1]
  ·rw [if_neg (fun hh => h1 ⟨hh.1,by omega,hh.2.2⟩),if_neg h1]
 refine ⟨xN,hN,fun k hk => ?_,fun k hk1 hk2 hon => ?_⟩
 ·rw [key,if_neg (by omega)]
  by_cases hd:fxB s xN now k=fxB s xs kept k
  ·rw [if_neg (fun hh => hh.2 hd),h2 k hk,hd]
  ·rw [if_pos ⟨by omega,hd⟩]
 ·rw [key]
  by_cases hd:datT now kept k
  ·rw [if_pos ⟨by omega,by omega,hd⟩]
  ·rw [if_neg (fun hh => hd hh.2.2),if_neg (fun hh => by omega)]
   have hk3:onB kept.bits k=true := by
    cases e:onB kept.bits k with
    | true => rfl
    | false => exact absurd ⟨hon,.inl e⟩ hd
   rw [h3 k hk1 hk2 hk3]
   by_cases e:datO now k=datO kept k
   ·exact e.symm
   ·exact absurd ⟨hon,.inr e⟩ hd
theorem turn_may {N:Nat} {s:Int} {now kept:PSt} (hl:Leg N s now) (hg:¬ laidBad N s) {xN xK:Octs} (hN:BytesAre now.bits xN) (hne:turnW N s xN xK now kept≠[]):MayP (turnW N s xN xK now kept) (N:Int) := by
 have h0:¬ (s<1∨256<s∨(N:Int)<1) := hg
 obtain ⟨f,hff⟩:∃ f:Nat,firstN (N:Int) s=f := ⟨(firstN N s).toNat,by have := hl.num; omega⟩
 have hnum := hl.num
 have fl := (fix_length (N := N) (s := s) (xs := xN) (sl := now.slots) (by omega) (by rw [hN.len,hl.bits]) hl.slots hl.shape.ok).1
 rw [hff,Int.toNat_natCast] at fl
 have hA:∀ w∈trnA (fxB s xN now) (fxB s xK kept) f,∃ k:Nat,k<f∧w=((k:Int),fxB s xN now k) := fun w hw => by
  unfold trnA at hw
  obtain ⟨k,hk,e⟩ := List.mem_filterMap.1 hw
  split at e
  ·cases e
  ·cases e; exact ⟨k,List.mem_range.1 hk,rfl⟩
 have hB:∀ w∈trnB now kept f (N - f),∃ k:Nat,f≤k∧k<N∧onB now.bits k=true∧w=((k:Int),datO now k) := fun w hw => by
  unfold trnB at hw
  obtain ⟨k,hk,e⟩ := List.mem_filterMap.1 hw
  split at e
  ·rename_i ht
   cases e
   have := List.mem_range.1 hk
   exact ⟨f+k,by omega,by omega,ht.1,rfl⟩
  ·cases e
 have hnodA:((trnA (fxB s xN now) (fxB s xK kept) f).map (·.1)).Nodup := by
  have:((trnA (fxB s xN now) (fxB s xK kept) f).map (·.1)).Sublist ((List.range f).map fun (k:Nat) => (k:Int)) := by
   unfold trnA
   rw [List.map_filterMap]
   have:∀ l:List Nat,(l.filterMap fun k => ((if fxB s xN now k=fxB s xK kept k then none else some ((k:Int),fxB s xN now k)):Option Wr).map (·.1)).Sublist (l.map fun (k:Nat) => (k:Int)) := fun l => by
    induction l with
    | nil => exact List.Sublist.refl _
    | cons a r ih =>
     rw [List.filterMap_cons,List.map_cons]
     split
     ·exact ih.cons _
     ·rename_i b e
      split at e
      ·cases e
      ·cases e; exact ih.cons_cons _
   exact this _
  exact this.nodup ((List.nodup_range).map _ fun a b h e => h (by omega))
 have hnodB:((trnB now kept f (N - f)).map (·.1)).Nodup := by
  have:((trnB now kept f (N - f)).map (·.1)).Sublist ((List.range (N - f)).map fun (k:Nat) => ((f+k:Nat):Int)) := by
   unfold trnB
   rw [List.map_filterMap]
   generalize List.range (N - f)=l
   induction l with
   | nil => exact List.Sublist.refl _
   | cons a r ih =>
    rw [List.filterMap_cons,List.map_cons]
    split
    ·exact ih.cons _
    ·rename_i b e
     split at e
     ·cases e; exact ih.cons_cons _
     ·cases e
  exact this.nodup ((List.nodup_range).map _ fun a b h e => h (by omega))
 unfold turnW at hne ⊢
 rw [hff,Int.toNat_natCast] at hne ⊢
 refine ⟨hne,fun w hw => ?_,?_⟩
 ·rcases List.mem_append.1 hw with hw | hw
  ·obtain ⟨k,hk,rfl⟩ := hA w hw
   refine ⟨by simp only; omega,by simp only; omega,?_⟩
   show (fxB s xN now k).length=128
   unfold fxB
   rw [List.length_take,List.length_drop,fl]
   have:(k+1)*128≤f*128 := Nat.mul_le_mul_right _ hk
   omega
  ·obtain ⟨k,hk1,hk2,hon,rfl⟩ := hB w hw
   refine ⟨by simp only; omega,by simp only; omega,?_⟩
   have hm:(k:Int)∈allBlk now.slots := ((hl.on k hk2).1 hon).resolve_left (by omega)
   obtain ⟨o,ho,hol⟩ := hl.data _ hm
   show (datO now k).length=128
   unfold datO
   rw [ho]; exact hol
 ·rw [List.map_append,List.nodup_append]
  refine ⟨hnodA,hnodB,fun a ha b hb e => ?_⟩
  obtain ⟨w,hw,rfl⟩ := List.mem_map.1 ha
  obtain ⟨w',hw',rfl⟩ := List.mem_map.1 hb
  obtain ⟨k,hk,rfl⟩ := hA w hw
  obtain ⟨k',hk',_,_,rfl⟩ := hB w' hw'
  simp only at e
  omega
theorem turn_length (N:Nat) (s:Int) (xN xK:Octs) (now kept:PSt) (h:0≤firstN N s∧firstN N s≤N):(turnW N s xN xK now kept).length≤N := by
 unfold turnW
 have h1 := trnA_length (fxB s xN now) (fxB s xK kept) (firstN N s).toNat
 have h2 := trnB_length now kept (firstN N s).toNat (N - (firstN N s).toNat)
 rw [List.length_append]
 omega
section
variable {H0 H:Heap} {M:Nat→Prop} {ps pj pd n z B N:Nat} {s:Int} {now kept:PSt} {J:Jn} {D:Dev} {cur:Nat→Octs} {S S':(Nat→Octs)→Prop}
def FellS (H0 H:Heap) (M:Nat→Prop) (pd n z B:Nat) (S:(Nat→Octs)→Prop):Prop := ∃ Fj D,DvIn H0 H Fj pd D n B∧Fell n z B D S∧(∀ q,Fj q→M q)∧∀ q,M q→H0.size≤q∧q<H.size
theorem over_nil (cur:Nat→Octs):overT cur []=cur := by funext k; simp [overT,tAll,tGet]
set_option maxRecDepth 100000 in
set_option maxHeartbeats 2000000 in
theorem StL.commitR (h:StL H0 H M ps pj pd n z B N s now kept J D cur S) (hB:B≤600000000) (h1:Leg N s now) (h2:Leg N s kept) (hg:¬ laidBad N s) (hr:firstN N s<N) (hSS:∀ x,S x→S' x) (hS':∀ xN xK,BytesAre now.bits xN→BytesAre kept.bits xK→S' (overT cur (turnW N s xN xK now kept))) {R:Value→Heap→Prop}
  (r0:∀ H' M' xN xK J' D',BytesAre now.bits xN→BytesAre kept.bits xK→Step H M H' M'→StL H0 H' M' ps pj pd n z (B+14100) N s now now J' D' (overT cur (turnW N s xN xK now kept)) S'→(D.fuse=-1→D'.fuse=-1)→R (.int .i64 0) H')
  (r5:∀ H' M' xN xK,BytesAre now.bits xN→BytesAre kept.bits xK→Step H M H' M'→(z:Int)<needsN (turnW N s xN xK now kept).length→StL H0 H' M' ps pj pd n z (B+14100) N s kept kept J D cur S→R (.int .i64 5) H')
  (r4:∀ H' M' xN xK,BytesAre now.bits xN→BytesAre kept.bits xK→Step H M H' M'→D.fuse≠-1→FellS H0 H' M' pd n z (B+14100) S'→R (.int .i64 4) H'):Does Tryz.prog 36 [.pointer (some ⟨ps,0,none⟩)] H R := by
 have hnn := h.num
 have hlo := h.low
 obtain ⟨Fj,Fx,Fy,Fd,x,y,hT,hJ,hM⟩ := h.ex
 have hdead := hJ.live.lays.2.2.2.2.1
 have hps:M ps := (hM ps).1 (.inr (.inr (.inr (.inr rfl))))
 have hpsl := hT.blk.lt
 have hjl := hT.jd.lt
 have hxl := hT.now.lt
 have hyl := hT.kept.lt
 have hz0 := hJ.jin.ext.size
 have hkeep:∀ {K:Heap} {Fj':Nat→Prop} {J':Jn} {D':Dev} {B':Nat} {cur':Nat→Octs} {S1:(Nat→Octs)→Prop} {M1:Nat→Prop},Sto K Fj' Fx Fy Fd ps pj pd N s (bitsN N) (firstN N s) x y now kept J' D'→JL H0 K Fj' pj pd n z B' J' D' cur' S1→Step H M K M1→(∀ q,Fj' q∨Fx q∨Fy q∨Fd q∨q=ps↔M1 q)→(∀ q,M1 q→H0.size≤q) →
   (∀ K' M',Step H M K' M'→StL H0 K' M' ps pj pd n z B' N s now now J' D' cur' S1→R (.int .i64 0) K') →
   ∃ b18 o19:Nat,some (⟨ps,0,none⟩:Addr)=some (⟨b18,o19,none⟩:Addr)∧(∃ a20:Option Addr,∃ l21:Nat,∃ c22:Nat,hcell K b18 (o19+5)=some (.slice a20 l21 c22)∧(∃ p23:Option Addr,hcell K b18 ((o19+5)+1)=some (.pointer p23)∧(∃ m24:Option Nat,hcell K b18 (((o19+5)+1)+1)=some (.map m24)∧(
    Does Tryz.prog 94 [(.agg #[(.slice a20 l21 c22),(.pointer p23),(.map m24)])] K fun v25 H26 => ∃ a27:Option Addr,∃ l28:Nat,∃ c29:Nat,∃ p30:Option Addr,∃ m31:Option Nat,v25=(.agg #[(.slice a27 l28 c29),(.pointer p30),(.map m31)])∧(
     ∃ b32 o33:Nat,some (⟨ps,0,none⟩:Addr)=some (⟨b32,o33,none⟩:Addr)∧(Cells H26 b32 (o33+8) 3∧∀ H34:Heap,Puts H26 b32 (o33+8) [(.slice a27 l28 c29),(.pointer p30),(.map m31)] H34→R (.int .i64 0) H34)))))) := by
  intro K Fj' J' D' B' cur' S1 M1 hT' hJ' hst hM1 hlo1 hR
  obtain ⟨rl,ba,bc,ml,hn,ho⟩ := hT'.now
  refine ⟨ps,0,rfl,x.a,x.n,x.c,by rw [hT'.blk.cell]; rfl,some ⟨x.tb,0,none⟩,by rw [hT'.blk.cell]; rfl,some x.mb,by rw [hT'.blk.cell]; rfl,(copied_ok hn hT'.num.1 hT'.lt).mono ?_⟩
  rintro _ K1 ⟨x',ba',bc',ml',rfl,h9,hx9,hf9,hnn'⟩
  have hb9 := hT'.blk.ext hx9 (by simp)
  refine ⟨_,_,_,_,_,rfl,ps,0,rfl,hb9.cells 3 8 (by simp [stoV,rstV]),fun K2 hp => ?_⟩
  have hb2:Blk K2 ps (stoV pj N s (bitsN N) (firstN N s) x x') := hp.blk hb9 (by simp [stoV,rstV])
  have hx2 := hp.ext
  have hx:ExtP (fun q => q=ps) K K2 := (hx9.anyP).trans (hx2.lift fun q _ hq => by simpa using hq)
  have hKps := hT'.blk.lt
  have z9 := hx9.size
  have zst := hst.ext.size
  have hjl' := hT'.jd.lt
  have hxl' := hT'.now.lt
  have hN:∀ q,K.size≤q→q≠ps := fun q hq => by omega
  have hn2:NowE K2 Fd x Fx now := hT'.now.extP hx (fun q hq e => hT'.sep.2.1 (e ▸ hq)) (fun q hq e => hT'.sep.2.2.2 (e ▸ hq))
  have hk2:NowE K2 Fd x' (ownS x' ba') now := ⟨rl,ba',bc',ml',h9.extP (hx2.lift (N := fun q => q=ps) fun q _ hq => by simpa using hq) (fun q hq => hN q (hf9 q hq)) (fun q hq e => hT'.sep.2.2.2 (e ▸ hq)),fun _ => Iff.rfl⟩
  have hSt:Sto K2 Fj' Fx (ownS x' ba') Fd ps pj pd N s (bitsN N) (firstN N s) x x' now now J' D' := ⟨hb2,hT'.jd.ext hx (fun q hq e => hT'.sep.1 (e ▸ hq)),hn2,hk2,⟨hT'.sep.1,hT'.sep.2.1,fun h => by have := hf9 ps h; omega,hT'.sep.2.2.2⟩,
   fun q hq => ⟨(hT'.sepJ q hq).1,fun h => by have := hf9 q h; have := hjl' q hq; omega,(hT'.sepJ q hq).2.2⟩,fun q hq h => by have := hf9 q h; have := hxl' q hq; omega,fun q hq h => by have := hf9 q hq; have := hT'.lt q h; omega,fun q hq => by have := hT'.lt q hq; have := hx.size; omega,⟨hT'.num.1,by rw [hnn']; exact hT'.num.1⟩⟩
  have hJL:JL H0 K2 Fj' pj pd n z B' J' D' cur' S1 := ⟨⟨hSt.jd,hJ'.jin.wf,hJ'.jin.jwf,hJ'.jin.low,ext_low hJ'.jin.ext hx (fun q hq _ => by rw [hq]; exact hlo ps hps)⟩,hJ'.live⟩
  refine hR K2 (fun q => Fj' q∨Fx q∨ownS x' ba' q∨Fd q∨q=ps) ⟨hst.ext.trans' hx (fun q hq => .inr (hq ▸ hps)),?_⟩ ⟨⟨Fj',Fx,ownS x' ba',Fd,x,x',hSt,hJL,fun _ => Iff.rfl⟩,?_,hnn⟩
  ·rintro q (hq | hq | hq | hq | hq)
   ·exact hst.reg q ((hM1 q).1 (.inl hq))
   ·exact hst.reg q ((hM1 q).1 (.inr (.inl hq)))
   ·have := hf9 q hq; exact .inr (by omega)
   ·exact hst.reg q ((hM1 q).1 (.inr (.inr (.inr (.inl hq)))))
   ·exact hst.reg q ((hM1 q).1 (.inr (.inr (.inr (.inr hq)))))
  ·rintro q (hq | hq | hq | hq | hq)
   ·exact hlo1 q ((hM1 q).1 (.inl hq))
   ·exact hlo1 q ((hM1 q).1 (.inr (.inl hq)))
   ·have := hf9 q hq; have := hJ'.jin.ext.size; omega
   ·exact hlo1 q ((hM1 q).1 (.inr (.inr (.inr (.inl hq)))))
   ·exact hlo1 q ((hM1 q).1 (.inr (.inr (.inr (.inr hq)))))
 refine Fn_of_vc Tryz.mixed (CommitSV _ _ _) ?_
 refine ⟨ps,0,rfl,some ⟨pj,0,none⟩,by rw [hT.blk.cell]; rfl,(jdead_ok hT.jd).mono ?_⟩
 rintro _ _ ⟨rfl,rfl⟩
 rw [hdead]
 refine ⟨_,rfl,fun h => (by cases h),fun _ => (turned_ok hT h1.shape h2.shape h1.num.2.2 hg hr).mono ?_⟩
 rintro _ H8 ⟨a,c,xN,xK,hxN,hxK,rfl,hsq,hfr,hx8⟩
 have z8 := hx8.size
 have hT8 := hT.extP (P := fun _ => False) hx8.anyP (fun _ _ h => h)
 have hJ8 := hJ.more hx8
 have hst8:Step H M H8 M := ⟨hx8.anyP,fun _ h => .inl h⟩
 obtain ⟨W,hW⟩:∃ W,turnW N s xN xK now kept=W := ⟨_,rfl⟩
 rw [hW] at hsq ⊢
 have hWl:W.length≤N := by rw [← hW]; exact turn_length N s xN xK now kept ⟨h1.num.1,h1.num.2.1⟩
 have hN4 := h1.num.2.2
 refine ⟨a,W.length,c,rfl,fun hpos => ?_,fun hz => ?_⟩
 ·have hne:W≠[] := fun e => by rw [e] at hpos; simp at hpos
  have hmay:MayP W (n - 1 - z:Int) := by
   have := turn_may (xK := xK) (kept := kept) h1 hg hxN (by rw [hW]; exact hne)
   rw [hW] at this
   have e:(N:Int)=n - 1 - z := by omega
   rw [← e]; exact this
  have hKw:KeptW Fj H8 a W := fun K hK => by
   have := hsq.extP hK (fun q hq hm => by have := hfr q hq; have := hjl q hm; omega) (fun q hq hm => by
    rcases hq with hq | hq
    ·exact (hT.sepJ q hm).2.2 hq
    ·have := hjl q hm; omega)
   obtain ⟨vs,g1,g2,g3⟩ := this
   have hrow := g1.row W.length c
   rw [hsq.num] at hrow
   exact ⟨vs,g1.row _ _,g2,fun i w hw => by
    obtain ⟨v,q1,q2,_⟩ := g3 i w hw
    exact ⟨v,q1,q2⟩⟩
  refine ⟨ps,0,rfl,some ⟨pj,0,none⟩,by rw [hT8.blk.cell]; rfl,(hJ8.commit (S' := S') hB hSS (hW ▸ hS' xN xK hxN hxK) hKw (by omega) (c := c)).mono ?_⟩
  rintro v H16 ⟨hx16,e,J',D',rfl,_,hcase⟩
  have z16 := hx16.size
  have hjM:∀ q,Fj q→M q := fun q hq => (hM q).1 (.inl hq)
  have hst16:Step H M H16 (fun q => grow Fj H8 H16 q∨Fx q∨Fy q∨Fd q∨q=ps) := ⟨hst8.ext.trans' hx16 (fun q hq => .inr (hjM q hq)),by
   rintro q ((hq | hq) | hq | hq | hq | hq)
   ·exact .inl (hjM q hq)
   ·exact .inr (by omega)
   ·exact .inl ((hM q).1 (.inr (.inl hq)))
   ·exact .inl ((hM q).1 (.inr (.inr (.inl hq))))
   ·exact .inl ((hM q).1 (.inr (.inr (.inr (.inl hq)))))
   ·exact .inl ((hM q).1 (.inr (.inr (.inr (.inr hq)))))⟩
  have hlo16:∀ q,(grow Fj H8 H16 q∨Fx q∨Fy q∨Fd q∨q=ps)→H0.size≤q := by
   rintro q ((hq | hq) | hq | hq | hq | hq)
   ·exact hlo q (hjM q hq)
   ·omega
   ·exact hlo q ((hM q).1 (.inr (.inl hq)))
   ·exact hlo q ((hM q).1 (.inr (.inr (.inl hq))))
   ·exact hlo q ((hM q).1 (.inr (.inr (.inr (.inl hq)))))
   ·exact hlo q ((hM q).1 (.inr (.inr (.inr (.inr hq)))))
  have hT16:∀ {J1:Jn} {D1:Dev},JD H16 (grow Fj H8 H16) pj pd J1 D1→Sto H16 (grow Fj H8 H16) Fx Fy Fd ps pj pd N s (bitsN N) (firstN N s) x y now kept J1 D1 := fun {J1 D1} hjd => by
   have hg1:∀ q,q<H8.size→¬ Fj q→¬ grow Fj H8 H16 q := fun q hq h1 h2 => h2.elim h1 fun h => by omega
   exact ⟨hT8.blk.extP hx16 hT8.sep.1,hjd,hT8.now.extP hx16 (fun q hq h => (hT8.sepJ q h).1 hq) (fun q hq h => (hT8.sepJ q h).2.2 hq),hT8.kept.extP hx16 (fun q hq h => (hT8.sepJ q h).2.1 hq) (fun q hq h => (hT8.sepJ q h).2.2 hq),
    ⟨hg1 ps hT8.blk.lt hT8.sep.1,hT8.sep.2⟩,fun q hq => by
     rcases hq with hq | hq
     ·exact hT8.sepJ q hq
     ·exact ⟨fun h => by have := hT8.now.lt q h; omega,fun h => by have := hT8.kept.lt q h; omega,fun h => by have := hT8.lt q h; omega⟩,hT8.sepX,hT8.sepY,fun q hq => by have := hT8.lt q hq; omega,hT8.num⟩
  rcases hcase with ⟨g1,_⟩ | ⟨_,hbig,rfl,hJ16⟩ | ⟨_,_,rfl,hJ16,hfu⟩ | ⟨_,rfl,hJn,hfell,hfu⟩
  ·exact absurd hmay g1
  ·refine ⟨5,rfl,fun h => absurd h (by decide),fun _ => ⟨fun _ => ?_,fun h => absurd rfl h⟩⟩
   have hSt := hT16 hJ16.jin.jd
   refine (undo_ok hSt).mono ?_
   rintro _ H36 ⟨rfl,Fx',x',hS36,hx36,hf36⟩
   have z36 := hx36.size
   refine ⟨rfl,r5 H36 (fun q => grow Fj H8 H16 q∨Fx' q∨Fy q∨Fd q∨q=ps) xN xK hxN hxK ⟨hst16.ext.trans' hx36 (fun q hq => .inr (hq ▸ hps)),?_⟩ (by rw [hW]; exact hbig) ⟨⟨_,Fx',Fy,Fd,x',y,hS36,⟨⟨hS36.jd,hJ16.jin.wf,hJ16.jin.jwf,hJ16.jin.low,ext_low hJ16.jin.ext hx36 (fun q hq _ => by rw [hq]; exact hlo ps hps)⟩,hJ16.live⟩,fun _ => Iff.rfl⟩,?_,hnn⟩⟩
   ·rintro q (hq | hq | hq | hq | hq)
    ·exact hst16.reg q (.inl hq)
    ·have := hf36 q hq; exact .inr (by omega)
    ·exact hst16.reg q (.inr (.inr (.inl hq)))
    ·exact hst16.reg q (.inr (.inr (.inr (.inl hq))))
    ·exact hst16.reg q (.inr (.inr (.inr (.inr hq))))
   ·rintro q (hq | hq | hq | hq | hq)
    ·exact hlo16 q (.inl hq)
    ·have := hf36 q hq; omega
    ·exact hlo16 q (.inr (.inr (.inl hq)))
    ·exact hlo16 q (.inr (.inr (.inr (.inl hq))))
    ·exact hlo16 q (.inr (.inr (.inr (.inr hq))))
  ·refine ⟨0,rfl,fun _ => ?_,fun h => absurd rfl h⟩
   refine hkeep (hT16 hJ16.jin.jd) hJ16 hst16 (fun _ => Iff.rfl) hlo16 fun K' M' hs hL => ?_
   exact r0 K' M' xN xK J' D' hxN hxK hs (by rw [hW]; exact hL) hfu
  ·refine ⟨4,rfl,fun h => absurd h (by decide),fun _ => ⟨fun h => absurd h (by decide),fun _ => ?_⟩⟩
   exact r4 H16 _ xN xK hxN hxK hst16 hfu ⟨_,D',hJn.dv,hfell,fun q hq => .inl hq,fun q hq => ⟨hlo16 q hq,by
    rcases hq with (hq | hq) | hq | hq | hq | hq
    ·have := hjl q hq; omega
    ·omega
    ·have := hxl q hq; omega
    ·have := hyl q hq; omega
    ·have := hT.lt q hq; omega
    ·omega⟩⟩
 ·have hW0:W=[] := List.eq_nil_of_length_eq_zero (by omega)
  refine hkeep hT8 (hJ8.up (B' := B+14100) (S' := S') (by omega) (by omega) hSS) hst8 hM hlo fun K' M' hs hL => ?_
  exact r0 K' M' xN xK J D hxN hxK hs (by rw [hW,hW0,over_nil]; exact hL) (fun h => h)
theorem StL.commit (h:StL H0 H M ps pj pd n z B N s now kept J D cur S) (hB:B≤600000000) (h1:Leg N s now) (h2:Leg N s kept) (hg:¬ laidBad N s) (hr:firstN N s<N) (hSS:∀ x,S x→S' x) (hS':∀ xN xK,BytesAre now.bits xN→BytesAre kept.bits xK→S' (overT cur (turnW N s xN xK now kept))) :
  Does Tryz.prog 36 [.pointer (some ⟨ps,0,none⟩)] H fun v H' => ∃ xN xK M',BytesAre now.bits xN∧BytesAre kept.bits xK∧Step H M H' M' ∧
   ((v=.int .i64 0∧∃ J' D',StL H0 H' M' ps pj pd n z (B+14100) N s now now J' D' (overT cur (turnW N s xN xK now kept)) S'∧(D.fuse=-1→D'.fuse=-1)) ∨
    (v=.int .i64 5∧(z:Int)<needsN (turnW N s xN xK now kept).length∧StL H0 H' M' ps pj pd n z (B+14100) N s kept kept J D cur S) ∨
    (v=.int .i64 4∧D.fuse≠-1∧FellS H0 H' M' pd n z (B+14100) S')) := by
 refine h.commitR hB h1 h2 hg hr hSS hS' (fun H' M' xN xK J' D' g1 g2 g3 g4 g5 => ?_) (fun H' M' xN xK g1 g2 g3 g4 g5 => ?_) (fun H' M' xN xK g1 g2 g3 g4 g5 => ?_)
 ·exact ⟨xN,xK,M',g1,g2,g3,.inl ⟨rfl,J',D',g4,g5⟩⟩
 ·exact ⟨xN,xK,M',g1,g2,g3,.inr (.inl ⟨rfl,g4,g5⟩)⟩
 ·exact ⟨xN,xK,M',g1,g2,g3,.inr (.inr ⟨rfl,g4,g5⟩)⟩
end
end Go.Proofs
end

section
open Go Go.Vc
namespace Go.Proofs
set_option maxRecDepth 100000
theorem KnownV (H:Heap) (R:Value→Heap→Prop):Walk Tryz.prog 19 [] [] H R=(
 Does Tryz.prog 29 [(.int .i64 60),(.int .i64 12),(.int .i64 8)] H fun v1 H2 => ∃ p3:Option Addr,∃ p4:Option Addr,v1=(.tuple #[(.pointer p3),(.pointer p4)])∧(
 ((((p3:Option Addr)=none)→(
 R (.bool false) H2))∧(¬ ((p3:Option Addr)=none)→(
 ((((p4:Option Addr)=none)→(
 R (.bool false) H2))∧(¬ ((p4:Option Addr)=none)→(
 ∀ b5:Nat,∀ H6:Heap,New H2 b5 [(.int .u8 97),(.int .u8 98)] 5 H6→(
 ∃ b7 o8:Nat,(some (⟨b5,0,none⟩:Addr))=some (⟨b7,o8,none⟩:Addr)∧(
 IsCells H6 b7∧∀ H9:Heap,MarkTo H6 b7 H9→(
 Does Tryz.prog 31 [(.pointer p3),(.slice (some (⟨b5,0,none⟩:Addr)) 2 2)] H9 fun v10 H11 => ∃ n12:Int,∃ n13:Int,v10=(.tuple #[(.int .i64 n12),(.int .i64 n13)])∧(
 ((((n13:Int)≠0)→(
 R (.bool false) H11))∧(¬ ((n13:Int)≠0)→(
 ((((n12:Int)≠1)→(
 R (.bool false) H11))∧(¬ ((n12:Int)≠1)→(
 Does Tryz.prog 36 [(.pointer p3)] H11 fun v14 H15 => ∃ n16:Int,v14=(.int .i64 n16)∧(
 ((((n16:Int)≠0)→(
 R (.bool false) H15))∧(¬ ((n16:Int)≠0)→(
 Does Tryz.prog 47 [(.pointer p3)] H15 fun v17 H18 => ∃ n19:Int,v17=(.int .i64 n19)∧(
 ((((n19:Int)≠0)→(
 R (.bool false) H18))∧(¬ ((n19:Int)≠0)→(
 Does Tryz.prog 49 [(.pointer p4),(.slice none 0 0)] H18 fun v20 H21 => v20=(.tuple #[])∧(
 Does Tryz.prog 27 [(.pointer p4)] H21 fun v22 H23 => ∃ p24:Option Addr,∃ n25:Int,v22=(.tuple #[(.pointer p24),(.int .i64 n25)])∧(
 ((((n25:Int)≠0)→(
 R (.bool false) H23))∧(¬ ((n25:Int)≠0)→(
 ((((p24:Option Addr)=none)→(
 R (.bool false) H23))∧(¬ ((p24:Option Addr)=none)→(
 Does Tryz.prog 45 [(.pointer p24),(.int .i64 1)] H23 fun v26 H27 => ∃ a28:Option Addr,∃ l29:Nat,∃ c30:Nat,∃ n31:Int,v26=(.tuple #[(.slice a28 l29 c30),(.int .i64 n31)])∧(
 ((((n31:Int)=0)→(
 ∃ l32:List UInt8,SRow H27 1 l29 (.slice a28 l29 c30) (List.map (fun (b:UInt8) => Value.int .u8 b.toNat) l32)∧(
 (((((ByteArray.mk (List.toArray l32)):ByteArray)=(ByteArray.mk #[97,98]))→(
 Does Tryz.prog 32 [(.pointer p24)] H27 fun v33 H34 => ∃ n35:Int,v33=(.int .i64 n35)∧(
 ((((n35:Int)=1)→(
 Does Tryz.prog 50 [(.pointer p24),(.int .i64 1)] H34 fun v36 H37 => ∃ n38:Int,v36=(.int .i64 n38)∧(
 R (.bool (@decide ((n38:Int)=1) (Classical.propDecidable _))) H37)))∧(¬ ((n35:Int)=1)→(
 R (.bool false) H34))))))∧(¬ (((ByteArray.mk (List.toArray l32)):ByteArray)=(ByteArray.mk #[97,98]))→(
 R (.bool false) H27))))))∧(¬ ((n31:Int)=0)→(
 R (.bool false) H27)))))))))))))))))))))))))))))))))))))) := by kernel_rfl
end Go.Proofs
end

section
open Go Go.Vc Go.Proofs.Bx
namespace Go.Proofs
theorem tGet_len {k:Int} {x:Octs}:∀ {t:List Wr},(∀ w∈t,w.2.length=128)→tGet t k=some x→x.length=128
 | [],_,h => by simp [tGet] at h
 | p::r,hl,h => by
  simp only [tGet] at h
  split at h
  ·cases h; exact hl p (by simp)
  ·exact tGet_len (fun w hw => hl w (by simp [hw])) h
theorem sure_len {n z B:Nat} {X:List Octs} {hm:Nat→Octs} (h:Sure n z B X hm) {k:Nat} (hk:k<n - 1 - z):(hm k).length=128 := by
 obtain ⟨e,s,T,h⟩ := h
 obtain ⟨b,hb,e1⟩ := h.home k hk
 have hto := (h.lays.may.pre (fullT_pre e T s (jbX z X))).tok
 rw [← e1]
 cases ht:tGet (tAll [] (fullT e s (jbX z X) T).flatten) k with
 | none => exact h.size b (List.mem_of_getElem? hb)
 | some x => exact tGet_len (fun w hw => (hto.1 w hw).2.2) ht
theorem Sto.jstep {H H':Heap} {Fj Fx Fy Fd:Nat→Prop} {ps pj pd:Nat} {hh ss bb ff:Int} {x y:RSt} {now kept:PSt} {J J':Jn} {D D':Dev} (h:Sto H Fj Fx Fy Fd ps pj pd hh ss bb ff x y now kept J D) (hx:ExtP Fj H H') (hjd:JD H' (grow Fj H H') pj pd J' D') :
  Sto H' (grow Fj H H') Fx Fy Fd ps pj pd hh ss bb ff x y now kept J' D' := by
 have hz := hx.size
 exact ⟨h.blk.extP hx h.sep.1,hjd,h.now.extP hx (fun q hq h' => (h.sepJ q h').1 hq) (fun q hq h' => (h.sepJ q h').2.2 hq),h.kept.extP hx (fun q hq h' => (h.sepJ q h').2.1 hq) (fun q hq h' => (h.sepJ q h').2.2 hq),
  ⟨fun h' => h'.elim h.sep.1 fun h' => by have := h.blk.lt; omega,h.sep.2⟩,fun q hq => by
   rcases hq with hq | hq
   ·exact h.sepJ q hq
   ·exact ⟨fun h' => by have := h.now.lt q h'; omega,fun h' => by have := h.kept.lt q h'; omega,fun h' => by have := h.lt q h'; omega⟩,h.sepX,h.sepY,fun q hq => by have := h.lt q hq; omega,h.num⟩
def CrashS (H0 H:Heap) (M:Nat→Prop) (pd n z B:Nat) (S:(Nat→Octs)→Prop):Prop := ∃ Fj D,DvIn H0 H Fj pd D n B∧(∀ ms,∃ hm,S hm∧Sure n z B (crashL ms D.pend 0 D.kept) hm)∧(∀ q,Fj q→M q)∧∀ q,M q→H0.size≤q∧q<H.size
section
variable {H0 H:Heap} {M:Nat→Prop} {ps pj pd n z B N:Nat} {s:Int} {now kept:PSt} {J:Jn} {D:Dev} {cur:Nat→Octs} {S S':(Nat→Octs)→Prop}
theorem StL.falls (h:StL H0 H M ps pj pd n z B N s now kept J D cur S):CrashS H0 H M pd n z B S := by
 have hl := h.lt
 have hlo := h.low
 obtain ⟨Fj,Fx,Fy,Fd,x,y,hT,hJ,hM⟩ := h.ex
 exact ⟨Fj,D,hJ.jin.dv,fun ms => Live.crash hJ.live ms,fun q hq => (hM q).1 (.inl hq),fun q hq => ⟨hlo q hq,hl q hq⟩⟩
theorem StL.sync (h:StL H0 H M ps pj pd n z B N s now kept J D cur S) (hB:B≤600000000) (hS':S' cur) :
  Does Tryz.prog 47 [.pointer (some ⟨ps,0,none⟩)] H fun v H' => ∃ M',Step H M H' M'∧((v=.int .i64 0∧∃ J' D',StL H0 H' M' ps pj pd n z (B+14100) N s now kept J' D' cur S'∧(D.fuse=-1→D'.fuse=-1)) ∨
   (v=.int .i64 4∧D.fuse≠-1∧FellS H0 H' M' pd n z (B+14100) S)) := by
 have hnn := h.num
 have hlo := h.low
 have hlt := h.lt
 obtain ⟨Fj,Fx,Fy,Fd,x,y,hT,hJ,hM⟩ := h.ex
 refine Fn_of_vc Tryz.mixed (SyncV _ _ _) ?_
 refine ⟨ps,0,rfl,some ⟨pj,0,none⟩,by rw [hT.blk.cell]; rfl,(hJ.sync (S' := S') hB hS').mono ?_⟩
 rintro v H' ⟨hx,J',D',hc⟩
 have z1 := hx.size
 have z0 := hJ.jin.ext.size
 have hjM:∀ q,Fj q→M q := fun q hq => (hM q).1 (.inl hq)
 have hlo':∀ q,(grow Fj H H' q∨Fx q∨Fy q∨Fd q∨q=ps)→(M q∨H.size≤q)∧q<H'.size := by
  rintro q ((hq | hq) | hq)
  ·have := hlt q (hjM q hq); exact ⟨.inl (hjM q hq),by omega⟩
  ·exact ⟨.inr hq.1,hq.2⟩
  ·have hm := (hM q).1 (.inr hq)
   have := hlt q hm; exact ⟨.inl hm,by omega⟩
 have hlow:∀ q,(grow Fj H H' q∨Fx q∨Fy q∨Fd q∨q=ps)→H0.size≤q := fun q hq => (hlo' q hq).1.elim (hlo q) fun h => by omega
 have hst:Step H M H' (fun q => grow Fj H H' q∨Fx q∨Fy q∨Fd q∨q=ps) := ⟨hx.mono fun q _ hq => hjM q hq,fun q hq => (hlo' q hq).1⟩
 rcases hc with ⟨rfl,hJ',hf⟩ | ⟨rfl,hJn,hfl,hf⟩
 ·exact ⟨0,rfl,_,hst,.inl ⟨rfl,J',D',⟨⟨_,Fx,Fy,Fd,x,y,hT.jstep hx hJ'.jin.jd,hJ',fun _ => Iff.rfl⟩,hlow,hnn⟩,hf⟩⟩
 ·exact ⟨4,rfl,_,hst,.inr ⟨rfl,hf,_,D',hJn.dv,hfl,fun q hq => .inl hq,fun q hq => ⟨hlow q hq,(hlo' q hq).2⟩⟩⟩
theorem StL.read (h:StL H0 H M ps pj pd n z B N s now kept J D cur S) (hl:Leg N s now) (id:Int) :
  Does Tryz.prog 45 [.pointer (some ⟨ps,0,none⟩),.int .i64 id] H fun v H' => ∃ out e M' a c,v=.tuple #[.slice a out.length c,.int .i64 e]∧SRow H' 1 out.length (.slice a out.length c) (bytesV out)∧(∀ q∈blkOf a,H.size≤q) ∧
   StL H0 H' M' ps pj pd n z B N s now kept J D cur S∧Step H M H' M'∧((e=0∧ReadOk now id out)∨(e=6∧out=[]∧¬ 0<refsP now id)) := by
 have hd := h.lays.2.2
 have hlo := h.low
 have hnn := h.num
 obtain ⟨Fj,Fx,Fy,Fd,x,y,hT,hJ,hM⟩ := h.ex
 refine (read_ok hT hl.whole id).mono ?_
 rintro v H' ⟨out,e,⟨a,c,rfl,hr,hf⟩,hL,hc⟩
 obtain ⟨M',h1,h2⟩ := StL.left hT hJ hM hlo hnn hL
 refine ⟨out,e,M',a,c,rfl,hr,hf,h1,h2,?_⟩
 rcases hc with ⟨g1,_,g2⟩ | ⟨g1,g2,⟨g3,g4⟩ | ⟨g3,_⟩⟩
 ·exact .inl ⟨g1,g2⟩
 ·exact .inr ⟨g4,g2,g3⟩
 ·rw [hd] at g3; cases g3
theorem fall_ok (h:CrashS H0 H M pd n z B S) (hB:B≤600000000) {a:Option Addr} {len cap:Nat} {ms:Octs} (hs:SRow H 1 len (.slice a len cap) (bytesV ms)) (ha:∀ q∈blkOf a,¬ M q) :
  Does Tryz.prog 49 [.pointer (some ⟨pd,0,none⟩),.slice a len cap] H fun v H' => v=.tuple #[]∧∃ M' hm K D',Step H M H' M'∧S hm∧DvIn H0 H' M' pd D' n B∧At D' K []∧Sure n z B K hm∧D'.fuse=-1∧∀ q,M' q→q<H'.size := by
 obtain ⟨Fj,D,h1,h2,h3,h4⟩ := h
 refine (h1.crash hB (KeptB.of hs fun q hq hj => ha q hq (h3 q hj))).mono ?_
 rintro _ H' ⟨rfl,hx,hd,hat,hfu⟩
 obtain ⟨hm,g1,g2⟩ := h2 ms
 have hz := hx.size
 exact ⟨rfl,_,hm,_,_,⟨hx.mono fun q _ hq => h3 q hq,fun q hq => hq.elim (fun h => .inl (h3 q h)) fun h => .inr h.1⟩,g1,hd,hat,g2,hfu,fun q hq => hq.elim (fun h => by have := (h4 q (h3 q h)).2; omega) fun h => h.2⟩
set_option maxRecDepth 100000 in
theorem reopen_ok {K:List Octs} {hm:Nat→Octs} (hd:DvIn H0 H M pd D n B) (_:∀ q,M q→q<H.size) (hn:N+1+z=n) (hN:0<N∧N≤4096) (hB:B≤600000000) (hat:At D K []) (hs:Sure n z B K hm) (hfu:D.fuse=-1) {st:PSt} (hh:headN hm=s) (hl:LoadOk N hm st) (hS:S hm) :
  Does Tryz.prog 27 [.pointer (some ⟨pd,0,none⟩)] H fun v H' => ∃ M' ps pj J D',v=.tuple #[.pointer (some ⟨ps,0,none⟩),.int .i64 0]∧StL H0 H' M' ps pj pd n z (B+5000) N s st st J D' hm S∧D'.fuse=-1∧Step H M H' M' := by
 have eN:N=n - 1 - z := by omega
 refine openS_ok (H := H) (d := some ⟨pd,0,none⟩) ?_
 refine (hd.open_ (S := S) hB hat hs hS).mono ?_
 rintro v H9 ⟨hx9,(⟨pj,J,D9,rfl,hJ,hf9,_,_⟩ | ⟨_,_,_,hne,_⟩)⟩
 ·have hFl := hJ.lt
  have hrd := hJ.live.reads hJ.jin.wf hJ.jin.jwf pj pd (grow M H H9)
  rw [← eN] at hrd
  refine .inr ⟨pj,pd,_,J,D9,N,hm,rfl,hJ.jin.jd,fun k hk => sure_len hs (by omega),hN.1,hN.2,hrd,fun H3 _ _ hno => absurd hl (hno _),?_⟩
  intro H3 ps x y Fx Fy Fd st' hlo hx3 hT hfr
  have e := hlo.one hl
  subst e
  rw [hh] at hT
  have z9 := hx9.size
  have z3 := hx3.size
  have z0 := hd.ext.size
  refine ⟨fun q => grow M H H9 q∨Fx q∨Fy q∨Fd q∨q=ps,ps,pj,J,D9,rfl,⟨⟨_,Fx,Fy,Fd,x,y,hT,⟨hJ.jin.same hT.jd hx3 hJ.jin.wf hJ.jin.jwf,hJ.live⟩,fun _ => Iff.rfl⟩,?_,hn⟩,hf9 hfu,⟨hx9.trans' hx3 fun q hq => ?_,?_⟩⟩
  ·rintro q (hq | hq | hq | hq | hq)
   ·exact hJ.jin.low q hq
   ·have := hfr q (.inl hq); omega
   ·have := hfr q (.inr (.inl hq)); omega
   ·have := hfr q (.inr (.inr (.inl hq))); omega
   ·have := hfr q (.inr (.inr (.inr hq))); omega
  ·exact hq.elim .inr fun h => .inl h.1
  ·rintro q (hq | hq | hq | hq | hq)
   ·exact hq.elim .inl fun h => .inr h.1
   ·have := hfr q (.inl hq); exact .inr (by omega)
   ·have := hfr q (.inr (.inl hq)); exact .inr (by omega)
   ·have := hfr q (.inr (.inr (.inl hq))); exact .inr (by omega)
   ·have := hfr q (.inr (.inr (.inr hq))); exact .inr (by omega)
 ·exact absurd hfu hne
end
theorem image_empty {N:Nat} {s:Int} (hg:¬ laidBad N s) (hr:firstN N s<N) (hN:N≤4096) {xs:Octs} (hb:BytesAre (emptyP N s (firstN N s)).bits xs):Image N s (emptyP N s (firstN N s)) (fmtHm N s xs) := by
 have hl := Leg.empty hg hr hN
 refine ⟨xs,hb,fun k hk => ?_,fun k h1 h2 hon => ?_⟩
 ·unfold fmtHm
  rw [if_pos (by omega)]; rfl
 ·exfalso
  have hno:allBlk (emptyP N s (firstN N s)).slots=[] := allBlk_none fun y hy => by
   have := List.eq_of_mem_replicate hy
   subst this; rfl
  have := (hl.on k h2).1 hon
  rw [hno] at this
  rcases this with h | h
  ·omega
  ·simp at h
theorem mark_ok {H H':Heap} {b:Nat} (hm:MarkTo H b H'):Ext [b] H H'∧∀ o v,hcell H b o=some v→hcell H' b o=some v := by
 obtain ⟨cs',e,lo,hi,h1,rfl⟩ := hm
 have hlt := (Array.getElem?_eq_some_iff.1 h1).1
 refine ⟨ext_set _ _ _,fun o v h => ?_⟩
 unfold hcell at h ⊢
 rw [h1] at h
 rw [Array.getElem?_setIfInBounds_self_of_lt hlt]
 exact h
end Go.Proofs
end

section
open Go Go.Vc Go.Proofs.Bx
namespace Go.Proofs
theorem trnB_none {now kept:PSt} {f:Nat}:∀ {n:Nat},(∀ j,j<n→¬ datT now kept (f+j))→trnB now kept f n=[]
 | 0,_ => rfl
 | n+1,h => by rw [(trnB_succ now kept f n).2 (h n (by omega)),trnB_none fun j hj => h j (by omega)]
theorem trnB_one {now kept:PSt} {f c:Nat} (h:∀ j,datT now kept (f+j)→j=c):∀ n:Nat,(trnB now kept f n).length≤1
 | 0 => by simp [trnB]
 | n+1 => by
  by_cases hn:datT now kept (f+n)
  ·rw [(trnB_succ now kept f n).1 hn,trnB_none (fun j hj hd => by have := h j hd; have := h n hn; omega)]
   simp
  ·rw [(trnB_succ now kept f n).2 hn]; exact trnB_one h n
theorem onlyBlk {N:Nat} {s:Int} {st:PSt} (_:Leg N s st) {k:Nat} {y:PSl} (hk:st.slots[k]?=some y) (ho:∀ (j:Nat) (z:PSl),j≠k→st.slots[j]?=some z→z.ps=[]) (x:Int):x∈allBlk st.slots↔x∈blocksI y.ps := by
 rw [mem_allBlk]
 constructor
 ·rintro ⟨j,z,hj,hx⟩
  by_cases e:j=k
  ·subst e; rw [hk] at hj; cases hj; exact hx
  ·rw [ho j z e hj] at hx; simp [blocksI] at hx
 ·intro hx; exact ⟨k,y,hk,hx⟩
set_option maxRecDepth 100000 in
theorem known_ok (H:Heap):Does Tryz.prog 19 [] H fun v H' => v=.bool true∧Ext [] H H' := by
 have hf4:firstN ((47:Nat):Int) 8=4 := by decide
 have hg:¬ laidBad ((47:Nat):Int) 8 := by unfold laidBad; omega
 have hr:firstN ((47:Nat):Int) 8<((47:Nat):Int) := by rw [hf4]; decide
 refine Fn_of_vc Tryz.mixed (KnownV _ _) ?_
 refine (opn_ok (H := H) (n := 60) (z := 12) (N := 47) (s := 8) (by decide) (by decide) (by decide) hg hr (S := fun _ => True) (fun _ _ => trivial)).mono ?_
 rintro _ H2 ⟨M,ps,pj,pd,J,D,xs,rfl,hL,hfu,hxs⟩
 have hE := Leg.empty (N := 47) (s := 8) hg hr (by decide)
 have hI := image_empty hg hr (by decide) hxs
 obtain ⟨E,hEe⟩:∃ E,emptyP ((47:Nat):Int) 8 (firstN ((47:Nat):Int) 8)=E := ⟨_,rfl⟩
 have hEs:E.slots=List.replicate 8 ⟨0,0,[]⟩ := by rw [← hEe]; rfl
 rw [hEe] at hL hE hI
 refine ⟨_,_,rfl,fun h => (by cases h),fun _ => ⟨fun h => (by cases h),fun _ => ?_⟩⟩
 intro b5 H6 hn5
 refine ⟨b5,0,rfl,⟨_,_,_,hn5.blk.choose_spec⟩,fun H9 hm => ?_⟩
 obtain ⟨hx9,hc9⟩ := mark_ok hm
 have hlt := hL.lt
 have e5 := hn5.eq
 have z6 := hn5.size
 have hb2 := hL.base.size
 have hL6 := hL.more hn5.ext
 have hL9 := hL6.off hx9.toP (fun q hq h => by
  simp only [List.mem_singleton] at h
  have := hlt q hq; omega) (fun q h _ => by
  simp only [List.mem_singleton] at h
  omega)
 have hrow:SRow H9 1 ([97,98]:Octs).length (.slice (some ⟨b5,0,none⟩) ([97,98]:Octs).length 2) (bytesV [97,98]) := by
  refine ⟨rfl,.inr rfl,fun j u hj => hc9 _ _ ?_⟩
  show hcell H6 b5 (0+j)=some u
  rw [Nat.zero_add,hn5.blk.cell]
  exact hj
 refine (hL9.create hE.fine hrow (fun q hq h => by
  simp only [blkOf,List.mem_singleton] at hq
  have := hlt q h; omega)).mono ?_
 rintro _ H11 ⟨st,id,e,M1,rfl,hL11,hst11,hc⟩
 have hz0:E.slots[0]?=some ⟨0,0,[]⟩ := by rw [hEs]; rfl
 have hfree:freeP E=((0:Nat):Int) := by
  unfold freeP; rw [hEs]; rfl
 have hbl:blocksF (([97,98]:Octs).length:Int)=((1:Nat):Int) := by decide
 have hall:allBlk E.slots=[] := by rw [hEs]; rfl
 have honE:∀ i:Nat,i<47→(onB E.bits i=true↔i<4) := fun i hi => by
  have := hE.on i hi
  rw [hall,hf4] at this
  rw [this]
  constructor
  ·rintro (h | h)
   ·omega
   ·simp at h
  ·intro h; exact .inl (by omega)
 have hfound:foundF E.bits 4 1=blkI ⟨((4:Nat):Int),((1:Nat):Int)⟩ := found_blk (f := 4) (m := 4) (need := 1) (by decide) (by rw [hE.bits]; decide) (fun i h1 h2 => by omega) (fun i h1 h2 => by
  rw [hE.bits] at h2
  cases h:onB E.bits i with
  | false => rfl
  | true => have := (honE i h2).1 h; omega)
 have hgrow:growOk E.bits [] (firstN ((47:Nat):Int) 8) ((1:Nat):Int) := by
  rw [hf4]
  refine ⟨right_nil' _ _,by decide,?_,?_⟩
  ·rw [show (((1:Nat):Int)).toNat=1 from rfl,hfound]; rfl
  ·rw [show (((1:Nat):Int)).toNat=1 from rfl,hfound]
   show (piecesF (blocksI []++blkI _)).length≤6
   rw [show blocksI []++blkI ⟨((4:Nat):Int),((1:Nat):Int)⟩=blkI ⟨((4:Nat):Int),((1:Nat):Int)⟩ by simp [blocksI],piecesF_one (by decide)]
   decide
 have hok:e=0∧CreateOk (firstN ((47:Nat):Int) 8) E [97,98] st id := by
  rcases hc with h | ⟨_,_,_,hno⟩
  ·exact h
  exfalso
  rcases hno with ⟨h,_⟩ | ⟨_,h,_⟩ | ⟨_,k,y,h1,h2,⟨_,h3⟩,_⟩
  ·exact absurd h (by decide)
  ·rw [hfree] at h; exact absurd h (by decide)
  ·rw [hfree] at h1
   have ek:k=0 := by omega
   subst ek
   rw [hz0] at h2
   cases h2
   rw [hbl] at h3
   simp only [countF_nil,Int.sub_zero] at h3
   exact h3 hgrow
 obtain ⟨rfl,_,k,y,ps',bits',g1,rfl,g3,g4,g5,rfl⟩ := hok
 rw [hfree] at g1
 have ek:k=0 := by omega
 subst ek
 rw [hz0] at g3
 cases g3
 have hE1:Leg 47 8 (refd E 0 ⟨0,0,[]⟩) := hE.setRefs hz0 (r := 1) (by decide)
 have hz1:(refd E 0 ⟨0,0,[]⟩).slots[0]?=some ⟨0,1,[]⟩ := by
  show (E.slots.set 0 _)[0]?=_
  rw [hEs]; rfl
 obtain ⟨hL1,hby,_⟩ := hE1.fill hz1 (by decide) (by decide) g5
 have hps:ps'=[⟨((4:Nat):Int),((1:Nat):Int)⟩] := by
  have g6 := g5
  unfold FillTo at g6
  rw [hbl] at g6
  simp only [countF_nil,Int.sub_zero] at g6
  rcases g6 with ⟨h,_⟩ | ⟨_,_,h,_⟩ | ⟨h,_⟩
  ·exact absurd h (by decide)
  ·rw [h,hf4]
   unfold growF
   rw [show (((1:Nat):Int)).toNat=1 from rfl,show (refd E 0 ⟨0,0,[]⟩).bits=E.bits from rfl,hfound,show blocksI []++blkI ⟨((4:Nat):Int),((1:Nat):Int)⟩=blkI ⟨((4:Nat):Int),((1:Nat):Int)⟩ by simp [blocksI],piecesF_one (by decide)]
  ·exact absurd h (by decide)
 obtain ⟨st1,hst1⟩:∃ st1,fillSt (refd E 0 ⟨0,0,[]⟩) 0 { (⟨0,0,[]⟩:PSl) with refs := 1 } [97,98] ps' bits'=st1 := ⟨_,rfl⟩
 rw [hst1] at hL11
 have hL1:Leg 47 8 st1 := hst1 ▸ hL1
 have hby:bytesP st1 ⟨(([97,98]:Octs).length:Int),1,ps'⟩=[97,98] := hst1 ▸ hby
 have hsl:st1.slots=(⟨(([97,98]:Octs).length:Int),1,ps'⟩:PSl)::List.replicate 7 ⟨0,0,[]⟩ := by
  rw [← hst1]
  show (E.slots.set 0 _).set 0 _=_
  rw [hEs]; rfl
 have hs0:st1.slots[0]?=some ⟨(([97,98]:Octs).length:Int),1,ps'⟩ := by rw [hsl]; rfl
 have hone:∀ x,x∈allBlk st1.slots↔x=4 := fun x => by
  rw [onlyBlk hL1 hs0 (fun j z hj hz => by
   rw [hsl] at hz
   cases j with
   | zero => exact absurd rfl hj
   | succ j =>
    rw [List.getElem?_cons_succ] at hz
    have := List.eq_of_mem_replicate (List.mem_of_getElem? hz)
    subst this; rfl),hps]
  simp [blocksI,blkI]
 have hon1:∀ i:Nat,i<47→(onB st1.bits i=true↔i<5) := fun i hi => by
  have := hL1.on i hi
  rw [hone,hf4] at this
  rw [this]
  omega
 refine ⟨_,_,rfl,fun h => absurd rfl h,fun _ => ⟨fun h => absurd rfl h,fun _ => ?_⟩⟩
 refine (hL11.commit (S' := fun _ => True) (by decide) hL1 hE hg hr (fun _ _ => trivial) (fun _ _ _ _ => trivial)).mono ?_
 rintro v15 H15 ⟨xN,xK,M2,hxN,hxK,_,hcase⟩
 have hcase':v15=.int .i64 0∧∃ J1 D1,StL H H15 M2 ps pj pd 60 12 (3000000+14100) 47 8 st1 st1 J1 D1 (overT (fmtHm 47 8 xs) (turnW 47 8 xN xK st1 E)) (fun _ => True)∧(D.fuse=-1→D1.fuse=-1) := by
  rcases hcase with ⟨h0,J1,D1,h1,h2⟩ | ⟨_,hbig,_⟩ | ⟨_,hne,_⟩
  ·exact ⟨h0,J1,D1,h1,h2⟩
  ·exfalso
   have h1 := trnA_length (fxB 8 xN st1) (fxB 8 xK E) 4
   have h2 := trnB_one (now := st1) (kept := E) (f := 4) (c := 0) (fun j hd => by
    by_cases hj:4+j<47
    ·have := (hon1 _ hj).1 hd.1; omega
    ·have h := hd.1
     rw [onB_beyond (by rw [hL1.bits]; omega)] at h
     cases h) (47 - 4)
   have h3:(turnW 47 8 xN xK st1 E).length≤5 := by
    unfold turnW
    rw [hf4,List.length_append]
    show (trnA _ _ 4).length+(trnB _ _ 4 (47 - 4)).length≤5
    omega
   rw [needs_bd] at hbig
   split at hbig <;> omega
  ·exact absurd hfu hne
 clear hcase
 obtain ⟨rfl,J1,D1,hL15,hfu1⟩ := hcase'
 have hfu1 := hfu1 hfu
 have himg:Image 47 8 st1 (overT (fmtHm 47 8 xs) (turnW 47 8 xN xK st1 E)) := image_next (by rw [hf4]; decide) hI hxN hxK
 obtain ⟨cur,hcur⟩:∃ cur,overT (fmtHm 47 8 xs) (turnW 47 8 xN xK st1 E)=cur := ⟨_,rfl⟩
 rw [hcur] at hL15 himg
 refine ⟨_,rfl,fun h => absurd rfl h,fun _ => ?_⟩
 refine (hL15.sync (S' := fun x => x=cur) (by decide) rfl).mono ?_
 rintro v18 H18 ⟨M3,_,hcase⟩
 have hcase':v18=.int .i64 0∧∃ J2 D2,StL H H18 M3 ps pj pd 60 12 (3000000+14100+14100) 47 8 st1 st1 J2 D2 cur (fun x => x=cur) := by
  rcases hcase with ⟨h0,J2,D2,h1,_⟩ | ⟨_,hne,_⟩
  ·exact ⟨h0,J2,D2,h1⟩
  ·exact absurd hfu1 hne
 clear hcase
 obtain ⟨rfl,J2,D2,hL18⟩ := hcase'
 refine ⟨_,rfl,fun h => absurd rfl h,fun _ => ?_⟩
 refine (fall_ok hL18.falls (by decide) (a := none) (len := 0) (cap := 0) (ms := []) ⟨rfl,rfl⟩ (fun q hq => by simp [blkOf] at hq)).mono ?_
 rintro _ H21 ⟨rfl,M4,hm4,K,D4,_,rfl,hd4,hat4,hs4,hfu4,hlt4⟩
 refine ⟨rfl,?_⟩
 obtain ⟨hh,hlo⟩ := hL1.load hg hr himg
 refine (reopen_ok (N := 47) (s := 8) (S := fun _ => True) hd4 hlt4 (by decide) (by decide) (by decide) hat4 hs4 hfu4 hh hlo trivial).mono ?_
 rintro _ H23 ⟨M5,ps5,pj5,J5,D5,rfl,hL23,_,_⟩
 refine ⟨_,_,rfl,fun h => absurd rfl h,fun _ => ⟨fun h => (by cases h),fun _ => ?_⟩⟩
 have hLn := hL1.nrm
 have hsn0:(nrm 47 8 st1).slots[0]?=some ⟨(([97,98]:Octs).length:Int),1,ps'⟩ := hs0
 have hrefs:refsP (nrm 47 8 st1) 1=1 := by
  unfold refsP
  rw [if_neg (by rw [show (nrm 47 8 st1).slots=st1.slots from rfl,hsl]; simp),show ((1:Int) - 1).toNat=0 from rfl,hsn0]
 refine (hL23.read hLn 1).mono ?_
 rintro _ H27 ⟨out,e27,M6,a28,c30,rfl,hr27,_,hL27,_,hcase⟩
 have hout:e27=0∧out=[97,98] := by
  rcases hcase with ⟨h0,k,y,h1,h2,_,h3⟩ | ⟨_,_,h⟩
  ·have ek:k=0 := by omega
   subst ek
   rw [hsn0] at h2
   cases h2
   rw [nrm_bytes hL1 hs0,hby] at h3
   exact ⟨h0,h3⟩
  ·rw [hrefs] at h; exact absurd (by decide) h
 clear hcase
 obtain ⟨rfl,rfl⟩ := hout
 refine ⟨_,_,_,_,rfl,fun _ => ⟨[97,98],hr27,fun _ => ?_,fun h => absurd rfl h⟩,fun h => absurd rfl h⟩
 have hfree1:freeN (nrm 47 8 st1)=((42:Nat):Int) := by
  unfold freeN
  have hb:(nrm 47 8 st1).bits=st1.bits := rfl
  rw [hb,hL1.bits]
  have h1 := cntF_off (p := onB st1.bits) (s := 5) (c := 42) (fun i h1 h2 => by
   cases e:onB st1.bits i with
   | false => rfl
   | true => have := (hon1 i (by omega)).1 e; omega)
  have h2 := cntF_on (p := onB st1.bits) (k := 0) (s := 5) (by omega) (fun i _ h2 => (hon1 i (by omega)).2 h2)
  rw [h2] at h1
  have e:cntF (onB st1.bits) 47=42 := by rw [show (47:Nat)=5+42 from rfl,h1]; simp [cntF]
  rw [e]
 refine (hL27.used (by rw [hf4]; decide) (by rw [show (nrm 47 8 st1).bits=st1.bits from rfl,hL1.bits]; decide)).mono ?_
 rintro _ _ ⟨rfl,rfl⟩
 rw [hfree1,hf4]
 refine ⟨_,rfl,fun _ => (hL27.refs 1).mono ?_,fun h => absurd (by decide) h⟩
 rintro _ _ ⟨rfl,rfl⟩
 rw [hrefs]
 exact ⟨_,rfl,by simp,hL27.base⟩
end Go.Proofs
end

section
open Go Go.Vc Go.Proofs.Bx
namespace Go.Proofs
theorem srow_new {H H':Heap} {b:Nat} {vs:List Value} {e:TypeId} (h:New H b vs e H') (c:Nat):SRow H' 1 vs.length (.slice (some ⟨b,0,none⟩) vs.length c) vs := by
 refine ⟨by omega,.inr rfl,fun j u hj => ?_⟩
 show hcell H' b (0+j)=some u
 rw [Nat.zero_add,h.blk.cell]
 exact hj
theorem mem_cut {L:List Int} (hn:L.Nodup) {j:Nat} (hj:j<L.length) (x:Int):x∈L.take j++L.drop (j+1)↔x∈L∧x≠L[j] := by
 have e:L=L.take j++(L[j]::L.drop (j+1)) := by rw [← List.drop_eq_getElem_cons hj,List.take_append_drop]
 have hn' := hn
 rw [e] at hn'
 rw [List.nodup_append,List.nodup_cons] at hn'
 obtain ⟨_,⟨h1,_⟩,h2⟩ := hn'
 constructor
 ·intro h
  rcases List.mem_append.1 h with h | h
  ·exact ⟨List.mem_of_mem_take h,fun e => h2 x h L[j] List.mem_cons_self e⟩
  ·exact ⟨List.mem_of_mem_drop h,fun e => h1 (e ▸ h)⟩
 ·rintro ⟨h,hne⟩
  rw [e] at h
  rcases List.mem_append.1 h with h | h
  ·exact List.mem_append_left _ h
  ·rcases List.mem_cons.1 h with h | h
   ·exact absurd h hne
   ·exact List.mem_append_right _ h
theorem nodup_cut {L:List Int} (hn:L.Nodup) (j:Nat):(L.take j++L.drop (j+1)).Nodup := by
 refine hn.sublist ?_
 have e:L.take j++L.drop (j+1)=L.eraseIdx j := (List.eraseIdx_eq_take_drop_succ _ _).symm
 rw [e]
 exact List.eraseIdx_sublist _ _
def inL (L:List Int):Nat→Bool := fun k => decide ((k:Int)+1∈L)
theorem inL_cut {L:List Int} (hn:L.Nodup) {j k:Nat} (hj:j<L.length) (hk:L[j]=(k:Int)+1) (i:Nat):(inL L i && !(i == k))=inL (L.take j++L.drop (j+1)) i := by
 have h := mem_cut hn hj ((i:Int)+1)
 rw [hk] at h
 unfold inL
 rw [Bool.eq_iff_iff]
 simp only [Bool.and_eq_true,decide_eq_true_eq,Bool.not_eq_true',beq_eq_false_iff_ne]
 rw [h]
 constructor
 ·rintro ⟨h1,h2⟩; exact ⟨h1,by omega⟩
 ·rintro ⟨h1,h2⟩; exact ⟨h1,by omega⟩
theorem refsT_at {N f need size:Nat} {T:Nat→Bool} {st:PSt} (h:Flt N f need size T st) {k:Nat} (hk:k<30) (ht:T k=true):refsP st ((k:Int)+1)=1 := by
 unfold refsP
 rw [if_neg (by rw [h.length]; omega),show ((k:Int)+1 - 1).toNat=k by omega,h.at_ hk]
 simp [flSl,ht]
set_option maxRecDepth 100000 in
set_option maxHeartbeats 1000000 in
theorem fills_law (H:Heap) (a0:Int) (_:(Lit.int .i64 a0).wf=true) (a1:Int) (_:(Lit.int .i64 a1).wf=true) (a2:Option Addr) (len2 cap2:Nat) (z2:List Int) (hz2:z2.length=len2) (_:len2≤maxLen) (s2:SRow H 1 len2 (.slice a2 len2 cap2) (z2.map (.int .i64))) (_:∀ x∈z2,(Lit.int .i64 x).wf=true) :
  Does Tryz.prog 4 [.int .i64 a0,.int .i64 a1,.slice a2 len2 cap2] H fun v H' => v=.bool true∧Ext [] H H' := by
 refine Fn_of_vc Tryz.mixed (FillsV _ _ _ _ _ _ _) ?_
 refine (Go.Proofs.pick_ok a0 60 H (by decide) (by decide)).mono ?_
 rintro _ _ ⟨rfl,rfl⟩
 have h60 := Int.emod_nonneg a0 (show (60:Int)≠0 by decide)
 have h61 := Int.emod_lt_of_pos a0 (show (0:Int)<60 by decide)
 obtain ⟨p,hp⟩:∃ p:Nat,a0 % 60=p := ⟨(a0 % 60).toNat,by omega⟩
 rw [hp] at h60 h61 ⊢
 obtain ⟨N,hN⟩:∃ N:Nat,N=19+p := ⟨_,rfl⟩
 have hNn:N+1+20=40+p := by omega
 have hfN:firstN N 30=((10:Nat):Int) := by unfold firstN bitsN; omega
 have hgN:¬ laidBad N 30 := by unfold laidBad; omega
 refine ⟨_,rfl,by unfold In64; omega,?_⟩
 rw [show (40:Int)+p=((40+p:Nat):Int) by omega]
 refine (opn_ok (H := H) (n := 40+p) (z := 20) (s := 30) hNn (by omega) (by omega) hgN (by rw [hfN]; omega) (S := fun _ => True) (fun _ _ => trivial)).mono ?_
 rintro _ H5 ⟨M5,ps,pj,pd,J,D,xs,rfl,hL5,_,_⟩
 refine ⟨_,_,rfl,(known_ok H5).mono ?_⟩
 rintro _ H9 ⟨rfl,hx9⟩
 refine ⟨_,rfl,fun h => (by cases h),fun _ => ⟨fun h => (by cases h),fun _ => (Go.Proofs.pick_ok a1 900 H9 (by decide) (by decide)).mono ?_⟩⟩
 rintro _ _ ⟨rfl,rfl⟩
 have h62 := Int.emod_nonneg a1 (show (900:Int)≠0 by decide)
 have h63 := Int.emod_lt_of_pos a1 (show (0:Int)<900 by decide)
 obtain ⟨r,hr⟩:∃ r:Nat,a1 % 900=r := ⟨(a1 % 900).toNat,by omega⟩
 rw [hr] at h62 h63 ⊢
 obtain ⟨sz,hsz⟩:∃ sz:Nat,sz=1+r := ⟨_,rfl⟩
 have esz:(1:Int)+r=(sz:Int) := by omega
 obtain ⟨need,hneed⟩:∃ need:Nat,need=(sz+127) / 128 := ⟨_,rfl⟩
 have hbl:blocksF sz=need := by rw [blocksF_nat,hneed]
 have hL9 := hL5.more hx9
 rw [hfN] at hL9
 have hF0:Flt N 10 need sz (upTo 0) (emptyP N 30 ((10:Nat):Int)) := Flt.empty need sz (by omega) (by omega) (by omega)
 let SF:(Nat→Bool)→Heap→Prop := fun T K => ∃ M st,StL H K M ps pj pd (40+p) 20 3000000 N 30 st (emptyP N 30 ((10:Nat):Int)) J D (fmtHm N 30 xs) (fun _ => True)∧Flt N 10 need sz T st
 refine ⟨_,rfl,by unfold In64; omega,?_⟩
 rw [esz]
 refine (hL9.free).mono ?_
 rintro _ _ ⟨rfl,rfl⟩
 rw [hF0.free (by omega)]
 have hall:(N:Int) - ((10:Nat):Int) - ((0:Nat):Int)*(need:Int)=((N - 10:Nat):Int) := by rw [show ((0:Nat):Int)*(need:Int)=0 by simp]; omega
 rw [hall]
 obtain ⟨kx,hkx⟩:∃ kx:Nat,kx=min 30 ((N - 10) / need) := ⟨_,rfl⟩
 refine ⟨_,rfl,fun was round K => SF (upTo 0) K∧0≤round∧round≤2∧(round=0∨was=kx),fun _ round _ => (2 - round).toNat,⟨⟨_,_,hL9,hF0⟩,by omega,by omega,.inl rfl⟩,?_⟩
 rintro was round H21 ⟨hSF,hr0,hr2,hwas⟩
 refine ⟨fun hlt => ?_,fun hge => ?_⟩
 case refine_2 =>
  obtain ⟨M,st,hL,_⟩ := hSF
  exact ⟨rfl,hL.base⟩
 refine ⟨fun i K => ∃ k:Nat,i=k∧k≤30∧SF (upTo k) K∧(k=30∨N<10+k*need+need),⟨fun i K => ∃ k:Nat,i=k∧k≤30∧SF (upTo k) K,fun i _ => (40 - i).toNat,⟨0,rfl,by omega,hSF⟩,?_⟩,?_⟩
 ·rintro _ H26 ⟨k,rfl,hk,M,st,hL,hF⟩
  refine ⟨fun _ => ?_,fun h => absurd (by omega) h⟩
  refine ⟨by omega,Int.le_refl _,by omega,fun b27 H28 hn27 => ?_⟩
  have hL28 := hL.more hn27.ext
  have exs:(List.replicate (Int.toNat (sz:Int)) (Value.int .u8 0))=bytesV (List.replicate sz 0) := by rw [bytesV_zeros,Int.toNat_natCast]
  have elen:Int.toNat (sz:Int)=(List.replicate sz (0:UInt8)).length := by rw [List.length_replicate,Int.toNat_natCast]
  have hrow := srow_new hn27 (Int.toNat (sz:Int))
  rw [List.length_replicate,exs] at hrow
  rw [elen] at hrow ⊢
  have e27 := hn27.eq
  have hlt28 := hL.lt
  have hfine := hF.fine
  refine (hL28.create (by rw [hfN]; exact hfine) hrow (fun q hq hm => by
   simp only [blkOf,List.mem_singleton] at hq
   have := hlt28 q hm; omega)).mono ?_
  rintro _ H30 ⟨now',id,e,M',rfl,hL30,hst30,hc⟩
  rw [hfN] at hc
  refine ⟨id,e,rfl,?_⟩
  rcases hc with ⟨rfl,hok⟩ | ⟨_,_,rfl,hno⟩
  ·obtain ⟨rfl,hk30,hroom,hF'⟩ := hF.create hk (by simp) hbl hok
   refine ⟨fun h => absurd h (by decide),fun _ => ⟨fun h => absurd rfl h,fun _ => ⟨by unfold In64; omega,fun h => absurd rfl h,fun _ => ⟨by unfold In64; omega,⟨k+1,by omega,by omega,M',now',hL30,hF'⟩,by dsimp only; omega⟩⟩⟩⟩
  ·obtain ⟨rfl,hfull⟩ := hF.createNo hk (by simp) hbl (by omega) hno
   exact ⟨fun _ => ⟨k,rfl,hk,⟨M',_,hL30,hF⟩,hfull⟩,fun h => absurd rfl h⟩
 rintro _ H34 ⟨k,rfl,hk,⟨M,st,hL,hF⟩,hfull⟩
 have hroom := hF.roomN hk
 have hkk:k=kx := by
  rw [hkx]
  have hp := hF.num.1
  have h1:k≤(N - 10) / need := (Nat.le_div_iff_mul_le hp).2 (by omega)
  rcases hfull with h | h
  ·omega
  ·have h2:(N - 10) / need<k+1 := (Nat.div_lt_iff_lt_mul hp).2 (by rw [Nat.add_mul]; omega)
   omega
 refine ⟨by unfold In64; omega,by unfold In64; omega,by decide,?_⟩
 rintro q35 hq35
 rw [wrap_tdiv (by omega) (by decide) (by omega)] at hq35
 have eq35:q35=(need:Int) := by rw [hq35,hneed]; omega
 subst eq35
 refine ⟨fun K => SF (upTo k) K,⟨by omega,?_⟩,?_⟩
 ·rintro q37 hq37
  rw [wrap_tdiv (by omega) (by omega) (by omega)] at hq37
  have eq37:q37=(((N - 10) / need:Nat):Int) := by rw [hq37]; simp
  subst eq37
  refine ⟨fun h => absurd (by rw [hkk,hkx]; omega) h,fun _ => (hL.used (by rw [hfN]; omega) (by rw [hF.len]; omega)).mono ?_⟩
  rintro _ _ ⟨rfl,rfl⟩
  rw [hfN,hF.free hk]
  have emul:((k*need:Nat):Int)=(k:Int)*(need:Int) := by simp
  refine ⟨_,rfl,by rw [← emul]; unfold In64; omega,fun h => absurd (by omega) h,fun _ => ⟨fun h1 => ⟨fun hne => absurd ?_ hne,fun _ => ⟨M,st,hL,hF⟩⟩,fun _ => ⟨M,st,hL,hF⟩⟩⟩
  rcases hwas with h | h
  ·omega
  ·rw [h,hkk]
 clear hL hF hroom M st
 rintro H41 ⟨M,st,hL,hF⟩
 refine hL.ids.mono ?_
 rintro _ H43 ⟨a44,c46,rfl,hown,hx43,hfr⟩
 have hids := hF.ids
 have hlt41 := hL.lt
 have hb41 := hL.base.size
 refine ⟨a44,_,c46,rfl,fun a l c i K => ∃ (L:List Int) (M:Nat→Prop) (st:PSt),L.length=l∧StL H K M ps pj pd (40+p) 20 3000000 N 30 st (emptyP N 30 ((10:Nat):Int)) J D (fmtHm N 30 xs) (fun _ => True)∧Flt N 10 need sz (inL L) st ∧
  Own K 1 a l c (L.map (.int .i64))∧(∀ q∈blkOf a,H.size≤q∧¬ M q)∧L.Nodup∧(∀ x∈L,1≤x∧x≤30)∧0≤i∧i+l≤30,fun _ l _ _ _ => l,?_,?_⟩
 ·refine ⟨idsP st,M,st,rfl,hL.more hx43,hF.congr fun j hj => ?_,hown,fun q hq => ⟨by have := hfr q hq; omega,fun hm => by have := hlt41 q hm; have := hfr q hq; omega⟩,?_,fun x hx => ?_,by omega,?_⟩
  ·unfold inL upTo
   rw [hids]
   apply decide_eq_decide.2
   simp only [List.mem_map,List.mem_filter,List.mem_range,upTo,decide_eq_true_eq]
   constructor
   ·intro h; exact ⟨j,⟨hj,h⟩,rfl⟩
   ·rintro ⟨i,⟨_,h⟩,e⟩; omega
  ·rw [hids]
   exact ((List.nodup_range).sublist (List.filter_sublist)).map _ (fun a b h e => h (by omega))
  ·rw [hids] at hx
   obtain ⟨i,hi,rfl⟩ := List.mem_map.1 hx
   have := List.mem_range.1 (List.mem_filter.1 hi).1
   omega
  ·rw [hids,List.length_map]
   have := List.length_filter_le (upTo k) (List.range 30)
   rw [List.length_range] at this
   omega
 clear hids hown hfr hx43 hlt41 hb41 hL hF M st
 rintro a49 _ c51 i52 H53 ⟨L,M,st,rfl,hL,hF,hown,hap,hnd,hrg,hi0,hi30⟩
 have hb53 := hL.base
 refine ⟨fun hpos => ?_,fun hz => ?_⟩
 ·refine ⟨fun i K => 0≤i∧i<L.length∧K=H53,⟨fun hlt2 => ?_,fun _ => ⟨by omega,by omega,rfl⟩⟩,?_⟩
  ·obtain ⟨j,hj⟩:∃ j:Nat,i52=j := ⟨i52.toNat,by omega⟩
   subst hj
   have hjl:j<z2.length := by omega
   have hv:(z2.map (Value.int .i64))[j]?=some (.int .i64 z2[j]) := by rw [List.getElem?_map,List.getElem?_eq_getElem hjl]; rfl
   obtain ⟨b,o,e,hc⟩ := (s2.ext hb53 (by simp)).at hv
   refine ⟨hi0,hlt2,b,o,e,z2[j],by rw [Int.toNat_natCast]; exact hc,(Go.Proofs.pick_ok _ _ H53 hpos (by omega)).mono ?_⟩
   rintro _ _ ⟨rfl,rfl⟩
   exact ⟨_,rfl,Int.emod_nonneg _ (by omega),Int.emod_lt_of_pos _ hpos,rfl⟩
  ·rintro i61 _ ⟨h0,h1,rfl⟩
   obtain ⟨j,hj⟩:∃ j:Nat,i61=j := ⟨i61.toNat,by omega⟩
   subst hj
   have hjl:j<L.length := by omega
   have hv:(L.map (Value.int .i64))[j]?=some (.int .i64 L[j]) := by rw [List.getElem?_map,List.getElem?_eq_getElem hjl]; rfl
   obtain ⟨b,o,e,hc⟩ := (hown.row L.length c51).at hv
   have hLj := hrg _ (List.getElem_mem hjl)
   obtain ⟨k',hk'⟩:∃ k':Nat,L[j]=k'+1 := ⟨(L[j] - 1).toNat,by omega⟩
   refine ⟨h0,h1,b,o,e,L[j],by rw [Int.toNat_natCast]; exact hc,(hL.unref (by rw [hfN]; exact hF.fine) hF.few L[j]).mono ?_⟩
   rintro _ H67 ⟨st',last,er,M',rfl,hL67,hst67,hcs⟩
   have hcs':er=0∧UnrefOk st L[j] st' last := by
    rcases hcs with h | ⟨_,_,_,hno,_⟩
    ·exact h
    exfalso
    refine hno ?_
    rw [hk',refsT_at hF (by omega) (by unfold inL; rw [← hk']; exact decide_eq_true (List.getElem_mem hjl))]
    decide
   obtain ⟨rfl,hok⟩ := hcs'
   obtain ⟨k2,hk2,hk30,_,rfl,hF'⟩ := hF.unref hok
   have ekk:k2=k' := by omega
   subst ekk
   have hlc := hown.2.1
   have hcm := hown.2.2.1
   refine ⟨_,_,rfl,fun h => (by cases h),fun _ => ⟨fun h => absurd rfl h,fun _ => ⟨h0,by omega,by unfold In64; omega,by omega,by omega,?_⟩⟩⟩
   rintro a70 ha70 b71 H72 hn71
   have ej:Int.toNat ((j:Int)+1)=j+1 := by omega
   rw [ej] at ha70 ⊢
   rw [Int.toNat_natCast]
   have hown67:Own H67 1 a49 L.length c51 (L.map (.int .i64)) := hown.extP hst67.ext (fun q hq => (hap q hq).2)
   have hown72 := hown67.ext hn71.ext (by simp)
   have ownB:Own H72 1 (some ⟨b71,0,none⟩) 0 0 [] := ⟨rfl,Nat.le_refl _,Nat.zero_le _,.inr ⟨b71,[],rfl,hn71.blk,rfl⟩⟩
   have e71 := hn71.eq
   have z72 := hn71.size
   have hrowA:SRow H72 1 j (.slice a49 j c51) ((L.map (Value.int .i64)).take j) := SRow.take1 (hown72.row L.length c51) (by omega)
   refine ⟨[],(L.map (Value.int .i64)).take j,ownB.row 0 0,hrowA,fun u hu => ?_,by omega,fun hle => by have := ownB.room (n := j) hle; simpa using this,fun a75 c76 H77 happ => ?_⟩
   ·obtain ⟨x,_,rfl⟩ := List.mem_map.1 (List.mem_of_mem_take hu)
    rfl
   obtain ⟨o77,x77,f77⟩ := happ.own ownB (ownB.row 0 0) (by rw [List.length_take,List.length_map]; omega) rfl
   rw [Nat.zero_add] at o77 ⊢
   rw [List.nil_append] at o77
   have hlt49:∀ q∈blkOf a49,q<H67.size := fun q hq => hown67.lt q hq
   have hown77 := hown72.ext x77 (fun q hq hm => by
    simp only [blkOf,List.mem_singleton] at hm
    have := hlt49 q hq; omega)
   have hrowB:SRow H77 1 (L.length - (j+1)) (.slice a70 (L.length - (j+1)) (c51 - (j+1))) ((L.map (Value.int .i64)).drop (j+1)) := by
    by_cases ec:c51=j+1
    ·have e0:L.length - (j+1)=0 := by omega
     rw [e0,List.drop_eq_nil_of_le (by rw [List.length_map]; omega)]
     rw [ha70,if_pos ec]
     refine ⟨rfl,?_⟩
     cases a49 with
     | none => rfl
     | some ad => exact ⟨.inl rfl,fun j u hj => by simp at hj⟩
    ·rw [ha70,if_neg ec]
     have := srow_subv (hown77.row L.length c51) (o := j+1) (n := L.length - (j+1)) (c' := c51 - (j+1)) (by omega)
     rw [Nat.mul_one,Nat.mul_one] at this
     rw [List.take_of_length_le (by rw [List.length_drop,List.length_map]; exact Nat.le_refl _)] at this
     simpa using this
   refine ⟨(L.map (Value.int .i64)).take j,(L.map (Value.int .i64)).drop (j+1),o77.row j c76,hrowB,fun u hu => ?_,by omega,fun hle => o77.room hle,fun a80 c81 H82 happ2 => ?_⟩
   ·obtain ⟨x,_,rfl⟩ := List.mem_map.1 (List.mem_of_mem_drop hu)
    rfl
   obtain ⟨o82,x82,f82⟩ := happ2.own o77 (o77.row j c76) (by rw [List.length_drop,List.length_map]; omega) rfl
   have hlt67 := hL67.lt
   have hb67 := hL67.base.size
   have f75:∀ q∈blkOf a75,H67.size≤q := fun q hq => by
    rcases f77 q hq with h | h
    ·simp only [blkOf,List.mem_singleton] at h; omega
    ·omega
   have hL72 := hL67.more hn71.ext
   have hL77 := hL72.off x77.toP (fun q hq hm => by
    simp only [blkOf,List.mem_singleton] at hm
    have := hlt67 q hq; omega) (fun q hm _ => by
    simp only [blkOf,List.mem_singleton] at hm
    omega)
   have hL82 := hL77.off x82.toP (fun q hq hm => by have := f75 q hm; have := hlt67 q hq; omega) (fun q hm _ => by have := f75 q hm; omega)
   have z77 := x77.size
   refine ⟨by unfold In64; omega,⟨L.take j++L.drop (j+1),M',st',by rw [List.length_append,List.length_take,List.length_drop]; omega,hL82,hF'.congr (fun i _ => inL_cut hnd hjl hk' i),?_,fun q hq => ?_,nodup_cut hnd j,fun x hx => hrg x ((mem_cut hnd hjl x).1 hx).1,by omega,by omega⟩,by dsimp only; omega⟩
   ·rw [List.map_append,List.map_take,List.map_drop]
    exact o82
   ·rcases f82 q hq with h | h
    ·exact ⟨by have := f75 q h; omega,fun hm => by have := f75 q h; have := hlt67 q hm; omega⟩
    ·exact ⟨by omega,fun hm => by have := hlt67 q hm; omega⟩
 ·have hL0:L=[] := List.eq_nil_of_length_eq_zero (by omega)
  subst hL0
  have hF0':Flt N 10 need sz (upTo 0) st := hF.congr fun j _ => by simp [inL,upTo]
  refine hL.free.mono ?_
  rintro _ _ ⟨rfl,rfl⟩
  rw [hF0'.free (by omega),hall]
  refine ⟨_,rfl,fun h => absurd rfl h,fun _ => (hL.used (by rw [hfN]; omega) (by rw [hF.len]; omega)).mono ?_⟩
  rintro _ _ ⟨rfl,rfl⟩
  rw [hF0'.free (by omega),hfN,hall]
  refine ⟨_,rfl,fun h => absurd (by omega) h,fun _ => hL.ids.mono ?_⟩
  rintro _ H90 ⟨a91,c93,rfl,_,hx90,_⟩
  have e0:(idsP st).length=0 := by rw [hF0'.ids,List.length_map,List.filter_eq_nil_iff.2 (by simp [upTo])]; rfl
  refine ⟨_,_,_,rfl,fun h => absurd (by rw [e0]; rfl) h,fun _ => ⟨by unfold In64; omega,⟨⟨M,st,hL.more hx90,hF0'⟩,by omega,by omega,.inr (by omega)⟩,by dsimp only; omega⟩⟩
end Go.Proofs
end

