/-
  What the law rests on, part 3. No condition.
-/
import Derived.Test.YtlfmjamcinnimaaGreatPb
import Derived.Test.YtlfmjamcinnimaaGreatProg
import Derived.Shelf.SlIterI.Nil
import Derived.Shelf.SortM.Plain
import Derived.Shelf.SortM.SortNone
import Derived.Ground.GgzProg
import Derived.Ground.SlgmProg
set_option maxRecDepth 100000
section
open Go Go.Vc
namespace Go.Proofs.Bx
def keepP:List Pc→Nat→List Pc
 | [],_=>[]
 | p::r,n=>(if 0<min n p.c.toNat then [⟨p.s,(min n p.c.toNat:Nat)⟩]else [])++keepP r (n - p.c.toNat)
theorem blkI_length(p:Pc):(blkI p).length=p.c.toNat:=by simp[blkI]
theorem blocksI_append(l m:List Pc):blocksI (l++m)=blocksI l++blocksI m:=by simp[blocksI]
theorem blocksI_cons(p:Pc)(l:List Pc):blocksI (p::l)=blkI p++blocksI l:=rfl
theorem keepP_append:∀(l m:List Pc)(n:Nat),keepP (l++m) n=keepP l n++keepP m (n - (blocksI l).length)
 | [],m,n=>by simp[keepP,blocksI]
 | p::l,m,n=>by
  rw[List.cons_append,keepP,keepP,keepP_append l m,blocksI_cons,List.length_append,blkI_length,List.append_assoc,Nat.sub_sub]
theorem blkI_take(p:Pc)(k:Nat)(h:k≤p.c.toNat):blkI ⟨p.s,(k:Int)⟩=(blkI p).take k:=by
 unfold blkI
 simp only[Int.toNat_natCast]
 rw[←List.map_take,List.take_range,Nat.min_eq_left h]
theorem blkI_drop(p:Pc)(k:Nat)(_h:k≤p.c.toNat):blkI ⟨p.s+(k:Int),p.c - (k:Int)⟩=(blkI p).drop k:=by
 unfold blkI
 apply List.ext_getElem
 ·simp<;>omega
 ·intro i h1 h2
  simp only[List.getElem_map,List.getElem_range,List.getElem_drop]
  omega
theorem keepP_blocks:∀(l:List Pc)(n:Nat),blocksI (keepP l n)=(blocksI l).take n
 | [],n=>by simp[keepP,blocksI]
 | p::l,n=>by
  rw[keepP,blocksI_append,keepP_blocks l,blocksI_cons,List.take_append,blkI_length]
  congr 1
  split
  ·rename_i h
   show blkI _++[]=_
   rw[List.append_nil,blkI_take p _ (Nat.min_le_right _ _)]
   by_cases hn:n≤p.c.toNat
   ·rw[Nat.min_eq_left hn]
   ·rw[Nat.min_eq_right (by omega),List.take_of_length_le (by rw[blkI_length];omega),List.take_of_length_le (by rw[blkI_length];omega)]
  ·rename_i h
   show []=_
   by_cases hn:n=0
   ·subst hn;simp
   ·have:(blkI p).length=0:=by rw[blkI_length];omega
    rw[List.length_eq_zero_iff.1 this];simp
theorem keepP_zero:∀l:List Pc,keepP l 0=[]
 | []=>rfl
 | p::l=>by rw[keepP,Nat.zero_min,if_neg (by omega),Nat.zero_sub,keepP_zero l];rfl
theorem keepP_pos:∀(l:List Pc)(n:Nat),∀p∈keepP l n,1≤p.c
 | [],n,p,h=>by cases h
 | q::l,n,p,h=>by
  rw[keepP,List.mem_append]at h
  rcases h with h|h
  ·split at h
   ·simp only[List.mem_singleton]at h
    subst h
    simp only;omega
   ·cases h
  ·exact keepP_pos l _ p h
theorem keepP_norm:∀(l:List Pc)(n:Nat)(rs:List Pc),(∀p∈l,1≤p.c)→Norm rs l→Norm rs (keepP l n)
 | [],n,rs,_,h=>h
 | p::l,n,rs,hp,h=>by
  rw[keepP]
  have h1:=hp p (by simp)
  split
  ·rename_i h2
   refine⟨h.1,?_⟩
   by_cases hn:p.c.toNat≤n
   ·rw[Nat.min_eq_right hn,show((p.c.toNat:Nat):Int)=p.c by omega]
    exact keepP_norm l _ _ (fun q hq=>hp q (by simp[hq])) h.2
   ·rw[show n - p.c.toNat=0 by omega,keepP_zero]
    trivial
  ·rename_i h2
   rw[show n - p.c.toNat=0 by omega,keepP_zero]
   trivial
theorem keepP_pieces{l:List Pc}{a e:Int}(h:RightP l a e)(n:Nat):keepP l n=piecesF ((blocksI l).take n):=by
 rw[←keepP_blocks,piecesF_blocks (keepP_pos l n) (keepP_norm l n [] (right_pos h) (right_norm h))]
theorem blocksI_snoc{l:List Pc}{j:Nat}{p:Pc}(h:l[j]?=some p):blocksI (l.take (j+1))=blocksI (l.take j)++blkI p:=by
 rw[take_snoc h,blocksI_append]
 simp[blocksI]
theorem keepP_length:∀(l:List Pc)(n:Nat),(keepP l n).length≤l.length
 | [],n=>by simp[keepP]
 | p::l,n=>by
  rw[keepP,List.length_append,List.length_cons]
  have:=keepP_length l (n - p.c.toNat)
  split<;>simp<;>omega
def ShrinkR(H H':Heap)(bs:List Bool)(l:List Pc)(n:Int)(v:Value)(bs':List Bool):Prop:=
 (¬RightP l 0 bs.length∧v=.slice none 0 0∧bs'=bs) ∨
 (RightP l 0 bs.length∧bs'=setAll bs ((blocksI l).drop n.toNat) false∧∃a c,v=.slice a (piecesF ((blocksI l).take n.toNat)).length c ∧
  Own H' 2 a (piecesF ((blocksI l).take n.toNat)).length c (piecesV (piecesF ((blocksI l).take n.toNat)))∧(∀k,k∈blkOf a→H.size≤k))
theorem New.pcs{H H':Heap}{b:Nat}{s c:Int}{e:TypeId}(h:New H b [.int .i64 s,.int .i64 c] e H'):Pcs H' (some ⟨b,0,none⟩) 1 [⟨s,c⟩]:=
 ⟨rfl,fun _=>⟨rfl,.inr rfl,fun j u hj=>by
  show hcell H' b (0+j)=some u
  rw[Nat.zero_add,h.blk.cell];exact hj⟩⟩
theorem shrink_ok{H:Heap}{pb:Nat}{a:Option Addr}{c:Nat}{bs:List Bool}(h:IsB H pb a c bs){a1:Option Addr}{len cap:Nat}{l:List Pc}(hp:Pcs H a1 len l)(hd:∀k,k∈blkOf a1→k∉blkOf a)(hc:len≤cap)(n:Int)
  (hn:-9223372036854775808≤n∧n≤9223372036854775807) (hN:bs.length≤100000) :
  Does Tryz.prog 110 [.pointer (some ⟨pb,0,none⟩),.slice a1 len cap,.int .i64 n] H fun v H'=>∃bs',ShrinkR H H' bs l n v bs'∧IsB H' pb a c bs'∧Ext (blkOf a) H H':=by
 refine Fn_of_vc Tryz.mixed (vc_shrink _ _ _ _ _ _ _) ?_
 have hlen:=hp.leng
 refine⟨fun h0=>(by cases h0),fun _=>(lenm_ok h).mono ?_⟩
 rintro _ _ ⟨rfl,rfl⟩
 refine⟨_,rfl,(right_ok hp hc 0 bs.length (by decide) (by decide) (by omega)).mono ?_⟩
 rintro _ H5 ⟨rfl,hx5⟩
 have hb5:=h.ext hx5 (by simp) (by simp)
 refine⟨_,rfl,fun h1=>⟨bs,.inl ⟨fun hg=>?_,rfl,rfl⟩,hb5,hx5.any⟩,fun h1=>?_⟩
 ·rw[←decP_true hg]at h1;cases h1
 have hR:RightP l 0 bs.length:=@of_decide_eq_true _ (Classical.propDecidable _) (eq_true_of_ne_false h1)
 have hl6:=hR.1
 refine⟨fun a' n' c' m i H'=>∃j:Nat,i=j∧j≤len∧m=((n.toNat - (blocksI (l.take j)).length:Nat):Int)∧IsB H' pb a c (setAll bs ((blocksI (l.take j)).drop n.toNat) false)∧Ext (blkOf a) H H'∧(∀k,k∈blkOf a'→H.size≤k) ∧
   Own H' 2 a' n' c' (piecesV (keepP (l.take j) n.toNat))∧(keepP (l.take j) n.toNat).length=n',fun _ _ _ _ i _=>len - i.toNat,
  ⟨0,rfl,Nat.zero_le _,by simp[blocksI]<;>omega,by simpa[blocksI,setAll]using hb5,hx5.any,fun k hk=>(by cases hk),Own.nil _ _,rfl⟩,?_⟩
 rintro a9 l10 c11 _ _ H14 ⟨j,rfl,hj,rfl,hb14,hx14,hf14,hown,hl10⟩
 have hpb:pb∉blkOf a:=by obtain⟨xs,hm,_⟩:=h;exact hm.apart
 have hkl:=keepP_length (l.take j) n.toNat
 rw[List.length_take]at hkl
 refine⟨fun h2=>?_,fun h2=>?_⟩
 ·obtain⟨p,hpj⟩:∃p,l[j]?=some p:=⟨_,List.getElem?_eq_getElem (by omega)⟩
  obtain⟨b,o,rfl,c0,c1⟩:=hp.get j p hpj
  have hbd:b∉blkOf a:=hd b (by simp[blkOf])
  have hpin:=right_in hR p (List.mem_of_getElem? hpj)
  generalize hrem:n.toNat - (blocksI (l.take j)).length=rem
  have e1:=blocksI_snoc hpj
  have ekeep:keepP (l.take (j+1)) n.toNat=keepP (l.take j) n.toNat++(if 0<min rem p.c.toNat then [⟨p.s,(min rem p.c.toNat:Nat)⟩]else []):=by
   rw[take_snoc hpj,keepP_append,hrem,keepP,keepP,List.append_nil]
  have erem:n.toNat - (blocksI (l.take (j+1))).length=rem - p.c.toNat:=by
   rw[e1,List.length_append,blkI_length];omega
  generalize hkk:min rem p.c.toNat=kk at ekeep
  have emin:min (rem:Int) p.c=(kk:Int):=by omega
  have edrop:(blocksI (l.take (j+1))).drop n.toNat=(blocksI (l.take j)).drop n.toNat++blkI ⟨p.s+(kk:Int),p.c - (kk:Int)⟩:=by
   rw[e1,List.drop_append,hrem,blkI_drop p kk (by omega)]
   congr 1
   by_cases hle:rem≤p.c.toNat
   ·rw[show kk=rem by omega]
   ·rw[List.drop_of_length_le (by rw[blkI_length];omega),List.drop_of_length_le (by rw[blkI_length];omega)]
  have hblk1:blocksW [⟨p.s+(kk:Int),p.c - (kk:Int)⟩]=blkI ⟨p.s+(kk:Int),p.c - (kk:Int)⟩:=by
   rw[blocksW_I (fun q hq=>?_)]
   ·simp[blocksI]
   ·simp only[List.mem_singleton]at hq;subst hq;simp only;omega
  have htame:TameP [⟨p.s+(kk:Int),p.c - (kk:Int)⟩]:=fun i q hq=>by
   have:=List.mem_of_getElem? hq
   simp only[List.mem_singleton]at this;subst this;simp only;omega
  refine⟨by omega,h2,b,o,rfl,_,hcell_ext c0 hx14 hbd,_,hcell_ext c1 hx14 hbd,fun b19 H20 hn=>⟨hn.blk.cells 2 0 (by simp),fun H21 hput=>?_⟩⟩
  obtain⟨hb19,hx21,e19,s21⟩:=new_put hn hput rfl
  have hs14:=hx14.size
  have hlt:=h.lt
  have go:∀(a':Option Addr) (n' c':Nat) (H30:Heap),IsB H30 pb a c (setAll bs ((blocksI (l.take j)).drop n.toNat) false)→Ext (blkOf a) H H30→(∀k,k∈blkOf a'→H.size≤k)→Own H30 2 a' n' c' (piecesV (keepP (l.take (j+1)) n.toNat))→(keepP (l.take (j+1)) n.toNat).length=n' →
    ∀b33:Nat,∀H34:Heap,New H30 b33 [(.int .i64 (p.s+(kk:Int))),(.int .i64 (p.c - (kk:Int)))] 103 H34→(
     Does Tryz.prog 169 [(.pointer (some ⟨pb,0,none⟩)),(.slice (some (⟨b33,0,none⟩:Addr)) 1 1),(.bool false)] H34 fun v35 H36=>v35=(.tuple #[])∧(
      (In64 ((rem:Int) - (kk:Int)))∧(In64 ((j:Int)+1)) ∧
      (∃j':Nat,(j:Int)+1=j'∧j'≤len∧(rem:Int) - (kk:Int)=((n.toNat - (blocksI (l.take j')).length:Nat):Int)∧IsB H36 pb a c (setAll bs ((blocksI (l.take j')).drop n.toNat) false)∧Ext (blkOf a) H H36∧(∀k,k∈blkOf a'→H.size≤k) ∧
       Own H36 2 a' n' c' (piecesV (keepP (l.take j') n.toNat))∧(keepP (l.take j') n.toNat).length=n')∧len - ((j:Int)+1).toNat<len - (j:Int).toNat)):=by
   intro a' n' c' H30 hb30 hx30 hf30 ho30 hl30 b33 H34 hn34
   have hx34:=hn34.ext
   have e33:=hn34.eq
   have hs30:=hx30.size
   refine(turn_ok (hb30.ext hx34 (by simp) (by simp)) (New.pcs hn34) (fun i hi hi'=>?_) htame (by decide) false).mono ?_
   ·simp only[blkOf,List.mem_singleton]at hi
    have:=hlt.2 i hi'
    omega
   ·rintro _ H36 ⟨rfl,hb36,hx36⟩
    rw[hblk1,←setAll_append,←edrop]at hb36
    refine⟨rfl,⟨by omega,by omega⟩,⟨by omega,by omega⟩,⟨j+1,by omega,by omega,by omega,hb36,hx30.trans (hx34.any.trans hx36),hf30,?_,hl30⟩,by omega⟩
    refine(ho30.ext hx34 (by simp)).ext hx36 (fun i hi hi'=>?_)
    have:=hf30 i hi
    have:=hlt.2 i hi'
    omega
  refine⟨p.c,hb19.cell 1,?_⟩
  rw[emin]
  refine⟨fun h3=>⟨p.s,hb19.cell 0,?_⟩,fun h3=>⟨p.s,hb19.cell 0,⟨by omega,by omega⟩,p.c,hb19.cell 1,⟨by omega,by omega⟩,?_⟩⟩
  ·refine append_one (hown.ext hx21 (by simp)) rfl (by intro u hu;simp only[List.mem_cons,List.not_mem_nil,or_false]at hu;rcases hu with rfl|rfl<;>rfl) rfl (by omega) ?_
   intro a' c' H30 ho' hx' hf'
   have hb19':=hb19.ext hx' (fun hh=>by have:=hown.lt _ hh;omega)
   refine⟨p.s,hb19'.cell 0,⟨by omega,by omega⟩,p.c,hb19'.cell 1,⟨by omega,by omega⟩,?_⟩
   refine go a' (l10+1) c' H30 ((hb14.ext hx21 (by simp) (by simp)).ext hx' (fun hh=>?_) (fun i hi hh=>?_)) ?_ ?_ ?_ ?_
   ·have:=hf14 _ hh;omega
   ·have:=hf14 _ hh;have:=hlt.2 i hi;omega
   ·exact(hx14.trans hx21.any).trans' hx' (fun i hi=>.inl (hf14 i hi))
   ·intro i hi
    rcases hf' i hi with h4|h4
    ·exact hf14 i h4
    ·have:=hx21.size;omega
   ·rw[ekeep,if_pos (by omega),piecesV_append]
    exact ho'
   ·rw[ekeep,if_pos (by omega)];simp[hl10]
  ·refine go a9 l10 c11 H21 (hb14.ext hx21 (by simp) (by simp)) (hx14.trans hx21.any) hf14 ?_ ?_
   ·rw[ekeep,if_neg (by omega),List.append_nil]
    exact hown.ext hx21 (by simp)
   ·rw[ekeep,if_neg (by omega),List.append_nil,hl10]
 ·have ej:j=len:=by omega
  subst ej
  rw[List.take_of_length_le (by omega)]at hb14 hown hl10
  rw[keepP_pieces hR]at hown hl10
  rw[←hl10]at hown ⊢
  exact⟨_,.inr ⟨hR,rfl,a9,c11,rfl,hown,hf14⟩,hb14,hx14⟩
end Go.Proofs.Bx
end
section
open Go Go.Vc
namespace Go.Proofs
theorem vc_nw(H:Heap) (R:Value→Heap→Prop):Walk Tryz.prog 179 [] [] H R=(∀b1 H2,New H b1 [.slice none 0 0] 237 H2→R (.pointer (some ⟨b1,0,none⟩)) H2):=by kernel_rfl
theorem vc_put(pb0:Nat) (x1:Int) (x2:Int) (H:Heap) (R:Value→Heap→Prop):Walk Tryz.prog 206 [] [.pointer (some ⟨pb0,0,none⟩),.int .u64 x1,.int .i64 x2] H R=(In64 (x2 - 1) ∧∃I1:Int→Heap→Prop,∃μ2:Int→Heap→Nat,(I1 (x2 - 1) H) ∧∀n3 H4,I1 n3 H4→((((0:Int)≤n3)→∃b5 o6:Nat,(some (⟨pb0,0,none⟩:Addr))=some (⟨b5,o6,none⟩:Addr)∧∃a7 l8 c9,hcell H4 b5 o6=some (.slice a7 l8 c9)∧In64 (8*n3) ∧((0:Int)≤(8*n3)) ∧∀q10:Int,q10=Int.fdiv x1 (2 ^ (min (Int.toNat (8*n3)) (IntKind.bits .u64)))→∀q11:Int,q11=IntKind.wrap .u8 q10→∀b12 H13,New H4 b12 [.int .u8 q11] 5 H13→isL H13 b5 o6 [.slice a7 l8 c9]∧∃old14 new15:List Value,SRow H13 1 l8 (.slice a7 l8 c9) old14∧SRow H13 1 1 (.slice (some ⟨b12,0,none⟩) 1 1) new15∧(∀u∈new15,Value.oneCell' u=true)∧(l8+1)*1≤140737488355328∧(l8+1≤c9→roomOf H13 a7 (l8*1) (1*1))∧∀a16:Option Addr,∀c17:Nat,∀H18,App H13 1 5 [.int .u8 0] a7 l8 c9 old14 new15 1 a16 c17 H18→∃b19 o20:Nat,(some (⟨pb0,0,none⟩:Addr))=some (⟨b19,o20,none⟩:Addr)∧Cells H18 b19 o20 1∧∀H21,Puts H18 b19 o20 [.slice a16 (l8+1) c17] H21→In64 (n3 - 1) ∧(I1 (n3 - 1) H21)∧μ2 (n3 - 1) H21<μ2 n3 H4)∧(¬((0:Int)≤n3)→R (.tuple #[]) H4))):=by kernel_rfl
theorem vc_wu16(pb0:Nat) (x1:Int) (H:Heap) (R:Value→Heap→Prop):Walk Tryz.prog 180 [] [.pointer (some ⟨pb0,0,none⟩),.int .i64 x1] H R=(∀q1:Int,q1=IntKind.wrap .u64 x1→Does Tryz.prog 206 [.pointer (some ⟨pb0,0,none⟩),.int .u64 q1,.int .i64 2] H fun v2 H3=>v2=(.tuple #[])∧R (.tuple #[]) H3):=by kernel_rfl
theorem vc_wu32(pb0:Nat) (x1:Int) (H:Heap) (R:Value→Heap→Prop):Walk Tryz.prog 204 [] [.pointer (some ⟨pb0,0,none⟩),.int .i64 x1] H R=(∀q1:Int,q1=IntKind.wrap .u64 x1→Does Tryz.prog 206 [.pointer (some ⟨pb0,0,none⟩),.int .u64 q1,.int .i64 4] H fun v2 H3=>v2=(.tuple #[])∧R (.tuple #[]) H3):=by kernel_rfl
theorem vc_wraw(pb0:Nat) (x1:Option Addr) (x1l:Nat) (x1c:Nat) (H:Heap) (R:Value→Heap→Prop):Walk Tryz.prog 182 [] [.pointer (some ⟨pb0,0,none⟩),.slice x1 x1l x1c] H R=(∃b1 o2:Nat,(some (⟨pb0,0,none⟩:Addr))=some (⟨b1,o2,none⟩:Addr)∧∃a3 l4 c5,hcell H b1 o2=some (.slice a3 l4 c5)∧∃old6 new7:List Value,SRow H 1 l4 (.slice a3 l4 c5) old6∧SRow H 1 x1l (.slice x1 x1l x1c) new7∧(∀u∈new7,Value.oneCell' u=true)∧(l4+x1l)*1≤140737488355328∧(l4+x1l≤c5→roomOf H a3 (l4*1) (x1l*1))∧∀a8:Option Addr,∀c9:Nat,∀H10,App H 1 5 [.int .u8 0] a3 l4 c5 old6 new7 x1l a8 c9 H10→∃b11 o12:Nat,(some (⟨pb0,0,none⟩:Addr))=some (⟨b11,o12,none⟩:Addr)∧Cells H10 b11 o12 1∧∀H13,Puts H10 b11 o12 [.slice a8 (l4+x1l) c9] H13→R (.tuple #[]) H13):=by kernel_rfl
theorem vc_bytes(pb0:Nat) (H:Heap) (R:Value→Heap→Prop):Walk Tryz.prog 181 [] [.pointer (some ⟨pb0,0,none⟩)] H R=(∀b1 H2,New H b1 [] 5 H2→∃b3 o4:Nat,(some (⟨pb0,0,none⟩:Addr))=some (⟨b3,o4,none⟩:Addr)∧∃a5 l6 c7,hcell H2 b3 o4=some (.slice a5 l6 c7)∧∃old8 new9:List Value,SRow H2 1 0 (.slice (some ⟨b1,0,none⟩) 0 0) old8∧SRow H2 1 l6 (.slice a5 l6 c7) new9∧(∀u∈new9,Value.oneCell' u=true)∧(0+l6)*1≤140737488355328∧(0+l6≤0→roomOf H2 (some (⟨b1,0,none⟩:Addr)) (0*1) (l6*1))∧∀a10:Option Addr,∀c11:Nat,∀H12,App H2 1 5 [.int .u8 0] (some (⟨b1,0,none⟩:Addr)) 0 0 old8 new9 l6 a10 c11 H12→R (.slice a10 (0+l6) c11) H12):=by kernel_rfl
theorem vc_nr(x0:Option Addr) (x0l:Nat) (x0c:Nat) (H:Heap) (R:Value→Heap→Prop):Walk Tryz.prog 148 [] [.slice x0 x0l x0c] H R=(∀b1 H2,New H b1 [] 5 H2→∃old3 new4:List Value,SRow H2 1 0 (.slice (some ⟨b1,0,none⟩) 0 0) old3∧SRow H2 1 x0l (.slice x0 x0l x0c) new4∧(∀u∈new4,Value.oneCell' u=true)∧(0+x0l)*1≤140737488355328∧(0+x0l≤0→roomOf H2 (some (⟨b1,0,none⟩:Addr)) (0*1) (x0l*1))∧∀a5:Option Addr,∀c6:Nat,∀H7,App H2 1 5 [.int .u8 0] (some (⟨b1,0,none⟩:Addr)) 0 0 old3 new4 x0l a5 c6 H7→∀b8 H9,New H7 b8 [.slice a5 (0+x0l) c6,.bool false] 223 H9→R (.pointer (some ⟨b8,0,none⟩)) H9):=by kernel_rfl
theorem vc_raw(pb0:Nat) (x1:Int) (H:Heap) (R:Value→Heap→Prop):Walk Tryz.prog 208 [] [.pointer (some ⟨pb0,0,none⟩),.int .i64 x1] H R=(∃b1 o2:Nat,(some (⟨pb0,0,none⟩:Addr))=some (⟨b1,o2,none⟩:Addr)∧∃t3,hcell H b1 (o2+1)=some (.bool t3)∧((t3=true→∃b4 o5:Nat,(some (⟨pb0,0,none⟩:Addr))=some (⟨b4,o5,none⟩:Addr)∧Cells H b4 o5 1∧∀H6,Puts H b4 o5 [.slice none 0 0] H6→∃b7 o8:Nat,(some (⟨pb0,0,none⟩:Addr))=some (⟨b7,o8,none⟩:Addr)∧Cells H6 b7 (o8+1) 1∧∀H9,Puts H6 b7 (o8+1) [.bool true] H9→R (.slice none 0 0) H9)∧(t3=false→((((x1:Int)<0)→∃b10 o11:Nat,(some (⟨pb0,0,none⟩:Addr))=some (⟨b10,o11,none⟩:Addr)∧Cells H b10 o11 1∧∀H12,Puts H b10 o11 [.slice none 0 0] H12→∃b13 o14:Nat,(some (⟨pb0,0,none⟩:Addr))=some (⟨b13,o14,none⟩:Addr)∧Cells H12 b13 (o14+1) 1∧∀H15,Puts H12 b13 (o14+1) [.bool true] H15→R (.slice none 0 0) H15)∧(¬((x1:Int)<0)→∃b16 o17:Nat,(some (⟨pb0,0,none⟩:Addr))=some (⟨b16,o17,none⟩:Addr)∧∃a18 l19 c20,hcell H b16 o17=some (.slice a18 l19 c20)∧(((((l19:Int):Int)<x1)→∃b21 o22:Nat,(some (⟨pb0,0,none⟩:Addr))=some (⟨b21,o22,none⟩:Addr)∧Cells H b21 o22 1∧∀H23,Puts H b21 o22 [.slice none 0 0] H23→∃b24 o25:Nat,(some (⟨pb0,0,none⟩:Addr))=some (⟨b24,o25,none⟩:Addr)∧Cells H23 b24 (o25+1) 1∧∀H26,Puts H23 b24 (o25+1) [.bool true] H26→R (.slice none 0 0) H26)∧(¬(((l19:Int):Int)<x1)→∀b27 H28,New H b27 [] 5 H28→∃b29 o30:Nat,(some (⟨pb0,0,none⟩:Addr))=some (⟨b29,o30,none⟩:Addr)∧∃a31 l32 c33,hcell H28 b29 o30=some (.slice a31 l32 c33)∧(0:Int)≤x1∧(x1:Int)≤(c33:Int)∧∃old34 new35:List Value,SRow H28 1 0 (.slice (some ⟨b27,0,none⟩) 0 0) old34∧SRow H28 1 (Int.toNat x1) (.slice a31 (Int.toNat x1) c33) new35∧(∀u∈new35,Value.oneCell' u=true)∧(0+(Int.toNat x1))*1≤140737488355328∧(0+(Int.toNat x1)≤0→roomOf H28 (some (⟨b27,0,none⟩:Addr)) (0*1) ((Int.toNat x1)*1))∧∀a36:Option Addr,∀c37:Nat,∀H38,App H28 1 5 [.int .u8 0] (some (⟨b27,0,none⟩:Addr)) 0 0 old34 new35 (Int.toNat x1) a36 c37 H38→∃b39 o40:Nat,(some (⟨pb0,0,none⟩:Addr))=some (⟨b39,o40,none⟩:Addr)∧∃a41 l42 c43,hcell H38 b39 o40=some (.slice a41 l42 c43)∧(0:Int)≤x1∧(x1:Int)≤(l42:Int)∧∀a44:Option Addr,a44=(if c43=(Int.toNat x1)then a41 else Option.map (fun x=>Addr.add x ((Int.toNat x1)*1)) a41)→∃b45 o46:Nat,(some (⟨pb0,0,none⟩:Addr))=some (⟨b45,o46,none⟩:Addr)∧Cells H38 b45 o46 1∧∀H47,Puts H38 b45 o46 [.slice a44 (l42 - (Int.toNat x1)) (c43 - (Int.toNat x1))] H47→R (.slice a36 (0+(Int.toNat x1)) c37) H47))))))):=by kernel_rfl
theorem vc_get(pb0:Nat) (x1:Int) (H:Heap) (R:Value→Heap→Prop):Walk Tryz.prog 194 [] [.pointer (some ⟨pb0,0,none⟩),.int .i64 x1] H R=(Does Tryz.prog 208 [.pointer (some ⟨pb0,0,none⟩),.int .i64 x1] H fun v1 H2=>∃a3 l4 c5,v1=(.slice a3 l4 c5)∧∃I6:Int→Int→Heap→Prop,∃μ7:Int→Int→Heap→Nat,(I6 0 0 H2) ∧∀n8:Int,∀n9:Int,∀H10:Heap,I6 n8 n9 H10→(((n9<(l4:Int))→(0:Int)≤n9∧n9<(l4:Int)∧∃b11 o12:Nat,a3=some (⟨b11,o12,none⟩:Addr)∧∃n13,hcell H10 b11 (o12+(Int.toNat n9))=some (.int .u8 n13)∧(((0:Int)≤8) ∧∀q14:Int,q14=IntKind.wrap .u64 (n8*2 ^ (min (Int.toNat 8) (IntKind.bits .u64)))→∀q15:Int,q15=IntKind.wrap .u64 n13→∀q16:Int,q16=bits .or .u64 q14 q15→In64 (n9+1) ∧(I6 q16 (n9+1) H10)∧μ7 q16 (n9+1) H10<μ7 n8 n9 H10))∧(¬(n9<(l4:Int))→R (.int .u64 n8) H10))):=by kernel_rfl
theorem vc_ru16(pb0:Nat) (H:Heap) (R:Value→Heap→Prop):Walk Tryz.prog 149 [] [.pointer (some ⟨pb0,0,none⟩)] H R=(Does Tryz.prog 194 [.pointer (some ⟨pb0,0,none⟩),.int .i64 2] H fun v1 H2=>∃n3,v1=(.int .u64 n3)∧∀q4:Int,q4=IntKind.wrap .i64 n3→R (.int .i64 q4) H2):=by kernel_rfl
theorem vc_ru32(pb0:Nat) (H:Heap) (R:Value→Heap→Prop):Walk Tryz.prog 190 [] [.pointer (some ⟨pb0,0,none⟩)] H R=(Does Tryz.prog 194 [.pointer (some ⟨pb0,0,none⟩),.int .i64 4] H fun v1 H2=>∃n3,v1=(.int .u64 n3)∧∀q4:Int,q4=IntKind.wrap .i64 n3→R (.int .i64 q4) H2):=by kernel_rfl
theorem vc_lack(pb0:Nat) (H:Heap) (R:Value→Heap→Prop):Walk Tryz.prog 217 [] [.pointer (some ⟨pb0,0,none⟩)] H R=(∃b1 o2:Nat,(some (⟨pb0,0,none⟩:Addr))=some (⟨b1,o2,none⟩:Addr)∧∃t3,hcell H b1 (o2+1)=some (.bool t3)∧R (.bool t3) H):=by kernel_rfl
theorem vc_eq(x0:Option Addr) (x0l:Nat) (x0c:Nat) (x1:Option Addr) (x1l:Nat) (x1c:Nat) (H:Heap) (R:Value→Heap→Prop):Walk Tryz.prog 152 [] [.slice x0 x0l x0c,.slice x1 x1l x1c] H R=(((((x0l:Int):Int)≠(x1l:Int))→R (.bool false) H)∧(¬(((x0l:Int):Int)≠(x1l:Int))→∃I1:Int→Heap→Prop,∃μ2:Int→Heap→Nat,(I1 0 H) ∧∀n3 H4,I1 n3 H4→(((n3<(x0l:Int))→(0:Int)≤n3∧n3<(x0l:Int)∧∃b5 o6:Nat,x0=some (⟨b5,o6,none⟩:Addr)∧∃n7,hcell H4 b5 (o6+(Int.toNat n3))=some (.int .u8 n7)∧(0:Int)≤n3∧n3<(x1l:Int)∧∃b8 o9:Nat,x1=some (⟨b8,o9,none⟩:Addr)∧∃n10,hcell H4 b8 (o9+(Int.toNat n3))=some (.int .u8 n10)∧(((n7≠n10)→R (.bool false) H4)∧(¬(n7≠n10)→In64 (n3+1) ∧(I1 (n3+1) H4)∧μ2 (n3+1) H4<μ2 n3 H4)))∧(¬(n3<(x0l:Int))→R (.bool true) H4)))):=by kernel_rfl
theorem vc_padded(x0:Option Addr) (x0l:Nat) (x0c:Nat) (x1:Int) (H:Heap) (R:Value→Heap→Prop):Walk Tryz.prog 205 [] [.slice x0 x0l x0c,.int .i64 x1] H R=(Does Tryz.prog 89 [.slice x0 x0l x0c] H fun v1 H2=>∃a3 l4 c5,v1=(.slice a3 l4 c5)∧In64 (x1 - (x0l:Int)) ∧∃old6:List Value,SRow H2 1 l4 (.slice a3 l4 c5) old6∧(0:Int)≤(max 0 (x1 - (x0l:Int)))∧(l4+(Int.toNat (max 0 (x1 - (x0l:Int)))))*1≤140737488355328∧(l4+(Int.toNat (max 0 (x1 - (x0l:Int))))≤c5→roomOf H2 a3 (l4*1) ((Int.toNat (max 0 (x1 - (x0l:Int))))*1))∧∀a7:Option Addr,∀c8:Nat,∀H9,App H2 1 5 [.int .u8 0] a3 l4 c5 old6 (List.replicate (Int.toNat (max 0 (x1 - (x0l:Int)))) (.int .u8 0)) (Int.toNat (max 0 (x1 - (x0l:Int)))) a7 c8 H9→R (.slice a7 (l4+(Int.toNat (max 0 (x1 - (x0l:Int))))) c8) H9):=by kernel_rfl
theorem vc_hlay(x0_0:Int) (x0_1:Int) (x0_2:Int) (H:Heap) (R:Value→Heap→Prop):Walk Tryz.prog 178 [] [.agg #[.int .i64 x0_0,.int .i64 x0_1,.int .i64 x0_2]] H R=(∀b1 H2,New H b1 [.int .i64 x0_0,.int .i64 x0_1,.int .i64 x0_2] 184 H2→Does Tryz.prog 179 [] H2 fun v3 H4=>∃p5:Option Addr,v3=(.pointer p5)∧Does Tryz.prog 204 [.pointer p5,.int .i64 1885695604] H4 fun v6 H7=>v6=(.tuple #[])∧∃n8,hcell H7 b1 0=some (.int .i64 n8)∧Does Tryz.prog 204 [.pointer p5,.int .i64 n8] H7 fun v9 H10=>v9=(.tuple #[])∧∃n11,hcell H10 b1 (0+1)=some (.int .i64 n11)∧Does Tryz.prog 204 [.pointer p5,.int .i64 n11] H10 fun v12 H13=>v12=(.tuple #[])∧∃n14,hcell H13 b1 (0+2)=some (.int .i64 n14)∧Does Tryz.prog 204 [.pointer p5,.int .i64 n14] H13 fun v15 H16=>v15=(.tuple #[])∧Does Tryz.prog 181 [.pointer p5] H16 fun v17 H18=>∃a19 l20 c21,v17=(.slice a19 l20 c21)∧Does Tryz.prog 205 [.slice a19 l20 c21,.int .i64 128] H18 fun v22 H23=>∃a24 l25 c26,v22=(.slice a24 l25 c26)∧R (.slice a24 l25 c26) H23):=by kernel_rfl
theorem vc_home(pb0:Nat) (x1:Int) (H:Heap) (R:Value→Heap→Prop):Walk Tryz.prog 177 [] [.pointer (some ⟨pb0,0,none⟩),.int .i64 x1] H R=((((x1:Int)<4)→R (.int .i64 (-1)) H)∧(¬((x1:Int)<4)→Does Tryz.prog 114 [.pointer (some ⟨pb0,0,none⟩)] H fun v1 H2=>∃n3,v1=(.int .i64 n3)∧(In64 (n3 - 1) ∧In64 ((n3 - 1) - 3) ∧((((((n3 - 1) - 3):Int)<x1)→R (.int .i64 (-1)) H2)∧(¬((((n3 - 1) - 3):Int)<x1)→Does Tryz.prog 114 [.pointer (some ⟨pb0,0,none⟩)] H2 fun v4 H5=>∃n6,v4=(.int .i64 n6)∧In64 (n6 - 1) ∧In64 ((n6 - 1) - x1) ∧R (.int .i64 ((n6 - 1) - x1)) H5))))):=by kernel_rfl
theorem vc_hread(pb0:Nat) (H:Heap) (R:Value→Heap→Prop):Walk Tryz.prog 144 [] [.pointer (some ⟨pb0,0,none⟩)] H R=(∀b1 H2,New H b1 [.int .i64 0,.int .i64 0,.int .i64 0] 184 H2→Does Tryz.prog 59 [.pointer (some ⟨pb0,0,none⟩),.int .i64 0] H2 fun v3 H4=>∃a5 l6 c7,∃n8,v3=(.tuple #[.slice a5 l6 c7,.int .i64 n8])∧(((n8≠0)→Cells H4 b1 0 3∧∀H9,Puts H4 b1 0 [.int .i64 0,.int .i64 0,.int .i64 0] H9→∃n10,hcell H9 b1 0=some (.int .i64 n10)∧∃n11,hcell H9 b1 (0+1)=some (.int .i64 n11)∧∃n12,hcell H9 b1 (0+1+1)=some (.int .i64 n12)∧R (.tuple #[.agg #[.int .i64 n10,.int .i64 n11,.int .i64 n12],.int .i64 n8]) H9)∧(¬(n8≠0)→Does Tryz.prog 148 [.slice a5 l6 c7] H4 fun v13 H14=>∃p15:Option Addr,v13=(.pointer p15)∧Does Tryz.prog 190 [.pointer p15] H14 fun v16 H17=>∃n18,v16=(.int .i64 n18)∧Does Tryz.prog 190 [.pointer p15] H17 fun v19 H20=>∃n21,v19=(.int .i64 n21)∧Does Tryz.prog 190 [.pointer p15] H20 fun v22 H23=>∃n24,v22=(.int .i64 n24)∧Does Tryz.prog 190 [.pointer p15] H23 fun v25 H26=>∃n27,v25=(.int .i64 n27)∧∀b28 H29,New H26 b28 [.int .i64 0,.int .i64 0,.int .i64 0] 184 H29→Cells H29 b28 0 3∧∀H30,Puts H29 b28 0 [.int .i64 n21,.int .i64 n24,.int .i64 n27] H30→∃n31,hcell H30 b28 0=some (.int .i64 n31)∧∃n32,hcell H30 b28 (0+1)=some (.int .i64 n32)∧∃n33,hcell H30 b28 (0+1+1)=some (.int .i64 n33)∧Does Tryz.prog 178 [.agg #[.int .i64 n31,.int .i64 n32,.int .i64 n33]] H30 fun v34 H35=>∃a36 l37 c38,v34=(.slice a36 l37 c38)∧Does Tryz.prog 152 [.slice a36 l37 c38,.slice a5 l6 c7] H35 fun v39 H40=>∃t41,v39=(.bool t41)∧(((t41=false)→Cells H40 b1 0 3∧∀H42,Puts H40 b1 0 [.int .i64 0,.int .i64 0,.int .i64 0] H42→∃n43,hcell H42 b1 0=some (.int .i64 n43)∧∃n44,hcell H42 b1 (0+1)=some (.int .i64 n44)∧∃n45,hcell H42 b1 (0+1+1)=some (.int .i64 n45)∧R (.tuple #[.agg #[.int .i64 n43,.int .i64 n44,.int .i64 n45],.int .i64 2]) H42)∧(¬(t41=false)→∃n46,hcell H40 b28 (0+2)=some (.int .i64 n46)∧Does Tryz.prog 177 [.pointer (some ⟨pb0,0,none⟩),.int .i64 n46] H40 fun v47 H48=>∃n49,v47=(.int .i64 n49)∧(((n49<0)→Cells H48 b1 0 3∧∀H50,Puts H48 b1 0 [.int .i64 0,.int .i64 0,.int .i64 0] H50→∃n51,hcell H50 b1 0=some (.int .i64 n51)∧∃n52,hcell H50 b1 (0+1)=some (.int .i64 n52)∧∃n53,hcell H50 b1 (0+1+1)=some (.int .i64 n53)∧R (.tuple #[.agg #[.int .i64 n51,.int .i64 n52,.int .i64 n53],.int .i64 2]) H50)∧(¬(n49<0)→∃n54,hcell H48 b28 (0+1)=some (.int .i64 n54)∧(((n54=0)→Cells H48 b1 0 3∧∀H55,Puts H48 b1 0 [.int .i64 0,.int .i64 0,.int .i64 0] H55→∃n56,hcell H55 b1 0=some (.int .i64 n56)∧∃n57,hcell H55 b1 (0+1)=some (.int .i64 n57)∧∃n58,hcell H55 b1 (0+1+1)=some (.int .i64 n58)∧R (.tuple #[.agg #[.int .i64 n56,.int .i64 n57,.int .i64 n58],.int .i64 2]) H55)∧(¬(n54=0)→∃n59,hcell H48 b28 0=some (.int .i64 n59)∧∃n60,hcell H48 b28 (0+1)=some (.int .i64 n60)∧∃n61,hcell H48 b28 (0+1+1)=some (.int .i64 n61)∧Cells H48 b1 0 3∧∀H62,Puts H48 b1 0 [.int .i64 n59,.int .i64 n60,.int .i64 n61] H62→∃n63,hcell H62 b1 0=some (.int .i64 n63)∧∃n64,hcell H62 b1 (0+1)=some (.int .i64 n64)∧∃n65,hcell H62 b1 (0+1+1)=some (.int .i64 n65)∧R (.tuple #[.agg #[.int .i64 n63,.int .i64 n64,.int .i64 n65],.int .i64 0]) H62))))))))):=by kernel_rfl
theorem vc_needs(x0:Int) (H:Heap) (R:Value→Heap→Prop):Walk Tryz.prog 119 [] [.int .i64 x0] H R=((((x0:Int)<1)→R (.int .i64 0) H)∧(¬((x0:Int)<1)→In64 (x0*132) ∧In64 (2+(x0*132)) ∧In64 ((2+(x0*132))+116) ∧In64 (((2+(x0*132))+116) - 1) ∧((116:Int)≠0) ∧∀q1:Int,q1=IntKind.wrap .i64 (Int.tdiv (((2+(x0*132))+116) - 1) 116)→R (.int .i64 q1) H)):=by kernel_rfl
theorem vc_stream(x0:Option Addr) (x0l:Nat) (x0c:Nat) (H:Heap) (R:Value→Heap→Prop):Walk Tryz.prog 216 [] [.slice x0 x0l x0c] H R=(Does Tryz.prog 179 [] H fun v1 H2=>∃p3:Option Addr,v1=(.pointer p3)∧Does Tryz.prog 180 [.pointer p3,.int .i64 (x0l:Int)] H2 fun v4 H5=>v4=(.tuple #[])∧∃I6:Int→Heap→Prop,∃μ7:Int→Heap→Nat,(I6 0 H5) ∧∀n8 H9,I6 n8 H9→(((n8<(x0l:Int))→(0:Int)≤n8∧n8<(x0l:Int)∧∃b10 o11:Nat,x0=some (⟨b10,o11,none⟩:Addr)∧∃n12,hcell H9 b10 (o11+(Int.toNat n8)*2)=some (.int .i64 n12)∧∃a13 l14 c15,hcell H9 b10 (o11+(Int.toNat n8)*2+1)=some (.slice a13 l14 c15)∧∀b16 H17,New H9 b16 [.int .i64 0,.slice none 0 0] 162 H17→Cells H17 b16 0 2∧∀H18,Puts H17 b16 0 [.int .i64 n12,.slice a13 l14 c15] H18→∃n19,hcell H18 b16 0=some (.int .i64 n19)∧Does Tryz.prog 204 [.pointer p3,.int .i64 n19] H18 fun v20 H21=>v20=(.tuple #[])∧∃a22 l23 c24,hcell H21 b16 (0+1)=some (.slice a22 l23 c24)∧Does Tryz.prog 182 [.pointer p3,.slice a22 l23 c24] H21 fun v25 H26=>v25=(.tuple #[])∧In64 (n8+1) ∧(I6 (n8+1) H26)∧μ7 (n8+1) H26<μ7 n8 H9)∧(¬(n8<(x0l:Int))→Does Tryz.prog 181 [.pointer p3] H9 fun v27 H28=>∃a29 l30 c31,v27=(.slice a29 l30 c31)∧R (.slice a29 l30 c31) H28))):=by kernel_rfl
theorem vc_laid(x0_0:Int) (x0_1:Int) (x0_2:Int) (x1:Option Addr) (x1l:Nat) (x1c:Nat) (H:Heap) (R:Value→Heap→Prop):Walk Tryz.prog 203 [] [.agg #[.int .i64 x0_0,.int .i64 x0_1,.int .i64 x0_2],.slice x1 x1l x1c] H R=(∀b1 H2,New H b1 [.int .i64 x0_0,.int .i64 x0_1,.int .i64 x0_2] 184 H2→Does Tryz.prog 216 [.slice x1 x1l x1c] H2 fun v3 H4=>∃a5 l6 c7,v3=(.slice a5 l6 c7)∧Does Tryz.prog 119 [.int .i64 (x1l:Int)] H4 fun v8 H9=>∃n10,v8=(.int .i64 n10)∧In64 (n10*116) ∧Does Tryz.prog 205 [.slice a5 l6 c7,.int .i64 (n10*116)] H9 fun v11 H12=>∃a13 l14 c15,v11=(.slice a13 l14 c15)∧∃I16:Option Addr→Nat→Nat→Int→Heap→Prop,∃μ17:Option Addr→Nat→Nat→Int→Heap→Nat,(I16 none 0 0 0 H12) ∧∀a18 l19 c20,∀n21:Int,∀H22:Heap,I16 a18 l19 c20 n21 H22→(((n21<n10)→Does Tryz.prog 179 [] H22 fun v23 H24=>∃p25:Option Addr,v23=(.pointer p25)∧∃n26,hcell H24 b1 0=some (.int .i64 n26)∧Does Tryz.prog 204 [.pointer p25,.int .i64 n26] H24 fun v27 H28=>v27=(.tuple #[])∧∃n29,hcell H28 b1 (0+1)=some (.int .i64 n29)∧Does Tryz.prog 204 [.pointer p25,.int .i64 n29] H28 fun v30 H31=>v30=(.tuple #[])∧Does Tryz.prog 180 [.pointer p25,.int .i64 n21] H31 fun v32 H33=>v32=(.tuple #[])∧Does Tryz.prog 180 [.pointer p25,.int .i64 n10] H33 fun v34 H35=>v34=(.tuple #[])∧In64 (n21*116) ∧In64 (n21+1) ∧In64 ((n21+1)*116) ∧(0:Int)≤(n21*116)∧((n21*116):Int)≤((n21+1)*116)∧(((n21+1)*116):Int)≤(c15:Int)∧∀a36:Option Addr,a36=(if c15=(Int.toNat (n21*116))then a13 else Option.map (fun x=>Addr.add x ((Int.toNat (n21*116))*1)) a13)→Does Tryz.prog 182 [.pointer p25,.slice a36 ((Int.toNat ((n21+1)*116)) - (Int.toNat (n21*116))) (c15 - (Int.toNat (n21*116)))] H35 fun v37 H38=>v37=(.tuple #[])∧Does Tryz.prog 181 [.pointer p25] H38 fun v39 H40=>∃a41 l42 c43,v39=(.slice a41 l42 c43)∧∀b44 H45,New H40 b44 [.slice a41 l42 c43] 33 H45→∃old46 new47:List Value,SRow H45 1 l19 (.slice a18 l19 c20) old46∧SRow H45 1 1 (.slice (some ⟨b44,0,none⟩) 1 1) new47∧(∀u∈new47,Value.oneCell' u=true)∧(l19+1)*24≤140737488355328∧(l19+1≤c20→roomOf H45 a18 (l19*1) (1*1))∧∀a48:Option Addr,∀c49:Nat,∀H50,App H45 1 33 [.slice none 0 0] a18 l19 c20 old46 new47 1 a48 c49 H50→In64 (n21+1) ∧(I16 a48 (l19+1) c49 (n21+1) H50)∧μ17 a48 (l19+1) c49 (n21+1) H50<μ17 a18 l19 c20 n21 H22)∧(¬(n21<n10)→R (.slice a18 l19 c20) H22))):=by kernel_rfl
theorem vc_writes(x0:Option Addr) (x0l:Nat) (x0c:Nat) (H:Heap) (R:Value→Heap→Prop):Walk Tryz.prog 209 [] [.slice x0 x0l x0c] H R=(Does Tryz.prog 148 [.slice x0 x0l x0c] H fun v1 H2=>∃p3:Option Addr,v1=(.pointer p3)∧Does Tryz.prog 149 [.pointer p3] H2 fun v4 H5=>∃n6,v4=(.int .i64 n6)∧∃I7:Option Addr→Nat→Nat→Int→Heap→Prop,∃μ8:Option Addr→Nat→Nat→Int→Heap→Nat,(I7 none 0 0 n6 H5) ∧∀a9 l10 c11,∀n12:Int,∀H13:Heap,I7 a9 l10 c11 n12 H13→((((0:Int)<n12)→Does Tryz.prog 217 [.pointer p3] H13 fun v14 H15=>∃t16,v14=(.bool t16)∧(((t16=false)→Does Tryz.prog 190 [.pointer p3] H15 fun v17 H18=>∃n19,v17=(.int .i64 n19)∧Does Tryz.prog 208 [.pointer p3,.int .i64 128] H18 fun v20 H21=>∃a22 l23 c24,v20=(.slice a22 l23 c24)∧∀b25 H26,New H21 b25 [.int .i64 n19,.slice a22 l23 c24] 162 H26→∃old27 new28:List Value,SRow H26 2 l10 (.slice a9 l10 c11) old27∧SRow H26 2 1 (.slice (some ⟨b25,0,none⟩) 1 1) new28∧(∀u∈new28,Value.oneCell' u=true)∧(l10+1)*32≤140737488355328∧(l10+1≤c11→roomOf H26 a9 (l10*2) (1*2))∧∀a29:Option Addr,∀c30:Nat,∀H31,App H26 2 162 [.int .i64 0,.slice none 0 0] a9 l10 c11 old27 new28 1 a29 c30 H31→In64 (n12 - 1) ∧(I7 a29 (l10+1) c30 (n12 - 1) H31)∧μ8 a29 (l10+1) c30 (n12 - 1) H31<μ8 a9 l10 c11 n12 H13)∧(¬(t16=false)→R (.slice a9 l10 c11) H15)))∧(¬((0:Int)<n12)→R (.slice a9 l10 c11) H13))):=by kernel_rfl
theorem vc_may(x0:Option Addr) (x0l:Nat) (x0c:Nat) (x1:Int) (H:Heap) (R:Value→Heap→Prop):Walk Tryz.prog 170 [] [.slice x0 x0l x0c,.int .i64 x1] H R=(∀r1:Nat,∀H2:Heap,NewMap H r1 H2→∃I3:Int→Heap→Prop,∃μ4:Int→Heap→Nat,(I3 0 H2) ∧∀n5 H6,I3 n5 H6→(((n5<(x0l:Int))→(0:Int)≤n5∧n5<(x0l:Int)∧∃b7 o8:Nat,x0=some (⟨b7,o8,none⟩:Addr)∧∃n9,hcell H6 b7 (o8+(Int.toNat n5)*2)=some (.int .i64 n9)∧∃a10 l11 c12,hcell H6 b7 (o8+(Int.toNat n5)*2+1)=some (.slice a10 l11 c12)∧∀b13 H14,New H6 b13 [.int .i64 0,.slice none 0 0] 162 H14→Cells H14 b13 0 2∧∀H15,Puts H14 b13 0 [.int .i64 n9,.slice a10 l11 c12] H15→∃n16,hcell H15 b13 0=some (.int .i64 n16)∧(((n16<0)→R (.bool false) H15)∧(¬(n16<0)→∃n17,hcell H15 b13 0=some (.int .i64 n17)∧((((x1:Int)≤n17)→R (.bool false) H15)∧(¬((x1:Int)≤n17)→∃a18 l19 c20,hcell H15 b13 (0+1)=some (.slice a18 l19 c20)∧(((((l19:Int):Int)≠128)→R (.bool false) H15)∧(¬(((l19:Int):Int)≠128)→∃n21,hcell H15 b13 0=some (.int .i64 n21)∧∃r22:Nat,∃l23:List (Int×Value),(some r1)=some r22∧MapIs H15 r22 l23∧∃t24,(.bool t24)=mapGet l23 n21 (.bool false)∧((t24=true→R (.bool false) H15)∧(t24=false→∃n25,hcell H15 b13 0=some (.int .i64 n25)∧∃r26:Nat,∃l27:List (Int×Value),(some r1)=some r26∧MapIs H15 r26 l27∧∀H28,MapPut H15 r26 (mapSet l27 n25 (.bool true)) H28→In64 (n5+1) ∧(I3 (n5+1) H28)∧μ4 (n5+1) H28<μ4 n5 H6)))))))))∧(¬(n5<(x0l:Int))→R (.bool (@decide ((0:Int)<(x0l:Int)) (Classical.propDecidable _))) H6))):=by kernel_rfl
theorem vc_eqfunc(x0:Option Addr) (x0l:Nat) (x0c:Nat) (x1:Option Addr) (x1l:Nat) (x1c:Nat) (H:Heap) (R:Value→Heap→Prop):Walk Tryz.prog 210 [] [.slice x0 x0l x0c,.slice x1 x1l x1c,.func (.func 152) #[] #[]] H R=(((((x0l:Int):Int)≠(x1l:Int))→R (.bool false) H)∧(¬(((x0l:Int):Int)≠(x1l:Int))→∃I1:Int→Heap→Prop,∃μ2:Int→Heap→Nat,(I1 0 H) ∧∀n3 H4,I1 n3 H4→(((n3<(x0l:Int))→(0:Int)≤n3∧n3<(x0l:Int)∧∃b5 o6:Nat,x0=some (⟨b5,o6,none⟩:Addr)∧∃a7 l8 c9,hcell H4 b5 (o6+(Int.toNat n3))=some (.slice a7 l8 c9)∧(0:Int)≤n3∧n3<(x1l:Int)∧∃b10 o11:Nat,x1=some (⟨b10,o11,none⟩:Addr)∧∃a12 l13 c14,hcell H4 b10 (o11+(Int.toNat n3))=some (.slice a12 l13 c14)∧Does Tryz.prog 152 [.slice a7 l8 c9,.slice a12 l13 c14] H4 fun v15 H16=>∃t17,v15=(.bool t17)∧(((t17=false)→R (.bool false) H16)∧(¬(t17=false)→In64 (n3+1) ∧(I1 (n3+1) H16)∧μ2 (n3+1) H16<μ2 n3 H4)))∧(¬(n3<(x0l:Int))→R (.bool true) H4)))):=by kernel_rfl
theorem vc_whole(x0_0:Int) (x0_1:Int) (x0_2:Int) (x1:Option Addr) (x1l:Nat) (x1c:Nat) (x2:Int) (H:Heap) (R:Value→Heap→Prop):Walk Tryz.prog 191 [] [.agg #[.int .i64 x0_0,.int .i64 x0_1,.int .i64 x0_2],.slice x1 x1l x1c,.int .i64 x2] H R=(∀b1 H2,New H b1 [.int .i64 x0_0,.int .i64 x0_1,.int .i64 x0_2] 184 H2→(((((x1l:Int):Int)=0)→R (.tuple #[.slice none 0 0,.int .i64 0]) H2)∧(¬(((x1l:Int):Int)=0)→(0:Int)≤0∧(0:Int)<(x1l:Int)∧∃b3 o4:Nat,x1=some (⟨b3,o4,none⟩:Addr)∧∃a5 l6 c7,hcell H2 b3 (o4+(Int.toNat 0))=some (.slice a5 l6 c7)∧Does Tryz.prog 148 [.slice a5 l6 c7] H2 fun v8 H9=>∃p10:Option Addr,v8=(.pointer p10)∧Does Tryz.prog 208 [.pointer p10,.int .i64 10] H9 fun v11 H12=>∃a13 l14 c15,v11=(.slice a13 l14 c15)∧Does Tryz.prog 149 [.pointer p10] H12 fun v16 H17=>∃n18,v16=(.int .i64 n18)∧(((((x1l:Int):Int)<n18)→R (.tuple #[.slice none 0 0,.int .i64 0]) H17)∧(¬(((x1l:Int):Int)<n18)→(0:Int)≤n18∧n18≤(x1c:Int)∧∃I19:Option Addr→Nat→Nat→Int→Heap→Prop,∃μ20:Option Addr→Nat→Nat→Int→Heap→Nat,(I19 none 0 0 0 H17) ∧∀a21 l22 c23,∀n24:Int,∀H25:Heap,I19 a21 l22 c23 n24 H25→(((n24<((Int.toNat n18):Int))→(0:Int)≤n24∧n24<((Int.toNat n18):Int)∧∃b26 o27:Nat,x1=some (⟨b26,o27,none⟩:Addr)∧∃a28 l29 c30,hcell H25 b26 (o27+(Int.toNat n24))=some (.slice a28 l29 c30)∧(0:Int)≤12∧(12:Int)≤(l29:Int)∧∀a31:Option Addr,a31=(if c30=(Int.toNat 12)then a28 else Option.map (fun x=>Addr.add x ((Int.toNat 12)*1)) a28)→∃old32 new33:List Value,SRow H25 1 l22 (.slice a21 l22 c23) old32∧SRow H25 1 (l29 - (Int.toNat 12)) (.slice a31 (l29 - (Int.toNat 12)) (c30 - (Int.toNat 12))) new33∧(∀u∈new33,Value.oneCell' u=true)∧(l22+(l29 - (Int.toNat 12)))*1≤140737488355328∧(l22+(l29 - (Int.toNat 12))≤c23→roomOf H25 a21 (l22*1) ((l29 - (Int.toNat 12))*1))∧∀a34:Option Addr,∀c35:Nat,∀H36,App H25 1 5 [.int .u8 0] a21 l22 c23 old32 new33 (l29 - (Int.toNat 12)) a34 c35 H36→In64 (n24+1) ∧(I19 a34 (l22+(l29 - (Int.toNat 12))) c35 (n24+1) H36)∧μ20 a34 (l22+(l29 - (Int.toNat 12))) c35 (n24+1) H36<μ20 a21 l22 c23 n24 H25)∧(¬(n24<((Int.toNat n18):Int))→Does Tryz.prog 209 [.slice a21 l22 c23] H25 fun v37 H38=>∃a39 l40 c41,v37=(.slice a39 l40 c41)∧Does Tryz.prog 170 [.slice a39 l40 c41,.int .i64 x2] H38 fun v42 H43=>∃t44,v42=(.bool t44)∧(((t44=false)→R (.tuple #[.slice none 0 0,.int .i64 0]) H43)∧(¬(t44=false)→∃n45,hcell H43 b1 0=some (.int .i64 n45)∧∃n46,hcell H43 b1 (0+1)=some (.int .i64 n46)∧∃n47,hcell H43 b1 (0+1+1)=some (.int .i64 n47)∧(0:Int)≤n18∧n18≤(x1c:Int)∧Does Tryz.prog 203 [.agg #[.int .i64 n45,.int .i64 n46,.int .i64 n47],.slice a39 l40 c41] H43 fun v48 H49=>∃a50 l51 c52,v48=(.slice a50 l51 c52)∧Does Tryz.prog 210 [.slice a50 l51 c52,.slice x1 (Int.toNat n18) x1c,.func (.func 152) #[] #[]] H49 fun v53 H54=>∃t55,v53=(.bool t55)∧(((t55=false)→R (.tuple #[.slice none 0 0,.int .i64 0]) H54)∧(¬(t55=false)→R (.tuple #[.slice a39 l40 c41,.int .i64 n18]) H54))))))))))):=by kernel_rfl
end Go.Proofs
end
section
open Go Go.Vc
namespace Go.Proofs
theorem vc_pick(x0:Int) (x1:Int) (H:Heap) (R:Value→Heap→Prop):Walk Tryz.prog 22 [] [.int .i64 x0,.int .i64 x1] H R=(((x1:Int)≠0) ∧∀q1:Int,q1=Int.tmod x0 x1→(((q1<0)→In64 (q1+x1) ∧R (.int .i64 (q1+x1)) H)∧(¬(q1<0)→R (.int .i64 q1) H))):=by kernel_rfl
theorem vc_clonell(x0:Option Addr) (x0l:Nat) (x0c:Nat) (H:Heap) (R:Value→Heap→Prop):Walk Tryz.prog 86 [] [.slice x0 x0l x0c] H R=((((x0:Option Addr)=none)→R (.slice none 0 0) H)∧(¬((x0:Option Addr)=none)→∀b1 H2,New H b1 [] 33 H2→∃old3 new4:List Value,SRow H2 1 0 (.slice (some ⟨b1,0,none⟩) 0 0) old3∧SRow H2 1 x0l (.slice x0 x0l x0c) new4∧(∀u∈new4,Value.oneCell' u=true)∧(0+x0l)*24≤140737488355328∧(0+x0l≤0→roomOf H2 (some (⟨b1,0,none⟩:Addr)) (0*1) (x0l*1))∧∀a5:Option Addr,∀c6:Nat,∀H7,App H2 1 33 [.slice none 0 0] (some (⟨b1,0,none⟩:Addr)) 0 0 old3 new4 x0l a5 c6 H7→R (.slice a5 (0+x0l) c6) H7)):=by kernel_rfl
theorem vc_work(x0:Option Addr) (H:Heap) (R:Value→Heap→Prop):Walk Tryz.prog 88 [] [.pointer x0] H R=(∃b1 o2:Nat,x0=some (⟨b1,o2,none⟩:Addr)∧∃n3,hcell H b1 (o2+3)=some (.int .i64 n3)∧(((n3=0)→∃b4 o5:Nat,x0=some (⟨b4,o5,none⟩:Addr)∧Cells H b4 (o5+4) 1∧∀H6,Puts H b4 (o5+4) [.bool true] H6→∃b7 o8:Nat,x0=some (⟨b7,o8,none⟩:Addr)∧∃t9,hcell H6 b7 (o8+4)=some (.bool t9)∧((t9=true→R (.int .i64 4) H6)∧(t9=false→∃b10 o11:Nat,x0=some (⟨b10,o11,none⟩:Addr)∧∃n12,hcell H6 b10 (o11+3)=some (.int .i64 n12)∧((((0:Int)<n12)→∃b13 o14:Nat,x0=some (⟨b13,o14,none⟩:Addr)∧∃n15,hcell H6 b13 (o14+3)=some (.int .i64 n15)∧In64 (n15 - 1) ∧∃b16 o17:Nat,x0=some (⟨b16,o17,none⟩:Addr)∧Cells H6 b16 (o17+3) 1∧∀H18,Puts H6 b16 (o17+3) [.int .i64 (n15 - 1)] H18→∃b19 o20:Nat,x0=some (⟨b19,o20,none⟩:Addr)∧∃n21,hcell H18 b19 (o20+5)=some (.int .i64 n21)∧In64 (n21+1) ∧∃b22 o23:Nat,x0=some (⟨b22,o23,none⟩:Addr)∧Cells H18 b22 (o23+5) 1∧∀H24,Puts H18 b22 (o23+5) [.int .i64 (n21+1)] H24→R (.int .i64 0) H24)∧(¬((0:Int)<n12)→∃b25 o26:Nat,x0=some (⟨b25,o26,none⟩:Addr)∧∃n27,hcell H6 b25 (o26+5)=some (.int .i64 n27)∧In64 (n27+1) ∧∃b28 o29:Nat,x0=some (⟨b28,o29,none⟩:Addr)∧Cells H6 b28 (o29+5) 1∧∀H30,Puts H6 b28 (o29+5) [.int .i64 (n27+1)] H30→R (.int .i64 0) H30)))))∧(¬(n3=0)→∃b31 o32:Nat,x0=some (⟨b31,o32,none⟩:Addr)∧∃t33,hcell H b31 (o32+4)=some (.bool t33)∧((t33=true→R (.int .i64 4) H)∧(t33=false→∃b34 o35:Nat,x0=some (⟨b34,o35,none⟩:Addr)∧∃n36,hcell H b34 (o35+3)=some (.int .i64 n36)∧((((0:Int)<n36)→∃b37 o38:Nat,x0=some (⟨b37,o38,none⟩:Addr)∧∃n39,hcell H b37 (o38+3)=some (.int .i64 n39)∧In64 (n39 - 1) ∧∃b40 o41:Nat,x0=some (⟨b40,o41,none⟩:Addr)∧Cells H b40 (o41+3) 1∧∀H42,Puts H b40 (o41+3) [.int .i64 (n39 - 1)] H42→∃b43 o44:Nat,x0=some (⟨b43,o44,none⟩:Addr)∧∃n45,hcell H42 b43 (o44+5)=some (.int .i64 n45)∧In64 (n45+1) ∧∃b46 o47:Nat,x0=some (⟨b46,o47,none⟩:Addr)∧Cells H42 b46 (o47+5) 1∧∀H48,Puts H42 b46 (o47+5) [.int .i64 (n45+1)] H48→R (.int .i64 0) H48)∧(¬((0:Int)<n36)→∃b49 o50:Nat,x0=some (⟨b49,o50,none⟩:Addr)∧∃n51,hcell H b49 (o50+5)=some (.int .i64 n51)∧In64 (n51+1) ∧∃b52 o53:Nat,x0=some (⟨b52,o53,none⟩:Addr)∧Cells H b52 (o53+5) 1∧∀H54,Puts H b52 (o53+5) [.int .i64 (n51+1)] H54→R (.int .i64 0) H54))))))):=by kernel_rfl
theorem vc_has(x0:Option Addr) (x1:Int) (H:Heap) (R:Value→Heap→Prop):Walk Tryz.prog 87 [] [.pointer x0,.int .i64 x1] H R=((((0:Int)≤x1)→∃b1 o2:Nat,x0=some (⟨b1,o2,none⟩:Addr)∧∃a3 l4 c5,hcell H b1 (o2+1)=some (.slice a3 l4 c5)∧R (.bool (@decide ((x1:Int)<(l4:Int)) (Classical.propDecidable _))) H)∧(¬((0:Int)≤x1)→R (.bool false) H)):=by kernel_rfl
theorem vc_clonel(x0:Option Addr) (x0l:Nat) (x0c:Nat) (H:Heap) (R:Value→Heap→Prop):Walk Tryz.prog 89 [] [.slice x0 x0l x0c] H R=((((x0:Option Addr)=none)→R (.slice none 0 0) H)∧(¬((x0:Option Addr)=none)→∀b1 H2,New H b1 [] 5 H2→∃old3 new4:List Value,SRow H2 1 0 (.slice (some ⟨b1,0,none⟩) 0 0) old3∧SRow H2 1 x0l (.slice x0 x0l x0c) new4∧(∀u∈new4,Value.oneCell' u=true)∧(0+x0l)*1≤140737488355328∧(0+x0l≤0→roomOf H2 (some (⟨b1,0,none⟩:Addr)) (0*1) (x0l*1))∧∀a5:Option Addr,∀c6:Nat,∀H7,App H2 1 5 [.int .u8 0] (some (⟨b1,0,none⟩:Addr)) 0 0 old3 new4 x0l a5 c6 H7→R (.slice a5 (0+x0l) c6) H7)):=by kernel_rfl
theorem vc_set(x0:Option Addr) (x0l:Nat) (x0c:Nat) (x1:Int) (H:Heap) (R:Value→Heap→Prop):Walk Tryz.prog 129 [] [.slice x0 x0l x0c,.int .i64 x1] H R=(((8:Int)≠0) ∧∀q1:Int,q1=IntKind.wrap .i64 (Int.tdiv x1 8)→(((q1<(x0l:Int))→(((8:Int)≠0) ∧∀q2:Int,q2=IntKind.wrap .i64 (Int.tdiv x1 8)→(0:Int)≤q2∧q2<(x0l:Int)∧∃b3 o4:Nat,x0=some (⟨b3,o4,none⟩:Addr)∧∃n5,hcell H b3 (o4+(Int.toNat q2))=some (.int .u8 n5)∧(((8:Int)≠0) ∧∀q6:Int,q6=Int.tmod x1 8→(((0:Int)≤q6) ∧∀q7:Int,q7=Int.fdiv n5 (2 ^ (min (Int.toNat q6) (IntKind.bits .u8)))→∀q8:Int,q8=bits .and .u8 q7 1→R (.bool (@decide ((0:Int)<q8) (Classical.propDecidable _))) H))))∧(¬(q1<(x0l:Int))→R (.bool false) H))):=by kernel_rfl
theorem vc_dnew(x0:Int) (H:Heap) (R:Value→Heap→Prop):Walk Tryz.prog 18 [] [.int .i64 x0] H R=((((x0:Int)<8)→R (.tuple #[.pointer none,.int .i64 1]) H)∧(¬((x0:Int)<8)→((((4096:Int)<x0)→R (.tuple #[.pointer none,.int .i64 1]) H)∧(¬((4096:Int)<x0)→∀b1 H2,New H b1 [.slice none 0 0,.slice none 0 0,.slice none 0 0,.int .i64 (-1),.bool false,.int .i64 0] 121 H2→∃I3:Int→Heap→Prop,∃μ4:Int→Heap→Nat,(I3 0 H2) ∧∀n5 H6,I3 n5 H6→(((n5<x0)→∃b7 o8:Nat,(some (⟨b1,0,none⟩:Addr))=some (⟨b7,o8,none⟩:Addr)∧∃a9 l10 c11,hcell H6 b7 o8=some (.slice a9 l10 c11)∧(0:Int)≤128∧(128:Int)≤128∧(1:Int)*128≤281474976710656∧∀b12 H13,New H6 b12 (List.replicate (Int.toNat 128) (.int .u8 0)) 5 H13→isL H13 b7 o8 [.slice a9 l10 c11]∧∀b14 H15,New H13 b14 [.slice (some ⟨b12,0,none⟩) (Int.toNat 128) (Int.toNat 128)] 33 H15→isL H15 b7 o8 [.slice a9 l10 c11]∧∃old16 new17:List Value,SRow H15 1 l10 (.slice a9 l10 c11) old16∧SRow H15 1 1 (.slice (some ⟨b14,0,none⟩) 1 1) new17∧(∀u∈new17,Value.oneCell' u=true)∧(l10+1)*24≤140737488355328∧(l10+1≤c11→roomOf H15 a9 (l10*1) (1*1))∧∀a18:Option Addr,∀c19:Nat,∀H20,App H15 1 33 [.slice none 0 0] a9 l10 c11 old16 new17 1 a18 c19 H20→∃b21 o22:Nat,(some (⟨b1,0,none⟩:Addr))=some (⟨b21,o22,none⟩:Addr)∧Cells H20 b21 o22 1∧∀H23,Puts H20 b21 o22 [.slice a18 (l10+1) c19] H23→In64 (n5+1) ∧(I3 (n5+1) H23)∧μ4 (n5+1) H23<μ4 n5 H6)∧(¬(n5<x0)→∃b24 o25:Nat,(some (⟨b1,0,none⟩:Addr))=some (⟨b24,o25,none⟩:Addr)∧∃a26 l27 c28,hcell H6 b24 o25=some (.slice a26 l27 c28)∧Does Tryz.prog 86 [.slice a26 l27 c28] H6 fun v29 H30=>∃a31 l32 c33,v29=(.slice a31 l32 c33)∧∃b34 o35:Nat,(some (⟨b1,0,none⟩:Addr))=some (⟨b34,o35,none⟩:Addr)∧Cells H30 b34 (o35+1) 1∧∀H36,Puts H30 b34 (o35+1) [.slice a31 l32 c33] H36→R (.tuple #[.pointer (some ⟨b1,0,none⟩),.int .i64 0]) H36)))))):=by kernel_rfl
theorem vc_dflush(x0:Option Addr) (H:Heap) (R:Value→Heap→Prop):Walk Tryz.prog 25 [] [.pointer x0] H R=(Does Tryz.prog 88 [.pointer x0] H fun v1 H2=>∃n3,v1=(.int .i64 n3)∧(((n3≠0)→R (.int .i64 n3) H2)∧(¬(n3≠0)→∃b4 o5:Nat,x0=some (⟨b4,o5,none⟩:Addr)∧∃a6 l7 c8,hcell H2 b4 (o5+1)=some (.slice a6 l7 c8)∧Does Tryz.prog 86 [.slice a6 l7 c8] H2 fun v9 H10=>∃a11 l12 c13,v9=(.slice a11 l12 c13)∧∃b14 o15:Nat,x0=some (⟨b14,o15,none⟩:Addr)∧Cells H10 b14 o15 1∧∀H16,Puts H10 b14 o15 [.slice a11 l12 c13] H16→∃b17 o18:Nat,x0=some (⟨b17,o18,none⟩:Addr)∧Cells H16 b17 (o18+2) 1∧∀H19,Puts H16 b17 (o18+2) [.slice none 0 0] H19→R (.int .i64 0) H19))):=by kernel_rfl
theorem vc_dwrite(x0:Option Addr) (x1:Int) (x2:Option Addr) (x2l:Nat) (x2c:Nat) (H:Heap) (R:Value→Heap→Prop):Walk Tryz.prog 23 [] [.pointer x0,.int .i64 x1,.slice x2 x2l x2c] H R=(Does Tryz.prog 87 [.pointer x0,.int .i64 x1] H fun v1 H2=>∃t3,v1=(.bool t3)∧(((t3=false)→R (.int .i64 1) H2)∧(¬(t3=false)→(((((x2l:Int):Int)≠128)→R (.int .i64 1) H2)∧(¬(((x2l:Int):Int)≠128)→Does Tryz.prog 88 [.pointer x0] H2 fun v4 H5=>∃n6,v4=(.int .i64 n6)∧(((n6≠0)→R (.int .i64 n6) H5)∧(¬(n6≠0)→Does Tryz.prog 89 [.slice x2 x2l x2c] H5 fun v7 H8=>∃a9 l10 c11,v7=(.slice a9 l10 c11)∧∀b12 H13,New H8 b12 [.int .i64 0,.slice none 0 0] 125 H13→Cells H13 b12 0 2∧∀H14,Puts H13 b12 0 [.int .i64 x1,.slice a9 l10 c11] H14→∃b15 o16:Nat,x0=some (⟨b15,o16,none⟩:Addr)∧∃a17 l18 c19,hcell H14 b15 (o16+2)=some (.slice a17 l18 c19)∧∃n20,hcell H14 b12 0=some (.int .i64 n20)∧∃a21 l22 c23,hcell H14 b12 (0+1)=some (.slice a21 l22 c23)∧∀b24 H25,New H14 b24 [.int .i64 n20,.slice a21 l22 c23] 125 H25→isL H25 b15 (o16+2) [.slice a17 l18 c19]∧∃old26 new27:List Value,SRow H25 2 l18 (.slice a17 l18 c19) old26∧SRow H25 2 1 (.slice (some ⟨b24,0,none⟩) 1 1) new27∧(∀u∈new27,Value.oneCell' u=true)∧(l18+1)*32≤140737488355328∧(l18+1≤c19→roomOf H25 a17 (l18*2) (1*2))∧∀a28:Option Addr,∀c29:Nat,∀H30,App H25 2 125 [.int .i64 0,.slice none 0 0] a17 l18 c19 old26 new27 1 a28 c29 H30→∃b31 o32:Nat,x0=some (⟨b31,o32,none⟩:Addr)∧Cells H30 b31 (o32+2) 1∧∀H33,Puts H30 b31 (o32+2) [.slice a28 (l18+1) c29] H33→∃b34 o35:Nat,x0=some (⟨b34,o35,none⟩:Addr)∧∃a36 l37 c38,hcell H33 b34 (o35+1)=some (.slice a36 l37 c38)∧∃a39 l40 c41,hcell H33 b12 (0+1)=some (.slice a39 l40 c41)∧(0:Int)≤x1∧(x1:Int)<(l37:Int)∧∃b42 o43:Nat,a36=some (⟨b42,o43,none⟩:Addr)∧Cells H33 b42 (o43+(Int.toNat x1)) 1∧∀H44,Puts H33 b42 (o43+(Int.toNat x1)) [.slice a39 l40 c41] H44→R (.int .i64 0) H44))))))):=by kernel_rfl
theorem vc_dcrash(x0:Option Addr) (x1:Option Addr) (x1l:Nat) (x1c:Nat) (H:Heap) (R:Value→Heap→Prop):Walk Tryz.prog 49 [(5,[])] [.pointer x0,.slice x1 x1l x1c] H R=(∃b1 o2:Nat,x0=some (⟨b1,o2,none⟩:Addr)∧∃a3 l4 c5,hcell H b1 (o2+2)=some (.slice a3 l4 c5)∧∃I6:Int→Heap→Prop,∃μ7:Int→Heap→Nat,(I6 0 H) ∧∀n8 H9,I6 n8 H9→(((n8<(l4:Int))→∃I10:Heap→Prop,((0:Int)≤n8∧n8<(l4:Int)∧∃b11 o12:Nat,a3=some (⟨b11,o12,none⟩:Addr)∧∃n13,hcell H9 b11 (o12+(Int.toNat n8)*2)=some (.int .i64 n13)∧∃a14 l15 c16,hcell H9 b11 (o12+(Int.toNat n8)*2+1)=some (.slice a14 l15 c16)∧∀b17 H18,New H9 b17 [.int .i64 0,.slice none 0 0] 125 H18→Cells H18 b17 0 2∧∀H19,Puts H18 b17 0 [.int .i64 n13,.slice a14 l15 c16] H19→Does Tryz.prog 129 [.slice x1 x1l x1c,.int .i64 n8] H19 fun v20 H21=>∃t22,v20=(.bool t22)∧((t22=true→∃b23 o24:Nat,x0=some (⟨b23,o24,none⟩:Addr)∧∃a25 l26 c27,hcell H21 b23 o24=some (.slice a25 l26 c27)∧∃n28,hcell H21 b17 0=some (.int .i64 n28)∧∃a29 l30 c31,hcell H21 b17 (0+1)=some (.slice a29 l30 c31)∧(0:Int)≤n28∧n28<(l26:Int)∧∃b32 o33:Nat,a25=some (⟨b32,o33,none⟩:Addr)∧Cells H21 b32 (o33+(Int.toNat n28)) 1∧∀H34,Puts H21 b32 (o33+(Int.toNat n28)) [.slice a29 l30 c31] H34→(I10 H34))∧(t22=false→(I10 H21)))) ∧∀H35,I10 H35→In64 (n8+1) ∧(I6 (n8+1) H35)∧μ7 (n8+1) H35<μ7 n8 H9)∧(¬(n8<(l4:Int))→∃b36 o37:Nat,x0=some (⟨b36,o37,none⟩:Addr)∧∃a38 l39 c40,hcell H9 b36 o37=some (.slice a38 l39 c40)∧Does Tryz.prog 86 [.slice a38 l39 c40] H9 fun v41 H42=>∃a43 l44 c45,v41=(.slice a43 l44 c45)∧∃b46 o47:Nat,x0=some (⟨b46,o47,none⟩:Addr)∧Cells H42 b46 (o47+1) 1∧∀H48,Puts H42 b46 (o47+1) [.slice a43 l44 c45] H48→∃b49 o50:Nat,x0=some (⟨b49,o50,none⟩:Addr)∧Cells H48 b49 (o50+2) 1∧∀H51,Puts H48 b49 (o50+2) [.slice none 0 0] H51→∃b52 o53:Nat,x0=some (⟨b52,o53,none⟩:Addr)∧Cells H51 b52 (o53+4) 1∧∀H54,Puts H51 b52 (o53+4) [.bool false] H54→∃b55 o56:Nat,x0=some (⟨b55,o56,none⟩:Addr)∧Cells H54 b55 (o56+3) 1∧∀H57,Puts H54 b55 (o56+3) [.int .i64 (-1)] H57→R (.tuple #[]) H57))):=by kernel_rfl
theorem vc_dread(x0:Option Addr) (x1:Int) (H:Heap) (R:Value→Heap→Prop):Walk Tryz.prog 59 [] [.pointer x0,.int .i64 x1] H R=(Does Tryz.prog 87 [.pointer x0,.int .i64 x1] H fun v1 H2=>∃t3,v1=(.bool t3)∧(((t3=false)→R (.tuple #[.slice none 0 0,.int .i64 1]) H2)∧(¬(t3=false)→∃b4 o5:Nat,x0=some (⟨b4,o5,none⟩:Addr)∧∃t6,hcell H2 b4 (o5+4)=some (.bool t6)∧((t6=true→R (.tuple #[.slice none 0 0,.int .i64 4]) H2)∧(t6=false→∃b7 o8:Nat,x0=some (⟨b7,o8,none⟩:Addr)∧∃a9 l10 c11,hcell H2 b7 (o8+1)=some (.slice a9 l10 c11)∧(0:Int)≤x1∧(x1:Int)<(l10:Int)∧∃b12 o13:Nat,a9=some (⟨b12,o13,none⟩:Addr)∧∃a14 l15 c16,hcell H2 b12 (o13+(Int.toNat x1))=some (.slice a14 l15 c16)∧Does Tryz.prog 89 [.slice a14 l15 c16] H2 fun v17 H18=>∃a19 l20 c21,v17=(.slice a19 l20 c21)∧R (.tuple #[.slice a19 l20 c21,.int .i64 0]) H18))))):=by kernel_rfl
theorem vc_dblocks(x0:Option Addr) (H:Heap) (R:Value→Heap→Prop):Walk Tryz.prog 114 [] [.pointer x0] H R=(∃b1 o2:Nat,x0=some (⟨b1,o2,none⟩:Addr)∧∃a3 l4 c5,hcell H b1 (o2+1)=some (.slice a3 l4 c5)∧R (.int .i64 (l4:Int)) H):=by kernel_rfl
end Go.Proofs
end
namespace Go.Vc
structure ExtP(M:Nat→Prop) (H H':Heap):Prop where
 size:H.size≤H'.size
 keep:∀k,k<H.size→¬M k→H'[k]?=H[k]?
section
variable {M N:Nat→Prop} {A B C H H':Heap}
theorem Ext.toP{L:List Nat}(h:Ext L H H'):ExtP (fun k=>k∈L) H H':=⟨h.size,h.keep⟩
theorem ExtP.refl(M:Nat→Prop)(H:Heap):ExtP M H H:=⟨Nat.le_refl _,fun _ _ _=>rfl⟩
theorem ExtP.mono(h:ExtP M A B)(hs:∀k,k<A.size→M k→N k):ExtP N A B:=⟨h.size,fun k hk hn=>h.keep k hk fun hm=>hn (hs k hk hm)⟩
theorem Ext.lift{L:List Nat}(h:Ext L A B)(hs:∀k,k<A.size→k∈L→N k):ExtP N A B:=h.toP.mono hs
theorem Ext.anyP(h:Ext [] A B):ExtP N A B:=h.lift (by simp)
theorem ExtP.trans'(h:ExtP M A B)(k:ExtP N B C)(hn:∀i,N i→A.size≤i∨M i):ExtP M A C:=
 ⟨Nat.le_trans h.size k.size,fun i hi hm=>(k.keep i (Nat.lt_of_lt_of_le hi h.size) fun hx=>by
  rcases hn i hx with h'|h'
  ·omega
  ·exact hm h').trans (h.keep i hi hm)⟩
theorem ExtP.trans(h:ExtP M A B)(k:ExtP M B C):ExtP M A C:=h.trans' k fun _=>.inr
theorem Ext.transP(h:Ext [] A B)(k:ExtP M B C)(hn:∀i,M i→A.size≤i):Ext [] A C:=
 ⟨Nat.le_trans h.size k.size,fun i hi _=>(k.keep i (Nat.lt_of_lt_of_le hi h.size) fun hx=>by
  have:=hn i hx;omega).trans (h.keep i hi (by simp))⟩
theorem Blk.extP{b:Nat}{cs:List Value}(h:Blk H b cs)(he:ExtP M H H')(hm:¬M b):Blk H' b cs:=by
 have hlt:=h.lt
 obtain⟨e,h⟩:=h
 exact⟨e,(he.keep b hlt hm).trans h⟩
theorem hcell_extP{b o:Nat}{v:Value}(h:hcell H b o=some v)(he:ExtP M H H')(hm:¬M b):hcell H' b o=some v:=by
 have hlt:=hcell_lt h
 unfold hcell at h ⊢
 rw[he.keep b hlt hm]
 exact h
theorem SRow.extP{size n:Nat}{a:Option Addr}{l c:Nat}{xs:List Value}(h:SRow H size n (.slice a l c) xs)(he:ExtP M H H')(hm:∀k,k∈blkOf a→¬M k):SRow H' size n (.slice a l c) xs:=by
 obtain⟨h1,h2⟩:=h
 refine⟨h1,?_⟩
 cases a with
 | none=>exact h2
 | some ad=>
  obtain⟨h3,h4⟩:=h2
  refine⟨h3,fun j u hj=>?_⟩
  exact hcell_extP (h4 j u hj) he (hm _ (by simp[blkOf]))
theorem Own.extP{size:Nat}{a:Option Addr}{len cap:Nat}{xs:List Value}(h:Own H size a len cap xs)(he:ExtP M H H')(hm:∀k,k∈blkOf a→¬M k):Own H' size a len cap xs:=by
 obtain⟨h1,h2,h3,h4⟩:=h
 refine⟨h1,h2,h3,?_⟩
 rcases h4 with h4|⟨b,tail,rfl,hb,hl⟩
 ·exact .inl h4
 ·exact .inr ⟨b,tail,rfl,hb.extP he (hm b (by simp[blkOf])),hl⟩
end
def grow(F:Nat→Prop)(H H':Heap):Nat→Prop:=fun k=>F k∨(H.size≤k∧k<H'.size)
structure Elem(α:Type) where
 sz:Nat
 pos:0<sz
 ok:Heap→List Value→α→Prop
 fp:List Value→List Nat
 len:∀{H v x},ok H v x→v.length=sz
 one:∀{H v x},ok H v x→∀u∈v,Value.oneCell' u=true
 lt:∀{H v x},ok H v x→∀k∈fp v,k<H.size
 ext:∀{M H H' v x},ok H v x→ExtP M H H'→(∀k∈fp v,¬M k)→ok H' v x
def Seq{α:Type}(E:Elem α)(H:Heap)(G:Nat→Prop)(a:Option Addr)(n c:Nat)(xs:List α):Prop:=
 ∃vs:List (List Value),Own H E.sz a n c vs.flatten∧vs.length=xs.length∧∀(i:Nat) (x:α),xs[i]?=some x→∃v,vs[i]?=some v∧E.ok H v x∧∀k∈E.fp v,G k
section
variable {α:Type} {E:Elem α} {H H1 H2 H':Heap} {G G' M:Nat→Prop} {a a':Option Addr} {n c c':Nat} {xs:List α}
theorem flatten_len{c:Nat}:∀{rows:List (List Value)},(∀r∈rows,r.length=c)→rows.flatten.length=rows.length*c
 | [],_=>by simp
 | r::rows,h=>by
  rw[List.flatten_cons,List.length_append,h r (by simp),flatten_len (fun r hr=>h r (by simp[hr])),List.length_cons,Nat.add_mul]
  omega
theorem Seq.rows(vs:List (List Value))(hl:vs.length=xs.length)(h:∀(i:Nat)(x:α),xs[i]?=some x→∃v,vs[i]?=some v∧E.ok H v x∧∀k∈E.fp v,G k):∀r∈vs,r.length=E.sz:=by
 intro r hr
 obtain⟨i,hi,rfl⟩:=List.mem_iff_getElem.1 hr
 obtain⟨v,h1,h2,_⟩:=h i _ (List.getElem?_eq_getElem (by omega))
 rw[List.getElem?_eq_getElem hi,Option.some.injEq]at h1
 rw[h1]
 exact E.len h2
theorem Seq.num(h:Seq E H G a n c xs):xs.length=n:=by
 obtain⟨vs,h1,h2,h3⟩:=h
 have h4:=flatten_len (Seq.rows vs h2 h3)
 have h5:=h1.1
 rw[h4,h2]at h5
 exact Nat.eq_of_mul_eq_mul_right E.pos h5
theorem Seq.nil(E:Elem α)(H:Heap)(G:Nat→Prop):Seq E H G none 0 0 []:=⟨[],Own.nil _ _,rfl,by simp⟩
theorem Seq.cap(h:Seq E H G a n c xs):n≤c∧c≤maxLen:=by
 obtain⟨vs,h1,h2,h3⟩:=h
 exact⟨h1.2.1,h1.2.2.1⟩
theorem Seq.lt(h:Seq E H G a n c xs):∀k,k∈blkOf a→k<H.size:=by
 obtain⟨vs,h1,h2,h3⟩:=h
 exact h1.lt
theorem Seq.extP(h:Seq E H G a n c xs)(he:ExtP M H H')(h1:∀k,k∈blkOf a→¬M k)(h2:∀k,G k→¬M k):Seq E H' G a n c xs:=by
 obtain⟨vs,g1,g2,g3⟩:=h
 refine⟨vs,g1.extP he h1,g2,fun i x hx=>?_⟩
 obtain⟨v,q1,q2,q3⟩:=g3 i x hx
 exact⟨v,q1,E.ext q2 he (fun k hk=>h2 k (q3 k hk)),q3⟩
theorem Seq.mono(h:Seq E H G a n c xs)(hg:∀k,k<H.size→G k→G' k):Seq E H G' a n c xs:=by
 obtain⟨vs,g1,g2,g3⟩:=h
 refine⟨vs,g1,g2,fun i x hx=>?_⟩
 obtain⟨v,q1,q2,q3⟩:=g3 i x hx
 exact⟨v,q1,q2,fun k hk=>hg k (E.lt q2 k hk) (q3 k hk)⟩
theorem Seq.get(h:Seq E H G a n c xs){i:Nat}{x:α}(hx:xs[i]?=some x) :
  ∃b o v,a=some ⟨b,o,none⟩∧(∀j u,v[j]?=some u→hcell H b (o+i*E.sz+j)=some u)∧E.ok H v x∧∀k∈E.fp v,G k:=by
 obtain⟨vs,g1,g2,g3⟩:=h
 obtain⟨v,q1,q2,q3⟩:=g3 i x hx
 have hrows:=Seq.rows vs g2 g3
 have hv:=E.len q2
 have hpos:=E.pos
 have hcell:∀j u,v[j]?=some u→∃b o,a=some ⟨b,o,none⟩∧hcell H b (o+(i*E.sz+j))=some u:=fun j u hj=>by
  have hlt:=(List.getElem?_eq_some_iff.1 hj).1
  have:=flatten_at hrows q1 (j:=j) (by omega)
  rw[hj]at this
  exact(g1.row n c).at this
 obtain⟨b,o,rfl,_⟩:=hcell 0 _ (List.getElem?_eq_getElem (by omega))
 refine⟨b,o,v,rfl,fun j u hj=>?_,q2,q3⟩
 obtain⟨b',o',e,hc⟩:=hcell j u hj
 cases e
 rw[Nat.add_assoc]
 exact hc
theorem Seq.get1(h:Seq E H G a n c xs)(h1:E.sz=1){i:Nat}{x:α}(hx:xs[i]?=some x) :
  ∃b o u,a=some ⟨b,o,none⟩∧hcell H b (o+i)=some u∧E.ok H [u] x∧∀k∈E.fp [u],G k:=by
 obtain⟨b,o,v,e,hc,q2,q3⟩:=h.get hx
 have hv:=E.len q2
 match v,hv with
 | [u],_=>
  have:=hc 0 u rfl
  rw[h1,Nat.mul_one,Nat.add_zero]at this
  exact⟨b,o,u,e,this,q2,q3⟩
 | [],hv=>simp at hv;omega
 | _::_::_,hv=>simp at hv;omega
theorem flatten_set{c:Nat}:∀{rows:List (List Value)}{i:Nat}{r:List Value},(∀r∈rows,r.length=c)→r.length=c→i<rows.length→splice rows.flatten (i*c) r=(rows.set i r).flatten
 | [],i,r,_,_,h=>by simp at h
 | s::rows,0,r,hl,hr,_=>by
  have:=hl s (by simp)
  rw[List.set_cons_zero,List.flatten_cons,List.flatten_cons,Nat.zero_mul]
  unfold splice
  rw[List.take_zero,List.nil_append,Nat.zero_add,hr,←this,List.drop_left']
  rfl
 | s::rows,i+1,r,hl,hr,h=>by
  have hs:=hl s (by simp)
  have ih:=flatten_set (rows:=rows) (i:=i) (fun r hr=>hl r (by simp[hr])) hr (by simpa using h)
  rw[List.set_cons_succ,List.flatten_cons,List.flatten_cons,←ih]
  unfold splice
  rw[Nat.add_mul,Nat.one_mul,List.take_append,List.take_of_length_le (by omega),show i*c+c - s.length=i*c by omega,List.drop_append,List.drop_of_length_le (by omega),show i*c+c+r.length - s.length=i*c+r.length by omega]
  simp
theorem splice_append_left{xs ys vs:List Value}{o:Nat}(h:o+vs.length≤xs.length):splice (xs++ys) o vs=splice xs o vs++ys:=by
 unfold splice
 rw[List.take_append_of_le_length (by omega),List.drop_append_of_le_length (by omega),List.append_assoc,List.append_assoc,List.append_assoc]
theorem Seq.put(h:Seq E H G a n c xs){i:Nat}(hi:i<n)(hG:∀k,G k→k∉blkOf a) :
  ∃b,a=some ⟨b,0,none⟩∧Cells H b (0+i*E.sz) E.sz∧∀v x H',E.ok H v x→(∀k∈E.fp v,G k)→Puts H b (0+i*E.sz) v H'→Seq E H' G a n c (xs.set i x)∧Ext (blkOf a) H H':=by
 have hnum:=h.num
 obtain⟨vs,g1,g2,g3⟩:=h
 have hrows:=Seq.rows vs g2 g3
 have hfl:=flatten_len hrows
 obtain⟨o1,o2,o3,o4⟩:=g1
 have hmul:i*E.sz+E.sz≤n*E.sz:=by
  have:(i+1)*E.sz≤n*E.sz:=Nat.mul_le_mul_right _ hi
  rw[Nat.add_mul]at this
  omega
 have hpos:=E.pos
 rcases o4 with⟨rfl,rfl⟩|⟨b,tail,rfl,hb,hbl⟩
 ·omega
 ·have hin:0+i*E.sz+E.sz≤(vs.flatten++tail).length:=by rw[List.length_append];omega
  refine⟨b,rfl,hb.cells _ _ hin,fun v x H' hv hf hp=>?_⟩
  have hvl:=E.len hv
  have hb2:=hp.blk hb (by omega)
  have he:Ext (blkOf (some ⟨b,0,none⟩)) H H':=hp.ext
  rw[Nat.zero_add,splice_append_left (by omega),flatten_set hrows hvl (by omega)]at hb2
  have hlen2:(vs.set i v).flatten.length=vs.flatten.length:=by
   rw[flatten_len (c:=E.sz),hfl,List.length_set]
   intro r hr
   rcases List.mem_or_eq_of_mem_set hr with hr|rfl
   ·exact hrows r hr
   ·exact hvl
  refine⟨⟨vs.set i v,⟨by rw[hlen2];exact o1,o2,o3,.inr ⟨b,tail,rfl,hb2,by rw[List.length_append,hlen2,←hbl,List.length_append]⟩⟩,by simp[g2],fun j y hy=>?_⟩,he⟩
  by_cases e:i=j
  ·subst e
   rw[List.getElem?_set_self (by omega),Option.some.injEq]at hy
   subst hy
   exact⟨v,by rw[List.getElem?_set_self (by omega)],E.ext hv he.toP (fun k hk hk'=>hG k (hf k hk) hk'),hf⟩
  ·rw[List.getElem?_set_ne e]at hy
   obtain⟨w,q1,q2,q3⟩:=g3 j y hy
   exact⟨w,by rw[List.getElem?_set_ne e];exact q1,E.ext q2 he.toP (fun k hk hk'=>hG k (q3 k hk) hk'),q3⟩
theorem Seq.put1(h:Seq E H G a n c xs)(h1:E.sz=1){i:Nat}(hi:i<n)(hG:∀k,G k→k∉blkOf a) :
  ∃b,a=some ⟨b,0,none⟩∧Cells H b (0+i) 1∧∀u x H',E.ok H [u] x→(∀k∈E.fp [u],G k)→Puts H b (0+i) [u] H'→Seq E H' G a n c (xs.set i x)∧Ext (blkOf a) H H':=by
 obtain⟨b,e,hc,hp⟩:=h.put hi hG
 rw[h1,Nat.mul_one]at hc hp
 exact⟨b,e,hc,fun u x H'=>hp [u] x H'⟩
theorem Seq.push(h:Seq E H G a n c xs)(hG:∀k,G k→k∉blkOf a){w:Nat}{e e':TypeId}{z v:List Value}{x:α}(hv:E.ok H v x)(hf:∀k∈E.fp v,G k)(hz:z.length=E.sz)(hw:(n+1)*w≤140737488355328)
  {R:Option Addr→Nat→Heap→Prop} (k:∀a' c' H',Seq E H' G a' (n+1) c' (xs++[x])→Ext (blkOf a) H H'→(∀k,k∈blkOf a'→k∈blkOf a∨H.size≤k)→R a' c' H') (b:Nat) (H2:Heap) (hn:New H b v e H2) :
  ∃old news:List Value,SRow H2 E.sz n (.slice a n c) old∧SRow H2 E.sz 1 (.slice (some ⟨b,0,none⟩) 1 1) news∧(∀u∈news,Value.oneCell' u=true)∧(n+1)*w≤140737488355328 ∧
   (n+1≤c→roomOf H2 a (n*E.sz) (1*E.sz))∧∀a' c' H',App H2 E.sz e' z a n c old news 1 a' c' H'→R a' c' H':=by
 obtain⟨vs,g1,g2,g3⟩:=h
 have hx:=hn.ext
 have ho2:=g1.ext hx (by simp)
 have hb:=hn.blk
 have hvl:=E.len hv
 refine⟨vs.flatten,v,ho2.row n c,⟨by omega,.inr rfl,fun j u hj=>?_⟩,E.one hv,hw,fun hle=>ho2.room hle,fun a' c' H' happ=>?_⟩
 ·show hcell H2 b (0+j)=some u
  rw[Nat.zero_add,hb.cell]
  exact hj
 ·obtain⟨q1,q2,q3⟩:=happ.own ho2 (ho2.row n c) (by omega) hz
  have hs:=hn.size
  have hxx:Ext (blkOf a) H H':=hx.any.trans q2
  refine k a' c' H' ⟨vs++[v],by rw[List.flatten_append];simpa using q1,by simp[g2],fun i y hy=>?_⟩ hxx (fun i hi=>by
   rcases q3 i hi with h|h
   ·exact .inl h
   ·exact .inr (by omega))
  have keep:∀{w y},E.ok H w y→(∀k∈E.fp w,G k)→E.ok H' w y:=fun h1 h2=>E.ext h1 hxx.toP (fun k hk hk'=>hG k (h2 k hk) hk')
  by_cases hlt:i<xs.length
  ·rw[List.getElem?_append_left hlt]at hy
   obtain⟨w,r1,r2,r3⟩:=g3 i y hy
   exact⟨w,by rw[List.getElem?_append_left (by omega)];exact r1,keep r2 r3,r3⟩
  ·rw[List.getElem?_append_right (by omega)]at hy
   have e:i - xs.length=0:=by
    have:=(List.getElem?_eq_some_iff.1 hy).1
    simp at this;omega
   rw[e]at hy
   simp only[List.getElem?_cons_zero,Option.some.injEq]at hy
   subst hy
   exact⟨v,by rw[List.getElem?_append_right (by omega),g2,e];rfl,keep hv hf,hf⟩
theorem Seq.copy(h:Seq E H G a n c xs):∃flat,Own H E.sz a n c flat∧(∀u∈flat,Value.oneCell' u=true) ∧
  ∀{M H2 a' c'},Own H2 E.sz a' n c' flat→ExtP M H H2→(∀k,G k→¬M k)→Seq E H2 G a' n c' xs:=by
 obtain⟨vs,g1,g2,g3⟩:=h
 refine⟨vs.flatten,g1,fun u hu=>?_,fun ho hx hm=>⟨vs,ho,g2,fun i x hi=>?_⟩⟩
 ·obtain⟨r,hr,hu⟩:=List.mem_flatten.1 hu
  obtain⟨i,hi,rfl⟩:=List.mem_iff_getElem.1 hr
  obtain⟨v,q1,q2,_⟩:=g3 i _ (List.getElem?_eq_getElem (by omega))
  rw[List.getElem?_eq_getElem hi,Option.some.injEq]at q1
  rw[q1]at hu
  exact E.one q2 u hu
 ·obtain⟨v,q1,q2,q3⟩:=g3 i x hi
  exact⟨v,q1,E.ext q2 hx (fun k hk=>hm k (q3 k hk)),q3⟩
end
end Go.Vc
section
open Go Go.Vc
namespace Go.Vc
abbrev Octs:=List UInt8
def bytesE:Elem Octs where
 sz:=1
 pos:=by decide
 ok H v xs:=∃a n c,v=[.slice a n c]∧SRow H 1 n (.slice a n c) (bytesV xs)∧∀k,k∈blkOf a→k<H.size
 fp v:=match v with|[.slice a _ _]=>blkOf a|_=>[]
 len:=by rintro H v x ⟨a,n,c,rfl,_⟩;rfl
 one:=by rintro H v x ⟨a,n,c,rfl,_⟩ u hu;simp only[List.mem_singleton]at hu;subst hu;rfl
 lt:=by rintro H v x ⟨a,n,c,rfl,_,h⟩;exact h
 ext:=by rintro M H H' v x ⟨a,n,c,rfl,h1,h2⟩ he hm;exact⟨a,n,c,rfl,h1.extP he hm,fun k hk=>Nat.lt_of_lt_of_le (h2 k hk) he.size⟩
def writeE:Elem (Int×Octs) where
 sz:=2
 pos:=by decide
 ok H v x:=∃a n c,v=[.int .i64 x.1,.slice a n c]∧SRow H 1 n (.slice a n c) (bytesV x.2)∧∀k,k∈blkOf a→k<H.size
 fp v:=match v with|[_,.slice a _ _]=>blkOf a|_=>[]
 len:=by rintro H v x ⟨a,n,c,rfl,_⟩;rfl
 one:=by rintro H v x ⟨a,n,c,rfl,_⟩ u hu;simp only[List.mem_cons,List.not_mem_nil,or_false]at hu;rcases hu with rfl|rfl<;>rfl
 lt:=by rintro H v x ⟨a,n,c,rfl,_,h⟩;exact h
 ext:=by rintro M H H' v x ⟨a,n,c,rfl,h1,h2⟩ he hm;exact⟨a,n,c,rfl,h1.extP he hm,fun k hk=>Nat.lt_of_lt_of_le (h2 k hk) he.size⟩
def calm(F:Nat→Prop)(pd:Nat)(ak an ap:Option Addr):Nat→Prop:=fun k=>F k∧k≠pd∧k∉blkOf ak∧k∉blkOf an∧k∉blkOf ap
structure Three(H:Heap) (F:Nat→Prop) (pd:Nat) (cells:List Value) (ak:Option Addr) (ck:Nat) (kept:List Octs) (an:Option Addr) (cn:Nat) (now:List Octs) (ap:Option Addr) (cp:Nat) (pend:List (Int×Octs)):Prop where
 head:Blk H pd cells
 sk:Seq bytesE H (calm F pd ak an ap) ak kept.length ck kept
 sn:Seq bytesE H (calm F pd ak an ap) an now.length cn now
 sp:Seq writeE H (calm F pd ak an ap) ap pend.length cp pend
 fh:F pd
 fk:∀k,k∈blkOf ak→F k
 fn:∀k,k∈blkOf an→F k
 fp:∀k,k∈blkOf ap→F k
 dk:pd∉blkOf ak
 dn:pd∉blkOf an
 dp:pd∉blkOf ap
 kn:∀k,k∈blkOf ak→k∉blkOf an
 kp:∀k,k∈blkOf ak→k∉blkOf ap
 np:∀k,k∈blkOf an→k∉blkOf ap
 lt:∀k,F k→k<H.size
section
variable {H H':Heap} {F F' M:Nat→Prop} {pd:Nat} {cells:List Value} {ak:Option Addr} {ck:Nat} {kept:List Octs} {an:Option Addr} {cn:Nat} {now:List Octs} {ap:Option Addr} {cp:Nat} {pend:List (Int×Octs)}
theorem Three.up(h:Three H F pd cells ak ck kept an cn now ap cp pend)(hF:∀k,F k→F' k)(hlt:∀k,F' k→k<H.size):Three H F' pd cells ak ck kept an cn now ap cp pend:=by
 have hc:∀k,k<H.size→calm F pd ak an ap k→calm F' pd ak an ap k:=fun k _ hk=>⟨hF k hk.1,hk.2⟩
 exact⟨h.head,h.sk.mono hc,h.sn.mono hc,h.sp.mono hc,hF _ h.fh,fun k hk=>hF k (h.fk k hk),fun k hk=>hF k (h.fn k hk),fun k hk=>hF k (h.fp k hk),h.dk,h.dn,h.dp,h.kn,h.kp,h.np,hlt⟩
theorem Three.ext(h:Three H F pd cells ak ck kept an cn now ap cp pend)(he:ExtP M H H')(hm:∀k,F k→¬M k):Three H' F pd cells ak ck kept an cn now ap cp pend:=by
 have hc:∀k,calm F pd ak an ap k→¬M k:=fun k hk=>hm k hk.1
 exact⟨h.head.extP he (hm _ h.fh),h.sk.extP he (fun k hk=>hm k (h.fk k hk)) hc,h.sn.extP he (fun k hk=>hm k (h.fn k hk)) hc,h.sp.extP he (fun k hk=>hm k (h.fp k hk)) hc,h.fh,h.fk,h.fn,h.fp,h.dk,h.dn,h.dp,h.kn,h.kp,h.np,
  fun k hk=>Nat.lt_of_lt_of_le (h.lt k hk) he.size⟩
theorem grow_lt(h:∀k,F k→k<H.size)(hs:H.size≤H'.size):∀k,grow F H H' k→k<H'.size:=by
 rintro k (hk|hk)
 ·have:=h k hk;omega
 ·exact hk.2
theorem Three.grown(h:Three H F pd cells ak ck kept an cn now ap cp pend)(he:ExtP M H H')(hm:∀k,F k→¬M k):Three H' (grow F H H') pd cells ak ck kept an cn now ap cp pend:=
 (h.ext he hm).up (fun _=>.inl) (grow_lt h.lt he.size)
theorem Three.poke(h:Three H F pd cells ak ck kept an cn now ap cp pend){o:Nat}{v:Value}(hp:Puts H pd o [v] H')(ho:o<cells.length):Three H' F pd (cells.set o v) ak ck kept an cn now ap cp pend∧Ext [pd] H H':=by
 have he:=hp.ext
 have hb:=hp.blk h.head (by simp only[List.length_cons,List.length_nil];omega)
 rw[splice_one _ _ _ ho]at hb
 have hc:∀k,calm F pd ak an ap k→k∉[pd]:=fun k hk=>by simpa using hk.2.1
 have hm:∀{a:Option Addr},pd∉blkOf a→∀k,k∈blkOf a→k∉[pd]:=fun h1 k hk hk'=>by
  simp only[List.mem_singleton]at hk'
  subst hk'
  exact h1 hk
 exact⟨⟨hb,h.sk.extP he.toP (hm h.dk) hc,h.sn.extP he.toP (hm h.dn) hc,h.sp.extP he.toP (hm h.dp) hc,h.fh,h.fk,h.fn,h.fp,h.dk,h.dn,h.dp,h.kn,h.kp,h.np,fun k hk=>Nat.lt_of_lt_of_le (h.lt k hk) he.size⟩,he⟩
theorem Three.putK(h:Three H F pd cells ak ck kept an cn now ap cp pend){i:Nat}(hi:i<kept.length) :
  ∃b,ak=some ⟨b,0,none⟩∧Cells H b (0+i) 1∧∀u x H',bytesE.ok H [u] x→(∀k∈bytesE.fp [u],calm F pd ak an ap k)→Puts H b (0+i) [u] H'→Three H' F pd cells ak ck (kept.set i x) an cn now ap cp pend∧Ext (blkOf ak) H H':=by
 obtain⟨b,e,hc,hp⟩:=h.sk.put1 rfl hi (fun k hk=>hk.2.2.1)
 refine⟨b,e,hc,fun u x H' hu hf hput=>?_⟩
 obtain⟨hs,he⟩:=hp u x H' hu hf hput
 refine⟨⟨h.head.extP he.toP h.dk,by rw[List.length_set];exact hs,h.sn.extP he.toP (fun k hk hk'=>h.kn k hk' hk) (fun k hk=>hk.2.2.1),h.sp.extP he.toP (fun k hk hk'=>h.kp k hk' hk) (fun k hk=>hk.2.2.1),h.fh,h.fk,h.fn,h.fp,h.dk,h.dn,h.dp,h.kn,h.kp,h.np,
  fun k hk=>Nat.lt_of_lt_of_le (h.lt k hk) he.size⟩,he⟩
theorem Three.putN(h:Three H F pd cells ak ck kept an cn now ap cp pend){i:Nat}(hi:i<now.length) :
  ∃b,an=some ⟨b,0,none⟩∧Cells H b (0+i) 1∧∀u x H',bytesE.ok H [u] x→(∀k∈bytesE.fp [u],calm F pd ak an ap k)→Puts H b (0+i) [u] H'→Three H' F pd cells ak ck kept an cn (now.set i x) ap cp pend∧Ext (blkOf an) H H':=by
 obtain⟨b,e,hc,hp⟩:=h.sn.put1 rfl hi (fun k hk=>hk.2.2.2.1)
 refine⟨b,e,hc,fun u x H' hu hf hput=>?_⟩
 obtain⟨hs,he⟩:=hp u x H' hu hf hput
 refine⟨⟨h.head.extP he.toP h.dn,h.sk.extP he.toP (fun k hk hk'=>h.kn k hk hk') (fun k hk=>hk.2.2.2.1),by rw[List.length_set];exact hs,h.sp.extP he.toP (fun k hk hk'=>h.np k hk' hk) (fun k hk=>hk.2.2.2.1),h.fh,h.fk,h.fn,h.fp,h.dk,h.dn,h.dp,h.kn,h.kp,h.np,
  fun k hk=>Nat.lt_of_lt_of_le (h.lt k hk) he.size⟩,he⟩
theorem Three.swapK(h:Three H F pd cells ak ck kept an cn now ap cp pend)(he:ExtP M H H')(hM:∀k,M k→k∈blkOf ak){ak':Option Addr}{ck':Nat}{kept':List Octs}
  (hs:Seq bytesE H' (calm F pd ak an ap) ak' kept'.length ck' kept') (hk:∀k,k∈blkOf ak'→k∈blkOf ak∨H.size≤k):Three H' (grow F H H') pd cells ak' ck' kept' an cn now ap cp pend:=by
 have hlt:=hs.lt
 have hc:∀k,k<H'.size→calm F pd ak an ap k→calm (grow F H H') pd ak' an ap k:=fun k _ ⟨c1,c2,c3,c4,c5⟩=>⟨.inl c1,c2,fun hh=>by
  rcases hk k hh with h1|h1
  ·exact c3 h1
  ·have:=h.lt k c1;omega,c4,c5⟩
 have hm:∀k,calm F pd ak an ap k→¬M k:=fun k hk h1=>hk.2.2.1 (hM k h1)
 refine⟨h.head.extP he (fun h1=>h.dk (hM _ h1)),hs.mono hc,(h.sn.extP he (fun k hk' h1=>h.kn k (hM k h1) hk') hm).mono hc,(h.sp.extP he (fun k hk' h1=>h.kp k (hM k h1) hk') hm).mono hc,.inl h.fh,fun k hk'=>?_,fun k hk'=>.inl (h.fn k hk'),fun k hk'=>.inl (h.fp k hk'),fun hk'=>?_,h.dn,h.dp,fun k hk'=>?_,fun k hk'=>?_,h.np,grow_lt h.lt he.size⟩
 ·rcases hk k hk' with h1|h1
  ·exact .inl (h.fk k h1)
  ·exact .inr ⟨h1,hlt k hk'⟩
 ·rcases hk pd hk' with h1|h1
  ·exact h.dk h1
  ·have:=h.lt _ h.fh;omega
 ·rcases hk k hk' with h1|h1
  ·exact h.kn k h1
  ·intro h2;have:=h.lt _ (h.fn k h2);omega
 ·rcases hk k hk' with h1|h1
  ·exact h.kp k h1
  ·intro h2;have:=h.lt _ (h.fp k h2);omega
theorem Three.swapN(h:Three H F pd cells ak ck kept an cn now ap cp pend)(he:ExtP M H H')(hM:∀k,M k→k∈blkOf an){an':Option Addr}{cn':Nat}{now':List Octs}
  (hs:Seq bytesE H' (calm F pd ak an ap) an' now'.length cn' now') (hk:∀k,k∈blkOf an'→k∈blkOf an∨H.size≤k):Three H' (grow F H H') pd cells ak ck kept an' cn' now' ap cp pend:=by
 have hlt:=hs.lt
 have hc:∀k,k<H'.size→calm F pd ak an ap k→calm (grow F H H') pd ak an' ap k:=fun k _ ⟨c1,c2,c3,c4,c5⟩=>⟨.inl c1,c2,c3,fun hh=>by
  rcases hk k hh with h1|h1
  ·exact c4 h1
  ·have:=h.lt k c1;omega,c5⟩
 have hm:∀k,calm F pd ak an ap k→¬M k:=fun k hk h1=>hk.2.2.2.1 (hM k h1)
 refine⟨h.head.extP he (fun h1=>h.dn (hM _ h1)),(h.sk.extP he (fun k hk' h1=>h.kn k hk' (hM k h1)) hm).mono hc,hs.mono hc,(h.sp.extP he (fun k hk' h1=>h.np k (hM k h1) hk') hm).mono hc,.inl h.fh,fun k hk'=>.inl (h.fk k hk'),fun k hk'=>?_,fun k hk'=>.inl (h.fp k hk'),h.dk,fun hk'=>?_,h.dp,fun k hk' h2=>?_,h.kp,fun k hk'=>?_,grow_lt h.lt he.size⟩
 ·rcases hk k hk' with h1|h1
  ·exact .inl (h.fn k h1)
  ·exact .inr ⟨h1,hlt k hk'⟩
 ·rcases hk pd hk' with h1|h1
  ·exact h.dn h1
  ·have:=h.lt _ h.fh;omega
 ·rcases hk k h2 with h1|h1
  ·exact h.kn k hk' h1
  ·have:=h.lt _ (h.fk k hk');omega
 ·rcases hk k hk' with h1|h1
  ·exact h.np k h1
  ·intro h2;have:=h.lt _ (h.fp k h2);omega
theorem Three.swapP(h:Three H F pd cells ak ck kept an cn now ap cp pend)(he:ExtP M H H')(hM:∀k,M k→k∈blkOf ap){ap':Option Addr}{cp':Nat}{pend':List (Int×Octs)}
  (hs:Seq writeE H' (calm F pd ak an ap) ap' pend'.length cp' pend') (hk:∀k,k∈blkOf ap'→k∈blkOf ap∨H.size≤k):Three H' (grow F H H') pd cells ak ck kept an cn now ap' cp' pend':=by
 have hlt:=hs.lt
 have hc:∀k,k<H'.size→calm F pd ak an ap k→calm (grow F H H') pd ak an ap' k:=fun k _ ⟨c1,c2,c3,c4,c5⟩=>⟨.inl c1,c2,c3,c4,fun hh=>by
  rcases hk k hh with h1|h1
  ·exact c5 h1
  ·have:=h.lt k c1;omega⟩
 have hm:∀k,calm F pd ak an ap k→¬M k:=fun k hk h1=>hk.2.2.2.2 (hM k h1)
 refine⟨h.head.extP he (fun h1=>h.dp (hM _ h1)),(h.sk.extP he (fun k hk' h1=>h.kp k hk' (hM k h1)) hm).mono hc,(h.sn.extP he (fun k hk' h1=>h.np k hk' (hM k h1)) hm).mono hc,hs.mono hc,.inl h.fh,fun k hk'=>.inl (h.fk k hk'),fun k hk'=>.inl (h.fn k hk'),fun k hk'=>?_,h.dk,h.dn,fun hk'=>?_,h.kn,fun k hk' h2=>?_,fun k hk' h2=>?_,grow_lt h.lt he.size⟩
 ·rcases hk k hk' with h1|h1
  ·exact .inl (h.fp k h1)
  ·exact .inr ⟨h1,hlt k hk'⟩
 ·rcases hk pd hk' with h1|h1
  ·exact h.dp h1
  ·have:=h.lt _ h.fh;omega
 ·rcases hk k h2 with h1|h1
  ·exact h.kp k hk' h1
  ·have:=h.lt _ (h.fk k hk');omega
 ·rcases hk k h2 with h1|h1
  ·exact h.np k hk' h1
  ·have:=h.lt _ (h.fn k hk');omega
theorem Three.calm_new(h:Three H F pd cells ak ck kept an cn now ap cp pend){k:Nat}(h1:H.size≤k)(h2:k<H'.size):calm (grow F H H') pd ak an ap k:=by
 refine⟨.inr ⟨h1,h2⟩,fun e=>?_,fun e=>?_,fun e=>?_,fun e=>?_⟩
 ·subst e;have:=h.lt _ h.fh;omega
 ·have:=h.lt _ (h.fk k e);omega
 ·have:=h.lt _ (h.fn k e);omega
 ·have:=h.lt _ (h.fp k e);omega
theorem grow_sub{H1:Heap}(hs:H.size≤H1.size)(hs':H1.size≤H'.size):∀k,grow (grow F H H1) H1 H' k→grow F H H' k:=by
 rintro k ((hk|hk)|hk)
 ·exact .inl hk
 ·exact .inr ⟨hk.1,by omega⟩
 ·exact .inr ⟨by omega,hk.2⟩
end
end Go.Vc
end
section
open Go Go.Vc
namespace Go.Proofs
theorem Tryz.mixed:Tryz.prog.follows .mixedOrders=true:=by kernel_rfl
theorem pick_ok(n m:Int)(H:Heap)(hm:0<m)(hm':m≤1000000000000):Does Tryz.prog 22 [.int .i64 n,.int .i64 m] H fun v H'=>v=.int .i64 (n % m)∧H=H':=by
 refine Fn_of_vc Tryz.mixed (vc_pick _ _ _ _) ?_
 refine⟨by omega,?_⟩
 rintro q rfl
 have h1:=Int.tmod_lt_of_pos n hm
 have h2:=Int.lt_tmod_of_pos n hm
 have h3:n.tmod m=if 0≤n∨m ∣ n then n % m else n % m - m:=by
  rw[Int.tmod_eq_emod]
  split<;>simp
  omega
 refine⟨fun hq=>?_,fun hq=>?_⟩
 ·refine⟨⟨by omega,by omega⟩,?_,rfl⟩
  congr 1
  have h4:=Int.emod_nonneg n (show m≠0 by omega)
  split at h3<;>omega
 ·refine⟨?_,rfl⟩
  congr 1
  have h4:=Int.emod_nonneg n (show m≠0 by omega)
  have h5:=Int.emod_lt_of_pos n hm
  split at h3<;>omega
structure Dev where
 kept:List Octs
 pend:List (Int×Octs)
 fuse:Int
 dead:Bool
 works:Int
def laid(kept:List Octs)(pend:List (Int×Octs)):List Octs:=pend.foldl (fun l w=>l.set w.1.toNat w.2) kept
def Dev.now(D:Dev):List Octs:=laid D.kept D.pend
theorem laid_length:∀(pend:List (Int×Octs))(kept:List Octs),(laid kept pend).length=kept.length
 | [],_=>rfl
 | w::r,kept=>by
  have e:laid kept (w::r)=laid (kept.set w.1.toNat w.2) r:=rfl
  rw[e,laid_length r,List.length_set]
theorem laid_size:∀(p:List (Int×Octs))(kp:List Octs),(∀b∈kp,b.length=128)→(∀w∈p,w.2.length=128)→∀b∈laid kp p,b.length=128
 | [],kp,h1,_=>h1
 | w::r,kp,h1,h2=>by
  refine laid_size r (kp.set w.1.toNat w.2) (fun b hb=>?_) (fun x hx=>h2 x (by simp[hx]))
  rcases List.mem_or_eq_of_mem_set hb with hb|rfl
  ·exact h1 b hb
  ·exact h2 w (by simp)
theorem laid_snoc(kept:List Octs)(p:List (Int×Octs))(w:Int×Octs):laid kept (p++[w])=(laid kept p).set w.1.toNat w.2:=by
 unfold laid;rw[List.foldl_append];rfl
structure Dev.Wf(D:Dev) (n B:Nat):Prop where
 len:D.kept.length=n
 few:n≤100000
 size:∀b∈D.kept,b.length=128
 pin:∀w∈D.pend,0≤w.1∧w.1<n∧w.2.length=128
 pfew:D.pend.length≤B
 fuse:-1≤D.fuse∧D.fuse≤9223372036854775807
 works:0≤D.works∧D.works≤B
def IsDev(H:Heap)(F:Nat→Prop)(pd:Nat)(D:Dev):Prop:=∃ak ck an cn ap cp,
 Three H F pd [.slice ak D.kept.length ck,.slice an D.now.length cn,.slice ap D.pend.length cp,.int .i64 D.fuse,.bool D.dead,.int .i64 D.works] ak ck D.kept an cn D.now ap cp D.pend
section
variable {H H':Heap} {F F' M:Nat→Prop} {pd:Nat} {D:Dev}
theorem IsDev.ext(h:IsDev H F pd D)(he:ExtP M H H')(hm:∀k,F k→¬M k):IsDev H' F pd D:=by
 obtain⟨ak,ck,an,cn,ap,cp,h⟩:=h
 exact⟨ak,ck,an,cn,ap,cp,h.ext he hm⟩
theorem IsDev.up(h:IsDev H F pd D)(hF:∀k,F k→F' k)(hlt:∀k,F' k→k<H.size):IsDev H F' pd D:=by
 obtain⟨ak,ck,an,cn,ap,cp,h⟩:=h
 exact⟨ak,ck,an,cn,ap,cp,h.up hF hlt⟩
theorem IsDev.lt(h:IsDev H F pd D):∀k,F k→k<H.size:=by
 obtain⟨ak,ck,an,cn,ap,cp,h⟩:=h
 exact h.lt
end
def wk(D:Dev):Dev×Bool:=if D.fuse=0∨D.dead=true then({D with dead:=true},false)else({D with fuse:=if 0<D.fuse then D.fuse - 1 else D.fuse,works:=D.works+1},true)
theorem wk_kept(D:Dev):(wk D).1.kept=D.kept∧(wk D).1.pend=D.pend:=by
 unfold wk
 split<;>exact⟨rfl,rfl⟩
theorem wk_now(D:Dev):(wk D).1.now=D.now:=by
 unfold Dev.now
 rw[(wk_kept D).1,(wk_kept D).2]
theorem extP_fresh{F:Nat→Prop}{H H':Heap}{L:List Nat}(h:Ext L H H')(hl:∀k,k∈L→F k):ExtP F H H':=h.lift fun k _ hk=>hl k hk
theorem work_ok{H:Heap}{F:Nat→Prop}{pd:Nat}{D:Dev}(h:IsDev H F pd D)(hw:D.works≤1000000000000)(hw0:0≤D.works)(hf:-1≤D.fuse∧D.fuse≤9223372036854775807) :
  Does Tryz.prog 88 [.pointer (some ⟨pd,0,none⟩)] H fun v H'=>v=.int .i64 (if(wk D).2 then 0 else 4)∧IsDev H' F pd (wk D).1∧ExtP F H H':=by
 refine Fn_of_vc Tryz.mixed (vc_work _ _ _) ?_
 obtain⟨ak,ck,an,cn,ap,cp,h⟩:=h
 have he:∀{A B:Heap},Ext [pd] A B→ExtP F A B:=fun hx=>extP_fresh hx (by intro k hk;simp only[List.mem_singleton]at hk;subst hk;exact h.fh)
 have hd:=h.head
 refine⟨_,_,rfl,_,hd.cell 3,fun h1=>?_,fun h1=>?_⟩
 ·have e:wk D=({D with dead:=true},false):=if_pos (.inl h1)
  refine⟨_,_,rfl,hd.cells 1 4 (by simp),fun H6 hp=>?_⟩
  obtain⟨h6,hx6⟩:=h.poke hp (by simp)
  refine⟨_,_,rfl,true,h6.head.cell 4,fun _=>?_,fun e=>(by cases e)⟩
  rw[e]
  exact⟨rfl,⟨ak,ck,an,cn,ap,cp,h6⟩,he hx6⟩
 ·refine⟨_,_,rfl,D.dead,hd.cell 4,fun h2=>?_,fun h2=>?_⟩
  ·have e:wk D=({D with dead:=true},false):=if_pos (.inr h2)
   rw[e]
   refine⟨rfl,⟨ak,ck,an,cn,ap,cp,?_⟩,ExtP.refl _ _⟩
   rw[←h2]
   exact h
  ·have e:wk D=({D with fuse:=if 0<D.fuse then D.fuse - 1 else D.fuse,works:=D.works+1},true):=if_neg (by rintro (h3|h3);exact h1 h3;rw[h2]at h3;cases h3)
   rw[e]
   refine⟨_,_,rfl,_,hd.cell 3,fun h3=>?_,fun h3=>?_⟩
   ·refine⟨_,_,rfl,_,hd.cell 3,⟨by omega,by omega⟩,_,_,rfl,hd.cells 1 3 (by simp),fun H42 hp=>?_⟩
    obtain⟨h42,hx42⟩:=h.poke hp (by simp)
    refine⟨_,_,rfl,D.works,h42.head.cell 5,⟨by omega,by omega⟩,_,_,rfl,h42.head.cells 1 5 (by simp),fun H48 hp2=>?_⟩
    obtain⟨h48,hx48⟩:=h42.poke hp2 (by simp)
    refine⟨rfl,⟨ak,ck,an,cn,ap,cp,?_⟩,(he hx42).trans (he hx48)⟩
    simp only[if_pos h3]
    exact h48
   ·refine⟨_,_,rfl,_,hd.cell 5,⟨by omega,by omega⟩,_,_,rfl,hd.cells 1 5 (by simp),fun H54 hp=>?_⟩
    obtain⟨h54,hx54⟩:=h.poke hp (by simp)
    refine⟨rfl,⟨ak,ck,an,cn,ap,cp,?_⟩,he hx54⟩
    simp only[if_neg h3]
    exact h54
theorem clonell_ok{α:Type}{E:Elem α}(hE:E.sz=1){H:Heap}{G:Nat→Prop}{a:Option Addr}{n c:Nat}{xs:List α}(h:Seq E H G a n c xs)(hl:n≤1000000):Does Tryz.prog 86 [.slice a n c] H fun v H'=>
  ∃a' c',v=.slice a' n c'∧Seq E H' G a' n c' xs∧Ext [] H H'∧(∀k,k∈blkOf a'→H.size≤k):=by
 refine Fn_of_vc Tryz.mixed (vc_clonell _ _ _ _ _) ?_
 have hnum:=h.num
 obtain⟨flat,ho,h1,hc⟩:=h.copy
 rw[hE]at ho hc
 refine⟨fun h0=>?_,fun h0=>?_⟩
 ·subst h0
  have h2:=(ho.row n c).2
  simp only at h2
  have h3:=ho.1
  rw[h2]at h3
  have:n=0:=by simp at h3;omega
  subst this
  have:xs=[]:=List.length_eq_zero_iff.1 hnum
  subst this
  exact⟨none,0,rfl,Seq.nil _ _ _,Ext.refl _ _,fun k hk=>by cases hk⟩
 ·intro b H2 hn
  have hx:=hn.ext
  have ho2:Own H2 1 (some ⟨b,0,none⟩) 0 0 []:=⟨rfl,Nat.le_refl _,by unfold maxLen;omega,.inr ⟨b,[],rfl,hn.blk,rfl⟩⟩
  refine⟨[],flat,ho2.row 0 0,(ho.row n c).ext hx (by simp),h1,by omega,fun hle=>ho2.room (n:=n) hle,?_⟩
  intro a5 c6 H7 happ
  obtain⟨q1,q2,q3⟩:=happ.own ho2 (ho2.row 0 0) (by have:=ho.1;omega) rfl
  simp only[Nat.zero_add,List.nil_append]at q1 ⊢
  have hb:=hn.eq
  have hxx:Ext [] H H7:=hx.trans' q2 (fun i hi=>by simp only[blkOf,List.mem_singleton]at hi;omega)
  refine⟨a5,c6,rfl,hc q1 hxx.toP (by simp),hxx,fun k hk=>?_⟩
  rcases q3 k hk with h4|h4
  ·simp only[blkOf,List.mem_singleton]at h4;omega
  ·have:=hn.size;omega
theorem clonel_ok{H:Heap}{a:Option Addr}{len cap:Nat}{xs:List UInt8}(h:SRow H 1 len (.slice a len cap) (bytesV xs))(hl:len≤1000000):Does Tryz.prog 89 [.slice a len cap] H fun v H'=>
  ∃a' c',v=.slice a' len c'∧Own H' 1 a' len c' (bytesV xs)∧Ext [] H H'∧(∀k,k∈blkOf a'→H.size≤k):=by
 refine Fn_of_vc Tryz.mixed (vc_clonel _ _ _ _ _) ?_
 refine⟨fun h0=>?_,fun h0=>?_⟩
 ·subst h0
  have h2:=h.2
  simp only at h2
  have h1:=h.1
  rw[h2]at h1
  have:len=0:=by simpa using h1.symm
  subst this
  rw[h2]
  exact⟨none,0,rfl,Own.nil _ _,Ext.refl _ _,fun k hk=>by cases hk⟩
 ·intro b H2 hn
  have hx:=hn.ext
  have ho:Own H2 1 (some ⟨b,0,none⟩) 0 0 []:=⟨rfl,Nat.le_refl _,by unfold maxLen;omega,.inr ⟨b,[],rfl,hn.blk,rfl⟩⟩
  refine⟨[],bytesV xs,ho.row 0 0,h.ext hx (by simp),bytesV_one xs,by omega,fun hle=>ho.room (n:=len) hle,?_⟩
  intro a5 c6 H7 happ
  obtain⟨h1,h2,h3⟩:=happ.own ho (ho.row 0 0) h.1 rfl
  simp only[Nat.zero_add,List.nil_append]at h1 ⊢
  have hb:=hn.eq
  refine⟨a5,c6,rfl,h1,hx.trans' h2 (fun i hi=>?_),fun k hk=>?_⟩
  ·simp only[blkOf,List.mem_singleton]at hi;omega
  ·rcases h3 k hk with h4|h4
   ·simp only[blkOf,List.mem_singleton]at h4;omega
   ·have:=hn.size;omega
theorem own_elem{H:Heap}{a:Option Addr}{len cap:Nat}{xs:List UInt8}(h:Own H 1 a len cap (bytesV xs)):bytesE.ok H [.slice a len cap] xs:=⟨a,len,cap,rfl,h.row len cap,h.lt⟩
theorem has_ok{H:Heap}{F:Nat→Prop}{pd:Nat}{D:Dev}(h:IsDev H F pd D)(k:Int) :
  Does Tryz.prog 87 [.pointer (some ⟨pd,0,none⟩),.int .i64 k] H fun v H'=>v=.bool (decide (0≤k∧k<D.kept.length))∧H=H':=by
 refine Fn_of_vc Tryz.mixed (vc_has _ _ _ _) ?_
 obtain⟨ak,ck,an,cn,ap,cp,h⟩:=h
 have e:D.now.length=D.kept.length:=laid_length _ _
 refine⟨fun h0=>⟨_,_,rfl,_,_,_,h.head.cell 1,congrArg _ (dec_eq ?_),rfl⟩,fun h0=>⟨congrArg _ (decide_eq_false ?_).symm,rfl⟩⟩
 ·rw[e];simp[h0]
 ·omega
theorem dread_ok{H:Heap}{F:Nat→Prop}{pd:Nat}{D:Dev}{n B:Nat}(h:IsDev H F pd D)(hw:D.Wf n B)(k:Int) :
  Does Tryz.prog 59 [.pointer (some ⟨pd,0,none⟩),.int .i64 k] H fun v H'=>Ext [] H H' ∧
   ((¬(0≤k∧k<n)∧v=.tuple #[.slice none 0 0,.int .i64 1])∨((0≤k∧k<n)∧D.dead=true∧v=.tuple #[.slice none 0 0,.int .i64 4]) ∨
    ((0≤k∧k<n)∧D.dead=false∧∃a c xs,D.now[k.toNat]?=some xs∧v=.tuple #[.slice a xs.length c,.int .i64 0]∧Own H' 1 a xs.length c (bytesV xs)∧∀i,i∈blkOf a→H.size≤i)):=by
 refine Fn_of_vc Tryz.mixed (vc_dread _ _ _ _) ?_
 have hl:=hw.len
 refine(has_ok h k).mono ?_
 rintro _ _ ⟨rfl,rfl⟩
 rw[hl]
 refine⟨_,rfl,fun h1=>⟨Ext.refl _ _,.inl ⟨by simpa using h1,rfl⟩⟩,fun h1=>?_⟩
 have hk:0≤k∧k<n:=by simpa using h1
 obtain⟨ak,ck,an,cn,ap,cp,h⟩:=h
 have e:D.now.length=n:=by rw[←hl];exact laid_length _ _
 refine⟨_,_,rfl,D.dead,h.head.cell 4,fun h2=>⟨Ext.refl _ _,.inr (.inl ⟨hk,h2,rfl⟩)⟩,fun h2=>?_⟩
 obtain⟨xs,hxs⟩:∃xs,D.now[k.toNat]?=some xs:=⟨_,List.getElem?_eq_getElem (by omega)⟩
 obtain⟨b,o,u,ea,hc,⟨a,m,c,eu,hr,_⟩,_⟩:=h.sn.get1 rfl hxs
 cases eu
 have hm:xs.length=m:=by have:=hr.1;rw[bytesV_length]at this;omega
 have h128:m≤1000000:=by
  have hin:xs∈D.now:=List.mem_of_getElem? hxs
  have:=laid_size D.pend D.kept hw.size (fun w hw'=>(hw.pin w hw').2.2) xs hin
  omega
 refine⟨_,_,rfl,_,_,_,h.head.cell 1,hk.1,by omega,b,o,ea,a,m,c,hc,(clonel_ok hr h128).mono ?_⟩
 rintro _ H18 ⟨a',c',rfl,ho,hx,hf⟩
 refine⟨_,_,_,rfl,hx,.inr (.inr ⟨hk,h2,a',c',xs,hxs,?_,?_,hf⟩)⟩
 ·rw[hm]
 ·rw[hm];exact ho
end Go.Proofs
end
section
open Go Go.Vc
namespace Go.Proofs
theorem take_snoc{α:Type}{l:List α}{j:Nat}{x:α}(h:l[j]?=some x):l.take (j+1)=l.take j++[x]:=by
 rw[List.take_add_one,h];rfl
def KeptB(F:Nat→Prop)(H:Heap)(a:Option Addr)(len cap:Nat)(xs:Octs):Prop:=∀H',ExtP F H H'→SRow H' 1 len (.slice a len cap) (bytesV xs)
theorem KeptB.at_{F:Nat→Prop}{H:Heap}{a:Option Addr}{len cap:Nat}{xs:Octs}(h:KeptB F H a len cap xs):SRow H 1 len (.slice a len cap) (bytesV xs):=h H (ExtP.refl _ _)
theorem KeptB.of{F:Nat→Prop}{H:Heap}{a:Option Addr}{len cap:Nat}{xs:Octs}(h:SRow H 1 len (.slice a len cap) (bytesV xs))(ha:∀i,i∈blkOf a→¬F i):KeptB F H a len cap xs:=fun _ hx=>h.extP hx ha
def zeros:Octs:=List.replicate 128 0
def newD(n:Nat):Dev:=⟨List.replicate n zeros,[],-1,false,0⟩
theorem zerosV:bytesV zeros=List.replicate 128 (.int .u8 0):=by
 unfold bytesV zeros
 rw[List.map_replicate];rfl
def none_:Nat→Prop:=fun _=>False
theorem new_elem{H H':Heap}{b:Nat}(h:New H b (List.replicate 128 (.int .u8 0)) 5 H'):bytesE.ok H' [.slice (some ⟨b,0,none⟩) 128 128] zeros:=
 own_elem (by
  have:=Own.of_new (size:=1) (len:=128) (cap:=128) h.blk (by simp) (Nat.le_refl _) (by unfold maxLen;omega)
  rw[zerosV]
  simpa using this)
theorem three_new{H H2:Heap}{b:Nat}{cells:List Value}{e:TypeId}(h:New H b cells e H2):Three H2 (grow none_ H H2) b cells none 0 [] none 0 [] none 0 []:=
 ⟨h.blk,Seq.nil _ _ _,Seq.nil _ _ _,Seq.nil _ _ _,.inr ⟨by have:=h.eq;omega,h.blk.lt⟩,fun k hk=>(by cases hk),fun k hk=>(by cases hk),fun k hk=>(by cases hk),fun hk=>(by cases hk),fun hk=>(by cases hk),fun hk=>(by cases hk),fun k hk=>(by cases hk),fun k hk=>(by cases hk),fun k hk=>(by cases hk),fun k hk=>by
  rcases hk with hk|hk
  ·exact hk.elim
  ·exact hk.2⟩
theorem grow_low{H H':Heap}:∀k,grow none_ H H' k→H.size≤k∧k<H'.size:=by
 rintro k (hk|hk)
 ·exact hk.elim
 ·exact hk
theorem replicate_snoc{α:Type}(n:Nat)(x:α):List.replicate (n+1) x=List.replicate n x++[x]:=by
 rw[List.replicate_succ']
theorem dnew_ok(n:Int)(H:Heap):Does Tryz.prog 18 [.int .i64 n] H fun v H'=>Ext [] H H'∧((¬(8≤n∧n≤4096)∧v=.tuple #[.pointer none,.int .i64 1]) ∨
  ((8≤n∧n≤4096)∧∃pd,v=.tuple #[.pointer (some ⟨pd,0,none⟩),.int .i64 0]∧IsDev H' (grow none_ H H') pd (newD n.toNat))):=by
 refine Fn_of_vc Tryz.mixed (vc_dnew _ _ _) ?_
 refine⟨fun h1=>⟨Ext.refl _ _,.inl ⟨by omega,rfl⟩⟩,fun h1=>⟨fun h2=>⟨Ext.refl _ _,.inl ⟨by omega,rfl⟩⟩,fun h2=>?_⟩⟩
 intro b1 H2 hn
 have hb1:=hn.eq
 refine⟨fun i H'=>∃(j:Nat) (ak:Option Addr) (ck:Nat),i=j∧j≤n.toNat∧Ext [] H H'∧Three H' (grow none_ H H') b1 [.slice ak j ck,.slice none 0 0,.slice none 0 0,.int .i64 (-1),.bool false,.int .i64 0] ak ck (List.replicate j zeros) none 0 [] none 0 [],fun i _=>n.toNat - i.toNat,
  ⟨0,none,0,rfl,Nat.zero_le _,hn.ext,three_new hn⟩,?_⟩
 rintro _ H6 ⟨j,ak,ck,rfl,hj,hx6,h6⟩
 have hs6:=hx6.size
 have e128:Int.toNat 128=128:=rfl
 refine⟨fun h3=>?_,fun h3=>?_⟩
 ·refine⟨b1,0,rfl,ak,j,ck,h6.head.cell 0,by decide,by decide,by decide,fun b12 H13 hn13=>?_⟩
  rw[e128]at hn13
  have hx13:=hn13.ext
  have h13:=(h6.grown hx13.toP (by simp))
  have hel:=new_elem hn13
  have hb12:=hn13.eq
  have hs13:=hn13.size
  refine⟨⟨h13.head.cell 0,trivial⟩,fun b14 H15 hn15=>⟨⟨(h13.head.ext hn15.ext (by simp)).cell 0,trivial⟩,?_⟩⟩
  have hsk:=h13.sk
  rw[List.length_replicate]at hsk
  refine hsk.push (v:=[.slice (some ⟨b12,0,none⟩) 128 128]) (x:=zeros) (fun k hk=>hk.2.2.1) hel (fun k hk=>?_) rfl (by omega) ?_ b14 H15 hn15
  ·simp only[bytesE,blkOf,List.mem_singleton]at hk
   subst hk
   exact h6.calm_new (by omega) (by omega)
  ·intro a' c' H20 hs20 hx20 hk20
   have h20:=h13.swapK hx20.toP (fun k hk=>hk) (kept':=List.replicate (j+1) zeros) (by rw[List.length_replicate,replicate_snoc];exact hs20) hk20
   refine⟨b1,0,rfl,h20.head.cells 1 0 (by simp),fun H23 hp=>?_⟩
   obtain⟨h23,hx23⟩:=h20.poke hp (by simp)
   have hxx:Ext [] H H23:=((hx6.trans hx13).trans' hx20 (fun i hi=>.inl (grow_low i (h6.fk i hi)).1)).trans' hx23 (fun i hi=>by simp only[List.mem_singleton]at hi;omega)
   ·refine⟨⟨by omega,by omega⟩,⟨j+1,a',c',by omega,by omega,hxx,h23.up (fun k hk=>?_) (fun k hk=>(grow_low k hk).2)⟩,by dsimp only;omega⟩
    have hs20':=hx20.size
    have hs23:=hx23.size
    have:H.size≤k∧k<H20.size:=by
     rcases hk with (hk|hk)|hk
     ·have:=grow_low k hk;omega
     ·omega
     ·omega
    exact .inr ⟨this.1,by omega⟩
 ·have ej:j=n.toNat:=by omega
  subst ej
  have hsk:=h6.sk
  rw[List.length_replicate]at hsk
  refine⟨b1,0,rfl,ak,_,ck,h6.head.cell 0,(clonell_ok rfl hsk (by omega)).mono ?_⟩
  rintro _ H30 ⟨a31,c33,rfl,hs30,hx30,hf30⟩
  have h30:=h6.swapN hx30.toP (by simp) (now':=List.replicate n.toNat zeros) (by rw[List.length_replicate];exact hs30) (fun k hk=>.inr (hf30 k hk))
  refine⟨_,_,_,rfl,b1,0,rfl,h30.head.cells 1 1 (by simp),fun H36 hp=>?_⟩
  obtain⟨h36,hx36⟩:=h30.poke hp (by simp)
  have hs30':=hx30.size
  have hs36:=hx36.size
  refine⟨(hx6.trans hx30).trans' hx36 (fun i hi=>by simp only[List.mem_singleton]at hi;omega),.inr ⟨by omega,b1,rfl,ak,ck,a31,c33,none,0,?_⟩⟩
  have e1:(newD n.toNat).kept.length=n.toNat:=by simp[newD]
  have e2:(newD n.toNat).now=List.replicate n.toNat zeros:=rfl
  rw[e1,e2,List.length_replicate]
  refine h36.up (fun k hk=>?_) (fun k hk=>(grow_low k hk).2)
  rcases hk with hk|hk
  ·have:=grow_low k hk;exact .inr ⟨this.1,by omega⟩
  ·exact .inr ⟨by omega,by omega⟩
end Go.Proofs
end
section
open Go Go.Vc
namespace Go.Proofs
def flushD(D:Dev):Dev×Int:=if(wk D).2 then({(wk D).1 with kept:=D.now,pend:=[]},0)else((wk D).1,4)
theorem wkWf{D:Dev}{n B:Nat}(h:D.Wf n B):(wk D).1.Wf n (B+1):=by
 have hf:=h.fuse
 have hw:=h.works
 have hp:=h.pfew
 unfold wk
 split
 ·exact⟨h.len,h.few,h.size,h.pin,by simp only;omega,hf,⟨hw.1,by simp only;omega⟩⟩
 ·exact⟨h.len,h.few,h.size,h.pin,by simp only;omega,⟨by simp only;split<;>omega,by simp only;split<;>omega⟩,⟨by simp only;omega,by simp only;omega⟩⟩
theorem nowSize{D:Dev}{n B:Nat}(h:D.Wf n B):∀b∈D.now,b.length=128:=laid_size D.pend D.kept h.size fun w hw=>(h.pin w hw).2.2
theorem flushWf{D:Dev}{n B:Nat}(h:D.Wf n B):(flushD D).1.Wf n (B+1):=by
 have h1:=wkWf h
 unfold flushD
 split
 ·exact⟨by simp only[Dev.now,laid_length];exact h.len,h.few,nowSize h,by simp,by simp,h1.fuse,h1.works⟩
 ·exact h1
theorem dflush_ok{H:Heap}{F:Nat→Prop}{pd:Nat}{D:Dev}{n B:Nat}(h:IsDev H F pd D)(hw:D.Wf n B)(hB:B≤1000000000) :
  Does Tryz.prog 25 [.pointer (some ⟨pd,0,none⟩)] H fun v H'=>v=.int .i64 (flushD D).2∧IsDev H' (grow F H H') pd (flushD D).1∧ExtP F H H':=by
 refine Fn_of_vc Tryz.mixed (vc_dflush _ _ _) ?_
 have hwk:=hw.works
 refine(work_ok h (by omega) hwk.1 hw.fuse).mono ?_
 rintro _ H2 ⟨rfl,hd2,hx2⟩
 have hlt:=h.lt
 have hs2:=hx2.size
 refine⟨_,rfl,fun h1=>?_,fun h1=>?_⟩
 ·have e:(wk D).2=false:=by
   cases hh:(wk D).2 with
   | false=>rfl
   | true=>rw[hh]at h1;exact absurd rfl h1
  have e2:flushD D=((wk D).1,4):=by unfold flushD;rw[e];rfl
  rw[e2,e]
  exact⟨rfl,hd2.up (fun _=>.inl) (grow_lt hlt hs2),hx2⟩
 ·have e:(wk D).2=true:=by
   cases hh:(wk D).2 with
   | true=>rfl
   | false=>rw[hh]at h1;exact absurd (show(4:Int)≠0 by decide) h1
  have e2:flushD D=({(wk D).1 with kept:=D.now,pend:=[]},0):=by unfold flushD;rw[e];rfl
  rw[e2]
  obtain⟨ak,ck,an,cn,ap,cp,h2⟩:=hd2
  rw[wk_now D]at h2
  have hnl:D.now.length≤100000:=by rw[show D.now.length=D.kept.length from laid_length _ _,hw.len];exact hw.few
  refine⟨_,_,rfl,_,_,_,h2.head.cell 1,(clonell_ok rfl h2.sn (by omega)).mono ?_⟩
  rintro _ H10 ⟨a11,c13,rfl,hs10,hx10,hf10⟩
  have h10:=h2.swapK hx10.toP (by simp) hs10 (fun k hk=>.inr (hf10 k hk))
  refine⟨_,_,_,rfl,_,_,rfl,h10.head.cells 1 0 (by simp),fun H16 hp=>?_⟩
  obtain⟨h16,hx16⟩:=h10.poke hp (by simp)
  have h16':=h16.swapP (ExtP.refl (fun _=>False) H16) (by simp) (Seq.nil _ _ _) (ap':=none) (cp':=0) (pend':=[]) (fun k hk=>by cases hk)
  refine⟨_,_,rfl,h16'.head.cells 1 2 (by simp),fun H19 hp2=>?_⟩
  obtain⟨h19,hx19⟩:=h16'.poke hp2 (by simp)
  have s10:=hx10.size
  have s16:=hx16.size
  have s19:=hx19.size
  have hpd:=h2.fh
  refine⟨rfl,⟨a11,c13,an,cn,none,0,h19.up (fun k hk=>?_) (grow_lt hlt (by omega))⟩,?_⟩
  ·rcases hk with (hk|hk)|hk
   ·exact .inl hk
   ·exact .inr ⟨by omega,by omega⟩
   ·exact .inr ⟨by omega,by omega⟩
  ·refine((hx2.trans' hx10.toP (by simp)).trans' hx16.toP ?_).trans' hx19.toP ?_<;>(intro i hi;simp only[List.mem_singleton]at hi;subst hi;exact .inr hpd)
def writeD(D:Dev)(n:Nat)(k:Int)(b:Octs):Dev×Int:=
 if ¬(0≤k∧k<n)∨b.length≠128 then(D,1)else if(wk D).2 then({(wk D).1 with pend:=D.pend++[(k,b)]},0)else((wk D).1,4)
theorem writeWf{D:Dev}{n B:Nat}(h:D.Wf n B)(k:Int)(b:Octs):(writeD D n k b).1.Wf n (B+1):=by
 have h1:=wkWf h
 have hp:=h.pfew
 unfold writeD
 split
 ·exact⟨h.len,h.few,h.size,h.pin,by simp only;omega,h.fuse,⟨h.works.1,by have:=h.works.2;simp only;omega⟩⟩
 ·rename_i hk
  split
  ·refine⟨by rw[←h.len];simp only[(wk_kept D).1],h.few,by simp only[(wk_kept D).1];exact h.size,fun w hw=>?_,by simp;omega,h1.fuse,h1.works⟩
   rcases List.mem_append.1 hw with hw|hw
   ·exact h.pin w hw
   ·simp only[List.mem_singleton]at hw
    subst hw
    simp only
    exact⟨by omega,by omega,by omega⟩
  ·exact h1
theorem dwrite_ok{H:Heap}{F:Nat→Prop}{pd:Nat}{D:Dev}{n B:Nat}(h:IsDev H F pd D)(hw:D.Wf n B)(hB:B≤1000000000)(k:Int){a:Option Addr}{len cap:Nat}{xs:Octs}(hs:KeptB F H a len cap xs) :
  Does Tryz.prog 23 [.pointer (some ⟨pd,0,none⟩),.int .i64 k,.slice a len cap] H fun v H'=>v=.int .i64 (writeD D n k xs).2∧IsDev H' (grow F H H') pd (writeD D n k xs).1∧ExtP F H H':=by
 refine Fn_of_vc Tryz.mixed (vc_dwrite _ _ _ _ _ _ _) ?_
 have hl:xs.length=len:=by have:=hs.at_.1;rw[bytesV_length]at this;omega
 have hlt:=h.lt
 have hwl:=hw.len
 refine(has_ok h k).mono ?_
 rintro _ _ ⟨rfl,rfl⟩
 rw[hwl]
 have keep:IsDev H (grow F H H) pd D:=h.up (fun _=>.inl) (grow_lt hlt (Nat.le_refl _))
 refine⟨_,rfl,fun h1=>?_,fun h1=>⟨fun h2=>?_,fun h2=>?_⟩⟩
 ·have h1':¬(0≤k∧k<(n:Int)):=by simpa using h1
  have e:writeD D n k xs=(D,1):=if_pos (.inl h1')
  rw[e]
  exact⟨rfl,keep,ExtP.refl _ _⟩
 ·have e:writeD D n k xs=(D,1):=if_pos (.inr (by omega))
  rw[e]
  exact⟨rfl,keep,ExtP.refl _ _⟩
 have hk:0≤k∧k<n:=by simpa using h1
 have hc:¬(¬(0≤k∧k<(n:Int))∨xs.length≠128):=by omega
 have hwk:=hw.works
 refine(work_ok h (by omega) hwk.1 hw.fuse).mono ?_
 rintro _ H5 ⟨rfl,hd5,hx5⟩
 have hs5:=hx5.size
 refine⟨_,rfl,fun h3=>?_,fun h3=>?_⟩
 ·have e:(wk D).2=false:=by
   cases hh:(wk D).2 with
   | false=>rfl
   | true=>rw[hh]at h3;exact absurd rfl h3
  have e2:writeD D n k xs=((wk D).1,4):=by unfold writeD;rw[if_neg hc,e];rfl
  rw[e2,e]
  exact⟨rfl,hd5.up (fun _=>.inl) (grow_lt hlt hs5),hx5⟩
 have e:(wk D).2=true:=by
  cases hh:(wk D).2 with
  | true=>rfl
  | false=>rw[hh]at h3;exact absurd (show(4:Int)≠0 by decide) h3
 have e2:writeD D n k xs=({(wk D).1 with pend:=D.pend++[(k,xs)]},0):=by unfold writeD;rw[if_neg hc,e];rfl
 rw[e2]
 obtain⟨ak,ck,an,cn,ap,cp,h5⟩:=hd5
 have hp5:=(wk_kept D).2
 have hk5:=(wk_kept D).1
 rw[wk_now D,hk5,hp5]at h5
 refine(clonel_ok (hs _ hx5) (by omega)).mono ?_
 rintro _ H8 ⟨a9,c11,rfl,ho8,hx8,hf8⟩
 refine⟨_,_,_,rfl,fun b12 H13 hn=>⟨hn.blk.cells 2 0 (by simp),fun H14 hput=>?_⟩⟩
 have hn13:=hn.blk
 have hb14:=hput.blk hn13 (by simp)
 have ex14:splice [Value.int .i64 0,.slice none 0 0] 0 [Value.int .i64 k,.slice a9 len c11]=[Value.int .i64 k,.slice a9 len c11]:=rfl
 rw[ex14]at hb14
 have e12:=hn.eq
 have s13:=hn.size
 have s14:=hput.size
 have s8:=hx8.size
 have hx14:Ext [] H5 H14:=(hx8.trans hn.ext).trans' hput.ext (fun i hi=>by simp only[List.mem_singleton]at hi;omega)
 have hx814:Ext [] H8 H14:=hn.ext.trans' hput.ext (fun i hi=>by simp only[List.mem_singleton]at hi;omega)
 have h14:=h5.grown hx14.toP (by simp)
 have ho14:=ho8.ext hx814 (by simp)
 have hf9:∀i,i∈blkOf a9→calm (grow F H5 H14) pd ak an ap i:=fun i hi=>h5.calm_new (hf8 i hi) (by have:=ho14.lt i hi;omega)
 refine⟨_,_,rfl,ap,_,cp,h14.head.cell 2,k,hb14.cell 0,a9,len,c11,hb14.cell 1,fun b24 H25 hn25=>⟨⟨(h14.head.ext hn25.ext (by simp)).cell 2,trivial⟩,?_⟩⟩
 have hpf:=hw.pfew
 refine h14.sp.push (v:=[.int .i64 k,.slice a9 len c11]) (x:=(k,xs)) (fun i hi=>hi.2.2.2.2) ⟨a9,len,c11,rfl,ho14.row _ _,ho14.lt⟩ (fun i hi=>hf9 i hi) rfl (by omega) ?_ b24 H25 hn25
 intro a28 c29 H30 hs30 hx30 hk30
 have h30:=h14.swapP hx30.toP (fun i hi=>hi) (pend':=D.pend++[(k,xs)]) (by rw[List.length_append];exact hs30) hk30
 have hlt14:=h14.lt
 have s30:=hx30.size
 have hb30:=hb14.ext hx30 (fun hi=>by have:=h5.lt _ (h5.fp _ hi);omega)
 refine⟨_,_,rfl,h30.head.cells 1 2 (by simp),fun H33 hp=>?_⟩
 obtain⟨h33,hx33⟩:=h30.poke hp (by simp)
 have hpdlt:=h5.lt _ h5.fh
 have hb33:=hb30.ext hx33 (by simp only[List.mem_singleton];omega)
 have s33:=hx33.size
 have hnow:D.now.length=n:=by rw[←hwl];exact laid_length _ _
 obtain⟨b42,eb,kc,kp⟩:=h33.putN (i:=k.toNat) (by omega)
 refine⟨_,_,rfl,an,_,cn,h33.head.cell 1,a9,len,c11,hb33.cell 1,hk.1,by omega,b42,0,eb,kc,fun H44 hput2=>?_⟩
 have hx1433:ExtP (fun i=>i∈blkOf ap∨i=pd) H14 H33:=(hx30.toP.mono (fun i _ hi=>.inl hi)).trans' hx33.toP (fun i hi=>by simp only[List.mem_singleton]at hi;exact .inr (.inr hi))
 have hel:bytesE.ok H33 [.slice a9 len c11] xs:=own_elem (ho14.extP hx1433 (fun i hi=>by
  have h1:=(hf9 i hi)
  rintro (h2|h2)
  ·exact h1.2.2.2.2 h2
  ·exact h1.2.1 h2))
 obtain⟨h44,hx44⟩:=kp (.slice a9 len c11) xs H44 hel (fun i hi=>by
  have h1:=hf9 i hi
  refine⟨.inl h1.1,h1.2.1,h1.2.2.1,h1.2.2.2.1,fun h2=>?_⟩
  rcases hk30 i h2 with h3|h3
  ·exact h1.2.2.2.2 h3
  ·have:=ho14.lt i hi;omega) hput2
 have s44:=hx44.size
 refine⟨rfl,⟨ak,ck,an,cn,a28,c29,?_⟩,?_⟩
 ·have e3:({(wk D).1 with pend:=D.pend++[(k,xs)]}:Dev).now=D.now.set k.toNat xs:=by
   show laid (wk D).1.kept (D.pend++[(k,xs)])=_
   rw[laid_snoc,hk5];rfl
  rw[e3]
  simp only[hk5,List.length_set,List.length_append]
  refine h44.up (fun i hi=>?_) (grow_lt hlt (by omega))
  rcases hi with (hi|hi)|hi
  ·exact .inl hi
  ·exact .inr ⟨by omega,by omega⟩
  ·exact .inr ⟨by omega,by omega⟩
 ·refine(((hx5.trans' hx14.toP (by simp)).trans' hx30.toP ?_).trans' hx33.toP ?_).trans' hx44.toP ?_
  ·intro i hi;exact .inr (h5.fp i hi)
  ·intro i hi;simp only[List.mem_singleton]at hi;subst hi;exact .inr h5.fh
  ·intro i hi;exact .inr (h5.fn i hi)
end Go.Proofs
end
section
open Go Go.Vc
namespace Go.Proofs
def mbit(ms:Octs)(i:Nat):Bool:=decide (i / 8<ms.length) && (ms.getD (i / 8) 0).toNat.testBit (i % 8)
theorem pos_fin:∀x:Fin 256,∀j:Fin 8,decide ((0:Int)<bits .and .u8 (Int.fdiv (x.val:Int) (2 ^ (min j.val 8))) 1)=Nat.testBit x.val j.val:=by decide +kernel
theorem pos_byte(b:UInt8)(q:Int)(h0:0≤q)(h1:q<8):((0:Int)<bits .and .u8 (Int.fdiv (b.toNat:Int) (2 ^ (min q.toNat (IntKind.bits .u8)))) 1)↔b.toNat.testBit q.toNat=true:=by
 have:=pos_fin ⟨b.toNat,b.toNat_lt⟩ ⟨q.toNat,by omega⟩
 rw[←this]
 simp[IntKind.bits]
theorem set_ok{H:Heap}{a:Option Addr}{len cap:Nat}{ms:Octs}(h:SRow H 1 len (.slice a len cap) (bytesV ms))(i:Nat)(hi:i≤1000000000) :
  Does Tryz.prog 129 [.slice a len cap,.int .i64 i] H fun v H'=>v=.bool (mbit ms i)∧H=H':=by
 refine Fn_of_vc Tryz.mixed (vc_set _ _ _ _ _ _) ?_
 have hl:ms.length=len:=by have:=h.1;rw[bytesV_length]at this;omega
 refine⟨by decide,fun q hq=>?_⟩
 rw[wrap_tdiv (by omega) (by decide) (by omega)]at hq
 refine⟨fun h1=>⟨by decide,fun q2 hq2=>?_⟩,fun h1=>⟨?_,rfl⟩⟩
 ·rw[wrap_tdiv (by omega) (by decide) (by omega)]at hq2
  have e1:q2.toNat=i / 8:=by omega
  obtain⟨b,o,rfl,hc⟩:=h.get (bytesV_get ms (i / 8) (by omega))
  refine⟨by omega,by omega,b,o,rfl,_,by rw[e1];exact hc,by decide,fun q6 hq6=>?_⟩
  rw[tmod_pos (by omega)]at hq6
  refine⟨by omega,?_⟩
  rintro _ rfl _ rfl
  refine⟨dec_bool' ?_,rfl⟩
  rw[pos_byte _ q6 (by omega) (by omega),show q6.toNat=i % 8 by omega,mbit,decide_eq_true (by omega)]
  simp
 ·rw[mbit,decide_eq_false (by omega)];rfl
where
 dec_bool' {p:Prop} {i:Decidable p} {b:Bool} (h:p↔b=true):Value.bool (@decide p i)=.bool b:=congrArg _ (dec_bool h)
def crashL(ms:Octs):List (Int×Octs)→Nat→List Octs→List Octs
 | [],_,kept=>kept
 | w::r,i,kept=>crashL ms r (i+1) (if mbit ms i then kept.set w.1.toNat w.2 else kept)
theorem crashL_snoc(ms:Octs)(w:Int×Octs):∀(l:List (Int×Octs))(i:Nat)(kept:List Octs),crashL ms (l++[w]) i kept=if mbit ms (i+l.length)then(crashL ms l i kept).set w.1.toNat w.2 else crashL ms l i kept
 | [],i,kept=>rfl
 | x::l,i,kept=>by
  rw[List.cons_append,crashL,crashL_snoc ms w l,crashL,List.length_cons,show i+1+l.length=i+(l.length+1)by omega]
theorem crashL_length(ms:Octs):∀(l:List (Int×Octs))(i:Nat)(kept:List Octs),(crashL ms l i kept).length=kept.length
 | [],i,kept=>rfl
 | x::l,i,kept=>by
  rw[crashL,crashL_length ms l]
  split<;>simp
theorem crashL_size(ms:Octs):∀(l:List (Int×Octs))(i:Nat)(kept:List Octs),(∀b∈kept,b.length=128)→(∀w∈l,w.2.length=128)→∀b∈crashL ms l i kept,b.length=128
 | [],i,kept,h1,_=>h1
 | x::l,i,kept,h1,h2=>by
  refine crashL_size ms l _ _ (fun b hb=>?_) (fun w hw=>h2 w (by simp[hw]))
  split at hb
  ·rcases List.mem_or_eq_of_mem_set hb with hb|rfl
   ·exact h1 b hb
   ·exact h2 x (by simp)
  ·exact h1 b hb
def crashD(D:Dev)(ms:Octs):Dev:=⟨crashL ms D.pend 0 D.kept,[],-1,false,D.works⟩
theorem crashWf{D:Dev}{n B:Nat}(h:D.Wf n B)(ms:Octs):(crashD D ms).Wf n B:=
 ⟨by simp only[crashD,crashL_length];exact h.len,h.few,crashL_size ms _ _ _ h.size (fun w hw=>(h.pin w hw).2.2),by simp[crashD],by simp[crashD],⟨by simp[crashD],by simp[crashD]⟩,h.works⟩
theorem dcrash_ok{H:Heap}{F:Nat→Prop}{pd:Nat}{D:Dev}{n B:Nat}(h:IsDev H F pd D)(hw:D.Wf n B)(hB:B≤1000000000){a:Option Addr}{len cap:Nat}{ms:Octs}(hs:KeptB F H a len cap ms) :
  Does Tryz.prog 49 [.pointer (some ⟨pd,0,none⟩),.slice a len cap] H fun v H'=>v=.tuple #[]∧IsDev H' (grow F H H') pd (crashD D ms)∧ExtP F H H':=by
 refine Fn_of_vc Tryz.mixed (vc_dcrash _ _ _ _ _ _) ?_
 have hlt:=h.lt
 obtain⟨ak,ck,an,cn,ap,cp,h⟩:=h
 have hpd:=h.fh
 have hpf:=hw.pfew
 refine⟨_,_,rfl,ap,D.pend.length,cp,h.head.cell 2,fun i H'=>∃j:Nat,i=j∧j≤D.pend.length∧ExtP F H H' ∧
   Three H' (grow F H H') pd [.slice ak D.kept.length ck,.slice an D.now.length cn,.slice ap D.pend.length cp,.int .i64 D.fuse,.bool D.dead,.int .i64 D.works] ak ck (crashL ms (D.pend.take j) 0 D.kept) an cn D.now ap cp D.pend,
  fun i _=>D.pend.length - i.toNat,⟨0,rfl,Nat.zero_le _,ExtP.refl _ _,h.up (fun _=>.inl) (grow_lt hlt (Nat.le_refl _))⟩,?_⟩
 rintro _ H9 ⟨j,rfl,hj,hx9,h9⟩
 have s9:=hx9.size
 refine⟨fun h1=>?_,fun h1=>?_⟩
 ·obtain⟨w,hwj⟩:∃w,D.pend[j]?=some w:=⟨_,List.getElem?_eq_getElem (by omega)⟩
  obtain⟨b11,o12,v,eb,hc,⟨a14,l15,c16,rfl,hr,hlt14⟩,hf⟩:=h9.sp.get hwj
  have hpin:=hw.pin w (List.mem_of_getElem? hwj)
  have hnext:crashL ms (D.pend.take (j+1)) 0 D.kept=if mbit ms j then(crashL ms (D.pend.take j) 0 D.kept).set w.1.toNat w.2 else crashL ms (D.pend.take j) 0 D.kept:=by
   rw[take_snoc hwj,crashL_snoc,Nat.zero_add,List.length_take,Nat.min_eq_left (by omega)]
  refine⟨fun H'=>ExtP F H H'∧Three H' (grow F H H') pd [.slice ak D.kept.length ck,.slice an D.now.length cn,.slice ap D.pend.length cp,.int .i64 D.fuse,.bool D.dead,.int .i64 D.works] ak ck (crashL ms (D.pend.take (j+1)) 0 D.kept) an cn D.now ap cp D.pend,?_,?_⟩
  ·have c0:=hc 0 _ rfl
   have c1:=hc 1 _ rfl
   refine⟨by omega,h1,b11,o12,eb,w.1,c0,a14,l15,c16,c1,fun b17 H18 hn=>⟨hn.blk.cells 2 0 (by simp),fun H19 hput=>?_⟩⟩
   have hb19:=hput.blk hn.blk (by simp)
   have ex19:splice [Value.int .i64 0,.slice none 0 0] 0 [Value.int .i64 w.1,.slice a14 l15 c16]=[Value.int .i64 w.1,.slice a14 l15 c16]:=rfl
   rw[ex19]at hb19
   have e17:=hn.eq
   have s19:H19.size=H9.size+1:=by rw[hput.size,hn.size]
   have hx19:Ext [] H9 H19:=hn.ext.trans' hput.ext (fun i hi=>by simp only[List.mem_singleton]at hi;omega)
   have h19:=h9.grown hx19.toP (by simp)
   have hsub:∀{B:Heap},H19.size≤B.size→∀k,grow (grow F H H9) H9 H19 k→grow F H B k:=by
    rintro B hB k ((hk|hk)|hk)
    ·exact .inl hk
    ·exact .inr ⟨hk.1,by omega⟩
    ·exact .inr ⟨by omega,by omega⟩
   have hxx:ExtP F H H19:=hx9.trans' hx19.toP (by simp)
   refine(set_ok (hs _ hxx) j (by omega)).mono ?_
   rintro _ _ ⟨rfl,rfl⟩
   refine⟨_,rfl,fun hm=>?_,fun hm=>?_⟩
   ·have hklen:w.1.toNat<(crashL ms (D.pend.take j) 0 D.kept).length:=by rw[crashL_length,hw.len];omega
    obtain⟨b32,eb2,kc,kp⟩:=h19.putK hklen
    refine⟨_,_,rfl,ak,_,ck,h19.head.cell 0,w.1,hb19.cell 0,a14,l15,c16,hb19.cell 1,hpin.1,by rw[hw.len];exact hpin.2.1,b32,0,eb2,kc,fun H34 hput2=>?_⟩
    have hel:bytesE.ok H19 [.slice a14 l15 c16] w.2:=⟨a14,l15,c16,rfl,hr.ext hx19 (by simp),fun k hk=>by have:=hlt14 k hk;omega⟩
    obtain⟨h34,hx34⟩:=kp _ _ H34 hel (fun k hk=>by
     have:=hf k hk
     exact⟨.inl this.1,this.2⟩) hput2
    rw[hnext,hm]
    refine⟨hxx.trans' hx34.toP (fun i hi=>.inr (h.fk i hi)),h34.up (hsub hx34.size) (grow_lt hlt (by have:=hx34.size;omega))⟩
   ·rw[hnext,hm]
    exact⟨hxx,h19.up (hsub (Nat.le_refl _)) (grow_lt hlt (by omega))⟩
  ·rintro H35 ⟨hx35,h35⟩
   exact⟨⟨by omega,by omega⟩,⟨j+1,by omega,by omega,hx35,h35⟩,by dsimp only;omega⟩
 ·have ej:j=D.pend.length:=by omega
  subst ej
  rw[List.take_length]at h9
  have hkl:(crashL ms D.pend 0 D.kept).length=D.kept.length:=crashL_length _ _ _ _
  have hfew:=hw.few
  have hsk:=h9.sk
  rw[hkl]at hsk
  refine⟨_,_,rfl,ak,_,ck,h9.head.cell 0,(clonell_ok rfl hsk (by rw[hw.len];omega)).mono ?_⟩
  rintro _ H42 ⟨a43,c45,rfl,hs42,hx42,hf42⟩
  have h42:=h9.swapN hx42.toP (by simp) (now':=crashL ms D.pend 0 D.kept) (by rw[hkl];exact hs42) (fun k hk=>.inr (hf42 k hk))
  refine⟨_,_,_,rfl,_,_,rfl,h42.head.cells 1 1 (by simp),fun H48 hp1=>?_⟩
  obtain⟨h48,hx48⟩:=h42.poke hp1 (by simp)
  have h48':=h48.swapP (ExtP.refl (fun _=>False) H48) (by simp) (Seq.nil _ _ _) (ap':=none) (cp':=0) (pend':=[]) (fun k hk=>by cases hk)
  refine⟨_,_,rfl,h48'.head.cells 1 2 (by simp),fun H51 hp2=>?_⟩
  obtain⟨h51,hx51⟩:=h48'.poke hp2 (by simp)
  refine⟨_,_,rfl,h51.head.cells 1 4 (by simp),fun H54 hp3=>?_⟩
  obtain⟨h54,hx54⟩:=h51.poke hp3 (by simp)
  refine⟨_,_,rfl,h54.head.cells 1 3 (by simp),fun H57 hp4=>?_⟩
  obtain⟨h57,hx57⟩:=h54.poke hp4 (by simp)
  have s42:=hx42.size
  have s48:=hx48.size
  have s51:=hx51.size
  have s54:=hx54.size
  have s57:=hx57.size
  refine⟨rfl,⟨ak,ck,a43,c45,none,0,?_⟩,?_⟩
  ·have e1:(crashD D ms).now=crashL ms D.pend 0 D.kept:=rfl
   have e2:(crashD D ms).kept=crashL ms D.pend 0 D.kept:=rfl
   rw[e1,e2,hkl]
   refine h57.up (fun i hi=>?_) (grow_lt hlt (by omega))
   rcases hi with ((hi|hi)|hi)|hi
   ·exact .inl hi
   ·exact .inr ⟨by omega,by omega⟩
   ·exact .inr ⟨by omega,by omega⟩
   ·exact .inr ⟨by omega,by omega⟩
  ·refine((((hx9.trans' hx42.toP (by simp)).trans' hx48.toP ?_).trans' hx51.toP ?_).trans' hx54.toP ?_).trans' hx57.toP ?_<;>(intro i hi;simp only[List.mem_singleton]at hi;subst hi;exact .inr hpd)
end Go.Proofs
end
section
open Go Go.Vc
namespace Go.Proofs
def OwnO(H:Heap)(a:Option Addr)(n c:Nat)(xs:List Value):Prop:=
 xs.length=n∧n≤c∧((a=none∧c=0)∨∃b o cs,a=some ⟨b,o,none⟩∧Blk H b cs∧o+c≤cs.length∧(cs.drop o).take n=xs)
theorem OwnO.lt{H:Heap}{a:Option Addr}{n c:Nat}{xs:List Value}(h:OwnO H a n c xs):∀k∈blkOf a,k<H.size:=by
 obtain⟨_,_,h|⟨b,o,cs,rfl,hb,_⟩⟩:=h
 ·rw[h.1];intro k hk;cases hk
 ·intro k hk
  simp only[blkOf,List.mem_singleton]at hk
  subst hk;exact hb.lt
theorem OwnO.ext{M:List Nat}{H H':Heap}{a:Option Addr}{n c:Nat}{xs:List Value}(h:OwnO H a n c xs)(he:Ext M H H')(hm:∀k∈blkOf a,k∉M):OwnO H' a n c xs:=by
 obtain⟨h1,h2,h|⟨b,o,cs,rfl,hb,h3,h4⟩⟩:=h
 ·exact⟨h1,h2,.inl h⟩
 ·exact⟨h1,h2,.inr ⟨b,o,cs,rfl,hb.ext he (hm b (by simp[blkOf])),h3,h4⟩⟩
theorem window{cs xs:List Value}{o n j:Nat}(h:(cs.drop o).take n=xs)(hj:j<xs.length):cs[o+j]?=xs[j]?:=by
 subst h
 have hj':j<n:=by simp at hj;omega
 rw[List.getElem?_take_of_lt hj',List.getElem?_drop]
theorem OwnO.row{H:Heap}{a:Option Addr}{n c:Nat}{xs:List Value}(h:OwnO H a n c xs)(l m:Nat):SRow H 1 n (.slice a l m) xs:=by
 obtain⟨h1,h2,⟨rfl,rfl⟩|⟨b,o,cs,rfl,hb,h3,h4⟩⟩:=h
 ·refine⟨by omega,?_⟩
  have:n=0:=by omega
  subst this
  simpa using h1
 ·refine⟨by omega,.inr rfl,fun j u hj=>?_⟩
  show hcell H b (o+j)=some u
  rw[hb.cell,window h4 (List.getElem?_eq_some_iff.1 hj).1]
  exact hj
theorem ext_new{A B C:Heap}{M:List Nat}(h:Ext [] A B)(k:Ext M B C)(hm:∀i∈M,A.size≤i):Ext [] A C:=h.trans' k (fun i hi=>.inl (hm i hi))
theorem wrap_u64(n:Int):IntKind.wrap .u64 n=n % 18446744073709551616:=by
 simp only[IntKind.wrap,IntKind.bits,IntKind.signed]
 simp
theorem wrap_u8(n:Int):IntKind.wrap .u8 n=n % 256:=by
 simp only[IntKind.wrap,IntKind.bits,IntKind.signed]
 simp
theorem of_nat(n:Nat)(h:n<18446744073709551616):(BitVec.ofInt 64 (n:Int)).toNat=n:=by
 rw[BitVec.toNat_ofInt]
 show((n:Int) % 18446744073709551616).toNat=n
 omega
theorem or_low(n m:Nat)(h:n*256<18446744073709551616)(hm:m<256):bits .or .u64 ((n:Int)*256) m=(n:Int)*256+m:=by
 unfold bits
 show IntKind.wrap .u64 ((BitVec.ofInt 64 ((n:Int)*256) ||| BitVec.ofInt 64 (m:Int)).toNat:Int)=_
 have e:((n:Int)*256)=((n*256:Nat):Int):=by omega
 rw[e,BitVec.toNat_or,of_nat _ h,of_nat _ (by omega),wrap_u64]
 have:=Nat.two_pow_add_eq_or_of_lt (i:=8) (b:=m) hm n
 rw[show n*256=2 ^ 8*n by omega,←this]
 omega
def u8s(l:List Int):List Value:=l.map fun z=>.int .u8 z
theorem u8s_length(l:List Int):(u8s l).length=l.length:=by simp[u8s]
theorem u8s_append(l m:List Int):u8s (l++m)=u8s l++u8s m:=by simp[u8s]
theorem u8s_one(l:List Int):∀u∈u8s l,Value.oneCell' u=true:=by
 intro u hu
 obtain⟨z,_,rfl⟩:=List.mem_map.1 hu
 rfl
theorem u8s_at{l:List Int}{j:Nat}{z:Int}(h:l[j]?=some z):(u8s l)[j]?=some (.int .u8 z):=by simp[u8s,h]
theorem u8s_take(l:List Int)(k:Nat):u8s (l.take k)=(u8s l).take k:=by simp[u8s]
theorem u8s_drop(l:List Int)(k:Nat):u8s (l.drop k)=(u8s l).drop k:=by simp[u8s]
def beL:Nat→Int→List Int
 | 0,_=>[]
 | n+1,v=>(v / 256 ^ n % 256)::beL n v
theorem beL_length:∀(n:Nat)(v:Int),(beL n v).length=n
 | 0,_=>rfl
 | n+1,v=>by simp[beL,beL_length n v]
def WIs(G:Nat→Prop)(H:Heap)(b:Nat)(bs:List Int):Prop:=
 G b∧∃a c,Blk H b [.slice a bs.length c]∧Own H 1 a bs.length c (u8s bs)∧b∉blkOf a∧∀k∈blkOf a,G k
theorem WIs.lt{G:Nat→Prop}{H:Heap}{b:Nat}{bs:List Int}(h:WIs G H b bs):b<H.size:=by
 obtain⟨_,a,c,h1,_⟩:=h;exact h1.lt
theorem WIs.mono{G G':Nat→Prop}{H:Heap}{b:Nat}{bs:List Int}(h:WIs G H b bs)(hg:∀k,k<H.size→G k→G' k):WIs G' H b bs:=by
 have hlt:=h.lt
 obtain⟨h0,a,c,h1,h2,h3,h4⟩:=h
 exact⟨hg b hlt h0,a,c,h1,h2,h3,fun k hk=>hg k (h2.lt k hk) (h4 k hk)⟩
theorem WIs.extP{G M:Nat→Prop}{H H':Heap}{b:Nat}{bs:List Int}(h:WIs G H b bs)(he:ExtP M H H')(hm:∀k,G k→¬M k):WIs G H' b bs:=by
 obtain⟨h0,a,c,h1,h2,h3,h4⟩:=h
 exact⟨h0,a,c,h1.extP he (hm b h0),h2.extP he (fun k hk=>hm k (h4 k hk)),h3,h4⟩
theorem WIs.ext{G:Nat→Prop}{H H':Heap}{b:Nat}{bs:List Int}(h:WIs G H b bs)(he:Ext [] H H'):WIs G H' b bs:=by
 obtain⟨h0,a,c,h1,h2,h3,h4⟩:=h
 exact⟨h0,a,c,h1.ext he (by simp),h2.ext he (by simp),h3,h4⟩
theorem nw_ok(H:Heap):Does Tryz.prog 179 [] H fun v H'=>v=.pointer (some ⟨H.size,0,none⟩)∧WIs (fun k=>H.size≤k) H' H.size []∧Ext [] H H':=by
 refine Fn_of_vc Tryz.mixed (vc_nw _ _) ?_
 intro b H2 hn
 have:=hn.eq
 subst this
 exact⟨rfl,⟨Nat.le_refl _,none,0,hn.blk,Own.nil _ _,by simp[blkOf],by simp[blkOf]⟩,hn.ext⟩
theorem pow8(k:Nat):(2:Int) ^ (8*k)=256 ^ k:=by
 rw[Int.pow_mul];rfl
theorem put_ok{G:Nat→Prop}{b:Nat}{bs:List Int}{x:Int}{n:Nat}{H:Heap}(hG:∀k,H.size≤k→G k)(hn:n≤8)(hl:bs.length≤1000000)(h:WIs G H b bs) :
  Does Tryz.prog 206 [.pointer (some ⟨b,0,none⟩),.int .u64 x,.int .i64 n] H fun v H'=>v=.tuple #[]∧WIs G H' b (bs++beL n x)∧ExtP G H H':=by
 refine Fn_of_vc Tryz.mixed (vc_put _ _ _ _ _) ?_
 refine⟨⟨by omega,by omega⟩,fun i H'=>∃(j:Nat) (d:List Int),i=(j:Int) - 1∧j≤n∧WIs G H' b d∧d++beL j x=bs++beL n x∧ExtP G H H',fun i _=>(i+1).toNat,⟨n,bs,rfl,Nat.le_refl _,h,rfl,ExtP.refl _ _⟩,?_⟩
 rintro _ H4 ⟨j,d,rfl,hj,hw,hd,hx4⟩
 refine⟨fun h0=>?_,fun h0=>?_⟩
 ·obtain⟨k,rfl⟩:∃k,j=k+1:=⟨j - 1,by omega⟩
  have hdl:d.length≤1000008:=by
   have:=congrArg List.length hd
   simp only[List.length_append,beL_length]at this
   omega
  have hblt:=hw.lt
  obtain⟨g0,a,c,hb,ho,hnb,hg⟩:=hw
  have ek:(8*(((k+1:Nat):Int) - 1))=((8*k:Nat):Int):=by omega
  refine⟨b,0,rfl,a,_,c,by rw[hb.cell];rfl,⟨by omega,by omega⟩,by omega,?_⟩
  rintro _ rfl _ rfl b12 H13 hn13
  have hq:IntKind.wrap .u8 (Int.fdiv x (2 ^ (min (Int.toNat (8*(((k+1:Nat):Int) - 1))) (IntKind.bits .u64))))=x / 256 ^ k % 256:=by
   rw[ek,Int.toNat_natCast,show min (8*k) (IntKind.bits .u64)=8*k from Nat.min_eq_left (by show 8*k≤64;omega),pow8,wrap_u8,Int.fdiv_eq_ediv_of_nonneg _ (Int.pow_nonneg (by decide))]
  rw[hq]at hn13
  have ho13:=ho.ext hn13.ext (by simp)
  have hb13:=hb.ext hn13.ext (by simp)
  refine⟨⟨by rw[hb13.cell];rfl,trivial⟩,u8s d,[.int .u8 (x / 256 ^ k % 256)],ho13.row _ _,⟨rfl,.inr rfl,fun i u hi=>?_⟩,u8s_one [x / 256 ^ k % 256],by omega,fun hle=>by simpa using ho13.room (n:=1) hle,?_⟩
  ·show hcell H13 b12 (0+i)=some u
   rw[Nat.zero_add,hn13.blk.cell];exact hi
  intro a16 c17 H18 happ
  obtain⟨ho18,hx18,hfr18⟩:=happ.own ho13 (ho13.row _ _) rfl rfl
  have hb18:=hb13.ext hx18 hnb
  refine⟨b,0,rfl,hb18.cells _ _ (by simp),fun H21 hp=>?_⟩
  have hb21:=hp.blk hb18 (by simp)
  have hs13:=hn13.size
  have hs18:=hx18.size
  have hnb16:b∉blkOf a16:=by
   intro hm
   rcases hfr18 b hm with h'|h'
   ·exact hnb h'
   ·omega
  have ho21:=ho18.ext hp.ext (fun k hk hm=>by simp only[List.mem_singleton]at hm;subst hm;exact hnb16 hk)
  have hx21:ExtP G H4 H21:=(hn13.ext.anyP.trans (hx18.lift (fun k _ hk=>hg k hk))).trans (hp.ext.lift (fun k _ hk=>by simp only[List.mem_singleton]at hk;subst hk;exact g0))
  have hs4:=hx4.size
  refine⟨⟨by omega,by omega⟩,⟨k,d++[x / 256 ^ k % 256],by omega,by omega,⟨g0,a16,c17,?_,?_,hnb16,?_⟩,?_,hx4.trans hx21⟩,by simp only[];omega⟩
  ·simpa[splice]using hb21
  ·rw[u8s_append,List.length_append];exact ho21
  ·intro k' hk'
   rcases hfr18 k' hk' with h'|h'
   ·exact hg k' h'
   ·exact hG k' (by omega)
  ·rw[←hd,List.append_assoc];rfl
 ·have:j=0:=by omega
  subst this
  have e:d=bs++beL n x:=by rw[←hd];simp[beL]
  subst e
  exact⟨rfl,hw,hx4⟩
theorem wu_ok{G:Nat→Prop}{f n:Nat}{b:Nat}{bs:List Int}{x:Int}{H:Heap}(hf:(f=180∧n=2)∨(f=204∧n=4))(hG:∀k,H.size≤k→G k)(hl:bs.length≤1000000)(h:WIs G H b bs) :
  Does Tryz.prog f [.pointer (some ⟨b,0,none⟩),.int .i64 x] H fun v H'=>v=.tuple #[]∧WIs G H' b (bs++beL n (IntKind.wrap .u64 x))∧ExtP G H H':=by
 rcases hf with⟨rfl,rfl⟩|⟨rfl,rfl⟩
 ·refine Fn_of_vc Tryz.mixed (vc_wu16 _ _ _ _) ?_
  rintro _ rfl
  refine(put_ok (n:=2) hG (by omega) hl h).mono ?_
  rintro _ _ ⟨rfl,h1,h2⟩
  exact⟨rfl,rfl,h1,h2⟩
 ·refine Fn_of_vc Tryz.mixed (vc_wu32 _ _ _ _) ?_
  rintro _ rfl
  refine(put_ok (n:=4) hG (by omega) hl h).mono ?_
  rintro _ _ ⟨rfl,h1,h2⟩
  exact⟨rfl,rfl,h1,h2⟩
def Told(H:Heap)(H':Heap)(v:Value)(bs:List Int):Prop:=
 ∃a c,v=.slice a bs.length c∧Own H' 1 a bs.length c (u8s bs)∧∀k∈blkOf a,H.size≤k
theorem fresh_copy{bs:List Int}{H H2 H12:Heap}{b1 l:Nat}{a10:Option Addr}{c11:Nat}(hn:New H b1 [] 5 H2)(hl:bs.length=l)(happ:App H2 1 5 [(.int .u8 0)] (some ⟨b1,0,none⟩) 0 0 [] (u8s bs) l a10 c11 H12) :
  Own H12 1 a10 (0+l) c11 (u8s bs)∧Ext [] H H12∧∀k∈blkOf a10,H.size≤k:=by
 have ho:Own H2 1 (some ⟨b1,0,none⟩) 0 0 ([]:List Value):=Own.of_new (size:=1) (len:=0) (cap:=0) hn.blk rfl (Nat.le_refl _) (by decide)
 obtain⟨h1,h2,h3⟩:=happ.own ho (ho.row _ _) (by rw[u8s_length];omega) rfl
 have:=hn.eq
 have:=hn.size
 refine⟨by simpa using h1,ext_new hn.ext h2 (fun k hk=>by simp only[blkOf,List.mem_singleton]at hk;omega),fun k hk=>?_⟩
 rcases h3 k hk with h'|h'
 ·simp only[blkOf,List.mem_singleton]at h';omega
 ·omega
theorem bytes_ok{G:Nat→Prop}{b:Nat}{bs:List Int}{H:Heap}(hl:bs.length≤1000000)(h:WIs G H b bs) :
  Does Tryz.prog 181 [.pointer (some ⟨b,0,none⟩)] H fun v H'=>Told H H' v bs∧Ext [] H H':=by
 refine Fn_of_vc Tryz.mixed (vc_bytes _ _ _) ?_
 intro b1 H2 hn
 obtain⟨g0,a,c,hb,ho,hnb,hg⟩:=h
 have hb2:=hb.ext hn.ext (by simp)
 have ho2:=ho.ext hn.ext (by simp)
 have hoe:Own H2 1 (some ⟨b1,0,none⟩) 0 0 ([]:List Value):=Own.of_new (size:=1) (len:=0) (cap:=0) hn.blk rfl (Nat.le_refl _) (by decide)
 refine⟨b,0,rfl,a,_,c,by rw[hb2.cell];rfl,[],u8s bs,hoe.row _ _,ho2.row _ _,u8s_one _,by omega,fun hle=>hoe.room (n:=bs.length) hle,fun a10 c11 H12 happ=>?_⟩
 obtain⟨h1,h2,h3⟩:=fresh_copy hn rfl happ
 rw[Nat.zero_add]at h1 ⊢
 exact⟨⟨_,_,rfl,h1,h3⟩,h2⟩
def be(l:List Int):Int:=l.foldl (fun v c=>v*256+c) 0
def Byt(l:List Int):Prop:=∀z∈l,0≤z∧z<256
theorem pow256{j k:Nat}(h:j≤k):(256:Int) ^ j≤256 ^ k:=by
 obtain⟨d,rfl⟩:∃d,k=j+d:=⟨k - j,by omega⟩
 clear h
 induction d with
 | zero=>exact Int.le_refl _
 | succ d ih=>
  have:=Int.pow_pos (n:=256) (m:=j+d) (by decide)
  rw[←Nat.add_assoc,Int.pow_succ]
  omega
theorem be_snoc(l:List Int)(z:Int):be (l++[z])=be l*256+z:=by simp[be]
theorem be_lt{l:List Int}(h:Byt l):0≤be l∧be l<256 ^ l.length:=by
 have key:∀(m:List Int) (v:Int) (k:Nat),Byt m→0≤v→v<256 ^ k→0≤m.foldl (fun v c=>v*256+c) v∧m.foldl (fun v c=>v*256+c) v<256 ^ (k+m.length):=by
  intro m
  induction m with
  | nil=>intro v k _ h0 h1;exact⟨h0,h1⟩
  | cons z r ih=>
   intro v k hb h0 h1
   have hz:=hb z (by simp)
   have:=ih (v*256+z) (k+1) (fun y hy=>hb y (by simp[hy])) (by omega) (by rw[Int.pow_succ];omega)
   simpa[List.length_cons,Nat.add_assoc,Nat.add_comm 1]using this
 have:=key l 0 0 h (by decide) (by decide)
 rw[Nat.zero_add]at this
 exact this
theorem Byt.take{l:List Int}(h:Byt l)(k:Nat):Byt (l.take k):=fun z hz=>h z (List.mem_of_mem_take hz)
theorem Byt.drop{l:List Int}(h:Byt l)(k:Nat):Byt (l.drop k):=fun z hz=>h z (List.mem_of_mem_drop hz)
theorem SRow.take1{H:Heap}{n:Nat}{a:Option Addr}{l c l' c':Nat}{xs:List Value}(h:SRow H 1 n (.slice a l c) xs){k:Nat}(hk:k≤n):SRow H 1 k (.slice a l' c') (xs.take k):=by
 obtain⟨h1,h2⟩:=h
 refine⟨by rw[List.length_take];omega,?_⟩
 cases a with
 | none=>simp only at h2 ⊢;rw[h2];simp
 | some ad=>
  obtain⟨h3,h4⟩:=h2
  refine⟨?_,fun j u hj=>?_⟩
  ·rcases h3 with rfl|h3
   ·exact .inl (by simp)
   ·exact .inr h3
  ·have hjl:j<k:=by have:=(List.getElem?_eq_some_iff.1 hj).1;simp at this;omega
   rw[List.getElem?_take_of_lt hjl]at hj
   exact h4 j u hj
theorem OwnO.drop{H:Heap}{a:Option Addr}{n c k:Nat}{xs:List Value}(h:OwnO H a n c xs)(hk:k≤n):OwnO H (if c=k then a else Option.map (fun x=>Addr.add x (k*1)) a) (n - k) (c - k) (xs.drop k):=by
 obtain⟨h1,h2,⟨rfl,rfl⟩|⟨b,o,cs,rfl,hb,h3,h4⟩⟩:=h
 ·refine⟨by simp;omega,by omega,.inl ⟨by split<;>rfl,by omega⟩⟩
 ·refine⟨by simp;omega,by omega,.inr ?_⟩
  by_cases hc:c=k
  ·rw[if_pos hc]
   refine⟨b,o,cs,rfl,hb,by omega,?_⟩
   have:n - k=0:=by omega
   rw[this,List.take_zero];exact(List.drop_eq_nil_of_le (by omega)).symm
  ·rw[if_neg hc]
   refine⟨b,o+k,cs,by rw[Nat.mul_one];exact congrArg some (add_none b o k),hb,by omega,?_⟩
   rw[←h4,List.drop_take,List.drop_drop]
theorem Own.ownO{H:Heap}{a:Option Addr}{n c:Nat}{xs:List Value}(h:Own H 1 a n c xs):OwnO H a n c xs:=by
 obtain⟨h1,h2,h3,⟨rfl,rfl⟩|⟨b,tail,rfl,hb,hl⟩⟩:=h
 ·exact⟨by omega,h2,.inl ⟨rfl,rfl⟩⟩
 ·refine⟨by omega,h2,.inr ⟨b,0,_,rfl,hb,by omega,?_⟩⟩
  rw[List.drop_zero,List.take_append_of_le_length (by omega),List.take_of_length_le (by omega)]
theorem OwnO.extP{M:Nat→Prop}{H H':Heap}{a:Option Addr}{n c:Nat}{xs:List Value}(h:OwnO H a n c xs)(he:ExtP M H H')(hm:∀k∈blkOf a,¬M k):OwnO H' a n c xs:=by
 obtain⟨h1,h2,h|⟨b,o,cs,rfl,hb,h3,h4⟩⟩:=h
 ·exact⟨h1,h2,.inl h⟩
 ·exact⟨h1,h2,.inr ⟨b,o,cs,rfl,hb.extP he (hm b (by simp[blkOf])),h3,h4⟩⟩
def RIs(G:Nat→Prop)(H:Heap)(b:Nat)(s:List Int×Bool):Prop:=
 G b∧Byt s.1∧∃a c,Blk H b [.slice a s.1.length c,.bool s.2]∧OwnO H a s.1.length c (u8s s.1)∧b∉blkOf a∧∀k∈blkOf a,G k
theorem RIs.lt{G:Nat→Prop}{H:Heap}{b:Nat}{s:List Int×Bool}(h:RIs G H b s):b<H.size:=by
 obtain⟨_,_,a,c,h1,_⟩:=h;exact h1.lt
theorem RIs.mono{G G':Nat→Prop}{H:Heap}{b:Nat}{s:List Int×Bool}(h:RIs G H b s)(hg:∀k,k<H.size→G k→G' k):RIs G' H b s:=by
 have hlt:=h.lt
 obtain⟨h0,hb,a,c,h1,h2,h3,h4⟩:=h
 exact⟨hg b hlt h0,hb,a,c,h1,h2,h3,fun k hk=>hg k (h2.lt k hk) (h4 k hk)⟩
theorem RIs.extP{G M:Nat→Prop}{H H':Heap}{b:Nat}{s:List Int×Bool}(h:RIs G H b s)(he:ExtP M H H')(hm:∀k,G k→¬M k):RIs G H' b s:=by
 obtain⟨h0,hb,a,c,h1,h2,h3,h4⟩:=h
 exact⟨h0,hb,a,c,h1.extP he (hm b h0),h2.extP he (fun k hk=>hm k (h4 k hk)),h3,h4⟩
theorem RIs.ext{G:Nat→Prop}{H H':Heap}{b:Nat}{s:List Int×Bool}(h:RIs G H b s)(he:Ext [] H H'):RIs G H' b s:=by
 obtain⟨h0,hb,a,c,h1,h2,h3,h4⟩:=h
 exact⟨h0,hb,a,c,h1.ext he (by simp),h2.ext he (by simp),h3,h4⟩
theorem nr_ok{bs:List Int}{a:Option Addr}{c:Nat}{H:Heap}(hB:Byt bs)(hl:bs.length≤140737488355328)(h:SRow H 1 bs.length (.slice a bs.length c) (u8s bs)) :
  Does Tryz.prog 148 [.slice a bs.length c] H fun v H'=>∃b,v=.pointer (some ⟨b,0,none⟩)∧RIs (fun k=>H.size≤k) H' b (bs,false)∧Ext [] H H':=by
 refine Fn_of_vc Tryz.mixed (vc_nr _ _ _ _ _) ?_
 intro b1 H2 hn
 have hoe:Own H2 1 (some ⟨b1,0,none⟩) 0 0 ([]:List Value):=Own.of_new (size:=1) (len:=0) (cap:=0) hn.blk rfl (Nat.le_refl _) (by decide)
 refine⟨[],u8s bs,hoe.row _ _,h.ext hn.ext (by simp),u8s_one _,by omega,fun hle=>hoe.room (n:=bs.length) hle,fun a5 c6 H7 happ b8 H9 hn9=>?_⟩
 obtain⟨h1,h2,h3⟩:=fresh_copy hn rfl happ
 rw[Nat.zero_add]at h1 hn9
 have e8:=hn9.eq
 have hs7:=h2.size
 refine⟨b8,rfl,⟨by omega,hB,a5,c6,hn9.blk,(Own.ownO h1).ext hn9.ext (by simp),fun hm=>?_,h3⟩,h2.trans hn9.ext⟩
 have:=h1.lt b8 hm
 omega
def rd(s:List Int×Bool)(n:Nat):List Int×(List Int×Bool):=if s.2=false∧n≤s.1.length then(s.1.take n,(s.1.drop n,false))else([],([],true))
theorem rd_byt{s:List Int×Bool}(h:Byt s.1)(n:Nat):Byt (rd s n).1:=by
 unfold rd;split
 ·exact h.take n
 ·intro z hz;cases hz
theorem rd_len(s:List Int×Bool)(n:Nat):(rd s n).1.length≤n:=by
 unfold rd;split
 ·simp;omega
 ·simp
theorem fails{G:Nat→Prop}{b:Nat}{H H6 H9:Heap}{s:List Int×Bool}(h:RIs G H b s)(h6:Puts H b 0 [.slice none 0 0] H6)(h9:Puts H6 b (0+1) [.bool true] H9):RIs G H9 b ([],true)∧ExtP G H H9:=by
 obtain⟨g0,hB,a,c,hb,ho,hnb,hg⟩:=h
 have hb6:=h6.blk hb (by simp)
 have hb9:=h9.blk hb6 (by simp[splice])
 have one:∀{A B:Heap},Ext [b] A B→ExtP G A B:=fun he=>he.lift (fun k _ hk=>by simp only[List.mem_singleton]at hk;subst hk;exact g0)
 exact⟨⟨g0,(fun z hz=>by cases hz),none,0,by simpa[splice]using hb9,⟨rfl,Nat.le_refl _,.inl ⟨rfl,rfl⟩⟩,by simp[blkOf],by simp[blkOf]⟩,(one h6.ext).trans (one h9.ext)⟩
theorem raw_ok{G:Nat→Prop}{b:Nat}{s:List Int×Bool}{n:Nat}{H:Heap}(hn:n≤1000000)(h:RIs G H b s) :
  Does Tryz.prog 208 [.pointer (some ⟨b,0,none⟩),.int .i64 n] H fun v H'=>∃a c,v=.slice a (rd s n).1.length c∧SRow H' 1 (rd s n).1.length (.slice a (rd s n).1.length c) (u8s (rd s n).1)∧RIs G H' b (rd s n).2∧ExtP G H H'∧∀k∈blkOf a,H.size≤k∧k<H'.size:=by
 refine Fn_of_vc Tryz.mixed (vc_raw _ _ _ _) ?_
 have h0:=h
 obtain⟨bs,lk⟩:=s
 obtain⟨g0,hB,a,c,hb,ho,hnb,hg⟩:=h
 simp only at hb ho hB
 have bad:∀{H6 H9:Heap},Puts H b 0 [.slice none 0 0] H6→Puts H6 b (0+1) [.bool true] H9→rd (bs,lk) n=([],([],true)) →
   ∃a c,Value.slice none 0 0=.slice a (rd (bs,lk) n).1.length c∧SRow H9 1 (rd (bs,lk) n).1.length (.slice a (rd (bs,lk) n).1.length c) (u8s (rd (bs,lk) n).1)∧RIs G H9 b (rd (bs,lk) n).2∧ExtP G H H9∧∀k∈blkOf a,H.size≤k∧k<H9.size:=by
  intro H6 H9 h6 h9 e
  obtain⟨h1,h2⟩:=fails h0 h6 h9
  rw[e]
  exact⟨none,0,rfl,⟨rfl,rfl⟩,h1,h2,by simp[blkOf]⟩
 have cl:Cells H b 0 1:=hb.cells _ _ (by simp)
 have cl2:∀{H6:Heap},Puts H b 0 [.slice none 0 0] H6→Cells H6 b (0+1) 1:=fun h6=>(h6.blk hb (by simp)).cells _ _ (by simp[splice])
 refine⟨b,0,rfl,lk,by rw[hb.cell];rfl,fun e=>⟨b,0,rfl,cl,fun H6 h6=>⟨b,0,rfl,cl2 h6,fun H9 h9=>bad h6 h9 ?_⟩⟩,fun e=>⟨fun e0=>absurd e0 (by omega),fun _=>⟨b,0,rfl,a,_,c,by rw[hb.cell];rfl,fun e1=>⟨b,0,rfl,cl,fun H6 h6=>⟨b,0,rfl,cl2 h6,fun H9 h9=>bad h6 h9 ?_⟩⟩,fun e1 b27 H28 hn28=>?_⟩⟩⟩
 ·unfold rd;rw[if_neg (by simp[e])]
 ·unfold rd;rw[if_neg (by simp only[];omega)]
 subst e
 have e2:rd (bs,false) n=(bs.take n,(bs.drop n,false)):=by unfold rd;rw[if_pos ⟨rfl,by simp only[];omega⟩]
 rw[e2]
 have hle:n≤bs.length:=by omega
 have hb28:=hb.ext hn28.ext (by simp)
 have ho28:=ho.ext hn28.ext (by simp)
 have hoe:Own H28 1 (some ⟨b27,0,none⟩) 0 0 ([]:List Value):=Own.of_new (size:=1) (len:=0) (cap:=0) hn28.blk rfl (Nat.le_refl _) (by decide)
 have hlen:(bs.take n).length=n:=by rw[List.length_take];omega
 refine⟨b,0,rfl,a,_,c,by rw[hb28.cell];rfl,by omega,by have:=ho.2.1;omega,[],u8s (bs.take n),hoe.row _ _,?_,u8s_one _,by simp;omega,fun hle=>hoe.room (n:=(n:Int).toNat) hle,?_⟩
 ·rw[Int.toNat_natCast,u8s_take]
  exact SRow.take1 (ho28.row bs.length c) hle
 intro a36 c37 H38 happ
 rw[Int.toNat_natCast]at happ
 obtain⟨h1,h2,h3⟩:=fresh_copy hn28 hlen happ
 have hb38:=hb.ext h2 (by simp)
 have ho38:=ho.ext h2 (by simp)
 refine⟨b,0,rfl,a,_,c,by rw[hb38.cell];rfl,by omega,by omega,?_⟩
 rintro _ rfl
 refine⟨b,0,rfl,hb38.cells _ _ (by simp),fun H47 hp47=>?_⟩
 have hb47:=hp47.blk hb38 (by simp)
 have one:ExtP G H38 H47:=hp47.ext.lift (fun k _ hk=>by simp only[List.mem_singleton]at hk;subst hk;exact g0)
 rw[Int.toNat_natCast,Nat.zero_add]at *
 have hd:=ho38.drop hle
 have hblk:∀k∈blkOf (if c=n then a else Option.map (fun x=>Addr.add x (n*1)) a),k∈blkOf a:=by
  intro k hk
  split at hk
  ·exact hk
  ·obtain⟨_,_,⟨rfl,_⟩|⟨bb,oo,cs,rfl,_⟩⟩:=ho
   ·cases hk
   ·simp only[Option.map_some,add_none]at hk;exact hk
 have hblt:=hb.lt
 refine⟨a36,c37,by rw[hlen],?_,⟨g0,hB.drop n,_,_,by simpa[splice]using hb47,?_,fun hm=>hnb (hblk _ hm),fun k hk=>hg k (hblk k hk)⟩,h2.anyP.trans one,fun k hk=>⟨h3 k hk,by have:=h1.lt k hk;have:=hp47.size;omega⟩⟩
 ·rw[hlen]
  refine(h1.row n c37).ext hp47.ext (fun k hk hm=>?_)
  simp only[List.mem_singleton]at hm;subst hm
  have:=h3 _ hk
  omega
 ·rw[u8s_drop,List.length_drop]
  refine hd.ext hp47.ext (fun k hk hm=>?_)
  simp only[List.mem_singleton]at hm;subst hm
  exact hnb (hblk _ hk)
theorem get_ok{G:Nat→Prop}{b:Nat}{s:List Int×Bool}{n:Nat}{H:Heap}(hn:n≤7)(h:RIs G H b s) :
  Does Tryz.prog 194 [.pointer (some ⟨b,0,none⟩),.int .i64 n] H fun v H'=>v=.int .u64 (be (rd s n).1)∧RIs G H' b (rd s n).2∧ExtP G H H':=by
 have hB:Byt (rd s n).1:=rd_byt h.2.1 n
 have hl:=rd_len s n
 refine Fn_of_vc Tryz.mixed (vc_get _ _ _ _) ?_
 refine(raw_ok (by omega) h).mono ?_
 rintro _ H2 ⟨a,c,rfl,hrow,hr,hx,_⟩
 generalize (rd s n).1=t at *
 refine⟨_,_,_,rfl,fun v i H'=>H'=H2∧∃j:Nat,i=j∧j≤t.length∧v=be (t.take j),fun _ i _=>t.length - i.toNat,⟨rfl,0,rfl,by omega,rfl⟩,?_⟩
 rintro _ _ _ ⟨rfl,j,rfl,hj,rfl⟩
 refine⟨fun hlt=>?_,fun hge=>?_⟩
 ·have hi:t[j]?=some t[j]:=List.getElem?_eq_getElem (by omega)
  have htk:t.take (j+1)=t.take j++[t[j]]:=by rw[List.take_add_one,hi];rfl
  obtain⟨z0,z1⟩:=hB t[j] (List.getElem_mem _)
  obtain⟨b11,o12,e,hc⟩:=SRow.at hrow (u8s_at hi)
  generalize t[j]=z at *
  obtain⟨v0,v1⟩:=be_lt (hB.take j)
  have hv:be (t.take j)<256 ^ 6:=by
   refine Int.lt_of_lt_of_le v1 ?_
   rw[List.length_take,Nat.min_eq_left hj]
   exact pow256 (by omega)
  refine⟨by omega,hlt,b11,o12,e,z,by rw[Int.toNat_natCast];exact hc,by decide,?_⟩
  rintro _ rfl _ rfl _ rfl
  have e8:min (Int.toNat 8) (IntKind.bits .u64)=8:=by decide
  have e6:(256:Int) ^ 6=281474976710656:=by decide
  rw[e6]at hv
  have eq:bits .or .u64 (IntKind.wrap .u64 (be (t.take j)*2 ^ (min (Int.toNat 8) (IntKind.bits .u64)))) (IntKind.wrap .u64 z)=be (t.take (j+1)):=by
   rw[e8,htk,be_snoc,wrap_u64,wrap_u64,show(2:Int) ^ 8=256 by decide,show(be (t.take j)*256) % 18446744073709551616=((be (t.take j)).toNat:Int)*256 by omega,show z % 18446744073709551616=(z.toNat:Int)by omega,or_low _ _ (by omega) (by omega)]
   omega
  exact⟨⟨by omega,by omega⟩,⟨rfl,j+1,by omega,by omega,eq⟩,by simp only[];omega⟩
 ·have:j=t.length:=by omega
  subst this
  exact⟨by rw[List.take_length],hr,hx⟩
def num(s:List Int×Bool)(n:Nat):Int:=be (rd s n).1
theorem num_lt{s:List Int×Bool}(h:Byt s.1){n:Nat}(hn:n≤4):0≤num s n∧num s n<4294967296:=by
 obtain⟨h1,h2⟩:=be_lt (rd_byt h n)
 have:=pow256 (j:=(rd s n).1.length) (k:=4) (by have:=rd_len s n;omega)
 have e:(256:Int) ^ 4=4294967296:=by decide
 rw[e]at this
 exact⟨h1,Int.lt_of_lt_of_le h2 this⟩
theorem ru_ok{G:Nat→Prop}{f n:Nat}{b:Nat}{s:List Int×Bool}{H:Heap}(hf:(f=149∧n=2)∨(f=190∧n=4))(h:RIs G H b s) :
  Does Tryz.prog f [.pointer (some ⟨b,0,none⟩)] H fun v H'=>v=.int .i64 (num s n)∧RIs G H' b (rd s n).2∧ExtP G H H':=by
 have w:n≤4→IntKind.wrap .i64 (num s n)=num s n:=fun hn=>by
  obtain⟨h1,h2⟩:=num_lt h.2.1 hn
  exact wrap_of_in64 ⟨by omega,by omega⟩
 rcases hf with⟨rfl,rfl⟩|⟨rfl,rfl⟩
 ·refine Fn_of_vc Tryz.mixed (vc_ru16 _ _ _) ?_
  refine(get_ok (n:=2) (by omega) h).mono ?_
  rintro _ _ ⟨rfl,h1,h2⟩
  refine⟨_,rfl,?_⟩
  rintro _ rfl
  exact⟨congrArg _ (w (by omega)),h1,h2⟩
 ·refine Fn_of_vc Tryz.mixed (vc_ru32 _ _ _) ?_
  refine(get_ok (n:=4) (by omega) h).mono ?_
  rintro _ _ ⟨rfl,h1,h2⟩
  refine⟨_,rfl,?_⟩
  rintro _ rfl
  exact⟨congrArg _ (w (by omega)),h1,h2⟩
theorem lack_ok{G:Nat→Prop}{b:Nat}{s:List Int×Bool}{H:Heap}(h:RIs G H b s):Does Tryz.prog 217 [.pointer (some ⟨b,0,none⟩)] H fun v H'=>v=.bool s.2∧H=H':=by
 refine Fn_of_vc Tryz.mixed (vc_lack _ _ _) ?_
 obtain⟨_,_,a,c,hb,_⟩:=h
 exact⟨b,0,rfl,s.2,by rw[hb.cell];rfl,rfl,rfl⟩
theorem eq_ok{xs ys:List Int}{a a':Option Addr}{c c':Nat}{H:Heap}(hl:xs.length≤1000000)(h:SRow H 1 xs.length (.slice a xs.length c) (u8s xs))(k:SRow H 1 ys.length (.slice a' ys.length c') (u8s ys)) :
  Does Tryz.prog 152 [.slice a xs.length c,.slice a' ys.length c'] H fun v H'=>v=.bool (decide (xs=ys))∧H=H':=by
 refine Fn_of_vc Tryz.mixed (vc_eq _ _ _ _ _ _ _ _) ?_
 refine⟨fun e=>⟨?_,rfl⟩,fun e=>?_⟩
 ·have:xs≠ys:=fun e'=>e (by rw[e'])
  simp[this]
 refine⟨fun i H'=>H'=H∧∃j:Nat,i=j∧j≤xs.length∧xs.take j=ys.take j,fun i _=>xs.length - i.toNat,⟨rfl,0,rfl,by omega,rfl⟩,?_⟩
 rintro _ _ ⟨rfl,j,rfl,hj,ht⟩
 refine⟨fun hlt=>?_,fun hge=>⟨?_,rfl⟩⟩
 ·have hi:xs[j]?=some xs[j]:=List.getElem?_eq_getElem (by omega)
  have hi':ys[j]?=some (ys[j]'(by omega)):=List.getElem?_eq_getElem (by omega)
  obtain⟨b5,o6,e5,c5⟩:=SRow.at h (u8s_at hi)
  obtain⟨b8,o9,e8,c8⟩:=SRow.at k (u8s_at hi')
  refine⟨by omega,hlt,b5,o6,e5,_,by rw[Int.toNat_natCast];exact c5,by omega,by omega,b8,o9,e8,_,by rw[Int.toNat_natCast];exact c8,fun hne=>⟨?_,rfl⟩,fun heq=>⟨⟨by omega,by omega⟩,⟨rfl,j+1,by omega,by omega,?_⟩,by simp only[];omega⟩⟩
  ·have:xs≠ys:=fun e'=>hne (by subst e';rfl)
   simp[this]
  ·rw[List.take_add_one,List.take_add_one,ht,hi,hi']
   have:xs[j]=ys[j]'(by omega):=by simpa using heq
   rw[this]
 ·have e1:j=xs.length:=by omega
  subst e1
  rw[List.take_length,List.take_of_length_le (by omega)]at ht
  simp[ht]
end Go.Proofs
end
section
open Go Go.Vc
namespace Go.Proofs
def toI(xs:Octs):List Int:=xs.map fun b=>(b.toNat:Int)
theorem u8s_toI(xs:Octs):u8s (toI xs)=bytesV xs:=by unfold u8s bytesV toI;rw[List.map_map];rfl
theorem toI_len(xs:Octs):(toI xs).length=xs.length:=by simp[toI]
theorem toI_byt(xs:Octs):Byt (toI xs):=fun z hz=>by
 obtain⟨b,_,rfl⟩:=List.mem_map.1 hz
 have:=b.toNat_lt
 omega
theorem toI_append(xs ys:Octs):toI (xs++ys)=toI xs++toI ys:=by simp[toI]
theorem toI_take(xs:Octs)(k:Nat):toI (xs.take k)=(toI xs).take k:=by simp[toI]
theorem toI_drop(xs:Octs)(k:Nat):toI (xs.drop k)=(toI xs).drop k:=by simp[toI]
def toU(l:List Int):Octs:=l.map fun z=>UInt8.ofNat z.toNat
theorem toI_toU{l:List Int}(h:Byt l):toI (toU l)=l:=by
 unfold toI toU
 rw[List.map_map]
 conv=>rhs;rw[←List.map_id l]
 refine List.map_congr_left fun z hz=>?_
 obtain⟨h0,h1⟩:=h z hz
 have:(UInt8.ofNat z.toNat).toNat=z.toNat:=by rw[UInt8.toNat_ofNat'];omega
 simp only[Function.comp_apply,this,id]
 omega
theorem toU_toI(xs:Octs):toU (toI xs)=xs:=by
 unfold toI toU
 rw[List.map_map]
 conv=>rhs;rw[←List.map_id xs]
 refine List.map_congr_left fun b _=>?_
 simp
theorem toI_inj{xs ys:Octs}(h:toI xs=toI ys):xs=ys:=by rw[←toU_toI xs,h,toU_toI]
theorem bytesV_append(xs ys:Octs):bytesV (xs++ys)=bytesV xs++bytesV ys:=by simp[bytesV]
theorem bytesV_zeros(n:Nat):bytesV (List.replicate n 0)=List.replicate n (.int .u8 0):=by simp[bytesV]
theorem beL_byt:∀(n:Nat)(v:Int),Byt (beL n v)
 | 0,_=>fun z hz=>by cases hz
 | n+1,v=>fun z hz=>by
  rcases List.mem_cons.1 hz with rfl|hz
  ·omega
  ·exact beL_byt n v z hz
def beU(n:Nat)(v:Int):Octs:=toU (beL n v)
theorem toI_beU(n:Nat)(v:Int):toI (beU n v)=beL n v:=toI_toU (beL_byt n v)
theorem beU_len(n:Nat)(v:Int):(beU n v).length=n:=by rw[←toI_len,toI_beU,beL_length]
def w64(z:Int):Int:=IntKind.wrap .u64 z
def WB(G:Nat→Prop)(H:Heap)(b:Nat)(xs:Octs):Prop:=WIs G H b (toI xs)
def RB(G:Nat→Prop)(H:Heap)(b:Nat)(s:Octs×Bool):Prop:=RIs G H b (toI s.1,s.2)
theorem nwB_ok(H:Heap):Does Tryz.prog 179 [] H fun v H'=>v=.pointer (some ⟨H.size,0,none⟩)∧WB (fun k=>H.size≤k) H' H.size []∧Ext [] H H':=nw_ok H
theorem wuB_ok{G:Nat→Prop}{f n:Nat}{b:Nat}{xs:Octs}{x:Int}{H:Heap}(hf:(f=180∧n=2)∨(f=204∧n=4))(hG:∀k,H.size≤k→G k)(hl:xs.length≤1000000)(h:WB G H b xs) :
  Does Tryz.prog f [.pointer (some ⟨b,0,none⟩),.int .i64 x] H fun v H'=>v=.tuple #[]∧WB G H' b (xs++beU n (w64 x))∧ExtP G H H':=by
 refine(wu_ok (x:=x) hf hG (by rw[toI_len];exact hl) h).mono ?_
 rintro _ _ ⟨rfl,h1,h2⟩
 refine⟨rfl,?_,h2⟩
 unfold WB
 rw[toI_append,toI_beU]
 exact h1
theorem wrawB_ok{G:Nat→Prop}{b:Nat}{xs ys:Octs}{a0:Option Addr}{c0:Nat}{H:Heap}(hG:∀k,H.size≤k→G k)(hl:xs.length≤1000000)(hl':ys.length≤1000000)(h:WB G H b xs)(hy:SRow H 1 ys.length (.slice a0 ys.length c0) (bytesV ys)) :
  Does Tryz.prog 182 [.pointer (some ⟨b,0,none⟩),.slice a0 ys.length c0] H fun v H'=>v=.tuple #[]∧WB G H' b (xs++ys)∧ExtP G H H':=by
 refine Fn_of_vc Tryz.mixed (vc_wraw _ _ _ _ _ _) ?_
 have hblt:=h.lt
 obtain⟨g0,a,c,hb,ho,hnb,hg⟩:=h
 rw[u8s_toI,toI_len]at *
 refine⟨b,0,rfl,a,_,c,by rw[hb.cell];rfl,bytesV xs,bytesV ys,ho.row _ _,hy,bytesV_one _,by omega,fun hle=>ho.room (n:=ys.length) hle,fun a8 c9 H10 happ=>?_⟩
 obtain⟨ho10,hx10,hfr10⟩:=happ.own ho (ho.row _ _) (by rw[bytesV_length];omega) rfl
 have hb10:=hb.ext hx10 hnb
 refine⟨b,0,rfl,hb10.cells _ _ (by simp),fun H13 hp=>?_⟩
 have hb13:=hp.blk hb10 (by simp)
 have hs10:=hx10.size
 have hnb8:b∉blkOf a8:=by
  intro hm
  rcases hfr10 b hm with h'|h'
  ·exact hnb h'
  ·omega
 have ho13:=ho10.ext hp.ext (fun k hk hm=>by simp only[List.mem_singleton]at hm;subst hm;exact hnb8 hk)
 refine⟨rfl,⟨g0,a8,c9,?_,?_,hnb8,fun k hk=>?_⟩,(hx10.lift (fun k _ hk=>hg k hk)).trans (hp.ext.lift (fun k _ hk=>by simp only[List.mem_singleton]at hk;subst hk;exact g0))⟩
 ·rw[toI_len,List.length_append];simpa[splice]using hb13
 ·rw[toI_len,u8s_toI,bytesV_append,List.length_append];exact ho13
 ·rcases hfr10 k hk with h'|h'
  ·exact hg k h'
  ·exact hG k (by omega)
def ToldB(H H':Heap)(v:Value)(xs:Octs):Prop:=∃a c,v=.slice a xs.length c∧Own H' 1 a xs.length c (bytesV xs)∧∀k∈blkOf a,H.size≤k
theorem bytesB_ok{G:Nat→Prop}{b:Nat}{xs:Octs}{H:Heap}(hl:xs.length≤1000000)(h:WB G H b xs) :
  Does Tryz.prog 181 [.pointer (some ⟨b,0,none⟩)] H fun v H'=>ToldB H H' v xs∧Ext [] H H':=by
 refine(bytes_ok (by rw[toI_len];exact hl) h).mono ?_
 rintro _ _ ⟨⟨a,c,rfl,ho,hf⟩,hx⟩
 rw[u8s_toI,toI_len]at *
 exact⟨⟨a,c,rfl,ho,hf⟩,hx⟩
def rdU(s:Octs×Bool)(n:Nat):Octs×(Octs×Bool):=if s.2=false∧n≤s.1.length then(s.1.take n,(s.1.drop n,false))else([],([],true))
theorem rd_toI(s:Octs×Bool)(n:Nat):rd (toI s.1,s.2) n=(toI (rdU s n).1,(toI (rdU s n).2.1,(rdU s n).2.2)):=by
 unfold rd rdU
 simp only[toI_len]
 split
 ·simp only[toI_take,toI_drop]
 ·rfl
def numU(s:Octs×Bool)(n:Nat):Int:=be (toI (rdU s n).1)
theorem num_toI(s:Octs×Bool)(n:Nat):num (toI s.1,s.2) n=numU s n:=by unfold num numU;rw[rd_toI]
theorem nrB_ok{xs:Octs}{a:Option Addr}{c:Nat}{H:Heap}(hl:xs.length≤140737488355328)(h:SRow H 1 xs.length (.slice a xs.length c) (bytesV xs)) :
  Does Tryz.prog 148 [.slice a xs.length c] H fun v H'=>∃b,v=.pointer (some ⟨b,0,none⟩)∧RB (fun k=>H.size≤k) H' b (xs,false)∧Ext [] H H':=by
 have:=nr_ok (a:=a) (c:=c) (toI_byt xs) (by rw[toI_len];exact hl) (by rw[toI_len,u8s_toI];exact h)
 rw[toI_len]at this
 exact this
theorem ruB_ok{G:Nat→Prop}{f n:Nat}{b:Nat}{s:Octs×Bool}{H:Heap}(hf:(f=149∧n=2)∨(f=190∧n=4))(h:RB G H b s) :
  Does Tryz.prog f [.pointer (some ⟨b,0,none⟩)] H fun v H'=>v=.int .i64 (numU s n)∧RB G H' b (rdU s n).2∧ExtP G H H':=by
 refine(ru_ok hf h).mono ?_
 rintro _ _ ⟨rfl,h1,h2⟩
 rw[num_toI]
 rw[rd_toI]at h1
 exact⟨rfl,h1,h2⟩
theorem rawB_ok{G:Nat→Prop}{b:Nat}{s:Octs×Bool}{n:Nat}{H:Heap}(hn:n≤1000000)(h:RB G H b s) :
  Does Tryz.prog 208 [.pointer (some ⟨b,0,none⟩),.int .i64 n] H fun v H'=>∃a c,v=.slice a (rdU s n).1.length c∧SRow H' 1 (rdU s n).1.length (.slice a (rdU s n).1.length c) (bytesV (rdU s n).1)∧RB G H' b (rdU s n).2∧ExtP G H H'∧∀k∈blkOf a,H.size≤k∧k<H'.size:=by
 refine(raw_ok hn h).mono ?_
 rintro _ _ ⟨a,c,rfl,h1,h2,h3,h4⟩
 rw[rd_toI]at h1 h2 ⊢
 simp only[toI_len,u8s_toI]at h1 ⊢
 exact⟨a,c,rfl,h1,h2,h3,h4⟩
theorem lackB_ok{G:Nat→Prop}{b:Nat}{s:Octs×Bool}{H:Heap}(h:RB G H b s):Does Tryz.prog 217 [.pointer (some ⟨b,0,none⟩)] H fun v H'=>v=.bool s.2∧H=H':=lack_ok h
theorem eqB_ok{xs ys:Octs}{a a':Option Addr}{c c':Nat}{H:Heap}(hl:xs.length≤1000000)(h:SRow H 1 xs.length (.slice a xs.length c) (bytesV xs))(k:SRow H 1 ys.length (.slice a' ys.length c') (bytesV ys)) :
  Does Tryz.prog 152 [.slice a xs.length c,.slice a' ys.length c'] H fun v H'=>v=.bool (decide (xs=ys))∧H=H':=by
 have:=eq_ok (xs:=toI xs) (ys:=toI ys) (a:=a) (a':=a') (c:=c) (c':=c') (H:=H) (by rw[toI_len];exact hl) (by rw[toI_len,u8s_toI];exact h) (by rw[toI_len,u8s_toI];exact k)
 rw[toI_len,toI_len]at this
 refine this.mono ?_
 rintro _ _ ⟨rfl,rfl⟩
 refine⟨?_,rfl⟩
 have:(toI xs=toI ys)↔xs=ys:=⟨toI_inj,fun e=>by rw[e]⟩
 simp only[this]
def padL(xs:Octs)(n:Nat):Octs:=xs++List.replicate (n - xs.length) 0
theorem padded_ok{xs:Octs}{a:Option Addr}{c n:Nat}{H:Heap}(hn:n≤1000000000)(hl:xs.length≤1000000)(h:SRow H 1 xs.length (.slice a xs.length c) (bytesV xs)) :
  Does Tryz.prog 205 [.slice a xs.length c,.int .i64 n] H fun v H'=>ToldB H H' v (padL xs n)∧Ext [] H H':=by
 refine Fn_of_vc Tryz.mixed (vc_padded _ _ _ _ _ _) ?_
 refine(clonel_ok h hl).mono ?_
 rintro _ H2 ⟨a3,c5,rfl,ho2,hx2,hfr2⟩
 have e:Int.toNat (max 0 ((n:Int) - (xs.length:Int)))=n - xs.length:=by omega
 refine⟨_,_,_,rfl,⟨by omega,by omega⟩,?_⟩
 rw[e]
 refine⟨bytesV xs,ho2.row _ _,by omega,by omega,fun hle=>ho2.room hle,fun a7 c8 H9 happ=>?_⟩
 obtain⟨ho9,hx9,hfr9⟩:=happ.own ho2 (ho2.row _ _) (by simp) rfl
 have el:(padL xs n).length=xs.length+(n - xs.length):=by unfold padL;simp
 refine⟨⟨a7,c8,by rw[el],by rw[el];unfold padL;rw[bytesV_append,bytesV_zeros];exact ho9,fun k hk=>?_⟩,ext_new hx2 hx9 hfr2⟩
 rcases hfr9 k hk with h'|h'
 ·exact hfr2 k h'
 ·have:=hx2.size;omega
end Go.Proofs
end
section
open Go Go.Vc
namespace Go.Proofs
theorem dblocks_ok{H:Heap}{F:Nat→Prop}{pd:Nat}{D:Dev}(h:IsDev H F pd D):Does Tryz.prog 114 [.pointer (some ⟨pd,0,none⟩)] H fun v H'=>v=.int .i64 D.kept.length∧H=H':=by
 refine Fn_of_vc Tryz.mixed (vc_dblocks _ _ _) ?_
 obtain⟨ak,ck,an,cn,ap,cp,h⟩:=h
 have e:D.now.length=D.kept.length:=laid_length _ _
 exact⟨_,_,rfl,_,_,_,h.head.cell 1,by rw[e],rfl⟩
end Go.Proofs
end
section
open Go Go.Vc
namespace Go.Proofs
abbrev Wr:=Int×Octs
structure Hd where
 epoch:Int
 seq:Int
 size:Int
def Hd.cells(h:Hd):List Value:=[.int .i64 h.epoch,.int .i64 h.seq,.int .i64 h.size]
def Hd.v(h:Hd):Value:=.agg #[.int .i64 h.epoch,.int .i64 h.seq,.int .i64 h.size]
def Hd.zero:Hd:=⟨0,0,0⟩
theorem padL_len(xs:Octs)(n:Nat):(padL xs n).length=xs.length+(n - xs.length):=by unfold padL;simp
def hdrB(h:Hd):Octs:=padL (beU 4 (w64 1885695604)++beU 4 (w64 h.epoch)++beU 4 (w64 h.seq)++beU 4 (w64 h.size)) 128
theorem hdrB_len(h:Hd):(hdrB h).length=128:=by unfold hdrB;rw[padL_len];simp[beU_len]
theorem hlay_ok(h:Hd)(H:Heap):Does Tryz.prog 178 [h.v] H fun v H'=>ToldB H H' v (hdrB h)∧Ext [] H H':=by
 refine Fn_of_vc Tryz.mixed (vc_hlay _ _ _ _ _) ?_
 intro b1 H2 hn2
 have e1:=hn2.eq
 have hs2:=hn2.size
 have hb2:Blk H2 b1 h.cells:=hn2.blk
 refine(nwB_ok H2).mono ?_
 rintro _ H4 ⟨rfl,hw4,hx4⟩
 have hs4:=hx4.size
 have keep:∀{A B:Heap},ExtP (fun k=>H2.size≤k) A B→Blk A b1 h.cells→Blk B b1 h.cells:=fun he hb=>hb.extP he (by omega)
 have hb4:=hb2.ext hx4 (by simp)
 have q:∀{A:Heap},Blk A b1 h.cells→hcell A b1 0=some (.int .i64 h.epoch)∧hcell A b1 (0+1)=some (.int .i64 h.seq)∧hcell A b1 (0+2)=some (.int .i64 h.size):=fun hb=>⟨by rw[hb.cell];rfl,by rw[hb.cell];rfl,by rw[hb.cell];rfl⟩
 refine⟨_,rfl,(wuB_ok (n:=4) (.inr ⟨rfl,rfl⟩) (fun k hk=>by show H2.size≤k;omega) (by simp) hw4).mono ?_⟩
 rintro _ H7 ⟨rfl,hw7,hx7⟩
 have hs7:=hx7.size
 have hb7:=keep hx7 hb4
 refine⟨rfl,_,(q hb7).1,(wuB_ok (n:=4) (.inr ⟨rfl,rfl⟩) (fun k hk=>by show H2.size≤k;omega) (by simp[beU_len]) hw7).mono ?_⟩
 rintro _ H10 ⟨rfl,hw10,hx10⟩
 have hs10:=hx10.size
 have hb10:=keep hx10 hb7
 refine⟨rfl,_,(q hb10).2.1,(wuB_ok (n:=4) (.inr ⟨rfl,rfl⟩) (fun k hk=>by show H2.size≤k;omega) (by simp[beU_len]) hw10).mono ?_⟩
 rintro _ H13 ⟨rfl,hw13,hx13⟩
 have hs13:=hx13.size
 have hb13:=keep hx13 hb10
 refine⟨rfl,_,(q hb13).2.2,(wuB_ok (n:=4) (.inr ⟨rfl,rfl⟩) (fun k hk=>by show H2.size≤k;omega) (by simp[beU_len]) hw13).mono ?_⟩
 rintro _ H16 ⟨rfl,hw16,hx16⟩
 have hX16:Ext [] H H16:=hn2.ext.trans (hx4.transP (((hx7.trans hx10).trans hx13).trans hx16) (fun i hi=>hi))
 refine⟨rfl,(bytesB_ok (by simp[beU_len]) hw16).mono ?_⟩
 rintro _ H18 ⟨⟨a19,c21,rfl,ho18,_⟩,hx18⟩
 refine⟨_,_,_,rfl,(padded_ok (n:=128) (by decide) (by simp[beU_len]) (ho18.row _ _)).mono ?_⟩
 rintro _ H23 ⟨⟨a24,c26,rfl,ho23,hfr23⟩,hx23⟩
 refine⟨_,_,_,rfl,⟨a24,c26,?_,?_,fun k hk=>?_⟩,(hX16.trans hx18).trans hx23⟩
 ·simp only[hdrB,List.nil_append]
 ·simpa only [hdrB,List.nil_append]using ho23
 ·have:=hfr23 k hk
  have:=(hX16.trans hx18).size
  omega
def homeN(n:Nat)(size:Int):Int:=if size<4∨(n:Int) - 1 - 3<size then -1 else n - 1 - size
theorem home_ok{H:Heap}{F:Nat→Prop}{pd:Nat}{D:Dev}{n B:Nat}(h:IsDev H F pd D)(hw:D.Wf n B)(size:Int) :
  Does Tryz.prog 177 [.pointer (some ⟨pd,0,none⟩),.int .i64 size] H fun v H'=>v=.int .i64 (homeN n size)∧H=H':=by
 have hl:=hw.len
 have hf:=hw.few
 refine Fn_of_vc Tryz.mixed (vc_home _ _ _ _) ?_
 unfold homeN
 refine⟨fun h1=>⟨by rw[if_pos (.inl h1)],rfl⟩,fun h1=>(dblocks_ok h).mono ?_⟩
 rintro _ _ ⟨rfl,rfl⟩
 refine⟨_,rfl,⟨by omega,by omega⟩,⟨by omega,by omega⟩,fun h2=>⟨by rw[if_pos (.inr (by omega))],rfl⟩,fun h2=>(dblocks_ok h).mono ?_⟩
 rintro _ _ ⟨rfl,rfl⟩
 refine⟨_,rfl,⟨by omega,by omega⟩,⟨by omega,by omega⟩,?_,rfl⟩
 rw[if_neg (by omega),hl]
def needsN(n:Int):Int:=if n<1 then 0 else(n*132+117) / 116
theorem needs_ok(n:Int)(H:Heap)(hn:n≤1000000000000):Does Tryz.prog 119 [.int .i64 n] H fun v H'=>v=.int .i64 (needsN n)∧H=H':=by
 refine Fn_of_vc Tryz.mixed (vc_needs _ _ _) ?_
 unfold needsN
 refine⟨fun h1=>⟨by rw[if_pos h1],rfl⟩,fun h1=>⟨⟨by omega,by omega⟩,⟨by omega,by omega⟩,⟨by omega,by omega⟩,⟨by omega,by omega⟩,by decide,?_⟩⟩
 rintro q rfl
 refine⟨?_,rfl⟩
 rw[if_neg h1,wrap_tdiv (by omega) (by decide) (by omega),show 2+n*132+116 - 1=n*132+117 by omega]
def bytesC:Elem Octs where
 sz:=1
 pos:=by decide
 ok H v xs:=∃a n c,v=[.slice a n c]∧n≤c∧SRow H 1 n (.slice a n c) (bytesV xs)∧∀k,k∈blkOf a→k<H.size
 fp v:=match v with|[.slice a _ _]=>blkOf a|_=>[]
 len:=by rintro H v x ⟨a,n,c,rfl,_⟩;rfl
 one:=by rintro H v x ⟨a,n,c,rfl,_⟩ u hu;simp only[List.mem_singleton]at hu;subst hu;rfl
 lt:=by rintro H v x ⟨a,n,c,rfl,_,_,h⟩;exact h
 ext:=by rintro M H H' v x ⟨a,n,c,rfl,h0,h1,h2⟩ he hm;exact⟨a,n,c,rfl,h0,h1.extP he hm,fun k hk=>Nat.lt_of_lt_of_le (h2 k hk) he.size⟩
def SeqV{α:Type}(E:Elem α)(H:Heap)(a:Option Addr)(xs:List α):Prop:=
 ∃vs:List (List Value),SRow H E.sz xs.length (.slice a xs.length xs.length) vs.flatten∧vs.length=xs.length∧∀(i:Nat) (x:α),xs[i]?=some x→∃v,vs[i]?=some v∧E.ok H v x
section
variable {α:Type} {E:Elem α} {H H':Heap} {a:Option Addr} {xs:List α}
theorem _root_.Go.Vc.Seq.view{G:Nat→Prop}{n c:Nat}(h:Seq E H G a n c xs):SeqV E H a xs:=by
 have hn:=h.num
 obtain⟨vs,h1,h2,h3⟩:=h
 subst hn
 exact⟨vs,h1.row _ _,h2,fun i x hx=>by
  obtain⟨v,q1,q2,_⟩:=h3 i x hx
  exact⟨v,q1,q2⟩⟩
theorem SeqV.ext(h:SeqV E H a xs)(he:Ext [] H H'):SeqV E H' a xs:=by
 obtain⟨vs,h1,h2,h3⟩:=h
 exact⟨vs,h1.ext he (by simp),h2,fun i x hx=>by
  obtain⟨v,q1,q2⟩:=h3 i x hx
  exact⟨v,q1,E.ext q2 he.toP (by simp)⟩⟩
theorem SeqV.get(h:SeqV E H a xs){i:Nat}{x:α}(hx:xs[i]?=some x):∃b o v,a=some ⟨b,o,none⟩∧(∀j u,v[j]?=some u→hcell H b (o+i*E.sz+j)=some u)∧E.ok H v x:=by
 obtain⟨vs,g1,g2,g3⟩:=h
 obtain⟨v,q1,q2⟩:=g3 i x hx
 have hrows:∀r∈vs,r.length=E.sz:=by
  intro r hr
  obtain⟨i,hi,rfl⟩:=List.mem_iff_getElem.1 hr
  obtain⟨v,h1,h2⟩:=g3 i _ (List.getElem?_eq_getElem (by omega))
  rw[List.getElem?_eq_getElem hi,Option.some.injEq]at h1
  rw[h1]
  exact E.len h2
 have hv:=E.len q2
 have hpos:=E.pos
 have hcell:∀j u,v[j]?=some u→∃b o,a=some ⟨b,o,none⟩∧hcell H b (o+(i*E.sz+j))=some u:=fun j u hj=>by
  have hlt:=(List.getElem?_eq_some_iff.1 hj).1
  have:=flatten_at hrows q1 (j:=j) (by omega)
  rw[hj]at this
  exact g1.at this
 obtain⟨b,o,rfl,_⟩:=hcell 0 _ (List.getElem?_eq_getElem (by omega))
 refine⟨b,o,v,rfl,fun j u hj=>?_,q2⟩
 obtain⟨b',o',e,hc⟩:=hcell j u hj
 cases e
 rw[Nat.add_assoc]
 exact hc
end
theorem SeqV.blk{H:Heap}{a:Option Addr}{xs:List Octs}(h:SeqV bytesC H a xs){i:Nat}{x:Octs}(hx:xs[i]?=some x):∃b o a' c',a=some ⟨b,o,none⟩∧hcell H b (o+i)=some (.slice a' x.length c')∧x.length≤c'∧SRow H 1 x.length (.slice a' x.length c') (bytesV x)∧∀k∈blkOf a',k<H.size:=by
 obtain⟨b,o,v,e,hc,a',n,c',rfl,h0,h1,h2⟩:=h.get hx
 have hn:x.length=n:=by have:=h1.1;rw[bytesV_length]at this;omega
 subst hn
 have:=hc 0 _ rfl
 exact⟨b,o,a',c',e,by simpa[bytesC]using this,h0,h1,h2⟩
theorem SeqV.wr{H:Heap}{a:Option Addr}{xs:List Wr}(h:SeqV writeE H a xs){i:Nat}{x:Wr}(hx:xs[i]?=some x):∃b o a' c',a=some ⟨b,o,none⟩∧hcell H b (o+i*2)=some (.int .i64 x.1)∧hcell H b (o+i*2+1)=some (.slice a' x.2.length c')∧SRow H 1 x.2.length (.slice a' x.2.length c') (bytesV x.2)∧∀k∈blkOf a',k<H.size:=by
 obtain⟨b,o,v,e,hc,a',n,c',rfl,h1,h2⟩:=h.get hx
 have hn:x.2.length=n:=by have:=h1.1;rw[bytesV_length]at this;omega
 subst hn
 have q0:=hc 0 _ rfl
 have q1:=hc 1 _ rfl
 exact⟨b,o,a',c',e,by simpa[writeE]using q0,by simpa[writeE]using q1,h1,h2⟩
theorem SeqV.take1{H:Heap}{a:Option Addr}{xs:List Octs}(h:SeqV bytesC H a xs)(k:Nat):SeqV bytesC H a (xs.take k):=by
 obtain⟨vs,h1,h2,h3⟩:=h
 have hrows:∀r∈vs,r.length=1:=by
  intro r hr
  obtain⟨i,hi,rfl⟩:=List.mem_iff_getElem.1 hr
  obtain⟨v,q1,q2⟩:=h3 i _ (List.getElem?_eq_getElem (by omega))
  rw[List.getElem?_eq_getElem hi,Option.some.injEq]at q1
  rw[q1]
  exact bytesC.len q2
 have hft:∀(vs:List (List Value)) (k:Nat),(∀r∈vs,r.length=1)→(vs.take k).flatten=vs.flatten.take k:=by
  intro vs
  induction vs with
  | nil=>intro k _;simp
  | cons r rs ih=>
   intro k hk
   cases k with
   | zero=>simp
   | succ k=>
    have h1:=hk r (by simp)
    match r,h1 with
    | [u],_=>simp only[List.take_succ_cons,List.flatten_cons,List.cons_append,List.nil_append];rw[ih k (fun r hr=>hk r (by simp[hr]))]
 refine⟨vs.take k,?_,by rw[List.length_take,List.length_take,h2],fun i x hx=>?_⟩
 ·rw[hft vs k hrows,List.length_take]
  by_cases hk:k≤xs.length
  ·rw[Nat.min_eq_left hk];exact SRow.take1 h1 hk
  ·rw[Nat.min_eq_right (by omega),List.take_of_length_le (by have:=h1.1;simp only[bytesC]at this;omega)];exact h1
 ·have hlt:i<k:=by have:=(List.getElem?_eq_some_iff.1 hx).1;simp at this;omega
  rw[List.getElem?_take_of_lt hlt]at hx
  obtain⟨v,q1,q2⟩:=h3 i x hx
  exact⟨v,by rw[List.getElem?_take_of_lt hlt];exact q1,q2⟩
theorem SRow.drop1{H:Heap}{n:Nat}{a:Option Addr}{l c l' c':Nat}{xs:List Value}(h:SRow H 1 n (.slice a l c) xs){k:Nat}(hk:k≤n)(hc:n≤c):SRow H 1 (n - k) (.slice (if c=k then a else Option.map (fun x=>Addr.add x (k*1)) a) l' c') (xs.drop k):=by
 obtain⟨h1,h2⟩:=h
 refine⟨by rw[List.length_drop];omega,?_⟩
 cases a with
 | none=>
  have h2:xs=[]:=h2
  subst h2
  have e:(if c=k then(none:Option Addr)else Option.map (fun x=>Addr.add x (k*1)) none)=none:=by by_cases h:c=k<;>simp[h]
  rw[e]
  exact List.drop_nil
 | some ad=>
  obtain⟨h3,h4⟩:=h2
  by_cases he:c=k
  ·rw[if_pos he]
   have:xs.drop k=[]:=List.drop_eq_nil_of_le (by omega)
   rw[this]
   exact⟨.inl rfl,fun j u hj=>by simp at hj⟩
  ·rw[if_neg he]
   rcases h3 with rfl|h3
   ·rw[List.drop_nil,Option.map_some]
    exact⟨.inl rfl,fun j u hj=>by simp at hj⟩
   ·obtain⟨b,o,sp⟩:=ad
    simp only at h3
    subst h3
    rw[Option.map_some,add_none,Nat.mul_one]
    refine⟨.inr rfl,fun j u hj=>?_⟩
    rw[List.getElem?_drop]at hj
    have:=h4 (k+j) u hj
    rw[Nat.add_assoc];exact this
end Go.Proofs
end
section
open Go Go.Vc
namespace Go.Proofs
def wrB(w:Wr):Octs:=beU 4 (w64 w.1)++w.2
def streamB(l:List Wr):Octs:=beU 2 (w64 l.length)++(l.map wrB).flatten
def Full(l:List Wr):Prop:=∀w∈l,w.2.length=128
theorem wrs_len{l:List Wr}(h:Full l):((l.map wrB).flatten).length=l.length*132:=by
 induction l with
 | nil=>rfl
 | cons w r ih=>
  have:=h w (by simp)
  simp only[List.map_cons,List.flatten_cons,List.length_append,List.length_cons,wrB,beU_len,this,ih (fun x hx=>h x (by simp[hx]))]
  omega
theorem streamB_len{l:List Wr}(h:Full l):(streamB l).length=2+l.length*132:=by
 unfold streamB;rw[List.length_append,beU_len,wrs_len h]
theorem Full.take{l:List Wr}(h:Full l)(k:Nat):Full (l.take k):=fun w hw=>h w (List.mem_of_mem_take hw)
theorem WB.but{n b0:Nat}{A B:Heap}{b:Nat}{xs:Octs}{vs ws:List Value}{e:TypeId}(h:WB (fun k=>n≤k) A b xs){C:Heap}(hn:New A b0 vs e B)(hp:Puts B b0 0 ws C):WB (fun k=>n≤k∧k≠b0) C b xs:=by
 have e0:=hn.eq
 have h1:WB (fun k=>n≤k∧k≠b0) A b xs:=WIs.mono h (fun k hk hg=>⟨hg,by omega⟩)
 exact WIs.extP (WIs.ext h1 hn.ext) hp.ext.toP (fun k hk hm=>hk.2 (by simpa using hm))
set_option maxHeartbeats 1000000 in
theorem stream_ok{l:List Wr}{a:Option Addr}{c:Nat}{H:Heap}(hl:l.length≤5000)(hf:Full l)(h:SeqV writeE H a l) :
  Does Tryz.prog 216 [.slice a l.length c] H fun v H'=>ToldB H H' v (streamB l)∧Ext [] H H':=by
 refine Fn_of_vc Tryz.mixed (vc_stream _ _ _ _ _) ?_
 refine(nwB_ok H).mono ?_
 rintro _ H2 ⟨rfl,hw2,hx2⟩
 refine⟨_,rfl,(wuB_ok (n:=2) (.inl ⟨rfl,rfl⟩) (fun k hk=>by have:=hx2.size;show H.size≤k;omega) (by simp) hw2).mono ?_⟩
 rintro _ H5 ⟨rfl,hw5,hx5⟩
 have far0:∀{A B:Heap},ExtP (fun k=>H.size≤k) A B→Ext [] H A→Ext [] H B:=fun he hx=>hx.transP he (fun i hi=>hi)
 have hX5:=far0 hx5 hx2
 refine⟨rfl,fun i H'=>∃j:Nat,i=j∧j≤l.length∧Ext [] H H'∧WB (fun k=>H.size≤k) H' H.size (beU 2 (w64 l.length)++((l.take j).map wrB).flatten),fun i _=>l.length - i.toNat,⟨0,rfl,by omega,hX5,by simpa using hw5⟩,?_⟩
 rintro _ H9 ⟨j,rfl,hj,hx9,hw9⟩
 refine⟨fun hlt=>?_,fun hge=>?_⟩
 ·have hi:l[j]?=some l[j]:=List.getElem?_eq_getElem (by omega)
  have htk:l.take (j+1)=l.take j++[l[j]]:=by rw[List.take_add_one,hi];rfl
  have hw128:=hf l[j] (List.getElem_mem _)
  have hplen:(beU 2 (w64 l.length)++((l.take j).map wrB).flatten).length≤700000:=by
   rw[List.length_append,beU_len,wrs_len (hf.take j),List.length_take];omega
  obtain⟨b10,o11,a13,c15,ea,g0,g1,gr,glt⟩:=h.wr hi
  have g0:=hcell_ext g0 hx9 (by simp)
  have g1:=hcell_ext g1 hx9 (by simp)
  generalize l[j]=w at *
  refine⟨by omega,hlt,b10,o11,ea,_,by rw[Int.toNat_natCast];exact g0,a13,_,c15,by rw[Int.toNat_natCast];exact g1,fun b16 H17 hn17=>⟨hn17.blk.cells _ _ (by simp),fun H18 hp18=>?_⟩⟩
  have hb18:Blk H18 b16 [.int .i64 w.1,.slice a13 w.2.length c15]:=by simpa[splice]using hp18.blk hn17.blk (by simp)
  have e16:=hn17.eq
  have hs17:=hn17.size
  have hs18:=hp18.size
  have hs9:=hx9.size
  have hw18:=hw9.but hn17 hp18
  have hx18:Ext [] H H18:=ext_new (hx9.trans hn17.ext) hp18.ext (by simp;omega)
  generalize hpre:(beU 2 (w64 l.length)++((l.take j).map wrB).flatten)=pre at *
  refine⟨w.1,by rw[hb18.cell];rfl,(wuB_ok (n:=4) (.inr ⟨rfl,rfl⟩) (fun k hk=>⟨by omega,by omega⟩) (by omega) hw18).mono ?_⟩
  rintro _ H21 ⟨rfl,hw21,hx21⟩
  have hb21:=hb18.extP hx21 (fun hm=>hm.2 rfl)
  have hs21:=hx21.size
  have hx21':Ext [] H H21:=hx18.transP hx21 (fun i hi=>hi.1)
  refine⟨rfl,a13,_,c15,by rw[hb21.cell];rfl,(wrawB_ok (fun k hk=>⟨by omega,by omega⟩) (by rw[List.length_append,beU_len];omega) (by omega) hw21 (gr.ext hx21' (by simp))).mono ?_⟩
  rintro _ H26 ⟨rfl,hw26,hx26⟩
  refine⟨rfl,⟨by omega,by omega⟩,⟨j+1,by omega,by omega,hx21'.transP hx26 (fun i hi=>hi.1),?_⟩,by simp only[];omega⟩
  rw[htk,List.map_append,List.flatten_append,←List.append_assoc,hpre,show(List.map wrB [w]).flatten=wrB w by simp]
  have:=WIs.mono (G':=fun k=>H.size≤k) hw26 (fun k _ hk=>hk.1)
  unfold WB wrB
  rw[←List.append_assoc]
  exact this
 ·have:j=l.length:=by omega
  subst this
  rw[List.take_length]at hw9
  refine(bytesB_ok (xs:=streamB l) (by rw[streamB_len hf];omega) hw9).mono ?_
  rintro _ H28 ⟨⟨a29,c31,rfl,ho,hfr⟩,hx28⟩
  exact⟨_,_,_,rfl,⟨a29,c31,rfl,ho,fun k hk=>by have:=hfr k hk;have:=hx9.size;omega⟩,hx9.trans hx28⟩
end Go.Proofs
end
section
open Go Go.Vc
namespace Go.Proofs
def cntN(l:List Wr):Nat:=(needsN l.length).toNat
def bodyB(l:List Wr):Octs:=padL (streamB l) (cntN l*116)
def jblk(h:Hd)(l:List Wr)(k:Nat):Octs:=beU 4 (w64 h.epoch)++beU 4 (w64 h.seq)++beU 2 (w64 k)++beU 2 (w64 (cntN l))++((bodyB l).drop (k*116)).take 116
def laidB(h:Hd)(l:List Wr):List Octs:=(List.range (cntN l)).map (jblk h l)
theorem needs_nat(l:List Wr):needsN l.length=(cntN l:Int):=by
 unfold cntN needsN;split<;>omega
theorem cnt_len{l:List Wr}(h:0<l.length):2+l.length*132≤cntN l*116∧cntN l*116≤2+l.length*132+115:=by
 have:=needs_nat l
 unfold needsN at this
 rw[if_neg (by omega)]at this
 omega
theorem cnt_zero'{l:List Wr}(h:l.length=0):cntN l=0:=by unfold cntN needsN;rw[h];rfl
theorem bodyB_len{l:List Wr}(hf:Full l)(h:0<l.length):(bodyB l).length=cntN l*116:=by
 unfold bodyB;rw[padL_len,streamB_len hf];have:=cnt_len h;omega
theorem piece_len{l:List Wr}(hf:Full l){k:Nat}(hk:k<cntN l):(((bodyB l).drop (k*116)).take 116).length=116:=by
 have h:0<l.length:=by
  rcases Nat.eq_zero_or_pos l.length with h|h
  ·rw[cnt_zero' h]at hk;omega
  ·exact h
 have hb:=bodyB_len hf h
 have:(k+1)*116≤cntN l*116:=Nat.mul_le_mul_right _ hk
 rw[List.length_take,List.length_drop,hb];omega
theorem jblk_len{h:Hd}{l:List Wr}(hf:Full l){k:Nat}(hk:k<cntN l):(jblk h l k).length=128:=by
 unfold jblk;rw[List.length_append,piece_len hf hk];simp[beU_len]
theorem laidB_len(h:Hd)(l:List Wr):(laidB h l).length=cntN l:=by simp[laidB]
def MySeq{α:Type}(E:Elem α)(n0:Nat)(H:Heap)(a:Option Addr)(n c:Nat)(xs:List α):Prop:=
 ∃G,Seq E H G a n c xs∧(∀k,G k→n0≤k∧k<H.size∧k∉blkOf a)∧∀k∈blkOf a,n0≤k
theorem MySeq.nil{α:Type}(E:Elem α)(n0:Nat)(H:Heap):MySeq E n0 H none 0 0 []:=⟨fun _=>False,Seq.nil _ _ _,fun k hk=>hk.elim,by simp[blkOf]⟩
theorem MySeq.extP{α:Type}{E:Elem α}{n0:Nat}{H H':Heap}{a:Option Addr}{n c:Nat}{xs:List α}{M:Nat→Prop}(h:MySeq E n0 H a n c xs)(he:ExtP M H H')(hm:∀k,k<H.size→n0≤k→¬M k):MySeq E n0 H' a n c xs:=by
 obtain⟨G,h1,h2,h3⟩:=h
 exact⟨G,h1.extP he (fun k hk=>hm k (h1.lt k hk) (h3 k hk)) (fun k hk=>hm k (h2 k hk).2.1 (h2 k hk).1),fun k hk=>⟨(h2 k hk).1,Nat.lt_of_lt_of_le (h2 k hk).2.1 he.size,(h2 k hk).2.2⟩,h3⟩
theorem MySeq.ext{α:Type}{E:Elem α}{n0:Nat}{H H':Heap}{a:Option Addr}{n c:Nat}{xs:List α}(h:MySeq E n0 H a n c xs)(he:Ext [] H H'):MySeq E n0 H' a n c xs:=h.extP he.toP (by simp)
theorem MySeq.view{α:Type}{E:Elem α}{n0:Nat}{H:Heap}{a:Option Addr}{n c:Nat}{xs:List α}(h:MySeq E n0 H a n c xs):SeqV E H a xs:=by
 obtain⟨G,h1,_⟩:=h;exact h1.view
theorem MySeq.low{α:Type}{E:Elem α}{n0 n1:Nat}{H:Heap}{a:Option Addr}{n c:Nat}{xs:List α}(h:MySeq E n0 H a n c xs)(hn:n1≤n0):MySeq E n1 H a n c xs:=by
 obtain⟨G,h1,h2,h3⟩:=h
 exact⟨G,h1,fun k hk=>⟨Nat.le_trans hn (h2 k hk).1,(h2 k hk).2⟩,fun k hk=>Nat.le_trans hn (h3 k hk)⟩
theorem MySeq.push{α:Type}{E:Elem α}{n0:Nat}{H:Heap}{a:Option Addr}{n c:Nat}{xs:List α}(h:MySeq E n0 H a n c xs){w:Nat}{e e':TypeId}{z v:List Value}{x:α}(hv:E.ok H v x)(hf:∀k∈E.fp v,n0≤k∧k∉blkOf a)(hs0:n0≤H.size)(hz:z.length=E.sz)(hw:(n+1)*w≤140737488355328)
  {R:Option Addr→Nat→Heap→Prop} (k:∀a' c' H',MySeq E n0 H' a' (n+1) c' (xs++[x])→Ext [] H H'∨(Ext (blkOf a) H H')→(Ext (blkOf a) H H')→R a' c' H') (b:Nat) (H2:Heap) (hn:New H b v e H2) :
  ∃old news:List Value,SRow H2 E.sz n (.slice a n c) old∧SRow H2 E.sz 1 (.slice (some ⟨b,0,none⟩) 1 1) news∧(∀u∈news,Value.oneCell' u=true)∧(n+1)*w≤140737488355328 ∧
   (n+1≤c→roomOf H2 a (n*E.sz) (1*E.sz))∧∀a' c' H',App H2 E.sz e' z a n c old news 1 a' c' H'→R a' c' H':=by
 obtain⟨G,h1,h2,h3⟩:=h
 have hlt:=E.lt hv
 have h1':Seq E H (fun k=>G k∨k∈E.fp v) a n c xs:=h1.mono (fun k _ hk=>.inl hk)
 refine h1'.push (fun k hk=>?_) hv (fun k hk=>.inr hk) hz hw (fun a' c' H' g1 g2 g3=>?_) b H2 hn
 ·rcases hk with hk|hk
  ·exact(h2 k hk).2.2
  ·exact(hf k hk).2
 ·have hsz:=g2.size
  have hlt':∀i,(G i∨i∈E.fp v)→i<H.size:=fun i hi=>by
   rcases hi with hi|hi
   ·exact(h2 i hi).2.1
   ·exact hlt i hi
  refine k a' c' H' ⟨_,g1,fun i hi=>⟨?_,by have:=hlt' i hi;omega,fun hm=>?_⟩,fun i hi=>?_⟩ (.inr g2) g2
  ·rcases hi with hi|hi
   ·exact(h2 i hi).1
   ·exact(hf i hi).1
  ·rcases g3 i hm with h'|h'
   ·rcases hi with hi|hi
    ·exact(h2 i hi).2.2 h'
    ·exact(hf i hi).2 h'
   ·have:=hlt' i hi;omega
  ·rcases g3 i hi with h'|h'
   ·exact h3 i h'
   ·omega
set_option maxHeartbeats 1000000 in
theorem laid_ok(h:Hd){l:List Wr}{a:Option Addr}{c:Nat}{H:Heap}(hl:l.length≤5000)(hf:Full l)(hs:SeqV writeE H a l) :
  Does Tryz.prog 203 [h.v,.slice a l.length c] H fun v H'=>∃a' c',v=.slice a' (cntN l) c'∧MySeq bytesC H.size H' a' (cntN l) c' (laidB h l)∧Ext [] H H':=by
 refine Fn_of_vc Tryz.mixed (vc_laid _ _ _ _ _ _ _ _) ?_
 intro b1 H2 hn2
 have e1:=hn2.eq
 have hs2:=hn2.size
 have hb2:Blk H2 b1 h.cells:=hn2.blk
 refine(stream_ok hl hf (hs.ext hn2.ext)).mono ?_
 rintro _ H4 ⟨⟨a5,c7,rfl,ho4,_⟩,hx4⟩
 refine⟨_,_,_,rfl,(needs_ok l.length H4 (by omega)).mono ?_⟩
 rintro _ _ ⟨rfl,rfl⟩
 have hc3:cntN l≤10000:=by
  rcases Nat.eq_zero_or_pos l.length with h0|h0
  ·rw[cnt_zero' h0];omega
  ·have:=cnt_len h0;omega
 refine⟨_,rfl,?_⟩
 rw[needs_nat]
 refine⟨⟨by omega,by omega⟩,?_⟩
 rw[show((cntN l:Nat):Int)*116=((cntN l*116:Nat):Int)by omega]
 refine(padded_ok (by omega) (by rw[streamB_len hf];omega) (ho4.row _ _)).mono ?_
 rintro _ H12 ⟨⟨a13,c15,rfl,ho12,_⟩,hx12⟩
 rw[show padL (streamB l) (cntN l*116)=bodyB l from rfl]at ho12 ⊢
 have hX12:Ext [] H H12:=(hn2.ext.trans hx4).trans hx12
 have hb12:=(hb2.ext hx4 (by simp)).ext hx12 (by simp)
 have hs12:H2.size≤H12.size:=by have:=hx4.size;have:=hx12.size;omega
 refine⟨_,_,_,rfl,fun a18 l19 c20 n H'=>∃k:Nat,n=k∧k≤cntN l∧l19=k∧MySeq bytesC H12.size H' a18 l19 c20 ((List.range k).map (jblk h l))∧Ext [] H12 H',fun _ _ _ n _=>cntN l - n.toNat,⟨0,rfl,by omega,rfl,MySeq.nil _ _ _,Ext.refl _ _⟩,?_⟩
 rintro a18 l19 c20 _ H22 ⟨k,rfl,hk,el,hm22,hx22⟩
 have el:=el.symm
 subst el
 refine⟨fun hlt=>?_,fun hge=>?_⟩
 ·have hkl:k<cntN l:=by omega
  have hpos:0<l.length:=by
   rcases Nat.eq_zero_or_pos l.length with h0|h0
   ·rw[cnt_zero' h0]at hkl;omega
   ·exact h0
  have hs22:=hx22.size
  have hb22:=hb12.ext hx22 (by simp)
  have ho22:=ho12.ext hx22 (by simp)
  have q:∀{A:Heap},Blk A b1 h.cells→hcell A b1 0=some (.int .i64 h.epoch)∧hcell A b1 (0+1)=some (.int .i64 h.seq):=fun hb=>⟨by rw[hb.cell];rfl,by rw[hb.cell];rfl⟩
  have keep:∀{A B:Heap},ExtP (fun k=>H22.size≤k) A B→Blk A b1 h.cells→Blk B b1 h.cells:=fun he hb=>hb.extP he (by omega)
  refine(nwB_ok H22).mono ?_
  rintro _ H24 ⟨rfl,hw24,hx24⟩
  have hs24:=hx24.size
  refine⟨_,rfl,_,(q (hb22.ext hx24 (by simp))).1,(wuB_ok (n:=4) (.inr ⟨rfl,rfl⟩) (fun k hk=>by show H22.size≤k;omega) (by simp) hw24).mono ?_⟩
  rintro _ H28 ⟨rfl,hw28,hx28⟩
  have hs28:=hx28.size
  have hb28:=keep hx28 (hb22.ext hx24 (by simp))
  refine⟨rfl,_,(q hb28).2,(wuB_ok (n:=4) (.inr ⟨rfl,rfl⟩) (fun k hk=>by show H22.size≤k;omega) (by simp[beU_len]) hw28).mono ?_⟩
  rintro _ H31 ⟨rfl,hw31,hx31⟩
  have hs31:=hx31.size
  refine⟨rfl,(wuB_ok (n:=2) (.inl ⟨rfl,rfl⟩) (fun k hk=>by show H22.size≤k;omega) (by simp[beU_len]) hw31).mono ?_⟩
  rintro _ H33 ⟨rfl,hw33,hx33⟩
  have hs33:=hx33.size
  refine⟨rfl,(wuB_ok (n:=2) (.inl ⟨rfl,rfl⟩) (fun k hk=>by show H22.size≤k;omega) (by simp[beU_len]) hw33).mono ?_⟩
  rintro _ H35 ⟨rfl,hw35,hx35⟩
  have hs35:=hx35.size
  have hX35:ExtP (fun k=>H22.size≤k) H24 H35:=((hx28.trans hx31).trans hx33).trans hx35
  have hx2235:Ext [] H22 H35:=hx24.transP hX35 (fun i hi=>hi)
  have ho35:=ho22.ext hx2235 (by simp)
  have hbl:=bodyB_len hf hpos
  have hk1:(k+1)*116≤cntN l*116:=Nat.mul_le_mul_right _ hkl
  have hcap:=ho35.2.1
  have i1:Int.toNat ((k:Int)*116)=k*116:=by omega
  have i2:Int.toNat (((k:Int)+1)*116)=(k+1)*116:=by omega
  refine⟨rfl,⟨by omega,by omega⟩,⟨by omega,by omega⟩,⟨by omega,by omega⟩,by omega,by omega,by rw[hbl]at hcap;omega,?_⟩
  rintro _ rfl
  rw[i1,i2]
  have hpl:=piece_len hf hkl
  have hrow:SRow H35 1 (((bodyB l).drop (k*116)).take 116).length (.slice (if c15=k*116 then a13 else Option.map (fun x=>Addr.add x (k*116*1)) a13) (((bodyB l).drop (k*116)).take 116).length (c15 - k*116)) (bytesV (((bodyB l).drop (k*116)).take 116)):=by
   rw[hpl]
   have r1:=SRow.drop1 (l':=116) (c':=c15 - k*116) (ho35.row (bodyB l).length c15) (k:=k*116) (by rw[hbl];omega) hcap
   have r2:=SRow.take1 (l':=116) (c':=c15 - k*116) r1 (k:=116) (by rw[hbl];omega)
   have e:bytesV (((bodyB l).drop (k*116)).take 116)=((bytesV (bodyB l)).drop (k*116)).take 116:=by simp[bytesV]
   rw[e];exact r2
  have hsub:(k+1)*116 - k*116=(((bodyB l).drop (k*116)).take 116).length:=by rw[hpl];omega
  rw[hsub]
  refine(wrawB_ok (fun k hk=>by show H22.size≤k;omega) (by simp[beU_len]) (by rw[hpl];decide) hw35 hrow).mono ?_
  rintro _ H38 ⟨rfl,hw38,hx38⟩
  have hs38:=hx38.size
  refine⟨rfl,?_⟩
  have hjb:([]++beU 4 (w64 h.epoch)++beU 4 (w64 h.seq)++beU 2 (w64 (k:Int))++beU 2 (w64 ((cntN l:Nat):Int))++((bodyB l).drop (k*116)).take 116)=jblk h l k:=rfl
  rw[hjb]at hw38
  have hjl:=jblk_len (h:=h) hf hkl
  refine(bytesB_ok (by rw[hjl];decide) hw38).mono ?_
  rintro _ H40 ⟨⟨a41,c43,rfl,ho40,hfr40⟩,hx40⟩
  have hx2240:Ext [] H22 H40:=(hx2235.transP hx38 (fun i hi=>hi)).trans hx40
  have hm40:=hm22.ext hx2240
  have hs40:=hx40.size
  have hafr:∀i∈blkOf a41,H12.size≤i∧i∉blkOf a18:=fun i hi=>by
   have h1:=hfr40 i hi
   refine⟨by omega,fun hm=>?_⟩
   obtain⟨G,g1,_⟩:=hm22
   have:=g1.lt i hm
   omega
  refine⟨_,_,_,rfl,hm40.push (E:=bytesC) (v:=[.slice a41 (jblk h l k).length c43]) ⟨a41,_,c43,rfl,ho40.2.1,ho40.row _ _,ho40.lt⟩ hafr (by omega) rfl (by omega) (fun a48 c49 H50 g1 _ g2=>⟨⟨by omega,by omega⟩,⟨k+1,by omega,by omega,rfl,?_,?_⟩,by simp only[];omega⟩)⟩
  ·rw[List.range_succ,List.map_append];exact g1
  ·exact ext_new (hx22.trans hx2240) g2 (fun i hi=>by obtain⟨G,_,_,g3⟩:=hm22;exact g3 i hi)
 ·have:k=cntN l:=by omega
  subst this
  exact⟨a18,c20,rfl,hm22.low (by omega),hX12.trans hx22⟩
end Go.Proofs
end
section
open Go Go.Vc
namespace Go.Proofs
def Marks(H:Heap)(r:Nat)(out:List Int):Prop:=∃l,MapIs H r l∧∀k,mapGet l k (.bool false)=.bool (decide (k∈out))
theorem MapIs.ext{M:List Nat}{H H':Heap}{r:Nat}{l:List (Int×Value)}(h:MapIs H r l)(he:Ext M H H')(hm:r∉M):MapIs H' r l:=by
 obtain⟨es,c,h1,h2⟩:=h
 exact⟨es,c,by rw[he.keep r (Array.getElem?_eq_some_iff.1 h1).1 hm];exact h1,h2⟩
theorem Marks.ext{M:List Nat}{H H':Heap}{r:Nat}{out:List Int}(h:Marks H r out)(he:Ext M H H')(hm:r∉M):Marks H' r out:=by
 obtain⟨l,h1,h2⟩:=h
 exact⟨l,MapIs.ext h1 he hm,h2⟩
theorem mapGet_set(l:List (Int×Value))(k j:Int)(v z:Value):mapGet (mapSet l k v) j z=if j=k then v else mapGet l j z:=by
 induction l with
 | nil=>
  simp only[mapSet,mapGet]
  by_cases h:j=k
  ·rw[if_pos h,if_pos h.symm]
  ·rw[if_neg h,if_neg (fun e=>h e.symm)]
 | cons p r ih=>
  simp only[mapSet]
  by_cases hp:p.1=k
  ·rw[if_pos hp]
   simp only[mapGet]
   by_cases h:j=k
   ·rw[if_pos h,if_pos h.symm]
   ·rw[if_neg h,if_neg (fun e=>h e.symm),if_neg (fun e=>h (by rw[←e,hp]))]
  ·rw[if_neg hp]
   simp only[mapGet,ih]
   by_cases h:j=k
   ·rw[if_pos h,if_neg (fun e=>hp (by rw[e,h])),if_pos h]
   ·rw[if_neg h,if_neg h]
theorem MapPut.is{H H':Heap}{r:Nat}{l:List (Int×Value)}(h:MapPut H r l H')(hr:r<H.size):MapIs H' r l∧Ext [r] H H':=by
 obtain⟨es,c,h1,rfl,hs⟩:=h
 refine⟨⟨es,c,by rw[Array.getElem?_setIfInBounds,if_pos rfl,if_pos hr],h1,hs⟩,by rw[Array.size_setIfInBounds];exact Nat.le_refl _,fun k hk hm=>?_⟩
 rw[Array.getElem?_setIfInBounds,if_neg (fun e=>hm (by simp[e]))]
theorem _root_.Go.Vc.NewMap.ext{H H':Heap}{r:Nat}(h:NewMap H r H'):Ext [] H H':=by
 obtain⟨rfl,rfl⟩:=h
 exact⟨by simp,fun k hk _=>by rw[Array.getElem?_push,if_neg (by omega)]⟩
theorem marks_new{H H':Heap}{r:Nat}(h:NewMap H r H'):Marks H' r []:=by
 obtain⟨rfl,rfl⟩:=h
 exact⟨[],⟨#[],0,by simp,rfl,MapKept.stamped_empty _⟩,fun k=>by simp[mapGet]⟩
theorem nodup_le:∀(ids out:List Int),out.Nodup→(∀k∈out,k∈ids)→out.length≤ids.length
 | [],out,_,h=>by
  cases out with
  | nil=>simp
  | cons x r=>exact absurd (h x (by simp)) (by simp)
 | x::ids,out,hn,h=>by
  by_cases hx:x∈out
  ·have h1:=nodup_le ids (out.erase x) (hn.erase x) (fun k hk=>by
    rw[hn.mem_erase_iff]at hk
    rcases List.mem_cons.1 (h k hk.2)with e|e
    ·exact absurd e hk.1
    ·exact e)
   rw[List.length_erase_of_mem hx]at h1
   have:0<out.length:=List.length_pos_of_mem hx
   simp only[List.length_cons];omega
  ·have h1:=nodup_le ids out hn (fun k hk=>by
    rcases List.mem_cons.1 (h k hk)with e|e
    ·subst e;exact absurd hk hx
    ·exact e)
   simp only[List.length_cons];omega
end Go.Proofs
end
section
open Go Go.Vc
namespace Go.Proofs
def parseW:Nat→Octs×Bool→List Wr
 | 0,_=>[]
 | n+1,s=>if s.2=true then []else(numU s 4,(rdU (rdU s 4).2 128).1)::parseW n (rdU (rdU s 4).2 128).2
def writesM(b:Octs):List Wr:=parseW (numU (b,false) 2).toNat (rdU (b,false) 2).2
theorem rdU_len(s:Octs×Bool)(n:Nat):(rdU s n).1.length≤n:=by
 unfold rdU;split
 ·simp;omega
 ·simp
theorem numU_lt2(s:Octs×Bool):0≤numU s 2∧numU s 2<65536:=by
 obtain⟨h1,h2⟩:=be_lt (toI_byt (rdU s 2).1)
 have:=pow256 (j:=(toI (rdU s 2).1).length) (k:=2) (by rw[toI_len];exact rdU_len s 2)
 have e:(256:Int) ^ 2=65536:=by decide
 rw[e]at this
 exact⟨h1,Int.lt_of_lt_of_le h2 this⟩
theorem numU_lt4(s:Octs×Bool):0≤numU s 4∧numU s 4<4294967296:=by
 obtain⟨h1,h2⟩:=be_lt (toI_byt (rdU s 4).1)
 have:=pow256 (j:=(toI (rdU s 4).1).length) (k:=4) (by rw[toI_len];exact rdU_len s 4)
 have e:(256:Int) ^ 4=4294967296:=by decide
 rw[e]at this
 exact⟨h1,Int.lt_of_lt_of_le h2 this⟩
theorem parseW_lack(n:Nat){s:Octs×Bool}(h:s.2=true):parseW n s=[]:=by
 cases n with
 | zero=>rfl
 | succ n=>simp only[parseW,if_pos h]
theorem writes_ok{b:Octs}{a:Option Addr}{c:Nat}{H:Heap}(hl:b.length≤140737488355328)(h:SRow H 1 b.length (.slice a b.length c) (bytesV b)) :
  Does Tryz.prog 209 [.slice a b.length c] H fun v H'=>∃a' c',v=.slice a' (writesM b).length c'∧MySeq writeE H.size H' a' (writesM b).length c' (writesM b)∧Ext [] H H':=by
 refine Fn_of_vc Tryz.mixed (vc_writes _ _ _ _ _) ?_
 refine(nrB_ok hl h).mono ?_
 rintro _ H2 ⟨p,rfl,hr2,hx2⟩
 refine⟨_,rfl,(ruB_ok (n:=2) (.inl ⟨rfl,rfl⟩) hr2).mono ?_⟩
 rintro _ H5 ⟨rfl,hr5,hx5⟩
 have hX5:Ext [] H H5:=hx2.transP hx5 (fun i hi=>hi)
 have hs5:=hX5.size
 obtain⟨n0,n1⟩:=numU_lt2 (b,false)
 have hr5':RB (fun k=>H.size≤k∧k<H5.size) H5 p (rdU (b,false) 2).2:=RIs.mono hr5 (fun k hk hg=>⟨hg,hk⟩)
 show ∃_,_
 unfold writesM
 generalize numU (b,false) 2=n at *
 generalize (rdU (b,false) 2).2=s0 at *
 refine⟨_,rfl,fun a9 l10 c11 n12 H13=>∃(L:List Wr) (s:Octs×Bool) (m:Nat),n12=m∧m+L.length≤65535∧L.length=l10∧MySeq writeE H5.size H13 a9 l10 c11 L∧RB (fun k=>H.size≤k∧k<H5.size) H13 p s∧L++parseW m s=parseW n.toNat s0∧Ext [] H H13∧H5.size≤H13.size,fun _ _ _ n _=>n.toNat,
  ⟨[],s0,n.toNat,by omega,by simp;omega,rfl,MySeq.nil _ _ _,hr5',rfl,hX5,Nat.le_refl _⟩,?_⟩
 rintro a9 l10 c11 _ H13 ⟨L,s,m,rfl,hmL,e10,hm13,hr13,hL,hx13,hs13⟩
 subst e10
 have fin:parseW m s=[]→∃a' c',Value.slice a9 L.length c11=.slice a' (parseW n.toNat s0).length c'∧MySeq writeE H.size H13 a' (parseW n.toNat s0).length c' (parseW n.toNat s0)∧Ext [] H H13:=by
  intro e
  rw[e,List.append_nil]at hL
  rw[←hL]
  exact⟨a9,c11,rfl,hm13.low hs5,hx13⟩
 refine⟨fun hlt=>?_,fun hge=>fin (by rw[show m=0 by omega];rfl)⟩
 obtain⟨m,rfl⟩:∃k,m=k+1:=⟨m - 1,by omega⟩
 refine(lackB_ok hr13).mono ?_
 rintro _ _ ⟨rfl,rfl⟩
 refine⟨_,rfl,fun el=>?_,fun el=>fin (parseW_lack _ (by simpa using el))⟩
 rw[parseW,if_neg (by rw[el];simp)]at hL
 refine(ruB_ok (n:=4) (.inr ⟨rfl,rfl⟩) hr13).mono ?_
 rintro _ H18 ⟨rfl,hr18,hx18⟩
 refine⟨_,rfl,(rawB_ok (n:=128) (by decide) hr18).mono ?_⟩
 rintro _ H21 ⟨a22,c24,rfl,hrow,hr21,hx21,hfr21⟩
 refine⟨_,_,_,rfl,?_⟩
 have hxx:=hx18.trans hx21
 have hX21:Ext [] H H21:=hx13.transP hxx (fun i hi=>hi.1)
 have hs18:=hx18.size
 have hs21:=hx21.size
 have hm21:MySeq writeE H5.size H21 a9 L.length c11 L:=hm13.extP hxx (fun k _ hk hm=>by omega)
 have hafr:∀i∈blkOf a22,H5.size≤i∧i∉blkOf a9:=fun i hi=>by
  have h1:=hfr21 i hi
  refine⟨by omega,fun hm=>?_⟩
  obtain⟨G,g1,_⟩:=hm13
  have:=g1.lt i hm
  omega
 refine hm21.push (E:=writeE) (x:=(numU s 4,(rdU (rdU s 4).2 128).1)) (v:=[.int .i64 (numU s 4),.slice a22 (rdU (rdU s 4).2 128).1.length c24]) ⟨a22,_,c24,rfl,hrow,fun k hk=>(hfr21 k hk).2⟩ hafr (by omega) rfl (by omega) (fun a29 c30 H31 g1 _ g2=>⟨⟨by omega,by omega⟩,⟨L++[(numU s 4,(rdU (rdU s 4).2 128).1)],(rdU (rdU s 4).2 128).2,m,by omega,by simp;omega,by simp,g1,?_,by rw[←hL];simp,?_,by have:=g2.size;omega⟩,by simp only[];omega⟩)
 ·exact RIs.extP hr21 g2.toP (fun k hk hm=>by obtain⟨G,_,_,g3⟩:=hm13;have:=g3 k hm;omega)
 ·exact ext_new hX21 g2 (fun i hi=>by obtain⟨G,_,_,g3⟩:=hm13;have:=g3 i hi;omega)
def MayP(l:List Wr)(homes:Int):Prop:=l≠[]∧(∀w∈l,0≤w.1∧w.1<homes∧w.2.length=128)∧(l.map (·.1)).Nodup
instance (l:List Wr) (homes:Int):Decidable (MayP l homes):=by unfold MayP;infer_instance
def mayB(l:List Wr)(homes:Int):Bool:=decide (MayP l homes)
theorem MayP.full{l:List Wr}{homes:Int}(h:MayP l homes):Full l:=fun w hw=>(h.2.1 w hw).2.2
theorem nodup_bound(l:List Int)(n:Nat)(hn:l.Nodup)(hb:∀k∈l,0≤k∧k<n):l.length≤n:=by
 have h1:∀k∈l,k∈(List.range n).map (fun i:Nat=>(i:Int)):=fun k hk=>by
  obtain⟨h0,h1⟩:=hb k hk
  exact List.mem_map.2 ⟨k.toNat,by simp;omega,by omega⟩
 have:=nodup_le _ l hn h1
 simpa using this
theorem MayP.few{l:List Wr}{homes:Int}{n:Nat}(h:MayP l homes)(hn:homes≤n):l.length≤n:=by
 have:=nodup_bound (l.map (·.1)) n h.2.2 (fun k hk=>by
  obtain⟨w,hw,rfl⟩:=List.mem_map.1 hk
  have:=h.2.1 w hw
  omega)
 simpa using this
theorem may_ok{l:List Wr}{a:Option Addr}{c:Nat}(homes:Int){H:Heap}(hl:l.length≤9000000000000)(h:SeqV writeE H a l) :
  Does Tryz.prog 170 [.slice a l.length c,.int .i64 homes] H fun v H'=>v=.bool (mayB l homes)∧Ext [] H H':=by
 refine Fn_of_vc Tryz.mixed (vc_may _ _ _ _ _ _) ?_
 intro r1 H2 hm
 have er:r1=H.size:=hm.1
 have hx2:=hm.ext
 have hs2:H2.size=H.size+1:=by obtain⟨_,rfl⟩:=hm;simp
 refine⟨fun i H'=>∃j:Nat,i=j∧j≤l.length∧Marks H' r1 ((l.take j).map (·.1))∧(∀w∈l.take j,0≤w.1∧w.1<homes∧w.2.length=128)∧((l.take j).map (·.1)).Nodup∧Ext [] H H'∧H2.size≤H'.size,fun i _=>l.length - i.toNat,⟨0,rfl,by omega,marks_new hm,by simp,by simp,hx2,Nat.le_refl _⟩,?_⟩
 rintro _ H6 ⟨j,rfl,hj,hmk,hgood,hnd,hx6,hs6⟩
 refine⟨fun hlt=>?_,fun hge=>⟨?_,hx6⟩⟩
 ·have hi:l[j]?=some l[j]:=List.getElem?_eq_getElem (by omega)
  have htk:l.take (j+1)=l.take j++[l[j]]:=by rw[List.take_add_one,hi];rfl
  have hmem:l[j]∈l:=List.getElem_mem _
  have hsub:∀w∈l.take j,w∈l:=fun w hw=>List.mem_of_mem_take hw
  obtain⟨b7,o8,a10,c12,ea,g0,g1,gr,_⟩:=(h.ext hx6).wr hi
  have bad:∀{H':Heap},¬MayP l homes→Ext [] H H'→Value.bool false=.bool (mayB l homes)∧Ext [] H H':=fun hn he=>⟨by unfold mayB;rw[decide_eq_false hn],he⟩
  have hpre:MayP l homes→((l.take j++[l[j]]).map (·.1)).Nodup:=fun hp=>by
   rw[←htk,List.map_take]
   exact(List.take_sublist _ _).nodup hp.2.2
  generalize l[j]=w at *
  refine⟨by omega,hlt,b7,o8,ea,_,by rw[Int.toNat_natCast];exact g0,a10,_,c12,by rw[Int.toNat_natCast];exact g1,fun b13 H14 hn14=>⟨hn14.blk.cells _ _ (by simp),fun H15 hp15=>?_⟩⟩
  have hb15:Blk H15 b13 [.int .i64 w.1,.slice a10 w.2.length c12]:=by simpa[splice]using hp15.blk hn14.blk (by simp)
  have e13:=hn14.eq
  have hs14:=hn14.size
  have hs15:=hp15.size
  have hX15:Ext [] H6 H15:=ext_new hn14.ext hp15.ext (by simp;omega)
  have hx15:Ext [] H H15:=hx6.trans hX15
  have q0:hcell H15 b13 0=some (.int .i64 w.1):=by rw[hb15.cell];rfl
  refine⟨_,q0,fun e=>bad (fun hp=>by have:=hp.2.1 w hmem;omega) hx15,fun e1=>⟨_,q0,fun e=>bad (fun hp=>by have:=hp.2.1 w hmem;omega) hx15,fun e2=>⟨a10,_,c12,by rw[hb15.cell];rfl,fun e=>bad (fun hp=>by have:=hp.2.1 w hmem;omega) hx15,fun e3=>?_⟩⟩⟩
  obtain⟨lm,hml,hget⟩:=hmk.ext hX15 (by simp)
  refine⟨_,q0,r1,lm,rfl,hml,decide (w.1∈(l.take j).map (·.1)),(hget w.1).symm,fun e=>bad (fun hp=>?_) hx15,fun e=>⟨_,q0,r1,lm,rfl,hml,fun H28 hput=>?_⟩⟩
  ·have:=hpre hp
   rw[List.map_append,List.nodup_append]at this
   exact this.2.2 _ (of_decide_eq_true e) w.1 (by simp) rfl
  ·have hnin:w.1∉(l.take j).map (·.1):=of_decide_eq_false e
   obtain⟨hm28,hx28⟩:=MapPut.is hput (by omega)
   refine⟨⟨by omega,by omega⟩,⟨j+1,by omega,by omega,⟨_,hm28,fun k=>?_⟩,fun x hx=>?_,?_,ext_new hx15 hx28 (by simp;omega),by have:=hx28.size;omega⟩,by simp only[];omega⟩
   ·rw[mapGet_set,hget,htk,List.map_append]
    by_cases hk:k=w.1
    ·subst hk;simp
    ·rw[if_neg hk];simp[hk]
   ·rw[htk]at hx
    rcases List.mem_append.1 hx with hx|hx
    ·exact hgood x hx
    ·simp only[List.mem_singleton]at hx;subst hx;exact⟨by omega,by omega,by omega⟩
   ·rw[htk,List.map_append,List.nodup_append]
    refine⟨hnd,by simp,fun x hx y hy=>?_⟩
    simp only[List.map_cons,List.map_nil,List.mem_singleton]at hy
    subst hy
    exact fun e=>hnin (e▸hx)
 ·have:j=l.length:=by omega
  subst this
  rw[List.take_length]at hgood hnd
  refine congrArg Value.bool (dec_bool ?_)
  unfold mayB
  rw[decide_eq_true_eq]
  constructor
  ·intro h0
   exact⟨fun e=>by rw[e]at h0;simp at h0,hgood,hnd⟩
  ·intro hp
   have:=List.length_pos_iff.2 hp.1
   omega
theorem eqfunc_ok{xs ys:List Octs}{a a':Option Addr}{c c':Nat}{H:Heap}(hl:xs.length≤1000000)(hx:∀x∈xs,x.length≤1000000)(h:SeqV bytesC H a xs)(k:SeqV bytesC H a' ys) :
  Does Tryz.prog 210 [.slice a xs.length c,.slice a' ys.length c',.func (.func 152) #[] #[]] H fun v H'=>v=.bool (decide (xs=ys))∧H=H':=by
 refine Fn_of_vc Tryz.mixed (vc_eqfunc _ _ _ _ _ _ _ _) ?_
 refine⟨fun e=>⟨?_,rfl⟩,fun e=>?_⟩
 ·have:xs≠ys:=fun e'=>e (by rw[e'])
  simp[this]
 refine⟨fun i H'=>H'=H∧∃j:Nat,i=j∧j≤xs.length∧xs.take j=ys.take j,fun i _=>xs.length - i.toNat,⟨rfl,0,rfl,by omega,rfl⟩,?_⟩
 rintro _ _ ⟨rfl,j,rfl,hj,ht⟩
 refine⟨fun hlt=>?_,fun hge=>⟨?_,rfl⟩⟩
 ·have hi:xs[j]?=some xs[j]:=List.getElem?_eq_getElem (by omega)
  have hi':ys[j]?=some (ys[j]'(by omega)):=List.getElem?_eq_getElem (by omega)
  obtain⟨b5,o6,a7,c9,e5,d0,_,dr,_⟩:=h.blk hi
  obtain⟨b8,o9,a10,c12,e8,f0,_,fr,_⟩:=k.blk hi'
  refine⟨by omega,hlt,b5,o6,e5,a7,_,c9,by rw[Int.toNat_natCast];exact d0,by omega,by omega,b8,o9,e8,a10,_,c12,by rw[Int.toNat_natCast];exact f0,(eqB_ok (hx _ (List.getElem_mem _)) dr fr).mono ?_⟩
  rintro _ _ ⟨rfl,rfl⟩
  refine⟨_,rfl,fun hne=>⟨?_,rfl⟩,fun heq=>⟨⟨by omega,by omega⟩,⟨rfl,j+1,by omega,by omega,?_⟩,by simp only[];omega⟩⟩
  ·have:xs≠ys:=fun e'=>by subst e';simp at hne
   simp[this]
  ·rw[List.take_add_one,List.take_add_one,ht,hi,hi']
   have:xs[j]=ys[j]'(by omega):=by simpa using heq
   rw[this]
 ·have e1:j=xs.length:=by omega
  subst e1
  rw[List.take_length,List.take_of_length_le (by omega)]at ht
  simp[ht]
end Go.Proofs
end
section
open Go Go.Vc
namespace Go.Proofs
def restB (blocks:List Octs):Octs := (blocks.map (·.drop 12)).flatten
def wholeB (h:Hd) (blocks:List Octs) (homes:Int):List Wr×Int :=
  match blocks with
  | [] => ([],0)
  | b0::_ =>
    if (blocks.length:Int)<numU (rdU (b0,false) 10).2 2 then ([],0)
    else if mayB (writesM (restB (blocks.take (numU (rdU (b0,false) 10).2 2).toNat))) homes=true∧laidB h (writesM (restB (blocks.take (numU (rdU (b0,false) 10).2 2).toNat)))=blocks.take (numU (rdU (b0,false) 10).2 2).toNat
      then (writesM (restB (blocks.take (numU (rdU (b0,false) 10).2 2).toNat)),numU (rdU (b0,false) 10).2 2) else ([],0)
theorem restB_len {l:List Octs} (h:∀ x∈l,x.length=128):(restB l).length=l.length*116 := by
  unfold restB
  induction l with
  | nil => rfl
  | cons x r ih =>
    have := h x (by simp)
    simp only [List.map_cons,List.flatten_cons,List.length_append,List.length_drop,List.length_cons,ih (fun y hy => h y (by simp [hy])),this]
    omega
theorem restB_snoc (l:List Octs) (x:Octs):restB (l++[x])=restB l++x.drop 12 := by unfold restB; simp
theorem parseW_length:∀ (n:Nat) (s:Octs×Bool),(parseW n s).length≤n
  | 0,_ => by simp [parseW]
  | n+1,s => by
    rw [parseW]
    split
    · simp
    · have := parseW_length n (rdU (rdU s 4).2 128).2
      simp only [List.length_cons]; omega
theorem cnt_few {l:List Wr} (h:l.length≤5000):cntN l≤1000000 := by
  rcases Nat.eq_zero_or_pos l.length with h0 | h0
  · rw [cnt_zero' h0]; omega
  · have := cnt_len h0; omega
set_option maxHeartbeats 1000000 in
theorem whole_ok (h:Hd) {blocks:List Octs} (homes:Int) {a:Option Addr} {c:Nat} {H:Heap} (hb:∀ x∈blocks,x.length=128) (hl:blocks.length≤100000) (hc:blocks.length≤c) (hh:homes≤5000) (hs:SeqV bytesC H a blocks) :
    Does Tryz.prog 191 [h.v,.slice a blocks.length c,.int .i64 homes] H fun v H' => ∃ a' c',v=.tuple #[.slice a' (wholeB h blocks homes).1.length c',.int .i64 (wholeB h blocks homes).2]∧MySeq writeE H.size H' a' (wholeB h blocks homes).1.length c' (wholeB h blocks homes).1∧Ext [] H H' := by
  refine Fn_of_vc Tryz.mixed (vc_whole _ _ _ _ _ _ _ _ _) ?_
  intro b1 H2 hn2
  have e1 := hn2.eq
  have hs2 := hn2.size
  have hb2:Blk H2 b1 h.cells := hn2.blk
  have none':∀ {H':Heap},wholeB h blocks homes=([],0)→Ext [] H H'→∃ a' c',Value.tuple #[.slice none 0 0,.int .i64 0]=.tuple #[.slice a' (wholeB h blocks homes).1.length c',.int .i64 (wholeB h blocks homes).2]∧MySeq writeE H.size H' a' (wholeB h blocks homes).1.length c' (wholeB h blocks homes).1∧Ext [] H H' := by
    intro H' e he
    rw [e]
    exact ⟨none,0,rfl,MySeq.nil _ _ _,he⟩
  refine ⟨fun e0 => none' (by have:blocks=[] := List.length_eq_zero_iff.1 (by omega)
                              rw [this]; rfl) hn2.ext,fun e0 => ?_⟩
  obtain ⟨b0,hb0⟩:∃ b0,blocks[0]?=some b0 := ⟨_,List.getElem?_eq_getElem (by omega)⟩
  have hb0l := hb b0 (List.mem_of_getElem? hb0)
  have hcons:∃ r,blocks=b0::r := by
    cases blocks with
    | nil => simp at hb0
    | cons x r => simp at hb0; subst hb0; exact ⟨r,rfl⟩
  have hw:wholeB h blocks homes=(if (blocks.length:Int)<numU (rdU (b0,false) 10).2 2 then ([],0)
    else if mayB (writesM (restB (blocks.take (numU (rdU (b0,false) 10).2 2).toNat))) homes=true∧laidB h (writesM (restB (blocks.take (numU (rdU (b0,false) 10).2 2).toNat)))=blocks.take (numU (rdU (b0,false) 10).2 2).toNat
      then (writesM (restB (blocks.take (numU (rdU (b0,false) 10).2 2).toNat)),numU (rdU (b0,false) 10).2 2) else ([],0)) := by
    obtain ⟨r,rfl⟩ := hcons
    rfl
  obtain ⟨b3,o4,a5,c7,ea,d0,dc,dr,_⟩ := (hs.ext hn2.ext).blk hb0
  refine ⟨by omega,by omega,b3,o4,ea,a5,_,c7,by simpa using d0,(nrB_ok (by omega) dr).mono ?_⟩
  rintro _ H9 ⟨p,rfl,hr9,hx9⟩
  refine ⟨_,rfl,(rawB_ok (n := 10) (by decide) hr9).mono ?_⟩
  rintro _ H12 ⟨a13,c15,rfl,_,hr12,hx12,_⟩
  refine ⟨_,_,_,rfl,(ruB_ok (n := 2) (.inl ⟨rfl,rfl⟩) hr12).mono ?_⟩
  rintro _ H17 ⟨rfl,_,hx17⟩
  have hx217:Ext [] H2 H17 := hx9.transP (hx12.trans hx17) (fun i hi => hi)
  have hX17:Ext [] H H17 := hn2.ext.trans hx217
  obtain ⟨c0,c1⟩ := numU_lt2 (rdU (b0,false) 10).2
  have hb17 := hb2.ext hx217 (by simp)
  generalize numU (rdU (b0,false) 10).2 2=cnt at *
  refine ⟨_,rfl,fun e => none' (by rw [hw,if_pos e]) hX17,fun e => ⟨c0,by omega,?_⟩⟩
  rw [if_neg e] at hw
  obtain ⟨m,rfl⟩:∃ m:Nat,cnt=m := ⟨cnt.toNat,by omega⟩
  rw [Int.toNat_natCast] at hw ⊢
  have hml:m≤blocks.length := by omega
  have hs17 := hs.ext hX17
  refine ⟨fun a21 l22 c23 n H' => ∃ j:Nat,n=j∧j≤m∧(restB (blocks.take j)).length=l22∧Own H' 1 a21 l22 c23 (bytesV (restB (blocks.take j)))∧(∀ k∈blkOf a21,H17.size≤k)∧Ext [] H H'∧Ext [] H17 H',fun _ _ _ n _ => m - n.toNat,
    ⟨0,rfl,by omega,rfl,Own.nil _ _,by simp [blkOf],hX17,Ext.refl _ _⟩,?_⟩
  rintro a21 l22 c23 _ H25 ⟨j,rfl,hj,el,ho25,hfr25,hx25,hx1725⟩
  have hlen:(restB (blocks.take j)).length=j*116 := by
    rw [restB_len (fun x hx => hb x (List.mem_of_mem_take hx)),List.length_take]
    congr 1; omega
  refine ⟨fun hlt => ?_,fun hge => ?_⟩
  · have hi:blocks[j]?=some blocks[j] := List.getElem?_eq_getElem (by omega)
    have htk:blocks.take (j+1)=blocks.take j++[blocks[j]] := by rw [List.take_add_one,hi]; rfl
    have hx128 := hb blocks[j] (List.getElem_mem _)
    obtain ⟨b26,o27,a28,c30,e26,f0,fc,fr,_⟩ := (hs.ext hx25).blk hi
    generalize blocks[j]=x at *
    refine ⟨by omega,hlt,b26,o27,e26,a28,_,c30,by rw [Int.toNat_natCast]; exact f0,by omega,by omega,?_⟩
    rintro _ rfl
    have r1 := SRow.drop1 (l' := x.length - 12) (c' := c30 - 12) fr (k := 12) (by omega) fc
    have e12:Int.toNat 12=12 := rfl
    rw [e12]
    have ed:bytesV (x.drop 12)=(bytesV x).drop 12 := by simp [bytesV]
    refine ⟨bytesV (restB (blocks.take j)),bytesV (x.drop 12),ho25.row _ _,by rw [ed]; exact r1,bytesV_one _,by omega,fun hle => ho25.room (n := x.length - 12) hle,fun a34 c35 H36 happ => ?_⟩
    obtain ⟨ho36,hx36,hfr36⟩ := happ.own ho25 (ho25.row _ _) (by rw [bytesV_length,List.length_drop]; omega) rfl
    have hX36 := ext_new hx25 hx36 (fun k hk => by have := hfr25 k hk; have := hX17.size; omega)
    refine ⟨⟨by omega,by omega⟩,⟨j+1,by omega,by omega,by rw [htk,restB_snoc,List.length_append,List.length_drop]; omega,by rw [htk,restB_snoc,bytesV_append]; exact ho36,fun k hk => ?_,hX36,?_⟩,by simp only []; omega⟩
    · rcases hfr36 k hk with h' | h'
      · exact hfr25 k h'
      · have := hx1725.size; omega
    · exact ext_new hx1725 hx36 hfr25
  · have:j=m := by omega
    subst this
    subst el
    refine (writes_ok (by omega) (ho25.row _ _)).mono ?_
    rintro _ H38 ⟨a39,c41,rfl,hm38,hx38⟩
    have hwl:(writesM (restB (blocks.take j))).length≤9000000000000 := by
      have := parseW_length (numU (restB (blocks.take j),false) 2).toNat (rdU (restB (blocks.take j),false) 2).2
      have := numU_lt2 (restB (blocks.take j),false)
      unfold writesM; omega
    generalize writesM (restB (blocks.take j))=l at *
    refine ⟨_,_,_,rfl,(may_ok homes hwl hm38.view).mono ?_⟩
    rintro _ H43 ⟨rfl,hx43⟩
    have hX43 := (hx25.trans hx38).trans hx43
    refine ⟨_,rfl,fun ef => none' (by rw [hw,if_neg (fun hh => by rw [hh.1] at ef; cases ef)]) hX43,fun ef => ?_⟩
    have hmay:mayB l homes=true := by simpa using ef
    have hP:MayP l homes := of_decide_eq_true hmay
    have hb43:Blk H43 b1 h.cells := ((hb17.ext hx1725 (by simp)).ext hx38 (by simp)).ext hx43 (by simp)
    have hm43 := hm38.ext hx43
    refine ⟨h.epoch,by rw [hb43.cell]; rfl,h.seq,by rw [hb43.cell]; rfl,h.size,by rw [hb43.cell]; rfl,by omega,by omega,(laid_ok h (hP.few (n := 5000) (by omega)) hP.full hm43.view).mono ?_⟩
    rintro _ H49 ⟨a50,c52,rfl,hm49,hx49⟩
    have hX49 := hX43.trans hx49
    have htl:(blocks.take j).length=j := by rw [List.length_take]; omega
    have heq := eqfunc_ok (xs := laidB h l) (ys := blocks.take j) (a := a50) (a' := a) (c := c52) (c' := c) (H := H49) (by rw [laidB_len]; exact cnt_few (hP.few (n := 5000) (by omega))) (fun x hx => by
      obtain ⟨k,hk,rfl⟩ := List.mem_map.1 hx
      rw [jblk_len hP.full (by simpa using hk)]; decide) hm49.view ((hs.ext hX49).take1 j)
    rw [laidB_len,htl] at heq
    refine ⟨_,_,_,rfl,heq.mono ?_⟩
    rintro _ _ ⟨rfl,rfl⟩
    refine ⟨_,rfl,fun en => none' (by rw [hw,if_neg (fun hh => by simp [hh.2] at en)]) hX49,fun en => ?_⟩
    have hq:laidB h l=blocks.take j := by simpa using en
    rw [hw,if_pos ⟨hmay,hq⟩]
    exact ⟨a39,c41,rfl,(hm43.ext hx49).low (by have := hx25.size; omega),hX49⟩
end Go.Proofs
end
section
open Go Go.Vc
namespace Go.Proofs
theorem vc_keys(x0:Option Nat) (H:Heap) (R:Value→Heap→Prop):Walk Tryz.prog 212 [] [.map x0] H R=(∀b1 H2,New H b1 [.map x0] 134 H2→R (.func (.func 220) #[] #[.pointer (some ⟨b1,0,none⟩)]) H2):=by kernel_rfl
theorem vc_gohome(pb0:Nat) (H:Heap) (R:Value→Heap→Prop):Walk Tryz.prog 192 [] [.pointer (some ⟨pb0,0,none⟩)] H R=(∃b1 o2:Nat,(some (⟨pb0,0,none⟩:Addr))=some (⟨b1,o2,none⟩:Addr)∧∃m3:Option Nat,hcell H b1 (o2+5)=some (.map m3)∧Does Tryz.prog 212 [.map m3] H fun v4 H5=>∃f6:FuncId,∃fa7:Array Value,∃fc8:Array Value,v4=(.func (.func f6) fa7 fc8)∧Does Tryz.prog 211 [.func (.func f6) fa7 fc8] H5 fun v9 H10=>∃a11 l12 c13,v9=(.slice a11 l12 c13)∧∃I14:Int→Heap→Prop,∃μ15:Int→Heap→Nat,(I14 0 H10) ∧∀n16 H17,I14 n16 H17→(((n16<(l12:Int))→(0:Int)≤n16∧n16<(l12:Int)∧∃b18 o19:Nat,a11=some (⟨b18,o19,none⟩:Addr)∧∃n20,hcell H17 b18 (o19+(Int.toNat n16))=some (.int .i64 n20)∧∃b21 o22:Nat,(some (⟨pb0,0,none⟩:Addr))=some (⟨b21,o22,none⟩:Addr)∧∃p23:Option Addr,hcell H17 b21 o22=some (.pointer p23)∧∃b24 o25:Nat,(some (⟨pb0,0,none⟩:Addr))=some (⟨b24,o25,none⟩:Addr)∧∃n26,hcell H17 b24 ((o25+1)+2)=some (.int .i64 n26)∧In64 (1+n26) ∧In64 ((1+n26)+n20) ∧∃b27 o28:Nat,(some (⟨pb0,0,none⟩:Addr))=some (⟨b27,o28,none⟩:Addr)∧∃m29:Option Nat,hcell H17 b27 (o28+5)=some (.map m29)∧∃r30:Nat,∃l31:List (Int×Value),m29=some r30∧MapIs H17 r30 l31∧∃a32 l33 c34,(.slice a32 l33 c34)=mapGet l31 n20 (.slice none 0 0)∧Does Tryz.prog 23 [.pointer p23,.int .i64 ((1+n26)+n20),.slice a32 l33 c34] H17 fun v35 H36=>∃n37,v35=(.int .i64 n37)∧(((n37≠0)→R (.int .i64 n37) H36)∧(¬(n37≠0)→In64 (n16+1) ∧(I14 (n16+1) H36)∧μ15 (n16+1) H36<μ15 n16 H17)))∧(¬(n16<(l12:Int))→∃b38 o39:Nat,(some (⟨pb0,0,none⟩:Addr))=some (⟨b38,o39,none⟩:Addr)∧∃p40:Option Addr,hcell H17 b38 o39=some (.pointer p40)∧Does Tryz.prog 25 [.pointer p40] H17 fun v41 H42=>∃n43,v41=(.int .i64 n43)∧R (.int .i64 n43) H42))):=by kernel_rfl
theorem vc_begin(pb0:Nat) (x1_0:Int) (x1_1:Int) (x1_2:Int) (H:Heap) (R:Value→Heap→Prop):Walk Tryz.prog 193 [] [.pointer (some ⟨pb0,0,none⟩),.agg #[.int .i64 x1_0,.int .i64 x1_1,.int .i64 x1_2]] H R=(∀b1 H2,New H b1 [.int .i64 x1_0,.int .i64 x1_1,.int .i64 x1_2] 184 H2→∃b3 o4:Nat,(some (⟨pb0,0,none⟩:Addr))=some (⟨b3,o4,none⟩:Addr)∧∃p5:Option Addr,hcell H2 b3 o4=some (.pointer p5)∧∃n6,hcell H2 b1 0=some (.int .i64 n6)∧∃n7,hcell H2 b1 (0+1)=some (.int .i64 n7)∧∃n8,hcell H2 b1 (0+1+1)=some (.int .i64 n8)∧Does Tryz.prog 178 [.agg #[.int .i64 n6,.int .i64 n7,.int .i64 n8]] H2 fun v9 H10=>∃a11 l12 c13,v9=(.slice a11 l12 c13)∧isL H10 b3 o4 [.pointer p5]∧Does Tryz.prog 23 [.pointer p5,.int .i64 0,.slice a11 l12 c13] H10 fun v14 H15=>∃n16,v14=(.int .i64 n16)∧(((n16≠0)→R (.int .i64 n16) H15)∧(¬(n16≠0)→∃b17 o18:Nat,(some (⟨pb0,0,none⟩:Addr))=some (⟨b17,o18,none⟩:Addr)∧∃p19:Option Addr,hcell H15 b17 o18=some (.pointer p19)∧Does Tryz.prog 25 [.pointer p19] H15 fun v20 H21=>∃n22,v20=(.int .i64 n22)∧(((n22≠0)→R (.int .i64 n22) H21)∧(¬(n22≠0)→∃n23,hcell H21 b1 0=some (.int .i64 n23)∧∃n24,hcell H21 b1 (0+1)=some (.int .i64 n24)∧∃n25,hcell H21 b1 (0+1+1)=some (.int .i64 n25)∧∀r26:Nat,∀H27:Heap,NewMap H21 r26 H27→∃b28 o29:Nat,(some (⟨pb0,0,none⟩:Addr))=some (⟨b28,o29,none⟩:Addr)∧Cells H27 b28 (o29+1) 3∧∀H30,Puts H27 b28 (o29+1) [.int .i64 n23,.int .i64 n24,.int .i64 n25] H30→∃b31 o32:Nat,(some (⟨pb0,0,none⟩:Addr))=some (⟨b31,o32,none⟩:Addr)∧Cells H30 b31 (o32+4) 1∧∀H33,Puts H30 b31 (o32+4) [.int .i64 0] H33→∃b34 o35:Nat,(some (⟨pb0,0,none⟩:Addr))=some (⟨b34,o35,none⟩:Addr)∧Cells H33 b34 (o35+5) 1∧∀H36,Puts H33 b34 (o35+5) [.map (some r26)] H36→R (.int .i64 0) H36))))):=by kernel_rfl
theorem vc_recover(pb0:Nat) (H:Heap) (R:Value→Heap→Prop):Walk Tryz.prog 145 [] [.pointer (some ⟨pb0,0,none⟩)] H R=(∃b1 o2:Nat,(some (⟨pb0,0,none⟩:Addr))=some (⟨b1,o2,none⟩:Addr)∧∃n3,hcell H b1 ((o2+1)+2)=some (.int .i64 n3)∧∃I4:Option Addr→Nat→Nat→Int→Heap→Prop,∃μ5:Option Addr→Nat→Nat→Int→Heap→Nat,(I4 none 0 0 0 H) ∧∀a6 l7 c8,∀n9:Int,∀H10:Heap,I4 a6 l7 c8 n9 H10→(((n9<n3)→∃b11 o12:Nat,(some (⟨pb0,0,none⟩:Addr))=some (⟨b11,o12,none⟩:Addr)∧∃p13:Option Addr,hcell H10 b11 o12=some (.pointer p13)∧In64 (1+n9) ∧Does Tryz.prog 59 [.pointer p13,.int .i64 (1+n9)] H10 fun v14 H15=>∃a16 l17 c18,∃n19,v14=(.tuple #[.slice a16 l17 c18,.int .i64 n19])∧(((n19≠0)→R (.int .i64 n19) H15)∧(¬(n19≠0)→∀b20 H21,New H15 b20 [.slice a16 l17 c18] 33 H21→∃old22 new23:List Value,SRow H21 1 l7 (.slice a6 l7 c8) old22∧SRow H21 1 1 (.slice (some ⟨b20,0,none⟩) 1 1) new23∧(∀u∈new23,Value.oneCell' u=true)∧(l7+1)*24≤140737488355328∧(l7+1≤c8→roomOf H21 a6 (l7*1) (1*1))∧∀a24:Option Addr,∀c25:Nat,∀H26,App H21 1 33 [.slice none 0 0] a6 l7 c8 old22 new23 1 a24 c25 H26→In64 (n9+1) ∧(I4 a24 (l7+1) c25 (n9+1) H26)∧μ5 a24 (l7+1) c25 (n9+1) H26<μ5 a6 l7 c8 n9 H10)))∧(¬(n9<n3)→∃I27:Option Addr→Nat→Nat→Heap→Prop,∃μ28:Option Addr→Nat→Nat→Heap→Nat,(I27 a6 l7 c8 H10) ∧∀a29 l30 c31,∀H32:Heap,I27 a29 l30 c31 H32→∃b33 o34:Nat,(some (⟨pb0,0,none⟩:Addr))=some (⟨b33,o34,none⟩:Addr)∧∃n35,hcell H32 b33 (o34+1)=some (.int .i64 n35)∧∃n36,hcell H32 b33 (o34+1+1)=some (.int .i64 n36)∧∃n37,hcell H32 b33 (o34+1+1+1)=some (.int .i64 n37)∧Does Tryz.prog 147 [.pointer (some ⟨pb0,0,none⟩)] H32 fun v38 H39=>∃n40,v38=(.int .i64 n40)∧isL H39 b33 (o34+1) [.int .i64 n35,.int .i64 n36,.int .i64 n37]∧Does Tryz.prog 191 [.agg #[.int .i64 n35,.int .i64 n36,.int .i64 n37],.slice a29 l30 c31,.int .i64 n40] H39 fun v41 H42=>∃a43 l44 c45,∃n46,v41=(.tuple #[.slice a43 l44 c45,.int .i64 n46])∧(((n46=0)→Does Tryz.prog 192 [.pointer (some ⟨pb0,0,none⟩)] H42 fun v47 H48=>∃n49,v47=(.int .i64 n49)∧(((n49≠0)→R (.int .i64 n49) H48)∧(¬(n49≠0)→∃b50 o51:Nat,(some (⟨pb0,0,none⟩:Addr))=some (⟨b50,o51,none⟩:Addr)∧∃n52,hcell H48 b50 (o51+1)=some (.int .i64 n52)∧In64 (n52+1) ∧∃b53 o54:Nat,(some (⟨pb0,0,none⟩:Addr))=some (⟨b53,o54,none⟩:Addr)∧∃n55,hcell H48 b53 ((o54+1)+2)=some (.int .i64 n55)∧Does Tryz.prog 193 [.pointer (some ⟨pb0,0,none⟩),.agg #[.int .i64 (n52+1),.int .i64 1,.int .i64 n55]] H48 fun v56 H57=>∃n58,v56=(.int .i64 n58)∧R (.int .i64 n58) H57)))∧(¬(n46=0)→∃I59:Int→Heap→Prop,∃μ60:Int→Heap→Nat,(I59 0 H42) ∧∀n61 H62,I59 n61 H62→(((n61<(l44:Int))→(0:Int)≤n61∧n61<(l44:Int)∧∃b63 o64:Nat,a43=some (⟨b63,o64,none⟩:Addr)∧∃n65,hcell H62 b63 (o64+(Int.toNat n61)*2)=some (.int .i64 n65)∧∃a66 l67 c68,hcell H62 b63 (o64+(Int.toNat n61)*2+1)=some (.slice a66 l67 c68)∧∀b69 H70,New H62 b69 [.int .i64 0,.slice none 0 0] 162 H70→Cells H70 b69 0 2∧∀H71,Puts H70 b69 0 [.int .i64 n65,.slice a66 l67 c68] H71→∃b72 o73:Nat,(some (⟨pb0,0,none⟩:Addr))=some (⟨b72,o73,none⟩:Addr)∧∃m74:Option Nat,hcell H71 b72 (o73+5)=some (.map m74)∧∃n75,hcell H71 b69 0=some (.int .i64 n75)∧∃a76 l77 c78,hcell H71 b69 (0+1)=some (.slice a76 l77 c78)∧∃r79:Nat,∃l80:List (Int×Value),m74=some r79∧MapIs H71 r79 l80∧∀H81,MapPut H71 r79 (mapSet l80 n75 (.slice a76 l77 c78)) H81→In64 (n61+1) ∧(I59 (n61+1) H81)∧μ60 (n61+1) H81<μ60 n61 H62)∧(¬(n61<(l44:Int))→(0:Int)≤n46∧n46≤(l30:Int)∧∀a82:Option Addr,a82=(if c31=(Int.toNat n46)then a29 else Option.map (fun x=>Addr.add x ((Int.toNat n46)*1)) a29)→∃b83 o84:Nat,(some (⟨pb0,0,none⟩:Addr))=some (⟨b83,o84,none⟩:Addr)∧∃n85,hcell H62 b83 (o84+1+1)=some (.int .i64 n85)∧In64 (n85+1) ∧∃b86 o87:Nat,(some (⟨pb0,0,none⟩:Addr))=some (⟨b86,o87,none⟩:Addr)∧Cells H62 b86 (o87+1+1) 1∧∀H88,Puts H62 b86 (o87+1+1) [.int .i64 (n85+1)] H88→((I27 a82 (l30 - (Int.toNat n46)) (c31 - (Int.toNat n46)) H88)∧μ28 a82 (l30 - (Int.toNat n46)) (c31 - (Int.toNat n46)) H88<μ28 a29 l30 c31 H32)))))))):=by kernel_rfl
theorem vc_open(x0:Option Addr) (H:Heap) (R:Value→Heap→Prop):Walk Tryz.prog 92 [] [.pointer x0] H R=((((x0:Option Addr)=none)→R (.tuple #[.pointer none,.int .i64 1]) H)∧(¬((x0:Option Addr)=none)→Does Tryz.prog 144 [.pointer x0] H fun v1 H2=>∃n3 n4,∃n5 n6,v1=(.tuple #[.agg #[.int .i64 n3,.int .i64 n4,.int .i64 n5],.int .i64 n6])∧∀b7 H8,New H2 b7 [.int .i64 0,.int .i64 0,.int .i64 0] 184 H8→Cells H8 b7 0 3∧∀H9,Puts H8 b7 0 [.int .i64 n3,.int .i64 n4,.int .i64 n5] H9→(((n6≠0)→R (.tuple #[.pointer none,.int .i64 n6]) H9)∧(¬(n6≠0)→∃n10,hcell H9 b7 0=some (.int .i64 n10)∧∃n11,hcell H9 b7 (0+1)=some (.int .i64 n11)∧∃n12,hcell H9 b7 (0+1+1)=some (.int .i64 n12)∧∀r13:Nat,∀H14:Heap,NewMap H9 r13 H14→∀b15 H16,New H14 b15 [.pointer x0,.int .i64 n10,.int .i64 n11,.int .i64 n12,.int .i64 0,.map (some r13),.bool false] 188 H16→Does Tryz.prog 145 [.pointer (some ⟨b15,0,none⟩)] H16 fun v17 H18=>∃n19,v17=(.int .i64 n19)∧(((n19≠0)→R (.tuple #[.pointer none,.int .i64 n19]) H18)∧(¬(n19≠0)→R (.tuple #[.pointer (some ⟨b15,0,none⟩),.int .i64 0]) H18)))))):=by kernel_rfl
theorem vc_format(x0:Option Addr) (x1:Int) (H:Heap) (R:Value→Heap→Prop):Walk Tryz.prog 116 [] [.pointer x0,.int .i64 x1] H R=((((x0:Option Addr)=none)→R (.int .i64 1) H)∧(¬((x0:Option Addr)=none)→Does Tryz.prog 177 [.pointer x0,.int .i64 x1] H fun v1 H2=>∃n3,v1=(.int .i64 n3)∧(((n3<0)→R (.int .i64 1) H2)∧(¬(n3<0)→∃I4:Int→Heap→Prop,∃μ5:Int→Heap→Nat,(I4 0 H2) ∧∀n6 H7,I4 n6 H7→(((n6<x1)→In64 (1+n6) ∧(0:Int)≤128∧(128:Int)≤128∧(1:Int)*128≤281474976710656∧∀b8 H9,New H7 b8 (List.replicate (Int.toNat 128) (.int .u8 0)) 5 H9→Does Tryz.prog 23 [.pointer x0,.int .i64 (1+n6),.slice (some ⟨b8,0,none⟩) (Int.toNat 128) (Int.toNat 128)] H9 fun v10 H11=>∃n12,v10=(.int .i64 n12)∧(((n12≠0)→R (.int .i64 n12) H11)∧(¬(n12≠0)→In64 (n6+1) ∧(I4 (n6+1) H11)∧μ5 (n6+1) H11<μ5 n6 H7)))∧(¬(n6<x1)→Does Tryz.prog 178 [.agg #[.int .i64 1,.int .i64 1,.int .i64 x1]] H7 fun v13 H14=>∃a15 l16 c17,v13=(.slice a15 l16 c17)∧Does Tryz.prog 23 [.pointer x0,.int .i64 0,.slice a15 l16 c17] H14 fun v18 H19=>∃n20,v18=(.int .i64 n20)∧(((n20≠0)→R (.int .i64 n20) H19)∧(¬(n20≠0)→Does Tryz.prog 25 [.pointer x0] H19 fun v21 H22=>∃n23,v21=(.int .i64 n23)∧R (.int .i64 n23) H22)))))))):=by kernel_rfl
theorem vc_jhome(pb0:Nat) (H:Heap) (R:Value→Heap→Prop):Walk Tryz.prog 147 [] [.pointer (some ⟨pb0,0,none⟩)] H R=(∃b1 o2:Nat,(some (⟨pb0,0,none⟩:Addr))=some (⟨b1,o2,none⟩:Addr)∧∃p3:Option Addr,hcell H b1 o2=some (.pointer p3)∧∃b4 o5:Nat,(some (⟨pb0,0,none⟩:Addr))=some (⟨b4,o5,none⟩:Addr)∧∃n6,hcell H b4 ((o5+1)+2)=some (.int .i64 n6)∧Does Tryz.prog 177 [.pointer p3,.int .i64 n6] H fun v7 H8=>∃n9,v7=(.int .i64 n9)∧R (.int .i64 n9) H8):=by kernel_rfl
theorem vc_free(pb0:Nat) (H:Heap) (R:Value→Heap→Prop):Walk Tryz.prog 171 [] [.pointer (some ⟨pb0,0,none⟩)] H R=(∃b1 o2:Nat,(some (⟨pb0,0,none⟩:Addr))=some (⟨b1,o2,none⟩:Addr)∧∃n3,hcell H b1 ((o2+1)+2)=some (.int .i64 n3)∧∃b4 o5:Nat,(some (⟨pb0,0,none⟩:Addr))=some (⟨b4,o5,none⟩:Addr)∧∃n6,hcell H b4 (o5+4)=some (.int .i64 n6)∧In64 (n3 - n6) ∧R (.int .i64 (n3 - n6)) H):=by kernel_rfl
theorem vc_jdead(pb0:Nat) (H:Heap) (R:Value→Heap→Prop):Walk Tryz.prog 111 [] [.pointer (some ⟨pb0,0,none⟩)] H R=(∃b1 o2:Nat,(some (⟨pb0,0,none⟩:Addr))=some (⟨b1,o2,none⟩:Addr)∧∃t3,hcell H b1 (o2+6)=some (.bool t3)∧R (.bool t3) H):=by kernel_rfl
theorem vc_ends(pb0:Nat) (x1:Int) (H:Heap) (R:Value→Heap→Prop):Walk Tryz.prog 173 [] [.pointer (some ⟨pb0,0,none⟩),.int .i64 x1] H R=(∃b1 o2:Nat,(some (⟨pb0,0,none⟩:Addr))=some (⟨b1,o2,none⟩:Addr)∧∃t3,hcell H b1 (o2+6)=some (.bool t3)∧((t3=true→∃b4 o5:Nat,(some (⟨pb0,0,none⟩:Addr))=some (⟨b4,o5,none⟩:Addr)∧Cells H b4 (o5+6) 1∧∀H6,Puts H b4 (o5+6) [.bool true] H6→R (.int .i64 x1) H6)∧(t3=false→∃b7 o8:Nat,(some (⟨pb0,0,none⟩:Addr))=some (⟨b7,o8,none⟩:Addr)∧Cells H b7 (o8+6) 1∧∀H9,Puts H b7 (o8+6) [.bool (@decide ((x1:Int)=4) (Classical.propDecidable _))] H9→R (.int .i64 x1) H9))):=by kernel_rfl
theorem vc_jread(pb0:Nat) (x1:Int) (H:Heap) (R:Value→Heap→Prop):Walk Tryz.prog 146 [] [.pointer (some ⟨pb0,0,none⟩),.int .i64 x1] H R=((((x1:Int)<0)→R (.tuple #[.slice none 0 0,.int .i64 1]) H)∧(¬((x1:Int)<0)→Does Tryz.prog 147 [.pointer (some ⟨pb0,0,none⟩)] H fun v1 H2=>∃n3,v1=(.int .i64 n3)∧(((n3≤x1)→R (.tuple #[.slice none 0 0,.int .i64 1]) H2)∧(¬(n3≤x1)→∃b4 o5:Nat,(some (⟨pb0,0,none⟩:Addr))=some (⟨b4,o5,none⟩:Addr)∧∃t6,hcell H2 b4 (o5+6)=some (.bool t6)∧((t6=true→R (.tuple #[.slice none 0 0,.int .i64 4]) H2)∧(t6=false→∃b7 o8:Nat,(some (⟨pb0,0,none⟩:Addr))=some (⟨b7,o8,none⟩:Addr)∧∃m9:Option Nat,hcell H2 b7 (o8+5)=some (.map m9)∧∃r10:Nat,∃l11:List (Int×Value),m9=some r10∧MapIs H2 r10 l11∧∃a12 l13 c14,(.slice a12 l13 c14)=mapGet l11 x1 (.slice none 0 0)∧(((mapHas l11 x1)=true→Does Tryz.prog 89 [.slice a12 l13 c14] H2 fun v15 H16=>∃a17 l18 c19,v15=(.slice a17 l18 c19)∧R (.tuple #[.slice a17 l18 c19,.int .i64 0]) H16)∧((mapHas l11 x1)=false→∃b20 o21:Nat,(some (⟨pb0,0,none⟩:Addr))=some (⟨b20,o21,none⟩:Addr)∧∃p22:Option Addr,hcell H2 b20 o21=some (.pointer p22)∧∃b23 o24:Nat,(some (⟨pb0,0,none⟩:Addr))=some (⟨b23,o24,none⟩:Addr)∧∃n25,hcell H2 b23 ((o24+1)+2)=some (.int .i64 n25)∧In64 (1+n25) ∧In64 ((1+n25)+x1) ∧Does Tryz.prog 59 [.pointer p22,.int .i64 ((1+n25)+x1)] H2 fun v26 H27=>∃a28 l29 c30,∃n31,v26=(.tuple #[.slice a28 l29 c30,.int .i64 n31])∧Does Tryz.prog 173 [.pointer (some ⟨pb0,0,none⟩),.int .i64 n31] H27 fun v32 H33=>∃n34,v32=(.int .i64 n34)∧R (.tuple #[.slice a28 l29 c30,.int .i64 n34]) H33)))))))):=by kernel_rfl
theorem vc_jlay(pb0:Nat) (x1:Option Addr) (x1l:Nat) (x1c:Nat) (H:Heap) (R:Value→Heap→Prop):Walk Tryz.prog 174 [] [.pointer (some ⟨pb0,0,none⟩),.slice x1 x1l x1c] H R=(∃b1 o2:Nat,(some (⟨pb0,0,none⟩:Addr))=some (⟨b1,o2,none⟩:Addr)∧∃n3,hcell H b1 (o2+1)=some (.int .i64 n3)∧∃n4,hcell H b1 (o2+1+1)=some (.int .i64 n4)∧∃n5,hcell H b1 (o2+1+1+1)=some (.int .i64 n5)∧Does Tryz.prog 203 [.agg #[.int .i64 n3,.int .i64 n4,.int .i64 n5],.slice x1 x1l x1c] H fun v6 H7=>∃a8 l9 c10,v6=(.slice a8 l9 c10)∧∃I11:Int→Heap→Prop,∃μ12:Int→Heap→Nat,(I11 0 H7) ∧∀n13 H14,I11 n13 H14→(((n13<(l9:Int))→(0:Int)≤n13∧n13<(l9:Int)∧∃b15 o16:Nat,a8=some (⟨b15,o16,none⟩:Addr)∧∃a17 l18 c19,hcell H14 b15 (o16+(Int.toNat n13))=some (.slice a17 l18 c19)∧∃b20 o21:Nat,(some (⟨pb0,0,none⟩:Addr))=some (⟨b20,o21,none⟩:Addr)∧∃p22:Option Addr,hcell H14 b20 o21=some (.pointer p22)∧∃b23 o24:Nat,(some (⟨pb0,0,none⟩:Addr))=some (⟨b23,o24,none⟩:Addr)∧∃n25,hcell H14 b23 (o24+4)=some (.int .i64 n25)∧In64 (1+n25) ∧Does Tryz.prog 23 [.pointer p22,.int .i64 (1+n25),.slice a17 l18 c19] H14 fun v26 H27=>∃n28,v26=(.int .i64 n28)∧(((n28≠0)→R (.int .i64 n28) H27)∧(¬(n28≠0)→∃b29 o30:Nat,(some (⟨pb0,0,none⟩:Addr))=some (⟨b29,o30,none⟩:Addr)∧∃n31,hcell H27 b29 (o30+4)=some (.int .i64 n31)∧In64 (n31+1) ∧∃b32 o33:Nat,(some (⟨pb0,0,none⟩:Addr))=some (⟨b32,o33,none⟩:Addr)∧Cells H27 b32 (o33+4) 1∧∀H34,Puts H27 b32 (o33+4) [.int .i64 (n31+1)] H34→In64 (n13+1) ∧(I11 (n13+1) H34)∧μ12 (n13+1) H34<μ12 n13 H14)))∧(¬(n13<(l9:Int))→∃I35:Int→Heap→Prop,∃μ36:Int→Heap→Nat,(I35 0 H14) ∧∀n37 H38,I35 n37 H38→(((n37<(x1l:Int))→(0:Int)≤n37∧n37<(x1l:Int)∧∃b39 o40:Nat,x1=some (⟨b39,o40,none⟩:Addr)∧∃n41,hcell H38 b39 (o40+(Int.toNat n37)*2)=some (.int .i64 n41)∧∃a42 l43 c44,hcell H38 b39 (o40+(Int.toNat n37)*2+1)=some (.slice a42 l43 c44)∧∀b45 H46,New H38 b45 [.int .i64 0,.slice none 0 0] 162 H46→Cells H46 b45 0 2∧∀H47,Puts H46 b45 0 [.int .i64 n41,.slice a42 l43 c44] H47→∃b48 o49:Nat,(some (⟨pb0,0,none⟩:Addr))=some (⟨b48,o49,none⟩:Addr)∧∃m50:Option Nat,hcell H47 b48 (o49+5)=some (.map m50)∧∃n51,hcell H47 b45 0=some (.int .i64 n51)∧∃a52 l53 c54,hcell H47 b45 (0+1)=some (.slice a52 l53 c54)∧Does Tryz.prog 89 [.slice a52 l53 c54] H47 fun v55 H56=>∃a57 l58 c59,v55=(.slice a57 l58 c59)∧isL H56 b45 0 [.int .i64 n51]∧isL H56 b48 (o49+5) [.map m50]∧∃r60:Nat,∃l61:List (Int×Value),m50=some r60∧MapIs H56 r60 l61∧∀H62,MapPut H56 r60 (mapSet l61 n51 (.slice a57 l58 c59)) H62→In64 (n37+1) ∧(I35 (n37+1) H62)∧μ36 (n37+1) H62<μ36 n37 H38)∧(¬(n37<(x1l:Int))→∃b63 o64:Nat,(some (⟨pb0,0,none⟩:Addr))=some (⟨b63,o64,none⟩:Addr)∧∃n65,hcell H38 b63 (o64+1+1)=some (.int .i64 n65)∧In64 (n65+1) ∧∃b66 o67:Nat,(some (⟨pb0,0,none⟩:Addr))=some (⟨b66,o67,none⟩:Addr)∧Cells H38 b66 (o67+1+1) 1∧∀H68,Puts H38 b66 (o67+1+1) [.int .i64 (n65+1)] H68→R (.int .i64 0) H68))))):=by kernel_rfl
theorem vc_commit(pb0:Nat) (x1:Option Addr) (x1l:Nat) (x1c:Nat) (H:Heap) (R:Value→Heap→Prop):Walk Tryz.prog 113 [] [.pointer (some ⟨pb0,0,none⟩),.slice x1 x1l x1c] H R=(Does Tryz.prog 147 [.pointer (some ⟨pb0,0,none⟩)] H fun v1 H2=>∃n3,v1=(.int .i64 n3)∧Does Tryz.prog 170 [.slice x1 x1l x1c,.int .i64 n3] H2 fun v4 H5=>∃t6,v4=(.bool t6)∧(((t6=false)→R (.int .i64 1) H5)∧(¬(t6=false)→∃b7 o8:Nat,(some (⟨pb0,0,none⟩:Addr))=some (⟨b7,o8,none⟩:Addr)∧∃t9,hcell H5 b7 (o8+6)=some (.bool t9)∧((t9=true→R (.int .i64 4) H5)∧(t9=false→∃b10 o11:Nat,(some (⟨pb0,0,none⟩:Addr))=some (⟨b10,o11,none⟩:Addr)∧∃n12,hcell H5 b10 ((o11+1)+2)=some (.int .i64 n12)∧Does Tryz.prog 119 [.int .i64 (x1l:Int)] H5 fun v13 H14=>∃n15,v13=(.int .i64 n15)∧(isL H14 b10 ((o11+1)+2) [.int .i64 n12]∧(((n12<n15)→R (.int .i64 5) H14)∧(¬(n12<n15)→Does Tryz.prog 119 [.int .i64 (x1l:Int)] H14 fun v16 H17=>∃n18,v16=(.int .i64 n18)∧Does Tryz.prog 171 [.pointer (some ⟨pb0,0,none⟩)] H17 fun v19 H20=>∃n21,v19=(.int .i64 n21)∧(((n21<n18)→Does Tryz.prog 172 [.pointer (some ⟨pb0,0,none⟩)] H20 fun v22 H23=>∃n24,v22=(.int .i64 n24)∧(((n24≠0)→R (.int .i64 n24) H23)∧(¬(n24≠0)→Does Tryz.prog 174 [.pointer (some ⟨pb0,0,none⟩),.slice x1 x1l x1c] H23 fun v25 H26=>∃n27,v25=(.int .i64 n27)∧Does Tryz.prog 173 [.pointer (some ⟨pb0,0,none⟩),.int .i64 n27] H26 fun v28 H29=>∃n30,v28=(.int .i64 n30)∧R (.int .i64 n30) H29)))∧(¬(n21<n18)→Does Tryz.prog 174 [.pointer (some ⟨pb0,0,none⟩),.slice x1 x1l x1c] H20 fun v31 H32=>∃n33,v31=(.int .i64 n33)∧Does Tryz.prog 173 [.pointer (some ⟨pb0,0,none⟩),.int .i64 n33] H32 fun v34 H35=>∃n36,v34=(.int .i64 n36)∧R (.int .i64 n36) H35)))))))))):=by kernel_rfl
theorem vc_sync(pb0:Nat) (H:Heap) (R:Value→Heap→Prop):Walk Tryz.prog 121 [] [.pointer (some ⟨pb0,0,none⟩)] H R=(∃b1 o2:Nat,(some (⟨pb0,0,none⟩:Addr))=some (⟨b1,o2,none⟩:Addr)∧∃t3,hcell H b1 (o2+6)=some (.bool t3)∧((t3=true→R (.int .i64 4) H)∧(t3=false→∃b4 o5:Nat,(some (⟨pb0,0,none⟩:Addr))=some (⟨b4,o5,none⟩:Addr)∧∃p6:Option Addr,hcell H b4 o5=some (.pointer p6)∧Does Tryz.prog 25 [.pointer p6] H fun v7 H8=>∃n9,v7=(.int .i64 n9)∧Does Tryz.prog 173 [.pointer (some ⟨pb0,0,none⟩),.int .i64 n9] H8 fun v10 H11=>∃n12,v10=(.int .i64 n12)∧R (.int .i64 n12) H11))):=by kernel_rfl
theorem vc_ckpt(pb0:Nat) (H:Heap) (R:Value→Heap→Prop):Walk Tryz.prog 202 [] [.pointer (some ⟨pb0,0,none⟩)] H R=(∃b1 o2:Nat,(some (⟨pb0,0,none⟩:Addr))=some (⟨b1,o2,none⟩:Addr)∧∃p3:Option Addr,hcell H b1 o2=some (.pointer p3)∧Does Tryz.prog 25 [.pointer p3] H fun v4 H5=>∃n6,v4=(.int .i64 n6)∧(((n6≠0)→R (.int .i64 n6) H5)∧(¬(n6≠0)→Does Tryz.prog 192 [.pointer (some ⟨pb0,0,none⟩)] H5 fun v7 H8=>∃n9,v7=(.int .i64 n9)∧(((n9≠0)→R (.int .i64 n9) H8)∧(¬(n9≠0)→∃b10 o11:Nat,(some (⟨pb0,0,none⟩:Addr))=some (⟨b10,o11,none⟩:Addr)∧∃n12,hcell H8 b10 (o11+1)=some (.int .i64 n12)∧∃n13,hcell H8 b10 (o11+1+1)=some (.int .i64 n13)∧∃n14,hcell H8 b10 (o11+1+1+1)=some (.int .i64 n14)∧Does Tryz.prog 193 [.pointer (some ⟨pb0,0,none⟩),.agg #[.int .i64 n12,.int .i64 n13,.int .i64 n14]] H8 fun v15 H16=>∃n17,v15=(.int .i64 n17)∧R (.int .i64 n17) H16))))):=by kernel_rfl
theorem vc_checkpoint(pb0:Nat) (H:Heap) (R:Value→Heap→Prop):Walk Tryz.prog 172 [] [.pointer (some ⟨pb0,0,none⟩)] H R=(∃b1 o2:Nat,(some (⟨pb0,0,none⟩:Addr))=some (⟨b1,o2,none⟩:Addr)∧∃t3,hcell H b1 (o2+6)=some (.bool t3)∧((t3=true→R (.int .i64 4) H)∧(t3=false→Does Tryz.prog 202 [.pointer (some ⟨pb0,0,none⟩)] H fun v4 H5=>∃n6,v4=(.int .i64 n6)∧Does Tryz.prog 173 [.pointer (some ⟨pb0,0,none⟩),.int .i64 n6] H5 fun v7 H8=>∃n9,v7=(.int .i64 n9)∧R (.int .i64 n9) H8))):=by kernel_rfl
end Go.Proofs
end
section
open Go Go.Vc
namespace Go.Proofs
section
open Go.Shelf
def Tryz.keysA_ren:Go.Shelf.Ren:=⟨fun|7=>212|10=>220|n=>n,fun|23=>134|26=>3|3=>33|28=>242|0=>0|27=>241|33=>112|4=>4|n=>n,fun|n=>n⟩
theorem Tryz.keysA:Go.Proofs.SlLaysZI.n7 Tryz.prog Tryz.keysA_ren:={
 mixed:=by kernel_rfl
 f7:=⟨Tryz.f212.name,by decide,Tryz.func212.trans (congrArg some (by kernel_rfl))⟩
 f10:=⟨Tryz.f220.name,by decide,Tryz.func220.trans (congrArg some (by kernel_rfl))⟩
 t0:=Tryz.underlying0
 a0:=Tryz.isAgg0
 z0:=Tryz.sizeOf0
 v0:=Tryz.zeroValue0
 t4:=Tryz.underlying4
 a4:=Tryz.isAgg4
 z4:=Tryz.sizeOf4
 v4:=Tryz.zeroValue4
 t23:=Tryz.underlying134
 a23:=Tryz.isAgg134
 z23:=Tryz.sizeOf134
 v23:=Tryz.zeroValue134
 t26:=Tryz.underlying3
 a26:=Tryz.isAgg3
 z26:=Tryz.sizeOf3
 v26:=Tryz.zeroValue3
 t27:=Tryz.underlying241
 a27:=Tryz.isAgg241
 z27:=Tryz.sizeOf241
 v27:=Tryz.zeroValue241
 t28:=Tryz.underlying242
 a28:=Tryz.isAgg242
 z28:=Tryz.sizeOf242
 v28:=Tryz.zeroValue242
 t33:=Tryz.underlying112
 a33:=Tryz.isAgg112
 z33:=Tryz.sizeOf112
 v33:=Tryz.zeroValue112}
def Tryz.sortedA_ren:Go.Shelf.Ren:=⟨fun|6=>211|8=>218|9=>219|11=>222|13=>224|12=>223|23=>234|24=>235|14=>225|15=>226|16=>227|17=>228|18=>229|19=>230|20=>231|21=>232|22=>233|25=>236|26=>237|27=>238|28=>239|29=>240|30=>241|31=>242|n=>n,fun|26=>3|28=>242|24=>23|0=>0|3=>3|37=>157|48=>263|50=>178|4=>4|40=>256|39=>255|45=>205|5=>5|9=>9|51=>265|55=>269|57=>271|58=>246|33=>112|n=>n,fun|n=>n⟩
theorem Tryz.sortedA:Go.Proofs.SlLaysZI.n6 Tryz.prog Tryz.sortedA_ren:={
 mixed:=by kernel_rfl
 f6:=⟨Tryz.f211.name,by decide,Tryz.func211.trans (congrArg some (by kernel_rfl))⟩
 f8:=⟨Tryz.f218.name,by decide,Tryz.func218.trans (congrArg some (by kernel_rfl))⟩
 f11:=⟨Tryz.f222.name,by decide,Tryz.func222.trans (congrArg some (by kernel_rfl))⟩
 t0:=Tryz.underlying0
 a0:=Tryz.isAgg0
 z0:=Tryz.sizeOf0
 v0:=Tryz.zeroValue0
 t24:=Tryz.underlying23
 a24:=Tryz.isAgg23
 z24:=Tryz.sizeOf23
 v24:=Tryz.zeroValue23
 t26:=Tryz.underlying3
 a26:=Tryz.isAgg3
 z26:=Tryz.sizeOf3
 v26:=Tryz.zeroValue3
 t28:=Tryz.underlying242
 a28:=Tryz.isAgg242
 z28:=Tryz.sizeOf242
 v28:=Tryz.zeroValue242
 i26:=by kernel_rfl}
def Tryz.sortA_ren:Go.Shelf.Ren:=⟨fun|5=>219|8=>224|7=>223|19=>234|20=>235|10=>225|11=>226|12=>227|13=>228|14=>229|15=>230|16=>231|17=>232|18=>233|30=>236|31=>237|32=>238|33=>239|34=>240|35=>241|40=>242|n=>n,fun|23=>23|25=>3|3=>3|32=>157|22=>23|0=>0|44=>263|46=>178|4=>4|36=>256|35=>255|41=>205|5=>5|9=>9|53=>265|57=>269|63=>271|64=>246|n=>n,fun|n=>n⟩
theorem Tryz.sortA:Go.Proofs.SlLaysM.n5 Tryz.prog Tryz.sortA_ren:={
 mixed:=by kernel_rfl
 f5:=⟨Tryz.f219.name,by decide,Tryz.func219.trans (congrArg some (by kernel_rfl))⟩
 f7:=⟨Tryz.f223.name,by decide,Tryz.func223.trans (congrArg some (by kernel_rfl))⟩
 f8:=Tryz.func224.trans (congrArg some (by kernel_rfl))
 f10:=⟨Tryz.f225.name,by decide,Tryz.func225.trans (congrArg some (by kernel_rfl))⟩
 f11:=⟨Tryz.f226.name,by decide,Tryz.func226.trans (congrArg some (by kernel_rfl))⟩
 f12:=⟨Tryz.f227.name,by decide,Tryz.func227.trans (congrArg some (by kernel_rfl))⟩
 f13:=⟨Tryz.f228.name,by decide,Tryz.func228.trans (congrArg some (by kernel_rfl))⟩
 f14:=⟨Tryz.f229.name,by decide,Tryz.func229.trans (congrArg some (by kernel_rfl))⟩
 f15:=⟨Tryz.f230.name,by decide,Tryz.func230.trans (congrArg some (by kernel_rfl))⟩
 f16:=⟨Tryz.f231.name,by decide,Tryz.func231.trans (congrArg some (by kernel_rfl))⟩
 f17:=⟨Tryz.f232.name,by decide,Tryz.func232.trans (congrArg some (by kernel_rfl))⟩
 f18:=⟨Tryz.f233.name,by decide,Tryz.func233.trans (congrArg some (by kernel_rfl))⟩
 f19:=Tryz.func234.trans (congrArg some (by kernel_rfl))
 f20:=Tryz.func235.trans (congrArg some (by kernel_rfl))
 f30:=⟨Tryz.f236.name,by decide,Tryz.func236.trans (congrArg some (by kernel_rfl))⟩
 f31:=Tryz.func237.trans (congrArg some (by kernel_rfl))
 f32:=Tryz.func238.trans (congrArg some (by kernel_rfl))
 f33:=⟨Tryz.f239.name,by decide,Tryz.func239.trans (congrArg some (by kernel_rfl))⟩
 f34:=⟨Tryz.f240.name,by decide,Tryz.func240.trans (congrArg some (by kernel_rfl))⟩
 f35:=⟨Tryz.f241.name,by decide,Tryz.func241.trans (congrArg some (by kernel_rfl))⟩
 f40:=⟨Tryz.f242.name,by decide,Tryz.func242.trans (congrArg some (by kernel_rfl))⟩
 t0:=Tryz.underlying0
 a0:=Tryz.isAgg0
 z0:=Tryz.sizeOf0
 v0:=Tryz.zeroValue0
 t3:=Tryz.underlying3
 a3:=Tryz.isAgg3
 z3:=Tryz.sizeOf3
 v3:=Tryz.zeroValue3
 t4:=Tryz.underlying4
 a4:=Tryz.isAgg4
 z4:=Tryz.sizeOf4
 v4:=Tryz.zeroValue4
 t5:=Tryz.underlying5
 a5:=Tryz.isAgg5
 z5:=Tryz.sizeOf5
 v5:=Tryz.zeroValue5
 t9:=Tryz.underlying9
 a9:=Tryz.isAgg9
 z9:=Tryz.sizeOf9
 v9:=Tryz.zeroValue9
 t22:=Tryz.underlying23
 a22:=Tryz.isAgg23
 z22:=Tryz.sizeOf23
 v22:=Tryz.zeroValue23
 t23:=Tryz.underlying23
 a23:=Tryz.isAgg23
 z23:=Tryz.sizeOf23
 v23:=Tryz.zeroValue23
 t25:=Tryz.underlying3
 a25:=Tryz.isAgg3
 z25:=Tryz.sizeOf3
 v25:=Tryz.zeroValue3
 t32:=Tryz.underlying157
 a32:=Tryz.isAgg157
 z32:=Tryz.sizeOf157
 v32:=Tryz.zeroValue157
 t35:=Tryz.underlying255
 a35:=Tryz.isAgg255
 z35:=Tryz.sizeOf255
 v35:=Tryz.zeroValue255
 t36:=Tryz.underlying256
 a36:=Tryz.isAgg256
 z36:=Tryz.sizeOf256
 v36:=Tryz.zeroValue256
 t41:=Tryz.underlying205
 a41:=Tryz.isAgg205
 z41:=Tryz.sizeOf205
 v41:=Tryz.zeroValue205
 t44:=Tryz.underlying263
 a44:=Tryz.isAgg263
 z44:=Tryz.sizeOf263
 v44:=Tryz.zeroValue263
 t46:=Tryz.underlying178
 a46:=Tryz.isAgg178
 z46:=Tryz.sizeOf178
 v46:=Tryz.zeroValue178
 t53:=Tryz.underlying265
 a53:=Tryz.isAgg265
 z53:=Tryz.sizeOf265
 v53:=Tryz.zeroValue265
 t57:=Tryz.underlying269
 a57:=Tryz.isAgg269
 z57:=Tryz.sizeOf269
 v57:=Tryz.zeroValue269
 t63:=Tryz.underlying271
 a63:=Tryz.isAgg271
 z63:=Tryz.sizeOf271
 v63:=Tryz.zeroValue271
 t64:=Tryz.underlying246
 a64:=Tryz.isAgg246
 z64:=Tryz.sizeOf246
 v64:=Tryz.zeroValue246}
end
section
open Go.RowKit Go.Maps Go.Sort Go.Shelf
theorem Tryz.sortsA(m:Nat):AnyZI.SortsIn Tryz.prog Tryz.sortedA_ren Fence.wide m:=
 ⟨fun blk off cap ss W hH hblk hsz=>callsIn_wide.2 (AnyM.slices_Sort_int Tryz.sortA blk off cap ss W hH hblk hsz),
  fun p cap W=>callsIn_wide.2 (AnyM.slices_Sort_int_none Tryz.sortA p cap W)⟩
theorem Tryz.sortedKeys{H:Type}(b bm nn:Nat)(D0:DataW H)(R:Value→Option (DataW H×List MemPlace))(w:World)(hbm:w.cell? ⟨bm,0,none⟩=some (.map (some b)))(hlt:bm<w.heap.size)(hown:w.ownsMap Tryz.prog 3 R b nn D0)(hmax:Maps.size D0≤maxLen)(hbytes:Maps.size D0*8≤140737488355328) :
  Calls Tryz.prog 211 #[.func (.func 220) #[] #[.pointer (some ⟨bm,0,none⟩)]] w fun e w'=>∃(v:Value) (ss:List Int),e=.returned v∧ss.Perm (intKeys D0) ∧
   w'.ownsRow w.heap.size 3 1 v ss.length ((ss.mergeSort (fun x y=>decide (x≤y))).map encZ)∧(v=.slice none 0 0↔ss=[])∧Below w.heap.size w w':=by
 have hseq:SeqGives Fence.wide 2 Tryz.prog 220 #[.pointer (some ⟨bm,0,none⟩)] encZ (fun ss=>ss.Perm (intKeys D0)) (Maps.size D0) w:=
  AnyZI.keys_gives (ρ:=Tryz.keysA_ren) {Tryz.keysA with} Fence.wide 2 trivial rfl (by omega) bm b nn D0 w hlt hbm hown
 refine(callsIn_wide (n:=5)).1 ?_
 exact AnyZI.sorted_in Tryz.sortedA Fence.wide 5 trivial trivial trivial trivial rfl (by omega) (Tryz.sortsA _) (enters_of Tryz.func219 (by kernel_rfl) rfl) 220 #[.pointer (some ⟨bm,0,none⟩)] trivial (enters_of Tryz.func220 (by kernel_rfl) rfl) _ _ hmax hbytes _ hseq
end
end Go.Proofs
end
section
open Go Go.Vc
namespace Go.Proofs
def ints(zs:List Int):List Value:=zs.map fun z=>.int .i64 z
def sorted(zs:List Int):List Int:=zs.mergeSort fun x y=>decide (x≤y)
theorem ints_length(zs:List Int):(ints zs).length=zs.length:=by simp[ints]
theorem ints_at{zs:List Int}{j:Nat}{z:Int}(h:zs[j]?=some z):(ints zs)[j]?=some (.int .i64 z):=by simp[ints,h]
theorem sorted_len(l:List Int):(sorted l).length=l.length:=by simp[sorted]
theorem keys_ok(r:Nat)(H:Heap):Does Tryz.prog 212 [.map (some r)] H fun v H'=>v=.func (.func 220) #[] #[.pointer (some ⟨H.size,0,none⟩)]∧New H H.size [.map (some r)] 134 H':=by
 refine Fn_of_vc Tryz.mixed (vc_keys _ _ _) ?_
 intro b H2 hn
 have:=hn.eq
 subst this
 exact⟨rfl,hn⟩
def keyI:Value→Int
 | .int _ n=>n
 | _=>0
theorem sorted_ok{H:Heap}{r b:Nat}{l:List (Int×Value)}(hb:hcell H b 0=some (.map (some r)))(hm:MapIs H r l)(hw:∀p∈l,In64 p.1)(hl:l.length≤1000000) :
  Does Tryz.prog 211 [.func (.func 220) #[] #[.pointer (some ⟨b,0,none⟩)]] H fun v H'=>∃a c,v=.slice a l.length c∧Own H' 1 a l.length c (ints (sorted (l.map (·.1))))∧Ext [] H H'∧∀k∈blkOf a,H.size≤k:=by
 intro w hw'
 subst hw'
 obtain⟨es,clock,hr,he,hst⟩:=hm
 have hkeys:es.toList.map (·.key)=l.map fun p=>.int .i64 p.1:=by
  have:=congrArg (List.map Prod.fst) he
  simpa[List.map_map,Function.comp_def]using this
 have hlen:es.toList.length=l.length:=by have:=congrArg List.length hkeys;simpa using this
 have hkey:∀x∈es.toList,∃n:Int,x.key=.int .i64 n∧In64 n:=fun x hx=>by
  have:x.key∈es.toList.map (·.key):=List.mem_map.2 ⟨x,hx,rfl⟩
  rw[hkeys]at this
  obtain⟨p,hp,e⟩:=List.mem_map.1 this
  exact⟨p.1,e.symm,hw p hp⟩
 let R:Value→Option (DataW Unit×List MemPlace):=fun _=>some (.nil,[])
 have hrd:∀x∈es.toList,Go.WideElems.rd Tryz.prog 3 R x=some (.int .i64 (keyI x.key),.nil):=fun x hx=>by
  obtain⟨n,e,h1,h2⟩:=hkey x hx
  have hwf:(Lit.int .i64 n).wf=true:=by
   simp only[Lit.wf,IntKind.min,IntKind.max,IntKind.signed,IntKind.bits]
   simp
   omega
  simp[Go.WideElems.rd,R,e,keyOf,mapKey,Tryz.underlying3,hwf,keyI]
 have hsize:es.size=l.length:=by simpa using hlen
 have hF:Go.WideElems.Fit Tryz.prog 3 R es clock:=⟨by rw[hsize];unfold maxLen;omega,hst,fun x hx=>⟨_,hrd x hx⟩⟩
 have hown:w.ownsMap Tryz.prog 3 R r es.size (.map ((es.toList.map (Go.WideElems.rg Tryz.prog 3 R)).foldr DataW.insert [])):=⟨es,clock,hr,hF,Nat.le_refl _,rfl⟩
 have hperm:(intKeys (.map ((es.toList.map (Go.WideElems.rg Tryz.prog 3 R)).foldr DataW.insert []))).Perm (l.map (·.1)):=by
  have h1:(((es.toList.map (Go.WideElems.rg Tryz.prog 3 R)).foldr DataW.insert []).map fun p=>Go.intOf p.1).Perm ((es.toList.map (Go.WideElems.rg Tryz.prog 3 R)).map fun p=>Go.intOf p.1):=(Go.WideShapes.sorted_perm _).map _
  have h2:((es.toList.map (Go.WideElems.rg Tryz.prog 3 R)).map fun p=>Go.intOf p.1)=l.map (·.1):=by
   rw[List.map_map]
   have h3:es.toList.map ((fun p:Lit×DataW Unit=>Go.intOf p.1) ∘ Go.WideElems.rg Tryz.prog 3 R)=es.toList.map (fun x=>keyI x.key):=List.map_congr_left fun x hx=>by
    simp only[Function.comp_apply,Go.WideElems.rg,hrd x hx,Option.getD_some,Go.intOf]
   rw[h3]
   have h4:=congrArg (List.map keyI) hkeys
   simpa[List.map_map,Function.comp_def,keyI]using h4
  rw[h2]at h1
  exact h1
 have hsz:Go.Maps.size (.map ((es.toList.map (Go.WideElems.rg Tryz.prog 3 R)).foldr DataW.insert []))=l.length:=by
  rw[Go.Maps.size_eq,(Go.WideShapes.sorted_perm _).length_eq,List.length_map,hlen]
 refine(Tryz.sortedKeys r b es.size _ R w (by rw[cell_hcell];exact hb) (hcell_lt hb) hown (by rw[hsz];unfold maxLen;omega) (by rw[hsz];omega)).mono ?_
 rintro e w' ⟨v,ss,rfl,hS,⟨hrl,hrow⟩,hnil,hbel⟩
 have hss:=hS.trans hperm
 have hsl:ss.length=l.length:=by rw[hss.length_eq,List.length_map]
 have hso:(ss.mergeSort (fun x y=>decide (x≤y)))=sorted (l.map (·.1)):=mergeSort_of_perm_i hss
 rw[hso]at hrow
 have hext:Ext [] w.heap w'.heap:=⟨hbel.size,fun k hk _=>hbel.block k hk⟩
 refine⟨v,rfl,⟨hbel.os,hbel.tape,hbel.output⟩,?_⟩
 rcases hrow with⟨rfl,h0⟩|⟨g,cap,cur,rfl,hg,hgb,hc1,hc2,hc3,hc4⟩
 ·have:l=[]:=List.length_eq_zero_iff.1 (by omega)
  subst this
  exact⟨none,0,rfl,by simpa[sorted,ints]using Own.nil _ _,hext,by simp[blkOf]⟩
 ·refine⟨some ⟨g,0,none⟩,cap,by rw[hsl],⟨by rw[ints_length,sorted_len,List.length_map,Nat.mul_one],by omega,hc2,.inr ⟨g,cur.toList.drop l.length,rfl,⟨3,?_⟩,?_⟩⟩,hext,fun k hk=>?_⟩
  ·rw[hgb]
   congr 2
   apply Array.ext'
   rw[Nat.mul_one,hsl]at hc4
   show cur.toList=_
   rw[show ints (sorted (l.map (·.1)))=cur.toList.take l.length by rw[hc4];rfl,List.take_append_drop]
  ·rw[show ints (sorted (l.map (·.1)))=cur.toList.take l.length by rw[Nat.mul_one,hsl]at hc4;rw[hc4];rfl,List.take_append_drop]
   simpa using hc3
  ·simp only[blkOf,List.mem_singleton]at hk;omega
end Go.Proofs
end
section
open Go Go.Vc
namespace Go.Proofs
structure Jn where
 h:Hd
 used:Int
 taken:List Wr
 dead:Bool
def tSet:List Wr→Int→Octs→List Wr
 | [],k,x=>[(k,x)]
 | p::r,k,x=>if p.1=k then(k,x)::r else p::tSet r k x
def tGet:List Wr→Int→Option Octs
 | [],_=>none
 | p::r,k=>if p.1=k then some p.2 else tGet r k
def tAll(t:List Wr)(l:List Wr):List Wr:=l.foldl (fun t w=>tSet t w.1 w.2) t
theorem tGet_set(t:List Wr)(k j:Int)(x:Octs):tGet (tSet t k x) j=if j=k then some x else tGet t j:=by
 induction t with
 | nil=>
  simp only[tSet,tGet]
  by_cases h:j=k
  ·rw[if_pos h,if_pos h.symm]
  ·rw[if_neg h,if_neg (fun e=>h e.symm)]
 | cons p r ih=>
  simp only[tSet]
  by_cases hp:p.1=k
  ·rw[if_pos hp]
   simp only[tGet]
   by_cases h:j=k
   ·rw[if_pos h,if_pos h.symm]
   ·rw[if_neg h,if_neg (fun e=>h e.symm),hp,if_neg (fun e=>h e.symm)]
  ·rw[if_neg hp]
   simp only[tGet]
   by_cases hj:p.1=j
   ·rw[if_pos hj,if_neg (fun e=>hp (hj.trans e)),if_pos hj]
   ·rw[if_neg hj,ih,if_neg hj]
theorem tSet_keys(t:List Wr)(k:Int)(x:Octs)(j:Int):j∈(tSet t k x).map (·.1)↔j=k∨j∈t.map (·.1):=by
 induction t with
 | nil=>simp[tSet]
 | cons p r ih=>
  simp only[tSet]
  by_cases hp:p.1=k
  ·rw[if_pos hp];simp only[List.map_cons,List.mem_cons,hp];constructor
   ·rintro (h|h)
    ·exact .inl h
    ·exact .inr (.inr h)
   ·rintro (h|h|h)
    ·exact .inl h
    ·exact .inl h
    ·exact .inr h
  ·rw[if_neg hp];simp only[List.map_cons,List.mem_cons,ih];constructor
   ·rintro (h|h|h)
    ·exact .inr (.inl h)
    ·exact .inl h
    ·exact .inr (.inr h)
   ·rintro (h|h|h)
    ·exact .inr (.inl h)
    ·exact .inl h
    ·exact .inr (.inr h)
theorem tSet_nodup{t:List Wr}(h:(t.map (·.1)).Nodup)(k:Int)(x:Octs):((tSet t k x).map (·.1)).Nodup:=by
 induction t with
 | nil=>simp[tSet]
 | cons p r ih=>
  simp only[List.map_cons,List.nodup_cons]at h
  simp only[tSet]
  by_cases hp:p.1=k
  ·rw[if_pos hp];simp only[List.map_cons,List.nodup_cons];exact⟨by rw[←hp];exact h.1,h.2⟩
  ·rw[if_neg hp]
   simp only[List.map_cons,List.nodup_cons]
   refine⟨fun hm=>?_,ih h.2⟩
   rcases (tSet_keys r k x p.1).1 hm with e|e
   ·exact hp e
   ·exact h.1 e
theorem tSet_mem{t:List Wr}{k:Int}{x:Octs}{w:Wr}(h:w∈tSet t k x):w=(k,x)∨w∈t:=by
 induction t with
 | nil=>simp only[tSet,List.mem_singleton]at h;exact .inl h
 | cons p r ih=>
  simp only[tSet]at h
  by_cases hp:p.1=k
  ·rw[if_pos hp]at h
   rcases List.mem_cons.1 h with h|h
   ·exact .inl h
   ·exact .inr (by simp[h])
  ·rw[if_neg hp]at h
   rcases List.mem_cons.1 h with h|h
   ·exact .inr (by simp[h])
   ·rcases ih h with h|h
    ·exact .inl h
    ·exact .inr (by simp[h])
theorem tGet_mem{t:List Wr}{k:Int}(h:k∈t.map (·.1)):∃x,tGet t k=some x∧(k,x)∈t:=by
 induction t with
 | nil=>simp at h
 | cons p r ih=>
  simp only[tGet]
  by_cases hp:p.1=k
  ·rw[if_pos hp];exact⟨p.2,rfl,by rw[←hp];simp⟩
  ·rw[if_neg hp]
   simp only[List.map_cons,List.mem_cons]at h
   rcases h with h|h
   ·exact absurd h.symm hp
   ·obtain⟨x,h1,h2⟩:=ih h
    exact⟨x,h1,by simp[h2]⟩
theorem tGet_none{t:List Wr}{k:Int}(h:k∉t.map (·.1)):tGet t k=none:=by
 induction t with
 | nil=>rfl
 | cons p r ih=>
  simp only[List.map_cons,List.mem_cons,not_or]at h
  simp only[tGet]
  rw[if_neg (fun e=>h.1 e.symm),ih h.2]
def TOk(t:List Wr)(homes:Int):Prop:=(∀w∈t,0≤w.1∧w.1<homes∧w.2.length=128)∧(t.map (·.1)).Nodup
theorem TOk.nil(homes:Int):TOk [] homes:=⟨by simp,by simp⟩
theorem TOk.set{t:List Wr}{homes:Int}(h:TOk t homes){k:Int}{x:Octs}(h0:0≤k)(h1:k<homes)(hx:x.length=128):TOk (tSet t k x) homes:=by
 refine⟨fun w hw=>?_,tSet_nodup h.2 k x⟩
 rcases tSet_mem hw with rfl|hw
 ·exact⟨h0,h1,hx⟩
 ·exact h.1 w hw
theorem TOk.few{t:List Wr}{homes:Int}(h:TOk t homes){n:Nat}(hn:homes≤n):t.length≤n:=by
 have:=nodup_bound (t.map (·.1)) n h.2 (fun k hk=>by
  obtain⟨w,hw,rfl⟩:=List.mem_map.1 hk
  have:=h.1 w hw
  omega)
 simpa using this
def goW(n:Nat)(size:Int)(t:List Wr):List Int→Dev→Dev×Int
 | [],D=>flushD D
 | k::ks,D=>if(writeD D n (1+size+k) ((tGet t k).getD [])).2≠0 then writeD D n (1+size+k) ((tGet t k).getD [])else goW n size t ks (writeD D n (1+size+k) ((tGet t k).getD [])).1
def goHomeM(n:Nat)(J:Jn)(D:Dev):Dev×Int:=goW n J.h.size J.taken (sorted (J.taken.map (·.1))) D
def beginM(n:Nat)(h:Hd)(J:Jn)(D:Dev):Dev×Jn×Int:=
 if(writeD D n 0 (hdrB h)).2≠0 then((writeD D n 0 (hdrB h)).1,J,(writeD D n 0 (hdrB h)).2)
 else if(flushD (writeD D n 0 (hdrB h)).1).2≠0 then((flushD (writeD D n 0 (hdrB h)).1).1,J,(flushD (writeD D n 0 (hdrB h)).1).2)
 else((flushD (writeD D n 0 (hdrB h)).1).1,{J with h:=h,used:=0,taken:=[]},0)
def recL:Nat→Hd→List Octs→List Wr→Int→Hd×List Wr
 | 0,h,_,t,_=>(h,t)
 | f+1,h,bs,t,homes=>if(wholeB h bs homes).2=0 then(h,t)else recL f {h with seq:=h.seq+1} (bs.drop (wholeB h bs homes).2.toNat) (tAll t (wholeB h bs homes).1) homes
def jblocks(D:Dev)(size:Int):List Octs:=(D.now.drop 1).take size.toNat
def recoverM(n:Nat)(J:Jn)(D:Dev):Dev×Jn×Int:=
 if D.dead=true then(D,J,4)
 else
  let r:=recL ((jblocks D J.h.size).length+1) J.h (jblocks D J.h.size) J.taken (homeN n J.h.size)
  let J1:Jn:={J with h:=r.1,taken:=r.2}
  let g:=goHomeM n J1 D
  if g.2≠0 then(g.1,J1,g.2)else beginM n ⟨r.1.epoch+1,1,r.1.size⟩ J1 g.1
def parseH(b:Octs):Hd:=⟨numU (rdU (b,false) 4).2 4,numU (rdU (rdU (b,false) 4).2 4).2 4,numU (rdU (rdU (rdU (b,false) 4).2 4).2 4).2 4⟩
def readM(n:Nat)(D:Dev):Hd×Int:=
 if D.dead=true then(Hd.zero,4)
 else
  let b:=D.now[0]?.getD []
  if hdrB (parseH b)≠b∨homeN n (parseH b).size<0∨(parseH b).seq=0 then(Hd.zero,2)else(parseH b,0)
def openM(n:Nat)(D:Dev):Dev×Option Jn×Int:=
 if(readM n D).2≠0 then(D,none,(readM n D).2)
 else
  let r:=recoverM n ⟨(readM n D).1,0,[],false⟩ D
  if r.2.2≠0 then(r.1,none,r.2.2)else(r.1,some r.2.1,0)
def endsM(J:Jn)(e:Int):Jn:={J with dead:=J.dead || decide (e=4)}
def layW(n:Nat):List Octs→Int→Dev→Dev×Int×Int
 | [],u,D=>(D,u,0)
 | b::r,u,D=>if(writeD D n (1+u) b).2≠0 then((writeD D n (1+u) b).1,u,(writeD D n (1+u) b).2)else layW n r (u+1) (writeD D n (1+u) b).1
def layM(n:Nat)(l:List Wr)(J:Jn)(D:Dev):Dev×Jn×Int:=
 let r:=layW n (laidB J.h l) J.used D
 if r.2.2≠0 then(r.1,{J with used:=r.2.1},r.2.2)
 else(r.1,{J with used:=r.2.1,taken:=tAll J.taken l,h:={J.h with seq:=J.h.seq+1}},0)
def ckptM(n:Nat)(J:Jn)(D:Dev):Dev×Jn×Int:=
 if(flushD D).2≠0 then((flushD D).1,J,(flushD D).2)
 else if(goHomeM n J (flushD D).1).2≠0 then((goHomeM n J (flushD D).1).1,J,(goHomeM n J (flushD D).1).2)
 else beginM n J.h J (goHomeM n J (flushD D).1).1
def checkpointM(n:Nat)(J:Jn)(D:Dev):Dev×Jn×Int:=
 if J.dead=true then(D,J,4)else((ckptM n J D).1,endsM (ckptM n J D).2.1 (ckptM n J D).2.2,(ckptM n J D).2.2)
def syncM(J:Jn)(D:Dev):Dev×Jn×Int:=
 if J.dead=true then(D,J,4)else((flushD D).1,endsM J (flushD D).2,(flushD D).2)
def layE(n:Nat)(l:List Wr)(J:Jn)(D:Dev):Dev×Jn×Int:=((layM n l J D).1,endsM (layM n l J D).2.1 (layM n l J D).2.2,(layM n l J D).2.2)
def commitM(n:Nat)(l:List Wr)(J:Jn)(D:Dev):Dev×Jn×Int:=
 if mayB l (homeN n J.h.size)=false then(D,J,1)
 else if J.dead=true then(D,J,4)
 else if J.h.size<needsN l.length then(D,J,5)
 else if J.h.size - J.used<needsN l.length then
  if(checkpointM n J D).2.2≠0 then checkpointM n J D else layE n l (checkpointM n J D).2.1 (checkpointM n J D).1
 else layE n l J D
def jreadM(n:Nat)(k:Int)(J:Jn)(D:Dev):Jn×Option Octs×Int:=
 if k<0∨homeN n J.h.size≤k then(J,none,1)
 else if J.dead=true then(J,none,4)
 else match tGet J.taken k with
  | some x=>(J,some x,0)
  | none=>if D.dead=true then(endsM J 4,none,4)else(endsM J 0,D.now[(1+J.h.size+k).toNat]?,0)
def fmtW(n:Nat):Nat→Int→Dev→Dev×Int
 | 0,_,D=>(D,0)
 | m+1,k,D=>if(writeD D n (1+k) zeros).2≠0 then writeD D n (1+k) zeros else fmtW n m (k+1) (writeD D n (1+k) zeros).1
def formatM(n:Nat)(size:Int)(D:Dev):Dev×Int:=
 if homeN n size<0 then(D,1)
 else
  let r:=fmtW n size.toNat 0 D
  if r.2≠0 then r
  else if(writeD r.1 n 0 (hdrB ⟨1,1,size⟩)).2≠0 then writeD r.1 n 0 (hdrB ⟨1,1,size⟩)
  else flushD (writeD r.1 n 0 (hdrB ⟨1,1,size⟩)).1
end Go.Proofs
end
section
open Go Go.Vc
namespace Go.Proofs
def TV(H:Heap)(F:Nat→Prop)(pj r:Nat)(v:Value)(x:Octs):Prop:=
 ∃a c,v=.slice a x.length c∧SRow H 1 x.length (.slice a x.length c) (bytesV x)∧∀k∈blkOf a,F k∧k≠pj∧k≠r
def TVs(H:Heap)(F:Nat→Prop)(pj r:Nat):List (Int×Value)→List Wr→Prop
 | [],[]=>True
 | p::l,w::t=>(p.1=w.1∧TV H F pj r p.2 w.2)∧TVs H F pj r l t
 | _,_=>False
theorem TV.mono{H H':Heap}{F F' M:Nat→Prop}{pj r pj' r':Nat}{v:Value}{x:Octs}(h:TV H F pj r v x)(he:ExtP M H H')(hm:∀k,F k→k≠pj→k≠r→¬M k∧F' k∧k≠pj'∧k≠r'):TV H' F' pj' r' v x:=by
 obtain⟨a,c,e,h1,h2⟩:=h
 exact⟨a,c,e,h1.extP he (fun k hk=>(hm k (h2 k hk).1 (h2 k hk).2.1 (h2 k hk).2.2).1),fun k hk=>(hm k (h2 k hk).1 (h2 k hk).2.1 (h2 k hk).2.2).2⟩
theorem TVs.mono{H H':Heap}{F F' M:Nat→Prop}{pj r pj' r':Nat}:∀{l:List (Int×Value)}{t:List Wr},TVs H F pj r l t→ExtP M H H'→(∀k,F k→k≠pj→k≠r→¬M k∧F' k∧k≠pj'∧k≠r')→TVs H' F' pj' r' l t
 | [],[],_,_,_=>trivial
 | _::_,_::_,h,he,hm=>⟨⟨h.1.1,h.1.2.mono he hm⟩,TVs.mono h.2 he hm⟩
 | [],_::_,h,_,_=>h.elim
 | _::_,[],h,_,_=>h.elim
theorem TVs.len{H:Heap}{F:Nat→Prop}{pj r:Nat}:∀{l:List (Int×Value)}{t:List Wr},TVs H F pj r l t→l.length=t.length∧l.map (·.1)=t.map (·.1)
 | [],[],_=>⟨rfl,rfl⟩
 | _::_,_::_,h=>by
  have:=h.2.len
  simp only[List.length_cons,List.map_cons,this.1,this.2,h.1.1,and_self]
 | [],_::_,h=>h.elim
 | _::_,[],h=>h.elim
theorem TVs.get{H:Heap}{F:Nat→Prop}{pj r:Nat}(k:Int)(z:Value):∀{l:List (Int×Value)}{t:List Wr},TVs H F pj r l t →
  (tGet t k=none∧mapGet l k z=z∧mapHas l k=false)∨(∃x,tGet t k=some x∧TV H F pj r (mapGet l k z) x∧mapHas l k=true)
 | [],[],_=>.inl ⟨rfl,rfl,rfl⟩
 | p::l,w::t,h=>by
  have hk:=h.1.1
  simp only[tGet,mapGet,mapHas,List.any_cons]
  by_cases e:w.1=k
  ·exact .inr ⟨w.2,by rw[if_pos e],by rw[if_pos (hk.trans e)];exact h.1.2,by simp[hk,e]⟩
  ·have e':¬p.1=k:=fun q=>e (hk.symm.trans q)
   rw[if_neg e,if_neg e']
   rcases TVs.get k z h.2 with h'|h'
   ·exact .inl ⟨h'.1,h'.2.1,by have:=h'.2.2;unfold mapHas at this;simp[e',this]⟩
   ·obtain⟨x,a,b,c⟩:=h'
    exact .inr ⟨x,a,b,by unfold mapHas at c;simp[c]⟩
 | [],_::_,h=>h.elim
 | _::_,[],h=>h.elim
theorem TVs.set{H:Heap}{F:Nat→Prop}{pj r:Nat}(k:Int){v:Value}{x:Octs}(hv:TV H F pj r v x):∀{l:List (Int×Value)}{t:List Wr},TVs H F pj r l t→TVs H F pj r (mapSet l k v) (tSet t k x)
 | [],[],_=>⟨⟨rfl,hv⟩,trivial⟩
 | p::l,w::t,h=>by
  have hk:=h.1.1
  simp only[tSet,mapSet]
  by_cases e:w.1=k
  ·rw[if_pos e,if_pos (hk.trans e)];exact⟨⟨rfl,hv⟩,h.2⟩
  ·rw[if_neg e,if_neg (fun q=>e (hk.symm.trans q))];exact⟨h.1,TVs.set k hv h.2⟩
 | [],_::_,h=>h.elim
 | _::_,[],h=>h.elim
def Jn.cells(J:Jn)(pd r:Nat):List Value:=[.pointer (some ⟨pd,0,none⟩),.int .i64 J.h.epoch,.int .i64 J.h.seq,.int .i64 J.h.size,.int .i64 J.used,.map (some r),.bool J.dead]
structure IsJn(H:Heap) (F:Nat→Prop) (pj pd:Nat) (J:Jn) (r:Nat) (l:List (Int×Value)):Prop where
 head:Blk H pj (J.cells pd r)
 map:MapIs H r l
 vals:TVs H F pj r l J.taken
 hj:F pj
 hr:F r
 ne:pj≠r
 lt:∀k,F k→k<H.size
theorem IsJn.extP{H H':Heap}{F F' M:Nat→Prop}{pj pd:Nat}{J:Jn}{r:Nat}{l:List (Int×Value)}(h:IsJn H F pj pd J r l)(he:ExtP M H H')(hm:∀k,F k→¬M k)(hF:∀k,F k→F' k)(hlt:∀k,F' k→k<H'.size):IsJn H' F' pj pd J r l:=by
 refine⟨h.head.extP he (hm _ h.hj),?_,h.vals.mono he (fun k hk h1 h2=>⟨hm k hk,hF k hk,h1,h2⟩),hF _ h.hj,hF _ h.hr,h.ne,hlt⟩
 obtain⟨es,c,h1,h2⟩:=h.map
 exact⟨es,c,by rw[he.keep r (h.lt r h.hr) (hm r h.hr)];exact h1,h2⟩
theorem IsJn.poke{H H':Heap}{F:Nat→Prop}{pj pd:Nat}{J J':Jn}{r:Nat}{l:List (Int×Value)}(h:IsJn H F pj pd J r l){o:Nat}{v:Value}(hp:Puts H pj o [v] H')(ho:o<7)(hc:(J.cells pd r).set o v=J'.cells pd r)(ht:J'.taken=J.taken):IsJn H' F pj pd J' r l∧Ext [pj] H H':=by
 have he:=hp.ext
 have hb:=hp.blk h.head (by simp only[List.length_cons,List.length_nil,Jn.cells];omega)
 rw[splice_one _ _ _ (by simp only[Jn.cells,List.length_cons,List.length_nil];omega),hc]at hb
 refine⟨⟨hb,?_,?_,h.hj,h.hr,h.ne,fun k hk=>Nat.lt_of_lt_of_le (h.lt k hk) he.size⟩,he⟩
 ·obtain⟨es,c,h1,h2⟩:=h.map
  exact⟨es,c,by rw[he.keep r (h.lt r h.hr) (by simpa using fun e=>h.ne e.symm)];exact h1,h2⟩
 ·rw[ht]
  exact h.vals.mono he.toP (fun k hk h1 h2=>⟨by simpa using h1,hk,h1,h2⟩)
theorem IsJn.take{H H':Heap}{F:Nat→Prop}{pj pd:Nat}{J:Jn}{r:Nat}{l:List (Int×Value)}(h:IsJn H F pj pd J r l){k:Int}{v:Value}{x:Octs}(hv:TV H F pj r v x)(hp:MapPut H r (mapSet l k v) H'):IsJn H' F pj pd {J with taken:=tSet J.taken k x} r (mapSet l k v)∧Ext [r] H H':=by
 obtain⟨hm,he⟩:=MapPut.is hp (h.lt r h.hr)
 refine⟨⟨h.head.extP he.toP (by simpa using h.ne),hm,?_,h.hj,h.hr,h.ne,fun k hk=>Nat.lt_of_lt_of_le (h.lt k hk) he.size⟩,he⟩
 exact(TVs.set k hv h.vals).mono he.toP (fun k hk h1 h2=>⟨by simpa using h2,hk,h1,h2⟩)
def JD(H:Heap)(F:Nat→Prop)(pj pd:Nat)(J:Jn)(D:Dev):Prop:=
 ∃Fd Fj r l,IsDev H Fd pd D∧IsJn H Fj pj pd J r l∧(∀k,Fd k→¬Fj k)∧(∀k,Fd k→F k)∧(∀k,Fj k→F k)∧∀k,F k→k<H.size
theorem JD.lt{H:Heap}{F:Nat→Prop}{pj pd:Nat}{J:Jn}{D:Dev}(h:JD H F pj pd J D):∀k,F k→k<H.size:=by
 obtain⟨_,_,_,_,_,_,_,_,_,h⟩:=h;exact h
theorem JD.up{H:Heap}{F F':Nat→Prop}{pj pd:Nat}{J:Jn}{D:Dev}(h:JD H F pj pd J D)(hF:∀k,F k→F' k)(hlt:∀k,F' k→k<H.size):JD H F' pj pd J D:=by
 obtain⟨Fd,Fj,r,l,h1,h2,h3,h4,h5,h6⟩:=h
 exact⟨Fd,Fj,r,l,h1,h2,h3,fun k hk=>hF k (h4 k hk),fun k hk=>hF k (h5 k hk),hlt⟩
theorem JD.ext{H H':Heap}{F M:Nat→Prop}{pj pd:Nat}{J:Jn}{D:Dev}(h:JD H F pj pd J D)(he:ExtP M H H')(hm:∀k,F k→¬M k):JD H' F pj pd J D:=by
 obtain⟨Fd,Fj,r,l,h1,h2,h3,h4,h5,h6⟩:=h
 exact⟨Fd,Fj,r,l,h1.ext he (fun k hk=>hm k (h4 k hk)),h2.extP he (fun k hk=>hm k (h5 k hk)) (fun k hk=>hk) (fun k hk=>Nat.lt_of_lt_of_le (h2.lt k hk) he.size),h3,h4,h5,fun k hk=>Nat.lt_of_lt_of_le (h6 k hk) he.size⟩
theorem JD.dev{H:Heap}{F:Nat→Prop}{pj pd:Nat}{J:Jn}{D:Dev}(h:JD H F pj pd J D):IsDev H F pd D:=by
 obtain⟨Fd,Fj,r,l,h1,h2,h3,h4,h5,h6⟩:=h
 exact h1.up h4 h6
structure Jn.Wf(J:Jn) (n:Nat):Prop where
 size:4≤J.h.size∧J.h.size≤n - 4
 seq:0≤J.h.seq∧J.h.seq≤1000000000000
 epoch:0≤J.h.epoch∧J.h.epoch≤1000000000000
 used:0≤J.used∧J.used≤J.h.size
 took:TOk J.taken (homeN n J.h.size)
theorem homeN_of{n:Nat}{size:Int}(h:4≤size∧size≤n - 4):homeN n size=n - 1 - size:=by unfold homeN;rw[if_neg (by omega)]
theorem Dev.Wf.up{D:Dev}{n B B':Nat}(h:D.Wf n B)(hB:B≤B'):D.Wf n B':=⟨h.len,h.few,h.size,h.pin,Nat.le_trans h.pfew hB,h.fuse,⟨h.works.1,by have:=h.works.2;omega⟩⟩
theorem goW_wf{n:Nat}{size:Int}{t:List Wr}:∀(ks:List Int){D:Dev}{B:Nat},D.Wf n B→(goW n size t ks D).1.Wf n (B+ks.length+1)
 | [],D,B,h=>(flushWf h).up (by simp)
 | k::ks,D,B,h=>by
  have h1:=writeWf h (1+size+k) ((tGet t k).getD [])
  rw[goW]
  split
  ·exact h1.up (by simp only[List.length_cons];omega)
  ·exact(goW_wf ks h1).up (by simp only[List.length_cons];omega)
theorem goHome_wf{n B:Nat}{J:Jn}{D:Dev}(h:D.Wf n B)(hj:TOk J.taken (homeN n J.h.size))(hn:homeN n J.h.size≤4096):(goHomeM n J D).1.Wf n (B+4097):=by
 have:=goW_wf (size:=J.h.size) (t:=J.taken) (sorted (J.taken.map (·.1))) h
 have hl:=hj.few (n:=4096) hn
 rw[sorted_len,List.length_map]at this
 exact this.up (by omega)
theorem begin_wf{n B:Nat}{h:Hd}{J:Jn}{D:Dev}(hd:D.Wf n B):(beginM n h J D).1.Wf n (B+2):=by
 have h1:=writeWf hd 0 (hdrB h)
 have h2:=flushWf h1
 unfold beginM
 split
 ·exact h1.up (by omega)
 ·split
  ·exact h2
  ·exact h2
theorem layW_wf{n:Nat}:∀(bs:List Octs)(u:Int){D:Dev}{B:Nat},D.Wf n B→(layW n bs u D).1.Wf n (B+bs.length)
 | [],u,D,B,h=>h.up (by simp)
 | b::bs,u,D,B,h=>by
  have h1:=writeWf h (1+u) b
  rw[layW]
  split
  ·exact h1.up (by simp only[List.length_cons];omega)
  ·exact(layW_wf bs (u+1) h1).up (by simp only[List.length_cons];omega)
theorem fmtW_wf{n:Nat}:∀(m:Nat)(k:Int){D:Dev}{B:Nat},D.Wf n B→(fmtW n m k D).1.Wf n (B+m)
 | 0,k,D,B,h=>h.up (by simp)
 | m+1,k,D,B,h=>by
  have h1:=writeWf h (1+k) zeros
  rw[fmtW]
  split
  ·exact h1.up (by omega)
  ·exact(fmtW_wf m (k+1) h1).up (by omega)
end Go.Proofs
end
section
open Go Go.Vc
namespace Go.Proofs
theorem grow_in{F G:Nat→Prop}{A B C D:Heap}(h:∀k,F k→G k)(h1:C.size≤A.size)(h2:B.size≤D.size):∀k,grow F A B k→grow G C D k:=by
 rintro k (hk|hk)
 ·exact .inl (h k hk)
 ·exact .inr ⟨by omega,by omega⟩
theorem MapIs.extP{M:Nat→Prop}{H H':Heap}{r:Nat}{l:List (Int×Value)}(h:MapIs H r l)(he:ExtP M H H')(hm:¬M r):MapIs H' r l:=by
 obtain⟨es,c,h1,h2⟩:=h
 exact⟨es,c,by rw[he.keep r (Array.getElem?_eq_some_iff.1 h1).1 hm];exact h1,h2⟩
theorem goHome_ok{H:Heap}{F:Nat→Prop}{pj pd:Nat}{J:Jn}{D:Dev}{n B:Nat}(h:JD H F pj pd J D)(hw:D.Wf n B)(hB:B≤900000000)(hn:n≤4096)(hj:J.Wf n) :
  Does Tryz.prog 192 [.pointer (some ⟨pj,0,none⟩)] H fun v H'=>v=.int .i64 (goHomeM n J D).2∧JD H' (grow F H H') pj pd J (goHomeM n J D).1∧ExtP F H H':=by
 obtain⟨Fd,Fj,r,l,hd,hJ,hdis,hfd,hfj,hlt⟩:=h
 have hsz:=hj.size
 have hho:=homeN_of hsz
 have htk:=hj.took
 have hkk:=hJ.vals.len
 refine Fn_of_vc Tryz.mixed (vc_gohome _ _ _) ?_
 refine⟨pj,0,rfl,some r,hJ.head.cell 5,(keys_ok r H).mono ?_⟩
 rintro _ H5 ⟨rfl,hn5⟩
 have hx5:=hn5.ext
 have hm5:=MapIs.ext hJ.map hx5 (by simp)
 have hb5:=hn5.blk
 have hin:∀p∈l,In64 p.1:=fun p hp=>by
  have:p.1∈J.taken.map (·.1):=by rw[←hkk.2];exact List.mem_map.2 ⟨p,hp,rfl⟩
  obtain⟨w,hw,e⟩:=List.mem_map.1 this
  have:=htk.1 w hw
  exact⟨by omega,by omega⟩
 have hfew:=htk.few (n:=4096) (by omega)
 refine⟨_,_,_,rfl,(sorted_ok (by rw[hb5.cell];rfl) hm5 hin (by rw[hkk.1];omega)).mono ?_⟩
 rintro _ H8 ⟨a9,c11,rfl,ho8,hx58,hf8⟩
 have hx8:=hx5.trans hx58
 have hs8:=hx8.size
 rw[hkk.2]at ho8
 refine⟨_,_,_,rfl,?_⟩
 unfold goHomeM
 have hks:(sorted (J.taken.map (·.1))).length=l.length:=by rw[sorted_len,List.length_map,hkk.1]
 have hkm:∀k∈sorted (J.taken.map (·.1)),k∈J.taken.map (·.1):=fun k hk=>by
  unfold sorted at hk
  rwa[List.mem_mergeSort]at hk
 generalize sorted (J.taken.map (·.1))=ks at *
 have hd8:=hd.ext hx8.toP (by simp)
 have hJ8:=hJ.extP hx8.toP (by simp) (fun _ h=>h) (fun k hk=>Nat.lt_of_lt_of_le (hJ.lt k hk) hs8)
 have fin:∀{H':Heap} {D':Dev},IsDev H' (grow Fd H8 H') pd D'→ExtP Fd H8 H'→JD H' (grow F H H') pj pd J D'∧ExtP F H H':=by
  intro H' D' hd' hx'
  have hs':=hx'.size
  refine⟨⟨_,Fj,r,l,hd',hJ8.extP hx' (fun k hk hk'=>hdis k hk' hk) (fun _ h=>h) (fun k hk=>by have:=hJ.lt k hk;omega),?_,grow_in hfd hs8 (Nat.le_refl _),fun k hk=>.inl (hfj k hk),grow_lt hlt (by omega)⟩,hx8.anyP.trans (hx'.mono (fun k _ hk=>hfd k hk))⟩
  rintro k (hk|hk) hk'
  ·exact hdis k hk hk'
  ·have:=hJ.lt k hk';omega
 refine⟨fun i H'=>∃(j:Nat) (D':Dev),i=j∧j≤l.length∧goW n J.h.size J.taken ks D=goW n J.h.size J.taken (ks.drop j) D'∧D'.Wf n (B+j)∧IsDev H' (grow Fd H8 H') pd D'∧ExtP Fd H8 H',fun i _=>l.length - i.toNat,
  ⟨0,D,rfl,by omega,rfl,hw,hd8.up (fun _=>.inl) (grow_lt (fun k hk=>hd8.lt k hk) (Nat.le_refl _)),ExtP.refl _ _⟩,?_⟩
 rintro _ H15 ⟨j,D',rfl,hjl,hgo,hw',hd',hx'⟩
 have hs':=hx'.size
 have hfar:∀k∈blkOf a9,¬Fd k:=fun k hk hk'=>by have:=hf8 k hk;have:=hd.lt k hk';have:=hx5.size;omega
 have hJ15:=hJ8.extP hx' (fun k hk hk'=>hdis k hk' hk) (fun _ h=>h) (fun k hk=>by have:=hJ.lt k hk;omega)
 refine⟨fun hlt1=>?_,fun hge=>?_⟩
 ·have hi:ks[j]?=some (ks[j]'(by omega)):=List.getElem?_eq_getElem (by omega)
  have hdr:ks.drop j=ks[j]'(by omega)::ks.drop (j+1):=List.drop_eq_getElem_cons (by omega)
  have hmem:=hkm _ (List.getElem_mem (l:=ks) (n:=j) (by omega))
  generalize ks[j]'(by omega)=k at *
  obtain⟨b16,o17,e16,hc16⟩:=(ho8.extP hx' hfar).row l.length c11 |>.get (ints_at hi)
  obtain⟨x,hx,hxm⟩:=tGet_mem hmem
  have htk1:=htk.1 _ hxm
  simp only at htk1
  rcases TVs.get k (.slice none 0 0) hJ15.vals with h'|⟨x',hx2,⟨a30,c32,ev,hrow,hfa⟩,_⟩
  ·rw[hx]at h';cases h'.1
  rw[hx]at hx2
  cases hx2
  refine⟨by omega,by omega,b16,o17,e16,k,by rw[Int.toNat_natCast];exact hc16,pj,0,rfl,_,hJ15.head.cell 0,pj,0,rfl,_,hJ15.head.cell 3,⟨by omega,by omega⟩,⟨by omega,by omega⟩,pj,0,rfl,_,hJ15.head.cell 5,r,l,rfl,hJ15.map,a30,_,c32,ev.symm,?_⟩
  refine(dwrite_ok hd' hw' (by omega) (1+J.h.size+k) (KeptB.of hrow (fun i hi hg=>?_))).mono ?_
  ·have h1:=(hfa i hi).1
   rcases hg with hg|hg
   ·exact hdis i hg h1
   ·have:=hJ.lt i h1;omega
  rintro _ H34 ⟨rfl,hd34,hx34⟩
  have hs34:=hx34.size
  have hx34':ExtP Fd H8 H34:=hx'.trans' hx34 (fun i hi=>by
   rcases hi with hi|hi
   ·exact .inr hi
   ·exact .inl hi.1)
  have hd34':IsDev H34 (grow Fd H8 H34) pd (writeD D' n (1+J.h.size+k) x).1:=hd34.up (grow_sub hs' hs34) (grow_lt (fun k hk=>hd8.lt k hk) (by omega))
  have hw34:=writeWf hw' (1+J.h.size+k) x
  rw[hdr,goW,hx,Option.getD_some]at hgo
  refine⟨_,rfl,fun he=>?_,fun he=>⟨⟨by omega,by omega⟩,⟨j+1,(writeD D' n (1+J.h.size+k) x).1,by omega,by omega,?_,hw34.up (by omega),hd34',hx34'⟩,by simp only[];omega⟩⟩
  ·rw[if_pos he]at hgo
   rw[hgo]
   exact⟨rfl,fin hd34' hx34'⟩
  ·rw[if_neg he]at hgo
   exact hgo
 ·have:j=l.length:=by omega
  subst this
  rw[List.drop_eq_nil_of_le (by omega),goW]at hgo
  refine⟨pj,0,rfl,_,hJ15.head.cell 0,(dflush_ok hd' hw' (by omega)).mono ?_⟩
  rintro _ H40 ⟨rfl,hd40,hx40⟩
  have hs40:=hx40.size
  rw[hgo]
  exact⟨_,rfl,rfl,fin (hd40.up (grow_sub hs' hs40) (grow_lt (fun k hk=>hd8.lt k hk) (by omega))) (hx'.trans' hx40 (fun i hi=>by
   rcases hi with hi|hi
   ·exact .inr hi
   ·exact .inl hi.1))⟩
theorem begin_ok{H:Heap}{F:Nat→Prop}{pj pd:Nat}{J:Jn}{D:Dev}{n B:Nat}(h:JD H F pj pd J D)(hw:D.Wf n B)(hB:B≤900000000)(hd0:Hd) :
  Does Tryz.prog 193 [.pointer (some ⟨pj,0,none⟩),hd0.v] H fun v H'=>v=.int .i64 (beginM n hd0 J D).2.2∧JD H' (grow F H H') pj pd (beginM n hd0 J D).2.1 (beginM n hd0 J D).1∧ExtP F H H':=by
 obtain⟨Fd,Fj,r,l,hd,hJ,hdis,hfd,hfj,hlt⟩:=h
 refine Fn_of_vc Tryz.mixed (vc_begin _ _ _ _ _ _) ?_
 intro b1 H2 hn2
 have e1:=hn2.eq
 have hx2:=hn2.ext
 have hs2:=hn2.size
 have hb2:Blk H2 b1 hd0.cells:=hn2.blk
 have hJ2:=hJ.extP hx2.toP (by simp) (fun _ h=>h) (fun k hk=>by have:=hJ.lt k hk;omega)
 refine⟨pj,0,rfl,_,hJ2.head.cell 0,_,hb2.cell 0,_,hb2.cell 1,_,hb2.cell 2,(hlay_ok hd0 H2).mono ?_⟩
 rintro _ H10 ⟨⟨a11,c13,rfl,ho10,hf10⟩,hx10⟩
 have hX10:=hx2.trans hx10
 have hs10:=hX10.size
 have hd10:=hd.ext hX10.toP (by simp)
 have hJ10:=hJ.extP hX10.toP (by simp) (fun _ h=>h) (fun k hk=>by have:=hJ.lt k hk;omega)
 refine⟨_,_,_,rfl,⟨hJ10.head.cell 0,trivial⟩,(dwrite_ok hd10 hw (by omega) 0 (KeptB.of (ho10.row _ c13) (fun i hi hg=>by have:=hf10 i hi;have:=hd.lt i hg;omega))).mono ?_⟩
 rintro _ H15 ⟨rfl,hd15,hx15⟩
 have hs15:=hx15.size
 have hw15:=writeWf hw 0 (hdrB hd0)
 have hJ15:=hJ10.extP hx15 (fun k hk hk'=>hdis k hk' hk) (fun _ h=>h) (fun k hk=>by have:=hJ.lt k hk;omega)
 have fin:∀{H':Heap} {D':Dev},IsDev H' (grow Fd H10 H') pd D'→ExtP Fd H10 H'→JD H' (grow F H H') pj pd J D'∧ExtP F H H':=by
  intro H' D' hd' hx'
  have hs':=hx'.size
  refine⟨⟨_,Fj,r,l,hd',hJ10.extP hx' (fun k hk hk'=>hdis k hk' hk) (fun _ h=>h) (fun k hk=>by have:=hJ.lt k hk;omega),?_,grow_in hfd hs10 (Nat.le_refl _),fun k hk=>.inl (hfj k hk),grow_lt hlt (by omega)⟩,hX10.anyP.trans (hx'.mono (fun k _ hk=>hfd k hk))⟩
  rintro k (hk|hk) hk'
  ·exact hdis k hk hk'
  ·have:=hJ.lt k hk';omega
 refine⟨_,rfl,fun he=>?_,fun he=>?_⟩
 ·unfold beginM
  rw[if_pos he]
  exact⟨rfl,fin hd15 hx15⟩
 refine⟨pj,0,rfl,_,hJ15.head.cell 0,(dflush_ok hd15 hw15 (by omega)).mono ?_⟩
 rintro _ H21 ⟨rfl,hd21,hx21⟩
 have hs21:=hx21.size
 have hx1021:ExtP Fd H10 H21:=hx15.trans' hx21 (fun i hi=>by
   rcases hi with hi|hi
   ·exact .inr hi
   ·exact .inl hi.1)
 have hd21':=hd21.up (grow_sub (F:=Fd) hs15 hs21) (grow_lt (fun k hk=>hd10.lt k hk) (by omega))
 refine⟨_,rfl,fun he2=>?_,fun he2=>?_⟩
 ·unfold beginM
  rw[if_neg he,if_pos he2]
  exact⟨rfl,fin hd21' hx1021⟩
 have hb21:Blk H21 b1 hd0.cells:=(hb2.ext hx10 (by simp)).extP hx1021 (fun hf=>by have:=hd.lt _ hf;omega)
 have hJ21:=hJ10.extP hx1021 (fun k hk hk'=>hdis k hk' hk) (fun _ h=>h) (fun k hk=>by have:=hJ.lt k hk;omega)
 refine⟨_,hb21.cell 0,_,hb21.cell 1,_,hb21.cell 2,fun r26 H27 hnm=>?_⟩
 have e26:r26=H21.size:=hnm.1
 have hx27:=NewMap.ext hnm
 have hs27:H27.size=H21.size+1:=by obtain⟨_,rfl⟩:=hnm;simp
 have hm27:MapIs H27 r26 []:=by
  obtain⟨rfl,rfl⟩:=hnm
  exact⟨#[],0,by simp,rfl,MapKept.stamped_empty _⟩
 have hh27:=hJ21.head.ext hx27 (by simp)
 refine⟨pj,0,rfl,hh27.cells 3 1 (by simp[Jn.cells]),fun H30 hp30=>?_⟩
 have hh30:=hp30.blk hh27 (by simp[Jn.cells])
 refine⟨pj,0,rfl,hh30.cells 1 4 (by simp[Jn.cells,splice]),fun H33 hp33=>?_⟩
 have hh33:=hp33.blk hh30 (by simp[Jn.cells,splice])
 refine⟨pj,0,rfl,hh33.cells 1 5 (by simp[Jn.cells,splice]),fun H36 hp36=>?_⟩
 have hh36:=hp36.blk hh33 (by simp[Jn.cells,splice])
 have hxp:Ext [pj] H27 H36:=(hp30.ext.trans hp33.ext).trans hp36.ext
 have hs36:=hxp.size
 have hpj:=hJ.lt _ hJ.hj
 have hx1036:ExtP (fun k=>Fd k∨k=pj) H10 H36:=(hx1021.mono (fun k _ hk=>.inl hk)).trans' ((hx27.toP.mono (N:=fun k=>k=pj) (by simp)).trans' (hxp.toP.mono (N:=fun k=>k=pj) (by simp)) (fun i hi=>.inr hi)) (fun i hi=>.inr (.inr hi))
 have hx2136:ExtP (fun k=>k=pj) H21 H36:=(hx27.toP.mono (N:=fun k=>k=pj) (by simp)).trans' (hxp.toP.mono (N:=fun k=>k=pj) (by simp)) (fun i hi=>.inr hi)
 unfold beginM
 rw[if_neg he,if_neg he2]
 refine⟨rfl,⟨_,fun k=>k=pj∨k=r26,r26,[],hd21'.ext hx2136 ?_,⟨?_,?_,trivial,.inl rfl,.inr rfl,by omega,?_⟩,?_,grow_in hfd hs10 (by omega),?_,grow_lt hlt (by omega)⟩,?_⟩
 ·rintro k (hk|hk) rfl
  ·exact hdis _ hk hJ.hj
  ·omega
 ·simpa[Jn.cells,splice]using hh36
 ·exact MapIs.extP hm27 hxp.toP (by simp;omega)
 ·rintro k (rfl|rfl)<;>omega
 ·rintro k (hk|hk) (rfl|rfl)
  ·exact hdis _ hk hJ.hj
  ·have:=hd.lt _ hk;omega
  ·omega
  ·omega
 ·rintro k (rfl|rfl)
  ·exact .inl (hfj _ hJ.hj)
  ·exact .inr ⟨by omega,by omega⟩
 ·exact hX10.anyP.trans (hx1036.mono (fun k _ hk=>by
   rcases hk with hk|rfl
   ·exact hfd k hk
   ·exact hfj _ hJ.hj))
end Go.Proofs
end
section
open Go Go.Vc
namespace Go.Proofs
set_option maxHeartbeats 1000000 in
theorem hread_ok{H:Heap}{F:Nat→Prop}{pd:Nat}{D:Dev}{n B:Nat}(hd:IsDev H F pd D)(hw:D.Wf n B)(h8:0<n) :
  Does Tryz.prog 144 [.pointer (some ⟨pd,0,none⟩)] H fun v H'=>v=.tuple #[(readM n D).1.v,.int .i64 (readM n D).2]∧Ext [] H H':=by
 refine Fn_of_vc Tryz.mixed (vc_hread _ _ _) ?_
 intro b1 H2 hn2
 have e1:=hn2.eq
 have hx2:=hn2.ext
 have hs2:=hn2.size
 have hb2:Blk H2 b1 Hd.zero.cells:=hn2.blk
 have put:∀{A:Heap} (h:Hd),Ext [] H2 A→Blk A b1 Hd.zero.cells∧∀C:Heap,Puts A b1 0 [.int .i64 h.epoch,.int .i64 h.seq,.int .i64 h.size] C→Blk C b1 h.cells∧Ext [] H C:=fun {A} h ha=>by
  have hb:=hb2.ext ha (by simp)
  refine⟨hb,fun C hp=>⟨by simpa[splice,Hd.cells]using hp.blk hb (by simp[Hd.cells]),ext_new (hx2.trans ha) hp.ext (by simp;omega)⟩⟩
 refine(dread_ok (hd.ext hx2.toP (by simp)) hw 0).mono ?_
 rintro _ H4 ⟨hx4,⟨hno,_⟩|⟨_,hdd,rfl⟩|⟨_,hdd,a5,c7,b,hb0,rfl,ho4,hf4⟩⟩
 ·omega
 ·refine⟨_,_,_,_,rfl,fun _=>?_,fun he=>absurd (by decide) he⟩
  obtain⟨g1,g2⟩:=put Hd.zero hx4
  refine⟨g1.cells 3 0 (by simp[Hd.cells]),fun H9 hp=>?_⟩
  obtain⟨g3,g4⟩:=g2 H9 hp
  refine⟨_,g3.cell 0,_,g3.cell 1,_,g3.cell 2,?_,g4⟩
  unfold readM
  rw[if_pos hdd];rfl
 ·refine⟨_,_,_,_,rfl,fun he=>absurd rfl he,fun _=>?_⟩
  have hl128:b.length=128:=nowSize hw b (List.mem_of_getElem? hb0)
  have hb0':D.now[0]?.getD []=b:=by rw[show((0:Int).toNat)=0 from rfl]at hb0;rw[hb0];rfl
  have hX4:=hx2.trans hx4
  refine(nrB_ok (by omega) (ho4.row _ c7)).mono ?_
  rintro _ H14 ⟨p,rfl,hr14,hx14⟩
  refine⟨_,rfl,(ruB_ok (n:=4) (.inr ⟨rfl,rfl⟩) hr14).mono ?_⟩
  rintro _ H17 ⟨rfl,hr17,hx17⟩
  refine⟨_,rfl,(ruB_ok (n:=4) (.inr ⟨rfl,rfl⟩) hr17).mono ?_⟩
  rintro _ H20 ⟨rfl,hr20,hx20⟩
  refine⟨_,rfl,(ruB_ok (n:=4) (.inr ⟨rfl,rfl⟩) hr20).mono ?_⟩
  rintro _ H23 ⟨rfl,hr23,hx23⟩
  refine⟨_,rfl,(ruB_ok (n:=4) (.inr ⟨rfl,rfl⟩) hr23).mono ?_⟩
  rintro _ H26 ⟨rfl,hr26,hx26⟩
  refine⟨_,rfl,fun b28 H29 hn29=>⟨hn29.blk.cells 3 0 (by simp),fun H30 hp30=>?_⟩⟩
  have hx426:Ext [] H4 H26:=hx14.transP (((hx17.trans hx20).trans hx23).trans hx26) (fun i hi=>hi)
  have hph:(⟨numU (rdU (b,false) 4).2 4,numU (rdU (rdU (b,false) 4).2 4).2 4,numU (rdU (rdU (rdU (b,false) 4).2 4).2 4).2 4⟩:Hd)=parseH b:=rfl
  have hb30:Blk H30 b28 (parseH b).cells:=by simpa[splice,parseH,Hd.cells]using hp30.blk hn29.blk (by simp)
  have e28:=hn29.eq
  have hx430:Ext [] H4 H30:=hx426.trans (ext_new hn29.ext hp30.ext (by simp;omega))
  refine⟨_,hb30.cell 0,_,hb30.cell 1,_,hb30.cell 2,(hlay_ok (parseH b) H30).mono ?_⟩
  rintro _ H35 ⟨⟨a36,c38,rfl,ho35,hf35⟩,hx35⟩
  refine⟨_,_,_,rfl,(eqB_ok (by rw[hdrB_len];decide) (ho35.row _ c38) ((ho4.row _ c7).ext (hx430.trans hx35) (by simp))).mono ?_⟩
  rintro _ _ ⟨rfl,rfl⟩
  have hx235:Ext [] H2 H35:=hx4.trans (hx430.trans hx35)
  have hd35:=hd.ext (hx2.trans hx235).toP (by simp)
  have hb35:=hb30.ext hx35 (by simp)
  have bad:(readM n D)=(Hd.zero,2)→∀{A:Heap},Ext [] H2 A→∀{C:Heap},Puts A b1 0 [.int .i64 0,.int .i64 0,.int .i64 0] C→hcell C b1 0=some (.int .i64 0)∧hcell C b1 (0+1)=some (.int .i64 0)∧hcell C b1 ((0+1)+1)=some (.int .i64 0)∧Value.tuple #[(.agg #[.int .i64 0,.int .i64 0,.int .i64 0]),.int .i64 2]=.tuple #[(readM n D).1.v,.int .i64 (readM n D).2]∧Ext [] H C:=fun hr {A} ha {C} hp=>by
   obtain⟨g1,g2⟩:=put Hd.zero ha
   obtain⟨g3,g4⟩:=g2 C hp
   exact⟨g3.cell 0,g3.cell 1,g3.cell 2,by rw[hr];rfl,g4⟩
  have hM:readM n D=if hdrB (parseH b)≠b∨homeN n (parseH b).size<0∨(parseH b).seq=0 then(Hd.zero,2)else(parseH b,0):=by
   unfold readM
   rw[if_neg (by rw[hdd];decide),hb0']
  refine⟨_,rfl,fun ef=>⟨(put Hd.zero hx235).1.cells 3 0 (by simp[Hd.cells]),fun H42 hp=>?_⟩,fun et=>⟨_,hb35.cell 2,(home_ok hd35 hw (parseH b).size).mono ?_⟩⟩
  ·obtain⟨q0,q1,q2,q3⟩:=bad (by rw[hM,if_pos (.inl (by simpa using ef))]) hx235 hp
   exact⟨_,q0,_,q1,_,q2,q3⟩
  rintro _ _ ⟨rfl,rfl⟩
  have et':hdrB (parseH b)=b:=by simpa using et
  refine⟨_,rfl,fun hneg=>⟨(put Hd.zero hx235).1.cells 3 0 (by simp[Hd.cells]),fun H50 hp=>?_⟩,fun hpos=>⟨_,hb35.cell 1,fun hz=>⟨(put Hd.zero hx235).1.cells 3 0 (by simp[Hd.cells]),fun H55 hp=>?_⟩,fun hnz=>⟨_,hb35.cell 0,_,hb35.cell 1,_,hb35.cell 2,(put Hd.zero hx235).1.cells 3 0 (by simp[Hd.cells]),fun H62 hp=>?_⟩⟩⟩
  ·obtain⟨q0,q1,q2,q3⟩:=bad (by rw[hM,if_pos (.inr (.inl hneg))]) hx235 hp
   exact⟨_,q0,_,q1,_,q2,q3⟩
  ·obtain⟨q0,q1,q2,q3⟩:=bad (by rw[hM,if_pos (.inr (.inr hz))]) hx235 hp
   exact⟨_,q0,_,q1,_,q2,q3⟩
  ·obtain⟨g1,g2⟩:=put (parseH b) hx235
   obtain⟨g3,g4⟩:=g2 H62 hp
   refine⟨_,g3.cell 0,_,g3.cell 1,_,g3.cell 2,?_,g4⟩
   rw[hM,if_neg (by rintro (h|h|h);exact h et';exact hpos h;exact hnz h)]
   rfl
section
variable {H:Heap} {F:Nat→Prop} {pj pd:Nat} {J:Jn} {D:Dev} {n B:Nat}
theorem jhome_ok(h:JD H F pj pd J D)(hw:D.Wf n B):Does Tryz.prog 147 [.pointer (some ⟨pj,0,none⟩)] H fun v H'=>v=.int .i64 (homeN n J.h.size)∧H=H':=by
 obtain⟨Fd,Fj,r,l,hd,hJ,_⟩:=h
 refine Fn_of_vc Tryz.mixed (vc_jhome _ _ _) ?_
 refine⟨pj,0,rfl,_,hJ.head.cell 0,pj,0,rfl,_,hJ.head.cell 3,(home_ok hd hw J.h.size).mono ?_⟩
 rintro _ _ ⟨rfl,rfl⟩
 exact⟨_,rfl,rfl,rfl⟩
theorem jfree_ok(h:JD H F pj pd J D)(hj:J.Wf n)(hn:n≤4096):Does Tryz.prog 171 [.pointer (some ⟨pj,0,none⟩)] H fun v H'=>v=.int .i64 (J.h.size - J.used)∧H=H':=by
 obtain⟨Fd,Fj,r,l,hd,hJ,_⟩:=h
 have h1:=hj.size
 have h2:=hj.used
 refine Fn_of_vc Tryz.mixed (vc_free _ _ _) ?_
 exact⟨pj,0,rfl,_,hJ.head.cell 3,pj,0,rfl,_,hJ.head.cell 4,⟨by omega,by omega⟩,rfl,rfl⟩
theorem jdead_ok(h:JD H F pj pd J D):Does Tryz.prog 111 [.pointer (some ⟨pj,0,none⟩)] H fun v H'=>v=.bool J.dead∧H=H':=by
 obtain⟨Fd,Fj,r,l,hd,hJ,_⟩:=h
 refine Fn_of_vc Tryz.mixed (vc_jdead _ _ _) ?_
 exact⟨pj,0,rfl,_,hJ.head.cell 6,rfl,rfl⟩
theorem ends_ok(h:JD H F pj pd J D)(e:Int):Does Tryz.prog 173 [.pointer (some ⟨pj,0,none⟩),.int .i64 e] H fun v H'=>v=.int .i64 e∧JD H' F pj pd (endsM J e) D∧ExtP F H H':=by
 obtain⟨Fd,Fj,r,l,hd,hJ,hdis,hfd,hfj,hlt⟩:=h
 refine Fn_of_vc Tryz.mixed (vc_ends _ _ _ _) ?_
 have key:∀{v:Bool} {H':Heap},Puts H pj (0+6) [.bool v] H'→v=(endsM J e).dead→JD H' F pj pd (endsM J e) D∧ExtP F H H':=fun {v H'} hp hv=>by
  subst hv
  obtain⟨hJ',hx⟩:=hJ.poke (J':=endsM J e) hp (by decide) (by simp[Jn.cells,endsM]) rfl
  have hxp:ExtP (fun k=>k=pj) H H':=hx.toP.mono (by simp)
  exact⟨⟨Fd,Fj,r,l,hd.ext hxp (fun k hk e=>hdis k hk (e▸hJ.hj)),hJ',hdis,hfd,hfj,fun k hk=>Nat.lt_of_lt_of_le (hlt k hk) hx.size⟩,hxp.mono (fun k _ e=>e▸hfj _ hJ.hj)⟩
 refine⟨pj,0,rfl,_,hJ.head.cell 6,fun hd=>⟨pj,0,rfl,hJ.head.cells 1 6 (by simp[Jn.cells]),fun H6 hp=>⟨rfl,key hp ?_⟩⟩,fun hd=>⟨pj,0,rfl,hJ.head.cells 1 6 (by simp[Jn.cells]),fun H9 hp=>⟨rfl,key hp ?_⟩⟩⟩
 ·simp[endsM,hd]
 ·simp only[endsM,hd,Bool.false_or]
  exact dec_eq Iff.rfl
end
end Go.Proofs
end
