import Derived.Test.YthpcfeifmdbhnaaGreatDoorQRsC
import Derived.Test.YthpcfeifmdbhnaaGreatDoorQMoz
import Derived.Shelf.LaysM
import Derived.Shelf.Strings.BuilderK
import Derived.Shelf.Strings.OnBuilder
import Derived.Shelf.Strconv.Itoa3
import Derived.Lib.ItoaLen
import Derived.Test.YthpcfeifmdbhnaaGreatDoorQFrm
import Derived.Test.YthpcfeifmdbhnaaGreatDoorQPag
import Derived.Test.YthpcfeifmdbhnaaGreatDoorQSra
import Derived.Test.YthpcfeifmdbhnaaGreatDoorQCrd
open Array renaming getElem?_eq_some_iff→Au
open Go renaming Calls→Al,Value→Ak,World→Aj,bodyPost_ret→Ai,cell_of_row→By,heap_alloc_new→Bz
open Go.IntKind renaming i64→Ab,u8→Ac
open Go.IntWalk renaming wrap64_in→Cb
open Go.Lib renaming hid→Ah,wpList_append_run→As
open Go.RowKit.Below renaming refl→Ag
open Go.Value renaming int→Aa,slice→Ad
open List renaming append_assoc→Bj,getElem?_eq_getElem→Aw,getElem_mem→Ay,length_append→Bh,length_map→Bo,length_take→Bm,mem_cons→Bk,take_succ_eq_append_getElem→Bc
open Nat renaming le_refl→Am,le_trans→Br
open Option renaming none→Ae,some→Af
set_option maxHeartbeats 8000000
set_option maxRecDepth 100000
namespace Go.Proofs
open Go.Shelf Go.RowKit
def Tryz.laysJoin_ren:Go.Shelf.Ren:=⟨fun|156=>33|165=>68|166=>30|169=>34|240=>65|241=>118|276=>116|277=>155|n=>n,fun|31=>110|9=>9|3=>3|4=>4|0=>0|20=>20|72=>102|76=>105|70=>99|37=>100|75=>104|127=>167|164=>228|5=>5|80=>114|n=>n,fun|n=>n⟩
open Tryz in
theorem Tryz.laysJoin:Go.Proofs.Lays.n156 Tryz.prog Tryz.laysJoin_ren:={
 mixed:=Cm,f156:=lyf func33,f165:=lyf func68,f166:=lyf func30,f169:=lyf func34,f240:=lyf func65,f241:=lyf func118,f276:=lyf func116,f277:=lyf func155,t0:=underlying0,a0:=isAgg0,z0:=sizeOf0,v0:=zeroValue0,t3:=underlying3,a3:=isAgg3,z3:=sizeOf3,v3:=zeroValue3,t4:=underlying4,a4:=isAgg4,z4:=sizeOf4,v4:=zeroValue4,t9:=underlying9,a9:=isAgg9,z9:=sizeOf9,v9:=zeroValue9,t20:=underlying20,a20:=isAgg20,z20:=sizeOf20,v20:=zeroValue20,t31:=underlying110,a31:=isAgg110,z31:=sizeOf110,v31:=zeroValue110,t37:=underlying100,a37:=isAgg100,z37:=sizeOf100,v37:=zeroValue100,t70:=underlying99,a70:=isAgg99,z70:=sizeOf99,v70:=zeroValue99,t72:=underlying102,a72:=isAgg102,z72:=sizeOf102,v72:=zeroValue102,t75:=underlying104,a75:=isAgg104,z75:=sizeOf104,v75:=zeroValue104,t76:=underlying105,a76:=isAgg105,z76:=sizeOf105,v76:=zeroValue105,t127:=underlying167,a127:=isAgg167,z127:=sizeOf167,v127:=zeroValue167,t164:=underlying228,a164:=isAgg228,z164:=sizeOf228,v164:=zeroValue228}
def Tryz.laysItoa_ren:Go.Shelf.Ren:=⟨fun|171=>32|243=>67|246=>117|283=>151|284=>152|285=>153|286=>154|129=>182|317=>196|318=>197|319=>198|320=>199|337=>237|338=>238|n=>n,fun|3=>3|9=>9|2=>2|4=>4|171=>286|0=>0|53=>287|37=>100|5=>5|173=>290|212=>333|51=>316|20=>20|213=>334|46=>256|232=>376|233=>377|n=>n,fun|17=>2|18=>4|19=>5|n=>n⟩
open Tryz in
theorem Tryz.laysItoa:Go.Proofs.LaysM.n171 Tryz.prog Tryz.laysItoa_ren:={
 mixed:=Cm,f129:=lyf func182,f171:=lyf func32,f243:=lyf func67,f246:=lyf func117,f283:=lyf func151,f284:=lyf func152,f285:=lyf func153,f286:=lyf func154,f317:=lyf func196,f318:=lyf func197,f319:=lyf func198,f320:=lyf func199,f337:=lyf func237,f338:=lyf func238,t0:=underlying0,a0:=isAgg0,z0:=sizeOf0,v0:=zeroValue0,t2:=underlying2,a2:=isAgg2,z2:=sizeOf2,v2:=zeroValue2,t3:=underlying3,a3:=isAgg3,z3:=sizeOf3,v3:=zeroValue3,t4:=underlying4,a4:=isAgg4,z4:=sizeOf4,v4:=zeroValue4,t5:=underlying5,a5:=isAgg5,z5:=sizeOf5,v5:=zeroValue5,t9:=underlying9,a9:=isAgg9,z9:=sizeOf9,v9:=zeroValue9,t20:=underlying20,a20:=isAgg20,z20:=sizeOf20,v20:=zeroValue20,t37:=underlying100,a37:=isAgg100,z37:=sizeOf100,v37:=zeroValue100,t46:=underlying256,a46:=isAgg256,z46:=sizeOf256,v46:=zeroValue256,t51:=underlying316,a51:=isAgg316,z51:=sizeOf316,v51:=zeroValue316,t53:=underlying287,a53:=isAgg287,z53:=sizeOf287,v53:=zeroValue287,t171:=underlying286,a171:=isAgg286,z171:=sizeOf286,v171:=zeroValue286,t173:=underlying290,a173:=isAgg290,z173:=sizeOf290,v173:=zeroValue290,t212:=underlying333,a212:=isAgg333,z212:=sizeOf333,v212:=zeroValue333,t213:=underlying334,a213:=isAgg334,z213:=sizeOf334,t232:=underlying376,a232:=isAgg376,z232:=sizeOf376,v232:=zeroValue376,t233:=underlying377,a233:=isAgg377,z233:=sizeOf377,v233:=zeroValue377,g17:=Cm,g18:=Cm,g19:=Cm,i0:=Cm,i2:=Cm,i3:=Cm,i4:=Cm,i5:=Cm,i9:=Cm,i20:=Cm,i37:=Cm,i46:=Cm,i51:=Cm,i53:=Cm,i171:=Cm,i173:=Cm,i212:=Cm,i232:=Cm,i233:=Cm,m17:=Cm,m18:=Cm,m19:=by kernel_rfl}
theorem Tryz.extraJoin:Builder.Extra Tryz.prog Tryz.laysJoin_ren where
 sizeBuilder:=Cm
 liesBuilder:=Cm
 t5:=Cm
 a5:=λ_=>Cm
 z5:=λ_=>Cm
 v5:=λ_=>Cm
 infoByte:=Cm
 cellsByte:=Cm
 sizeByte:=Cm
 neB5:=Ct
end Go.Proofs
namespace Go.Proofs.YthpcfeifmdbhnaaGreatDoor
open Go.RowKit
def Pw (w:Aj):Prop:=Lib.TabIs Tryz.prog w "internal/strconv.uint64pow10" .u64 Lib.pow10Tab
theorem Aw9:Tryz.prog.globalNamed "internal/strconv.uint64pow10" =Af 2:=Cm
theorem Pw.below {w w':Aj} (h:Pw w) (hb:Below w.heap.size w w'):Pw w':=by
 unfold Pw Lib.TabIs World.var? at h⊢;rw[Aw9]at h⊢;simp only[Option.bind_some]at h⊢
 have hlt:2<w.heap.size:=by
  rcases Nat.lt_or_ge 2 w.heap.size with h'|h'
  ·exact h'
  ·rw[Array.getElem?_eq_none h']at h;cases h
 rw[hb.block _ hlt];exact h
theorem lJ (w:Aj) (k:Nat) (os:Array Obj):Below w.heap.size w (Go.Sort.grow (w.drewN k) os):=by
 have h:∀(os:List Obj) (a b:Aj),Below a.heap.size a b→Below a.heap.size a (Go.Sort.grow b os.toArray):=by
  intro os
  induction os with
  |nil=>intro a b h;rw[show([]:List Obj).toArray= #[]from rfl,Go.Sort.grow_empty];exact h
  |cons o r ih=>
   intro a b h
   have e:Go.Sort.grow b (o::r).toArray=Go.Sort.grow (b.alloc o) r.toArray:=by
    rw[Go.Sort.alloc_eq_grow,Go.Sort.grow_grow];simp
   rw[e];exact ih a _ (h.alloc h.size o)
 exact h os.toList w _ (Dg (Ag _ _) k)
def bsL (l:List UInt8):ByteArray:=⟨l.toArray⟩
theorem tD (a:Int) (h0: -1000000≤a) (h1:a≤1000000) (w:Aj) (hM:Pw w):Al Tryz.prog 32 #[Aa Ab a] w (Co (.string (bsL (Lib.itoa a))) w):=by
 refine(Any.strconv_Itoa Tryz.laysItoa a Ci Ci w hM).mono ?_;rintro e w' ⟨rfl,k,os,rfl⟩;exact⟨rfl,lJ w k os⟩
theorem tG (A:Option Addr) (c:Nat) (xs:List ByteArray) (sep:ByteArray) (n:Nat) (w:Aj) (hn:n=xs.length) (h:Rd w A 1 n (xs.map Value.string)) (hnc:n≤c) (hl:n≤1000) (hs:(Lib.join (xs.map (·.data.toList)) sep.data.toList).length≤100000000000):
  Al Tryz.prog 33 #[Ad A n c,.string sep] w (Co (.string (bsL (Lib.join (xs.map (·.data.toList)) sep.data.toList))) w):=by
 subst hn;by_cases h0:xs.length=0
 ·obtain rfl:xs=[]:=List.eq_nil_of_length_eq_zero h0;exact(Any.strings_Join_none Tryz.laysJoin Tryz.extraJoin A c sep w).mono λe w' ⟨he,hw'⟩=>⟨he,hw'▸Ag _ _⟩
 ·obtain⟨b,o,rfl,hb,hcell⟩:=h.2 Ci;exact Any.strings_Join Tryz.laysJoin Tryz.extraJoin b o c xs sep w (λj x hjx=>hcell j _ (by rw[List.getElem?_map,hjx];rfl)) hb Ci Ci Ci
def BdS (B g:Nat) (l:List UInt8) (w:Aj):Prop:=Lib.IsBuilderF 102 5 B g (Lib.byteCells l) w
theorem BdS.below {B g:Nat} {l:List UInt8} {w w':Aj} (h:BdS B g l w) (hb:Below w.heap.size w w'):BdS B g l w':=by
 have one:∀p,Lib.BuilderAtF 102 5 B g p (Lib.byteCells l) w→Lib.BuilderAtF 102 5 B g p (Lib.byteCells l) w':=by
  rintro p ⟨h1,v,h2,h3,h4⟩;refine⟨h1,v,kept hb h2 (Au.1 h2).1,⟨h3.1,h3.2.imp id λ⟨q,cap,cur,fz,r1,r2,r3,r⟩=>⟨q,cap,cur,fz,r1,r2,kept hb r3 (Au.1 r3).1,r⟩⟩,h4⟩
 exact h.imp (one _) (one _)
theorem BdS.own {B g:Nat} {l:List UInt8} {w w':Aj} {row:Option Nat} (h:BdS B g l w) (hg:w.grownBy w' row) (hr:∀r,row=Af r→∃o:Obj,w.heap[r]? =Af o∧o.isCells=false):BdS B g l w':=by
 have one:∀p,Lib.BuilderAtF 102 5 B g p (Lib.byteCells l) w→Lib.BuilderAtF 102 5 B g p (Lib.byteCells l) w':=by
  rintro p ⟨h1,v,h2,h3,h4⟩
  have k:∀q cs t fz,w.heap[q]? =Af (Obj.cells cs t fz)→w'.heap[q]? =Af (Obj.cells cs t fz):=λq cs t fz hq=>by
   refine(hg.block q (Au.1 hq).1 λe=>?_).trans hq;obtain⟨o,ho,hc⟩:=hr q e.symm;rw[hq]at ho
   cases ho
   cases hc
  exact⟨h1,v,k _ _ _ _ h2,⟨h3.1,h3.2.imp id λ⟨q,cap,cur,fz,r1,r2,r3,r⟩=>⟨q,cap,cur,fz,r1,r2,k _ _ _ _ r3,r⟩⟩,h4⟩
 exact h.imp (one _) (one _)
def BdK (B g:Nat) (l:List UInt8) (w w':Aj):Prop:=BdS B g l w'∧Below B w w'∧Lib.OthersKept 5 (Af g) w w'
theorem kJ (l:List UInt8) (s:ByteArray):Lib.byteCells l++Lib.strCells s=Lib.byteCells (l++s.data.toList):=by
 rw[Lib.byteCells_append];simp[Lib.byteCells,Lib.strCells]
theorem pM (B g:Nat) (l:List UInt8) (s:ByteArray) (w:Aj) (h:BdS B g l w) (hn:l.length+s.size≤100000000000) (hB:B≤w.heap.size):
  Al Tryz.prog 30 #[.pointer (Af ⟨g,0,Ae⟩),.string s] w λe w'=>e= .returned (.tuple #[Aa Ab s.size,.nilIface])∧BdK B g (l++s.data.toList) w w':=by
 refine(Any.Builder_WriteString_k {Tryz.laysJoin with} Tryz.extraJoin B g _ s w h (by rw[Lib.byteCells_length];omega) hB).mono ?_;rintro e w' ⟨rfl,h1,h2,h3⟩;refine⟨rfl,?_,h2,h3⟩;rw[kJ]at h1;exact .inr h1
theorem wQ (B g:Nat) (l:List UInt8) (w:Aj) (h:BdS B g l w) (h0:l≠[]):
  Al Tryz.prog 34 #[.pointer (Af ⟨g,0,Ae⟩)] w λe w'=>e= .returned (.string (bsL l))∧BdK B g l w w':=
 Any.Builder_String_k {Tryz.laysJoin with} Tryz.extraJoin B g l w h h0
theorem BdS.new {w:Aj} {g:Nat} (h:w.heap[g]? =Af (Obj.cells #[.pointer Ae,Ad Ae 0 0] 102 (0,0))):BdS g g [] w:=
 .inl ⟨Am _,_,h,⟨rfl,.inl ⟨rfl,rfl⟩⟩,by simp[Value.ownBlock]⟩
end Go.Proofs.YthpcfeifmdbhnaaGreatDoor
namespace Go.Proofs.YthpcfeifmdbhnaaGreatDoor
open Go.RowKit Go.Shelf
attribute [local go_sem] Oper.semAt_some
def Ab1 (ks:List Int):List UInt8:=Lib.join (ks.map Lib.itoa) [32]++[10]
def Jz (l:List (List Int)):List UInt8:=(l.map Ab1).flatten
theorem qL (m:Nat):∀l:List (List UInt8),(∀x∈l,x.length≤m)→Lib.lens l≤m*l.length
 |[],_=>by simp[Lib.lens]
 |x::r,h=>by
  have h1:=h x Cn;have h2:=qL m r λy hy=>h y (List.mem_cons_of_mem _ hy);have e:Lib.lens (x::r)=x.length+Lib.lens r:=by simp[Lib.lens]
  rw[e,List.length_cons,Nat.mul_add,Nat.mul_one];omega
theorem qF (ks:List Int) (hk:∀k∈ks,-1000000≤k∧k≤1000000):(Lib.join (ks.map Lib.itoa) [32]).length≤100*ks.length:=by
 cases ks with
 |nil=>simp[Lib.join]
 |cons x r=>
  rw[List.map_cons,Lib.join_length]
  have h:=qL 40 (Lib.itoa x::r.map Lib.itoa) λy hy=>by
   obtain⟨z,hz,rfl⟩:∃z,z∈x::r∧Lib.itoa z=y:=by
    rcases Bk.1 hy with rfl|hy
    ·exact⟨x,Cn,rfl⟩
    ·obtain⟨z,hz,rfl⟩:=List.mem_map.1 hy;exact⟨z,List.mem_cons_of_mem _ hz,rfl⟩
   have:=hk z hz;have:=Lib.itoa_length_le z Ci Ci;omega
  simp only[List.length_cons,List.length_nil,Bo]at h⊢;omega
theorem An8 {ks:List Int} (hk:∀k∈ks,-1000000≤k∧k≤1000000) (hl:ks.length≤100):(Ab1 ks).length≤10001:=by
 have:=qF ks hk;unfold Ab1;rw[Bh];simp only[List.length_cons,List.length_nil];omega
theorem Yx:∀l:List (List Int),(∀ks∈l,(∀k∈ks,-1000000≤k∧k≤1000000)∧ks.length≤100)→(Jz l).length≤10001*l.length
 |[],_=>by simp[Jz]
 |x::r,h=>by
  have h1:=An8 (h x Cn).1 (h x Cn).2;have h2:=Yx r λy hy=>h y (List.mem_cons_of_mem _ hy);have e:Jz (x::r)=Ab1 x++Jz r:=by simp[Jz]
  rw[e,Bh,List.length_cons,Nat.mul_add,Nat.mul_one];omega
abbrev BwR (rs:List Gq):={x:Nat×Gq//x.2∈rs}
def We (rs:List Gq):List (BwR rs):=
 (List.range rs.length).attach.map λk=>⟨(rs.length-1-k.1,rs[rs.length-1-k.1]'(by have:=List.mem_range.1 k.2;omega)),Ay _⟩
def Ah3 {rs:List Gq} (x:BwR rs):Array Ak:=#[Aa Ab (x.1.1:Nat),Ad x.1.2.A x.1.2.ks.length x.1.2.c]
theorem eU {rs:List Gq}:(We rs).length=rs.length:=by simp[We]
theorem eT {rs:List Gq} {k:Nat} (hk:k<(We rs).length):((We rs)[k]).1=(rs.length-1-k,rs[rs.length-1-k]'(by rw[eU]at hk;omega)):=by
 simp[We]
theorem rZ {rs:List Gq}:(We rs).map (·.1.2)=rs.reverse:=by
 apply List.ext_getElem
 ·simp[We]
 ·intro k h1 h2;rw[List.getElem_map,eT,List.getElem_reverse]
theorem wP (Bn n₀:Nat) (A:Option Addr) (rs:List Gq) (cap:Nat) (hlen:rs.length≤100000) (l n:Nat) (hn:1≤n) (J Jx:List (BwR rs)→Aj→Prop) (W:Aj)
  (hY:∀pre x W1,J pre W1→pre.length<rs.length→YieldAt Fence.wide (n-1) Tryz.prog l (Ah3 x) W1 λe W'=>
   (e= .returned (.bool true)∧J (pre++[x]) W'∧Hw n₀ Bn W1 W')∨(e= .returned (.bool false)∧Jx (pre++[x]) W'))
  (hBn:W.heap[Bn]? =Af (Obj.cells #[Ad A rs.length cap] 37 (0,0))) (_:n₀≤W.heap.size) (hc:∀j (hj:j<rs.length),∃b o,A=Af ⟨b,o,Ae⟩∧b<n₀∧W.cell? ⟨b,o+j,Ae⟩=Af (.slice rs[j].A rs[j].ks.length rs[j].c)) (h0:J [] W):
  CallsIn Fence.wide n Tryz.prog 66 #[.func (.yield l) #[] #[],.pointer (Af ⟨Bn,0,Ae⟩)] W λe W'=>(∃v,e= .returned v)∧
   ((∃ys,ys=We rs∧J ys W')∨(∃pre,True∧Jx pre W')):=by
 refine callsIn_of_wp Tryz.func66 rfl trivial ?_ rfl;simp only[Tryz.ntmps66,List.size_toArray,List.length_cons,List.length_nil,Nat.reduceAdd,Nat.reduceSub,Array.replicate_succ,Array.replicate_zero,List.push_toArray,List.append_toArray,List.nil_append,List.cons_append];have hbl:=eU (rs:=rs)
 have hbg:∀zs,We rs=zs→∀k (hk:k<zs.length) j (hj:j<rs.length),j=rs.length-1-k→zs[k].1=(j,rs[j]):=by
  rintro _ rfl k hk j hj rfl;exact eT hk
 obtain⟨zs,hzs⟩:=ey (We rs);have HBG:=Ah (hbg zs hzs);rw[hzs]at hbl⊢;obtain⟨N,hN⟩:=ey rs.length;have hb0:W.cell? ⟨Bn,0,Ae⟩=Af (Ad A N cap):=by rw[By _ _ 0 _ _ _ hBn,←hN];rfl
 have HC:=Ah hc;have HNN:=Ah hN;rw[hN]at hlen hY hbl;have e1:wrap64 ((N:Int)-1)=(N:Int)-1:=Cb _ Ci;clear hzs hbg hc hN
 gi_wp2
 gi_loopw [3] (λs3 wr=>∃(k:Nat) (i:Int),k≤N∧i=(N:Int)-1-k∧s3= Aa Ab i∧J (zs.take k) wr∧Hw n₀ Bn W wr) (λs3 _=>(intOf s3+1).toNat)
 case atStart=>exact⟨0,(N:Int)-1,Nat.zero_le _,Ci,rfl,h0,Ag _ _,rfl⟩
 case round=>
  obtain⟨k,i,hk,hi,rfl,hJ0,hB⟩:=hrel;have c0:wr.cell? ⟨Bn,0,Ae⟩=Af (Ad A N cap):=(Oj hB.2 0).trans hb0;by_cases hlt:k<N
  ·obtain⟨j,rfl⟩:∃j:Nat,i=j:=⟨N-1-k,Ci⟩;have hjk:j=N-1-k:=Ci;have hj:j<rs.length:=by have:=HNN.out;omega
   obtain⟨b,o,rfl,hbn,d0⟩:=HC.out j hj;have d0:=(hB.1.cell (p:=⟨b,o+j,Ae⟩) hbn).trans d0;obtain⟨iv,hv⟩:=ey (rs[j]);rw[hv]at d0;have hkz:k<zs.length:=Ci;have q0:(j:Int)≥0:=Ci;have q1:(j:Int)<(N:Int):=Ci;have e2:wrap64 ((j:Int)-1)=(j:Int)-1:=Cb _ Ci
   have hx:zs[k].1=(j,iv):=by
    rw[HBG.out k hkz j hj (by have:=HNN.out;omega),hv]
   obtain⟨fn,tmps,assign,body,hy,hR⟩:=hY _ zs[k] _ hJ0 (by rw[Bm];omega);unfold Ah3 at hy;rw[hx]at hy;dsimp only at hy;have htk:zs.take k++[zs[k]]=zs.take (k+1):=(Bc hkz).symm;have HJK:=Ah hjk;clear hv hx hjk hi
   gi_wp2
   refine hR.mono ?_;rintro e W3 (⟨rfl,hJ3,hk3⟩|⟨rfl,hJx3⟩)
   ·rw[htk]at hJ3
    gi_wp2
    go_roundw
    case rel=>exact⟨k+1,(j:Int)-1,Ci,by have:=HJK.out;omega,by go_num,hJ3,Oy hB hk3⟩
    case measure=>simp[intOf]
   ·gi_wp2
    refine Ai (results_none rfl _ _ _) rfl ?_;exact⟨⟨_,rfl⟩,.inr ⟨_,trivial,hJx3⟩⟩
  ·obtain rfl:k=N:=Ci;have q0:¬i≥0:=Ci
   gi_wp2
   go_end0
   rw[←hbl,List.take_length]at hJ0;exact⟨⟨_,rfl⟩,.inl hJ0⟩
theorem Zp (A:Option Addr) (n c:Nat) (w:Aj):
  Al Tryz.prog 31 #[Ad A n c] w λe w'=>e= .returned (.func (.func 66) #[] #[.pointer (Af ⟨w.heap.size,0,Ae⟩)])∧w'=w.alloc (.cells #[Ad A n c] 37):=by
 go_enter Tryz.func31,Tryz.ntmps31;go_wp2;go_ret;exact⟨rfl,rfl⟩
theorem eO (Bn n₀:Nat) (A:Option Addr) (rs:List Gq) (cap:Nat) (hlen:rs.length≤100000) (n:Nat) (hn:1≤n) (w:Aj)
  (hBn:w.heap[Bn]? =Af (Obj.cells #[Ad A rs.length cap] 37 (0,0))) (hn₀:n₀≤w.heap.size) (hc:∀j (hj:j<rs.length),∃b o,A=Af ⟨b,o,Ae⟩∧b<n₀∧w.cell? ⟨b,o+j,Ae⟩=Af (.slice rs[j].A rs[j].ks.length rs[j].c)):
  SeqStopsK Fence.wide n Tryz.prog 66 #[.pointer (Af ⟨Bn,0,Ae⟩)] (Ah3 (rs:=rs)) (Hw n₀ Bn) (λys=>ys=We rs) (λ_=>True) rs.length w:=λl J Jx W hW _ _ hY h0=>
 wP Bn n₀ A rs cap hlen l n hn J Jx W hY (kept hW hBn (Au.1 hBn).1) (Br hn₀ hW.size) (λj hj=>by
  obtain⟨b,o,e,hb,hcc⟩:=hc j hj;exact⟨b,o,e,hb,(hW.cell (p:=⟨b,o+j,Ae⟩) (by show b<_;omega)).trans hcc⟩) h0
end Go.Proofs.YthpcfeifmdbhnaaGreatDoor
namespace Go.Proofs.YthpcfeifmdbhnaaGreatDoor
open Go.RowKit Go.Shelf
attribute [local go_sem] Oper.semAt_some
theorem Yb {B:Nat} {W W':Aj} (hb:Below W.heap.size W W'):KeepsFrom B W W':=
 ⟨hb.size,λk _ _ hk _=>(hb.block k (Au.1 hk).1).trans hk⟩
theorem BdS.blk {B g:Nat} {l:List UInt8} {w:Aj} (h:BdS B g l w):∃cs,w.heap[g]? =Af (Obj.cells cs 102 (0,0)):=by
 rcases h with⟨-,v,h,-⟩|⟨-,v,h,-⟩<;>exact⟨_,h⟩
theorem Wf {B0 B g:Nat} {l l':List UInt8} {W W':Aj} (h:BdS B g l W) (hk:BdK B g l' W W'):KeepsFrom B0 W W':=by
 refine⟨hk.2.1.size,λk o _ ho hc=>hk.2.2 k o ho (λe=>?_) λc fz e=>?_⟩
 ·injection e with e;subst e;obtain⟨cs,hg⟩:=h.blk;rw[ho]at hg;injection hg with hg;rw[hg]at hc
  cases hc
 ·rw[e]at hc
  cases hc
def rH (ks:List Int):List Ak:=ks.map λk=> .string (bsL (Lib.itoa k))
theorem oS (ks:List Int) (k:Nat) (h:k<ks.length):rH (ks.take (k+1))=rH (ks.take k)++[.string (bsL (Lib.itoa ks[k]))]:=by
 unfold rH;rw[Bc h,List.map_append];rfl
theorem Ai8:(Tryz.prog.info? 9).map (λi=>(i.zero,i.size,i.bytes))=Af (Af (.string ⟨#[]⟩),1,16):=Cm
theorem vA {n k:Nat} (h:k<n):n-(intOf (Aa Ab ((k:Int)+1))).toNat<n-(intOf (Aa Ab (k:Int))).toNat:=by
 show n-((k:Int)+1).toNat<n-((k:Int)).toNat;omega
def As7 (B g:Nat) (l:List UInt8) (w:Aj) (e:Ending) (w':Aj):Prop:=e= .returned (.tuple #[])∧BdS B g l w'∧Below B w w'
theorem bV (B g:Nat) (nm:ByteArray) (A:Option Addr) (rs:List Gq) (cc:Nat) (l0:List UInt8) (w0 w:Aj) (h0:w0.heap.size≤B) (h1:Below w0.heap.size w0 w) (hS:BdS B g l0 w) (hBw:B≤w.heap.size) (hr:Ik w0 A rs) (hl:rs.length≤100) (hk:∀r∈rs,r.ks.length≤100) (hx:∀r∈rs,∀x∈r.ks,-1000000≤x∧x≤1000000) (hP:Pw w0) (hl0:l0.length≤10000000) (hnm:nm.size≤100):
  Al Tryz.prog 29 #[.string nm,Ad A rs.length cc,.pointer (Af ⟨g,0,Ae⟩)] w (As7 B g (l0++(nm.data.toList++[10])++Jz (rs.reverse.map (·.ks))) w):=by
 obtain⟨N,hN⟩:=ey rs.length;have HR:=Ah hr;have HK:=Ah hk;have HX:=Ah hx;have HP:=Ah hP;have HN:=Ah hN;have H1:=Ah h1
 have hws:=pM B g l0 (nm++⟨#[10]⟩) w hS (by
  have:(nm++(⟨#[10]⟩:ByteArray)).size=nm.size+1:=by rw[ByteArray.size_append];rfl
  omega) hBw
 have ed:(nm++(⟨#[10]⟩:ByteArray)).data.toList=nm.data.toList++[10]:=Cn;rw[ed]at hws;have hnl:nm.data.toList.length=nm.size:=rfl;obtain⟨l1,hl1⟩:=ey (l0++(nm.data.toList++[10]))
 have hl1b:l1.length≤10000101:=by
  rw[←hl1];simp only[Bh,List.length_cons,List.length_nil,hnl];omega
 rw[hl1]at hws⊢;have HWS:=Ah hws;have z7:¬9223372036854775807<nm.size+1:=Ci;rw[hN]at hl⊢;clear hr hk hx hP hN hws ed hnl hl1 h1 hS hl0 hnm;refine(callsIn_wide (n:=9)).1 (callsIn_of_wp_marks Tryz.func29 rfl trivial ?_ rfl);simp only[Tryz.ntmps29,List.size_toArray,List.length_cons,List.length_nil,Nat.reduceAdd,Nat.reduceSub,Array.replicate_succ,Array.replicate_zero,List.push_toArray,List.append_toArray,List.nil_append,List.cons_append];refine wpIn_wide.2 ?_;go_wp2_with fail;refine HWS.out.mono ?_;rintro e w1 ⟨rfl,hS1,hb1,-⟩;clear HWS;go_wp2_with fail;refine(Zp A N cc w1).mono ?_;rintro e w2 ⟨rfl,hw2⟩;obtain⟨Bs,hBs⟩:=ey w1.heap.size;rw[hBs];have bS:w2.heap[Bs]? =Af (Obj.cells #[Ad A rs.length cc] 37 (0,0)):=by rw[hw2,←hBs,HN.out];exact Bz w1 _
 have hBBs:B≤Bs:=by have:=hb1.size;omega
 have hs2:w2.heap.size=Bs+1:=by rw[hw2];simp[hBs]
 have hb2:Below B w w2:=by rw[hw2];exact hb1.alloc Ci _
 have hS2:BdS B g l1 w2:=by rw[hw2];exact hS1.below ((Ag _ _).alloc (Am _) _)
 have HB0:Hid (∀X,Below B w X→Below w0.heap.size w0 X):=Ah λX hX=>H1.out.trans (hX.mono h0)
 have hcl:∀j (hj:j<rs.length),∃b o,A=Af ⟨b,o,Ae⟩∧b<B∧w2.cell? ⟨b,o+j,Ae⟩=Af (.slice rs[j].A rs[j].ks.length rs[j].c):=λj hj=>by
  obtain⟨b,o,e,hb,hc⟩:=HR.out.at' j hj;exact⟨b,o,e,Ci,((HB0.out _ hb2).cell (p:=⟨b,o+j,Ae⟩) hb).trans hc⟩
 clear hw2 hS1 hb1;go_wp2_with fail
 refine' wpIn_wide.1 (bH (F:=Fence.wide) (n:=9) (w0:=w2) rfl Ct (gf:=66) (lb:=#[.pointer (Af ⟨Bs,0,Ae⟩)]) rfl trivial (enters_of Tryz.func66 Cm rfl)
  (eO (n₀:=B) Bs A rs cc (by have:=HN.out;omega) 8 Ct w2 bS Ci hcl) Oy (λ_=>⟨Ag _ _,rfl⟩) (Ya Ci Ci) (Ag _ _) (λ_=>rfl)
  (λpre W=>BdS B g (l1++Jz (pre.map (·.1.2.ks))) W∧(W.heap[Bs]? =Af (Obj.cells #[Ad A rs.length cc] 37 (0,0))∧Below B w W))
  (OwnFrom.and (λ_ _ _ _ hs hg hr=>hs.own hg (λr e=>(hr r e).2)) (OwnFrom.and (λ_ _ _ _ hs hg hr=>Ps hs hg (λr e=>(hr r e).2)) (ownFrom_below Ci Ci)))
  ⟨by simpa[Jz]using hS2,bS,hb2⟩ _ ?assign ?body ?done)
 case assign=>
  rintro l x W K hK;unfold Ah3
  gi_wp2
  exact hK
 case body=>
  rintro l pre ⟨⟨xi,r⟩,hmem⟩ W ⟨hS,hSW,hB⟩ hlt;dsimp only at hmem⊢;obtain⟨x9,hx9⟩:∃z:BwR rs,(⟨(xi,r),hmem⟩:BwR rs)=z:=⟨_,rfl⟩;rw[hx9];have hx2:x9.1.2.ks=r.ks:=by rw[←hx9]
  clear hx9;have hB0:=HB0.out W hB;have hrow:=HR.out.row r hmem;have hkl:=HK.out r hmem;have hxl:=HX.out r hmem;have hWl:B≤W.heap.size:=Br hBw hB.size;obtain⟨rA,rc,rks⟩:=r;dsimp only at hrow hkl hxl hx2⊢;obtain⟨n,hn⟩:=ey rks.length;rw[hn]at hkl⊢;have HNK:=Ah hn;have HROW:=Ah hrow;have HXL:=Ah hxl
  have hl9:(l1++Jz (pre.map (·.1.2.ks))).length≤20000000:=by
   have h3:=Yx (pre.map (·.1.2.ks)) (λks hks=>by
    obtain⟨y,hy,rfl⟩:=List.mem_map.1 hks;exact⟨HX.out _ y.2,HK.out _ y.2⟩)
   have h4:=HN.out;rw[Bh];rw[Bo]at h3;have h5:10001*pre.length≤10001*100:=Nat.mul_le_mul_left _ Ci;omega
  obtain⟨lc,hlc⟩:=ey (l1++Jz (pre.map (·.1.2.ks)));rw[hlc]at hS hl9;have HLC:=Ah hlc;have HJL:=Ah (qF rks hxl);have HS:=Ah hS;have HSW:=Ah hSW;have HBB:=Ah hB;have HBW0:=Ah hB0;obtain⟨i0,hi0,hz0,hz1,hz2⟩:=info_parts Ai8;clear hn hrow hxl hlc hS hSW hB hB0 hmem hcl bS hb2 hS2
  gi_wp2
  gi_loopw [7,19] (λs7 s19 wr=>∃(k c:Nat) (A7:Option Addr),k≤n∧s19= Aa Ab k∧s7= Ad A7 k c∧Hid (Below W.heap.size W wr∧wr.ownsRow W.heap.size 9 1 (Ad A7 k c) k (rH (rks.take k)))) (λ_ s19 _=>n-(intOf s19).toNat)
  case atStart=>exact⟨0,0,Ae,Ci,rfl,rfl,Ah ⟨Ag _ _,World.ownsRow_nil _ _ _ _⟩⟩
  case round=>
   obtain⟨k,c,A7,hk,rfl,rfl,HO⟩:=hrel;have hb0:Below w0.heap.size w0 wr:=HBW0.out.trans (HO.out.1.mono Ci);by_cases hlt2:k<n
   ·have q0:(k:Int)<(n:Int):=Ci;have hkl2:k<rks.length:=by have:=HNK.out;omega
    obtain⟨b,o,hA,hbl,c0⟩:=(HROW.out.below hb0).at' k hkl2;have hv:=HXL.out rks[k] (Ay hkl2);have hnx:=oS rks k hkl2;dsimp only at hA c0;obtain⟨v,hv2⟩:=ey (rks[k]);rw[hv2]at c0 hv hnx;have hit:=tD v hv.1 hv.2 wr (HP.out.below hb0);have HLT:=Ah hlt2;have HNX:=Ah hnx;subst hA;clear hv hv2 hnx hlt2 hkl2
    gi_wp2
    refine⟨trivial,(CallsIn.inRound l (callsIn_wide.2 hit)).mono ?_⟩;rintro e w5 ⟨rfl,hb5⟩;have hown5:=Dj HO.out.2 (Am _) hb5;have hb15:=HO.out.1.trans (hb5.mono HO.out.1.size);have hs5:=hb15.size;have hcn:=Rf w5 #[.string (bsL (Lib.itoa v))] 9;clear hit c0
    gi_wp2_with (gi_at_builtin;refine wpListIn_append_own _ rfl _ _ 110 rfl W.heap.size 9 i0 _ 1 16 Tryz.underlying110 hi0 hz0 hz1 hz2 rfl Ct _ _ _ rfl (hown5.alloc _) ⟨w5.heap.size,0,Ae⟩ 1 1 [.string (bsL (Lib.itoa v))] rfl rfl hcn (by simp[Value.oneCell']) (by unfold maxLen;omega) Ci (by simp;omega) ?_;intro v' w6 hown6 hgrow6 _;obtain⟨g7,c7,rfl⟩:=ownsRow_succ hown6)
    have hb6:Below W.heap.size W w6:=(hb15.alloc hs5 _).grown hgrow6 (by simp;omega) (λq hq=>(hown5.lt q hq).1);rw[←HNX.out]at hown6;exact⟨⟨k+1,c7,Af ⟨g7,0,Ae⟩,Nat.succ_le_of_lt HLT.out,Cn,rfl,Ah ⟨hb6,hown6⟩⟩,vA HLT.out⟩
   ·obtain rfl:k=n:=Ci;have q0:¬(k:Int)<(k:Int):=Ci;obtain⟨A8,c8,e8,hkc,-⟩:=Dv HO.out.2;obtain⟨rfl,rfl⟩:A7=A8∧c=c8:=by injection e8 with h1 h2 h3;exact⟨h1,h3⟩
    have hrd:=Rd.of_own HO.out.2;have htk:rks.take k=rks:=by rw[←HNK.out];exact List.take_length
    rw[htk]at hrd
    have hjn:=tG A7 c (rks.map λx=>bsL (Lib.itoa x)) ⟨#[32]⟩ k wr (by rw[Bo];exact HNK.out.symm) (by rw[List.map_map];exact hrd) hkc Ci (by
     rw[List.map_map];have:=HJL.out;have e:(rks.map ((λx:ByteArray=>x.data.toList)∘λx=>bsL (Lib.itoa x)))=rks.map Lib.itoa:=List.map_congr_left λx _=>by simp[bsL]
     rw[e];show(Lib.join (rks.map Lib.itoa) [32]).length≤_;have:=HNK.out;omega)
    rw[List.map_map,show(rks.map ((λx:ByteArray=>x.data.toList)∘λx=>bsL (Lib.itoa x)))=rks.map Lib.itoa from List.map_congr_left λx _=>by simp[bsL]]at hjn;obtain⟨J,hJ⟩:=ey (Lib.join (rks.map Lib.itoa) [32]);have hjn:Al Tryz.prog 33 #[Ad A7 k c,.string ⟨#[32]⟩] wr (Co (.string (bsL J)) wr):=by rw[←hJ];exact hjn
    have hjl:J.length≤10000:=by rw[←hJ];have:=HJL.out;have:=HNK.out;omega
    obtain⟨sj,hsj⟩:=ey (bsL J);have hsd:sj.data.toList=J:=by rw[←hsj];simp[bsL]
    have hss:sj.size=J.length:=by rw[←hsd];rfl
    rw[hsj]at hjn;have HJN:=Ah hjn;have HJE:=Ah hJ;have HSD:=Ah hsd;have z8:¬9223372036854775807<sj.size+1:=Ci
    have HSZ:=Ah (show(sj++(⟨#[10]⟩:ByteArray)).size≤20000 by
     rw[ByteArray.size_append];show sj.size+1≤_;omega)
    have hed:(sj++(⟨#[10]⟩:ByteArray)).data.toList=J++[10]:=by
     rw[←hsd];simp
    have HED:=Ah hed;clear hed hjn hJ hsj hsd hss hrd htk hjl hkc hb0
    gi_wp2
    refine⟨trivial,(CallsIn.inRound l (callsIn_wide.2 HJN.out)).mono ?_⟩;rintro e w7 ⟨rfl,hb7⟩;have hbw7:Below W.heap.size W w7:=HO.out.1.trans (hb7.mono HO.out.1.size);have hS7:=HS.out.below hbw7;have hwr:=pM B g lc (sj++⟨#[10]⟩) w7 hS7 (by have:=HSZ.out;omega) (Br hWl hbw7.size);rw[HED.out]at hwr;have HWR:=Ah hwr;have HB7:=Ah hbw7;have HS7:=Ah hS7;clear hwr hbw7 hS7 hb7 HJN
    gi_wp2
    refine⟨trivial,(CallsIn.inRound l (callsIn_wide.2 HWR.out)).mono ?_⟩;rintro e w8 ⟨rfl,hK8⟩;have hbs7:w7.heap[Bs]? =Af (Obj.cells #[Ad A rs.length cc] 37 (0,0)):=(HB7.out.block Bs (Au.1 HSW.out).1).trans HSW.out
    have hgB:Bs≠g:=λe=>by
     obtain⟨cs,hg⟩:=HS.out.blk;rw[←e,HSW.out]at hg;injection hg with hg;injection hg with _ hg;exact absurd hg Ct
    have hbs8:w8.heap[Bs]? =Af (Obj.cells #[Ad A rs.length cc] 37 (0,0)):=hK8.2.2 Bs _ hbs7 (λe=>hgB (by injection e)) λc fz e=>by
     injection e with _ e;exact absurd e Ct
    have hb8:Below B W w8:=(HB7.out.mono hWl).trans hK8.2.1
    have hfin:l1++Jz ((pre++[x9]).map (·.1.2.ks))=lc++(J++[10]):=by
     rw[←HLC.out,List.map_append,List.map_cons,List.map_nil,hx2,←HJE.out,Bj]
     congr 1
     simp[Jz,Ab1]
    have hKF:=(Yb (B:=w2.heap.size) HB7.out).trans (Wf (B0:=w2.heap.size) HS7.out hK8)
    have HALL:=Ah (show KeepsFrom w2.heap.size W w8∧Hw B Bs W w8∧(BdS B g (l1++Jz ((pre++[x9]).map (·.1.2.ks))) w8∧(w8.heap[Bs]? =Af (Obj.cells #[Ad A rs.length cc] 37 (0,0))∧Below B w w8))from
     ⟨hKF,⟨hb8,hbs8.trans HSW.out.symm⟩,by rw[hfin];exact hK8.1,hbs8,HBB.out.trans hb8⟩)
    clear hKF hfin hb8 hbs8 hbs7 hK8 hgB
    gi_wp2
    exact HALL.out
 case done=>
  rintro D ys W hD rfl ⟨hS,hSW,hB⟩ hK
  have e9:(We rs).map (·.1.2.ks)=rs.reverse.map (·.ks):=by
   rw[←rZ,List.map_map];rfl
  rw[e9]at hS
  have hS9:=hS.own (w':=W.putObj D (.deferred Ae)) (grownBy_putObj' W D _) λr hr=>by
   injection hr with hr;subst hr;exact⟨_,hK,rfl⟩
  have hb9:Below B w (W.putObj D (.deferred Ae)):=hB.trans (belowK_b (n₀:=B) (w:=w2) Ci W D _ _ hD hK rfl rfl);clear hS hB;go_wp2_with fail;refine⟨Cn,.inl ⟨_,_,rfl,run_takeDeferred hK,?_⟩⟩;exact⟨.tuple #[],by simp[results,Tryz.results29,go_sem],rfl,hS9,hb9⟩
end Go.Proofs.YthpcfeifmdbhnaaGreatDoor
namespace Go.Proofs.YthpcfeifmdbhnaaGreatDoor
open Go.RowKit
def Uk:List UInt8:=[102,114,111,110,116]
def wO:List UInt8:=[98,97,99,107]
def Xk (fr bk:List (List Int)):List UInt8:=Uk++[10]++Jz fr.reverse++(wO++[10])++Jz bk.reverse
def bW (fr bk:List (List Int)):List UInt8:=if fmE fr bk=0 then Xk fr bk else[]
theorem jF (FA BA:Option Addr) (fr bk:List Gq) (c1 c2:Nat) (w:Aj) (hF:jX w FA BA fr bk) (hP:Pw w):
  Al Tryz.prog 15 #[.agg #[Ad FA fr.length c1,Ad BA bk.length c2]] w (Co (.string (bsL (bW (ksL fr) (ksL bk)))) w):=by
 have HCK:=Ah (λ(w':Aj) (hb:Below w.heap.size w w')=>Xi FA BA fr bk c1 c2 w' (hF.below hb).f (hF.below hb).b hF.lf hF.lb hF.lk);have HF:=Ah hF;have HP:=Ah hP;have hck2:fmE (fr.map (·.ks)) (bk.map (·.ks))=fmE (ksL fr) (ksL bk):=rfl;rw[hck2]at HCK
 have hnum:fmE (ksL fr) (ksL bk)=0→∀r∈fr++bk,∀x∈r.ks,-1000000≤x∧x≤1000000:=λh0 r hr x hx=>by
  obtain⟨e1,e2,e3,e4,e5⟩:=dE h0;have hm:r.ks∈ksL fr++ksL bk:=by unfold ksL;rw[Wm];exact List.mem_map_of_mem hr
  have h5:=e5 _ hm x hx;have h6:=Pv _ e4
  have h7:((ksL fr).getD 0 []).length≤100:=by
   rw[←e4 _ hm];exact hF.lk r hr
  have h8:(ksL fr++ksL bk).length≤200:=by
   unfold ksL;rw[Bh,Bo,Bo];have:=hF.lf;have:=hF.lb;omega
  have h9:(ksL fr++ksL bk).length*((ksL fr).getD 0 []).length≤200*100:=Nat.mul_le_mul h8 h7;omega
 have HNUM:=Ah hnum;obtain⟨Z,hZ⟩:=ey (fmE (ksL fr) (ksL bk))
 have htx:(¬Z=0→bW (ksL fr) (ksL bk)=[])∧(Z=0→bW (ksL fr) (ksL bk)=Xk (ksL fr) (ksL bk)):=by
  unfold bW;rw[hZ];exact⟨λh=>if_neg h,λh=>if_pos h⟩
 obtain⟨TX,hTX⟩:=ey (bW (ksL fr) (ksL bk));rw[hTX]at htx⊢;have HTX:=Ah htx;rw[hZ]at HCK HNUM;clear htx hTX;have H:=(Bx.start w).new #[Ad FA fr.length c1,Ad BA bk.length c2] 39 rfl;clear hF hP hck2 hnum hZ;go_enter Tryz.func15,Tryz.ntmps15;go_upto_region 1 with fail;obtain⟨N,hN⟩:=ez w.heap.size;rw[←hN]at H⊢;have HNN:=Ah hN;clear hN;obtain⟨W1,hW1⟩:=ez (w.alloc (.cells #[Ad FA fr.length c1,Ad BA bk.length c2] 39));rw[←hW1]at H⊢;clear hW1;obtain⟨⟨f0,f1⟩,-⟩:=Cy (H.blk 0 _ _ _ rfl);go_wp2_with fail;refine(HCK.out _ H.below).mono ?_;rintro ee w2 ⟨rfl,hb⟩;have H:=H.call hb;clear f0 f1 hb HCK;obtain⟨⟨f0,f1⟩,-⟩:=Cy (H.blk 0 _ _ _ rfl);by_cases h0:¬Z=0
 ·have q0:(Z != 0)=true:=by simpa using h0
  obtain rfl:TX=[]:=HTX.out.1 h0;clear h0
  as_aux_lemma=>
  go_wp2;go_ret;exact⟨rfl,H.below⟩
 obtain rfl:Z=0:=Classical.not_not.1 h0;obtain rfl:TX=Xk (ksL fr) (ksL bk):=HTX.out.2 rfl;clear h0;obtain⟨g,hg⟩:=ey w2.heap.size;have H3:=H.other (.cells #[.pointer Ae,Ad Ae 0 0] 102);have hbd:=BdS.new (w:=w2.alloc (.cells #[.pointer Ae,Ad Ae 0 0] 102)) (g:=g) (by rw[←hg];exact Bz w2 _);have hsz:(w2.alloc (.cells #[.pointer Ae,Ad Ae 0 0] 102)).heap.size=g+1:=by simp[hg]
 have hw0:w.heap.size≤g:=by rw[←hg];exact H.below.size
 have hNg:=hg▸H.lt 0 rfl;have hb20:Below g w2 (w2.alloc (.cells #[.pointer Ae,Ad Ae 0 0] 102)):=(Ag _ _).alloc Ci _;have HH2:=Ah H;clear f0 f1 H;go_upto_region 4 with fail
 try rw[hg]
 obtain⟨W3,hW3⟩:=ez (w2.alloc (.cells #[.pointer Ae,Ad Ae 0 0] 102));rw[←hW3]at H3 hbd hsz hb20⊢;clear hW3;obtain⟨⟨f0,f1⟩,-⟩:=Cy (H3.blk 0 _ _ _ rfl);have hs5:(⟨#[102,114,111,110,116]⟩:ByteArray).data.toList=Uk:=rfl;have hs6:(⟨#[98,97,99,107]⟩:ByteArray).data.toList=wO:=rfl;have t1:=bV g g ⟨#[102,114,111,110,116]⟩ FA fr c1 [] w W3 hw0 H3.below hbd Ci HF.out.f HF.out.lf (λr hr=>HF.out.lk r (List.mem_append_left _ hr)) (λr hr=>HNUM.out trivial r (List.mem_append_left _ hr)) HP.out Cn Ct;rw[hs5,List.nil_append]at t1;have HT1:=Ah t1;clear t1 hs5;go_wp2_with fail;refine HT1.out.mono ?_;rintro ee w4 ⟨rfl,hS4,hb4⟩;have hb04:Below w.heap.size w w4:=H3.below.trans (hb4.mono hw0);have hN4:=(hb4.block N hNg).trans (H3.blk 0 _ _ _ rfl)
 have hlr:(Uk++[10]++Jz (fr.reverse.map λr:Gq=>r.ks)).length≤10000000:=by
  have h3:=Yx (fr.reverse.map (·.ks)) λks hks=>by
   obtain⟨r,hr,rfl⟩:=List.mem_map.1 hks;have hr:=List.mem_append_left bk (List.mem_reverse.1 hr);exact⟨HNUM.out trivial r hr,HF.out.lk r hr⟩
  have h4:=HF.out.lf;rw[Bo,List.length_reverse]at h3;rw[Bh];have:(Uk++[10]).length=6:=rfl;have h5:10001*fr.length≤10001*100:=Nat.mul_le_mul_left _ h4;omega
 have t2:=bV g g ⟨#[98,97,99,107]⟩ BA bk c2 _ w w4 hw0 hb04 hS4 (by have:=hb4.size;omega) HF.out.b HF.out.lb (λr hr=>HF.out.lk r (List.mem_append_right _ hr)) (λr hr=>HNUM.out trivial r (List.mem_append_right _ hr)) HP.out hlr Ct;rw[hs6]at t2;have HT2:=Ah t2;obtain⟨⟨y0,y1⟩,-⟩:=Cy hN4;clear t2 hs6 HT1 f0 f1 hS4 hlr hN4;go_wp2_with fail;refine HT2.out.mono ?_;rintro ee w5 ⟨rfl,hS5,hb5⟩;have hb05:=hb04.trans (hb5.mono hw0);clear y0 y1 HT2;go_wp2_with fail;refine(wQ g g _ w5 hS5 (by simp[Uk])).mono ?_;rintro ee w6 ⟨rfl,-,hb6,-⟩;have hbe:=Ah (hb05.trans (hb6.mono hw0))
 have he:Uk++[10]++Jz (fr.reverse.map (·.ks))++(wO++[10])++Jz (bk.reverse.map (·.ks))=Xk (ksL fr) (ksL bk):=by
  unfold Xk ksL;rw[List.map_reverse,List.map_reverse]
 rw[he];clear he hS5 hb6;go_wp2;go_ret;exact⟨rfl,hbe.out⟩
def fdG (f:Fd):List Ak:=[Aa Ac f.k,Aa Ab f.c,Aa Ac f.side,.bool f.over]
def Qo (l:List Fd):List Ak:=l.flatMap fdG
theorem dI (ov ov':List Bool):∀f p q i,(hvG ov f p q i).length=(hvG ov' f p q i).length
 |0,_,_,_=>rfl
 |f+1,p,q,i=>by
  unfold hvG
  split
  ·split
   ·rw[List.length_cons,List.length_cons,dI ov ov' f]
   ·rw[List.length_cons,List.length_cons,dI ov ov' f]
  ·rfl
theorem qA {a b:Nat} (ha:a∈([1,2,4,8]:List Nat)) (hb:b∈([1,2,4]:List Nat)) (ov:List Bool):2^(hvG ov 10 a b 0).length=a*b:=by
 rw[dI ov []];have key:(([1,2,4,8]:List Nat).all λa=>([1,2,4]:List Nat).all λb=>decide (2^(hvG [] 10 a b 0).length=a*b))=true:=by decide+kernel
 exact of_decide_eq_true (List.all_eq_true.1 (List.all_eq_true.1 key a ha) b hb)
theorem bG (n:Nat) (h:n∈([1,2,4,8]:List Nat)) (w:Aj):Al Tryz.prog 40 #[Aa Ab n] w λe w'=>e= .returned (.bool true)∧w=w':=by
 simp only[Bk,List.not_mem_nil,or_false]at h;rcases h with rfl|rfl|rfl|rfl<;>
 (go_enter Tryz.func40,Tryz.ntmps40
  go_wp2;go_ret;exact⟨rfl,rfl⟩)
theorem sN:(Tryz.prog.info? 74).map (λi=>(i.zero,i.size,i.bytes))=Af (Af (.agg #[Aa Ac 0,Aa Ab 0,Aa Ac 0,.bool false]),4,24):=Cm
theorem kP (A:Option Addr) (n c:Nat) (w:Aj) (h:n≤c) (_hm:c≤maxLen):
  Al Tryz.prog 41 #[Ad A n c] w λe w'=>e= .returned (Ad A n n)∧w=w':=by
 unfold maxLen at _hm;go_enter Tryz.func41,Tryz.ntmps41
 go_wp2
 go_ret;exact⟨rfl,rfl⟩
def Ar9 (l:List Fd) (w:Aj) (e:Ending) (w':Aj):Prop:=Below w.heap.size w w'∧∃A,e= .returned (.tuple #[Ad A l.length l.length,Aa Ab 0])∧Rd w' A 4 l.length (Qo l)∧∀q,A=Af q→w.heap.size≤q.block
theorem fT (p q:Nat) (hp:p∈([1,2,4,8]:List Nat)) (hq:q∈([1,2,4]:List Nat)) (A:Option Addr) (ov:List Bool) (cc:Nat) (w:Aj) (hn:ov.length=8) (h:Rd w A 1 8 (De ov)):
  Al Tryz.prog 17 #[.agg #[Aa Ab p,Aa Ab q],Ad A 8 cc] w (Ar9 (hvG ov 10 p q 0) w):=by
 have HH:=Ah h;have HN:=Ah hn;have HPW:=Ah λw=>bG p hp w;have HPH:=Ah λw=>bG q (by simp only[Bk,List.not_mem_nil,or_false]at hq⊢;omega) w;have hs:okS (p:Int) (q:Int)=true:=(Zb hp hq).ok
 have hpq:p*q≤32:=by
  have key:(([1,2,4,8]:List Nat).all λa=>([1,2,4]:List Nat).all λb=>decide (a*b≤32))=true:=Ct;exact of_decide_eq_true (List.all_eq_true.1 (List.all_eq_true.1 key p hp) q hq)
 have hp1:1≤p:=by simp only[Bk,List.not_mem_nil,or_false]at hp;omega
 have hq1:1≤q:=by simp only[Bk,List.not_mem_nil,or_false]at hq;omega
 have H:=(Bx.start w).new #[Aa Ab p,Aa Ab q] 25 rfl;clear h hn hp hq;go_enter Tryz.func17,Tryz.ntmps17;go_upto_region 1 with fail;obtain⟨W,hW⟩:=ez (w.alloc (.cells #[Aa Ab p,Aa Ab q] 25));rw[←hW]at H⊢;obtain⟨N,hN⟩:=ez w.heap.size;rw[←hN]at H⊢;have HNN:=Ah hN;clear hW hN;obtain⟨⟨a0,a1⟩,_⟩:=Cy (H.blk 0 _ _ _ rfl);go_wp2_with fail;refine(Ew p q _).mono ?_;rintro e w2 ⟨rfl,hb⟩;have H2:=H.call hb;clear a0 a1 hb H;rw[hs];clear hs;obtain⟨⟨a0,a1⟩,_⟩:=Cy (H2.blk 0 _ _ _ rfl);go_wp2_with fail;refine(HPW.out _).mono ?_;rintro e w3 ⟨rfl,rfl⟩;go_wp2_with fail;refine(HPH.out _).mono ?_;rintro e w4 ⟨rfl,rfl⟩;go_wp2
 go_quiet (fail)
 obtain⟨wd,hwd⟩:=ez (w2.drewN nq);have HB:=(H2.drewN nq).below;rw[←hwd]at HB⊢;clear hwd a0 a1 H2 HPW HPH;obtain⟨i0,hi0,hz0,hz1,hz2⟩:=info_parts sN;have HI0:=Ah hi0;have HZ0:=Ah hz0;have HZ1:=Ah hz1;have HZ2:=Ah hz2;clear hi0 hz0 hz1 hz2;obtain⟨T,hT⟩:=ey (hvG ov 10 p q 0);have HT:=Ah hT;go_wp2
 go_loopw [7,8,9] (λs7 s8 s9 wr=>∃(i x y:Nat) (L:List Fd),s8= Aa Ab x∧s9= Aa Ab y∧i≤5∧1≤x∧1≤y∧x*y*2^i≤32∧i=L.length∧Hid (T=L++hvG ov (10-i) x y i)∧∃B c,s7= Ad B i c∧i≤c∧c≤maxLen∧wr.ownsRow w.heap.size 74 4 (Ad B i c) i (Qo L)∧Below w.heap.size w wr) (λ_ s8 s9 _=>(intOf s8).toNat*(intOf s9).toNat)
 case atStart=>exact⟨0,p,q,[],rfl,rfl,Ci,hp1,hq1,by simpa using hpq,rfl,Ah (by rw[←hT];rfl),Ae,0,rfl,Ci,by unfold maxLen;omega,⟨by simp[Qo],.inl ⟨rfl,rfl⟩⟩,HB⟩
 case round=>
  obtain⟨i,x,y,L,rfl,rfl,hi9,hx1,hy1,hxy,hiL,HL,B,c,rfl,hic,hcm,hown,hbr⟩:=hrel;clear hp1 hq1 hpq hT HB;obtain⟨z,hz⟩:∃z:Nat,x*y=z:=⟨_,rfl⟩;have hz256:z≤32:=hz▸Br (Nat.le_mul_of_pos_right _ (Nat.two_pow_pos i)) hxy;have q0:(x:Int)*(y:Int)=(z:Int):=by exact_mod_cast hz
  have hx256:x≤32:=by have:x*1≤x*y:=Nat.mul_le_mul_left _ hy1;omega
  have hy256:y≤32:=by have:1*y≤x*y:=Nat.mul_le_mul_right _ hx1;omega
  have HXY:=Ah hxy;have HZ:=Ah hz;have hHL:=HL.out;by_cases hgt:z>1
  ·have q1:(z:Int)>1:=Ci
   have hi8:i≤4:=by
    rcases Nat.lt_or_ge i 5 with h|h
    ·omega
    ·exfalso;have h9:i=5:=Ci;subst h9;have:2*2^5≤x*y*2^5:=Nat.mul_le_mul_right _ Ci;omega
   rw[show 10-i=(9-i)+1 by omega]at hHL;unfold hvG at hHL;rw[hz,if_pos hgt]at hHL;obtain⟨o,ho⟩:=ey (ov.getD i false);rw[ho]at hHL;have HIL:=Ah hiL;have HO:=Ah hown;have HHL:=Ah hHL;have hrd:=HH.out.below hbr;have hlen:=HN.out;have HBR:=Ah hbr;clear hown hHL HL hxy hz hiL;have q2:(i:Int)<8:=Ci;obtain⟨bb,oo,rfl,hbb,hcell⟩:=hrd.2 Ci
   have d0:=hcell i (.bool o) (by
    unfold De;rw[List.getElem?_map,Aw Ci];have:ov[i]'(by omega)=o:=by rw[←ho];simp[List.getD,show i<ov.length by omega]
    rw[this];rfl)
   clear hrd hcell ho hlen;go_upto_region 10 with fail;obtain⟨P,hP⟩:=ez wr.heap.size;obtain⟨W5,hW5⟩:=ez (wr.alloc (.cells #[Aa Ac 0,Aa Ab 0,Aa Ac 1,.bool o] 74));have H5:=(Bx.start wr).new #[Aa Ac 0,Aa Ab 0,Aa Ac 1,.bool o] 74 rfl;rw[←hP,←hW5]at H5⊢;have HP:=Ah hP;clear hP hW5;obtain⟨⟨e0,e1,e2,e3⟩,ze0,ze1,ze2,ze3⟩:=Ez (H5.blk 0 _ _ _ rfl);by_cases hge:y≤x
   ·have t1:(x:Int)≥(y:Int):=Ci;have t2:(x:Int).tdiv 2=(x:Int)/2:=Int.tdiv_eq_ediv_of_nonneg Ci;rw[if_pos hge]at HHL
    have hv2:x≥2:=by
     rcases Nat.lt_or_ge x 2 with h|h
     ·have h1:x=1:=Ci;have h2:y=1:=Ci;have:=HZ.out;rw[h1,h2]at this;omega
     ·exact h
    have hlt:x/2*y<x*y:=Nat.mul_lt_mul_of_pos_right Ci hy1
    have HXN:Hid (x/2*y*2^(i+1)≤32):=Ah (by
     refine Br ?_ HXY.out;rw[Nat.pow_succ,show x/2*y*(2^i*2)=x/2*2*y*2^i by rw[Nat.mul_comm (2^i) 2,←Nat.mul_assoc,Nat.mul_assoc (x/2) y 2,Nat.mul_comm y 2,←Nat.mul_assoc]];exact Nat.mul_le_mul_right _ (Nat.mul_le_mul_right _ Ci))
    have HLN:Hid (T=(L++[(⟨1,((x/2:Nat):Int),1,o⟩:Fd)])++hvG ov (10-(i+1)) (x/2) (y) (i+1)):=Ah (by
     rw[HHL.out,Bj,show 10-(i+1)=9-i by omega];rfl)
    have HFV:Hid (Qo L++[Aa Ac 1,Aa Ab ((x:Int)/2),Aa Ac 1,.bool o]=Qo (L++[(⟨1,((x/2:Nat):Int),1,o⟩:Fd)])):=Ah (by simp[Qo,fdG]);have HIN:Hid (i+1=(L++[(⟨1,((x/2:Nat):Int),1,o⟩:Fd)]).length):=Ah (by rw[Bh,←HIL.out];rfl);obtain⟨W6,hW6⟩:=ez ((W5.setCell ⟨P,0,Ae⟩ (Aa Ac 1)).setCell ⟨P,1,Ae⟩ (Aa Ab ((x:Int)/2)));have H6:=(H5.set 0 0 rfl (Aa Ac 1)).set 0 1 rfl (Aa Ab ((x:Int)/2));rw[←hW6]at H6;have hO6:=Dj HO.out (Am _) H6.below;have hbw:Below w.heap.size w W6:=HBR.out.trans (H6.below.mono HBR.out.size);obtain⟨v',w7,hr,hown',hg⟩:=Dx (P:=Tryz.prog) (W6.alloc (.cells #[Aa Ac 1,Aa Ab ((x:Int)/2),Aa Ac 1,.bool o] 74)) w.heap.size 34 34 74 i0 _ 4 24 Tryz.underlying34 HI0.out HZ0.out HZ1.out HZ2.out rfl Ci (Ad B i c) i (Qo L) (hO6.alloc _) (Af ⟨W6.heap.size,0,Ae⟩) 1 1 [Aa Ac 1,Aa Ab ((x:Int)/2),Aa Ac 1,.bool o] (by simp[Value.oneCell']) (nO _ 1 4 rfl rfl) Cn Ci Ci (by have:=hbw.size;simp;omega);have hb7:Below w.heap.size w w7:=(hbw.alloc hbw.size _).grown hg (by have:=hbw.size;simp;omega) (λq hq=>(hO6.lt q hq).1);obtain⟨A',q',rfl,hnq',hqm'⟩:=Dv hown';obtain⟨⟨e0,e1,e2,e3⟩,_⟩:=Ez (H6.blk 0 _ _ _ rfl);have HR:=Ah hr;rw[HFV.out]at hown';have HO':=Ah hown';have HB7:=Ah hb7;have HW6:=Ah hW6;have HLT:=Ah hlt;clear hr hown' hg hb7 hbw hO6 H6 H5 hlt hW6;go_upto_region 15 with fail;rw[←HW6.out];clear ze0 ze1 ze2 ze3
    as_aux_lemma=>
     go_wp2_with (at_builtin;refine As _ rfl _ _ _ _ rfl _ _ rfl rfl _ _ HR.out ?_);go_wp2
     go_roundw
     case rel=>exact⟨i+1,x/2,y,_,by go_num,by go_num,Ci,Ci,Ci,HXN.out,HIN.out,HLN,A',q',rfl,hnq',hqm',HO'.out,HB7.out⟩
     case measure=>
      have:=HLT.out;simp[intOf]
      exact_mod_cast this
   ·have t1:¬(x:Int)≥(y:Int):=Ci;have t2:(y:Int).tdiv 2=(y:Int)/2:=Int.tdiv_eq_ediv_of_nonneg Ci;rw[if_neg hge]at HHL;have hv2:y≥2:=Ci;have hlt:x*(y/2)<x*y:=Nat.mul_lt_mul_of_pos_left Ci hx1
    have HXN:Hid (x*(y/2)*2^(i+1)≤32):=Ah (by
     refine Br ?_ HXY.out;rw[Nat.pow_succ,show x*(y/2)*(2^i*2)=x*(y/2*2)*2^i by rw[Nat.mul_comm (2^i) 2,←Nat.mul_assoc,Nat.mul_assoc x (y/2) 2]];exact Nat.mul_le_mul_right _ (Nat.mul_le_mul_left _ Ci))
    have HLN:Hid (T=(L++[(⟨2,((y/2:Nat):Int),1,o⟩:Fd)])++hvG ov (10-(i+1)) (x) (y/2) (i+1)):=Ah (by
     rw[HHL.out,Bj,show 10-(i+1)=9-i by omega];rfl)
    have HFV:Hid (Qo L++[Aa Ac 2,Aa Ab ((y:Int)/2),Aa Ac 1,.bool o]=Qo (L++[(⟨2,((y/2:Nat):Int),1,o⟩:Fd)])):=Ah (by simp[Qo,fdG]);have HIN:Hid (i+1=(L++[(⟨2,((y/2:Nat):Int),1,o⟩:Fd)]).length):=Ah (by rw[Bh,←HIL.out];rfl);obtain⟨W6,hW6⟩:=ez ((W5.setCell ⟨P,0,Ae⟩ (Aa Ac 2)).setCell ⟨P,1,Ae⟩ (Aa Ab ((y:Int)/2)));have H6:=(H5.set 0 0 rfl (Aa Ac 2)).set 0 1 rfl (Aa Ab ((y:Int)/2));rw[←hW6]at H6;have hO6:=Dj HO.out (Am _) H6.below;have hbw:Below w.heap.size w W6:=HBR.out.trans (H6.below.mono HBR.out.size);obtain⟨v',w7,hr,hown',hg⟩:=Dx (P:=Tryz.prog) (W6.alloc (.cells #[Aa Ac 2,Aa Ab ((y:Int)/2),Aa Ac 1,.bool o] 74)) w.heap.size 34 34 74 i0 _ 4 24 Tryz.underlying34 HI0.out HZ0.out HZ1.out HZ2.out rfl Ci (Ad B i c) i (Qo L) (hO6.alloc _) (Af ⟨W6.heap.size,0,Ae⟩) 1 1 [Aa Ac 2,Aa Ab ((y:Int)/2),Aa Ac 1,.bool o] (by simp[Value.oneCell']) (nO _ 1 4 rfl rfl) Cn Ci Ci (by have:=hbw.size;simp;omega);have hb7:Below w.heap.size w w7:=(hbw.alloc hbw.size _).grown hg (by have:=hbw.size;simp;omega) (λq hq=>(hO6.lt q hq).1);obtain⟨A',q',rfl,hnq',hqm'⟩:=Dv hown';obtain⟨⟨e0,e1,e2,e3⟩,_⟩:=Ez (H6.blk 0 _ _ _ rfl);have HR:=Ah hr;rw[HFV.out]at hown';have HO':=Ah hown';have HB7:=Ah hb7;have HW6:=Ah hW6;have HLT:=Ah hlt;clear hr hown' hg hb7 hbw hO6 H6 H5 hlt hW6;go_upto_region 15 with fail;rw[←HW6.out];clear ze0 ze1 ze2 ze3
    as_aux_lemma=>
     go_wp2_with (at_builtin;refine As _ rfl _ _ _ _ rfl _ _ rfl rfl _ _ HR.out ?_);go_wp2
     go_roundw
     case rel=>exact⟨i+1,x,y/2,_,by go_num,by go_num,Ci,Ci,Ci,HXN.out,HIN.out,HLN,A',q',rfl,hnq',hqm',HO'.out,HB7.out⟩
     case measure=>
      have:=HLT.out;simp[intOf]
      exact_mod_cast this
  ·have q1:¬(z:Int)>1:=Ci
   have HL0:Hid (T=L):=Ah (by
    rw[hHL,show 10-i=(9-i)+1 by omega];unfold hvG;rw[hz,if_neg hgt,List.append_nil])
   have HIL:=Ah hiL;clear hxy hz hiL hHL HL;go_wp2_with fail;refine(kP B i c wr hic hcm).mono ?_;rintro e w9 ⟨rfl,rfl⟩;have hrd:=Rd.of_own hown;go_wp2_with fail;refine Ai (v:= .tuple #[Ad B i i,Aa Ab 0]) (by simp[results,Tryz.results17,go_sem];try rfl) rfl ⟨hbr,B,?_,?_,?_⟩
   ·have:hvG ov 10 p q 0=L:=by rw[HT.out,HL0.out]
    rw[this,←HIL.out]
   ·have:hvG ov 10 p q 0=L:=by rw[HT.out,HL0.out]
    rw[this,←HIL.out];exact hrd
   ·intro q hq;rcases hown.2 with⟨h0,-⟩|⟨g,cap,cur,r1,r2,-⟩
    ·rw[hq]at h0
     cases h0
    ·rw[hq]at r1;injection r1 with r1;injection r1 with r1;rw[r1];exact r2
end Go.Proofs.YthpcfeifmdbhnaaGreatDoor
