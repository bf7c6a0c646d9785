import Derived.Test.YtlgkpdfieaadaaaGreatDoorQBih
import Derived.RangeFuncNested
import Derived.RangeFuncBound
import Derived.RangeFuncCalls
import Derived.RangeFuncLeaves
import Derived.RangeFuncBox
import Derived.Shelf.Abstract
import Derived.Shelf.RegionOpen
import Derived.WalkKit
import Derived.OwnWalkIn
import Derived.TacticsInMore
import Derived.LoopNIn
import Derived.LoopIn
import Derived.Test.YtlgkpdfieaadaaaGreatDoorQPim
import Derived.Shelf.SlSortCmp.WholeK
import Derived.Shelf.SlicesG.Cmp
import Derived.Test.YtlgkpdfieaadaaaGreatDoorQBhb
import Derived.Test.YtlgkpdfieaadaaaGreatDoorQSog
import Derived.Test.YtlgkpdfieaadaaaGreatDoorRows
import Derived.DeepKeys2
import Derived.MapViews
import Derived.OpenShut
import Derived.LaidLaws
import Derived.LaidMore
import Derived.Carry
import Derived.Test.YtlgkpdfieaadaaaGreatDoorQHje
import Derived.Test.YtlgkpdfieaadaaaGreatDoorTie
import Derived.Test.YtlgkpdfieaadaaaGreatDoorCards
import Derived.Lib.SmallJoins
import Derived.Lay
import Derived.SevenTiedAt
import Derived.ProofKit
import Derived.Deep.Slices
import Derived.Deep.Fields
import Derived.Stop.Joined
import Derived.HandedShaped
import Derived.Shelf.Vars
set_option linter.all false
open Array renaming getElem?_eq_some_iff->Au,getElem?_modify->Df,replicate_succ->Da,replicate_zero->Cz
open Go renaming Addr->Ci,Calls->Al,TypeId->Cj,Value->Ak,World->Aj,bodyPost_ret->Ai,cell_of_row->By,heap_alloc_new->Bz
open Go.IntKind renaming i64->Ab,u8->Ac
open Go.IntWalk renaming i64_in->Ca,wrap64_in->Cb
open Go.Lib renaming hid->Ah
open Go.Op renaming equalIn->Gr
open Go.Proofs.Tryz renaming prog->Do
open Go.RowKit.Below renaming refl->Ag
open Go.Value renaming int->Aa,slice->Ad
open List renaming all_eq_true->Ec,append_toArray->Dd,cons_append->Ep,getElem?_eq_getElem->Aw,getElem_mem->Ay,length_cons->En,length_nil->Cq,mem_cons->Bk,mem_iff_getElem->Be,nil_append->Et,not_mem_nil->Du,range->Dr,size_toArray->Fp,take_succ_eq_append_getElem->Bc
open Nat renaming le_refl->Am,le_trans->Br,mul_le_mul->Gp,zero_add->Bt,zero_le->Gk
open Option renaming none->Ae,some->Af
set_option maxHeartbeats 16000000
set_option maxRecDepth 100000
namespace Go.Proofs.YtlgkpdfieaadaaaGreatDoor
open Go.RowKit
theorem Bu6:Tryz.prog.underlying 56=Af (.array 2 3):=Gw
theorem Bu5:Tryz.prog.underlying 3=Af (.int .i64):=Gw
theorem Bi6 (w:Aj):(sizeOf 3).run Do w= .ok 1 w:=Gw
theorem Bu3 (a b:Int) (w:Aj):(part 3 #[Value.int .i64 a,Aa Ab b] 0).run Do w= .ok (Aa Ab a) w:=Gw
theorem Bu4 (a b:Int) (w:Aj):(part 3 #[Value.int .i64 a,Aa Ab b] 1).run Do w= .ok (Aa Ab b) w:=Gw
theorem oQ (d:Nat) (a b:Int) (w:Aj):(Gr (d+1) 3 (Aa Ab a) (Aa Ab b)).run Do w= .ok (a==b) w:=by
 simp[Gr,run_underlying Bu5]
theorem Bc5 (a b c d:Int) (w:Aj):(Gr 10000 56 (.agg #[a,b]) (.agg #[c,d])).run Do w= .ok (decide (a=c/\b=d)) w:=by
 have h:∀n,(Gr (n+1+1) 56 (.agg #[a,b]) (.agg #[c,d])).run Do w= .ok (decide (a=c/\b=d)) w:=by
  intro n;unfold Gr;simp only[Sem.run_bind,run_underlying Bu6,Result.andThen_ok,Bi6]
  simp only[Std.Legacy.Range.forIn_eq_forIn_range',Std.Legacy.Range.size,Nat.sub_zero,Nat.div_one,List.range'_succ,List.range'_zero,List.forIn_cons,List.forIn_nil,Sem.run_bind,Nat.mul_one,Bt,Nat.reduceAdd,
   Bu3,Result.andThen_ok,oQ]
  by_cases h0:a=c<;>by_cases h1:b=d<;>simp[h0,h1,Bu4,oQ]
 exact h 9998
theorem yX {w:Aj} {A:Option Ci} {l:List Int} {n:Nat} (h:Rd w A 1 n (It l)) (i:Nat) (hi:i<l.length):∃b o,A=Af ⟨b,o,Ae⟩/\b<w.heap.size/\w.cell? ⟨b,o+i,Ae⟩=Af (Aa Ab l[i]):=by
 have hl:=h.1;rw[As6]at hl;obtain⟨b,o,e,hb,hc⟩:=h.2 Gu;exact⟨b,o,e,hb,hc i _ (by simp[It,hi])⟩
theorem Vo (A B:Option Ci) (l:List Int) (n cb:Nat) (w:Aj) (hn:n=l.length) (h1:Rd w A 1 n (It l)) (h2:Rd w B 1 n (It l)) (hl:n<=1000000):
  Al Do 8 #[Ad A n n,Ad B n cb] w (Gy (.bool true) w):=by
 have HN:=Ah hn;have H1:=Ah h1;have H2:=Ah h2;clear hn h1 h2;go_enter Tryz.func8,Tryz.ntmps8;go_wp2
 go_loopw [5] (λs5 wr=>∃k:Nat,k<=n/\s5= Aa Ab k/\Below w.heap.size w wr) (λs5 _=>n-(intOf s5).toNat)
 case atStart=>exact⟨0,Gk _,rfl,Ag _ _⟩
 obtain⟨k,hk,rfl,hb⟩:=hrel;by_cases ad:k<n
 ·have q0:(k:Int)<(n:Int):=Gu;have bc:k<l.length:=oHx HN.out;obtain⟨b1,o1,rfl,-,c1⟩:=yX (H1.out.below hb) k bc;obtain⟨b2,o2,rfl,-,c2⟩:=yX (H2.out.below hb) k bc;obtain⟨v,hv⟩:=ey (l[k]);rw[hv]at c1 c2;have fm:=Ah ad;clear hv bc;go_upto_region 6 with fail
  go_quiet (fail)
  have aj:=Ij hb nq;go_wp2
  go_roundw
  case rel=>exact⟨k+1,fm.out,by go_num,aj⟩
  case measure=>simp[intOf];omega
 ·obtain rfl:k=n:=Gu;have q0:¬(k:Int)<(k:Int):=Gu;go_wp2;go_ret;exact⟨rfl,hb⟩
theorem Wm (A B:Option Ci) (l:List (Nat×Nat)) (n cb:Nat) (w:Aj) (hn:n=l.length) (h1:Rd w A 2 n (Kf l)) (h2:Rd w B 2 n (Kf l)) (hl:n<=1000000):
  Al Do 12 #[Ad A n n,Ad B n cb] w (Gy (.bool true) w):=by
 have HN:=Ah hn;have H1:=Ah h1;have H2:=Ah h2;clear hn h1 h2;go_enter Tryz.func12,Tryz.ntmps12;go_wp2
 go_loopw [5] (λs5 wr=>∃k:Nat,k<=n/\s5= Aa Ab k/\Below w.heap.size w wr) (λs5 _=>n-(intOf s5).toNat)
 case atStart=>exact⟨0,Gk _,rfl,Ag _ _⟩
 obtain⟨k,hk,rfl,hb⟩:=hrel;by_cases ad:k<n
 ·have q0:(k:Int)<(n:Int):=Gu;have bc:k<l.length:=oHx HN.out;obtain⟨b1,o1,rfl,-,c1,d1⟩:=Qg (H1.out.below hb) bc;obtain⟨b2,o2,rfl,-,c2,d2⟩:=Qg (H2.out.below hb) bc;obtain⟨⟨x,y⟩,hv⟩:=ey (l[k]);rw[hv]at c1 c2 d1 d2;dsimp only at c1 c2 d1 d2;have fm:=Ah ad;have heq:=Bc5 (x:Int) (y:Int) (x:Int) (y:Int);clear hv bc;go_upto_region 6 with fail
  go_quiet (fail)
  have aj:=Ij hb nq;go_wp2
  go_roundw
  case rel=>exact⟨k+1,fm.out,by go_num,aj⟩
  case measure=>simp[intOf];omega
 ·obtain rfl:k=n:=Gu;have q0:¬(k:Int)<(k:Int):=Gu;go_wp2;go_ret;exact⟨rfl,hb⟩
def iO (f:Nat->Option Nat) (L:Nat):Bool:=((Hc f L).all λp=>decide (p.1+p.2=L-1))&&(Hq f L).isEmpty
theorem fH (f:Nat->Option Nat) (L:Nat) (hN:Nc f L) (T':1<=L) (hL:L<=64) (fA lA:Option Ci) (nf fc nl lc:Nat) (w:Aj) (hB:BAt w f L fA lA nf fc nl lc):
  Al Do 10 #[.agg #[L,Ad fA nf fc,Ad lA nl lc]] w (Gy (.tuple #[.bool (iO f L),Aa Ab 0]) w):=by
 have IC:nf<=64:=by have h1:=hB.hf;have h2:=Ph f L;omega
 have gv:=Ah hB;have CI:=Ah hN;clear hB hN;obtain⟨R,hR⟩:=ey (iO f L);rw[hR];have HR:=Ah hR;clear hR;have H:=(Bx.start w).new #[L,Ad fA nf fc,Ad lA nl lc] 40 rfl;go_enter Tryz.func10,Tryz.ntmps10;go_upto_region 1 with fail;generalize w.alloc _=W at H⊢;obtain⟨N,hN⟩:=ez w.heap.size;rw[<-hN]at H⊢;have db:=Ah hN;clear hN;obtain⟨⟨a0,a1,a2⟩,_⟩:=He (H.b 0);go_wp2_with fail;refine(dK f L CI.out T' hL fA lA nf fc nl lc _ (gv.out.below H.below)).mono ?_;rintro e w2 ⟨rfl,hb⟩;have H2:=H.call hb;clear a0 a1 a2 hb H;obtain⟨⟨a0,a1,a2⟩,_⟩:=He (H2.b 0);have uo:=Ah H2;clear H2;go_wp2_with fail;clear a0 a1 a2
 go_loopw [15] (λNI wr=>∃j:Nat,NI= Aa Ab j/\j<=nf/\Hid (∀(k:Nat) (hk:k<(Hc f L).length),k<j->(Hc f L)[k].1+(Hc f L)[k].2=L-1)/\Hid (Bx w [(N,#[Aa Ab L,Ad fA nf fc,Ad lA nl lc],40)] wr)) (λNI _=>nf-(intOf NI).toNat)
 case atStart=>exact⟨0,rfl,Gu,Ah λk _ h=>absurd h Gu,uo⟩
 obtain⟨j,rfl,hj,HA,HH⟩:=hrel;clear uo;have H1:=HH.out;obtain⟨⟨a0,a1,a2⟩,_⟩:=He (H1.b 0);by_cases ad:j<nf
 ·have q0:(j:Int)<(nf:Int):=Gu;have lz:j<(Hc f L).length:=oHx gv.out.hf;obtain⟨b,o,rfl,cj,p0,p1⟩:=Qg (gv.out.rf.below H1.below) lz;have vf:=Kk.1 (Ay lz);obtain⟨x,hx⟩:=ey ((Hc f L)[j].1);obtain⟨y,hy⟩:=ey ((Hc f L)[j].2);have hyL:=(CI.out.lt _ _ vf.2.1).2.1;rw[hx]at p0 vf;rw[hy]at p1 vf hyL;have hxL:=vf.1;have HX:=Ah (And.intro hx hy);have H2:=H1.new #[x,y] 56 rfl;clear hx hy vf;go_upto_region 7 with fail;generalize wr.alloc _=W2 at H2⊢;generalize wr.heap.size=Q at H2⊢;clear a0 a1 a2 p0 p1 H1 q0 cj;obtain⟨⟨a0,a1,a2⟩,_⟩:=He (H2.b 0);obtain⟨⟨c0,c1⟩,_⟩:=Hn (H2.b 1);by_cases hs:x+y=L-1
  ·have q1:(x:Int)+(y:Int)=(L:Int)-1:=Gu
   have HA2:Hid (∀(k:Nat) (hk:k<(Hc f L).length),k<j+1->(Hc f L)[k].1+(Hc f L)[k].2=L-1):=Ah λk hk h=>by
    by_cases e:k=j
    ·subst e;rw[HX.out.1,HX.out.2];exact hs
    ·exact HA.out k hk Gu
   have uo:=Ah (H2.upto 1);clear H2 hs;go_wp2
   go_roundw
   case rel=>exact⟨j+1,by go_num,Gu,HA2,uo⟩
   case measure=>simp[intOf];omega
  ·have q1:¬(x:Int)+(y:Int)=(L:Int)-1:=Gu
   have HF:Hid (R=false):=Ah (by
    rw[<-HR.out];unfold iO;rw[Bool.and_eq_false_iff];refine .inl (List.all_eq_false.2 ⟨(Hc f L)[j],Ay _,?_⟩);rw[HX.out.1,HX.out.2];simpa using hs)
   go_wp2_with fail;refine Ai (v:= .tuple #[.bool false,Aa Ab 0]) (by simp[results,Tryz.results10,go_sem]) rfl ?_;exact⟨by rw[HF.out],H2.below⟩
 ·obtain rfl:j=nf:=Gu;have q0:¬(j:Int)<(j:Int):=Gu
  have fe:((Hc f L).all λp=>decide (p.1+p.2=L-1))=true:=by
   rw[Ec];intro p hp;obtain⟨k,hk,rfl⟩:=Be.1 hp;rw[decide_eq_true_iff];exact HA.out k hk (oHx gv.out.hf)
  have HF:Hid (R=decide (nl=0)):=Ah (by
   rw[<-HR.out];unfold iO;rw[fe,Bool.true_and,gv.out.hl]
   cases Hq f L<;>simp)
  clear fe;by_cases h0:nl=0
  ·have q1:(nl:Int)=0:=Gu;have HF2:Hid (R=true):=Ah (by rw[HF.out,Lb h0]);go_wp2_with fail;refine Ai (v:= .tuple #[.bool true,Aa Ab 0]) (by simp[results,Tryz.results10,go_sem]) rfl ?_;exact⟨by rw[HF2.out],H1.below⟩
  ·have q1:¬(nl:Int)=0:=Gu;have HF2:Hid (R=false):=Ah (by rw[HF.out,Ly h0]);go_wp2_with fail;refine Ai (v:= .tuple #[.bool false,Aa Ab 0]) (by simp[results,Tryz.results10,go_sem,h0]) rfl ?_;exact⟨by rw[HF2.out],H1.below⟩
end Go.Proofs.YtlgkpdfieaadaaaGreatDoor
namespace Go.Proofs.YtlgkpdfieaadaaaGreatDoor
open Go.RowKit Go.Shelf
attribute [local go_sem] Oper.semAt_some
def pE (x:Nat×Nat):Array Ak:=#[.agg #[Aa Ab (x.1:Int),Aa Ab (x.2:Int)]]
theorem wS (F:Fence) (n:Nat) (hf:F.fn 82) (JR:F.round=Ae) (hn:1<=n) (l Bs n₀ cap:Nat) (A:Option Ci) (zs:List (Nat×Nat)) (hlen:zs.length<=1000) (J Jx:List (Nat×Nat)->Aj->Prop) (W:Aj)
  (hJ:AbidesFrom W.heap.size J)
  (hY:∀pre x W1,J pre W1->pre.length<zs.length->YieldAt F (n-1) Do l (pE x) W1 λe W'=>
   (e= .returned (.bool true)/\J (pre++[x]) W'/\Below n₀ W1 W')∨(e= .returned (.bool false)/\Jx (pre++[x]) W'))
  (UT:W.cell? ⟨Bs,0,Ae⟩=Af (Ad A zs.length cap)) (vy:n₀<=W.heap.size) (hc:∀j (hj:j<zs.length),∃b o,A=Af ⟨b,o,Ae⟩/\b<n₀/\W.cell? ⟨b,o+j*2,Ae⟩=Af (Aa Ab (zs[j].1:Int))/\W.cell? ⟨b,o+j*2+1,Ae⟩=Af (Aa Ab (zs[j].2:Int))) (h0:J [] W):
  CallsIn F n Do 82 #[.func (.yield l) #[] #[],.pointer (Af ⟨Bs,0,Ae⟩)] W λe W'=>(∃v,e= .returned v)/\
   ((∃ys,ys=zs/\J ys W')∨(∃pre,pre<+:zs/\Jx pre W')):=by
 refine callsIn_of_wp Tryz.func82 rfl hf ?_ JR;simp only[Tryz.ntmps82,Fp,En,Cq,Nat.reduceAdd,Nat.reduceSub,Da,Cz,List.push_toArray,Dd,Et,Ep]
 gi_wp2
 gi_loopw [7] (λi wr=>∃k:Nat,k<=zs.length/\i= Aa Ab k/\J (zs.take k) wr/\n₀<=wr.heap.size/\Below n₀ W wr)
  (λi _=>zs.length-(intOf i).toNat)
 case atStart=>exact⟨0,Gk _,rfl,h0,vy,Ag _ _⟩
 obtain⟨k,hk,rfl,R0,hnw,fg⟩:=hrel;by_cases ad:k<zs.length
 ·obtain⟨b,o,rfl,hb,c0,c1⟩:=hc k ad;have c0:=(fg.cell (p:=⟨b,o+k*2,Ae⟩) hb).trans c0;have c1:=(fg.cell (p:=⟨b,o+k*2+1,Ae⟩) hb).trans c1;have q0:(k:Int)<(zs.length:Int):=Gu;have GH:=hJ _ _ _ Ae R0 (World.grownBy_alloc wr (.cells #[Aa Ab (zs[k].1:Int),Aa Ab (zs[k].2:Int)] 56) Ae) (by intro r e;cases e);obtain⟨fn,tmps,assign,body,hy,hR⟩:=hY _ zs[k] _ GH (by rw[List.length_take];omega);unfold pE at hy
  gi_wp2
  refine hR.mono ?_;have ra:zs.take k++[zs[k]]=zs.take (k+1):=(Bc ad).symm;rintro e W3 (⟨rfl,ER,FD⟩|⟨rfl,uw⟩)
  ·rw[ra]at ER;have de:Below n₀ wr W3:=((Ag n₀ wr).alloc hnw _).trans FD
   gi_wp2
   go_roundw
   case rel=>exact⟨k+1,Gu,by go_num,ER,Br hnw de.size,fg.trans de⟩
   case measure=>simp[intOf];omega
  ·rw[ra]at uw
   gi_wp2
   refine Ai (results_none rfl _ _ _) rfl ?_;exact⟨⟨_,rfl⟩,.inr ⟨_,List.take_prefix _ _,uw⟩⟩
 ·obtain rfl:k=zs.length:=Gu
  gi_wp2
  go_end0
  exact⟨⟨_,rfl⟩,.inl ⟨_,List.take_length,R0⟩⟩
theorem wT (A:Option Ci) (n c:Nat) (w:Aj):
  Al Do 29 #[Ad A n c] w λe w'=>e= .returned (.func (.func 82) #[] #[.pointer (Af ⟨w.heap.size,0,Ae⟩)])/\w'=w.alloc (.cells #[Ad A n c] 37):=by
 go_enter Tryz.func29,Tryz.ntmps29;go_wp2;go_ret;exact⟨rfl,rfl⟩
theorem mC (F:Fence) (n:Nat) (hf:F.fn 82) (JR:F.round=Ae) (hn:1<=n) (Bs n₀ cap:Nat) (A:Option Ci) (zs:List (Nat×Nat)) (hlen:zs.length<=1000) (w:Aj) (UT:Bs<w.heap.size) (vy:n₀<=w.heap.size)
  (hc:w.cell? ⟨Bs,0,Ae⟩=Af (Ad A zs.length cap)) (hI:∀j (hj:j<zs.length),∃b o,A=Af ⟨b,o,Ae⟩/\b<n₀/\w.cell? ⟨b,o+j*2,Ae⟩=Af (Aa Ab (zs[j].1:Int))/\w.cell? ⟨b,o+j*2+1,Ae⟩=Af (Aa Ab (zs[j].2:Int))):
  SeqStopsK F n Do 82 #[.pointer (Af ⟨Bs,0,Ae⟩)] pE (Below n₀) (λys=>ys=zs) (λpre=>pre<+:zs) zs.length w:=λl J Jx W hW hJ _ hY h0=>
 wS F n hf JR hn l Bs n₀ cap A zs hlen J Jx W hJ hY ((hW.cell (p:=⟨Bs,0,Ae⟩) UT).trans hc) (Br vy hW.size) (λj hj=>by
  obtain⟨b,o,rfl,hb,c0,c1⟩:=hI j hj;exact⟨b,o,rfl,hb,(hW.cell (p:=⟨b,o+j*2,Ae⟩) (by show b<_;omega)).trans c0,(hW.cell (p:=⟨b,o+j*2+1,Ae⟩) (by show b<_;omega)).trans c1⟩) h0
end Go.Proofs.YtlgkpdfieaadaaaGreatDoor
namespace Go.Proofs
open Go.Shelf Go.RowKit
def Tryz.laysSortP_ren:Go.Shelf.Ren:=⟨fun|6=>33|15=>85|14=>84|28=>149|29=>150|20=>141|21=>142|22=>143|23=>144|24=>145|25=>146|26=>147|27=>148|46=>188|47=>189|48=>190|49=>191|50=>192|57=>241|n=>n,fun|22=>37|24=>56|25=>105|3=>3|39=>176|0=>0|53=>251|55=>253|4=>4|46=>245|45=>244|50=>208|5=>5|9=>9|66=>307|70=>109|76=>369|77=>225|n=>n,fun|n=>n⟩
open Tryz in
theorem Tryz.laysSortP:Go.Proofs.SlLaysF0.n6 Do Tryz.laysSortP_ren:={
 mixed:=Gw,f6:=lyb func33,f14:=lyb func84,f15:=lyf func85,f20:=lyb func141,f21:=lyb func142,f22:=lyb func143,f23:=lyb func144,f24:=lyb func145,f25:=lyb func146,f26:=lyb func147,f27:=lyb func148,f28:=lyf func149,f29:=lyf func150,f46:=lyb func188,f47:=lyf func189,f48:=lyf func190,f49:=lyb func191,f50:=lyb func192,f57:=lyb func241,t0:=underlying0,a0:=isAgg0,z0:=sizeOf0,v0:=zeroValue0,t3:=underlying3,a3:=isAgg3,z3:=sizeOf3,v3:=zeroValue3,t4:=underlying4,a4:=isAgg4,z4:=sizeOf4,v4:=zeroValue4,t5:=underlying5,a5:=isAgg5,z5:=sizeOf5,v5:=zeroValue5,t9:=underlying9,a9:=isAgg9,z9:=sizeOf9,v9:=zeroValue9,t22:=underlying37,a22:=isAgg37,z22:=sizeOf37,v22:=zeroValue37,t25:=underlying105,a25:=isAgg105,z25:=sizeOf105,v25:=zeroValue105,t39:=underlying176,a39:=isAgg176,z39:=sizeOf176,v39:=zeroValue176,t45:=underlying244,a45:=isAgg244,z45:=sizeOf244,v45:=zeroValue244,t46:=underlying245,a46:=isAgg245,z46:=sizeOf245,v46:=zeroValue245,t50:=underlying208,a50:=isAgg208,z50:=sizeOf208,v50:=zeroValue208,t53:=underlying251,a53:=isAgg251,z53:=sizeOf251,v53:=zeroValue251,t55:=underlying253,a55:=isAgg253,z55:=sizeOf253,v55:=zeroValue253,t66:=underlying307,a66:=isAgg307,z66:=sizeOf307,v66:=zeroValue307,t70:=underlying109,a70:=isAgg109,z70:=sizeOf109,v70:=zeroValue109,t76:=underlying369,a76:=isAgg369,z76:=sizeOf369,v76:=zeroValue369,t77:=underlying225,a77:=isAgg225,z77:=sizeOf225,v77:=zeroValue225}
def Tryz.laysCmpI_ren:Go.Shelf.Ren:=⟨fun|5=>35|7=>86|n=>n,fun|22=>3|3=>3|4=>4|n=>n,fun|n=>n⟩
open Tryz in
theorem Tryz.laysCmpI:Go.Proofs.SlLaysC2.n5 Do Tryz.laysCmpI_ren:={
 mixed:=Gw,f5:=lyb func35,f7:=lyb func86,t3:=underlying3,a3:=isAgg3,z3:=sizeOf3,v3:=zeroValue3,t4:=underlying4,a4:=isAgg4,z4:=sizeOf4,v4:=zeroValue4,t22:=underlying3,a22:=isAgg3,z22:=sizeOf3,v22:=zeroValue3}
end Go.Proofs
namespace Go.Proofs.YtlgkpdfieaadaaaGreatDoor
open Go.RowKit Go.Sort
def Aq1 (x:Nat×Nat):List Ak:=[Aa Ab (x.1:Int),Aa Ab (x.2:Int)]
def cfP (x y:Nat×Nat):Int:=Lib.compareInt (x.1:Int) (y.1:Int)
theorem ltP (x y:Nat×Nat):ltOf cfP x y=decide (x.1<y.1):=by
 unfold ltOf cfP Lib.compareInt;by_cases h1:(x.1:Int)<(y.1:Int)
 ·simp[h1];omega
 ·by_cases h2:(y.1:Int)<(x.1:Int)<;>(simp[h1,h2];omega)
theorem Ce2:SWO (ltOf cfP) where
 irrefl x:=by rw[ltP];simp
 trans x y z h1 h2:=by rw[ltP]at*;simp at*;omega
 ntrans x y z h1 h2:=by rw[ltP]at*;simp at*;omega
theorem Bg4 (l:List (Nat×Nat)):∀(j:Nat) (hj:j<l.length),(Kf l)[j*2]? =Af (nV l[j].1)/\(Kf l)[j*2+1]? =Af (nV l[j].2):=by
 induction l with
 |nil=>intro j hj;exact absurd hj (Nat.not_lt_zero _)
 |cons p r ih=>
  intro j hj
  cases j with
  |zero=>exact⟨rfl,rfl⟩
  |succ j=>
   have:=ih j (by simpa using hj);rw[show(j+1)*2=j*2+2 by omega];exact this
theorem nQ (l:List (Nat×Nat)):flatK Aq1 2 l.toArray=(Kf l).toArray:=by
 refine ext_get! (by simp[Rg]) λt ht=>?_;have I9:t<l.length*2:=by simpa using ht
 have hj:t/2<l.length:=Gu;rw[get_flatK _ _ _ t (by simpa using I9),getElem!_pos l.toArray (t/2) (by simpa using hj)];have hg:=Bg4 l (t/2) hj;have hl:t<(Kf l).toArray.size:=by simp[Rg];omega
 rw[getElem!_pos _ t hl];simp only[List.getElem_toArray];have h2:(Kf l)[t]? =Af ((Kf l)[t]'(by simpa using hl)):=Aw _;rcases Nat.mod_two_eq_zero_or_one t with e|e
 ·have e1:t/2*2=t:=Gu;rw[e1,h2]at hg;rw[e,Option.some.inj hg.1];rfl
 ·have e1:t/2*2+1=t:=Gu;rw[e1,h2]at hg;rw[e,Option.some.inj hg.2];rfl
theorem mW (x y:Nat×Nat) (W:Aj):Al Do 34 #[.agg #[Aa Ab (x.1:Int),Aa Ab (x.2:Int)],.agg #[Aa Ab (y.1:Int),Aa Ab (y.2:Int)]] W λe w'=>e= .returned (Aa Ab (cfP x y))/\∃q os',w'=grow (W.drewN q) os':=by
 have qu:=λW'=>AnyG.cmp_Compare_int Tryz.laysCmpI (x.1:Int) (y.1:Int) W';change∀W',Al Do 35 _ _ _ at qu;unfold cfP;generalize Lib.compareInt (x.1:Int) (y.1:Int)=r at qu⊢;go_enter Tryz.func34,Tryz.ntmps34;go_wp2_with (go_at_call 35;refine(qu _).mono ?_;rintro e w' ⟨rfl,rfl⟩);go_ret;exact⟨rfl,0,_,by rw[alloc_eq_grow,alloc_eq_grow,grow_grow];rfl⟩
theorem kQ {w:Aj} {g n:Nat} {os:Array Obj} {cur:Array Ak} {e:Cj} {fr:Nat×Nat} (d:Array Ak) (hb:w.heap[g]? =Af (.cells cur e fr)):
  (grow (putRow id (Sort.ahead w n) g 0 d) os).heap[g]? =Af (.cells (putCells id 0 d cur) e fr):=by
 have hg:g<w.heap.size:=(Au.1 hb).1;rw[heap_grow_old _ _ (by simpa using hg)];simp[putRow,mapBlock,Sort.ahead,Df,hb,onCells]
theorem cW {w:Aj} {g n:Nat} {os:Array Obj} (d:Array Ak):w.grownBy (grow (putRow id (Sort.ahead w n) g 0 d) os) (Af g):=by
 refine⟨rfl,rfl,rfl,Gx,λk hk hne=>?_⟩;rw[heap_grow_old _ _ (by simpa using hk)];have:g≠k:=λe=>hne (by rw[e]);simp[putRow,mapBlock,Sort.ahead,Df,this]
theorem gD (cur:Array Ak) (ts:List Ak) (h:ts.length<=cur.size):(putCells id 0 ts.toArray cur).toList.take ts.length=ts:=by
 apply List.ext_getElem?;intro j;by_cases hj:j<ts.length
 ·rw[List.getElem?_take_of_lt hj,Array.getElem?_toList];simp[putCells,hj,show j<cur.size by omega]
 ·rw[List.getElem?_take_eq_none Gu,List.getElem?_eq_none Gu]
theorem Bu0 (w:Aj):(isAgg 56).run Do w= .ok true w:=Gw
theorem Cc2 (w:Aj):(Go.sizeOf 56).run Do w= .ok 2 w:=Gw
theorem Cd8 (blk off size:Nat) (w:Aj):CmpLays Do 34 #[] Aq1 2 cfP blk off size w:=
 λ_ _ _ _ x y=>mW x y _
theorem Aj6 {O m c:Nat} {B:Option Ci} (l:List (Nat×Nat)) (w:Aj) (h:w.ownsRow O 56 2 (Ad B m c) m (Kf l)) (hm:0<m) (MA:m<=1000):
  Al Do 33 #[Ad B m c,.func (.func 34) #[] #[]] w λe w'=>e= .returned (.tuple #[])/\∃l',l'.Perm l/\l'.Pairwise (λp q=>p.1<=q.1)/\w'.ownsRow O 56 2 (Ad B m c) m (Kf l')/\w.grownBy w' (Value.slice B m c).ownBlock:=by
 have hl:l.length=m:=by have:=h.1;rw[Rg]at this;omega
 rcases h.2 with⟨h0,h1⟩|⟨g,cap,cur,r1,r2,r3,r4,r5,r6,r7⟩
 ·omega
 ·obtain⟨rfl,rfl⟩:B=Af ⟨g,0,Ae⟩/\c=cap:=by simpa using r1
  have hH:HoldsK Aq1 2 w g 0 l.toArray:=by
   unfold HoldsK;rw[nQ];intro j hj;refine⟨?_,by simp[World.frozen?,r3]⟩;have yk:j<(Kf l).length:=by simpa using hj
   rw[Bt,By _ _ j cur 56 (0,0) r3,getElem!_pos _ j hj];have h2:(cur.toList.take (m*2))[j]? =(Kf l)[j]? :=by rw[r7]
   rw[List.getElem?_take_of_lt (by rw[Rg]at yk;omega),Array.getElem?_toList]at h2;rw[h2,Aw yk];rfl
  have eg:∀args w,(callFunc 34 args).run Do w= .ok (.enter 34 args) w:=enters_of Tryz.func34 Gw rfl;have qu:=AnyQ.slices_SortFunc Tryz.laysSortP 2 Bu0 Cc2 Aq1 (λ_=>rfl) (λx v hv=>by simp[Aq1]at hv;rcases hv with rfl|rfl<;>rfl) cfP Ce2 34 #[] g 0 c l.toArray w eg (Cd8 g 0 _ w) hH (Au.1 r3).1 Hu;simp only[Fp,hl]at qu;refine qu.mono ?_;rintro e w' ⟨rfl,d',n,os,hp,hs,rfl⟩;obtain⟨p1,p2,p3⟩:=hp;have hd:d'.size=m:=by rw[p1];simpa using hl
  have hd':d'.toList.toArray=d':=Gx;refine⟨rfl,d'.toList,?_,?_,?_,?_⟩
  ·have e1:d'.extract 0 m=d':=by rw[<-hd];simp
   have e2:l.toArray.extract 0 m=l.toArray:=by rw[<-hl];simp
   rw[e1,e2]at p3;simpa using p3
  ·rw[List.pairwise_iff_getElem];intro i j hi hj yj;have se:i<d'.size:=by simpa using hi
   have yk:j<d'.size:=by simpa using hj
   have:=hs i j (Gk _) yj Gu;rw[ltP,Rt,getElem!_pos d' i se,getElem!_pos d' j yk]at this;simp only[Array.getElem_toList];omega
  ·unfold sortWorldK putRowK;rw[<-hd',nQ];have hlen:(Kf d'.toList).length=m*2:=by rw[Rg];simp[hd]
   exact⟨by simpa using hlen,.inr ⟨g,c,_,rfl,r2,kQ _ r3,r4,r5,by simp[putCells,r6],by rw[<-hlen];exact gD cur _ (by rw[hlen,r6];exact Nat.mul_le_mul_right _ r4)⟩⟩
  ·exact cW _
end Go.Proofs.YtlgkpdfieaadaaaGreatDoor
namespace Go.Proofs.YtlgkpdfieaadaaaGreatDoor
open Go.RowKit Go.Shelf
attribute [local go_sem] Oper.semAt_some
def To (fl pre:List (Nat×Nat)):List (Nat×Nat):=pre.filter λp=> !inF fl p.1
theorem Aj2 {fl pre:List (Nat×Nat)} {x:Nat×Nat} (h:inF fl x.1=false):To fl (pre++[x])=To fl pre++[x]:=by simp[To,h]
theorem vS {fl pre:List (Nat×Nat)} {x:Nat×Nat} (h:inF fl x.1=true):To fl (pre++[x])=To fl pre:=by simp[To,h]
theorem cX {B:Nat} {W W':Aj} (hb:Below W.heap.size W W'):KeepsFrom B W W':=
 ⟨hb.size,λk _ _ hk _=>(hb.block k (Au.1 hk).1).trans hk⟩
def Br3 (f:Nat->Option Nat) (L:Nat) (w:Aj) (e:Ending) (w':Aj):Prop:=∃A m,∃l:List (Nat×Nat),e= .returned (.tuple #[Ad A m m,Aa Ab 0])/\m=l.length/\Rd w' A 2 m (Kf l)/\l.Perm (Wx f L)/\l.Pairwise (λp q=>p.1<=q.1)/\Below w.heap.size w w'
theorem Bg5 (l:List (Nat×Nat)):∀u∈Kf l,u.oneCell'=true:=by
 intro u hu;obtain⟨p,_,hp⟩:=List.mem_flatMap.1 hu;simp only[Bk,Du,or_false]at hp;rcases hp with rfl|rfl<;>rfl
theorem Zp (f:Nat->Option Nat) (L:Nat) (hN:Nc f L) (T':1<=L) (hL:L<=64) (fA lA:Option Ci) (nf fc nl lc:Nat) (w:Aj) (hB:BAt w f L fA lA nf fc nl lc):
  Al Do 11 #[.agg #[L,Ad fA nf fc,Ad lA nl lc]] w (Br3 f L w):=by
 have IC:nf<=64:=by have h1:=hB.hf;have h2:=Ph f L;omega
 have jv:nl<=64:=by have h1:=hB.hl;have h2:=Tf f L;omega
 have gv:=Ah hB;have CI:=Ah hN;clear hB hN;have H:=(Bx.start w).new #[L,Ad fA nf fc,Ad lA nl lc] 40 rfl;refine(callsIn_wide (n:=9)).1 (callsIn_of_wp_marks Tryz.func11 rfl trivial ?_ rfl);simp only[Tryz.ntmps11,Fp,En,Cq,Nat.reduceAdd,Nat.reduceSub,Da,Cz,List.push_toArray,Dd,Et,Ep];refine wpIn_wide.2 ?_;go_upto_region 1 with fail;generalize w.alloc _=W at H⊢;obtain⟨N,hN⟩:=ez w.heap.size;rw[<-hN]at H⊢;have db:=Ah hN;clear hN;obtain⟨⟨a0,a1,a2⟩,_⟩:=He (H.b 0);go_wp2_with fail;refine(dK f L CI.out T' hL fA lA nf fc nl lc _ (gv.out.below H.below)).mono ?_;rintro e w2 ⟨rfl,hb⟩;have H2:=H.call hb;clear a0 a1 a2 hb H;obtain⟨⟨a0,a1,a2⟩,_⟩:=He (H2.b 0);go_wp2_with fail;refine(Ap4 fA nf fc (Kf (Hc f L)) _ gv.out.af (gv.out.rf.below H2.below) (Bg5 _) Gu).mono ?_;rintro e w3 ⟨v,rfl,aa,hb⟩;obtain⟨B0,c9,rfl,j8,ia⟩:=Hw aa;have H3:=H2.call hb;obtain⟨M,hM⟩:=ez w2.heap.size;rw[<-hM]at aa;have kg:M<=w3.heap.size:=by rw[hM];exact hb.size
 have JG:N<M:=by rw[hM];exact H2.lt 0 rfl
 have V8:w.heap.size<=M:=by rw[hM];exact H2.below.size
 clear a0 a1 a2 hb H2 hM;have HO:=Ah aa;clear aa;obtain⟨⟨a0,a1,a2⟩,_⟩:=He (H3.b 0);go_wp2_with fail;have NQ:=Ah H3
 have jp:Hid (∀(X1:Array Ak) (t1:Cj),∀x∈[(N,X1,t1)],x.1<M):=Ah (by
  intro X1 t1 x hx;simp only[Bk,Du,or_false]at hx;subst hx;exact JG)
 have sq:=Ah V8;obtain⟨i0,eh,dp,ap,ca⟩:=info_parts kX;have fw:=Ah eh;have rn:=Ah dp;have mo:=Ah ap;have mq:=Ah ca;clear eh dp ap ca a0 a1 a2 H3;have HO:Hid (w3.ownsRow M 56 2 (Ad B0 nf c9) nf (Kf (Hc f L++((Hq f L).take 0).map λn=>(n,n)))):=Ah (by simpa using HO.out)
 go_loopw [5,21] (λs5 TG wr=>∃(k m c:Nat) (B:Option Ci),TG= Aa Ab k/\s5= Ad B m c/\k<=nl/\Hid (m=nf+k)/\M<=wr.heap.size/\Hid (wr.ownsRow M 56 2 (Ad B m c) m (Kf (Hc f L++((Hq f L).take k).map λn=>(n,n))))/\Hid (Bx w [(N,#[Aa Ab L,Ad fA nf fc,Ad lA nl lc],40)] wr)) (λ_ TG _=>nl-(intOf TG).toNat)
 case atStart=>exact⟨0,nf,c9,B0,rfl,rfl,Gu,Ah Gu,kg,HO,NQ⟩
 obtain⟨k,m,c,B,rfl,rfl,hk,PP,jz,HO,HH⟩:=hrel;clear NQ kg;have H1:=HH.out;by_cases ad:k<nl
 ·have q0:(k:Int)<(nl:Int):=Gu;have bc:k<(Hq f L).length:=oHx gv.out.hl;obtain⟨b,o,rfl,cj,p0⟩:=tS (gv.out.rl.below H1.below) bc;obtain⟨x,hx⟩:=ey ((Hq f L)[k]);rw[hx]at p0
  have HE:Hid (Kf (Hc f L++((Hq f L).take k).map λn=>(n,n))++[Aa Ab (x:Int),Aa Ab (x:Int)]=Kf (Hc f L++((Hq f L).take (k+1)).map λn=>(n,n))):=Ah (by
   rw[Bc bc,List.map_append,<-List.append_assoc,hx];exact(Sx _ (x,x)).symm)
  clear hx;obtain⟨v',w7,hr,ak,hg⟩:=Ht (P:=Do) (wr.alloc (.cells #[x,x] 56)) M 37 37 56 i0 _ 2 16 Tryz.underlying37 fw.out rn.out mo.out mq.out rfl Gu (Ad B m c) m _ (HO.out.alloc _) (Af ⟨wr.heap.size,0,Ae⟩) 1 1 [Aa Ab x,Aa Ab x] (by simp[Value.oneCell']) (Pl _ 1 2 rfl rfl) Gx (oHx PP.out) Gu Hu;have dc:Below M wr w7:=((Ag M wr).alloc jz _).grown hg Hu (λq hq=>(HO.out.lt q hq).1);obtain⟨A',c',rfl,IB,GP⟩:=Hw ak;rw[HE.out]at ak;have ep:=Ah (H1.keepM (jp.out _ _) sq.out dc);have GB:Hid (M<=w7.heap.size):=Ah (Br jz dc.size);have HR:=Ah hr;have q_:=Ah ak;clear hr ak hg dc H1
  as_aux_lemma=>
  go_wp2_with (at_builtin;refine Lib.wpList_append_run _ rfl _ _ _ _ rfl _ _ rfl rfl _ _ HR.out ?_);go_wp2
  go_roundw
  case rel=>exact⟨k+1,m+1,c',A',by go_num,rfl,Gu,Ah (by rw[PP.out];omega),GB.out,q_,ep⟩
  case measure=>simp[intOf];omega
 ·obtain rfl:k=nl:=Gu;have q0:¬(k:Int)<(k:Int):=Gu;rw[gv.out.hl,List.take_length]at HO;have HO:Hid (wr.ownsRow M 56 2 (Ad B m c) m (Kf (Sd f L))):=HO
  obtain rfl:m=(Sd f L).length:=by
   have h1:=HO.out.1;rw[Rg]at h1;omega
  have hm48:(Sd f L).length<=128:=oHx PP.out;clear hk ad q0;go_upto_region 11 with fail;obtain⟨O,hO⟩:=ez wr.heap.size;have hMO:M<=O:=by rw[hO];exact jz
  have R4:N<O:=Nat.lt_of_lt_of_le JG hMO
  have M6:Hid (∀b o,0<(Sd f L).length->B=Af ⟨b,o,Ae⟩->b<O):=Ah λb o h0 e=>by
   obtain⟨b',o',e',hb',_⟩:=Qg (Rd.of_own HO.out) h0;rw[e]at e';obtain⟨rfl,_⟩:b=b'/\o=o':=by simpa using e'
   omega
  have bO:Boxed (wr.alloc (.cells #[Ad Ae 0 0] 37)) O 37 (Ad Ae 0 0):=by rw[hO];exact Boxed.new wr _ _
  have ZU:(wr.alloc (.cells #[Ad Ae 0 0] 37)).heap.size=O+1:=by rw[hO];simp
  have au:=HO.out.alloc (.cells #[Ad Ae 0 0] 37);have H2:=H1.other (.cells #[Ad Ae 0 0] 37);rw[<-hO];generalize wr.alloc _=U at bO ZU au H2⊢;clear hO jz H1 HH HO;go_wp2_with fail;refine(wT B (Sd f L).length c _).mono ?_;rintro e w8 ⟨rfl,V7⟩;rw[ZU];have bV:Boxed w8 (O+1) 37 (Ad B (Sd f L).length c):=by rw[V7,<-ZU];exact Boxed.new U _ _
  have bO8:Boxed w8 O 37 (Ad Ae 0 0):=by rw[V7];exact bO.alloc _
  have BV:w8.heap.size=O+2:=by rw[V7,World.size_alloc,ZU]
  have zr:w8.ownsRow M 56 2 (Ad B (Sd f L).length c) (Sd f L).length (Kf (Sd f L)):=by rw[V7];exact au.alloc _
  have H8:=H2.other (.cells #[Ad B (Sd f L).length c] 37);rw[<-V7]at H8;clear V7 bO ZU au H2;go_wp2_with fail;obtain⟨fl,ji⟩:=ez (Hc f L);have yq:=Ah ji
  have NG:∀j (hj:j<(Sd f L).length),∃b o,B=Af ⟨b,o,Ae⟩/\b<O/\w8.cell? ⟨b,o+j*2,Ae⟩=Af (Aa Ab ((Sd f L)[j].1:Int))/\w8.cell? ⟨b,o+j*2+1,Ae⟩=Af (Aa Ab ((Sd f L)[j].2:Int)):=by
   intro j hj;obtain⟨b,o,e,_,c0,c1⟩:=Qg (Rd.of_own zr) hj;exact⟨b,o,e,M6.out b o Gu e,c0,c1⟩
  clear ji
  refine wpIn_wide.1 (wpIn_rangeFunc_ownH (F:=Fence.wide) (n:=9) rfl Ha (gf:=82) (lb:=#[.pointer (Af ⟨O+1,0,Ae⟩)]) rfl trivial (enters_of Tryz.func82 Gw rfl)
   (mC Fence.wide (9-1) trivial rfl Ha (O+1) O c B (Sd f L) Gu w8 Gu Gu bV.cell NG) belowK_t (belowK_b Gu) (Ag _ _) (λ_=>rfl)
   (λpre W=>(∃v,Boxed W O 37 v/\W.ownsRow O 56 2 v (To fl pre).length (Kf (To fl pre))/\True)/\Below O w8 W)
   (λ_ _ _=>False)
   (OwnFrom.and (Own.from (holdsRow_own O O 37 56 2 (λpre=>(To fl pre).length) (λpre=>Kf (To fl pre)) (λ_ _=>True)) _) (ownFrom_below Gu Gu))
   (λ_ _ _ _ _ hs _ _=>hs)
   ⟨⟨_,bO8,World.ownsRow_nil _ _ _ _,trivial⟩,Ag _ _⟩
   (λx a' W=>∃Bx,O+2<=Bx/\W.heap[Bx]? =Af (.cells #[Aa Ab (x.1:Int),Aa Ab (x.2:Int)] 56 (0,0))/\a'={tmps:=#[.agg #[L,Ad fA nf fc,Ad lA k lc],.pointer (Af ⟨N,0,Ae⟩),Ad Ae 0 0,Aa Ab 0,Aa Ab 0,Ad B (Sd f L).length c,undef,u7,.pointer (Af ⟨O,0,Ae⟩),.pointer (Af ⟨Bx,0,Ae⟩),.agg #[L,Ad fA nf fc,Ad lA k lc],Aa Ab 0,Aa Ab 0,.bool false,undef,.pointer (Af ⟨N,1,Ae⟩),Ad fA nf fc,Ad B0 nf c9,.pointer (Af ⟨N,2,Ae⟩),Ad lA k lc,Aa Ab k,Aa Ab k,.bool false,u23,u24,u25,u26,u27,u28,u29,u30,u31,Ad B (Sd f L).length c,.func (.func 82) #[] #[.pointer (Af ⟨O+1,0,Ae⟩)],.agg #[Aa Ab (x.1:Int),Aa Ab (x.2:Int)],undef,undef,undef,undef,undef,undef,undef,undef,undef,undef,undef,undef,undef],defers:=[]})
   (λx a' _ A' B' row hs hg hr=>by
    obtain⟨Bx,h1,h2,h3⟩:=hs;refine⟨Bx,h1,(hg.block Bx (Au.1 h2).1 λe=>?_).trans h2,h3⟩;obtain⟨_,o,ho,hc⟩:=hr Bx e.symm;rw[h2]at ho
    cases ho;cases hc) ?assign ?body ?done ?stop)
  case assign=>
   rintro l pre x W K hi hK;obtain⟨⟨v,hv,ag,_⟩,hB⟩:=hi;unfold pE
   gi_wp2
   refine hK _ _ ((KeepsOthers.alloc W _).from _) ((Ag O W).alloc (oHx hB.size) _) ⟨⟨v,hv.alloc _,ag.alloc _,trivial⟩,hB.alloc (oHx hB.size) _⟩ ⟨W.heap.size,by have:=hB.size;omega,Bz W _,rfl⟩
  case body=>
   rintro l pre x a' W hl ⟨r,hr⟩ ⟨⟨v,hv,ag,_⟩,hB⟩ ⟨Bx,BE,hX,rfl⟩ ad;have hc:=hv.cell;have RI:=hv.frozen;have hN0:=(hB.block N R4).trans (H8.b 0);obtain⟨⟨b0,b1,b2⟩,_⟩:=He hN0;obtain⟨⟨x0,x1⟩,_⟩:=Hn hX;have de:Below w.heap.size w W:=H8.below.trans (hB.mono Gu);have MW:=Aj0 fA (Hc f L) nf fc x.1 x.2 Bx W gv.out.hf (gv.out.rf.below de) Gu x0 x1;rw[<-yq.out]at MW;have HSEC:=Ah MW;clear MW;have za:O+2<=W.heap.size:=oHx hB.size;have dw:(To fl pre).length<=pre.length:=List.length_filter_le _ _
   gi_wp2
   refine⟨trivial,(CallsIn.inRound l (callsIn_wide.2 HSEC.out)).mono ?_⟩;rintro e w9 ⟨rfl,bh⟩;have OX:Boxed w9 O 37 v:=(bh.block O hv.lt).trans hv;have bo:=Hx ag (Am _) bh;have hX9:=(bh.block Bx (Au.1 hX).1).trans hX;have rz:O<=w9.heap.size:=oHx bh.size;have LC:Below O W w9:=bh.mono Gu;have vd:KeepsFrom w8.heap.size W w9:=cX bh;obtain⟨⟨y0,y1⟩,_⟩:=Hn hX9;have hc9:=OX.cell;have hf9:=OX.frozen;clear hc RI b0 b1 b2 x0 x1 hN0
   cases jm:inF fl x.1 with
   |true=>
    gi_wp2
    exact⟨vd,LC,⟨v,OX,by rw[vS jm];exact bo,trivial⟩,hB.trans LC⟩
   |false=>
    gi_wp2_with (gi_at_builtin;refine wpListIn_append_own _ rfl _ _ 37 rfl O 56 i0 (.agg #[Aa Ab 0,Aa Ab 0]) 2 16 Tryz.underlying37 fw.out rn.out mo.out mq.out rfl Ha _ _ _ rfl (bo.alloc _) ⟨w9.heap.size,0,Ae⟩ 1 1 [Aa Ab (x.1:Int),Aa Ab (x.2:Int)] rfl rfl (Rd.allK (Pl _ 1 2 rfl rfl)) (by simp[Value.oneCell']) (by unfold maxLen;omega) Gu Hu ?_;intro v' ng ak qk _;obtain⟨g',KM,rfl⟩:=ownsRow_succ ak;obtain⟨km,tr,ii,DP,aj⟩:=OX.appended Ha bo rz (Am _) ak qk;have kh:=km.cell;have ze:=km.frozen)
    exact⟨vd.trans (DP.from _),LC.trans aj,⟨_,tr,by rw[Aj2 jm,List.length_append,Sx];exact ii,trivial⟩,(hB.trans LC).trans aj⟩
  case done=>
   rintro D ys W hD rfl ⟨⟨v,hv,ag,_⟩,hB⟩ hK;have MW:To fl (Sd f L)=Wx f L:=by unfold To Wx;rw[yq.out]
   rw[MW]at ag;have me:0<(Wx f L).length:=List.length_pos_of_mem ((pI CI.out).2 ⟨show(0,oth f 0).1<L from T',Bb3,rfl⟩);have hsl:(Wx f L).length<=128:=Br (List.length_filter_le _ _) hm48;obtain⟨A9,k9,rfl,vd,hk9m⟩:=Hw ag;have hc:=hv.cell;have RI:=hv.frozen;go_wp2_with fail;refine(Aj6 (Wx f L) _ ag me Gu).mono ?_;rintro e ng ⟨rfl,l',VY,yb,hrow',hg⟩;have J5:Boxed ng O 37 (Ad A9 (Wx f L).length k9):=hv.kept hg (hv.not_row Ha ag)
   have S':ng.heap[D]? =Af (.deferred (Af [])):=(hg.block D (Au.1 hK).1 (λe=>by
    rcases ag.2 with⟨_,h0⟩|⟨g,_,_,r1,_,r3,_⟩
    ·omega
    ·rw[r1]at e;simp only[Value.ownBlock,Option.some.injEq]at e;rw[<-e,hK]at r3
     cases r3)).trans hK
   have iw:Below O W ng:=aH hg ag (oHx hB.size);have m8:=J5.cell;clear hc RI;go_wp2_with fail;refine(xJ A9 _ k9 _ vd hk9m).mono ?_;rintro e ED ⟨rfl,ka⟩;go_wp2_with fail;have CY:=(ka.block D (Au.1 S').1).trans S';have yd:=ownsRow_putObj (Hx hrow' (Am _) ka) (.deferred Ae) CY rfl;have QR:O<=ng.heap.size:=by have h1:=hB.size;have h2:=iw.size;omega
   have hwO:w.heap.size<=O:=Gu;have am:Below O w8 (ED.putObj D (.deferred Ae)):=((hB.trans iw).trans (ka.mono QR)).trans (belowK_b (n₀:=O) (w:=w8) Gu ED D _ _ hD CY rfl rfl);refine⟨Gx,.inl ⟨_,_,rfl,run_takeDeferred CY,?_⟩⟩;refine⟨.tuple #[Ad A9 (Wx f L).length (Wx f L).length,Aa Ab 0],by simp[results,Tryz.results11,go_sem],?_⟩;exact⟨A9,_,l',rfl,VY.length_eq.symm,Rd.of_own yd,VY,yb,H8.below.trans (am.mono hwO)⟩
  case stop=>
   rintro D c' pre W _ _ h _;exact h.elim
end Go.Proofs.YtlgkpdfieaadaaaGreatDoor
namespace Go.Proofs.YtlgkpdfieaadaaaGreatDoor
open Go.RowKit
def LvB (f:Nat->Option Nat) (nf nl:Nat) (w:Aj) (e:Ending) (w':Aj):Prop:=∃fA lA,e= .returned (.tuple #[.agg #[Aa Ab 4,Ad fA nf nf,Ad lA nl nl],Aa Ab 0])/\BAt w' f 4 fA lA nf nf nl nl/\Below w.heap.size w w'
theorem Au0 {f:Nat->Option Nat} {nf nl:Nat} {w w':Aj} {e:Ending} (h:So f 4 w e w') (h1:(Hc f 4).length=nf) (h2:(Hq f 4).length=nl):LvB f nf nl w e w':=by
 obtain⟨fA,lA,nf',nl',rfl,hB,-,hb⟩:=h;obtain rfl:nf'=nf:=hB.hf.trans h1;obtain rfl:nl'=nl:=hB.hl.trans h2;exact⟨fA,lA,rfl,hB,hb⟩
def fq:Nat->Nat->Option Nat:=λq=>flF ([fl0,fl1,fl2,fl0].getD q fl0)
theorem Bt4 {w:Aj} {Q1 Q2 Q3 Q4:Nat} {x y z u:Int} (h1:w.heap[Q1]? =Af (.cells #[x,y] 3 (0,0))) (h2:w.heap[Q2]? =Af (.cells #[Ad (Af ⟨Q1,0,Ae⟩) 2 2] 38 (0,0))) (h3:w.heap[Q3]? =Af (.cells #[z,u] 3 (0,0))) (h4:w.heap[Q4]? =Af (.cells #[Ad (Af ⟨Q3,0,Ae⟩) 2 2] 38 (0,0))):
  dH w (Af ⟨Q2,0,Ae⟩) (Af ⟨Q4,0,Ae⟩) [⟨Af ⟨Q1,0,Ae⟩,2,[x,y]⟩] [⟨Af ⟨Q3,0,Ae⟩,2,[z,u]⟩]:=by
 have hr:∀{Q:Nat} {a b:Int},w.heap[Q]? =Af (.cells #[a,b] 3 (0,0))->Xm w ⟨Af ⟨Q,0,Ae⟩,2,[a,b]⟩:=λ{Q a b} h=>⟨⟨rfl,λ_=>⟨Q,0,rfl,(Au.1 h).1,λi v hi=>by
  rw[Bt,By _ _ i _ _ _ h];simpa[It]using hi⟩⟩,(λe=>by cases e)⟩
 have hR:∀{R Q:Nat} {a b:Int},w.heap[R]? =Af (.cells #[Ad (Af ⟨Q,0,Ae⟩) 2 2] 38 (0,0))->w.heap[Q]? =Af (.cells #[a,b] 3 (0,0))->Jl w (Af ⟨R,0,Ae⟩) [⟨Af ⟨Q,0,Ae⟩,2,[a,b]⟩]:=λ{R Q a b} h hq=>⟨⟨rfl,λ_=>⟨R,0,rfl,(Au.1 h).1,λi v hi=>by
  rw[Bt,By _ _ i _ _ _ h]
  simpa[Ix.head]using hi⟩⟩,(λe=>by cases e),λr BT=>by
   obtain rfl:=List.mem_singleton.1 BT;exact hr hq⟩
 exact⟨hR h2 h1,hR h4 h3,Gx,Gx,λr BT=>by
  simp only[Ep,Et,Bk,Du,or_false]at BT;rcases BT with rfl|rfl<;>simp⟩
def wL:List Int:=[1,2,3,4,5,6,7,0]
theorem Ce0:zB ((Dr 2).map λk=>(trR (wR 7 4 k) [[3,2]],trR (wR 7 4 k) [[1,4]])) px1 []=wL:=by decide+kernel
theorem Ce1:zB ((Dr 2).map λk=>(trR (mB 7 2 2 k) [[3,2]],trR (mB 7 2 2 k) [[1,4]])) (px1.take 2) (px1.drop 2)=wL:=by decide+kernel
theorem vF {w:Aj} {Q:Nat} {a b c d:Int} (h:w.heap[Q]? =Af (.cells #[a,b,c,d] 56 (0,0))) {l:List (Nat×Nat)} (hl:Kf l=[Aa Ab a,Aa Ab b,Aa Ab c,Aa Ab d]):Rd w (Af ⟨Q,0,Ae⟩) 2 2 (Kf l):=
 ⟨by rw[hl];rfl,λ_=>⟨Q,0,rfl,(Au.1 h).1,λi v hi=>by
  rw[Bt,By _ _ i _ _ _ h];rw[hl]at hi;simpa using hi⟩⟩
theorem pB (w:Aj) (hQ:Qf w) (hT:Tn w):Al Do 9 #[] w (Gy (.bool true) w):=by
 obtain⟨t1,m1,ui,I1⟩:=eF (a:=2) (b:=1) Ha Ha (ovG 1);obtain⟨t2,m2,ii,I2⟩:=eF (a:=2) (b:=2) Ha Ha (ovG 3);have HQ:=Ah (λ(w':Aj) (hb:Below w.heap.size w w')=>show Qf w'/\Tn w' from⟨hQ.below hb,hT.below hb⟩);have PM:=Ah (λ(w':Aj) (hb:Below w.heap.size w w')=>show Al Do 6 #[.agg #[Aa Ac 1,Aa Ac 0,Aa Ac 1]] w' (rJ (Se 1 0 1) t1 w')from kP 1 0 1 Ha Ha Ha t1 ui w' (hQ.below hb) (hT.below hb));have yr:=Ah (λ(w':Aj) (hb:Below w.heap.size w w')=>show Al Do 6 #[.agg #[Aa Ac 1,Aa Ac 1,Aa Ac 3]] w' (rJ (Se 1 1 3) t2 w')from kP 1 1 3 Ha Ha Ha t2 ii w' (hQ.below hb) (hT.below hb));rw[gY]at PM;rw[mQ]at yr;obtain⟨B0,B1,B2,B3⟩:=By9 ii
 have dx:Hid (∀(q:Nat),q<4->∀(pA:Option Ci) (pc:Nat) (A:Option Ci) (cc:Nat) (W:Aj),AOk pA t2.cr.length pc->Rd W pA 3 t2.cr.length (crs t2.cr)->Hz W A t2.l->Qf W->Tn W->
   Al Do 7 #[.agg #[Aa Ab t2.a,Aa Ab t2.b,Ad pA t2.cr.length pc,Aa Ac t2.root.t,Aa Ab t2.root.x,Aa Ab t2.root.y,Ad A t2.l.length cc],Aa Ac (q:Nat)] W (So (fq q) 4 W)):=Ah λq hq pA pc A cc W h1 h2 h3 h4 h5=>by
  have:q=0∨q=1∨q=2∨q=3:=Gu;rcases this with rfl|rfl|rfl|rfl
  ·exact mM I2 Ha Ha Ha B0 pA pc A cc W h1 h2 h3 h4 h5
  ·exact mM I2 Ha Ha Ha B1 pA pc A cc W h1 h2 h3 h4 h5
  ·exact mM I2 Ha Ha Ha B2 pA pc A cc W h1 h2 h3 h4 h5
  ·exact mM I2 Ha Ha Ha B3 pA pc A cc W h1 h2 h3 h4 h5
 have TM:Hid (∀(pA:Option Ci) (pc:Nat) (A:Option Ci) (cc:Nat) (W:Aj),AOk pA t2.cr.length pc->Rd W pA 3 t2.cr.length (crs t2.cr)->Hz W A t2.l->Qf W->Tn W->
   Al Do 7 #[.agg #[Aa Ab t2.a,Aa Ab t2.b,Ad pA t2.cr.length pc,Aa Ac t2.root.t,Aa Ab t2.root.x,Aa Ab t2.root.y,Ad A t2.l.length cc],Aa Ac 1] W (LvB (flF fl1) 2 0 W)):=Ah λpA pc A cc W h1 h2 h3 h4 h5=>(dx.out 1 Ha pA pc A cc W h1 h2 h3 h4 h5).mono λe w' h=>Au0 h Ha Ha
 have sh:Hid (∀(pA:Option Ci) (pc:Nat) (A:Option Ci) (cc:Nat) (W:Aj),AOk pA t2.cr.length pc->Rd W pA 3 t2.cr.length (crs t2.cr)->Hz W A t2.l->Qf W->Tn W->
   Al Do 7 #[.agg #[Aa Ab t2.a,Aa Ab t2.b,Ad pA t2.cr.length pc,Aa Ac t2.root.t,Aa Ab t2.root.x,Aa Ab t2.root.y,Ad A t2.l.length cc],Aa Ac 2] W (LvB (flF fl2) 2 0 W)):=Ah λpA pc A cc W h1 h2 h3 h4 h5=>(dx.out 2 Ha pA pc A cc W h1 h2 h3 h4 h5).mono λe w' h=>Au0 h Ha Ha
 have J1:=Ah (And.intro I1 (Cb1 I1 ui));have h0:Bx w [] w:=Bx.start w;clear ui ii I1 I2 hQ hT B0 B1 B2 B3;go_enter Tryz.func9,Tryz.ntmps9;go_wp2_with fail;refine(yr.out w (Ag _ _)).mono ?_;rintro ee w1 ⟨cs,A1,rfl,lu,-,ci,-⟩;obtain⟨pA,pc,A2,cc,rfl,hA,hp,br⟩:=lu.st.held;simp only[En,Cq,Bt,Nat.reduceAdd];obtain⟨T1,VC⟩:=ey w1.heap.size;have H:=(h0.call ci).new #[Aa Ab t2.a,Aa Ab t2.b,Ad pA t2.cr.length pc,Aa Ac t2.root.t,Aa Ab t2.root.x,Aa Ab t2.root.y,Ad A2 t2.l.length cc] 33 VC;have jl:Below w1.heap.size w1 (w1.alloc (.cells #[Aa Ab t2.a,Aa Ab t2.b,Ad pA t2.cr.length pc,Aa Ac t2.root.t,Aa Ab t2.root.x,Aa Ab t2.root.y,Ad A2 t2.l.length cc] 33)):=(Ag _ _).alloc (Am _) _;have hp:=hp.below jl;have br:=br.below jl;clear lu h0 yr ci jl;go_upto_region 2 with fail
 try rw[VC]
 generalize w1.alloc _=W2 at H hp br⊢;clear VC;obtain⟨a0,a1,a2,a3,a4,a5,a6⟩:=Ku (H.b 0);go_wp2_with fail;have hq:=HQ.out _ H.below;refine(sh.out pA pc A2 cc W2 hA hp br hq.1 hq.2).mono ?_;rintro ee w3 ⟨fA,lA,rfl,pi,hb⟩;obtain⟨T3,hT3⟩:=ey w3.heap.size;have H:=(H.call hb).new #[Aa Ab 4,Ad fA 2 2,Ad lA 0 0] 40 hT3;have hb:=hb.trans ((Ag w3.heap.size w3).alloc (Am _) (.cells #[Aa Ab 4,Ad fA 2 2,Ad lA 0 0] 40)|>.mono hb.size);have pi:=pi.below ((Ag w3.heap.size w3).alloc (Am _) (.cells #[Aa Ab 4,Ad fA 2 2,Ad lA 0 0] 40));have hp:=hp.below hb;have br:=br.below hb;clear a0 a1 a2 a3 a4 a5 a6 hb hq sh;go_upto_region 3 with fail
 try rw[hT3]
 generalize w3.alloc _=W4 at H hp br pi⊢;clear hT3;obtain⟨a0,a1,a2,a3,a4,a5,a6⟩:=Ku (H.b 0);go_wp2_with fail;have hq:=HQ.out _ H.below;refine(TM.out pA pc A2 cc W4 hA hp br hq.1 hq.2).mono ?_;rintro ee w5 ⟨gA,kA,rfl,BD,hb⟩;obtain⟨T5,hT5⟩:=ey w5.heap.size;have H:=(H.call hb).new #[Aa Ab 4,Ad gA 2 2,Ad kA 0 0] 40 hT5;have hb:=hb.trans ((Ag w5.heap.size w5).alloc (Am _) (.cells #[Aa Ab 4,Ad gA 2 2,Ad kA 0 0] 40)|>.mono hb.size);have BD:=BD.below ((Ag w5.heap.size w5).alloc (Am _) (.cells #[Aa Ab 4,Ad gA 2 2,Ad kA 0 0] 40));have hp:=hp.below hb;have br:=br.below hb;have pi:=pi.below hb;clear a0 a1 a2 a3 a4 a5 a6 hb hq TM;go_upto_region 4 with fail
 try rw[hT5]
 generalize w5.alloc _=W6 at H hp br pi BD⊢;clear hT5;obtain⟨a0,a1,a2,a3,a4,a5,a6⟩:=Ku (H.b 0)
 have jr:=sI t2.a t2.b pA t2.cr.length pc t2.root.t t2.root.x t2.root.y A2 t2.l.length cc 4 fq W6 (λq w' hq4 hb=>by
  have hq:=HQ.out _ (H.below.trans (hb.mono H.below.size));exact dx.out q hq4 pA pc A2 cc w' hA (hp.below hb) (br.below hb) hq.1 hq.2)
 have FSz:Hid (Al Do 19 #[.agg #[Aa Ab t2.a,Aa Ab t2.b,Ad pA t2.cr.length pc,Aa Ac t2.root.t,Aa Ab t2.root.x,Aa Ab t2.root.y,Ad A2 t2.l.length cc]] W6 (Gy (.tuple #[.agg #[Aa Ab 0,Aa Ab 2,Aa Ab 2,Aa Ab 0],Aa Ab 0]) W6)):=Ah jr;clear jr dx;go_wp2_with fail;refine FSz.out.mono ?_;rintro ee w7 ⟨rfl,hb⟩;obtain⟨T7,hT7⟩:=ey w7.heap.size;have H:=(H.call hb).new #[Aa Ab 0,Aa Ab 2,Aa Ab 2,Aa Ab 0] 77 hT7;have hb:=hb.trans ((Ag w7.heap.size w7).alloc (Am _) (.cells #[Aa Ab 0,Aa Ab 2,Aa Ab 2,Aa Ab 0] 77)|>.mono hb.size);have pi:=pi.below hb;have BD:=BD.below hb;clear a0 a1 a2 a3 a4 a5 a6 hb FSz hp br hA;go_upto_region 5 with fail
 try rw[hT7]
 generalize w7.alloc _=W8 at H pi BD⊢;clear hT7;have Q9:Rd W8 fA 2 2 (Kf [(0,3),(1,2)]):=pi.rf;have GG:Rd W8 gA 2 2 (Kf [(0,1),(2,3)]):=BD.rf;have PS:Hid (∀W,BAt W (flF fl2) 4 fA lA 2 2 0 0->Al Do 10 #[.agg #[Aa Ab 4,Ad fA 2 2,Ad lA 0 0]] W (Gy (.tuple #[.bool true,Aa Ab 0]) W)):=Ah λW h=>fH (flF fl2) 4 Bt3 Ha Ha fA lA 2 2 0 0 W h
 have AZ:Hid (∀W,BAt W (flF fl1) 4 gA kA 2 2 0 0->Al Do 11 #[.agg #[Aa Ab 4,Ad gA 2 2,Ad kA 0 0]] W λe w'=>∃A,e= .returned (.tuple #[Ad A 2 2,Aa Ab 0])/\Rd w' A 2 2 (Kf [(0,1),(2,3)])/\Below W.heap.size W w'):=Ah λW h=>(Zp (flF fl1) 4 Bt2 Ha Ha gA kA 2 2 0 0 W h).mono λe w' hh=>by
  obtain⟨A,m,l,rfl,hm,hr,zw,yb,hb⟩:=hh;have V4:Wx (flF fl1) 4=[(0,1),(2,3)]:=Ha;rw[V4]at zw
  have hl:l=[(0,1),(2,3)]:=by
   have qw:=zw.length_eq
   match l,qw,zw,yb with
   |[p,q],_,zw,yb=>
    have hp:=zw.mem_iff.1 (List.mem_cons_self (a:=p) (l:=[q]));have hq:=zw.mem_iff.1 (List.mem_cons_of_mem p (List.mem_cons_self (a:=q) (l:=[])));have bj:=zw.symm.nodup Ha;simp only[Bk,Du,or_false]at hp hq;simp only[List.pairwise_cons,Bk,Du,or_false,forall_eq]at yb;rcases hp with rfl|rfl<;>rcases hq with rfl|rfl
    ·exact absurd bj Ha
    ·rfl
    ·exact absurd yb.1 Ha
    ·exact absurd bj Ha
  subst hl;obtain rfl:m=2:=hm;exact⟨A,rfl,hr,hb⟩
 obtain⟨⟨b0,b1,b2⟩,-⟩:=He (H.b 1);go_wp2_with fail;refine(PS.out _ pi).mono ?_;rintro ee w9 ⟨rfl,hb⟩;have H:=H.call hb;have BD:=BD.below hb;have Q9:=Q9.below hb;have GG:=GG.below hb;clear hb b0 b1 b2 PS pi;obtain⟨⟨b0,b1,b2⟩,-⟩:=He (H.b 2);go_wp2_with fail;refine(AZ.out _ BD).mono ?_;rintro ee ng ⟨sA,rfl,R9,hb⟩;have H:=H.call hb;have Q9:=Q9.below hb;have GG:=GG.below hb;clear hb b0 b1 b2 AZ BD;obtain⟨⟨b0,b1,b2⟩,-⟩:=He (H.b 1);obtain⟨⟨d0,d1,d2⟩,-⟩:=He (H.b 2);obtain⟨⟨c0,c1,c2,c3⟩,-⟩:=Jm (H.b 3);have heq4:∀W,(Gr 10000 77 (.agg #[Aa Ab 0,Aa Ab 2,Aa Ab 2,Aa Ab 0]) (.agg #[Aa Ab 0,Aa Ab 2,Aa Ab 2,Aa Ab 0])).run Do W= .ok true W:=λW=>Gw;go_wp2_with fail;have jh:=(Ag (ng).heap.size (ng)).alloc (Am _) (.cells #[Aa Ab 0,Aa Ab 3,Aa Ab 1,Aa Ab 2] 56);have kx:=vF (Bz (ng) (.cells #[Aa Ab 0,Aa Ab 3,Aa Ab 1,Aa Ab 2] 56)) (l:=[(0,3),(1,2)]) rfl;refine(Wm fA (Af ⟨(ng).heap.size,0,Ae⟩) [(0,3),(1,2)] 2 2 _ rfl (Q9.below jh) kx Ha).mono ?_;rintro ee ED ⟨rfl,hb⟩;have H:=(H.other (.cells #[Aa Ab 0,Aa Ab 3,Aa Ab 1,Aa Ab 2] 56)).call hb;have hb:=jh.trans (hb.mono jh.size);clear jh kx;have GG:=GG.below hb;have R9:=R9.below hb;clear hb b0 b1 b2 d0 d1 d2 c0 c1 c2 c3 Q9;obtain⟨⟨b0,b1,b2⟩,-⟩:=He (H.b 1);obtain⟨⟨d0,d1,d2⟩,-⟩:=He (H.b 2);obtain⟨⟨c0,c1,c2,c3⟩,-⟩:=Jm (H.b 3);go_wp2_with fail;have jh:=(Ag (ED).heap.size (ED)).alloc (Am _) (.cells #[Aa Ab 0,Aa Ab 1,Aa Ab 2,Aa Ab 3] 56);have kx:=vF (Bz (ED) (.cells #[Aa Ab 0,Aa Ab 1,Aa Ab 2,Aa Ab 3] 56)) (l:=[(0,1),(2,3)]) rfl;refine(Wm gA (Af ⟨(ED).heap.size,0,Ae⟩) [(0,1),(2,3)] 2 2 _ rfl (GG.below jh) kx Ha).mono ?_;rintro ee WW ⟨rfl,hb⟩;have H:=(H.other (.cells #[Aa Ab 0,Aa Ab 1,Aa Ab 2,Aa Ab 3] 56)).call hb;have hb:=jh.trans (hb.mono jh.size)
 clear jh kx;have R9:=R9.below hb;clear hb b0 b1 b2 d0 d1 d2 c0 c1 c2 c3 GG;obtain⟨⟨c0,c1,c2,c3⟩,-⟩:=Jm (H.b 3);have he4:=heq4;go_wp2_with fail;have jh:=(Ag (WW).heap.size (WW)).alloc (Am _) (.cells #[Aa Ab 0,Aa Ab 1,Aa Ab 2,Aa Ab 3] 56);have kx:=vF (Bz (WW) (.cells #[Aa Ab 0,Aa Ab 1,Aa Ab 2,Aa Ab 3] 56)) (l:=[(0,1),(2,3)]) rfl;refine(Wm sA (Af ⟨(WW).heap.size,0,Ae⟩) [(0,1),(2,3)] 2 2 _ rfl (R9.below jh) kx Ha).mono ?_;rintro ee w13 ⟨rfl,hb⟩;have H:=(H.other (.cells #[Aa Ab 0,Aa Ab 1,Aa Ab 2,Aa Ab 3] 56)).call hb;have hb:=jh.trans (hb.mono jh.size);clear jh kx;have H:=H.upto 0;clear hb c0 c1 c2 c3 R9 heq4 he4;go_upto_region 10 with fail;obtain⟨Q1,GM⟩:=ey w13.heap.size;have H:=((((H.new #[Aa Ab 3,Aa Ab 2] 3 GM).new #[Ad (Af ⟨Q1,0,Ae⟩) 2 2] 38 (N:=Q1+1) (by simp[GM])).new #[Aa Ab 1,Aa Ab 4] 3 (N:=Q1+1+1) (by simp[GM])).new #[Ad (Af ⟨Q1+1+1,0,Ae⟩) 2 2] 38 (N:=Q1+1+1+1) (by simp[GM])).new #[Ad (Af ⟨Q1+1,0,Ae⟩) 1 1,Ad (Af ⟨Q1+1+1+1,0,Ae⟩) 1 1] 61 (N:=Q1+1+1+1+1) (by simp[GM])
 try rw[GM]
 generalize ((((w13.alloc _).alloc _).alloc _).alloc _).alloc _=W14 at H⊢;clear GM;have GS:=Bt4 (H.b 0) (H.b 1) (H.b 2) (H.b 3);obtain⟨Q2,sc⟩:=ey (Q1+1);rw[sc]at H GS⊢;obtain⟨Q3,hQ3⟩:=ey (Q2+1);rw[hQ3]at H GS⊢;obtain⟨Q4,hQ4⟩:=ey (Q3+1);rw[hQ4]at H GS⊢;generalize Q4+1=Q5 at H⊢;clear sc hQ3 hQ4
 have HGA:Hid (∀W,dH W (Af ⟨Q2,0,Ae⟩) (Af ⟨Q4,0,Ae⟩) [⟨Af ⟨Q1,0,Ae⟩,2,[3,2]⟩] [⟨Af ⟨Q3,0,Ae⟩,2,[1,4]⟩]->Al Do 14 #[.agg #[Ad (Af ⟨Q2,0,Ae⟩) 1 1,Ad (Af ⟨Q4,0,Ae⟩) 1 1],Aa Ab 7] W (Vw (λk=>wR 7 4 k) [⟨Af ⟨Q1,0,Ae⟩,2,[3,2]⟩] [⟨Af ⟨Q3,0,Ae⟩,2,[1,4]⟩] 2 W)):=Ah λW h=>
  Ac2 _ _ _ _ 1 1 1 1 7 4 2 W h rfl rfl (show fmE [[3,2]] [[1,4]]=0 by decide) Ha Ha (show 4=Wy [[3,2]]by decide) Ha
 have yu:Hid (∀W,dH W (Af ⟨Q2,0,Ae⟩) (Af ⟨Q4,0,Ae⟩) [⟨Af ⟨Q1,0,Ae⟩,2,[3,2]⟩] [⟨Af ⟨Q3,0,Ae⟩,2,[1,4]⟩]->Al Do 15 #[.agg #[Ad (Af ⟨Q2,0,Ae⟩) 1 1,Ad (Af ⟨Q4,0,Ae⟩) 1 1],Aa Ab 7] W (Vw (λk=>mB 7 2 2 k) [⟨Af ⟨Q1,0,Ae⟩,2,[3,2]⟩] [⟨Af ⟨Q3,0,Ae⟩,2,[1,4]⟩] 2 W)):=Ah λW h=>
  Ad7 _ _ _ _ 1 1 1 1 7 2 2 W h rfl rfl (show fmE [[3,2]] [[1,4]]=0 by decide) Ha Ha (show 2*2=Wy [[3,2]]by decide) Ha Ha
 obtain⟨⟨f0,f1⟩,-⟩:=Hn (H.b 4);go_wp2_with fail;refine(HGA.out _ GS).mono ?_;rintro ee w15 ⟨gl0,gl,rfl,GW,ki,DK,hb⟩;have H:=H.call hb;have GS:=GS.below hb;have HGK:Hid (gl.map ksF=(Dr 2).map λk=>(trR (wR 7 4 k) [[3,2]],trR (wR 7 4 k) [[1,4]])):=Ah (At3 GW λk hk=>⟨(DK k hk).1,(DK k hk).2.1⟩)
 have HGF:Hid (∀r∈gl,On 2 1 r.fr=true/\On 2 1 r.bk=true):=Ah λr hr=>by
  obtain⟨k,hk,rfl⟩:=Be.1 hr;exact⟨kN (F:=[[3,2]]) (DK k hk).1 Ha,kN (F:=[[1,4]]) (DK k hk).2.1 Ha⟩
 have HGL:=Ah GW;clear f0 f1 hb DK GW HGA;obtain⟨⟨f0,f1⟩,-⟩:=Hn (H.b 4);go_wp2_with fail;refine(yu.out _ GS).mono ?_;rintro ee w16 ⟨iA,il,rfl,bv,BN,xt,hb⟩;have H:=H.call hb;have ki:=ki.below hb;have HIK:Hid (il.map ksF=(Dr 2).map λk=>(trR (mB 7 2 2 k) [[3,2]],trR (mB 7 2 2 k) [[1,4]])):=Ah (At3 bv λk hk=>⟨(xt k hk).1,(xt k hk).2.1⟩)
 have HIF:Hid (∀r∈il,On 2 1 r.fr=true/\On 2 1 r.bk=true):=Ah λr hr=>by
  obtain⟨k,hk,rfl⟩:=Be.1 hr;exact⟨kN (F:=[[3,2]]) (xt k hk).1 Ha,kN (F:=[[1,4]]) (xt k hk).2.1 Ha⟩
 have zi:1<il.length:=Gu;have ZH:=xt 1 zi;obtain⟨r1,ui⟩:=ey (il[1]);rw[ui]at ZH;have HI1:Hid (ksL r1.fr=[[5,4]]/\ksL r1.bk=[[3,6]]/\r1.fr.length=1/\r1.bk.length=1/\∀r∈r1.fr++r1.bk,r.c=r.ks.length):=Ah ⟨ZH.1.trans (show trR (mB 7 2 2 1) [[3,2]]=[[5,4]]by decide),ZH.2.1.trans (show trR (mB 7 2 2 1) [[1,4]]=[[3,6]]by decide),ZH.2.2.1,ZH.2.2.2.1,ZH.2.2.2.2⟩;have KE:=Ah ui;have wq:=Ah bv;clear f0 f1 hb xt bv yu GS ZH ui;have H:=H.upto 0;go_wp2_with fail;refine(PM.out _ H.below).mono ?_;rintro ee NM ⟨cs,A1,rfl,lu,-,hb,-⟩;obtain⟨pA,pc,A2,cc,rfl,hA,hp,br⟩:=lu.st.held;simp only[En,Cq,Bt,Nat.reduceAdd];obtain⟨T8,hT8⟩:=ey NM.heap.size;have H:=(H.call hb).new #[Aa Ab t1.a,Aa Ab t1.b,Ad pA t1.cr.length pc,Aa Ac t1.root.t,Aa Ab t1.root.x,Aa Ab t1.root.y,Ad A2 t1.l.length cc] 33 hT8;have jl:Below NM.heap.size NM (NM.alloc (.cells #[Aa Ab t1.a,Aa Ab t1.b,Ad pA t1.cr.length pc,Aa Ac t1.root.t,Aa Ab t1.root.x,Aa Ab t1.root.y,Ad A2 t1.l.length cc] 33)):=(Ag _ _).alloc (Am _) _;have hp:=hp.below jl;have br:=br.below jl;have ki:=(ki.below hb).below jl;have BN:=(BN.below hb).below jl;clear lu PM hb jl;go_upto_region 13 with fail
 try rw[hT8]
 generalize NM.alloc _=Q_ at H hp br ki BN⊢;clear hT8
 have dr:Hid (∀(ins:Bool) (l:List FoR) (lA:Option Ci) (W:Aj),l.length=2->(∀r∈l,On 2 1 r.fr=true/\On 2 1 r.bk=true)->Zo l (if ins then px1.take 2 else px1) (if ins then px1.drop 2 else[])=wL->Un W lA l->Rd W pA 3 t1.cr.length (crs t1.cr)->Hz W A2 t1.l->Below w.heap.size w W->
   Al Do 16 #[Ad lA 2 2,.agg #[Aa Ab t1.a,Aa Ab t1.b,Ad pA t1.cr.length pc,Aa Ac t1.root.t,Aa Ab t1.root.x,Aa Ab t1.root.y,Ad A2 t1.l.length cc],.bool ins] W λe w'=>∃A,e= .returned (.tuple #[Ad A 8 8,Aa Ab 0])/\Rd w' A 1 8 (It wL)/\Below W.heap.size W w'):=Ah λins l lA W h2 hf hr ho hp br de=>by
  have hq:=HQ.out _ de;have hpx:=J1.out.2;rw[Yx J1.out.1]at hpx;refine(Cb8 J1.out.1 Ha Ha l lA 2 2 h2.symm Ha Ha hf ins (λ_=>Ha) px1 _ _ hpx rfl rfl pA pc A2 cc W ho hA hp br hq.1 hq.2).mono ?_;rintro e w' ⟨A,rfl,be,hb⟩;have hr:Zo l (if ins then px1.take (2*1)else px1) (if ins then px1.drop (2*1)else[])=wL:=hr;rw[hr]at be⊢;exact⟨A,rfl,be,hb⟩
 have HRG:Hid (Zo gl px1 []=wL):=Ah (by rw[zC,HGK.out];exact Ce0);have YA:Hid (Zo il (px1.take 2) (px1.drop 2)=wL):=Ah (by rw[zC,HIK.out];exact Ce1);obtain⟨a0,a1,a2,a3,a4,a5,a6⟩:=Ku (H.b 0);go_wp2_with fail;refine(dr.out false gl gl0 Q_ HGL.out HGF.out HRG.out ki hp br H.below).mono ?_;rintro ee w19 ⟨rA,rfl,hx,hb⟩;have H:=H.call hb;have hp:=hp.below hb;have br:=br.below hb;have BN:=BN.below hb;clear a0 a1 a2 a3 a4 a5 a6 hb ki HRG HGF HGL HGK;obtain⟨a0,a1,a2,a3,a4,a5,a6⟩:=Ku (H.b 0);go_wp2_with fail;refine(dr.out true il iA w19 wq.out HIF.out YA.out BN hp br H.below).mono ?_;rintro ee PG ⟨rB,rfl,hy,hb⟩;have H:=H.call hb;have hx:=hx.below hb;have BN:=BN.below hb;clear a0 a1 a2 a3 a4 a5 a6 hb YA HIF HIK hp br dr hA;have H:=H.upto 0;obtain⟨ib,io,rfl,hib,i0,i1⟩:=BN.at' 1 (oHx wq.out);have JR:=BN.row _ (Ay (n:=1) (oHx wq.out));rw[KE.out]at i0 i1 JR;unfold FoR.h1 at i0;unfold FoR.h2 at i1;obtain⟨k1,k2,k3,k4,k5⟩:=HI1.out;rw[k3]at i0;rw[k4]at i1;obtain⟨fb,fo,fB,e1,g0,uj⟩:=Cb9 JR.f k1 λr hr=>k5 r (List.mem_append_left _ hr);obtain⟨aj,ID,dl,e2,g1,JQ⟩:=Cb9 JR.b k2 λr hr=>k5 r (List.mem_append_right _ hr);rw[e1]at i0;rw[e2]at i1;simp only[Nat.one_mul]at i0 i1;have uj:Rd PG fB 1 2 (It [5,4]):=uj;have JQ:Rd PG dl 1 2 (It [3,6]):=JQ;have g0:PG.cell? ⟨fb,fo,Ae⟩=Af (Ad fB 2 2):=g0;have g1:PG.cell? ⟨aj,ID,Ae⟩=Af (Ad dl 2 2):=g1;clear k1 k2 k3 k4 k5 e1 e2 BN JR HI1 KE wq hib;go_wp2_with fail;have jh:=(Ag (PG).heap.size (PG)).alloc (Am _) (.cells #[Aa Ab 1,Aa Ab 2,Aa Ab 3,Aa Ab 4,Aa Ab 5,Aa Ab 6,Aa Ab 7,Aa Ab 0] 3);have kx:Rd ((PG).alloc (.cells #[Aa Ab 1,Aa Ab 2,Aa Ab 3,Aa Ab 4,Aa Ab 5,Aa Ab 6,Aa Ab 7,Aa Ab 0] 3)) (Af ⟨(PG).heap.size,0,Ae⟩) 1 8 (It wL):=Pl (It wL) 8 1 rfl rfl
 refine(Vo rA (Af ⟨(PG).heap.size,0,Ae⟩) wL 8 8 _ rfl (hx.below jh) kx Ha).mono ?_;rintro ee w21 ⟨rfl,hb⟩;have H:=(H.other (.cells #[Aa Ab 1,Aa Ab 2,Aa Ab 3,Aa Ab 4,Aa Ab 5,Aa Ab 6,Aa Ab 7,Aa Ab 0] 3)).call hb;have kx:=kx.below hb;have hb:=jh.trans (hb.mono jh.size);clear jh;obtain⟨QW,hQW⟩:=ey PG.heap.size;rw[hQW]at kx⊢;have hy:=hy.below hb;have uj:=uj.below hb;have JQ:=JQ.below hb;have i0:=Gv hb i0;have i1:=Gv hb i1;have g0:=Gv hb g0;have g1:=Gv hb g1;clear hQW hb hx;go_wp2_with fail;refine(Vo rB (Af ⟨QW,0,Ae⟩) wL 8 8 _ rfl hy kx Ha).mono ?_;rintro ee w22 ⟨rfl,hb⟩;have H:=H.call hb;have uj:=uj.below hb;have JQ:=JQ.below hb;have i0:=Gv hb i0;have i1:=Gv hb i1;have g0:=Gv hb g0;have g1:=Gv hb g1;clear hb hy kx;go_wp2_with fail;have jh:=(Ag (w22).heap.size (w22)).alloc (Am _) (.cells #[Aa Ab 5,Aa Ab 4] 3);have kx:Rd ((w22).alloc (.cells #[Aa Ab 5,Aa Ab 4] 3)) (Af ⟨(w22).heap.size,0,Ae⟩) 1 2 (It [5,4]):=Pl (It [5,4]) 2 1 rfl rfl;refine(Vo fB (Af ⟨(w22).heap.size,0,Ae⟩) [5,4] 2 2 _ rfl (uj.below jh) kx Ha).mono ?_;rintro ee w23 ⟨rfl,hb⟩;have H:=(H.other (.cells #[Aa Ab 5,Aa Ab 4] 3)).call hb;have kx:=kx.below hb;have hb:=jh.trans (hb.mono jh.size);clear jh;have JQ:=JQ.below hb;have i1:=Gv hb i1;have g1:=Gv hb g1;clear hb uj i0 g0 kx;go_wp2_with fail;have jh:=(Ag (w23).heap.size (w23)).alloc (Am _) (.cells #[Aa Ab 3,Aa Ab 6] 3);have kx:Rd ((w23).alloc (.cells #[Aa Ab 3,Aa Ab 6] 3)) (Af ⟨(w23).heap.size,0,Ae⟩) 1 2 (It [3,6]):=Pl (It [3,6]) 2 1 rfl rfl;refine(Vo dl (Af ⟨(w23).heap.size,0,Ae⟩) [3,6] 2 2 _ rfl (JQ.below jh) kx Ha).mono ?_;rintro ee w24 ⟨rfl,hb⟩;have H:=(H.other (.cells #[Aa Ab 3,Aa Ab 6] 3)).call hb;have kx:=kx.below hb
 have hb:=jh.trans (hb.mono jh.size);clear jh;have HB:=Ah H.below;clear hb JQ i1 g1 kx H;go_wp2;go_ret;exact⟨rfl,HB.out⟩
theorem Ax7 {w:Aj} {Q:Nat} {x y:Nat} (h:w.heap[Q]? =Af (.cells #[(x:Int),(y:Int)] 56 (0,0))):Rd w (Af ⟨Q,0,Ae⟩) 2 1 (Kf [(x,y)]):=
 ⟨rfl,λ_=>⟨Q,0,rfl,(Au.1 h).1,λi v hi=>by
  rw[Bt,By _ _ i _ _ _ h];simpa[Kf,nV]using hi⟩⟩
theorem Bj0 (xw xh xo:Nat) (h1:xw<=255) (h2:xh<=255) (h3:xo<=255) (w:Aj) (hQ:Qf w) (hT:Tn w):
  Al Do 3 #[.agg #[Aa Ac xw,Aa Ac xh,Aa Ac xo]] w (Gy (.bool true) w):=by
 have yb:=Bp7 xw;have zv:=Bp6 xh;have ji:=xX yb zv (ovG xo);have HLV:=Ah (λ(w':Aj) (hb:Below w.heap.size w w')=>pB w' (hQ.below hb) (hT.below hb));have AV:=Ah (λ(w':Aj) (hb:Below w.heap.size w w')=>show Qf w'/\Tn w' from⟨hQ.below hb,hT.below hb⟩);have RK:=λt hr w' (hb:Below w.heap.size w w')=>kP xw xh xo h1 h2 h3 t hr w' (hQ.below hb) (hT.below hb);unfold Se at RK;obtain⟨a,ha⟩:∃z:Nat,2^(xw%4)=z:=⟨_,rfl⟩;obtain⟨b,hb⟩:∃z:Nat,2^(xh%3)=z:=⟨_,rfl⟩;rw[ha,hb]at RK ji;rw[ha]at yb;rw[hb]at zv;obtain⟨t,m,hr,I,hla⟩:=oF yb zv (ovG xo);have HG:=Ah (λ(w':Aj) (hb:Below w.heap.size w w')=>RK t hr w' hb);have ZZ:1<=a/\a<=8:=by simp only[Bk,Du,or_false]at yb;omega
 have pk:1<=b/\b<=4:=by simp only[Bk,Du,or_false]at zv;omega
 obtain⟨l,hl⟩:=ey (hvG (ovG xo) 10 a b 0);rw[hl]at ji HG hla;obtain⟨q,hq12,F7,zx,-,UR,hev⟩:=Ae8 I hla;obtain⟨n,hn⟩:=ey (a*b)
 have hn32:1<=n/\n<=32:=by
  rw[<-hn];exact⟨Gp ZZ.1 pk.1,Gp ZZ.2 pk.2⟩
 rw[hn]at ji UR hev
 have dx:Hid (∀(pA:Option Ci) (pc:Nat) (A:Option Ci) (cc:Nat) (W:Aj),AOk pA t.cr.length pc->Rd W pA 3 t.cr.length (crs t.cr)->Hz W A t.l->Below w.heap.size w W->
   Al Do 7 #[.agg #[Aa Ab t.a,Aa Ab t.b,Ad pA t.cr.length pc,Aa Ac t.root.t,Aa Ab t.root.x,Aa Ab t.root.y,Ad A t.l.length cc],Aa Ac (q:Nat)] W (So (Mt n) n W)):=Ah λpA pc A cc W h1 h2 h3 h4=>by
  have hq:=AV.out _ h4;have:=mM I ZZ.2 pk.2 (q:=q) Gu UR pA pc A cc W h1 h2 h3 hq.1 hq.2;rw[hn]at this;exact this
 obtain⟨nl,jv⟩:=ey l.length;rw[jv]at ji;have lv:=Ah jv;have H:=(Bx.start w).new #[Aa Ac xw,Aa Ac xh,Aa Ac xo] 23 rfl
 have vo:Hid (∀k (hk:k<l.length),nl=k+1->(l[k].k).toNat=q/\0<=l[k].k):=Ah λk hk e=>by
  have td:l.getLast? =Af l[k]:=by
   rw[List.getLast?_eq_getElem?,jv,e,Nat.add_sub_cancel,Aw hk]
  have:=F7 _ td;exact⟨this.symm,Gu⟩
 have HQ0:Hid (nl=0->q=1/\n=1):=Ah λe=>by
  have e0:l=[]:=List.eq_nil_of_length_eq_zero (jv.trans e);refine⟨zx e0,?_⟩;rw[<-ji,e]
 have HEV:Hid (0<nl->n%2=0/\2<=n):=Ah λe=>by
  have:2^1<=2^nl:=Nat.pow_le_pow_right Ha e;omega
 have yq:=Ah ji;clear yb zv RK hr ha hb hQ hT hl jv I hla hn F7 zx UR hev ji;go_enter Tryz.func3,Tryz.ntmps3;go_upto_region 1 with fail;obtain⟨N,hN⟩:=ez w.heap.size;rw[<-hN]at H⊢;have db:=Ah hN;clear hN;generalize w.alloc _=W1 at H⊢;obtain⟨⟨g0,g1,g2⟩,-⟩:=He (H.b 0);go_wp2_with fail;refine(HG.out _ H.below).mono ?_;rintro ee w2 ⟨cs,FA,rfl,lu,LN,hb,-⟩;obtain⟨pA,pc,A2,cc,rfl,hA,hp,br⟩:=lu.st.held;rw[lv.out];obtain⟨T1,VC⟩:=ey w2.heap.size;have H:=(H.call hb).new #[Aa Ab t.a,Aa Ab t.b,Ad pA t.cr.length pc,Aa Ac t.root.t,Aa Ab t.root.x,Aa Ab t.root.y,Ad A2 t.l.length cc] 33 VC;have jl:Below w2.heap.size w2 (w2.alloc (.cells #[Aa Ab t.a,Aa Ab t.b,Ad pA t.cr.length pc,Aa Ac t.root.t,Aa Ab t.root.x,Aa Ab t.root.y,Ad A2 t.l.length cc] 33)):=(Ag _ _).alloc (Am _) _;have hp:=hp.below jl;have br:=br.below jl;have LN:=LN.below jl;clear lu HG hb jl g0 g1 g2;go_upto_region 2 with fail
 try rw[VC]
 generalize w2.alloc _=W3 at H hp br LN⊢;clear VC;obtain⟨a0,a1,a2,a3,a4,a5,a6⟩:=Ku (H.b 1);by_cases hz:nl=0
 ·obtain⟨rfl,rfl⟩:=HQ0.out hz;subst hz
  have TM:Hid (Al Do 7 #[.agg #[Aa Ab t.a,Aa Ab t.b,Ad pA t.cr.length pc,Aa Ac t.root.t,Aa Ab t.root.x,Aa Ab t.root.y,Ad A2 t.l.length cc],Aa Ac 1] W3 λe w'=>∃fA lA,e= .returned (.tuple #[.agg #[Aa Ab 1,Ad fA 0 0,Ad lA 1 1],Aa Ab 0])/\Rd w' lA 1 1 (It [0])/\Below W3.heap.size W3 w'):=Ah ((dx.out pA pc A2 cc W3 hA hp br H.below).mono λe w' h=>by
   obtain⟨fA,lA,nf,nl',rfl,hB,-,hb⟩:=h;obtain rfl:nf=0:=hB.hf;obtain rfl:nl'=1:=hB.hl;exact⟨fA,lA,rfl,hB.rl,hb⟩)
  clear dx vo HQ0 HEV yq LN hp br hq12 lv;go_wp2_with fail;refine TM.out.mono ?_;rintro ee w4 ⟨fA,lA,rfl,na,hb⟩;obtain⟨T4,KW⟩:=ey w4.heap.size;have H:=(H.call hb).new #[Aa Ab 1,Ad fA 0 0,Ad lA 1 1] 40 KW;have na:=na.alloc (.cells #[Aa Ab 1,Ad fA 0 0,Ad lA 1 1] 40);clear a0 a1 a2 a3 a4 a5 a6 hb TM;go_upto_region 4 with fail
  try rw[KW]
  generalize w4.alloc _=W5 at H na⊢;clear KW;obtain⟨⟨b0,b1,b2⟩,-⟩:=He (H.b 2);go_wp2_with fail;have jh:=(Ag (W5).heap.size (W5)).alloc (Am _) (.cells #[Aa Ab 0] 3);have kx:Rd ((W5).alloc (.cells #[Aa Ab 0] 3)) (Af ⟨(W5).heap.size,0,Ae⟩) 1 1 (It [0]):=Pl (It [0]) 1 1 rfl rfl;refine(Vo lA (Af ⟨(W5).heap.size,0,Ae⟩) [0] 1 1 _ rfl (na.below jh) kx Ha).mono ?_;rintro ee w6 ⟨rfl,hb⟩;have H:=(H.other (.cells #[Aa Ab 0] 3)).call hb;have kx:=kx.below hb;have hb:=jh.trans (hb.mono jh.size);clear jh;clear hb kx na b0 b1 b2;obtain⟨⟨b0,b1,b2⟩,-⟩:=He (H.b 2);go_wp2_with fail;refine(HLV.out _ H.below).mono ?_;rintro ee w7 ⟨rfl,hb⟩;have HB:=Ah (H.call hb).below;clear hb b0 b1 b2 H;go_wp2;go_ret;exact⟨rfl,HB.out⟩
 ·obtain⟨kr,hn22⟩:=HEV.out Gu;obtain⟨k,JO⟩:∃k,nl=k+1:=⟨nl-1,Gu⟩;have bc:k<l.length:=oHx lv.out;obtain⟨fb,fo,rfl,OP,c0,-,-,-⟩:=Ax6 (by rw[lv.out]at LN;exact LN) k bc;obtain⟨e1,e2⟩:=vo.out k bc JO;have ek:l[k].k=(q:Int):=Gu;rw[ek]at c0
  have hnl64:nl<64:=by
   rcases Nat.lt_or_ge nl 64 with h|h
   ·exact h
   ·exfalso;have:=yq.out;have:2^64<=2^nl:=Nat.pow_le_pow_right Ha h;omega
  have t1:Ab.wrap ((nl:Int)-1)=(k:Int):=by rw[Ca _ Gu];omega
  have q0:(k:Int)<(nl:Int):=Gu;have q1:((nl:Int)==0)=false:=Hu;have q2:¬(nl:Int)=0:=Gu;have HZ:=Ah hz;have jf:=Ah JO;clear hz JO bc e1 e2 ek LN vo HQ0;go_upto_if 59 with fail;go_cut [7]from 58 to 59 (λs7 wx=>s7= Aa Ac (q:Nat)/\W3=wx)
  case first=>
   clear dx HLV AV lv HEV yq HZ jf H hp br hA;rcases hq12 with rfl|rfl
   ·as_aux_lemma=>
    go_wp2;go_meet;exact⟨rfl,rfl⟩
   ·as_aux_lemma=>
    go_wp2;go_meet;exact⟨rfl,rfl⟩
  obtain⟨rfl,rfl⟩:=hcut;obtain⟨nf,IC⟩:=ey (n/2);have hnfn:n=2*nf:=Gu
  have xm:Hc (Mt n) n=(Dr nf).map λi=>(i,n-1-i):=by
   rw[fG kr n (Am _),Nat.min_eq_right (Nat.div_le_self _ _),IC]
  have gz:=uK hn22
  have qp:Hid (Al Do 7 #[.agg #[Aa Ab t.a,Aa Ab t.b,Ad pA t.cr.length pc,Aa Ac t.root.t,Aa Ab t.root.x,Aa Ab t.root.y,Ad A2 t.l.length cc],Aa Ac (q:Nat)] W3 λe w'=>∃fA lA,e= .returned (.tuple #[.agg #[(n:Nat),Ad fA nf nf,Ad lA 0 0],Aa Ab 0])/\BAt w' (Mt n) n fA lA nf nf 0 0/\Below W3.heap.size W3 w'):=Ah ((dx.out pA pc A2 cc W3 hA hp br H.below).mono λe w' h=>by
   obtain⟨fA,lA,nf',nl',rfl,hB,-,hb⟩:=h;obtain rfl:nf'=nf:=by rw[hB.hf,xm];simp
   obtain rfl:nl'=0:=by rw[hB.hl,gz];rfl
   exact⟨fA,lA,rfl,hB,hb⟩)
  have JZ:=Ah xm
  have fd:iO (Mt n) n=true:=by
   unfold iO;rw[xm,gz];simp only[List.isEmpty_nil,Bool.and_true,Ec,List.mem_map,List.mem_range,Lg];rintro p ⟨i,hi,rfl⟩;dsimp only;omega
  have xy:=yP (n:=n) (.inl kr)
  have PS:Hid (∀fA lA W,BAt W (Mt n) n fA lA nf nf 0 0->Al Do 10 #[.agg #[(n:Nat),Ad fA nf nf,Ad lA 0 0]] W (Gy (.tuple #[.bool true,Aa Ab 0]) W)):=Ah λfA lA W h=>by
   have:=fH (Mt n) n xy hn32.1 Gu fA lA nf nf 0 0 W h;rw[fd]at this;exact this
  have AZ:Hid (∀fA lA W,BAt W (Mt n) n fA lA nf nf 0 0->Al Do 11 #[.agg #[(n:Nat),Ad fA nf nf,Ad lA 0 0]] W λe w'=>∃A,e= .returned (.tuple #[Ad A 1 1,Aa Ab 0])/\Rd w' A 2 1 (Kf [(0,n-1)])/\Below W.heap.size W w'):=Ah λfA lA W h=>(Zp (Mt n) n xy hn32.1 Gu fA lA nf nf 0 0 W h).mono λe w' hh=>by
   obtain⟨A,mm,l',rfl,hm,hr,zw,-,hb⟩:=hh;rw[Ag1 hn22 kr]at zw;obtain rfl:=List.perm_singleton.1 zw;obtain rfl:mm=1:=hm;exact⟨A,rfl,hr,hb⟩
  have CJ:=Ah hnfn;clear xm gz fd xy IC hnfn hA hp br dx a0 a1 a2 a3 a4 a5 a6 c0 t1 q0 kr;obtain⟨a0,a1,a2,a3,a4,a5,a6⟩:=Ku (H.b 1);go_wp2_with fail;refine qp.out.mono ?_;rintro ee w4 ⟨fA,lA,rfl,pi,hb⟩;obtain⟨T4,KW⟩:=ey w4.heap.size;have H:=(H.call hb).new #[(n:Nat),Ad fA nf nf,Ad lA 0 0] 40 KW;have pi:=pi.below ((Ag w4.heap.size w4).alloc (Am _) (.cells #[(n:Nat),Ad fA nf nf,Ad lA 0 0] 40));clear a0 a1 a2 a3 a4 a5 a6 hb qp;go_upto_region 9 with fail
  try rw[KW]
  generalize w4.alloc _=W5 at H pi⊢;clear KW;obtain⟨⟨b0,b1,b2⟩,-⟩:=He (H.b 2);go_wp2_with fail;refine(PS.out fA lA _ pi).mono ?_;rintro ee w6 ⟨rfl,hb⟩;have H:=H.call hb;have pi:=pi.below hb;clear hb b0 b1 b2 PS;obtain⟨⟨b0,b1,b2⟩,-⟩:=He (H.b 2);go_wp2_with fail;refine(AZ.out fA lA _ pi).mono ?_;rintro ee w7 ⟨sA,rfl,ul,hb⟩;have H:=H.call hb;have uj:=pi.rf.below hb;rw[JZ.out]at uj;clear hb b0 b1 b2 AZ pi
  have e1:wrap64 ((2:Int)^nl)=(n:Int):=by
   have e0:(2:Int)^nl=(n:Int):=by rw[<-yq.out];simp
   rw[e0];exact Cb _ Gu
  obtain⟨⟨b0,b1,b2⟩,-⟩:=He (H.b 2);have t2:(n:Int).tdiv 2=(nf:Int):=by have:=CJ.out;rw[Int.tdiv_eq_ediv_of_nonneg Gu];omega
  have t4:Ab.wrap (nf:Int)=(nf:Int):=Ca _ (oHx CJ.out);obtain⟨n1,ff⟩:=ey (n-1);have t3:Ab.wrap ((n:Int)-1)=(n1:Int):=by rw[Ca _ Gu];omega
  rw[ff]at ul;have XT:=Ah ff;clear ff;go_wp2_with fail;rw[e1];have jh:=(Ag w7.heap.size w7).alloc (Am _) (.cells #[Aa Ab 0,(n1:Nat)] 56);have kx:=Ax7 (x:=0) (y:=n1) (Bz w7 (.cells #[Aa Ab 0,(n1:Nat)] 56));refine(Wm sA (Af ⟨w7.heap.size,0,Ae⟩) [(0,n1)] 1 1 _ rfl (ul.below jh) kx Ha).mono ?_;rintro ee w8 ⟨rfl,hb⟩;have H:=(H.other (.cells #[Aa Ab 0,(n1:Nat)] 56)).call hb;have uj:=uj.below (jh.trans (hb.mono jh.size));have HRF:=Ah uj;have fw:=Ah H;clear hb jh kx ul b0 b1 b2 e1 uj H;go_wp2
  go_loopw [15] (λNI wr=>∃i:Nat,i<=nf/\NI= Aa Ab i/\Hid (Below w8.heap.size w8 wr)) (λNI _=>nf-(intOf NI).toNat)
  case atStart=>exact⟨0,Gk _,rfl,Ah (Ag _ _)⟩
  obtain⟨i,hi,rfl,HB⟩:=hrel;have H:=fw.out.call HB.out;obtain⟨⟨b0,b1,b2⟩,-⟩:=He (H.b 2);by_cases ad:i<nf
  ·have q4:(i:Int)<(nf:Int):=Gu;have fm:=Ah ad;have uj:=HRF.out.below HB.out;have bv:i<((Dr nf).map λi=>(i,n-1-i)).length:=by simpa using ad
   obtain⟨bf,of',rfl,-,c0,c1⟩:=Qg uj bv;simp only[List.getElem_map,List.getElem_range]at c0 c1;obtain⟨z,hz⟩:=ey (n-1-i);rw[hz]at c1
   have t5:Ab.wrap ((n1:Int)-(i:Int))=(z:Int):=by
    have h1:=XT.out;have h2:=CJ.out;rw[Ca _ Gu];omega
   have heq:=Bc5 (i:Int) (z:Int) (i:Int) (z:Int);have e6:Ab.wrap ((i:Int)+1)=(i:Int)+1:=Ca _ (oHx CJ.out);clear hz uj bv ad hi H
   as_aux_lemma=>
   go_wp2;exact⟨⟨i+1,fm.out,Gx,HB⟩,by have:=fm.out;simp[intOf];omega⟩
  ·obtain rfl:i=nf:=Gu;have q4:¬(i:Int)<(i:Int):=Gu;clear b0 b1 b2 ad hi;go_wp2_with fail;refine(HLV.out _ H.below).mono ?_;rintro ee w9 ⟨rfl,hb⟩;have EF:=Ah (H.call hb).below;clear hb H;go_wp2;go_ret;exact⟨rfl,EF.out⟩
theorem oV {P:Program} {W:Aj} {n:String} {d:DataW Unit}:∀{l:List (String×DataW Unit)} {ps:List MemPlace},DataW.LaidVars P W l ps->(n,d)∈l->∃g t cs fuel p,P.globalNamed n=Af g/\(P.globals[g]?).map (·.type)=Af t/\W.var? P n=Af cs/\DataW.trod (λ_=>()) P W 0 (λ_=>true) false fuel t cs.toList=Af (d,p)
 |(n',d')::r,ps,h,hm=>by
  obtain⟨g,t,cs,fuel,p,q,h1,h2,h3,h4,h5,_⟩:=h;rcases Bk.1 hm with e|hm
  ·injection e with e1 e2;subst e1;subst e2;exact⟨g,t,cs,fuel,p,h1,h2,h3,h4⟩
  ·exact oV h5 hm
theorem dQ {P:Program} {W:Aj} {n:String} {d:DataW Unit} {l:List (String×DataW Unit)} {g t:Nat} (hg:P.globalNamed n=Af g) (ht:(P.globals[g]?).map (·.type)=Af t) {m:Nat} (hk:P.keyTypeAt m t=true) (hti:P.tiled m t=true)
  (hl:(n,d)∈l) (h:laidMet P l W) (i:Nat):W.cell? ⟨g,i,Ae⟩=(d.flat.map Lit.toCell)[i]? :=by
 obtain⟨ps,hv,_⟩:=h;obtain⟨g',t',cs,fuel,p,ud,I9,DH,htr⟩:=oV hv hl;obtain rfl:=Option.some.inj (hg.symm.trans ud);obtain rfl:=Option.some.inj (ht.symm.trans I9);obtain⟨h1,_⟩:=keyLits_of_trod m _ hk _ _ _ htr;have h2:=cells_of_lits m _ hti _ _ _ h1;rw[World.var?_cell hg DH i];rw[<-h2];simp
theorem Cb3 {W:Aj} {l:List (String×DataW Unit)} (hl:("crimp/cells.quarters",Rows.laid_crimp_cells_quarters)∈l) (h:laidMet Do l W):Qf W:=by
 have hc:=dQ (m:=9) (t:=301) (show Tryz.prog.globalNamed "crimp/cells.quarters" =Af 1 by kernel_rfl) Gw Gw Gw hl h;have he:(Rows.laid_crimp_cells_quarters:DataW Unit).flat.map Lit.toCell=Pk:=by rfl
 rw[he]at hc;refine⟨World.block_lt_of_cell? W _ ((hc 0).trans rfl),λj v hj=>?_⟩;rw[Bt,hc j,hj]
theorem Cd2 {W:Aj} {l:List (String×DataW Unit)} (hl:("crimp/moves.turns",Rows.laid_crimp_moves_turns)∈l) (h:laidMet Do l W):Tn W:=by
 have hc:=dQ (m:=9) (t:=228) (show Tryz.prog.globalNamed "crimp/moves.turns" =Af 0 by kernel_rfl) Gw Gw Gw hl h;refine⟨World.block_lt_of_cell? W _ ((hc 0).trans rfl),λt ht=>?_⟩;rw[hc,hc,hc,hc]
 match t,ht with
 |0,_=>exact⟨rfl,rfl,rfl,rfl⟩
 |1,_=>exact⟨rfl,rfl,rfl,rfl⟩
 |2,_=>exact⟨rfl,rfl,rfl,rfl⟩
 |3,_=>exact⟨rfl,rfl,rfl,rfl⟩
 |4,_=>exact⟨rfl,rfl,rfl,rfl⟩
 |5,_=>exact⟨rfl,rfl,rfl,rfl⟩
 |6,_=>exact⟨rfl,rfl,rfl,rfl⟩
 |7,_=>exact⟨rfl,rfl,rfl,rfl⟩
end Go.Proofs.YtlgkpdfieaadaaaGreatDoor
namespace Go.Proofs.YtlgkpdfieaadaaaGreatDoor.bhlv
open Go.ChangeShapes Go.WideShapes Go.ChangeAt Go.RowKit Go.Deep
theorem own:ownKnob Tryz.prog.godebug=Ae:=Gw
theorem Bi9:laidOutB Do=true:=Gw
abbrev cG:List (String×DataW Unit):=[("crimp/moves.turns",Rows.laid_crimp_moves_turns),("crimp/cells.quarters",Rows.laid_crimp_cells_quarters)]
theorem At5 {H:Type} {enc:Cj×Ak->H} {P:Program} {f:Func} {s:ChangeSpec} {W W':Aj} {args:Array Ak} {v:Ak} {ds:List (DataW H)} {before:List MemPlace}
  (hW:DataW.Whole enc P f.params.toList s.vars false W args.toList ds [] before)
  (hres:∀(b:Nat) (sp:Nat->Bool) (hd:Bool),DataW.TrodAll enc P W' b sp hd f.resultTypes.toList (v.resultList f.resultTypes.size) (s.fn H (ds++[])).results [])
  (hargs:DataW.TrodAll enc P W' 0 (λb=>decide (b<W.heap.size)) true f.params.toList args.toList (s.fn H (ds++[])).args before)
  (hvars:∀sp:Nat->Bool,DataW.TrodVars enc P W' sp s.vars (s.fn H (ds++[])).vars [])
  (hb:Below W.heap.size W W'):s.post enc P f false true false false W args v W':=
 ⟨ds,[],before,[],before,[],hW,hres _ _ _,hargs,hvars _,World.keptBut_mono (λp hp=>⟨hp,.inr (by simpa using hp)⟩) (hb.frame (·∈before)),λh=>by cases h⟩
theorem Bs8:Tryz.prog.cellsOf 23=3:=Gw
theorem Cb7:Tryz.prog.readableRec 23=true:=Gw
theorem ltG:23<Tryz.prog.types.size:=Rl Gw
theorem Cd4 {x:Int} (h:(Lit.int .u8 x).wf=true):0<=x/\x<=255:=by
 have hm:IntKind.u8.min=0:=rfl;have hM:IntKind.u8.max=255:=rfl;simp[Lit.wf]at h;omega
theorem uI {x:Int} (h:(Lit.int .u8 x).wf=true):∃k:Nat,x=k/\k<=255:=by
 have:=Cd4 h;exact⟨x.toNat,Gu,Gu⟩
theorem Bv2 (os:Os) (started:os.Started) (H:Type) (enc:Cj×Ak->H):
  ReturnsInHanded {} Tryz.checked os 3 .any (λw args=>(Rows.bookletsHalvesSpec.pre enc Do Tryz.f3 [] false w args/\laidMetH Do cG w)/\sizedMet enc Do Tryz.f3 (OpenSpec.ofChange Rows.bookletsHalvesSpec) false w args)
   (Rows.bookletsHalvesSpec.post enc Do Tryz.f3 false true false false):=by
 refine returnsInHanded_of_change_and (C:=Tryz.checked) (X:=λw _=>laidMetH Do cG w) (λ_ _ _ hh h=>h.of_heap hh) own started Gw Tryz.func3
  (ChangeSpec.witness_shaped (enc:=enc) (C:=Tryz.checked) (os:=os) (X:=λw _=>laidMetH Do cG w) false (World.laidAll Do os cG) #[.agg #[Aa Ac 0,Aa Ac 0,Aa Ac 0]] 8 (World.laidAll_os _ _ _)
   (World.shaped_of_ZipB Gw Gw) Gw Gw Gw
   (by rw[MakeChecks.laidMetH_plain _ _ _ Gw];exact laidMet_laidAll _ Gw Gw)) ?_
 intro W base args ds gs before WJ hW _ _ hL _;have NB:∀(j:Nat) t v,Tryz.f3.params[j]? =Af t->args[j]? =Af v->Value.okWide Do W .any base t v:=WJ;have hW':=hW;obtain⟨p,q,UQ,hV,rfl,RI,bj⟩:=hW;have hA:DataW.TrodAll enc Do W 0 (λ_=>true) true Tryz.f3.params.toList args.toList ds p:=UQ;rw[Tryz.params3]at hA NB;obtain⟨v0,d0,rfl,rfl,h0⟩:=trodAll_one hA;obtain⟨rfl,rfl⟩:=trodVars_none hV;obtain⟨x0,x1,x2,y0,y1,y2,m,rfl,-,-,K4,yf,yn⟩:=Joins.open_agg3 Tryz.underlying23 Gw Bs8 (NB 0 23 v0 rfl rfl) h0;obtain⟨n0,e0,-,k0⟩:=DataW.trod_int Tryz.underlying5 K4;obtain⟨n1,e1,-,k1⟩:=DataW.trod_int Tryz.underlying5 yf;obtain⟨n2,e2,-,k2⟩:=DataW.trod_int Tryz.underlying5 yn;obtain rfl:x0= Aa Ac n0:=by simpa using e0
 obtain rfl:x1= Aa Ac n1:=by simpa using e1
 obtain rfl:x2= Aa Ac n2:=by simpa using e2
 obtain⟨n0,rfl,b0⟩:=uI k0;obtain⟨n1,rfl,b1⟩:=uI k1;obtain⟨n2,rfl,b2⟩:=uI k2;rw[MakeChecks.laidMetH_plain _ _ _ Gw]at hL;have hQ:Qf W:=Cb3 (l:=cG) (by simp[cG]) hL;have hT:Tn W:=Cd2 (l:=cG) (by simp[cG]) hL;clear UQ WJ e0 e1 e2;simp only[List.append_nil]at hW';refine(Bj0 n0 n1 n2 b0 b1 b2 W hQ hT).mono λe W' ⟨he,hb⟩=>?_;subst he;have ad:∀y∈p,y.block<W.heap.size:=λy hy=>hW'.lt y hy;exact⟨_,rfl,At5 hW' (λ_ _ _=>trodAll_mk1 (shut_bool Tryz.underlying4 _)) (trodAll_mk1 (Below.trod Bi9 Cb7 ltG h0 hb λy hy=>ad y hy)) (λ_=>rfl) hb⟩
theorem holds:Rows.BookletsHalvesSaid:=
 OpenClaim.holds_of_wide 3 Tryz.f3 rfl rfl rfl rfl rfl rfl rfl ⟨rfl,rfl,rfl,rfl,rfl⟩ rfl rfl rfl rfl rfl Gw Tryz.func3 Bu2
  (Rl Gw) (by unfold Func.isWrapper;first|(rw[Hd (by decide+kernel)];kernel_rfl)|(rw[Gz (by decide+kernel)];exact⟨rfl,rfl⟩))
  (λos started H enc _=>Bv2 os started H enc)
end Go.Proofs.YtlgkpdfieaadaaaGreatDoor.bhlv
