import Derived.Test.YtlgkpdfieaadaaaGreatDoorRBra
import Derived.Shelf.SlicesG.Cmp
import Derived.LaidMore
import Derived.Test.YtlgkpdfieaadaaaGreatDoorRIje
import Derived.Test.YtlgkpdfieaadaaaGreatDoorCards
import Derived.Lib.SmallJoins
import Derived.Lay
import Derived.HandedShaped
set_option linter.all false
open And renaming intro->Cn
open Array renaming getElem?_eq_some_iff->Au,getElem?_modify->Dg,replicate_succ->Db,replicate_zero->Da
open Bool renaming false_eq_true->Ek
open Go renaming Addr->Cj,Calls->Al,TypeId->Ck,Value->Ak,World->Aj,bodyPost_ret->Ai,cell_of_row->Bz,heap_alloc_new->Ca
open Go.IntKind renaming i64->Ab,u8->Ac
open Go.IntWalk renaming i64_in->Cb
open Go.Lib renaming hid->Ah
open Go.Op renaming equalIn->Gu
open Go.Proofs.Tryz renaming prog->Dp
open Go.RowKit.Below renaming refl->Ag
open Go.Value renaming int->Aa,slice->Ad
open Int renaming tdiv_eq_ediv_of_nonneg->Gi
open List renaming append_assoc->Bj,append_toArray->De,cons_append->Er,getElem?_eq_getElem->Aw,getElem_mem->Ay,length_cons->Eo,length_map->Bp,length_nil->Cs,map_append->Ez,mem_append_left->Gc,mem_cons->Bk,mem_iff_getElem->Be,nil_append->Eu,not_mem_nil->Dv,range->Ds,size_toArray->Fq,take_succ_eq_append_getElem->Bc
open Nat renaming le_refl->Am,le_trans->Bt,mul_le_mul->Gq,mul_le_mul_right->Fu,zero_add->Bu,zero_le->Gm
open Option renaming none->Ae,some->Af
set_option maxHeartbeats 32000000
set_option maxRecDepth 100000
namespace Go.Proofs.YtlgkpdfieaadaaaGreatDoor
open Go.RowKit
def By0:Tryz.prog.underlying 56=Af (.array 2 3):=Gx
def Bx9:Tryz.prog.underlying 3=Af (.int .i64):=Gx
def Bl0 (w:Aj):(sizeOf 3).run Dp w= .ok 1 w:=Gx
def Bx7 (a b:Int) (w:Aj):(part 3 #[Value.int .i64 a,Aa Ab b] 0).run Dp w= .ok (Aa Ab a) w:=Gx
def Bx8 (a b:Int) (w:Aj):(part 3 #[Value.int .i64 a,Aa Ab b] 1).run Dp w= .ok (Aa Ab b) w:=Gx
def pM (d:Nat) (a b:Int) (w:Aj):(Gu (d+1) 3 (Aa Ab a) (Aa Ab b)).run Dp w= .ok (a==b) w:=by
 simp[Gu,run_underlying Bx9]
def Cb2 (a b c d:Int) (w:Aj):(Gu 10000 56 (.agg #[a,b]) (.agg #[c,d])).run Dp w= .ok (decide (a=c/\b=d)) w:=by
 have h:∀n,(Gu (n+1+1) 56 (.agg #[a,b]) (.agg #[c,d])).run Dp w= .ok (decide (a=c/\b=d)) w:=by
  intro n;unfold Gu;simp only[Sem.run_bind,run_underlying By0,Result.andThen_ok,Bl0]
  simp only[Std.Legacy.Range.forIn_eq_forIn_range',Std.Legacy.Range.size,Nat.sub_zero,Nat.div_one,List.range'_succ,List.range'_zero,List.forIn_cons,List.forIn_nil,Sem.run_bind,Nat.mul_one,Bu,Nat.reduceAdd,
   Bx7,Result.andThen_ok,pM]
  by_cases h0:a=c<;>by_cases h1:b=d<;>simp[h0,h1,Bx8,pM]
 exact h 9998
def Aa1 {w:Aj} {A:Option Cj} {l:List Int} {n:Nat} (h:Rd w A 1 n (Ir l)) (i:Nat) (hi:i<l.length):∃b o,A=Af ⟨b,o,Ae⟩/\b<w.heap.size/\w.cell? ⟨b,o+i,Ae⟩=Af (Aa Ab l[i]):=by
 have hl:=h.1;rw[Av1]at hl;obtain⟨b,o,e,hb,hc⟩:=h.2 Gv;exact⟨b,o,e,hb,hc i _ (by simp[Ir,hi])⟩
def Zn (A B:Option Cj) (l:List Int) (n cb:Nat) (w:Aj) (hn:n=l.length) (h1:Rd w A 1 n (Ir l)) (h2:Rd w B 1 n (Ir l)) (hl:n<=1000000):
  Al Dp 8 #[Ad A n n,Ad B n cb] w (Gz (.bool true) w):=by
 have HN:=Ah hn;have H1:=Ah h1;have H2:=Ah h2;clear hn h1 h2;go_in;go_wp2
 go_loopw [5] (λs5 wr=>∃k:Nat,k<=n/\s5= Aa Ab k/\Below w.heap.size w wr) (λs5 _=>n-(intOf s5).toNat)
 case atStart=>exact⟨0,Gm _,rfl,Ag _ _⟩
 obtain⟨k,hk,rfl,hb⟩:=hrel;by_cases ac:k<n
 ·have q0:(k:Int)<(n:Int):=Gv;have be:k<l.length:=oHx HN.out;obtain⟨b1,o1,rfl,-,c1⟩:=Aa1 (H1.out.below hb) k be;obtain⟨b2,o2,rfl,-,c2⟩:=Aa1 (H2.out.below hb) k be;obtain⟨v,hv⟩:=ey (l[k]);rw[hv]at c1 c2;have fh:=Ah ac;clear hv be;go_upto_region 6 with fail
  go_quiet (fail)
  have aj:=Ic hb nq;go_wp2
  go_roundw
  case rel=>exact⟨k+1,fh.out,by go_num,aj⟩
  case measure=>simp[intOf];omega
 ·obtain rfl:k=n:=Gv;have q0:¬(k:Int)<(k:Int):=Gv;go_wp2;go_ret;exact⟨rfl,hb⟩
def aY (A B:Option Cj) (l:List (Nat×Nat)) (n cb:Nat) (w:Aj) (hn:n=l.length) (h1:Rd w A 2 n (Ki l)) (h2:Rd w B 2 n (Ki l)) (hl:n<=1000000):
  Al Dp 12 #[Ad A n n,Ad B n cb] w (Gz (.bool true) w):=by
 have HN:=Ah hn;have H1:=Ah h1;have H2:=Ah h2;clear hn h1 h2;go_in;go_wp2
 go_loopw [5] (λs5 wr=>∃k:Nat,k<=n/\s5= Aa Ab k/\Below w.heap.size w wr) (λs5 _=>n-(intOf s5).toNat)
 case atStart=>exact⟨0,Gm _,rfl,Ag _ _⟩
 obtain⟨k,hk,rfl,hb⟩:=hrel;by_cases ac:k<n
 ·have q0:(k:Int)<(n:Int):=Gv;have be:k<l.length:=oHx HN.out;obtain⟨b1,o1,rfl,-,c1,d1⟩:=Rf (H1.out.below hb) be;obtain⟨b2,o2,rfl,-,c2,d2⟩:=Rf (H2.out.below hb) be;obtain⟨⟨x,y⟩,hv⟩:=ey (l[k]);rw[hv]at c1 c2 d1 d2;dsimp only at c1 c2 d1 d2;have fh:=Ah ac;have heq:=Cb2 (x:Int) (y:Int) (x:Int) (y:Int);clear hv be;go_upto_region 6 with fail
  go_quiet (fail)
  have aj:=Ic hb nq;go_wp2
  go_roundw
  case rel=>exact⟨k+1,fh.out,by go_num,aj⟩
  case measure=>simp[intOf];omega
 ·obtain rfl:k=n:=Gv;have q0:¬(k:Int)<(k:Int):=Gv;go_wp2;go_ret;exact⟨rfl,hb⟩
def zS (f:Nat->Option Nat) (L:Nat):Bool:=((Hd f L).all λp=>decide (p.1+p.2=L-1))&&(Hs f L).isEmpty
def vK (f:Nat->Option Nat) (L:Nat) (hN:Nc f L) (hL1:1<=L) (hL:L<=64) (fA lA:Option Cj) (nf fc nl lc:Nat) (w:Aj) (hB:BAt w f L fA lA nf fc nl lc):
  Al Dp 10 #[.agg #[L,Ad fA nf fc,Ad lA nl lc]] w (Gz (.tuple #[.bool (zS f L),Aa Ab 0]) w):=by
 have RC:nf<=64:=by have h1:=hB.hf;have h2:=Pe f L;omega
 have ir:=Ah hB;have DZ:=Ah hN;clear hB hN;obtain⟨R,hR⟩:=ey (zS f L);rw[hR];have HR:=Ah hR;clear hR;have H:=(Bx.start w).new #[L,Ad fA nf fc,Ad lA nl lc] 40 rfl;go_in;go_upto_region 1 with fail;generalize w.alloc _=W at H⊢;obtain⟨N,ct⟩:=Tw w.heap.size;rw[<-ct.out]at H⊢;obtain⟨⟨a0,a1,a2⟩,_⟩:=Hg (H.b 0);go_wp2_with fail;refine(dS f L DZ.out hL1 hL fA lA nf fc nl lc _ (ir.out.below H.below)).mono ?_;rintro e w2 ⟨rfl,hb⟩;have H2:=H.call hb;clear a0 a1 a2 hb H;obtain⟨⟨a0,a1,a2⟩,_⟩:=Hg (H2.b 0);have xa:=Ah H2;clear H2;go_wp2_with fail;clear a0 a1 a2
 go_loopw [15] (λY4 wr=>∃j:Nat,Y4= Aa Ab j/\j<=nf/\Hid (∀(k:Nat) (hk:k<(Hd f L).length),k<j->(Hd f L)[k].1+(Hd f L)[k].2=L-1)/\Hid (Bx w [(N,#[Aa Ab L,Ad fA nf fc,Ad lA nl lc],40)] wr)) (λY4 _=>nf-(intOf Y4).toNat)
 case atStart=>exact⟨0,rfl,Gv,Ah λk _ h=>absurd h Gv,xa⟩
 obtain⟨j,rfl,hj,HA,HH⟩:=hrel;clear xa;have H1:=HH.out;obtain⟨⟨a0,a1,a2⟩,_⟩:=Hg (H1.b 0);by_cases ac:j<nf
 ·have q0:(j:Int)<(nf:Int):=Gv;have me:j<(Hd f L).length:=oHx ir.out.hf;obtain⟨b,o,rfl,cj,p0,p1⟩:=Rf (ir.out.rf.below H1.below) me;have xq:=Ku.1 (Ay me);obtain⟨x,hx⟩:=ey ((Hd f L)[j].1);obtain⟨y,hy⟩:=ey ((Hd f L)[j].2);have hyL:=(DZ.out.lt _ _ xq.2.1).2.1;rw[hx]at p0 xq;rw[hy]at p1 xq hyL;have hxL:=xq.1;have HX:=Ah (Cn hx hy);have H2:=H1.new #[x,y] 56 rfl;clear hx hy xq;go_upto_region 7 with fail;generalize wr.alloc _=W2 at H2⊢;generalize wr.heap.size=Q at H2⊢;clear a0 a1 a2 p0 p1 H1 q0 cj;obtain⟨⟨a0,a1,a2⟩,_⟩:=Hg (H2.b 0);obtain⟨⟨c0,c1⟩,_⟩:=Hm (H2.b 1);by_cases hs:x+y=L-1
  ·have q1:(x:Int)+(y:Int)=(L:Int)-1:=Gv
   have HA2:Hid (∀(k:Nat) (hk:k<(Hd f L).length),k<j+1->(Hd f L)[k].1+(Hd f L)[k].2=L-1):=Ah λk hk h=>by
    by_cases e:k=j
    ·subst e;rw[HX.out.1,HX.out.2];exact hs
    ·exact HA.out k hk Gv
   have xa:=Ah (H2.upto 1);clear H2 hs;go_wp2
   go_roundw
   case rel=>exact⟨j+1,by go_num,Gv,HA2,xa⟩
   case measure=>simp[intOf];omega
  ·have q1:¬(x:Int)+(y:Int)=(L:Int)-1:=Gv
   have HF:Hid (R=false):=Ah (by
    rw[<-HR.out];unfold zS;rw[Bool.and_eq_false_iff];refine .inl (List.all_eq_false.2 ⟨(Hd f L)[j],Ay _,?_⟩);rw[HX.out.1,HX.out.2];simpa using hs)
   go_wp2_with fail;refine Ai (v:= .tuple #[.bool false,Aa Ab 0]) (by simp[results,Tryz.results10,go_sem]) rfl ?_;exact⟨by rw[HF.out],H2.below⟩
 ·obtain rfl:j=nf:=Gv;have q0:¬(j:Int)<(j:Int):=Gv
  have fj:((Hd f L).all λp=>decide (p.1+p.2=L-1))=true:=by
   rw[List.all_eq_true];intro p hp;obtain⟨k,hk,rfl⟩:=Be.1 hp;rw[decide_eq_true_iff];exact HA.out k hk (oHx ir.out.hf)
  have HF:Hid (R=decide (nl=0)):=Ah (by
   rw[<-HR.out];unfold zS;rw[fj,Bool.true_and,ir.out.hl]
   cases Hs f L<;>simp)
  clear fj;by_cases h0:nl=0
  ·have q1:(nl:Int)=0:=Gv;have HF2:Hid (R=true):=Ah (by rw[HF.out,Ld h0]);go_wp2_with fail;refine Ai (v:= .tuple #[.bool true,Aa Ab 0]) (by simp[results,Tryz.results10,go_sem]) rfl ?_;exact⟨by rw[HF2.out],H1.below⟩
  ·have q1:¬(nl:Int)=0:=Gv;have HF2:Hid (R=false):=Ah (by rw[HF.out,Me h0]);go_wp2_with fail;refine Ai (v:= .tuple #[.bool false,Aa Ab 0]) (by simp[results,Tryz.results10,go_sem,h0]) rfl ?_;exact⟨by rw[HF2.out],H1.below⟩
end Go.Proofs.YtlgkpdfieaadaaaGreatDoor
namespace Go.Proofs.YtlgkpdfieaadaaaGreatDoor
open Go.RowKit Go.Shelf
attribute [local go_sem] Oper.semAt_some
def pE (x:Nat×Nat):Array Ak:=#[.agg #[Aa Ab (x.1:Int),Aa Ab (x.2:Int)]]
def xU (F:Fence) (n:Nat) (hf:F.fn 82) (LT:F.round=Ae) (hn:1<=n) (l Bs n₀ cap:Nat) (A:Option Cj) (zs:List (Nat×Nat)) (hlen:zs.length<=1000) (J Jx:List (Nat×Nat)->Aj->Prop) (W:Aj)
  (hJ:AbidesFrom W.heap.size J)
  (hY:∀pre x W1,J pre W1->pre.length<zs.length->YieldAt F (n-1) Dp l (pE x) W1 λe W'=>
   (e= .returned (.bool true)/\J (pre++[x]) W'/\Below n₀ W1 W')∨(e= .returned (.bool false)/\Jx (pre++[x]) W'))
  (XF:W.cell? ⟨Bs,0,Ae⟩=Af (Ad A zs.length cap)) (yg:n₀<=W.heap.size) (hc:∀j (hj:j<zs.length),∃b o,A=Af ⟨b,o,Ae⟩/\b<n₀/\W.cell? ⟨b,o+j*2,Ae⟩=Af (Aa Ab (zs[j].1:Int))/\W.cell? ⟨b,o+j*2+1,Ae⟩=Af (Aa Ab (zs[j].2:Int))) (h0:J [] W):
  CallsIn F n Dp 82 #[.func (.yield l) #[] #[],.pointer (Af ⟨Bs,0,Ae⟩)] W λe W'=>(∃v,e= .returned v)/\
   ((∃ys,ys=zs/\J ys W')∨(∃pre,pre<+:zs/\Jx pre W')):=by
 refine callsIn_of_wp Tryz.func82 rfl hf ?_ LT;simp only[Tryz.ntmps82,Fq,Eo,Cs,Nat.reduceAdd,Nat.reduceSub,Db,Da,List.push_toArray,De,Eu,Er]
 gi_wp2
 gi_loopw [7] (λi wr=>∃k:Nat,k<=zs.length/\i= Aa Ab k/\J (zs.take k) wr/\n₀<=wr.heap.size/\Below n₀ W wr)
  (λi _=>zs.length-(intOf i).toNat)
 case atStart=>exact⟨0,Gm _,rfl,h0,yg,Ag _ _⟩
 obtain⟨k,hk,rfl,w_,hnw,fp⟩:=hrel;by_cases ac:k<zs.length
 ·obtain⟨b,o,rfl,hb,c0,c1⟩:=hc k ac;have c0:=(fp.cell (p:=⟨b,o+k*2,Ae⟩) hb).trans c0;have c1:=(fp.cell (p:=⟨b,o+k*2+1,Ae⟩) hb).trans c1;have q0:(k:Int)<(zs.length:Int):=Gv;have JJ:=hJ _ _ _ Ae w_ (World.grownBy_alloc wr (.cells #[Aa Ab (zs[k].1:Int),Aa Ab (zs[k].2:Int)] 56) Ae) (by intro r e;cases e);obtain⟨fn,tmps,assign,body,hy,hR⟩:=hY _ zs[k] _ JJ (by rw[List.length_take];omega);unfold pE at hy
  gi_wp2
  refine hR.mono ?_;have ug:zs.take k++[zs[k]]=zs.take (k+1):=(Bc ac).symm;rintro e W3 (⟨rfl,GQ,IB⟩|⟨rfl,xg⟩)
  ·rw[ug]at GQ;have de:Below n₀ wr W3:=((Ag n₀ wr).alloc hnw _).trans IB
   gi_wp2
   go_roundw
   case rel=>exact⟨k+1,Gv,by go_num,GQ,Bt hnw de.size,fp.trans de⟩
   case measure=>simp[intOf];omega
  ·rw[ug]at xg
   gi_wp2
   refine Ai (results_none rfl _ _ _) rfl ?_;exact⟨⟨_,rfl⟩,.inr ⟨_,List.take_prefix _ _,xg⟩⟩
 ·obtain rfl:k=zs.length:=Gv
  gi_wp2
  go_end0
  exact⟨⟨_,rfl⟩,.inl ⟨_,List.take_length,w_⟩⟩
def xV (A:Option Cj) (n c:Nat) (w:Aj):
  Al Dp 29 #[Ad A n c] w λe w'=>e= .returned (.func (.func 82) #[] #[.pointer (Af ⟨w.heap.size,0,Ae⟩)])/\w'=w.alloc (.cells #[Ad A n c] 37):=by
 go_in;go_wp2;go_ret;exact⟨rfl,rfl⟩
def mX (F:Fence) (n:Nat) (hf:F.fn 82) (LT:F.round=Ae) (hn:1<=n) (Bs n₀ cap:Nat) (A:Option Cj) (zs:List (Nat×Nat)) (hlen:zs.length<=1000) (w:Aj) (XF:Bs<w.heap.size) (yg:n₀<=w.heap.size)
  (hc:w.cell? ⟨Bs,0,Ae⟩=Af (Ad A zs.length cap)) (hI:∀j (hj:j<zs.length),∃b o,A=Af ⟨b,o,Ae⟩/\b<n₀/\w.cell? ⟨b,o+j*2,Ae⟩=Af (Aa Ab (zs[j].1:Int))/\w.cell? ⟨b,o+j*2+1,Ae⟩=Af (Aa Ab (zs[j].2:Int))):
  SeqStopsK F n Dp 82 #[.pointer (Af ⟨Bs,0,Ae⟩)] pE (Below n₀) (λys=>ys=zs) (λpre=>pre<+:zs) zs.length w:=λl J Jx W hW hJ _ hY h0=>
 xU F n hf LT hn l Bs n₀ cap A zs hlen J Jx W hJ hY ((hW.cell (p:=⟨Bs,0,Ae⟩) XF).trans hc) (Bt yg hW.size) (λj hj=>by
  obtain⟨b,o,rfl,hb,c0,c1⟩:=hI j hj;exact⟨b,o,rfl,hb,(hW.cell (p:=⟨b,o+j*2,Ae⟩) (by show b<_;omega)).trans c0,(hW.cell (p:=⟨b,o+j*2+1,Ae⟩) (by show b<_;omega)).trans c1⟩) h0
end Go.Proofs.YtlgkpdfieaadaaaGreatDoor
namespace Go.Proofs
open Go.Shelf Go.RowKit
def Tryz.laysSortP_ren:Go.Shelf.Ren:=⟨fun|6=>33|15=>85|14=>84|28=>149|29=>150|20=>141|21=>142|22=>143|23=>144|24=>145|25=>146|26=>147|27=>148|46=>188|47=>189|48=>190|49=>191|50=>192|57=>241|n=>n,fun|22=>37|24=>56|25=>105|3=>3|39=>176|0=>0|53=>251|55=>253|4=>4|46=>245|45=>244|50=>208|5=>5|9=>9|66=>307|70=>109|76=>369|77=>225|n=>n,fun|n=>n⟩
open Tryz in
def Tryz.laysSortP:Go.Proofs.SlLaysF0.n6 Dp Tryz.laysSortP_ren:={
 mixed:=Gx,f6:=lyb func33,f14:=lyb func84,f15:=lyf func85,f20:=lyb func141,f21:=lyb func142,f22:=lyb func143,f23:=lyb func144,f24:=lyb func145,f25:=lyb func146,f26:=lyb func147,f27:=lyb func148,f28:=lyf func149,f29:=lyf func150,f46:=lyb func188,f47:=lyf func189,f48:=lyf func190,f49:=lyb func191,f50:=lyb func192,f57:=lyb func241,t0:=underlying0,a0:=isAgg0,z0:=sizeOf0,v0:=zeroValue0,t3:=underlying3,a3:=isAgg3,z3:=sizeOf3,v3:=zeroValue3,t4:=underlying4,a4:=isAgg4,z4:=sizeOf4,v4:=zeroValue4,t5:=underlying5,a5:=isAgg5,z5:=sizeOf5,v5:=zeroValue5,t9:=underlying9,a9:=isAgg9,z9:=sizeOf9,v9:=zeroValue9,t22:=underlying37,a22:=isAgg37,z22:=sizeOf37,v22:=zeroValue37,t25:=underlying105,a25:=isAgg105,z25:=sizeOf105,v25:=zeroValue105,t39:=underlying176,a39:=isAgg176,z39:=sizeOf176,v39:=zeroValue176,t45:=underlying244,a45:=isAgg244,z45:=sizeOf244,v45:=zeroValue244,t46:=underlying245,a46:=isAgg245,z46:=sizeOf245,v46:=zeroValue245,t50:=underlying208,a50:=isAgg208,z50:=sizeOf208,v50:=zeroValue208,t53:=underlying251,a53:=isAgg251,z53:=sizeOf251,v53:=zeroValue251,t55:=underlying253,a55:=isAgg253,z55:=sizeOf253,v55:=zeroValue253,t66:=underlying307,a66:=isAgg307,z66:=sizeOf307,v66:=zeroValue307,t70:=underlying109,a70:=isAgg109,z70:=sizeOf109,v70:=zeroValue109,t76:=underlying369,a76:=isAgg369,z76:=sizeOf369,v76:=zeroValue369,t77:=underlying225,a77:=isAgg225,z77:=sizeOf225,v77:=zeroValue225}
def Tryz.laysCmpI_ren:Go.Shelf.Ren:=⟨fun|5=>35|7=>86|n=>n,fun|22=>3|3=>3|4=>4|n=>n,fun|n=>n⟩
open Tryz in
def Tryz.laysCmpI:Go.Proofs.SlLaysC2.n5 Dp Tryz.laysCmpI_ren:={
 mixed:=Gx,f5:=lyb func35,f7:=lyb func86,t3:=underlying3,a3:=isAgg3,z3:=sizeOf3,v3:=zeroValue3,t4:=underlying4,a4:=isAgg4,z4:=sizeOf4,v4:=zeroValue4,t22:=underlying3,a22:=isAgg3,z22:=sizeOf3,v22:=zeroValue3}
end Go.Proofs
namespace Go.Proofs.YtlgkpdfieaadaaaGreatDoor
open Go.RowKit Go.Sort
variable {w:Aj} {g n O m c:Nat} {os:Array Obj}
def As6 (x:Nat×Nat):List Ak:=[Aa Ab (x.1:Int),Aa Ab (x.2:Int)]
def cfP (x y:Nat×Nat):Int:=Lib.compareInt (x.1:Int) (y.1:Int)
def ltP (x y:Nat×Nat):ltOf cfP x y=decide (x.1<y.1):=by
 unfold ltOf cfP Lib.compareInt;by_cases h1:(x.1:Int)<(y.1:Int)
 ·simp[h1];omega
 ·by_cases h2:(y.1:Int)<(x.1:Int)<;>(simp[h1,h2];omega)
def Ch6:SWO (ltOf cfP) where
 irrefl x:=by rw[ltP];simp
 trans x y z h1 h2:=by rw[ltP]at*;simp at*;omega
 ntrans x y z h1 h2:=by rw[ltP]at*;simp at*;omega
def Bi8 (l:List (Nat×Nat)):∀(j:Nat) (hj:j<l.length),(Ki l)[j*2]? =Af (nV l[j].1)/\(Ki l)[j*2+1]? =Af (nV l[j].2):=by
 induction l with
 |nil=>intro j hj;exact absurd hj (Nat.not_lt_zero _)
 |cons p r ih=>
  intro j hj
  cases j with
  |zero=>exact⟨rfl,rfl⟩
  |succ j=>
   have:=ih j (by simpa using hj);rw[show(j+1)*2=j*2+2 by omega];exact this
def oQ (l:List (Nat×Nat)):flatK As6 2 l.toArray=(Ki l).toArray:=by
 refine ext_get! (by simp[Re]) λt ht=>?_;have U2:t<l.length*2:=by simpa using ht
 have hj:t/2<l.length:=Gv;rw[get_flatK _ _ _ t (by simpa using U2),getElem!_pos l.toArray (t/2) (by simpa using hj)];have hg:=Bi8 l (t/2) hj;have hl:t<(Ki l).toArray.size:=by simp[Re];omega
 rw[getElem!_pos _ t hl];simp only[List.getElem_toArray];have h2:(Ki l)[t]? =Af ((Ki l)[t]'(by simpa using hl)):=Aw _;rcases Nat.mod_two_eq_zero_or_one t with e|e
 ·have e1:t/2*2=t:=Gv;rw[e1,h2]at hg;rw[e,Option.some.inj hg.1];rfl
 ·have e1:t/2*2+1=t:=Gv;rw[e1,h2]at hg;rw[e,Option.some.inj hg.2];rfl
def nZ (x y:Nat×Nat) (W:Aj):Al Dp 34 #[.agg #[Aa Ab (x.1:Int),Aa Ab (x.2:Int)],.agg #[Aa Ab (y.1:Int),Aa Ab (y.2:Int)]] W λe w'=>e= .returned (Aa Ab (cfP x y))/\∃q os',w'=grow (W.drewN q) os':=by
 have tz:=λW'=>AnyG.cmp_Compare_int Tryz.laysCmpI (x.1:Int) (y.1:Int) W';change∀W',Al Dp 35 _ _ _ at tz;unfold cfP;generalize Lib.compareInt (x.1:Int) (y.1:Int)=r at tz⊢;go_in;go_wp2_with (go_at_call 35;refine(tz _).mono ?_;rintro e w' ⟨rfl,rfl⟩);go_ret;exact⟨rfl,0,_,by rw[alloc_eq_grow,alloc_eq_grow,grow_grow];rfl⟩
def lO {cur:Array Ak} {e:Ck} {fr:Nat×Nat} (d:Array Ak) (hb:w.heap[g]? =Af (.cells cur e fr)):
  (grow (putRow id (Sort.ahead w n) g 0 d) os).heap[g]? =Af (.cells (putCells id 0 d cur) e fr):=by
 have hg:g<w.heap.size:=(Au.1 hb).1;rw[heap_grow_old _ _ (by simpa using hg)];simp[putRow,mapBlock,Sort.ahead,Dg,hb,onCells]
def dA (d:Array Ak):w.grownBy (grow (putRow id (Sort.ahead w n) g 0 d) os) (Af g):=by
 refine⟨rfl,rfl,rfl,Gy,λk hk hne=>?_⟩;rw[heap_grow_old _ _ (by simpa using hk)];have:g≠k:=λe=>hne (by rw[e]);simp[putRow,mapBlock,Sort.ahead,Dg,this]
def gQ (cur:Array Ak) (ts:List Ak) (h:ts.length<=cur.size):(putCells id 0 ts.toArray cur).toList.take ts.length=ts:=by
 apply List.ext_getElem?;intro j;by_cases hj:j<ts.length
 ·rw[List.getElem?_take_of_lt hj,Array.getElem?_toList];simp[putCells,hj,show j<cur.size by omega]
 ·rw[List.getElem?_take_eq_none Gv,List.getElem?_eq_none Gv]
def Bx4 (w:Aj):(isAgg 56).run Dp w= .ok true w:=Gx
def Cf7 (w:Aj):(Go.sizeOf 56).run Dp w= .ok 2 w:=Gx
def Ch2 (blk off size:Nat) (w:Aj):CmpLays Dp 34 #[] As6 2 cfP blk off size w:=
 λ_ _ _ _ x y=>nZ x y _
def Al7 {B:Option Cj} (l:List (Nat×Nat)) (w:Aj) (h:w.ownsRow O 56 2 (Ad B m c) m (Ki l)) (hm:0<m) (OC:m<=1000):
  Al Dp 33 #[Ad B m c,.func (.func 34) #[] #[]] w λe w'=>e= .returned (.tuple #[])/\∃l',l'.Perm l/\l'.Pairwise (λp q=>p.1<=q.1)/\w'.ownsRow O 56 2 (Ad B m c) m (Ki l')/\w.grownBy w' (Value.slice B m c).ownBlock:=by
 have hl:l.length=m:=by have:=h.1;rw[Re]at this;omega
 rcases h.2 with⟨h0,h1⟩|⟨g,cap,cur,r1,r2,r3,r4,r5,r6,r7⟩
 ·omega
 ·obtain⟨rfl,rfl⟩:B=Af ⟨g,0,Ae⟩/\c=cap:=by simpa using r1
  have hH:HoldsK As6 2 w g 0 l.toArray:=by
   unfold HoldsK;rw[oQ];intro j hj;refine⟨?_,by simp[World.frozen?,r3]⟩;have AX:j<(Ki l).length:=by simpa using hj
   rw[Bu,Bz _ _ j cur 56 (0,0) r3,getElem!_pos _ j hj];have h2:(cur.toList.take (m*2))[j]? =(Ki l)[j]? :=by rw[r7]
   rw[List.getElem?_take_of_lt (by rw[Re]at AX;omega),Array.getElem?_toList]at h2;rw[h2,Aw AX];rfl
  have eg:∀args w,(callFunc 34 args).run Dp w= .ok (.enter 34 args) w:=enters_of Tryz.func34 Gx rfl;have tz:=AnyQ.slices_SortFunc Tryz.laysSortP 2 Bx4 Cf7 As6 (λ_=>rfl) (λx v hv=>by simp[As6]at hv;rcases hv with rfl|rfl<;>rfl) cfP Ch6 34 #[] g 0 c l.toArray w eg (Ch2 g 0 _ w) hH (Au.1 r3).1 Hv;simp only[Fq,hl]at tz;refine tz.mono ?_;rintro e w' ⟨rfl,d',n,os,hp,hs,rfl⟩;obtain⟨p1,p2,p3⟩:=hp;have hd:d'.size=m:=by rw[p1];simpa using hl
  have hd':d'.toList.toArray=d':=Gy;refine⟨rfl,d'.toList,?_,?_,?_,?_⟩
  ·have e1:d'.extract 0 m=d':=by rw[<-hd];simp
   have e2:l.toArray.extract 0 m=l.toArray:=by rw[<-hl];simp
   rw[e1,e2]at p3;simpa using p3
  ·rw[List.pairwise_iff_getElem];intro i j hi hj FB;have uo:i<d'.size:=by simpa using hi
   have AX:j<d'.size:=by simpa using hj
   have:=hs i j (Gm _) FB Gv;rw[ltP,Rt,getElem!_pos d' i uo,getElem!_pos d' j AX]at this;simp only[Array.getElem_toList];omega
  ·unfold sortWorldK putRowK;rw[<-hd',oQ];have hlen:(Ki d'.toList).length=m*2:=by rw[Re];simp[hd]
   exact⟨by simpa using hlen,.inr ⟨g,c,_,rfl,r2,lO _ r3,r4,r5,by simp[putCells,r6],by rw[<-hlen];exact gQ cur _ (by rw[hlen,r6];exact Fu _ r4)⟩⟩
  ·exact dA _
end Go.Proofs.YtlgkpdfieaadaaaGreatDoor
namespace Go.Proofs.YtlgkpdfieaadaaaGreatDoor
open Go.RowKit Go.Shelf
variable {fl pre:List (Nat×Nat)} {x:Nat×Nat} {W W':Aj}
attribute [local go_sem] Oper.semAt_some
def Tp (fl pre:List (Nat×Nat)):List (Nat×Nat):=pre.filter λp=> !inF fl p.1
def Al2 (h:inF fl x.1=false):Tp fl (pre++[x])=Tp fl pre++[x]:=by simp[Tp,h]
def wU (h:inF fl x.1=true):Tp fl (pre++[x])=Tp fl pre:=by simp[Tp,h]
def dB {B:Nat} (hb:Below W.heap.size W W'):KeepsFrom B W W':=
 ⟨hb.size,λk _ _ hk _=>(hb.block k (Au.1 hk).1).trans hk⟩
def Bu2 (f:Nat->Option Nat) (L:Nat) (w:Aj) (e:Ending) (w':Aj):Prop:=∃A m,∃l:List (Nat×Nat),e= .returned (.tuple #[Ad A m m,Aa Ab 0])/\m=l.length/\Rd w' A 2 m (Ki l)/\l.Perm (dF f L)/\l.Pairwise (λp q=>p.1<=q.1)/\Below w.heap.size w w'
def Bi9 (l:List (Nat×Nat)):∀u∈Ki l,u.oneCell'=true:=by
 intro u hu;obtain⟨p,_,hp⟩:=List.mem_flatMap.1 hu;simp only[Bk,Dv,or_false]at hp;rcases hp with rfl|rfl<;>rfl
def mP (f:Nat->Option Nat) (L:Nat) (hN:Nc f L) (hL1:1<=L) (hL:L<=64) (fA lA:Option Cj) (nf fc nl lc:Nat) (w:Aj) (hB:BAt w f L fA lA nf fc nl lc):
  Al Dp 11 #[.agg #[L,Ad fA nf fc,Ad lA nl lc]] w (Bu2 f L w):=by
 have RC:nf<=64:=by have h1:=hB.hf;have h2:=Pe f L;omega
 have ky:nl<=64:=by have h1:=hB.hl;have h2:=Tf f L;omega
 have ir:=Ah hB;have DZ:=Ah hN;clear hB hN;have H:=(Bx.start w).new #[L,Ad fA nf fc,Ad lA nl lc] 40 rfl;refine(callsIn_wide (n:=9)).1 (callsIn_of_wp_marks Tryz.func11 rfl trivial ?_ rfl);simp only[Tryz.ntmps11,Fq,Eo,Cs,Nat.reduceAdd,Nat.reduceSub,Db,Da,List.push_toArray,De,Eu,Er];refine wpIn_wide.2 ?_;go_upto_region 1 with fail;generalize w.alloc _=W at H⊢;obtain⟨N,ct⟩:=Tw w.heap.size;rw[<-ct.out]at H⊢;obtain⟨⟨a0,a1,a2⟩,_⟩:=Hg (H.b 0);go_wp2_with fail;refine(dS f L DZ.out hL1 hL fA lA nf fc nl lc _ (ir.out.below H.below)).mono ?_;rintro e w2 ⟨rfl,hb⟩;have H2:=H.call hb;clear a0 a1 a2 hb H;obtain⟨⟨a0,a1,a2⟩,_⟩:=Hg (H2.b 0);go_wp2_with fail;refine(Ar9 fA nf fc (Ki (Hd f L)) _ ir.out.af (ir.out.rf.below H2.below) (Bi9 _) Gv).mono ?_;rintro e w3 ⟨v,rfl,aa,hb⟩;obtain⟨B0,c9,rfl,K1,jb⟩:=Hy aa;have H3:=H2.call hb;obtain⟨M,hM⟩:=ez w2.heap.size;rw[<-hM]at aa;have lg:M<=w3.heap.size:=by rw[hM];exact hb.size
 have LK:N<M:=by rw[hM];exact H2.lt 0 rfl
 have p':w.heap.size<=M:=by rw[hM];exact H2.below.size
 clear a0 a1 a2 hb H2 hM;have HO:=Ah aa;clear aa;obtain⟨⟨a0,a1,a2⟩,_⟩:=Hg (H3.b 0);go_wp2_with fail;have PP:=Ah H3
 have jt:Hid (∀(X1:Array Ak) (t1:Ck),∀x∈[(N,X1,t1)],x.1<M):=Ah (by
  intro X1 t1 x hx;simp only[Bk,Dv,or_false]at hx;subst hx;exact LK)
 have uz:=Ah p';obtain⟨i0,ep,dp,ap,bw⟩:=info_parts lT;have fx:=Ah ep;have uj:=Ah dp;have pj:=Ah ap;have ki:=Ah bw;clear ep dp ap bw a0 a1 a2 H3;have HO:Hid (w3.ownsRow M 56 2 (Ad B0 nf c9) nf (Ki (Hd f L++((Hs f L).take 0).map λn=>(n,n)))):=Ah (by simpa using HO.out)
 go_loopw [5,21] (λs5 PG wr=>∃(k m c:Nat) (B:Option Cj),PG= Aa Ab k/\s5= Ad B m c/\k<=nl/\Hid (m=nf+k)/\M<=wr.heap.size/\Hid (wr.ownsRow M 56 2 (Ad B m c) m (Ki (Hd f L++((Hs f L).take k).map λn=>(n,n))))/\Hid (Bx w [(N,#[Aa Ab L,Ad fA nf fc,Ad lA nl lc],40)] wr)) (λ_ PG _=>nl-(intOf PG).toNat)
 case atStart=>exact⟨0,nf,c9,B0,rfl,rfl,Gv,Ah Gv,lg,HO,PP⟩
 obtain⟨k,m,c,B,rfl,rfl,hk,SH,kx,HO,HH⟩:=hrel;clear PP lg;have H1:=HH.out;by_cases ac:k<nl
 ·have q0:(k:Int)<(nl:Int):=Gv;have be:k<(Hs f L).length:=oHx ir.out.hl;obtain⟨b,o,rfl,cj,p0⟩:=uU (ir.out.rl.below H1.below) be;obtain⟨x,hx⟩:=ey ((Hs f L)[k]);rw[hx]at p0
  have HE:Hid (Ki (Hd f L++((Hs f L).take k).map λn=>(n,n))++[Aa Ab (x:Int),Aa Ab (x:Int)]=Ki (Hd f L++((Hs f L).take (k+1)).map λn=>(n,n))):=Ah (by
   rw[Bc be,Ez,<-Bj,hx];exact(Sy _ (x,x)).symm)
  clear hx;obtain⟨v',w7,hr,ak,hg⟩:=Hw (P:=Dp) (wr.alloc (.cells #[x,x] 56)) M 37 37 56 i0 _ 2 16 Tryz.underlying37 fx.out uj.out pj.out ki.out rfl Gv (Ad B m c) m _ (HO.out.alloc _) (Af ⟨wr.heap.size,0,Ae⟩) 1 1 [Aa Ab x,Aa Ab x] (by simp[Value.oneCell']) (Qh _ 1 2 rfl rfl) Gy (oHx SH.out) Gv Hv;have dc:Below M wr w7:=((Ag M wr).alloc kx _).grown hg Hv (λq hq=>(HO.out.lt q hq).1);obtain⟨A',c',rfl,KA,JP⟩:=Hy ak;rw[HE.out]at ak;have ex:=Ah (H1.keepM (jt.out _ _) uz.out dc);have JB:Hid (M<=w7.heap.size):=Ah (Bt kx dc.size);have HR:=Ah hr;have HO7:=Ah ak;clear hr ak hg dc H1
  as_aux_lemma=>
  go_wp2_with (at_builtin;refine Lib.wpList_append_run _ rfl _ _ _ _ rfl _ _ rfl rfl _ _ HR.out ?_);go_wp2
  go_roundw
  case rel=>exact⟨k+1,m+1,c',A',by go_num,rfl,Gv,Ah (by rw[SH.out];omega),JB.out,HO7,ex⟩
  case measure=>simp[intOf];omega
 ·obtain rfl:k=nl:=Gv;have q0:¬(k:Int)<(k:Int):=Gv;rw[ir.out.hl,List.take_length]at HO;have HO:Hid (wr.ownsRow M 56 2 (Ad B m c) m (Ki (Su f L))):=HO
  obtain rfl:m=(Su f L).length:=by
   have h1:=HO.out.1;rw[Re]at h1;omega
  have hm48:(Su f L).length<=128:=oHx SH.out;clear hk ac q0;go_upto_region 11 with fail;obtain⟨O,hO⟩:=ez wr.heap.size;have hMO:M<=O:=by rw[hO];exact kx
  have y_:N<O:=Nat.lt_of_lt_of_le LK hMO
  have Z5:Hid (∀b o,0<(Su f L).length->B=Af ⟨b,o,Ae⟩->b<O):=Ah λb o h0 e=>by
   obtain⟨b',o',e',hb',_⟩:=Rf (Rd.of_own HO.out) h0;rw[e]at e';obtain⟨rfl,_⟩:b=b'/\o=o':=by simpa using e'
   omega
  have bO:Boxed (wr.alloc (.cells #[Ad Ae 0 0] 37)) O 37 (Ad Ae 0 0):=by rw[hO];exact Boxed.new wr _ _
  have I6:(wr.alloc (.cells #[Ad Ae 0 0] 37)).heap.size=O+1:=by rw[hO];simp
  have au:=HO.out.alloc (.cells #[Ad Ae 0 0] 37);have H2:=H1.other (.cells #[Ad Ae 0 0] 37);rw[<-hO];generalize wr.alloc _=U at bO I6 au H2⊢;clear hO kx H1 HH HO;go_wp2_with fail;refine(xV B (Su f L).length c _).mono ?_;rintro e w8 ⟨rfl,i'⟩;rw[I6];have bV:Boxed w8 (O+1) 37 (Ad B (Su f L).length c):=by rw[i',<-I6];exact Boxed.new U _ _
  have bO8:Boxed w8 O 37 (Ad Ae 0 0):=by rw[i'];exact bO.alloc _
  have DM:w8.heap.size=O+2:=by rw[i',World.size_alloc,I6]
  have BZ:w8.ownsRow M 56 2 (Ad B (Su f L).length c) (Su f L).length (Ki (Su f L)):=by rw[i'];exact au.alloc _
  have H8:=H2.other (.cells #[Ad B (Su f L).length c] 37);rw[<-i']at H8;clear i' bO I6 au H2;go_wp2_with fail;obtain⟨fl,jq⟩:=ez (Hd f L);have KV:=Ah jq
  have IS:∀j (hj:j<(Su f L).length),∃b o,B=Af ⟨b,o,Ae⟩/\b<O/\w8.cell? ⟨b,o+j*2,Ae⟩=Af (Aa Ab ((Su f L)[j].1:Int))/\w8.cell? ⟨b,o+j*2+1,Ae⟩=Af (Aa Ab ((Su f L)[j].2:Int)):=by
   intro j hj;obtain⟨b,o,e,_,c0,c1⟩:=Rf (Rd.of_own BZ) hj;exact⟨b,o,e,Z5.out b o Gv e,c0,c1⟩
  clear jq
  refine wpIn_wide.1 (wpIn_rangeFunc_ownH (F:=Fence.wide) (n:=9) rfl He (gf:=82) (lb:=#[.pointer (Af ⟨O+1,0,Ae⟩)]) rfl trivial (enters_of Tryz.func82 Gx rfl)
   (mX Fence.wide (9-1) trivial rfl He (O+1) O c B (Su f L) Gv w8 Gv Gv bV.cell IS) belowK_t (belowK_b Gv) (Ag _ _) (λ_=>rfl)
   (λpre W=>(∃v,Boxed W O 37 v/\W.ownsRow O 56 2 v (Tp fl pre).length (Ki (Tp fl pre))/\True)/\Below O w8 W)
   (λ_ _ _=>False)
   (OwnFrom.and (Own.from (holdsRow_own O O 37 56 2 (λpre=>(Tp fl pre).length) (λpre=>Ki (Tp fl pre)) (λ_ _=>True)) _) (ownFrom_below Gv Gv))
   (λ_ _ _ _ _ hs _ _=>hs)
   ⟨⟨_,bO8,World.ownsRow_nil _ _ _ _,trivial⟩,Ag _ _⟩
   (λx a' W=>∃Bx,O+2<=Bx/\W.heap[Bx]? =Af (.cells #[Aa Ab (x.1:Int),Aa Ab (x.2:Int)] 56 (0,0))/\a'={tmps:=#[.agg #[L,Ad fA nf fc,Ad lA k lc],.pointer (Af ⟨N,0,Ae⟩),Ad Ae 0 0,Aa Ab 0,Aa Ab 0,Ad B (Su f L).length c,undef,u7,.pointer (Af ⟨O,0,Ae⟩),.pointer (Af ⟨Bx,0,Ae⟩),.agg #[L,Ad fA nf fc,Ad lA k lc],Aa Ab 0,Aa Ab 0,.bool false,undef,.pointer (Af ⟨N,1,Ae⟩),Ad fA nf fc,Ad B0 nf c9,.pointer (Af ⟨N,2,Ae⟩),Ad lA k lc,Aa Ab k,Aa Ab k,.bool false,u23,u24,u25,u26,u27,u28,u29,u30,u31,Ad B (Su f L).length c,.func (.func 82) #[] #[.pointer (Af ⟨O+1,0,Ae⟩)],.agg #[Aa Ab (x.1:Int),Aa Ab (x.2:Int)],undef,undef,undef,undef,undef,undef,undef,undef,undef,undef,undef,undef,undef],defers:=[]})
   (λx a' _ A' B' row hs hg hr=>by
    obtain⟨Bx,h1,h2,h3⟩:=hs;refine⟨Bx,h1,(hg.block Bx (Au.1 h2).1 λe=>?_).trans h2,h3⟩;obtain⟨_,o,ho,hc⟩:=hr Bx e.symm;rw[h2]at ho
    cases ho;cases hc) ?assign ?body ?done ?stop)
  case assign=>
   rintro l pre x W K hi hK;obtain⟨⟨v,hv,ae,_⟩,hB⟩:=hi;unfold pE
   gi_wp2
   refine hK _ _ ((KeepsOthers.alloc W _).from _) ((Ag O W).alloc (oHx hB.size) _) ⟨⟨v,hv.alloc _,ae.alloc _,trivial⟩,hB.alloc (oHx hB.size) _⟩ ⟨W.heap.size,by have:=hB.size;omega,Ca W _,rfl⟩
  case body=>
   rintro l pre x a' W hl ⟨r,hr⟩ ⟨⟨v,hv,ae,_⟩,hB⟩ ⟨Bx,CW,hX,rfl⟩ ac;have hc:=hv.cell;have UJ:=hv.frozen;have hN0:=(hB.block N y_).trans (H8.b 0);obtain⟨⟨b0,b1,b2⟩,_⟩:=Hg hN0;obtain⟨⟨x0,x1⟩,_⟩:=Hm hX;have de:Below w.heap.size w W:=H8.below.trans (hB.mono Gv);have OW:=Al0 fA (Hd f L) nf fc x.1 x.2 Bx W ir.out.hf (ir.out.rf.below de) Gv x0 x1;rw[<-KV.out]at OW;have HSEC:=Ah OW;clear OW;have BK:O+2<=W.heap.size:=oHx hB.size;have dr:(Tp fl pre).length<=pre.length:=List.length_filter_le _ _
   gi_wp2
   refine⟨trivial,(CallsIn.inRound l (callsIn_wide.2 HSEC.out)).mono ?_⟩;rintro e w9 ⟨rfl,bg⟩;have RH:Boxed w9 O 37 v:=(bg.block O hv.lt).trans hv;have bn:=Hz ae (Am _) bg;have hX9:=(bg.block Bx (Au.1 hX).1).trans hX;have um:O<=w9.heap.size:=oHx bg.size;have NF:Below O W w9:=bg.mono Gv;have ur:KeepsFrom w8.heap.size W w9:=dB bg;obtain⟨⟨y0,y1⟩,_⟩:=Hm hX9;have hc9:=RH.cell;have hf9:=RH.frozen;clear hc UJ b0 b1 b2 x0 x1 hN0
   cases fy:inF fl x.1 with
   |true=>
    gi_wp2
    exact⟨ur,NF,⟨v,RH,by rw[wU fy];exact bn,trivial⟩,hB.trans NF⟩
   |false=>
    gi_wp2_with (gi_at_builtin;refine wpListIn_append_own _ rfl _ _ 37 rfl O 56 i0 (.agg #[Aa Ab 0,Aa Ab 0]) 2 16 Tryz.underlying37 fx.out uj.out pj.out ki.out rfl He _ _ _ rfl (bn.alloc _) ⟨w9.heap.size,0,Ae⟩ 1 1 [Aa Ab (x.1:Int),Aa Ab (x.2:Int)] rfl rfl (Rd.allK (Qh _ 1 2 rfl rfl)) (by simp[Value.oneCell']) (by unfold maxLen;omega) Gv Hv ?_;intro v' on ak tn _;obtain⟨g',MQ,rfl⟩:=ownsRow_succ ak;obtain⟨lw,vt,gp,uq,aj⟩:=RH.appended He bn um (Am _) ak tn;have jy:=lw.cell;have BQ:=lw.frozen)
    exact⟨ur.trans (uq.from _),NF.trans aj,⟨_,vt,by rw[Al2 fy,List.length_append,Sy];exact gp,trivial⟩,(hB.trans NF).trans aj⟩
  case done=>
   rintro D ys W hD rfl ⟨⟨v,hv,ae,_⟩,hB⟩ hK;have OW:Tp fl (Su f L)=dF f L:=by unfold Tp dF;rw[KV.out]
   rw[OW]at ae;have xx:0<(dF f L).length:=List.length_pos_of_mem ((Ax3 DZ.out).2 ⟨show(0,oth f 0).1<L from hL1,Bd9,rfl⟩);have hsl:(dF f L).length<=128:=Bt (List.length_filter_le _ _) hm48;obtain⟨A9,k9,rfl,ur,hk9m⟩:=Hy ae;have hc:=hv.cell;have UJ:=hv.frozen;go_wp2_with fail;refine(Al7 (dF f L) _ ae xx Gv).mono ?_;rintro e on ⟨rfl,l',YK,AF,hrow',hg⟩;have U6:Boxed on O 37 (Ad A9 (dF f L).length k9):=hv.kept hg (hv.not_row He ae)
   have hK10:on.heap[D]? =Af (.deferred (Af [])):=(hg.block D (Au.1 hK).1 (λe=>by
    rcases ae.2 with⟨_,h0⟩|⟨g,_,_,r1,_,r3,_⟩
    ·omega
    ·rw[r1]at e;simp only[Value.ownBlock,Option.some.injEq]at e;rw[<-e,hK]at r3
     cases r3)).trans hK
   have gm:Below O W on:=aG hg ae (oHx hB.size);have K9:=U6.cell;clear hc UJ;go_wp2_with fail;refine(yK A9 _ k9 _ ur hk9m).mono ?_;rintro e DO ⟨rfl,jh⟩;go_wp2_with fail;have EM:=(jh.block D (Au.1 hK10).1).trans hK10;have AG:=ownsRow_putObj (Hz hrow' (Am _) jh) (.deferred Ae) EM rfl;have TN:O<=on.heap.size:=by have h1:=hB.size;have h2:=gm.size;omega
   have hwO:w.heap.size<=O:=Gv;have am:Below O w8 (DO.putObj D (.deferred Ae)):=((hB.trans gm).trans (jh.mono TN)).trans (belowK_b (n₀:=O) (w:=w8) Gv DO D _ _ hD EM rfl rfl);refine⟨Gy,.inl ⟨_,_,rfl,run_takeDeferred EM,?_⟩⟩;refine⟨.tuple #[Ad A9 (dF f L).length (dF f L).length,Aa Ab 0],by simp[results,Tryz.results11,go_sem],?_⟩;exact⟨A9,_,l',rfl,YK.length_eq.symm,Rd.of_own AG,YK,AF,H8.below.trans (am.mono hwO)⟩
  case stop=>
   rintro D c' pre W _ _ h _;exact h.elim
end Go.Proofs.YtlgkpdfieaadaaaGreatDoor
namespace Go.Proofs.YtlgkpdfieaadaaaGreatDoor
open Go.RowKit
variable {nf nl Q1 Q2 Q3 Q4 Q y n k k1 m:Nat} {w w' W:Aj} {fr rs is:List Ip} {P:Program} {d:DataW Unit} {l:List (String×DataW Unit)}
def LvB (f:Nat->Option Nat) (nf nl:Nat) (w:Aj) (e:Ending) (w':Aj):Prop:=∃fA lA,e= .returned (.tuple #[.agg #[Aa Ab 4,Ad fA nf nf,Ad lA nl nl],Aa Ab 0])/\BAt w' f 4 fA lA nf nf nl nl/\Below w.heap.size w w'
def Aw4 {f:Nat->Option Nat} {e:Ending} (h:Uv f 4 w e w') (h1:(Hd f 4).length=nf) (h2:(Hs f 4).length=nl):LvB f nf nl w e w':=by
 obtain⟨fA,lA,nf',nl',rfl,hB,-,hb⟩:=h;obtain rfl:nf'=nf:=hB.hf.trans h1;obtain rfl:nl'=nl:=hB.hl.trans h2;exact⟨fA,lA,rfl,hB,hb⟩
def fq:Nat->Nat->Option Nat:=λq=>flF ([fl0,fl1,fl2,fl0].getD q fl0)
def Bw8 {x y z u:Int} (h1:w.heap[Q1]? =Af (.cells #[x,y] 3 (0,0))) (h2:w.heap[Q2]? =Af (.cells #[Ad (Af ⟨Q1,0,Ae⟩) 2 2] 38 (0,0))) (h3:w.heap[Q3]? =Af (.cells #[z,u] 3 (0,0))) (h4:w.heap[Q4]? =Af (.cells #[Ad (Af ⟨Q3,0,Ae⟩) 2 2] 38 (0,0))):
  aA w (Af ⟨Q2,0,Ae⟩) (Af ⟨Q4,0,Ae⟩) [⟨Af ⟨Q1,0,Ae⟩,2,[x,y]⟩] [⟨Af ⟨Q3,0,Ae⟩,2,[z,u]⟩]:=by
 have hr:∀{Q:Nat} {a b:Int},w.heap[Q]? =Af (.cells #[a,b] 3 (0,0))->Xi w ⟨Af ⟨Q,0,Ae⟩,2,[a,b]⟩:=λ{Q a b} h=>⟨⟨rfl,λ_=>⟨Q,0,rfl,(Au.1 h).1,λi v hi=>by
  rw[Bu,Bz _ _ i _ _ _ h];simpa[Ir]using hi⟩⟩,(λe=>by cases e)⟩
 have hR:∀{R Q:Nat} {a b:Int},w.heap[R]? =Af (.cells #[Ad (Af ⟨Q,0,Ae⟩) 2 2] 38 (0,0))->w.heap[Q]? =Af (.cells #[a,b] 3 (0,0))->Ja w (Af ⟨R,0,Ae⟩) [⟨Af ⟨Q,0,Ae⟩,2,[a,b]⟩]:=λ{R Q a b} h hq=>⟨⟨rfl,λ_=>⟨R,0,rfl,(Au.1 h).1,λi v hi=>by
  rw[Bu,Bz _ _ i _ _ _ h]
  simpa[Ip.head]using hi⟩⟩,(λe=>by cases e),λr DK=>by
   obtain rfl:=List.mem_singleton.1 DK;exact hr hq⟩
 exact⟨hR h2 h1,hR h4 h3,Gy,Gy,λr DK=>by
  simp only[Er,Eu,Bk,Dv,or_false]at DK;rcases DK with rfl|rfl<;>simp⟩
def wL:List Int:=[1,2,3,4,5,6,7,0]
def Ch4:jR ((Ds 2).map λk=>(trR (Vs 7 4 k) [[3,2]],trR (Vs 7 4 k) [[1,4]])) px1 []=wL:=by decide+kernel
def Ch5:jR ((Ds 2).map λk=>(trR (Qs 7 2 2 k) [[3,2]],trR (Qs 7 2 2 k) [[1,4]])) (px1.take 2) (px1.drop 2)=wL:=by decide+kernel
def wG {a b c d:Int} (h:w.heap[Q]? =Af (.cells #[a,b,c,d] 56 (0,0))) {l:List (Nat×Nat)} (hl:Ki l=[Aa Ab a,Aa Ab b,Aa Ab c,Aa Ab d]):Rd w (Af ⟨Q,0,Ae⟩) 2 2 (Ki l):=
 ⟨by rw[hl];rfl,λ_=>⟨Q,0,rfl,(Au.1 h).1,λi v hi=>by
  rw[Bu,Bz _ _ i _ _ _ h];rw[hl]at hi;simpa using hi⟩⟩
def pW (w:Aj) (hQ:Qf w) (hT:Tn w):Al Dp 9 #[] w (Gz (.bool true) w):=by
 obtain⟨t1,m1,ws,I1⟩:=Xo (a:=2) (b:=1) He He (ovG 1);obtain⟨t2,m2,gp,I2⟩:=Xo (a:=2) (b:=2) He He (ovG 3);have HQ:=Zz w (λw' hb=>show Qf w'/\Tn w' from⟨hQ.below hb,hT.below hb⟩);have SE:=Zz w (λw' hb=>show Al Dp 6 #[.agg #[Aa Ac 1,Aa Ac 0,Aa Ac 1]] w' (sL (Sd 1 0 1) t1 w')from lN 1 0 1 He He He t1 ws w' (hQ.below hb) (hT.below hb));have BB:=Zz w (λw' hb=>show Al Dp 6 #[.agg #[Aa Ac 1,Aa Ac 1,Aa Ac 3]] w' (sL (Sd 1 1 3) t2 w')from lN 1 1 3 He He He t2 gp w' (hQ.below hb) (hT.below hb));rw[iO]at SE;rw[nP]at BB;obtain⟨B0,B1,B2,B3⟩:=Cc4 gp
 have fa:Hid (∀(q:Nat),q<4->∀(pA:Option Cj) (pc:Nat) (A:Option Cj) (cc:Nat) (W:Aj),AOk pA t2.cr.length pc->Rd W pA 3 t2.cr.length (crs t2.cr)->Ib W A t2.l->Qf W->Tn W->
   Al Dp 7 #[.agg #[Aa Ab t2.a,Aa Ab t2.b,Ad pA t2.cr.length pc,Aa Ac t2.root.t,Aa Ab t2.root.x,Aa Ab t2.root.y,Ad A t2.l.length cc],Aa Ac (q:Nat)] W (Uv (fq q) 4 W)):=Ah λq hq pA pc A cc W h1 h2 h3 h4 h5=>by
  have:q=0∨q=1∨q=2∨q=3:=Gv;rcases this with rfl|rfl|rfl|rfl
  ·exact yH I2 He He He B0 pA pc A cc W h1 h2 h3 h4 h5
  ·exact yH I2 He He He B1 pA pc A cc W h1 h2 h3 h4 h5
  ·exact yH I2 He He He B2 pA pc A cc W h1 h2 h3 h4 h5
  ·exact yH I2 He He He B3 pA pc A cc W h1 h2 h3 h4 h5
 have F':Hid (∀(pA:Option Cj) (pc:Nat) (A:Option Cj) (cc:Nat) (W:Aj),AOk pA t2.cr.length pc->Rd W pA 3 t2.cr.length (crs t2.cr)->Ib W A t2.l->Qf W->Tn W->
   Al Dp 7 #[.agg #[Aa Ab t2.a,Aa Ab t2.b,Ad pA t2.cr.length pc,Aa Ac t2.root.t,Aa Ab t2.root.x,Aa Ab t2.root.y,Ad A t2.l.length cc],Aa Ac 1] W (LvB (flF fl1) 2 0 W)):=Ah λpA pc A cc W h1 h2 h3 h4 h5=>(fa.out 1 He pA pc A cc W h1 h2 h3 h4 h5).mono λe w' h=>Aw4 h He He
 have oz:Hid (∀(pA:Option Cj) (pc:Nat) (A:Option Cj) (cc:Nat) (W:Aj),AOk pA t2.cr.length pc->Rd W pA 3 t2.cr.length (crs t2.cr)->Ib W A t2.l->Qf W->Tn W->
   Al Dp 7 #[.agg #[Aa Ab t2.a,Aa Ab t2.b,Ad pA t2.cr.length pc,Aa Ac t2.root.t,Aa Ab t2.root.x,Aa Ab t2.root.y,Ad A t2.l.length cc],Aa Ac 2] W (LvB (flF fl2) 2 0 W)):=Ah λpA pc A cc W h1 h2 h3 h4 h5=>(fa.out 2 He pA pc A cc W h1 h2 h3 h4 h5).mono λe w' h=>Aw4 h He He
 have J1:=Ah (Cn I1 (Ce6 I1 ws));have h0:Bx w [] w:=Bx.start w;clear ws gp I1 I2 hQ hT B0 B1 B2 B3;go_in;go_wp2_with fail;refine(BB.out w (Ag _ _)).mono ?_;rintro ee w1 ⟨cs,A1,rfl,mh,-,ci,-⟩;obtain⟨pA,pc,A2,cc,rfl,hA,hp,bo⟩:=mh.st.held;simp only[Eo,Cs,Bu,Nat.reduceAdd];obtain⟨T1,hT1⟩:=ey w1.heap.size;have H:=(h0.call ci).new #[Aa Ab t2.a,Aa Ab t2.b,Ad pA t2.cr.length pc,Aa Ac t2.root.t,Aa Ab t2.root.x,Aa Ab t2.root.y,Ad A2 t2.l.length cc] 33 hT1;have it:Below w1.heap.size w1 (w1.alloc (.cells #[Aa Ab t2.a,Aa Ab t2.b,Ad pA t2.cr.length pc,Aa Ac t2.root.t,Aa Ab t2.root.x,Aa Ab t2.root.y,Ad A2 t2.l.length cc] 33)):=(Ag _ _).alloc (Am _) _;have hp:=hp.below it;have bo:=bo.below it;clear mh h0 BB ci it;go_upto_region 2 with fail
 try rw[hT1]
 generalize w1.alloc _=W2 at H hp bo⊢;clear hT1;obtain⟨a0,a1,a2,a3,a4,a5,a6⟩:=Kg (H.b 0);go_wp2_with fail;have hq:=HQ.out _ H.below;refine(oz.out pA pc A2 cc W2 hA hp bo hq.1 hq.2).mono ?_;rintro ee w3 ⟨fA,lA,rfl,BJ,hb⟩;obtain⟨T3,I4⟩:=ey w3.heap.size;have H:=(H.call hb).new #[Aa Ab 4,Ad fA 2 2,Ad lA 0 0] 40 I4;have hb:=hb.trans ((Ag w3.heap.size w3).alloc (Am _) (.cells #[Aa Ab 4,Ad fA 2 2,Ad lA 0 0] 40)|>.mono hb.size);have BJ:=BJ.below ((Ag w3.heap.size w3).alloc (Am _) (.cells #[Aa Ab 4,Ad fA 2 2,Ad lA 0 0] 40));have hp:=hp.below hb;have bo:=bo.below hb;clear a0 a1 a2 a3 a4 a5 a6 hb hq oz;go_upto_region 3 with fail
 try rw[I4]
 generalize w3.alloc _=W4 at H hp bo BJ⊢;clear I4;obtain⟨a0,a1,a2,a3,a4,a5,a6⟩:=Kg (H.b 0);go_wp2_with fail;have hq:=HQ.out _ H.below;refine(F'.out pA pc A2 cc W4 hA hp bo hq.1 hq.2).mono ?_;rintro ee w5 ⟨gA,kA,rfl,CV,hb⟩;obtain⟨T5,hT5⟩:=ey w5.heap.size;have H:=(H.call hb).new #[Aa Ab 4,Ad gA 2 2,Ad kA 0 0] 40 hT5;have hb:=hb.trans ((Ag w5.heap.size w5).alloc (Am _) (.cells #[Aa Ab 4,Ad gA 2 2,Ad kA 0 0] 40)|>.mono hb.size);have CV:=CV.below ((Ag w5.heap.size w5).alloc (Am _) (.cells #[Aa Ab 4,Ad gA 2 2,Ad kA 0 0] 40));have hp:=hp.below hb;have bo:=bo.below hb;have BJ:=BJ.below hb;clear a0 a1 a2 a3 a4 a5 a6 hb hq F';go_upto_region 4 with fail
 try rw[hT5]
 generalize w5.alloc _=W6 at H hp bo BJ CV⊢;clear hT5;obtain⟨a0,a1,a2,a3,a4,a5,a6⟩:=Kg (H.b 0)
 have iu:=tG t2.a t2.b pA t2.cr.length pc t2.root.t t2.root.x t2.root.y A2 t2.l.length cc 4 fq W6 (λq w' R3 hb=>by
  have hq:=HQ.out _ (Up H.below hb);exact fa.out q R3 pA pc A2 cc w' hA (hp.below hb) (bo.below hb) hq.1 hq.2)
 have IT:Hid (Al Dp 19 #[.agg #[Aa Ab t2.a,Aa Ab t2.b,Ad pA t2.cr.length pc,Aa Ac t2.root.t,Aa Ab t2.root.x,Aa Ab t2.root.y,Ad A2 t2.l.length cc]] W6 (Gz (.tuple #[.agg #[Aa Ab 0,Aa Ab 2,Aa Ab 2,Aa Ab 0],Aa Ab 0]) W6)):=Ah iu;clear iu fa;go_wp2_with fail;refine IT.out.mono ?_;rintro ee w7 ⟨rfl,hb⟩;obtain⟨T7,I5⟩:=ey w7.heap.size;have H:=(H.call hb).new #[Aa Ab 0,Aa Ab 2,Aa Ab 2,Aa Ab 0] 77 I5;have hb:=hb.trans ((Ag w7.heap.size w7).alloc (Am _) (.cells #[Aa Ab 0,Aa Ab 2,Aa Ab 2,Aa Ab 0] 77)|>.mono hb.size);have BJ:=BJ.below hb;have CV:=CV.below hb;clear a0 a1 a2 a3 a4 a5 a6 hb IT hp bo hA;go_upto_region 5 with fail
 try rw[I5]
 generalize w7.alloc _=W8 at H BJ CV⊢;clear I5;have u_:Rd W8 fA 2 2 (Ki [(0,3),(1,2)]):=BJ.rf;have JI:Rd W8 gA 2 2 (Ki [(0,1),(2,3)]):=CV.rf;have g_:Hid (∀W,BAt W (flF fl2) 4 fA lA 2 2 0 0->Al Dp 10 #[.agg #[Aa Ab 4,Ad fA 2 2,Ad lA 0 0]] W (Gz (.tuple #[.bool true,Aa Ab 0]) W)):=Ah λW h=>vK (flF fl2) 4 Bw4 He He fA lA 2 2 0 0 W h
 have JF:Hid (∀W,BAt W (flF fl1) 4 gA kA 2 2 0 0->Al Dp 11 #[.agg #[Aa Ab 4,Ad gA 2 2,Ad kA 0 0]] W λe w'=>∃A,e= .returned (.tuple #[Ad A 2 2,Aa Ab 0])/\Rd w' A 2 2 (Ki [(0,1),(2,3)])/\Below W.heap.size W w'):=Ah λW h=>(mP (flF fl1) 4 Bw3 He He gA kA 2 2 0 0 W h).mono λe w' hh=>by
  obtain⟨A,m,l,rfl,hm,hr,IK,AF,hb⟩:=hh;have Y_:dF (flF fl1) 4=[(0,1),(2,3)]:=He;rw[Y_]at IK
  have hl:l=[(0,1),(2,3)]:=by
   have nm:=IK.length_eq
   match l,nm,IK,AF with
   |[p,q],_,IK,AF=>
    have hp:=IK.mem_iff.1 (List.mem_cons_self (a:=p) (l:=[q]));have hq:=IK.mem_iff.1 (List.mem_cons_of_mem p (List.mem_cons_self (a:=q) (l:=[])));have ca:=IK.symm.nodup He;simp only[Bk,Dv,or_false]at hp hq;simp only[List.pairwise_cons,Bk,Dv,or_false,forall_eq]at AF;rcases hp with rfl|rfl<;>rcases hq with rfl|rfl
    ·exact absurd ca He
    ·rfl
    ·exact absurd AF.1 He
    ·exact absurd ca He
  subst hl;obtain rfl:m=2:=hm;exact⟨A,rfl,hr,hb⟩
 obtain⟨⟨b0,b1,b2⟩,-⟩:=Hg (H.b 1);go_wp2_with fail;refine(g_.out _ BJ).mono ?_;rintro ee w9 ⟨rfl,hb⟩;have H:=H.call hb;have CV:=CV.below hb;have u_:=u_.below hb;have JI:=JI.below hb;clear hb b0 b1 b2 g_ BJ;obtain⟨⟨b0,b1,b2⟩,-⟩:=Hg (H.b 2);go_wp2_with fail;refine(JF.out _ CV).mono ?_;rintro ee on ⟨sA,rfl,E_,hb⟩;have H:=H.call hb;have u_:=u_.below hb;have JI:=JI.below hb;clear hb b0 b1 b2 JF CV;obtain⟨⟨b0,b1,b2⟩,-⟩:=Hg (H.b 1);obtain⟨⟨d0,d1,d2⟩,-⟩:=Hg (H.b 2);obtain⟨⟨c0,c1,c2,c3⟩,-⟩:=Jh (H.b 3);have heq4:∀W,(Gu 10000 77 (.agg #[Aa Ab 0,Aa Ab 2,Aa Ab 2,Aa Ab 0]) (.agg #[Aa Ab 0,Aa Ab 2,Aa Ab 2,Aa Ab 0])).run Dp W= .ok true W:=λW=>Gx;go_wp2_with fail;have oa:=(Ag (on).heap.size (on)).alloc (Am _) (.cells #[Aa Ab 0,Aa Ab 3,Aa Ab 1,Aa Ab 2] 56);have rz:=wG (Ca (on) (.cells #[Aa Ab 0,Aa Ab 3,Aa Ab 1,Aa Ab 2] 56)) (l:=[(0,3),(1,2)]) rfl;refine(aY fA (Af ⟨(on).heap.size,0,Ae⟩) [(0,3),(1,2)] 2 2 _ rfl (u_.below oa) rz He).mono ?_;rintro ee DO ⟨rfl,hb⟩;have H:=(H.other (.cells #[Aa Ab 0,Aa Ab 3,Aa Ab 1,Aa Ab 2] 56)).call hb;have hb:=Up oa hb;clear oa rz;have JI:=JI.below hb;have E_:=E_.below hb;clear hb b0 b1 b2 d0 d1 d2 c0 c1 c2 c3 u_;obtain⟨⟨b0,b1,b2⟩,-⟩:=Hg (H.b 1);obtain⟨⟨d0,d1,d2⟩,-⟩:=Hg (H.b 2);obtain⟨⟨c0,c1,c2,c3⟩,-⟩:=Jh (H.b 3);go_wp2_with fail;have oa:=(Ag (DO).heap.size (DO)).alloc (Am _) (.cells #[Aa Ab 0,Aa Ab 1,Aa Ab 2,Aa Ab 3] 56);have rz:=wG (Ca (DO) (.cells #[Aa Ab 0,Aa Ab 1,Aa Ab 2,Aa Ab 3] 56)) (l:=[(0,1),(2,3)]) rfl;refine(aY gA (Af ⟨(DO).heap.size,0,Ae⟩) [(0,1),(2,3)] 2 2 _ rfl (JI.below oa) rz He).mono ?_;rintro ee RP ⟨rfl,hb⟩;have H:=(H.other (.cells #[Aa Ab 0,Aa Ab 1,Aa Ab 2,Aa Ab 3] 56)).call hb;have hb:=Up oa hb
 clear oa rz;have E_:=E_.below hb;clear hb b0 b1 b2 d0 d1 d2 c0 c1 c2 c3 JI;obtain⟨⟨c0,c1,c2,c3⟩,-⟩:=Jh (H.b 3);have he4:=heq4;go_wp2_with fail;have oa:=(Ag (RP).heap.size (RP)).alloc (Am _) (.cells #[Aa Ab 0,Aa Ab 1,Aa Ab 2,Aa Ab 3] 56);have rz:=wG (Ca (RP) (.cells #[Aa Ab 0,Aa Ab 1,Aa Ab 2,Aa Ab 3] 56)) (l:=[(0,1),(2,3)]) rfl;refine(aY sA (Af ⟨(RP).heap.size,0,Ae⟩) [(0,1),(2,3)] 2 2 _ rfl (E_.below oa) rz He).mono ?_;rintro ee w13 ⟨rfl,hb⟩;have H:=(H.other (.cells #[Aa Ab 0,Aa Ab 1,Aa Ab 2,Aa Ab 3] 56)).call hb;have hb:=Up oa hb;clear oa rz;have H:=H.upto 0;clear hb c0 c1 c2 c3 E_ heq4 he4;go_upto_region 10 with fail;obtain⟨Q1,JN⟩:=ey w13.heap.size;have H:=((((H.new #[Aa Ab 3,Aa Ab 2] 3 JN).new #[Ad (Af ⟨Q1,0,Ae⟩) 2 2] 38 (N:=Q1+1) (by simp[JN])).new #[Aa Ab 1,Aa Ab 4] 3 (N:=Q1+1+1) (by simp[JN])).new #[Ad (Af ⟨Q1+1+1,0,Ae⟩) 2 2] 38 (N:=Q1+1+1+1) (by simp[JN])).new #[Ad (Af ⟨Q1+1,0,Ae⟩) 1 1,Ad (Af ⟨Q1+1+1+1,0,Ae⟩) 1 1] 61 (N:=Q1+1+1+1+1) (by simp[JN])
 try rw[JN]
 generalize ((((w13.alloc _).alloc _).alloc _).alloc _).alloc _=W14 at H⊢;clear JN;have zo:=Bw8 (H.b 0) (H.b 1) (H.b 2) (H.b 3);obtain⟨Q2,rn⟩:=ey (Q1+1);rw[rn]at H zo⊢;obtain⟨Q3,C_⟩:=ey (Q2+1);rw[C_]at H zo⊢;obtain⟨Q4,hQ4⟩:=ey (Q3+1);rw[hQ4]at H zo⊢;generalize Q4+1=Q5 at H⊢;clear rn C_ hQ4
 have HGA:Hid (∀W,aA W (Af ⟨Q2,0,Ae⟩) (Af ⟨Q4,0,Ae⟩) [⟨Af ⟨Q1,0,Ae⟩,2,[3,2]⟩] [⟨Af ⟨Q3,0,Ae⟩,2,[1,4]⟩]->Al Dp 14 #[.agg #[Ad (Af ⟨Q2,0,Ae⟩) 1 1,Ad (Af ⟨Q4,0,Ae⟩) 1 1],Aa Ab 7] W (Vu (λk=>Vs 7 4 k) [⟨Af ⟨Q1,0,Ae⟩,2,[3,2]⟩] [⟨Af ⟨Q3,0,Ae⟩,2,[1,4]⟩] 2 W)):=Ah λW h=>
  iV _ _ _ _ 1 1 1 1 7 4 2 W h rfl rfl (show fmE [[3,2]] [[1,4]]=0 by decide) He He (show 4=Uk [[3,2]]by decide) He
 have si:Hid (∀W,aA W (Af ⟨Q2,0,Ae⟩) (Af ⟨Q4,0,Ae⟩) [⟨Af ⟨Q1,0,Ae⟩,2,[3,2]⟩] [⟨Af ⟨Q3,0,Ae⟩,2,[1,4]⟩]->Al Dp 15 #[.agg #[Ad (Af ⟨Q2,0,Ae⟩) 1 1,Ad (Af ⟨Q4,0,Ae⟩) 1 1],Aa Ab 7] W (Vu (λk=>Qs 7 2 2 k) [⟨Af ⟨Q1,0,Ae⟩,2,[3,2]⟩] [⟨Af ⟨Q3,0,Ae⟩,2,[1,4]⟩] 2 W)):=Ah λW h=>
  jC _ _ _ _ 1 1 1 1 7 2 2 W h rfl rfl (show fmE [[3,2]] [[1,4]]=0 by decide) He He (show 2*2=Uk [[3,2]]by decide) He He
 obtain⟨⟨f0,f1⟩,-⟩:=Hm (H.b 4);go_wp2_with fail;refine(HGA.out _ zo).mono ?_;rintro ee w15 ⟨gl0,gl,rfl,zq,lm,xn,hb⟩;have H:=H.call hb;have zo:=zo.below hb;have ZX:Hid (gl.map ksF=(Ds 2).map λk=>(trR (Vs 7 4 k) [[3,2]],trR (Vs 7 4 k) [[1,4]])):=Ah (lY zq λk hk=>⟨(xn k hk).1,(xn k hk).2.1⟩)
 have ZW:Hid (∀r∈gl,Nv 2 1 r.fr=true/\Nv 2 1 r.bk=true):=Ah λr hr=>by
  obtain⟨k,hk,rfl⟩:=Be.1 hr;exact⟨aM (F:=[[3,2]]) (xn k hk).1 He,aM (F:=[[1,4]]) (xn k hk).2.1 He⟩
 have ZY:=Ah zq;clear f0 f1 hb xn zq HGA;obtain⟨⟨f0,f1⟩,-⟩:=Hm (H.b 4);go_wp2_with fail;refine(si.out _ zo).mono ?_;rintro ee w16 ⟨iA,il,rfl,bv,wm,zt,hb⟩;have H:=H.call hb;have lm:=lm.below hb;have HIK:Hid (il.map ksF=(Ds 2).map λk=>(trR (Qs 7 2 2 k) [[3,2]],trR (Qs 7 2 2 k) [[1,4]])):=Ah (lY bv λk hk=>⟨(zt k hk).1,(zt k hk).2.1⟩)
 have HIF:Hid (∀r∈il,Nv 2 1 r.fr=true/\Nv 2 1 r.bk=true):=Ah λr hr=>by
  obtain⟨k,hk,rfl⟩:=Be.1 hr;exact⟨aM (F:=[[3,2]]) (zt k hk).1 He,aM (F:=[[1,4]]) (zt k hk).2.1 He⟩
 have ye:1<il.length:=Gv;have F4:=zt 1 ye;obtain⟨r1,ws⟩:=ey (il[1]);rw[ws]at F4;have V':Hid (ksL r1.fr=[[5,4]]/\ksL r1.bk=[[3,6]]/\r1.fr.length=1/\r1.bk.length=1/\∀r∈r1.fr++r1.bk,r.c=r.ks.length):=Ah ⟨F4.1.trans (show trR (Qs 7 2 2 1) [[3,2]]=[[5,4]]by decide),F4.2.1.trans (show trR (Qs 7 2 2 1) [[1,4]]=[[3,6]]by decide),F4.2.2.1,F4.2.2.2.1,F4.2.2.2.2⟩;have MG:=Ah ws;have yv:=Ah bv;clear f0 f1 hb zt bv si zo F4 ws;have H:=H.upto 0;go_wp2_with fail;refine(SE.out _ H.below).mono ?_;rintro ee PK ⟨cs,A1,rfl,mh,-,hb,-⟩;obtain⟨pA,pc,A2,cc,rfl,hA,hp,bo⟩:=mh.st.held;simp only[Eo,Cs,Bu,Nat.reduceAdd];obtain⟨T8,hT8⟩:=ey PK.heap.size;have H:=(H.call hb).new #[Aa Ab t1.a,Aa Ab t1.b,Ad pA t1.cr.length pc,Aa Ac t1.root.t,Aa Ab t1.root.x,Aa Ab t1.root.y,Ad A2 t1.l.length cc] 33 hT8;have it:Below PK.heap.size PK (PK.alloc (.cells #[Aa Ab t1.a,Aa Ab t1.b,Ad pA t1.cr.length pc,Aa Ac t1.root.t,Aa Ab t1.root.x,Aa Ab t1.root.y,Ad A2 t1.l.length cc] 33)):=(Ag _ _).alloc (Am _) _;have hp:=hp.below it;have bo:=bo.below it;have lm:=(lm.below hb).below it;have wm:=(wm.below hb).below it;clear mh SE hb it;go_upto_region 13 with fail
 try rw[hT8]
 generalize PK.alloc _=W18 at H hp bo lm wm⊢;clear hT8
 have dt:Hid (∀(ins:Bool) (l:List FoR) (lA:Option Cj) (W:Aj),l.length=2->(∀r∈l,Nv 2 1 r.fr=true/\Nv 2 1 r.bk=true)->Us l (if ins then px1.take 2 else px1) (if ins then px1.drop 2 else[])=wL->So W lA l->Rd W pA 3 t1.cr.length (crs t1.cr)->Ib W A2 t1.l->Below w.heap.size w W->
   Al Dp 16 #[Ad lA 2 2,.agg #[Aa Ab t1.a,Aa Ab t1.b,Ad pA t1.cr.length pc,Aa Ac t1.root.t,Aa Ab t1.root.x,Aa Ab t1.root.y,Ad A2 t1.l.length cc],.bool ins] W λe w'=>∃A,e= .returned (.tuple #[Ad A 8 8,Aa Ab 0])/\Rd w' A 1 8 (Ir wL)/\Below W.heap.size W w'):=Ah λins l lA W h2 hf hr ho hp bo de=>by
  have hq:=HQ.out _ de;have hpx:=J1.out.2;rw[Ri J1.out.1]at hpx;refine(Bs4 J1.out.1 He He l lA 2 2 h2.symm He He hf ins (λ_=>He) px1 _ _ hpx rfl rfl pA pc A2 cc W ho hA hp bo hq.1 hq.2).mono ?_;rintro e w' ⟨A,rfl,ba,hb⟩;have hr:Us l (if ins then px1.take (2*1)else px1) (if ins then px1.drop (2*1)else[])=wL:=hr;rw[hr]at ba⊢;exact⟨A,rfl,ba,hb⟩
 have HRG:Hid (Us gl px1 []=wL):=Ah (by rw[dN,ZX.out];exact Ch4);have r8:Hid (Us il (px1.take 2) (px1.drop 2)=wL):=Ah (by rw[dN,HIK.out];exact Ch5);obtain⟨a0,a1,a2,a3,a4,a5,a6⟩:=Kg (H.b 0);go_wp2_with fail;refine(dt.out false gl gl0 W18 ZY.out ZW.out HRG.out lm hp bo H.below).mono ?_;rintro ee w19 ⟨rA,rfl,hx,hb⟩;have H:=H.call hb;have hp:=hp.below hb;have bo:=bo.below hb;have wm:=wm.below hb;clear a0 a1 a2 a3 a4 a5 a6 hb lm HRG ZW ZY ZX;obtain⟨a0,a1,a2,a3,a4,a5,a6⟩:=Kg (H.b 0);go_wp2_with fail;refine(dt.out true il iA w19 yv.out HIF.out r8.out wm hp bo H.below).mono ?_;rintro ee RQ ⟨rB,rfl,hy,hb⟩;have H:=H.call hb;have hx:=hx.below hb;have wm:=wm.below hb;clear a0 a1 a2 a3 a4 a5 a6 hb r8 HIF HIK hp bo dt hA;have H:=H.upto 0;obtain⟨ib,io,rfl,hib,i0,i1⟩:=wm.at' 1 (oHx yv.out);have LT:=wm.row _ (Ay (n:=1) (oHx yv.out));rw[MG.out]at i0 i1 LT;unfold FoR.h1 at i0;unfold FoR.h2 at i1;obtain⟨k1,k2,k3,k4,k5⟩:=V'.out;rw[k3]at i0;rw[k4]at i1;obtain⟨fb,fo,fB,e1,g0,KG⟩:=Cf5 LT.f k1 λr hr=>k5 r (Gc _ hr);obtain⟨aj,KB,dm,e2,g1,LS⟩:=Cf5 LT.b k2 λr hr=>k5 r (List.mem_append_right _ hr);rw[e1]at i0;rw[e2]at i1;simp only[Nat.one_mul]at i0 i1;have KG:Rd RQ fB 1 2 (Ir [5,4]):=KG;have LS:Rd RQ dm 1 2 (Ir [3,6]):=LS;have g0:RQ.cell? ⟨fb,fo,Ae⟩=Af (Ad fB 2 2):=g0;have g1:RQ.cell? ⟨aj,KB,Ae⟩=Af (Ad dm 2 2):=g1;clear k1 k2 k3 k4 k5 e1 e2 wm LT V' MG yv hib;go_wp2_with fail;have oa:=(Ag (RQ).heap.size (RQ)).alloc (Am _) (.cells #[Aa Ab 1,Aa Ab 2,Aa Ab 3,Aa Ab 4,Aa Ab 5,Aa Ab 6,Aa Ab 7,Aa Ab 0] 3);have rz:Rd ((RQ).alloc (.cells #[Aa Ab 1,Aa Ab 2,Aa Ab 3,Aa Ab 4,Aa Ab 5,Aa Ab 6,Aa Ab 7,Aa Ab 0] 3)) (Af ⟨(RQ).heap.size,0,Ae⟩) 1 8 (Ir wL):=Qh (Ir wL) 8 1 rfl rfl
 refine(Zn rA (Af ⟨(RQ).heap.size,0,Ae⟩) wL 8 8 _ rfl (hx.below oa) rz He).mono ?_;rintro ee w21 ⟨rfl,hb⟩;have H:=(H.other (.cells #[Aa Ab 1,Aa Ab 2,Aa Ab 3,Aa Ab 4,Aa Ab 5,Aa Ab 6,Aa Ab 7,Aa Ab 0] 3)).call hb;have rz:=rz.below hb;have hb:=Up oa hb;clear oa;obtain⟨QW,hQW⟩:=ey RQ.heap.size;rw[hQW]at rz⊢;have hy:=hy.below hb;have KG:=KG.below hb;have LS:=LS.below hb;have i0:=Gw hb i0;have i1:=Gw hb i1;have g0:=Gw hb g0;have g1:=Gw hb g1;clear hQW hb hx;go_wp2_with fail;refine(Zn rB (Af ⟨QW,0,Ae⟩) wL 8 8 _ rfl hy rz He).mono ?_;rintro ee w22 ⟨rfl,hb⟩;have H:=H.call hb;have KG:=KG.below hb;have LS:=LS.below hb;have i0:=Gw hb i0;have i1:=Gw hb i1;have g0:=Gw hb g0;have g1:=Gw hb g1;clear hb hy rz;go_wp2_with fail;have oa:=(Ag (w22).heap.size (w22)).alloc (Am _) (.cells #[Aa Ab 5,Aa Ab 4] 3);have rz:Rd ((w22).alloc (.cells #[Aa Ab 5,Aa Ab 4] 3)) (Af ⟨(w22).heap.size,0,Ae⟩) 1 2 (Ir [5,4]):=Qh (Ir [5,4]) 2 1 rfl rfl;refine(Zn fB (Af ⟨(w22).heap.size,0,Ae⟩) [5,4] 2 2 _ rfl (KG.below oa) rz He).mono ?_;rintro ee w23 ⟨rfl,hb⟩;have H:=(H.other (.cells #[Aa Ab 5,Aa Ab 4] 3)).call hb;have rz:=rz.below hb;have hb:=Up oa hb;clear oa;have LS:=LS.below hb;have i1:=Gw hb i1;have g1:=Gw hb g1;clear hb KG i0 g0 rz;go_wp2_with fail;have oa:=(Ag (w23).heap.size (w23)).alloc (Am _) (.cells #[Aa Ab 3,Aa Ab 6] 3);have rz:Rd ((w23).alloc (.cells #[Aa Ab 3,Aa Ab 6] 3)) (Af ⟨(w23).heap.size,0,Ae⟩) 1 2 (Ir [3,6]):=Qh (Ir [3,6]) 2 1 rfl rfl;refine(Zn dm (Af ⟨(w23).heap.size,0,Ae⟩) [3,6] 2 2 _ rfl (LS.below oa) rz He).mono ?_;rintro ee w24 ⟨rfl,hb⟩;have H:=(H.other (.cells #[Aa Ab 3,Aa Ab 6] 3)).call hb;have rz:=rz.below hb
 have hb:=Up oa hb;clear oa;have HB:=Ah H.below;clear hb LS i1 g1 rz H;go_wp2;go_ret;exact⟨rfl,HB.out⟩
def Br9 {a b:Nat} {s:Mt} (h:ksL fr=Jr a b s) (hy:y<fr.length):fr[y].ks=(Ds a).map (s y):=by
 have h1:=congrArg (λl:List (List Int)=>l[y]?) h
 have hb:y<b:=by
  have:=congrArg List.length h;simp[ksL,Jr]at this;omega
 simpa[ksL,Jr,hy,hb]using h1
def Xs (h:k<n) (e:k+1=k1):k1<=n:=Gv
def Rj (h:k<n) (e:k+1=k1):n-(intOf (Aa Ab (k1:Int))).toNat<n-(intOf (Aa Ab (k:Int))).toNat:=by
 subst e;simpa using eK h
def iT (a b:Nat) (s:Mt):Ae1 a b (Jr a b s)=true:=by
 unfold Ae1 Jr;simp
structure sU (w:Aj) (g:Nat->Nat) (a b q:Nat) (WA IA:Option Cj) (rs is:List Ip):Prop where
 rw:Ja w WA rs
 iw:Ja w IA is
 lr:rs.length=b
 li:is.length=b
 row:∀y (h1:y<rs.length) (h2:y<is.length),rs[y].ks.length=a/\is[y].ks=rs[y].ks.map (trV g)
 num:∀r∈rs,∀v∈r.ks,v≠0/\v.natAbs<=q
def Bs9 {g:Nat->Nat} (h:ksL is=trR g (ksL rs)) (h1:y<rs.length) (h2:y<is.length):is[y].ks=rs[y].ks.map (trV g):=by
 have e:=congrArg (λl:List (List Int)=>l[y]?) h;simpa[ksL,trR,h1,h2]using e
def Bl4 (xw xh xo pg:Nat) (ins:Bool) (h1:xw<=255) (h2:xh<=255) (h3:xo<=255) (hpg:pg<=65535) (w:Aj) (hQ:Qf w) (hT:Tn w):
  Al Dp 4 #[.agg #[Aa Ac xw,Aa Ac xh,Aa Ac xo],.int .u16 pg,.bool ins] w (Gz (.bool true) w):=by
 have AF:=Bs3 xw;have yj:=Bs2 xh;have jq:=yX AF yj (ovG xo);have MD:=Zz w (λw' hb=>pW w' (hQ.below hb) (hT.below hb));have sj:=Zz w (λw' hb=>show Qf w'/\Tn w' from⟨hQ.below hb,hT.below hb⟩);have UL:=λt hr w' (hb:Below w.heap.size w w')=>lN xw xh xo h1 h2 h3 t hr w' (hQ.below hb) (hT.below hb);unfold Sd at UL;obtain⟨a,ha⟩:∃z:Nat,2^(xw%4)=z:=⟨_,rfl⟩;obtain⟨b,hb⟩:∃z:Nat,2^(xh%3)=z:=⟨_,rfl⟩;rw[ha,hb]at UL jq;rw[ha]at AF;rw[hb]at yj;obtain⟨t,m,hr,I⟩:=Xo AF yj (ovG xo);have HG:=Zz w (λw' hb=>UL t hr w' hb);have QL:1<=a/\a<=8:=by simp only[Bk,Dv,or_false]at AF;omega
 have og:1<=b/\b<=4:=by simp only[Bk,Dv,or_false]at yj;omega
 obtain⟨l,hl⟩:=ey (hvG (ovG xo) 10 a b 0);rw[hl]at jq HG;obtain⟨nl,ky⟩:=ey l.length;rw[ky]at jq;have qk:=Ah ky;have HI:=Ah I;have uf:=I.G.sa;have qu:=I.G.sb;obtain⟨ids,fg⟩:=ey (Le t);obtain⟨ab,fd⟩:=ey (a*b);have habi:(a:Int)*(b:Int)=(ab:Int):=by rw[<-fd];simp
 have hab32:1<=ab/\ab<=32:=by
  rw[<-fd];exact⟨Gq QL.1 og.1,Gq QL.2 og.2⟩
 rw[fd]at jq;have AJ:=Ah fd;have H:=(Bx.start w).new #[Aa Ac xw,Aa Ac xh,Aa Ac xo] 23 rfl;clear AF yj UL hr ha hb hQ hT hl ky I fd;go_in;go_upto_region 1 with fail;obtain⟨N,ct⟩:=Tw w.heap.size;rw[<-ct.out]at H⊢;generalize w.alloc _=W1 at H⊢;obtain⟨⟨g0,g1,g2⟩,-⟩:=Hg (H.b 0);go_wp2_with fail;refine(HG.out W1 H.below).mono ?_;rintro ee w2 ⟨cs,LA,rfl,mh,-,hb,-⟩;obtain⟨pA,pc,A,cc,rfl,hA,hp,bo⟩:=mh.st.held;rw[qk.out,uf,qu];obtain⟨T3,I4⟩:=ey w2.heap.size;have H2:=(H.call hb).new #[a,b,Ad pA t.cr.length pc,Aa Ac t.root.t,Aa Ab t.root.x,Aa Ab t.root.y,Ad A t.l.length cc] 33 I4;have dx:=Zz w2 (λw' hb=>show Rd w' pA 3 t.cr.length (crs t.cr)/\Ib w' A t.l from⟨hp.below hb,bo.below hb⟩);have NE:Below w2.heap.size w2 (w2.alloc (.cells #[a,b,Ad pA t.cr.length pc,Aa Ac t.root.t,Aa Ab t.root.x,Aa Ab t.root.y,Ad A t.l.length cc] 33)):=(Ag _ _).alloc (Am _) _;clear mh hp bo hb HG g0 g1 g2 H;go_upto_region 2 with fail
 try rw[I4]
 generalize w2.alloc _=W3 at H2 NE⊢;clear I4;obtain⟨s0,s1,s2,s3,s4,s5,s6⟩:=Kg (H2.b 1);have hs:=dx.out _ NE;have hq:=sj.out _ H2.below;have hof:=Al3 a b t m _ (Bp1 HI.out QL.2 og.2) (Ca1 HI.out) pA pc A cc W3 hA hs.1 hs.2 hq.1 hq.2;rw[uf,qu]at hof;have BD:=Ah hof;clear hof hs hq;go_wp2_with fail;refine BD.out.mono ?_;rintro ee w5 ⟨hb,G,hG,rfl,zo⟩;have zo:FmA w5 G a b (fmT a (pgK a m ids) (2*ids.length)):=by rw[<-fg];exact zo
 have H5:=H2.call hb;have J4:=Up NE hb;obtain⟨T7,I5⟩:=ey w5.heap.size;have it:Below w5.heap.size w5 (w5.alloc (.cells (fmV G a b) 61)):=(Ag _ _).alloc (Am _) _;have H6:=H5.new (fmV G a b) 61 I5;have hfl5:=zo.lt og.1;have UH:=zo.same λj _ hj=>it.block j Gv;have vf:=Up J4 it;clear s0 s1 s2 s3 s4 s5 s6 hb H2 NE zo H5 J4 it hfl5 BD;unfold fmV at H6 UH vf;unfold fmV;go_upto_region 3 with fail
 try rw[I5]
 generalize w5.alloc _=W6 at H6 UH vf⊢;clear I5;have fy:=UH.inn Gv Gv;have hlr:ids.length=ab:=by rw[<-fg,Ri HI.out,AJ.out]
 have VA:kL a b (pgK a m ids) (2*ab):=by rw[<-fg,<-AJ.out];exact wB HI.out
 rw[hlr]at fy;obtain⟨q,hq⟩:=ey (2*ab);rw[hq]at fy VA;have hE:fmE (Jr a b (fmT a (pgK a m ids) q).1) (Jr a b (fmT a (pgK a m ids) q).2)=0:=Bw5 QL.1 og.1 VA (by rw[AJ.out,hq]);obtain⟨fr,un⟩:=ey (Xx (G+1) a b (fmT a (pgK a m ids) q).1);obtain⟨bk,tj⟩:=ey (Xx (G+b+2) a b (fmT a (pgK a m ids) q).2);have jq:fr.length=b:=by rw[<-un];exact Zm _ _ _ _
 have cj:bk.length=b:=by rw[<-tj];exact Zm _ _ _ _
 have hfk:ksL fr=Jr a b (fmT a (pgK a m ids) q).1:=by rw[<-un];exact zX _ _ _ _
 have K4:ksL bk=Jr a b (fmT a (pgK a m ids) q).2:=by rw[<-tj];exact zX _ _ _ _
 rw[un,tj]at fy;rw[<-hfk,<-K4]at hE;obtain⟨GB,hGB⟩:=ey (G+b+1);rw[hGB]at H6 fy⊢;have si:=Zz W6 (λw' h=>fy.below h);have HE:=Ah hE;have pf:=Ah (Cn hfk (Cn K4 (Cn jq cj)));have GJ:=Ah VA;have HQ:=Ah hq;have b_:=Ah hlr;clear fy hE hfk K4 un tj VA UH hGB;obtain⟨r,hr⟩:=ey (pg%200);have gp:r<200:=Gv;obtain⟨n,hn⟩:=ey (1+r);have p1:(pg:Int).tmod 200=(r:Int):=by rw[Int.tmod_eq_emod_of_nonneg Gv];omega
 have p2:IntKind.u16.wrap (r:Int)=(r:Int):=by
  have:IntKind.u16.wrap (r:Int)=(r:Int)%65536:=rfl;omega
 have p3:=Cb (r:Int) Gv;have p4:Ab.wrap (1+(r:Int))=(n:Int):=by rw[Cb _ Gv];omega
 have eh:1<=n/\n<=200:=Gv;clear hr hn hpg;go_upto_region 4 with fail;have od:∀y (hy:y<fr.length),fr[y].ks.length=a:=λy hy=>by rw[Br9 pf.out.1 hy];simp
 have lh:0<b:=Gv;have h0f:0<fr.length:=by rw[pf.out.2.2.1];exact lh
 obtain⟨x1,x2,x3,x4,x5⟩:=(si.out W6 (Ag _ _)).f.at' 0 h0f;injection x3 with x3;injection x3 with x31 x32 _;subst x31 x32;rw[od 0 h0f,Bu]at x5;generalize fr[0].A=A0 at x5;generalize fr[0].c=c0 at x5;obtain⟨⟨f0,f1⟩,-⟩:=Hm (H6.b 2);have q0:((b:Int)==0)=false:=Hv;have q0b:¬(b:Int)=0:=Gv;have w1:=Cb (2*(b:Int)) Gv
 have e1:2*(b:Int)*(a:Int)=(q:Int):=by
  rw[Int.mul_assoc,Int.mul_comm (b:Int),habi,<-HQ.out];omega
 have w2:Ab.wrap (2*(b:Int)*(a:Int))=(q:Int):=by rw[e1];exact Cb _ (oHx HQ.out)
 have nv:=Ah od;have q1:(0:Int)<(b:Int):=Gv;clear od h0f x4 p1 p2 p3 p4 e1;go_upto_region 6 with fail
 go_quiet (fail)
 have H7:=H6.drewN nq;have J8:=Ic (Ag W6.heap.size W6) nq;generalize W6.drewN nq=W7 at H7 J8⊢;have RY:=Ah J8;clear J8 x5 f0 f1 q0 q0b q1 w1 w2 H6;obtain⟨⟨f0,f1⟩,-⟩:=Hm (H7.b 2);obtain⟨mm,hm⟩:=ey ((n+q-1)/q);have KF:2<=q/\q<=64:=oHx HQ.out
 have hzq:Uk (ksL fr)=q:=by
  have hg:(ksL fr).getD 0 []=(Ds a).map ((fmT a (pgK a m ids) q).1 0):=by rw[pf.out.1];exact Qy lh
  unfold Uk;rw[hg,show(ksL fr).length=b by simp[ksL,pf.out.2.2.1],Bp,List.length_range,Nat.mul_assoc,Nat.mul_comm b a,AJ.out,HQ.out]
 have hga:=iV (Af ⟨G,0,Ae⟩) (Af ⟨GB,0,Ae⟩) fr bk b b b b n q mm W7 (si.out _ RY.out) pf.out.2.2.1.symm pf.out.2.2.2.symm HE.out eh.1 Gv hzq.symm hm.symm;have LE:=Ah hzq;have HM:=Ah hm;clear hzq hm;go_wp2_with fail;refine hga.mono ?_;rintro ee w8 ⟨GA,gl,rfl,zq,hgf,xn,hb⟩;have H8:=H7.call hb;have wy:=Ah (Up RY.out hb);have ZY:=Ah zq;have ZW:=Ah hgf;have ZX:=Ah xn;clear f0 f1 H7 RY hga hb zq hgf xn;have R3:(q:Int).tmod 4=((q%4:Nat):Int):=by rw[Int.tmod_eq_emod_of_nonneg Gv];omega
 by_cases Q6:ins=true/\q%4≠0
 ·obtain⟨rfl,h4⟩:=Q6;obtain⟨⟨f0,f1⟩,-⟩:=Hm (H8.b 2);have wm:=uL (Af ⟨G,0,Ae⟩) (Af ⟨GB,0,Ae⟩) fr bk b b b b n q w8 (si.out _ wy.out) pf.out.2.2.1.symm pf.out.2.2.2.symm HE.out eh.1 Gv LE.out.symm h4;obtain⟨r4,RF⟩:=ey (q%4);have H4R:=Ah (Cn RF (show r4≠0 by omega));rw[RF]at R3;have q2:((r4:Int) != 0)=true:=Hv;have q3:¬(r4:Int)=0:=Gv;clear ZY ZW ZX RF h4;go_wp2_with fail;refine wm.mono ?_;rintro ee w9 ⟨rfl,hb⟩;have H9:=H8.call hb;have J5:=(Up vf wy.out).trans (hb.mono (Up vf wy.out).size);clear f0 f1 H8 wy wm hb;obtain⟨T9,hT9⟩:=ey w9.heap.size;have wv:=H9.new #[Ad (Af ⟨G,0,Ae⟩) b b,Ad (Af ⟨GB,0,Ae⟩) b b] 61 hT9;have hbA:Below w9.heap.size w9 (w9.alloc (.cells #[Ad (Af ⟨G,0,Ae⟩) b b,Ad (Af ⟨GB,0,Ae⟩) b b] 61)):=(Ag _ _).alloc (Am _) _;obtain⟨s0,s1,s2,s3,s4,s5,s6⟩:=Kg (wv.b 1);obtain⟨⟨f0,f1⟩,-⟩:=Hm (H9.b 2);go_wp2_with fail;have hb2A:=Up J5 hbA;have hs:=dx.out _ hb2A;have hq:=sj.out _ wv.below
  have hlr2:q=2*(atF t.l ⟨0,0,0⟩).reverse.length:=by
   have:=Ri HI.out;unfold Le at this;rw[this,AJ.out,HQ.out]
  have X_:=Ba2 a b t m _ (Bp1 HI.out QL.2 og.2) (Af ⟨T9,0,Ae⟩) 1 1 true q hlr2 (.inr ⟨rfl,by rw[H4R.out.1];exact H4R.out.2⟩) pA pc A cc _ hA hs.1 hs.2 hq.1 hq.2;rw[uf,qu]at X_;refine X_.mono ?_;rintro ee on ⟨rfl,gm⟩;have FY:=Ah (wv.call gm);clear X_ hs hq hlr2 hb2A J5 hbA s0 s1 s2 s3 s4 s5 s6 f0 f1 wv H9 gm hT9;go_wp2_with fail;refine(MD.out _ FY.out.below).mono ?_;rintro ee DO ⟨rfl,jh⟩;have HB:=Ah (FY.out.call jh).below;clear FY jh;go_wp2;go_ret;exact⟨rfl,HB.out⟩
 obtain⟨gB,QQ⟩:=ey ((if ins then Qs n ab mm else Vs n q));have HG:=Ah QQ;have yx:=Ah (show ins=true->q%4=0 from λe=>Classical.byContradiction λh=>Q6 ⟨e,h⟩);clear Q6 QQ;go_upto_if 78 with fail;go_cut [13,14]from 79 to 108 (λKO s14 wx=>∃(LB:Option Cj) (lf:List FoR),KO= Ad LB mm mm/\s14= Aa Ab 0/\Hid (lf.length=mm/\So wx LB lf/\(∀k (hk:k<lf.length),ksL lf[k].fr=trR (gB k) (ksL fr)/\ksL lf[k].bk=trR (gB k) (ksL bk)/\lf[k].fr.length=fr.length/\lf[k].bk.length=bk.length/\∀r∈lf[k].fr++lf[k].bk,r.c=r.ks.length))/\Hid (Below w8.heap.size w8 wx))
 case first=>
  cases ins with
  |false=>
   have QQ:=HG.out;simp only[Ek,if_false]at QQ;subst QQ;clear H8 si HE pf GJ nv HI dx sj MD LE
   as_aux_lemma=>
   go_wp2;go_meet;exact⟨GA,gl,rfl,rfl,Ah ⟨ZY.out,ZW.out,ZX.out⟩,Ah (Ag _ _)⟩
  |true=>
   have QQ:=HG.out;simp only[if_true]at QQ;subst QQ;have h4:=yx.out rfl;obtain⟨⟨f0,f1⟩,-⟩:=Hm (H8.b 2);have wm:=jC (Af ⟨G,0,Ae⟩) (Af ⟨GB,0,Ae⟩) fr bk b b b b n ab mm w8 (si.out _ wy.out) pf.out.2.2.1.symm pf.out.2.2.2.symm HE.out eh.1 Gv (by rw[LE.out,HQ.out]) (oHx HQ.out) (by rw[<-HM.out,HQ.out]);have VZ:=Ah wm;rw[h4]at R3;clear wm si HE pf GJ nv HI dx sj MD LE ZY ZW ZX H8 h4;go_wp2_with fail;refine VZ.out.mono ?_;rintro ee w9 ⟨GA2,gl2,rfl,zq,hgf,xn,hb⟩;have HGX:=Ah (Cn zq (Cn hgf xn));have CH:=Ah hb;clear zq hgf xn hb f0 f1 VZ
   as_aux_lemma=>
   go_wp2;go_meet;exact⟨GA2,gl2,rfl,rfl,HGX,CH⟩
 case rest=>
 obtain⟨LB,lf,rfl,rfl,HL,tr⟩:=hcut
 apply_assumption
 have H9:=Ah (H8.call tr.out);have I':=Ah ((Up vf wy.out).trans (tr.out.mono (Up vf wy.out).size));have J':=Ah (Up wy.out tr.out);obtain⟨W9,rfl⟩:=ez wc;clear ZY ZW ZX tr wy H8 vf;have uh:=Ah (si.out _ J'.out);clear si J';obtain⟨nq,YG⟩:=ey (n+q);obtain⟨nr,OI⟩:=ey (nq-1);have w1:Ab.wrap ((n:Int)+(q:Int))=(nq:Int):=by rw[Cb _ Gv];omega
 have w2:Ab.wrap ((nq:Int)-1)=(nr:Int):=by rw[Cb _ Gv];omega
 have w3:(nr:Int).tdiv (q:Int)=(mm:Int):=by
  rw[Gi Gv,<-HM.out,YG,OI];rfl
 have QV:mm<=264:=by
  have:mm<=nr:=by rw[<-HM.out,YG,OI];exact Nat.div_le_self _ _
  omega
 have w4:=Cb (mm:Int) Gv;have w5:¬(q:Int)=0:=Gv;clear YG OI;go_wp2_with fail;clear w1 w2 w3 w4
 go_loopw [18] (λFW wr=>∃k:Nat,k<=mm/\FW= Aa Ab k/\Hid (Below W9.heap.size W9 wr)) (λFW _=>mm-(intOf FW).toNat)
 case atStart=>exact⟨0,Gv,rfl,Ah (Ag _ _)⟩
 obtain⟨k,hk,rfl,HB⟩:=hrel;by_cases ac:k<mm
 ·have q0:(k:Int)<(mm:Int):=Gv;have fh:=Ah ac;have dq:k<lf.length:=by rw[HL.out.1];exact ac
  have QU:=HL.out.2.2 k dq;obtain⟨lb,lo,e,-,c0,c1⟩:=HL.out.2.1.at' k dq;subst e;unfold FoR.h1 at c0;unfold FoR.h2 at c1;rw[QU.2.2.1,pf.out.2.2.1]at c0;rw[QU.2.2.2.1,pf.out.2.2.2]at c1;have AK:=Ah (Cn (HL.out.2.1.row _ (Ay dq)) QU);obtain⟨fo,BS⟩:=ey (lf[k]);rw[BS]at c0 c1 AK;have HC:=Ah (Cn c0 c1)
  have la:∀r:Ip,r∈fr++bk->∀v∈r.ks,v≠0/\v.natAbs<=q:=λr hr v hv=>by
   have h9:=oT HE.out r.ks (by unfold ksL;rw[<-Ez];exact List.mem_map_of_mem hr) v hv
   rwa [LE.out]at h9
  have HSF:Hid (sU W9 (gB k) a b q (Af ⟨G,0,Ae⟩) fo.FA fr fo.fr):=Ah
   ⟨uh.out.f,AK.out.1.f,pf.out.2.2.1,by rw[AK.out.2.2.2.1];exact pf.out.2.2.1,λy h1 h2=>⟨nv.out y h1,Bs9 AK.out.2.1 h1 h2⟩,λr hr=>la r (Gc _ hr)⟩
  have lx:Hid (sU W9 (gB k) a b q (Af ⟨GB,0,Ae⟩) fo.BA bk fo.bk):=Ah
   ⟨uh.out.b,AK.out.1.b,pf.out.2.2.2,by rw[AK.out.2.2.2.2.1];exact pf.out.2.2.2,λy h1 h2=>⟨by rw[Br9 pf.out.2.1 h1];simp,Bs9 AK.out.2.2.1 h1 h2⟩,λr hr=>la r (List.mem_append_right _ hr)⟩
  have c0:=Gw HB.out HC.out.1;have c1:=Gw HB.out HC.out.2;clear la AK;obtain⟨⟨f0,f1⟩,-⟩:=Hm ((H9.out.call HB.out).b 2);have ek:=Cb ((k:Int)+1) Gv;clear QU BS dq ac HI;go_upto_region 19 with fail
  go_quiet (fail)
  have KR:=Ah (HB.out.trans (Ic (Ag wr.heap.size wr) nq|>.mono HB.out.size));have c0:(wr.drewN nq).cell? ⟨lb,lo+k*2,Ae⟩=_:=c0;have c1:(wr.drewN nq).cell? ⟨lb,lo+k*2+1,Ae⟩=_:=c1;clear f0 f1;obtain⟨⟨f0,f1⟩,-⟩:=Hm ((H9.out.call KR.out).b 2);generalize wr.drewN nq=W10 at KR c0 c1 f0 f1⊢;clear c0 c1 f0 f1 HB;go_wp2
  go_loopw [19] (λY6 wr2=>∃i:Nat,i<=2/\Y6= Aa Ab i/\Hid (Below W9.heap.size W9 wr2)) (λY6 _=>2-(intOf Y6).toNat)
  case atStart=>exact⟨0,Gv,rfl,KR⟩
  obtain⟨i,hi,rfl,oz⟩:=hrel;by_cases h2:i<2
  ·have q2:(i:Int)<2:=Gv;have GE:=Ah h2;have ei:=Cb ((i:Int)+1) Gv;have c0:=Gw oz.out HC.out.1;have c1:=Gw oz.out HC.out.2;obtain⟨⟨f0,f1⟩,-⟩:=Hm ((H9.out.call oz.out).b 2);go_upto_region 24 with fail
   go_quiet (fail)
   have Z4:=Ah (oz.out.trans (Ic (Ag wr.heap.size wr) nq|>.mono oz.out.size));clear f0 f1 c0;have c1:(wr.drewN nq).cell? ⟨lb,lo+k*2+1,Ae⟩=_:=c1;obtain⟨⟨-,f1⟩,-⟩:=Hm ((H9.out.call Z4.out).b 2);generalize wr.drewN nq=W10 at Z4 c1 f1⊢;go_upto_if 168 with fail;go_cut [20,21]from 169 to 175 (λFX PG wx=>∃(WA IA:Option Cj) (rs is:List Ip) (d1 d2:Nat),FX= Ad WA b d1/\PG= Ad IA b d2/\Hid (sU W9 (gB k) a b q WA IA rs is)/\Hid (Below W9.heap.size W9 wx))
   case first=>
    clear HL HE pf GJ nv dx sj MD LE KR uh HM HG yx b_ AJ HQ HC;obtain rfl|rfl:i=0∨i=1:=oHx GE.out
    ·as_aux_lemma=>
     go_wp2;go_meet;exact⟨_,fo.FA,fr,fo.fr,b,fo.c1,rfl,rfl,HSF,Z4⟩
    ·as_aux_lemma=>
     go_upto_region 26 with fail
     go_quiet (fail)
     have fa:=Ah (Z4.out.trans (Ic (Ag W10.heap.size W10) nq|>.mono Z4.out.size));go_wp2;go_meet;exact⟨_,fo.BA,bk,fo.bk,b,fo.c2,rfl,rfl,lx,fa⟩
   obtain⟨WA,IA,rs,is,d1,d2,rfl,rfl,HS,sh⟩:=hcut
   apply_assumption
   clear c1 f1 Z4 HSF lx KR HC;go_wp2
   go_loopw [22] (λs22 wr3=>∃y:Nat,y<=b/\s22= Aa Ab y/\Hid (Below W9.heap.size W9 wr3)) (λs22 _=>b-(intOf s22).toNat)
   case atStart=>exact⟨0,Gv,rfl,sh⟩
   obtain⟨y,hy,rfl,yq⟩:=hrel;by_cases h4:y<b
   ·have q3:(y:Int)<(b:Int):=Gv;have HY4:=Ah h4;have hey_:=Cb ((y:Int)+1) Gv;have qv:y<rs.length:=by rw[HS.out.lr];exact h4
    have vu:y<is.length:=by rw[HS.out.li];exact h4
    have ae:=HS.out.row y qv vu;have la:=HS.out.num _ (Ay qv);have DG:=HS.out.rw.row _ (Ay qv);have uq:=HS.out.iw.row _ (Ay vu);obtain⟨wb,wo,e,-,g0⟩:=HS.out.rw.at' y qv;subst e;obtain⟨ib,io,e,-,g1⟩:=HS.out.iw.at' y vu;subst e;have mo:is[y].ks.length=a:=by rw[ae.2,Bp,ae.1]
    rw[ae.1]at g0;rw[mo]at g1;obtain⟨ra,X_⟩:=ey (rs[y]);rw[X_]at g0 ae la DG;obtain⟨ri,hri⟩:=ey (is[y]);rw[hri]at g1 ae uq mo;have HG0:=Ah (Cn g0 g1);have wh:=Ah (Cn DG (Cn uq (Cn ae (Cn la mo))));have g0:=Gw yq.out HG0.out.1;have g1:=Gw yq.out HG0.out.2;clear qv vu ae la DG uq mo X_ hri h4 sh;go_upto_region 30 with fail
    go_quiet (fail)
    have yr:=Ah (yq.out.trans (Ic (Ag wr.heap.size wr) nq|>.mono yq.out.size));clear g0 g1;generalize wr.drewN nq=W11 at yr⊢;go_wp2
    go_loopw [23] (λPH wr4=>∃c:Nat,c<=a/\PH= Aa Ab c/\Hid (Below W9.heap.size W9 wr4)) (λPH _=>a-(intOf PH).toNat)
    case atStart=>exact⟨0,Gv,rfl,yr⟩
    obtain⟨c,hc,rfl,CF⟩:=hrel;have g0:=Gw CF.out HG0.out.1;have g1:=Gw CF.out HG0.out.2;by_cases h5:c<a
    ·have q4:(c:Int)<(a:Int):=Gv;have RZ:=Ah h5;obtain⟨c1,jy⟩:=ey (c+1);have ec:Ab.wrap ((c:Int)+1)=(c1:Int):=by rw[Cb _ Gv];omega
     have pa:=Ah jy;obtain⟨va,vo,e1,-,v0⟩:=wh.out.1.at' c (by rw[wh.out.2.2.1.1];exact h5);obtain⟨ta,tb,e2,-,t0⟩:=wh.out.2.1.at' c (by rw[wh.out.2.2.2.2];exact h5);have qr:c<ra.ks.length:=by rw[wh.out.2.2.1.1];exact h5
     have AV:c<ri.ks.length:=by rw[wh.out.2.2.2.2];exact h5
     have htv:ri.ks[c]=trV (gB k) ra.ks[c]:=by
      have h9:=List.getElem_of_eq wh.out.2.2.1.2 AV;rw[h9,List.getElem_map]
     have hvn:=wh.out.2.2.2.1 _ (Ay qr);rw[htv]at t0;generalize ra.ks[c]=v at v0 t0 hvn;rw[e1]at g0;rw[e2]at g1;have v0:=Gw CF.out v0;have t0:=Gw CF.out t0;obtain⟨tv,U4⟩:=ey (trV (gB k) v);rw[U4]at t0;have HTV:=Ah U4;obtain⟨p,hp⟩:=ey v.natAbs;obtain⟨sg,YU⟩:∃z:Int,(if v<0 then-1 else 1)=z:=⟨_,rfl⟩;have JG:=Ah (Cn YU (Cn hp hvn));clear htv U4 qr AV e1 e2 jy h5;go_upto_if 210 with fail;go_cut [24,25]from 211 to 212 (λs24 s25 wx=>s24= Aa Ab (p:Nat)/\s25= Aa Ab sg/\wr=wx)
     case first=>
      clear g0 g1 v0 t0 HTV wh HS HG yx HL dx sj MD HM LE uh pf GJ nv H9 b_ AJ HQ;by_cases hneg:v<0
      ·rw[Hc hneg]at YU;subst YU;have w9:Ab.wrap (-v)=(p:Int):=by rw[Cb _ Gv];omega
       clear JG hp hvn
       as_aux_lemma=>
       go_wp2;go_meet;exact⟨rfl,rfl,rfl⟩
      ·rw[Ha hneg]at YU;subst YU;obtain rfl:v=(p:Int):=Gv;clear JG hp hvn
       as_aux_lemma=>
       go_wp2;go_meet;exact⟨rfl,rfl,rfl⟩
     obtain⟨rfl,rfl,rfl⟩:=hcut
     apply_assumption
     have hG:=HG.out;have hk:k<mm:=fh.out;have xv:1<=p/\p<=q:=Gv;have YO:=HQ.out;have hab2:=hab32
     have se:tv=sg*((gB k p:Nat):Int):=by
      rw[<-HTV.out,<-hp,<-YU];unfold trV
      split<;>omega
     obtain⟨kq,FG⟩:=ey (k*q);have hkqb:kq<=264*64:=by rw[<-FG];exact Gq Gv Gv
     have hsgb:sg=1∨sg= -1:=by rw[<-YU];split<;>simp
     have m1:Ab.wrap ((k:Int)*(q:Int))=(kq:Int):=by
      have e:(k:Int)*(q:Int)=(kq:Int):=by rw[<-FG];simp
      rw[e];exact Cb _ Gv
     obtain⟨pk,YL⟩:=ey (p+kq);have m2:Ab.wrap ((p:Int)+(kq:Int))=(pk:Int):=by rw[Cb _ Gv];omega
     have m0:∀x:Nat,x<=100000->Ab.wrap (sg*(x:Int))=sg*(x:Int):=λx hx=>by
      refine Cb _ ?_;rcases hsgb with e|e<;>rw[e]<;>omega
     clear HTV JG YU hp hvn hsgb wh HS HL dx sj MD HM LE uh pf GJ nv H9 b_ AJ yx
     cases ins with
     |false=>
      simp only[Ek,if_false]at hG;subst hG;have ml:Vs n q k p=if pk>n then 0 else pk:=by unfold Vs;rw[FG,YL]
      rw[ml]at se;by_cases lq:pk>n;rw[Hc lq]at se;simp only[Int.natCast_zero,Int.mul_zero]at se;subst se;have q5:(n:Int)<(pk:Int):=Gv;have m9:Ab.wrap (sg*0)=0:=by rw[Int.mul_zero];rfl
      clear m0 ml lq FG YL hG HG;rotate_left;rw[Ha lq]at se;have q5:¬(n:Int)<(pk:Int):=Gv;have m9:Ab.wrap (sg*(pk:Int))=tv:=by rw[m0 pk Gv,se]
      clear m0 ml lq FG YL hG HG se
      all_goals
       as_aux_lemma=>
       go_wp2;exact⟨⟨c1,Xs RZ.out pa.out,rfl,CF⟩,Rj RZ.out pa.out⟩
     |true=>
      simp only[if_true]at hG;subst hG;obtain⟨kh,R_⟩:=ey (k*ab);have hkq2:kq=2*kh:=by rw[<-FG,<-R_,<-YO,Nat.mul_left_comm]
      obtain⟨ph,yj⟩:=ey (p+kh);obtain⟨mq,FH⟩:=ey (mm*q);have hmqb:mq<=264*64:=by rw[<-FH];exact Gq Gv Gv
      have AA:kq+q<=mq:=by rw[<-FG,<-FH,<-Nat.succ_mul];exact Fu q Gv
      obtain⟨mk,ub⟩:=ey (mq-kh);obtain⟨qp,hqp⟩:=ey (q-p);obtain⟨mz,QZ⟩:=ey (mk-qp);have m3:(q:Int).tdiv 2=(ab:Int):=by rw[Gi Gv];omega
      have m3b:=Cb (ab:Int) Gv;have m4:(kq:Int).tdiv 2=(kh:Int):=by rw[Gi Gv];omega
      have m4b:=Cb (kh:Int) Gv;have m5:Ab.wrap ((p:Int)+(kh:Int))=(ph:Int):=by rw[Cb _ Gv];omega
      have m6:Ab.wrap ((mm:Int)*(q:Int))=(mq:Int):=by
       have e:(mm:Int)*(q:Int)=(mq:Int):=by rw[<-FH];simp
       rw[e];exact Cb _ Gv
      have m7:Ab.wrap ((mq:Int)-(kh:Int))=(mk:Int):=by rw[Cb _ Gv];omega
      have m8:Ab.wrap ((q:Int)-(p:Int))=(qp:Int):=by rw[Cb _ Gv];omega
      have m8b:Ab.wrap ((mk:Int)-(qp:Int))=(mz:Int):=by rw[Cb _ Gv];omega
      have pr:Wv ab mm k p=if p<=ab then ph else mz:=by
       unfold Wv;rw[R_,yj,YO,FH,ub,hqp,QZ]
      have ml:Qs n ab mm k p=if Wv ab mm k p>n then 0 else Wv ab mm k p:=rfl;rw[ml,pr]at se;have hzb:ph<=100000/\mz<=100000:=Gv;clear ml pr hkq2 hmqb AA ub hqp QZ FH R_ FG YL yj;by_cases OQ:p<=ab
      ·rw[Hc OQ]at se;have q6:(p:Int)<=(ab:Int):=Gv;have q7:¬(ab:Int)<(p:Int):=Gv;by_cases lq:ph>n;rw[Hc lq]at se;simp only[Int.natCast_zero,Int.mul_zero]at se;subst se;have q5:(n:Int)<(ph:Int):=Gv;have m9:Ab.wrap (sg*0)=0:=by rw[Int.mul_zero];rfl
       clear m0 lq HG OQ;rotate_left;rw[Ha lq]at se;have q5:¬(n:Int)<(ph:Int):=Gv;have m9:Ab.wrap (sg*(ph:Int))=tv:=by rw[m0 ph Gv,se]
       clear m0 lq HG se OQ
       all_goals
        as_aux_lemma=>
        go_wp2;exact⟨⟨c1,Xs RZ.out pa.out,rfl,CF⟩,Rj RZ.out pa.out⟩
      ·rw[Ha OQ]at se;have q6:¬(p:Int)<=(ab:Int):=Gv;have q7:(ab:Int)<(p:Int):=Gv;by_cases lq:mz>n;rw[Hc lq]at se;simp only[Int.natCast_zero,Int.mul_zero]at se;subst se;have q5:(n:Int)<(mz:Int):=Gv;have m9:Ab.wrap (sg*0)=0:=by rw[Int.mul_zero];rfl
       clear m0 lq HG OQ;rotate_left;rw[Ha lq]at se;have q5:¬(n:Int)<(mz:Int):=Gv;have m9:Ab.wrap (sg*(mz:Int))=tv:=by rw[m0 mz Gv,se]
       clear m0 lq HG se OQ
       all_goals
        as_aux_lemma=>
        go_wp2;exact⟨⟨c1,Xs RZ.out pa.out,rfl,CF⟩,Rj RZ.out pa.out⟩
    ·obtain rfl:c=a:=Gv;have q4:¬(c:Int)<(c:Int):=Gv;obtain⟨y1,qv⟩:=ey (y+1);have ey1:Ab.wrap ((y:Int)+1)=(y1:Int):=by rw[hey_];omega
     have HY1:=Ah qv;clear hey_ qv wh HS HL dx sj MD HM LE uh pf GJ nv H9 b_ AJ yx HQ HG
     as_aux_lemma=>
     go_wp2;exact⟨⟨y1,Xs HY4.out HY1.out,rfl,CF⟩,Rj HY4.out HY1.out⟩
   ·obtain rfl:y=b:=Gv;have q3:¬(y:Int)<(y:Int):=Gv;obtain⟨i1,ye⟩:=ey (i+1);have ei1:Ab.wrap ((i:Int)+1)=(i1:Int):=by rw[ei];omega
    have V':=Ah ye;clear ei ye HS HL dx sj MD HM LE uh pf GJ nv H9 b_ AJ yx HQ HG
    as_aux_lemma=>
    go_wp2;exact⟨⟨i1,Xs GE.out V'.out,rfl,yq⟩,Rj GE.out V'.out⟩
  ·obtain rfl:i=2:=Gv;obtain⟨k1,DG⟩:=ey (k+1);have ek1:Ab.wrap ((k:Int)+1)=(k1:Int):=by rw[ek];omega
   have CK:=Ah DG;clear ek DG HL dx sj MD HM LE uh pf GJ nv H9 b_ AJ yx HQ HG HSF lx HC
   as_aux_lemma=>
   go_wp2;exact⟨⟨k1,Xs fh.out CK.out,rfl,oz⟩,Rj fh.out CK.out⟩
 ·obtain rfl:k=mm:=Gv;have q0:¬(k:Int)<(k:Int):=Gv;have HR:=H9.out.call HB.out;obtain⟨s0,s1,s2,s3,s4,s5,s6⟩:=Kg (HR.b 1);have hs:=dx.out _ (Up I'.out HB.out);have hqt:=sj.out _ HR.below
  have mc:∀r∈lf,Nv a b r.fr=true/\Nv a b r.bk=true:=λr hr=>by
   obtain⟨i,hi,rfl⟩:=List.getElem_of_mem hr;obtain⟨e1,e2,-⟩:=HL.out.2.2 i hi;exact⟨aM e1 (by rw[pf.out.1];exact iT _ _ _),aM e2 (by rw[pf.out.2.1];exact iT _ _ _)⟩
  have di:0<k:=by rw[<-HM.out];exact Nat.div_pos Gv Gv
  have hqab:2*(a*b)=q:=by rw[AJ.out];exact HQ.out
  obtain⟨pl,dr⟩:=ey ((Ds q).map (pgK a m ids))
  have zx:∀i (hi:i<lf.length),ksL lf[i].fr=trR (gB i) (Jr a b (fmT a (pgK a m ids) q).1)/\ksL lf[i].bk=trR (gB i) (Jr a b (fmT a (pgK a m ids) q).2):=λi hi=>by
   rw[<-pf.out.1,<-pf.out.2.1];exact⟨(HL.out.2.2 i hi).1,(HL.out.2.2 i hi).2.1⟩
  obtain⟨p1,qs⟩:=ey ((if ins then pl.take (a*b)else pl));obtain⟨p2,lv⟩:=ey ((if ins then pl.drop (a*b)else[]))
  have hX:Us lf p1 p2=iM n (k*q):=by
   have hG:=HG.out;rw[<-qs,<-lv,<-dr]
   cases ins with
   |false=>
    simp only[Ek,if_false]at hG⊢;subst hG;exact Ak4 Gv GJ.out Gv HL.out.1 zx
   |true=>
    simp only[if_true]at hG⊢;subst hG;have uu:=HQ.out;rw[AJ.out];subst uu;exact Ba3 Gv GJ.out Gv HL.out.1 zx
  have ba:=Bs4 HI.out QL.2 og.2 lf LB k k HL.out.1.symm di Gv mc ins (λe=>by rw[hqab];exact yx.out e) pl p1 p2 (by rw[hqab,fg];exact dr) qs.symm lv.symm pA pc A cc wr (HL.out.2.1.below HB.out) hA hs.1 hs.2 hqt.1 hqt.2;rw[uf,qu,hX]at ba;unfold kM at ba;rw[Ac8]at ba;obtain⟨ln,nm⟩:=ey (k*q);rw[nm]at ba;have hlnb:ln<=264*64:=by rw[<-nm];exact Gq QV Gv
  have z1:Ab.wrap ((k:Int)*(q:Int))=(ln:Int):=by
   have e:(k:Int)*(q:Int)=(ln:Int):=by rw[<-nm];simp
   rw[e];exact Cb _ Gv
  have dt:=Ah ba;have PN:=Ah HR.below;clear ba hX qs lv zx mc hs hqt dr nm HL uh pf GJ nv HG yx HM LE HE dx;go_wp2_with fail;refine dt.out.mono ?_;rintro ee RP ⟨RA,rfl,ja,BO⟩;have ZP:=Ah (Up PN.out BO);have jn:=Ah ja;clear ja BO dt s0 s1 s2 s3 s4 s5 s6 HR PN;go_wp2
  go_loopw [29] (λZ0 wr5=>∃j:Nat,j<=ln/\Z0= Aa Ab j/\Hid (RP=wr5)) (λZ0 _=>ln-(intOf Z0).toNat)
  case atStart=>exact⟨0,Gv,rfl,Ah rfl⟩
  obtain⟨j,hj,rfl,HW⟩:=hrel;obtain rfl:=HW.out;by_cases me:j<ln
  ·have q8:(j:Int)<(ln:Int):=Gv;obtain⟨rb,ro,e,-,bj⟩:=jn.out.2 Gv;subst e;have v0:=bj j (Aa Ab ((Wx n j:Nat):Int)) (by simp[Ir,iM,me]);obtain⟨j1,QS⟩:=ey (j+1);have ej:Ab.wrap ((j:Int)+1)=(j1:Int):=by rw[Cb _ Gv];omega
   have HJ:=Ah (Cn me QS);have ml:Wx n j=if j1>n then 0 else j1:=by unfold Wx;rw[QS]
   rw[ml]at v0;by_cases lq:j1>n;rw[Hc lq]at v0;have q9:(n:Int)<(j1:Int):=Gv;rotate_left;rw[Ha lq]at v0;have q9:¬(n:Int)<(j1:Int):=Gv
   all_goals
    clear ml lq QS me MD sj
    as_aux_lemma=>
    go_wp2;exact⟨⟨j1,Xs HJ.out.1 HJ.out.2,rfl,Ah trivial⟩,Rj HJ.out.1 HJ.out.2⟩
  ·obtain rfl:j=ln:=Gv;have q8:¬(j:Int)<(j:Int):=Gv;go_wp2_with fail;refine(MD.out _ ZP.out).mono ?_;rintro ee w13 ⟨rfl,hb⟩;have HB:=Ah (Up ZP.out hb);clear hb;go_wp2;go_ret;exact⟨rfl,HB.out⟩
def pR {n:String}:∀{l:List (String×DataW Unit)} {ps:List MemPlace},DataW.LaidVars P W l ps->(n,d)∈l->∃g t cs fuel p,P.globalNamed n=Af g/\(P.globals[g]?).map (·.type)=Af t/\W.var? P n=Af cs/\DataW.trod (λ_=>()) P W 0 (λ_=>true) false fuel t cs.toList=Af (d,p)
 |(n',d')::r,ps,h,hm=>by
  obtain⟨g,t,cs,fuel,p,q,h1,h2,h3,h4,h5,_⟩:=h;rcases Bk.1 hm with e|hm
  ·injection e with e1 e2;subst e1;subst e2;exact⟨g,t,cs,fuel,p,h1,h2,h3,h4⟩
  ·exact pR h5 hm
def dZ {n:String} {g t:Nat} (hg:P.globalNamed n=Af g) (ht:(P.globals[g]?).map (·.type)=Af t) (hk:P.keyTypeAt m t=true) (hti:P.tiled m t=true)
  (hl:(n,d)∈l) (h:laidMet P l W) (i:Nat):W.cell? ⟨g,i,Ae⟩=(d.flat.map Lit.toCell)[i]? :=by
 obtain⟨ps,hv,_⟩:=h;obtain⟨g',t',cs,fuel,p,wl,U2,AV,htr⟩:=pR hv hl;obtain rfl:=Option.some.inj (hg.symm.trans wl);obtain rfl:=Option.some.inj (ht.symm.trans U2);obtain⟨h1,_⟩:=keyLits_of_trod m _ hk _ _ _ htr;have h2:=cells_of_lits m _ hti _ _ _ h1;rw[World.var?_cell hg AV i];rw[<-h2];simp
def Ce8 (hl:("crimp/cells.quarters",Rows.laid_crimp_cells_quarters)∈l) (h:laidMet Dp l W):Qf W:=by
 have hc:=dZ (m:=9) (t:=301) (show Tryz.prog.globalNamed "crimp/cells.quarters" =Af 1 by kernel_rfl) Gx Gx Gx hl h;have he:(Rows.laid_crimp_cells_quarters:DataW Unit).flat.map Lit.toCell=Pj:=by rfl
 rw[he]at hc;refine⟨World.block_lt_of_cell? W _ ((hc 0).trans rfl),λj v hj=>?_⟩;rw[Bu,hc j,hj]
def Cg7 (hl:("crimp/moves.turns",Rows.laid_crimp_moves_turns)∈l) (h:laidMet Dp l W):Tn W:=by
 have hc:=dZ (m:=9) (t:=228) (show Tryz.prog.globalNamed "crimp/moves.turns" =Af 0 by kernel_rfl) Gx Gx Gx hl h;refine⟨World.block_lt_of_cell? W _ ((hc 0).trans rfl),λt ht=>?_⟩;rw[hc,hc,hc,hc]
 match t,ht with
 |0,_=>exact⟨rfl,rfl,rfl,rfl⟩
 |1,_=>exact⟨rfl,rfl,rfl,rfl⟩
 |2,_=>exact⟨rfl,rfl,rfl,rfl⟩
 |3,_=>exact⟨rfl,rfl,rfl,rfl⟩
 |4,_=>exact⟨rfl,rfl,rfl,rfl⟩
 |5,_=>exact⟨rfl,rfl,rfl,rfl⟩
 |6,_=>exact⟨rfl,rfl,rfl,rfl⟩
 |7,_=>exact⟨rfl,rfl,rfl,rfl⟩
end Go.Proofs.YtlgkpdfieaadaaaGreatDoor
namespace Go.Proofs.YtlgkpdfieaadaaaGreatDoor.bbok
open Go.ChangeShapes Go.WideShapes Go.ChangeAt Go.RowKit Go.Deep
variable {W W':Aj} {x:Int}
def own:ownKnob Tryz.prog.godebug=Ae:=Gx
def Bl3:laidOutB Dp=true:=Gx
abbrev cI:List (String×DataW Unit):=[("crimp/moves.turns",Rows.laid_crimp_moves_turns),("crimp/cells.quarters",Rows.laid_crimp_cells_quarters)]
def Av9 {H:Type} {enc:Ck×Ak->H} {P:Program} {f:Func} {s:ChangeSpec} {args:Array Ak} {v:Ak} {ds:List (DataW H)} {before:List MemPlace}
  (hW:DataW.Whole enc P f.params.toList s.vars false W args.toList ds [] before)
  (hres:∀(b:Nat) (sp:Nat->Bool) (hd:Bool),DataW.TrodAll enc P W' b sp hd f.resultTypes.toList (v.resultList f.resultTypes.size) (s.fn H (ds++[])).results [])
  (hargs:DataW.TrodAll enc P W' 0 (λb=>decide (b<W.heap.size)) true f.params.toList args.toList (s.fn H (ds++[])).args before)
  (hvars:∀sp:Nat->Bool,DataW.TrodVars enc P W' sp s.vars (s.fn H (ds++[])).vars [])
  (hb:Below W.heap.size W W'):s.post enc P f false true false false W args v W':=
 ⟨ds,[],before,[],before,[],hW,hres _ _ _,hargs,hvars _,World.keptBut_mono (λp hp=>⟨hp,.inr (by simpa using hp)⟩) (hb.frame (·∈before)),λh=>by cases h⟩
def Bv9:Tryz.prog.cellsOf 23=3:=Gx
def Cf4:Tryz.prog.readableRec 23=true:=Gx
def ltG:23<Tryz.prog.types.size:=Sh Gx
def Cb3 (h:(Lit.int .u16 x).wf=true):∃k:Nat,x=k/\k<=65535:=by
 have hm:IntKind.u16.min=0:=rfl;have hM:IntKind.u16.max=65535:=rfl;simp[Lit.wf]at h;exact⟨x.toNat,Gv,Gv⟩
def Cg9 (h:(Lit.int .u8 x).wf=true):0<=x/\x<=255:=by
 have hm:IntKind.u8.min=0:=rfl;have hM:IntKind.u8.max=255:=rfl;simp[Lit.wf]at h;omega
def vI (h:(Lit.int .u8 x).wf=true):∃k:Nat,x=k/\k<=255:=by
 have:=Cg9 h;exact⟨x.toNat,Gv,Gv⟩
def By4 (os:Os) (started:os.Started) (H:Type) (enc:Ck×Ak->H):
  ReturnsInHanded {} Tryz.checked os 4 .any (λw args=>(Rows.bookletsBookSpec.pre enc Dp Tryz.f4 [] false w args/\laidMetH Dp cI w)/\sizedMet enc Dp Tryz.f4 (OpenSpec.ofChange Rows.bookletsBookSpec) false w args)
   (Rows.bookletsBookSpec.post enc Dp Tryz.f4 false true false false):=by
 refine returnsInHanded_of_change_and (C:=Tryz.checked) (X:=λw _=>laidMetH Dp cI w) (λ_ _ _ hh h=>h.of_heap hh) own started Gx Tryz.func4
  (ChangeSpec.witness_shaped (enc:=enc) (C:=Tryz.checked) (os:=os) (X:=λw _=>laidMetH Dp cI w) false (World.laidAll Dp os cI) #[.agg #[Aa Ac 0,Aa Ac 0,Aa Ac 0],.int .u16 0,.bool false] 8 (World.laidAll_os _ _ _)
   (World.shaped_of_ZipB Gx Gx) Gx Gx Gx
   (by rw[MakeChecks.laidMetH_plain _ _ _ Gx];exact laidMet_laidAll _ Gx Gx)) ?_
 intro W base args ds gs before YY hW _ _ hL _;have ml:∀(j:Nat) t v,Tryz.f4.params[j]? =Af t->args[j]? =Af v->Value.okWide Dp W .any base t v:=YY;have hW':=hW;obtain⟨p,q,XE,hV,rfl,UJ,ca⟩:=hW;have hA:DataW.TrodAll enc Dp W 0 (λ_=>true) true Tryz.f4.params.toList args.toList ds p:=XE;rw[Tryz.params4]at hA ml;obtain⟨v0,v1,v2,d0,d1,d2,p0,p1,p2,rfl,rfl,rfl,h0,h1,h2⟩:=trodAll_three hA;obtain⟨rfl,rfl⟩:=trodVars_none hV;obtain⟨x0,x1,x2,y0,y1,y2,m,rfl,-,-,V2,qv,vu⟩:=Joins.open_agg3 Tryz.underlying23 Gx Bv9 (ml 0 23 v0 rfl rfl) h0;obtain⟨pg,rfl,rfl,rfl,kp⟩:=open_int Tryz.underlying58 (ml 1 58 v1 rfl rfl) h1;obtain⟨ins,rfl,rfl,rfl⟩:=open_bool Tryz.underlying4 (ml 2 4 v2 rfl rfl) h2;have mh:=kp;obtain⟨pg,rfl,bp⟩:=Cb3 kp;obtain⟨n0,e0,-,k0⟩:=DataW.trod_int Tryz.underlying5 V2;obtain⟨n1,e1,-,k1⟩:=DataW.trod_int Tryz.underlying5 qv;obtain⟨n2,e2,-,k2⟩:=DataW.trod_int Tryz.underlying5 vu;obtain rfl:x0= Aa Ac n0:=by simpa using e0
 obtain rfl:x1= Aa Ac n1:=by simpa using e1
 obtain rfl:x2= Aa Ac n2:=by simpa using e2
 obtain⟨n0,rfl,b0⟩:=vI k0;obtain⟨n1,rfl,b1⟩:=vI k1;obtain⟨n2,rfl,b2⟩:=vI k2;rw[MakeChecks.laidMetH_plain _ _ _ Gx]at hL;have hQ:Qf W:=Ce8 (l:=cI) (by simp[cI]) hL;have hT:Tn W:=Cg7 (l:=cI) (by simp[cI]) hL;clear XE YY e0 e1 e2;simp only[List.append_nil]at hW';refine(Bl4 n0 n1 n2 pg ins b0 b1 b2 bp W hQ hT).mono λe W' ⟨he,hb⟩=>?_;subst he;have ac:∀y∈p0,y.block<W.heap.size:=λy hy=>hW'.lt y hy;refine⟨_,rfl,Av9 hW' (λ_ _ _=>trodAll_mk1 (shut_bool Tryz.underlying4 _)) ?_ (λ_=>rfl) hb⟩
 have h9:=trodAll_mk3 (Below.trod Bl3 Cf4 ltG h0 hb λy hy=>ac y (by simp[hy])) (shut_int Tryz.underlying58 mh) (shut_bool Tryz.underlying4 ins);simp only[List.append_nil,List.nil_append]at h9;exact h9
theorem holds:Rows.BookletsBookSaid:=
 OpenClaim.holds_of_wide 4 Tryz.f4 rfl rfl rfl rfl rfl rfl rfl ⟨rfl,rfl,rfl,rfl,rfl⟩ rfl rfl rfl rfl rfl Gx Tryz.func4 Bx6
  (Sh Gx) (by unfold Func.isWrapper;first|(rw[Hc (by decide+kernel)];kernel_rfl)|(rw[Ha (by decide+kernel)];exact⟨rfl,rfl⟩))
  (λos started H enc _=>By4 os started H enc)
end Go.Proofs.YtlgkpdfieaadaaaGreatDoor.bbok
