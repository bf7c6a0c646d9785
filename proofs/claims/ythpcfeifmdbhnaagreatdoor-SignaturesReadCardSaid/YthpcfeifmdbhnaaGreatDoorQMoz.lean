import Derived.Test.YthpcfeifmdbhnaaGreatDoorQRsC
import Derived.Deep.RegionHeld
import Derived.Test.YthpcfeifmdbhnaaGreatDoorQCel2
import Derived.BigFrameIn
import Derived.Test.YthpcfeifmdbhnaaGreatDoorQCrd
import Derived.Deep.RegionHeld3
open Array renaming getElem?_eq_some_iff→Au
open Go renaming Calls→Al,Value→Ak,World→Aj,bodyPost_ret→Ai,cell_of_row→By,heap_alloc_new→Bz,wpAnyH_done→An,wp_region_held_drew→Ao
open Go.IntKind renaming i64→Ab,u8→Ac
open Go.IntWalk renaming i64_in→Ca,wrap64_in→Cb
open Go.Lib renaming hid→Ah
open Go.RowKit.Below renaming refl→Ag
open Go.Value renaming int→Aa,slice→Ad
open List renaming getElem_cons_succ→Cd,getElem_cons_zero→Cc,getElem_mem→Ay,getElem_toArray→Ce,length_map→Bo,length_take→Bm,mem_cons→Bk,replicate→Ba,setIfInBounds_toArray→Ch,set_cons_succ→Cg,set_cons_zero→Cf,take_succ_eq_append_getElem→Bc
open Nat renaming le_refl→Am,le_trans→Br
open Option renaming none→Ae,some→Af
set_option maxHeartbeats 16000000
set_option maxRecDepth 100000
namespace Go.Proofs.YthpcfeifmdbhnaaGreatDoor
open Go.RowKit Go.Shelf
section
variable {P:Program} {ops:Array Oper} {Q:Exit→Act→Aj→Prop} {l n:Nat}
theorem An0 {o:Oper} (hd:∀c,o.op≠.defer c) {a:Act} {w:Aj} {K K':Act→Aj→Prop} (hK:∀a w,K a w→K' a w) (h:o.wp P a w K Q):o.wpIn (Fence.wide.inRound l) n P a w K' Q:=by
 refine⟨λ_ _=>trivial,?_⟩;rw[Oper.semAt_eq _ _ _ hd];unfold Oper.wp at h
 generalize (execOp a.eval o).run P w=r at h⊢
 cases r with
 |ok x w'=>
  cases x with
  |value v=>exact hK _ _ h
  |skip=>exact hK _ _ h
  |defer d=>exact hK _ _ h
  |enter f args=>
   refine⟨λhh=>Bool.noConfusion (show false=true from hh),CallsIn.inRound l (callsIn_wide.2 (h.mono λe w'' he=>?_))⟩
   cases e with
   |returned v=>exact hK _ _ he
   |panicked c=>exact he
   |outgrown=>exact he
  |row r args=>exact⟨λhh=>Bool.noConfusion (show false=true from hh),λc cs _=>let⟨v,w'',r,s⟩:=h c cs;⟨v,w'',hK _ _ r,stepsIn_wide.2 s⟩⟩
  |_=>exact h.elim
 |halt x w'=>
  cases x<;>exact h
theorem dO (hq:¬LetsOut Q) (hd:∀(i:Nat) (o:Oper),ops[i]? =Af o→∀c,o.op≠.defer c):∀(is:List Nat) (a:Act) (w:Aj),wpOps P ops Q is a w→wpOpsIn (Fence.wide.inRound l) n P ops Q is a w
 |[],_,_,h=>h
 |i::rest,a,w,h=>by
  unfold wpOps at h;unfold wpOpsIn
  cases ho:ops[i]? with
  |none=>
   rw[ho]at h;exact dO hq hd rest a w h
  |some o=>
   rw[ho]at h;dsimp only at h⊢
   split at h
   ·rename_i hw;rw[if_pos hw];rcases h with h|⟨-,h⟩
    ·exact An0 (hd i o ho) (λa w=>dO hq hd rest a w) h
    ·exact absurd h hq
   ·rename_i hw;rw[if_neg hw];exact⟨λ_ _=>trivial,dO hq hd rest _ w h⟩
theorem uU {id:Nat} {S:Aj→Prop} {a:Act} {w:Aj} (hm:P.follows .mixedOrders=true) (hq:¬LetsOut Q) (hd:(ops.all λo=>match o.op with| .defer _=>false|_=>true)=true)
  (hS:S w.drew) (h:S w.drew→wpAnyH P .any ops Q S ops.size (Array.replicate ops.size false) a w.drew):(Code.region id ops true).wpIn (Fence.wide.inRound l) n P Q a w:=
 wpIn_region_draw λt=>by
  simp only[Region.schedule,hm,Bool.true_or,if_true];refine dO hq (λi o ho c hc=>?_) _ _ _ (wpAny_sound ops.size t _ a _ (wpAny_of_held _ _ _ _ (h hS)));have:=Array.all_eq_true.1 hd i (Au.1 ho).1;rw[(Au.1 ho).2,hc]at this
  cases this
end
end Go.Proofs.YthpcfeifmdbhnaaGreatDoor
namespace Go.Proofs.YthpcfeifmdbhnaaGreatDoor
open Go.RowKit
theorem Oj {W W':Aj} {b:Nat} (h:W'.heap[b]? =W.heap[b]?) (o:Nat):W'.cell? ⟨b,o,Ae⟩=W.cell? ⟨b,o,Ae⟩:=by
 unfold World.cell?;rw[h]
section
variable {P:Program} {ops:Array Oper} {Q:Exit→Act→Aj→Prop} {md:Region.Mode} {S:Aj→Prop} {oi oj ok:Oper} {fuel:Nat} {listed:Array Bool} {a:Act} {w:Aj}
end
end Go.Proofs.YthpcfeifmdbhnaaGreatDoor
namespace Go.Proofs.YthpcfeifmdbhnaaGreatDoor
open Go.RowKit Go.Shelf
attribute [local go_sem] Oper.semAt_some
abbrev BwA (P:Nat→Prop):={x:Nat×Nat//P x.2}
def bwL (P:Nat→Prop) (ls:List Nat) (h:∀i∈ls,P i):List (BwA P):=
 (List.range ls.length).attach.map λk=>⟨(ls.length-1-k.1,ls[ls.length-1-k.1]'(by have:=List.mem_range.1 k.2;omega)),h _ (Ay _)⟩
def bwE {P:Nat→Prop} (x:BwA P):Array Ak:=#[Aa Ab (x.1.1:Nat),Aa Ab (x.1.2:Nat)]
theorem Wk {P:Nat→Prop} {ls:List Nat} {h:∀i∈ls,P i}:(bwL P ls h).length=ls.length:=by simp[bwL]
theorem pN {P:Nat→Prop} {ls:List Nat} {h:∀i∈ls,P i} {k:Nat} (hk:k<(bwL P ls h).length):((bwL P ls h)[k]).1=(ls.length-1-k,ls[ls.length-1-k]'(by rw[Wk]at hk;omega)):=by
 simp[bwL]
theorem Ah2 {P:Nat→Prop} {ls:List Nat} {h:∀i∈ls,P i}:(bwL P ls h).map (·.1.2)=ls.reverse:=by
 apply List.ext_getElem
 ·simp[bwL]
 ·intro k h1 h2;rw[List.getElem_map,pN,List.getElem_reverse]
theorem Ag7 (P:Nat→Prop) (Bn n₀:Nat) (A:Option Addr) (ls:List Nat) (cap:Nat) (hP:∀i∈ls,P i) (hlen:ls.length≤100000) (l n:Nat) (hn:1≤n) (J Jx:List (BwA P)→Aj→Prop) (W:Aj)
  (hY:∀pre x W1,J pre W1→pre.length<ls.length→YieldAt Fence.wide (n-1) Tryz.prog l (bwE x) W1 λe W'=>
   (e= .returned (.bool true)∧J (pre++[x]) W'∧Hw n₀ Bn W1 W')∨(e= .returned (.bool false)∧Jx (pre++[x]) W'))
  (hBn:W.heap[Bn]? =Af (Obj.cells #[Ad A ls.length cap] 46 (0,0))) (_:n₀≤W.heap.size) (hc:∀j (hj:j<ls.length),∃b o,A=Af ⟨b,o,Ae⟩∧b<n₀∧W.cell? ⟨b,o+j,Ae⟩=Af (Aa Ab (ls[j]:Nat))) (h0:J [] W):
  CallsIn Fence.wide n Tryz.prog 58 #[.func (.yield l) #[] #[],.pointer (Af ⟨Bn,0,Ae⟩)] W λe W'=>(∃v,e= .returned v)∧
   ((∃ys,ys=bwL P ls hP∧J ys W')∨(∃pre,True∧Jx pre W')):=by
 refine callsIn_of_wp Tryz.func58 rfl trivial ?_ rfl;simp only[Tryz.ntmps58,List.size_toArray,List.length_cons,List.length_nil,Nat.reduceAdd,Nat.reduceSub,Array.replicate_succ,Array.replicate_zero,List.push_toArray,List.append_toArray,List.nil_append,List.cons_append];have hbl:=Wk (h:=hP)
 have hbg:∀zs,bwL P ls hP=zs→∀k (hk:k<zs.length) j (hj:j<ls.length),j=ls.length-1-k→zs[k].1=(j,ls[j]):=by
  rintro _ rfl k hk j hj rfl;exact pN hk
 obtain⟨zs,hzs⟩:=ey (bwL P ls hP);have HBG:=Ah (hbg zs hzs);rw[hzs]at hbl⊢;obtain⟨N,hN⟩:=ey ls.length;have hb0:W.cell? ⟨Bn,0,Ae⟩=Af (Ad A N cap):=by rw[By _ _ 0 _ _ _ hBn,←hN];rfl
 have HC:=Ah hc;have HNN:=Ah hN;rw[hN]at hlen hY hbl;have e1:wrap64 ((N:Int)-1)=(N:Int)-1:=Cb _ Ci;clear hzs hbg hc hN
 gi_wp2
 gi_loopw [3] (λs3 wr=>∃(k:Nat) (i:Int),k≤N∧i=(N:Int)-1-k∧s3= Aa Ab i∧J (zs.take k) wr∧Hw n₀ Bn W wr) (λs3 _=>(intOf s3+1).toNat)
 case atStart=>exact⟨0,(N:Int)-1,Nat.zero_le _,Ci,rfl,h0,Ag _ _,rfl⟩
 case round=>
  obtain⟨k,i,hk,hi,rfl,hJ0,hB⟩:=hrel;have c0:wr.cell? ⟨Bn,0,Ae⟩=Af (Ad A N cap):=(Oj hB.2 0).trans hb0;by_cases hlt:k<N
  ·obtain⟨j,rfl⟩:∃j:Nat,i=j:=⟨N-1-k,Ci⟩;have hjk:j=N-1-k:=Ci;have hj:j<ls.length:=by have:=HNN.out;omega
   obtain⟨b,o,rfl,hbn,d0⟩:=HC.out j hj;have d0:=(hB.1.cell (p:=⟨b,o+j,Ae⟩) hbn).trans d0;obtain⟨iv,hv⟩:=ey (ls[j]);rw[hv]at d0;have hkz:k<zs.length:=Ci;have q0:(j:Int)≥0:=Ci;have q1:(j:Int)<(N:Int):=Ci;have e2:wrap64 ((j:Int)-1)=(j:Int)-1:=Cb _ Ci
   have hx:zs[k].1=(j,iv):=by
    rw[HBG.out k hkz j hj (by have:=HNN.out;omega),hv]
   obtain⟨fn,tmps,assign,body,hy,hR⟩:=hY _ zs[k] _ hJ0 (by rw[Bm];omega);unfold bwE at hy;rw[hx]at hy;dsimp only at hy;have htk:zs.take k++[zs[k]]=zs.take (k+1):=(Bc hkz).symm;have HJK:=Ah hjk;clear hv hx hjk hi
   gi_wp2
   refine hR.mono ?_;rintro e W3 (⟨rfl,hJ3,hk3⟩|⟨rfl,hJx3⟩)
   ·rw[htk]at hJ3
    gi_wp2
    go_roundw
    case rel=>exact⟨k+1,(j:Int)-1,Ci,by have:=HJK.out;omega,by go_num,hJ3,Oy hB hk3⟩
    case measure=>simp[intOf]
   ·gi_wp2
    refine Ai (results_none rfl _ _ _) rfl ?_;exact⟨⟨_,rfl⟩,.inr ⟨_,trivial,hJx3⟩⟩
  ·obtain rfl:k=N:=Ci;have q0:¬i≥0:=Ci
   gi_wp2
   go_end0
   rw[←hbl,List.take_length]at hJ0;exact⟨⟨_,rfl⟩,.inl hJ0⟩
theorem cJ (A:Option Addr) (n c:Nat) (w:Aj):
  Al Tryz.prog 24 #[Ad A n c] w λe w'=>e= .returned (.func (.func 58) #[] #[.pointer (Af ⟨w.heap.size,0,Ae⟩)])∧w'=w.alloc (.cells #[Ad A n c] 46):=by
 go_enter Tryz.func24,Tryz.ntmps24;go_wp2;go_ret;exact⟨rfl,rfl⟩
theorem bH {α:Type} {F:Fence} {n:Nat} {P:Program} {g:Operand} {ps:Array Tmp} {assign body:Code} {Q:Exit→Act→Aj→Prop} {a:Act} {w:Aj}
  (hro:F.round=Ae) (h1:1≤n) {gf:Nat} {lb:Array Ak} (hg:a.eval g= .func (.func gf) #[] lb) (hFg:F.fn gf) (eg:∀args w,(callFunc gf args).run P w= .ok (.enter gf args) w)
  {encs:α→Array Ak} {Kp:Aj→Aj→Prop} {S Sp:List α→Prop} {N:Nat} {w0:Aj} (hseq:SeqStopsK F (n-1) P gf lb encs Kp S Sp N w0)
  (hKt:∀{A B C:Aj},Kp A B→Kp B C→Kp A C) (hKr:∀A,Kp A A) (hKb:∀(W:Aj) (l:Nat) (o o':Obj),w.heap.size≤l→W.heap[l]? =Af o→o.isCells=false→o.isWalk=false→Kp W (W.putObj l o')) (hb0:Below w0.heap.size w0 w) (hps:∀x,(encs x).size=ps.size)
  (I:List α→Aj→Prop) (hI:OwnFrom w.heap.size I) (h0:I [] w) (T:α→Array Ak)
  (hassign:∀(l:Nat) (x:α) (W:Aj) (K:Act→Aj→Prop),K {tmps:=T x,defers:=[]} W→
   assign.wpIn (F.inRound l) (n-1-1) P (Exit.then K (λ_ _ _=>False)) {tmps:=(ps.zip (encs x)).foldl (λt (p,v)=>t.setIfInBounds p v) a.tmps,defers:=[]} W)
  (hbody:∀(l:Nat) (pre:List α) (x:α) (W:Aj),I pre W→pre.length<N→body.wpIn (F.inRound l) (n-1-1) P (ownPostG w.heap.size Kp I (λ_ _ _=>False) (pre++[x]) W) {tmps:=T x,defers:=[]} W)
  (hdone:∀(D:Nat) (xs:List α) (W:Aj),w.heap.size≤D→S xs→I xs W→W.heap[D]? =Af (.deferred (Af []))→Q .normal {a with defers:={target:= .collected D,args:=#[]}::a.defers} W):
  (Code.rangeFunc g ps assign body).wpIn F n P Q a w:=
 wpIn_rangeFunc_ownH hro h1 hg hFg eg hseq hKt hKb hb0 hps I (λ_ _ _=>False) hI (λ_ _ _ _ _ hs _ _=>hs) h0 (λx a' _=>a'={tmps:=T x,defers:=[]}) (λ_ _ _ _ _ _ hs _ _=>hs)
  (λl _ x W K hi hK=>hassign l x W K (hK _ _ (KeepsFrom.refl _ _) (hKr _) hi rfl))
  (λl pre x a' W _ _ hi ha hN=>by subst ha;exact hbody l pre x W hi hN)
  hdone (λ_ _ _ _ _ _ h _=>h.elim)
theorem kH (P:Nat→Prop) (Bn n₀:Nat) (A:Option Addr) (ls:List Nat) (cap:Nat) (hP:∀i∈ls,P i) (hlen:ls.length≤100000) (n:Nat) (hn:1≤n) (w:Aj)
  (hBn:w.heap[Bn]? =Af (Obj.cells #[Ad A ls.length cap] 46 (0,0))) (hn₀:n₀≤w.heap.size) (hc:∀j (hj:j<ls.length),∃b o,A=Af ⟨b,o,Ae⟩∧b<n₀∧w.cell? ⟨b,o+j,Ae⟩=Af (Aa Ab (ls[j]:Nat))):
  SeqStopsK Fence.wide n Tryz.prog 58 #[.pointer (Af ⟨Bn,0,Ae⟩)] (bwE (P:=P)) (Hw n₀ Bn) (λys=>ys=bwL P ls hP) (λ_=>True) ls.length w:=λl J Jx W hW _ _ hY h0=>
 Ag7 P Bn n₀ A ls cap hP hlen l n hn J Jx W hY (kept hW hBn (Au.1 hBn).1) (Br hn₀ hW.size) (λj hj=>by
  obtain⟨b,o,e,hb,hcc⟩:=hc j hj;exact⟨b,o,e,hb,(hW.cell (p:=⟨b,o+j,Ae⟩) (by show b<_;omega)).trans hcc⟩) h0
end Go.Proofs.YthpcfeifmdbhnaaGreatDoor
namespace Go.Proofs.YthpcfeifmdbhnaaGreatDoor
open Go.RowKit
theorem Ab3:(Tryz.prog.info? 155).map (λi=>(i.zero,i.size,i.bytes))=Af (Af (Ad Ae 0 0),1,24):=Cm
theorem Pj {w:Aj} {g i:Nat} {cs:Array Ak} {t:TypeId} {v:Ak} (h:w.heap[g]? =Af (.cells cs t (0,0))):(w.setCell ⟨g,i,Ae⟩ v).heap[g]? =Af (.cells (cs.setIfInBounds i v) t (0,0)):=by
 rw[setCell_eq_setRow w g i cs t (0,0) v h];unfold World.setRow;rw[Array.getElem?_modify,if_pos rfl,h];rfl
theorem Db {w:Aj} {g i k:Nat} {v:Ak} (h:k≠g):(w.setCell ⟨g,i,Ae⟩ v).heap[k]? =w.heap[k]? :=by
 simp[World.setCell,Array.getElem?_modify,Ne.symm h]
theorem Oz (z:Ak) (n:Nat) (hc:z.cells= #[z]):madeCells z.cells n=(Ba n z).toArray:=by
 rw[hc];apply Array.ext
 ·simp[madeCells]
 ·intro i h1 h2;simp[madeCells,Nat.mod_one]
theorem aW (n:Nat) (h:n≤1000) (w:Aj):(Instr.makeSlice 78 (Aa Ab n) (Aa Ab n)).run Tryz.prog w= .ok (Ad (Af ⟨w.heap.size,0,Ae⟩) n n) (w.alloc (.cells (Ba n (Ad Ae 0 0)).toArray 155)):=by
 obtain⟨i0,hi0,hz0,hz1,hz2⟩:=info_parts Ab3;have:=run_makeSlice (P:=Tryz.prog) w 78 155 i0 _ Tryz.underlying78 hi0 hz0 .i64 .i64 n n Ci Ci (by rw[hz1];simp;omega) (by rw[hz2];omega) Ci;rw[hz1,Nat.mul_one,Int.toNat_natCast,Oz _ n rfl]at this;exact this
theorem tL:(Tryz.prog.info? 122).map (λi=>(i.zero,i.size,i.bytes))=Af (Af (Aa Ac 0),1,1):=Cm
theorem Yh (n:Nat) (h:n≤1000) (w:Aj):(Instr.makeSlice 155 (Aa Ab n) (Aa Ab n)).run Tryz.prog w= .ok (Ad (Af ⟨w.heap.size,0,Ae⟩) n n) (w.alloc (.cells (Ba n (Aa Ac 0)).toArray 122)):=by
 obtain⟨i0,hi0,hz0,hz1,hz2⟩:=info_parts tL;have:=run_makeSlice (P:=Tryz.prog) w 155 122 i0 _ Tryz.underlying155 hi0 hz0 .i64 .i64 n n Ci Ci (by rw[hz1];simp;omega) (by rw[hz2];omega) Ci;rw[hz1,Nat.mul_one,Int.toNat_natCast,Oz _ n rfl]at this;exact this
def Rt (n b:Nat):Ak:= Ad (Af ⟨b,0,Ae⟩) n n
def jW (n:Nat):Obj:= .cells (Ba n (Value.int .u8 0)).toArray 122
def Nf (n M k y:Nat):Obj:= .cells (((List.range y).map λi=>Rt k (M+i))++Ba (n-y) (Value.slice Ae 0 0)).toArray 155
structure Tx (w:Aj) (g n M k y:Nat):Prop where
 hd:w.heap[g]? =Af (Nf n M k y)
 row:∀i,i<y→w.heap[M+i]? =Af (jW k)
theorem Xq {w:Aj} {g n M k y:Nat} (h:w.heap[g]? =Af (Nf n M k y)) (hy:y<n):w.cell? ⟨g,y,Ae⟩=Af (Ad Ae 0 0)∧w.frozen? ⟨g,y,Ae⟩=false:=by
 unfold Nf at h
 constructor
 ·rw[By _ _ y _ _ _ h];obtain⟨m,rfl⟩:∃m,n=y+1+m:=⟨n-y-1,Ci⟩;rw[show y+1+m-y=m+1 by omega,List.replicate_succ];simp
 ·simp[World.frozen?,h]
theorem aP {n M k y:Nat} (hy:y<n):(((List.range y).map λi=>Rt k (M+i))++Ba (n-y) (Value.slice Ae 0 0)).toArray.setIfInBounds y (Rt k (M+y))=(((List.range (y+1)).map λi=>Rt k (M+i))++Ba (n-(y+1)) (Value.slice Ae 0 0)).toArray:=by
 obtain⟨m,rfl⟩:∃m,n=y+1+m:=⟨n-y-1,Ci⟩;rw[show y+1+m-y=m+1 by omega,show y+1+m-(y+1)=m by omega,List.replicate_succ,List.range_succ,List.map_append];simp
theorem Fs (n M k:Nat):Nf n M k 0= .cells (Array.replicate n (Value.slice Ae 0 0)) 155:=by simp[Nf]
theorem Ie (w:Aj) (o0 o1 o2 o3:Obj):((((w.alloc o0).alloc o1).alloc o2).alloc o3).drew.heap[w.heap.size]? =Af o0∧((((w.alloc o0).alloc o1).alloc o2).alloc o3).drew.heap[w.heap.size+1]? =Af o1∧
  ((((w.alloc o0).alloc o1).alloc o2).alloc o3).drew.heap[w.heap.size+1+1]? =Af o2∧((((w.alloc o0).alloc o1).alloc o2).alloc o3).drew.heap[w.heap.size+1+1+1]? =Af o3∧
  ((((w.alloc o0).alloc o1).alloc o2).alloc o3).drew.heap.size=w.heap.size+4∧Below w.heap.size w ((((w.alloc o0).alloc o1).alloc o2).alloc o3).drew:=by
 have hb:Below w.heap.size w ((((w.alloc o0).alloc o1).alloc o2).alloc o3).drew:=(((((Ag _ _).alloc (Am _) _).alloc Cn _).alloc (by simp;omega) _).alloc (by simp;omega) _).drew;have s1:(w.alloc o0).heap.size=w.heap.size+1:=Cn;have s2:((w.alloc o0).alloc o1).heap.size=w.heap.size+1+1:=Cn;have s3:(((w.alloc o0).alloc o1).alloc o2).heap.size=w.heap.size+1+1+1:=Cn;have a0:=Bz w o0;have a1:=Bz (w.alloc o0) o1;have a2:=Bz ((w.alloc o0).alloc o1) o2;have a3:=Bz (((w.alloc o0).alloc o1).alloc o2) o3;have b1:∀(v:Aj) (o:Obj),Below v.heap.size v (v.alloc o):=λv o=>(Ag _ _).alloc (Am _) o;have c0:=kept (b1 _ o3) (kept (b1 _ o2) (kept (b1 _ o1) a0 Ci) Ci) Ci;have c1:=kept (b1 _ o3) (kept (b1 _ o2) a1 Ci) Ci;have c2:=kept (b1 _ o3) a2 Ci;rw[s1]at c1;rw[s2]at c2;rw[s3]at a3;exact⟨c0,c1,c2,a3,Cn,hb⟩
def Ky (wr:Aj) (g y k:Nat):Aj:=((wr.setCell ⟨g,y,Ae⟩ (Ad (Af ⟨wr.heap.size,0,Ae⟩) k k)).alloc (.cells (Array.replicate k (Value.int .u8 0)) 122)).drew
theorem Zi (wr:Aj) (g y k:Nat):(Ky wr g y k).heap.size=wr.heap.size+1:=by simp[Ky]
theorem bT {wr:Aj} {g y k j:Nat} (hj:j<wr.heap.size):(Ky wr g y k).heap[j]? =(wr.setCell ⟨g,y,Ae⟩ (Ad (Af ⟨wr.heap.size,0,Ae⟩) k k)).heap[j]? :=by
 unfold Ky;exact((Ag _ _).alloc (Am _) _:Below (wr.setCell ⟨g,y,Ae⟩ (Ad (Af ⟨wr.heap.size,0,Ae⟩) k k)).heap.size _ _).block j (by simpa using hj)
theorem Jh {wr:Aj} {g y k j:Nat} (hj:j<wr.heap.size) (hne:j≠g):(Ky wr g y k).heap[j]? =wr.heap[j]? :=(bT hj).trans (Db hne)
theorem vI (wr:Aj) (g y k:Nat):(Ky wr g y k).heap[wr.heap.size]? =Af (jW k):=by
 have:=Bz (wr.setCell ⟨g,y,Ae⟩ (Ad (Af ⟨wr.heap.size,0,Ae⟩) k k)) (.cells (Array.replicate k (Value.int .u8 0)) 122);rw[World.size_setCell]at this;unfold Ky jW;rw[List.toArray_replicate];exact this
theorem Tx.step {wr:Aj} {g n M k y:Nat} (h:Tx wr g n M k y) (hy:y<n) (hs:wr.heap.size=M+y) (hg:g<M):Tx (Ky wr g y k) g n M k (y+1):=by
 refine⟨?_,λi hi=>?_⟩
 ·rw[bT Ci];have:=Pj (i:=y) (v:= Ad (Af ⟨wr.heap.size,0,Ae⟩) k k) h.hd;rw[this];have e:=aP (M:=M) (k:=k) hy;unfold Rt at e;unfold Nf Rt;rw[hs,e]
 ·by_cases e:i=y
  ·subst e;rw[←hs];exact vI _ _ _ _
  ·rw[Jh Ci Ci];exact h.row i Ci
theorem Tx.far {wr wx:Aj} {g n M k y:Nat} (h:Tx wr g n M k y) (hg:wx.heap[g]? =wr.heap[g]?) (hr:∀i,i<y→wx.heap[M+i]? =wr.heap[M+i]?):Tx wx g n M k y:=⟨hg.trans h.hd,λi hi=>(hr i hi).trans (h.row i hi)⟩
theorem Vv {w wr:Aj} {g y k:Nat} (h:Below w.heap.size w wr) (hg:w.heap.size≤g):Below w.heap.size w (Ky wr g y k):=((h.setCell hg _).alloc (by simpa using h.size) _).drew
def vW (W1 H1:Nat) (w:Aj) (e:Ending) (w':Aj):Prop:=
 ∃gR gU M,gR≠gU∧w.heap.size≤gR∧gR<M∧w.heap.size≤gU∧gU<M∧e= .returned (.agg #[Aa Ab (W1+1:Nat),Aa Ab (H1+1:Nat),Ad (Af ⟨gR,0,Ae⟩) (H1+1) (H1+1),Ad (Af ⟨gU,0,Ae⟩) H1 H1])∧
  Tx w' gR (H1+1) M W1 (H1+1)∧Tx w' gU H1 (M+(H1+1)) (W1+1) H1∧w'.heap.size=M+(H1+1)+H1∧Below w.heap.size w w'
theorem rX (W1 H1:Nat) (w:Aj) (hW:W1≤20) (hH:H1≤20):
  Al Tryz.prog 57 #[Aa Ab (W1+1:Nat),Aa Ab (H1+1:Nat)] w (vW W1 H1 w):=by
 obtain⟨W,hWe⟩:=ez (W1+1);obtain⟨H,hHe⟩:=ez (H1+1);rw[←hWe,←hHe];have HWE:=Ah hWe;have HHE:=Ah hHe;have m1:=aW H Ci;have m2:=aW H1 Ci;have m3:=Yh W1 Ci;have m4:=Yh W Ci;have e1:Ab.wrap ((H:Int)-1)=(H1:Int):=by rw[Ca _ Ci];omega
 have e2:Ab.wrap ((W:Int)-1)=(W1:Int):=by rw[Ca _ Ci];omega
 simp only[List.toArray_replicate]at m1 m2 m3 m4;have hHb:H≤21:=Ci;clear hWe hHe;go_enter Tryz.func57,Tryz.ntmps57;go_upto_region 1 with fail;obtain⟨N,hN⟩:=ez w.heap.size;go_cut [5]from 5 to 15 (λs5 wx=>∃g5 gR gU,s5= .pointer (Af ⟨g5,0,Ae⟩)∧N<g5∧N<gR∧N<gU∧g5≠gR∧g5≠gU∧gR≠gU∧g5<N+4∧gR<N+4∧gU<N+4∧wx.heap.size=N+4∧wx.heap[g5]? =Af (.cells #[Aa Ab W,Aa Ab H,Ad (Af ⟨gR,0,Ae⟩) H H,Ad (Af ⟨gU,0,Ae⟩) H1 H1] 80 (0,0))∧wx.heap[gR]? =Af (Nf H (N+4) W1 0)∧wx.heap[gU]? =Af (Nf H1 (N+4+H) W 0)∧(∃o,wx.heap[N]? =Af (.cells o 80 (0,0))∧o.size=4)∧Below w.heap.size w wx)
 case first=>
  go_region
  all_goals
   go_wp2;go_meet;subst hN
   first
   |exact⟨w.heap.size+1,w.heap.size+1+1,w.heap.size+1+1+1,rfl,Ci,Ci,Ci,Ci,Ci,Ci,Ci,Ci,Ci,(Ie w _ _ _ _).2.2.2.2.1,(Ie w _ _ _ _).2.1,by rw[Fs];exact(Ie w _ _ _ _).2.2.1,by rw[Fs];exact(Ie w _ _ _ _).2.2.2.1,⟨_,(Ie w _ _ _ _).1,rfl⟩,(Ie w _ _ _ _).2.2.2.2.2⟩
   |exact⟨w.heap.size+1,w.heap.size+1+1+1,w.heap.size+1+1,rfl,Ci,Ci,Ci,Ci,Ci,Ci,Ci,Ci,Ci,(Ie w _ _ _ _).2.2.2.2.1,(Ie w _ _ _ _).2.1,by rw[Fs];exact(Ie w _ _ _ _).2.2.2.1,by rw[Fs];exact(Ie w _ _ _ _).2.2.1,⟨_,(Ie w _ _ _ _).1,rfl⟩,(Ie w _ _ _ _).2.2.2.2.2⟩
   |exact⟨w.heap.size+1+1,w.heap.size+1,w.heap.size+1+1+1,rfl,Ci,Ci,Ci,Ci,Ci,Ci,Ci,Ci,Ci,(Ie w _ _ _ _).2.2.2.2.1,(Ie w _ _ _ _).2.2.1,by rw[Fs];exact(Ie w _ _ _ _).2.1,by rw[Fs];exact(Ie w _ _ _ _).2.2.2.1,⟨_,(Ie w _ _ _ _).1,rfl⟩,(Ie w _ _ _ _).2.2.2.2.2⟩
   |exact⟨w.heap.size+1+1,w.heap.size+1+1+1,w.heap.size+1,rfl,Ci,Ci,Ci,Ci,Ci,Ci,Ci,Ci,Ci,(Ie w _ _ _ _).2.2.2.2.1,(Ie w _ _ _ _).2.2.1,by rw[Fs];exact(Ie w _ _ _ _).2.2.2.1,by rw[Fs];exact(Ie w _ _ _ _).2.1,⟨_,(Ie w _ _ _ _).1,rfl⟩,(Ie w _ _ _ _).2.2.2.2.2⟩
   |exact⟨w.heap.size+1+1+1,w.heap.size+1,w.heap.size+1+1,rfl,Ci,Ci,Ci,Ci,Ci,Ci,Ci,Ci,Ci,(Ie w _ _ _ _).2.2.2.2.1,(Ie w _ _ _ _).2.2.2.1,by rw[Fs];exact(Ie w _ _ _ _).2.1,by rw[Fs];exact(Ie w _ _ _ _).2.2.1,⟨_,(Ie w _ _ _ _).1,rfl⟩,(Ie w _ _ _ _).2.2.2.2.2⟩
   |exact⟨w.heap.size+1+1+1,w.heap.size+1+1,w.heap.size+1,rfl,Ci,Ci,Ci,Ci,Ci,Ci,Ci,Ci,Ci,(Ie w _ _ _ _).2.2.2.2.1,(Ie w _ _ _ _).2.2.2.1,by rw[Fs];exact(Ie w _ _ _ _).2.2.1,by rw[Fs];exact(Ie w _ _ _ _).2.1,⟨_,(Ie w _ _ _ _).1,rfl⟩,(Ie w _ _ _ _).2.2.2.2.2⟩
 case rest=>
  obtain⟨g5,gR,gU,rfl,l5,lR,lU,n5R,n5U,nRU,k5,kR,kU,hsz,h5,hR,hU,⟨o4,h4,ho4⟩,hbV⟩:=hcut;obtain⟨M,hM⟩:=ez (N+4);rw[←hM]at hR hU k5 kR kU hsz;have HM4:=Ah hM;have HN:=Ah hN;have H4:=Ah h4;have H5:=Ah h5;have HR:=Ah hR;have HU:=Ah hU;have NRU:=Ah nRU;have N5R:=Ah n5R;have N5U:=Ah n5U;clear hM hN h4 hR hU nRU n5R n5U;obtain⟨⟨x0,x1,x2,x3⟩,_⟩:=Ez h5;clear h5;go_wp2
  go_loopw [6,19] (λ_ s19 wr=>∃y:Nat,y≤H∧s19= Aa Ab y∧wr.heap.size=M+y∧Hid (wr.heap[N]? =Af (.cells o4 80 (0,0)))∧Hid (wr.heap[g5]? =Af (.cells #[Aa Ab W,Aa Ab H,Ad (Af ⟨gR,0,Ae⟩) H H,Ad (Af ⟨gU,0,Ae⟩) H1 H1] 80 (0,0)))∧Hid (wr.heap[gU]? =Af (Nf H1 (M+H) W 0))∧Hid (Tx wr gR H M W1 y)∧Below w.heap.size w wr) (λ_ s19 _=>H-(intOf s19).toNat)
  case atStart=>exact⟨0,Ci,rfl,hsz,H4,H5,HU,Ah ⟨HR.out,λi hi=>Ci⟩,hbV⟩
  case round=>
   clear x0 x1 x2 x3;obtain⟨y,hy,rfl,hszr,G4,G5,GU,GL,hbr⟩:=hrel;obtain⟨⟨x0,x1,x2,x3⟩,_⟩:=Ez G5.out;by_cases hlt:y<H
   ·have q1:(y:Int)<(H:Int):=Ci;obtain⟨c1,c2⟩:=Xq GL.out.hd hlt;have hg1:gR<wr.heap.size:=Ci;have hg2:g5<wr.heap.size:=Ci;have HSZ:=Ah hszr;clear hszr;go_wp2
    go_region
    change Exit.inBlock 1 _ _ _ (Ky wr gR y W1);have T4:=Ah ((Jh (g:=gR) (y:=y) (k:=W1) (by have:=HSZ.out;omega) Ci).trans G4.out);have T5:=Ah ((Jh (g:=gR) (y:=y) (k:=W1) hg2 N5R.out).trans G5.out);have TU:=Ah ((Jh (g:=gR) (y:=y) (k:=W1) (by have:=HSZ.out;omega) (Ne.symm NRU.out)).trans GU.out);have TL:=Ah (GL.out.step hlt HSZ.out kR);have TB:Below w.heap.size w (Ky wr gR y W1):=Vv hbr (by have:=HN.out;omega);have TS:(Ky wr gR y W1).heap.size=M+(y+1):=by rw[Zi,HSZ.out];omega
    obtain⟨wt,hwt⟩:=ez (Ky wr gR y W1);rw[←hwt]at T4 T5 TU TL TB TS⊢;clear hwt G4 G5 GU GL hbr x0 x1 x2 x3 c1 c2;go_wp2
    go_roundw
    case rel=>exact⟨y+1,Ci,by go_num,TS,T4,T5,TU,TL,TB⟩
    case measure=>simp[intOf];omega
   ·have q1:¬(y:Int)<(H:Int):=Ci;obtain rfl:H=y:=Ci;have HSZ:=Ah hszr;clear hszr;go_wp2_with fail;obtain⟨wo,rfl⟩:∃wo:Aj,wo=wr:=⟨_,rfl⟩
    go_loopw [7,33] (λ_ s33 wr=>∃y:Nat,y≤H1∧s33= Aa Ab y∧wr.heap.size=M+H+y∧Hid (wr.heap[N]? =Af (.cells o4 80 (0,0)))∧Hid (wr.heap[g5]? =Af (.cells #[Aa Ab W,Aa Ab H,Ad (Af ⟨gR,0,Ae⟩) H H,Ad (Af ⟨gU,0,Ae⟩) H1 H1] 80 (0,0)))∧Hid (Tx wr gR H M W1 H)∧Hid (Tx wr gU H1 (M+H) W y)∧Below w.heap.size w wr) (λ_ s33 _=>H1-(intOf s33).toNat)
    case atStart=>exact⟨0,Ci,rfl,HSZ.out,G4,G5,GL,Ah ⟨GU.out,λi hi=>Ci⟩,hbr⟩
    case round=>
     clear x0 x1 x2 x3;obtain⟨y,hy,rfl,hszr,G4,G5,GL,GU,hbr⟩:=hrel;obtain⟨⟨x0,x1,x2,x3⟩,_⟩:=Ez G5.out;by_cases hlt:y<H1
     ·have q1:(y:Int)<(H1:Int):=Ci;obtain⟨c1,c2⟩:=Xq GU.out.hd hlt;have hg1:gU<wr.heap.size:=Ci;have hg2:g5<wr.heap.size:=Ci;have HSZ:=Ah hszr;clear hszr;go_wp2
      go_region
      change Exit.inBlock 3 _ _ _ (Ky wr gU y W);have T4:=Ah ((Jh (g:=gU) (y:=y) (k:=W) (by have:=HSZ.out;omega) Ci).trans G4.out);have T5:=Ah ((Jh (g:=gU) (y:=y) (k:=W) hg2 N5U.out).trans G5.out);have TL:=Ah (GL.out.far (Jh (g:=gU) (y:=y) (k:=W) (by have:=HSZ.out;omega) NRU.out) (λi hi=>Jh (g:=gU) (y:=y) (k:=W) (by have:=HSZ.out;omega) Ci));have TU:=Ah (GU.out.step hlt HSZ.out Ci);have TB:Below w.heap.size w (Ky wr gU y W):=Vv hbr (by have:=HN.out;omega);have TS:(Ky wr gU y W).heap.size=M+H+(y+1):=by rw[Zi,HSZ.out];omega
      obtain⟨wt,hwt⟩:=ez (Ky wr gU y W);rw[←hwt]at T4 T5 TU TL TB TS⊢;clear hwt G4 G5 GU GL hbr x0 x1 x2 x3 c1 c2;go_wp2
      go_roundw
      case rel=>exact⟨y+1,Ci,by go_num,TS,T4,T5,TL,TU,TB⟩
      case measure=>simp[intOf];omega
     ·have q1:¬(y:Int)<(H1:Int):=Ci;obtain rfl:H1=y:=Ci;obtain rfl:=HN.out;have HSZ:=Ah hszr;clear hszr
      obtain⟨r0,r1,r2,r3,rfl⟩:∃r0 r1 r2 r3,o4= #[r0,r1,r2,r3]:=by
       obtain⟨l⟩:=o4
       match l,ho4 with
       |[a,b,c,d],_=>exact⟨a,b,c,d,rfl⟩
      obtain⟨⟨y0,y1,y2,y3⟩,⟨f0,f1,f2,f3⟩⟩:=Ez G4.out;go_wp2_with fail;refine Ai (v:= .agg #[Aa Ab W,Aa Ab H,Ad (Af ⟨gR,0,Ae⟩) H H,Ad (Af ⟨gU,0,Ae⟩) H1 H1]) (by simp[results,Tryz.results57,go_sem,y0,y1,y2,y3]) rfl ?_;have hfar:∀j,j≠w.heap.size→((((wr.setCell ⟨w.heap.size,0,Ae⟩ (Aa Ab W)).setCell ⟨w.heap.size,1,Ae⟩ (Aa Ab H)).setCell ⟨w.heap.size,2,Ae⟩ (Ad (Af ⟨gR,0,Ae⟩) H H)).setCell ⟨w.heap.size,3,Ae⟩ (Ad (Af ⟨gU,0,Ae⟩) H1 H1)).heap[j]? =wr.heap[j]? :=λj hj=>by rw[Db hj,Db hj,Db hj,Db hj]
      obtain rfl:=HWE.out;obtain rfl:=HHE.out;refine⟨gR,gU,M,NRU.out,Ci,kR,Ci,kU,rfl,GL.out.far (hfar _ Ci) (λi hi=>hfar _ Ci),GU.out.far (hfar _ Ci) (λi hi=>hfar _ Ci),by simp[HSZ.out],?_⟩;exact(((hbr.setCell (Am _) _).setCell (Am _) _).setCell (Am _) _).setCell (Am _) _
def Cr.odd (r:Cr):Bool:=decide (r.e≠0)||decide (r.k=3)
abbrev Mtx:=Nat→Nat→Int
def mL (m:Mtx) (y x:Nat) (k:Int):Mtx:=λi j=>if i=y∧j=x then k else m i j
theorem mM {a b c:Int} (hs:okS a b=true) (h:Dl a b c 0=(c,0,0)):0≤c∧c<4*a*b∧((c%4=1∧c/4%a+1<a)∨(c%4=2∧c/4/a+1<b)):=by
 obtain⟨m1,m2,m3,m4,m5,m6⟩:=Ho hs;unfold Dl at h
 split at h
 ·rename_i h0
  have hle:c≤(nbI a b c 0).1:=by
   have:=congrArg (λp:Int×Int×Int=>p.1) h;dsimp only at this;omega
  cases hh:Nd a b c with
  |false=>
   exfalso;unfold nbI at h0;rw[hh]at h0;simp at h0
  |true=>
   have hc:=Jr.1 hh;refine⟨hc.1,hc.2,?_⟩;have hq:c%4=0∨c%4=1∨c%4=2∨c%4=3:=Ci;have e1:=Int.emod_add_mul_ediv (c/4) a;have e2:a*(c/4/a)=c/4/a*a:=Int.mul_comm _ _;unfold nbI at h0 hle;rw[hh,if_neg Ct]at h0 hle
   split at h0
   ·rename_i h1;rw[if_pos h1]at hle;unfold nbr at h0 h1 hle
    split at h1
    ·simp at h1
    ·rename_i g1;rw[if_neg g1]at h0 hle
     split at h1
     ·rename_i g2;rw[if_pos g2]at h0 hle;unfold idI at h0 hle
      split at h0
      ·rename_i g3;rw[if_pos g3]at hle;unfold inS at g3;rcases hq with hq|hq|hq|hq
       ·exfalso;rw[hq]at hle;simp[nxt,Int.add_mul]at hle;omega
       ·rw[hq]at g3;simp[nxt]at g3;omega
       ·rw[hq]at g3;simp[nxt]at g3;omega
       ·exfalso;rw[hq]at hle;simp[nxt]at hle;omega
      ·simp at h0
     ·simp at h1
   ·simp at h0
 ·rename_i h0;have:=congrArg (λp:Int×Int×Int=>p.2.2) h;dsimp only at this;exact absurd this h0
def dW (k:Nat) (m:Nat→Int):Obj:= .cells ((List.range k).map λx=>Value.int .u8 (m x)).toArray 122
theorem cB (k:Nat):jW k=dW k λ_=>0:=by
 unfold jW dW
 congr 2
 apply List.ext_getElem
 ·simp
 ·intro i h1 h2;simp
structure Md (wr:Aj) (gR gU M W1 H1:Nat) (s:Mtx×Mtx):Prop where
 hR:wr.heap[gR]? =Af (Nf (H1+1) M W1 (H1+1))
 hU:wr.heap[gU]? =Af (Nf H1 (M+(H1+1)) (W1+1) H1)
 rR:∀i,i<H1+1→wr.heap[M+i]? =Af (dW W1 (s.1 i))
 rU:∀i,i<H1→wr.heap[M+(H1+1)+i]? =Af (dW (W1+1) (s.2 i))
theorem Md.of {wr:Aj} {gR gU M W1 H1:Nat} (h1:Tx wr gR (H1+1) M W1 (H1+1)) (h2:Tx wr gU H1 (M+(H1+1)) (W1+1) H1):Md wr gR gU M W1 H1 (λ_ _=>0,λ_ _=>0):=
 ⟨h1.hd,h2.hd,λi hi=>(h1.row i hi).trans (congrArg Af (cB _)),λi hi=>(h2.row i hi).trans (congrArg Af (cB _))⟩
theorem Md.same {wr wx:Aj} {gR gU M W1 H1:Nat} {s:Mtx×Mtx} (h:Md wr gR gU M W1 H1 s) (lo:Nat) (hi:Nat) (h1:lo≤gR∧gR<M) (h2:lo≤gU∧gU<M) (h3:M+(H1+1)+H1≤hi) (hk:∀j,lo≤j→j<hi→wx.heap[j]? =wr.heap[j]?):Md wx gR gU M W1 H1 s:=
 ⟨(hk _ h1.1 Ci).trans h.hR,(hk _ h2.1 Ci).trans h.hU,λi hi=>(hk _ Ci Ci).trans (h.rR i hi),λi hi=>(hk _ Ci Ci).trans (h.rU i hi)⟩
theorem iZ {k x:Nat} {m:Nat→Int} {v:Int} {w:Aj} {g:Nat} (h:w.heap[g]? =Af (dW k m)):(w.setCell ⟨g,x,Ae⟩ (Aa Ac v)).heap[g]? =Af (dW k λj=>if j=x then v else m j):=by
 unfold dW at h⊢;rw[Pj h]
 congr 2
 apply Array.ext
 ·simp
 ·intro i h1 h2;simp only[Array.size_setIfInBounds,List.size_toArray,Bo,List.length_range]at h1;rw[Array.getElem_setIfInBounds (by simpa using h1)];by_cases hx:x=i
  ·subst hx;simp
  ·rw[if_neg hx];simp[Ne.symm hx]
theorem bL {k x:Nat} {m:Nat→Int} {w:Aj} {g:Nat} (h:w.heap[g]? =Af (dW k m)) (hx:x<k):w.cell? ⟨g,x,Ae⟩=Af (Aa Ac (m x))∧w.frozen? ⟨g,x,Ae⟩=false:=by
 unfold dW at h
 constructor
 ·rw[By _ _ x _ _ _ h];simp[hx]
 ·simp[World.frozen?,h]
theorem aO {w:Aj} {g n M k y:Nat} (h:w.heap[g]? =Af (Nf n M k n)) (hy:y<n):w.cell? ⟨g,y,Ae⟩=Af (Rt k (M+y)):=by
 unfold Nf at h;rw[By _ _ y _ _ _ h];simp[hy]
theorem Md.setR {wr:Aj} {gR gU M W1 H1:Nat} {s:Mtx×Mtx} (h:Md wr gR gU M W1 H1 s) (h1:gR<M) (h2:gU<M) (y x:Nat) (hy:y<H1+1) (v:Int):Md (wr.setCell ⟨M+y,x,Ae⟩ (Aa Ac v)) gR gU M W1 H1 (mL s.1 y x v,s.2):=by
 refine⟨(Db Ci).trans h.hR,(Db Ci).trans h.hU,λi hi=>?_,λi hi=>(Db Ci).trans (h.rU i hi)⟩;by_cases e:i=y
 ·subst e;rw[iZ (h.rR i hi)];unfold mL;simp
 ·rw[Db Ci,h.rR i hi];unfold mL;simp[e]
theorem Md.setU {wr:Aj} {gR gU M W1 H1:Nat} {s:Mtx×Mtx} (h:Md wr gR gU M W1 H1 s) (h1:gR<M) (h2:gU<M) (y x:Nat) (hy:y<H1) (v:Int):Md (wr.setCell ⟨M+(H1+1)+y,x,Ae⟩ (Aa Ac v)) gR gU M W1 H1 (s.1,mL s.2 y x v):=by
 refine⟨(Db Ci).trans h.hR,(Db Ci).trans h.hU,λi hi=>(Db Ci).trans (h.rR i hi),λi hi=>?_⟩;by_cases e:i=y
 ·subst e;rw[iZ (h.rU i hi)];unfold mL;simp
 ·rw[Db Ci,h.rU i hi];unfold mL;simp[e]
theorem Bx.same {w wr w2:Aj} {l:List (Nat×Array Ak×TypeId)} (h:Bx w l wr) (hb:Below w.heap.size w w2) (hk:∀(i g:Nat) (cs:Array Ak) (t:TypeId),l[i]? =Af (g,cs,t)→w2.heap[g]? =wr.heap[g]?):Bx w l w2:=
 ⟨hb,λi g cs t hi=>(hk i g cs t hi).trans (h.blk i g cs t hi),h.lo,h.inj⟩
def As2 (w:Aj) (e:Ending) (w':Aj):Prop:=Below w.heap.size w w'∧∃(a b:Int) (gR gU _W1 H1:Nat),e= .returned (.tuple #[.agg #[Aa Ab a,Aa Ab b,Ad (Af ⟨gR,0,Ae⟩) (H1+1) (H1+1),Ad (Af ⟨gU,0,Ae⟩) H1 H1],Aa Ab 0])
def Ar4 (a b:Int) (W1 H1:Nat) (w:Aj) (e:Ending) (w':Aj):Prop:=
 ∃gR gU M,gR≠gU∧w.heap.size≤gR∧gR<M∧w.heap.size≤gU∧gU<M∧e= .returned (.agg #[Aa Ab a,Aa Ab b,Ad (Af ⟨gR,0,Ae⟩) (H1+1) (H1+1),Ad (Af ⟨gU,0,Ae⟩) H1 H1])∧
  Md w' gR gU M W1 H1 (λ_ _=>0,λ_ _=>0)∧w'.heap.size=M+(H1+1)+H1∧Below w.heap.size w w'
theorem Al6 {a b c e:Int} (h:Dl a b c e=(c,e,0)):0≤c∧c<4*a*b:=by
 unfold Dl at h
 split at h
 ·rename_i h0
  cases hh:Nd a b c with
  |true=>exact Jr.1 hh
  |false=>
   unfold nbI at h0;rw[hh]at h0;simp at h0
 ·rename_i h0;exact absurd (congrArg (λp:Int×Int×Int=>p.2.2) h) h0
theorem kK {a b:Int} (W1 H1:Nat) (ha:a=(W1+1:Nat)) (hb:b=(H1+1:Nat)) (hW:W1≤20) (hH:H1≤20) (w:Aj):Al Tryz.prog 57 #[Aa Ab a,Aa Ab b] w (Ar4 a b W1 H1 w):=by
 subst ha hb;refine(rX W1 H1 w hW hH).mono ?_;rintro e w' ⟨gR,gU,M,h1,h2,h3,h4,h5,h6,h7,h8,h9,h10⟩;exact⟨gR,gU,M,h1,h2,h3,h4,h5,h6,.of h7 h8,h9,h10⟩
structure Zn (w:Aj) (w1:Nat) (bl:List (Nat×Array Ak×TypeId)) (a b:Int) (gR gU M W1 H1 V:Nat) (wr:Aj):Prop where
 bx:Bx w (bl++[(V,#[Aa Ab a,Aa Ab b,Ad (Af ⟨gR,0,Ae⟩) (H1+1) (H1+1),Ad (Af ⟨gU,0,Ae⟩) H1 H1],80)]) wr
 at':∃s,Md wr gR gU M W1 H1 s
 lo:w1≤gR∧gR<M∧w1≤gU∧gU<M
 hi:M+(H1+1)+H1≤V
 old:∀(i g:Nat) (cs:Array Ak) (t:TypeId),bl[i]? =Af (g,cs,t)→g<w1
 base:w.heap.size≤w1
theorem Zn.put {w:Aj} {w1:Nat} {bl:List (Nat×Array Ak×TypeId)} {a b:Int} {gR gU M W1 H1 V:Nat} {wr:Aj} (h:Zn w w1 bl a b gR gU M W1 H1 V wr) {g:Nat} (hg:M≤g∧g<M+(H1+1)+H1) (x:Nat) (v:Ak) (hm:∃s,Md (wr.setCell ⟨g,x,Ae⟩ v) gR gU M W1 H1 s):Zn w w1 bl a b gR gU M W1 H1 V (wr.setCell ⟨g,x,Ae⟩ v):=by
 refine⟨h.bx.same (h.bx.below.setCell (by have h1:=h.base;have h2:=h.lo;show w.heap.size≤g;omega) v) λi g' cs t hi=>Db ?_,hm,h.lo,h.hi,h.old,h.base⟩;intro e;subst e;by_cases hl:i<bl.length
 ·rw[List.getElem?_append_left hl]at hi;have:=h.old i g' cs t hi;have:=h.lo;omega
 ·rw[List.getElem?_append_right Ci]at hi;have hi2:=List.mem_of_getElem? hi;simp at hi2;have:=h.hi;omega
theorem Zn.call {w:Aj} {w1:Nat} {bl:List (Nat×Array Ak×TypeId)} {a b:Int} {gR gU M W1 H1 V:Nat} {wr wx:Aj} (h:Zn w w1 bl a b gR gU M W1 H1 V wr) (hb:Below wr.heap.size wr wx):Zn w w1 bl a b gR gU M W1 H1 V wx:=by
 have hv:V<wr.heap.size:=h.bx.lt bl.length (g:=V) (cs:=#[Aa Ab a,Aa Ab b,Ad (Af ⟨gR,0,Ae⟩) (H1+1) (H1+1),Ad (Af ⟨gU,0,Ae⟩) H1 H1]) (t:=80) (by rw[List.getElem?_append_right (Am _),Nat.sub_self];rfl);have:=h.lo;have:=h.hi;exact⟨h.bx.call hb,(h.at'.imp λ_ h=>h.same 0 (M+(H1+1)+H1) ⟨Ci,Ci⟩ ⟨Ci,Ci⟩ (Am _) λj _ hj=>hb.block j Ci),h.lo,h.hi,h.old,h.base⟩
theorem gS {n k:Nat} (h:k<n):n-(intOf (Aa Ab ((k:Int)+1))).toNat<n-(intOf (Aa Ab (k:Int))).toNat:=by
 show n-((k:Int)+1).toNat<n-((k:Int)).toNat;omega
theorem gN (a b:Int) (A:Option Addr) (cr:List Cr) (n c:Nat) (w:Aj) (hn:n=cr.length) (h:Rd w A 3 n (crs cr)) (hp:Gx a b cr) (hA:a≤16) (hB:b≤16) (hod:∀r∈cr,r.odd=false) (hQ:Qf w):
  Al Tryz.prog 22 #[.agg #[Aa Ab a,Aa Ab b,Ad A n c]] w (As2 w):=by
 have HPC:=Ah (λ(w':Aj) (hb:Below w.heap.size w w')=>Uu a b A cr n c w' hn (h.below hb) hp (hQ.below hb).qt);have HRD:=Ah (λ(w':Aj) (hb:Below w.heap.size w w')=>show Rd w' A 3 cr.length (crs cr)by rw[←hn];exact h.below hb);have HN:=Ah hn;have HP:=Ah hp;have H:=((Bx.start w).new #[Aa Ab a,Aa Ab b,Ad A n c] 28 rfl).new #[Aa Ab 0,Aa Ab 0,Ad Ae 0 0,Ad Ae 0 0] 80 (N:=w.heap.size+1) Cn;have hab:=Ho hp.sheet;have HOD:=Ah hod;clear hn h hp hQ hod;go_enter Tryz.func22,Tryz.ntmps22;go_upto_region 1 with fail;obtain⟨N,hN⟩:=ez w.heap.size;rw[←hN]at H⊢;have HNN:=Ah hN;clear hN;obtain⟨P,hP⟩:=ey (N+1);rw[hP]at H⊢;clear hP;obtain⟨W1,hW1⟩:=ez ((w.alloc (.cells #[Aa Ab a,Aa Ab b,Ad A n c] 28)).alloc (.cells #[Aa Ab 0,Aa Ab 0,Ad Ae 0 0,Ad Ae 0 0] 80));rw[←hW1]at H⊢;clear hW1;obtain⟨⟨a0,a1,a2⟩,-⟩:=Cv (H.blk 0 _ _ _ rfl);go_wp2_with fail;refine(HPC.out _ H.below).mono ?_;rintro ee w2 ⟨rfl,hb⟩;have H2:=H.call hb;clear a0 a1 a2 H hb HPC;obtain⟨⟨a0,a1,a2⟩,-⟩:=Cv (H2.blk 0 _ _ _ rfl);obtain⟨W1',hW1⟩:∃W1':Nat,a=(W1'+1:Nat):=⟨(a-1).toNat,Ci⟩;obtain⟨H1,hH1⟩:∃H1:Nat,b=(H1+1:Nat):=⟨(b-1).toNat,Ci⟩;have hwb:W1'≤15:=Ci;have hhb:H1≤15:=Ci;have HWA:=Ah hW1;have HHB:=Ah hH1;have HBL:=Ah (λ(w':Aj)=>kK W1' H1 hW1 hH1 Ci Ci w');have hab2:=Ho HP.out.sheet;have HAB:=Ah hab;obtain⟨sb,hsb⟩:∃z,0<z∧z=W1'+1:=⟨_,Ci,rfl⟩;have hA2:¬16<a:=Ci;have hB2:¬16<b:=Ci;clear hab hab2 hsb hW1 hH1 hA hB;go_wp2_with fail;refine(HBL.out _).mono ?_;rintro ee w3 ⟨gR,gU,M,hRU,hR0,hR1,hU0,hU1,rfl,hM0,hsz,hb⟩;obtain⟨V,hV⟩:=ey w3.heap.size;have HSZ:=Ah (show M+(H1+1)+H1=V by omega);clear hsz;have hal:=(Ag w3.heap.size w3).alloc (Am _) (.cells #[Aa Ab a,Aa Ab b,Ad (Af ⟨gR,0,Ae⟩) (H1+1) (H1+1),Ad (Af ⟨gU,0,Ae⟩) H1 H1] 80)
 have H4:=(H2.call hb).new #[Aa Ab a,Aa Ab b,Ad (Af ⟨gR,0,Ae⟩) (H1+1) (H1+1),Ad (Af ⟨gU,0,Ae⟩) H1 H1] 80 hV;have hN2:=H2.lt 0 rfl;have hP2:=H2.lt 1 rfl;have hw2:=H2.below.size
 have HI0:Hid (Zn w w2.heap.size [(N,#[Aa Ab a,Aa Ab b,Ad A n c],28),(P,#[Aa Ab 0,Aa Ab 0,Ad Ae 0 0,Ad Ae 0 0],80)] a b gR gU M W1' H1 V (w3.alloc (.cells #[Aa Ab a,Aa Ab b,Ad (Af ⟨gR,0,Ae⟩) (H1+1) (H1+1),Ad (Af ⟨gU,0,Ae⟩) H1 H1] 80))):=Ah
  ⟨H4,⟨_,hM0.same 0 (M+(H1+1)+H1) ⟨Ci,Ci⟩ ⟨Ci,Ci⟩ (Am _) (λj _ hj=>hal.block j (by have:=HSZ.out;omega))⟩,⟨hR0,hR1,hU0,hU1⟩,Nat.le_of_eq HSZ.out,(λi g cs t hi=>by
   have:=List.mem_of_getElem? hi;simp only[Bk,Prod.mk.injEq,List.not_mem_nil,or_false]at this;omega),hw2⟩
 clear a0 a1 a2 H2 hb hM0 hal hA2 hB2;go_upto_region 7 with fail
 try rw[hV]
 obtain⟨W4,hW4⟩:=ez (w3.alloc (.cells #[Aa Ab a,Aa Ab b,Ad (Af ⟨gR,0,Ae⟩) (H1+1) (H1+1),Ad (Af ⟨gU,0,Ae⟩) H1 H1] 80));rw[←hW4]at H4 HI0⊢;clear hW4;obtain⟨⟨-,-,a2⟩,-⟩:=Cv (H4.blk 0 _ _ _ rfl);obtain⟨⟨g0,g1,g2,g3⟩,-⟩:=Ez (H4.blk 1 _ _ _ rfl);clear H4;obtain⟨O,hO⟩:=ey w2.heap.size;rw[hO]at HI0 hR0 hU0 hN2 hP2 hw2;go_wp2
 go_loopw [38] (λs38 wr=>∃k:Nat,k≤n∧s38= Aa Ab k∧Hid (Zn w O [(N,#[Aa Ab a,Aa Ab b,Ad A n c],28),(P,#[Aa Ab 0,Aa Ab 0,Ad Ae 0 0,Ad Ae 0 0],80)] a b gR gU M W1' H1 V wr)) (λs38 _=>n-(intOf s38).toNat)
 case atStart=>exact⟨0,Ci,rfl,HI0⟩
 case round=>
  obtain⟨k,hk,rfl,HZ⟩:=hrel;clear HI0 a2 g0 g1 g2 g3;have HM:=HZ.out;by_cases hlt:k<n
  ·have q0:(k:Int)<(n:Int):=Ci;have hkl:k<cr.length:=by have:=HN.out;omega
   obtain⟨kb,ko,hA3,hkb,t0,t1,t2⟩:=Qz (HRD.out _ HM.bx.below) k hkl;have hnm:=HP.out.name cr[k] (Ay hkl);have hod:=HOD.out cr[k] (Ay hkl);obtain⟨⟨rc,re,rk⟩,hr⟩:=ey (cr[k]);have HR:=Ah hr;rw[hr]at t0 t1 t2 hnm hod;dsimp only at t0 t1 t2 hnm;obtain⟨i1,i2⟩:=Al6 hnm;obtain⟨m1,m2,m3,m4,m5,m6⟩:=HAB.out;have i3:rc≤1024:=by have:4*a*b=4*(a*b):=Int.mul_assoc _ _ _;omega
   have d1:0≤rc/4:=Ci;have d2:rc/4≤256:=Ci;have d3:=Int.emod_nonneg (rc/4) (show a≠0 by omega);have d4:=Int.emod_lt_of_pos (rc/4) (show 0<a by omega);have d5:0≤rc/4/a:=Int.ediv_nonneg d1 Ci;have d6:rc/4/a≤256:=Int.le_trans (Int.ediv_le_self _ d1) d2;have hcx:((rc/4%a).toNat:Int)=rc/4%a:=Int.toNat_of_nonneg d3;have hcy:((rc/4/a).toNat:Int)=rc/4/a:=Int.toNat_of_nonneg d5;obtain⟨cx,hcx2⟩:=ey ((rc/4%a).toNat);obtain⟨cy,hcy2⟩:=ey ((rc/4/a).toNat);rw[hcx2]at hcx;rw[hcy2]at hcy;have e1:(a==0)=false:=by simp;omega
   have e0:¬a=0:=Ci;have e2:(rc/4).tmod a=(cx:Int):=by rw[Int.tmod_eq_emod_of_nonneg d1,hcx]
   have e3:(rc/4).tdiv a=(cy:Int):=by rw[Int.tdiv_eq_ediv_of_nonneg d1,hcy]
   have e4:rc.tdiv 4=rc/4:=Int.tdiv_eq_ediv_of_nonneg i1;have e5:rc.tmod 4=rc%4:=Int.tmod_eq_emod_of_nonneg i1;have e6:Ab.wrap (rc/4)=rc/4:=Ca _ Ci;have e7:Ab.wrap (cx:Int)=cx:=Ca _ Ci;have e8:Ab.wrap (cy:Int)=cy:=Ca _ Ci;have e9:Ab.wrap (rc%4)=rc%4:=Ca _ Ci;have e10:IntKind.u8.wrap (rc%4)=rc%4:=IntWalk.u8_in _ Ci;obtain⟨X,hX⟩:=ey wr.heap.size;have H5:=HM.bx.new #[Aa Ab rc,Aa Ac re,Aa Ac rk] 124 hX;have hbx:=(Ag wr.heap.size wr).alloc (Am _) (.cells #[Aa Ab rc,Aa Ac re,Aa Ac rk] 124);have HM5:=HM.call hbx;have HVX:=Ah (show V<X from hX▸HM.bx.lt 2 rfl);subst hA3;clear hbx;go_upto_region 10 with fail
   try rw[hX]
   obtain⟨W5,hW5⟩:=ez (wr.alloc (.cells #[Aa Ab rc,Aa Ac re,Aa Ac rk] 124));rw[←hW5]at H5 HM5⊢;clear hW5;clear t0 t1 t2 hX;obtain⟨⟨x0,x1,x2⟩,-⟩:=Cv (H5.blk 3 _ _ _ rfl);obtain⟨⟨v0,v1,v2,v3⟩,-⟩:=Ez (H5.blk 2 _ _ _ rfl);have HH5:=Ah H5;have HM5:=Ah HM5;have HCX:=Ah (And.intro hcx (And.intro hcy (And.intro hcx2 hcy2)));have HB:=Ah (And.intro d4 (And.intro i1 (And.intro i2 (And.intro m3 m5))));have HNM:=Ah hnm;have hidx:=And.intro hcx hcy;clear H5 HZ HM hnm d1 d2 d3 d4 d5 d6 i1 i2 i3 m1 m2 m3 m4 m5 m6 hcx hcy hcx2 hcy2 hidx hkb hr
   go_quiet (fail)
   have HH6:=Ah (HH5.out.drewN nq);have HM6:=Ah (HM5.out.call (Dg (Ag W5.heap.size W5) nq));obtain⟨X0,hX0⟩:=ez (W5.drewN nq);rw[←hX0]at HH6 HM6⊢;clear hX0;clear HH5 HM5 v0 v1 v2 v3 x0 x1 x2;obtain⟨⟨x0,x1,x2⟩,-⟩:=Cv (HH6.out.blk 3 _ _ _ rfl);go_upto_region 13 with fail;have HKN:=Ah hlt;unfold Cr.odd at hod;have hod2:re=0∧¬rk=3:=by simpa using hod
   obtain⟨hre,h3⟩:=hod2;subst hre;have q9:(rk==3)=false:=by simpa using h3
   obtain⟨-,-,hq⟩:=mM HP.out.sheet HNM.out;have hwa:=HWA.out;have hhb:=HHB.out;have hcxy:=HCX.out;have hbd:=HB.out
   have hyb:rc/4/a<b:=by
    have h1:rc/4<b*a:=by
     have:4*a*b=4*(b*a):=by rw[Int.mul_assoc,Int.mul_comm a b]
     omega
    exact Int.ediv_lt_of_lt_mul Ci h1
   have hxw:(cx:Int)<a:=Ci;clear hod h3;rcases hq with⟨hq,hx⟩|⟨hq,hy⟩
   ·have hyl:cy<H1+1:=Ci;have hxl:cx<W1':=Ci;have b1:(cy:Int)<(H1:Int)+1:=Ci;have b2:(cx:Int)<(W1':Int):=Ci;clear hwa hhb hcxy hbd hyb hxw hx
    as_aux_lemma=>
    obtain⟨ss,hss⟩:=HM6.out.at';obtain⟨c0,c1⟩:=bL (hss.rR cy hyl) hxl;have hcell:=aO hss.hR hyl;clear hss;unfold Rt at hcell;obtain⟨⟨v0,v1,v2,v3⟩,-⟩:=Ez (HH6.out.blk 2 _ _ _ rfl);obtain⟨RW,hRW⟩:=ey (M+cy);rw[hRW]at c0 c1 hcell;have hlo:=HM6.out.lo;have hhi:=HM6.out.hi;have hVX:=HVX.out;have HNE:=Ah (show RW≠X∧RW≠V∧RW≠gR by omega);have HRW:=Ah hRW;clear hlo hhi hVX hRW;obtain⟨S,hSd⟩:∃S:Aj→Prop,S=λW'=>W'.heap[X]? =X0.heap[X]? ∧W'.heap[V]? =X0.heap[V]? ∧W'.heap[gR]? =X0.heap[gR]? :=⟨_,rfl⟩
    have HSO:Hid (∀W',S W'→W'.cell? ⟨X,2,Ae⟩=Af (Aa Ac rk)∧W'.cell? ⟨V,2,Ae⟩=Af (Ad (Af ⟨gR,0,Ae⟩) (H1+1) (H1+1))∧W'.cell? ⟨gR,cy,Ae⟩=Af (Ad (Af ⟨RW,0,Ae⟩) W1' W1')):=Ah λW' h=>by
     subst hSd;exact⟨(Oj h.1 _).trans x2,(Oj h.2.1 _).trans v2,(Oj h.2.2 _).trans hcell⟩
    have HSU:Hid (∀(W':Aj) (v:Ak),S W'→S (W'.setCell ⟨RW,cx,Ae⟩ v)):=Ah λW' v hs=>by
     subst hSd;obtain⟨n1,n2,n3⟩:=HNE.out;exact⟨(Below.heap_setCell W' ⟨RW,cx,Ae⟩ v X (by show X≠RW;omega)).trans hs.1,(Below.heap_setCell W' ⟨RW,cx,Ae⟩ v V (by show V≠RW;omega)).trans hs.2.1,(Below.heap_setCell W' ⟨RW,cx,Ae⟩ v gR (by show gR≠RW;omega)).trans hs.2.2⟩
    have hS0:S X0.drew:=by subst hSd;exact⟨rfl,rfl,rfl⟩
    clear hSd hcell v0 v1 v2 v3;go_upto_region 16 with fail;clear x0 x1 x2;refine Ao (S:=S) Cm hS0 (λhS=>?_);have HM7:=Ah (HM6.out.call (Ag X0.heap.size X0).drew);have c0:X0.drew.cell? ⟨RW,cx,Ae⟩=_:=c0;have c1:X0.drew.frozen? ⟨RW,cx,Ae⟩=_:=c1;obtain⟨X1,hX1⟩:=ez X0.drew;rw[←hX1]at hS HM7 c0 c1⊢;clear hX1;clear hS0 HM6 HH6;refine Ck 0 ?_;refine Ck 1 ?_;refine Ck 2 ?_;refine Ck 3 ?_;refine Ck 4 ?_;refine Ck 5 ?_;refine Ck 6 ?_;refine Ck 7 ?_;refine Ck 8 ?_;have hSU:=Ah (HSU.out _ (Aa Ac rk) hS)
    have HF:Hid (Zn w O [(N,#[Aa Ab a,Aa Ab b,Ad (Af ⟨kb,ko,Ae⟩) n c],28),(P,#[Aa Ab 0,Aa Ab 0,Ad Ae 0 0,Ad Ae 0 0],80)] a b gR gU M W1' H1 V (X1.setCell ⟨RW,cx,Ae⟩ (Aa Ac rk))):=Ah (by
     have hlo:=HM7.out.lo;have hRW:=HRW.out;obtain⟨ss,hss⟩:=HM7.out.at';refine HM7.out.put ⟨Ci,Ci⟩ cx _ ?_;rw[←hRW];exact⟨_,hss.setR hlo.2.1 hlo.2.2.2 cy cx hyl rk⟩)
    refine rdy 9 (λK hK=>?_);go_simp;refine hK.out _ _ hSU.out (λhS=>?_);clear hK K c0 c1;refine An Cm ?_ _;have ek:wrap64 ((k:Int)+1)=(k:Int)+1:=Cb _ (by have h1:=HKN.out;have h2:=HP.out.len;have h3:=HN.out;omega);go_wp2_with fail;rw[ek];refine⟨⟨k+1,Nat.succ_le_of_lt HKN.out,Cn,HF⟩,?_⟩;exact gS HKN.out
   ·have hyl:cy<H1:=Ci;have hxl:cx<W1'+1:=Ci;have b1:(cy:Int)<(H1:Int):=Ci;have b2:(cx:Int)<(W1':Int)+1:=Ci;clear hwa hhb hcxy hbd hyb hxw hy
    as_aux_lemma=>
    obtain⟨ss,hss⟩:=HM6.out.at';obtain⟨c0,c1⟩:=bL (hss.rU cy hyl) hxl;have hcell:=aO hss.hU hyl;clear hss;unfold Rt at hcell;obtain⟨⟨v0,v1,v2,v3⟩,-⟩:=Ez (HH6.out.blk 2 _ _ _ rfl);obtain⟨RW,hRW⟩:=ey (M+(H1+1)+cy);rw[hRW]at c0 c1 hcell;have hlo:=HM6.out.lo;have hhi:=HM6.out.hi;have hVX:=HVX.out;have HNE:=Ah (show RW≠X∧RW≠V∧RW≠gU by omega);have HRW:=Ah hRW;clear hlo hhi hVX hRW;obtain⟨S,hSd⟩:∃S:Aj→Prop,S=λW'=>W'.heap[X]? =X0.heap[X]? ∧W'.heap[V]? =X0.heap[V]? ∧W'.heap[gU]? =X0.heap[gU]? :=⟨_,rfl⟩
    have HSO:Hid (∀W',S W'→W'.cell? ⟨X,2,Ae⟩=Af (Aa Ac rk)∧W'.cell? ⟨V,3,Ae⟩=Af (Ad (Af ⟨gU,0,Ae⟩) H1 H1)∧W'.cell? ⟨gU,cy,Ae⟩=Af (Ad (Af ⟨RW,0,Ae⟩) (W1'+1) (W1'+1))):=Ah λW' h=>by
     subst hSd;exact⟨(Oj h.1 _).trans x2,(Oj h.2.1 _).trans v3,(Oj h.2.2 _).trans hcell⟩
    have HSU:Hid (∀(W':Aj) (v:Ak),S W'→S (W'.setCell ⟨RW,cx,Ae⟩ v)):=Ah λW' v hs=>by
     subst hSd;obtain⟨n1,n2,n3⟩:=HNE.out;exact⟨(Below.heap_setCell W' ⟨RW,cx,Ae⟩ v X (by show X≠RW;omega)).trans hs.1,(Below.heap_setCell W' ⟨RW,cx,Ae⟩ v V (by show V≠RW;omega)).trans hs.2.1,(Below.heap_setCell W' ⟨RW,cx,Ae⟩ v gU (by show gU≠RW;omega)).trans hs.2.2⟩
    have hS0:S X0.drew:=by subst hSd;exact⟨rfl,rfl,rfl⟩
    clear hSd hcell v0 v1 v2 v3;go_upto_region 12 with fail;clear x0 x1 x2;refine Ao (S:=S) Cm hS0 (λhS=>?_);have HM7:=Ah (HM6.out.call (Ag X0.heap.size X0).drew);have c0:X0.drew.cell? ⟨RW,cx,Ae⟩=_:=c0;have c1:X0.drew.frozen? ⟨RW,cx,Ae⟩=_:=c1;obtain⟨X1,hX1⟩:=ez X0.drew;rw[←hX1]at hS HM7 c0 c1⊢;clear hX1;clear hS0 HM6 HH6;refine Ck 0 ?_;refine Ck 1 ?_;refine Ck 2 ?_;refine Ck 3 ?_;refine Ck 4 ?_;refine Ck 5 ?_;refine Ck 6 ?_;refine Ck 7 ?_;refine Ck 8 ?_;have hSU:=Ah (HSU.out _ (Aa Ac rk) hS)
    have HF:Hid (Zn w O [(N,#[Aa Ab a,Aa Ab b,Ad (Af ⟨kb,ko,Ae⟩) n c],28),(P,#[Aa Ab 0,Aa Ab 0,Ad Ae 0 0,Ad Ae 0 0],80)] a b gR gU M W1' H1 V (X1.setCell ⟨RW,cx,Ae⟩ (Aa Ac rk))):=Ah (by
     have hlo:=HM7.out.lo;have hRW:=HRW.out;obtain⟨ss,hss⟩:=HM7.out.at';refine HM7.out.put ⟨Ci,Ci⟩ cx _ ?_;rw[←hRW];exact⟨_,hss.setU hlo.2.1 hlo.2.2.2 cy cx hyl rk⟩)
    refine rdy 9 (λK hK=>?_);go_simp;refine hK.out _ _ hSU.out (λhS=>?_);clear hK K c0 c1;refine An Cm ?_ _;have ek:wrap64 ((k:Int)+1)=(k:Int)+1:=Cb _ (by have h1:=HKN.out;have h2:=HP.out.len;have h3:=HN.out;omega);go_wp2_with fail;rw[ek];refine⟨⟨k+1,Nat.succ_le_of_lt HKN.out,Cn,HF⟩,?_⟩;exact gS HKN.out
  ·obtain rfl:n=k:=Ci;have q0:¬(n:Int)<(n:Int):=Ci;have H5:=HM.bx;obtain⟨⟨v0,v1,v2,v3⟩,-⟩:=Ez (H5.blk 2 _ _ _ rfl);obtain⟨⟨g0,g1,g2,g3⟩,z0,z1,z2,z3⟩:=Ez (H5.blk 1 _ _ _ rfl);have H9:=Ah ((((H5.set 1 0 rfl (Aa Ab a)).set 1 1 rfl (Aa Ab b)).set 1 2 rfl (Ad (Af ⟨gR,0,Ae⟩) (H1+1) (H1+1))).set 1 3 rfl (Ad (Af ⟨gU,0,Ae⟩) H1 H1));clear H5 HM
   as_aux_lemma=>
   go_wp2_with fail;exact Ai (Cs (u:=3) rfl rfl (H9.out.range 1 rfl) Tryz.underlying80 rfl Cm) rfl ⟨H9.out.below,a,b,gR,gU,W1',H1,rfl⟩
end Go.Proofs.YthpcfeifmdbhnaaGreatDoor
