import Derived.Test.YtlgkpdfieaadaaaGreatDoorROvi
set_option linter.all false
open And renaming intro->Cn
open Array renaming getElem?_eq_some_iff->Au,getElem?_modify->Dg,replicate->En
open Bool renaming and_eq_true->Em,not_eq_true->Ep,or_eq_false_iff->Cz
open Classical renaming byContradiction->Ex,not_not->El
open Go renaming Calls->Al,TypeId->Ck,Value->Ak,World->Aj,bodyPost_ret->Ai,cell_of_row->Bz,heap_alloc_new->Ca,wpAnyH_done->An,wp_region_held_drew->Ao
open Go.IntKind renaming i64->Ab,u8->Ac
open Go.IntWalk renaming i64_in->Cb,wrap64_in->Cc
open Go.Lib renaming hid->Ah
open Go.Proofs.Tryz renaming prog->Dp
open Go.RowKit.Below renaming heap_setCell->Dq,refl->Ag
open Go.Value renaming int->Aa,slice->Ad
open Int renaming mul_assoc->Cw,tdiv_eq_ediv_of_nonneg->Gi,toNat_natCast->Ev
open List renaming all_eq_true->Ed,any_eq_false->Du,any_eq_true->Ew,append_assoc->Bj,append_nil->Ff,cons_append->Er,ext_getElem->Gk,find?_cons->Dh,flatMap_append->Bi,flatMap_cons->Bf,getD_eq_getElem?_getD->Dt,getElem?_append_right->Eg,getElem?_eq_getElem->Aw,getElem?_map->Fs,getElem_cons_succ->Ce,getElem_cons_zero->Cd,getElem_mem->Ay,getElem_toArray->Cf,length_cons->Eo,length_range->Cp,map_cons->Es,map_map->Ft,mem_append->Bl,mem_append_left->Gc,mem_cons->Bk,mem_cons_of_mem->Ey,mem_filter->Gd,mem_flatMap->Ec,mem_iff_getElem->Be,mem_map->Dr,mem_range->Eb,mem_singleton->Gf,nil_append->Eu,nodup_append->Bq,nodup_cons->Ei,not_mem_nil->Dv,pairwise_iff_getElem->Fj,pairwise_map->Fc,range->Ds,replicate->Ba,setIfInBounds_toArray->Ci,set_cons_succ->Ch,set_cons_zero->Cg,size_toArray->Fq,toArray_replicate->Gj
open Nat renaming le_refl->Am,mul_one->Dc
open Option renaming none->Ae,some->Af
set_option maxHeartbeats 16000000
set_option maxRecDepth 100000
namespace Go.Proofs.YtlgkpdfieaadaaaGreatDoor
open Go.RowKit Go.Shelf
variable {w W W' w0 wr wx w2:Aj} {K K':Act->Aj->Prop} {b n gf N g i gR gU M W1 H1 w1 V j v t e side p e':Nat} {ls l1 l2 D:List Nat} {α:Type} {assign body:Code} {lb cs:Array Ak} {bl:List (Nat×Array Ak×Ck)} {A B c d:Cl} {u:Nat×Nat} {kd kd':Nat×Nat->Bool} {oth sf:Nat×Nat->Cl} {h h':Nat->Int} {m m':List Mv} {s:St} {f:Fd}
section
variable {P:Program} {ops:Array Oper} {Q:Exit->Act->Aj->Prop} {l n:Nat}
def Bo1 {o:Oper} (hd:∀c,o.op≠.defer c) {a:Act} (hK:∀a w,K a w->K' a w) (h:o.wp P a w K Q):o.wpIn (Fence.wide.inRound l) n P a w K' Q:=by
 refine⟨λ_ _=>trivial,?_⟩;rw[Oper.semAt_eq _ _ _ hd];unfold Oper.wp at h;generalize (execOp a.eval o).run P w=r at h⊢
 cases r with
 |ok x w'=>
  cases x with
  |value v=>exact hK _ _ h
  |skip=>exact hK _ _ h
  |defer d=>exact hK _ _ h
  |enter f args=>
   refine⟨λhh=>Bool.noConfusion (show false=true from hh),CallsIn.inRound l (callsIn_wide.2 (h.mono λe w'' he=>?_))⟩
   cases e with
   |returned v=>exact hK _ _ he
   |panicked c=>exact he
   |outgrown=>exact he
  |row r args=>exact⟨λhh=>Bool.noConfusion (show false=true from hh),λc cs _=>let⟨v,w'',r,s⟩:=h c cs;⟨v,w'',hK _ _ r,stepsIn_wide.2 s⟩⟩
  |_=>exact h.elim
 |halt x w'=>
  cases x<;>exact h
def mE (hq:¬LetsOut Q) (hd:∀(i:Nat) (o:Oper),ops[i]? =Af o->∀c,o.op≠.defer c):∀(is:List Nat) (a:Act) (w:Aj),wpOps P ops Q is a w->wpOpsIn (Fence.wide.inRound l) n P ops Q is a w
 |[],_,_,h=>h
 |i::rest,a,w,h=>by
  unfold wpOps at h;unfold wpOpsIn
  cases ho:ops[i]? with
  |none=>
   rw[ho]at h;exact mE hq hd rest a w h
  |some o=>
   rw[ho]at h;dsimp only at h⊢
   split at h
   ·rename_i hw;rw[Hc hw];rcases h with h|⟨-,h⟩
    ·exact Bo1 (hd i o ho) (λa w=>mE hq hd rest a w) h
    ·exact absurd h hq
   ·rename_i hw;rw[Ha hw];exact⟨λ_ _=>trivial,mE hq hd rest _ w h⟩
def bH {id:Nat} {S:Aj->Prop} {a:Act} (hm:P.follows .mixedOrders=true) (hq:¬LetsOut Q) (hd:(ops.all λo=>match o.op with| .defer _=>false|_=>true)=true)
  (hS:S w.drew) (h:S w.drew->wpAnyH P .any ops Q S ops.size (En ops.size false) a w.drew):(Code.region id ops true).wpIn (Fence.wide.inRound l) n P Q a w:=
 wpIn_region_draw λt=>by
  simp only[Region.schedule,hm,Bool.true_or,if_true];refine mE hq (λi o ho c hc=>?_) _ _ _ (wpAny_sound ops.size t _ a _ (wpAny_of_held _ _ _ _ (h hS)));have:=Array.all_eq_true.1 hd i (Au.1 ho).1;rw[(Au.1 ho).2,hc]at this
  cases this
end
def Un (h:W'.heap[b]? =W.heap[b]?) (o:Nat):W'.cell? ⟨b,o,Ae⟩=W.cell? ⟨b,o,Ae⟩:=by
 unfold World.cell?;rw[h]
section
variable {P:Program} {ops:Array Oper} {Q:Exit->Act->Aj->Prop} {md:Region.Mode} {S:Aj->Prop} {oi oj ok:Oper} {fuel:Nat} {listed:Array Bool} {a:Act} {w:Aj}
end
section
open Go.RowKit Go.Shelf
attribute [local go_sem] Oper.semAt_some
abbrev BwA (P:Nat->Prop):={x:Nat×Nat//P x.2}
def bwL (P:Nat->Prop) (ls:List Nat) (h:∀i∈ls,P i):List (BwA P):=
 (Ds ls.length).attach.map λk=>⟨(ls.length-1-k.1,ls[ls.length-1-k.1]'(oHx (Eb.1 k.2))),h _ (Ay _)⟩
def bwE {P:Nat->Prop} (x:BwA P):Array Ak:=#[Aa Ab (x.1.1:Nat),Aa Ab (x.1.2:Nat)]
def dI {P:Nat->Prop} {h:∀i∈ls,P i}:(bwL P ls h).length=ls.length:=by simp[bwL]
def yI {P:Nat->Prop} {h:∀i∈ls,P i} {k:Nat} (hk:k<(bwL P ls h).length):((bwL P ls h)[k]).1=(ls.length-1-k,ls[ls.length-1-k]'(by rw[dI]at hk;omega)):=by
 simp[bwL]
def Bh3 {P:Nat->Prop} {h:∀i∈ls,P i}:(bwL P ls h).map (·.1.2)=ls.reverse:=by
 apply Gk
 ·simp[bwL]
 ·intro k h1 h2;rw[List.getElem_map,yI,List.getElem_reverse]
def Bg7 (P:Nat->Prop) (Bn n₀:Nat) (A:Option Addr) (ls:List Nat) (cap:Nat) (hP:∀i∈ls,P i) (hlen:ls.length<=100000) (l n:Nat) (hn:1<=n) (J Jx:List (BwA P)->Aj->Prop) (W:Aj)
  (hY:∀pre x W1,J pre W1->pre.length<ls.length->YieldAt Fence.wide (n-1) Dp l (bwE x) W1 λe W'=>
   (e= .returned (.bool true)/\J (pre++[x]) W'/\Mo n₀ Bn W1 W')∨(e= .returned (.bool false)/\Jx (pre++[x]) W'))
  (jv:W.heap[Bn]? =Af (Obj.cells #[Ad A ls.length cap] 38 (0,0))) (yg:n₀<=W.heap.size) (hc:∀j (hj:j<ls.length),∃b o,A=Af ⟨b,o,Ae⟩/\b<n₀/\W.cell? ⟨b,o+j,Ae⟩=Af (Aa Ab (ls[j]:Nat))) (h0:J [] W):
  CallsIn Fence.wide n Dp 103 #[.func (.yield l) #[] #[],.pointer (Af ⟨Bn,0,Ae⟩)] W λe W'=>(∃v,e= .returned v)/\
   ((∃ys,ys=bwL P ls hP/\J ys W')∨(∃pre,True/\Jx pre W')):=by
 refine callsIn_of_wp Tryz.func103 rfl trivial ?_ rfl;simp only[Tryz.ntmps103,Fq,Eo,List.length_nil,Nat.reduceAdd,Nat.reduceSub,Array.replicate_succ,Array.replicate_zero,List.push_toArray,List.append_toArray,Eu,Er];have cj:=dI (h:=hP)
 have hbg:∀zs,bwL P ls hP=zs->∀k (hk:k<zs.length) j (hj:j<ls.length),j=ls.length-1-k->zs[k].1=(j,ls[j]):=by
  rintro _ rfl k hk j hj rfl;exact yI hk
 obtain⟨zs,IS⟩:=ey (bwL P ls hP);have L':=Ah (hbg zs IS);rw[IS]at cj⊢;obtain⟨N,hN⟩:=ey ls.length;have lh:W.cell? ⟨Bn,0,Ae⟩=Af (Ad A N cap):=by rw[Bz _ _ 0 _ _ _ jv,<-hN];rfl
 have HC:=Ah hc;have ct:=Ah hN;rw[hN]at hlen hY cj;have e1:wrap64 ((N:Int)-1)=(N:Int)-1:=Cc _ Gv;clear IS hbg hc hN
 gi_wp2
 gi_loopw [3] (λs3 wr=>∃(k:Nat) (i:Int),k<=N/\i=(N:Int)-1-k/\s3= Aa Ab i/\J (zs.take k) wr/\Mo n₀ Bn W wr) (λs3 _=>(intOf s3+1).toNat)
 case atStart=>exact⟨0,(N:Int)-1,Nat.zero_le _,Gv,rfl,h0,Ag _ _,rfl⟩
 obtain⟨k,i,hk,hi,rfl,LI,hB⟩:=hrel;have c0:wr.cell? ⟨Bn,0,Ae⟩=Af (Ad A N cap):=(Un hB.2 0).trans lh;by_cases ac:k<N
 ·obtain⟨j,rfl⟩:∃j:Nat,i=j:=⟨N-1-k,Gv⟩;have lu:j=N-1-k:=Gv;have hj:j<ls.length:=oHx ct.out;obtain⟨b,o,rfl,NH,d0⟩:=HC.out j hj;have d0:=(hB.1.cell (p:=⟨b,o+j,Ae⟩) NH).trans d0;obtain⟨iv,hv⟩:=ey (ls[j]);rw[hv]at d0;have OA:k<zs.length:=Gv;have q0:(j:Int)>=0:=Gv;have q1:(j:Int)<(N:Int):=Gv;have e2:wrap64 ((j:Int)-1)=(j:Int)-1:=Cc _ Gv
  have hx:zs[k].1=(j,iv):=by
   rw[L'.out k OA j hj (oHx ct.out),hv]
  obtain⟨fn,tmps,assign,body,hy,hR⟩:=hY _ zs[k] _ LI (by rw[List.length_take];omega);unfold bwE at hy;rw[hx]at hy;dsimp only at hy;have ug:zs.take k++[zs[k]]=zs.take (k+1):=(List.take_succ_eq_append_getElem OA).symm;have HJK:=Ah lu;clear hv hx lu hi
  gi_wp2
  refine hR.mono ?_;rintro e W3 (⟨rfl,GQ,IB⟩|⟨rfl,xg⟩)
  ·rw[ug]at GQ
   gi_wp2
   go_roundw
   case rel=>exact⟨k+1,(j:Int)-1,Gv,by have:=HJK.out;omega,by go_num,GQ,Vc hB IB⟩
   case measure=>simp[intOf]
  ·gi_wp2
   refine Ai (results_none rfl _ _ _) rfl ?_;exact⟨⟨_,rfl⟩,.inr ⟨_,trivial,xg⟩⟩
 ·obtain rfl:k=N:=Gv;have q0:¬i>=0:=Gv
  gi_wp2
  go_end0
  rw[<-cj,List.take_length]at LI;exact⟨⟨_,rfl⟩,.inl LI⟩
def kP (A:Option Addr) (n c:Nat) (w:Aj):
  Al Dp 55 #[Ad A n c] w λe w'=>e= .returned (.func (.func 103) #[] #[.pointer (Af ⟨w.heap.size,0,Ae⟩)])/\w'=w.alloc (.cells #[Ad A n c] 38):=by
 go_in;go_wp2;go_ret;exact⟨rfl,rfl⟩
def Ak3 {F:Fence} {P:Program} {g:Operand} {ps:Array Tmp} {Q:Exit->Act->Aj->Prop} {a:Act} 
  (LT:F.round=Ae) (h1:1<=n) (hg:a.eval g= .func (.func gf) #[] lb) (hFg:F.fn gf) (eg:∀args w,(callFunc gf args).run P w= .ok (.enter gf args) w)
  {EK:α->Array Ak} {Kp:Aj->Aj->Prop} {S Sp:List α->Prop} (S8:SeqStopsK F (n-1) P gf lb EK Kp S Sp N w0)
  (hKt:∀{A B C:Aj},Kp A B->Kp B C->Kp A C) (hKr:∀A,Kp A A) (x_:∀(W:Aj) (l:Nat) (o o':Obj),w.heap.size<=l->W.heap[l]? =Af o->o.isCells=false->o.isWalk=false->Kp W (W.putObj l o')) (lh:Below w0.heap.size w0 w) (mw:∀x,(EK x).size=ps.size)
  (I:List α->Aj->Prop) (hI:OwnFrom w.heap.size I) (h0:I [] w) (T:α->Array Ak)
  (zj:∀(l:Nat) (x:α) (W:Aj) (K:Act->Aj->Prop),K {tmps:=T x,defers:=[]} W->
   assign.wpIn (F.inRound l) (n-1-1) P (Exit.then K (λ_ _ _=>False)) {tmps:=(ps.zip (EK x)).foldl (λt (p,v)=>t.setIfInBounds p v) a.tmps,defers:=[]} W)
  (NI:∀(l:Nat) (pre:List α) (x:α) (W:Aj),I pre W->pre.length<N->body.wpIn (F.inRound l) (n-1-1) P (ownPostG w.heap.size Kp I (λ_ _ _=>False) (pre++[x]) W) {tmps:=T x,defers:=[]} W)
  (NO:∀(D:Nat) (xs:List α) (W:Aj),w.heap.size<=D->S xs->I xs W->W.heap[D]? =Af (.deferred (Af []))->Q .normal {a with defers:={target:= .collected D,args:=#[]}::a.defers} W):
  (Code.rangeFunc g ps assign body).wpIn F n P Q a w:=
 wpIn_rangeFunc_ownH LT h1 hg hFg eg S8 hKt x_ lh mw I (λ_ _ _=>False) hI (λ_ _ _ _ _ hs _ _=>hs) h0 (λx a' _=>a'={tmps:=T x,defers:=[]}) (λ_ _ _ _ _ _ hs _ _=>hs)
  (λl _ x W K hi hK=>zj l x W K (hK _ _ (KeepsFrom.refl _ _) (hKr _) hi rfl))
  (λl pre x a' W _ _ hi ha hN=>by subst ha;exact NI l pre x W hi hN)
  NO (λ_ _ _ _ _ _ h _=>h.elim)
def sY (P:Nat->Prop) (Bn n₀:Nat) (A:Option Addr) (ls:List Nat) (cap:Nat) (hP:∀i∈ls,P i) (hlen:ls.length<=100000) (n:Nat) (hn:1<=n) (w:Aj)
  (jv:w.heap[Bn]? =Af (Obj.cells #[Ad A ls.length cap] 38 (0,0))) (yg:n₀<=w.heap.size) (hc:∀j (hj:j<ls.length),∃b o,A=Af ⟨b,o,Ae⟩/\b<n₀/\w.cell? ⟨b,o+j,Ae⟩=Af (Aa Ab (ls[j]:Nat))):
  SeqStopsK Fence.wide n Dp 103 #[.pointer (Af ⟨Bn,0,Ae⟩)] (bwE (P:=P)) (Mo n₀ Bn) (λys=>ys=bwL P ls hP) (λ_=>True) ls.length w:=λl J Jx W hW _ _ hY h0=>
 Bg7 P Bn n₀ A ls cap hP hlen l n hn J Jx W hY (kept hW jv (Au.1 jv).1) (Nat.le_trans yg hW.size) (λj hj=>by
  obtain⟨b,o,e,hb,gv⟩:=hc j hj;exact⟨b,o,e,hb,(hW.cell (p:=⟨b,o+j,Ae⟩) (by show b<_;omega)).trans gv⟩) h0
end
section
open Go.RowKit
def Bb1:(Tryz.prog.info? 199).map (λi=>(i.zero,i.size,i.bytes))=Af (Af (Ad Ae 0 0),1,24):=Gx
def Vm {t:Ck} {v:Ak} (h:w.heap[g]? =Af (.cells cs t (0,0))):(w.setCell ⟨g,i,Ae⟩ v).heap[g]? =Af (.cells (cs.setIfInBounds i v) t (0,0)):=by
 rw[setCell_eq_setRow w g i cs t (0,0) v h];unfold World.setRow;rw[Dg,Hc rfl,h];rfl
def Hu {g i k:Nat} {v:Ak} (h:k≠g):(w.setCell ⟨g,i,Ae⟩ v).heap[k]? =w.heap[k]? :=by
 simp[World.setCell,Dg,Ne.symm h]
def Vd (z:Ak) (n:Nat) (hc:z.cells= #[z]):madeCells z.cells n=(Ba n z).toArray:=by
 rw[hc];apply Array.ext
 ·simp[madeCells]
 ·intro i h1 h2;simp[madeCells,Nat.mod_one]
def jH (n:Nat) (h:n<=1000) (w:Aj):(Instr.makeSlice 128 (Aa Ab n) (Aa Ab n)).run Dp w= .ok (Ad (Af ⟨w.heap.size,0,Ae⟩) n n) (w.alloc (.cells (Ba n (Ad Ae 0 0)).toArray 199)):=by
 obtain⟨i0,ep,dp,ap,bw⟩:=info_parts Bb1;have:=run_makeSlice (P:=Dp) w 128 199 i0 _ Tryz.underlying128 ep dp .i64 .i64 n n Gv Gv (by rw[ap];simp;omega) (by rw[bw];omega) Gv;rw[ap,Dc,Ev,Vd _ n rfl]at this;exact this
def Ag8:(Tryz.prog.info? 166).map (λi=>(i.zero,i.size,i.bytes))=Af (Af (Aa Ac 0),1,1):=Gx
def fM (n:Nat) (h:n<=1000) (w:Aj):(Instr.makeSlice 199 (Aa Ab n) (Aa Ab n)).run Dp w= .ok (Ad (Af ⟨w.heap.size,0,Ae⟩) n n) (w.alloc (.cells (Ba n (Aa Ac 0)).toArray 166)):=by
 obtain⟨i0,ep,dp,ap,bw⟩:=info_parts Ag8;have:=run_makeSlice (P:=Dp) w 199 166 i0 _ Tryz.underlying199 ep dp .i64 .i64 n n Gv Gv (by rw[ap];simp;omega) (by rw[bw];omega) Gv;rw[ap,Dc,Ev,Vd _ n rfl]at this;exact this
def Yb (n b:Nat):Ak:= Ad (Af ⟨b,0,Ae⟩) n n
def sJ (n:Nat):Obj:= .cells (Ba n (Value.int .u8 0)).toArray 166
def Ta (n M k y:Nat):Obj:= .cells (((Ds y).map λi=>Yb k (M+i))++Ba (n-y) (Value.slice Ae 0 0)).toArray 199
structure aB (w:Aj) (g n M k y:Nat):Prop where
 hd:w.heap[g]? =Af (Ta n M k y)
 row:∀i,i<y->w.heap[M+i]? =Af (sJ k)
def eQ {g n M k y:Nat} (h:w.heap[g]? =Af (Ta n M k y)) (hy:y<n):w.cell? ⟨g,y,Ae⟩=Af (Ad Ae 0 0)/\w.frozen? ⟨g,y,Ae⟩=false:=by
 unfold Ta at h
 constructor
 ·rw[Bz _ _ y _ _ _ h];obtain⟨m,rfl⟩:∃m,n=y+1+m:=⟨n-y-1,Gv⟩;rw[show y+1+m-y=m+1 by omega,List.replicate_succ];simp
 ·simp[World.frozen?,h]
def iX {n M k y:Nat} (hy:y<n):(((Ds y).map λi=>Yb k (M+i))++Ba (n-y) (Value.slice Ae 0 0)).toArray.setIfInBounds y (Yb k (M+y))=(((Ds (y+1)).map λi=>Yb k (M+i))++Ba (n-(y+1)) (Value.slice Ae 0 0)).toArray:=by
 obtain⟨m,rfl⟩:∃m,n=y+1+m:=⟨n-y-1,Gv⟩;rw[show y+1+m-y=m+1 by omega,show y+1+m-(y+1)=m by omega,List.replicate_succ,List.range_succ,List.map_append];simp
def Km (n M k:Nat):Ta n M k 0= .cells (En n (Value.slice Ae 0 0)) 199:=by simp[Ta]
def Mw (w:Aj) (o0 o1 o2 o3:Obj):((((w.alloc o0).alloc o1).alloc o2).alloc o3).drew.heap[w.heap.size]? =Af o0/\((((w.alloc o0).alloc o1).alloc o2).alloc o3).drew.heap[w.heap.size+1]? =Af o1/\
  ((((w.alloc o0).alloc o1).alloc o2).alloc o3).drew.heap[w.heap.size+1+1]? =Af o2/\((((w.alloc o0).alloc o1).alloc o2).alloc o3).drew.heap[w.heap.size+1+1+1]? =Af o3/\
  ((((w.alloc o0).alloc o1).alloc o2).alloc o3).drew.heap.size=w.heap.size+4/\Below w.heap.size w ((((w.alloc o0).alloc o1).alloc o2).alloc o3).drew:=by
 have hb:Below w.heap.size w ((((w.alloc o0).alloc o1).alloc o2).alloc o3).drew:=(((((Ag _ _).alloc (Am _) _).alloc Gy _).alloc Hv _).alloc Hv _).drew;have s1:(w.alloc o0).heap.size=w.heap.size+1:=Gy;have s2:((w.alloc o0).alloc o1).heap.size=w.heap.size+1+1:=Gy;have s3:(((w.alloc o0).alloc o1).alloc o2).heap.size=w.heap.size+1+1+1:=Gy;have a0:=Ca w o0;have a1:=Ca (w.alloc o0) o1;have a2:=Ca ((w.alloc o0).alloc o1) o2;have a3:=Ca (((w.alloc o0).alloc o1).alloc o2) o3;have b1:∀(v:Aj) (o:Obj),Below v.heap.size v (v.alloc o):=λv o=>(Ag _ _).alloc (Am _) o;have c0:=kept (b1 _ o3) (kept (b1 _ o2) (kept (b1 _ o1) a0 Gv) Gv) Gv;have c1:=kept (b1 _ o3) (kept (b1 _ o2) a1 Gv) Gv;have c2:=kept (b1 _ o3) a2 Gv;rw[s1]at c1;rw[s2]at c2;rw[s3]at a3;exact⟨c0,c1,c2,a3,Gy,hb⟩
def Py (wr:Aj) (g y k:Nat):Aj:=((wr.setCell ⟨g,y,Ae⟩ (Ad (Af ⟨wr.heap.size,0,Ae⟩) k k)).alloc (.cells (En k (Value.int .u8 0)) 166)).drew
def gN (wr:Aj) (g y k:Nat):(Py wr g y k).heap.size=wr.heap.size+1:=by simp[Py]
def jZ {g y k j:Nat} (hj:j<wr.heap.size):(Py wr g y k).heap[j]? =(wr.setCell ⟨g,y,Ae⟩ (Ad (Af ⟨wr.heap.size,0,Ae⟩) k k)).heap[j]? :=by
 unfold Py;exact((Ag _ _).alloc (Am _) _:Below (wr.setCell ⟨g,y,Ae⟩ (Ad (Af ⟨wr.heap.size,0,Ae⟩) k k)).heap.size _ _).block j (by simpa using hj)
def Od {g y k j:Nat} (hj:j<wr.heap.size) (hne:j≠g):(Py wr g y k).heap[j]? =wr.heap[j]? :=(jZ hj).trans (Hu hne)
def Am3 (wr:Aj) (g y k:Nat):(Py wr g y k).heap[wr.heap.size]? =Af (sJ k):=by
 have:=Ca (wr.setCell ⟨g,y,Ae⟩ (Ad (Af ⟨wr.heap.size,0,Ae⟩) k k)) (.cells (En k (Value.int .u8 0)) 166);rw[World.size_setCell]at this;unfold Py sJ;rw[Gj];exact this
def aB.step {g n M k y:Nat} (h:aB wr g n M k y) (hy:y<n) (hs:wr.heap.size=M+y) (hg:g<M):aB (Py wr g y k) g n M k (y+1):=by
 refine⟨?_,λi hi=>?_⟩
 ·rw[jZ Gv];have:=Vm (i:=y) (v:= Ad (Af ⟨wr.heap.size,0,Ae⟩) k k) h.hd;rw[this];have e:=iX (M:=M) (k:=k) hy;unfold Yb at e;unfold Ta Yb;rw[hs,e]
 ·by_cases e:i=y
  ·subst e;rw[<-hs];exact Am3 _ _ _ _
  ·rw[Od Gv Gv];exact h.row i Gv
def aB.far {g n M k y:Nat} (h:aB wr g n M k y) (hg:wx.heap[g]? =wr.heap[g]?) (hr:∀i,i<y->wx.heap[M+i]? =wr.heap[M+i]?):aB wx g n M k y:=⟨hg.trans h.hd,λi hi=>(hr i hi).trans (h.row i hi)⟩
def cS {g y k:Nat} (h:Below w.heap.size w wr) (hg:w.heap.size<=g):Below w.heap.size w (Py wr g y k):=((h.setCell hg _).alloc (by simpa using h.size) _).drew
def Ao0 (W1 H1:Nat) (w:Aj) (e:Ending) (w':Aj):Prop:=
 ∃gR gU M,gR≠gU/\w.heap.size<=gR/\gR<M/\w.heap.size<=gU/\gU<M/\e= .returned (.agg #[Aa Ab (W1+1:Nat),Aa Ab (H1+1:Nat),Ad (Af ⟨gR,0,Ae⟩) (H1+1) (H1+1),Ad (Af ⟨gU,0,Ae⟩) H1 H1])/\
  aB w' gR (H1+1) M W1 (H1+1)/\aB w' gU H1 (M+(H1+1)) (W1+1) H1/\w'.heap.size=M+(H1+1)+H1/\Below w.heap.size w w'
def Ac7 (W1 H1:Nat) (w:Aj) (hW:W1<=20) (hH:H1<=20):
  Al Dp 101 #[Aa Ab (W1+1:Nat),Aa Ab (H1+1:Nat)] w (Ao0 W1 H1 w):=by
 obtain⟨W,hWe⟩:=ez (W1+1);obtain⟨H,hHe⟩:=ez (H1+1);rw[<-hWe,<-hHe];have HWE:=Ah hWe;have HHE:=Ah hHe;have m1:=jH H Gv;have m2:=jH H1 Gv;have m3:=fM W1 Gv;have m4:=fM W Gv;have e1:Ab.wrap ((H:Int)-1)=(H1:Int):=by rw[Cb _ Gv];omega
 have e2:Ab.wrap ((W:Int)-1)=(W1:Int):=by rw[Cb _ Gv];omega
 simp only[Gj]at m1 m2 m3 m4;have EL:H<=21:=Gv;clear hWe hHe;go_in;go_upto_region 1 with fail;obtain⟨N,hN⟩:=ez w.heap.size;go_cut [5]from 5 to 15 (λs5 wx=>∃g5 gR gU,s5= .pointer (Af ⟨g5,0,Ae⟩)/\N<g5/\N<gR/\N<gU/\g5≠gR/\g5≠gU/\gR≠gU/\g5<N+4/\gR<N+4/\gU<N+4/\wx.heap.size=N+4/\wx.heap[g5]? =Af (.cells #[W,H,Ad (Af ⟨gR,0,Ae⟩) H H,Ad (Af ⟨gU,0,Ae⟩) H1 H1] 130 (0,0))/\wx.heap[gR]? =Af (Ta H (N+4) W1 0)/\wx.heap[gU]? =Af (Ta H1 (N+4+H) W 0)/\(∃o,wx.heap[N]? =Af (.cells o 130 (0,0))/\o.size=4)/\Below w.heap.size w wx)
 case first=>
  go_region
  all_goals
   go_wp2;go_meet;subst hN
   first
   |exact⟨w.heap.size+1,w.heap.size+1+1,w.heap.size+1+1+1,rfl,Gv,Gv,Gv,Gv,Gv,Gv,Gv,Gv,Gv,(Mw w _ _ _ _).2.2.2.2.1,(Mw w _ _ _ _).2.1,by rw[Km];exact(Mw w _ _ _ _).2.2.1,by rw[Km];exact(Mw w _ _ _ _).2.2.2.1,⟨_,(Mw w _ _ _ _).1,rfl⟩,(Mw w _ _ _ _).2.2.2.2.2⟩
   |exact⟨w.heap.size+1,w.heap.size+1+1+1,w.heap.size+1+1,rfl,Gv,Gv,Gv,Gv,Gv,Gv,Gv,Gv,Gv,(Mw w _ _ _ _).2.2.2.2.1,(Mw w _ _ _ _).2.1,by rw[Km];exact(Mw w _ _ _ _).2.2.2.1,by rw[Km];exact(Mw w _ _ _ _).2.2.1,⟨_,(Mw w _ _ _ _).1,rfl⟩,(Mw w _ _ _ _).2.2.2.2.2⟩
   |exact⟨w.heap.size+1+1,w.heap.size+1,w.heap.size+1+1+1,rfl,Gv,Gv,Gv,Gv,Gv,Gv,Gv,Gv,Gv,(Mw w _ _ _ _).2.2.2.2.1,(Mw w _ _ _ _).2.2.1,by rw[Km];exact(Mw w _ _ _ _).2.1,by rw[Km];exact(Mw w _ _ _ _).2.2.2.1,⟨_,(Mw w _ _ _ _).1,rfl⟩,(Mw w _ _ _ _).2.2.2.2.2⟩
   |exact⟨w.heap.size+1+1,w.heap.size+1+1+1,w.heap.size+1,rfl,Gv,Gv,Gv,Gv,Gv,Gv,Gv,Gv,Gv,(Mw w _ _ _ _).2.2.2.2.1,(Mw w _ _ _ _).2.2.1,by rw[Km];exact(Mw w _ _ _ _).2.2.2.1,by rw[Km];exact(Mw w _ _ _ _).2.1,⟨_,(Mw w _ _ _ _).1,rfl⟩,(Mw w _ _ _ _).2.2.2.2.2⟩
   |exact⟨w.heap.size+1+1+1,w.heap.size+1,w.heap.size+1+1,rfl,Gv,Gv,Gv,Gv,Gv,Gv,Gv,Gv,Gv,(Mw w _ _ _ _).2.2.2.2.1,(Mw w _ _ _ _).2.2.2.1,by rw[Km];exact(Mw w _ _ _ _).2.1,by rw[Km];exact(Mw w _ _ _ _).2.2.1,⟨_,(Mw w _ _ _ _).1,rfl⟩,(Mw w _ _ _ _).2.2.2.2.2⟩
   |exact⟨w.heap.size+1+1+1,w.heap.size+1+1,w.heap.size+1,rfl,Gv,Gv,Gv,Gv,Gv,Gv,Gv,Gv,Gv,(Mw w _ _ _ _).2.2.2.2.1,(Mw w _ _ _ _).2.2.2.1,by rw[Km];exact(Mw w _ _ _ _).2.2.1,by rw[Km];exact(Mw w _ _ _ _).2.1,⟨_,(Mw w _ _ _ _).1,rfl⟩,(Mw w _ _ _ _).2.2.2.2.2⟩
 obtain⟨g5,gR,gU,rfl,l5,lR,lU,n5R,n5U,nRU,k5,kR,kU,gg,h5,hR,hU,⟨o4,h4,KC⟩,hbV⟩:=hcut;obtain⟨M,hM⟩:=ez (N+4);rw[<-hM]at hR hU k5 kR kU gg;have HM4:=Ah hM;have HN:=Ah hN;have H4:=Ah h4;have H5:=Ah h5;have HR:=Ah hR;have HU:=Ah hU;have NRU:=Ah nRU;have N5R:=Ah n5R;have N5U:=Ah n5U;clear hM hN h4 hR hU nRU n5R n5U;obtain⟨⟨x0,x1,x2,x3⟩,_⟩:=Jh h5;clear h5;go_wp2
 go_loopw [6,19] (λ_ Y6 wr=>∃y:Nat,y<=H/\Y6= Aa Ab y/\wr.heap.size=M+y/\Hid (wr.heap[N]? =Af (.cells o4 130 (0,0)))/\Hid (wr.heap[g5]? =Af (.cells #[W,H,Ad (Af ⟨gR,0,Ae⟩) H H,Ad (Af ⟨gU,0,Ae⟩) H1 H1] 130 (0,0)))/\Hid (wr.heap[gU]? =Af (Ta H1 (M+H) W 0))/\Hid (aB wr gR H M W1 y)/\Below w.heap.size w wr) (λ_ Y6 _=>H-(intOf Y6).toNat)
 case atStart=>exact⟨0,Gv,rfl,gg,H4,H5,HU,Ah ⟨HR.out,λi hi=>Gv⟩,hbV⟩
 clear x0 x1 x2 x3;obtain⟨y,hy,rfl,AH,G4,G5,GU,GL,kj⟩:=hrel;obtain⟨⟨x0,x1,x2,x3⟩,_⟩:=Jh G5.out;by_cases ac:y<H
 ·have q1:(y:Int)<(H:Int):=Gv;obtain⟨c1,c2⟩:=eQ GL.out.hd ac;have nj:gR<wr.heap.size:=Gv;have ef:g5<wr.heap.size:=Gv;have ng:=Ah AH;clear AH;go_wp2
  go_region
  change Exit.inBlock 1 _ _ _ (Py wr gR y W1);have T4:=Ah ((Od (g:=gR) (y:=y) (k:=W1) (oHx ng.out) Gv).trans G4.out);have T5:=Ah ((Od (g:=gR) (y:=y) (k:=W1) ef N5R.out).trans G5.out);have TU:=Ah ((Od (g:=gR) (y:=y) (k:=W1) (oHx ng.out) (Ne.symm NRU.out)).trans GU.out);have TL:=Ah (GL.out.step ac ng.out kR);have TB:Below w.heap.size w (Py wr gR y W1):=cS kj (oHx HN.out);have TS:(Py wr gR y W1).heap.size=M+(y+1):=by rw[gN,ng.out];omega
  generalize Py wr gR y W1=wt at T4 T5 TU TL TB TS⊢;clear G4 G5 GU GL kj x0 x1 x2 x3 c1 c2;go_wp2
  go_roundw
  case rel=>exact⟨y+1,Gv,by go_num,TS,T4,T5,TU,TL,TB⟩
  case measure=>simp[intOf];omega
 ·have q1:¬(y:Int)<(H:Int):=Gv;obtain rfl:H=y:=Gv;have ng:=Ah AH;clear AH;go_wp2_with fail;obtain⟨wo,rfl⟩:∃wo:Aj,wo=wr:=⟨_,rfl⟩
  go_loopw [7,33] (λ_ s33 wr=>∃y:Nat,y<=H1/\s33= Aa Ab y/\wr.heap.size=M+H+y/\Hid (wr.heap[N]? =Af (.cells o4 130 (0,0)))/\Hid (wr.heap[g5]? =Af (.cells #[W,H,Ad (Af ⟨gR,0,Ae⟩) H H,Ad (Af ⟨gU,0,Ae⟩) H1 H1] 130 (0,0)))/\Hid (aB wr gR H M W1 H)/\Hid (aB wr gU H1 (M+H) W y)/\Below w.heap.size w wr) (λ_ s33 _=>H1-(intOf s33).toNat)
  case atStart=>exact⟨0,Gv,rfl,ng.out,G4,G5,GL,Ah ⟨GU.out,λi hi=>Gv⟩,kj⟩
  clear x0 x1 x2 x3;obtain⟨y,hy,rfl,AH,G4,G5,GL,GU,kj⟩:=hrel;obtain⟨⟨x0,x1,x2,x3⟩,_⟩:=Jh G5.out;by_cases ac:y<H1
  ·have q1:(y:Int)<(H1:Int):=Gv;obtain⟨c1,c2⟩:=eQ GU.out.hd ac;have nj:gU<wr.heap.size:=Gv;have ef:g5<wr.heap.size:=Gv;have ng:=Ah AH;clear AH;go_wp2
   go_region
   change Exit.inBlock 3 _ _ _ (Py wr gU y W);have T4:=Ah ((Od (g:=gU) (y:=y) (k:=W) (oHx ng.out) Gv).trans G4.out);have T5:=Ah ((Od (g:=gU) (y:=y) (k:=W) ef N5U.out).trans G5.out);have TL:=Ah (GL.out.far (Od (g:=gU) (y:=y) (k:=W) (oHx ng.out) NRU.out) (λi hi=>Od (g:=gU) (y:=y) (k:=W) (oHx ng.out) Gv));have TU:=Ah (GU.out.step ac ng.out Gv);have TB:Below w.heap.size w (Py wr gU y W):=cS kj (oHx HN.out);have TS:(Py wr gU y W).heap.size=M+H+(y+1):=by rw[gN,ng.out];omega
   generalize Py wr gU y W=wt at T4 T5 TU TL TB TS⊢;clear G4 G5 GU GL kj x0 x1 x2 x3 c1 c2;go_wp2
   go_roundw
   case rel=>exact⟨y+1,Gv,by go_num,TS,T4,T5,TL,TU,TB⟩
   case measure=>simp[intOf];omega
  ·have q1:¬(y:Int)<(H1:Int):=Gv;obtain rfl:H1=y:=Gv;obtain rfl:=HN.out;have ng:=Ah AH;clear AH
   obtain⟨r0,r1,r2,r3,rfl⟩:∃r0 r1 r2 r3,o4= #[r0,r1,r2,r3]:=by
    obtain⟨l⟩:=o4
    match l,KC with
    |[a,b,c,d],_=>exact⟨a,b,c,d,rfl⟩
   obtain⟨⟨y0,y1,y2,y3⟩,⟨f0,f1,f2,f3⟩⟩:=Jh G4.out;go_wp2_with fail;refine Ai (v:= .agg #[W,H,Ad (Af ⟨gR,0,Ae⟩) H H,Ad (Af ⟨gU,0,Ae⟩) H1 H1]) (by simp[results,Tryz.results101,go_sem,y0,y1,y2,y3]) rfl ?_;have UF:∀j,j≠w.heap.size->((((wr.setCell ⟨w.heap.size,0,Ae⟩ (Aa Ab W)).setCell ⟨w.heap.size,1,Ae⟩ (Aa Ab H)).setCell ⟨w.heap.size,2,Ae⟩ (Ad (Af ⟨gR,0,Ae⟩) H H)).setCell ⟨w.heap.size,3,Ae⟩ (Ad (Af ⟨gU,0,Ae⟩) H1 H1)).heap[j]? =wr.heap[j]? :=λj hj=>by rw[Hu hj,Hu hj,Hu hj,Hu hj]
   obtain rfl:=HWE.out;obtain rfl:=HHE.out;refine⟨gR,gU,M,NRU.out,Gv,kR,Gv,kU,rfl,GL.out.far (UF _ Gv) (λi hi=>UF _ Gv),GU.out.far (UF _ Gv) (λi hi=>UF _ Gv),by simp[ng.out],?_⟩;exact(((kj.setCell (Am _) _).setCell (Am _) _).setCell (Am _) _).setCell (Am _) _
def Cr.odd (r:Cr):Bool:=decide (r.e≠0)||decide (r.k=3)
abbrev Mtx:=Nat->Nat->Int
def vF (m:Mtx) (y x:Nat) (k:Int):Mtx:=λi j=>if i=y/\j=x then k else m i j
def vH {a b c:Int} (hs:okS a b=true) (h:Ij a b c 0=(c,0,0)):0<=c/\c<4*a*b/\((c%4=1/\c/4%a+1<a)∨(c%4=2/\c/4/a+1<b)):=by
 obtain⟨m1,m2,m3,m4,m5,m6⟩:=Mg hs;unfold Ij at h
 split at h
 ·rename_i h0
  have hle:c<=(nbI a b c 0).1:=by
   have:=congrArg (λp:Int×Int×Int=>p.1) h;dsimp only at this;omega
  cases hh:Sz a b c with
  |false=>
   exfalso;unfold nbI at h0;rw[hh]at h0;simp at h0
  |true=>
   have hc:=Oq.1 hh;refine⟨hc.1,hc.2,?_⟩;have hq:c%4=0∨c%4=1∨c%4=2∨c%4=3:=Gv;have e1:=Int.emod_add_mul_ediv (c/4) a;have e2:a*(c/4/a)=c/4/a*a:=Int.mul_comm _ _;unfold nbI at h0 hle;rw[hh,Ha He]at h0 hle
   split at h0
   ·rename_i h1;rw[Hc h1]at hle;unfold nbr at h0 h1 hle
    split at h1
    ·simp at h1
    ·rename_i g1;rw[Ha g1]at h0 hle
     split at h1
     ·rename_i g2;rw[Hc g2]at h0 hle;unfold idI at h0 hle
      split at h0
      ·rename_i g3;rw[Hc g3]at hle;unfold inS at g3;rcases hq with hq|hq|hq|hq
       ·exfalso;rw[hq]at hle;simp[nxt,Int.add_mul]at hle;omega
       ·rw[hq]at g3;simp[nxt]at g3;omega
       ·rw[hq]at g3;simp[nxt]at g3;omega
       ·exfalso;rw[hq]at hle;simp[nxt]at hle;omega
      ·simp at h0
     ·simp at h1
   ·simp at h0
 ·rename_i h0;have:=congrArg (λp:Int×Int×Int=>p.2.2) h;dsimp only at this;exact absurd this h0
def mO (k:Nat) (m:Nat->Int):Obj:= .cells ((Ds k).map λx=>Value.int .u8 (m x)).toArray 166
def kF (k:Nat):sJ k=mO k λ_=>0:=by
 unfold sJ mO
 congr 2
 apply Gk
 ·simp
 ·intro i h1 h2;simp
structure Ru (wr:Aj) (gR gU M W1 H1:Nat) (s:Mtx×Mtx):Prop where
 hR:wr.heap[gR]? =Af (Ta (H1+1) M W1 (H1+1))
 hU:wr.heap[gU]? =Af (Ta H1 (M+(H1+1)) (W1+1) H1)
 rR:∀i,i<H1+1->wr.heap[M+i]? =Af (mO W1 (s.1 i))
 rU:∀i,i<H1->wr.heap[M+(H1+1)+i]? =Af (mO (W1+1) (s.2 i))
def Ru.of (h1:aB wr gR (H1+1) M W1 (H1+1)) (h2:aB wr gU H1 (M+(H1+1)) (W1+1) H1):Ru wr gR gU M W1 H1 (λ_ _=>0,λ_ _=>0):=
 ⟨h1.hd,h2.hd,λi hi=>(h1.row i hi).trans (congrArg Af (kF _)),λi hi=>(h2.row i hi).trans (congrArg Af (kF _))⟩
def Ru.same {s:Mtx×Mtx} (h:Ru wr gR gU M W1 H1 s) (lo:Nat) (hi:Nat) (h1:lo<=gR/\gR<M) (h2:lo<=gU/\gU<M) (h3:M+(H1+1)+H1<=hi) (hk:∀j,lo<=j->j<hi->wx.heap[j]? =wr.heap[j]?):Ru wx gR gU M W1 H1 s:=
 ⟨(hk _ h1.1 Gv).trans h.hR,(hk _ h2.1 Gv).trans h.hU,λi hi=>(hk _ Gv Gv).trans (h.rR i hi),λi hi=>(hk _ Gv Gv).trans (h.rU i hi)⟩
def rI {k x:Nat} {m:Nat->Int} {v:Int} (h:w.heap[g]? =Af (mO k m)):(w.setCell ⟨g,x,Ae⟩ (Aa Ac v)).heap[g]? =Af (mO k λj=>if j=x then v else m j):=by
 unfold mO at h⊢;rw[Vm h]
 congr 2
 apply Array.ext
 ·simp
 ·intro i h1 h2;simp only[Array.size_setIfInBounds,Fq,List.length_map,Cp]at h1;rw[Array.getElem_setIfInBounds (by simpa using h1)];by_cases hx:x=i
  ·subst hx;simp
  ·rw[Ha hx];simp[Ne.symm hx]
def jT {k x:Nat} {m:Nat->Int} (h:w.heap[g]? =Af (mO k m)) (hx:x<k):w.cell? ⟨g,x,Ae⟩=Af (Aa Ac (m x))/\w.frozen? ⟨g,x,Ae⟩=false:=by
 unfold mO at h
 constructor
 ·rw[Bz _ _ x _ _ _ h];simp[hx]
 ·simp[World.frozen?,h]
def iW {g n M k y:Nat} (h:w.heap[g]? =Af (Ta n M k n)) (hy:y<n):w.cell? ⟨g,y,Ae⟩=Af (Yb k (M+y)):=by
 unfold Ta at h;rw[Bz _ _ y _ _ _ h];simp[hy]
def Ru.setR {s:Mtx×Mtx} (h:Ru wr gR gU M W1 H1 s) (h1:gR<M) (h2:gU<M) (y x:Nat) (hy:y<H1+1) (v:Int):Ru (wr.setCell ⟨M+y,x,Ae⟩ (Aa Ac v)) gR gU M W1 H1 (vF s.1 y x v,s.2):=by
 refine⟨(Hu Gv).trans h.hR,(Hu Gv).trans h.hU,λi hi=>?_,λi hi=>(Hu Gv).trans (h.rU i hi)⟩;by_cases e:i=y
 ·subst e;rw[rI (h.rR i hi)];unfold vF;simp
 ·rw[Hu Gv,h.rR i hi];unfold vF;simp[e]
def Ru.setU {s:Mtx×Mtx} (h:Ru wr gR gU M W1 H1 s) (h1:gR<M) (h2:gU<M) (y x:Nat) (hy:y<H1) (v:Int):Ru (wr.setCell ⟨M+(H1+1)+y,x,Ae⟩ (Aa Ac v)) gR gU M W1 H1 (s.1,vF s.2 y x v):=by
 refine⟨(Hu Gv).trans h.hR,(Hu Gv).trans h.hU,λi hi=>(Hu Gv).trans (h.rR i hi),λi hi=>?_⟩;by_cases e:i=y
 ·subst e;rw[rI (h.rU i hi)];unfold vF;simp
 ·rw[Hu Gv,h.rU i hi];unfold vF;simp[e]
def Bx.same {l:List (Nat×Array Ak×Ck)} (h:Bx w l wr) (hb:Below w.heap.size w w2) (hk:∀(i g:Nat) (cs:Array Ak) (t:Ck),l[i]? =Af (g,cs,t)->w2.heap[g]? =wr.heap[g]?):Bx w l w2:=
 ⟨hb,λi g cs t hi=>(hk i g cs t hi).trans (h.blk i g cs t hi),h.lo,h.inj⟩
def Bt9 (w:Aj) (e:Ending) (w':Aj):Prop:=Below w.heap.size w w'/\∃(a b:Int) (gR gU W1 H1:Nat),e= .returned (.tuple #[.agg #[a,b,Ad (Af ⟨gR,0,Ae⟩) (H1+1) (H1+1),Ad (Af ⟨gU,0,Ae⟩) H1 H1],Aa Ab 0])
def Bt1 (a b:Int) (W1 H1:Nat) (w:Aj) (e:Ending) (w':Aj):Prop:=
 ∃gR gU M,gR≠gU/\w.heap.size<=gR/\gR<M/\w.heap.size<=gU/\gU<M/\e= .returned (.agg #[a,b,Ad (Af ⟨gR,0,Ae⟩) (H1+1) (H1+1),Ad (Af ⟨gU,0,Ae⟩) H1 H1])/\
  Ru w' gR gU M W1 H1 (λ_ _=>0,λ_ _=>0)/\w'.heap.size=M+(H1+1)+H1/\Below w.heap.size w w'
def Bm7 {a b c e:Int} (h:Ij a b c e=(c,e,0)):0<=c/\c<4*a*b:=by
 unfold Ij at h
 split at h
 ·rename_i h0
  cases hh:Sz a b c with
  |true=>exact Oq.1 hh
  |false=>
   unfold nbI at h0;rw[hh]at h0;simp at h0
 ·rename_i h0;exact absurd (congrArg (λp:Int×Int×Int=>p.2.2) h) h0
def tA {a b:Int} (W1 H1:Nat) (ha:a=(W1+1:Nat)) (hb:b=(H1+1:Nat)) (hW:W1<=20) (hH:H1<=20) (w:Aj):Al Dp 101 #[a,b] w (Bt1 a b W1 H1 w):=by
 subst ha hb;refine(Ac7 W1 H1 w hW hH).mono ?_;rintro e w' ⟨gR,gU,M,h1,h2,h3,h4,h5,h6,h7,h8,h9,CU⟩;exact⟨gR,gU,M,h1,h2,h3,h4,h5,h6,.of h7 h8,h9,CU⟩
structure gV (w:Aj) (w1:Nat) (bl:List (Nat×Array Ak×Ck)) (a b:Int) (gR gU M W1 H1 V:Nat) (wr:Aj):Prop where
 bx:Bx w (bl++[(V,#[Aa Ab a,Aa Ab b,Ad (Af ⟨gR,0,Ae⟩) (H1+1) (H1+1),Ad (Af ⟨gU,0,Ae⟩) H1 H1],130)]) wr
 at':∃s,Ru wr gR gU M W1 H1 s
 lo:w1<=gR/\gR<M/\w1<=gU/\gU<M
 hi:M+(H1+1)+H1<=V
 old:∀(i g:Nat) (cs:Array Ak) (t:Ck),bl[i]? =Af (g,cs,t)->g<w1
 base:w.heap.size<=w1
def gV.put {a b:Int} (h:gV w w1 bl a b gR gU M W1 H1 V wr) (hg:M<=g/\g<M+(H1+1)+H1) (x:Nat) (v:Ak) (hm:∃s,Ru (wr.setCell ⟨g,x,Ae⟩ v) gR gU M W1 H1 s):gV w w1 bl a b gR gU M W1 H1 V (wr.setCell ⟨g,x,Ae⟩ v):=by
 refine⟨h.bx.same (h.bx.below.setCell (by have h1:=h.base;have h2:=h.lo;show w.heap.size<=g;omega) v) λi g' cs t hi=>Hu ?_,hm,h.lo,h.hi,h.old,h.base⟩;intro e;subst e;by_cases hl:i<bl.length
 ·rw[List.getElem?_append_left hl]at hi;have:=h.old i g' cs t hi;have:=h.lo;omega
 ·rw[Eg Gv]at hi;have DE:=List.mem_of_getElem? hi;simp at DE;have:=h.hi;omega
def gV.call {a b:Int} (h:gV w w1 bl a b gR gU M W1 H1 V wr) (hb:Below wr.heap.size wr wx):gV w w1 bl a b gR gU M W1 H1 V wx:=by
 have hv:V<wr.heap.size:=h.bx.lt bl.length (g:=V) (cs:=#[Aa Ab a,Aa Ab b,Ad (Af ⟨gR,0,Ae⟩) (H1+1) (H1+1),Ad (Af ⟨gU,0,Ae⟩) H1 H1]) (t:=130) (by rw[Eg (Am _),Nat.sub_self];rfl);have:=h.lo;have:=h.hi;exact⟨h.bx.call hb,(h.at'.imp λ_ h=>h.same 0 (M+(H1+1)+H1) ⟨Gv,Gv⟩ ⟨Gv,Gv⟩ (Am _) λj _ hj=>hb.block j Gv),h.lo,h.hi,h.old,h.base⟩
def qE {n k:Nat} (h:k<n):n-(intOf (Aa Ab ((k:Int)+1))).toNat<n-(intOf (Aa Ab (k:Int))).toNat:=by
 show n-((k:Int)+1).toNat<n-((k:Int)).toNat;omega
def qA (a b:Int) (A:Option Addr) (cr:List Cr) (n c:Nat) (w:Aj) (hn:n=cr.length) (h:Rd w A 3 n (crs cr)) (hp:Lo a b cr) (hA:a<=16) (hB:b<=16) (Q0:∀r∈cr,r.odd=false) (hQ:Qf w):
  Al Dp 53 #[.agg #[a,b,Ad A n c]] w (Bt9 w):=by
 have WJ:=Zz w (λw' hb=>aZ a b A cr n c w' hn (h.below hb) hp (hQ.below hb).qt);have dt:=Zz w (λw' hb=>show Rd w' A 3 cr.length (crs cr)by rw[<-hn];exact h.below hb);have HN:=Ah hn;have HP:=Ah hp;have H:=((Bx.start w).new #[a,b,Ad A n c] 28 rfl).new #[Aa Ab 0,Aa Ab 0,Ad Ae 0 0,Ad Ae 0 0] 130 (N:=w.heap.size+1) Gy;have fd:=Mg hp.sheet;have HOD:=Ah Q0;clear hn h hp hQ Q0;go_in;go_upto_region 1 with fail;obtain⟨N,ct⟩:=Tw w.heap.size;rw[<-ct.out]at H⊢;generalize N+1=P at H⊢;generalize (w.alloc _).alloc _=W1 at H⊢;obtain⟨⟨a0,a1,a2⟩,-⟩:=Hg (H.b 0);go_wp2_with fail;refine(WJ.out _ H.below).mono ?_;rintro ee w2 ⟨rfl,hb⟩;have H2:=H.call hb;clear a0 a1 a2 H hb WJ;obtain⟨⟨a0,a1,a2⟩,-⟩:=Hg (H2.b 0);obtain⟨wj,I8⟩:∃wj:Nat,a=(wj+1:Nat):=⟨(a-1).toNat,Gv⟩;obtain⟨H1,hH1⟩:∃H1:Nat,b=(H1+1:Nat):=⟨(b-1).toNat,Gv⟩;have hwb:wj<=15:=Gv;have M4:H1<=15:=Gv;have HWA:=Ah I8;have HHB:=Ah hH1;have M':=Ah (λ(w':Aj)=>tA wj H1 I8 hH1 Gv Gv w');have hab2:=Mg HP.out.sheet;have AJ:=Ah fd;obtain⟨sb,qu⟩:∃z,0<z/\z=wj+1:=⟨_,Gv,rfl⟩;have sq:¬16<a:=Gv;have dm:¬16<b:=Gv;clear fd hab2 qu I8 hH1 hA hB;go_wp2_with fail;refine(M'.out _).mono ?_;rintro ee w3 ⟨gR,gU,M,hRU,hR0,DB,hU0,I6,rfl,hM0,gg,hb⟩;obtain⟨V,hV⟩:=ey w3.heap.size;have ng:=Ah (show M+(H1+1)+H1=V by omega);clear gg;have it:=(Ag w3.heap.size w3).alloc (Am _) (.cells #[a,b,Ad (Af ⟨gR,0,Ae⟩) (H1+1) (H1+1),Ad (Af ⟨gU,0,Ae⟩) H1 H1] 130);have H4:=(H2.call hb).new #[a,b,Ad (Af ⟨gR,0,Ae⟩) (H1+1) (H1+1),Ad (Af ⟨gU,0,Ae⟩) H1 H1] 130 hV;have tg:=H2.lt 0 rfl;have QI:=H2.lt 1 rfl;have f':=H2.below.size
 have fx:Hid (gV w w2.heap.size [(N,#[Aa Ab a,Aa Ab b,Ad A n c],28),(P,#[Aa Ab 0,Aa Ab 0,Ad Ae 0 0,Ad Ae 0 0],130)] a b gR gU M wj H1 V (w3.alloc (.cells #[a,b,Ad (Af ⟨gR,0,Ae⟩) (H1+1) (H1+1),Ad (Af ⟨gU,0,Ae⟩) H1 H1] 130))):=Ah
  ⟨H4,⟨_,hM0.same 0 (M+(H1+1)+H1) ⟨Gv,Gv⟩ ⟨Gv,Gv⟩ (Am _) (λj _ hj=>it.block j (oHx ng.out))⟩,⟨hR0,DB,hU0,I6⟩,Nat.le_of_eq ng.out,(λi g cs t hi=>by
   have:=List.mem_of_getElem? hi;simp only[Bk,Prod.mk.injEq,Dv,or_false]at this;omega),f'⟩
 clear a0 a1 a2 H2 hb hM0 it sq dm;go_upto_region 7 with fail
 try rw[hV]
 generalize w3.alloc _=W4 at H4 fx⊢;obtain⟨⟨-,-,a2⟩,-⟩:=Hg (H4.b 0);obtain⟨⟨g0,g1,g2,g3⟩,-⟩:=Jh (H4.b 1);clear H4;obtain⟨O,hO⟩:=ey w2.heap.size;rw[hO]at fx hR0 hU0 tg QI f';go_wp2
 go_loopw [38] (λs38 wr=>∃k:Nat,k<=n/\s38= Aa Ab k/\Hid (gV w O [(N,#[Aa Ab a,Aa Ab b,Ad A n c],28),(P,#[Aa Ab 0,Aa Ab 0,Ad Ae 0 0,Ad Ae 0 0],130)] a b gR gU M wj H1 V wr)) (λs38 _=>n-(intOf s38).toNat)
 case atStart=>exact⟨0,Gv,rfl,fx⟩
 obtain⟨k,hk,rfl,HZ⟩:=hrel;clear fx a2 g0 g1 g2 g3;have HM:=HZ.out;by_cases ac:k<n
 ·have q0:(k:Int)<(n:Int):=Gv;have be:k<cr.length:=oHx HN.out;obtain⟨kb,ko,hA3,zw,t0,t1,t2⟩:=Xh (dt.out _ HM.bx.below) k be;have ka:=HP.out.name cr[k] (Ay be);have Q0:=HOD.out cr[k] (Ay be);obtain⟨⟨rc,re,rk⟩,hr⟩:=ey (cr[k]);have HR:=Ah hr;rw[hr]at t0 t1 t2 ka Q0;dsimp only at t0 t1 t2 ka;obtain⟨i1,i2⟩:=Bm7 ka;obtain⟨m1,m2,m3,m4,m5,m6⟩:=AJ.out;have i3:rc<=1024:=by have:4*a*b=4*(a*b):=Cw _ _ _;omega
  have d1:0<=rc/4:=Gv;have d2:rc/4<=256:=Gv;have d3:=Int.emod_nonneg (rc/4) (show a≠0 by omega);have d4:=Int.emod_lt_of_pos (rc/4) (show 0<a by omega);have d5:0<=rc/4/a:=Int.ediv_nonneg d1 Gv;have d6:rc/4/a<=256:=Int.le_trans (Int.ediv_le_self _ d1) d2;have ua:((rc/4%a).toNat:Int)=rc/4%a:=Int.toNat_of_nonneg d3;have DC:((rc/4/a).toNat:Int)=rc/4/a:=Int.toNat_of_nonneg d5;obtain⟨cx,L5⟩:=ey ((rc/4%a).toNat);obtain⟨cy,L8⟩:=ey ((rc/4/a).toNat);rw[L5]at ua;rw[L8]at DC;have e1:(a==0)=false:=Hv;have e0:¬a=0:=Gv;have e2:(rc/4).tmod a=(cx:Int):=by rw[Int.tmod_eq_emod_of_nonneg d1,ua]
  have e3:(rc/4).tdiv a=(cy:Int):=by rw[Gi d1,DC]
  have e4:rc.tdiv 4=rc/4:=Gi i1;have e5:rc.tmod 4=rc%4:=Int.tmod_eq_emod_of_nonneg i1;have e6:=Cb (rc/4) Gv;have e7:Ab.wrap (cx:Int)=cx:=Cb _ Gv;have e8:Ab.wrap (cy:Int)=cy:=Cb _ Gv;have e9:=Cb (rc%4) Gv;have XB:IntKind.u8.wrap (rc%4)=rc%4:=IntWalk.u8_in _ Gv;obtain⟨X,hX⟩:=ey wr.heap.size;have H5:=HM.bx.new #[rc,Aa Ac re,Aa Ac rk] 192 hX;have oa:=(Ag wr.heap.size wr).alloc (Am _) (.cells #[rc,Aa Ac re,Aa Ac rk] 192);have HM5:=HM.call oa;have HVX:=Ah (show V<X from hX▸HM.bx.lt 2 rfl);subst hA3;clear oa;go_upto_region 10 with fail
  try rw[hX]
  generalize wr.alloc _=W5 at H5 HM5⊢;clear t0 t1 t2 hX;obtain⟨⟨x0,x1,x2⟩,-⟩:=Hg (H5.b 3);obtain⟨⟨v0,v1,v2,v3⟩,-⟩:=Jh (H5.b 2);have KW:=Ah H5;have HM5:=Ah HM5;have ux:=Ah (Cn ua (Cn DC (Cn L5 L8)));have HB:=Ah (Cn d4 (Cn i1 (Cn i2 (Cn m3 m5))));have GG:=Ah ka;have N8:=Cn ua DC;clear H5 HZ HM ka d1 d2 d3 d4 d5 d6 i1 i2 i3 m1 m2 m3 m4 m5 m6 ua DC L5 L8 N8 zw hr
  go_quiet (fail)
  have qj:=Ah (KW.out.drewN nq);have GF:=Ah (HM5.out.call (Ic (Ag W5.heap.size W5) nq));generalize W5.drewN nq=X0 at qj GF⊢;clear KW HM5 v0 v1 v2 v3 x0 x1 x2;obtain⟨⟨x0,x1,x2⟩,-⟩:=Hg (qj.out.b 3);go_upto_region 13 with fail;have js:=Ah ac;unfold Cr.odd at Q0;have hod2:re=0/\¬rk=3:=by simpa using Q0
  obtain⟨hre,h3⟩:=hod2;subst hre;have q9:(rk==3)=false:=by simpa using h3
  obtain⟨-,-,hq⟩:=vH HP.out.sheet GG.out;have r':=HWA.out;have M4:=HHB.out;have hcxy:=ux.out;have dh:=HB.out
  have ym:rc/4/a<b:=by
   have h1:rc/4<b*a:=by
    have:4*a*b=4*(b*a):=by rw[Cw,Int.mul_comm a b]
    omega
   exact Int.ediv_lt_of_lt_mul Gv h1
  have hxw:(cx:Int)<a:=Gv;clear Q0 h3;rcases hq with⟨hq,hx⟩|⟨hq,hy⟩
  ·have LV:cy<H1+1:=Gv;have xz:cx<wj:=Gv;have b1:(cy:Int)<(H1:Int)+1:=Gv;have b2:(cx:Int)<(wj:Int):=Gv;clear r' M4 hcxy dh ym hxw hx
   as_aux_lemma=>
   obtain⟨ss,sc⟩:=GF.out.at';obtain⟨c0,c1⟩:=jT (sc.rR cy LV) xz;have bj:=iW sc.hR LV;clear sc;unfold Yb at bj;obtain⟨⟨v0,v1,v2,v3⟩,-⟩:=Jh (qj.out.b 2);obtain⟨RW,MZ⟩:=ey (M+cy);rw[MZ]at c0 c1 bj;have jo:=GF.out.lo;have zr:=GF.out.hi;have hVX:=HVX.out;have g_:=Ah (show RW≠X/\RW≠V/\RW≠gR by omega);have wh:=Ah MZ;clear jo zr hVX MZ;obtain⟨S,an⟩:∃S:Aj->Prop,S=λW'=>W'.heap[X]? =X0.heap[X]? /\W'.heap[V]? =X0.heap[V]? /\W'.heap[gR]? =X0.heap[gR]? :=⟨_,rfl⟩
   have HSO:Hid (∀W',S W'->W'.cell? ⟨X,2,Ae⟩=Af (Aa Ac rk)/\W'.cell? ⟨V,2,Ae⟩=Af (Ad (Af ⟨gR,0,Ae⟩) (H1+1) (H1+1))/\W'.cell? ⟨gR,cy,Ae⟩=Af (Ad (Af ⟨RW,0,Ae⟩) wj wj)):=Ah λW' h=>by
    subst an;exact⟨(Un h.1 _).trans x2,(Un h.2.1 _).trans v2,(Un h.2.2 _).trans bj⟩
   have x8:Hid (∀(W':Aj) (v:Ak),S W'->S (W'.setCell ⟨RW,cx,Ae⟩ v)):=Ah λW' v hs=>by
    subst an;obtain⟨n1,n2,n3⟩:=g_.out;exact⟨(Dq W' ⟨RW,cx,Ae⟩ v X (by show X≠RW;omega)).trans hs.1,(Dq W' ⟨RW,cx,Ae⟩ v V (by show V≠RW;omega)).trans hs.2.1,(Dq W' ⟨RW,cx,Ae⟩ v gR (by show gR≠RW;omega)).trans hs.2.2⟩
   have tu:S X0.drew:=by subst an;exact⟨rfl,rfl,rfl⟩
   clear an bj v0 v1 v2 v3;go_upto_region 16 with fail;clear x0 x1 x2;refine Ao (S:=S) Gx tu (λhS=>?_);have JB:=Ah (GF.out.call (Ag X0.heap.size X0).drew);have c0:X0.drew.cell? ⟨RW,cx,Ae⟩=_:=c0;have c1:X0.drew.frozen? ⟨RW,cx,Ae⟩=_:=c1;generalize X0.drew=X1 at hS JB c0 c1⊢;clear tu GF qj;refine Hk 0 1 2 3 ?_;refine Hk 4 5 6 7 ?_;refine Ke 8 ?_;have hSU:=Ah (x8.out _ (Aa Ac rk) hS)
   have HF:Hid (gV w O [(N,#[Aa Ab a,Aa Ab b,Ad (Af ⟨kb,ko,Ae⟩) n c],28),(P,#[Aa Ab 0,Aa Ab 0,Ad Ae 0 0,Ad Ae 0 0],130)] a b gR gU M wj H1 V (X1.setCell ⟨RW,cx,Ae⟩ (Aa Ac rk))):=Ah (by
    have jo:=JB.out.lo;have MZ:=wh.out;obtain⟨ss,sc⟩:=JB.out.at';refine JB.out.put ⟨Gv,Gv⟩ cx _ ?_;rw[<-MZ];exact⟨_,sc.setR jo.2.1 jo.2.2.2 cy cx LV rk⟩)
   refine rdy 9 (λK hK=>?_);go_simp;refine hK.o hSU.out (λhS=>?_);clear hK K c0 c1;refine An Gx ?_ _;have ek:wrap64 ((k:Int)+1)=(k:Int)+1:=Cc _ (by have h1:=js.out;have h2:=HP.out.len;have h3:=HN.out;omega);go_wp2_with fail;rw[ek];refine⟨⟨k+1,Nat.succ_le_of_lt js.out,Gy,HF⟩,?_⟩;exact qE js.out
  ·have LV:cy<H1:=Gv;have xz:cx<wj+1:=Gv;have b1:(cy:Int)<(H1:Int):=Gv;have b2:(cx:Int)<(wj:Int)+1:=Gv;clear r' M4 hcxy dh ym hxw hy
   as_aux_lemma=>
   obtain⟨ss,sc⟩:=GF.out.at';obtain⟨c0,c1⟩:=jT (sc.rU cy LV) xz;have bj:=iW sc.hU LV;clear sc;unfold Yb at bj;obtain⟨⟨v0,v1,v2,v3⟩,-⟩:=Jh (qj.out.b 2);obtain⟨RW,MZ⟩:=ey (M+(H1+1)+cy);rw[MZ]at c0 c1 bj;have jo:=GF.out.lo;have zr:=GF.out.hi;have hVX:=HVX.out;have g_:=Ah (show RW≠X/\RW≠V/\RW≠gU by omega);have wh:=Ah MZ;clear jo zr hVX MZ;obtain⟨S,an⟩:∃S:Aj->Prop,S=λW'=>W'.heap[X]? =X0.heap[X]? /\W'.heap[V]? =X0.heap[V]? /\W'.heap[gU]? =X0.heap[gU]? :=⟨_,rfl⟩
   have HSO:Hid (∀W',S W'->W'.cell? ⟨X,2,Ae⟩=Af (Aa Ac rk)/\W'.cell? ⟨V,3,Ae⟩=Af (Ad (Af ⟨gU,0,Ae⟩) H1 H1)/\W'.cell? ⟨gU,cy,Ae⟩=Af (Ad (Af ⟨RW,0,Ae⟩) (wj+1) (wj+1))):=Ah λW' h=>by
    subst an;exact⟨(Un h.1 _).trans x2,(Un h.2.1 _).trans v3,(Un h.2.2 _).trans bj⟩
   have x8:Hid (∀(W':Aj) (v:Ak),S W'->S (W'.setCell ⟨RW,cx,Ae⟩ v)):=Ah λW' v hs=>by
    subst an;obtain⟨n1,n2,n3⟩:=g_.out;exact⟨(Dq W' ⟨RW,cx,Ae⟩ v X (by show X≠RW;omega)).trans hs.1,(Dq W' ⟨RW,cx,Ae⟩ v V (by show V≠RW;omega)).trans hs.2.1,(Dq W' ⟨RW,cx,Ae⟩ v gU (by show gU≠RW;omega)).trans hs.2.2⟩
   have tu:S X0.drew:=by subst an;exact⟨rfl,rfl,rfl⟩
   clear an bj v0 v1 v2 v3;go_upto_region 12 with fail;clear x0 x1 x2;refine Ao (S:=S) Gx tu (λhS=>?_);have JB:=Ah (GF.out.call (Ag X0.heap.size X0).drew);have c0:X0.drew.cell? ⟨RW,cx,Ae⟩=_:=c0;have c1:X0.drew.frozen? ⟨RW,cx,Ae⟩=_:=c1;generalize X0.drew=X1 at hS JB c0 c1⊢;clear tu GF qj;refine Hk 0 1 2 3 ?_;refine Hk 4 5 6 7 ?_;refine Ke 8 ?_;have hSU:=Ah (x8.out _ (Aa Ac rk) hS)
   have HF:Hid (gV w O [(N,#[Aa Ab a,Aa Ab b,Ad (Af ⟨kb,ko,Ae⟩) n c],28),(P,#[Aa Ab 0,Aa Ab 0,Ad Ae 0 0,Ad Ae 0 0],130)] a b gR gU M wj H1 V (X1.setCell ⟨RW,cx,Ae⟩ (Aa Ac rk))):=Ah (by
    have jo:=JB.out.lo;have MZ:=wh.out;obtain⟨ss,sc⟩:=JB.out.at';refine JB.out.put ⟨Gv,Gv⟩ cx _ ?_;rw[<-MZ];exact⟨_,sc.setU jo.2.1 jo.2.2.2 cy cx LV rk⟩)
   refine rdy 9 (λK hK=>?_);go_simp;refine hK.o hSU.out (λhS=>?_);clear hK K c0 c1;refine An Gx ?_ _;have ek:wrap64 ((k:Int)+1)=(k:Int)+1:=Cc _ (by have h1:=js.out;have h2:=HP.out.len;have h3:=HN.out;omega);go_wp2_with fail;rw[ek];refine⟨⟨k+1,Nat.succ_le_of_lt js.out,Gy,HF⟩,?_⟩;exact qE js.out
 ·obtain rfl:n=k:=Gv;have q0:¬(n:Int)<(n:Int):=Gv;have H5:=HM.bx;obtain⟨⟨v0,v1,v2,v3⟩,-⟩:=Jh (H5.b 2);obtain⟨⟨g0,g1,g2,g3⟩,z0,z1,z2,z3⟩:=Jh (H5.b 1);have H9:=Ah ((((H5.set 1 0 rfl (Aa Ab a)).set 1 1 rfl (Aa Ab b)).set 1 2 rfl (Ad (Af ⟨gR,0,Ae⟩) (H1+1) (H1+1))).set 1 3 rfl (Ad (Af ⟨gU,0,Ae⟩) H1 H1));clear H5 HM
  as_aux_lemma=>
  go_wp2_with fail;exact Ai (Hj (u:=3) rfl rfl (H9.out.range 1 rfl) Tryz.underlying130 rfl Gx) rfl ⟨H9.out.below,a,b,gR,gU,wj,H1,rfl⟩
def Lk.cnt (k:Lk) (u:Nat×Nat):Prop:=(nbI k.a k.b u.1 u.2).2=0/\¬(nbI k.a k.b u.1 u.2).1<(u.1:Int)
def Lk.nb (k:Lk) (u:Nat×Nat):Nat:=(nbI k.a k.b u.1 u.2).1.toNat
def Lk.pe (k:Lk) (b:Cl) (u:Nat×Nat):Nat×Nat:=if k.img u.1=b then (k.nb u,u.1)else (u.1,k.nb u)
def Lk.le (k:Lk) (b:Cl) (u:Nat×Nat):Nat×Nat×Nat:=if k.hs.getD u.1 0<k.hs.getD (k.nb u) 0 then ((if k.img u.1=b then 1 else 0),u.1,k.nb u)else ((if k.img u.1=b then 1 else 0),k.nb u,u.1)
def sF {a b:Cl} {f:Sm->Sm}:∀{l:List Sm} {s:Sm},s∈Qr a b f l->s∈l∨(∃t∈l,t.a=a/\t.b=b/\s=f t)∨s=f (Sm.none a b)
 |[],s,h=> .inr (.inr (by simpa[Qr]using h))
 |t::r,s,h=>by
  unfold Qr at h
  split at h
  ·rename_i ht;rcases Bk.1 h with rfl|h
   ·exact .inr (.inl ⟨t,Gy,ht.1,ht.2,rfl⟩)
   ·exact .inl (Ey _ h)
  ·rcases Bk.1 h with rfl|h
   ·exact .inl Gy
   ·rcases sF h with h|⟨t',h1,h2⟩|h
    ·exact .inl (Ey _ h)
    ·exact .inr (.inl ⟨t',Ey _ h1,h2⟩)
    ·exact .inr (.inr h)
def kE {a b:Cl} {f:Sm->Sm}:∀{l:List Sm} {s:Sm},s∈l->s∈Qr a b f l∨(s.a=a/\s.b=b/\f s∈Qr a b f l)
 |t::r,s,h=>by
  unfold Qr
  split
  ·rename_i ht;rcases Bk.1 h with rfl|h
   ·exact .inr ⟨ht.1,ht.2,Gy⟩
   ·exact .inl (Ey _ h)
  ·rcases Bk.1 h with rfl|h
   ·exact .inl Gy
   ·rcases kE (a:=a) (b:=b) (f:=f) h with h|⟨h1,h2,h⟩
    ·exact .inl (Ey _ h)
    ·exact .inr ⟨h1,h2,Ey _ h⟩
def sG {a b:Cl} {f:Sm->Sm}:∀(l:List Sm),∃t,t.a=a/\t.b=b/\f t∈Qr a b f l
 |[]=>⟨Sm.none a b,rfl,rfl,by simp[Qr]⟩
 |t::r=>by
  unfold Qr
  split
  ·rename_i ht;exact⟨t,ht.1,ht.2,Gy⟩
  ·obtain⟨t',h1,h2,h⟩:=sG (f:=f) r;exact⟨t',h1,h2,Ey _ h⟩
def dH (k:Lk) (id e:Nat) (s:Sm):(k.add id e s).a=s.a/\(k.add id e s).b=s.b:=by
 unfold Lk.add
 split
 ·exact⟨rfl,rfl⟩
 ·split
  ·exact⟨rfl,rfl⟩
  ·dsimp only
   split<;>exact⟨rfl,rfl⟩
def kN (k:Lk) (id e:Nat) (s:Sm):((k.add id e s).ps=s.ps/\(k.add id e s).ls=s.ls/\¬k.cnt (id,e))∨
  (k.cnt (id,e)/\Ho k.cr id e=0/\(k.add id e s).ps=s.ps++[k.pe s.b (id,e)]/\(k.add id e s).ls=s.ls)∨
  (k.cnt (id,e)/\Ho k.cr id e≠0/\(k.add id e s).ps=s.ps/\(k.add id e s).ls=s.ls++[k.le s.b (id,e)]):=by
 unfold Lk.add Lk.cnt;dsimp only
 split
 ·rename_i h;exact .inl ⟨rfl,rfl,λh2=>h h2.1⟩
 ·rename_i h;have h0:(nbI k.a k.b id e).2=0:=El.1 h
  split
  ·rename_i h1;exact .inl ⟨rfl,rfl,λh2=>h2.2 h1⟩
  ·rename_i h1
   split
   ·rename_i hk;refine .inr (.inl ⟨⟨h0,h1⟩,hk,?_,rfl⟩);dsimp only;unfold Lk.pe Lk.nb;by_cases hb:k.img id=s.b
    ·simp[hb]
    ·simp[hb]
   ·rename_i hk;refine .inr (.inr ⟨⟨h0,h1⟩,hk,rfl,?_⟩);dsimp only;unfold Lk.le Lk.nb;rfl
def Yd (k:Lk):∀j,∀s∈k.seamsTo j,
  (∀p∈s.ps,∃u:Nat×Nat,u.2<3/\3*u.1+u.2<j/\k.key u.1 u.2=(s.a,s.b)/\k.cnt u/\Ho k.cr u.1 u.2=0/\p=k.pe s.b u)/\
  (∀x∈s.ls,∃u:Nat×Nat,u.2<3/\3*u.1+u.2<j/\k.key u.1 u.2=(s.a,s.b)/\k.cnt u/\Ho k.cr u.1 u.2≠0/\x=k.le s.b u)
 |0,s,h=>by simp[Lk.seamsTo]at h
 |j+1,s,h=>by
  have ih:=Yd k j;have hj:3*(j/3)+j%3=j:=Gv;have hm:j%3<3:=Gv
  have up:∀t:Sm,((∀p∈t.ps,∃u:Nat×Nat,u.2<3/\3*u.1+u.2<j/\k.key u.1 u.2=(t.a,t.b)/\k.cnt u/\Ho k.cr u.1 u.2=0/\p=k.pe t.b u)/\(∀x∈t.ls,∃u:Nat×Nat,u.2<3/\3*u.1+u.2<j/\k.key u.1 u.2=(t.a,t.b)/\k.cnt u/\Ho k.cr u.1 u.2≠0/\x=k.le t.b u))->
    ((∀p∈t.ps,∃u:Nat×Nat,u.2<3/\3*u.1+u.2<j+1/\k.key u.1 u.2=(t.a,t.b)/\k.cnt u/\Ho k.cr u.1 u.2=0/\p=k.pe t.b u)/\(∀x∈t.ls,∃u:Nat×Nat,u.2<3/\3*u.1+u.2<j+1/\k.key u.1 u.2=(t.a,t.b)/\k.cnt u/\Ho k.cr u.1 u.2≠0/\x=k.le t.b u)):=λt ht=>
   ⟨λp hp=>by obtain⟨u,h1,h2,h3⟩:=ht.1 p hp;exact⟨u,h1,Gv,h3⟩,λp hp=>by obtain⟨u,h1,h2,h3⟩:=ht.2 p hp;exact⟨u,h1,Gv,h3⟩⟩
  have stp:∀t:Sm,t.a=(k.key (j/3) (j%3)).1->t.b=(k.key (j/3) (j%3)).2->((∀p∈t.ps,∃u:Nat×Nat,u.2<3/\3*u.1+u.2<j/\k.key u.1 u.2=(t.a,t.b)/\k.cnt u/\Ho k.cr u.1 u.2=0/\p=k.pe t.b u)/\(∀x∈t.ls,∃u:Nat×Nat,u.2<3/\3*u.1+u.2<j/\k.key u.1 u.2=(t.a,t.b)/\k.cnt u/\Ho k.cr u.1 u.2≠0/\x=k.le t.b u))->
    s=k.add (j/3) (j%3) t->((∀p∈s.ps,∃u:Nat×Nat,u.2<3/\3*u.1+u.2<j+1/\k.key u.1 u.2=(s.a,s.b)/\k.cnt u/\Ho k.cr u.1 u.2=0/\p=k.pe s.b u)/\(∀x∈s.ls,∃u:Nat×Nat,u.2<3/\3*u.1+u.2<j+1/\k.key u.1 u.2=(s.a,s.b)/\k.cnt u/\Ho k.cr u.1 u.2≠0/\x=k.le s.b u)):=by
   intro t ha hb ht e;subst e;obtain⟨e1,e2⟩:=dH k (j/3) (j%3) t;rw[e1,e2];have NY:k.key (j/3) (j%3)=(t.a,t.b):=by rw[ha,hb]
   have ht:=up t ht;rcases kN k (j/3) (j%3) t with⟨f1,f2,-⟩|⟨hc,hk,f1,f2⟩|⟨hc,hk,f1,f2⟩
   ·rw[f1,f2];exact ht
   ·rw[f1,f2];refine⟨λp hp=>?_,ht.2⟩;rcases Bl.1 hp with hp|hp
    ·exact ht.1 p hp
    ·exact⟨(j/3,j%3),hm,by dsimp only;omega,NY,hc,hk,by simpa using hp⟩
   ·rw[f1,f2];refine⟨ht.1,λp hp=>?_⟩;rcases Bl.1 hp with hp|hp
    ·exact ht.2 p hp
    ·exact⟨(j/3,j%3),hm,by dsimp only;omega,NY,hc,hk,by simpa using hp⟩
  unfold Lk.seamsTo Lk.meet at h;rcases sF h with h|⟨t,ht,h1,h2,e⟩|e
  ·exact up s (ih s h)
  ·exact stp t h1 h2 (ih t ht) e
  ·exact stp _ rfl rfl ⟨by simp[Sm.none],by simp[Sm.none]⟩ e
def gG (k:Lk):∀j,∀u:Nat×Nat,u.2<3->3*u.1+u.2<j->k.cnt u->∃s∈k.seamsTo j,k.key u.1 u.2=(s.a,s.b)/\(Ho k.cr u.1 u.2=0->k.pe s.b u∈s.ps)/\(Ho k.cr u.1 u.2≠0->k.le s.b u∈s.ls)
 |0,u,_,h,_=>Gv
 |j+1,u,hu,h,hc=>by
  unfold Lk.seamsTo Lk.meet
  have mono:∀t:Sm,(∀p∈t.ps,p∈(k.add (j/3) (j%3) t).ps)/\(∀p∈t.ls,p∈(k.add (j/3) (j%3) t).ls):=λt=>by
   rcases kN k (j/3) (j%3) t with⟨f1,f2,-⟩|⟨-,-,f1,f2⟩|⟨-,-,f1,f2⟩<;>rw[f1,f2]<;>refine⟨λp hp=>?_,λp hp=>?_⟩<;>simp[hp]
  by_cases hj:3*u.1+u.2<j
  ·obtain⟨s,hs,h1,h2,h3⟩:=gG k j u hu hj hc;rcases kE (a:=(k.key (j/3) (j%3)).1) (b:=(k.key (j/3) (j%3)).2) (f:=k.add (j/3) (j%3)) hs with h|⟨-,-,h⟩
   ·exact⟨s,h,h1,h2,h3⟩
   ·obtain⟨e1,e2⟩:=dH k (j/3) (j%3) s;exact⟨_,h,by rw[e1,e2];exact h1,λh0=>by rw[e2];exact(mono s).1 _ (h2 h0),λh0=>by rw[e2];exact(mono s).2 _ (h3 h0)⟩
  ·have e1:u.1=j/3:=Gv;have e2:u.2=j%3:=Gv;obtain⟨t,h1,h2,hm⟩:=sG (a:=(k.key (j/3) (j%3)).1) (b:=(k.key (j/3) (j%3)).2) (f:=k.add (j/3) (j%3)) (k.seamsTo j);obtain⟨f1,f2⟩:=dH k (j/3) (j%3) t;obtain⟨i,e⟩:=u;dsimp only at e1 e2;subst e1 e2;refine⟨_,hm,by rw[f1,f2,h1,h2],λh0=>?_,λh0=>?_⟩
   ·rcases kN k (j/3) (j%3) t with⟨-,-,hn⟩|⟨-,-,g1,-⟩|⟨-,hn,-⟩
    ·exact absurd hc hn
    ·rw[f2,g1];simp
    ·exact absurd h0 hn
   ·rcases kN k (j/3) (j%3) t with⟨-,-,hn⟩|⟨-,hn,-⟩|⟨-,-,-,g2⟩
    ·exact absurd hc hn
    ·exact absurd hn h0
    ·rw[f2,g2];simp
def htC (l:List Stk) (c:Cl) (id:Nat):Int:=Kh (atF l c) id
def tL {t:List Int} {l:List (Int×Int)}:Mz t l=false↔∀x∈l,(∀h∈t,¬(x.1<h/\h<x.2))/\∀y∈l,Ox x y=false:=by
 unfold Mz;simp only[Du,Bool.or_eq_true,not_or,Ew,not_exists,not_and,Em,Li,Ep]
def tM (l m:List Stk) (s:Sm):Qa (Im (atF l s.a) s 0) (Im (atF m s.b) s 1)=false↔∀p∈s.ps,∀q∈s.ps,¬(htC l s.a p.1<htC l s.a q.1/\htC m s.b q.2<htC m s.b p.2):=by
 have e:(Im (atF l s.a) s 0).zip (Im (atF m s.b) s 1)=s.ps.map λp=>(htC l s.a p.1,htC m s.b p.2):=by
  unfold Im mJ htC;rw[List.zip_map'];rfl
 unfold Qa;rw[e];simp only[Du,Dr,forall_exists_index,and_imp,forall_apply_eq_imp_iff₂,Em,Li,not_and,Ew,not_exists]
structure sV (l:List Stk) (s:Sm):Prop where
 ps:∀p∈s.ps,0<=htC l s.a p.1/\0<=htC l s.b p.2
 ls:∀x∈s.ls,x.1<=1/\0<=htC l (if x.1=0 then s.a else s.b) x.2.1/\0<=htC l (if x.1=0 then s.a else s.b) x.2.2
 pl:∀p∈s.ps,∀x∈s.ls,¬(min (htC l (if x.1=0 then s.a else s.b) x.2.1) (htC l (if x.1=0 then s.a else s.b) x.2.2)<(if x.1=0 then htC l s.a p.1 else htC l s.b p.2)/\(if x.1=0 then htC l s.a p.1 else htC l s.b p.2)<max (htC l (if x.1=0 then s.a else s.b) x.2.1) (htC l (if x.1=0 then s.a else s.b) x.2.2))
 ll:∀x∈s.ls,∀y∈s.ls,x.1=y.1->Ox (mm (htC l (if x.1=0 then s.a else s.b) x.2.1,htC l (if x.1=0 then s.a else s.b) x.2.2)) (mm (htC l (if x.1=0 then s.a else s.b) y.2.1,htC l (if x.1=0 then s.a else s.b) y.2.2))=false
 pp:∀p∈s.ps,∀q∈s.ps,¬(htC l s.a p.1<htC l s.a q.1/\htC l s.b q.2<htC l s.b p.2)
def Ae7 (ls:List Nat) (s:Sm) (d:Nat):Oo ls s d=true↔(∀p∈s.ps,0<=Kh ls (mJ d p))/\∀x∈s.ls,x.1=d->0<=Kh ls x.2.1/\0<=Kh ls x.2.2:=by
 unfold Oo Im jG;rw[Em];refine and_congr (by simp[Ed]) ?_;rw[Ed]
 constructor
 ·intro h x hx e;have:=h (Kh ls x.2.1,Kh ls x.2.2) (Dr.2 ⟨x,Gd.2 ⟨hx,by simp[e]⟩,rfl⟩);simpa using this
 ·intro h z hz;obtain⟨x,hx,rfl⟩:=Dr.1 hz;obtain⟨h1,h2⟩:=Gd.1 hx;have:=h x h1 (by simpa using h2);simpa using this
def Ah6 (ls:List Nat) (s:Sm) (d:Nat) (z:Int×Int):z∈Te ls s d↔∃x∈s.ls,x.1=d/\z=mm (Kh ls x.2.1,Kh ls x.2.2):=by
 unfold Te jG;simp only[Dr,Gd,Li]
 constructor
 ·rintro⟨y,⟨x,⟨hx,hd⟩,rfl⟩,rfl⟩;exact⟨x,hx,hd,rfl⟩
 ·rintro⟨x,hx,hd,rfl⟩;exact⟨_,⟨x,⟨hx,hd⟩,rfl⟩,rfl⟩
def Ah7 (ls:List Nat) (s:Sm) (d:Nat) (h:Int):h∈Im ls s d↔∃p∈s.ps,h=Kh ls (mJ d p):=by
 unfold Im;simp only[Dr]
 constructor
 ·rintro⟨p,hp,rfl⟩;exact⟨p,hp,rfl⟩
 ·rintro⟨p,hp,rfl⟩;exact⟨p,hp,rfl⟩
def eG {l:List Stk} {s:Sm}:Kd l s=false↔sV l s:=by
 unfold Kd;simp only[Cz,Bool.not_eq_false',Du,Li,Nat.not_lt,tL,tM,Ae7,Ah6,Ah7]
 constructor
 ·rintro⟨⟨⟨⟨⟨⟨g0,g1⟩,⟨g2,g3⟩⟩,g4⟩,g5⟩,g6⟩,g7⟩;have hx:∀x∈s.ls,x.1=0∨x.1=1:=λx hx=>by have:=g4 x hx;omega
  refine⟨λp hp=>⟨g0 p hp,g2 p hp⟩,λx h=>⟨g4 x h,?_⟩,λp hp x h=>?_,λx h y h' e=>?_,g7⟩
  ·rcases hx x h with e|e
   ·rw[e];exact g1 x h e
   ·rw[e];exact g3 x h e
  ·rcases hx x h with e|e
   ·rw[e];exact(g5 _ ⟨x,h,e,rfl⟩).1 _ ⟨p,hp,rfl⟩
   ·rw[e];exact(g6 _ ⟨x,h,e,rfl⟩).1 _ ⟨p,hp,rfl⟩
  ·rcases hx x h with e0|e0
   ·rw[e0];exact(g5 _ ⟨x,h,e0,rfl⟩).2 _ ⟨y,h',e▸e0,rfl⟩
   ·rw[e0];exact(g6 _ ⟨x,h,e0,rfl⟩).2 _ ⟨y,h',e▸e0,rfl⟩
 ·rintro⟨h1,h2,h3,h4,h5⟩;refine⟨⟨⟨⟨⟨⟨λp hp=>(h1 p hp).1,λx hx e=>?_⟩,⟨λp hp=>(h1 p hp).2,λx hx e=>?_⟩⟩,λx hx=>(h2 x hx).1⟩,?_⟩,?_⟩,h5⟩
  ·have:=(h2 x hx).2;rw[e]at this;exact this
  ·have:=(h2 x hx).2;rw[e]at this;exact this
  rotate_left
  all_goals
   rintro _ ⟨x,hx,e,rfl⟩;refine⟨?_,?_⟩
   ·rintro _ ⟨p,hp,rfl⟩;have:=h3 p hp x hx;rw[e]at this;exact this
   ·rintro _ ⟨y,hy,e',rfl⟩;have:=h4 x hx y hy (e.trans e'.symm);rw[e]at this;exact this
def Lk.reg (k:Lk) (u:Nat×Nat):Prop:=u.2<3/\u.1<Hh k.a k.b/\k.cnt u
def Lk.hU (k:Lk) (l:List Stk) (c:Cl) (u:Nat×Nat):Int:=htC l c (if k.img u.1=c then u.1 else k.nb u)
def Lk.hL (k:Lk) (l:List Stk) (u:Nat×Nat):Int×Int:=mm (htC l (k.img u.1) u.1,htC l (k.img u.1) (k.nb u))
def pO (a b:Cl) (f:Sm->Sm) (hf:∀s,(f s).a=s.a/\(f s).b=s.b):∀l:List Sm,(Qr a b f l).map (λs=>(s.a,s.b))=l.map (λs=>(s.a,s.b))∨((Qr a b f l).map (λs=>(s.a,s.b))=l.map (λs=>(s.a,s.b))++[(a,b)]/\(a,b)∉l.map λs=>(s.a,s.b))
 |[]=> .inr ⟨by have h:=hf (Sm.none a b);simp only[Qr,Es,List.map_nil,Eu,h.1,h.2];rfl,Gy⟩
 |s::r=>by
  unfold Qr
  split
  ·exact .inl (by simp[(hf s).1,(hf s).2])
  ·rename_i h;rcases pO a b f hf r with e|⟨e,h2⟩
   ·exact .inl (by simp only[Es,e])
   ·refine .inr ⟨by simp only[Es,e,Er],?_⟩;rw[Es,Bk,not_or];refine⟨λe2=>h ?_,h2⟩;injection e2 with e3 e4;exact⟨e3.symm,e4.symm⟩
def Xr (k:Lk):∀j,((k.seamsTo j).map λs=>(s.a,s.b)).Nodup
 |0=>by simp[Lk.seamsTo]
 |j+1=>by
  have ih:=Xr k j;unfold Lk.seamsTo Lk.meet;rcases pO (k.key (j/3) (j%3)).1 (k.key (j/3) (j%3)).2 (k.add (j/3) (j%3)) (λs=>dH k _ _ s) (k.seamsTo j)with e|⟨e,h⟩
  ·rw[e];exact ih
  ·rw[e,Bq]
   exact⟨ih,Gy,λx hx y hy=>by
    have:y=((k.key (j/3) (j%3)).1,(k.key (j/3) (j%3)).2):=by simpa using hy
    rw[this];exact λe2=>h (e2▸hx)⟩
def Bb8 (k:Lk) {s t:Sm} (hs:s∈k.seamsTo j) (ht:t∈k.seamsTo j) (h:(s.a,s.b)=(t.a,t.b)):s=t:=by
 have h1:=Zc (Xr k j) hs;have h2:=Zc (Xr k j) ht;rw[<-h1,<-h2,h]
def Uc (k:Lk) (u:Nat×Nat):(k.key u.1 u.2=(k.img u.1,k.other u.1 u.2))∨(k.key u.1 u.2=(k.other u.1 u.2,k.img u.1)):=by
 unfold Lk.key
 split
 ·exact .inr rfl
 ·exact .inl rfl
def qO (k:Lk) (l:List Stk) (hk:k.key u.1 u.2=(A,B)) (hne:k.img u.1≠k.other u.1 u.2):htC l A (k.pe B u).1=k.hU l A u/\htC l B (k.pe B u).2=k.hU l B u:=by
 unfold Lk.pe Lk.hU;rcases Uc k u with e|e
 ·rw[e]at hk;injection hk with h1 h2;rw[h1,h2]at hne;rw[Ha (by rw[h1];exact hne),Hc h1,Ha (by rw[h1];exact hne)];exact⟨rfl,rfl⟩
 ·rw[e]at hk;injection hk with h1 h2;rw[h1,h2]at hne;rw[Hc h2,Ha (by rw[h2];exact hne),Hc h2];exact⟨rfl,rfl⟩
def Bm5 (x y:Int):mm (x,y)=mm (y,x):=by
 unfold mm;dsimp only;rw[Int.min_comm,Int.max_comm]
def pS (k:Lk) (l:List Stk) (hk:k.key u.1 u.2=(A,B)) (hne:k.img u.1≠k.other u.1 u.2):
  (k.le B u).1<=1/\(if(k.le B u).1=0 then A else B)=k.img u.1/\mm (htC l (k.img u.1) (k.le B u).2.1,htC l (k.img u.1) (k.le B u).2.2)=k.hL l u/\(((k.le B u).2.1=u.1/\(k.le B u).2.2=k.nb u)∨((k.le B u).2.1=k.nb u/\(k.le B u).2.2=u.1))/\((k.le B u).1=0↔k.img u.1=A):=by
 have hs:((if k.img u.1=B then 1 else 0:Nat)<=1)/\(if(if k.img u.1=B then 1 else 0:Nat)=0 then A else B)=k.img u.1/\((if k.img u.1=B then 1 else 0:Nat)=0↔k.img u.1=A):=by
  rcases Uc k u with e|e
  ·rw[e]at hk;injection hk with h1 h2;rw[h1,h2]at hne;rw[Ha (by rw[h1];exact hne)];exact⟨Gv,by rw[Hc rfl,h1],by simp[h1]⟩
  ·rw[e]at hk;injection hk with h1 h2;rw[h1,h2]at hne;rw[Hc h2];exact⟨Gv,by rw[Ha Gv,h2],by simp[h2,hne]⟩
 unfold Lk.le
 split
 ·exact⟨hs.1,hs.2.1,rfl,.inl ⟨rfl,rfl⟩,hs.2.2⟩
 ·exact⟨hs.1,hs.2.1,Bm5 _ _,.inr ⟨rfl,rfl⟩,hs.2.2⟩
structure NC (k:Lk) (l:List Stk):Prop where
 ps:∀u,k.reg u->Ho k.cr u.1 u.2=0->0<=k.hU l (k.img u.1) u/\0<=k.hU l (k.other u.1 u.2) u
 ls:∀u,k.reg u->Ho k.cr u.1 u.2≠0->0<=htC l (k.img u.1) u.1/\0<=htC l (k.img u.1) (k.nb u)
 pp:∀u v,k.reg u->k.reg v->Ho k.cr u.1 u.2=0->Ho k.cr v.1 v.2=0->k.key u.1 u.2=k.key v.1 v.2->¬(k.hU l (k.key u.1 u.2).1 u<k.hU l (k.key u.1 u.2).1 v/\k.hU l (k.key u.1 u.2).2 v<k.hU l (k.key u.1 u.2).2 u)
 pl:∀u v,k.reg u->k.reg v->Ho k.cr u.1 u.2=0->Ho k.cr v.1 v.2≠0->k.key u.1 u.2=k.key v.1 v.2->¬((k.hL l v).1<k.hU l (k.img v.1) u/\k.hU l (k.img v.1) u<(k.hL l v).2)
 ll:∀u v,k.reg u->k.reg v->Ho k.cr u.1 u.2≠0->Ho k.cr v.1 v.2≠0->k.key u.1 u.2=k.key v.1 v.2->k.img u.1=k.img v.1->Ox (k.hL l u) (k.hL l v)=false
def Ba4 {k:Lk} (h:k.reg u):3*u.1+u.2<3*Hh k.a k.b:=by
 have:=h.1;have:=h.2.1;omega
def Bj2 {k:Lk} {l:List Stk} (hne:∀u,k.reg u->k.img u.1≠k.other u.1 u.2) (h:∀s∈k.seams,sV l s):NC k l:=by
 have at':∀u,k.reg u->∃s∈k.seams,k.key u.1 u.2=(s.a,s.b)/\(Ho k.cr u.1 u.2=0->k.pe s.b u∈s.ps)/\(Ho k.cr u.1 u.2≠0->k.le s.b u∈s.ls):=λu hu=>gG k _ u hu.1 (Ba4 hu) hu.2.2
 have two:∀u v,k.reg u->k.reg v->k.key u.1 u.2=k.key v.1 v.2->∃s∈k.seams,k.key u.1 u.2=(s.a,s.b)/\k.key v.1 v.2=(s.a,s.b)/\(Ho k.cr u.1 u.2=0->k.pe s.b u∈s.ps)/\(Ho k.cr u.1 u.2≠0->k.le s.b u∈s.ls)/\(Ho k.cr v.1 v.2=0->k.pe s.b v∈s.ps)/\(Ho k.cr v.1 v.2≠0->k.le s.b v∈s.ls):=λu v hu hv e=>by
  obtain⟨s,hs,h1,h2,h3⟩:=at' u hu;obtain⟨t,ht,g1,g2,g3⟩:=at' v hv;obtain rfl:=Bb8 k hs ht (h1.symm.trans (e.trans g1));exact⟨s,hs,h1,g1,h2,h3,g2,g3⟩
 refine⟨λu hu h0=>?_,λu hu h0=>?_,λu v hu hv ik gq e=>?_,λu v hu hv ik gq e=>?_,λu v hu hv ik gq e ei=>?_⟩
 ·obtain⟨s,hs,h1,h2,-⟩:=at' u hu;have g:=(h s hs).ps _ (h2 h0);obtain⟨p1,p2⟩:=qO k l h1 (hne u hu);rw[p1,p2]at g;rcases Uc k u with e|e
  ·rw[e]at h1;injection h1 with e1 e2;rw[e1,e2];exact g
  ·rw[e]at h1;injection h1 with e1 e2;rw[e1,e2];exact g.symm
 ·obtain⟨s,hs,h1,-,h3⟩:=at' u hu;have g:=(h s hs).ls _ (h3 h0);obtain⟨p1,p2,p3,p4,p5⟩:=pS k l h1 (hne u hu);rw[p2]at g;rcases p4 with⟨e1,e2⟩|⟨e1,e2⟩<;>rw[e1,e2]at g
  ·exact g.2
  ·exact g.2.symm
 ·obtain⟨s,hs,h1,g1,h2,-,g2,-⟩:=two u v hu hv e;have g:=(h s hs).pp _ (h2 ik) _ (g2 gq);obtain⟨p1,p2⟩:=qO k l h1 (hne u hu);obtain⟨q1,q2⟩:=qO k l g1 (hne v hv);rw[p1,p2,q1,q2]at g;rw[h1];exact g
 ·obtain⟨s,hs,h1,g1,h2,-,-,g3⟩:=two u v hu hv e;have g:=(h s hs).pl _ (h2 ik) _ (g3 gq);obtain⟨p1,p2⟩:=qO k l h1 (hne u hu);obtain⟨q1,q2,q3,q4,q5⟩:=pS k l g1 (hne v hv);rw[p1,p2,q2]at g
  have e3:(if(k.le s.b v).1=0 then k.hU l s.a u else k.hU l s.b u)=k.hU l (k.img v.1) u:=by
   rw[<-q2]
   split<;>rfl
  rw[e3]at g;unfold mm at q3;rw[<-q3];exact g
 ·obtain⟨s,hs,h1,g1,-,h3,-,g3⟩:=two u v hu hv e;obtain⟨p1,p2,p3,p4,p5⟩:=pS k l h1 (hne u hu);obtain⟨q1,q2,q3,q4,q5⟩:=pS k l g1 (hne v hv)
  have es:(k.le s.b u).1=(k.le s.b v).1:=by
   rw[ei]at p5;have:(k.le s.b u).1=0↔(k.le s.b v).1=0:=p5.trans q5.symm;omega
  have g:=(h s hs).ll _ (h3 ik) _ (g3 gq) es;rw[p2,p3,ei,q3]at g;exact g
def Bn5 {k:Lk} {l:List Stk} (hne:∀u,k.reg u->k.img u.1≠k.other u.1 u.2) (h:NC k l):∀s∈k.seams,sV l s:=λs hs=>by
 obtain⟨f1,f2⟩:=Yd k _ s hs;have rg:∀u:Nat×Nat,u.2<3->3*u.1+u.2<3*Hh k.a k.b->k.cnt u->k.reg u:=λu h1 h2 h3=>⟨h1,Gv,h3⟩;refine⟨λp hp=>?_,λx hx=>?_,λp hp x hx=>?_,λx hx y hy e=>?_,λp hp q hq=>?_⟩
 ·obtain⟨u,a1,a2,a3,a4,a5,rfl⟩:=f1 p hp;have hu:=rg u a1 a2 a4;obtain⟨p1,p2⟩:=qO k l a3 (hne u hu);have g:=h.ps u hu a5;rw[p1,p2];rcases Uc k u with e|e
  ·rw[e]at a3;injection a3 with e1 e2;rw[<-e1,<-e2];exact g
  ·rw[e]at a3;injection a3 with e1 e2;rw[<-e1,<-e2];exact g.symm
 ·obtain⟨u,a1,a2,a3,a4,a5,rfl⟩:=f2 x hx;have hu:=rg u a1 a2 a4;obtain⟨p1,p2,p3,p4,p5⟩:=pS k l a3 (hne u hu);have g:=h.ls u hu a5;refine⟨p1,?_⟩;rw[p2];rcases p4 with⟨e1,e2⟩|⟨e1,e2⟩<;>rw[e1,e2]
  ·exact g
  ·exact g.symm
 ·obtain⟨u,a1,a2,a3,a4,a5,rfl⟩:=f1 p hp;obtain⟨v,b1,b2,b3,b4,b5,rfl⟩:=f2 x hx;have hu:=rg u a1 a2 a4;have hv:=rg v b1 b2 b4;obtain⟨p1,p2⟩:=qO k l a3 (hne u hu);obtain⟨q1,q2,q3,q4,q5⟩:=pS k l b3 (hne v hv);have g:=h.pl u v hu hv a5 b5 (a3.trans b3.symm)
  have e3:(if(k.le s.b v).1=0 then k.hU l s.a u else k.hU l s.b u)=k.hU l (k.img v.1) u:=by
   rw[<-q2]
   split<;>rfl
  rw[p1,p2,q2,e3];unfold mm at q3;rw[<-q3]at g;exact g
 ·obtain⟨u,a1,a2,a3,a4,a5,rfl⟩:=f2 x hx;obtain⟨v,b1,b2,b3,b4,b5,rfl⟩:=f2 y hy;have hu:=rg u a1 a2 a4;have hv:=rg v b1 b2 b4;obtain⟨p1,p2,p3,p4,p5⟩:=pS k l a3 (hne u hu);obtain⟨q1,q2,q3,q4,q5⟩:=pS k l b3 (hne v hv);have ei:k.img u.1=k.img v.1:=by rw[<-p2,<-q2,e]
  have g:=h.ll u v hu hv a5 b5 (a3.trans b3.symm) ei;rw[p2,p3,ei,q3];exact g
 ·obtain⟨u,a1,a2,a3,a4,a5,rfl⟩:=f1 p hp;obtain⟨v,b1,b2,b3,b4,b5,rfl⟩:=f1 q hq;have hu:=rg u a1 a2 a4;have hv:=rg v b1 b2 b4;obtain⟨p1,p2⟩:=qO k l a3 (hne u hu);obtain⟨q1,q2⟩:=qO k l b3 (hne v hv);have g:=h.pp u v hu hv a5 b5 (a3.trans b3.symm);rw[a3]at g;rw[p1,p2,q1,q2];exact g
def eH {k:Lk} {l:List Stk} (hne:∀u,k.reg u->k.img u.1≠k.other u.1 u.2):k.seams.any (Kd l)=false↔NC k l:=by
 rw[Du]
 constructor
 ·exact λh=>Bj2 hne λs hs=>eG.1 (by simpa using h s hs)
 ·exact λh s hs=>by simpa using eG.2 (Bn5 hne h s hs)
def Yj (c:Cl):atF [] c=[]:=rfl
def Kz (x:Stk) (r:List Stk) (c:Cl):atF (x::r) c=if x.c=c then x.ls else atF r c:=by
 unfold atF;rw[Dh];by_cases h:x.c=c
 ·simp[h]
 ·simp[h]
def Ux {l:List Stk} (h:c∉l.map (·.c)):atF l c=[]:=by
 induction l with
 |nil=>rfl
 |cons x r ih=>
  rw[Es,Bk,not_or]at h;rw[Kz,Ha (λe=>h.1 e.symm),ih h.2]
def Md {l:List Stk} {x:Stk} (hn:(l.map (·.c)).Nodup) (hx:x∈l):atF l x.c=x.ls:=by
 induction l with
 |nil=>simp at hx
 |cons y r ih=>
  rw[Es,Ei]at hn;rw[Kz];rcases Bk.1 hx with rfl|hx
  ·rw[Hc rfl]
  ·rw[Ha (λe=>hn.1 (by rw[e];exact Dr.2 ⟨x,hx,rfl⟩)),ih hn.2 hx]
def nG {l l':List Stk} (hp:l.Perm l') (hn:(l.map (·.c)).Nodup) (c:Cl):atF l c=atF l' c:=by
 have hn':(l'.map (·.c)).Nodup:=(hp.map _).nodup_iff.1 hn;by_cases h:c∈l.map (·.c)
 ·obtain⟨x,hx,rfl⟩:=Dr.1 h;rw[Md hn hx,Md hn' (hp.mem_iff.1 hx)]
 ·rw[Ux h,Ux λh2=>h ((hp.map _).mem_iff.2 h2)]
def nE (x:Stk) (c:Cl):∀l:List Stk,atF (Nd x l) c=if x.c=c then atF l c++x.ls else atF l c
 |[]=>by
  unfold Nd;rw[Kz,Yj]
  split<;>simp
 |y::r=>by
  unfold Nd
  split
  ·rename_i h;rw[Kz,Kz];dsimp only;by_cases hc:x.c=c
   ·rw[Hc hc,Hc (h.trans hc),Hc (h.trans hc)]
   ·rw[Ha hc,Ha (by rw[h];exact hc),Ha (by rw[h];exact hc)]
  ·rename_i h;rw[Kz,Kz,nE x c r];by_cases hc:x.c=c
   ·rw[Hc hc,Hc hc];have:¬y.c=c:=λe=>h (e.trans hc.symm);rw[Ha this,Ha this]
   ·rw[Ha hc,Ha hc]
def nF (c:Cl):∀(L o:List Stk),atF (L.foldl (λo x=>if x.ls.isEmpty then o else Nd x o) o) c=atF o c++(L.filter λx=>decide (x.c=c)).flatMap (·.ls)
 |[],o=>Gy
 |x::r,o=>by
  rw[List.foldl_cons,nF c r,List.filter_cons];by_cases he:x.ls.isEmpty=true
  ·rw[Hc he];have h0:x.ls=[]:=by simpa using he
   split<;>simp[h0]
  ·rw[Ha he,nE];by_cases hc:x.c=c
   ·rw[Hc hc,Hc (by simp[hc]),Bf,Bj]
   ·rw[Ha hc,Ha (by simp[hc])]
def Yp (c:Cl):∀{l:List Stk},(l.map (·.c)).Nodup->(l.filter λx=>decide (x.c=c)).flatMap (·.ls)=atF l c
 |[],_=>rfl
 |x::r,hn=>by
  rw[Es,Ei]at hn;rw[List.filter_cons,Kz];by_cases hc:x.c=c
  ·rw[Hc (by simp[hc]),Hc hc,Bf,Yp c hn.2,Ux (by rw[<-hc];exact hn.1),Ff]
  ·rw[Ha (by simp[hc]),Ha hc,Yp c hn.2]
def Zl (l h:List Stk):Kc l h=No (Lf (l++h)):=rfl
def aD {l h:List Stk} (hl:(l.map (·.c)).Nodup) (hh:(h.map (·.c)).Nodup) (c:Cl):atF (Kc l h) c=atF l c++atF h c:=by
 rw[Zl,nG (Jd _) (((Jd _).map _).nodup_iff.2 (Vg _))];unfold Lf;rw[nF,Yj,Eu,List.filter_append,Bi,Yp c hl,Yp c hh]
def aF (k c0:Int) (sd:Nat) (c:Cl):∀l:List Stk,atF (Hx k c0 sd l) c=if Is k c0 c=sd then atF l c else[]
 |[]=>by
  unfold Hx;rw[List.filter_nil,Yj]
  split<;>rfl
 |x::r=>by
  have ih:=aF k c0 sd c r;unfold Hx at ih⊢;rw[List.filter_cons,Kz];by_cases hs:Is k c0 x.c=sd
  ·rw[Hc (by simp[hs]),Kz,ih];by_cases hc:x.c=c
   ·rw[Hc hc,Hc hc,Hc (by rw[<-hc];exact hs)]
   ·rw[Ha hc,Ha hc]
  ·rw[Ha (by simp[hs]),ih];by_cases hc:x.c=c
   ·rw[Ha (by rw[<-hc];exact hs),Ha (by rw[<-hc];exact hs)]
   ·rw[Ha hc]
def yG (c:Cl):∀l:List Stk,atF (Mj l) c=(atF l c).reverse
 |[]=>rfl
 |x::r=>by
  have ih:=yG c r;unfold Mj at ih⊢;rw[Es,Kz,Kz,ih];dsimp only
  split<;>rfl
def yF {g:Cl->Cl}:∀{l:List Stk},(∀x∈l,g x.c=g c->x.c=c)->atF (l.map λx=>⟨g x.c,x.ls⟩) (g c)=atF l c
 |[],_=>rfl
 |x::r,h=>by
  rw[Es,Kz,Kz,yF λy hy=>h y (Ey _ hy)];dsimp only;by_cases hc:x.c=c
  ·rw[Hc hc,Hc (by rw[hc])]
  ·rw[Ha hc,Ha λe=>hc (h x Gy e)]
def Mn (x:Nat) (r:List Nat) (v:Nat):Kh (x::r) v=if x=v then 0 else if v∈r then Kh r v+1 else-1:=by
 unfold Kh;rw[List.findIdx?_cons];by_cases h:x=v
 ·simp[h]
 ·rw[Ha h];simp only[h,decide_false];by_cases hv:v∈r
  ·rw[Hc hv]
   cases hf:r.findIdx? λx=>decide (x=v)with
   |none=>
    rw[List.findIdx?_eq_none_iff]at hf;have:=hf v hv;simp at this
   |some i=>simp
  ·rw[Ha hv]
   have:r.findIdx? (λx=>decide (x=v))=Ae:=by
    rw[List.findIdx?_eq_none_iff];intro y hy;have hne:y≠v:=λe=>hv (e▸hy);simp[hne]
   rw[this];rfl
def Tk:∀{l:List Nat} {v:Nat},v∈l->0<=Kh l v/\Kh l v<l.length
 |[],v,h=>by simp at h
 |x::r,v,h=>by
  rw[Mn,Eo];by_cases e:x=v
  ·rw[Hc e];omega
  ·have hr:v∈r:=by
    rcases Bk.1 h with rfl|h
    ·exact absurd rfl e
    ·exact h
   have:=Tk hr;rw[Ha e,Hc hr];omega
def Az5 {l:List Nat} (h:v∉l):Kh l v= -1:=by
 cases l with
 |nil=>rfl
 |cons x r=>
  rw[Bk,not_or]at h;rw[Mn,Ha (λe=>h.1 e.symm),Ha h.2]
def qS {l:List Nat}:0<=Kh l v↔v∈l:=by
 constructor
 ·intro h;by_cases hv:v∈l
  ·exact hv
  ·rw[Az5 hv]at h;omega
 ·exact λh=>(Tk h).1
def bD (h:v∈l1):Kh (l1++l2) v=Kh l1 v:=by
 induction l1 with
 |nil=>simp at h
 |cons x r ih=>
  rw[Er,Mn,Mn];by_cases e:x=v
  ·rw[Hc e,Hc e]
  ·have hr:v∈r:=by
    rcases Bk.1 h with rfl|h
    ·exact absurd rfl e
    ·exact h
   rw[Ha e,Ha e,Hc (by simp[hr]),Hc hr,ih hr]
def Xz (h1:v∉l1) (h:v∈l2):Kh (l1++l2) v=l1.length+Kh l2 v:=by
 induction l1 with
 |nil=>simp
 |cons x r ih=>
  rw[Bk,not_or]at h1;rw[Er,Mn,Ha (λe=>h1.1 e.symm),Hc (by simp[h]),ih h1.2,Eo];omega
def mL {l:List Nat} (hn:l.Nodup) (h:v∈l):Kh l.reverse v=l.length-1-Kh l v:=by
 induction l with
 |nil=>simp at h
 |cons x r ih=>
  rw[Ei]at hn;rw[List.reverse_cons,Mn,Eo];by_cases e:x=v
  ·subst e;rw[Hc rfl,Xz (by simpa using hn.1) Gy,Mn,Hc rfl,List.length_reverse];omega
  ·have hr:v∈r:=by
    rcases Bk.1 h with rfl|h
    ·exact absurd rfl e
    ·exact h
   rw[Ha e,Hc hr,bD (by simpa using hr),ih hn.2 hr];omega
def Az4 {l:List Nat} {u v:Nat} (hu:u∈l) (h:Kh l u=Kh l v):u=v:=by
 induction l with
 |nil=>simp at hu
 |cons x r ih=>
  rw[Mn,Mn]at h;by_cases e:x=u
  ·rw[Hc e]at h;by_cases e2:x=v
   ·exact e.symm.trans e2
   ·rw[Ha e2]at h
    split at h
    ·rename_i hv;have:=(Tk hv).1;omega
    ·omega
  ·have hr:u∈r:=by
    rcases Bk.1 hu with rfl|hu
    ·exact absurd rfl e
    ·exact hu
   rw[Ha e,Hc hr]at h;have:=(Tk hr).1;by_cases e2:x=v
   ·rw[Hc e2]at h;omega
   ·rw[Ha e2]at h
    split at h
    ·exact ih hr Gv
    ·omega
def Yg (nb:Nat×Nat->Nat) (u:Nat×Nat) (x y:Nat):Prop:=(x=u.1/\y=nb u)∨(x=nb u/\y=u.1)
def Qz (a b c d:Int):Prop:=(min a b<min c d/\min c d<max a b/\max a b<max c d)∨(min c d<min a b/\min a b<max c d/\max c d<max a b)
structure NC2 (reg:Nat×Nat->Prop) (nb:Nat×Nat->Nat) (kd:Nat×Nat->Bool) (img:Nat->Cl) (oth:Nat×Nat->Cl) (h:Nat->Int):Prop where
 pp:∀u v x y z w,reg u->reg v->kd u=false->kd v=false->Yg nb u x y->Yg nb v z w->img x=img z->img y=img w->¬(h x<h z/\h w<h y)
 pl:∀u v x y,reg u->reg v->kd u=false->kd v=true->Yg nb u x y->img x=img v.1->img y=oth v->¬(min (h v.1) (h (nb v))<h x/\h x<max (h v.1) (h (nb v)))
 ll:∀u v,reg u->reg v->kd u=true->kd v=true->img u.1=img v.1->oth u=oth v->¬Qz (h u.1) (h (nb u)) (h v.1) (h (nb v))
structure Sc (img img':Nat->Cl) (h h':Nat->Int) (len:Cl->Int) (R:Cl->Cl) (sd:Cl->Bool) (over:Bool) (i:Nat):Prop where
 im:img' i=if sd (img i)then R (img i)else img i
 inv:R (R (img i))=img i
 side:sd (R (img i))= !sd (img i)
 ht:h' i=if sd (img i)then (if over then len (R (img i))else 0)+(len (img i)-1-h i)else (if over then 0 else len (R (img i)))+h i
 bd:0<=h i/\h i<len (img i)
section
variable {img img':Nat->Cl} {h h':Nat->Int} {len:Cl->Int} {R:Cl->Cl} {sd:Cl->Bool} {over:Bool} {i:Nat}
def Sc.stay (F:Sc img img' h h' len R sd over i) (hs:sd (img i)=false):img' i=img i/\sd (img' i)=false/\h' i=(if over then 0 else len (R (img' i)))+h i/\0<=h i/\h i<len (img' i):=by
 have h1:=F.im;have h2:=F.ht;rw[hs]at h1 h2;have e:img' i=img i:=h1;rw[e];exact⟨rfl,hs,h2,F.bd⟩
def Sc.moved (F:Sc img img' h h' len R sd over i) (hs:sd (img i)=true):img' i=R (img i)/\img i=R (img' i)/\sd (img' i)=false/\h' i=(if over then len (img' i)else 0)+(len (R (img' i))-1-h i)/\0<=h i/\h i<len (R (img' i)):=by
 have h1:=F.im;have h2:=F.ht;have h3:=F.side;rw[hs]at h1 h2 h3;have e:img' i=R (img i):=h1;have e2:R (img' i)=img i:=by rw[e,F.inv]
 rw[e2,e];exact⟨rfl,rfl,h3,h2,F.bd⟩
end
def Qz.swap {a b c d:Int}:Qz a b c d↔Qz b a c d:=by
 unfold Qz;rw[Int.min_comm,Int.max_comm]
def Qz.comm {a b c d:Int}:Qz a b c d↔Qz c d a b:=by
 unfold Qz;exact Or.comm
def Ay1 {reg:Nat×Nat->Prop} {nb:Nat×Nat->Nat} {img img':Nat->Cl} {len:Cl->Int} {R:Cl->Cl} {sd:Cl->Bool} {over:Bool}
  (H:NC2 reg nb kd img oth h) (FA:∀u,reg u->Sc img img' h h' len R sd over u.1/\Sc img img' h h' len R sd over (nb u))
  (p0:∀u,reg u->kd u=false->oth u=img (nb u)) (l0:∀u,reg u->kd u=true->img (nb u)=img u.1)
  (ho:∀u,reg u->sf u=if sd (img u.1)then R (oth u)else oth u) (wm:∀u,reg u->R (R (oth u))=oth u)
  (hk:∀u,reg u->kd' u=(kd u||(sd (img u.1) != sd (img (nb u)))))
  (hx:∀u,reg u->kd u=false->sd (img u.1)≠sd (img (nb u))->R (img u.1)=img (nb u)):NC2 reg nb kd' img' sf h':=by
 have FE:∀u x y,reg u->Yg nb u x y->Sc img img' h h' len R sd over x/\Sc img img' h h' len R sd over y:=λu x y hu he=>by
  rcases he with⟨rfl,rfl⟩|⟨rfl,rfl⟩
  ·exact FA u hu
  ·exact(FA u hu).symm
 have ps:∀u,reg u->kd' u=false->kd u=false/\sd (img u.1)=sd (img (nb u)):=λu hu h0=>by
  have:=hk u hu;rw[h0]at this
  cases hkd:kd u<;>rw[hkd]at this
  ·exact⟨rfl,by simpa using this⟩
  ·simp at this
 have pe:∀u x y,reg u->kd' u=false->Yg nb u x y->sd (img x)=sd (img y):=λu x y hu h0 he=>by
  have:=(ps u hu h0).2;rcases he with⟨rfl,rfl⟩|⟨rfl,rfl⟩
  ·exact this
  ·exact this.symm
 have nw:∀u,reg u->kd u=false->sd (img u.1)≠sd (img (nb u))->∃x y,Yg nb u x y/\sd (img x)=false/\sd (img y)=true/\img x=img' u.1/\img y=R (img' u.1)/\img' x=img' u.1/\img' y=img' u.1/\sf u=R (img' u.1):=λu hu h0 hs=>by
  obtain⟨F1,F2⟩:=FA u hu;have e0:=hx u hu h0 hs;have eo:=ho u hu;rw[p0 u hu h0]at eo
  cases s1:sd (img u.1)with
  |false=>
   have s2:sd (img (nb u))=true:=by
    rw[s1]at hs
    cases h:sd (img (nb u))
    ·rw[h]at hs;exact absurd rfl hs
    ·rfl
   obtain⟨a1,-⟩:=F1.stay s1;obtain⟨b1,b2,-⟩:=F2.moved s2;rw[s1]at eo;have e1:img' (nb u)=img' u.1:=by rw[b1,a1,<-e0,F1.inv]
   exact⟨u.1,nb u,.inl ⟨rfl,rfl⟩,s1,s2,a1.symm,by rw[a1,e0],rfl,e1,by rw[a1,e0];exact eo⟩
  |true=>
   have s2:sd (img (nb u))=false:=by
    rw[s1]at hs
    cases h:sd (img (nb u))
    ·rfl
    ·rw[h]at hs;exact absurd rfl hs
   obtain⟨a1,a2,-⟩:=F1.moved s1;obtain⟨b1,-⟩:=F2.stay s2;rw[s1]at eo;have e1:img' (nb u)=img' u.1:=by rw[b1,a1,e0]
   exact⟨nb u,u.1,.inr ⟨rfl,rfl⟩,s2,s1,by rw[a1,e0],a2,e1,rfl,by rw[a1,e0];exact eo⟩
 have ol:∀u,reg u->kd u=true->sd (img (nb u))=sd (img u.1):=λu hu h0=>by rw[l0 u hu h0]
 have cs:∀u,reg u->kd' u=true->kd u=true∨(kd u=false/\sd (img u.1)≠sd (img (nb u))):=λu hu h0=>by
  have:=hk u hu;rw[h0]at this
  cases hkd:kd u with
  |true=>exact .inl rfl
  |false=>
   rw[hkd]at this;refine .inr ⟨rfl,λe=>?_⟩;rw[e]at this;simp at this
 have nh:∀u,reg u->kd u=false->sd (img u.1)≠sd (img (nb u))->∃x y,Yg nb u x y/\Yg nb u y x/\img x=img' u.1/\img y=R (img' u.1)/\R (R (img' u.1))=img' u.1/\sf u=R (img' u.1)/\
   h' x=(if over then 0 else len (R (img' u.1)))+h x/\0<=h x/\h x<len (img' u.1)/\h' y=(if over then len (img' u.1)else 0)+(len (R (img' u.1))-1-h y)/\0<=h y/\h y<len (R (img' u.1))/\∀c d,Qz (h' u.1) (h' (nb u)) c d↔Qz (h' x) (h' y) c d:=λu hu h0 hs=>by
  obtain⟨x,y,fd,sx,sy,e1,e2,e3,e4,e5⟩:=nw u hu h0 hs;obtain⟨Fx,Fy⟩:=FE u x y hu fd;obtain⟨-,-,x2,x3,x4⟩:=Fx.stay sx;obtain⟨-,-,-,y2,y3,y4⟩:=Fy.moved sy;rw[e3]at x2 x4;rw[e4]at y2 y4;refine⟨x,y,fd,fd.elim (λh=> .inr ⟨h.2,h.1⟩) (λh=> .inl ⟨h.2,h.1⟩),e1,e2,by rw[<-e1,Fx.inv],e5,x2,x3,x4,y2,y3,y4,λc d=>?_⟩;rcases fd with⟨rfl,rfl⟩|⟨rfl,rfl⟩
  ·exact Iff.rfl
  ·exact Qz.swap
 have no:∀u v,reg u->reg v->kd u=false->sd (img u.1)≠sd (img (nb u))->kd v=true->img' u.1=img' v.1->sf u=sf v->¬Qz (h' u.1) (h' (nb u)) (h' v.1) (h' (nb v)):=λu v hu hv ik hs kv ei eo=>by
  obtain⟨x,y,el,hyx,e1,e2,e3,e4,x2,x3,x4,y2,y3,y4,hi⟩:=nh u hu ik hs;obtain⟨F1,F2⟩:=FA v hv;have sv:=ol v hv kv;have ev:=ho v hv;rw[hi];unfold Qz;rw[ei]at e1 e2 e3 e4 x2 x4 y2 y4
  cases s2:sd (img v.1)with
  |false=>
   obtain⟨z1,-,z2,z3,z4⟩:=F1.stay s2;obtain⟨w1,-,w2,w3,w4⟩:=F2.stay (sv.trans s2);have e9:img' (nb v)=img' v.1:=by rw[w1,z1,l0 v hv kv]
   rw[e9]at w2 w4;rw[s2]at ev;have ev:sf v=oth v:=ev;have g:=H.pl u v x y hu hv ik kv el (by rw[e1,z1]) (by rw[e2,<-e4,eo,ev])
   cases over<;>simp at x2 y2 z2 w2<;>omega
  |true=>
   obtain⟨z1,z5,-,z2,z3,z4⟩:=F1.moved s2;obtain⟨w1,w5,-,w2,w3,w4⟩:=F2.moved (sv.trans s2);have e9:img' (nb v)=img' v.1:=by rw[w1,z1,l0 v hv kv]
   rw[e9]at w2 w4;rw[s2]at ev;have ev:sf v=R (oth v):=ev;have g:=H.pl u v y x hu hv ik kv hyx (by rw[e2,z5]) (by rw[e1,<-wm v hv,<-ev,<-eo,e4,e3])
   cases over<;>simp at x2 y2 z2 w2<;>omega
 refine⟨λu v x y z w hu hv ik gq eu ev QB QC=>?_,λu v x y hu hv ik gq eu QA eyo=>?_,λu v hu hv ik gq ei eo=>?_⟩
 ·obtain⟨Fx,Fy⟩:=FE u x y hu eu;obtain⟨Fz,Fw⟩:=FE v z w hv ev;have ku:=ps u hu ik;have kv:=ps v hv gq;have su:=pe u x y hu ik eu;have sv:=pe v z w hv gq ev
  cases s1:sd (img x)with
  |false=>
   obtain⟨x1,-,x2,x3,x4⟩:=Fx.stay s1;obtain⟨y1,-,y2,y3,y4⟩:=Fy.stay (su▸s1)
   cases s2:sd (img z)with
   |false=>
    obtain⟨z1,-,z2,z3,z4⟩:=Fz.stay s2;obtain⟨w1,-,w2,w3,w4⟩:=Fw.stay (sv▸s2);have g:=H.pp u v x y z w hu hv ku.1 kv.1 eu ev (by rw[<-x1,<-z1,QB]) (by rw[<-y1,<-w1,QC]);rw[QB]at x2;rw[QC]at y2;omega
   |true=>
    obtain⟨z1,z5,-,z2,z3,z4⟩:=Fz.moved s2;obtain⟨w1,w5,-,w2,w3,w4⟩:=Fw.moved (sv▸s2);rw[QB]at x2 x4;rw[QC]at y2 y4
    cases over<;>simp at x2 y2 z2 w2<;>omega
  |true=>
   obtain⟨x1,x5,-,x2,x3,x4⟩:=Fx.moved s1;obtain⟨y1,y5,-,y2,y3,y4⟩:=Fy.moved (su▸s1)
   cases s2:sd (img z)with
   |false=>
    obtain⟨z1,-,z2,z3,z4⟩:=Fz.stay s2;obtain⟨w1,-,w2,w3,w4⟩:=Fw.stay (sv▸s2);rw[QB]at x2 x4;rw[QC]at y2 y4
    cases over<;>simp at x2 y2 z2 w2<;>omega
   |true=>
    obtain⟨z1,z5,-,z2,z3,z4⟩:=Fz.moved s2;obtain⟨w1,w5,-,w2,w3,w4⟩:=Fw.moved (sv▸s2);have g:=H.pp v u z w x y hv hu kv.1 ku.1 ev eu (by rw[z5,x5,QB]) (by rw[w5,y5,QC]);rw[QB]at x2;rw[QC]at y2;omega
 ·obtain⟨Fx,Fy⟩:=FE u x y hu eu;obtain⟨F1,F2⟩:=FA v hv;have ku:=ps u hu ik;have su:=pe u x y hu ik eu
  have sy:sd (img' y)=false:=by
   cases s:sd (img y)with
   |false=>exact(Fy.stay s).2.1
   |true=>exact(Fy.moved s).2.2.1
  rcases cs v hv gq with kv|⟨kv,hs⟩
  ·have sv:=ol v hv kv;have ev:=ho v hv
   cases s1:sd (img x)with
   |false=>
    obtain⟨x1,-,x2,x3,x4⟩:=Fx.stay s1;obtain⟨y1,-⟩:=Fy.stay (su▸s1)
    cases s2:sd (img v.1)with
    |false=>
     obtain⟨z1,-,z2,z3,z4⟩:=F1.stay s2;obtain⟨w1,-,w2,w3,w4⟩:=F2.stay (sv.trans s2);rw[s2]at ev;have g:=H.pl u v x y hu hv ku.1 kv eu (by rw[<-x1,<-z1,QA]) (by rw[<-y1,eyo];exact ev);have e9:img' (nb v)=img' v.1:=by rw[w1,z1,l0 v hv kv]
     rw[QA]at x2;rw[e9]at w2;omega
    |true=>
     obtain⟨z1,z5,-,z2,z3,z4⟩:=F1.moved s2;obtain⟨w1,w5,-,w2,w3,w4⟩:=F2.moved (sv.trans s2);have e9:img' (nb v)=img' v.1:=by rw[w1,z1,l0 v hv kv]
     rw[QA]at x2 x4;rw[e9]at w2 w4
     cases over<;>simp at x2 z2 w2<;>omega
   |true=>
    obtain⟨x1,x5,-,x2,x3,x4⟩:=Fx.moved s1;obtain⟨y1,y5,-⟩:=Fy.moved (su▸s1)
    cases s2:sd (img v.1)with
    |false=>
     obtain⟨z1,-,z2,z3,z4⟩:=F1.stay s2;obtain⟨w1,-,w2,w3,w4⟩:=F2.stay (sv.trans s2);have e9:img' (nb v)=img' v.1:=by rw[w1,z1,l0 v hv kv]
     rw[QA]at x2 x4;rw[e9]at w2 w4
     cases over<;>simp at x2 z2 w2<;>omega
    |true=>
     obtain⟨z1,z5,-,z2,z3,z4⟩:=F1.moved s2;obtain⟨w1,w5,-,w2,w3,w4⟩:=F2.moved (sv.trans s2);rw[s2]at ev;have ev:sf v=R (oth v):=ev;have g:=H.pl u v x y hu hv ku.1 kv eu (by rw[x5,z5,QA]) (by rw[y5,eyo,ev,wm v hv]);have e9:img' (nb v)=img' v.1:=by rw[w1,z1,l0 v hv kv]
     rw[QA]at x2;rw[e9]at w2;omega
  ·obtain⟨a,b,fd,-,sb,-,-,-,-,e9⟩:=nw v hv kv hs;exfalso;obtain⟨Fa,Fb⟩:=FE v a b hv fd;rw[eyo,e9]at sy
   have h1:sd (img' v.1)=false:=by
    cases s:sd (img v.1)with
    |false=>exact(F1.stay s).2.1
    |true=>exact(F1.moved s).2.2.1
   cases s:sd (img v.1)with
   |false=>
    have:=F1.side;rw[<-(F1.stay s).1,sy,h1]at this;simp at this
   |true=>
    obtain⟨m1,m2,-⟩:=F1.moved s;rw[<-m2,s]at sy
    cases sy
 ·obtain⟨Fu1,Fu2⟩:=FA u hu;obtain⟨Fv1,Fv2⟩:=FA v hv;rcases cs u hu ik with ku|⟨ku,su⟩
  ·have su:=ol u hu ku;have XC:=ho u hu;rcases cs v hv gq with kv|⟨kv,sv⟩
   ·have sv:=ol v hv kv;have XD:=ho v hv
    cases s1:sd (img u.1)with
    |false=>
     unfold Qz;obtain⟨x1,-,x2,x3,x4⟩:=Fu1.stay s1;obtain⟨y1,-,y2,y3,y4⟩:=Fu2.stay (su.trans s1);have e8:img' (nb u)=img' u.1:=by rw[y1,x1,l0 u hu ku]
     rw[e8]at y2 y4;rw[ei]at x2 x4 y2 y4
     cases s2:sd (img v.1)with
     |false=>
      obtain⟨z1,-,z2,z3,z4⟩:=Fv1.stay s2;obtain⟨w1,-,w2,w3,w4⟩:=Fv2.stay (sv.trans s2);have e9:img' (nb v)=img' v.1:=by rw[w1,z1,l0 v hv kv]
      rw[e9]at w2 w4;rw[s1]at XC;rw[s2]at XD;have XC:sf u=oth u:=XC;have XD:sf v=oth v:=XD;have g:=H.ll u v hu hv ku kv (by rw[<-x1,<-z1,ei]) (by rw[<-XC,<-XD,eo]);unfold Qz at g;omega
     |true=>
      obtain⟨z1,z5,-,z2,z3,z4⟩:=Fv1.moved s2;obtain⟨w1,w5,-,w2,w3,w4⟩:=Fv2.moved (sv.trans s2);have e9:img' (nb v)=img' v.1:=by rw[w1,z1,l0 v hv kv]
      rw[e9]at w2 w4
      cases over<;>simp at x2 y2 z2 w2<;>omega
    |true=>
     unfold Qz;obtain⟨x1,x5,-,x2,x3,x4⟩:=Fu1.moved s1;obtain⟨y1,y5,-,y2,y3,y4⟩:=Fu2.moved (su.trans s1);have e8:img' (nb u)=img' u.1:=by rw[y1,x1,l0 u hu ku]
     rw[e8]at y2 y4;rw[ei]at x2 x4 y2 y4
     cases s2:sd (img v.1)with
     |false=>
      obtain⟨z1,-,z2,z3,z4⟩:=Fv1.stay s2;obtain⟨w1,-,w2,w3,w4⟩:=Fv2.stay (sv.trans s2);have e9:img' (nb v)=img' v.1:=by rw[w1,z1,l0 v hv kv]
      rw[e9]at w2 w4
      cases over<;>simp at x2 y2 z2 w2<;>omega
     |true=>
      obtain⟨z1,z5,-,z2,z3,z4⟩:=Fv1.moved s2;obtain⟨w1,w5,-,w2,w3,w4⟩:=Fv2.moved (sv.trans s2);have e9:img' (nb v)=img' v.1:=by rw[w1,z1,l0 v hv kv]
      rw[e9]at w2 w4;rw[s1]at XC;rw[s2]at XD;have XC:sf u=R (oth u):=XC;have XD:sf v=R (oth v):=XD;have g:=H.ll u v hu hv ku kv (by rw[x5,z5,ei]) (by rw[<-wm u hu,<-wm v hv,<-XC,<-XD,eo]);unfold Qz at g;omega
   ·exact λhi=>no v u hv hu kv sv ku ei.symm eo.symm (Qz.comm.1 hi)
  ·rcases cs v hv gq with kv|⟨kv,sv⟩
   ·exact no u v hu hv ku su kv ei eo
   ·obtain⟨x,y,el,hyx,e1,e2,e3,e4,x2,x3,x4,y2,y3,y4,hi⟩:=nh u hu ku su;obtain⟨z,w,hzw,hwz,f1,f2,f3,f4,z2,z3,z4,w2,w3,w4,hj⟩:=nh v hv kv sv;intro hc;have hc:=(hi _ _).1 hc;have hc:=(hj _ _).1 (Qz.comm.1 hc);unfold Qz at hc;rw[ei]at e1 e2 x2 x4 y2 y4;have g1:=H.pp u v x y z w hu hv ku kv el hzw (by rw[e1,f1]) (by rw[e2,f2]);have g2:=H.pp v u z w x y hv hu kv ku hzw el (by rw[e1,f1]) (by rw[e2,f2])
    cases over<;>simp at x2 y2 z2 w2<;>omega
def Ag5 (p q:Cl):Cl×Cl:=if 0<Ka p q then (q,p)else (p,q)
def Ag6 {p q:Cl} (h:p≠q):Ag5 p q=Ag5 q p:=by
 have e1:0<Ka p q↔Ka q p<0:=by
  have:=Yo (a:=p) (b:=q);omega
 have e2:0<Ka q p↔Ka p q<0:=by
  have:=Yo (a:=q) (b:=p);omega
 have tri:Ka p q<0∨Ka q p<0:=by
  rw[Jl,Jl];obtain⟨px,py,pq⟩:=p;obtain⟨qx,qy,qq⟩:=q;dsimp only;by_cases h1:px=qx
  ·by_cases h2:py=qy
   ·by_cases h3:pq=qq
    ·exact absurd (by rw[h1,h2,h3]) h
    ·omega
   ·omega
  ·omega
 have anti:¬(Ka p q<0/\Ka q p<0):=by
  have:=Yo (a:=p) (b:=q);omega
 unfold Ag5;by_cases h0:Ka q p<0
 ·rw[Hc (e1.2 h0),Ha (λh2=>anti ⟨e2.1 h2,h0⟩)]
 ·rw[Ha (λh2=>h0 (e1.1 h2)),Hc (e2.2 (tri.resolve_right h0))]
def zF (k:Lk) (u:Nat×Nat):k.key u.1 u.2=Ag5 (k.img u.1) (k.other u.1 u.2):=rfl
section
variable {k:Lk} {l:List Stk}
def Qc {x y:Nat} (he:Yg k.nb u x y) (hne:k.img u.1≠k.img (k.nb u)):k.hU l (k.img x) u=htC l (k.img x) x:=by
 unfold Lk.hU;rcases he with⟨rfl,rfl⟩|⟨rfl,rfl⟩
 ·rw[Hc rfl]
 ·rw[Ha hne]
def Cd9 (p0:∀u,k.reg u->Ho k.cr u.1 u.2=0->k.other u.1 u.2=k.img (k.nb u)) (l0:∀u,k.reg u->Ho k.cr u.1 u.2≠0->k.img (k.nb u)=k.img u.1) (hne:∀u,k.reg u->k.img u.1≠k.other u.1 u.2) (H:NC k l):
  NC2 k.reg k.nb (λu=>decide (Ho k.cr u.1 u.2≠0)) k.img (λu=>k.other u.1 u.2) (λi=>htC l (k.img i) i):=by
 have z0:∀u:Nat×Nat,decide (Ho k.cr u.1 u.2≠0)=false->Ho k.cr u.1 u.2=0:=λu h=>El.1 (by simpa using h);have z1:∀u:Nat×Nat,decide (Ho k.cr u.1 u.2≠0)=true->Ho k.cr u.1 u.2≠0:=λu h=>by simpa using h
 have ke:∀u x y,k.reg u->Ho k.cr u.1 u.2=0->Yg k.nb u x y->k.key u.1 u.2=Ag5 (k.img x) (k.img y)/\k.img x≠k.img y:=λu x y hu h0 he=>by
  have hn:=hne u hu;rw[p0 u hu h0]at hn;rw[zF,p0 u hu h0];rcases he with⟨rfl,rfl⟩|⟨rfl,rfl⟩
  ·exact⟨rfl,hn⟩
  ·exact⟨Ag6 hn,hn.symm⟩
 refine⟨λu v x y z w hu hv ik gq eu ev QB QC hc=>?_,λu v x y hu hv ik gq eu QA eyo hc=>?_,λu v hu hv ik gq ei eo hc=>?_⟩
 ·have ik:=z0 u ik;have gq:=z0 v gq;obtain⟨k1,d1⟩:=ke u x y hu ik eu;obtain⟨k2,d2⟩:=ke v z w hv gq ev;have pr:=hne u hu;rw[p0 u hu ik]at pr;have hnv:=hne v hv;rw[p0 v hv gq]at hnv;have eu':Yg k.nb u y x:=eu.elim (λh=> .inr ⟨h.2,h.1⟩) (λh=> .inl ⟨h.2,h.1⟩);have ev':Yg k.nb v w z:=ev.elim (λh=> .inr ⟨h.2,h.1⟩) (λh=> .inl ⟨h.2,h.1⟩);have kk:k.key u.1 u.2=k.key v.1 v.2:=by rw[k1,k2,QB,QC]
  have a1:=Qc (l:=l) eu pr;have a2:=Qc (l:=l) eu' pr;have a3:=Qc (l:=l) ev hnv;have a4:=Qc (l:=l) ev' hnv;rw[<-QB]at a3;rw[<-QC]at a4;rw[<-QB,<-QC]at hc;have g1:=H.pp u v hu hv ik gq kk;have g2:=H.pp v u hv hu gq ik kk.symm;rw[<-kk]at g2;rw[k1]at g1 g2;unfold Ag5 at g1 g2
  split at g1
  ·rename_i h0;rw[Hc h0]at g2;dsimp only at g1 g2;rw[a1,a2,a3,a4]at g2;exact g2 ⟨hc.2,hc.1⟩
  ·dsimp only at g1;rw[a1,a2,a3,a4]at g1;exact g1 hc
 ·have ik:=z0 u ik;have gq:=z1 v gq;obtain⟨k1,d1⟩:=ke u x y hu ik eu;have pr:=hne u hu;rw[p0 u hu ik]at pr;have kk:k.key u.1 u.2=k.key v.1 v.2:=by rw[k1,zF,QA,eyo]
  have g:=H.pl u v hu hv ik gq kk;have a1:=Qc (l:=l) eu pr;rw[<-QA,a1]at g;unfold Lk.hL mm at g;dsimp only at g hc;rw[l0 v hv gq]at hc;rw[<-QA]at hc g;exact g hc
 ·have ik:=z1 u ik;have gq:=z1 v gq;have kk:k.key u.1 u.2=k.key v.1 v.2:=by rw[zF,zF,ei,eo]
  have g:=H.ll u v hu hv ik gq kk ei;unfold Qz at hc;rw[l0 u hu ik,l0 v hv gq]at hc;unfold Ox Lk.hL mm at g;simp only[Cz,Bool.and_eq_false_iff,Rt]at g;rcases hc with hc|hc
  ·rcases g.1 with (h|h)|h<;>omega
  ·rcases g.2 with (h|h)|h<;>omega
def Bs1 (p0:∀u,k.reg u->Ho k.cr u.1 u.2=0->k.other u.1 u.2=k.img (k.nb u)) (l0:∀u,k.reg u->Ho k.cr u.1 u.2≠0->k.img (k.nb u)=k.img u.1) (hne:∀u,k.reg u->k.img u.1≠k.other u.1 u.2)
  (hp:∀u,k.reg u->0<=htC l (k.img u.1) u.1/\0<=htC l (k.img (k.nb u)) (k.nb u))
  (H:NC2 k.reg k.nb (λu=>decide (Ho k.cr u.1 u.2≠0)) k.img (λu=>k.other u.1 u.2) (λi=>htC l (k.img i) i)):NC k l:=by
 have z0:∀u:Nat×Nat,Ho k.cr u.1 u.2=0->decide (Ho k.cr u.1 u.2≠0)=false:=λu h=>by simpa using h
 have z1:∀u:Nat×Nat,Ho k.cr u.1 u.2≠0->decide (Ho k.cr u.1 u.2≠0)=true:=λu h=>by simpa using h
 have en:∀u A B,k.reg u->Ho k.cr u.1 u.2=0->k.key u.1 u.2=(A,B)->∃x y,Yg k.nb u x y/\k.img x=A/\k.img y=B/\k.hU l A u=htC l A x/\k.hU l B u=htC l B y:=λu A B hu h0 e=>by
  have hn:=hne u hu;rw[p0 u hu h0]at hn;rcases Uc k u with e2|e2
  ·rw[e2,p0 u hu h0]at e;injection e with e3 e4;have a1:=Qc (l:=l) (x:=u.1) (y:=k.nb u) (.inl ⟨rfl,rfl⟩) hn;have a2:=Qc (l:=l) (x:=k.nb u) (y:=u.1) (.inr ⟨rfl,rfl⟩) hn;rw[e3]at a1;rw[e4]at a2;exact⟨u.1,k.nb u,.inl ⟨rfl,rfl⟩,e3,e4,a1,a2⟩
  ·rw[e2,p0 u hu h0]at e;injection e with e3 e4;have a1:=Qc (l:=l) (x:=u.1) (y:=k.nb u) (.inl ⟨rfl,rfl⟩) hn;have a2:=Qc (l:=l) (x:=k.nb u) (y:=u.1) (.inr ⟨rfl,rfl⟩) hn;rw[e4]at a1;rw[e3]at a2;exact⟨k.nb u,u.1,.inr ⟨rfl,rfl⟩,e3,e4,a2,a1⟩
 refine⟨λu hu h0=>?_,λu hu h0=>?_,λu v hu hv ik gq e=>?_,λu v hu hv ik gq e=>?_,λu v hu hv ik gq e ei=>?_⟩
 ·have hn:=hne u hu;rw[p0 u hu h0]at hn;rw[p0 u hu h0,Qc (l:=l) (x:=u.1) (y:=k.nb u) (.inl ⟨rfl,rfl⟩) hn,Qc (l:=l) (x:=k.nb u) (y:=u.1) (.inr ⟨rfl,rfl⟩) hn];exact hp u hu
 ·have:=hp u hu;rw[l0 u hu h0]at this;exact this
 ·obtain⟨⟨A,B⟩,hk⟩:=ey (k.key u.1 u.2);obtain⟨x,y,he,x1,y1,x2,y2⟩:=en u A B hu ik hk;obtain⟨z,w,hf,z1,w1,z2,w2⟩:=en v A B hv gq (e▸hk);have g:=H.pp u v x y z w hu hv (z0 u ik) (z0 v gq) he hf (x1.trans z1.symm) (y1.trans w1.symm);rw[x1,y1,z1,w1]at g;rw[hk];dsimp only;rw[x2,y2,z2,w2];exact g
 ·have hn:=hne u hu;rw[p0 u hu ik]at hn
  have fin:∀x y,Yg k.nb u x y->k.img x=k.img v.1->k.img y=k.other v.1 v.2->¬((k.hL l v).1<k.hU l (k.img v.1) u/\k.hU l (k.img v.1) u<(k.hL l v).2):=λx y he h1 h2=>by
   have g:=H.pl u v x y hu hv (z0 u ik) (z1 v gq) he h1 h2;have a1:=Qc (l:=l) he hn;rw[h1]at a1;rw[a1];unfold Lk.hL mm;dsimp only at g⊢;rw[l0 v hv gq,h1]at g;exact g
  have YX:k.other u.1 u.2=k.img (k.nb u):=p0 u hu ik;rcases Uc k u with e1|e1<;>rcases Uc k v with e2|e2<;>rw[e1,e2]at e<;>injection e with e3 e4
  ·exact fin u.1 (k.nb u) (.inl ⟨rfl,rfl⟩) e3 (YX▸e4)
  ·exact fin (k.nb u) u.1 (.inr ⟨rfl,rfl⟩) (YX▸e4) e3
  ·exact fin (k.nb u) u.1 (.inr ⟨rfl,rfl⟩) (YX▸e3) e4
  ·exact fin u.1 (k.nb u) (.inl ⟨rfl,rfl⟩) e4 (YX▸e3)
 ·have eo:k.other u.1 u.2=k.other v.1 v.2:=by
   have h1:=hne u hu;have h2:=hne v hv;rcases Uc k u with e1|e1<;>rcases Uc k v with e2|e2<;>rw[e1,e2]at e<;>injection e with e3 e4
   ·exact absurd (ei.trans e4.symm) h1
   ·exact absurd (ei.trans e3.symm) h1
  have g:=H.ll u v hu hv (z1 u ik) (z1 v gq) ei eo;unfold Qz at g;rw[l0 u hu ik,l0 v hv gq]at g;unfold Ox Lk.hL mm;simp only[Cz,Bool.and_eq_false_iff,Rt];omega
end
def Kt (c:Cl) (e:Nat):Cl:=⟨c.x+(nxt c.q e).1,c.y+(nxt c.q e).2.1,(nxt c.q e).2.2.toNat⟩
def iC (h:t<=7):t=0∨t=1∨t=2∨t=3∨t=4∨t=5∨t=6∨t=7:=Gv
def dC (h:t<=3):t=0∨t=1∨t=2∨t=3:=Gv
def mB (h:t<=2):t=0∨t=1∨t=2:=Gv
def Ud (m:Mv) (ht:m.t<=7) (c:Cl) (hq:c.q<=3) (e:Nat) (he:e<=2):∃e',e'<=2/\Ht m (Kt c e)=Kt (Ht m c) e':=by
 obtain⟨t,a,b⟩:=m;obtain⟨x,y,q⟩:=c;dsimp only at ht hq;rcases iC ht with rfl|rfl|rfl|rfl|rfl|rfl|rfl|rfl<;>rcases dC hq with rfl|rfl|rfl|rfl<;>rcases mB he with rfl|rfl|rfl<;>
 first
  |(refine⟨0,He,?_⟩
    simp[Ht,Kt,Iy,Ii,mat,Iu,Mb,nxt];omega)
  |(refine⟨1,He,?_⟩
    simp[Ht,Kt,Iy,Ii,mat,Iu,Mb,nxt]<;>omega)
  |(refine⟨2,He,?_⟩
    simp[Ht,Kt,Iy,Ii,mat,Iu,Mb,nxt]<;>omega)
def bG (c:Cl) (hq:c.q<=3) (e:Nat) (he:e<=2):Ht (ofL (Jp c e).1 (Jp c e).2) (Kt c e)=c/\Ht (ofL (Jp c e).1 (Jp c e).2) c=Kt c e:=by
 obtain⟨x,y,q⟩:=c;dsimp only at hq;rcases dC hq with rfl|rfl|rfl|rfl<;>rcases mB he with rfl|rfl|rfl<;>
 simp[Ht,Kt,Iy,Ii,mat,Iu,Mb,nxt,ofL,Jp]<;>omega
def thn (a b:Mv):Mv:=⟨Lb (Iq (mat a.t) (mat b.t)),(Ii (mat b.t) a.x a.y).1+b.x,(Ii (mat b.t) a.x a.y).2+b.y⟩
def Bs8 (a b:Mv):(thn a b).t<=7:=by
 unfold thn Lb;dsimp only
 repeat' split
 all_goals decide
def Aj8 (a b:Mv) (ha:a.t<=7) (hb:b.t<=7) (x y:Int):Iy (thn a b) x y=Iy b (Iy a x y).1 (Iy a x y).2:=by
 obtain⟨t,a1,a2⟩:=a;obtain⟨u,b1,b2⟩:=b;dsimp only at ha hb;rcases iC ha with rfl|rfl|rfl|rfl|rfl|rfl|rfl|rfl<;>rcases iC hb with rfl|rfl|rfl|rfl|rfl|rfl|rfl|rfl<;>
 simp[thn,Iy,Ii,mat,Iq,Lb]<;>omega
def Aj7 (m:Mv) (ht:m.t<=7) (x y:Int):(Iy m (2*x+1) (2*y+1)).1%2=1/\(Iy m (2*x+1) (2*y+1)).2%2=1:=by
 obtain⟨t,a,b⟩:=m;dsimp only at ht;rcases iC ht with rfl|rfl|rfl|rfl|rfl|rfl|rfl|rfl<;>simp[Iy,Ii,mat]<;>omega
def Bc4 (a b:Mv) (ha:a.t<=7) (hb:b.t<=7) (q:Nat) (hq:q<=3):Mb (Ii (mat (thn a b).t) (Iu q).1 (Iu q).2)=Mb (Ii (mat b.t) (Iu (Mb (Ii (mat a.t) (Iu q).1 (Iu q).2))).1 (Iu (Mb (Ii (mat a.t) (Iu q).1 (Iu q).2))).2):=by
 have key:∀t,t<8->∀u,u<8->∀q,q<4->Mb (Ii (mat (Lb (Iq (mat t) (mat u)))) (Iu q).1 (Iu q).2)=Mb (Ii (mat u) (Iu (Mb (Ii (mat t) (Iu q).1 (Iu q).2))).1 (Iu (Mb (Ii (mat t) (Iu q).1 (Iu q).2))).2):=He;exact key a.t Gv b.t Gv q Gv
def aU (a b:Mv) (ha:a.t<=7) (hb:b.t<=7) (c:Cl) (hq:c.q<=3):Ht (thn a b) c=Ht b (Ht a c):=by
 have h1:=Aj8 a b ha hb (2*c.x+1) (2*c.y+1);have h2:=Aj7 a ha c.x c.y;have h3:=Bc4 a b ha hb c.q hq;have e1:2*((Iy a (2*c.x+1) (2*c.y+1)).1/2)+1=(Iy a (2*c.x+1) (2*c.y+1)).1:=Gv;have e2:2*((Iy a (2*c.x+1) (2*c.y+1)).2/2)+1=(Iy a (2*c.x+1) (2*c.y+1)).2:=Gv;unfold Ht;dsimp only;rw[h1,h3,e1,e2]
def Bc3 (d:Int×Int):Mb d<=3:=by
 unfold Mb
 repeat' split
 all_goals decide
def Iv (m:Mv) (c:Cl):(Ht m c).q<=3:=Bc3 _
def Ly (l:List α) (n:Nat) (v d:α) (h:n<l.length):(l.set n v).getD n d=v:=by simp[List.getD,h]
def Nz (l:List α) (n j:Nat) (v d:α) (h:j≠n):(l.set n v).getD j d=l.getD j d:=by
 simp only[List.getD,List.getElem?_set_ne (Ne.symm h)]
structure sR (a b:Int) (l:List Cr) (s:RS) (D:List Nat):Prop where
 lo:s.out.length=Hh a b
 lk:s.known.length=Hh a b
 nd:(D++s.wait).Nodup
 kn:∀j,s.known.getD j false=true↔j∈D++s.wait
 lt:∀j∈D++s.wait,j<Hh a b
def cX (s s':RS):Prop:=∀j,s.known.getD j false=true->s'.known.getD j false=true/\s'.out.getD j mv0=s.out.getD j mv0
def cX.refl (s:RS):cX s s:=λ_ h=>⟨h,rfl⟩
def cX.trans {s t u:RS} (h:cX s t) (k:cX t u):cX s u:=λj hj=>⟨(k j (h j hj).1).1,(k j (h j hj).1).2.trans (h j hj).2⟩
def sQ (a b:Int) (l:List Cr) (s:RS) (id e:Nat):Prop:=(nbI a b id e).2=0->s.known.getD (nbI a b id e).1.toNat false=true/\s.out.getD (nbI a b id e).1.toNat mv0=Kf a b l s.out id e
def Vv (a b:Int) (l:List Cr) {o o':List Mv} {id:Nat} (e:Nat) (h:o'.getD id mv0=o.getD id mv0):Kf a b l o' id e=Kf a b l o id e:=by
 unfold Kf;rw[h]
def sQ.ext {a b:Int} {l:List Cr} {s s':RS} {id e:Nat} (h:sQ a b l s id e) (hx:cX s s') (hi:s.known.getD id false=true):sQ a b l s' id e:=λh0=>by
 obtain⟨h1,h2⟩:=h h0;refine⟨(hx _ h1).1,?_⟩;rw[(hx _ h1).2,h2,Vv a b l e (hx _ hi).2]
def mN {a b:Int} (hs:okS a b=true) {l:List Cr} {s s':RS} {id e:Nat} (h:Ow a b l id e s=Af s') (hI:sR a b l s D) (hid:id∈D):sR a b l s' D/\cX s s'/\sQ a b l s' id e:=by
 unfold Ow at h
 split at h
 ·rename_i h0;obtain rfl:=Option.some.inj h;exact⟨hI,cX.refl _,λh1=>absurd h1 h0⟩
 ·rename_i h0;have h0:(nbI a b id e).2=0:=Decidable.not_not.1 h0;obtain⟨n1,n2⟩:=fR hs h0;have hn:(nbI a b id e).1.toNat<Hh a b:=by unfold Hh;omega
  dsimp only at h
  cases hk:s.known.getD (nbI a b id e).1.toNat false with
  |true=>
   simp only[hk,if_true]at h
   split at h
   ·rename_i h3;obtain rfl:=Option.some.inj h;exact⟨hI,cX.refl _,λ_=>⟨hk,h3⟩⟩
   ·cases h
  |false=>
   simp only[hk,Bool.false_eq_true,if_false]at h
   split at h
   ·rename_i h3;obtain rfl:=Option.some.inj h
    have hx:cX s ⟨s.out.set (nbI a b id e).1.toNat (Kf a b l s.out id e),s.known.set (nbI a b id e).1.toNat true,s.wait++[(nbI a b id e).1.toNat]⟩:=λj hj=>by
     have hne:j≠(nbI a b id e).1.toNat:=λe2=>by rw[e2,hk]at hj;cases hj
     dsimp only;rw[Nz _ _ _ _ _ hne,Nz _ _ _ _ _ hne];exact⟨hj,rfl⟩
    have ka:(nbI a b id e).1.toNat∉D++s.wait:=λh4=>by
     have:=(hI.kn _).2 h4;rw[hk]at this
     cases this
    refine⟨⟨by simpa using hI.lo,by simpa using hI.lk,?_,?_,?_⟩,hx,λ_=>⟨?_,?_⟩⟩
    ·dsimp only;rw[<-Bj];refine Bq.2 ⟨hI.nd,Gy,?_⟩;intro x VL y hy;rw[Gf.1 hy];exact λe2=>ka (e2▸VL)
    ·intro j;dsimp only;rw[<-Bj,Bl,<-hI.kn j];by_cases hj:j=(nbI a b id e).1.toNat
     ·subst hj;rw[Ly _ _ _ _ (by rw[hI.lk];exact hn)];simp
     ·rw[Nz _ _ _ _ _ hj];simp[hj]
    ·intro j hj;dsimp only at hj;rw[<-Bj,Bl]at hj;rcases hj with hj|hj
     ·exact hI.lt j hj
     ·rw[Gf.1 hj];exact hn
    ·exact Ly _ _ _ _ (by rw[hI.lk];exact hn)
    ·dsimp only;rw[Ly _ _ _ _ (by rw[hI.lo];exact hn)];exact(Vv a b l e (hx id ((hI.kn id).2 (Gc _ hid))).2).symm
   ·cases h
def wJ {a b:Int} (hs:okS a b=true) {l:List Cr} {s s':RS} {id:Nat} (h:Qn a b l id s=Af s') (hI:sR a b l s D) (hid:id∈D):sR a b l s' D/\cX s s'/\∀e,e<=2->sQ a b l s' id e:=by
 unfold Qn at h;obtain⟨s1,h1,h⟩:=Option.bind_eq_some_iff.1 h;obtain⟨s2,h2,h3⟩:=Option.bind_eq_some_iff.1 h;obtain⟨i1,x1,c1⟩:=mN hs h1 hI hid;obtain⟨i2,x2,c2⟩:=mN hs h2 i1 hid;obtain⟨i3,x3,c3⟩:=mN hs h3 i2 hid;have k1:=(i1.kn id).2 (Gc _ hid);have k2:=(i2.kn id).2 (Gc _ hid);refine⟨i3,(x1.trans x2).trans x3,λe he=>?_⟩;rcases mB he with rfl|rfl|rfl
 ·exact(c1.ext x2 k1).ext x3 k2
 ·exact c2.ext x3 k2
 ·exact c3
def qZ {a b:Int} (hs:okS a b=true) {l:List Cr}:∀(f:Nat) {s:RS} {D:List Nat} {m:List Mv},Sa a b l f s=Af m->f+D.length=Hh a b+1->sR a b l s D->(∀id∈D,∀e,e<=2->sQ a b l s id e)->
  ∃D':List Nat,(∀id∈D,id∈D')/\(∀id∈s.wait,id∈D')/\(∀id∈D',∀e:Nat,e<=2->(nbI a b id e).2=0->(nbI a b id e).1.toNat∈D'/\m.getD (nbI a b id e).1.toNat mv0=Kf a b l m id e)/\∀j,s.known.getD j false=true->m.getD j mv0=s.out.getD j mv0
 |0,s,D,m,h,hf,hI,hc=>by
  have h1:(D++s.wait).length<=Hh a b:=by
   have:=List.Nodup.length_le_of_subset (l₁:=D++s.wait) (l₂:=Ds (Hh a b)) hI.nd (λx hx=>Eb.2 (hI.lt x hx));simpa using this
  rw[List.length_append]at h1;omega
 |f+1,s,D,m,h,hf,hI,hc=>by
  unfold Sa at h
  cases hw:s.wait with
  |nil=>
   rw[hw]at h;obtain rfl:=Option.some.inj h;refine⟨D,λ_ h=>h,(λ_ h=>by cases h),λid hid e he h0=>?_,λ_ _=>rfl⟩;obtain⟨k1,k2⟩:=hc id hid e he h0;have:=(hI.kn _).1 k1;rw[hw,Ff]at this;exact⟨this,k2⟩
  |cons id r=>
   rw[hw]at h;obtain⟨s',h1,h2⟩:=Option.bind_eq_some_iff.1 h
   have hI2:sR a b l ⟨s.out,s.known,r⟩ (D++[id]):=by
    have e:D++[id]++r=D++s.wait:=by rw[hw];simp
    exact⟨hI.lo,hI.lk,by rw[e];exact hI.nd,λj=>by rw[e];exact hI.kn j,λj hj=>hI.lt j (by rw[e]at hj;exact hj)⟩
   obtain⟨i3,x3,c3⟩:=wJ hs h1 hI2 Gy
   obtain⟨D',d1,d2,d3,d4⟩:=qZ hs f h2 Hv i3 (λj hj e he=>by
    rcases Bl.1 hj with hj|hj
    ·have hk:s.known.getD j false=true:=(hI.kn j).2 (Gc _ hj);exact sQ.ext (s:=s) (hc j hj e he) x3 hk
    ·rw[Gf.1 hj];exact c3 e he)
   refine⟨D',λj hj=>d1 j (Gc _ hj),λj hj=>?_,d3,λj hj=>(d4 j (x3 j hj).1).trans (x3 j hj).2⟩;rcases Bk.1 hj with rfl|hj
   ·exact d1 _ Gy
   ·by_cases hjd:j∈D'
    ·exact hjd
    ·have hk:(⟨s.out,s.known,r⟩:RS).known.getD j false=true:=(hI2.kn j).2 (List.mem_append_right _ hj);have:=(i3.kn j).1 (x3 j hk).1;rcases Bl.1 this with h|h
     ·exact d1 j h
     ·exact d2 j h
def Bo7 {a b:Int} (hs:okS a b=true) {l:List Cr} (h:Uh a b l=Af m):
  m.getD 0 mv0=mv0/\∃D:List Nat,0∈D/\∀id∈D,∀e:Nat,e<=2->(nbI a b id e).2=0->(nbI a b id e).1.toNat∈D/\m.getD (nbI a b id e).1.toNat mv0=Kf a b l m id e:=by
 have hc:1<=Hh a b:=by
  have:=Mg hs;unfold Hh;rw[show 4*a*b=4*(a*b)from Cw ..];omega
 unfold Uh at h
 have hI:sR a b l ⟨Ba (Hh a b) mv0,true::Ba (Hh a b-1) false,[0]⟩ []:=by
  refine⟨Gy,Hv,Gy,λj=>?_,λj hj=>?_⟩
  ·cases j with
   |zero=>simp
   |succ j=>
    simp only[Eu,Gf,Nat.succ_ne_zero,iff_false];simp[List.getD,List.getElem?_replicate]
    split<;>rfl
  ·have:j=0:=by simpa using hj
   omega
 obtain⟨D,-,d2,d3,d4⟩:=qZ hs _ (D:=[]) h Gy hI (λ_ h=>by cases h);refine⟨(d4 0 Gy).trans ?_,D,d2 0 Gy,d3⟩;dsimp only
 cases qo:Hh a b with
 |zero=>omega
 |succ k=>rfl
def Vi {m:Mv} (h:m.ok=true):m.t<=7:=by
 have:=(Ry.1 h).1;omega
def Jy (a:Int) (i:Nat):(Hf a i).q<=3:=by
 unfold Hf;dsimp only;omega
def Ax2 {l:List Nat} (hn:l.Nodup) (hl:n<=l.length) (hb:∀x∈l,x<n) (hi:i<n):i∈l:=by
 apply Ex;intro h
 have h2:(i::l).length<=(Ds n).length:=List.Nodup.length_le_of_subset (Ei.2 ⟨h,hn⟩) λx hx=>by
  rcases Bk.1 hx with rfl|hx
  ·exact Eb.2 hi
  ·exact Eb.2 (hb x hx)
 simp at h2;omega
def aX (h:c.ok=true) (he:e<=2) (h2:(Kt c e).ok=true):Sf c e=(Kt c e,0):=by
 unfold Sf nbr;unfold Cl.ok at h h2;unfold Kt at h2⊢;dsimp only at h2;have hb:=fS c.q e;rw[Int.toNat_of_nonneg hb.2.2.2.2.1]at h2;rw[Ha (by rw[h];simp;omega)];simp only[Ev];rw[Hc h2]
def paE (a i:Nat):Nat×Nat:=
 if i%4=1 then (i-1,1)else if i%4=2 then (i-1,2)
 else if i/4/a=0/\i/4≠0 then (if i%4=3 then (4*(i/4-1)+1,0)else (i+3,2))
 else if i%4=3 then (i-3,2)else (4*(i/4-a)+2,0)
def deE (a i:Nat):Nat:=3*(i/4%a)+3*(i/4/a)+(if i%4=3 then 1 else i%4)-(if i%4=3/\i/4/a=0/\i/4≠0 then 2 else 0)
def Ab5 (a b i:Nat):Prop:=(paE a i).1<4*a*b/\(paE a i).2<=2/\nbI (a:Int) (b:Int) ((paE a i).1:Int) ((paE a i).2:Int)=((i:Int),0)/\deE a (paE a i).1<deE a i
instance (a b i:Nat):Decidable (Ab5 a b i):=by unfold Ab5;infer_instance
def Ab1 (a b i e:Nat):Prop:=
 (nbI (a:Int) (b:Int) (i:Int) (e:Int)).1.toNat<4*a*b/\0<=(nbI (a:Int) (b:Int) (i:Int) (e:Int)).1/\
 Hf (a:Int) (nbI (a:Int) (b:Int) (i:Int) (e:Int)).1.toNat=Kt (Hf (a:Int) i) e/\
 zK (a:Int) (b:Int) (Ij (a:Int) (b:Int) (i:Int) (e:Int)).1 (Ij (a:Int) (b:Int) (i:Int) (e:Int)).2.1=(Jp (Hf (a:Int) i) e,0)/\
 okL (Jp (Hf (a:Int) i) e).1 (Jp (Hf (a:Int) i) e).2=true/\
 nbI (a:Int) (b:Int) (nbI (a:Int) (b:Int) (i:Int) (e:Int)).1 (e:Int)=((i:Int),0)/\(nbI (a:Int) (b:Int) (i:Int) (e:Int)).1≠(i:Int)
instance (a b i e:Nat):Decidable (Ab1 a b i e):=by unfold Ab1;infer_instance
structure Nx (a b:Nat):Prop where
 ok:okS (a:Int) (b:Int)=true
 tree:∀i,i<4*a*b->i≠0->Ab5 a b i
 step:∀i e:Nat,i<4*a*b->e<=2->(nbI (a:Int) (b:Int) (i:Int) (e:Int)).2=0->Ab1 a b i e
def xC:(([1,2,4,8]:List Nat).all λa=>([1,2,4]:List Nat).all λb=>(Ds (4*a*b)).all λi=>decide (i≠0->Ab5 a b i)&&(Ds 3).all λe=>decide ((nbI (a:Int) (b:Int) (i:Int) (e:Int)).2=0->Ab1 a b i e))=true:=by decide+kernel
def gH {a b:Nat} (ha:a∈([1,2,4,8]:List Nat)) (hb:b∈([1,2,4]:List Nat)):Nx a b:=by
 have h:=Ed.1 (Ed.1 xC a ha) b hb;have at':∀i,i<4*a*b->_:=λi hi=>(Em _ _▸Ed.1 h i (Eb.2 hi):_/\_);refine⟨?_,λi hi h0=>?_,λi e hi he h0=>?_⟩
 ·have key:(([1,2,4,8]:List Nat).all λa=>([1,2,4]:List Nat).all λb=>okS (a:Int) (b:Int))=true:=He;exact Ed.1 (Ed.1 key a ha) b hb
 ·exact Sh (at' i hi).1 h0
 ·exact Sh (Ed.1 (at' i hi).2 e (Eb.2 Gv)) h0
def Ji (a b:Nat):Hh (a:Int) (b:Int)=4*a*b:=by
 unfold Hh;have:(4*(a:Int)*(b:Int))=((4*a*b:Nat):Int):=Gy;rw[this];rfl
def Nx.conn {a b:Nat} (S:Nx a b) (D:Nat->Prop) (h0:D 0) (hs:∀i,i<4*a*b->D i->∀e:Nat,e<=2->(nbI (a:Int) (b:Int) (i:Int) (e:Int)).2=0->D (nbI (a:Int) (b:Int) (i:Int) (e:Int)).1.toNat):∀i,i<4*a*b->D i:=by
 have:∀d i,deE a i<=d->i<4*a*b->D i:=by
  intro d
  induction d with
  |zero=>
   intro i hd hi;by_cases hz:i=0
   ·rw[hz];exact h0
   ·have:=(S.tree i hi hz).2.2.2;omega
  |succ d ih=>
   intro i hd hi;by_cases hz:i=0
   ·rw[hz];exact h0
   ·obtain⟨t1,t2,t3,t4⟩:=S.tree i hi hz;have:=hs _ t1 (ih _ Gv t1) _ t2 (by rw[t3]);rw[t3]at this;simpa using this
 exact λi hi=>this _ i (Am _) hi
def RV (a b:Int) (m':List Mv) (s:RS):Prop:=s.out.length=Hh a b/\s.known.length=Hh a b/\(∀j,s.known.getD j false=true->s.out.getD j mv0=m'.getD j mv0)/\∀j∈s.wait,j<Hh a b/\s.known.getD j false=true
def bI {a b:Nat} (S:Nx a b) {l:List Cr} (hrel:∀i,i<4*a*b->∀e:Nat,e<=2->(nbI (a:Int) (b:Int) (i:Int) (e:Int)).2=0->m'.getD (nbI (a:Int) (b:Int) (i:Int) (e:Int)).1.toNat mv0=Kf a b l m' i e)
  {s:RS} {id e:Nat} (hs:RV a b m' s) (hid:id<4*a*b) (hk:s.known.getD id false=true) (he:e<=2):∃s',Ow a b l id e s=Af s'/\RV a b m' s'/\∀j,s.known.getD j false=true->s'.known.getD j false=true:=by
 obtain⟨r1,r2,r3,r4⟩:=hs;unfold Ow
 split
 ·exact⟨s,rfl,⟨r1,r2,r3,r4⟩,λ_ h=>h⟩
 ·rename_i h0;have h0:(nbI (a:Int) (b:Int) (id:Int) (e:Int)).2=0:=El.1 h0;have hn:=(S.step id e hid he h0).1;have hm:=hrel id hid e he h0;rw[Vv (o:=s.out) (a:=(a:Int)) (b:=(b:Int)) (l:=l) e (r3 id hk).symm]at hm;rw[<-Ji]at hn;obtain⟨n,FJ⟩:=ey ((nbI (a:Int) (b:Int) (id:Int) (e:Int)).1.toNat);rw[FJ]at hn hm⊢;dsimp only
  cases ut:s.known.getD n false with
  |true=>
   rw[Hc rfl,Hc (by rw[r3 n ut,hm])];exact⟨s,rfl,⟨r1,r2,r3,r4⟩,λ_ h=>h⟩
  |false=>
   rw[Ha (show¬(false=true)by decide)];rw[Hc (Ly _ _ _ _ Gv)];refine⟨_,rfl,⟨by simp[r1],by simp[r2],λj hj=>?_,λj hj=>?_⟩,λj hj=>?_⟩
   ·dsimp only at hj⊢;by_cases QT:j=n
    ·subst QT;rw[Ly _ _ _ _ Gv,hm]
    ·rw[Nz _ _ _ _ _ QT]at hj⊢;exact r3 j hj
   ·dsimp only at hj⊢;rcases Bl.1 hj with hj|hj
    ·refine⟨(r4 j hj).1,?_⟩;by_cases QT:j=n
     ·subst QT;exact Ly _ _ _ _ Gv
     ·rw[Nz _ _ _ _ _ QT];exact(r4 j hj).2
    ·have:j=n:=by simpa using hj
     subst this;exact⟨hn,Ly _ _ _ _ Gv⟩
   ·dsimp only;by_cases QT:j=n
    ·subst QT;exact Ly _ _ _ _ Gv
    ·rw[Nz _ _ _ _ _ QT];exact hj
def gD {a b:Nat} (S:Nx a b) {l:List Cr} (hrel:∀i,i<4*a*b->∀e:Nat,e<=2->(nbI (a:Int) (b:Int) (i:Int) (e:Int)).2=0->m'.getD (nbI (a:Int) (b:Int) (i:Int) (e:Int)).1.toNat mv0=Kf a b l m' i e):
  ∀(f:Nat) (s:RS),RV a b m' s->∃m,Sa a b l f s=Af m
 |0,s,_=>⟨s.out,rfl⟩
 |f+1,s,hs=>by
  unfold Sa
  cases hw:s.wait with
  |nil=>exact⟨s.out,rfl⟩
  |cons id r=>
   dsimp only;obtain⟨r1,r2,r3,r4⟩:=hs;have hid:=r4 id (by rw[hw];simp);rw[Ji]at hid;have h0:RV a b m' ⟨s.out,s.known,r⟩:=⟨r1,r2,r3,λj hj=>r4 j (by rw[hw];exact Ey _ hj)⟩;obtain⟨s1,e1,v1,k1⟩:=bI S hrel (e:=0) h0 hid.1 hid.2 Gv;obtain⟨s2,e2,v2,k2⟩:=bI S hrel (e:=1) v1 hid.1 (k1 _ hid.2) Gv;obtain⟨s3,e3,v3,-⟩:=bI S hrel (e:=2) v2 hid.1 (k2 _ (k1 _ hid.2)) Gv;unfold Qn;rw[e1,Option.bind_some,e2,Option.bind_some,e3,Option.bind_some];exact gD S hrel f s3 v3
def wI {a b:Nat} (S:Nx a b) {l:List Cr} (hl:m'.length=4*a*b) (h0:m'.getD 0 mv0=mv0) (hrel:∀i,i<4*a*b->∀e:Nat,e<=2->(nbI (a:Int) (b:Int) (i:Int) (e:Int)).2=0->m'.getD (nbI (a:Int) (b:Int) (i:Int) (e:Int)).1.toNat mv0=Kf a b l m' i e):
  Uh a b l=Af m':=by
 have hc:1<=Hh (a:Int) (b:Int):=by
  have:=Mg S.ok;unfold Hh;rw[show 4*(a:Int)*b=4*((a:Int)*b)from Cw ..];omega
 have hv:RV a b m' ⟨Ba (Hh (a:Int) (b:Int)) mv0,true::Ba (Hh (a:Int) (b:Int)-1) false,[0]⟩:=by
  refine⟨Gy,Hv,λj hj=>?_,λj hj=>?_⟩
  ·cases j with
   |zero=>
    rw[h0]
    cases gv:Hh (a:Int) (b:Int)with
    |zero=>omega
    |succ k=>rfl
   |succ j=>
    dsimp only at hj;simp[List.getD,List.getElem?_replicate]at hj
    split at hj<;>simp at hj
  ·have:j=0:=by simpa using hj
   subst this;exact⟨Gv,rfl⟩
 obtain⟨m,hm⟩:=gD S hrel (Hh (a:Int) (b:Int)+1) _ hv;have hm:Uh (a:Int) (b:Int) l=Af m:=hm;obtain⟨g0,D,hD0,hD⟩:=Bo7 S.ok hm
 have fj:∀i,i<4*a*b->i∈D/\m.getD i mv0=m'.getD i mv0:=S.conn (λi=>i∈D/\m.getD i mv0=m'.getD i mv0) ⟨hD0,by rw[g0,h0]⟩ λi hi hd e he h=>by
  obtain⟨d1,d2⟩:=hD i hd.1 e he h;refine⟨d1,?_⟩;rw[d2,hrel i hi e he h,Vv (a:=(a:Int)) (b:=(b:Int)) (l:=l) e hd.2]
 rw[hm]
 congr 1
 have jc:=(gC hm).1;rw[Ji]at jc;apply Gk Gv;intro i h1 h2;have:=(fj i Gv).2;simpa[List.getD,h1,h2]using this
def Bq1 (a b:Mv) (ha:a.t<=7) (hb:b.t<=7):mat (thn a b).t=Iq (mat a.t) (mat b.t):=by
 have key:∀t,t<8->∀u,u<8->mat (Lb (Iq (mat t) (mat u)))=Iq (mat t) (mat u):=by decide+kernel
 exact key a.t Gv b.t Gv
def bP (a b c:Mv) (ha:a.t<=7) (hb:b.t<=7) (hc:c.t<=7):thn (thn a b) c=thn a (thn b c):=by
 have key:∀t,t<8->∀u,u<8->∀v,v<8->Lb (Iq (mat (Lb (Iq (mat t) (mat u)))) (mat v))=Lb (Iq (mat t) (mat (Lb (Iq (mat u) (mat v))))):=by decide+kernel
 have h1:=key a.t Gv b.t Gv c.t Gv;have h2:=Bq1 b c hb hc
 have h3:∀x y:Int,(Ii (mat c.t) ((Ii (mat b.t) x y).1+b.x) ((Ii (mat b.t) x y).2+b.y)).1+c.x=(Ii (Iq (mat b.t) (mat c.t)) x y).1+((Ii (mat c.t) b.x b.y).1+c.x)/\(Ii (mat c.t) ((Ii (mat b.t) x y).1+b.x) ((Ii (mat b.t) x y).2+b.y)).2+c.y=(Ii (Iq (mat b.t) (mat c.t)) x y).2+((Ii (mat c.t) b.x b.y).2+c.y):=by
  intro x y;obtain⟨t,b1,b2⟩:=b;obtain⟨u,c1,c2⟩:=c;dsimp only at hb hc;rcases iC hb with rfl|rfl|rfl|rfl|rfl|rfl|rfl|rfl<;>rcases iC hc with rfl|rfl|rfl|rfl|rfl|rfl|rfl|rfl<;>
  simp[Ii,mat,Iq]<;>omega
 have h4:=h3 a.x a.y;rw[<-h2]at h4;unfold thn at h1 h4⊢;dsimp only at h1 h4⊢;rw[h1,h4.1,h4.2]
def Bd6 (m:Mv) (h:m.t<=7):thn m mv0=m:=by
 obtain⟨t,x,y⟩:=m;dsimp only at h;rcases iC h with rfl|rfl|rfl|rfl|rfl|rfl|rfl|rfl<;>simp[thn,mv0,Ii,mat,Iq,Lb]
def Xf (k c:Int):(ofL k c).t<=7:=by
 unfold ofL
 repeat' split
 all_goals (dsimp only;omega)
def Ws (k c x y:Int):Oy k c x y=1↔2*c<Mp k x y:=by
 unfold Oy
 split
 ·omega
 ·split<;>omega
def Bx5 {A B:Prop} [Decidable A] [Decidable B]:((if A then 1 else 0:Nat)≠(if B then 1 else 0))↔¬(A↔B):=by
 split<;>split<;>simp[*]
def Bk7 {A B:Prop} [Decidable A] [Decidable B]:((if A then 1 else 0:Nat)=1-(if B then 1 else 0))↔(A↔¬B):=by
 split<;>split<;>simp[*]
def Bn8 {k c:Int} (hk:1<=k/\k<=4):thn (ofL k c) (ofL k c)=mv0:=by
 have h:k=1∨k=2∨k=3∨k=4:=Gv;rcases h with rfl|rfl|rfl|rfl<;>simp[thn,ofL,mv0,Ii,mat,Iq,Lb]<;>omega
def Ad7 (m:Mv) (ht:m.t<=7) (c:Cl) (hq:c.q<=3) (e:Nat) (he:e<=2):∃e',e'<=2/\Ht m (Kt c e)=Kt (Ht m c) e'/\thn (ofL (Jp c e).1 (Jp c e).2) m=thn m (ofL (Jp (Ht m c) e').1 (Jp (Ht m c) e').2):=by
 obtain⟨t,a,b⟩:=m;obtain⟨x,y,q⟩:=c;dsimp only at ht hq;rcases iC ht with rfl|rfl|rfl|rfl|rfl|rfl|rfl|rfl<;>rcases dC hq with rfl|rfl|rfl|rfl<;>rcases mB he with rfl|rfl|rfl<;>
 first
  |(refine⟨0,He,?_,?_⟩<;>
    simp[Ht,Kt,Iy,Ii,mat,Iu,Mb,nxt,thn,ofL,Jp,Iq,Lb]<;>
    omega)
  |(refine⟨1,He,?_,?_⟩<;>
    simp[Ht,Kt,Iy,Ii,mat,Iu,Mb,nxt,thn,ofL,Jp,Iq,Lb]<;>
    omega)
  |(refine⟨2,He,?_,?_⟩<;>
    simp[Ht,Kt,Iy,Ii,mat,Iu,Mb,nxt,thn,ofL,Jp,Iq,Lb]<;>
    omega)
def aS {k c:Int} (hk:1<=k/\k<=4) (d:Cl) (hq:d.q<=3) (e:Nat) (he:e<=2) (h:Is k c d≠Is k c (Kt d e)):Jp d e=(k,c):=by
 obtain⟨x,y,q⟩:=d;dsimp only at hq;have hk:k=1∨k=2∨k=3∨k=4:=Gv;rcases hk with rfl|rfl|rfl|rfl<;>rcases dC hq with rfl|rfl|rfl|rfl<;>rcases mB he with rfl|rfl|rfl<;>
 (simp only[Is,Ws,Bx5]at h
  simp[Mp,Kt,nxt,Ue,Uf]at h;simp[Jp];omega)
def Zq (k c:Int) (d:Cl):Is k c d=0∨Is k c d=1:=by
 unfold Is
 split
 ·exact .inr rfl
 ·exact .inl rfl
def bF {k c:Int} (hk:1<=k/\k<=4) (d:Cl) (hq:d.q<=3):Ht (ofL k c) (Ht (ofL k c) d)=d/\Is k c (Ht (ofL k c) d)=1-Is k c d:=by
 obtain⟨x,y,q⟩:=d;dsimp only at hq;have hk:k=1∨k=2∨k=3∨k=4:=Gv;rcases hk with rfl|rfl|rfl|rfl<;>rcases dC hq with rfl|rfl|rfl|rfl<;>
 (refine⟨?_,?_⟩
  ·simp[Ht,Iy,Ii,mat,Iu,Mb,ofL]<;>omega
  ·simp only[Is,Ws,Bk7];simp[Ht,Iy,Ii,mat,Iu,Mb,ofL,Ue,Uf,Mp];omega)
def Bp6 (d:Cl) (hq:d.q<=3) (e:Nat) (he:e<=2):Kt d e≠d:=by
 obtain⟨x,y,q⟩:=d;dsimp only at hq;rcases dC hq with rfl|rfl|rfl|rfl<;>rcases mB he with rfl|rfl|rfl<;>simp[Kt,nxt]
def qF {m:Mv} (ht:m.t<=7) {n:Int} (hc: -n<=c.x/\c.x<=n/\-n<=c.y/\c.y<=n) (hd: -n<=(Ht m c).x/\(Ht m c).x<=n/\-n<=(Ht m c).y/\(Ht m c).y<=n): -(2*n+2)<=m.x/\m.x<=2*n+2/\-(2*n+2)<=m.y/\m.y<=2*n+2:=by
 obtain⟨t,a,b⟩:=m;obtain⟨x,y,q⟩:=c;dsimp only at ht hc;rcases iC ht with rfl|rfl|rfl|rfl|rfl|rfl|rfl|rfl<;>simp[Ht,Iy,Ii,mat]at hd<;>dsimp only<;>omega
def Rl (d:Cl):Prop:= -256<=d.x/\d.x<=256/\-256<=d.y/\d.y<=256
structure Tt (a b:Nat) (cr:List Cr) (m:List Mv):Prop where
 len:m.length=4*a*b
 zero:m.getD 0 mv0=mv0
 ok:∀i,i<4*a*b->(m.getD i mv0).ok=true
 near:∀i,i<4*a*b->Rl (Ht (m.getD i mv0) (Hf (a:Int) i))
 rel:∀i e:Nat,i<4*a*b->e<=2->(nbI (a:Int) (b:Int) (i:Int) (e:Int)).2=0->m.getD (nbI (a:Int) (b:Int) (i:Int) (e:Int)).1.toNat mv0=
  if Nk cr (Ij (a:Int) (b:Int) (i:Int) (e:Int)).1 (Ij (a:Int) (b:Int) (i:Int) (e:Int)).2.1 then thn (ofL (Jp (Hf (a:Int) i) e).1 (Jp (Hf (a:Int) i) e).2) (m.getD i mv0)else m.getD i mv0
def Wg {m:Mv}:m.ok=true↔m.t<=7/\(-16384<=m.x/\m.x<=16384)/\(-16384<=m.y/\m.y<=16384)/\(m.x+m.y)%2=0:=by
 unfold Mv.ok;rw[Ry]
 constructor<;>(rintro⟨h1,h2⟩;exact⟨Gv,h2⟩)
def Bd7 {k c:Int} (hk:okL k c=true) {m:Mv} (hm:m.ok=true) (hs: -1000<=m.x/\m.x<=1000/\-1000<=m.y/\m.y<=1000):(thn (ofL k c) m).ok=true/\(thn m (ofL k c)).ok=true:=by
 obtain⟨h1,h2,h3,h4⟩:=Mu.1 hk;rw[Wg]at hm;rw[Wg,Wg];obtain⟨t,x,y⟩:=m;dsimp only at hm hs;have hk:k=1∨k=2∨k=3∨k=4:=Gv;refine⟨⟨Bs8 _ _,?_⟩,⟨Bs8 _ _,?_⟩⟩<;>
 (rcases hk with rfl|rfl|rfl|rfl<;>rcases iC hm.1 with rfl|rfl|rfl|rfl|rfl|rfl|rfl|rfl<;>simp[thn,ofL,Ii,mat]<;>omega)
def Pc {a b:Int} (hs:okS a b=true) (hi:i<Hh a b):Rl (Hf a i):=by
 obtain⟨h1,h2,h3,h4,-⟩:=nR hs hi;exact⟨Gv,Gv,Gv,Gv⟩
def kC {x y:Mv} (hx:x.ok=true) (hy:y.ok=true) (h:(thn x y).ok=true):Lc x y=(thn x y,0):=by
 unfold Lc;rw[hx,hy,Bool.and_self,Hc rfl];show gY (thn x y)=_;unfold gY;rw[Hc h]
def Bn9 {k c:Int} (hk:okL k c=true):(ofL k c).ok=true:=by
 obtain⟨h1,h2,h3,h4⟩:=Mu.1 hk;rw[Wg];refine⟨Xf k c,?_⟩;have hk:k=1∨k=2∨k=3∨k=4:=Gv;rcases hk with rfl|rfl|rfl|rfl<;>simp[ofL]<;>omega
def Ac0 {a b:Nat} (S:Nx a b) {l:List Cr} (hi:i<4*a*b) (he:e<=2) (h0:(nbI (a:Int) (b:Int) (i:Int) (e:Int)).2=0) (hm:(m.getD i mv0).ok=true) (hn:Rl (Ht (m.getD i mv0) (Hf (a:Int) i))):
  Kf a b l m i e=if Nk l (Ij (a:Int) (b:Int) (i:Int) (e:Int)).1 (Ij (a:Int) (b:Int) (i:Int) (e:Int)).2.1 then thn (ofL (Jp (Hf (a:Int) i) e).1 (Jp (Hf (a:Int) i) e).2) (m.getD i mv0)else m.getD i mv0:=by
 obtain⟨-,-,-,h2,h3,-⟩:=S.step i e hi he h0;have hc:=Pc S.ok (i:=i) (by rw[Ji];exact hi);have hs:=qF (Vi hm) hc hn;unfold Kf
 split
 ·rw[h2];unfold Ur;dsimp only;rw[Hc h3];dsimp only;rw[kC (Bn9 h3) hm (Bd7 h3 hm Gv).1]
 ·rfl
def Pt (h:Rl d) (hq:d.q<=3):d.ok=true:=by
 unfold Rl at h;unfold Cl.ok;rw[Jq];omega
def fV {a b:Nat} (S:Nx a b) {l:List Cr} (P:Tt a b l m):Ie a b l mv0=((m,(Ds (4*a*b)).map λi=>Ht (m.getD i mv0) (Hf (a:Int) i)),0):=by
 have hr:Uh a b l=Af m:=wI S P.len P.zero λi hi e he h0=>by
  rw[P.rel i e hi he h0,Ac0 S hi he h0 (P.ok i hi) (P.near i hi)]
 have t0:∀x:Mv,x.ok=true->Lc x mv0=(x,0):=λx hx=>by
  have e:=Bd6 x (Vi hx);rw[kC hx He (by rw[e];exact hx),e]
 have mg:∀i,i<4*a*b->Pr (m.getD i mv0) (Hf (a:Int) i)=(Ht (m.getD i mv0) (Hf (a:Int) i),0):=λi hi=>by
  have hc:(Hf (a:Int) i).ok=true:=Pt (Pc S.ok (by rw[Ji];exact hi)) (Jy _ _);unfold Pr;rw[P.ok i hi,hc,Bool.and_self,Hc rfl];unfold Lj;rw[Hc (Pt (P.near i hi) (Iv _ _))]
 have fj:∀x∈m,x.ok=true:=λx hx=>by
  obtain⟨i,hi,rfl⟩:=Be.1 hx;have:=P.ok i (oHx P.len);simpa[List.getD,hi]using this
 unfold Ie;rw[Ha He,hr];dsimp only
 have hf:(Ds m.length).find? (λi=>decide (Lp (a:Int) mv0 m i≠0))=Ae:=by
  rw[List.find?_eq_none];intro i hi;have hi:i<4*a*b:=by have:=Eb.1 hi;have:=P.len;omega
  unfold Lp;rw[t0 _ (P.ok i hi)];dsimp only;rw[mg i hi];simp
 rw[hf];dsimp only
 congr 2
 ·conv=>rhs;rw[<-List.map_id m]
  exact List.map_congr_left λx hx=>by rw[t0 x (fj x hx)];rfl
 ·rw[P.len];refine List.map_congr_left λi hi=>?_;have hi:=Eb.1 hi;rw[t0 _ (P.ok i hi),mg i hi]
def imP (a:Nat) (m:List Mv) (i:Nat):Cl:=Ht (m.getD i mv0) (Hf (a:Int) i)
def sdF (k c:Int) (side:Nat) (d:Cl):Bool:=decide (Is k c d=side)
def plF (a b:Nat) (k c:Int) (side:Nat) (m:List Mv):List Mv:=(Ds (4*a*b)).map λi=>if sdF k c side (imP a m i)then thn (m.getD i mv0) (ofL k c)else m.getD i mv0
def Rn {a b:Nat} {k c:Int} (hi:i<4*a*b):(plF a b k c side m).getD i mv0=if sdF k c side (imP a m i)then thn (m.getD i mv0) (ofL k c)else m.getD i mv0:=by
 unfold plF;rw[Dt,Fs,List.getElem?_range hi];rfl
def Yw {a b:Nat} {k c:Int} (hi:i<4*a*b) (hm:(m.getD i mv0).ok=true):imP a (plF a b k c side m) i=if sdF k c side (imP a m i)then Ht (ofL k c) (imP a m i)else imP a m i:=by
 unfold imP;rw[Rn hi];unfold imP
 split
 ·exact aU _ _ (Vi hm) (Xf k c) _ (Jy _ _)
 ·rfl
section
variable {a b:Nat} {cr:List Cr} {m:List Mv}
def Yx (S:Nx a b) (P:Tt a b cr m) (hi:i<4*a*b) (he:e<=2) (h0:(nbI (a:Int) (b:Int) (i:Int) (e:Int)).2=0) (hc:Nk cr (Ij (a:Int) (b:Int) (i:Int) (e:Int)).1 (Ij (a:Int) (b:Int) (i:Int) (e:Int)).2.1=true):
  imP a m (nbI (a:Int) (b:Int) (i:Int) (e:Int)).1.toNat=imP a m i:=by
 obtain⟨-,-,h1,-,h3,-⟩:=S.step i e hi he h0;unfold imP;rw[P.rel i e hi he h0,Hc hc,h1,aU _ _ (Xf _ _) (Vi (P.ok i hi)) _ (by rw[<-h1];exact Jy _ _),(bG _ (Jy _ _) e he).1]
def Wc (S:Nx a b) (P:Tt a b cr m) (hi:i<4*a*b) (he:e<=2) (h0:(nbI (a:Int) (b:Int) (i:Int) (e:Int)).2=0) (hc:Nk cr (Ij (a:Int) (b:Int) (i:Int) (e:Int)).1 (Ij (a:Int) (b:Int) (i:Int) (e:Int)).2.1=false):
  imP a m (nbI (a:Int) (b:Int) (i:Int) (e:Int)).1.toNat=Ht (m.getD i mv0) (Kt (Hf (a:Int) i) e):=by
 obtain⟨-,-,h1,-⟩:=S.step i e hi he h0;unfold imP;rw[P.rel i e hi he h0,Ha (by rw[hc];decide),h1]
def Cf6 {k c:Int} {p q:Cl} (h:sdF k c side p≠sdF k c side q):Is k c p≠Is k c q:=λe=>h (by unfold sdF;rw[e])
def wC (S:Nx a b) (P:Tt a b cr m) {cr':List Cr} {k c:Int} (hl:okL k c=true) (h00:sdF k c side (imP a m 0)=false)
  (qr:∀i e:Nat,i<4*a*b->e<=2->(nbI (a:Int) (b:Int) (i:Int) (e:Int)).2=0->Nk cr' (Ij (a:Int) (b:Int) (i:Int) (e:Int)).1 (Ij (a:Int) (b:Int) (i:Int) (e:Int)).2.1=
   (Nk cr (Ij (a:Int) (b:Int) (i:Int) (e:Int)).1 (Ij (a:Int) (b:Int) (i:Int) (e:Int)).2.1||(sdF k c side (imP a m i) != sdF k c side (imP a m (nbI (a:Int) (b:Int) (i:Int) (e:Int)).1.toNat))))
  (hn:∀i,i<4*a*b->Rl (if sdF k c side (imP a m i)then Ht (ofL k c) (imP a m i)else imP a m i)):Tt a b cr' (plF a b k c side m):=by
 have hk:=Mu.1 hl;have hk14:1<=k/\k<=4:=⟨hk.1,hk.2.1⟩
 have xx:0<4*a*b:=by
  have:=Mg S.ok
  have h1:1<=Hh (a:Int) (b:Int):=by
   unfold Hh;rw[show 4*(a:Int)*b=4*((a:Int)*b)from Cw ..];omega
  rw[Ji]at h1;omega
 refine⟨by unfold plF;simp,?_,λi hi=>?_,λi hi=>?_,λi e hi he h0=>?_⟩
 ·rw[Rn xx,Ha (by rw[h00];decide),P.zero]
 ·rw[Rn hi]
  split
  ·have hs:=qF (Vi (P.ok i hi)) (Pc S.ok (i:=i) (by rw[Ji];exact hi)) (P.near i hi);exact(Bd7 hl (P.ok i hi) Gv).2
  ·exact P.ok i hi
 ·have:=Yw (a:=a) (b:=b) (k:=k) (c:=c) (side:=side) hi (P.ok i hi);unfold imP at this;unfold imP at hn;rw[this];exact hn i hi
 ·obtain⟨g0,-,g1,-,g3,-⟩:=S.step i e hi he h0;have hR:=P.rel i e hi he h0;have hC:=qr i e hi he h0;have ti:=Vi (P.ok i hi);rw[Rn g0,Rn hi,hC]
  cases gv:Nk cr (Ij (a:Int) (b:Int) (i:Int) (e:Int)).1 (Ij (a:Int) (b:Int) (i:Int) (e:Int)).2.1 with
  |true=>
   rw[gv,Hc rfl]at hR;rw[Yx S P hi he h0 gv,hR,Bool.true_or,Hc rfl]
   split
   ·exact bP _ _ _ (Xf _ _) ti (Xf _ _)
   ·rfl
  |false=>
   rw[gv,Ha He]at hR;rw[hR,Bool.false_or];by_cases hs:sdF k c side (imP a m i)=sdF k c side (imP a m (nbI (a:Int) (b:Int) (i:Int) (e:Int)).1.toNat)
   ·rw[<-hs];simp
   ·have fp:=Wc S P hi he h0 gv;obtain⟨e',JR,s1,s2⟩:=Ad7 (m.getD i mv0) ti (Hf (a:Int) i) (Jy _ _) e he;have hd:=Cf6 hs;rw[fp,s1]at hd;have nm:=aS hk14 _ (Iv _ _) e' JR hd;rw[nm]at s2
    cases h1:sdF k c side (imP a m i)with
    |false=>
     have h2:sdF k c side (imP a m (nbI (a:Int) (b:Int) (i:Int) (e:Int)).1.toNat)=true:=by
      rw[h1]at hs
      cases h:sdF k c side (imP a m (nbI (a:Int) (b:Int) (i:Int) (e:Int)).1.toNat)
      ·rw[h]at hs;exact absurd rfl hs
      ·rfl
     rw[h2];exact s2.symm
    |true=>
     have h2:sdF k c side (imP a m (nbI (a:Int) (b:Int) (i:Int) (e:Int)).1.toNat)=false:=by
      rw[h1]at hs
      cases h:sdF k c side (imP a m (nbI (a:Int) (b:Int) (i:Int) (e:Int)).1.toNat)
      ·rfl
      ·rw[h]at hs;exact absurd rfl hs
     rw[h2];show m.getD i mv0=thn (ofL (Jp (Hf (a:Int) i) e).1 (Jp (Hf (a:Int) i) e).2) (thn (m.getD i mv0) (ofL k c));rw[<-bP _ _ _ (Xf _ _) ti (Xf _ _),s2,bP _ _ _ ti (Xf _ _) (Xf _ _),Bn8 hk14,Bd6 _ ti]
end
structure GSt (a b:Nat) (s:St) (m:List Mv):Prop where
 sa:s.a=(a:Int)
 sb:s.b=(b:Int)
 S:Nx a b
 pat:Lo s.a s.b s.cr
 root:s.root=mv0
 pl:Tt a b s.cr m
def Za {l:List Cr} (hk:∀r∈l,isK r.k=true) (c e:Int):Nk l c e=decide (Ho l c e≠0):=by
 unfold Nk Ho
 cases hf:l.find? λr=>decide (r.c=c)&&decide (r.e=e)with
 |none=>
  rw[List.find?_eq_none]at hf
  have:(l.any λr=>decide (r.c=c)&&decide (r.e=e))=false:=by
   rw[Du];exact hf
  rw[this];rfl
 |some r=>
  have h1:=List.mem_of_find?_eq_some hf;have h2:=List.find?_some hf;have h3:=hk r h1;have:(l.any λr=>decide (r.c=c)&&decide (r.e=e))=true:=Ew.2 ⟨r,h1,h2⟩;rw[this];unfold isK at h3;simp at h3;dsimp only
  symm
  rw[Li];omega
section
variable {a b:Nat} {s:St} {m:List Mv}
def GSt.both (G:GSt a b s m):Ie s.a s.b s.cr s.root=((m,(Ds (4*a*b)).map λi=>imP a m i),0):=by
 rw[G.sa,G.sb,G.root,fV G.S G.pl];rfl
def GSt.cnt (G:GSt a b s m):Hh s.a s.b=4*a*b:=by rw[G.sa,G.sb,Ji]
def GSt.img (G:GSt a b s m) (hi:i<4*a*b):s.img i=imP a m i:=by
 unfold St.img;rw[G.both];dsimp only;rw[Dt,Fs,List.getElem?_range hi];rfl
def St.lk (s:St):Lk:=fI s.a s.b s.cr s.root s.l
def GSt.kimg (G:GSt a b s m) (hi:i<4*a*b):s.lk.img i=imP a m i:=G.img hi
def GSt.reg (G:GSt a b s m) (h:s.lk.reg u):u.1<4*a*b/\u.2<=2/\(nbI (a:Int) (b:Int) (u.1:Int) (u.2:Int)).2=0/\s.lk.nb u<4*a*b/\s.lk.nb u=(nbI (a:Int) (b:Int) (u.1:Int) (u.2:Int)).1.toNat/\Ij (a:Int) (b:Int) (u.1:Int) (u.2:Int)=((u.1:Int),(u.2:Int),0)/\u.1<s.lk.nb u:=by
 obtain⟨h1,h2,h3,h4⟩:=h;have ea:s.lk.a=(a:Int):=G.sa;have eb:s.lk.b=(b:Int):=G.sb;rw[ea,eb]at h2 h3 h4;rw[Ji]at h2
 have hn:s.lk.nb u=(nbI (a:Int) (b:Int) (u.1:Int) (u.2:Int)).1.toNat:=by
  unfold Lk.nb;rw[ea,eb]
 obtain⟨g0,g00,-,-,-,-,g5⟩:=G.S.step u.1 u.2 h2 Gv h3;refine⟨h2,Gv,h3,by rw[hn];exact g0,hn,?_,by rw[hn];omega⟩;unfold Ij;rw[Hc h3,Int.min_eq_left Gv]
def GSt.kind (G:GSt a b s m) (h:s.lk.reg u):Nk s.cr (Ij (a:Int) (b:Int) (u.1:Int) (u.2:Int)).1 (Ij (a:Int) (b:Int) (u.1:Int) (u.2:Int)).2.1=decide (Ho s.lk.cr u.1 u.2≠0):=by
 rw[(G.reg h).2.2.2.2.2.1];exact Za G.pat.kind _ _
def Tg (h:Rl d) (hq:d.q<=3) (e:Nat):(Kt d e).ok=true:=by
 unfold Rl at h;have hb:=fS d.q e;unfold Cl.ok Kt;rw[Jq];dsimp only;omega
def GSt.other (G:GSt a b s m) (h:s.lk.reg u):s.lk.other u.1 u.2=Ht (m.getD u.1 mv0) (Kt (Hf (a:Int) u.1) u.2):=by
 obtain⟨h1,h2,-⟩:=G.reg h;have hc:=Pc G.S.ok (i:=u.1) (by rw[Ji];exact h1);have hq:=Jy (a:Int) u.1
 have eb:s.lk.ms=m:=by
  show(Ie s.a s.b s.cr s.root).1.1=m;rw[G.both]
 have ea:s.lk.a=(a:Int):=G.sa;unfold Lk.other;rw[eb,ea,aX (Pt hc hq) h2 (Tg hc hq u.2)];dsimp only;obtain⟨e',-,JR⟩:=Ud (m.getD u.1 mv0) (Vi (G.pl.ok u.1 h1)) (Hf (a:Int) u.1) hq u.2 h2
 have dw:(Ht (m.getD u.1 mv0) (Kt (Hf (a:Int) u.1) u.2)).ok=true:=by
  rw[JR];exact Tg (G.pl.near u.1 h1) (Iv _ _) e'
 unfold Pr;rw[G.pl.ok u.1 h1,Tg hc hq u.2,Bool.and_self,Hc rfl];unfold Lj;rw[Hc dw]
def GSt.p0 (G:GSt a b s m) (h:s.lk.reg u) (hk:Ho s.lk.cr u.1 u.2=0):s.lk.other u.1 u.2=s.lk.img (s.lk.nb u):=by
 obtain⟨h1,h2,h3,h4,h5,-⟩:=G.reg h;have hc:=G.kind h;rw[hk]at hc;rw[G.other h,G.kimg h4,h5,Wc G.S G.pl h1 h2 h3 hc]
def GSt.l0 (G:GSt a b s m) (h:s.lk.reg u) (hk:Ho s.lk.cr u.1 u.2≠0):s.lk.img (s.lk.nb u)=s.lk.img u.1:=by
 obtain⟨h1,h2,h3,h4,h5,-⟩:=G.reg h;have hc:=G.kind h;rw[Ld hk]at hc;rw[G.kimg h4,G.kimg h1,h5,Yx G.S G.pl h1 h2 h3 hc]
def GSt.hne (G:GSt a b s m) (h:s.lk.reg u):s.lk.img u.1≠s.lk.other u.1 u.2:=by
 obtain⟨h1,h2,h3,-⟩:=G.reg h;obtain⟨e',yd,JR⟩:=Ud (m.getD u.1 mv0) (Vi (G.pl.ok u.1 h1)) (Hf (a:Int) u.1) (Jy _ _) u.2 h2;rw[G.other h,G.kimg h1,JR];exact(Bp6 _ (Iv _ _) e' yd).symm
def Gs.lies (hg:Gs s) (hi:i<Hh s.a s.b):(s.l.map (·.c)).Nodup/\i∈atF s.l (s.img i):=by
 have ca:(s.l.map (·.c)).Nodup:=by
  obtain⟨h1,-,-⟩:=La hg.chkS;rw[List.Nodup,Fc];refine Fj.2 λi j hi hj FB=>?_
  have lt:∀d i,i+d+1<s.l.length->∀(n_:i<s.l.length) (h2':i+d+1<s.l.length),Ka s.l[i].c s.l[i+d+1].c<0:=by
   intro d
   induction d with
   |zero=>exact λi h _ _=>Zt h (h1 (i+1) h)
   |succ d ih=>
    intro i h n_ h2';have a1:=ih i Gv n_ Gv;have a2:Ka s.l[i+d+1].c s.l[i+d+1+1].c<0:=Zt (i:=i+d+1) h (h1 _ h);rw[Jl]at a1 a2⊢;have:s.l[i+(d+1)+1]=s.l[i+d+1+1]:=rfl;rw[this];omega
  obtain⟨d,rfl⟩:∃d,j=i+d+1:=⟨j-i-1,Gv⟩;have:=lt d i hj hi hj;intro e;rw[e,Jl]at this;omega
 refine⟨ca,?_⟩;obtain⟨-,h2,h3⟩:=La hg.chkS
 have hm:i∈Hn s.l:=Ax2 h2 h3 (λx hx=>by
  obtain⟨y,hy,el⟩:=Ec.1 hx;exact(hg.at y hy).2.2 x el) hi
 obtain⟨y,hy,hyi⟩:=Ec.1 hm;have h4:=hg.stk;unfold Ov at h4;rw[Ha (by rw[hg.both];decide),Ha (by rw[hg.chkS];decide)]at h4
 split at h4
 ·cases h4
 ·rename_i h5
  have:s.img i=y.c:=by
   apply Ex;intro h6;refine h5 (Ew.2 ⟨y,hy,Ew.2 ⟨i,hyi,?_⟩⟩);exact Ld h6
  rw[this,Md ca hy];exact hyi
end
def Fd.R (f:Fd) (c:Cl):Cl:=Ht (ofL f.k f.c) c
def Fd.sd (f:Fd) (c:Cl):Bool:=sdF f.k f.c f.side c
def St.mvd (s:St) (f:Fd):List Stk:=No ((Mj (Hx f.k f.c f.side s.l)).map λx=>⟨f.R x.c,x.ls⟩)
def Cd8 (h:∀x∈s.l,f.sd x.c=true->(f.R x.c).ok=true):s.mv f=Af (s.mvd f):=by
 have hm:∀x∈Mj (Hx f.k f.c f.side s.l),Lj (ofL f.k f.c) x.c=(f.R x.c,0):=λx hx=>by
  unfold Mj Hx at hx;obtain⟨y,hy,rfl⟩:=Dr.1 hx;obtain⟨h1,h2⟩:=Gd.1 hy;have:=h y h1 (by unfold Fd.sd sdF;exact h2);unfold Lj;unfold Fd.R at this;dsimp only;rw[Hc this];rfl
 unfold St.mv Rx St.mvd;rw[Hc (Ed.2 λx hx=>by rw[hm x hx];rfl)]
 congr 2
 exact List.map_congr_left λx hx=>by rw[hm x hx]
section
variable {s:St} {f:Fd}
def Fd.invol (hk:1<=f.k/\f.k<=4) (hq:c.q<=3):f.R (f.R c)=c:=(bF hk c hq).1
def Fd.flip (hk:1<=f.k/\f.k<=4) (hs:f.side<=1) (hq:c.q<=3):f.sd (f.R c)= !f.sd c:=by
 have h:=(bF (c:=f.c) hk c hq).2;unfold Fd.sd sdF Fd.R;rw[h];have h1:=Zq f.k f.c c;have h2:f.side=0∨f.side=1:=Gv;rcases h1 with h1|h1<;>rcases h2 with h2|h2<;>rw[h1,h2]<;>rfl
def Vp (hn:(s.l.map (·.c)).Nodup) (k c:Int) (sd:Nat):((Hx k c sd s.l).map (·.c)).Nodup:=by
 unfold Hx;exact hn.sublist (List.filter_sublist.map _)
def aW (hk:1<=f.k/\f.k<=4) (hq:∀x∈s.l,x.c.q<=3) (hn:(s.l.map (·.c)).Nodup):((s.mvd f).map (·.c)).Nodup:=by
 unfold St.mvd;rw[((Jd _).map _).nodup_iff,Ft];have h1:=Vp hn f.k f.c f.side;unfold Mj;rw[Ft,List.Nodup,Fc];rw[List.Nodup,Fc]at h1;refine h1.imp_of_mem λ{x y} hx hy h e=>h ?_;have hx:=(Gd.1 hx).1;have hy:=(Gd.1 hy).1;have e:f.R x.c=f.R y.c:=e;rw[<-Fd.invol hk (hq x hx),e,Fd.invol hk (hq y hy)]
def Aq0 (hk:1<=f.k/\f.k<=4) (hs:f.side<=1) (hq:∀x∈s.l,x.c.q<=3) (hn:(s.l.map (·.c)).Nodup) (hc:c.q<=3) (yk:f.sd c=false):
  atF (s.to f (s.mvd f)).l c=if f.over then atF s.l c++(atF s.l (f.R c)).reverse else (atF s.l (f.R c)).reverse++atF s.l c:=by
 have h1:Is f.k f.c c=1-f.side:=by
  unfold Fd.sd sdF at yk;have h2:=Zq f.k f.c c;have h3:¬Is f.k f.c c=f.side:=by simpa using yk
  omega
 have h2:Is f.k f.c (f.R c)=f.side:=by
  have:=(bF (c:=f.c) hk c hc).2;unfold Fd.R;rw[this,h1];omega
 have e1:atF (Hx f.k f.c (1-f.side) s.l) c=atF s.l c:=by rw[aF,Hc h1]
 have e2:atF (s.mvd f) c=(atF s.l (f.R c)).reverse:=by
  have h3:=aW (s:=s) (f:=f) hk hq hn;unfold St.mvd at h3⊢;rw[nG (Jd _) h3];have h4:c=f.R (f.R c):=(Fd.invol hk hc).symm
  have h5:atF ((Mj (Hx f.k f.c f.side s.l)).map λx=>⟨f.R x.c,x.ls⟩) (f.R (f.R c))=atF (Mj (Hx f.k f.c f.side s.l)) (f.R c):=yF λx hx e=>by
   unfold Mj Hx at hx;obtain⟨y,hy,rfl⟩:=Dr.1 hx;have hy:=(Gd.1 hy).1;rw[<-Fd.invol hk (hq y hy),e,<-h4]
  rw[<-h4]at h5;rw[h5,yG,aF,Hc h2]
 unfold St.to;dsimp only
 cases f.over with
 |true=>rw[Hc rfl,Hc rfl,aD (Vp hn _ _ _) (aW hk hq hn),e1,e2]
 |false=>rw[Ha He,Ha He,aD (aW hk hq hn) (Vp hn _ _ _),e1,e2]
def Wi {l:List Stk} (ca:(Hn l).Nodup) (hn:(l.map (·.c)).Nodup) (h1:i∈atF l c) (h2:i∈atF l d):c=d:=by
 induction l with
 |nil=>simp[Yj]at h1
 |cons x r ih=>
  unfold Hn at ca;rw[Bf,Bq]at ca;rw[Es,Ei]at hn;rw[Kz]at h1 h2
  have no:∀e,i∈x.ls->i∈atF r e->False:=λe h3 h4=>by
   by_cases he:e∈r.map (·.c)
   ·obtain⟨y,hy,rfl⟩:=Dr.1 he;rw[Md hn.2 hy]at h4;exact ca.2.2 i h3 i (Ec.2 ⟨y,hy,h4⟩) rfl
   ·rw[Ux he]at h4;simp at h4
  by_cases hc:x.c=c
  ·rw[Hc hc]at h1;by_cases hd:x.c=d
   ·exact hc.symm.trans hd
   ·rw[Ha hd]at h2;exact absurd h2 (λh=>no d h1 h)
  ·rw[Ha hc]at h1;by_cases hd:x.c=d
   ·rw[Hc hd]at h2;exact absurd h1 (λh=>no c h2 h)
   ·rw[Ha hd]at h2;exact ih ca.2.1 hn.2 h1 h2
def Vx {l:List Stk} (ca:(Hn l).Nodup) (hn:(l.map (·.c)).Nodup) (c:Cl):(atF l c).Nodup:=by
 by_cases h:c∈l.map (·.c)
 ·obtain⟨x,hx,rfl⟩:=Dr.1 h;rw[Md hn hx];unfold Hn at ca;obtain⟨l1,l2,rfl⟩:=List.append_of_mem hx;rw[Bi,Bf,Bq,Bq]at ca;exact ca.2.1.1
 ·rw[Ux h];exact List.nodup_nil
def Bj0 (hk:1<=f.k/\f.k<=4) (hs:f.side<=1) (hq:∀x∈s.l,x.c.q<=3) (hn:(s.l.map (·.c)).Nodup) (ca:(Hn s.l).Nodup) {img img':Nat->Cl} (hi:i∈atF s.l (img i)) (W_:(img i).q<=3) (FC:img' i=if f.sd (img i)then f.R (img i)else img i):
  Sc img img' (λi=>htC s.l (img i) i) (λi=>htC (s.to f (s.mvd f)).l (img' i) i) (λc=>((atF s.l c).length:Int)) f.R f.sd f.over i:=by
 have hp:=Tk hi;refine⟨FC,Fd.invol hk W_,Fd.flip hk hs W_,?_,hp⟩;unfold htC
 cases h:f.sd (img i)with
 |false=>
  rw[h]at FC;have e:img' i=img i:=FC;rw[e,Aq0 hk hs hq hn W_ h]
  have hni:i∉(atF s.l (f.R (img i))).reverse:=λh2=>by
   have:=Wi ca hn hi (List.mem_reverse.1 h2);have h3:=Fd.flip (f:=f) hk hs W_;rw[<-this,h]at h3
   cases h3
  cases f.over with
  |true=>rw[Hc rfl,bD hi];simp
  |false=>rw[Ha He,Xz hni hi,List.length_reverse];simp
 |true=>
  rw[h]at FC;have e:img' i=f.R (img i):=FC;have hqr:(f.R (img i)).q<=3:=Iv _ _;have AY:f.sd (f.R (img i))=false:=by rw[Fd.flip hk hs W_,h];rfl
  rw[e,Aq0 hk hs hq hn hqr AY,Fd.invol hk W_]
  have hni:i∉atF s.l (f.R (img i)):=λh2=>by
   have:=Wi ca hn hi h2;rw[<-this,h]at AY
   cases AY
  have VD:=mL (Vx ca hn (img i)) hi
  cases f.over with
  |true=>rw[Hc rfl,Xz hni (List.mem_reverse.2 hi),VD];simp
  |false=>rw[Ha He,bD (List.mem_reverse.2 hi),VD];simp
end
def cV {a b:Int} (hu:u.2<3) (h:isU a b u.1 u.2=true):∀{j:Nat},3*u.1+u.2<j->u∈Jz a b j
 |0,hj=>Gv
 |j+1,hj=>by
  unfold Jz;rw[Bl];by_cases h1:3*u.1+u.2<j
  ·exact .inl (cV hu h h1)
  ·have e1:j/3=u.1:=Gv;have e2:j%3=u.2:=Gv;refine .inr ?_;unfold Ul;rw[e1,e2,Hc h];simp
def Ag0 {l l':List Cr} (h:l.Perm l') (c e:Int):Nk l c e=Nk l' c e:=h.any_eq
def Av2 (l l':List Cr) (c e:Int):Nk (l++l') c e=(Nk l c e||Nk l' c e):=List.any_append
def Av3 (L:List (Nat×Nat)) (kf:Nat->Int) (p e:Nat):Nk (Lz L kf) p e=decide ((p,e)∈L):=by
 unfold Nk Lz;rw[List.any_map];rw[Bool.eq_iff_iff,Ew,Li]
 constructor
 ·rintro⟨u,hu,h⟩;simp only[Function.comp,Em,Li]at h
  have:u=(p,e):=by
   obtain⟨u1,u2⟩:=u;dsimp only at h;rw[Prod.mk.injEq];omega
  rw[<-this];exact hu
 ·intro h;exact⟨_,h,Gy⟩
def wT (hs:f.side<=1) (p q:Cl):f.sd p≠f.sd q↔Is f.k f.c p≠Is f.k f.c q:=by
 have h1:=Zq f.k f.c p;have h2:=Zq f.k f.c q;have h3:f.side=0∨f.side=1:=Gv;unfold Fd.sd sdF;rcases h1 with h1|h1<;>rcases h2 with h2|h2<;>rcases h3 with h3|h3<;>rw[h1,h2,h3]<;>simp
section
variable {a b:Nat} {s:St} {m:List Mv} {f:Fd}
def GSt.passes (G:GSt a b s m) (hs:f.side<=1) (hp:p<4*a*b) (he:e<=2) (h0:(nbI (a:Int) (b:Int) (p:Int) (e:Int)).2=0) (ac:(p:Int)<(nbI (a:Int) (b:Int) (p:Int) (e:Int)).1):
  decide ((p,e)∈Lt s f.k f.c)=((f.sd (imP a m p) != f.sd (imP a m (nbI (a:Int) (b:Int) (p:Int) (e:Int)).1.toNat))&&decide (Ho s.cr p e=0)):=by
 have hU:(p,e)∈Ko s.a s.b:=by
  unfold Ko;refine cV (by dsimp only;omega) ?_ (by rw[G.cnt];dsimp only;omega);rw[G.sa,G.sb];unfold isU;simp[h0,ac]
 have hn:=(G.S.step p e hp he h0).1;have i1:=G.img hp;have i2:=G.img hn;unfold St.img at i1 i2;rw[Bool.eq_iff_iff,Li];unfold Lt;rw[Gd];dsimp only;rw[G.sa,G.sb]at i1 i2 hU⊢;rw[i1,i2];simp only[hU,true_and,Em,Li,bne_iff_ne];rw[wT hs]
def GSt.crTo (G:GSt a b s m) (hs:f.side<=1) (mv:List Stk) (hi:i<4*a*b) (he:e<=2) (h0:(nbI (a:Int) (b:Int) (i:Int) (e:Int)).2=0):
  Nk (s.to f mv).cr (Ij (a:Int) (b:Int) (i:Int) (e:Int)).1 (Ij (a:Int) (b:Int) (i:Int) (e:Int)).2.1=
   (Nk s.cr (Ij (a:Int) (b:Int) (i:Int) (e:Int)).1 (Ij (a:Int) (b:Int) (i:Int) (e:Int)).2.1||(f.sd (imP a m i) != f.sd (imP a m (nbI (a:Int) (b:Int) (i:Int) (e:Int)).1.toNat))):=by
 have low:∀p:Nat,p<4*a*b->(nbI (a:Int) (b:Int) (p:Int) (e:Int)).2=0->(p:Int)<(nbI (a:Int) (b:Int) (p:Int) (e:Int)).1->
   Nk (s.to f mv).cr (p:Int) (e:Int)=(Nk s.cr (p:Int) (e:Int)||(f.sd (imP a m p) != f.sd (imP a m (nbI (a:Int) (b:Int) (p:Int) (e:Int)).1.toNat))):=λp hp mu ac=>by
  show Nk (Oc (s.cr++Lz (Lt s f.k f.c) (s.kf f))) p e=_;rw[Ag0 (Na _),Av2,Av3,G.passes hs hp he mu ac,Za G.pat.kind]
  cases f.sd (imP a m p) != f.sd (imP a m (nbI (a:Int) (b:Int) (p:Int) (e:Int)).1.toNat)<;>simp
 obtain⟨g0,g00,-,-,-,g4,g5⟩:=G.S.step i e hi he h0;unfold Ij;rw[Hc h0];dsimp only;by_cases ac:(i:Int)<(nbI (a:Int) (b:Int) (i:Int) (e:Int)).1
 ·rw[Int.min_eq_left Gv];exact low i hi h0 ac
 ·rw[Int.min_eq_right Gv];obtain⟨q,hq⟩:∃q:Nat,(nbI (a:Int) (b:Int) (i:Int) (e:Int)).1=q:=⟨_,(Int.toNat_of_nonneg g00).symm⟩;rw[hq]at g0 g4 g5 ac⊢;have h:=low q Gv (by rw[g4]) (by rw[g4];dsimp only;omega);rw[g4]at h;dsimp only at h;simp only[Ev]at h⊢;rw[h]
  congr 1
  cases f.sd (imP a m q)<;>cases f.sd (imP a m i)<;>rfl
end
def jD {l:List Cr} (ha:l.Pairwise λr q=>Kv r.c r.e q.c q.e<0) {r:Cr} (hr:r∈l):Ho l r.c r.e=r.k:=by
 unfold Ho
 cases hf:l.find? λx=>decide (x.c=r.c)&&decide (x.e=r.e)with
 |none=>
  rw[List.find?_eq_none]at hf;have:=hf r hr;simp at this
 |some x=>
  have h1:=List.mem_of_find?_eq_some hf;have h2:=List.find?_some hf;simp only[Em,Li]at h2;have:x=r:=lE (Zu ha) x h1 r hr (by unfold crU;rw[h2.1,h2.2]);rw[this]
def Av6 {l:List Cr} {c e:Int} (h:Ho l c e≠0):∃r∈l,r.c=c/\r.e=e/\r.k=Ho l c e:=by
 unfold Ho at h⊢
 cases hf:l.find? λx=>decide (x.c=c)&&decide (x.e=e)with
 |none=>rw[hf]at h;exact absurd rfl h
 |some x=>
  have h2:=List.find?_some hf;simp only[Em,Li]at h2;exact⟨x,List.mem_of_find?_eq_some hf,h2.1,h2.2,rfl⟩
def Bj3:∀(p:List (Nat×Nat)) (n:Nat),(p.map (·.1)).Nodup->∀i v,(i,v)∈p->i<n->(Yt n p).getD i 0=v:=by
 have len:∀(p:List (Nat×Nat)) (h:List Nat),(p.foldl (λh q=>h.set q.1 q.2) h).length=h.length:=by
  intro p
  induction p with
  |nil=>intro h;rfl
  |cons q r ih=>intro h;rw[List.foldl_cons,ih,List.length_set]
 have key:∀(p:List (Nat×Nat)) (h:List Nat),(p.map (·.1)).Nodup->(∀i v,(i,v)∈p->i<h.length->(p.foldl (λh q=>h.set q.1 q.2) h).getD i 0=v)/\∀i,i∉p.map (·.1)->(p.foldl (λh q=>h.set q.1 q.2) h).getD i 0=h.getD i 0:=by
  intro p
  induction p with
  |nil=>intro h _;exact⟨λi v hi=>by simp at hi,λi _=>rfl⟩
  |cons q r ih=>
   intro h hn;rw[Es,Ei]at hn;obtain⟨h1,h2⟩:=ih (h.set q.1 q.2) hn.2;refine⟨λi v hi hl=>?_,λi hi=>?_⟩
   ·rw[List.foldl_cons];rcases Bk.1 hi with rfl|hi
    ·rw[h2 _ hn.1];simp[List.getD,hl]
    ·exact h1 i v hi (by simpa using hl)
   ·rw[Es,Bk,not_or]at hi;rw[List.foldl_cons,h2 i hi.2];simp only[List.getD,List.getElem?_set_ne (Ne.symm hi.1)]
 exact λp n hn i v hi hl=>(key p (Ba n 0) hn).1 i v hi (by simpa using hl)
def Az6 {l:List Nat} (hn:l.Nodup) (h:i∈l):(i,(Kh l i).toNat)∈l.zipIdx:=by
 obtain⟨j,hj,rfl⟩:=Be.1 h
 have e:Kh l l[j]=j:=mK hj rfl λk hk hkj e=>by
  have:=(List.getElem_inj hn).1 e;omega
 rw[e,Ev];exact List.mem_zipIdx_iff_getElem?.2 (by simp[hj])
def Br6 {l:List Stk} (ca:(Hn l).Nodup) (hn:(l.map (·.c)).Nodup) (hi:i<n) (h:i∈atF l c):((Yt n (Qb l)).getD i 0:Int)=htC l c i:=by
 have hc:c∈l.map (·.c):=by
  apply Ex;intro h2;rw[Ux h2]at h;simp at h
 obtain⟨x,hx,rfl⟩:=Dr.1 hc;rw[Md hn hx]at h
 have e1:(Qb l).map (·.1)=Hn l:=by
  unfold Qb Hn;rw[List.map_flatMap]
  congr 1
  funext x
  simp
 have hxn:x.ls.Nodup:=by
  have:=Vx ca hn x.c
  rwa [Md hn hx]at this
 have h1:(i,(Kh x.ls i).toNat)∈Qb l:=Ec.2 ⟨x,hx,Az6 hxn h⟩;rw[Bj3 _ n (by rw[e1];exact ca) i _ h1 hi];unfold htC;rw[Md hn hx];have:=(Tk h).1;omega
def kQ (kd:Int) (upHi:Bool):Prop:=kd=3∨kd=if upHi then 1 else 2
def Bf4 (mv:Mv) (hm:mv.t<=7) (k c:Int):decide (4<=(thn mv (ofL k c)).t)= !decide (4<=mv.t)/\decide (4<=(thn (ofL k c) mv).t)= !decide (4<=mv.t):=by
 have key:∀t,t<8->∀u,u∈([4,5,6,7]:List Nat)->decide (4<=Lb (Iq (mat t) (mat u)))= !decide (4<=t)/\decide (4<=Lb (Iq (mat u) (mat t)))= !decide (4<=t):=by decide+kernel
 have hu:(ofL k c).t∈([4,5,6,7]:List Nat):=by
  unfold ofL
  repeat' split
  all_goals simp
 exact key mv.t Gv _ hu
def upP (m:List Mv) (i:Nat):Bool:= !decide (4<=(m.getD i mv0).t)
def Bd1 (hq:d.q<=3) (he:e<=2) (JR:e'<=2) (h:Kt d e=Kt d e'):e=e':=by
 obtain⟨x,y,q⟩:=d;dsimp only at hq;rcases dC hq with rfl|rfl|rfl|rfl<;>rcases mB he with rfl|rfl|rfl<;>rcases mB JR with rfl|rfl|rfl<;>first|rfl|(simp[Kt,nxt]at h)
section
variable {a b:Nat} {s:St} {m:List Mv}
def Lk.hi (k:Lk) (u:Nat×Nat):Nat:=if k.hs.getD u.1 0<k.hs.getD (k.nb u) 0 then k.nb u else u.1
def GSt.crease (G:GSt a b s m) (h:s.lk.reg u) (B:Cl):Mr s.a s.b (s.lk.le B u)=u:=by
 obtain⟨h1,h2,h3,h4,h5,-,h7⟩:=G.reg h
 have FJ:(nbI (a:Int) (b:Int) (u.1:Int) (u.2:Int)).1=(s.lk.nb u:Int):=by
  rw[h5];exact(Int.toNat_of_nonneg (G.S.step u.1 u.2 h1 h2 h3).2.1).symm
 have uni:∀e:Nat,e<=2->nbI (a:Int) (b:Int) (u.1:Int) (e:Int)=((s.lk.nb u:Int),0)->e=u.2:=λe he hh=>by
  have g1:=(G.S.step u.1 u.2 h1 h2 h3).2.2.1;have g2:=(G.S.step u.1 e h1 he (by rw[hh])).2.2.1;rw[FJ]at g1;rw[hh]at g2;exact Bd1 (Jy _ _) he h2 (g2.symm.trans g1)
 have yd:nbI (a:Int) (b:Int) (u.1:Int) (u.2:Int)=((s.lk.nb u:Int),0):=Prod.ext FJ h3
 have mn:min (s.lk.le B u).2.1 (s.lk.le B u).2.2=u.1/\max (s.lk.le B u).2.1 (s.lk.le B u).2.2=s.lk.nb u:=by
  unfold Lk.le
  split<;>(dsimp only;omega)
 have hf:(([0,1,2]:List Nat).find? λ(e:Nat)=>decide (nbI (a:Int) (b:Int) ((u.1:Nat):Int) (e:Int)=(((s.lk.nb u:Nat):Int),(0:Int))))=Af u.2:=by
  obtain⟨p,e⟩:=u;dsimp only at h2 yd uni⊢;rcases mB h2 with rfl|rfl|rfl
  ·rw[Dh,Ld yd]
  ·have n0:¬nbI (a:Int) (b:Int) (p:Int) ((0:Nat):Int)=((s.lk.nb (p,1):Int),0):=λh=>by cases uni 0 Gv h
   rw[Dh,Me n0,Dh,Ld yd]
  ·have n0:¬nbI (a:Int) (b:Int) (p:Int) ((0:Nat):Int)=((s.lk.nb (p,2):Int),0):=λh=>by cases uni 0 Gv h
   have n1:¬nbI (a:Int) (b:Int) (p:Int) ((1:Nat):Int)=((s.lk.nb (p,2):Int),0):=λh=>by cases uni 1 Gv h
   rw[Dh,Me n0,Dh,Me n1,Dh,Ld yd]
 unfold Mr;rw[mn.1,mn.2,G.sa,G.sb,hf]
def GSt.ups (G:GSt a b s m) (hi:i<4*a*b):(upF s.a s.b s.cr s.root).1.getD i false=upP m i:=by
 unfold upF;rw[G.both];dsimp only;rw[Ha He];dsimp only;have hl:=G.pl.len;have dw:=G.pl.ok i hi;rw[Dt,Fs];unfold upP;rw[Dt]at dw⊢;rw[Aw (show i<m.length by omega)]at dw⊢;simp only[Option.map_some,Option.getD_some]at dw⊢;unfold Rc;rw[dw,Bool.true_and]
def Br3 (s:St) (m:List Mv):Prop:=∀u,s.lk.reg u->Ho s.cr u.1 u.2≠0->kQ (Ho s.cr u.1 u.2) (upP m (s.lk.hi u))
def GSt.wrong (G:GSt a b s m) (h:s.lk.reg u) (B:Cl):Iz s.a s.b s.cr (upF s.a s.b s.cr s.root).1 (s.lk.le B u)=false↔kQ (Ho s.cr u.1 u.2) (upP m (s.lk.hi u)):=by
 obtain⟨h1,h2,h3,h4,h5,-,h7⟩:=G.reg h
 have hh:(s.lk.le B u).2.2=s.lk.hi u:=by
  unfold Lk.le Lk.hi
  split<;>rfl
 have ac:s.lk.hi u<4*a*b:=by
  unfold Lk.hi
  split<;>assumption
 unfold Iz jE kQ;rw[G.crease h B,hh,G.ups ac,Bool.and_eq_false_iff,Rt,Rt,El,El]
def GSt.bends_iff (G:GSt a b s m):(s.lk.seams.any λx=>x.ls.any (Iz s.a s.b s.cr (upF s.a s.b s.cr s.root).1))=false↔Br3 s m:=by
 rw[Du]
 constructor
 ·intro h u hu hk;obtain⟨t,ht,-,-,h3⟩:=gG s.lk _ u hu.1 (Ba4 hu) hu.2.2;have h4:=h t ht;rw[Ep,Du]at h4;have h5:=h4 _ (h3 hk);rw[Ep]at h5;exact(G.wrong hu t.b).1 h5
 ·intro h t ht;rw[Ep,Du];intro x hx;obtain⟨u,a1,a2,a3,a4,a5,rfl⟩:=(Yd s.lk _ t ht).2 x hx;have hu:s.lk.reg u:=⟨a1,Gv,a4⟩;rw[Ep];exact(G.wrong hu t.b).2 (h u hu a5)
end
def eV {l l':List Stk} (h:l.Perm l'):(Hn l).Perm (Hn l'):=by
 unfold Hn;exact h.flatMap_right _
def pD (x:Stk):∀l:List Stk,(Hn (Nd x l)).Perm (Hn l++x.ls)
 |[]=>by unfold Nd Hn;simp
 |y::r=>by
  unfold Nd
  split
  ·unfold Hn;rw[Bf,Bf];dsimp only;rw[Bj,Bj];exact List.Perm.append_left _ List.perm_append_comm
  ·have ih:=pD x r;unfold Hn at ih⊢;rw[Bf,Bf,Bj];exact List.Perm.append_left _ ih
def pF:∀(L o:List Stk),(Hn (L.foldl (λo x=>if x.ls.isEmpty then o else Nd x o) o)).Perm (Hn o++Hn L)
 |[],o=>by unfold Hn;simp
 |x::r,o=>by
  rw[List.foldl_cons];refine(pF r _).trans ?_;have e:Hn (x::r)=x.ls++Hn r:=by unfold Hn;rw[Bf]
  rw[e,<-Bj];refine List.Perm.append_right _ ?_;by_cases he:x.ls.isEmpty=true
  ·rw[Hc he];have h0:x.ls=[]:=by simpa using he
   rw[h0,Ff]
  ·rw[Ha he];exact pD x o
def eU (l h:List Stk):(Hn (Kc l h)).Perm (Hn l++Hn h):=by
 rw[Zl];refine(eV (Jd _)).trans ?_;unfold Lf;refine(pF _ _).trans ?_;unfold Hn;simp
def Bj7 (l:List Stk) (g:Cl->Cl):(Hn ((Mj l).map λx=>⟨g x.c,x.ls⟩)).Perm (Hn l):=by
 induction l with
 |nil=>exact List.Perm.refl _
 |cons x r ih=>
  unfold Hn Mj at ih⊢;rw[Es,Es,Bf,Bf];exact(List.reverse_perm _).append ih
def Af4 (k c:Int) (sd:Nat) (hs:sd<=1) (l:List Stk):(Hn (Hx k c sd l)++Hn (Hx k c (1-sd) l)).Perm (Hn l):=by
 have e:Hx k c (1-sd) l=l.filter λx=> !decide (Is k c x.c=sd):=by
  unfold Hx
  congr 1
  funext x
  have:=Zq k c x.c;by_cases h:Is k c x.c=sd
  ·rw[Ld h,Me Gv];rfl
  ·rw[Me h,Ld Gv];rfl
 rw[e];have hp:=List.filter_append_perm (λx:Stk=>decide (Is k c x.c=sd)) l;have:=eV hp;unfold Hn at this⊢;rw[Bi]at this;exact this
section
variable {s:St} {f:Fd}
def uK (hs:f.side<=1):(Hn (s.to f (s.mvd f)).l).Perm (Hn s.l):=by
 have h1:(Hn (s.mvd f)).Perm (Hn (Hx f.k f.c f.side s.l)):=by
  unfold St.mvd;exact(eV (Jd _)).trans (Bj7 _ _)
 have h2:=Af4 f.k f.c f.side hs s.l;unfold St.to;dsimp only
 cases f.over with
 |true=>
  rw[Hc rfl];exact((eU _ _).trans (h1.append_left _)).trans (List.perm_append_comm.trans h2)
 |false=>
  rw[Ha He];exact((eU _ _).trans (h1.append_right _)).trans h2
def Ar1 (hk:1<=f.k/\f.k<=4) (hs:f.side<=1) (hq:∀x∈s.l,x.c.q<=3):∀x∈(s.to f (s.mvd f)).l,x.c.q<=3/\f.sd x.c=false:=by
 have h1:∀x∈Hx f.k f.c (1-f.side) s.l,x.c.q<=3/\f.sd x.c=false:=λx hx=>by
  unfold Hx at hx;obtain⟨h1,h2⟩:=Gd.1 hx;have h2:Is f.k f.c x.c=1-f.side:=by simpa using h2
  refine⟨hq x h1,?_⟩;unfold Fd.sd sdF;rw[h2];exact Me Gv
 have h2:∀x∈s.mvd f,x.c.q<=3/\f.sd x.c=false:=λx hx=>by
  unfold St.mvd at hx;have hx:=(Jd _).mem_iff.1 hx;obtain⟨y,hy,rfl⟩:=Dr.1 hx;unfold Mj Hx at hy;obtain⟨z,hz,rfl⟩:=Dr.1 hy;obtain⟨h3,h4⟩:=Gd.1 hz;refine⟨Iv _ _,?_⟩;dsimp only;rw[Fd.flip hk hs (hq z h3)];have:f.sd z.c=true:=by unfold Fd.sd sdF;exact h4
  rw[this];rfl
 have go:∀l h:List Stk,(∀x∈l,x.c.q<=3/\f.sd x.c=false)->(∀x∈h,x.c.q<=3/\f.sd x.c=false)->∀x∈Kc l h,x.c.q<=3/\f.sd x.c=false:=λl h hl hh x hx=>by
  rw[Zl]at hx;have hx:=(Jd _).mem_iff.1 hx;exact Uz (l++h) (λc=>c.q<=3/\f.sd c=false) (λy hy=>(Bl.1 hy).elim (hl y) (hh y)) x hx
 unfold St.to;dsimp only
 split
 ·exact go _ _ h1 h2
 ·exact go _ _ h2 h1
def cK (l h:List Stk):((Kc l h).map (·.c)).Nodup/\(∀x∈Kc l h,x.ls≠[])/\(Kc l h).Pairwise λp q=>Ka p.c q.c<0:=by
 rw[Zl];have hn:((No (Lf (l++h))).map (·.c)).Nodup:=((Jd _).map _).nodup_iff.2 (Vg _);refine⟨hn,λx hx=>qH _ x ((Jd _).mem_iff.1 hx),?_⟩;have h1:=rS (Lf (l++h));rw[List.Nodup,Fc]at hn;refine(h1.and hn).imp λ{p q} hh=>?_;obtain⟨h2,h3⟩:=hh;rw[Jl]at h2⊢
 have:¬(p.c.x=q.c.x/\p.c.y=q.c.y/\p.c.q=q.c.q):=λe=>h3 (by
  obtain⟨⟨px,py,pq⟩,pl⟩:=p;obtain⟨⟨qx,qy,qq⟩,ql⟩:=q;dsimp only at e⊢;rw[e.1,e.2.1,e.2.2])
 omega
def kD (mv:List Stk):((s.to f mv).l.map (·.c)).Nodup/\(∀x∈(s.to f mv).l,x.ls≠[])/\(s.to f mv).l.Pairwise λp q=>Ka p.c q.c<0:=by
 unfold St.to;dsimp only
 split<;>exact cK _ _
def eD {l:List Stk} (h1:∀x∈l,x.c.ok=true/\x.ls≠[]/\∀i∈x.ls,i<n) (h2:l.Pairwise λp q=>Ka p.c q.c<0) (h3:(Hn l).Nodup) (h4:n<=(Hn l).length):chkS n l=0:=by
 have hb:(Ds l.length).any (Kn n l)=false:=by
  rw[Du];intro i hi;have hi:=Eb.1 hi;rw[Ep];obtain⟨g1,g2,g3⟩:=h1 l[i] (Ay hi);unfold Kn;rw[Aw hi];dsimp only;have g4:l[i].ls.isEmpty=false:=by simpa using g2
  have g5:(l[i].ls.any λid=>decide (n<=id))=false:=by
   rw[Du];intro x hx;have:=g3 x hx;simp;omega
  rw[g1,g4,g5]
  cases i with
  |zero=>rfl
  |succ j=>
   dsimp only;rw[Aw (show j<l.length by omega)];dsimp only;have:=Fj.1 h2 j (j+1) Gv hi Gv;rw[Me Gv];rfl
 unfold chkS;rw[hb,Ha He,Ha (by simpa using h3),Ha Gv]
end
structure Mc (a b:Nat) (m:List Mv) (f:Fd):Prop where
 line:okL f.k f.c=true
 side:f.side<=1
 zero:f.sd (imP a m 0)=false
 near:∀i,i<4*a*b->Rl (if f.sd (imP a m i)then f.R (imP a m i)else imP a m i)
def iR (h:s.chk=0):Ov s.a s.b s.cr s.root s.l=0/\s.lk.seams.any (Kd s.l)=false/\(s.lk.seams.any λx=>x.ls.any (Iz s.a s.b s.cr (upF s.a s.b s.cr s.root).1))=false:=by
 unfold St.chk at h
 split at h
 ·contradiction
 ·rename_i h0
  split at h
  ·cases h
  ·rename_i h1
   split at h
   ·cases h
   ·rename_i h2;exact⟨El.1 h0,Bool.eq_false_iff.2 h1,Bool.eq_false_iff.2 h2⟩
def iQ (h0:Ov s.a s.b s.cr s.root s.l=0) (h1:s.lk.seams.any (Kd s.l)=false) (h2:(s.lk.seams.any λx=>x.ls.any (Iz s.a s.b s.cr (upF s.a s.b s.cr s.root).1))=false):s.chk=0:=by
 unfold St.chk;unfold St.lk at h1 h2;rw[Ha (by rw[h0];decide),Ha (by rw[h1];decide),Ha (by rw[h2];decide)]
section
variable {a b:Nat} {s:St} {m:List Mv} {f:Fd}
def GSt.pos (G:GSt a b s m):0<4*a*b:=by
 have:=Mg G.S.ok
 have h1:1<=Hh (a:Int) (b:Int):=by
  unfold Hh;rw[show 4*(a:Int)*b=4*((a:Int)*b)from Cw ..];omega
 rw[Ji]at h1;omega
def Mc.k (F:Mc a b m f):1<=f.k/\f.k<=4:=by
 have:=Mu.1 F.line;omega
def GSt.rt (G:GSt a b s m) (F:Mc a b m f):s.rt f=(s.root,0):=by
 have h:=F.zero;unfold Fd.sd sdF at h;unfold St.rt;rw[G.img G.pos,Ha (by simpa using h)]
def GSt.to (G:GSt a b s m) (F:Mc a b m f) (mv:List Stk):GSt a b (s.to f mv) (plF a b f.k f.c f.side m) where
 sa:=G.sa
 sb:=G.sb
 S:=G.S
 pat:=qI G.pat f mv
 root:=by
  show(s.rt f).1=mv0;rw[G.rt F];exact G.root
 pl:=wC G.S G.pl F.line F.zero (λi e hi he h0=>G.crTo F.side mv hi he h0) F.near
def GSt.imgTo (G:GSt a b s m) (F:Mc a b m f) (mv:List Stk) (hi:i<4*a*b):(s.to f mv).lk.img i=if f.sd (s.lk.img i)then f.R (s.lk.img i)else s.lk.img i:=by
 rw[(G.to F mv).kimg hi,G.kimg hi];exact Yw hi (G.pl.ok i hi)
def GSt.q (G:GSt a b s m) (hi:i<4*a*b):(s.lk.img i).q<=3:=by
 rw[G.kimg hi];exact Iv _ _
def Gs.cq (hg:Gs s):∀x∈s.l,x.c.q<=3:=λx hx=>by
 have:=(hg.at x hx).1;unfold Cl.ok at this;rw[Jq]at this;omega
def GSt.nc2 (G:GSt a b s m) (hg:Gs s):NC2 s.lk.reg s.lk.nb (λu=>decide (Ho s.lk.cr u.1 u.2≠0)) s.lk.img (λu=>s.lk.other u.1 u.2) (λi=>htC s.l (s.lk.img i) i):=
 Cd9 (λ_ hu h=>G.p0 hu h) (λ_ hu h=>G.l0 hu h) (λ_ hu=>G.hne hu) ((eH λ_ hu=>G.hne hu).1 (iR hg.chk).2.1)
def GSt.fat (G:GSt a b s m) (hg:Gs s) (F:Mc a b m f) (hi:i<4*a*b):Sc s.lk.img (s.to f (s.mvd f)).lk.img (λi=>htC s.l (s.lk.img i) i) (λi=>htC (s.to f (s.mvd f)).l ((s.to f (s.mvd f)).lk.img i) i) (λc=>((atF s.l c).length:Int)) f.R f.sd f.over i:=by
 obtain⟨hn,hm⟩:=hg.lies (i:=i) (by rw[G.cnt];exact hi);exact Bj0 F.k F.side hg.cq hn (La hg.chkS).2.1 hm (G.q hi) (G.imgTo F _ hi)
def GSt.kindTo (G:GSt a b s m) (F:Mc a b m f) (mv:List Stk) (hu:s.lk.reg u):decide (Ho (s.to f mv).lk.cr u.1 u.2≠0)=(decide (Ho s.lk.cr u.1 u.2≠0)||(f.sd (s.lk.img u.1) != f.sd (s.lk.img (s.lk.nb u)))):=by
 obtain⟨h1,h2,h3,h4,h5,h6,-⟩:=G.reg hu;have h:=G.crTo F.side mv h1 h2 h3;have hk:=G.kind hu;have zv:=(G.to F mv).kind (u:=u) hu;rw[hk,zv]at h;rw[h,G.kimg h1,G.kimg h4,h5]
def GSt.nc2To (G:GSt a b s m) (hg:Gs s) (F:Mc a b m f):NC2 s.lk.reg s.lk.nb (λu=>decide (Ho (s.to f (s.mvd f)).lk.cr u.1 u.2≠0)) (s.to f (s.mvd f)).lk.img (λu=>(s.to f (s.mvd f)).lk.other u.1 u.2) (λi=>htC (s.to f (s.mvd f)).l ((s.to f (s.mvd f)).lk.img i) i):=by
 have oq:∀u,s.lk.reg u->(s.lk.other u.1 u.2).q<=3:=λu hu=>by
  rw[G.other hu];exact Iv _ _
 refine Ay1 (len:=λc=>((atF s.l c).length:Int)) (R:=f.R) (sd:=f.sd) (over:=f.over) (G.nc2 hg) (λu hu=>?_) (λu hu h=>?_) (λu hu h=>?_) (λu hu=>?_) (λu hu=>?_) (λu hu=>?_) (λu hu h0 hs=>?_)
 ·have:=G.reg hu;exact⟨G.fat hg F this.1,G.fat hg F this.2.2.2.1⟩
 ·exact G.p0 hu (El.1 (by simpa using h))
 ·exact G.l0 hu (by simpa using h)
 ·obtain⟨h1,h2,h3,-⟩:=G.reg hu;rw[G.other hu,(G.to F (s.mvd f)).other (u:=u) hu,G.kimg h1,Rn h1];show Ht (if f.sd (imP a m u.1)then _ else _) _=_
  split
  ·rw[aU _ _ (Vi (G.pl.ok u.1 h1)) (Xf _ _) _ (by
    have:=(G.S.step u.1 u.2 h1 h2 h3).2.2.1;rw[<-this];exact Jy _ _)]
   rfl
  ·rfl
 ·exact Fd.invol F.k (oq u hu)
 ·exact G.kindTo F _ hu
 ·obtain⟨h1,h2,h3,h4,h5,-⟩:=G.reg hu;have di:Ho s.lk.cr u.1 u.2=0:=El.1 (by simpa using h0);have hc:=G.kind hu;rw[di]at hc;have fp:=Wc G.S G.pl h1 h2 h3 hc;obtain⟨e',yd,JR⟩:=Ud (m.getD u.1 mv0) (Vi (G.pl.ok u.1 h1)) (Hf (a:Int) u.1) (Jy _ _) u.2 h2;rw[G.kimg h1,G.kimg h4,h5]at hs⊢;rw[fp,JR]at hs⊢;have hd:=(wT F.side _ _).1 hs;have nm:=aS F.k (imP a m u.1) (Iv _ _) e' yd hd;have hr:=(bG (imP a m u.1) (Iv _ _) e' yd).2;rw[nm]at hr;exact hr
end
section
variable {a b:Nat} {s:St} {m:List Mv} {f:Fd}
def Ab7 (G:GSt a b s m) (hi:i<4*a*b):upP (plF a b f.k f.c f.side m) i=if f.sd (s.lk.img i)then !upP m i else upP m i:=by
 unfold upP;rw[Rn hi,G.kimg hi];show(!decide (4<=(if f.sd (imP a m i)then _ else _:Mv).t))=_
 split
 ·rw[(Bf4 _ (Vi (G.pl.ok i hi)) _ _).1]
 ·rfl
def Bf2 (G:GSt a b s m) (hu:s.lk.reg u):upP m (s.lk.nb u)=if Ho s.lk.cr u.1 u.2≠0 then !upP m u.1 else upP m u.1:=by
 obtain⟨h1,h2,h3,h4,h5,-⟩:=G.reg hu;have hr:=G.pl.rel u.1 u.2 h1 h2 h3;rw[<-h5,G.kind hu]at hr;unfold upP;rw[hr];by_cases hk:Ho s.lk.cr u.1 u.2≠0
 ·rw[Hc (by simpa using hk),Hc hk,(Bf4 _ (Vi (G.pl.ok u.1 h1)) _ _).2]
 ·rw[Ha (by simpa using hk),Ha hk]
def GSt.lo (G:GSt a b s m) (hg:Gs s) (F:Mc a b m f) (hi:i<4*a*b):0<=htC (s.to f (s.mvd f)).l ((s.to f (s.mvd f)).lk.img i) i:=by
 have FA:=G.fat hg F hi;have l0:∀c,(0:Int)<=((atF s.l c).length:Int):=λc=>Int.natCast_nonneg _
 cases h:f.sd (s.lk.img i)with
 |false=>
  obtain⟨-,-,h2,h3,-⟩:=FA.stay h;have:=l0 (f.R ((s.to f (s.mvd f)).lk.img i));rw[h2]
  split<;>omega
 |true=>
  obtain⟨-,-,-,h2,h3,h4⟩:=FA.moved h;have:=l0 ((s.to f (s.mvd f)).lk.img i);rw[h2]
  split<;>omega
def GSt.memTo (G:GSt a b s m) (hg:Gs s) (F:Mc a b m f) (hi:i<4*a*b):i∈atF (s.to f (s.mvd f)).l ((s.to f (s.mvd f)).lk.img i):=qS.1 (G.lo hg F hi)
def GSt.idsTo (hg:Gs s) (F:Mc a b m f):(Hn (s.to f (s.mvd f)).l).Nodup:=(uK F.side).nodup_iff.2 (La hg.chkS).2.1
def GSt.hsTo (G:GSt a b s m) (hg:Gs s) (F:Mc a b m f) (hi:i<4*a*b):((s.to f (s.mvd f)).lk.hs.getD i 0:Int)=htC (s.to f (s.mvd f)).l ((s.to f (s.mvd f)).lk.img i) i:=
 Br6 (GSt.idsTo hg F) (kD _).1 (by rw[(G.to F (s.mvd f)).cnt];exact hi) (G.memTo hg F hi)
def GSt.hs (G:GSt a b s m) (hg:Gs s) (hi:i<4*a*b):(s.lk.hs.getD i 0:Int)=htC s.l (s.lk.img i) i:=by
 obtain⟨hn,hm⟩:=hg.lies (i:=i) (by rw[G.cnt];exact hi);exact Br6 (La hg.chkS).2.1 hn (by rw[G.cnt];exact hi) hm
def Aq1 (G:GSt a b s m) (hg:Gs s) (F:Mc a b m f):Br3 (s.to f (s.mvd f)) (plF a b f.k f.c f.side m):=by
 have hb:=G.bends_iff.1 (iR hg.chk).2.2;have G':=G.to F (s.mvd f);intro u YW zv;have hu:s.lk.reg u:=YW;obtain⟨h1,h2,h3,h4,h5,h6,h7⟩:=G.reg hu;have F1:=G.fat hg F h1;have F2:=G.fat hg F h4;have e1:=G.hsTo hg F h1;have e2:=G.hsTo hg F h4;have u1:=Ab7 (f:=f) G h1;have u2:=Ab7 (f:=f) G h4;have uc:=Bf2 G hu;have nb':(s.to f (s.mvd f)).lk.nb u=s.lk.nb u:=rfl;have hkt:=G.kindTo F (s.mvd f) hu;have xx:∀c,(0:Int)<=((atF s.l c).length:Int):=λc=>Int.natCast_nonneg _;unfold Lk.hi;rw[nb'];by_cases hk:Ho s.cr u.1 u.2≠0
 ·have di:Ho s.lk.cr u.1 u.2≠0:=hk;obtain⟨r,hr,r1,r2,r3⟩:=Av6 hk;have IQ:r∈(s.to f (s.mvd f)).cr:=(Na _).mem_iff.2 (Gc _ hr)
  have ek:Ho (s.to f (s.mvd f)).cr u.1 u.2=Ho s.cr u.1 u.2:=by
   rw[<-r3,<-r1,<-r2];exact jD G'.pat.asc IQ
  rw[ek];have B:=hb u hu hk;unfold Lk.hi at B;have im:=G.l0 hu di;rw[Hc di]at uc;have g1:=G.hs hg h1;have g2:=G.hs hg h4;rw[im]at g2
  have hne:htC s.l (s.lk.img u.1) u.1≠htC s.l (s.lk.img u.1) (s.lk.nb u):=λe=>by
   obtain⟨hn,hm⟩:=hg.lies (i:=u.1) (by rw[G.cnt];exact h1);have:=Az4 hm e;omega
  cases hs:f.sd (s.lk.img u.1)with
  |false=>
   have jl:f.sd (s.lk.img (s.lk.nb u))=false:=by rw[im];exact hs
   obtain⟨a1,-,a2,-⟩:=F1.stay hs;obtain⟨b1,-,b2,-⟩:=F2.stay jl;rw[b1,im]at b2 e2;rw[a1]at a2 e1;rw[hs]at u1;rw[jl]at u2;have ord:(s.to f (s.mvd f)).lk.hs.getD u.1 0<(s.to f (s.mvd f)).lk.hs.getD (s.lk.nb u) 0↔s.lk.hs.getD u.1 0<s.lk.hs.getD (s.lk.nb u) 0:=Gv;by_cases ho:s.lk.hs.getD u.1 0<s.lk.hs.getD (s.lk.nb u) 0
   ·rw[Hc ho]at B;rw[Hc (ord.2 ho),u2];exact B
   ·rw[Ha ho]at B;rw[Ha (λh=>ho (ord.1 h)),u1];exact B
  |true=>
   have jl:f.sd (s.lk.img (s.lk.nb u))=true:=by rw[im];exact hs
   obtain⟨a1,-,-,a2,-⟩:=F1.moved hs;obtain⟨b1,-,-,b2,-⟩:=F2.moved jl;rw[b1,im]at b2 e2;rw[a1]at a2 e1;rw[hs]at u1;rw[jl]at u2;have ord:(s.to f (s.mvd f)).lk.hs.getD u.1 0<(s.to f (s.mvd f)).lk.hs.getD (s.lk.nb u) 0↔¬s.lk.hs.getD u.1 0<s.lk.hs.getD (s.lk.nb u) 0:=Gv;by_cases ho:s.lk.hs.getD u.1 0<s.lk.hs.getD (s.lk.nb u) 0
   ·rw[Hc ho,uc]at B;rw[Ha (λh=>ord.1 h ho),u1];exact B
   ·rw[Ha ho]at B;rw[Hc (ord.2 ho),u2,uc];simpa using B
 ·have di:Ho s.cr u.1 u.2=0:=El.1 hk;have DG:¬Ho s.lk.cr u.1 u.2≠0:=hk;rw[Ha DG]at uc
  have yk:f.sd (s.lk.img u.1)≠f.sd (s.lk.img (s.lk.nb u)):=by
   have h8:decide (Ho (s.to f (s.mvd f)).lk.cr u.1 u.2≠0)=true:=Ld zv;rw[h8,Me DG,Bool.false_or]at hkt;simpa using hkt.symm
  have fy:u∈Lt s f.k f.c:=by
   have h8:=G.passes (f:=f) F.side h1 h2 h3 (oHx ((G.S.step u.1 u.2 h1 h2 h3).2.1));rw[<-h5,<-G.kimg h1,<-G.kimg h4,Ld di,Bool.and_true]at h8;have h9:(f.sd (s.lk.img u.1) != f.sd (s.lk.img (s.lk.nb u)))=true:=by simpa using yk
   rw[h9]at h8;exact Sh h8
  have ek:Ho (s.to f (s.mvd f)).cr u.1 u.2=s.kf f u.1:=by
   have IQ:(⟨u.1,u.2,s.kf f u.1⟩:Cr)∈(s.to f (s.mvd f)).cr:=(Na _).mem_iff.2 (List.mem_append_right _ (Dr.2 ⟨u,fy,rfl⟩));exact jD G'.pat.asc IQ
  rw[ek];unfold St.kf kQ;rw[G.ups h1]
  have hx:f.R (s.lk.img u.1)=s.lk.img (s.lk.nb u):=by
   have hc:=G.kind hu;rw[Me DG]at hc;have fp:=Wc G.S G.pl h1 h2 h3 hc;obtain⟨e',yd,JR⟩:=Ud (m.getD u.1 mv0) (Vi (G.pl.ok u.1 h1)) (Hf (a:Int) u.1) (Jy _ _) u.2 h2;have S0:=yk;rw[G.kimg h1,G.kimg h4,h5]at S0⊢;rw[fp,JR]at S0⊢;have hd:=(wT F.side _ _).1 S0;have nm:=aS F.k (imP a m u.1) (Iv _ _) e' yd hd;have hr:=(bG (imP a m u.1) (Iv _ _) e' yd).2;rw[nm]at hr;exact hr
  cases hs:f.sd (s.lk.img u.1)with
  |false=>
   have jl:f.sd (s.lk.img (s.lk.nb u))=true:=by
    rw[hs]at yk
    cases h:f.sd (s.lk.img (s.lk.nb u))
    ·rw[h]at yk;exact absurd rfl yk
    ·rfl
   obtain⟨a1,-,a2,a3,a4⟩:=F1.stay hs;obtain⟨b1,b5,-,b2,b3,b4⟩:=F2.moved jl;have ei:(s.to f (s.mvd f)).lk.img (s.lk.nb u)=(s.to f (s.mvd f)).lk.img u.1:=by rw[b1,a1,<-hx,F1.inv]
   rw[ei]at b2 b4 e2;rw[hs]at u1;rw[jl,uc]at u2
   cases xu:f.over with
   |true=>
    rw[xu]at a2 b2;simp only[if_true]at a2 b2;rw[Hc (show(s.to f (s.mvd f)).lk.hs.getD u.1 0<(s.to f (s.mvd f)).lk.hs.getD (s.lk.nb u) 0 by omega),u2]
    cases upP m u.1<;>decide
   |false=>
    rw[xu]at a2 b2;simp at a2 b2;rw[Ha (show¬(s.to f (s.mvd f)).lk.hs.getD u.1 0<(s.to f (s.mvd f)).lk.hs.getD (s.lk.nb u) 0 by omega),u1]
    cases upP m u.1<;>decide
  |true=>
   have jl:f.sd (s.lk.img (s.lk.nb u))=false:=by
    rw[hs]at yk
    cases h:f.sd (s.lk.img (s.lk.nb u))
    ·rfl
    ·rw[h]at yk;exact absurd rfl yk
   obtain⟨a1,a5,-,a2,a3,a4⟩:=F1.moved hs;obtain⟨b1,-,b2,b3,b4⟩:=F2.stay jl;have ei:(s.to f (s.mvd f)).lk.img (s.lk.nb u)=(s.to f (s.mvd f)).lk.img u.1:=by rw[b1,a1,hx]
   rw[ei]at b2 b4 e2;rw[hs]at u1;rw[jl,uc]at u2
   cases xu:f.over with
   |true=>
    rw[xu]at a2 b2;simp only[if_true]at a2 b2;rw[Ha (show¬(s.to f (s.mvd f)).lk.hs.getD u.1 0<(s.to f (s.mvd f)).lk.hs.getD (s.lk.nb u) 0 by omega),u1]
    cases upP m u.1<;>decide
   |false=>
    rw[xu]at a2 b2;simp at a2 b2;rw[Hc (show(s.to f (s.mvd f)).lk.hs.getD u.1 0<(s.to f (s.mvd f)).lk.hs.getD (s.lk.nb u) 0 by omega),u2]
    cases upP m u.1<;>decide
end
section
variable {a b:Nat} {s:St} {m:List Mv} {f:Fd}
def GSt.stkTo (G:GSt a b s m) (hg:Gs s) (F:Mc a b m f):Ov (s.to f (s.mvd f)).a (s.to f (s.mvd f)).b (s.to f (s.mvd f)).cr (s.to f (s.mvd f)).root (s.to f (s.mvd f)).l=0:=by
 have G':=G.to F (s.mvd f);obtain⟨n1,n2,n3⟩:=kD (s:=s) (f:=f) (s.mvd f);have fg:=GSt.idsTo hg F;have bj:=Ar1 (s:=s) (f:=f) F.k F.side hg.cq
 have ac:∀i∈Hn (s.to f (s.mvd f)).l,i<4*a*b:=λi hi=>by
  have:=(uK (s:=s) F.side).mem_iff.1 hi;obtain⟨y,hy,hyi⟩:=Ec.1 this;have:=(hg.at y hy).2.2 i hyi
  rwa [G.cnt]at this
 have fy:∀x∈(s.to f (s.mvd f)).l,∀i∈x.ls,i<4*a*b/\(s.to f (s.mvd f)).lk.img i=x.c:=λx hx i hi=>by
  have h1:=ac i (Ec.2 ⟨x,hx,hi⟩);refine⟨h1,?_⟩;have h2:=G.memTo hg F h1;have h3:i∈atF (s.to f (s.mvd f)).l x.c:=by rw[Md n1 hx];exact hi
  exact Wi fg n1 h2 h3
 have yf:∀x∈(s.to f (s.mvd f)).l,Rl x.c:=λx hx=>by
  have hne:=n2 x hx;obtain⟨i,r,hr⟩:=List.exists_cons_of_ne_nil hne;obtain⟨h1,h2⟩:=fy x hx i (by rw[hr];simp);rw[<-h2,G.imgTo F _ h1,G.kimg h1];exact F.near i h1
 have L2:chkS (Hh (s.to f (s.mvd f)).a (s.to f (s.mvd f)).b) (s.to f (s.mvd f)).l=0:=by
  rw[G'.cnt];refine eD (λx hx=>⟨Pt (yf x hx) (bj x hx).1,n2 x hx,λi hi=>(fy x hx i hi).1⟩) n3 fg ?_;rw[(uK (s:=s) F.side).length_eq];have:=(La hg.chkS).2.2
  rwa [G.cnt]at this
 unfold Ov;rw[Ha (by rw[G'.both];simp),Ha (by rw[L2];decide),Ha,Ha]
 ·rw[Ep,Du];intro x hx;rw[Ep,Du];intro e he
  have yd:e<=2:=by
   simp only[Bk,Dv,or_false]at he;omega
  have h1:=yf x hx;have h2:=(bj x hx).1;rw[aX (Pt h1 h2) yd (Tg h1 h2 e)];simp
 ·rw[Ep,Du];intro x hx;rw[Ep,Du];intro i hi;have:=(fy x hx i hi).2;have h3:(s.to f (s.mvd f)).lk.img i=(Ie (s.to f (s.mvd f)).a (s.to f (s.mvd f)).b (s.to f (s.mvd f)).cr (s.to f (s.mvd f)).root).1.2.getD i cl0:=rfl;rw[<-h3,this];simp
def GSt.crossTo (G:GSt a b s m) (hg:Gs s) (F:Mc a b m f):(s.to f (s.mvd f)).lk.seams.any (Kd (s.to f (s.mvd f)).l)=false:=by
 have G':=G.to F (s.mvd f);refine(eH λu hu=>G'.hne hu).2 (Bs1 (λu hu h=>G'.p0 hu h) (λu hu h=>G'.l0 hu h) (λu hu=>G'.hne hu) (λu hu=>?_) (G.nc2To hg F));obtain⟨h1,-,-,h4,-⟩:=G.reg (u:=u) hu;exact⟨G.lo hg F h1,G.lo hg F h4⟩
def lM (G:GSt a b s m) (hg:Gs s) (F:Mc a b m f):Gs (s.to f (s.mvd f)):=by
 have G':=G.to F (s.mvd f);exact⟨G'.pat,iQ (G.stkTo hg F) (G.crossTo hg F) (G'.bends_iff.2 (Aq1 G hg F))⟩
def yT (G:GSt a b s m) (hg:Gs s) (F:Mc a b m f) (hp:Lt s f.k f.c≠[]):s.do f=(0,Af (s.to f (s.mvd f))):=by
 have rp:s.mv f=Af (s.mvd f):=Cd8 λx hx hs=>by
  have hne:=(hg.at x hx).2.1;obtain⟨i,r,hr⟩:=List.exists_cons_of_ne_nil hne;have hi:i∈x.ls:=by rw[hr];simp
  have ac:=(hg.at x hx).2.2 i hi;obtain⟨hn,hm⟩:=hg.lies ac;have h3:i∈atF s.l x.c:=by rw[Md hn hx];exact hi
  have e:=Wi (La hg.chkS).2.1 hn hm h3;rw[G.cnt]at ac;have h4:=F.near i ac;rw[<-G.img ac,e,hs,Hc rfl]at h4;exact Pt h4 (Iv _ _)
 unfold St.do;rw[Ha (by rw[hg.chk];decide),yU,rp]
 have h1:Qe f.k f.c f.side=true:=by
  unfold Qe;rw[F.line,Bool.true_and];have:=F.side;exact Ld Gv
 rw[Ha (by rw[h1];decide),Ha (by simpa using hp)];dsimp only;rw[Ha (by rw[G.rt F];simp),Hc (lM G hg F).chk]
end
def vP {a b:Int} (hs:okS a b=true):Lo a b []:=⟨hs,Gy,Gy,Gy,.nil,Gy⟩
def Ps (c:Cl) (hq:c.q<=3):Ht mv0 c=c:=by
 obtain⟨x,y,q⟩:=c;dsimp only at hq;rcases dC hq with rfl|rfl|rfl|rfl<;>simp[Ht,mv0,Iy,Ii,mat,Iu,Mb]<;>omega
def Ad1 {a i j:Nat} (h:Hf (a:Int) i=Hf (a:Int) j):i=j:=by
 unfold Hf at h;injection h with h1 h2 h3;have e1:∀k:Nat,((k:Int)/4%(a:Int))=((k/4%a:Nat):Int):=λk=>Gy;have e2:∀k:Nat,((k:Int)/4/(a:Int))=((k/4/a:Nat):Int):=λk=>Gy;rw[e1,e1]at h1;rw[e2,e2]at h2;have h1:i/4%a=j/4%a:=by exact_mod_cast h1
 have h2:i/4/a=j/4/a:=by exact_mod_cast h2
 have g1:=Nat.div_add_mod (i/4) a;have g2:=Nat.div_add_mod (j/4) a;rw[h1,h2]at g1;omega
section
variable {a b:Nat}
def fW (S:Nx a b):Tt a b [] (Ba (4*a*b) mv0):=by
 have z:∀i,(Ba (4*a*b) mv0).getD i mv0=mv0:=λi=>by
  rw[Dt,List.getElem?_replicate]
  split<;>rfl
 refine⟨Gy,z 0,λi _=>by rw[z];decide,λi hi=>?_,λi e hi he h0=>?_⟩
 ·rw[z,Ps _ (Jy _ _)];exact Pc S.ok (by rw[Ji];exact hi)
 ·rw[z,z];rfl
def oR (S:Nx a b):GSt a b (Jt a b) (Ba (4*a*b) mv0):=⟨rfl,rfl,S,vP S.ok,rfl,fW S⟩
def eY (a b i:Nat):imP a (Ba (4*a*b) mv0) i=Hf (a:Int) i:=by
 have z:(Ba (4*a*b) mv0).getD i mv0=mv0:=by
  rw[Dt,List.getElem?_replicate]
  split<;>rfl
 unfold imP;rw[z,Ps _ (Jy _ _)]
def aN (a b:Nat):List Stk:=(Ds (4*a*b)).map λid=>⟨Hf (a:Int) id,[id]⟩
def tT (S:Nx a b):(Jt a b).l=Kc [] (aN a b):=by
 unfold Jt aN;dsimp only;rw[Ji,fV S (fW S)]
 congr 1
 refine List.map_congr_left λi hi=>?_;have hi:=Eb.1 hi;dsimp only
 congr 1
 rw[Dt,Fs,List.getElem?_range hi];exact eY a b i
def cD (a b:Nat):((aN a b).map (·.c)).Nodup:=by
 unfold aN;rw[Ft,List.Nodup,Fc];exact List.nodup_range.imp λ{i j} h e=>h (Ad1 e)
def oP (S:Nx a b) (hi:i<4*a*b):atF (Jt a b).l (Hf (a:Int) i)=[i]:=by
 rw[tT S,aD Gy (cD a b),Yj,Eu];exact Md (x:=⟨Hf (a:Int) i,[i]⟩) (cD a b) (Dr.2 ⟨i,Eb.2 hi,rfl⟩)
def yQ (S:Nx a b):Gs (Jt a b):=by
 have G:=oR S;obtain⟨n1,n2,n3⟩:=cK [] (aN a b);rw[<-tT S]at n1 n2 n3
 have fg:(Hn (Jt a b).l).Perm (Ds (4*a*b)):=by
  rw[tT S];refine(eU _ _).trans ?_;unfold Hn aN;rw[List.flatMap_nil,Eu,List.flatMap_map];have:((Ds (4*a*b)).flatMap λid=>[id])=Ds (4*a*b):=Gy;rw[this]
 have FC:∀i,i<4*a*b->(Jt a b).lk.img i=Hf (a:Int) i:=λi hi=>by rw[G.kimg hi,eY]
 have fy:∀x∈(Jt a b).l,∀i∈x.ls,i<4*a*b/\(Jt a b).lk.img i=x.c:=λx hx i hi=>by
  have h1:i<4*a*b:=Eb.1 (fg.mem_iff.1 (Ec.2 ⟨x,hx,hi⟩));refine⟨h1,?_⟩;rw[FC i h1];have h2:i∈atF (Jt a b).l (Hf (a:Int) i):=by rw[oP S h1];simp
  have h3:i∈atF (Jt a b).l x.c:=by rw[Md n1 hx];exact hi
  exact Wi (fg.nodup_iff.2 List.nodup_range) n1 h2 h3
 have yf:∀x∈(Jt a b).l,Rl x.c/\x.c.q<=3:=λx hx=>by
  obtain⟨i,r,hr⟩:=List.exists_cons_of_ne_nil (n2 x hx);obtain⟨h1,h2⟩:=fy x hx i (by rw[hr];simp);rw[<-h2,FC i h1];exact⟨Pc S.ok (by rw[Ji];exact h1),Jy _ _⟩
 have L2:chkS (Hh (Jt a b).a (Jt a b).b) (Jt a b).l=0:=by
  rw[G.cnt];refine eD (λx hx=>⟨Pt (yf x hx).1 (yf x hx).2,n2 x hx,λi hi=>(fy x hx i hi).1⟩) n3 (fg.nodup_iff.2 List.nodup_range) ?_;rw[fg.length_eq,Cp];exact Am _
 have hstk:Ov (Jt a b).a (Jt a b).b (Jt a b).cr (Jt a b).root (Jt a b).l=0:=by
  unfold Ov;rw[Ha (by rw[G.both];simp),Ha (by rw[L2];decide),Ha,Ha]
  ·rw[Ep,Du];intro x hx;rw[Ep,Du];intro e he
   have yd:e<=2:=by
    simp only[Bk,Dv,or_false]at he;omega
   obtain⟨h1,h2⟩:=yf x hx;rw[aX (Pt h1 h2) yd (Tg h1 h2 e)];simp
  ·rw[Ep,Du];intro x hx;rw[Ep,Du];intro i hi;have:=(fy x hx i hi).2;have h3:(Jt a b).lk.img i=(Ie (Jt a b).a (Jt a b).b (Jt a b).cr (Jt a b).root).1.2.getD i cl0:=rfl;rw[<-h3,this];simp
 have hz:∀i,i<4*a*b->htC (Jt a b).l ((Jt a b).lk.img i) i=0:=λi hi=>by
  rw[FC i hi];unfold htC;rw[oP S hi,Mn,Hc rfl]
 have di:∀u:Nat×Nat,Ho (Jt a b).lk.cr u.1 u.2=0:=λu=>rfl;refine⟨G.pat,iQ hstk ((eH λu hu=>G.hne hu).2 (Bs1 (λu hu h=>G.p0 hu h) (λu hu h=>G.l0 hu h) (λu hu=>G.hne hu) (λu hu=>?_) ⟨λu v x y z w hu hv _ _ eu ev _ _ hc=>?_,λu v x y hu hv _ gq=>?_,λu v hu hv ik=>?_⟩)) (G.bends_iff.2 λu hu h=>absurd (di u) h)⟩
 ·obtain⟨h1,-,-,h4,-⟩:=G.reg hu;rw[hz _ h1,hz _ h4];exact⟨He,He⟩
 ·obtain⟨h1,-,-,h4,-⟩:=G.reg hu;obtain⟨g1,-,-,g4,-⟩:=G.reg hv;have hx:x<4*a*b:=by rcases eu with⟨rfl,-⟩|⟨rfl,-⟩<;>assumption
  have hzz:z<4*a*b:=by rcases ev with⟨rfl,-⟩|⟨rfl,-⟩<;>assumption
  rw[hz _ hx,hz _ hzz]at hc;omega
 ·have:=di v;simp[this]at gq
 ·have:=di u;simp[this]at ik
end
end
end Go.Proofs.YtlgkpdfieaadaaaGreatDoor
