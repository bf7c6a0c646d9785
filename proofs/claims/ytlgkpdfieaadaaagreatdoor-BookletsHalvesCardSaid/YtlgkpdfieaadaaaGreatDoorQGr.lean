import Derived.Test.YtlgkpdfieaadaaaGreatDoorQPim
import Derived.Deep.RegionHeld
import Derived.Test.YtlgkpdfieaadaaaGreatDoorQStk
import Derived.BigFrameIn
import Derived.Test.YtlgkpdfieaadaaaGreatDoorQSog
import Derived.Deep.RegionHeld3
import Derived.Test.YtlgkpdfieaadaaaGreatDoorQOvi
set_option linter.all false
open And renaming intro->Cm
open Array renaming getElem?_eq_some_iff->Au,getElem?_modify->Df,replicate->Em
open Bool renaming and_eq_true->El,not_eq_true->Eo,or_eq_false_iff->Cy
open Classical renaming byContradiction->Ew,not_not->Ek
open Go renaming Calls->Al,TypeId->Cj,Value->Ak,World->Aj,bodyPost_ret->Ai,cell_of_row->By,heap_alloc_new->Bz,wpAnyH_done->An,wp_region_held_drew->Ao
open Go.IntKind renaming i64->Ab,u8->Ac
open Go.IntWalk renaming i64_in->Ca,wrap64_in->Cb
open Go.Lib renaming hid->Ah
open Go.Proofs.Tryz renaming prog->Do
open Go.RowKit.Below renaming heap_setCell->Dp,refl->Ag
open Go.Value renaming int->Aa,slice->Ad
open Int renaming mul_assoc->Cv,tdiv_eq_ediv_of_nonneg->Gh,toNat_natCast->Eu
open List renaming all_eq_true->Ec,any_eq_false->Dt,any_eq_true->Ev,append_assoc->Bj,append_nil->Fe,cons_append->Ep,ext_getElem->Gj,find?_cons->Dg,flatMap_append->Bi,flatMap_cons->Bf,getD_eq_getElem?_getD->Ds,getElem?_append_right->Ee,getElem?_eq_getElem->Aw,getElem?_map->Fq,getElem_cons_succ->Cd,getElem_cons_zero->Cc,getElem_mem->Ay,getElem_toArray->Ce,length_cons->En,length_range->Co,map_cons->Er,map_map->Fs,mem_append->Bl,mem_append_left->Gb,mem_cons->Bk,mem_cons_of_mem->Ex,mem_filter->Gc,mem_flatMap->Eb,mem_iff_getElem->Be,mem_map->Dq,mem_range->Ea,mem_singleton->Ge,nil_append->Et,nodup_append->Bp,nodup_cons->Eh,not_mem_nil->Du,pairwise_iff_getElem->Fi,pairwise_map->Ez,range->Dr,replicate->Ba,setIfInBounds_toArray->Ch,set_cons_succ->Cg,set_cons_zero->Cf,size_toArray->Fp,toArray_replicate->Gi
open Nat renaming le_refl->Am,mul_one->Db
open Option renaming none->Ae,some->Af
set_option maxHeartbeats 16000000
set_option maxRecDepth 100000
namespace Go.Proofs.YtlgkpdfieaadaaaGreatDoor
open Go.RowKit Go.Shelf
section
variable {P:Program} {ops:Array Oper} {Q:Exit->Act->Aj->Prop} {l n:Nat}
theorem Bl9 {o:Oper} (hd:∀c,o.op≠.defer c) {a:Act} {w:Aj} {K K':Act->Aj->Prop} (hK:∀a w,K a w->K' a w) (h:o.wp P a w K Q):o.wpIn (Fence.wide.inRound l) n P a w K' Q:=by
 refine⟨λ_ _=>trivial,?_⟩;rw[Oper.semAt_eq _ _ _ hd];unfold Oper.wp at h;generalize (execOp a.eval o).run P w=r at h⊢
 cases r with
 |ok x w'=>
  cases x with
  |value v=>exact hK _ _ h
  |skip=>exact hK _ _ h
  |defer d=>exact hK _ _ h
  |enter f args=>
   refine⟨λhh=>Bool.noConfusion (show false=true from hh),CallsIn.inRound l (callsIn_wide.2 (h.mono λe w'' he=>?_))⟩
   cases e with
   |returned v=>exact hK _ _ he
   |panicked c=>exact he
   |outgrown=>exact he
  |row r args=>exact⟨λhh=>Bool.noConfusion (show false=true from hh),λc cs _=>let⟨v,w'',r,s⟩:=h c cs;⟨v,w'',hK _ _ r,stepsIn_wide.2 s⟩⟩
  |_=>exact h.elim
 |halt x w'=>
  cases x<;>exact h
theorem lI (hq:¬LetsOut Q) (hd:∀(i:Nat) (o:Oper),ops[i]? =Af o->∀c,o.op≠.defer c):∀(is:List Nat) (a:Act) (w:Aj),wpOps P ops Q is a w->wpOpsIn (Fence.wide.inRound l) n P ops Q is a w
 |[],_,_,h=>h
 |i::rest,a,w,h=>by
  unfold wpOps at h;unfold wpOpsIn
  cases ho:ops[i]? with
  |none=>
   rw[ho]at h;exact lI hq hd rest a w h
  |some o=>
   rw[ho]at h;dsimp only at h⊢
   split at h
   ·rename_i hw;rw[Hd hw];rcases h with h|⟨-,h⟩
    ·exact Bl9 (hd i o ho) (λa w=>lI hq hd rest a w) h
    ·exact absurd h hq
   ·rename_i hw;rw[Gz hw];exact⟨λ_ _=>trivial,lI hq hd rest _ w h⟩
theorem bG {id:Nat} {S:Aj->Prop} {a:Act} {w:Aj} (hm:P.follows .mixedOrders=true) (hq:¬LetsOut Q) (hd:(ops.all λo=>match o.op with| .defer _=>false|_=>true)=true)
  (hS:S w.drew) (h:S w.drew->wpAnyH P .any ops Q S ops.size (Em ops.size false) a w.drew):(Code.region id ops true).wpIn (Fence.wide.inRound l) n P Q a w:=
 wpIn_region_draw λt=>by
  simp only[Region.schedule,hm,Bool.true_or,if_true];refine lI hq (λi o ho c hc=>?_) _ _ _ (wpAny_sound ops.size t _ a _ (wpAny_of_held _ _ _ _ (h hS)));have:=Array.all_eq_true.1 hd i (Au.1 ho).1;rw[(Au.1 ho).2,hc]at this
  cases this
end
theorem Uo {W W':Aj} {b:Nat} (h:W'.heap[b]? =W.heap[b]?) (o:Nat):W'.cell? ⟨b,o,Ae⟩=W.cell? ⟨b,o,Ae⟩:=by
 unfold World.cell?;rw[h]
section
variable {P:Program} {ops:Array Oper} {Q:Exit->Act->Aj->Prop} {md:Region.Mode} {S:Aj->Prop} {oi oj ok:Oper} {fuel:Nat} {listed:Array Bool} {a:Act} {w:Aj}
end
end Go.Proofs.YtlgkpdfieaadaaaGreatDoor
namespace Go.Proofs.YtlgkpdfieaadaaaGreatDoor
open Go.RowKit Go.Shelf
attribute [local go_sem] Oper.semAt_some
abbrev BwA (P:Nat->Prop):={x:Nat×Nat//P x.2}
def bwL (P:Nat->Prop) (ls:List Nat) (h:∀i∈ls,P i):List (BwA P):=
 (Dr ls.length).attach.map λk=>⟨(ls.length-1-k.1,ls[ls.length-1-k.1]'(oHx (Ea.1 k.2))),h _ (Ay _)⟩
def bwE {P:Nat->Prop} (x:BwA P):Array Ak:=#[Aa Ab (x.1.1:Nat),Aa Ab (x.1.2:Nat)]
theorem dB {P:Nat->Prop} {ls:List Nat} {h:∀i∈ls,P i}:(bwL P ls h).length=ls.length:=by simp[bwL]
theorem xH {P:Nat->Prop} {ls:List Nat} {h:∀i∈ls,P i} {k:Nat} (hk:k<(bwL P ls h).length):((bwL P ls h)[k]).1=(ls.length-1-k,ls[ls.length-1-k]'(by rw[dB]at hk;omega)):=by
 simp[bwL]
theorem Be8 {P:Nat->Prop} {ls:List Nat} {h:∀i∈ls,P i}:(bwL P ls h).map (·.1.2)=ls.reverse:=by
 apply Gj
 ·simp[bwL]
 ·intro k h1 h2;rw[List.getElem_map,xH,List.getElem_reverse]
theorem Be2 (P:Nat->Prop) (Bn n₀:Nat) (A:Option Addr) (ls:List Nat) (cap:Nat) (hP:∀i∈ls,P i) (hlen:ls.length<=100000) (l n:Nat) (hn:1<=n) (J Jx:List (BwA P)->Aj->Prop) (W:Aj)
  (hY:∀pre x W1,J pre W1->pre.length<ls.length->YieldAt Fence.wide (n-1) Do l (bwE x) W1 λe W'=>
   (e= .returned (.bool true)/\J (pre++[x]) W'/\Mo n₀ Bn W1 W')∨(e= .returned (.bool false)/\Jx (pre++[x]) W'))
  (js:W.heap[Bn]? =Af (Obj.cells #[Ad A ls.length cap] 38 (0,0))) (vy:n₀<=W.heap.size) (hc:∀j (hj:j<ls.length),∃b o,A=Af ⟨b,o,Ae⟩/\b<n₀/\W.cell? ⟨b,o+j,Ae⟩=Af (Aa Ab (ls[j]:Nat))) (h0:J [] W):
  CallsIn Fence.wide n Do 103 #[.func (.yield l) #[] #[],.pointer (Af ⟨Bn,0,Ae⟩)] W λe W'=>(∃v,e= .returned v)/\
   ((∃ys,ys=bwL P ls hP/\J ys W')∨(∃pre,True/\Jx pre W')):=by
 refine callsIn_of_wp Tryz.func103 rfl trivial ?_ rfl;simp only[Tryz.ntmps103,Fp,En,List.length_nil,Nat.reduceAdd,Nat.reduceSub,Array.replicate_succ,Array.replicate_zero,List.push_toArray,List.append_toArray,Et,Ep];have cj:=dB (h:=hP)
 have hbg:∀zs,bwL P ls hP=zs->∀k (hk:k<zs.length) j (hj:j<ls.length),j=ls.length-1-k->zs[k].1=(j,ls[j]):=by
  rintro _ rfl k hk j hj rfl;exact xH hk
 obtain⟨zs,NG⟩:=ey (bwL P ls hP);have Y6:=Ah (hbg zs NG);rw[NG]at cj⊢;obtain⟨N,hN⟩:=ey ls.length;have lw:W.cell? ⟨Bn,0,Ae⟩=Af (Ad A N cap):=by rw[By _ _ 0 _ _ _ js,<-hN];rfl
 have HC:=Ah hc;have db:=Ah hN;rw[hN]at hlen hY cj;have e1:wrap64 ((N:Int)-1)=(N:Int)-1:=Cb _ Gu;clear NG hbg hc hN
 gi_wp2
 gi_loopw [3] (λs3 wr=>∃(k:Nat) (i:Int),k<=N/\i=(N:Int)-1-k/\s3= Aa Ab i/\J (zs.take k) wr/\Mo n₀ Bn W wr) (λs3 _=>(intOf s3+1).toNat)
 case atStart=>exact⟨0,(N:Int)-1,Nat.zero_le _,Gu,rfl,h0,Ag _ _,rfl⟩
 obtain⟨k,i,hk,hi,rfl,JE,hB⟩:=hrel;have c0:wr.cell? ⟨Bn,0,Ae⟩=Af (Ad A N cap):=(Uo hB.2 0).trans lw;by_cases ad:k<N
 ·obtain⟨j,rfl⟩:∃j:Nat,i=j:=⟨N-1-k,Gu⟩;have kj:j=N-1-k:=Gu;have hj:j<ls.length:=oHx db.out;obtain⟨b,o,rfl,LE,d0⟩:=HC.out j hj;have d0:=(hB.1.cell (p:=⟨b,o+j,Ae⟩) LE).trans d0;obtain⟨iv,hv⟩:=ey (ls[j]);rw[hv]at d0;have LY:k<zs.length:=Gu;have q0:(j:Int)>=0:=Gu;have q1:(j:Int)<(N:Int):=Gu;have e2:wrap64 ((j:Int)-1)=(j:Int)-1:=Cb _ Gu
  have hx:zs[k].1=(j,iv):=by
   rw[Y6.out k LY j hj (oHx db.out),hv]
  obtain⟨fn,tmps,assign,body,hy,hR⟩:=hY _ zs[k] _ JE (by rw[List.length_take];omega);unfold bwE at hy;rw[hx]at hy;dsimp only at hy;have ra:zs.take k++[zs[k]]=zs.take (k+1):=(List.take_succ_eq_append_getElem LY).symm;have HJK:=Ah kj;clear hv hx kj hi
  gi_wp2
  refine hR.mono ?_;rintro e W3 (⟨rfl,ER,FD⟩|⟨rfl,uw⟩)
  ·rw[ra]at ER
   gi_wp2
   go_roundw
   case rel=>exact⟨k+1,(j:Int)-1,Gu,by have:=HJK.out;omega,by go_num,ER,Ve hB FD⟩
   case measure=>simp[intOf]
  ·gi_wp2
   refine Ai (results_none rfl _ _ _) rfl ?_;exact⟨⟨_,rfl⟩,.inr ⟨_,trivial,uw⟩⟩
 ·obtain rfl:k=N:=Gu;have q0:¬i>=0:=Gu
  gi_wp2
  go_end0
  rw[<-cj,List.take_length]at JE;exact⟨⟨_,rfl⟩,.inl JE⟩
theorem jU (A:Option Addr) (n c:Nat) (w:Aj):
  Al Do 55 #[Ad A n c] w λe w'=>e= .returned (.func (.func 103) #[] #[.pointer (Af ⟨w.heap.size,0,Ae⟩)])/\w'=w.alloc (.cells #[Ad A n c] 38):=by
 go_enter Tryz.func55,Tryz.ntmps55;go_wp2;go_ret;exact⟨rfl,rfl⟩
theorem Ai5 {α:Type} {F:Fence} {n:Nat} {P:Program} {g:Operand} {ps:Array Tmp} {assign body:Code} {Q:Exit->Act->Aj->Prop} {a:Act} {w:Aj}
  (JR:F.round=Ae) (h1:1<=n) {gf:Nat} {lb:Array Ak} (hg:a.eval g= .func (.func gf) #[] lb) (hFg:F.fn gf) (eg:∀args w,(callFunc gf args).run P w= .ok (.enter gf args) w)
  {CW:α->Array Ak} {Kp:Aj->Aj->Prop} {S Sp:List α->Prop} {N:Nat} {w0:Aj} (I0:SeqStopsK F (n-1) P gf lb CW Kp S Sp N w0)
  (hKt:∀{A B C:Aj},Kp A B->Kp B C->Kp A C) (hKr:∀A,Kp A A) (R3:∀(W:Aj) (l:Nat) (o o':Obj),w.heap.size<=l->W.heap[l]? =Af o->o.isCells=false->o.isWalk=false->Kp W (W.putObj l o')) (lw:Below w0.heap.size w0 w) (lh:∀x,(CW x).size=ps.size)
  (I:List α->Aj->Prop) (hI:OwnFrom w.heap.size I) (h0:I [] w) (T:α->Array Ak)
  (xj:∀(l:Nat) (x:α) (W:Aj) (K:Act->Aj->Prop),K {tmps:=T x,defers:=[]} W->
   assign.wpIn (F.inRound l) (n-1-1) P (Exit.then K (λ_ _ _=>False)) {tmps:=(ps.zip (CW x)).foldl (λt (p,v)=>t.setIfInBounds p v) a.tmps,defers:=[]} W)
  (LF:∀(l:Nat) (pre:List α) (x:α) (W:Aj),I pre W->pre.length<N->body.wpIn (F.inRound l) (n-1-1) P (ownPostG w.heap.size Kp I (λ_ _ _=>False) (pre++[x]) W) {tmps:=T x,defers:=[]} W)
  (LL:∀(D:Nat) (xs:List α) (W:Aj),w.heap.size<=D->S xs->I xs W->W.heap[D]? =Af (.deferred (Af []))->Q .normal {a with defers:={target:= .collected D,args:=#[]}::a.defers} W):
  (Code.rangeFunc g ps assign body).wpIn F n P Q a w:=
 wpIn_rangeFunc_ownH JR h1 hg hFg eg I0 hKt R3 lw lh I (λ_ _ _=>False) hI (λ_ _ _ _ _ hs _ _=>hs) h0 (λx a' _=>a'={tmps:=T x,defers:=[]}) (λ_ _ _ _ _ _ hs _ _=>hs)
  (λl _ x W K hi hK=>xj l x W K (hK _ _ (KeepsFrom.refl _ _) (hKr _) hi rfl))
  (λl pre x a' W _ _ hi ha hN=>by subst ha;exact LF l pre x W hi hN)
  LL (λ_ _ _ _ _ _ h _=>h.elim)
theorem rY (P:Nat->Prop) (Bn n₀:Nat) (A:Option Addr) (ls:List Nat) (cap:Nat) (hP:∀i∈ls,P i) (hlen:ls.length<=100000) (n:Nat) (hn:1<=n) (w:Aj)
  (js:w.heap[Bn]? =Af (Obj.cells #[Ad A ls.length cap] 38 (0,0))) (vy:n₀<=w.heap.size) (hc:∀j (hj:j<ls.length),∃b o,A=Af ⟨b,o,Ae⟩/\b<n₀/\w.cell? ⟨b,o+j,Ae⟩=Af (Aa Ab (ls[j]:Nat))):
  SeqStopsK Fence.wide n Do 103 #[.pointer (Af ⟨Bn,0,Ae⟩)] (bwE (P:=P)) (Mo n₀ Bn) (λys=>ys=bwL P ls hP) (λ_=>True) ls.length w:=λl J Jx W hW _ _ hY h0=>
 Be2 P Bn n₀ A ls cap hP hlen l n hn J Jx W hY (kept hW js (Au.1 js).1) (Nat.le_trans vy hW.size) (λj hj=>by
  obtain⟨b,o,e,hb,fy⟩:=hc j hj;exact⟨b,o,e,hb,(hW.cell (p:=⟨b,o+j,Ae⟩) (by show b<_;omega)).trans fy⟩) h0
end Go.Proofs.YtlgkpdfieaadaaaGreatDoor
namespace Go.Proofs.YtlgkpdfieaadaaaGreatDoor
open Go.RowKit
theorem Ay8:(Tryz.prog.info? 199).map (λi=>(i.zero,i.size,i.bytes))=Af (Af (Ad Ae 0 0),1,24):=Gw
theorem fU {w:Aj} {g i:Nat} {cs:Array Ak} {t:Cj} {v:Ak} (h:w.heap[g]? =Af (.cells cs t (0,0))):(w.setCell ⟨g,i,Ae⟩ v).heap[g]? =Af (.cells (cs.setIfInBounds i v) t (0,0)):=by
 rw[setCell_eq_setRow w g i cs t (0,0) v h];unfold World.setRow;rw[Df,Hd rfl,h];rfl
theorem Is {w:Aj} {g i k:Nat} {v:Ak} (h:k≠g):(w.setCell ⟨g,i,Ae⟩ v).heap[k]? =w.heap[k]? :=by
 simp[World.setCell,Df,Ne.symm h]
theorem Vf (z:Ak) (n:Nat) (hc:z.cells= #[z]):madeCells z.cells n=(Ba n z).toArray:=by
 rw[hc];apply Array.ext
 ·simp[madeCells]
 ·intro i h1 h2;simp[madeCells,Nat.mod_one]
theorem iN (n:Nat) (h:n<=1000) (w:Aj):(Instr.makeSlice 128 (Aa Ab n) (Aa Ab n)).run Do w= .ok (Ad (Af ⟨w.heap.size,0,Ae⟩) n n) (w.alloc (.cells (Ba n (Ad Ae 0 0)).toArray 199)):=by
 obtain⟨i0,eh,dp,ap,ca⟩:=info_parts Ay8;have:=run_makeSlice (P:=Do) w 128 199 i0 _ Tryz.underlying128 eh dp .i64 .i64 n n Gu Gu (by rw[ap];simp;omega) (by rw[ca];omega) Gu;rw[ap,Db,Eu,Vf _ n rfl]at this;exact this
theorem Ae7:(Tryz.prog.info? 166).map (λi=>(i.zero,i.size,i.bytes))=Af (Af (Aa Ac 0),1,1):=Gw
theorem eY (n:Nat) (h:n<=1000) (w:Aj):(Instr.makeSlice 199 (Aa Ab n) (Aa Ab n)).run Do w= .ok (Ad (Af ⟨w.heap.size,0,Ae⟩) n n) (w.alloc (.cells (Ba n (Aa Ac 0)).toArray 166)):=by
 obtain⟨i0,eh,dp,ap,ca⟩:=info_parts Ae7;have:=run_makeSlice (P:=Do) w 199 166 i0 _ Tryz.underlying199 eh dp .i64 .i64 n n Gu Gu (by rw[ap];simp;omega) (by rw[ca];omega) Gu;rw[ap,Db,Eu,Vf _ n rfl]at this;exact this
def lV (n b:Nat):Ak:= Ad (Af ⟨b,0,Ae⟩) n n
def rH (n:Nat):Obj:= .cells (Ba n (Value.int .u8 0)).toArray 166
def Ta (n M k y:Nat):Obj:= .cells (((Dr y).map λi=>lV k (M+i))++Ba (n-y) (Value.slice Ae 0 0)).toArray 199
structure aC (w:Aj) (g n M k y:Nat):Prop where
 hd:w.heap[g]? =Af (Ta n M k y)
 row:∀i,i<y->w.heap[M+i]? =Af (rH k)
theorem eG {w:Aj} {g n M k y:Nat} (h:w.heap[g]? =Af (Ta n M k y)) (hy:y<n):w.cell? ⟨g,y,Ae⟩=Af (Ad Ae 0 0)/\w.frozen? ⟨g,y,Ae⟩=false:=by
 unfold Ta at h
 constructor
 ·rw[By _ _ y _ _ _ h];obtain⟨m,rfl⟩:∃m,n=y+1+m:=⟨n-y-1,Gu⟩;rw[show y+1+m-y=m+1 by omega,List.replicate_succ];simp
 ·simp[World.frozen?,h]
theorem Ac5 {n M k y:Nat} (hy:y<n):(((Dr y).map λi=>lV k (M+i))++Ba (n-y) (Value.slice Ae 0 0)).toArray.setIfInBounds y (lV k (M+y))=(((Dr (y+1)).map λi=>lV k (M+i))++Ba (n-(y+1)) (Value.slice Ae 0 0)).toArray:=by
 obtain⟨m,rfl⟩:∃m,n=y+1+m:=⟨n-y-1,Gu⟩;rw[show y+1+m-y=m+1 by omega,show y+1+m-(y+1)=m by omega,List.replicate_succ,List.range_succ,List.map_append];simp
theorem Kn (n M k:Nat):Ta n M k 0= .cells (Em n (Value.slice Ae 0 0)) 199:=by simp[Ta]
theorem Mw (w:Aj) (o0 o1 o2 o3:Obj):((((w.alloc o0).alloc o1).alloc o2).alloc o3).drew.heap[w.heap.size]? =Af o0/\((((w.alloc o0).alloc o1).alloc o2).alloc o3).drew.heap[w.heap.size+1]? =Af o1/\
  ((((w.alloc o0).alloc o1).alloc o2).alloc o3).drew.heap[w.heap.size+1+1]? =Af o2/\((((w.alloc o0).alloc o1).alloc o2).alloc o3).drew.heap[w.heap.size+1+1+1]? =Af o3/\
  ((((w.alloc o0).alloc o1).alloc o2).alloc o3).drew.heap.size=w.heap.size+4/\Below w.heap.size w ((((w.alloc o0).alloc o1).alloc o2).alloc o3).drew:=by
 have hb:Below w.heap.size w ((((w.alloc o0).alloc o1).alloc o2).alloc o3).drew:=(((((Ag _ _).alloc (Am _) _).alloc Gx _).alloc Hu _).alloc Hu _).drew;have s1:(w.alloc o0).heap.size=w.heap.size+1:=Gx;have s2:((w.alloc o0).alloc o1).heap.size=w.heap.size+1+1:=Gx;have s3:(((w.alloc o0).alloc o1).alloc o2).heap.size=w.heap.size+1+1+1:=Gx;have a0:=Bz w o0;have a1:=Bz (w.alloc o0) o1;have a2:=Bz ((w.alloc o0).alloc o1) o2;have a3:=Bz (((w.alloc o0).alloc o1).alloc o2) o3;have b1:∀(v:Aj) (o:Obj),Below v.heap.size v (v.alloc o):=λv o=>(Ag _ _).alloc (Am _) o;have c0:=kept (b1 _ o3) (kept (b1 _ o2) (kept (b1 _ o1) a0 Gu) Gu) Gu;have c1:=kept (b1 _ o3) (kept (b1 _ o2) a1 Gu) Gu;have c2:=kept (b1 _ o3) a2 Gu;rw[s1]at c1;rw[s2]at c2;rw[s3]at a3;exact⟨c0,c1,c2,a3,Gx,hb⟩
def Qc (wr:Aj) (g y k:Nat):Aj:=((wr.setCell ⟨g,y,Ae⟩ (Ad (Af ⟨wr.heap.size,0,Ae⟩) k k)).alloc (.cells (Em k (Value.int .u8 0)) 166)).drew
theorem fZ (wr:Aj) (g y k:Nat):(Qc wr g y k).heap.size=wr.heap.size+1:=by simp[Qc]
theorem jG {wr:Aj} {g y k j:Nat} (hj:j<wr.heap.size):(Qc wr g y k).heap[j]? =(wr.setCell ⟨g,y,Ae⟩ (Ad (Af ⟨wr.heap.size,0,Ae⟩) k k)).heap[j]? :=by
 unfold Qc;exact((Ag _ _).alloc (Am _) _:Below (wr.setCell ⟨g,y,Ae⟩ (Ad (Af ⟨wr.heap.size,0,Ae⟩) k k)).heap.size _ _).block j (by simpa using hj)
theorem Od {wr:Aj} {g y k j:Nat} (hj:j<wr.heap.size) (hne:j≠g):(Qc wr g y k).heap[j]? =wr.heap[j]? :=(jG hj).trans (Is hne)
theorem Ak2 (wr:Aj) (g y k:Nat):(Qc wr g y k).heap[wr.heap.size]? =Af (rH k):=by
 have:=Bz (wr.setCell ⟨g,y,Ae⟩ (Ad (Af ⟨wr.heap.size,0,Ae⟩) k k)) (.cells (Em k (Value.int .u8 0)) 166);rw[World.size_setCell]at this;unfold Qc rH;rw[Gi];exact this
theorem aC.step {wr:Aj} {g n M k y:Nat} (h:aC wr g n M k y) (hy:y<n) (hs:wr.heap.size=M+y) (hg:g<M):aC (Qc wr g y k) g n M k (y+1):=by
 refine⟨?_,λi hi=>?_⟩
 ·rw[jG Gu];have:=fU (i:=y) (v:= Ad (Af ⟨wr.heap.size,0,Ae⟩) k k) h.hd;rw[this];have e:=Ac5 (M:=M) (k:=k) hy;unfold lV at e;unfold Ta lV;rw[hs,e]
 ·by_cases e:i=y
  ·subst e;rw[<-hs];exact Ak2 _ _ _ _
  ·rw[Od Gu Gu];exact h.row i Gu
theorem aC.far {wr wx:Aj} {g n M k y:Nat} (h:aC wr g n M k y) (hg:wx.heap[g]? =wr.heap[g]?) (hr:∀i,i<y->wx.heap[M+i]? =wr.heap[M+i]?):aC wx g n M k y:=⟨hg.trans h.hd,λi hi=>(hr i hi).trans (h.row i hi)⟩
theorem cK {w wr:Aj} {g y k:Nat} (h:Below w.heap.size w wr) (hg:w.heap.size<=g):Below w.heap.size w (Qc wr g y k):=((h.setCell hg _).alloc (by simpa using h.size) _).drew
def Al9 (W1 H1:Nat) (w:Aj) (e:Ending) (w':Aj):Prop:=
 ∃gR gU M,gR≠gU/\w.heap.size<=gR/\gR<M/\w.heap.size<=gU/\gU<M/\e= .returned (.agg #[Aa Ab (W1+1:Nat),Aa Ab (H1+1:Nat),Ad (Af ⟨gR,0,Ae⟩) (H1+1) (H1+1),Ad (Af ⟨gU,0,Ae⟩) H1 H1])/\
  aC w' gR (H1+1) M W1 (H1+1)/\aC w' gU H1 (M+(H1+1)) (W1+1) H1/\w'.heap.size=M+(H1+1)+H1/\Below w.heap.size w w'
theorem Aa4 (W1 H1:Nat) (w:Aj) (hW:W1<=20) (hH:H1<=20):
  Al Do 101 #[Aa Ab (W1+1:Nat),Aa Ab (H1+1:Nat)] w (Al9 W1 H1 w):=by
 obtain⟨W,hWe⟩:=ez (W1+1);obtain⟨H,hHe⟩:=ez (H1+1);rw[<-hWe,<-hHe];have HWE:=Ah hWe;have HHE:=Ah hHe;have m1:=iN H Gu;have m2:=iN H1 Gu;have m3:=eY W1 Gu;have m4:=eY W Gu;have e1:Ab.wrap ((H:Int)-1)=(H1:Int):=by rw[Ca _ Gu];omega
 have e2:Ab.wrap ((W:Int)-1)=(W1:Int):=by rw[Ca _ Gu];omega
 simp only[Gi]at m1 m2 m3 m4;have CX:H<=21:=Gu;clear hWe hHe;go_enter Tryz.func101,Tryz.ntmps101;go_upto_region 1 with fail;obtain⟨N,hN⟩:=ez w.heap.size;go_cut [5]from 5 to 15 (λs5 wx=>∃g5 gR gU,s5= .pointer (Af ⟨g5,0,Ae⟩)/\N<g5/\N<gR/\N<gU/\g5≠gR/\g5≠gU/\gR≠gU/\g5<N+4/\gR<N+4/\gU<N+4/\wx.heap.size=N+4/\wx.heap[g5]? =Af (.cells #[W,H,Ad (Af ⟨gR,0,Ae⟩) H H,Ad (Af ⟨gU,0,Ae⟩) H1 H1] 130 (0,0))/\wx.heap[gR]? =Af (Ta H (N+4) W1 0)/\wx.heap[gU]? =Af (Ta H1 (N+4+H) W 0)/\(∃o,wx.heap[N]? =Af (.cells o 130 (0,0))/\o.size=4)/\Below w.heap.size w wx)
 case first=>
  go_region
  all_goals
   go_wp2;go_meet;subst hN
   first
   |exact⟨w.heap.size+1,w.heap.size+1+1,w.heap.size+1+1+1,rfl,Gu,Gu,Gu,Gu,Gu,Gu,Gu,Gu,Gu,(Mw w _ _ _ _).2.2.2.2.1,(Mw w _ _ _ _).2.1,by rw[Kn];exact(Mw w _ _ _ _).2.2.1,by rw[Kn];exact(Mw w _ _ _ _).2.2.2.1,⟨_,(Mw w _ _ _ _).1,rfl⟩,(Mw w _ _ _ _).2.2.2.2.2⟩
   |exact⟨w.heap.size+1,w.heap.size+1+1+1,w.heap.size+1+1,rfl,Gu,Gu,Gu,Gu,Gu,Gu,Gu,Gu,Gu,(Mw w _ _ _ _).2.2.2.2.1,(Mw w _ _ _ _).2.1,by rw[Kn];exact(Mw w _ _ _ _).2.2.2.1,by rw[Kn];exact(Mw w _ _ _ _).2.2.1,⟨_,(Mw w _ _ _ _).1,rfl⟩,(Mw w _ _ _ _).2.2.2.2.2⟩
   |exact⟨w.heap.size+1+1,w.heap.size+1,w.heap.size+1+1+1,rfl,Gu,Gu,Gu,Gu,Gu,Gu,Gu,Gu,Gu,(Mw w _ _ _ _).2.2.2.2.1,(Mw w _ _ _ _).2.2.1,by rw[Kn];exact(Mw w _ _ _ _).2.1,by rw[Kn];exact(Mw w _ _ _ _).2.2.2.1,⟨_,(Mw w _ _ _ _).1,rfl⟩,(Mw w _ _ _ _).2.2.2.2.2⟩
   |exact⟨w.heap.size+1+1,w.heap.size+1+1+1,w.heap.size+1,rfl,Gu,Gu,Gu,Gu,Gu,Gu,Gu,Gu,Gu,(Mw w _ _ _ _).2.2.2.2.1,(Mw w _ _ _ _).2.2.1,by rw[Kn];exact(Mw w _ _ _ _).2.2.2.1,by rw[Kn];exact(Mw w _ _ _ _).2.1,⟨_,(Mw w _ _ _ _).1,rfl⟩,(Mw w _ _ _ _).2.2.2.2.2⟩
   |exact⟨w.heap.size+1+1+1,w.heap.size+1,w.heap.size+1+1,rfl,Gu,Gu,Gu,Gu,Gu,Gu,Gu,Gu,Gu,(Mw w _ _ _ _).2.2.2.2.1,(Mw w _ _ _ _).2.2.2.1,by rw[Kn];exact(Mw w _ _ _ _).2.1,by rw[Kn];exact(Mw w _ _ _ _).2.2.1,⟨_,(Mw w _ _ _ _).1,rfl⟩,(Mw w _ _ _ _).2.2.2.2.2⟩
   |exact⟨w.heap.size+1+1+1,w.heap.size+1+1,w.heap.size+1,rfl,Gu,Gu,Gu,Gu,Gu,Gu,Gu,Gu,Gu,(Mw w _ _ _ _).2.2.2.2.1,(Mw w _ _ _ _).2.2.2.1,by rw[Kn];exact(Mw w _ _ _ _).2.2.1,by rw[Kn];exact(Mw w _ _ _ _).2.1,⟨_,(Mw w _ _ _ _).1,rfl⟩,(Mw w _ _ _ _).2.2.2.2.2⟩
 obtain⟨g5,gR,gU,rfl,l5,lR,lU,n5R,n5U,nRU,k5,kR,kU,ir,h5,hR,hU,⟨o4,h4,IE⟩,hbV⟩:=hcut;obtain⟨M,hM⟩:=ez (N+4);rw[<-hM]at hR hU k5 kR kU ir;have HM4:=Ah hM;have HN:=Ah hN;have H4:=Ah h4;have H5:=Ah h5;have HR:=Ah hR;have HU:=Ah hU;have NRU:=Ah nRU;have N5R:=Ah n5R;have N5U:=Ah n5U;clear hM hN h4 hR hU nRU n5R n5U;obtain⟨⟨x0,x1,x2,x3⟩,_⟩:=Jm h5;clear h5;go_wp2
 go_loopw [6,19] (λ_ s19 wr=>∃y:Nat,y<=H/\s19= Aa Ab y/\wr.heap.size=M+y/\Hid (wr.heap[N]? =Af (.cells o4 130 (0,0)))/\Hid (wr.heap[g5]? =Af (.cells #[W,H,Ad (Af ⟨gR,0,Ae⟩) H H,Ad (Af ⟨gU,0,Ae⟩) H1 H1] 130 (0,0)))/\Hid (wr.heap[gU]? =Af (Ta H1 (M+H) W 0))/\Hid (aC wr gR H M W1 y)/\Below w.heap.size w wr) (λ_ s19 _=>H-(intOf s19).toNat)
 case atStart=>exact⟨0,Gu,rfl,ir,H4,H5,HU,Ah ⟨HR.out,λi hi=>Gu⟩,hbV⟩
 clear x0 x1 x2 x3;obtain⟨y,hy,rfl,ye,G4,G5,GU,GL,jx⟩:=hrel;obtain⟨⟨x0,x1,x2,x3⟩,_⟩:=Jm G5.out;by_cases ad:y<H
 ·have q1:(y:Int)<(H:Int):=Gu;obtain⟨c1,c2⟩:=eG GL.out.hd ad;have mu:gR<wr.heap.size:=Gu;have du:g5<wr.heap.size:=Gu;have om:=Ah ye;clear ye;go_wp2
  go_region
  change Exit.inBlock 1 _ _ _ (Qc wr gR y W1);have T4:=Ah ((Od (g:=gR) (y:=y) (k:=W1) (oHx om.out) Gu).trans G4.out);have T5:=Ah ((Od (g:=gR) (y:=y) (k:=W1) du N5R.out).trans G5.out);have TU:=Ah ((Od (g:=gR) (y:=y) (k:=W1) (oHx om.out) (Ne.symm NRU.out)).trans GU.out);have TL:=Ah (GL.out.step ad om.out kR);have TB:Below w.heap.size w (Qc wr gR y W1):=cK jx (oHx HN.out);have TS:(Qc wr gR y W1).heap.size=M+(y+1):=by rw[fZ,om.out];omega
  generalize Qc wr gR y W1=wt at T4 T5 TU TL TB TS⊢;clear G4 G5 GU GL jx x0 x1 x2 x3 c1 c2;go_wp2
  go_roundw
  case rel=>exact⟨y+1,Gu,by go_num,TS,T4,T5,TU,TL,TB⟩
  case measure=>simp[intOf];omega
 ·have q1:¬(y:Int)<(H:Int):=Gu;obtain rfl:H=y:=Gu;have om:=Ah ye;clear ye;go_wp2_with fail;obtain⟨wo,rfl⟩:∃wo:Aj,wo=wr:=⟨_,rfl⟩
  go_loopw [7,33] (λ_ s33 wr=>∃y:Nat,y<=H1/\s33= Aa Ab y/\wr.heap.size=M+H+y/\Hid (wr.heap[N]? =Af (.cells o4 130 (0,0)))/\Hid (wr.heap[g5]? =Af (.cells #[W,H,Ad (Af ⟨gR,0,Ae⟩) H H,Ad (Af ⟨gU,0,Ae⟩) H1 H1] 130 (0,0)))/\Hid (aC wr gR H M W1 H)/\Hid (aC wr gU H1 (M+H) W y)/\Below w.heap.size w wr) (λ_ s33 _=>H1-(intOf s33).toNat)
  case atStart=>exact⟨0,Gu,rfl,om.out,G4,G5,GL,Ah ⟨GU.out,λi hi=>Gu⟩,jx⟩
  clear x0 x1 x2 x3;obtain⟨y,hy,rfl,ye,G4,G5,GL,GU,jx⟩:=hrel;obtain⟨⟨x0,x1,x2,x3⟩,_⟩:=Jm G5.out;by_cases ad:y<H1
  ·have q1:(y:Int)<(H1:Int):=Gu;obtain⟨c1,c2⟩:=eG GU.out.hd ad;have mu:gU<wr.heap.size:=Gu;have du:g5<wr.heap.size:=Gu;have om:=Ah ye;clear ye;go_wp2
   go_region
   change Exit.inBlock 3 _ _ _ (Qc wr gU y W);have T4:=Ah ((Od (g:=gU) (y:=y) (k:=W) (oHx om.out) Gu).trans G4.out);have T5:=Ah ((Od (g:=gU) (y:=y) (k:=W) du N5U.out).trans G5.out);have TL:=Ah (GL.out.far (Od (g:=gU) (y:=y) (k:=W) (oHx om.out) NRU.out) (λi hi=>Od (g:=gU) (y:=y) (k:=W) (oHx om.out) Gu));have TU:=Ah (GU.out.step ad om.out Gu);have TB:Below w.heap.size w (Qc wr gU y W):=cK jx (oHx HN.out);have TS:(Qc wr gU y W).heap.size=M+H+(y+1):=by rw[fZ,om.out];omega
   generalize Qc wr gU y W=wt at T4 T5 TU TL TB TS⊢;clear G4 G5 GU GL jx x0 x1 x2 x3 c1 c2;go_wp2
   go_roundw
   case rel=>exact⟨y+1,Gu,by go_num,TS,T4,T5,TL,TU,TB⟩
   case measure=>simp[intOf];omega
  ·have q1:¬(y:Int)<(H1:Int):=Gu;obtain rfl:H1=y:=Gu;obtain rfl:=HN.out;have om:=Ah ye;clear ye
   obtain⟨r0,r1,r2,r3,rfl⟩:∃r0 r1 r2 r3,o4= #[r0,r1,r2,r3]:=by
    obtain⟨l⟩:=o4
    match l,IE with
    |[a,b,c,d],_=>exact⟨a,b,c,d,rfl⟩
   obtain⟨⟨y0,y1,y2,y3⟩,⟨f0,f1,f2,f3⟩⟩:=Jm G4.out;go_wp2_with fail;refine Ai (v:= .agg #[W,H,Ad (Af ⟨gR,0,Ae⟩) H H,Ad (Af ⟨gU,0,Ae⟩) H1 H1]) (by simp[results,Tryz.results101,go_sem,y0,y1,y2,y3]) rfl ?_;have RG:∀j,j≠w.heap.size->((((wr.setCell ⟨w.heap.size,0,Ae⟩ (Aa Ab W)).setCell ⟨w.heap.size,1,Ae⟩ (Aa Ab H)).setCell ⟨w.heap.size,2,Ae⟩ (Ad (Af ⟨gR,0,Ae⟩) H H)).setCell ⟨w.heap.size,3,Ae⟩ (Ad (Af ⟨gU,0,Ae⟩) H1 H1)).heap[j]? =wr.heap[j]? :=λj hj=>by rw[Is hj,Is hj,Is hj,Is hj]
   obtain rfl:=HWE.out;obtain rfl:=HHE.out;refine⟨gR,gU,M,NRU.out,Gu,kR,Gu,kU,rfl,GL.out.far (RG _ Gu) (λi hi=>RG _ Gu),GU.out.far (RG _ Gu) (λi hi=>RG _ Gu),by simp[om.out],?_⟩;exact(((jx.setCell (Am _) _).setCell (Am _) _).setCell (Am _) _).setCell (Am _) _
def Cr.odd (r:Cr):Bool:=decide (r.e≠0)||decide (r.k=3)
abbrev Mtx:=Nat->Nat->Int
def uF (m:Mtx) (y x:Nat) (k:Int):Mtx:=λi j=>if i=y/\j=x then k else m i j
theorem uH {a b c:Int} (hs:okS a b=true) (h:Ig a b c 0=(c,0,0)):0<=c/\c<4*a*b/\((c%4=1/\c/4%a+1<a)∨(c%4=2/\c/4/a+1<b)):=by
 obtain⟨m1,m2,m3,m4,m5,m6⟩:=Mg hs;unfold Ig at h
 split at h
 ·rename_i h0
  have hle:c<=(nbI a b c 0).1:=by
   have:=congrArg (λp:Int×Int×Int=>p.1) h;dsimp only at this;omega
  cases hh:Sz a b c with
  |false=>
   exfalso;unfold nbI at h0;rw[hh]at h0;simp at h0
  |true=>
   have hc:=Ot.1 hh;refine⟨hc.1,hc.2,?_⟩;have hq:c%4=0∨c%4=1∨c%4=2∨c%4=3:=Gu;have e1:=Int.emod_add_mul_ediv (c/4) a;have e2:a*(c/4/a)=c/4/a*a:=Int.mul_comm _ _;unfold nbI at h0 hle;rw[hh,Gz Ha]at h0 hle
   split at h0
   ·rename_i h1;rw[Hd h1]at hle;unfold nbr at h0 h1 hle
    split at h1
    ·simp at h1
    ·rename_i g1;rw[Gz g1]at h0 hle
     split at h1
     ·rename_i g2;rw[Hd g2]at h0 hle;unfold idI at h0 hle
      split at h0
      ·rename_i g3;rw[Hd g3]at hle;unfold inS at g3;rcases hq with hq|hq|hq|hq
       ·exfalso;rw[hq]at hle;simp[nxt,Int.add_mul]at hle;omega
       ·rw[hq]at g3;simp[nxt]at g3;omega
       ·rw[hq]at g3;simp[nxt]at g3;omega
       ·exfalso;rw[hq]at hle;simp[nxt]at hle;omega
      ·simp at h0
     ·simp at h1
   ·simp at h0
 ·rename_i h0;have:=congrArg (λp:Int×Int×Int=>p.2.2) h;dsimp only at this;exact absurd this h0
def lT (k:Nat) (m:Nat->Int):Obj:= .cells ((Dr k).map λx=>Value.int .u8 (m x)).toArray 166
theorem jL (k:Nat):rH k=lT k λ_=>0:=by
 unfold rH lT
 congr 2
 apply Gj
 ·simp
 ·intro i h1 h2;simp
structure Ru (wr:Aj) (gR gU M W1 H1:Nat) (s:Mtx×Mtx):Prop where
 hR:wr.heap[gR]? =Af (Ta (H1+1) M W1 (H1+1))
 hU:wr.heap[gU]? =Af (Ta H1 (M+(H1+1)) (W1+1) H1)
 rR:∀i,i<H1+1->wr.heap[M+i]? =Af (lT W1 (s.1 i))
 rU:∀i,i<H1->wr.heap[M+(H1+1)+i]? =Af (lT (W1+1) (s.2 i))
theorem Ru.of {wr:Aj} {gR gU M W1 H1:Nat} (h1:aC wr gR (H1+1) M W1 (H1+1)) (h2:aC wr gU H1 (M+(H1+1)) (W1+1) H1):Ru wr gR gU M W1 H1 (λ_ _=>0,λ_ _=>0):=
 ⟨h1.hd,h2.hd,λi hi=>(h1.row i hi).trans (congrArg Af (jL _)),λi hi=>(h2.row i hi).trans (congrArg Af (jL _))⟩
theorem Ru.same {wr wx:Aj} {gR gU M W1 H1:Nat} {s:Mtx×Mtx} (h:Ru wr gR gU M W1 H1 s) (lo:Nat) (hi:Nat) (h1:lo<=gR/\gR<M) (h2:lo<=gU/\gU<M) (h3:M+(H1+1)+H1<=hi) (hk:∀j,lo<=j->j<hi->wx.heap[j]? =wr.heap[j]?):Ru wx gR gU M W1 H1 s:=
 ⟨(hk _ h1.1 Gu).trans h.hR,(hk _ h2.1 Gu).trans h.hU,λi hi=>(hk _ Gu Gu).trans (h.rR i hi),λi hi=>(hk _ Gu Gu).trans (h.rU i hi)⟩
theorem qL {k x:Nat} {m:Nat->Int} {v:Int} {w:Aj} {g:Nat} (h:w.heap[g]? =Af (lT k m)):(w.setCell ⟨g,x,Ae⟩ (Aa Ac v)).heap[g]? =Af (lT k λj=>if j=x then v else m j):=by
 unfold lT at h⊢;rw[fU h]
 congr 2
 apply Array.ext
 ·simp
 ·intro i h1 h2;simp only[Array.size_setIfInBounds,Fp,List.length_map,Co]at h1;rw[Array.getElem_setIfInBounds (by simpa using h1)];by_cases hx:x=i
  ·subst hx;simp
  ·rw[Gz hx];simp[Ne.symm hx]
theorem jA {k x:Nat} {m:Nat->Int} {w:Aj} {g:Nat} (h:w.heap[g]? =Af (lT k m)) (hx:x<k):w.cell? ⟨g,x,Ae⟩=Af (Aa Ac (m x))/\w.frozen? ⟨g,x,Ae⟩=false:=by
 unfold lT at h
 constructor
 ·rw[By _ _ x _ _ _ h];simp[hx]
 ·simp[World.frozen?,h]
theorem iE {w:Aj} {g n M k y:Nat} (h:w.heap[g]? =Af (Ta n M k n)) (hy:y<n):w.cell? ⟨g,y,Ae⟩=Af (lV k (M+y)):=by
 unfold Ta at h;rw[By _ _ y _ _ _ h];simp[hy]
theorem Ru.setR {wr:Aj} {gR gU M W1 H1:Nat} {s:Mtx×Mtx} (h:Ru wr gR gU M W1 H1 s) (h1:gR<M) (h2:gU<M) (y x:Nat) (hy:y<H1+1) (v:Int):Ru (wr.setCell ⟨M+y,x,Ae⟩ (Aa Ac v)) gR gU M W1 H1 (uF s.1 y x v,s.2):=by
 refine⟨(Is Gu).trans h.hR,(Is Gu).trans h.hU,λi hi=>?_,λi hi=>(Is Gu).trans (h.rU i hi)⟩;by_cases e:i=y
 ·subst e;rw[qL (h.rR i hi)];unfold uF;simp
 ·rw[Is Gu,h.rR i hi];unfold uF;simp[e]
theorem Ru.setU {wr:Aj} {gR gU M W1 H1:Nat} {s:Mtx×Mtx} (h:Ru wr gR gU M W1 H1 s) (h1:gR<M) (h2:gU<M) (y x:Nat) (hy:y<H1) (v:Int):Ru (wr.setCell ⟨M+(H1+1)+y,x,Ae⟩ (Aa Ac v)) gR gU M W1 H1 (s.1,uF s.2 y x v):=by
 refine⟨(Is Gu).trans h.hR,(Is Gu).trans h.hU,λi hi=>(Is Gu).trans (h.rR i hi),λi hi=>?_⟩;by_cases e:i=y
 ·subst e;rw[qL (h.rU i hi)];unfold uF;simp
 ·rw[Is Gu,h.rU i hi];unfold uF;simp[e]
theorem Bx.same {w wr w2:Aj} {l:List (Nat×Array Ak×Cj)} (h:Bx w l wr) (hb:Below w.heap.size w w2) (hk:∀(i g:Nat) (cs:Array Ak) (t:Cj),l[i]? =Af (g,cs,t)->w2.heap[g]? =wr.heap[g]?):Bx w l w2:=
 ⟨hb,λi g cs t hi=>(hk i g cs t hi).trans (h.blk i g cs t hi),h.lo,h.inj⟩
def Br0 (w:Aj) (e:Ending) (w':Aj):Prop:=Below w.heap.size w w'/\∃(a b:Int) (gR gU W1 H1:Nat),e= .returned (.tuple #[.agg #[a,b,Ad (Af ⟨gR,0,Ae⟩) (H1+1) (H1+1),Ad (Af ⟨gU,0,Ae⟩) H1 H1],Aa Ab 0])
def Bq3 (a b:Int) (W1 H1:Nat) (w:Aj) (e:Ending) (w':Aj):Prop:=
 ∃gR gU M,gR≠gU/\w.heap.size<=gR/\gR<M/\w.heap.size<=gU/\gU<M/\e= .returned (.agg #[a,b,Ad (Af ⟨gR,0,Ae⟩) (H1+1) (H1+1),Ad (Af ⟨gU,0,Ae⟩) H1 H1])/\
  Ru w' gR gU M W1 H1 (λ_ _=>0,λ_ _=>0)/\w'.heap.size=M+(H1+1)+H1/\Below w.heap.size w w'
theorem Bk4 {a b c e:Int} (h:Ig a b c e=(c,e,0)):0<=c/\c<4*a*b:=by
 unfold Ig at h
 split at h
 ·rename_i h0
  cases hh:Sz a b c with
  |true=>exact Ot.1 hh
  |false=>
   unfold nbI at h0;rw[hh]at h0;simp at h0
 ·rename_i h0;exact absurd (congrArg (λp:Int×Int×Int=>p.2.2) h) h0
theorem sD {a b:Int} (W1 H1:Nat) (ha:a=(W1+1:Nat)) (hb:b=(H1+1:Nat)) (hW:W1<=20) (hH:H1<=20) (w:Aj):Al Do 101 #[a,b] w (Bq3 a b W1 H1 w):=by
 subst ha hb;refine(Aa4 W1 H1 w hW hH).mono ?_;rintro e w' ⟨gR,gU,M,h1,h2,h3,h4,h5,h6,h7,h8,h9,BC⟩;exact⟨gR,gU,M,h1,h2,h3,h4,h5,h6,.of h7 h8,h9,BC⟩
structure gG (w:Aj) (w1:Nat) (bl:List (Nat×Array Ak×Cj)) (a b:Int) (gR gU M W1 H1 V:Nat) (wr:Aj):Prop where
 bx:Bx w (bl++[(V,#[Aa Ab a,Aa Ab b,Ad (Af ⟨gR,0,Ae⟩) (H1+1) (H1+1),Ad (Af ⟨gU,0,Ae⟩) H1 H1],130)]) wr
 at':∃s,Ru wr gR gU M W1 H1 s
 lo:w1<=gR/\gR<M/\w1<=gU/\gU<M
 hi:M+(H1+1)+H1<=V
 old:∀(i g:Nat) (cs:Array Ak) (t:Cj),bl[i]? =Af (g,cs,t)->g<w1
 base:w.heap.size<=w1
theorem gG.put {w:Aj} {w1:Nat} {bl:List (Nat×Array Ak×Cj)} {a b:Int} {gR gU M W1 H1 V:Nat} {wr:Aj} (h:gG w w1 bl a b gR gU M W1 H1 V wr) {g:Nat} (hg:M<=g/\g<M+(H1+1)+H1) (x:Nat) (v:Ak) (hm:∃s,Ru (wr.setCell ⟨g,x,Ae⟩ v) gR gU M W1 H1 s):gG w w1 bl a b gR gU M W1 H1 V (wr.setCell ⟨g,x,Ae⟩ v):=by
 refine⟨h.bx.same (h.bx.below.setCell (by have h1:=h.base;have h2:=h.lo;show w.heap.size<=g;omega) v) λi g' cs t hi=>Is ?_,hm,h.lo,h.hi,h.old,h.base⟩;intro e;subst e;by_cases hl:i<bl.length
 ·rw[List.getElem?_append_left hl]at hi;have:=h.old i g' cs t hi;have:=h.lo;omega
 ·rw[Ee Gu]at hi;have BM:=List.mem_of_getElem? hi;simp at BM;have:=h.hi;omega
theorem gG.call {w:Aj} {w1:Nat} {bl:List (Nat×Array Ak×Cj)} {a b:Int} {gR gU M W1 H1 V:Nat} {wr wx:Aj} (h:gG w w1 bl a b gR gU M W1 H1 V wr) (hb:Below wr.heap.size wr wx):gG w w1 bl a b gR gU M W1 H1 V wx:=by
 have hv:V<wr.heap.size:=h.bx.lt bl.length (g:=V) (cs:=#[Aa Ab a,Aa Ab b,Ad (Af ⟨gR,0,Ae⟩) (H1+1) (H1+1),Ad (Af ⟨gU,0,Ae⟩) H1 H1]) (t:=130) (by rw[Ee (Am _),Nat.sub_self];rfl);have:=h.lo;have:=h.hi;exact⟨h.bx.call hb,(h.at'.imp λ_ h=>h.same 0 (M+(H1+1)+H1) ⟨Gu,Gu⟩ ⟨Gu,Gu⟩ (Am _) λj _ hj=>hb.block j Gu),h.lo,h.hi,h.old,h.base⟩
theorem pL {n k:Nat} (h:k<n):n-(intOf (Aa Ab ((k:Int)+1))).toNat<n-(intOf (Aa Ab (k:Int))).toNat:=by
 show n-((k:Int)+1).toNat<n-((k:Int)).toNat;omega
theorem pG (a b:Int) (A:Option Addr) (cr:List Cr) (n c:Nat) (w:Aj) (hn:n=cr.length) (h:Rd w A 3 n (crs cr)) (hp:Lq a b cr) (hA:a<=16) (hB:b<=16) (F0:∀r∈cr,r.odd=false) (hQ:Qf w):
  Al Do 53 #[.agg #[a,b,Ad A n c]] w (Br0 w):=by
 have TZ:=Ah (λ(w':Aj) (hb:Below w.heap.size w w')=>aY a b A cr n c w' hn (h.below hb) hp (hQ.below hb).qt);have dr:=Ah (λ(w':Aj) (hb:Below w.heap.size w w')=>show Rd w' A 3 cr.length (crs cr)by rw[<-hn];exact h.below hb);have HN:=Ah hn;have HP:=Ah hp;have H:=((Bx.start w).new #[a,b,Ad A n c] 28 rfl).new #[Aa Ab 0,Aa Ab 0,Ad Ae 0 0,Ad Ae 0 0] 130 (N:=w.heap.size+1) Gx;have jk:=Mg hp.sheet;have HOD:=Ah F0;clear hn h hp hQ F0;go_enter Tryz.func53,Tryz.ntmps53;go_upto_region 1 with fail;obtain⟨N,hN⟩:=ez w.heap.size;rw[<-hN]at H⊢;have db:=Ah hN;clear hN;generalize N+1=P at H⊢;generalize (w.alloc _).alloc _=W1 at H⊢;obtain⟨⟨a0,a1,a2⟩,-⟩:=He (H.b 0);go_wp2_with fail;refine(TZ.out _ H.below).mono ?_;rintro ee w2 ⟨rfl,hb⟩;have H2:=H.call hb;clear a0 a1 a2 H hb TZ;obtain⟨⟨a0,a1,a2⟩,-⟩:=He (H2.b 0);obtain⟨ua,ZW⟩:∃ua:Nat,a=(ua+1:Nat):=⟨(a-1).toNat,Gu⟩;obtain⟨H1,hH1⟩:∃H1:Nat,b=(H1+1:Nat):=⟨(b-1).toNat,Gu⟩;have hwb:ua<=15:=Gu;have LS:H1<=15:=Gu;have HWA:=Ah ZW;have HHB:=Ah hH1;have Y7:=Ah (λ(w':Aj)=>sD ua H1 ZW hH1 Gu Gu w');have hab2:=Mg HP.out.sheet;have HAB:=Ah jk;obtain⟨sb,BX⟩:∃z,0<z/\z=ua+1:=⟨_,Gu,rfl⟩;have qf:¬16<a:=Gu;have dl:¬16<b:=Gu;clear jk hab2 BX ZW hH1 hA hB;go_wp2_with fail;refine(Y7.out _).mono ?_;rintro ee w3 ⟨gR,gU,M,hRU,hR0,BJ,hU0,ZU,rfl,Y',ir,hb⟩;obtain⟨V,hV⟩:=ey w3.heap.size;have om:=Ah (show M+(H1+1)+H1=V by omega);clear ir;have jl:=(Ag w3.heap.size w3).alloc (Am _) (.cells #[a,b,Ad (Af ⟨gR,0,Ae⟩) (H1+1) (H1+1),Ad (Af ⟨gU,0,Ae⟩) H1 H1] 130);have H4:=(H2.call hb).new #[a,b,Ad (Af ⟨gR,0,Ae⟩) (H1+1) (H1+1),Ad (Af ⟨gU,0,Ae⟩) H1 H1] 130 hV;have vr:=H2.lt 0 rfl;have UZ:=H2.lt 1 rfl;have V6:=H2.below.size
 have fw:Hid (gG w w2.heap.size [(N,#[Aa Ab a,Aa Ab b,Ad A n c],28),(P,#[Aa Ab 0,Aa Ab 0,Ad Ae 0 0,Ad Ae 0 0],130)] a b gR gU M ua H1 V (w3.alloc (.cells #[a,b,Ad (Af ⟨gR,0,Ae⟩) (H1+1) (H1+1),Ad (Af ⟨gU,0,Ae⟩) H1 H1] 130))):=Ah
  ⟨H4,⟨_,Y'.same 0 (M+(H1+1)+H1) ⟨Gu,Gu⟩ ⟨Gu,Gu⟩ (Am _) (λj _ hj=>jl.block j (oHx om.out))⟩,⟨hR0,BJ,hU0,ZU⟩,Nat.le_of_eq om.out,(λi g cs t hi=>by
   have:=List.mem_of_getElem? hi;simp only[Bk,Prod.mk.injEq,Du,or_false]at this;omega),V6⟩
 clear a0 a1 a2 H2 hb Y' jl qf dl;go_upto_region 7 with fail
 try rw[hV]
 generalize w3.alloc _=W4 at H4 fw⊢;obtain⟨⟨-,-,a2⟩,-⟩:=He (H4.b 0);obtain⟨⟨g0,g1,g2,g3⟩,-⟩:=Jm (H4.b 1);clear H4;obtain⟨O,hO⟩:=ey w2.heap.size;rw[hO]at fw hR0 hU0 vr UZ V6;go_wp2
 go_loopw [38] (λs38 wr=>∃k:Nat,k<=n/\s38= Aa Ab k/\Hid (gG w O [(N,#[Aa Ab a,Aa Ab b,Ad A n c],28),(P,#[Aa Ab 0,Aa Ab 0,Ad Ae 0 0,Ad Ae 0 0],130)] a b gR gU M ua H1 V wr)) (λs38 _=>n-(intOf s38).toNat)
 case atStart=>exact⟨0,Gu,rfl,fw⟩
 obtain⟨k,hk,rfl,HZ⟩:=hrel;clear fw a2 g0 g1 g2 g3;have HM:=HZ.out;by_cases ad:k<n
 ·have q0:(k:Int)<(n:Int):=Gu;have bc:k<cr.length:=oHx HN.out;obtain⟨kb,ko,hA3,xv,t0,t1,t2⟩:=Xi (dr.out _ HM.bx.below) k bc;have jw:=HP.out.name cr[k] (Ay bc);have F0:=HOD.out cr[k] (Ay bc);obtain⟨⟨rc,re,rk⟩,hr⟩:=ey (cr[k]);have HR:=Ah hr;rw[hr]at t0 t1 t2 jw F0;dsimp only at t0 t1 t2 jw;obtain⟨i1,i2⟩:=Bk4 jw;obtain⟨m1,m2,m3,m4,m5,m6⟩:=HAB.out;have i3:rc<=1024:=by have:4*a*b=4*(a*b):=Cv _ _ _;omega
  have d1:0<=rc/4:=Gu;have d2:rc/4<=256:=Gu;have d3:=Int.emod_nonneg (rc/4) (show a≠0 by omega);have d4:=Int.emod_lt_of_pos (rc/4) (show 0<a by omega);have d5:0<=rc/4/a:=Int.ediv_nonneg d1 Gu;have d6:rc/4/a<=256:=Int.le_trans (Int.ediv_le_self _ d1) d2;have qv:((rc/4%a).toNat:Int)=rc/4%a:=Int.toNat_of_nonneg d3;have BK:((rc/4/a).toNat:Int)=rc/4/a:=Int.toNat_of_nonneg d5;obtain⟨cx,x8⟩:=ey ((rc/4%a).toNat);obtain⟨cy,y7⟩:=ey ((rc/4/a).toNat);rw[x8]at qv;rw[y7]at BK;have e1:(a==0)=false:=Hu;have e0:¬a=0:=Gu;have e2:(rc/4).tmod a=(cx:Int):=by rw[Int.tmod_eq_emod_of_nonneg d1,qv]
  have e3:(rc/4).tdiv a=(cy:Int):=by rw[Gh d1,BK]
  have e4:rc.tdiv 4=rc/4:=Gh i1;have e5:rc.tmod 4=rc%4:=Int.tmod_eq_emod_of_nonneg i1;have e6:Ab.wrap (rc/4)=rc/4:=Ca _ Gu;have e7:Ab.wrap (cx:Int)=cx:=Ca _ Gu;have e8:Ab.wrap (cy:Int)=cy:=Ca _ Gu;have e9:Ab.wrap (rc%4)=rc%4:=Ca _ Gu;have UN:IntKind.u8.wrap (rc%4)=rc%4:=IntWalk.u8_in _ Gu;obtain⟨X,hX⟩:=ey wr.heap.size;have H5:=HM.bx.new #[rc,Aa Ac re,Aa Ac rk] 192 hX;have jh:=(Ag wr.heap.size wr).alloc (Am _) (.cells #[rc,Aa Ac re,Aa Ac rk] 192);have i_:=HM.call jh;have HVX:=Ah (show V<X from hX▸HM.bx.lt 2 rfl);subst hA3;clear jh;go_upto_region 10 with fail
  try rw[hX]
  generalize wr.alloc _=W5 at H5 i_⊢;clear t0 t1 t2 hX;obtain⟨⟨x0,x1,x2⟩,-⟩:=He (H5.b 3);obtain⟨⟨v0,v1,v2,v3⟩,-⟩:=Jm (H5.b 2);have IV:=Ah H5;have i_:=Ah i_;have sk:=Ah (Cm qv (Cm BK (Cm x8 y7)));have HB:=Ah (Cm d4 (Cm i1 (Cm i2 (Cm m3 m5))));have EL:=Ah jw;have C6:=Cm qv BK;clear H5 HZ HM jw d1 d2 d3 d4 d5 d6 i1 i2 i3 m1 m2 m3 m4 m5 m6 qv BK x8 y7 C6 xv hr
  go_quiet (fail)
  have og:=Ah (IV.out.drewN nq);have EK:=Ah (i_.out.call (Ij (Ag W5.heap.size W5) nq));generalize W5.drewN nq=X0 at og EK⊢;clear IV i_ v0 v1 v2 v3 x0 x1 x2;obtain⟨⟨x0,x1,x2⟩,-⟩:=He (og.out.b 3);go_upto_region 13 with fail;have jf:=Ah ad;unfold Cr.odd at F0;have hod2:re=0/\¬rk=3:=by simpa using F0
  obtain⟨hre,h3⟩:=hod2;subst hre;have q9:(rk==3)=false:=by simpa using h3
  obtain⟨-,-,hq⟩:=uH HP.out.sheet EL.out;have OY:=HWA.out;have LS:=HHB.out;have hcxy:=sk.out;have dm:=HB.out
  have AD:rc/4/a<b:=by
   have h1:rc/4<b*a:=by
    have:4*a*b=4*(b*a):=by rw[Cv,Int.mul_comm a b]
    omega
   exact Int.ediv_lt_of_lt_mul Gu h1
  have hxw:(cx:Int)<a:=Gu;clear F0 h3;rcases hq with⟨hq,hx⟩|⟨hq,hy⟩
  ·have JU:cy<H1+1:=Gu;have vk:cx<ua:=Gu;have b1:(cy:Int)<(H1:Int)+1:=Gu;have b2:(cx:Int)<(ua:Int):=Gu;clear OY LS hcxy dm AD hxw hx
   as_aux_lemma=>
   obtain⟨ss,wh⟩:=EK.out.at';obtain⟨c0,c1⟩:=jA (wh.rR cy JU) vk;have bt:=iE wh.hR JU;clear wh;unfold lV at bt;obtain⟨⟨v0,v1,v2,v3⟩,-⟩:=Jm (og.out.b 2);obtain⟨RW,KV⟩:=ey (M+cy);rw[KV]at c0 c1 bt;have gz:=EK.out.lo;have xq:=EK.out.hi;have hVX:=HVX.out;have PS:=Ah (show RW≠X/\RW≠V/\RW≠gR by omega);have NW:=Ah KV;clear gz xq hVX KV;obtain⟨S,an⟩:∃S:Aj->Prop,S=λW'=>W'.heap[X]? =X0.heap[X]? /\W'.heap[V]? =X0.heap[V]? /\W'.heap[gR]? =X0.heap[gR]? :=⟨_,rfl⟩
   have HSO:Hid (∀W',S W'->W'.cell? ⟨X,2,Ae⟩=Af (Aa Ac rk)/\W'.cell? ⟨V,2,Ae⟩=Af (Ad (Af ⟨gR,0,Ae⟩) (H1+1) (H1+1))/\W'.cell? ⟨gR,cy,Ae⟩=Af (Ad (Af ⟨RW,0,Ae⟩) ua ua)):=Ah λW' h=>by
    subst an;exact⟨(Uo h.1 _).trans x2,(Uo h.2.1 _).trans v2,(Uo h.2.2 _).trans bt⟩
   have YE:Hid (∀(W':Aj) (v:Ak),S W'->S (W'.setCell ⟨RW,cx,Ae⟩ v)):=Ah λW' v hs=>by
    subst an;obtain⟨n1,n2,n3⟩:=PS.out;exact⟨(Dp W' ⟨RW,cx,Ae⟩ v X (by show X≠RW;omega)).trans hs.1,(Dp W' ⟨RW,cx,Ae⟩ v V (by show V≠RW;omega)).trans hs.2.1,(Dp W' ⟨RW,cx,Ae⟩ v gR (by show gR≠RW;omega)).trans hs.2.2⟩
   have qr:S X0.drew:=by subst an;exact⟨rfl,rfl,rfl⟩
   clear an bt v0 v1 v2 v3;go_upto_region 16 with fail;clear x0 x1 x2;refine Ao (S:=S) Gw qr (λhS=>?_);have GB:=Ah (EK.out.call (Ag X0.heap.size X0).drew);have c0:X0.drew.cell? ⟨RW,cx,Ae⟩=_:=c0;have c1:X0.drew.frozen? ⟨RW,cx,Ae⟩=_:=c1;generalize X0.drew=X1 at hS GB c0 c1⊢;clear qr EK og;refine Hh 0 1 2 3 ?_;refine Hh 4 5 6 7 ?_;refine Kg 8 ?_;have hSU:=Ah (YE.out _ (Aa Ac rk) hS)
   have HF:Hid (gG w O [(N,#[Aa Ab a,Aa Ab b,Ad (Af ⟨kb,ko,Ae⟩) n c],28),(P,#[Aa Ab 0,Aa Ab 0,Ad Ae 0 0,Ad Ae 0 0],130)] a b gR gU M ua H1 V (X1.setCell ⟨RW,cx,Ae⟩ (Aa Ac rk))):=Ah (by
    have gz:=GB.out.lo;have KV:=NW.out;obtain⟨ss,wh⟩:=GB.out.at';refine GB.out.put ⟨Gu,Gu⟩ cx _ ?_;rw[<-KV];exact⟨_,wh.setR gz.2.1 gz.2.2.2 cy cx JU rk⟩)
   refine rdy 9 (λK hK=>?_);go_simp;refine hK.o hSU.out (λhS=>?_);clear hK K c0 c1;refine An Gw ?_ _;have ek:wrap64 ((k:Int)+1)=(k:Int)+1:=Cb _ (by have h1:=jf.out;have h2:=HP.out.len;have h3:=HN.out;omega);go_wp2_with fail;rw[ek];refine⟨⟨k+1,Nat.succ_le_of_lt jf.out,Gx,HF⟩,?_⟩;exact pL jf.out
  ·have JU:cy<H1:=Gu;have vk:cx<ua+1:=Gu;have b1:(cy:Int)<(H1:Int):=Gu;have b2:(cx:Int)<(ua:Int)+1:=Gu;clear OY LS hcxy dm AD hxw hy
   as_aux_lemma=>
   obtain⟨ss,wh⟩:=EK.out.at';obtain⟨c0,c1⟩:=jA (wh.rU cy JU) vk;have bt:=iE wh.hU JU;clear wh;unfold lV at bt;obtain⟨⟨v0,v1,v2,v3⟩,-⟩:=Jm (og.out.b 2);obtain⟨RW,KV⟩:=ey (M+(H1+1)+cy);rw[KV]at c0 c1 bt;have gz:=EK.out.lo;have xq:=EK.out.hi;have hVX:=HVX.out;have PS:=Ah (show RW≠X/\RW≠V/\RW≠gU by omega);have NW:=Ah KV;clear gz xq hVX KV;obtain⟨S,an⟩:∃S:Aj->Prop,S=λW'=>W'.heap[X]? =X0.heap[X]? /\W'.heap[V]? =X0.heap[V]? /\W'.heap[gU]? =X0.heap[gU]? :=⟨_,rfl⟩
   have HSO:Hid (∀W',S W'->W'.cell? ⟨X,2,Ae⟩=Af (Aa Ac rk)/\W'.cell? ⟨V,3,Ae⟩=Af (Ad (Af ⟨gU,0,Ae⟩) H1 H1)/\W'.cell? ⟨gU,cy,Ae⟩=Af (Ad (Af ⟨RW,0,Ae⟩) (ua+1) (ua+1))):=Ah λW' h=>by
    subst an;exact⟨(Uo h.1 _).trans x2,(Uo h.2.1 _).trans v3,(Uo h.2.2 _).trans bt⟩
   have YE:Hid (∀(W':Aj) (v:Ak),S W'->S (W'.setCell ⟨RW,cx,Ae⟩ v)):=Ah λW' v hs=>by
    subst an;obtain⟨n1,n2,n3⟩:=PS.out;exact⟨(Dp W' ⟨RW,cx,Ae⟩ v X (by show X≠RW;omega)).trans hs.1,(Dp W' ⟨RW,cx,Ae⟩ v V (by show V≠RW;omega)).trans hs.2.1,(Dp W' ⟨RW,cx,Ae⟩ v gU (by show gU≠RW;omega)).trans hs.2.2⟩
   have qr:S X0.drew:=by subst an;exact⟨rfl,rfl,rfl⟩
   clear an bt v0 v1 v2 v3;go_upto_region 12 with fail;clear x0 x1 x2;refine Ao (S:=S) Gw qr (λhS=>?_);have GB:=Ah (EK.out.call (Ag X0.heap.size X0).drew);have c0:X0.drew.cell? ⟨RW,cx,Ae⟩=_:=c0;have c1:X0.drew.frozen? ⟨RW,cx,Ae⟩=_:=c1;generalize X0.drew=X1 at hS GB c0 c1⊢;clear qr EK og;refine Hh 0 1 2 3 ?_;refine Hh 4 5 6 7 ?_;refine Kg 8 ?_;have hSU:=Ah (YE.out _ (Aa Ac rk) hS)
   have HF:Hid (gG w O [(N,#[Aa Ab a,Aa Ab b,Ad (Af ⟨kb,ko,Ae⟩) n c],28),(P,#[Aa Ab 0,Aa Ab 0,Ad Ae 0 0,Ad Ae 0 0],130)] a b gR gU M ua H1 V (X1.setCell ⟨RW,cx,Ae⟩ (Aa Ac rk))):=Ah (by
    have gz:=GB.out.lo;have KV:=NW.out;obtain⟨ss,wh⟩:=GB.out.at';refine GB.out.put ⟨Gu,Gu⟩ cx _ ?_;rw[<-KV];exact⟨_,wh.setU gz.2.1 gz.2.2.2 cy cx JU rk⟩)
   refine rdy 9 (λK hK=>?_);go_simp;refine hK.o hSU.out (λhS=>?_);clear hK K c0 c1;refine An Gw ?_ _;have ek:wrap64 ((k:Int)+1)=(k:Int)+1:=Cb _ (by have h1:=jf.out;have h2:=HP.out.len;have h3:=HN.out;omega);go_wp2_with fail;rw[ek];refine⟨⟨k+1,Nat.succ_le_of_lt jf.out,Gx,HF⟩,?_⟩;exact pL jf.out
 ·obtain rfl:n=k:=Gu;have q0:¬(n:Int)<(n:Int):=Gu;have H5:=HM.bx;obtain⟨⟨v0,v1,v2,v3⟩,-⟩:=Jm (H5.b 2);obtain⟨⟨g0,g1,g2,g3⟩,z0,z1,z2,z3⟩:=Jm (H5.b 1);have H9:=Ah ((((H5.set 1 0 rfl (Aa Ab a)).set 1 1 rfl (Aa Ab b)).set 1 2 rfl (Ad (Af ⟨gR,0,Ae⟩) (H1+1) (H1+1))).set 1 3 rfl (Ad (Af ⟨gU,0,Ae⟩) H1 H1));clear H5 HM
  as_aux_lemma=>
  go_wp2_with fail;exact Ai (Hj (u:=3) rfl rfl (H9.out.range 1 rfl) Tryz.underlying130 rfl Gw) rfl ⟨H9.out.below,a,b,gR,gU,ua,H1,rfl⟩
def Lk.cnt (k:Lk) (u:Nat×Nat):Prop:=(nbI k.a k.b u.1 u.2).2=0/\¬(nbI k.a k.b u.1 u.2).1<(u.1:Int)
def Lk.nb (k:Lk) (u:Nat×Nat):Nat:=(nbI k.a k.b u.1 u.2).1.toNat
def Lk.pe (k:Lk) (b:Cl) (u:Nat×Nat):Nat×Nat:=if k.img u.1=b then (k.nb u,u.1)else (u.1,k.nb u)
def Lk.le (k:Lk) (b:Cl) (u:Nat×Nat):Nat×Nat×Nat:=if k.hs.getD u.1 0<k.hs.getD (k.nb u) 0 then ((if k.img u.1=b then 1 else 0),u.1,k.nb u)else ((if k.img u.1=b then 1 else 0),k.nb u,u.1)
theorem rD {a b:Cl} {f:Sm->Sm}:∀{l:List Sm} {s:Sm},s∈Qw a b f l->s∈l∨(∃t∈l,t.a=a/\t.b=b/\s=f t)∨s=f (Sm.none a b)
 |[],s,h=> .inr (.inr (by simpa[Qw]using h))
 |t::r,s,h=>by
  unfold Qw at h
  split at h
  ·rename_i ht;rcases Bk.1 h with rfl|h
   ·exact .inr (.inl ⟨t,Gx,ht.1,ht.2,rfl⟩)
   ·exact .inl (Ex _ h)
  ·rcases Bk.1 h with rfl|h
   ·exact .inl Gx
   ·rcases rD h with h|⟨t',h1,h2⟩|h
    ·exact .inl (Ex _ h)
    ·exact .inr (.inl ⟨t',Ex _ h1,h2⟩)
    ·exact .inr (.inr h)
theorem jK {a b:Cl} {f:Sm->Sm}:∀{l:List Sm} {s:Sm},s∈l->s∈Qw a b f l∨(s.a=a/\s.b=b/\f s∈Qw a b f l)
 |t::r,s,h=>by
  unfold Qw
  split
  ·rename_i ht;rcases Bk.1 h with rfl|h
   ·exact .inr ⟨ht.1,ht.2,Gx⟩
   ·exact .inl (Ex _ h)
  ·rcases Bk.1 h with rfl|h
   ·exact .inl Gx
   ·rcases jK (a:=a) (b:=b) (f:=f) h with h|⟨h1,h2,h⟩
    ·exact .inl (Ex _ h)
    ·exact .inr ⟨h1,h2,Ex _ h⟩
theorem rE {a b:Cl} {f:Sm->Sm}:∀(l:List Sm),∃t,t.a=a/\t.b=b/\f t∈Qw a b f l
 |[]=>⟨Sm.none a b,rfl,rfl,by simp[Qw]⟩
 |t::r=>by
  unfold Qw
  split
  ·rename_i ht;exact⟨t,ht.1,ht.2,Gx⟩
  ·obtain⟨t',h1,h2,h⟩:=rE (f:=f) r;exact⟨t',h1,h2,Ex _ h⟩
theorem dA (k:Lk) (id e:Nat) (s:Sm):(k.add id e s).a=s.a/\(k.add id e s).b=s.b:=by
 unfold Lk.add
 split
 ·exact⟨rfl,rfl⟩
 ·split
  ·exact⟨rfl,rfl⟩
  ·dsimp only
   split<;>exact⟨rfl,rfl⟩
theorem jR (k:Lk) (id e:Nat) (s:Sm):((k.add id e s).ps=s.ps/\(k.add id e s).ls=s.ls/\¬k.cnt (id,e))∨
  (k.cnt (id,e)/\Hm k.cr id e=0/\(k.add id e s).ps=s.ps++[k.pe s.b (id,e)]/\(k.add id e s).ls=s.ls)∨
  (k.cnt (id,e)/\Hm k.cr id e≠0/\(k.add id e s).ps=s.ps/\(k.add id e s).ls=s.ls++[k.le s.b (id,e)]):=by
 unfold Lk.add Lk.cnt;dsimp only
 split
 ·rename_i h;exact .inl ⟨rfl,rfl,λh2=>h h2.1⟩
 ·rename_i h;have h0:(nbI k.a k.b id e).2=0:=Ek.1 h
  split
  ·rename_i h1;exact .inl ⟨rfl,rfl,λh2=>h2.2 h1⟩
  ·rename_i h1
   split
   ·rename_i hk;refine .inr (.inl ⟨⟨h0,h1⟩,hk,?_,rfl⟩);dsimp only;unfold Lk.pe Lk.nb;by_cases hb:k.img id=s.b
    ·simp[hb]
    ·simp[hb]
   ·rename_i hk;refine .inr (.inr ⟨⟨h0,h1⟩,hk,rfl,?_⟩);dsimp only;unfold Lk.le Lk.nb;rfl
theorem Yc (k:Lk):∀j,∀s∈k.seamsTo j,
  (∀p∈s.ps,∃u:Nat×Nat,u.2<3/\3*u.1+u.2<j/\k.key u.1 u.2=(s.a,s.b)/\k.cnt u/\Hm k.cr u.1 u.2=0/\p=k.pe s.b u)/\
  (∀x∈s.ls,∃u:Nat×Nat,u.2<3/\3*u.1+u.2<j/\k.key u.1 u.2=(s.a,s.b)/\k.cnt u/\Hm k.cr u.1 u.2≠0/\x=k.le s.b u)
 |0,s,h=>by simp[Lk.seamsTo]at h
 |j+1,s,h=>by
  have ih:=Yc k j;have hj:3*(j/3)+j%3=j:=Gu;have hm:j%3<3:=Gu
  have up:∀t:Sm,((∀p∈t.ps,∃u:Nat×Nat,u.2<3/\3*u.1+u.2<j/\k.key u.1 u.2=(t.a,t.b)/\k.cnt u/\Hm k.cr u.1 u.2=0/\p=k.pe t.b u)/\(∀x∈t.ls,∃u:Nat×Nat,u.2<3/\3*u.1+u.2<j/\k.key u.1 u.2=(t.a,t.b)/\k.cnt u/\Hm k.cr u.1 u.2≠0/\x=k.le t.b u))->
    ((∀p∈t.ps,∃u:Nat×Nat,u.2<3/\3*u.1+u.2<j+1/\k.key u.1 u.2=(t.a,t.b)/\k.cnt u/\Hm k.cr u.1 u.2=0/\p=k.pe t.b u)/\(∀x∈t.ls,∃u:Nat×Nat,u.2<3/\3*u.1+u.2<j+1/\k.key u.1 u.2=(t.a,t.b)/\k.cnt u/\Hm k.cr u.1 u.2≠0/\x=k.le t.b u)):=λt ht=>
   ⟨λp hp=>by obtain⟨u,h1,h2,h3⟩:=ht.1 p hp;exact⟨u,h1,Gu,h3⟩,λp hp=>by obtain⟨u,h1,h2,h3⟩:=ht.2 p hp;exact⟨u,h1,Gu,h3⟩⟩
  have stp:∀t:Sm,t.a=(k.key (j/3) (j%3)).1->t.b=(k.key (j/3) (j%3)).2->((∀p∈t.ps,∃u:Nat×Nat,u.2<3/\3*u.1+u.2<j/\k.key u.1 u.2=(t.a,t.b)/\k.cnt u/\Hm k.cr u.1 u.2=0/\p=k.pe t.b u)/\(∀x∈t.ls,∃u:Nat×Nat,u.2<3/\3*u.1+u.2<j/\k.key u.1 u.2=(t.a,t.b)/\k.cnt u/\Hm k.cr u.1 u.2≠0/\x=k.le t.b u))->
    s=k.add (j/3) (j%3) t->((∀p∈s.ps,∃u:Nat×Nat,u.2<3/\3*u.1+u.2<j+1/\k.key u.1 u.2=(s.a,s.b)/\k.cnt u/\Hm k.cr u.1 u.2=0/\p=k.pe s.b u)/\(∀x∈s.ls,∃u:Nat×Nat,u.2<3/\3*u.1+u.2<j+1/\k.key u.1 u.2=(s.a,s.b)/\k.cnt u/\Hm k.cr u.1 u.2≠0/\x=k.le s.b u)):=by
   intro t ha hb ht e;subst e;obtain⟨e1,e2⟩:=dA k (j/3) (j%3) t;rw[e1,e2];have LW:k.key (j/3) (j%3)=(t.a,t.b):=by rw[ha,hb]
   have ht:=up t ht;rcases jR k (j/3) (j%3) t with⟨f1,f2,-⟩|⟨hc,hk,f1,f2⟩|⟨hc,hk,f1,f2⟩
   ·rw[f1,f2];exact ht
   ·rw[f1,f2];refine⟨λp hp=>?_,ht.2⟩;rcases Bl.1 hp with hp|hp
    ·exact ht.1 p hp
    ·exact⟨(j/3,j%3),hm,by dsimp only;omega,LW,hc,hk,by simpa using hp⟩
   ·rw[f1,f2];refine⟨ht.1,λp hp=>?_⟩;rcases Bl.1 hp with hp|hp
    ·exact ht.2 p hp
    ·exact⟨(j/3,j%3),hm,by dsimp only;omega,LW,hc,hk,by simpa using hp⟩
  unfold Lk.seamsTo Lk.meet at h;rcases rD h with h|⟨t,ht,h1,h2,e⟩|e
  ·exact up s (ih s h)
  ·exact stp t h1 h2 (ih t ht) e
  ·exact stp _ rfl rfl ⟨by simp[Sm.none],by simp[Sm.none]⟩ e
theorem fT (k:Lk):∀j,∀u:Nat×Nat,u.2<3->3*u.1+u.2<j->k.cnt u->∃s∈k.seamsTo j,k.key u.1 u.2=(s.a,s.b)/\(Hm k.cr u.1 u.2=0->k.pe s.b u∈s.ps)/\(Hm k.cr u.1 u.2≠0->k.le s.b u∈s.ls)
 |0,u,_,h,_=>Gu
 |j+1,u,hu,h,hc=>by
  unfold Lk.seamsTo Lk.meet
  have mono:∀t:Sm,(∀p∈t.ps,p∈(k.add (j/3) (j%3) t).ps)/\(∀p∈t.ls,p∈(k.add (j/3) (j%3) t).ls):=λt=>by
   rcases jR k (j/3) (j%3) t with⟨f1,f2,-⟩|⟨-,-,f1,f2⟩|⟨-,-,f1,f2⟩<;>rw[f1,f2]<;>refine⟨λp hp=>?_,λp hp=>?_⟩<;>simp[hp]
  by_cases hj:3*u.1+u.2<j
  ·obtain⟨s,hs,h1,h2,h3⟩:=fT k j u hu hj hc;rcases jK (a:=(k.key (j/3) (j%3)).1) (b:=(k.key (j/3) (j%3)).2) (f:=k.add (j/3) (j%3)) hs with h|⟨-,-,h⟩
   ·exact⟨s,h,h1,h2,h3⟩
   ·obtain⟨e1,e2⟩:=dA k (j/3) (j%3) s;exact⟨_,h,by rw[e1,e2];exact h1,λh0=>by rw[e2];exact(mono s).1 _ (h2 h0),λh0=>by rw[e2];exact(mono s).2 _ (h3 h0)⟩
  ·have e1:u.1=j/3:=Gu;have e2:u.2=j%3:=Gu;obtain⟨t,h1,h2,hm⟩:=rE (a:=(k.key (j/3) (j%3)).1) (b:=(k.key (j/3) (j%3)).2) (f:=k.add (j/3) (j%3)) (k.seamsTo j);obtain⟨f1,f2⟩:=dA k (j/3) (j%3) t;obtain⟨i,e⟩:=u;dsimp only at e1 e2;subst e1 e2;refine⟨_,hm,by rw[f1,f2,h1,h2],λh0=>?_,λh0=>?_⟩
   ·rcases jR k (j/3) (j%3) t with⟨-,-,hn⟩|⟨-,-,g1,-⟩|⟨-,hn,-⟩
    ·exact absurd hc hn
    ·rw[f2,g1];simp
    ·exact absurd h0 hn
   ·rcases jR k (j/3) (j%3) t with⟨-,-,hn⟩|⟨-,hn,-⟩|⟨-,-,-,g2⟩
    ·exact absurd hc hn
    ·exact absurd hn h0
    ·rw[f2,g2];simp
def htC (l:List Stk) (c:Cl) (id:Nat):Int:=Jg (atF l c) id
theorem sN {t:List Int} {l:List (Int×Int)}:Mz t l=false↔∀x∈l,(∀h∈t,¬(x.1<h/\h<x.2))/\∀y∈l,Oy x y=false:=by
 unfold Mz;simp only[Dt,Bool.or_eq_true,not_or,Ev,not_exists,not_and,El,Lg,Eo]
theorem sO (l m:List Stk) (s:Sm):Qe (Ik (atF l s.a) s 0) (Ik (atF m s.b) s 1)=false↔∀p∈s.ps,∀q∈s.ps,¬(htC l s.a p.1<htC l s.a q.1/\htC m s.b q.2<htC m s.b p.2):=by
 have e:(Ik (atF l s.a) s 0).zip (Ik (atF m s.b) s 1)=s.ps.map λp=>(htC l s.a p.1,htC m s.b p.2):=by
  unfold Ik lN htC;rw[List.zip_map'];rfl
 unfold Qe;rw[e];simp only[Dt,Dq,forall_exists_index,and_imp,forall_apply_eq_imp_iff₂,El,Lg,not_and,Ev,not_exists]
structure rT (l:List Stk) (s:Sm):Prop where
 ps:∀p∈s.ps,0<=htC l s.a p.1/\0<=htC l s.b p.2
 ls:∀x∈s.ls,x.1<=1/\0<=htC l (if x.1=0 then s.a else s.b) x.2.1/\0<=htC l (if x.1=0 then s.a else s.b) x.2.2
 pl:∀p∈s.ps,∀x∈s.ls,¬(min (htC l (if x.1=0 then s.a else s.b) x.2.1) (htC l (if x.1=0 then s.a else s.b) x.2.2)<(if x.1=0 then htC l s.a p.1 else htC l s.b p.2)/\(if x.1=0 then htC l s.a p.1 else htC l s.b p.2)<max (htC l (if x.1=0 then s.a else s.b) x.2.1) (htC l (if x.1=0 then s.a else s.b) x.2.2))
 ll:∀x∈s.ls,∀y∈s.ls,x.1=y.1->Oy (mm (htC l (if x.1=0 then s.a else s.b) x.2.1,htC l (if x.1=0 then s.a else s.b) x.2.2)) (mm (htC l (if x.1=0 then s.a else s.b) y.2.1,htC l (if x.1=0 then s.a else s.b) y.2.2))=false
 pp:∀p∈s.ps,∀q∈s.ps,¬(htC l s.a p.1<htC l s.a q.1/\htC l s.b q.2<htC l s.b p.2)
theorem Ac3 (ls:List Nat) (s:Sm) (d:Nat):Oq ls s d=true↔(∀p∈s.ps,0<=Jg ls (lN d p))/\∀x∈s.ls,x.1=d->0<=Jg ls x.2.1/\0<=Jg ls x.2.2:=by
 unfold Oq Ik iM;rw[El];refine and_congr (by simp[Ec]) ?_;rw[Ec]
 constructor
 ·intro h x hx e;have:=h (Jg ls x.2.1,Jg ls x.2.2) (Dq.2 ⟨x,Gc.2 ⟨hx,by simp[e]⟩,rfl⟩);simpa using this
 ·intro h z hz;obtain⟨x,hx,rfl⟩:=Dq.1 hz;obtain⟨h1,h2⟩:=Gc.1 hx;have:=h x h1 (by simpa using h2);simpa using this
theorem Af6 (ls:List Nat) (s:Sm) (d:Nat) (z:Int×Int):z∈Te ls s d↔∃x∈s.ls,x.1=d/\z=mm (Jg ls x.2.1,Jg ls x.2.2):=by
 unfold Te iM;simp only[Dq,Gc,Lg]
 constructor
 ·rintro⟨y,⟨x,⟨hx,hd⟩,rfl⟩,rfl⟩;exact⟨x,hx,hd,rfl⟩
 ·rintro⟨x,hx,hd,rfl⟩;exact⟨_,⟨x,⟨hx,hd⟩,rfl⟩,rfl⟩
theorem Af7 (ls:List Nat) (s:Sm) (d:Nat) (h:Int):h∈Ik ls s d↔∃p∈s.ps,h=Jg ls (lN d p):=by
 unfold Ik;simp only[Dq]
 constructor
 ·rintro⟨p,hp,rfl⟩;exact⟨p,hp,rfl⟩
 ·rintro⟨p,hp,rfl⟩;exact⟨p,hp,rfl⟩
theorem dV {l:List Stk} {s:Sm}:Ke l s=false↔rT l s:=by
 unfold Ke;simp only[Cy,Bool.not_eq_false',Dt,Lg,Nat.not_lt,sN,sO,Ac3,Af6,Af7]
 constructor
 ·rintro⟨⟨⟨⟨⟨⟨g0,g1⟩,⟨g2,g3⟩⟩,g4⟩,g5⟩,g6⟩,g7⟩;have hx:∀x∈s.ls,x.1=0∨x.1=1:=λx hx=>by have:=g4 x hx;omega
  refine⟨λp hp=>⟨g0 p hp,g2 p hp⟩,λx h=>⟨g4 x h,?_⟩,λp hp x h=>?_,λx h y h' e=>?_,g7⟩
  ·rcases hx x h with e|e
   ·rw[e];exact g1 x h e
   ·rw[e];exact g3 x h e
  ·rcases hx x h with e|e
   ·rw[e];exact(g5 _ ⟨x,h,e,rfl⟩).1 _ ⟨p,hp,rfl⟩
   ·rw[e];exact(g6 _ ⟨x,h,e,rfl⟩).1 _ ⟨p,hp,rfl⟩
  ·rcases hx x h with e0|e0
   ·rw[e0];exact(g5 _ ⟨x,h,e0,rfl⟩).2 _ ⟨y,h',e▸e0,rfl⟩
   ·rw[e0];exact(g6 _ ⟨x,h,e0,rfl⟩).2 _ ⟨y,h',e▸e0,rfl⟩
 ·rintro⟨h1,h2,h3,h4,h5⟩;refine⟨⟨⟨⟨⟨⟨λp hp=>(h1 p hp).1,λx hx e=>?_⟩,⟨λp hp=>(h1 p hp).2,λx hx e=>?_⟩⟩,λx hx=>(h2 x hx).1⟩,?_⟩,?_⟩,h5⟩
  ·have:=(h2 x hx).2;rw[e]at this;exact this
  ·have:=(h2 x hx).2;rw[e]at this;exact this
  rotate_left
  all_goals
   rintro _ ⟨x,hx,e,rfl⟩;refine⟨?_,?_⟩
   ·rintro _ ⟨p,hp,rfl⟩;have:=h3 p hp x hx;rw[e]at this;exact this
   ·rintro _ ⟨y,hy,e',rfl⟩;have:=h4 x hx y hy (e.trans e'.symm);rw[e]at this;exact this
def Lk.reg (k:Lk) (u:Nat×Nat):Prop:=u.2<3/\u.1<Hg k.a k.b/\k.cnt u
def Lk.hU (k:Lk) (l:List Stk) (c:Cl) (u:Nat×Nat):Int:=htC l c (if k.img u.1=c then u.1 else k.nb u)
def Lk.hL (k:Lk) (l:List Stk) (u:Nat×Nat):Int×Int:=mm (htC l (k.img u.1) u.1,htC l (k.img u.1) (k.nb u))
theorem oS (a b:Cl) (f:Sm->Sm) (hf:∀s,(f s).a=s.a/\(f s).b=s.b):∀l:List Sm,(Qw a b f l).map (λs=>(s.a,s.b))=l.map (λs=>(s.a,s.b))∨((Qw a b f l).map (λs=>(s.a,s.b))=l.map (λs=>(s.a,s.b))++[(a,b)]/\(a,b)∉l.map λs=>(s.a,s.b))
 |[]=> .inr ⟨by have h:=hf (Sm.none a b);simp only[Qw,Er,List.map_nil,Et,h.1,h.2];rfl,Gx⟩
 |s::r=>by
  unfold Qw
  split
  ·exact .inl (by simp[(hf s).1,(hf s).2])
  ·rename_i h;rcases oS a b f hf r with e|⟨e,h2⟩
   ·exact .inl (by simp only[Er,e])
   ·refine .inr ⟨by simp only[Er,e,Ep],?_⟩;rw[Er,Bk,not_or];refine⟨λe2=>h ?_,h2⟩;injection e2 with e3 e4;exact⟨e3.symm,e4.symm⟩
theorem Xu (k:Lk):∀j,((k.seamsTo j).map λs=>(s.a,s.b)).Nodup
 |0=>by simp[Lk.seamsTo]
 |j+1=>by
  have ih:=Xu k j;unfold Lk.seamsTo Lk.meet;rcases oS (k.key (j/3) (j%3)).1 (k.key (j/3) (j%3)).2 (k.add (j/3) (j%3)) (λs=>dA k _ _ s) (k.seamsTo j)with e|⟨e,h⟩
  ·rw[e];exact ih
  ·rw[e,Bp]
   exact⟨ih,Gx,λx hx y hy=>by
    have:y=((k.key (j/3) (j%3)).1,(k.key (j/3) (j%3)).2):=by simpa using hy
    rw[this];exact λe2=>h (e2▸hx)⟩
theorem Az5 (k:Lk) {j:Nat} {s t:Sm} (hs:s∈k.seamsTo j) (ht:t∈k.seamsTo j) (h:(s.a,s.b)=(t.a,t.b)):s=t:=by
 have h1:=Ze (Xu k j) hs;have h2:=Ze (Xu k j) ht;rw[<-h1,<-h2,h]
theorem Ua (k:Lk) (u:Nat×Nat):(k.key u.1 u.2=(k.img u.1,k.other u.1 u.2))∨(k.key u.1 u.2=(k.other u.1 u.2,k.img u.1)):=by
 unfold Lk.key
 split
 ·exact .inr rfl
 ·exact .inl rfl
theorem pW (k:Lk) (l:List Stk) {A B:Cl} {u:Nat×Nat} (hk:k.key u.1 u.2=(A,B)) (hne:k.img u.1≠k.other u.1 u.2):htC l A (k.pe B u).1=k.hU l A u/\htC l B (k.pe B u).2=k.hU l B u:=by
 unfold Lk.pe Lk.hU;rcases Ua k u with e|e
 ·rw[e]at hk;injection hk with h1 h2;rw[h1,h2]at hne;rw[Gz (by rw[h1];exact hne),Hd h1,Gz (by rw[h1];exact hne)];exact⟨rfl,rfl⟩
 ·rw[e]at hk;injection hk with h1 h2;rw[h1,h2]at hne;rw[Hd h2,Gz (by rw[h2];exact hne),Hd h2];exact⟨rfl,rfl⟩
theorem Bk1 (x y:Int):mm (x,y)=mm (y,x):=by
 unfold mm;dsimp only;rw[Int.min_comm,Int.max_comm]
theorem oW (k:Lk) (l:List Stk) {A B:Cl} {u:Nat×Nat} (hk:k.key u.1 u.2=(A,B)) (hne:k.img u.1≠k.other u.1 u.2):
  (k.le B u).1<=1/\(if(k.le B u).1=0 then A else B)=k.img u.1/\mm (htC l (k.img u.1) (k.le B u).2.1,htC l (k.img u.1) (k.le B u).2.2)=k.hL l u/\(((k.le B u).2.1=u.1/\(k.le B u).2.2=k.nb u)∨((k.le B u).2.1=k.nb u/\(k.le B u).2.2=u.1))/\((k.le B u).1=0↔k.img u.1=A):=by
 have hs:((if k.img u.1=B then 1 else 0:Nat)<=1)/\(if(if k.img u.1=B then 1 else 0:Nat)=0 then A else B)=k.img u.1/\((if k.img u.1=B then 1 else 0:Nat)=0↔k.img u.1=A):=by
  rcases Ua k u with e|e
  ·rw[e]at hk;injection hk with h1 h2;rw[h1,h2]at hne;rw[Gz (by rw[h1];exact hne)];exact⟨Gu,by rw[Hd rfl,h1],by simp[h1]⟩
  ·rw[e]at hk;injection hk with h1 h2;rw[h1,h2]at hne;rw[Hd h2];exact⟨Gu,by rw[Gz Gu,h2],by simp[h2,hne]⟩
 unfold Lk.le
 split
 ·exact⟨hs.1,hs.2.1,rfl,.inl ⟨rfl,rfl⟩,hs.2.2⟩
 ·exact⟨hs.1,hs.2.1,Bk1 _ _,.inr ⟨rfl,rfl⟩,hs.2.2⟩
structure NC (k:Lk) (l:List Stk):Prop where
 ps:∀u,k.reg u->Hm k.cr u.1 u.2=0->0<=k.hU l (k.img u.1) u/\0<=k.hU l (k.other u.1 u.2) u
 ls:∀u,k.reg u->Hm k.cr u.1 u.2≠0->0<=htC l (k.img u.1) u.1/\0<=htC l (k.img u.1) (k.nb u)
 pp:∀u v,k.reg u->k.reg v->Hm k.cr u.1 u.2=0->Hm k.cr v.1 v.2=0->k.key u.1 u.2=k.key v.1 v.2->¬(k.hU l (k.key u.1 u.2).1 u<k.hU l (k.key u.1 u.2).1 v/\k.hU l (k.key u.1 u.2).2 v<k.hU l (k.key u.1 u.2).2 u)
 pl:∀u v,k.reg u->k.reg v->Hm k.cr u.1 u.2=0->Hm k.cr v.1 v.2≠0->k.key u.1 u.2=k.key v.1 v.2->¬((k.hL l v).1<k.hU l (k.img v.1) u/\k.hU l (k.img v.1) u<(k.hL l v).2)
 ll:∀u v,k.reg u->k.reg v->Hm k.cr u.1 u.2≠0->Hm k.cr v.1 v.2≠0->k.key u.1 u.2=k.key v.1 v.2->k.img u.1=k.img v.1->Oy (k.hL l u) (k.hL l v)=false
theorem Ay1 {k:Lk} {u:Nat×Nat} (h:k.reg u):3*u.1+u.2<3*Hg k.a k.b:=by
 have:=h.1;have:=h.2.1;omega
theorem Bg8 {k:Lk} {l:List Stk} (hne:∀u,k.reg u->k.img u.1≠k.other u.1 u.2) (h:∀s∈k.seams,rT l s):NC k l:=by
 have at':∀u,k.reg u->∃s∈k.seams,k.key u.1 u.2=(s.a,s.b)/\(Hm k.cr u.1 u.2=0->k.pe s.b u∈s.ps)/\(Hm k.cr u.1 u.2≠0->k.le s.b u∈s.ls):=λu hu=>fT k _ u hu.1 (Ay1 hu) hu.2.2
 have two:∀u v,k.reg u->k.reg v->k.key u.1 u.2=k.key v.1 v.2->∃s∈k.seams,k.key u.1 u.2=(s.a,s.b)/\k.key v.1 v.2=(s.a,s.b)/\(Hm k.cr u.1 u.2=0->k.pe s.b u∈s.ps)/\(Hm k.cr u.1 u.2≠0->k.le s.b u∈s.ls)/\(Hm k.cr v.1 v.2=0->k.pe s.b v∈s.ps)/\(Hm k.cr v.1 v.2≠0->k.le s.b v∈s.ls):=λu v hu hv e=>by
  obtain⟨s,hs,h1,h2,h3⟩:=at' u hu;obtain⟨t,ht,g1,g2,g3⟩:=at' v hv;obtain rfl:=Az5 k hs ht (h1.symm.trans (e.trans g1));exact⟨s,hs,h1,g1,h2,h3,g2,g3⟩
 refine⟨λu hu h0=>?_,λu hu h0=>?_,λu v hu hv gu fk e=>?_,λu v hu hv gu fk e=>?_,λu v hu hv gu fk e ei=>?_⟩
 ·obtain⟨s,hs,h1,h2,-⟩:=at' u hu;have g:=(h s hs).ps _ (h2 h0);obtain⟨p1,p2⟩:=pW k l h1 (hne u hu);rw[p1,p2]at g;rcases Ua k u with e|e
  ·rw[e]at h1;injection h1 with e1 e2;rw[e1,e2];exact g
  ·rw[e]at h1;injection h1 with e1 e2;rw[e1,e2];exact g.symm
 ·obtain⟨s,hs,h1,-,h3⟩:=at' u hu;have g:=(h s hs).ls _ (h3 h0);obtain⟨p1,p2,p3,p4,p5⟩:=oW k l h1 (hne u hu);rw[p2]at g;rcases p4 with⟨e1,e2⟩|⟨e1,e2⟩<;>rw[e1,e2]at g
  ·exact g.2
  ·exact g.2.symm
 ·obtain⟨s,hs,h1,g1,h2,-,g2,-⟩:=two u v hu hv e;have g:=(h s hs).pp _ (h2 gu) _ (g2 fk);obtain⟨p1,p2⟩:=pW k l h1 (hne u hu);obtain⟨q1,q2⟩:=pW k l g1 (hne v hv);rw[p1,p2,q1,q2]at g;rw[h1];exact g
 ·obtain⟨s,hs,h1,g1,h2,-,-,g3⟩:=two u v hu hv e;have g:=(h s hs).pl _ (h2 gu) _ (g3 fk);obtain⟨p1,p2⟩:=pW k l h1 (hne u hu);obtain⟨q1,q2,q3,q4,q5⟩:=oW k l g1 (hne v hv);rw[p1,p2,q2]at g
  have e3:(if(k.le s.b v).1=0 then k.hU l s.a u else k.hU l s.b u)=k.hU l (k.img v.1) u:=by
   rw[<-q2]
   split<;>rfl
  rw[e3]at g;unfold mm at q3;rw[<-q3];exact g
 ·obtain⟨s,hs,h1,g1,-,h3,-,g3⟩:=two u v hu hv e;obtain⟨p1,p2,p3,p4,p5⟩:=oW k l h1 (hne u hu);obtain⟨q1,q2,q3,q4,q5⟩:=oW k l g1 (hne v hv)
  have es:(k.le s.b u).1=(k.le s.b v).1:=by
   rw[ei]at p5;have:(k.le s.b u).1=0↔(k.le s.b v).1=0:=p5.trans q5.symm;omega
  have g:=(h s hs).ll _ (h3 gu) _ (g3 fk) es;rw[p2,p3,ei,q3]at g;exact g
theorem Bl2 {k:Lk} {l:List Stk} (hne:∀u,k.reg u->k.img u.1≠k.other u.1 u.2) (h:NC k l):∀s∈k.seams,rT l s:=λs hs=>by
 obtain⟨f1,f2⟩:=Yc k _ s hs;have rg:∀u:Nat×Nat,u.2<3->3*u.1+u.2<3*Hg k.a k.b->k.cnt u->k.reg u:=λu h1 h2 h3=>⟨h1,Gu,h3⟩;refine⟨λp hp=>?_,λx hx=>?_,λp hp x hx=>?_,λx hx y hy e=>?_,λp hp q hq=>?_⟩
 ·obtain⟨u,a1,a2,a3,a4,a5,rfl⟩:=f1 p hp;have hu:=rg u a1 a2 a4;obtain⟨p1,p2⟩:=pW k l a3 (hne u hu);have g:=h.ps u hu a5;rw[p1,p2];rcases Ua k u with e|e
  ·rw[e]at a3;injection a3 with e1 e2;rw[<-e1,<-e2];exact g
  ·rw[e]at a3;injection a3 with e1 e2;rw[<-e1,<-e2];exact g.symm
 ·obtain⟨u,a1,a2,a3,a4,a5,rfl⟩:=f2 x hx;have hu:=rg u a1 a2 a4;obtain⟨p1,p2,p3,p4,p5⟩:=oW k l a3 (hne u hu);have g:=h.ls u hu a5;refine⟨p1,?_⟩;rw[p2];rcases p4 with⟨e1,e2⟩|⟨e1,e2⟩<;>rw[e1,e2]
  ·exact g
  ·exact g.symm
 ·obtain⟨u,a1,a2,a3,a4,a5,rfl⟩:=f1 p hp;obtain⟨v,b1,b2,b3,b4,b5,rfl⟩:=f2 x hx;have hu:=rg u a1 a2 a4;have hv:=rg v b1 b2 b4;obtain⟨p1,p2⟩:=pW k l a3 (hne u hu);obtain⟨q1,q2,q3,q4,q5⟩:=oW k l b3 (hne v hv);have g:=h.pl u v hu hv a5 b5 (a3.trans b3.symm)
  have e3:(if(k.le s.b v).1=0 then k.hU l s.a u else k.hU l s.b u)=k.hU l (k.img v.1) u:=by
   rw[<-q2]
   split<;>rfl
  rw[p1,p2,q2,e3];unfold mm at q3;rw[<-q3]at g;exact g
 ·obtain⟨u,a1,a2,a3,a4,a5,rfl⟩:=f2 x hx;obtain⟨v,b1,b2,b3,b4,b5,rfl⟩:=f2 y hy;have hu:=rg u a1 a2 a4;have hv:=rg v b1 b2 b4;obtain⟨p1,p2,p3,p4,p5⟩:=oW k l a3 (hne u hu);obtain⟨q1,q2,q3,q4,q5⟩:=oW k l b3 (hne v hv);have ei:k.img u.1=k.img v.1:=by rw[<-p2,<-q2,e]
  have g:=h.ll u v hu hv a5 b5 (a3.trans b3.symm) ei;rw[p2,p3,ei,q3];exact g
 ·obtain⟨u,a1,a2,a3,a4,a5,rfl⟩:=f1 p hp;obtain⟨v,b1,b2,b3,b4,b5,rfl⟩:=f1 q hq;have hu:=rg u a1 a2 a4;have hv:=rg v b1 b2 b4;obtain⟨p1,p2⟩:=pW k l a3 (hne u hu);obtain⟨q1,q2⟩:=pW k l b3 (hne v hv);have g:=h.pp u v hu hv a5 b5 (a3.trans b3.symm);rw[a3]at g;rw[p1,p2,q1,q2];exact g
theorem Yr {k:Lk} {l:List Stk} (hne:∀u,k.reg u->k.img u.1≠k.other u.1 u.2):k.seams.any (Ke l)=false↔NC k l:=by
 rw[Dt]
 constructor
 ·exact λh=>Bg8 hne λs hs=>dV.1 (by simpa using h s hs)
 ·exact λh s hs=>by simpa using dV.2 (Bl2 hne h s hs)
theorem Yl (c:Cl):atF [] c=[]:=rfl
theorem Ky (x:Stk) (r:List Stk) (c:Cl):atF (x::r) c=if x.c=c then x.ls else atF r c:=by
 unfold atF;rw[Dg];by_cases h:x.c=c
 ·simp[h]
 ·simp[h]
theorem Uw {l:List Stk} {c:Cl} (h:c∉l.map (·.c)):atF l c=[]:=by
 induction l with
 |nil=>rfl
 |cons x r ih=>
  rw[Er,Bk,not_or]at h;rw[Ky,Gz (λe=>h.1 e.symm),ih h.2]
theorem Md {l:List Stk} {x:Stk} (hn:(l.map (·.c)).Nodup) (hx:x∈l):atF l x.c=x.ls:=by
 induction l with
 |nil=>simp at hx
 |cons y r ih=>
  rw[Er,Eh]at hn;rw[Ky];rcases Bk.1 hx with rfl|hx
  ·rw[Hd rfl]
  ·rw[Gz (λe=>hn.1 (by rw[e];exact Dq.2 ⟨x,hx,rfl⟩)),ih hn.2 hx]
theorem mJ {l l':List Stk} (hp:l.Perm l') (hn:(l.map (·.c)).Nodup) (c:Cl):atF l c=atF l' c:=by
 have hn':(l'.map (·.c)).Nodup:=(hp.map _).nodup_iff.1 hn;by_cases h:c∈l.map (·.c)
 ·obtain⟨x,hx,rfl⟩:=Dq.1 h;rw[Md hn hx,Md hn' (hp.mem_iff.1 hx)]
 ·rw[Uw h,Uw λh2=>h ((hp.map _).mem_iff.2 h2)]
theorem mH (x:Stk) (c:Cl):∀l:List Stk,atF (Nd x l) c=if x.c=c then atF l c++x.ls else atF l c
 |[]=>by
  unfold Nd;rw[Ky,Yl]
  split<;>simp
 |y::r=>by
  unfold Nd
  split
  ·rename_i h;rw[Ky,Ky];dsimp only;by_cases hc:x.c=c
   ·rw[Hd hc,Hd (h.trans hc),Hd (h.trans hc)]
   ·rw[Gz hc,Gz (by rw[h];exact hc),Gz (by rw[h];exact hc)]
  ·rename_i h;rw[Ky,Ky,mH x c r];by_cases hc:x.c=c
   ·rw[Hd hc,Hd hc];have:¬y.c=c:=λe=>h (e.trans hc.symm);rw[Gz this,Gz this]
   ·rw[Gz hc,Gz hc]
theorem mI (c:Cl):∀(L o:List Stk),atF (L.foldl (λo x=>if x.ls.isEmpty then o else Nd x o) o) c=atF o c++(L.filter λx=>decide (x.c=c)).flatMap (·.ls)
 |[],o=>Gx
 |x::r,o=>by
  rw[List.foldl_cons,mI c r,List.filter_cons];by_cases he:x.ls.isEmpty=true
  ·rw[Hd he];have h0:x.ls=[]:=by simpa using he
   split<;>simp[h0]
  ·rw[Gz he,mH];by_cases hc:x.c=c
   ·rw[Hd hc,Hd (by simp[hc]),Bf,Bj]
   ·rw[Gz hc,Gz (by simp[hc])]
theorem Ys (c:Cl):∀{l:List Stk},(l.map (·.c)).Nodup->(l.filter λx=>decide (x.c=c)).flatMap (·.ls)=atF l c
 |[],_=>rfl
 |x::r,hn=>by
  rw[Er,Eh]at hn;rw[List.filter_cons,Ky];by_cases hc:x.c=c
  ·rw[Hd (by simp[hc]),Hd hc,Bf,Ys c hn.2,Uw (by rw[<-hc];exact hn.1),Fe]
  ·rw[Gz (by simp[hc]),Gz hc,Ys c hn.2]
theorem Zm (l h:List Stk):Kd l h=Nq (Ld (l++h)):=rfl
theorem aF {l h:List Stk} (hl:(l.map (·.c)).Nodup) (hh:(h.map (·.c)).Nodup) (c:Cl):atF (Kd l h) c=atF l c++atF h c:=by
 rw[Zm,mJ (Jc _) (((Jc _).map _).nodup_iff.2 (Vi _))];unfold Ld;rw[mI,Yl,Et,List.filter_append,Bi,Ys c hl,Ys c hh]
theorem aG (k c0:Int) (sd:Nat) (c:Cl):∀l:List Stk,atF (Hv k c0 sd l) c=if Ir k c0 c=sd then atF l c else[]
 |[]=>by
  unfold Hv;rw[List.filter_nil,Yl]
  split<;>rfl
 |x::r=>by
  have ih:=aG k c0 sd c r;unfold Hv at ih⊢;rw[List.filter_cons,Ky];by_cases hs:Ir k c0 x.c=sd
  ·rw[Hd (by simp[hs]),Ky,ih];by_cases hc:x.c=c
   ·rw[Hd hc,Hd hc,Hd (by rw[<-hc];exact hs)]
   ·rw[Gz hc,Gz hc]
  ·rw[Gz (by simp[hs]),ih];by_cases hc:x.c=c
   ·rw[Gz (by rw[<-hc];exact hs),Gz (by rw[<-hc];exact hs)]
   ·rw[Gz hc]
theorem xG (c:Cl):∀l:List Stk,atF (Mj l) c=(atF l c).reverse
 |[]=>rfl
 |x::r=>by
  have ih:=xG c r;unfold Mj at ih⊢;rw[Er,Ky,Ky,ih];dsimp only
  split<;>rfl
theorem xF {g:Cl->Cl} {c:Cl}:∀{l:List Stk},(∀x∈l,g x.c=g c->x.c=c)->atF (l.map λx=>⟨g x.c,x.ls⟩) (g c)=atF l c
 |[],_=>rfl
 |x::r,h=>by
  rw[Er,Ky,Ky,xF λy hy=>h y (Ex _ hy)];dsimp only;by_cases hc:x.c=c
  ·rw[Hd hc,Hd (by rw[hc])]
  ·rw[Gz hc,Gz λe=>hc (h x Gx e)]
theorem Lc (x:Nat) (r:List Nat) (v:Nat):Jg (x::r) v=if x=v then 0 else if v∈r then Jg r v+1 else-1:=by
 unfold Jg;rw[List.findIdx?_cons];by_cases h:x=v
 ·simp[h]
 ·rw[Gz h];simp only[h,decide_false];by_cases hv:v∈r
  ·rw[Hd hv]
   cases hf:r.findIdx? λx=>decide (x=v)with
   |none=>
    rw[List.findIdx?_eq_none_iff]at hf;have:=hf v hv;simp at this
   |some i=>simp
  ·rw[Gz hv]
   have:r.findIdx? (λx=>decide (x=v))=Ae:=by
    rw[List.findIdx?_eq_none_iff];intro y hy;have hne:y≠v:=λe=>hv (e▸hy);simp[hne]
   rw[this];rfl
theorem Rn:∀{l:List Nat} {v:Nat},v∈l->0<=Jg l v/\Jg l v<l.length
 |[],v,h=>by simp at h
 |x::r,v,h=>by
  rw[Lc,En];by_cases e:x=v
  ·rw[Hd e];omega
  ·have hr:v∈r:=by
    rcases Bk.1 h with rfl|h
    ·exact absurd rfl e
    ·exact h
   have:=Rn hr;rw[Gz e,Hd hr];omega
theorem Ax0 {l:List Nat} {v:Nat} (h:v∉l):Jg l v= -1:=by
 cases l with
 |nil=>rfl
 |cons x r=>
  rw[Bk,not_or]at h;rw[Lc,Gz (λe=>h.1 e.symm),Gz h.2]
theorem pY {l:List Nat} {v:Nat}:0<=Jg l v↔v∈l:=by
 constructor
 ·intro h;by_cases hv:v∈l
  ·exact hv
  ·rw[Ax0 hv]at h;omega
 ·exact λh=>(Rn h).1
theorem aZ {l1 l2:List Nat} {v:Nat} (h:v∈l1):Jg (l1++l2) v=Jg l1 v:=by
 induction l1 with
 |nil=>simp at h
 |cons x r ih=>
  rw[Ep,Lc,Lc];by_cases e:x=v
  ·rw[Hd e,Hd e]
  ·have hr:v∈r:=by
    rcases Bk.1 h with rfl|h
    ·exact absurd rfl e
    ·exact h
   rw[Gz e,Gz e,Hd (by simp[hr]),Hd hr,ih hr]
theorem Ya {l1 l2:List Nat} {v:Nat} (h1:v∉l1) (h:v∈l2):Jg (l1++l2) v=l1.length+Jg l2 v:=by
 induction l1 with
 |nil=>simp
 |cons x r ih=>
  rw[Bk,not_or]at h1;rw[Ep,Lc,Gz (λe=>h1.1 e.symm),Hd (by simp[h]),ih h1.2,En];omega
theorem lP {l:List Nat} (hn:l.Nodup) {v:Nat} (h:v∈l):Jg l.reverse v=l.length-1-Jg l v:=by
 induction l with
 |nil=>simp at h
 |cons x r ih=>
  rw[Eh]at hn;rw[List.reverse_cons,Lc,En];by_cases e:x=v
  ·subst e;rw[Hd rfl,Ya (by simpa using hn.1) Gx,Lc,Hd rfl,List.length_reverse];omega
  ·have hr:v∈r:=by
    rcases Bk.1 h with rfl|h
    ·exact absurd rfl e
    ·exact h
   rw[Gz e,Hd hr,aZ (by simpa using hr),ih hn.2 hr];omega
theorem fN {l:List Nat} {u v:Nat} (hu:u∈l) (h:Jg l u=Jg l v):u=v:=by
 induction l with
 |nil=>simp at hu
 |cons x r ih=>
  rw[Lc,Lc]at h;by_cases e:x=u
  ·rw[Hd e]at h;by_cases e2:x=v
   ·exact e.symm.trans e2
   ·rw[Gz e2]at h
    split at h
    ·rename_i hv;have:=(Rn hv).1;omega
    ·omega
  ·have hr:u∈r:=by
    rcases Bk.1 hu with rfl|hu
    ·exact absurd rfl e
    ·exact hu
   rw[Gz e,Hd hr]at h;have:=(Rn hr).1;by_cases e2:x=v
   ·rw[Hd e2]at h;omega
   ·rw[Gz e2]at h
    split at h
    ·exact ih hr Gu
    ·omega
def Xl (nb:Nat×Nat->Nat) (u:Nat×Nat) (x y:Nat):Prop:=(x=u.1/\y=nb u)∨(x=nb u/\y=u.1)
def Rb (a b c d:Int):Prop:=(min a b<min c d/\min c d<max a b/\max a b<max c d)∨(min c d<min a b/\min a b<max c d/\max c d<max a b)
structure NC2 (reg:Nat×Nat->Prop) (nb:Nat×Nat->Nat) (kd:Nat×Nat->Bool) (img:Nat->Cl) (oth:Nat×Nat->Cl) (h:Nat->Int):Prop where
 pp:∀u v x y z w,reg u->reg v->kd u=false->kd v=false->Xl nb u x y->Xl nb v z w->img x=img z->img y=img w->¬(h x<h z/\h w<h y)
 pl:∀u v x y,reg u->reg v->kd u=false->kd v=true->Xl nb u x y->img x=img v.1->img y=oth v->¬(min (h v.1) (h (nb v))<h x/\h x<max (h v.1) (h (nb v)))
 ll:∀u v,reg u->reg v->kd u=true->kd v=true->img u.1=img v.1->oth u=oth v->¬Rb (h u.1) (h (nb u)) (h v.1) (h (nb v))
structure Sc (img img':Nat->Cl) (h h':Nat->Int) (len:Cl->Int) (R:Cl->Cl) (sd:Cl->Bool) (over:Bool) (i:Nat):Prop where
 im:img' i=if sd (img i)then R (img i)else img i
 inv:R (R (img i))=img i
 side:sd (R (img i))= !sd (img i)
 ht:h' i=if sd (img i)then (if over then len (R (img i))else 0)+(len (img i)-1-h i)else (if over then 0 else len (R (img i)))+h i
 bd:0<=h i/\h i<len (img i)
section
variable {img img':Nat->Cl} {h h':Nat->Int} {len:Cl->Int} {R:Cl->Cl} {sd:Cl->Bool} {over:Bool} {i:Nat}
theorem Sc.stay (F:Sc img img' h h' len R sd over i) (hs:sd (img i)=false):img' i=img i/\sd (img' i)=false/\h' i=(if over then 0 else len (R (img' i)))+h i/\0<=h i/\h i<len (img' i):=by
 have h1:=F.im;have h2:=F.ht;rw[hs]at h1 h2;have e:img' i=img i:=h1;rw[e];exact⟨rfl,hs,h2,F.bd⟩
theorem Sc.moved (F:Sc img img' h h' len R sd over i) (hs:sd (img i)=true):img' i=R (img i)/\img i=R (img' i)/\sd (img' i)=false/\h' i=(if over then len (img' i)else 0)+(len (R (img' i))-1-h i)/\0<=h i/\h i<len (R (img' i)):=by
 have h1:=F.im;have h2:=F.ht;have h3:=F.side;rw[hs]at h1 h2 h3;have e:img' i=R (img i):=h1;have e2:R (img' i)=img i:=by rw[e,F.inv]
 rw[e2,e];exact⟨rfl,rfl,h3,h2,F.bd⟩
end
theorem Rb.swap {a b c d:Int}:Rb a b c d↔Rb b a c d:=by
 unfold Rb;rw[Int.min_comm,Int.max_comm]
theorem Rb.comm {a b c d:Int}:Rb a b c d↔Rb c d a b:=by
 unfold Rb;exact Or.comm
theorem Av6 {reg:Nat×Nat->Prop} {nb:Nat×Nat->Nat} {kd kd':Nat×Nat->Bool} {img img':Nat->Cl} {oth pz:Nat×Nat->Cl} {h h':Nat->Int} {len:Cl->Int} {R:Cl->Cl} {sd:Cl->Bool} {over:Bool}
  (H:NC2 reg nb kd img oth h) (FA:∀u,reg u->Sc img img' h h' len R sd over u.1/\Sc img img' h h' len R sd over (nb u))
  (p0:∀u,reg u->kd u=false->oth u=img (nb u)) (l0:∀u,reg u->kd u=true->img (nb u)=img u.1)
  (ho:∀u,reg u->pz u=if sd (img u.1)then R (oth u)else oth u) (BN:∀u,reg u->R (R (oth u))=oth u)
  (hk:∀u,reg u->kd' u=(kd u||(sd (img u.1) != sd (img (nb u)))))
  (hx:∀u,reg u->kd u=false->sd (img u.1)≠sd (img (nb u))->R (img u.1)=img (nb u)):NC2 reg nb kd' img' pz h':=by
 have FE:∀u x y,reg u->Xl nb u x y->Sc img img' h h' len R sd over x/\Sc img img' h h' len R sd over y:=λu x y hu he=>by
  rcases he with⟨rfl,rfl⟩|⟨rfl,rfl⟩
  ·exact FA u hu
  ·exact(FA u hu).symm
 have ps:∀u,reg u->kd' u=false->kd u=false/\sd (img u.1)=sd (img (nb u)):=λu hu h0=>by
  have:=hk u hu;rw[h0]at this
  cases hkd:kd u<;>rw[hkd]at this
  ·exact⟨rfl,by simpa using this⟩
  ·simp at this
 have pe:∀u x y,reg u->kd' u=false->Xl nb u x y->sd (img x)=sd (img y):=λu x y hu h0 he=>by
  have:=(ps u hu h0).2;rcases he with⟨rfl,rfl⟩|⟨rfl,rfl⟩
  ·exact this
  ·exact this.symm
 have nw:∀u,reg u->kd u=false->sd (img u.1)≠sd (img (nb u))->∃x y,Xl nb u x y/\sd (img x)=false/\sd (img y)=true/\img x=img' u.1/\img y=R (img' u.1)/\img' x=img' u.1/\img' y=img' u.1/\pz u=R (img' u.1):=λu hu h0 hs=>by
  obtain⟨F1,F2⟩:=FA u hu;have e0:=hx u hu h0 hs;have eo:=ho u hu;rw[p0 u hu h0]at eo
  cases s1:sd (img u.1)with
  |false=>
   have s2:sd (img (nb u))=true:=by
    rw[s1]at hs
    cases h:sd (img (nb u))
    ·rw[h]at hs;exact absurd rfl hs
    ·rfl
   obtain⟨a1,-⟩:=F1.stay s1;obtain⟨b1,b2,-⟩:=F2.moved s2;rw[s1]at eo;have e1:img' (nb u)=img' u.1:=by rw[b1,a1,<-e0,F1.inv]
   exact⟨u.1,nb u,.inl ⟨rfl,rfl⟩,s1,s2,a1.symm,by rw[a1,e0],rfl,e1,by rw[a1,e0];exact eo⟩
  |true=>
   have s2:sd (img (nb u))=false:=by
    rw[s1]at hs
    cases h:sd (img (nb u))
    ·rfl
    ·rw[h]at hs;exact absurd rfl hs
   obtain⟨a1,a2,-⟩:=F1.moved s1;obtain⟨b1,-⟩:=F2.stay s2;rw[s1]at eo;have e1:img' (nb u)=img' u.1:=by rw[b1,a1,e0]
   exact⟨nb u,u.1,.inr ⟨rfl,rfl⟩,s2,s1,by rw[a1,e0],a2,e1,rfl,by rw[a1,e0];exact eo⟩
 have ol:∀u,reg u->kd u=true->sd (img (nb u))=sd (img u.1):=λu hu h0=>by rw[l0 u hu h0]
 have cs:∀u,reg u->kd' u=true->kd u=true∨(kd u=false/\sd (img u.1)≠sd (img (nb u))):=λu hu h0=>by
  have:=hk u hu;rw[h0]at this
  cases hkd:kd u with
  |true=>exact .inl rfl
  |false=>
   rw[hkd]at this;refine .inr ⟨rfl,λe=>?_⟩;rw[e]at this;simp at this
 have nh:∀u,reg u->kd u=false->sd (img u.1)≠sd (img (nb u))->∃x y,Xl nb u x y/\Xl nb u y x/\img x=img' u.1/\img y=R (img' u.1)/\R (R (img' u.1))=img' u.1/\pz u=R (img' u.1)/\
   h' x=(if over then 0 else len (R (img' u.1)))+h x/\0<=h x/\h x<len (img' u.1)/\h' y=(if over then len (img' u.1)else 0)+(len (R (img' u.1))-1-h y)/\0<=h y/\h y<len (R (img' u.1))/\∀c d,Rb (h' u.1) (h' (nb u)) c d↔Rb (h' x) (h' y) c d:=λu hu h0 hs=>by
  obtain⟨x,y,jk,sx,sy,e1,e2,e3,e4,e5⟩:=nw u hu h0 hs;obtain⟨Fx,Fy⟩:=FE u x y hu jk;obtain⟨-,-,x2,x3,x4⟩:=Fx.stay sx;obtain⟨-,-,-,y2,y3,y4⟩:=Fy.moved sy;rw[e3]at x2 x4;rw[e4]at y2 y4;refine⟨x,y,jk,jk.elim (λh=> .inr ⟨h.2,h.1⟩) (λh=> .inl ⟨h.2,h.1⟩),e1,e2,by rw[<-e1,Fx.inv],e5,x2,x3,x4,y2,y3,y4,λc d=>?_⟩;rcases jk with⟨rfl,rfl⟩|⟨rfl,rfl⟩
  ·exact Iff.rfl
  ·exact Rb.swap
 have no:∀u v,reg u->reg v->kd u=false->sd (img u.1)≠sd (img (nb u))->kd v=true->img' u.1=img' v.1->pz u=pz v->¬Rb (h' u.1) (h' (nb u)) (h' v.1) (h' (nb v)):=λu v hu hv gu hs kv ei eo=>by
  obtain⟨x,y,ef,hyx,e1,e2,e3,e4,x2,x3,x4,y2,y3,y4,hi⟩:=nh u hu gu hs;obtain⟨F1,F2⟩:=FA v hv;have sv:=ol v hv kv;have ev:=ho v hv;rw[hi];unfold Rb;rw[ei]at e1 e2 e3 e4 x2 x4 y2 y4
  cases s2:sd (img v.1)with
  |false=>
   obtain⟨z1,-,z2,z3,z4⟩:=F1.stay s2;obtain⟨w1,-,w2,w3,w4⟩:=F2.stay (sv.trans s2);have e9:img' (nb v)=img' v.1:=by rw[w1,z1,l0 v hv kv]
   rw[e9]at w2 w4;rw[s2]at ev;have ev:pz v=oth v:=ev;have g:=H.pl u v x y hu hv gu kv ef (by rw[e1,z1]) (by rw[e2,<-e4,eo,ev])
   cases over<;>simp at x2 y2 z2 w2<;>omega
  |true=>
   obtain⟨z1,z5,-,z2,z3,z4⟩:=F1.moved s2;obtain⟨w1,w5,-,w2,w3,w4⟩:=F2.moved (sv.trans s2);have e9:img' (nb v)=img' v.1:=by rw[w1,z1,l0 v hv kv]
   rw[e9]at w2 w4;rw[s2]at ev;have ev:pz v=R (oth v):=ev;have g:=H.pl u v y x hu hv gu kv hyx (by rw[e2,z5]) (by rw[e1,<-BN v hv,<-ev,<-eo,e4,e3])
   cases over<;>simp at x2 y2 z2 w2<;>omega
 refine⟨λu v x y z w hu hv gu fk eu ev OC OD=>?_,λu v x y hu hv gu fk eu OB T_=>?_,λu v hu hv gu fk ei eo=>?_⟩
 ·obtain⟨Fx,Fy⟩:=FE u x y hu eu;obtain⟨Fz,Fw⟩:=FE v z w hv ev;have ku:=ps u hu gu;have kv:=ps v hv fk;have su:=pe u x y hu gu eu;have sv:=pe v z w hv fk ev
  cases s1:sd (img x)with
  |false=>
   obtain⟨x1,-,x2,x3,x4⟩:=Fx.stay s1;obtain⟨y1,-,y2,y3,y4⟩:=Fy.stay (su▸s1)
   cases s2:sd (img z)with
   |false=>
    obtain⟨z1,-,z2,z3,z4⟩:=Fz.stay s2;obtain⟨w1,-,w2,w3,w4⟩:=Fw.stay (sv▸s2);have g:=H.pp u v x y z w hu hv ku.1 kv.1 eu ev (by rw[<-x1,<-z1,OC]) (by rw[<-y1,<-w1,OD]);rw[OC]at x2;rw[OD]at y2;omega
   |true=>
    obtain⟨z1,z5,-,z2,z3,z4⟩:=Fz.moved s2;obtain⟨w1,w5,-,w2,w3,w4⟩:=Fw.moved (sv▸s2);rw[OC]at x2 x4;rw[OD]at y2 y4
    cases over<;>simp at x2 y2 z2 w2<;>omega
  |true=>
   obtain⟨x1,x5,-,x2,x3,x4⟩:=Fx.moved s1;obtain⟨y1,y5,-,y2,y3,y4⟩:=Fy.moved (su▸s1)
   cases s2:sd (img z)with
   |false=>
    obtain⟨z1,-,z2,z3,z4⟩:=Fz.stay s2;obtain⟨w1,-,w2,w3,w4⟩:=Fw.stay (sv▸s2);rw[OC]at x2 x4;rw[OD]at y2 y4
    cases over<;>simp at x2 y2 z2 w2<;>omega
   |true=>
    obtain⟨z1,z5,-,z2,z3,z4⟩:=Fz.moved s2;obtain⟨w1,w5,-,w2,w3,w4⟩:=Fw.moved (sv▸s2);have g:=H.pp v u z w x y hv hu kv.1 ku.1 ev eu (by rw[z5,x5,OC]) (by rw[w5,y5,OD]);rw[OC]at x2;rw[OD]at y2;omega
 ·obtain⟨Fx,Fy⟩:=FE u x y hu eu;obtain⟨F1,F2⟩:=FA v hv;have ku:=ps u hu gu;have su:=pe u x y hu gu eu
  have sy:sd (img' y)=false:=by
   cases s:sd (img y)with
   |false=>exact(Fy.stay s).2.1
   |true=>exact(Fy.moved s).2.2.1
  rcases cs v hv fk with kv|⟨kv,hs⟩
  ·have sv:=ol v hv kv;have ev:=ho v hv
   cases s1:sd (img x)with
   |false=>
    obtain⟨x1,-,x2,x3,x4⟩:=Fx.stay s1;obtain⟨y1,-⟩:=Fy.stay (su▸s1)
    cases s2:sd (img v.1)with
    |false=>
     obtain⟨z1,-,z2,z3,z4⟩:=F1.stay s2;obtain⟨w1,-,w2,w3,w4⟩:=F2.stay (sv.trans s2);rw[s2]at ev;have g:=H.pl u v x y hu hv ku.1 kv eu (by rw[<-x1,<-z1,OB]) (by rw[<-y1,T_];exact ev);have e9:img' (nb v)=img' v.1:=by rw[w1,z1,l0 v hv kv]
     rw[OB]at x2;rw[e9]at w2;omega
    |true=>
     obtain⟨z1,z5,-,z2,z3,z4⟩:=F1.moved s2;obtain⟨w1,w5,-,w2,w3,w4⟩:=F2.moved (sv.trans s2);have e9:img' (nb v)=img' v.1:=by rw[w1,z1,l0 v hv kv]
     rw[OB]at x2 x4;rw[e9]at w2 w4
     cases over<;>simp at x2 z2 w2<;>omega
   |true=>
    obtain⟨x1,x5,-,x2,x3,x4⟩:=Fx.moved s1;obtain⟨y1,y5,-⟩:=Fy.moved (su▸s1)
    cases s2:sd (img v.1)with
    |false=>
     obtain⟨z1,-,z2,z3,z4⟩:=F1.stay s2;obtain⟨w1,-,w2,w3,w4⟩:=F2.stay (sv.trans s2);have e9:img' (nb v)=img' v.1:=by rw[w1,z1,l0 v hv kv]
     rw[OB]at x2 x4;rw[e9]at w2 w4
     cases over<;>simp at x2 z2 w2<;>omega
    |true=>
     obtain⟨z1,z5,-,z2,z3,z4⟩:=F1.moved s2;obtain⟨w1,w5,-,w2,w3,w4⟩:=F2.moved (sv.trans s2);rw[s2]at ev;have ev:pz v=R (oth v):=ev;have g:=H.pl u v x y hu hv ku.1 kv eu (by rw[x5,z5,OB]) (by rw[y5,T_,ev,BN v hv]);have e9:img' (nb v)=img' v.1:=by rw[w1,z1,l0 v hv kv]
     rw[OB]at x2;rw[e9]at w2;omega
  ·obtain⟨a,b,jk,-,sb,-,-,-,-,e9⟩:=nw v hv kv hs;exfalso;obtain⟨Fa,Fb⟩:=FE v a b hv jk;rw[T_,e9]at sy
   have h1:sd (img' v.1)=false:=by
    cases s:sd (img v.1)with
    |false=>exact(F1.stay s).2.1
    |true=>exact(F1.moved s).2.2.1
   cases s:sd (img v.1)with
   |false=>
    have:=F1.side;rw[<-(F1.stay s).1,sy,h1]at this;simp at this
   |true=>
    obtain⟨m1,m2,-⟩:=F1.moved s;rw[<-m2,s]at sy
    cases sy
 ·obtain⟨Fu1,Fu2⟩:=FA u hu;obtain⟨Fv1,Fv2⟩:=FA v hv;rcases cs u hu gu with ku|⟨ku,su⟩
  ·have su:=ol u hu ku;have UO:=ho u hu;rcases cs v hv fk with kv|⟨kv,sv⟩
   ·have sv:=ol v hv kv;have UP:=ho v hv
    cases s1:sd (img u.1)with
    |false=>
     unfold Rb;obtain⟨x1,-,x2,x3,x4⟩:=Fu1.stay s1;obtain⟨y1,-,y2,y3,y4⟩:=Fu2.stay (su.trans s1);have e8:img' (nb u)=img' u.1:=by rw[y1,x1,l0 u hu ku]
     rw[e8]at y2 y4;rw[ei]at x2 x4 y2 y4
     cases s2:sd (img v.1)with
     |false=>
      obtain⟨z1,-,z2,z3,z4⟩:=Fv1.stay s2;obtain⟨w1,-,w2,w3,w4⟩:=Fv2.stay (sv.trans s2);have e9:img' (nb v)=img' v.1:=by rw[w1,z1,l0 v hv kv]
      rw[e9]at w2 w4;rw[s1]at UO;rw[s2]at UP;have UO:pz u=oth u:=UO;have UP:pz v=oth v:=UP;have g:=H.ll u v hu hv ku kv (by rw[<-x1,<-z1,ei]) (by rw[<-UO,<-UP,eo]);unfold Rb at g;omega
     |true=>
      obtain⟨z1,z5,-,z2,z3,z4⟩:=Fv1.moved s2;obtain⟨w1,w5,-,w2,w3,w4⟩:=Fv2.moved (sv.trans s2);have e9:img' (nb v)=img' v.1:=by rw[w1,z1,l0 v hv kv]
      rw[e9]at w2 w4
      cases over<;>simp at x2 y2 z2 w2<;>omega
    |true=>
     unfold Rb;obtain⟨x1,x5,-,x2,x3,x4⟩:=Fu1.moved s1;obtain⟨y1,y5,-,y2,y3,y4⟩:=Fu2.moved (su.trans s1);have e8:img' (nb u)=img' u.1:=by rw[y1,x1,l0 u hu ku]
     rw[e8]at y2 y4;rw[ei]at x2 x4 y2 y4
     cases s2:sd (img v.1)with
     |false=>
      obtain⟨z1,-,z2,z3,z4⟩:=Fv1.stay s2;obtain⟨w1,-,w2,w3,w4⟩:=Fv2.stay (sv.trans s2);have e9:img' (nb v)=img' v.1:=by rw[w1,z1,l0 v hv kv]
      rw[e9]at w2 w4
      cases over<;>simp at x2 y2 z2 w2<;>omega
     |true=>
      obtain⟨z1,z5,-,z2,z3,z4⟩:=Fv1.moved s2;obtain⟨w1,w5,-,w2,w3,w4⟩:=Fv2.moved (sv.trans s2);have e9:img' (nb v)=img' v.1:=by rw[w1,z1,l0 v hv kv]
      rw[e9]at w2 w4;rw[s1]at UO;rw[s2]at UP;have UO:pz u=R (oth u):=UO;have UP:pz v=R (oth v):=UP;have g:=H.ll u v hu hv ku kv (by rw[x5,z5,ei]) (by rw[<-BN u hu,<-BN v hv,<-UO,<-UP,eo]);unfold Rb at g;omega
   ·exact λhi=>no v u hv hu kv sv ku ei.symm eo.symm (Rb.comm.1 hi)
  ·rcases cs v hv fk with kv|⟨kv,sv⟩
   ·exact no u v hu hv ku su kv ei eo
   ·obtain⟨x,y,ef,hyx,e1,e2,e3,e4,x2,x3,x4,y2,y3,y4,hi⟩:=nh u hu ku su;obtain⟨z,w,hzw,hwz,f1,f2,f3,f4,z2,z3,z4,w2,w3,w4,hj⟩:=nh v hv kv sv;intro hc;have hc:=(hi _ _).1 hc;have hc:=(hj _ _).1 (Rb.comm.1 hc);unfold Rb at hc;rw[ei]at e1 e2 x2 x4 y2 y4;have g1:=H.pp u v x y z w hu hv ku kv ef hzw (by rw[e1,f1]) (by rw[e2,f2]);have g2:=H.pp v u z w x y hv hu kv ku hzw ef (by rw[e1,f1]) (by rw[e2,f2])
    cases over<;>simp at x2 y2 z2 w2<;>omega
def Ae4 (p q:Cl):Cl×Cl:=if 0<Kc p q then (q,p)else (p,q)
theorem Ae5 {p q:Cl} (h:p≠q):Ae4 p q=Ae4 q p:=by
 have e1:0<Kc p q↔Kc q p<0:=by
  have:=Yq (a:=p) (b:=q);omega
 have e2:0<Kc q p↔Kc p q<0:=by
  have:=Yq (a:=q) (b:=p);omega
 have tri:Kc p q<0∨Kc q p<0:=by
  rw[Jk,Jk];obtain⟨px,py,pq⟩:=p;obtain⟨qx,qy,qq⟩:=q;dsimp only;by_cases h1:px=qx
  ·by_cases h2:py=qy
   ·by_cases h3:pq=qq
    ·exact absurd (by rw[h1,h2,h3]) h
    ·omega
   ·omega
  ·omega
 have anti:¬(Kc p q<0/\Kc q p<0):=by
  have:=Yq (a:=p) (b:=q);omega
 unfold Ae4;by_cases h0:Kc q p<0
 ·rw[Hd (e1.2 h0),Gz (λh2=>anti ⟨e2.1 h2,h0⟩)]
 ·rw[Gz (λh2=>h0 (e1.1 h2)),Hd (e2.2 (tri.resolve_right h0))]
theorem yF (k:Lk) (u:Nat×Nat):k.key u.1 u.2=Ae4 (k.img u.1) (k.other u.1 u.2):=rfl
section
variable {k:Lk} {l:List Stk}
theorem Qi {u:Nat×Nat} {x y:Nat} (he:Xl k.nb u x y) (hne:k.img u.1≠k.img (k.nb u)):k.hU l (k.img x) u=htC l (k.img x) x:=by
 unfold Lk.hU;rcases he with⟨rfl,rfl⟩|⟨rfl,rfl⟩
 ·rw[Hd rfl]
 ·rw[Gz hne]
theorem Bp5 (p0:∀u,k.reg u->Hm k.cr u.1 u.2=0->k.other u.1 u.2=k.img (k.nb u)) (l0:∀u,k.reg u->Hm k.cr u.1 u.2≠0->k.img (k.nb u)=k.img u.1) (hne:∀u,k.reg u->k.img u.1≠k.other u.1 u.2) (H:NC k l):
  NC2 k.reg k.nb (λu=>decide (Hm k.cr u.1 u.2≠0)) k.img (λu=>k.other u.1 u.2) (λi=>htC l (k.img i) i):=by
 have z0:∀u:Nat×Nat,decide (Hm k.cr u.1 u.2≠0)=false->Hm k.cr u.1 u.2=0:=λu h=>Ek.1 (by simpa using h);have z1:∀u:Nat×Nat,decide (Hm k.cr u.1 u.2≠0)=true->Hm k.cr u.1 u.2≠0:=λu h=>by simpa using h
 have ke:∀u x y,k.reg u->Hm k.cr u.1 u.2=0->Xl k.nb u x y->k.key u.1 u.2=Ae4 (k.img x) (k.img y)/\k.img x≠k.img y:=λu x y hu h0 he=>by
  have hn:=hne u hu;rw[p0 u hu h0]at hn;rw[yF,p0 u hu h0];rcases he with⟨rfl,rfl⟩|⟨rfl,rfl⟩
  ·exact⟨rfl,hn⟩
  ·exact⟨Ae5 hn,hn.symm⟩
 refine⟨λu v x y z w hu hv gu fk eu ev OC OD hc=>?_,λu v x y hu hv gu fk eu OB T_ hc=>?_,λu v hu hv gu fk ei eo hc=>?_⟩
 ·have gu:=z0 u gu;have fk:=z0 v fk;obtain⟨k1,d1⟩:=ke u x y hu gu eu;obtain⟨k2,d2⟩:=ke v z w hv fk ev;have pu:=hne u hu;rw[p0 u hu gu]at pu;have hnv:=hne v hv;rw[p0 v hv fk]at hnv;have eu':Xl k.nb u y x:=eu.elim (λh=> .inr ⟨h.2,h.1⟩) (λh=> .inl ⟨h.2,h.1⟩);have ev':Xl k.nb v w z:=ev.elim (λh=> .inr ⟨h.2,h.1⟩) (λh=> .inl ⟨h.2,h.1⟩);have kk:k.key u.1 u.2=k.key v.1 v.2:=by rw[k1,k2,OC,OD]
  have a1:=Qi (l:=l) eu pu;have a2:=Qi (l:=l) eu' pu;have a3:=Qi (l:=l) ev hnv;have a4:=Qi (l:=l) ev' hnv;rw[<-OC]at a3;rw[<-OD]at a4;rw[<-OC,<-OD]at hc;have g1:=H.pp u v hu hv gu fk kk;have g2:=H.pp v u hv hu fk gu kk.symm;rw[<-kk]at g2;rw[k1]at g1 g2;unfold Ae4 at g1 g2
  split at g1
  ·rename_i h0;rw[Hd h0]at g2;dsimp only at g1 g2;rw[a1,a2,a3,a4]at g2;exact g2 ⟨hc.2,hc.1⟩
  ·dsimp only at g1;rw[a1,a2,a3,a4]at g1;exact g1 hc
 ·have gu:=z0 u gu;have fk:=z1 v fk;obtain⟨k1,d1⟩:=ke u x y hu gu eu;have pu:=hne u hu;rw[p0 u hu gu]at pu;have kk:k.key u.1 u.2=k.key v.1 v.2:=by rw[k1,yF,OB,T_]
  have g:=H.pl u v hu hv gu fk kk;have a1:=Qi (l:=l) eu pu;rw[<-OB,a1]at g;unfold Lk.hL mm at g;dsimp only at g hc;rw[l0 v hv fk]at hc;rw[<-OB]at hc g;exact g hc
 ·have gu:=z1 u gu;have fk:=z1 v fk;have kk:k.key u.1 u.2=k.key v.1 v.2:=by rw[yF,yF,ei,eo]
  have g:=H.ll u v hu hv gu fk kk ei;unfold Rb at hc;rw[l0 u hu gu,l0 v hv fk]at hc;unfold Oy Lk.hL mm at g;simp only[Cy,Bool.and_eq_false_iff,Rt]at g;rcases hc with hc|hc
  ·rcases g.1 with (h|h)|h<;>omega
  ·rcases g.2 with (h|h)|h<;>omega
theorem Bp4 (p0:∀u,k.reg u->Hm k.cr u.1 u.2=0->k.other u.1 u.2=k.img (k.nb u)) (l0:∀u,k.reg u->Hm k.cr u.1 u.2≠0->k.img (k.nb u)=k.img u.1) (hne:∀u,k.reg u->k.img u.1≠k.other u.1 u.2)
  (hp:∀u,k.reg u->0<=htC l (k.img u.1) u.1/\0<=htC l (k.img (k.nb u)) (k.nb u))
  (H:NC2 k.reg k.nb (λu=>decide (Hm k.cr u.1 u.2≠0)) k.img (λu=>k.other u.1 u.2) (λi=>htC l (k.img i) i)):NC k l:=by
 have z0:∀u:Nat×Nat,Hm k.cr u.1 u.2=0->decide (Hm k.cr u.1 u.2≠0)=false:=λu h=>by simpa using h
 have z1:∀u:Nat×Nat,Hm k.cr u.1 u.2≠0->decide (Hm k.cr u.1 u.2≠0)=true:=λu h=>by simpa using h
 have en:∀u A B,k.reg u->Hm k.cr u.1 u.2=0->k.key u.1 u.2=(A,B)->∃x y,Xl k.nb u x y/\k.img x=A/\k.img y=B/\k.hU l A u=htC l A x/\k.hU l B u=htC l B y:=λu A B hu h0 e=>by
  have hn:=hne u hu;rw[p0 u hu h0]at hn;rcases Ua k u with e2|e2
  ·rw[e2,p0 u hu h0]at e;injection e with e3 e4;have a1:=Qi (l:=l) (x:=u.1) (y:=k.nb u) (.inl ⟨rfl,rfl⟩) hn;have a2:=Qi (l:=l) (x:=k.nb u) (y:=u.1) (.inr ⟨rfl,rfl⟩) hn;rw[e3]at a1;rw[e4]at a2;exact⟨u.1,k.nb u,.inl ⟨rfl,rfl⟩,e3,e4,a1,a2⟩
  ·rw[e2,p0 u hu h0]at e;injection e with e3 e4;have a1:=Qi (l:=l) (x:=u.1) (y:=k.nb u) (.inl ⟨rfl,rfl⟩) hn;have a2:=Qi (l:=l) (x:=k.nb u) (y:=u.1) (.inr ⟨rfl,rfl⟩) hn;rw[e4]at a1;rw[e3]at a2;exact⟨k.nb u,u.1,.inr ⟨rfl,rfl⟩,e3,e4,a2,a1⟩
 refine⟨λu hu h0=>?_,λu hu h0=>?_,λu v hu hv gu fk e=>?_,λu v hu hv gu fk e=>?_,λu v hu hv gu fk e ei=>?_⟩
 ·have hn:=hne u hu;rw[p0 u hu h0]at hn;rw[p0 u hu h0,Qi (l:=l) (x:=u.1) (y:=k.nb u) (.inl ⟨rfl,rfl⟩) hn,Qi (l:=l) (x:=k.nb u) (y:=u.1) (.inr ⟨rfl,rfl⟩) hn];exact hp u hu
 ·have:=hp u hu;rw[l0 u hu h0]at this;exact this
 ·obtain⟨⟨A,B⟩,hk⟩:=ey (k.key u.1 u.2);obtain⟨x,y,he,x1,y1,x2,y2⟩:=en u A B hu gu hk;obtain⟨z,w,hf,z1,w1,z2,w2⟩:=en v A B hv fk (e▸hk);have g:=H.pp u v x y z w hu hv (z0 u gu) (z0 v fk) he hf (x1.trans z1.symm) (y1.trans w1.symm);rw[x1,y1,z1,w1]at g;rw[hk];dsimp only;rw[x2,y2,z2,w2];exact g
 ·have hn:=hne u hu;rw[p0 u hu gu]at hn
  have fin:∀x y,Xl k.nb u x y->k.img x=k.img v.1->k.img y=k.other v.1 v.2->¬((k.hL l v).1<k.hU l (k.img v.1) u/\k.hU l (k.img v.1) u<(k.hL l v).2):=λx y he h1 h2=>by
   have g:=H.pl u v x y hu hv (z0 u gu) (z1 v fk) he h1 h2;have a1:=Qi (l:=l) he hn;rw[h1]at a1;rw[a1];unfold Lk.hL mm;dsimp only at g⊢;rw[l0 v hv fk,h1]at g;exact g
  have WI:k.other u.1 u.2=k.img (k.nb u):=p0 u hu gu;rcases Ua k u with e1|e1<;>rcases Ua k v with e2|e2<;>rw[e1,e2]at e<;>injection e with e3 e4
  ·exact fin u.1 (k.nb u) (.inl ⟨rfl,rfl⟩) e3 (WI▸e4)
  ·exact fin (k.nb u) u.1 (.inr ⟨rfl,rfl⟩) (WI▸e4) e3
  ·exact fin (k.nb u) u.1 (.inr ⟨rfl,rfl⟩) (WI▸e3) e4
  ·exact fin u.1 (k.nb u) (.inl ⟨rfl,rfl⟩) e4 (WI▸e3)
 ·have eo:k.other u.1 u.2=k.other v.1 v.2:=by
   have h1:=hne u hu;have h2:=hne v hv;rcases Ua k u with e1|e1<;>rcases Ua k v with e2|e2<;>rw[e1,e2]at e<;>injection e with e3 e4
   ·exact absurd (ei.trans e4.symm) h1
   ·exact absurd (ei.trans e3.symm) h1
  have g:=H.ll u v hu hv (z1 u gu) (z1 v fk) ei eo;unfold Rb at g;rw[l0 u hu gu,l0 v hv fk]at g;unfold Oy Lk.hL mm;simp only[Cy,Bool.and_eq_false_iff,Rt];omega
end
def Iq (c:Cl) (e:Nat):Cl:=⟨c.x+(nxt c.q e).1,c.y+(nxt c.q e).2.1,(nxt c.q e).2.2.toNat⟩
theorem gM {t:Nat} (h:t<=7):t=0∨t=1∨t=2∨t=3∨t=4∨t=5∨t=6∨t=7:=Gu
theorem Wv {t:Nat} (h:t<=3):t=0∨t=1∨t=2∨t=3:=Gu
theorem lF {t:Nat} (h:t<=2):t=0∨t=1∨t=2:=Gu
theorem Ud (m:Mv) (ht:m.t<=7) (c:Cl) (hq:c.q<=3) (e:Nat) (he:e<=2):∃e',e'<=2/\Ho m (Iq c e)=Iq (Ho m c) e':=by
 obtain⟨t,a,b⟩:=m;obtain⟨x,y,q⟩:=c;dsimp only at ht hq;rcases gM ht with rfl|rfl|rfl|rfl|rfl|rfl|rfl|rfl<;>rcases Wv hq with rfl|rfl|rfl|rfl<;>rcases lF he with rfl|rfl|rfl<;>
 first
  |(refine⟨0,Ha,?_⟩
    simp[Ho,Iq,Iu,Ic,mat,Ip,Lj,nxt];omega)
  |(refine⟨1,Ha,?_⟩
    simp[Ho,Iq,Iu,Ic,mat,Ip,Lj,nxt]<;>omega)
  |(refine⟨2,Ha,?_⟩
    simp[Ho,Iq,Iu,Ic,mat,Ip,Lj,nxt]<;>omega)
theorem bF (c:Cl) (hq:c.q<=3) (e:Nat) (he:e<=2):Ho (ofL (Js c e).1 (Js c e).2) (Iq c e)=c/\Ho (ofL (Js c e).1 (Js c e).2) c=Iq c e:=by
 obtain⟨x,y,q⟩:=c;dsimp only at hq;rcases Wv hq with rfl|rfl|rfl|rfl<;>rcases lF he with rfl|rfl|rfl<;>
 simp[Ho,Iq,Iu,Ic,mat,Ip,Lj,nxt,ofL,Js]<;>omega
def thn (a b:Mv):Mv:=⟨Kz (Im (mat a.t) (mat b.t)),(Ic (mat b.t) a.x a.y).1+b.x,(Ic (mat b.t) a.x a.y).2+b.y⟩
theorem Bq1 (a b:Mv):(thn a b).t<=7:=by
 unfold thn Kz;dsimp only
 repeat' split
 all_goals decide
theorem Ai1 (a b:Mv) (ha:a.t<=7) (hb:b.t<=7) (x y:Int):Iu (thn a b) x y=Iu b (Iu a x y).1 (Iu a x y).2:=by
 obtain⟨t,a1,a2⟩:=a;obtain⟨u,b1,b2⟩:=b;dsimp only at ha hb;rcases gM ha with rfl|rfl|rfl|rfl|rfl|rfl|rfl|rfl<;>rcases gM hb with rfl|rfl|rfl|rfl|rfl|rfl|rfl|rfl<;>
 simp[thn,Iu,Ic,mat,Im,Kz]<;>omega
theorem Ai0 (m:Mv) (ht:m.t<=7) (x y:Int):(Iu m (2*x+1) (2*y+1)).1%2=1/\(Iu m (2*x+1) (2*y+1)).2%2=1:=by
 obtain⟨t,a,b⟩:=m;dsimp only at ht;rcases gM ht with rfl|rfl|rfl|rfl|rfl|rfl|rfl|rfl<;>simp[Iu,Ic,mat]<;>omega
theorem Az9 (a b:Mv) (ha:a.t<=7) (hb:b.t<=7) (q:Nat) (hq:q<=3):Lj (Ic (mat (thn a b).t) (Ip q).1 (Ip q).2)=Lj (Ic (mat b.t) (Ip (Lj (Ic (mat a.t) (Ip q).1 (Ip q).2))).1 (Ip (Lj (Ic (mat a.t) (Ip q).1 (Ip q).2))).2):=by
 have key:∀t,t<8->∀u,u<8->∀q,q<4->Lj (Ic (mat (Kz (Im (mat t) (mat u)))) (Ip q).1 (Ip q).2)=Lj (Ic (mat u) (Ip (Lj (Ic (mat t) (Ip q).1 (Ip q).2))).1 (Ip (Lj (Ic (mat t) (Ip q).1 (Ip q).2))).2):=Ha;exact key a.t Gu b.t Gu q Gu
theorem aU (a b:Mv) (ha:a.t<=7) (hb:b.t<=7) (c:Cl) (hq:c.q<=3):Ho (thn a b) c=Ho b (Ho a c):=by
 have h1:=Ai1 a b ha hb (2*c.x+1) (2*c.y+1);have h2:=Ai0 a ha c.x c.y;have h3:=Az9 a b ha hb c.q hq;have e1:2*((Iu a (2*c.x+1) (2*c.y+1)).1/2)+1=(Iu a (2*c.x+1) (2*c.y+1)).1:=Gu;have e2:2*((Iu a (2*c.x+1) (2*c.y+1)).2/2)+1=(Iu a (2*c.x+1) (2*c.y+1)).2:=Gu;unfold Ho;dsimp only;rw[h1,h3,e1,e2]
theorem Az8 (d:Int×Int):Lj d<=3:=by
 unfold Lj
 repeat' split
 all_goals decide
theorem Io (m:Mv) (c:Cl):(Ho m c).q<=3:=Az8 _
theorem Lz {α:Type} (l:List α) (n:Nat) (v d:α) (h:n<l.length):(l.set n v).getD n d=v:=by simp[List.getD,h]
theorem Nz {α:Type} (l:List α) (n j:Nat) (v d:α) (h:j≠n):(l.set n v).getD j d=l.getD j d:=by
 simp only[List.getD,List.getElem?_set_ne (Ne.symm h)]
structure rQ (a b:Int) (l:List Cr) (s:RS) (D:List Nat):Prop where
 lo:s.out.length=Hg a b
 lk:s.known.length=Hg a b
 nd:(D++s.wait).Nodup
 kn:∀j,s.known.getD j false=true↔j∈D++s.wait
 lt:∀j∈D++s.wait,j<Hg a b
def cS (s s':RS):Prop:=∀j,s.known.getD j false=true->s'.known.getD j false=true/\s'.out.getD j mv0=s.out.getD j mv0
theorem cS.refl (s:RS):cS s s:=λ_ h=>⟨h,rfl⟩
theorem cS.trans {s t u:RS} (h:cS s t) (k:cS t u):cS s u:=λj hj=>⟨(k j (h j hj).1).1,(k j (h j hj).1).2.trans (h j hj).2⟩
def rP (a b:Int) (l:List Cr) (s:RS) (id e:Nat):Prop:=(nbI a b id e).2=0->s.known.getD (nbI a b id e).1.toNat false=true/\s.out.getD (nbI a b id e).1.toNat mv0=Kh a b l s.out id e
theorem Vx (a b:Int) (l:List Cr) {o o':List Mv} {id:Nat} (e:Nat) (h:o'.getD id mv0=o.getD id mv0):Kh a b l o' id e=Kh a b l o id e:=by
 unfold Kh;rw[h]
theorem rP.ext {a b:Int} {l:List Cr} {s s':RS} {id e:Nat} (h:rP a b l s id e) (hx:cS s s') (hi:s.known.getD id false=true):rP a b l s' id e:=λh0=>by
 obtain⟨h1,h2⟩:=h h0;refine⟨(hx _ h1).1,?_⟩;rw[(hx _ h1).2,h2,Vx a b l e (hx _ hi).2]
theorem lS {a b:Int} (hs:okS a b=true) {l:List Cr} {s s':RS} {D:List Nat} {id e:Nat} (h:Ox a b l id e s=Af s') (hI:rQ a b l s D) (hid:id∈D):rQ a b l s' D/\cS s s'/\rP a b l s' id e:=by
 unfold Ox at h
 split at h
 ·rename_i h0;obtain rfl:=Option.some.inj h;exact⟨hI,cS.refl _,λh1=>absurd h1 h0⟩
 ·rename_i h0;have h0:(nbI a b id e).2=0:=Decidable.not_not.1 h0;obtain⟨n1,n2⟩:=fF hs h0;have hn:(nbI a b id e).1.toNat<Hg a b:=by unfold Hg;omega
  dsimp only at h
  cases hk:s.known.getD (nbI a b id e).1.toNat false with
  |true=>
   simp only[hk,if_true]at h
   split at h
   ·rename_i h3;obtain rfl:=Option.some.inj h;exact⟨hI,cS.refl _,λ_=>⟨hk,h3⟩⟩
   ·cases h
  |false=>
   simp only[hk,Bool.false_eq_true,if_false]at h
   split at h
   ·rename_i h3;obtain rfl:=Option.some.inj h
    have hx:cS s ⟨s.out.set (nbI a b id e).1.toNat (Kh a b l s.out id e),s.known.set (nbI a b id e).1.toNat true,s.wait++[(nbI a b id e).1.toNat]⟩:=λj hj=>by
     have hne:j≠(nbI a b id e).1.toNat:=λe2=>by rw[e2,hk]at hj;cases hj
     dsimp only;rw[Nz _ _ _ _ _ hne,Nz _ _ _ _ _ hne];exact⟨hj,rfl⟩
    have jw:(nbI a b id e).1.toNat∉D++s.wait:=λh4=>by
     have:=(hI.kn _).2 h4;rw[hk]at this
     cases this
    refine⟨⟨by simpa using hI.lo,by simpa using hI.lk,?_,?_,?_⟩,hx,λ_=>⟨?_,?_⟩⟩
    ·dsimp only;rw[<-Bj];refine Bp.2 ⟨hI.nd,Gx,?_⟩;intro x SY y hy;rw[Ge.1 hy];exact λe2=>jw (e2▸SY)
    ·intro j;dsimp only;rw[<-Bj,Bl,<-hI.kn j];by_cases hj:j=(nbI a b id e).1.toNat
     ·subst hj;rw[Lz _ _ _ _ (by rw[hI.lk];exact hn)];simp
     ·rw[Nz _ _ _ _ _ hj];simp[hj]
    ·intro j hj;dsimp only at hj;rw[<-Bj,Bl]at hj;rcases hj with hj|hj
     ·exact hI.lt j hj
     ·rw[Ge.1 hj];exact hn
    ·exact Lz _ _ _ _ (by rw[hI.lk];exact hn)
    ·dsimp only;rw[Lz _ _ _ _ (by rw[hI.lo];exact hn)];exact(Vx a b l e (hx id ((hI.kn id).2 (Gb _ hid))).2).symm
   ·cases h
theorem vI {a b:Int} (hs:okS a b=true) {l:List Cr} {s s':RS} {D:List Nat} {id:Nat} (h:Qr a b l id s=Af s') (hI:rQ a b l s D) (hid:id∈D):rQ a b l s' D/\cS s s'/\∀e,e<=2->rP a b l s' id e:=by
 unfold Qr at h;obtain⟨s1,h1,h⟩:=Option.bind_eq_some_iff.1 h;obtain⟨s2,h2,h3⟩:=Option.bind_eq_some_iff.1 h;obtain⟨i1,x1,c1⟩:=lS hs h1 hI hid;obtain⟨i2,x2,c2⟩:=lS hs h2 i1 hid;obtain⟨i3,x3,c3⟩:=lS hs h3 i2 hid;have k1:=(i1.kn id).2 (Gb _ hid);have k2:=(i2.kn id).2 (Gb _ hid);refine⟨i3,(x1.trans x2).trans x3,λe he=>?_⟩;rcases lF he with rfl|rfl|rfl
 ·exact(c1.ext x2 k1).ext x3 k2
 ·exact c2.ext x3 k2
 ·exact c3
theorem qF {a b:Int} (hs:okS a b=true) {l:List Cr}:∀(f:Nat) {s:RS} {D:List Nat} {m:List Mv},Sa a b l f s=Af m->f+D.length=Hg a b+1->rQ a b l s D->(∀id∈D,∀e,e<=2->rP a b l s id e)->
  ∃D':List Nat,(∀id∈D,id∈D')/\(∀id∈s.wait,id∈D')/\(∀id∈D',∀e:Nat,e<=2->(nbI a b id e).2=0->(nbI a b id e).1.toNat∈D'/\m.getD (nbI a b id e).1.toNat mv0=Kh a b l m id e)/\∀j,s.known.getD j false=true->m.getD j mv0=s.out.getD j mv0
 |0,s,D,m,h,hf,hI,hc=>by
  have h1:(D++s.wait).length<=Hg a b:=by
   have:=List.Nodup.length_le_of_subset (l₁:=D++s.wait) (l₂:=Dr (Hg a b)) hI.nd (λx hx=>Ea.2 (hI.lt x hx));simpa using this
  rw[List.length_append]at h1;omega
 |f+1,s,D,m,h,hf,hI,hc=>by
  unfold Sa at h
  cases hw:s.wait with
  |nil=>
   rw[hw]at h;obtain rfl:=Option.some.inj h;refine⟨D,λ_ h=>h,(λ_ h=>by cases h),λid hid e he h0=>?_,λ_ _=>rfl⟩;obtain⟨k1,k2⟩:=hc id hid e he h0;have:=(hI.kn _).1 k1;rw[hw,Fe]at this;exact⟨this,k2⟩
  |cons id r=>
   rw[hw]at h;obtain⟨s',h1,h2⟩:=Option.bind_eq_some_iff.1 h
   have hI2:rQ a b l ⟨s.out,s.known,r⟩ (D++[id]):=by
    have e:D++[id]++r=D++s.wait:=by rw[hw];simp
    exact⟨hI.lo,hI.lk,by rw[e];exact hI.nd,λj=>by rw[e];exact hI.kn j,λj hj=>hI.lt j (by rw[e]at hj;exact hj)⟩
   obtain⟨i3,x3,c3⟩:=vI hs h1 hI2 Gx
   obtain⟨D',d1,d2,d3,d4⟩:=qF hs f h2 Hu i3 (λj hj e he=>by
    rcases Bl.1 hj with hj|hj
    ·have hk:s.known.getD j false=true:=(hI.kn j).2 (Gb _ hj);exact rP.ext (s:=s) (hc j hj e he) x3 hk
    ·rw[Ge.1 hj];exact c3 e he)
   refine⟨D',λj hj=>d1 j (Gb _ hj),λj hj=>?_,d3,λj hj=>(d4 j (x3 j hj).1).trans (x3 j hj).2⟩;rcases Bk.1 hj with rfl|hj
   ·exact d1 _ Gx
   ·by_cases hjd:j∈D'
    ·exact hjd
    ·have hk:(⟨s.out,s.known,r⟩:RS).known.getD j false=true:=(hI2.kn j).2 (List.mem_append_right _ hj);have:=(i3.kn j).1 (x3 j hk).1;rcases Bl.1 this with h|h
     ·exact d1 j h
     ·exact d2 j h
theorem Bm5 {a b:Int} (hs:okS a b=true) {l:List Cr} {m:List Mv} (h:Uh a b l=Af m):
  m.getD 0 mv0=mv0/\∃D:List Nat,0∈D/\∀id∈D,∀e:Nat,e<=2->(nbI a b id e).2=0->(nbI a b id e).1.toNat∈D/\m.getD (nbI a b id e).1.toNat mv0=Kh a b l m id e:=by
 have hc:1<=Hg a b:=by
  have:=Mg hs;unfold Hg;rw[show 4*a*b=4*(a*b)from Cv ..];omega
 unfold Uh at h
 have hI:rQ a b l ⟨Ba (Hg a b) mv0,true::Ba (Hg a b-1) false,[0]⟩ []:=by
  refine⟨Gx,Hu,Gx,λj=>?_,λj hj=>?_⟩
  ·cases j with
   |zero=>simp
   |succ j=>
    simp only[Et,Ge,Nat.succ_ne_zero,iff_false];simp[List.getD,List.getElem?_replicate]
    split<;>rfl
  ·have:j=0:=by simpa using hj
   omega
 obtain⟨D,-,d2,d3,d4⟩:=qF hs _ (D:=[]) h Gx hI (λ_ h=>by cases h);refine⟨(d4 0 Gx).trans ?_,D,d2 0 Gx,d3⟩;dsimp only
 cases va:Hg a b with
 |zero=>omega
 |succ k=>rfl
theorem Vj {m:Mv} (h:m.ok=true):m.t<=7:=by
 have:=(Ry.1 h).1;omega
theorem Jz (a:Int) (i:Nat):(Hf a i).q<=3:=by
 unfold Hf;dsimp only;omega
theorem Au8 {n:Nat} {l:List Nat} (hn:l.Nodup) (hl:n<=l.length) (hb:∀x∈l,x<n) {i:Nat} (hi:i<n):i∈l:=by
 apply Ew;intro h
 have h2:(i::l).length<=(Dr n).length:=List.Nodup.length_le_of_subset (Eh.2 ⟨h,hn⟩) λx hx=>by
  rcases Bk.1 hx with rfl|hx
  ·exact Ea.2 hi
  ·exact Ea.2 (hb x hx)
 simp at h2;omega
theorem aX {c:Cl} (h:c.ok=true) {e:Nat} (he:e<=2) (h2:(Iq c e).ok=true):Sg c e=(Iq c e,0):=by
 unfold Sg nbr;unfold Cl.ok at h h2;unfold Iq at h2⊢;dsimp only at h2;have hb:=fI c.q e;rw[Int.toNat_of_nonneg hb.2.2.2.2.1]at h2;rw[Gz (by rw[h];simp;omega)];simp only[Eu];rw[Hd h2]
def paE (a i:Nat):Nat×Nat:=
 if i%4=1 then (i-1,1)else if i%4=2 then (i-1,2)
 else if i/4/a=0/\i/4≠0 then (if i%4=3 then (4*(i/4-1)+1,0)else (i+3,2))
 else if i%4=3 then (i-3,2)else (4*(i/4-a)+2,0)
def deE (a i:Nat):Nat:=3*(i/4%a)+3*(i/4/a)+(if i%4=3 then 1 else i%4)-(if i%4=3/\i/4/a=0/\i/4≠0 then 2 else 0)
def zQ (a b i:Nat):Prop:=(paE a i).1<4*a*b/\(paE a i).2<=2/\nbI (a:Int) (b:Int) ((paE a i).1:Int) ((paE a i).2:Int)=((i:Int),0)/\deE a (paE a i).1<deE a i
instance (a b i:Nat):Decidable (zQ a b i):=by unfold zQ;infer_instance
def zL (a b i e:Nat):Prop:=
 (nbI (a:Int) (b:Int) (i:Int) (e:Int)).1.toNat<4*a*b/\0<=(nbI (a:Int) (b:Int) (i:Int) (e:Int)).1/\
 Hf (a:Int) (nbI (a:Int) (b:Int) (i:Int) (e:Int)).1.toNat=Iq (Hf (a:Int) i) e/\
 yK (a:Int) (b:Int) (Ig (a:Int) (b:Int) (i:Int) (e:Int)).1 (Ig (a:Int) (b:Int) (i:Int) (e:Int)).2.1=(Js (Hf (a:Int) i) e,0)/\
 okL (Js (Hf (a:Int) i) e).1 (Js (Hf (a:Int) i) e).2=true/\
 nbI (a:Int) (b:Int) (nbI (a:Int) (b:Int) (i:Int) (e:Int)).1 (e:Int)=((i:Int),0)/\(nbI (a:Int) (b:Int) (i:Int) (e:Int)).1≠(i:Int)
instance (a b i e:Nat):Decidable (zL a b i e):=by unfold zL;infer_instance
structure Ni (a b:Nat):Prop where
 ok:okS (a:Int) (b:Int)=true
 tree:∀i,i<4*a*b->i≠0->zQ a b i
 step:∀i e:Nat,i<4*a*b->e<=2->(nbI (a:Int) (b:Int) (i:Int) (e:Int)).2=0->zL a b i e
theorem wA:(([1,2,4,8]:List Nat).all λa=>([1,2,4]:List Nat).all λb=>(Dr (4*a*b)).all λi=>decide (i≠0->zQ a b i)&&(Dr 3).all λe=>decide ((nbI (a:Int) (b:Int) (i:Int) (e:Int)).2=0->zL a b i e))=true:=by decide+kernel
theorem Vp {a b:Nat} (ha:a∈([1,2,4,8]:List Nat)) (hb:b∈([1,2,4]:List Nat)):Ni a b:=by
 have h:=Ec.1 (Ec.1 wA a ha) b hb;have at':∀i,i<4*a*b->_:=λi hi=>(El _ _▸Ec.1 h i (Ea.2 hi):_/\_);refine⟨?_,λi hi h0=>?_,λi e hi he h0=>?_⟩
 ·have key:(([1,2,4,8]:List Nat).all λa=>([1,2,4]:List Nat).all λb=>okS (a:Int) (b:Int))=true:=Ha;exact Ec.1 (Ec.1 key a ha) b hb
 ·exact Rl (at' i hi).1 h0
 ·exact Rl (Ec.1 (at' i hi).2 e (Ea.2 Gu)) h0
theorem Jh (a b:Nat):Hg (a:Int) (b:Int)=4*a*b:=by
 unfold Hg;have:(4*(a:Int)*(b:Int))=((4*a*b:Nat):Int):=Gx;rw[this];rfl
theorem Ni.conn {a b:Nat} (S:Ni a b) (D:Nat->Prop) (h0:D 0) (hs:∀i,i<4*a*b->D i->∀e:Nat,e<=2->(nbI (a:Int) (b:Int) (i:Int) (e:Int)).2=0->D (nbI (a:Int) (b:Int) (i:Int) (e:Int)).1.toNat):∀i,i<4*a*b->D i:=by
 have:∀d i,deE a i<=d->i<4*a*b->D i:=by
  intro d
  induction d with
  |zero=>
   intro i hd hi;by_cases hz:i=0
   ·rw[hz];exact h0
   ·have:=(S.tree i hi hz).2.2.2;omega
  |succ d ih=>
   intro i hd hi;by_cases hz:i=0
   ·rw[hz];exact h0
   ·obtain⟨t1,t2,t3,t4⟩:=S.tree i hi hz;have:=hs _ t1 (ih _ Gu t1) _ t2 (by rw[t3]);rw[t3]at this;simpa using this
 exact λi hi=>this _ i (Am _) hi
def RV (a b:Int) (m':List Mv) (s:RS):Prop:=s.out.length=Hg a b/\s.known.length=Hg a b/\(∀j,s.known.getD j false=true->s.out.getD j mv0=m'.getD j mv0)/\∀j∈s.wait,j<Hg a b/\s.known.getD j false=true
theorem bH {a b:Nat} (S:Ni a b) {l:List Cr} {m':List Mv} (hrel:∀i,i<4*a*b->∀e:Nat,e<=2->(nbI (a:Int) (b:Int) (i:Int) (e:Int)).2=0->m'.getD (nbI (a:Int) (b:Int) (i:Int) (e:Int)).1.toNat mv0=Kh a b l m' i e)
  {s:RS} {id e:Nat} (hs:RV a b m' s) (hid:id<4*a*b) (hk:s.known.getD id false=true) (he:e<=2):∃s',Ox a b l id e s=Af s'/\RV a b m' s'/\∀j,s.known.getD j false=true->s'.known.getD j false=true:=by
 obtain⟨r1,r2,r3,r4⟩:=hs;unfold Ox
 split
 ·exact⟨s,rfl,⟨r1,r2,r3,r4⟩,λ_ h=>h⟩
 ·rename_i h0;have h0:(nbI (a:Int) (b:Int) (id:Int) (e:Int)).2=0:=Ek.1 h0;have hn:=(S.step id e hid he h0).1;have hm:=hrel id hid e he h0;rw[Vx (o:=s.out) (a:=(a:Int)) (b:=(b:Int)) (l:=l) e (r3 id hk).symm]at hm;rw[<-Jh]at hn;obtain⟨n,DT⟩:=ey ((nbI (a:Int) (b:Int) (id:Int) (e:Int)).1.toNat);rw[DT]at hn hm⊢;dsimp only
  cases sf:s.known.getD n false with
  |true=>
   rw[Hd rfl,Hd (by rw[r3 n sf,hm])];exact⟨s,rfl,⟨r1,r2,r3,r4⟩,λ_ h=>h⟩
  |false=>
   rw[Gz (show¬(false=true)by decide)];rw[Hd (Lz _ _ _ _ Gu)];refine⟨_,rfl,⟨by simp[r1],by simp[r2],λj hj=>?_,λj hj=>?_⟩,λj hj=>?_⟩
   ·dsimp only at hj⊢;by_cases OR:j=n
    ·subst OR;rw[Lz _ _ _ _ Gu,hm]
    ·rw[Nz _ _ _ _ _ OR]at hj⊢;exact r3 j hj
   ·dsimp only at hj⊢;rcases Bl.1 hj with hj|hj
    ·refine⟨(r4 j hj).1,?_⟩;by_cases OR:j=n
     ·subst OR;exact Lz _ _ _ _ Gu
     ·rw[Nz _ _ _ _ _ OR];exact(r4 j hj).2
    ·have:j=n:=by simpa using hj
     subst this;exact⟨hn,Lz _ _ _ _ Gu⟩
   ·dsimp only;by_cases OR:j=n
    ·subst OR;exact Lz _ _ _ _ Gu
    ·rw[Nz _ _ _ _ _ OR];exact hj
theorem fR {a b:Nat} (S:Ni a b) {l:List Cr} {m':List Mv} (hrel:∀i,i<4*a*b->∀e:Nat,e<=2->(nbI (a:Int) (b:Int) (i:Int) (e:Int)).2=0->m'.getD (nbI (a:Int) (b:Int) (i:Int) (e:Int)).1.toNat mv0=Kh a b l m' i e):
  ∀(f:Nat) (s:RS),RV a b m' s->∃m,Sa a b l f s=Af m
 |0,s,_=>⟨s.out,rfl⟩
 |f+1,s,hs=>by
  unfold Sa
  cases hw:s.wait with
  |nil=>exact⟨s.out,rfl⟩
  |cons id r=>
   dsimp only;obtain⟨r1,r2,r3,r4⟩:=hs;have hid:=r4 id (by rw[hw];simp);rw[Jh]at hid;have h0:RV a b m' ⟨s.out,s.known,r⟩:=⟨r1,r2,r3,λj hj=>r4 j (by rw[hw];exact Ex _ hj)⟩;obtain⟨s1,e1,v1,k1⟩:=bH S hrel (e:=0) h0 hid.1 hid.2 Gu;obtain⟨s2,e2,v2,k2⟩:=bH S hrel (e:=1) v1 hid.1 (k1 _ hid.2) Gu;obtain⟨s3,e3,v3,-⟩:=bH S hrel (e:=2) v2 hid.1 (k2 _ (k1 _ hid.2)) Gu;unfold Qr;rw[e1,Option.bind_some,e2,Option.bind_some,e3,Option.bind_some];exact fR S hrel f s3 v3
theorem vH {a b:Nat} (S:Ni a b) {l:List Cr} {m':List Mv} (hl:m'.length=4*a*b) (h0:m'.getD 0 mv0=mv0) (hrel:∀i,i<4*a*b->∀e:Nat,e<=2->(nbI (a:Int) (b:Int) (i:Int) (e:Int)).2=0->m'.getD (nbI (a:Int) (b:Int) (i:Int) (e:Int)).1.toNat mv0=Kh a b l m' i e):
  Uh a b l=Af m':=by
 have hc:1<=Hg (a:Int) (b:Int):=by
  have:=Mg S.ok;unfold Hg;rw[show 4*(a:Int)*b=4*((a:Int)*b)from Cv ..];omega
 have hv:RV a b m' ⟨Ba (Hg (a:Int) (b:Int)) mv0,true::Ba (Hg (a:Int) (b:Int)-1) false,[0]⟩:=by
  refine⟨Gx,Hu,λj hj=>?_,λj hj=>?_⟩
  ·cases j with
   |zero=>
    rw[h0]
    cases fy:Hg (a:Int) (b:Int)with
    |zero=>omega
    |succ k=>rfl
   |succ j=>
    dsimp only at hj;simp[List.getD,List.getElem?_replicate]at hj
    split at hj<;>simp at hj
  ·have:j=0:=by simpa using hj
   subst this;exact⟨Gu,rfl⟩
 obtain⟨m,hm⟩:=fR S hrel (Hg (a:Int) (b:Int)+1) _ hv;have hm:Uh (a:Int) (b:Int) l=Af m:=hm;obtain⟨g0,D,hD0,hD⟩:=Bm5 S.ok hm
 have fe:∀i,i<4*a*b->i∈D/\m.getD i mv0=m'.getD i mv0:=S.conn (λi=>i∈D/\m.getD i mv0=m'.getD i mv0) ⟨hD0,by rw[g0,h0]⟩ λi hi hd e he h=>by
  obtain⟨d1,d2⟩:=hD i hd.1 e he h;refine⟨d1,?_⟩;rw[d2,hrel i hi e he h,Vx (a:=(a:Int)) (b:=(b:Int)) (l:=l) e hd.2]
 rw[hm]
 congr 1
 have ig:=(fQ hm).1;rw[Jh]at ig;apply Gj Gu;intro i h1 h2;have:=(fe i Gu).2;simpa[List.getD,h1,h2]using this
theorem Bn8 (a b:Mv) (ha:a.t<=7) (hb:b.t<=7):mat (thn a b).t=Im (mat a.t) (mat b.t):=by
 have key:∀t,t<8->∀u,u<8->mat (Kz (Im (mat t) (mat u)))=Im (mat t) (mat u):=by decide+kernel
 exact key a.t Gu b.t Gu
theorem bL (a b c:Mv) (ha:a.t<=7) (hb:b.t<=7) (hc:c.t<=7):thn (thn a b) c=thn a (thn b c):=by
 have key:∀t,t<8->∀u,u<8->∀v,v<8->Kz (Im (mat (Kz (Im (mat t) (mat u)))) (mat v))=Kz (Im (mat t) (mat (Kz (Im (mat u) (mat v))))):=by decide+kernel
 have h1:=key a.t Gu b.t Gu c.t Gu;have h2:=Bn8 b c hb hc
 have h3:∀x y:Int,(Ic (mat c.t) ((Ic (mat b.t) x y).1+b.x) ((Ic (mat b.t) x y).2+b.y)).1+c.x=(Ic (Im (mat b.t) (mat c.t)) x y).1+((Ic (mat c.t) b.x b.y).1+c.x)/\(Ic (mat c.t) ((Ic (mat b.t) x y).1+b.x) ((Ic (mat b.t) x y).2+b.y)).2+c.y=(Ic (Im (mat b.t) (mat c.t)) x y).2+((Ic (mat c.t) b.x b.y).2+c.y):=by
  intro x y;obtain⟨t,b1,b2⟩:=b;obtain⟨u,c1,c2⟩:=c;dsimp only at hb hc;rcases gM hb with rfl|rfl|rfl|rfl|rfl|rfl|rfl|rfl<;>rcases gM hc with rfl|rfl|rfl|rfl|rfl|rfl|rfl|rfl<;>
  simp[Ic,mat,Im]<;>omega
 have h4:=h3 a.x a.y;rw[<-h2]at h4;unfold thn at h1 h4⊢;dsimp only at h1 h4⊢;rw[h1,h4.1,h4.2]
theorem Bb0 (m:Mv) (h:m.t<=7):thn m mv0=m:=by
 obtain⟨t,x,y⟩:=m;dsimp only at h;rcases gM h with rfl|rfl|rfl|rfl|rfl|rfl|rfl|rfl<;>simp[thn,mv0,Ic,mat,Im,Kz]
theorem Xf (k c:Int):(ofL k c).t<=7:=by
 unfold ofL
 repeat' split
 all_goals (dsimp only;omega)
theorem Ws (k c x y:Int):Oz k c x y=1↔2*c<Mp k x y:=by
 unfold Oz
 split
 ·omega
 ·split<;>omega
theorem Bu1 {A B:Prop} [Decidable A] [Decidable B]:((if A then 1 else 0:Nat)≠(if B then 1 else 0))↔¬(A↔B):=by
 split<;>split<;>simp[*]
theorem Bi3 {A B:Prop} [Decidable A] [Decidable B]:((if A then 1 else 0:Nat)=1-(if B then 1 else 0))↔(A↔¬B):=by
 split<;>split<;>simp[*]
theorem Bl5 {k c:Int} (hk:1<=k/\k<=4):thn (ofL k c) (ofL k c)=mv0:=by
 have h:k=1∨k=2∨k=3∨k=4:=Gu;rcases h with rfl|rfl|rfl|rfl<;>simp[thn,ofL,mv0,Ic,mat,Im,Kz]<;>omega
theorem Ab2 (m:Mv) (ht:m.t<=7) (c:Cl) (hq:c.q<=3) (e:Nat) (he:e<=2):∃e',e'<=2/\Ho m (Iq c e)=Iq (Ho m c) e'/\thn (ofL (Js c e).1 (Js c e).2) m=thn m (ofL (Js (Ho m c) e').1 (Js (Ho m c) e').2):=by
 obtain⟨t,a,b⟩:=m;obtain⟨x,y,q⟩:=c;dsimp only at ht hq;rcases gM ht with rfl|rfl|rfl|rfl|rfl|rfl|rfl|rfl<;>rcases Wv hq with rfl|rfl|rfl|rfl<;>rcases lF he with rfl|rfl|rfl<;>
 first
  |(refine⟨0,Ha,?_,?_⟩<;>
    simp[Ho,Iq,Iu,Ic,mat,Ip,Lj,nxt,thn,ofL,Js,Im,Kz]<;>
    omega)
  |(refine⟨1,Ha,?_,?_⟩<;>
    simp[Ho,Iq,Iu,Ic,mat,Ip,Lj,nxt,thn,ofL,Js,Im,Kz]<;>
    omega)
  |(refine⟨2,Ha,?_,?_⟩<;>
    simp[Ho,Iq,Iu,Ic,mat,Ip,Lj,nxt,thn,ofL,Js,Im,Kz]<;>
    omega)
theorem aS {k c:Int} (hk:1<=k/\k<=4) (d:Cl) (hq:d.q<=3) (e:Nat) (he:e<=2) (h:Ir k c d≠Ir k c (Iq d e)):Js d e=(k,c):=by
 obtain⟨x,y,q⟩:=d;dsimp only at hq;have hk:k=1∨k=2∨k=3∨k=4:=Gu;rcases hk with rfl|rfl|rfl|rfl<;>rcases Wv hq with rfl|rfl|rfl|rfl<;>rcases lF he with rfl|rfl|rfl<;>
 (simp only[Ir,Ws,Bu1]at h
  simp[Mp,Iq,nxt,Ue,Uf]at h;simp[Js];omega)
theorem Zs (k c:Int) (d:Cl):Ir k c d=0∨Ir k c d=1:=by
 unfold Ir
 split
 ·exact .inr rfl
 ·exact .inl rfl
theorem bE {k c:Int} (hk:1<=k/\k<=4) (d:Cl) (hq:d.q<=3):Ho (ofL k c) (Ho (ofL k c) d)=d/\Ir k c (Ho (ofL k c) d)=1-Ir k c d:=by
 obtain⟨x,y,q⟩:=d;dsimp only at hq;have hk:k=1∨k=2∨k=3∨k=4:=Gu;rcases hk with rfl|rfl|rfl|rfl<;>rcases Wv hq with rfl|rfl|rfl|rfl<;>
 (refine⟨?_,?_⟩
  ·simp[Ho,Iu,Ic,mat,Ip,Lj,ofL]<;>omega
  ·simp only[Ir,Ws,Bi3];simp[Ho,Iu,Ic,mat,Ip,Lj,ofL,Ue,Uf,Mp];omega)
theorem Bn3 (d:Cl) (hq:d.q<=3) (e:Nat) (he:e<=2):Iq d e≠d:=by
 obtain⟨x,y,q⟩:=d;dsimp only at hq;rcases Wv hq with rfl|rfl|rfl|rfl<;>rcases lF he with rfl|rfl|rfl<;>simp[Iq,nxt]
theorem pM {m:Mv} (ht:m.t<=7) {c:Cl} {n:Int} (hc: -n<=c.x/\c.x<=n/\-n<=c.y/\c.y<=n) (hd: -n<=(Ho m c).x/\(Ho m c).x<=n/\-n<=(Ho m c).y/\(Ho m c).y<=n): -(2*n+2)<=m.x/\m.x<=2*n+2/\-(2*n+2)<=m.y/\m.y<=2*n+2:=by
 obtain⟨t,a,b⟩:=m;obtain⟨x,y,q⟩:=c;dsimp only at ht hc;rcases gM ht with rfl|rfl|rfl|rfl|rfl|rfl|rfl|rfl<;>simp[Ho,Iu,Ic,mat]at hd<;>dsimp only<;>omega
def Rk (d:Cl):Prop:= -256<=d.x/\d.x<=256/\-256<=d.y/\d.y<=256
structure Ts (a b:Nat) (cr:List Cr) (m:List Mv):Prop where
 len:m.length=4*a*b
 zero:m.getD 0 mv0=mv0
 ok:∀i,i<4*a*b->(m.getD i mv0).ok=true
 near:∀i,i<4*a*b->Rk (Ho (m.getD i mv0) (Hf (a:Int) i))
 rel:∀i e:Nat,i<4*a*b->e<=2->(nbI (a:Int) (b:Int) (i:Int) (e:Int)).2=0->m.getD (nbI (a:Int) (b:Int) (i:Int) (e:Int)).1.toNat mv0=
  if Nm cr (Ig (a:Int) (b:Int) (i:Int) (e:Int)).1 (Ig (a:Int) (b:Int) (i:Int) (e:Int)).2.1 then thn (ofL (Js (Hf (a:Int) i) e).1 (Js (Hf (a:Int) i) e).2) (m.getD i mv0)else m.getD i mv0
theorem Wh {m:Mv}:m.ok=true↔m.t<=7/\(-16384<=m.x/\m.x<=16384)/\(-16384<=m.y/\m.y<=16384)/\(m.x+m.y)%2=0:=by
 unfold Mv.ok;rw[Ry]
 constructor<;>(rintro⟨h1,h2⟩;exact⟨Gu,h2⟩)
theorem Bb1 {k c:Int} (hk:okL k c=true) {m:Mv} (hm:m.ok=true) (hs: -1000<=m.x/\m.x<=1000/\-1000<=m.y/\m.y<=1000):(thn (ofL k c) m).ok=true/\(thn m (ofL k c)).ok=true:=by
 obtain⟨h1,h2,h3,h4⟩:=Mu.1 hk;rw[Wh]at hm;rw[Wh,Wh];obtain⟨t,x,y⟩:=m;dsimp only at hm hs;have hk:k=1∨k=2∨k=3∨k=4:=Gu;refine⟨⟨Bq1 _ _,?_⟩,⟨Bq1 _ _,?_⟩⟩<;>
 (rcases hk with rfl|rfl|rfl|rfl<;>rcases gM hm.1 with rfl|rfl|rfl|rfl|rfl|rfl|rfl|rfl<;>simp[thn,ofL,Ic,mat]<;>omega)
theorem Pe {a b:Int} (hs:okS a b=true) {i:Nat} (hi:i<Hg a b):Rk (Hf a i):=by
 obtain⟨h1,h2,h3,h4,-⟩:=mS hs hi;exact⟨Gu,Gu,Gu,Gu⟩
theorem jI {x y:Mv} (hx:x.ok=true) (hy:y.ok=true) (h:(thn x y).ok=true):La x y=(thn x y,0):=by
 unfold La;rw[hx,hy,Bool.and_self,Hd rfl];show gJ (thn x y)=_;unfold gJ;rw[Hd h]
theorem Bl6 {k c:Int} (hk:okL k c=true):(ofL k c).ok=true:=by
 obtain⟨h1,h2,h3,h4⟩:=Mu.1 hk;rw[Wh];refine⟨Xf k c,?_⟩;have hk:k=1∨k=2∨k=3∨k=4:=Gu;rcases hk with rfl|rfl|rfl|rfl<;>simp[ofL]<;>omega
theorem zW {a b:Nat} (S:Ni a b) {l:List Cr} {m:List Mv} {i e:Nat} (hi:i<4*a*b) (he:e<=2) (h0:(nbI (a:Int) (b:Int) (i:Int) (e:Int)).2=0) (hm:(m.getD i mv0).ok=true) (hn:Rk (Ho (m.getD i mv0) (Hf (a:Int) i))):
  Kh a b l m i e=if Nm l (Ig (a:Int) (b:Int) (i:Int) (e:Int)).1 (Ig (a:Int) (b:Int) (i:Int) (e:Int)).2.1 then thn (ofL (Js (Hf (a:Int) i) e).1 (Js (Hf (a:Int) i) e).2) (m.getD i mv0)else m.getD i mv0:=by
 obtain⟨-,-,-,h2,h3,-⟩:=S.step i e hi he h0;have hc:=Pe S.ok (i:=i) (by rw[Jh];exact hi);have hs:=pM (Vj hm) hc hn;unfold Kh
 split
 ·rw[h2];unfold Ur;dsimp only;rw[Hd h3];dsimp only;rw[jI (Bl6 h3) hm (Bb1 h3 hm Gu).1]
 ·rfl
theorem Px {d:Cl} (h:Rk d) (hq:d.q<=3):d.ok=true:=by
 unfold Rk at h;unfold Cl.ok;rw[Jt];omega
theorem fL {a b:Nat} (S:Ni a b) {l:List Cr} {m:List Mv} (P:Ts a b l m):Ia a b l mv0=((m,(Dr (4*a*b)).map λi=>Ho (m.getD i mv0) (Hf (a:Int) i)),0):=by
 have hr:Uh a b l=Af m:=vH S P.len P.zero λi hi e he h0=>by
  rw[P.rel i e hi he h0,zW S hi he h0 (P.ok i hi) (P.near i hi)]
 have t0:∀x:Mv,x.ok=true->La x mv0=(x,0):=λx hx=>by
  have e:=Bb0 x (Vj hx);rw[jI hx Ha (by rw[e];exact hx),e]
 have mg:∀i,i<4*a*b->Pv (m.getD i mv0) (Hf (a:Int) i)=(Ho (m.getD i mv0) (Hf (a:Int) i),0):=λi hi=>by
  have hc:(Hf (a:Int) i).ok=true:=Px (Pe S.ok (by rw[Jh];exact hi)) (Jz _ _);unfold Pv;rw[P.ok i hi,hc,Bool.and_self,Hd rfl];unfold Li;rw[Hd (Px (P.near i hi) (Io _ _))]
 have fe:∀x∈m,x.ok=true:=λx hx=>by
  obtain⟨i,hi,rfl⟩:=Be.1 hx;have:=P.ok i (oHx P.len);simpa[List.getD,hi]using this
 unfold Ia;rw[Gz Ha,hr];dsimp only
 have hf:(Dr m.length).find? (λi=>decide (Lr (a:Int) mv0 m i≠0))=Ae:=by
  rw[List.find?_eq_none];intro i hi;have hi:i<4*a*b:=by have:=Ea.1 hi;have:=P.len;omega
  unfold Lr;rw[t0 _ (P.ok i hi)];dsimp only;rw[mg i hi];simp
 rw[hf];dsimp only
 congr 2
 ·conv=>rhs;rw[<-List.map_id m]
  exact List.map_congr_left λx hx=>by rw[t0 x (fe x hx)];rfl
 ·rw[P.len];refine List.map_congr_left λi hi=>?_;have hi:=Ea.1 hi;rw[t0 _ (P.ok i hi),mg i hi]
def imP (a:Nat) (m:List Mv) (i:Nat):Cl:=Ho (m.getD i mv0) (Hf (a:Int) i)
def sdF (k c:Int) (side:Nat) (d:Cl):Bool:=decide (Ir k c d=side)
def plF (a b:Nat) (k c:Int) (side:Nat) (m:List Mv):List Mv:=(Dr (4*a*b)).map λi=>if sdF k c side (imP a m i)then thn (m.getD i mv0) (ofL k c)else m.getD i mv0
theorem Rm {a b:Nat} {k c:Int} {side:Nat} {m:List Mv} {i:Nat} (hi:i<4*a*b):(plF a b k c side m).getD i mv0=if sdF k c side (imP a m i)then thn (m.getD i mv0) (ofL k c)else m.getD i mv0:=by
 unfold plF;rw[Ds,Fq,List.getElem?_range hi];rfl
theorem Pu {a b:Nat} {k c:Int} {side:Nat} {m:List Mv} {i:Nat} (hi:i<4*a*b) (hm:(m.getD i mv0).ok=true):imP a (plF a b k c side m) i=if sdF k c side (imP a m i)then Ho (ofL k c) (imP a m i)else imP a m i:=by
 unfold imP;rw[Rm hi];unfold imP
 split
 ·exact aU _ _ (Vj hm) (Xf k c) _ (Jz _ _)
 ·rfl
section
variable {a b:Nat} {cr:List Cr} {m:List Mv}
theorem Yz (S:Ni a b) (P:Ts a b cr m) {i e:Nat} (hi:i<4*a*b) (he:e<=2) (h0:(nbI (a:Int) (b:Int) (i:Int) (e:Int)).2=0) (hc:Nm cr (Ig (a:Int) (b:Int) (i:Int) (e:Int)).1 (Ig (a:Int) (b:Int) (i:Int) (e:Int)).2.1=true):
  imP a m (nbI (a:Int) (b:Int) (i:Int) (e:Int)).1.toNat=imP a m i:=by
 obtain⟨-,-,h1,-,h3,-⟩:=S.step i e hi he h0;unfold imP;rw[P.rel i e hi he h0,Hd hc,h1,aU _ _ (Xf _ _) (Vj (P.ok i hi)) _ (by rw[<-h1];exact Jz _ _),(bF _ (Jz _ _) e he).1]
theorem Wd (S:Ni a b) (P:Ts a b cr m) {i e:Nat} (hi:i<4*a*b) (he:e<=2) (h0:(nbI (a:Int) (b:Int) (i:Int) (e:Int)).2=0) (hc:Nm cr (Ig (a:Int) (b:Int) (i:Int) (e:Int)).1 (Ig (a:Int) (b:Int) (i:Int) (e:Int)).2.1=false):
  imP a m (nbI (a:Int) (b:Int) (i:Int) (e:Int)).1.toNat=Ho (m.getD i mv0) (Iq (Hf (a:Int) i) e):=by
 obtain⟨-,-,h1,-⟩:=S.step i e hi he h0;unfold imP;rw[P.rel i e hi he h0,Gz (by rw[hc];decide),h1]
theorem Cc0 {k c:Int} {side:Nat} {p q:Cl} (h:sdF k c side p≠sdF k c side q):Ir k c p≠Ir k c q:=λe=>h (by unfold sdF;rw[e])
theorem vB (S:Ni a b) (P:Ts a b cr m) {cr':List Cr} {k c:Int} {side:Nat} (hl:okL k c=true) (h00:sdF k c side (imP a m 0)=false)
  (pm:∀i e:Nat,i<4*a*b->e<=2->(nbI (a:Int) (b:Int) (i:Int) (e:Int)).2=0->Nm cr' (Ig (a:Int) (b:Int) (i:Int) (e:Int)).1 (Ig (a:Int) (b:Int) (i:Int) (e:Int)).2.1=
   (Nm cr (Ig (a:Int) (b:Int) (i:Int) (e:Int)).1 (Ig (a:Int) (b:Int) (i:Int) (e:Int)).2.1||(sdF k c side (imP a m i) != sdF k c side (imP a m (nbI (a:Int) (b:Int) (i:Int) (e:Int)).1.toNat))))
  (hn:∀i,i<4*a*b->Rk (if sdF k c side (imP a m i)then Ho (ofL k c) (imP a m i)else imP a m i)):Ts a b cr' (plF a b k c side m):=by
 have hk:=Mu.1 hl;have hk14:1<=k/\k<=4:=⟨hk.1,hk.2.1⟩
 have me:0<4*a*b:=by
  have:=Mg S.ok
  have h1:1<=Hg (a:Int) (b:Int):=by
   unfold Hg;rw[show 4*(a:Int)*b=4*((a:Int)*b)from Cv ..];omega
  rw[Jh]at h1;omega
 refine⟨by unfold plF;simp,?_,λi hi=>?_,λi hi=>?_,λi e hi he h0=>?_⟩
 ·rw[Rm me,Gz (by rw[h00];decide),P.zero]
 ·rw[Rm hi]
  split
  ·have hs:=pM (Vj (P.ok i hi)) (Pe S.ok (i:=i) (by rw[Jh];exact hi)) (P.near i hi);exact(Bb1 hl (P.ok i hi) Gu).2
  ·exact P.ok i hi
 ·have:=Pu (a:=a) (b:=b) (k:=k) (c:=c) (side:=side) hi (P.ok i hi);unfold imP at this;unfold imP at hn;rw[this];exact hn i hi
 ·obtain⟨g0,-,g1,-,g3,-⟩:=S.step i e hi he h0;have hR:=P.rel i e hi he h0;have hC:=pm i e hi he h0;have ti:=Vj (P.ok i hi);rw[Rm g0,Rm hi,hC]
  cases fy:Nm cr (Ig (a:Int) (b:Int) (i:Int) (e:Int)).1 (Ig (a:Int) (b:Int) (i:Int) (e:Int)).2.1 with
  |true=>
   rw[fy,Hd rfl]at hR;rw[Yz S P hi he h0 fy,hR,Bool.true_or,Hd rfl]
   split
   ·exact bL _ _ _ (Xf _ _) ti (Xf _ _)
   ·rfl
  |false=>
   rw[fy,Gz Ha]at hR;rw[hR,Bool.false_or];by_cases hs:sdF k c side (imP a m i)=sdF k c side (imP a m (nbI (a:Int) (b:Int) (i:Int) (e:Int)).1.toNat)
   ·rw[<-hs];simp
   ·have fg:=Wd S P hi he h0 fy;obtain⟨e',GR,s1,s2⟩:=Ab2 (m.getD i mv0) ti (Hf (a:Int) i) (Jz _ _) e he;have hd:=Cc0 hs;rw[fg,s1]at hd;have qw:=aS hk14 _ (Io _ _) e' GR hd;rw[qw]at s2
    cases h1:sdF k c side (imP a m i)with
    |false=>
     have h2:sdF k c side (imP a m (nbI (a:Int) (b:Int) (i:Int) (e:Int)).1.toNat)=true:=by
      rw[h1]at hs
      cases h:sdF k c side (imP a m (nbI (a:Int) (b:Int) (i:Int) (e:Int)).1.toNat)
      ·rw[h]at hs;exact absurd rfl hs
      ·rfl
     rw[h2];exact s2.symm
    |true=>
     have h2:sdF k c side (imP a m (nbI (a:Int) (b:Int) (i:Int) (e:Int)).1.toNat)=false:=by
      rw[h1]at hs
      cases h:sdF k c side (imP a m (nbI (a:Int) (b:Int) (i:Int) (e:Int)).1.toNat)
      ·rfl
      ·rw[h]at hs;exact absurd rfl hs
     rw[h2];show m.getD i mv0=thn (ofL (Js (Hf (a:Int) i) e).1 (Js (Hf (a:Int) i) e).2) (thn (m.getD i mv0) (ofL k c));rw[<-bL _ _ _ (Xf _ _) ti (Xf _ _),s2,bL _ _ _ ti (Xf _ _) (Xf _ _),Bl5 hk14,Bb0 _ ti]
end
structure GSt (a b:Nat) (s:St) (m:List Mv):Prop where
 sa:s.a=(a:Int)
 sb:s.b=(b:Int)
 S:Ni a b
 pat:Lq s.a s.b s.cr
 root:s.root=mv0
 pl:Ts a b s.cr m
theorem Zc {l:List Cr} (hk:∀r∈l,isK r.k=true) (c e:Int):Nm l c e=decide (Hm l c e≠0):=by
 unfold Nm Hm
 cases hf:l.find? λr=>decide (r.c=c)&&decide (r.e=e)with
 |none=>
  rw[List.find?_eq_none]at hf
  have:(l.any λr=>decide (r.c=c)&&decide (r.e=e))=false:=by
   rw[Dt];exact hf
  rw[this];rfl
 |some r=>
  have h1:=List.mem_of_find?_eq_some hf;have h2:=List.find?_some hf;have h3:=hk r h1;have:(l.any λr=>decide (r.c=c)&&decide (r.e=e))=true:=Ev.2 ⟨r,h1,h2⟩;rw[this];unfold isK at h3;simp at h3;dsimp only
  symm
  rw[Lg];omega
section
variable {a b:Nat} {s:St} {m:List Mv}
theorem GSt.both (G:GSt a b s m):Ia s.a s.b s.cr s.root=((m,(Dr (4*a*b)).map λi=>imP a m i),0):=by
 rw[G.sa,G.sb,G.root,fL G.S G.pl];rfl
theorem GSt.cnt (G:GSt a b s m):Hg s.a s.b=4*a*b:=by rw[G.sa,G.sb,Jh]
theorem GSt.img (G:GSt a b s m) {i:Nat} (hi:i<4*a*b):s.img i=imP a m i:=by
 unfold St.img;rw[G.both];dsimp only;rw[Ds,Fq,List.getElem?_range hi];rfl
def St.lk (s:St):Lk:=eV s.a s.b s.cr s.root s.l
theorem GSt.kimg (G:GSt a b s m) {i:Nat} (hi:i<4*a*b):s.lk.img i=imP a m i:=G.img hi
theorem GSt.reg (G:GSt a b s m) {u:Nat×Nat} (h:s.lk.reg u):u.1<4*a*b/\u.2<=2/\(nbI (a:Int) (b:Int) (u.1:Int) (u.2:Int)).2=0/\s.lk.nb u<4*a*b/\s.lk.nb u=(nbI (a:Int) (b:Int) (u.1:Int) (u.2:Int)).1.toNat/\Ig (a:Int) (b:Int) (u.1:Int) (u.2:Int)=((u.1:Int),(u.2:Int),0)/\u.1<s.lk.nb u:=by
 obtain⟨h1,h2,h3,h4⟩:=h;have ea:s.lk.a=(a:Int):=G.sa;have eb:s.lk.b=(b:Int):=G.sb;rw[ea,eb]at h2 h3 h4;rw[Jh]at h2
 have hn:s.lk.nb u=(nbI (a:Int) (b:Int) (u.1:Int) (u.2:Int)).1.toNat:=by
  unfold Lk.nb;rw[ea,eb]
 obtain⟨g0,g00,-,-,-,-,g5⟩:=G.S.step u.1 u.2 h2 Gu h3;refine⟨h2,Gu,h3,by rw[hn];exact g0,hn,?_,by rw[hn];omega⟩;unfold Ig;rw[Hd h3,Int.min_eq_left Gu]
theorem GSt.kind (G:GSt a b s m) {u:Nat×Nat} (h:s.lk.reg u):Nm s.cr (Ig (a:Int) (b:Int) (u.1:Int) (u.2:Int)).1 (Ig (a:Int) (b:Int) (u.1:Int) (u.2:Int)).2.1=decide (Hm s.lk.cr u.1 u.2≠0):=by
 rw[(G.reg h).2.2.2.2.2.1];exact Zc G.pat.kind _ _
theorem Tg {d:Cl} (h:Rk d) (hq:d.q<=3) (e:Nat):(Iq d e).ok=true:=by
 unfold Rk at h;have hb:=fI d.q e;unfold Cl.ok Iq;rw[Jt];dsimp only;omega
theorem GSt.other (G:GSt a b s m) {u:Nat×Nat} (h:s.lk.reg u):s.lk.other u.1 u.2=Ho (m.getD u.1 mv0) (Iq (Hf (a:Int) u.1) u.2):=by
 obtain⟨h1,h2,-⟩:=G.reg h;have hc:=Pe G.S.ok (i:=u.1) (by rw[Jh];exact h1);have hq:=Jz (a:Int) u.1
 have eb:s.lk.ms=m:=by
  show(Ia s.a s.b s.cr s.root).1.1=m;rw[G.both]
 have ea:s.lk.a=(a:Int):=G.sa;unfold Lk.other;rw[eb,ea,aX (Px hc hq) h2 (Tg hc hq u.2)];dsimp only;obtain⟨e',-,GR⟩:=Ud (m.getD u.1 mv0) (Vj (G.pl.ok u.1 h1)) (Hf (a:Int) u.1) hq u.2 h2
 have el:(Ho (m.getD u.1 mv0) (Iq (Hf (a:Int) u.1) u.2)).ok=true:=by
  rw[GR];exact Tg (G.pl.near u.1 h1) (Io _ _) e'
 unfold Pv;rw[G.pl.ok u.1 h1,Tg hc hq u.2,Bool.and_self,Hd rfl];unfold Li;rw[Hd el]
theorem GSt.p0 (G:GSt a b s m) {u:Nat×Nat} (h:s.lk.reg u) (hk:Hm s.lk.cr u.1 u.2=0):s.lk.other u.1 u.2=s.lk.img (s.lk.nb u):=by
 obtain⟨h1,h2,h3,h4,h5,-⟩:=G.reg h;have hc:=G.kind h;rw[hk]at hc;rw[G.other h,G.kimg h4,h5,Wd G.S G.pl h1 h2 h3 hc]
theorem GSt.l0 (G:GSt a b s m) {u:Nat×Nat} (h:s.lk.reg u) (hk:Hm s.lk.cr u.1 u.2≠0):s.lk.img (s.lk.nb u)=s.lk.img u.1:=by
 obtain⟨h1,h2,h3,h4,h5,-⟩:=G.reg h;have hc:=G.kind h;rw[Lb hk]at hc;rw[G.kimg h4,G.kimg h1,h5,Yz G.S G.pl h1 h2 h3 hc]
theorem GSt.hne (G:GSt a b s m) {u:Nat×Nat} (h:s.lk.reg u):s.lk.img u.1≠s.lk.other u.1 u.2:=by
 obtain⟨h1,h2,h3,-⟩:=G.reg h;obtain⟨e',vu,GR⟩:=Ud (m.getD u.1 mv0) (Vj (G.pl.ok u.1 h1)) (Hf (a:Int) u.1) (Jz _ _) u.2 h2;rw[G.other h,G.kimg h1,GR];exact(Bn3 _ (Io _ _) e' vu).symm
theorem Gs.lies {s:St} (hg:Gs s) {i:Nat} (hi:i<Hg s.a s.b):(s.l.map (·.c)).Nodup/\i∈atF s.l (s.img i):=by
 have bj:(s.l.map (·.c)).Nodup:=by
  obtain⟨h1,-,-⟩:=Ki hg.chkS;rw[List.Nodup,Ez];refine Fi.2 λi j hi hj yj=>?_
  have lt:∀d i,i+d+1<s.l.length->∀(P6:i<s.l.length) (W_:i+d+1<s.l.length),Kc s.l[i].c s.l[i+d+1].c<0:=by
   intro d
   induction d with
   |zero=>exact λi h _ _=>Zv h (h1 (i+1) h)
   |succ d ih=>
    intro i h P6 W_;have a1:=ih i Gu P6 Gu;have a2:Kc s.l[i+d+1].c s.l[i+d+1+1].c<0:=Zv (i:=i+d+1) h (h1 _ h);rw[Jk]at a1 a2⊢;have:s.l[i+(d+1)+1]=s.l[i+d+1+1]:=rfl;rw[this];omega
  obtain⟨d,rfl⟩:∃d,j=i+d+1:=⟨j-i-1,Gu⟩;have:=lt d i hj hi hj;intro e;rw[e,Jk]at this;omega
 refine⟨bj,?_⟩;obtain⟨-,h2,h3⟩:=Ki hg.chkS
 have hm:i∈Hl s.l:=Au8 h2 h3 (λx hx=>by
  obtain⟨y,hy,ef⟩:=Eb.1 hx;exact(hg.at y hy).2.2 x ef) hi
 obtain⟨y,hy,hyi⟩:=Eb.1 hm;have h4:=hg.stk;unfold Ow at h4;rw[Gz (by rw[hg.both];decide),Gz (by rw[hg.chkS];decide)]at h4
 split at h4
 ·cases h4
 ·rename_i h5
  have:s.img i=y.c:=by
   apply Ew;intro h6;refine h5 (Ev.2 ⟨y,hy,Ev.2 ⟨i,hyi,?_⟩⟩);exact Lb h6
  rw[this,Md bj hy];exact hyi
end
def Fd.R (f:Fd) (c:Cl):Cl:=Ho (ofL f.k f.c) c
def Fd.sd (f:Fd) (c:Cl):Bool:=sdF f.k f.c f.side c
def St.mvd (s:St) (f:Fd):List Stk:=Nq ((Mj (Hv f.k f.c f.side s.l)).map λx=>⟨f.R x.c,x.ls⟩)
theorem Ca4 {s:St} {f:Fd} (h:∀x∈s.l,f.sd x.c=true->(f.R x.c).ok=true):s.mv f=Af (s.mvd f):=by
 have hm:∀x∈Mj (Hv f.k f.c f.side s.l),Li (ofL f.k f.c) x.c=(f.R x.c,0):=λx hx=>by
  unfold Mj Hv at hx;obtain⟨y,hy,rfl⟩:=Dq.1 hx;obtain⟨h1,h2⟩:=Gc.1 hy;have:=h y h1 (by unfold Fd.sd sdF;exact h2);unfold Li;unfold Fd.R at this;dsimp only;rw[Hd this];rfl
 unfold St.mv Rx St.mvd;rw[Hd (Ec.2 λx hx=>by rw[hm x hx];rfl)]
 congr 2
 exact List.map_congr_left λx hx=>by rw[hm x hx]
section
variable {s:St} {f:Fd}
theorem Fd.invol (hk:1<=f.k/\f.k<=4) {c:Cl} (hq:c.q<=3):f.R (f.R c)=c:=(bE hk c hq).1
theorem Fd.flip (hk:1<=f.k/\f.k<=4) (hs:f.side<=1) {c:Cl} (hq:c.q<=3):f.sd (f.R c)= !f.sd c:=by
 have h:=(bE (c:=f.c) hk c hq).2;unfold Fd.sd sdF Fd.R;rw[h];have h1:=Zs f.k f.c c;have h2:f.side=0∨f.side=1:=Gu;rcases h1 with h1|h1<;>rcases h2 with h2|h2<;>rw[h1,h2]<;>rfl
theorem Vs (hn:(s.l.map (·.c)).Nodup) (k c:Int) (sd:Nat):((Hv k c sd s.l).map (·.c)).Nodup:=by
 unfold Hv;exact hn.sublist (List.filter_sublist.map _)
theorem aW (hk:1<=f.k/\f.k<=4) (hq:∀x∈s.l,x.c.q<=3) (hn:(s.l.map (·.c)).Nodup):((s.mvd f).map (·.c)).Nodup:=by
 unfold St.mvd;rw[((Jc _).map _).nodup_iff,Fs];have h1:=Vs hn f.k f.c f.side;unfold Mj;rw[Fs,List.Nodup,Ez];rw[List.Nodup,Ez]at h1;refine h1.imp_of_mem λ{x y} hx hy h e=>h ?_;have hx:=(Gc.1 hx).1;have hy:=(Gc.1 hy).1;have e:f.R x.c=f.R y.c:=e;rw[<-Fd.invol hk (hq x hx),e,Fd.invol hk (hq y hy)]
theorem jT (hk:1<=f.k/\f.k<=4) (hs:f.side<=1) (hq:∀x∈s.l,x.c.q<=3) (hn:(s.l.map (·.c)).Nodup) {c:Cl} (hc:c.q<=3) (wg:f.sd c=false):
  atF (s.to f (s.mvd f)).l c=if f.over then atF s.l c++(atF s.l (f.R c)).reverse else (atF s.l (f.R c)).reverse++atF s.l c:=by
 have h1:Ir f.k f.c c=1-f.side:=by
  unfold Fd.sd sdF at wg;have h2:=Zs f.k f.c c;have h3:¬Ir f.k f.c c=f.side:=by simpa using wg
  omega
 have h2:Ir f.k f.c (f.R c)=f.side:=by
  have:=(bE (c:=f.c) hk c hc).2;unfold Fd.R;rw[this,h1];omega
 have e1:atF (Hv f.k f.c (1-f.side) s.l) c=atF s.l c:=by rw[aG,Hd h1]
 have e2:atF (s.mvd f) c=(atF s.l (f.R c)).reverse:=by
  have h3:=aW (s:=s) (f:=f) hk hq hn;unfold St.mvd at h3⊢;rw[mJ (Jc _) h3];have h4:c=f.R (f.R c):=(Fd.invol hk hc).symm
  have h5:atF ((Mj (Hv f.k f.c f.side s.l)).map λx=>⟨f.R x.c,x.ls⟩) (f.R (f.R c))=atF (Mj (Hv f.k f.c f.side s.l)) (f.R c):=xF λx hx e=>by
   unfold Mj Hv at hx;obtain⟨y,hy,rfl⟩:=Dq.1 hx;have hy:=(Gc.1 hy).1;rw[<-Fd.invol hk (hq y hy),e,<-h4]
  rw[<-h4]at h5;rw[h5,xG,aG,Hd h2]
 unfold St.to;dsimp only
 cases f.over with
 |true=>rw[Hd rfl,Hd rfl,aF (Vs hn _ _ _) (aW hk hq hn),e1,e2]
 |false=>rw[Gz Ha,Gz Ha,aF (aW hk hq hn) (Vs hn _ _ _),e1,e2]
theorem Wj {l:List Stk} (bj:(Hl l).Nodup) (hn:(l.map (·.c)).Nodup) {i:Nat} {c d:Cl} (h1:i∈atF l c) (h2:i∈atF l d):c=d:=by
 induction l with
 |nil=>simp[Yl]at h1
 |cons x r ih=>
  unfold Hl at bj;rw[Bf,Bp]at bj;rw[Er,Eh]at hn;rw[Ky]at h1 h2
  have no:∀e,i∈x.ls->i∈atF r e->False:=λe h3 h4=>by
   by_cases he:e∈r.map (·.c)
   ·obtain⟨y,hy,rfl⟩:=Dq.1 he;rw[Md hn.2 hy]at h4;exact bj.2.2 i h3 i (Eb.2 ⟨y,hy,h4⟩) rfl
   ·rw[Uw he]at h4;simp at h4
  by_cases hc:x.c=c
  ·rw[Hd hc]at h1;by_cases hd:x.c=d
   ·exact hc.symm.trans hd
   ·rw[Gz hd]at h2;exact absurd h2 (λh=>no d h1 h)
  ·rw[Gz hc]at h1;by_cases hd:x.c=d
   ·rw[Hd hd]at h2;exact absurd h1 (λh=>no c h2 h)
   ·rw[Gz hd]at h2;exact ih bj.2.1 hn.2 h1 h2
theorem Pc {l:List Stk} (bj:(Hl l).Nodup) (hn:(l.map (·.c)).Nodup) (c:Cl):(atF l c).Nodup:=by
 by_cases h:c∈l.map (·.c)
 ·obtain⟨x,hx,rfl⟩:=Dq.1 h;rw[Md hn hx];unfold Hl at bj;obtain⟨l1,l2,rfl⟩:=List.append_of_mem hx;rw[Bi,Bf,Bp,Bp]at bj;exact bj.2.1.1
 ·rw[Uw h];exact List.nodup_nil
theorem Bg6 (hk:1<=f.k/\f.k<=4) (hs:f.side<=1) (hq:∀x∈s.l,x.c.q<=3) (hn:(s.l.map (·.c)).Nodup) (bj:(Hl s.l).Nodup) {img img':Nat->Cl} {i:Nat} (hi:i∈atF s.l (img i)) (V3:(img i).q<=3) (DM:img' i=if f.sd (img i)then f.R (img i)else img i):
  Sc img img' (λi=>htC s.l (img i) i) (λi=>htC (s.to f (s.mvd f)).l (img' i) i) (λc=>((atF s.l c).length:Int)) f.R f.sd f.over i:=by
 have hp:=Rn hi;refine⟨DM,Fd.invol hk V3,Fd.flip hk hs V3,?_,hp⟩;unfold htC
 cases h:f.sd (img i)with
 |false=>
  rw[h]at DM;have e:img' i=img i:=DM;rw[e,jT hk hs hq hn V3 h]
  have hni:i∉(atF s.l (f.R (img i))).reverse:=λh2=>by
   have:=Wj bj hn hi (List.mem_reverse.1 h2);have h3:=Fd.flip (f:=f) hk hs V3;rw[<-this,h]at h3
   cases h3
  cases f.over with
  |true=>rw[Hd rfl,aZ hi];simp
  |false=>rw[Gz Ha,Ya hni hi,List.length_reverse];simp
 |true=>
  rw[h]at DM;have e:img' i=f.R (img i):=DM;have hqr:(f.R (img i)).q<=3:=Io _ _;have ul:f.sd (f.R (img i))=false:=by rw[Fd.flip hk hs V3,h];rfl
  rw[e,jT hk hs hq hn hqr ul,Fd.invol hk V3]
  have hni:i∉atF s.l (f.R (img i)):=λh2=>by
   have:=Wj bj hn hi h2;rw[<-this,h]at ul
   cases ul
  have SO:=lP (Pc bj hn (img i)) hi
  cases f.over with
  |true=>rw[Hd rfl,Ya hni (List.mem_reverse.2 hi),SO];simp
  |false=>rw[Gz Ha,aZ (List.mem_reverse.2 hi),SO];simp
end
theorem cN {a b:Int} {u:Nat×Nat} (hu:u.2<3) (h:isU a b u.1 u.2=true):∀{j:Nat},3*u.1+u.2<j->u∈Ka a b j
 |0,hj=>Gu
 |j+1,hj=>by
  unfold Ka;rw[Bl];by_cases h1:3*u.1+u.2<j
  ·exact .inl (cN hu h h1)
  ·have e1:j/3=u.1:=Gu;have e2:j%3=u.2:=Gu;refine .inr ?_;unfold Ul;rw[e1,e2,Hd h];simp
theorem Ad9 {l l':List Cr} (h:l.Perm l') (c e:Int):Nm l c e=Nm l' c e:=h.any_eq
theorem As7 (l l':List Cr) (c e:Int):Nm (l++l') c e=(Nm l c e||Nm l' c e):=List.any_append
theorem As8 (L:List (Nat×Nat)) (kf:Nat->Int) (p e:Nat):Nm (Ma L kf) p e=decide ((p,e)∈L):=by
 unfold Nm Ma;rw[List.any_map];rw[Bool.eq_iff_iff,Ev,Lg]
 constructor
 ·rintro⟨u,hu,h⟩;simp only[Function.comp,El,Lg]at h
  have:u=(p,e):=by
   obtain⟨u1,u2⟩:=u;dsimp only at h;rw[Prod.mk.injEq];omega
  rw[<-this];exact hu
 ·intro h;exact⟨_,h,Gx⟩
theorem vR {f:Fd} (hs:f.side<=1) (p q:Cl):f.sd p≠f.sd q↔Ir f.k f.c p≠Ir f.k f.c q:=by
 have h1:=Zs f.k f.c p;have h2:=Zs f.k f.c q;have h3:f.side=0∨f.side=1:=Gu;unfold Fd.sd sdF;rcases h1 with h1|h1<;>rcases h2 with h2|h2<;>rcases h3 with h3|h3<;>rw[h1,h2,h3]<;>simp
section
variable {a b:Nat} {s:St} {m:List Mv} {f:Fd}
theorem GSt.passes (G:GSt a b s m) (hs:f.side<=1) {p e:Nat} (hp:p<4*a*b) (he:e<=2) (h0:(nbI (a:Int) (b:Int) (p:Int) (e:Int)).2=0) (ad:(p:Int)<(nbI (a:Int) (b:Int) (p:Int) (e:Int)).1):
  decide ((p,e)∈Lv s f.k f.c)=((f.sd (imP a m p) != f.sd (imP a m (nbI (a:Int) (b:Int) (p:Int) (e:Int)).1.toNat))&&decide (Hm s.cr p e=0)):=by
 have hU:(p,e)∈Kq s.a s.b:=by
  unfold Kq;refine cN (by dsimp only;omega) ?_ (by rw[G.cnt];dsimp only;omega);rw[G.sa,G.sb];unfold isU;simp[h0,ad]
 have hn:=(G.S.step p e hp he h0).1;have i1:=G.img hp;have i2:=G.img hn;unfold St.img at i1 i2;rw[Bool.eq_iff_iff,Lg];unfold Lv;rw[Gc];dsimp only;rw[G.sa,G.sb]at i1 i2 hU⊢;rw[i1,i2];simp only[hU,true_and,El,Lg,bne_iff_ne];rw[vR hs]
theorem GSt.crTo (G:GSt a b s m) (hs:f.side<=1) (mv:List Stk) {i e:Nat} (hi:i<4*a*b) (he:e<=2) (h0:(nbI (a:Int) (b:Int) (i:Int) (e:Int)).2=0):
  Nm (s.to f mv).cr (Ig (a:Int) (b:Int) (i:Int) (e:Int)).1 (Ig (a:Int) (b:Int) (i:Int) (e:Int)).2.1=
   (Nm s.cr (Ig (a:Int) (b:Int) (i:Int) (e:Int)).1 (Ig (a:Int) (b:Int) (i:Int) (e:Int)).2.1||(f.sd (imP a m i) != f.sd (imP a m (nbI (a:Int) (b:Int) (i:Int) (e:Int)).1.toNat))):=by
 have low:∀p:Nat,p<4*a*b->(nbI (a:Int) (b:Int) (p:Int) (e:Int)).2=0->(p:Int)<(nbI (a:Int) (b:Int) (p:Int) (e:Int)).1->
   Nm (s.to f mv).cr (p:Int) (e:Int)=(Nm s.cr (p:Int) (e:Int)||(f.sd (imP a m p) != f.sd (imP a m (nbI (a:Int) (b:Int) (p:Int) (e:Int)).1.toNat))):=λp hp lg ad=>by
  show Nm (Oc (s.cr++Ma (Lv s f.k f.c) (s.kf f))) p e=_;rw[Ad9 (Na _),As7,As8,G.passes hs hp he lg ad,Zc G.pat.kind]
  cases f.sd (imP a m p) != f.sd (imP a m (nbI (a:Int) (b:Int) (p:Int) (e:Int)).1.toNat)<;>simp
 obtain⟨g0,g00,-,-,-,g4,g5⟩:=G.S.step i e hi he h0;unfold Ig;rw[Hd h0];dsimp only;by_cases ad:(i:Int)<(nbI (a:Int) (b:Int) (i:Int) (e:Int)).1
 ·rw[Int.min_eq_left Gu];exact low i hi h0 ad
 ·rw[Int.min_eq_right Gu];obtain⟨q,hq⟩:∃q:Nat,(nbI (a:Int) (b:Int) (i:Int) (e:Int)).1=q:=⟨_,(Int.toNat_of_nonneg g00).symm⟩;rw[hq]at g0 g4 g5 ad⊢;have h:=low q Gu (by rw[g4]) (by rw[g4];dsimp only;omega);rw[g4]at h;dsimp only at h;simp only[Eu]at h⊢;rw[h]
  congr 1
  cases f.sd (imP a m q)<;>cases f.sd (imP a m i)<;>rfl
end
theorem iJ {l:List Cr} (ha:l.Pairwise λr q=>Kv r.c r.e q.c q.e<0) {r:Cr} (hr:r∈l):Hm l r.c r.e=r.k:=by
 unfold Hm
 cases hf:l.find? λx=>decide (x.c=r.c)&&decide (x.e=r.e)with
 |none=>
  rw[List.find?_eq_none]at hf;have:=hf r hr;simp at this
 |some x=>
  have h1:=List.mem_of_find?_eq_some hf;have h2:=List.find?_some hf;simp only[El,Lg]at h2;have:x=r:=kF (Zw ha) x h1 r hr (by unfold crU;rw[h2.1,h2.2]);rw[this]
theorem At1 {l:List Cr} {c e:Int} (h:Hm l c e≠0):∃r∈l,r.c=c/\r.e=e/\r.k=Hm l c e:=by
 unfold Hm at h⊢
 cases hf:l.find? λx=>decide (x.c=c)&&decide (x.e=e)with
 |none=>rw[hf]at h;exact absurd rfl h
 |some x=>
  have h2:=List.find?_some hf;simp only[El,Lg]at h2;exact⟨x,List.mem_of_find?_eq_some hf,h2.1,h2.2,rfl⟩
theorem Bg9:∀(p:List (Nat×Nat)) (n:Nat),(p.map (·.1)).Nodup->∀i v,(i,v)∈p->i<n->(Yv n p).getD i 0=v:=by
 have len:∀(p:List (Nat×Nat)) (h:List Nat),(p.foldl (λh q=>h.set q.1 q.2) h).length=h.length:=by
  intro p
  induction p with
  |nil=>intro h;rfl
  |cons q r ih=>intro h;rw[List.foldl_cons,ih,List.length_set]
 have key:∀(p:List (Nat×Nat)) (h:List Nat),(p.map (·.1)).Nodup->(∀i v,(i,v)∈p->i<h.length->(p.foldl (λh q=>h.set q.1 q.2) h).getD i 0=v)/\∀i,i∉p.map (·.1)->(p.foldl (λh q=>h.set q.1 q.2) h).getD i 0=h.getD i 0:=by
  intro p
  induction p with
  |nil=>intro h _;exact⟨λi v hi=>by simp at hi,λi _=>rfl⟩
  |cons q r ih=>
   intro h hn;rw[Er,Eh]at hn;obtain⟨h1,h2⟩:=ih (h.set q.1 q.2) hn.2;refine⟨λi v hi hl=>?_,λi hi=>?_⟩
   ·rw[List.foldl_cons];rcases Bk.1 hi with rfl|hi
    ·rw[h2 _ hn.1];simp[List.getD,hl]
    ·exact h1 i v hi (by simpa using hl)
   ·rw[Er,Bk,not_or]at hi;rw[List.foldl_cons,h2 i hi.2];simp only[List.getD,List.getElem?_set_ne (Ne.symm hi.1)]
 exact λp n hn i v hi hl=>(key p (Ba n 0) hn).1 i v hi (by simpa using hl)
theorem Ax1 {l:List Nat} (hn:l.Nodup) {i:Nat} (h:i∈l):(i,(Jg l i).toNat)∈l.zipIdx:=by
 obtain⟨j,hj,rfl⟩:=Be.1 h
 have e:Jg l l[j]=j:=lO hj rfl λk hk hkj e=>by
  have:=(List.getElem_inj hn).1 e;omega
 rw[e,Eu];exact List.mem_zipIdx_iff_getElem?.2 (by simp[hj])
theorem Bp0 {l:List Stk} {n i:Nat} (bj:(Hl l).Nodup) (hn:(l.map (·.c)).Nodup) (hi:i<n) {c:Cl} (h:i∈atF l c):((Yv n (Qh l)).getD i 0:Int)=htC l c i:=by
 have hc:c∈l.map (·.c):=by
  apply Ew;intro h2;rw[Uw h2]at h;simp at h
 obtain⟨x,hx,rfl⟩:=Dq.1 hc;rw[Md hn hx]at h
 have e1:(Qh l).map (·.1)=Hl l:=by
  unfold Qh Hl;rw[List.map_flatMap]
  congr 1
  funext x
  simp
 have hxn:x.ls.Nodup:=by
  have:=Pc bj hn x.c
  rwa [Md hn hx]at this
 have h1:(i,(Jg x.ls i).toNat)∈Qh l:=Eb.2 ⟨x,hx,Ax1 hxn h⟩;rw[Bg9 _ n (by rw[e1];exact bj) i _ h1 hi];unfold htC;rw[Md hn hx];have:=(Rn h).1;omega
def jV (kd:Int) (upHi:Bool):Prop:=kd=3∨kd=if upHi then 1 else 2
theorem Bc9 (mv:Mv) (hm:mv.t<=7) (k c:Int):decide (4<=(thn mv (ofL k c)).t)= !decide (4<=mv.t)/\decide (4<=(thn (ofL k c) mv).t)= !decide (4<=mv.t):=by
 have key:∀t,t<8->∀u,u∈([4,5,6,7]:List Nat)->decide (4<=Kz (Im (mat t) (mat u)))= !decide (4<=t)/\decide (4<=Kz (Im (mat u) (mat t)))= !decide (4<=t):=by decide+kernel
 have hu:(ofL k c).t∈([4,5,6,7]:List Nat):=by
  unfold ofL
  repeat' split
  all_goals simp
 exact key mv.t Gu _ hu
def upP (m:List Mv) (i:Nat):Bool:= !decide (4<=(m.getD i mv0).t)
theorem Ba5 {d:Cl} (hq:d.q<=3) {e e':Nat} (he:e<=2) (GR:e'<=2) (h:Iq d e=Iq d e'):e=e':=by
 obtain⟨x,y,q⟩:=d;dsimp only at hq;rcases Wv hq with rfl|rfl|rfl|rfl<;>rcases lF he with rfl|rfl|rfl<;>rcases lF GR with rfl|rfl|rfl<;>first|rfl|(simp[Iq,nxt]at h)
section
variable {a b:Nat} {s:St} {m:List Mv}
def Lk.hi (k:Lk) (u:Nat×Nat):Nat:=if k.hs.getD u.1 0<k.hs.getD (k.nb u) 0 then k.nb u else u.1
theorem GSt.crease (G:GSt a b s m) {u:Nat×Nat} (h:s.lk.reg u) (B:Cl):Mr s.a s.b (s.lk.le B u)=u:=by
 obtain⟨h1,h2,h3,h4,h5,-,h7⟩:=G.reg h
 have DT:(nbI (a:Int) (b:Int) (u.1:Int) (u.2:Int)).1=(s.lk.nb u:Int):=by
  rw[h5];exact(Int.toNat_of_nonneg (G.S.step u.1 u.2 h1 h2 h3).2.1).symm
 have uni:∀e:Nat,e<=2->nbI (a:Int) (b:Int) (u.1:Int) (e:Int)=((s.lk.nb u:Int),0)->e=u.2:=λe he hh=>by
  have g1:=(G.S.step u.1 u.2 h1 h2 h3).2.2.1;have g2:=(G.S.step u.1 e h1 he (by rw[hh])).2.2.1;rw[DT]at g1;rw[hh]at g2;exact Ba5 (Jz _ _) he h2 (g2.symm.trans g1)
 have vu:nbI (a:Int) (b:Int) (u.1:Int) (u.2:Int)=((s.lk.nb u:Int),0):=Prod.ext DT h3
 have mn:min (s.lk.le B u).2.1 (s.lk.le B u).2.2=u.1/\max (s.lk.le B u).2.1 (s.lk.le B u).2.2=s.lk.nb u:=by
  unfold Lk.le
  split<;>(dsimp only;omega)
 have hf:(([0,1,2]:List Nat).find? λ(e:Nat)=>decide (nbI (a:Int) (b:Int) ((u.1:Nat):Int) (e:Int)=(((s.lk.nb u:Nat):Int),(0:Int))))=Af u.2:=by
  obtain⟨p,e⟩:=u;dsimp only at h2 vu uni⊢;rcases lF h2 with rfl|rfl|rfl
  ·rw[Dg,Lb vu]
  ·have n0:¬nbI (a:Int) (b:Int) (p:Int) ((0:Nat):Int)=((s.lk.nb (p,1):Int),0):=λh=>by cases uni 0 Gu h
   rw[Dg,Ly n0,Dg,Lb vu]
  ·have n0:¬nbI (a:Int) (b:Int) (p:Int) ((0:Nat):Int)=((s.lk.nb (p,2):Int),0):=λh=>by cases uni 0 Gu h
   have n1:¬nbI (a:Int) (b:Int) (p:Int) ((1:Nat):Int)=((s.lk.nb (p,2):Int),0):=λh=>by cases uni 1 Gu h
   rw[Dg,Ly n0,Dg,Ly n1,Dg,Lb vu]
 unfold Mr;rw[mn.1,mn.2,G.sa,G.sb,hf]
theorem GSt.ups (G:GSt a b s m) {i:Nat} (hi:i<4*a*b):(upF s.a s.b s.cr s.root).1.getD i false=upP m i:=by
 unfold upF;rw[G.both];dsimp only;rw[Gz Ha];dsimp only;have hl:=G.pl.len;have el:=G.pl.ok i hi;rw[Ds,Fq];unfold upP;rw[Ds]at el⊢;rw[Aw (show i<m.length by omega)]at el⊢;simp only[Option.map_some,Option.getD_some]at el⊢;unfold Rf;rw[el,Bool.true_and]
def Bo7 (s:St) (m:List Mv):Prop:=∀u,s.lk.reg u->Hm s.cr u.1 u.2≠0->jV (Hm s.cr u.1 u.2) (upP m (s.lk.hi u))
theorem GSt.wrong (G:GSt a b s m) {u:Nat×Nat} (h:s.lk.reg u) (B:Cl):Iz s.a s.b s.cr (upF s.a s.b s.cr s.root).1 (s.lk.le B u)=false↔jV (Hm s.cr u.1 u.2) (upP m (s.lk.hi u)):=by
 obtain⟨h1,h2,h3,h4,h5,-,h7⟩:=G.reg h
 have hh:(s.lk.le B u).2.2=s.lk.hi u:=by
  unfold Lk.le Lk.hi
  split<;>rfl
 have ad:s.lk.hi u<4*a*b:=by
  unfold Lk.hi
  split<;>assumption
 unfold Iz iK jV;rw[G.crease h B,hh,G.ups ad,Bool.and_eq_false_iff,Rt,Rt,Ek,Ek]
theorem GSt.bends_iff (G:GSt a b s m):(s.lk.seams.any λx=>x.ls.any (Iz s.a s.b s.cr (upF s.a s.b s.cr s.root).1))=false↔Bo7 s m:=by
 rw[Dt]
 constructor
 ·intro h u hu hk;obtain⟨t,ht,-,-,h3⟩:=fT s.lk _ u hu.1 (Ay1 hu) hu.2.2;have h4:=h t ht;rw[Eo,Dt]at h4;have h5:=h4 _ (h3 hk);rw[Eo]at h5;exact(G.wrong hu t.b).1 h5
 ·intro h t ht;rw[Eo,Dt];intro x hx;obtain⟨u,a1,a2,a3,a4,a5,rfl⟩:=(Yc s.lk _ t ht).2 x hx;have hu:s.lk.reg u:=⟨a1,Gu,a4⟩;rw[Eo];exact(G.wrong hu t.b).2 (h u hu a5)
end
theorem eK {l l':List Stk} (h:l.Perm l'):(Hl l).Perm (Hl l'):=by
 unfold Hl;exact h.flatMap_right _
theorem oI (x:Stk):∀l:List Stk,(Hl (Nd x l)).Perm (Hl l++x.ls)
 |[]=>by unfold Nd Hl;simp
 |y::r=>by
  unfold Nd
  split
  ·unfold Hl;rw[Bf,Bf];dsimp only;rw[Bj,Bj];exact List.Perm.append_left _ List.perm_append_comm
  ·have ih:=oI x r;unfold Hl at ih⊢;rw[Bf,Bf,Bj];exact List.Perm.append_left _ ih
theorem oJ:∀(L o:List Stk),(Hl (L.foldl (λo x=>if x.ls.isEmpty then o else Nd x o) o)).Perm (Hl o++Hl L)
 |[],o=>by unfold Hl;simp
 |x::r,o=>by
  rw[List.foldl_cons];refine(oJ r _).trans ?_;have e:Hl (x::r)=x.ls++Hl r:=by unfold Hl;rw[Bf]
  rw[e,<-Bj];refine List.Perm.append_right _ ?_;by_cases he:x.ls.isEmpty=true
  ·rw[Hd he];have h0:x.ls=[]:=by simpa using he
   rw[h0,Fe]
  ·rw[Gz he];exact oI x o
theorem eJ (l h:List Stk):(Hl (Kd l h)).Perm (Hl l++Hl h):=by
 rw[Zm];refine(eK (Jc _)).trans ?_;unfold Ld;refine(oJ _ _).trans ?_;unfold Hl;simp
theorem Bh3 (l:List Stk) (g:Cl->Cl):(Hl ((Mj l).map λx=>⟨g x.c,x.ls⟩)).Perm (Hl l):=by
 induction l with
 |nil=>exact List.Perm.refl _
 |cons x r ih=>
  unfold Hl Mj at ih⊢;rw[Er,Er,Bf,Bf];exact(List.reverse_perm _).append ih
theorem Ad0 (k c:Int) (sd:Nat) (hs:sd<=1) (l:List Stk):(Hl (Hv k c sd l)++Hl (Hv k c (1-sd) l)).Perm (Hl l):=by
 have e:Hv k c (1-sd) l=l.filter λx=> !decide (Ir k c x.c=sd):=by
  unfold Hv
  congr 1
  funext x
  have:=Zs k c x.c;by_cases h:Ir k c x.c=sd
  ·rw[Lb h,Ly Gu];rfl
  ·rw[Ly h,Lb Gu];rfl
 rw[e];have hp:=List.filter_append_perm (λx:Stk=>decide (Ir k c x.c=sd)) l;have:=eK hp;unfold Hl at this⊢;rw[Bi]at this;exact this
section
variable {s:St} {f:Fd}
theorem tJ (hs:f.side<=1):(Hl (s.to f (s.mvd f)).l).Perm (Hl s.l):=by
 have h1:(Hl (s.mvd f)).Perm (Hl (Hv f.k f.c f.side s.l)):=by
  unfold St.mvd;exact(eK (Jc _)).trans (Bh3 _ _)
 have h2:=Ad0 f.k f.c f.side hs s.l;unfold St.to;dsimp only
 cases f.over with
 |true=>
  rw[Hd rfl];exact((eJ _ _).trans (h1.append_left _)).trans (List.perm_append_comm.trans h2)
 |false=>
  rw[Gz Ha];exact((eJ _ _).trans (h1.append_right _)).trans h2
theorem Ao6 (hk:1<=f.k/\f.k<=4) (hs:f.side<=1) (hq:∀x∈s.l,x.c.q<=3):∀x∈(s.to f (s.mvd f)).l,x.c.q<=3/\f.sd x.c=false:=by
 have h1:∀x∈Hv f.k f.c (1-f.side) s.l,x.c.q<=3/\f.sd x.c=false:=λx hx=>by
  unfold Hv at hx;obtain⟨h1,h2⟩:=Gc.1 hx;have h2:Ir f.k f.c x.c=1-f.side:=by simpa using h2
  refine⟨hq x h1,?_⟩;unfold Fd.sd sdF;rw[h2];exact Ly Gu
 have h2:∀x∈s.mvd f,x.c.q<=3/\f.sd x.c=false:=λx hx=>by
  unfold St.mvd at hx;have hx:=(Jc _).mem_iff.1 hx;obtain⟨y,hy,rfl⟩:=Dq.1 hx;unfold Mj Hv at hy;obtain⟨z,hz,rfl⟩:=Dq.1 hy;obtain⟨h3,h4⟩:=Gc.1 hz;refine⟨Io _ _,?_⟩;dsimp only;rw[Fd.flip hk hs (hq z h3)];have:f.sd z.c=true:=by unfold Fd.sd sdF;exact h4
  rw[this];rfl
 have go:∀l h:List Stk,(∀x∈l,x.c.q<=3/\f.sd x.c=false)->(∀x∈h,x.c.q<=3/\f.sd x.c=false)->∀x∈Kd l h,x.c.q<=3/\f.sd x.c=false:=λl h hl hh x hx=>by
  rw[Zm]at hx;have hx:=(Jc _).mem_iff.1 hx;exact Uy (l++h) (λc=>c.q<=3/\f.sd c=false) (λy hy=>(Bl.1 hy).elim (hl y) (hh y)) x hx
 unfold St.to;dsimp only
 split
 ·exact go _ _ h1 h2
 ·exact go _ _ h2 h1
theorem cI (l h:List Stk):((Kd l h).map (·.c)).Nodup/\(∀x∈Kd l h,x.ls≠[])/\(Kd l h).Pairwise λp q=>Kc p.c q.c<0:=by
 rw[Zm];have hn:((Nq (Ld (l++h))).map (·.c)).Nodup:=((Jc _).map _).nodup_iff.2 (Vi _);refine⟨hn,λx hx=>pO _ x ((Jc _).mem_iff.1 hx),?_⟩;have h1:=qR (Ld (l++h));rw[List.Nodup,Ez]at hn;refine(h1.and hn).imp λ{p q} hh=>?_;obtain⟨h2,h3⟩:=hh;rw[Jk]at h2⊢
 have:¬(p.c.x=q.c.x/\p.c.y=q.c.y/\p.c.q=q.c.q):=λe=>h3 (by
  obtain⟨⟨px,py,pq⟩,pl⟩:=p;obtain⟨⟨qx,qy,qq⟩,ql⟩:=q;dsimp only at e⊢;rw[e.1,e.2.1,e.2.2])
 omega
theorem jJ (mv:List Stk):((s.to f mv).l.map (·.c)).Nodup/\(∀x∈(s.to f mv).l,x.ls≠[])/\(s.to f mv).l.Pairwise λp q=>Kc p.c q.c<0:=by
 unfold St.to;dsimp only
 split<;>exact cI _ _
theorem dS {n:Nat} {l:List Stk} (h1:∀x∈l,x.c.ok=true/\x.ls≠[]/\∀i∈x.ls,i<n) (h2:l.Pairwise λp q=>Kc p.c q.c<0) (h3:(Hl l).Nodup) (h4:n<=(Hl l).length):chkS n l=0:=by
 have hb:(Dr l.length).any (Ko n l)=false:=by
  rw[Dt];intro i hi;have hi:=Ea.1 hi;rw[Eo];obtain⟨g1,g2,g3⟩:=h1 l[i] (Ay hi);unfold Ko;rw[Aw hi];dsimp only;have g4:l[i].ls.isEmpty=false:=by simpa using g2
  have g5:(l[i].ls.any λid=>decide (n<=id))=false:=by
   rw[Dt];intro x hx;have:=g3 x hx;simp;omega
  rw[g1,g4,g5]
  cases i with
  |zero=>rfl
  |succ j=>
   dsimp only;rw[Aw (show j<l.length by omega)];dsimp only;have:=Fi.1 h2 j (j+1) Gu hi Gu;rw[Ly Gu];rfl
 unfold chkS;rw[hb,Gz Ha,Gz (by simpa using h3),Gz Gu]
end
structure Mc (a b:Nat) (m:List Mv) (f:Fd):Prop where
 line:okL f.k f.c=true
 side:f.side<=1
 zero:f.sd (imP a m 0)=false
 near:∀i,i<4*a*b->Rk (if f.sd (imP a m i)then f.R (imP a m i)else imP a m i)
theorem aM {s:St} (h:s.chk=0):Ow s.a s.b s.cr s.root s.l=0/\s.lk.seams.any (Ke s.l)=false/\(s.lk.seams.any λx=>x.ls.any (Iz s.a s.b s.cr (upF s.a s.b s.cr s.root).1))=false:=by
 unfold St.chk at h
 split at h
 ·contradiction
 ·rename_i h0
  split at h
  ·cases h
  ·rename_i h1
   split at h
   ·cases h
   ·rename_i h2;exact⟨Ek.1 h0,Bool.eq_false_iff.2 h1,Bool.eq_false_iff.2 h2⟩
theorem iB {s:St} (h0:Ow s.a s.b s.cr s.root s.l=0) (h1:s.lk.seams.any (Ke s.l)=false) (h2:(s.lk.seams.any λx=>x.ls.any (Iz s.a s.b s.cr (upF s.a s.b s.cr s.root).1))=false):s.chk=0:=by
 unfold St.chk;unfold St.lk at h1 h2;rw[Gz (by rw[h0];decide),Gz (by rw[h1];decide),Gz (by rw[h2];decide)]
section
variable {a b:Nat} {s:St} {m:List Mv} {f:Fd}
theorem GSt.pos (G:GSt a b s m):0<4*a*b:=by
 have:=Mg G.S.ok
 have h1:1<=Hg (a:Int) (b:Int):=by
  unfold Hg;rw[show 4*(a:Int)*b=4*((a:Int)*b)from Cv ..];omega
 rw[Jh]at h1;omega
theorem Mc.k (F:Mc a b m f):1<=f.k/\f.k<=4:=by
 have:=Mu.1 F.line;omega
theorem GSt.rt (G:GSt a b s m) (F:Mc a b m f):s.rt f=(s.root,0):=by
 have h:=F.zero;unfold Fd.sd sdF at h;unfold St.rt;rw[G.img G.pos,Gz (by simpa using h)]
theorem GSt.to (G:GSt a b s m) (F:Mc a b m f) (mv:List Stk):GSt a b (s.to f mv) (plF a b f.k f.c f.side m) where
 sa:=G.sa
 sb:=G.sb
 S:=G.S
 pat:=pQ G.pat f mv
 root:=by
  show(s.rt f).1=mv0;rw[G.rt F];exact G.root
 pl:=vB G.S G.pl F.line F.zero (λi e hi he h0=>G.crTo F.side mv hi he h0) F.near
theorem GSt.imgTo (G:GSt a b s m) (F:Mc a b m f) (mv:List Stk) {i:Nat} (hi:i<4*a*b):(s.to f mv).lk.img i=if f.sd (s.lk.img i)then f.R (s.lk.img i)else s.lk.img i:=by
 rw[(G.to F mv).kimg hi,G.kimg hi];exact Pu hi (G.pl.ok i hi)
theorem GSt.q (G:GSt a b s m) {i:Nat} (hi:i<4*a*b):(s.lk.img i).q<=3:=by
 rw[G.kimg hi];exact Io _ _
theorem Gs.cq (hg:Gs s):∀x∈s.l,x.c.q<=3:=λx hx=>by
 have:=(hg.at x hx).1;unfold Cl.ok at this;rw[Jt]at this;omega
theorem GSt.nc2 (G:GSt a b s m) (hg:Gs s):NC2 s.lk.reg s.lk.nb (λu=>decide (Hm s.lk.cr u.1 u.2≠0)) s.lk.img (λu=>s.lk.other u.1 u.2) (λi=>htC s.l (s.lk.img i) i):=
 Bp5 (λ_ hu h=>G.p0 hu h) (λ_ hu h=>G.l0 hu h) (λ_ hu=>G.hne hu) ((Yr λ_ hu=>G.hne hu).1 (aM hg.chk).2.1)
theorem GSt.fat (G:GSt a b s m) (hg:Gs s) (F:Mc a b m f) {i:Nat} (hi:i<4*a*b):Sc s.lk.img (s.to f (s.mvd f)).lk.img (λi=>htC s.l (s.lk.img i) i) (λi=>htC (s.to f (s.mvd f)).l ((s.to f (s.mvd f)).lk.img i) i) (λc=>((atF s.l c).length:Int)) f.R f.sd f.over i:=by
 obtain⟨hn,hm⟩:=hg.lies (i:=i) (by rw[G.cnt];exact hi);exact Bg6 F.k F.side hg.cq hn (Ki hg.chkS).2.1 hm (G.q hi) (G.imgTo F _ hi)
theorem GSt.kindTo (G:GSt a b s m) (F:Mc a b m f) (mv:List Stk) {u:Nat×Nat} (hu:s.lk.reg u):decide (Hm (s.to f mv).lk.cr u.1 u.2≠0)=(decide (Hm s.lk.cr u.1 u.2≠0)||(f.sd (s.lk.img u.1) != f.sd (s.lk.img (s.lk.nb u)))):=by
 obtain⟨h1,h2,h3,h4,h5,h6,-⟩:=G.reg hu;have h:=G.crTo F.side mv h1 h2 h3;have hk:=G.kind hu;have vc:=(G.to F mv).kind (u:=u) hu;rw[hk,vc]at h;rw[h,G.kimg h1,G.kimg h4,h5]
theorem GSt.nc2To (G:GSt a b s m) (hg:Gs s) (F:Mc a b m f):NC2 s.lk.reg s.lk.nb (λu=>decide (Hm (s.to f (s.mvd f)).lk.cr u.1 u.2≠0)) (s.to f (s.mvd f)).lk.img (λu=>(s.to f (s.mvd f)).lk.other u.1 u.2) (λi=>htC (s.to f (s.mvd f)).l ((s.to f (s.mvd f)).lk.img i) i):=by
 have oq:∀u,s.lk.reg u->(s.lk.other u.1 u.2).q<=3:=λu hu=>by
  rw[G.other hu];exact Io _ _
 refine Av6 (len:=λc=>((atF s.l c).length:Int)) (R:=f.R) (sd:=f.sd) (over:=f.over) (G.nc2 hg) (λu hu=>?_) (λu hu h=>?_) (λu hu h=>?_) (λu hu=>?_) (λu hu=>?_) (λu hu=>?_) (λu hu h0 hs=>?_)
 ·have:=G.reg hu;exact⟨G.fat hg F this.1,G.fat hg F this.2.2.2.1⟩
 ·exact G.p0 hu (Ek.1 (by simpa using h))
 ·exact G.l0 hu (by simpa using h)
 ·obtain⟨h1,h2,h3,-⟩:=G.reg hu;rw[G.other hu,(G.to F (s.mvd f)).other (u:=u) hu,G.kimg h1,Rm h1];show Ho (if f.sd (imP a m u.1)then _ else _) _=_
  split
  ·rw[aU _ _ (Vj (G.pl.ok u.1 h1)) (Xf _ _) _ (by
    have:=(G.S.step u.1 u.2 h1 h2 h3).2.2.1;rw[<-this];exact Jz _ _)]
   rfl
  ·rfl
 ·exact Fd.invol F.k (oq u hu)
 ·exact G.kindTo F _ hu
 ·obtain⟨h1,h2,h3,h4,h5,-⟩:=G.reg hu;have di:Hm s.lk.cr u.1 u.2=0:=Ek.1 (by simpa using h0);have hc:=G.kind hu;rw[di]at hc;have fg:=Wd G.S G.pl h1 h2 h3 hc;obtain⟨e',vu,GR⟩:=Ud (m.getD u.1 mv0) (Vj (G.pl.ok u.1 h1)) (Hf (a:Int) u.1) (Jz _ _) u.2 h2;rw[G.kimg h1,G.kimg h4,h5]at hs⊢;rw[fg,GR]at hs⊢;have hd:=(vR F.side _ _).1 hs;have qw:=aS F.k (imP a m u.1) (Io _ _) e' vu hd;have hr:=(bF (imP a m u.1) (Io _ _) e' vu).2;rw[qw]at hr;exact hr
end
section
variable {a b:Nat} {s:St} {m:List Mv} {f:Fd}
theorem zU {i:Nat} (G:GSt a b s m) (hi:i<4*a*b):upP (plF a b f.k f.c f.side m) i=if f.sd (s.lk.img i)then !upP m i else upP m i:=by
 unfold upP;rw[Rm hi,G.kimg hi];show(!decide (4<=(if f.sd (imP a m i)then _ else _:Mv).t))=_
 split
 ·rw[(Bc9 _ (Vj (G.pl.ok i hi)) _ _).1]
 ·rfl
theorem Bc7 (G:GSt a b s m) {u:Nat×Nat} (hu:s.lk.reg u):upP m (s.lk.nb u)=if Hm s.lk.cr u.1 u.2≠0 then !upP m u.1 else upP m u.1:=by
 obtain⟨h1,h2,h3,h4,h5,-⟩:=G.reg hu;have hr:=G.pl.rel u.1 u.2 h1 h2 h3;rw[<-h5,G.kind hu]at hr;unfold upP;rw[hr];by_cases hk:Hm s.lk.cr u.1 u.2≠0
 ·rw[Hd (by simpa using hk),Hd hk,(Bc9 _ (Vj (G.pl.ok u.1 h1)) _ _).2]
 ·rw[Gz (by simpa using hk),Gz hk]
theorem GSt.lo (G:GSt a b s m) (hg:Gs s) (F:Mc a b m f) {i:Nat} (hi:i<4*a*b):0<=htC (s.to f (s.mvd f)).l ((s.to f (s.mvd f)).lk.img i) i:=by
 have FA:=G.fat hg F hi;have l0:∀c,(0:Int)<=((atF s.l c).length:Int):=λc=>Int.natCast_nonneg _
 cases h:f.sd (s.lk.img i)with
 |false=>
  obtain⟨-,-,h2,h3,-⟩:=FA.stay h;have:=l0 (f.R ((s.to f (s.mvd f)).lk.img i));rw[h2]
  split<;>omega
 |true=>
  obtain⟨-,-,-,h2,h3,h4⟩:=FA.moved h;have:=l0 ((s.to f (s.mvd f)).lk.img i);rw[h2]
  split<;>omega
theorem GSt.memTo (G:GSt a b s m) (hg:Gs s) (F:Mc a b m f) {i:Nat} (hi:i<4*a*b):i∈atF (s.to f (s.mvd f)).l ((s.to f (s.mvd f)).lk.img i):=pY.1 (G.lo hg F hi)
theorem GSt.idsTo (hg:Gs s) (F:Mc a b m f):(Hl (s.to f (s.mvd f)).l).Nodup:=(tJ F.side).nodup_iff.2 (Ki hg.chkS).2.1
theorem GSt.hsTo (G:GSt a b s m) (hg:Gs s) (F:Mc a b m f) {i:Nat} (hi:i<4*a*b):((s.to f (s.mvd f)).lk.hs.getD i 0:Int)=htC (s.to f (s.mvd f)).l ((s.to f (s.mvd f)).lk.img i) i:=
 Bp0 (GSt.idsTo hg F) (jJ _).1 (by rw[(G.to F (s.mvd f)).cnt];exact hi) (G.memTo hg F hi)
theorem GSt.hs (G:GSt a b s m) (hg:Gs s) {i:Nat} (hi:i<4*a*b):(s.lk.hs.getD i 0:Int)=htC s.l (s.lk.img i) i:=by
 obtain⟨hn,hm⟩:=hg.lies (i:=i) (by rw[G.cnt];exact hi);exact Bp0 (Ki hg.chkS).2.1 hn (by rw[G.cnt];exact hi) hm
theorem An7 (G:GSt a b s m) (hg:Gs s) (F:Mc a b m f):Bo7 (s.to f (s.mvd f)) (plF a b f.k f.c f.side m):=by
 have hb:=G.bends_iff.1 (aM hg.chk).2.2;have G':=G.to F (s.mvd f);intro u WH vc;have hu:s.lk.reg u:=WH;obtain⟨h1,h2,h3,h4,h5,h6,h7⟩:=G.reg hu;have F1:=G.fat hg F h1;have F2:=G.fat hg F h4;have e1:=G.hsTo hg F h1;have e2:=G.hsTo hg F h4;have u1:=zU (f:=f) G h1;have u2:=zU (f:=f) G h4;have uc:=Bc7 G hu;have nb':(s.to f (s.mvd f)).lk.nb u=s.lk.nb u:=rfl;have hkt:=G.kindTo F (s.mvd f) hu;have me:∀c,(0:Int)<=((atF s.l c).length:Int):=λc=>Int.natCast_nonneg _;unfold Lk.hi;rw[nb'];by_cases hk:Hm s.cr u.1 u.2≠0
 ·have di:Hm s.lk.cr u.1 u.2≠0:=hk;obtain⟨r,hr,r1,r2,r3⟩:=At1 hk;have FQ:r∈(s.to f (s.mvd f)).cr:=(Na _).mem_iff.2 (Gb _ hr)
  have ek:Hm (s.to f (s.mvd f)).cr u.1 u.2=Hm s.cr u.1 u.2:=by
   rw[<-r3,<-r1,<-r2];exact iJ G'.pat.asc FQ
  rw[ek];have B:=hb u hu hk;unfold Lk.hi at B;have im:=G.l0 hu di;rw[Hd di]at uc;have g1:=G.hs hg h1;have g2:=G.hs hg h4;rw[im]at g2
  have hne:htC s.l (s.lk.img u.1) u.1≠htC s.l (s.lk.img u.1) (s.lk.nb u):=λe=>by
   obtain⟨hn,hm⟩:=hg.lies (i:=u.1) (by rw[G.cnt];exact h1);have:=fN hm e;omega
  cases hs:f.sd (s.lk.img u.1)with
  |false=>
   have je:f.sd (s.lk.img (s.lk.nb u))=false:=by rw[im];exact hs
   obtain⟨a1,-,a2,-⟩:=F1.stay hs;obtain⟨b1,-,b2,-⟩:=F2.stay je;rw[b1,im]at b2 e2;rw[a1]at a2 e1;rw[hs]at u1;rw[je]at u2;have ord:(s.to f (s.mvd f)).lk.hs.getD u.1 0<(s.to f (s.mvd f)).lk.hs.getD (s.lk.nb u) 0↔s.lk.hs.getD u.1 0<s.lk.hs.getD (s.lk.nb u) 0:=Gu;by_cases ho:s.lk.hs.getD u.1 0<s.lk.hs.getD (s.lk.nb u) 0
   ·rw[Hd ho]at B;rw[Hd (ord.2 ho),u2];exact B
   ·rw[Gz ho]at B;rw[Gz (λh=>ho (ord.1 h)),u1];exact B
  |true=>
   have je:f.sd (s.lk.img (s.lk.nb u))=true:=by rw[im];exact hs
   obtain⟨a1,-,-,a2,-⟩:=F1.moved hs;obtain⟨b1,-,-,b2,-⟩:=F2.moved je;rw[b1,im]at b2 e2;rw[a1]at a2 e1;rw[hs]at u1;rw[je]at u2;have ord:(s.to f (s.mvd f)).lk.hs.getD u.1 0<(s.to f (s.mvd f)).lk.hs.getD (s.lk.nb u) 0↔¬s.lk.hs.getD u.1 0<s.lk.hs.getD (s.lk.nb u) 0:=Gu;by_cases ho:s.lk.hs.getD u.1 0<s.lk.hs.getD (s.lk.nb u) 0
   ·rw[Hd ho,uc]at B;rw[Gz (λh=>ord.1 h ho),u1];exact B
   ·rw[Gz ho]at B;rw[Hd (ord.2 ho),u2,uc];simpa using B
 ·have di:Hm s.cr u.1 u.2=0:=Ek.1 hk;have JO:¬Hm s.lk.cr u.1 u.2≠0:=hk;rw[Gz JO]at uc
  have wg:f.sd (s.lk.img u.1)≠f.sd (s.lk.img (s.lk.nb u)):=by
   have h8:decide (Hm (s.to f (s.mvd f)).lk.cr u.1 u.2≠0)=true:=Lb vc;rw[h8,Ly JO,Bool.false_or]at hkt;simpa using hkt.symm
  have jm:u∈Lv s f.k f.c:=by
   have h8:=G.passes (f:=f) F.side h1 h2 h3 (oHx ((G.S.step u.1 u.2 h1 h2 h3).2.1));rw[<-h5,<-G.kimg h1,<-G.kimg h4,Lb di,Bool.and_true]at h8;have h9:(f.sd (s.lk.img u.1) != f.sd (s.lk.img (s.lk.nb u)))=true:=by simpa using wg
   rw[h9]at h8;exact Rl h8
  have ek:Hm (s.to f (s.mvd f)).cr u.1 u.2=s.kf f u.1:=by
   have FQ:(⟨u.1,u.2,s.kf f u.1⟩:Cr)∈(s.to f (s.mvd f)).cr:=(Na _).mem_iff.2 (List.mem_append_right _ (Dq.2 ⟨u,jm,rfl⟩));exact iJ G'.pat.asc FQ
  rw[ek];unfold St.kf jV;rw[G.ups h1]
  have hx:f.R (s.lk.img u.1)=s.lk.img (s.lk.nb u):=by
   have hc:=G.kind hu;rw[Ly JO]at hc;have fg:=Wd G.S G.pl h1 h2 h3 hc;obtain⟨e',vu,GR⟩:=Ud (m.getD u.1 mv0) (Vj (G.pl.ok u.1 h1)) (Hf (a:Int) u.1) (Jz _ _) u.2 h2;have G9:=wg;rw[G.kimg h1,G.kimg h4,h5]at G9⊢;rw[fg,GR]at G9⊢;have hd:=(vR F.side _ _).1 G9;have qw:=aS F.k (imP a m u.1) (Io _ _) e' vu hd;have hr:=(bF (imP a m u.1) (Io _ _) e' vu).2;rw[qw]at hr;exact hr
  cases hs:f.sd (s.lk.img u.1)with
  |false=>
   have je:f.sd (s.lk.img (s.lk.nb u))=true:=by
    rw[hs]at wg
    cases h:f.sd (s.lk.img (s.lk.nb u))
    ·rw[h]at wg;exact absurd rfl wg
    ·rfl
   obtain⟨a1,-,a2,a3,a4⟩:=F1.stay hs;obtain⟨b1,b5,-,b2,b3,b4⟩:=F2.moved je;have ei:(s.to f (s.mvd f)).lk.img (s.lk.nb u)=(s.to f (s.mvd f)).lk.img u.1:=by rw[b1,a1,<-hx,F1.inv]
   rw[ei]at b2 b4 e2;rw[hs]at u1;rw[je,uc]at u2
   cases vi:f.over with
   |true=>
    rw[vi]at a2 b2;simp only[if_true]at a2 b2;rw[Hd (show(s.to f (s.mvd f)).lk.hs.getD u.1 0<(s.to f (s.mvd f)).lk.hs.getD (s.lk.nb u) 0 by omega),u2]
    cases upP m u.1<;>decide
   |false=>
    rw[vi]at a2 b2;simp at a2 b2;rw[Gz (show¬(s.to f (s.mvd f)).lk.hs.getD u.1 0<(s.to f (s.mvd f)).lk.hs.getD (s.lk.nb u) 0 by omega),u1]
    cases upP m u.1<;>decide
  |true=>
   have je:f.sd (s.lk.img (s.lk.nb u))=false:=by
    rw[hs]at wg
    cases h:f.sd (s.lk.img (s.lk.nb u))
    ·rfl
    ·rw[h]at wg;exact absurd rfl wg
   obtain⟨a1,a5,-,a2,a3,a4⟩:=F1.moved hs;obtain⟨b1,-,b2,b3,b4⟩:=F2.stay je;have ei:(s.to f (s.mvd f)).lk.img (s.lk.nb u)=(s.to f (s.mvd f)).lk.img u.1:=by rw[b1,a1,hx]
   rw[ei]at b2 b4 e2;rw[hs]at u1;rw[je,uc]at u2
   cases vi:f.over with
   |true=>
    rw[vi]at a2 b2;simp only[if_true]at a2 b2;rw[Gz (show¬(s.to f (s.mvd f)).lk.hs.getD u.1 0<(s.to f (s.mvd f)).lk.hs.getD (s.lk.nb u) 0 by omega),u1]
    cases upP m u.1<;>decide
   |false=>
    rw[vi]at a2 b2;simp at a2 b2;rw[Hd (show(s.to f (s.mvd f)).lk.hs.getD u.1 0<(s.to f (s.mvd f)).lk.hs.getD (s.lk.nb u) 0 by omega),u2]
    cases upP m u.1<;>decide
end
section
variable {a b:Nat} {s:St} {m:List Mv} {f:Fd}
theorem GSt.stkTo (G:GSt a b s m) (hg:Gs s) (F:Mc a b m f):Ow (s.to f (s.mvd f)).a (s.to f (s.mvd f)).b (s.to f (s.mvd f)).cr (s.to f (s.mvd f)).root (s.to f (s.mvd f)).l=0:=by
 have G':=G.to F (s.mvd f);obtain⟨n1,n2,n3⟩:=jJ (s:=s) (f:=f) (s.mvd f);have ja:=GSt.idsTo hg F;have bt:=Ao6 (s:=s) (f:=f) F.k F.side hg.cq
 have ad:∀i∈Hl (s.to f (s.mvd f)).l,i<4*a*b:=λi hi=>by
  have:=(tJ (s:=s) F.side).mem_iff.1 hi;obtain⟨y,hy,hyi⟩:=Eb.1 this;have:=(hg.at y hy).2.2 i hyi
  rwa [G.cnt]at this
 have jm:∀x∈(s.to f (s.mvd f)).l,∀i∈x.ls,i<4*a*b/\(s.to f (s.mvd f)).lk.img i=x.c:=λx hx i hi=>by
  have h1:=ad i (Eb.2 ⟨x,hx,hi⟩);refine⟨h1,?_⟩;have h2:=G.memTo hg F h1;have h3:i∈atF (s.to f (s.mvd f)).l x.c:=by rw[Md n1 hx];exact hi
  exact Wj ja n1 h2 h3
 have vw:∀x∈(s.to f (s.mvd f)).l,Rk x.c:=λx hx=>by
  have hne:=n2 x hx;obtain⟨i,r,hr⟩:=List.exists_cons_of_ne_nil hne;obtain⟨h1,h2⟩:=jm x hx i (by rw[hr];simp);rw[<-h2,G.imgTo F _ h1,G.kimg h1];exact F.near i h1
 have v8:chkS (Hg (s.to f (s.mvd f)).a (s.to f (s.mvd f)).b) (s.to f (s.mvd f)).l=0:=by
  rw[G'.cnt];refine dS (λx hx=>⟨Px (vw x hx) (bt x hx).1,n2 x hx,λi hi=>(jm x hx i hi).1⟩) n3 ja ?_;rw[(tJ (s:=s) F.side).length_eq];have:=(Ki hg.chkS).2.2
  rwa [G.cnt]at this
 unfold Ow;rw[Gz (by rw[G'.both];simp),Gz (by rw[v8];decide),Gz,Gz]
 ·rw[Eo,Dt];intro x hx;rw[Eo,Dt];intro e he
  have vu:e<=2:=by
   simp only[Bk,Du,or_false]at he;omega
  have h1:=vw x hx;have h2:=(bt x hx).1;rw[aX (Px h1 h2) vu (Tg h1 h2 e)];simp
 ·rw[Eo,Dt];intro x hx;rw[Eo,Dt];intro i hi;have:=(jm x hx i hi).2;have h3:(s.to f (s.mvd f)).lk.img i=(Ia (s.to f (s.mvd f)).a (s.to f (s.mvd f)).b (s.to f (s.mvd f)).cr (s.to f (s.mvd f)).root).1.2.getD i cl0:=rfl;rw[<-h3,this];simp
theorem GSt.crossTo (G:GSt a b s m) (hg:Gs s) (F:Mc a b m f):(s.to f (s.mvd f)).lk.seams.any (Ke (s.to f (s.mvd f)).l)=false:=by
 have G':=G.to F (s.mvd f);refine(Yr λu hu=>G'.hne hu).2 (Bp4 (λu hu h=>G'.p0 hu h) (λu hu h=>G'.l0 hu h) (λu hu=>G'.hne hu) (λu hu=>?_) (G.nc2To hg F));obtain⟨h1,-,-,h4,-⟩:=G.reg (u:=u) hu;exact⟨G.lo hg F h1,G.lo hg F h4⟩
theorem kO (G:GSt a b s m) (hg:Gs s) (F:Mc a b m f):Gs (s.to f (s.mvd f)):=by
 have G':=G.to F (s.mvd f);exact⟨G'.pat,iB (G.stkTo hg F) (G.crossTo hg F) (G'.bends_iff.2 (An7 G hg F))⟩
theorem xS (G:GSt a b s m) (hg:Gs s) (F:Mc a b m f) (hp:Lv s f.k f.c≠[]):s.do f=(0,Af (s.to f (s.mvd f))):=by
 have pr:s.mv f=Af (s.mvd f):=Ca4 λx hx hs=>by
  have hne:=(hg.at x hx).2.1;obtain⟨i,r,hr⟩:=List.exists_cons_of_ne_nil hne;have hi:i∈x.ls:=by rw[hr];simp
  have ad:=(hg.at x hx).2.2 i hi;obtain⟨hn,hm⟩:=hg.lies ad;have h3:i∈atF s.l x.c:=by rw[Md hn hx];exact hi
  have e:=Wj (Ki hg.chkS).2.1 hn hm h3;rw[G.cnt]at ad;have h4:=F.near i ad;rw[<-G.img ad,e,hs,Hd rfl]at h4;exact Px h4 (Io _ _)
 unfold St.do;rw[Gz (by rw[hg.chk];decide),xU,pr]
 have h1:Qk f.k f.c f.side=true:=by
  unfold Qk;rw[F.line,Bool.true_and];have:=F.side;exact Lb Gu
 rw[Gz (by rw[h1];decide),Gz (by simpa using hp)];dsimp only;rw[Gz (by rw[G.rt F];simp),Hd (kO G hg F).chk]
end
theorem uO {a b:Int} (hs:okS a b=true):Lq a b []:=⟨hs,Gx,Gx,Gx,.nil,Gx⟩
theorem Pw (c:Cl) (hq:c.q<=3):Ho mv0 c=c:=by
 obtain⟨x,y,q⟩:=c;dsimp only at hq;rcases Wv hq with rfl|rfl|rfl|rfl<;>simp[Ho,mv0,Iu,Ic,mat,Ip,Lj]<;>omega
theorem Aa6 {a i j:Nat} (h:Hf (a:Int) i=Hf (a:Int) j):i=j:=by
 unfold Hf at h;injection h with h1 h2 h3;have e1:∀k:Nat,((k:Int)/4%(a:Int))=((k/4%a:Nat):Int):=λk=>Gx;have e2:∀k:Nat,((k:Int)/4/(a:Int))=((k/4/a:Nat):Int):=λk=>Gx;rw[e1,e1]at h1;rw[e2,e2]at h2;have h1:i/4%a=j/4%a:=by exact_mod_cast h1
 have h2:i/4/a=j/4/a:=by exact_mod_cast h2
 have g1:=Nat.div_add_mod (i/4) a;have g2:=Nat.div_add_mod (j/4) a;rw[h1,h2]at g1;omega
section
variable {a b:Nat}
theorem fM (S:Ni a b):Ts a b [] (Ba (4*a*b) mv0):=by
 have z:∀i,(Ba (4*a*b) mv0).getD i mv0=mv0:=λi=>by
  rw[Ds,List.getElem?_replicate]
  split<;>rfl
 refine⟨Gx,z 0,λi _=>by rw[z];decide,λi hi=>?_,λi e hi he h0=>?_⟩
 ·rw[z,Pw _ (Jz _ _)];exact Pe S.ok (by rw[Jh];exact hi)
 ·rw[z,z];rfl
theorem nR (S:Ni a b):GSt a b (Jq a b) (Ba (4*a*b) mv0):=⟨rfl,rfl,S,uO S.ok,rfl,fM S⟩
theorem Vd (a b i:Nat):imP a (Ba (4*a*b) mv0) i=Hf (a:Int) i:=by
 have z:(Ba (4*a*b) mv0).getD i mv0=mv0:=by
  rw[Ds,List.getElem?_replicate]
  split<;>rfl
 unfold imP;rw[z,Pw _ (Jz _ _)]
def aO (a b:Nat):List Stk:=(Dr (4*a*b)).map λid=>⟨Hf (a:Int) id,[id]⟩
theorem sW (S:Ni a b):(Jq a b).l=Kd [] (aO a b):=by
 unfold Jq aO;dsimp only;rw[Jh,fL S (fM S)]
 congr 1
 refine List.map_congr_left λi hi=>?_;have hi:=Ea.1 hi;dsimp only
 congr 1
 rw[Ds,Fq,List.getElem?_range hi];exact Vd a b i
theorem bZ (a b:Nat):((aO a b).map (·.c)).Nodup:=by
 unfold aO;rw[Fs,List.Nodup,Ez];exact List.nodup_range.imp λ{i j} h e=>h (Aa6 e)
theorem nP (S:Ni a b) {i:Nat} (hi:i<4*a*b):atF (Jq a b).l (Hf (a:Int) i)=[i]:=by
 rw[sW S,aF Gx (bZ a b),Yl,Et];exact Md (x:=⟨Hf (a:Int) i,[i]⟩) (bZ a b) (Dq.2 ⟨i,Ea.2 hi,rfl⟩)
theorem xP (S:Ni a b):Gs (Jq a b):=by
 have G:=nR S;obtain⟨n1,n2,n3⟩:=cI [] (aO a b);rw[<-sW S]at n1 n2 n3
 have ja:(Hl (Jq a b).l).Perm (Dr (4*a*b)):=by
  rw[sW S];refine(eJ _ _).trans ?_;unfold Hl aO;rw[List.flatMap_nil,Et,List.flatMap_map];have:((Dr (4*a*b)).flatMap λid=>[id])=Dr (4*a*b):=Gx;rw[this]
 have DM:∀i,i<4*a*b->(Jq a b).lk.img i=Hf (a:Int) i:=λi hi=>by rw[G.kimg hi,Vd]
 have jm:∀x∈(Jq a b).l,∀i∈x.ls,i<4*a*b/\(Jq a b).lk.img i=x.c:=λx hx i hi=>by
  have h1:i<4*a*b:=Ea.1 (ja.mem_iff.1 (Eb.2 ⟨x,hx,hi⟩));refine⟨h1,?_⟩;rw[DM i h1];have h2:i∈atF (Jq a b).l (Hf (a:Int) i):=by rw[nP S h1];simp
  have h3:i∈atF (Jq a b).l x.c:=by rw[Md n1 hx];exact hi
  exact Wj (ja.nodup_iff.2 List.nodup_range) n1 h2 h3
 have vw:∀x∈(Jq a b).l,Rk x.c/\x.c.q<=3:=λx hx=>by
  obtain⟨i,r,hr⟩:=List.exists_cons_of_ne_nil (n2 x hx);obtain⟨h1,h2⟩:=jm x hx i (by rw[hr];simp);rw[<-h2,DM i h1];exact⟨Pe S.ok (by rw[Jh];exact h1),Jz _ _⟩
 have v8:chkS (Hg (Jq a b).a (Jq a b).b) (Jq a b).l=0:=by
  rw[G.cnt];refine dS (λx hx=>⟨Px (vw x hx).1 (vw x hx).2,n2 x hx,λi hi=>(jm x hx i hi).1⟩) n3 (ja.nodup_iff.2 List.nodup_range) ?_;rw[ja.length_eq,Co];exact Am _
 have hstk:Ow (Jq a b).a (Jq a b).b (Jq a b).cr (Jq a b).root (Jq a b).l=0:=by
  unfold Ow;rw[Gz (by rw[G.both];simp),Gz (by rw[v8];decide),Gz,Gz]
  ·rw[Eo,Dt];intro x hx;rw[Eo,Dt];intro e he
   have vu:e<=2:=by
    simp only[Bk,Du,or_false]at he;omega
   obtain⟨h1,h2⟩:=vw x hx;rw[aX (Px h1 h2) vu (Tg h1 h2 e)];simp
  ·rw[Eo,Dt];intro x hx;rw[Eo,Dt];intro i hi;have:=(jm x hx i hi).2;have h3:(Jq a b).lk.img i=(Ia (Jq a b).a (Jq a b).b (Jq a b).cr (Jq a b).root).1.2.getD i cl0:=rfl;rw[<-h3,this];simp
 have hz:∀i,i<4*a*b->htC (Jq a b).l ((Jq a b).lk.img i) i=0:=λi hi=>by
  rw[DM i hi];unfold htC;rw[nP S hi,Lc,Hd rfl]
 have di:∀u:Nat×Nat,Hm (Jq a b).lk.cr u.1 u.2=0:=λu=>rfl;refine⟨G.pat,iB hstk ((Yr λu hu=>G.hne hu).2 (Bp4 (λu hu h=>G.p0 hu h) (λu hu h=>G.l0 hu h) (λu hu=>G.hne hu) (λu hu=>?_) ⟨λu v x y z w hu hv _ _ eu ev _ _ hc=>?_,λu v x y hu hv _ fk=>?_,λu v hu hv gu=>?_⟩)) (G.bends_iff.2 λu hu h=>absurd (di u) h)⟩
 ·obtain⟨h1,-,-,h4,-⟩:=G.reg hu;rw[hz _ h1,hz _ h4];exact⟨Ha,Ha⟩
 ·obtain⟨h1,-,-,h4,-⟩:=G.reg hu;obtain⟨g1,-,-,g4,-⟩:=G.reg hv;have hx:x<4*a*b:=by rcases eu with⟨rfl,-⟩|⟨rfl,-⟩<;>assumption
  have hzz:z<4*a*b:=by rcases ev with⟨rfl,-⟩|⟨rfl,-⟩<;>assumption
  rw[hz _ hx,hz _ hzz]at hc;omega
 ·have:=di v;simp[this]at fk
 ·have:=di u;simp[this]at gu
end
end Go.Proofs.YtlgkpdfieaadaaaGreatDoor
