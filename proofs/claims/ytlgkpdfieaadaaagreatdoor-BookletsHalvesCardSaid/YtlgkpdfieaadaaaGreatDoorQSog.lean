import Derived.Test.YtlgkpdfieaadaaaGreatDoorQStk
import Derived.Deep.WholeRow
import Derived.Deep.RegionHeld3
import Derived.Maps.OwnOps
import Derived.Test.YtlgkpdfieaadaaaGreatDoorRows
import Derived.ChangeKeysEq
import Derived.Shelf.SlSortCmp.NoneTotal
set_option linter.all false
open Array renaming getElem?_eq_some_iff->Au,getElem?_modify->Df
open Bool renaming and_eq_true->El,false_eq_true->Ej
open Go renaming Addr->Ci,Calls->Al,TypeId->Cj,Value->Ak,World->Aj,bodyPost_ret->Ai,cell_of_row->By,heap_alloc_new->Bz,wpAnyH_done->An,wpAnyH_ready->Ap,wp_region_held_drew->Ao
open Go.AllReadyH renaming cons->Aq,nil->Ar
open Go.Builtin renaming firstCells->Fv,zeroCells->Gm
open Go.IntKind renaming i64->Ab,u8->Ac
open Go.IntWalk renaming i64_in->Ca
open Go.Lib renaming hid->Ah
open Go.Op renaming equalIn->Gr
open Go.Proofs.Tryz renaming prog->Do,underlying30->Fh,underlying48->Dm
open Go.Result renaming andThen_ok->Fo
open Go.RowKit.Below renaming heap_alloc->Eg,heap_setCell->Dp,refl->Ag
open Go.Sem renaming run_bind->Gq
open Go.Value renaming int->Aa,slice->Ad
open Go.World renaming frozen?->Dz
open Int renaming mul_assoc->Cv,toNat_natCast->Eu
open List renaming any_eq_false->Dt,any_eq_true->Ev,append_assoc->Bj,ext_getElem->Gj,flatMap_append->Bi,flatMap_cons->Bf,getElem?_append_left->Fj,getElem?_append_right->Ee,getElem?_cons_succ->Cw,getElem?_eq_getElem->Aw,getElem?_eq_none->Ei,getElem?_eq_some_iff->Ax,getElem?_map->Fq,getElem_cons_succ->Cd,getElem_cons_zero->Cc,getElem_map->Gd,getElem_mem->Ay,getElem_toArray->Ce,length_append->Bh,length_cons->En,length_nil->Cq,mem_iff_getElem->Be,mem_singleton->Ge,nodup_append->Bp,pairwise_iff_getElem->Fi,replicate->Ba,setIfInBounds_toArray->Ch,set_cons_succ->Cg,set_cons_zero->Cf,take_succ_eq_append_getElem->Bc
open Nat renaming add_zero->De,le_refl->Am,le_trans->Br,lt_of_lt_of_le->Bq,mul_le_mul_right->Ft,mul_one->Db,zero_add->Bt,zero_le->Gk
open Option renaming none->Ae,some->Af
set_option maxHeartbeats 8000000
set_option maxRecDepth 100000
namespace Go.Proofs.YtlgkpdfieaadaaaGreatDoor
open Go.RowKit
theorem uT (i m P:Nat) (w:Aj) (hP:w.cell? ⟨P,0,Ae⟩=Af (Aa Ab (m:Int))):
  Al Do 291 #[(i:Int),.pointer (Af ⟨P,0,Ae⟩)] w (Gy (.bool (decide (m<=i))) w):=by
 have q0:¬(i:Int)<0:=Gu;obtain⟨R,hR⟩:=ey (decide (m<=i));rw[hR];have HR:=Ah hR;clear hR;go_enter Tryz.func291,Tryz.ntmps291;by_cases h:m<=i
 ·have h':(m:Int)<=i:=Gu;go_wp2;go_ret;exact⟨by rw[<-HR.out,Lb h];simp<;>omega,Ag _ _⟩
 ·have h':¬(m:Int)<=i:=Gu;go_wp2;go_ret;exact⟨by rw[<-HR.out,Ly h];simp<;>omega,Ag _ _⟩
theorem Ag9 (A:Option Ci) (l:List Nat) (n c m P:Nat) (w:Aj) (hn:n=l.length) (h:Rd w A 1 n (If l)) (hl:n<=1000000) (hP:w.cell? ⟨P,0,Ae⟩=Af (Aa Ab (m:Int))):
  Al Do 292 #[Ad A n c,.func (.func 291) #[] #[.pointer (Af ⟨P,0,Ae⟩)]] w λe w'=>(∃r:Int,e= .returned (Aa Ab r)/\((l.any λi=>decide (m<=i))=decide (0<=r)))/\Below w.heap.size w w':=by
 have dr:=Ah h;have HN:=Ah hn;clear h hn;go_enter Tryz.func292,Tryz.ntmps292;go_wp2
 go_loopw [5,8] (λ_ i wr=>∃k:Nat,k<=n/\i= Aa Ab k/\Below w.heap.size w wr/\Hid (∀j (hj:j<l.length),j<k->¬m<=l[j])) (λ_ i _=>n-(intOf i).toNat)
 case atStart=>exact⟨0,Gu,rfl,Ag _ _,Ah λj _ hj=>absurd hj Gu⟩
 obtain⟨k,hk,rfl,hb,HK⟩:=hrel;by_cases ad:k<n
 ·have bc:k<l.length:=oHx HN.out;obtain⟨bb,o,rfl,cj,c0⟩:=Rp (dr.out.below hb) k bc;have q1:(k:Int)<(n:Int):=Gu;have hPr:=Gv hb hP;obtain⟨r,hr⟩:=ey (l[k]);have jq:=Ah hr;rw[hr]at c0;have HC:=Ah λw' (h:w'.cell? ⟨P,0,Ae⟩=Af (Aa Ab (m:Int)))=>uT r m P w' h;clear hr;go_wp2_with fail;refine(HC.out _ hPr).mono ?_;rintro e w2 ⟨rfl,aj⟩;have bm:=hb.trans (aj.mono hb.size);by_cases he:m<=r
  ·rw[Lb he];have HA:Hid ((l.any λi=>decide (m<=i))=true):=Ah (by rw[Ev];exact⟨l[k],Ay _,by rw[jq.out];simpa using he⟩);go_wp2;go_ret;exact⟨⟨k,rfl,by rw[HA.out];simp⟩,bm⟩
  ·rw[Ly he]
   have jf:=Ah (λj (hj:j<l.length) (h:j<k+1)=>show¬m<=l[j]by
    by_cases kj:j=k
    ·subst kj;rw[jq.out];exact he
    ·exact HK.out j hj Gu)
   go_wp2;exact⟨⟨k+1,Gu,by go_num,bm,jf⟩,by simp[intOf];omega⟩
 ·have q1:¬(k:Int)<(n:Int):=Gu
  have HA:Hid ((l.any λi=>decide (m<=i))=false):=Ah (by
   rw[Dt];intro x hx;obtain⟨j,hj,rfl⟩:=Be.1 hx;simpa using HK.out j hj (oHx HN.out))
  go_wp2;go_ret;exact⟨⟨-1,rfl,by rw[HA.out];rfl⟩,hb⟩
theorem Bm1 (A:Option Ci) (l:List Nat) (n c m P:Nat) (w:Aj) (hn:n=l.length) (h:Rd w A 1 n (If l)) (hl:n<=1000000) (hP:w.cell? ⟨P,0,Ae⟩=Af (Aa Ab (m:Int))):
  Al Do 245 #[Ad A n c,.func (.func 291) #[] #[.pointer (Af ⟨P,0,Ae⟩)]] w (Gy (.bool (l.any λi=>decide (m<=i))) w):=by
 have HC:=Ah (Ag9 A l n c m P w hn h hl hP);generalize (l.any λi=>decide (m<=i))=R at HC⊢;clear hn h hl;go_enter Tryz.func245,Tryz.ntmps245;go_wp2_with fail;refine HC.out.mono ?_;rintro e w2 ⟨⟨r,rfl,hr⟩,hb⟩;go_wp2;go_ret;exact⟨by rw[hr];rfl,hb⟩
theorem Pm {P:Program} {ops:Array Oper} {rest:List Oper} {op:Oper} {a:Act} {w:Aj} {Q:Exit->Act->Aj->Prop} (OQ:op.guard=Ae) (t:Cj) (x y:Operand) (ho:op.op= .store t x y)
  (c c':Array Ak) (hx:a.eval x= .pointer (Af ⟨w.heap.size,0,Ae⟩)) (hy:a.eval y= .agg c') (hi:(P.info? t).map (·.size)=Af c'.size) (hc:c.size=c'.size) (h1:c'.all (·.oneCell')=true)
  (h:wpList P ops Q rest (a.put op.dst undef) (w.alloc (.cells c' t))):wpList P ops Q (op::rest) a (w.alloc (.cells c t)):=
 wpList_plain OQ λK hK=>by
  have hk:K (a.put op.dst undef) (w.alloc (.cells c' t)):=hK _ _ h;unfold Oper.wp execOp;simp only[ho,hx,hy,Gq,run_storeAt_new w t c c' hi hc h1,Sem.run_pure,Fo];exact hk
def qln:Nat->Int
 |0=>2|1=>1|2=>2|_=>1
def qby:Nat->Int
 |0=>0|1=>1|2=>1|_=>0
def Ov (q:Nat):List Ak:=[Aa Ab (Ip q).1,Aa Ab (Ip q).2,Aa Ac (qln q),Aa Ab (qby q),
 Aa Ab (nxt q 0).1,Aa Ab (nxt q 0).2.1,Aa Ac (nxt q 0).2.2,Aa Ab (nxt q 1).1,Aa Ab (nxt q 1).2.1,Aa Ac (nxt q 1).2.2,Aa Ab (nxt q 2).1,Aa Ab (nxt q 2).2.1,Aa Ac (nxt q 2).2.2,
 Aa Ab (Ue q).1,Aa Ab (Ue q).2,Aa Ab (Uf q).1,Aa Ab (Uf q).2]
def Pk:List Ak:=Ov 0++Ov 1++Ov 2++Ov 3
structure Qf (w:Aj):Prop where
 lt:1<w.heap.size
 at':w.rangeAt 1 0 Pk
theorem Qf.below {w w':Aj} (h:Qf w) (hb:Below w.heap.size w w'):Qf w':=
 ⟨Bq h.lt hb.size,λj v hj=>Gv hb (h.at' j v hj)⟩
theorem Qf.row {w:Aj} (h:Qf w) {q:Nat} (hq:q<4):w.rangeAt 1 (q*17) (Ov q):=by
 intro j v hj;have hj17:j<17:=(Ax.1 hj).1
 have:=h.at' (q*17+j) v (by
  have h4:q=0∨q=1∨q=2∨q=3:=Gu;rcases h4 with rfl|rfl|rfl|rfl
  ·unfold Pk;rw[Bj,Bj,Fj (by simp[Ov];omega)];simpa using hj
  ·unfold Pk;rw[Bj,Bj,Ee (by simp[Ov]),Fj (by simp[Ov];omega)];have:1*17+j-(Ov 0).length=j:=by simp[Ov]
   rw[this];exact hj
  ·unfold Pk;rw[Bj,Ee (by simp[Ov]),Fj (by simp[Ov];omega)];have:2*17+j-(Ov 0++Ov 1).length=j:=by simp[Ov]
   rw[this];exact hj
  ·unfold Pk;rw[Ee (by simp[Ov])];have:3*17+j-(Ov 0++Ov 1++Ov 2).length=j:=by simp[Ov]
   rw[this];exact hj)
 rw[Bt]at this;exact this
theorem Qf.qt {w:Aj} (h:Qf w):Qt w:=by
 refine⟨h.lt,λq e hq he=>?_⟩;have hr:=h.row hq;have h3:e=0∨e=1∨e=2:=Gu;rcases h3 with rfl|rfl|rfl
 ·exact⟨hr 4 _ rfl,hr 5 _ rfl,hr 6 _ rfl⟩
 ·exact⟨hr 7 _ rfl,hr 8 _ rfl,hr 9 _ rfl⟩
 ·exact⟨hr 10 _ rfl,hr 11 _ rfl,hr 12 _ rfl⟩
def dU (c:Cl):Ak:= .agg #[Aa Ab (2*c.x+1),Aa Ab (2*c.y+1),Aa Ab (2*c.x+(Ue c.q).1),Aa Ab (2*c.y+(Ue c.q).2),Aa Ab (2*c.x+(Uf c.q).1),Aa Ab (2*c.y+(Uf c.q).2)]
theorem Cb2 (q:Nat):(0<=(Ue q).1/\(Ue q).1<=2)/\(0<=(Ue q).2/\(Ue q).2<=2)/\(0<=(Uf q).1/\(Uf q).1<=2)/\(0<=(Uf q).2/\(Uf q).2<=2):=by
 unfold Ue Uf;split<;>decide
def Bz0 (x y u1 u2 v1 v2:Int):Nat->Array Ak
 |0=>#[Aa Ab 1,Aa Ab 1,u1,u2,v1,v2]
 |1=>#[Aa Ab (2*x+1),Aa Ab (2*y+1),u1,u2,v1,v2]
 |2=>#[Aa Ab (2*x+1),Aa Ab (2*y+1),Aa Ab (2*x+u1),Aa Ab (2*y+u2),v1,v2]
 |_=>#[Aa Ab (2*x+1),Aa Ab (2*y+1),Aa Ab (2*x+u1),Aa Ab (2*y+u2),Aa Ab (2*x+v1),Aa Ab (2*y+v2)]
theorem cU {w:Aj} {g:Nat} {a b c d e f:Ak} {t:Cj} (h:w.heap[g]? =Af (Obj.cells #[a,b,c,d,e,f] t (0,0))):
  (w.cell? ⟨g,0,Ae⟩=Af a/\w.cell? ⟨g,1,Ae⟩=Af b/\w.cell? ⟨g,2,Ae⟩=Af c/\w.cell? ⟨g,3,Ae⟩=Af d/\w.cell? ⟨g,4,Ae⟩=Af e/\w.cell? ⟨g,5,Ae⟩=Af f)/\
  (w.frozen? ⟨g,0,Ae⟩=false/\w.frozen? ⟨g,1,Ae⟩=false/\w.frozen? ⟨g,2,Ae⟩=false/\w.frozen? ⟨g,3,Ae⟩=false/\w.frozen? ⟨g,4,Ae⟩=false/\w.frozen? ⟨g,5,Ae⟩=false):=by
 have hc:∀j,w.cell? ⟨g,j,Ae⟩= #[a,b,c,d,e,f][j]? :=λj=>By w g j _ t (0,0) h;have hf:∀j,w.frozen? ⟨g,j,Ae⟩=false:=λj=>by simp[Dz,h]
 exact⟨⟨hc 0,hc 1,hc 2,hc 3,hc 4,hc 5⟩,hf 0,hf 1,hf 2,hf 3,hf 4,hf 5⟩
theorem sJ (c:Cl) (w:Aj) (hc:c.ok=true) (hQ:Qf w):Al Do 167 #[.agg #[Aa Ab c.x,Aa Ab c.y,Aa Ac c.q]] w (Gy (.tuple #[dU c,Aa Ab 0]) w):=by
 unfold Cl.ok at hc;obtain⟨c1,c2,c3,c4,c5⟩:=Jt.1 hc;obtain⟨x,y,q⟩:=c;dsimp only at hc c1 c2 c3 c4 c5⊢;have hq:q<4:=Gu;unfold dU;dsimp only;obtain⟨⟨o1,o2⟩,⟨o3,o4⟩,⟨o5,o6⟩,o7,o8⟩:=Cb2 q;have ag:=λ(w':Aj) (h:Qf w')=>h.row hq;unfold Ov at ag;obtain⟨⟨u1,u2⟩,h1⟩:=ey (Ue q);obtain⟨⟨v1,v2⟩,h2⟩:=ey (Uf q);obtain⟨⟨s1,s2⟩,h3⟩:=ey (Ip q);obtain⟨ln,h4⟩:=ey (qln q);obtain⟨nm,h5⟩:=ey (qby q);obtain⟨⟨n1,n2,n3⟩,h6⟩:=ey (nxt q 0);obtain⟨⟨n4,n5,n6⟩,h7⟩:=ey (nxt q 1);obtain⟨⟨n7,n8,n9⟩,h8⟩:=ey (nxt q 2);rw[h1,h2,h3,h4,h5,h6,h7,h8]at ag;rw[h1]at o1 o2 o3 o4;rw[h2]at o5 o6 o7 o8;rw[h1,h2];dsimp only at ag o1 o2 o3 o4 o5 o6 o7 o8⊢;have HC:=Ah hc;have yw:=Ah ag;have HQ:=Ah hQ;have q1:(q:Int)<4:=Gu;have H:=((Bx.start w).new #[x,y,Aa Ac q] 90 rfl).new #[Aa Ab 0,Aa Ab 0,Aa Ab 0,Aa Ab 0,Aa Ab 0,Aa Ab 0] 283 (N:=w.heap.size+1) Gx;clear hc ag h1 h2 h3 h4 h5 h6 h7 h8 hQ;go_enter Tryz.func167,Tryz.ntmps167;go_upto_region 1 with fail;generalize (w.alloc _).alloc _=W at H⊢;generalize w.heap.size=N at H⊢;obtain⟨⟨a0,a1,a2⟩,_⟩:=He (H.b 0);go_wp2_with fail;refine(Jf x y q _).mono ?_;rintro e w2 ⟨rfl,hb⟩;rw[HC.out,Ls];have H2:=H.call hb;clear a0 a1 a2 hb H;obtain⟨⟨a0,a1,a2⟩,_⟩:=He (H2.b 0);have hr:=yw.out _ (HQ.out.below H2.below);go_upto_region 3 with fail;have hz:Tryz.prog.info? 300=Tryz.prog.info? 300:=rfl;clear hz
 repeat' (go_not_at_region 4;first
  |refine wpList_load_mid rfl 300 (.tmp 13) rfl 1 (q*17) rfl _ _ hr Tryz.underlying300 rfl Gw ?_
  |refine Pm rfl 300 (.tmp 4) (.tmp 14) rfl _ _ rfl rfl Gw rfl rfl ?_
  |go_step)
 clear hr a0 a1 a2;obtain⟨G4,ZF⟩:=ez w2.heap.size;rw[<-ZF];have H4:=H2.new #[s1,s2,Aa Ac ln,nm,n1,n2,Aa Ac n3,n4,n5,Aa Ac n6,n7,n8,Aa Ac n9,u1,u2,v1,v2] 300 ZF.symm;obtain⟨W4,OI⟩:=ez (w2.alloc (.cells #[s1,s2,Aa Ac ln,nm,n1,n2,Aa Ac n3,n4,n5,Aa Ac n6,n7,n8,Aa Ac n9,u1,u2,v1,v2] 300));rw[<-OI]at H4;change Code.wp _ _ _ _ (w2.alloc (.cells #[s1,s2,Aa Ac ln,nm,n1,n2,Aa Ac n3,n4,n5,Aa Ac n6,n7,n8,Aa Ac n9,u1,u2,v1,v2] 300));rw[<-OI];have jd:=H4.range 2 rfl;have r13:=jd 13 _ rfl;have r14:=jd 14 _ rfl;have r15:=jd 15 _ rfl;have r16:=jd 16 _ rfl;simp only[Bt]at r13 r14 r15 r16;clear jd ZF OI;go_wp2_with fail;obtain⟨G5,ZG⟩:=ez W4.heap.size;rw[<-ZG];have H5:=H4.new (Bz0 x y u1 u2 v1 v2 0) 283 ZG.symm;have hne:N≠G5:=oHx (H4.lt 0 rfl);have DS:N+1≠G5:=oHx (H4.lt 1 rfl);clear ZG r13 r14 r15 r16
 go_loopw [21] (λi wr=>∃k:Nat,k<=3/\i= Aa Ab k/\Bx w [(N,#[x,y,Aa Ac q],90),(N+1,#[Aa Ab 0,Aa Ab 0,Aa Ab 0,Aa Ab 0,Aa Ab 0,Aa Ab 0],283),(G4,#[s1,s2,Aa Ac ln,nm,n1,n2,Aa Ac n3,n4,n5,Aa Ac n6,n7,n8,Aa Ac n9,u1,u2,v1,v2],300),(G5,Bz0 x y u1 u2 v1 v2 k,283)] wr) (λi _=>3-(intOf i).toNat)
 case atStart=>exact⟨0,Gu,rfl,H5⟩
 obtain⟨k,hk,rfl,Hr⟩:=hrel;obtain⟨⟨a0,a1,a2⟩,_⟩:=He (Hr.b 0);have w1:Ab.wrap (2*x)=2*x:=Ca _ Gu;have XB:Ab.wrap (2*y)=2*y:=Ca _ Gu;have h4:k=0∨k=1∨k=2∨k=3:=Gu;rcases h4 with rfl|rfl|rfl|rfl
 ·as_aux_lemma=>
   have w3:Ab.wrap (1+2*x)=2*x+1:=by rw[Ca _ Gu];omega
   have w4:Ab.wrap (1+2*y)=2*y+1:=by rw[Ca _ Gu];omega
   obtain⟨⟨d0,d1,d2,d3,d4,d5⟩,f0,f1,f2,f3,f4,f5⟩:=cU (Hr.b 3);go_wp2
   go_region
   go_wp2
   go_region
   go_wp2;exact⟨⟨1,Gu,rfl,((Hr.set 3 0 rfl (Aa Ab (2*x+1))).set 3 1 rfl (Aa Ab (2*y+1))).drew.drew⟩,by simp[intOf]⟩
 ·as_aux_lemma=>
   have w3:Ab.wrap (u1+2*x)=2*x+u1:=by rw[Ca _ Gu];omega
   have w4:Ab.wrap (u2+2*y)=2*y+u2:=by rw[Ca _ Gu];omega
   obtain⟨⟨d0,d1,d2,d3,d4,d5⟩,f0,f1,f2,f3,f4,f5⟩:=cU (Hr.b 3);go_wp2
   go_region
   go_wp2
   go_region
   go_wp2;exact⟨⟨2,Gu,rfl,((Hr.set 3 2 rfl (Aa Ab (2*x+u1))).set 3 3 rfl (Aa Ab (2*y+u2))).drew.drew⟩,by simp[intOf]⟩
 ·as_aux_lemma=>
   have w3:Ab.wrap (v1+2*x)=2*x+v1:=by rw[Ca _ Gu];omega
   have w4:Ab.wrap (v2+2*y)=2*y+v2:=by rw[Ca _ Gu];omega
   obtain⟨⟨d0,d1,d2,d3,d4,d5⟩,f0,f1,f2,f3,f4,f5⟩:=cU (Hr.b 3);go_wp2
   go_region
   go_wp2
   go_region
   go_wp2;exact⟨⟨3,Gu,rfl,((Hr.set 3 4 rfl (Aa Ab (2*x+v1))).set 3 5 rfl (Aa Ab (2*y+v2))).drew.drew⟩,by simp[intOf]⟩
 ·as_aux_lemma=>
   obtain⟨⟨d0,d1,d2,d3,d4,d5⟩,f0,f1,f2,f3,f4,f5⟩:=cU (Hr.b 3);obtain⟨⟨b0,b1,b2,b3,b4,b5⟩,g0,g1,g2,g3,g4,g5⟩:=cU (Hr.b 1);go_wp2_with fail;have H6:=(((((Hr.set 1 0 rfl (Aa Ab (2*x+1))).set 1 1 rfl (Aa Ab (2*y+1))).set 1 2 rfl (Aa Ab (2*x+u1))).set 1 3 rfl (Aa Ab (2*y+u2))).set 1 4 rfl (Aa Ab (2*x+v1))).set 1 5 rfl (Aa Ab (2*y+v2));exact Ai (Hj rfl rfl (H6.range 1 rfl) Tryz.underlying283 rfl Gw) rfl ⟨rfl,H6.below⟩
def wX:Prop:=∀(m:Mv) (c:Cl) (w:Aj),m.ok=true->c.ok=true->Qf w->Tn w->
 Al Do 173 #[.agg #[Aa Ac m.t,Aa Ab m.x,Aa Ab m.y],.agg #[Aa Ab c.x,Aa Ab c.y,Aa Ac c.q]] w (Gy (.agg #[Aa Ab (Ho m c).x,Aa Ab (Ho m c).y,Aa Ac (Ho m c).q]) w)
def clR (r:Cl×Int):Ak:= .tuple #[.agg #[Aa Ab r.1.x,Aa Ab r.1.y,Aa Ac r.1.q],Aa Ab r.2]
theorem Ux (pr:wX) (m:Mv) (c:Cl) (w:Aj) (hm:m.ok=true) (hc:c.ok=true) (hQ:Qf w) (hT:Tn w):
  Al Do 121 #[.agg #[Aa Ac m.t,Aa Ab m.x,Aa Ab m.y],.agg #[Aa Ab c.x,Aa Ab c.y,Aa Ac c.q]] w (Gy (clR (Li m c)) w):=by
 have HM:=Ah λw' (hb:Below w.heap.size w w')=>pr m c w' hm hc (hQ.below hb) (hT.below hb);have hR:Li m c=if(Ho m c).ok then (Ho m c,0)else (cl0,3):=rfl;obtain⟨⟨rx,ry,rq⟩,hd⟩:=ey (Ho m c);rw[hd]at HM hR;dsimp only at HM;generalize Li m c=R at hR⊢;have HR:=Ah hR;obtain⟨m1,_⟩:=Mv.ok_iff.1 hm;obtain⟨t,x,y⟩:=m;obtain⟨a,b,q⟩:=c;dsimp only at m1 HM⊢;have E1:Hid (okM t x y=true):=Ah hm;have E2:Hid (okC a b q=true):=Ah hc;have B1:=Ah (show 0<=(t:Int)/\(t:Int)<=255 by omega);have H:=(((Bx.start w).new #[Aa Ac t,x,y] 30 rfl).new #[a,b,Aa Ac q] 90 (N:=w.heap.size+1) Gx).new #[Aa Ab 0,Aa Ab 0,Aa Ac 0] 90 (N:=w.heap.size+2) Gx;clear hm hc hQ hT hR hd;go_enter Tryz.func121,Tryz.ntmps121;go_upto_region 1 with fail;generalize ((w.alloc _).alloc _).alloc _=W at H⊢;generalize w.heap.size=N at H⊢;obtain⟨P,hP⟩:=ez (N+2);rw[<-hP]at H;rw[show N+1+1=P from hP.symm];clear hP;obtain⟨⟨f0,f1,f2⟩,_⟩:=He (H.b 0);go_wp2_with fail;refine(Jo t x y _ B1.out).mono ?_;rintro e w2 ⟨rfl,hb⟩;rw[E1.out,Ls];have H2:=H.call hb;clear f0 f1 f2 hb H;obtain⟨⟨g0,g1,g2⟩,_⟩:=He (H2.b 1);go_wp2_with fail;refine(Jf a b q _).mono ?_;rintro e w3 ⟨rfl,hb⟩;rw[E2.out,Ls];have H3:=H2.call hb;clear g0 g1 g2 hb H2;obtain⟨⟨f0,f1,f2⟩,_⟩:=He (H3.b 0);obtain⟨⟨g0,g1,g2⟩,_⟩:=He (H3.b 1);go_wp2_with fail;refine(HM.out _ H3.below).mono ?_;rintro e w4 ⟨rfl,hb⟩;have H4:=H3.call hb;clear f0 f1 f2 g0 g1 g2 hb H3;have H5:=H4.new #[rx,ry,Aa Ac rq] 90 rfl;go_wp2_with fail;refine(Jf rx ry rq _).mono ?_;rintro e w5 ⟨rfl,hb⟩;have H6:=H5.call hb;clear hb H5 H4;obtain⟨⟨c0,c1,c2⟩,d0,d1,d2⟩:=He (H6.b 2);obtain⟨⟨b0,b1,b2⟩,_⟩:=He (H6.b 3)
 cases hk:okC rx ry rq
 ·have HK:Hid ((⟨rx,ry,rq⟩:Cl).ok=false):=Ah hk;rw[Qq];clear hk;go_wp2_with fail;have H7:=((H6.set 2 0 rfl (Aa Ab 0)).set 2 1 rfl (Aa Ab 0)).set 2 2 rfl (Aa Ac 0);exact Ai (Hj rfl rfl (H7.range 2 rfl) Tryz.underlying90 rfl Gw) rfl ⟨by rw[HR.out,HK.out];rfl,H7.below⟩
 ·have HK:Hid ((⟨rx,ry,rq⟩:Cl).ok=true):=Ah hk;rw[Ls];clear hk;go_wp2_with fail;have H7:=((H6.set 2 0 rfl (Aa Ab rx)).set 2 1 rfl (Aa Ab ry)).set 2 2 rfl (Aa Ac rq);exact Ai (Hj rfl rfl (H7.range 2 rfl) Tryz.underlying90 rfl Gw) rfl ⟨by rw[HR.out,HK.out];rfl,H7.below⟩
theorem Bx.nodup {w wr:Aj} {l:List (Nat×Array Ak×Cj)} (h:Bx w l wr):(l.map (·.1)).Nodup:=by
 rw[List.Nodup,Fi];intro i j hi hj yj he;simp only[List.length_map]at hi hj;simp only[Gd]at he;have h1:l[i]? =Af (l[i].1,l[i].2.1,l[i].2.2):=Aw hi;have h2:l[j]? =Af (l[i].1,l[j].2.1,l[j].2.2):=by rw[he];exact Aw hj
 have:=h.inj i j _ _ _ _ _ h1 h2;omega
theorem Bx.perm {w wr:Aj} {l l':List (Nat×Array Ak×Cj)} (h:Bx w l wr) (hp:l.Perm l'):Bx w l' wr:=by
 have hn:(l'.map (·.1)).Nodup:=(hp.map _).nodup_iff.1 h.nodup;have hm:∀(i g:Nat) (cs:Array Ak) (t:Cj),l'[i]? =Af (g,cs,t)->∃j,l[j]? =Af (g,cs,t):=λi g cs t hi=>List.mem_iff_getElem?.1 (hp.mem_iff.2 (List.mem_of_getElem? hi));refine⟨h.below,λi g cs t hi=>?_,λi g cs t hi=>?_,λi j g cs t ds u hi hj=>?_⟩
 ·obtain⟨j,hj⟩:=hm i g cs t hi;exact h.blk j g cs t hj
 ·obtain⟨j,hj⟩:=hm i g cs t hi;exact h.lo j g cs t hj
 ·rw[List.Nodup,Fi]at hn;have li:=(Ax.1 hi);have lj:=(Ax.1 hj);obtain⟨zi,BM⟩:=li;obtain⟨U4,U5⟩:=lj;rcases Nat.lt_trichotomy i j with ad|heq|zh
  ·exact absurd (by rw[Gd,Gd,BM,U5]) (hn i j (by simpa using zi) (by simpa using U4) ad)
  ·exact heq
  ·exact absurd (by rw[Gd,Gd,BM,U5]) (hn j i (by simpa using U4) (by simpa using zi) zh)
theorem Bx.ne {w wr:Aj} {l:List (Nat×Array Ak×Cj)} (h:Bx w l wr) (i j:Nat) (yj:i≠j) {g g':Nat} {cs ds:Array Ak} {t u:Cj} (hi:l[i]? =Af (g,cs,t)) (hj:l[j]? =Af (g',ds,u)):g≠g':=by
 intro e;subst e;exact yj (h.inj i j g cs t ds u hi hj)
theorem Bx.upto {w wr:Aj} {l:List (Nat×Array Ak×Cj)} (h:Bx w l wr) (n:Nat):Bx w (l.take n) wr:=by
 have hk:∀(i:Nat) (x:Nat×Array Ak×Cj),(l.take n)[i]? =Af x->l[i]? =Af x:=by
  intro i x hi;rw[List.getElem?_take]at hi
  split at hi
  ·exact hi
  ·cases hi
 exact⟨h.below,λi g cs t hi=>h.blk i g cs t (hk i _ hi),λi g cs t hi=>h.lo i g cs t (hk i _ hi),λi j g cs t ds u hi hj=>h.inj i j g cs t ds u (hk i _ hi) (hk j _ hj)⟩
theorem bR (X:Int):bits BinOp.and IntKind.i64 X 1=X%2:=by
 have h1:((BitVec.ofInt 64 X&&&BitVec.ofInt 64 1).toNat:Int)=X%2:=by
  rw[BitVec.toNat_and,BitVec.toNat_ofInt,BitVec.toNat_ofInt];have e:((1:Int)%(2^64:Nat)).toNat=1:=Ha;rw[e,Nat.and_one_is_mod];omega
 show Ab.wrap ((BitVec.ofInt 64 X&&&BitVec.ofInt 64 1).toNat:Int)=_;rw[h1];exact Ca _ Gu
def sqN (d:Int×Int):Nat->Nat
 |0=>0
 |k+1=>if Ip k=d then k else sqN d k
theorem Cc3 (d:Int×Int):sqN d 4=Lj d:=by
 unfold Lj;simp only[sqN,eq_comm (a:=d)]
 split
 ·rfl
 ·split
  ·rfl
  ·split
   ·rfl
   ·split<;>rfl
def Ra:Ak:= .agg Pk.toArray
theorem qA (w:Aj):(Instr.index 301 Ra (Aa Ab 0)).run Do w= .ok (.agg (Ov 0).toArray) w:=Gw
theorem qB (w:Aj):(Instr.index 301 Ra (Aa Ab 1)).run Do w= .ok (.agg (Ov 1).toArray) w:=Gw
theorem qC (w:Aj):(Instr.index 301 Ra (Aa Ab 2)).run Do w= .ok (.agg (Ov 2).toArray) w:=Gw
theorem qD (w:Aj):(Instr.index 301 Ra (Aa Ab 3)).run Do w= .ok (.agg (Ov 3).toArray) w:=Gw
theorem vE (k:Nat) (hk:k<4) (w:Aj):(Instr.index 301 Ra (Aa Ab k)).run Do w= .ok (.agg (Ov k).toArray) w:=by
 have:k=0∨k=1∨k=2∨k=3:=Gu;rcases this with rfl|rfl|rfl|rfl
 ·exact qA w
 ·exact qB w
 ·exact qC w
 ·exact qD w
theorem Av1 (m:Mv) (c:Cl) (w:Aj) (hm:m.ok=true) (hc:c.ok=true) (hQ:Qf w) (hT:Tn w):
  Al Do 173 #[.agg #[Aa Ac m.t,Aa Ab m.x,Aa Ab m.y],.agg #[Aa Ab c.x,Aa Ab c.y,Aa Ac c.q]] w (Gy (.agg #[Aa Ab (Ho m c).x,Aa Ab (Ho m c).y,Aa Ac (Ho m c).q]) w):=by
 obtain⟨⟨rx,ry,rq⟩,hR⟩:=ey (Ho m c);rw[hR];unfold Cl.ok at hc;obtain⟨c1,c2,c3,c4,c5⟩:=Jt.1 hc;have IA:=λw=>uB c w Gu Gu;have sg:=λw h=>pX m (2*c.x+1) (2*c.y+1) w hm Gu Gu h;obtain⟨t,x,y⟩:=m;obtain⟨a,b,q⟩:=c;obtain⟨m1,⟨m2,m3⟩,⟨m4,m5⟩,_⟩:=Mv.ok_iff.1 hm;dsimp only at c1 c2 c3 c4 c5 m1 m2 m3 m4 m5 IA sg⊢;have GZ:(⟨t,0,0⟩:Mv).ok=true:=Mv.ok_iff.2 ⟨m1,by dsimp only;omega,by dsimp only;omega,by dsimp only;omega⟩;have vj:(-1<=(Ip q).1/\(Ip q).1<=1)/\(-1<=(Ip q).2/\(Ip q).2<=1):=by unfold Ip;split<;>decide
 have lx:=λw h=>pX ⟨t,0,0⟩ (Ip q).1 (Ip q).2 w GZ Gu Gu h;have hq:q<4:=Gu;obtain⟨⟨K5,K7⟩,K8,K9⟩:=fC t (x:=2*a+1) (y:=2*b+1) (B:=10000) Gu Gu;obtain⟨⟨X,Y⟩,JK⟩:=ey (Iu ⟨t,x,y⟩ (2*a+1) (2*b+1))
 have hXb:(-60000<=X/\X<=60000)/\(-60000<=Y/\Y<=60000):=by
  unfold Iu at JK;simp only[Prod.mk.injEq]at JK;obtain⟨e1,e2⟩:=JK;omega
 have H:=(((Bx.start w).new #[Aa Ac t,x,y] 30 rfl).new #[a,b,Aa Ac q] 90 (N:=w.heap.size+1) Gx).new #[Aa Ab 0,Aa Ab 0,Aa Ac 0] 90 (N:=w.heap.size+2) Gx;have q1:(q:Int)<4:=Gu;have GC:=Ah IA;have ag:=λ(w':Aj) (h:Qf w')=>h.row hq;unfold Ov at ag;obtain⟨⟨s1,s2⟩,h3⟩:=ey (Ip q);rw[h3]at ag lx vj;dsimp only at ag lx vj;obtain⟨⟨U,V⟩,hUV⟩:=ey (Iu ⟨t,0,0⟩ s1 s2)
 have kx:rx=X/2/\ry=Y/2/\rq=Lj (U,V):=by
  unfold Ho at hR;dsimp only at hR;rw[h3,JK]at hR;have hU:Ic (mat t) s1 s2=(U,V):=by rw[<-hUV];unfold Iu;simp
  rw[hU]at hR;simp only[Cl.mk.injEq]at hR;exact⟨hR.1.symm,hR.2.1.symm,hR.2.2.symm⟩
 rw[JK]at sg;rw[hUV]at lx;unfold ptR at sg lx;dsimp only at sg lx;obtain⟨hrx1,hrx2,hrq⟩:=kx;have HX1:=Ah hrx1;have YH:=Ah hrx2;clear hrx1 hrx2;have HRQ:=Ah hrq;have yw:=Ah ag;have EN:=Ah sg;have yh:=Ah lx;have HQ:=Ah hQ;have HT:=Ah hT;clear IA sg lx ag hQ hT hR h3 hm hc GZ JK hUV hrq K5 K7 K8 K9;go_enter Tryz.func173,Tryz.ntmps173;go_upto_region 1 with fail;generalize ((w.alloc _).alloc _).alloc _=W at H⊢;generalize w.heap.size=N at H⊢;obtain⟨P,hP⟩:=ez (N+2);rw[<-hP]at H;rw[show N+1+1=P from hP.symm];have MH:N≠P:=Gu;have DS:N+1≠P:=Gu;clear hP;obtain⟨⟨g0,g1,g2⟩,_⟩:=He (H.b 1);have hr:=yw.out _ (HQ.out.below H.below);have r0:=hr 0 _ rfl;have r1:=hr 1 _ rfl;simp only[De]at r0;clear hr;go_cut [5,6] (λs5 s6 wx=>∃p5 p6,s5= .pointer (Af ⟨p5,0,Ae⟩)/\s6= .pointer (Af ⟨p6,0,Ae⟩)/\Bx w [(N,#[Aa Ac t,x,y],30),(N+1,#[a,b,Aa Ac q],90),(P,#[Aa Ab 0,Aa Ab 0,Aa Ac 0],90),(p5,#[Aa Ab (2*a+1),Aa Ab (2*b+1)],282),(p6,#[s1,s2],282)] wx)
 case first=>
  have ae:Hid (∀W',Below W.heap.size W W'->(λw':Aj=>w'.cell? ⟨N+1,0,Ae⟩=Af (Aa Ab a)/\w'.cell? ⟨N+1,1,Ae⟩=Af (Aa Ab b)/\w'.cell? ⟨N+1,2,Ae⟩=Af (Aa Ac q)/\w'.cell? ⟨1,q*17,Ae⟩=Af (Aa Ab s1)/\w'.cell? ⟨1,q*17+1,Ae⟩=Af (Aa Ab s2)) W'):=Ah λW' h=>⟨Gv h g0,Gv h g1,Gv h g2,Gv h r0,Gv h r1⟩;clear g0 g1 g2 r0 r1 MH DS HQ HT EN yh yw;refine Ao (S:=(λw':Aj=>w'.cell? ⟨N+1,0,Ae⟩=Af (Aa Ab a)/\w'.cell? ⟨N+1,1,Ae⟩=Af (Aa Ab b)/\w'.cell? ⟨N+1,2,Ae⟩=Af (Aa Ac q)/\w'.cell? ⟨1,q*17,Ae⟩=Af (Aa Ab s1)/\w'.cell? ⟨1,q*17+1,Ae⟩=Af (Aa Ab s2))) Gw (ae.out _ (Ag _ _).drew) (λhS=>?_);have hb:Below W.heap.size W W.drew:=(Ag _ _).drew;have H:=H.drew;generalize W.drew=X0 at H hb⊢;have hS:=ae.out _ hb;refine wpAnyH_take (i:=0) (v:=?_) rfl Gw Gw Gw (λ_ _ _ h=>h) (Or.inl ⟨by rfl,?_⟩) hS ?_;rotate_left
  ·intro w0 hSw
   (try dsimp only at hSw)
   go_split_ands;go_simp
   try with_reducible rfl
  try simp only[Act.put,Ce,Cc,Ch,Cf,Cg]
  refine wpAnyH_take (i:=2) (v:=?_) rfl Gw Gw Gw (λ_ _ _ h=>h) (Or.inl ⟨by rfl,?_⟩) hS ?_;rotate_left
  ·intro w0 hSw
   (try dsimp only at hSw)
   go_split_ands;go_simp
   try with_reducible rfl
  try simp only[Act.put,Ce,Cc,Cd,Ch,Cf,Cg]
  refine wpAnyH_take (i:=3) (v:=?_) rfl Gw Gw Gw (λ_ _ _ h=>h) (Or.inl ⟨by rfl,?_⟩) hS ?_;rotate_left
  ·intro w0 hSw
   (try dsimp only at hSw)
   go_split_ands;go_simp
   try with_reducible rfl
  try simp only[Act.put,Ce,Cc,Cd,Ch,Cf,Cg]
  refine wpAnyH_take (i:=4) (v:=?_) rfl Gw Gw Gw (λ_ _ _ h=>h) (Or.inl ⟨by rfl,?_⟩) hS ?_;rotate_left
  ·intro w0 hSw
   (try dsimp only at hSw)
   go_split_ands;go_simp
   try with_reducible rfl
  try simp only[Act.put,Ce,Cc,Cd,Ch,Cf,Cg]
  refine wpAnyH_take (i:=5) (v:=?_) rfl Gw Gw Gw (λ_ _ _ h=>h) (Or.inl ⟨by rfl,?_⟩) hS ?_;rotate_left
  ·intro w0 hSw
   (try dsimp only at hSw)
   go_split_ands;go_simp
   try with_reducible rfl
  try simp only[Act.put,Ce,Cc,Cd,Ch,Cf,Cg]
  refine wpAnyH_take (i:=6) (v:=?_) rfl Gw Gw Gw (λ_ _ _ h=>h) (Or.inl ⟨by rfl,?_⟩) hS ?_;rotate_left
  ·intro w0 hSw
   (try dsimp only at hSw)
   go_split_ands;go_simp
   try with_reducible rfl
  try simp only[Act.put,Ce,Cc,Cd,Ch,Cf,Cg]
  refine Ap (rs:=[1,7,8]) Gw Gx (Aq rfl (λK hK=>?_) (Aq rfl (λK hK=>?_) (Aq rfl (λK hK=>?_) (Ar))))
  ·go_simp;refine(GC.out _).mono ?_;rintro e X1 ⟨rfl,ac⟩;have hb:=hb.trans (ac.mono hb.size);have H:=H.call ac;refine hK.o (ae.out _ hb) (λhS=>?_);clear hK K ac;refine Ap (rs:=[7,8]) Gw Gx (Aq rfl (λK hK=>?_) (Aq rfl (λK hK=>?_) (Ar)))
   ·obtain⟨p5,hp⟩:=ey X1.heap.size;have BQ:W.heap.size<=p5:=hp▸hb.size;have hb:=hb.alloc hb.size (.cells #[Aa Ab 0,Aa Ab 0] 282);have H:=H.new #[Aa Ab 0,Aa Ab 0] 282 hp;have PY:=Ah hp;go_simp;refine hK.o (ae.out _ hb) (λhS=>?_);clear hK K;generalize X1.alloc _=X2 at H hb⊢;clear hp hS PY;have hS:=ae.out _ hb;refine Ap (rs:=[8]) Gw Gx (Aq rfl (λK hK=>?_) (Ar))
    ·obtain⟨p6,hp⟩:=ey X2.heap.size;have BR:W.heap.size<=p6:=hp▸hb.size;have hb:=hb.alloc hb.size (.cells #[Aa Ab 0,Aa Ab 0] 282);have H:=H.new #[Aa Ab 0,Aa Ab 0] 282 hp;have PZ:=Ah hp;go_simp;refine hK.o (ae.out _ hb) (λhS=>?_);clear hK K;generalize X2.alloc _=X3 at H hb⊢;clear hp hS PZ;have hS:=ae.out _ hb;refine Ap (rs:=[9]) Gw Gx (Aq rfl (λK hK=>?_) Ar);obtain⟨⟨y0,y1⟩,z0,z1⟩:=Hn (H.b 3);have hb:=(hb.setCell (p:=⟨p5,0,Ae⟩) BQ (Aa Ab (2*a+1))).setCell (p:=⟨p5,1,Ae⟩) BQ (Aa Ab (2*b+1));have H:=(H.set 3 0 rfl (Aa Ab (2*a+1))).set 3 1 rfl (Aa Ab (2*b+1));go_simp;refine hK.o (ae.out _ hb) (λhS=>?_);clear hK K y0 y1 z0 z1 hS;generalize (X3.setCell _ _).setCell _ _=Y9 at H hb⊢;have hS:=ae.out _ hb;refine Ap (rs:=[10]) Gw Gx (Aq rfl (λK hK=>?_) Ar);obtain⟨⟨y0,y1⟩,z0,z1⟩:=Hn (H.b 4);have hb:=(hb.setCell (p:=⟨p6,0,Ae⟩) BR (Aa Ab (s1))).setCell (p:=⟨p6,1,Ae⟩) BR (Aa Ab (s2));have H:=(H.set 4 0 rfl (Aa Ab (s1))).set 4 1 rfl (Aa Ab (s2));go_simp;refine hK.o (ae.out _ hb) (λhS=>?_);clear hK K y0 y1 z0 z1 hS;generalize (Y9.setCell _ _).setCell _ _=R_ at H hb⊢;have hS:=ae.out _ hb;refine An Gw ?_ _;go_wp2;go_meet;exact⟨_,_,rfl,rfl,H⟩
   ·obtain⟨p6,hp⟩:=ey X1.heap.size;have BR:W.heap.size<=p6:=hp▸hb.size;have hb:=hb.alloc hb.size (.cells #[Aa Ab 0,Aa Ab 0] 282);have H:=H.new #[Aa Ab 0,Aa Ab 0] 282 hp;have PZ:=Ah hp;go_simp;refine hK.o (ae.out _ hb) (λhS=>?_);clear hK K;generalize X1.alloc _=X2 at H hb⊢;clear hp hS PZ;have hS:=ae.out _ hb;refine Ap (rs:=[7]) Gw Gx (Aq rfl (λK hK=>?_) (Ar))
    ·obtain⟨p5,hp⟩:=ey X2.heap.size;have BQ:W.heap.size<=p5:=hp▸hb.size;have hb:=hb.alloc hb.size (.cells #[Aa Ab 0,Aa Ab 0] 282);have H:=H.new #[Aa Ab 0,Aa Ab 0] 282 hp;have PY:=Ah hp;go_simp;refine hK.o (ae.out _ hb) (λhS=>?_);clear hK K;generalize X2.alloc _=X3 at H hb⊢;clear hp hS PY;have hS:=ae.out _ hb;refine Ap (rs:=[9]) Gw Gx (Aq rfl (λK hK=>?_) Ar);obtain⟨⟨y0,y1⟩,z0,z1⟩:=Hn (H.b 4);have hb:=(hb.setCell (p:=⟨p5,0,Ae⟩) BQ (Aa Ab (2*a+1))).setCell (p:=⟨p5,1,Ae⟩) BQ (Aa Ab (2*b+1));have H:=(H.set 4 0 rfl (Aa Ab (2*a+1))).set 4 1 rfl (Aa Ab (2*b+1));go_simp;refine hK.o (ae.out _ hb) (λhS=>?_);clear hK K y0 y1 z0 z1 hS;generalize (X3.setCell _ _).setCell _ _=Y9 at H hb⊢;have hS:=ae.out _ hb;refine Ap (rs:=[10]) Gw Gx (Aq rfl (λK hK=>?_) Ar);obtain⟨⟨y0,y1⟩,z0,z1⟩:=Hn (H.b 3);have hb:=(hb.setCell (p:=⟨p6,0,Ae⟩) BR (Aa Ab (s1))).setCell (p:=⟨p6,1,Ae⟩) BR (Aa Ab (s2));have H:=(H.set 3 0 rfl (Aa Ab (s1))).set 3 1 rfl (Aa Ab (s2));go_simp;refine hK.o (ae.out _ hb) (λhS=>?_);clear hK K y0 y1 z0 z1 hS;generalize (Y9.setCell _ _).setCell _ _=R_ at H hb⊢;have hS:=ae.out _ hb;refine An Gw ?_ _;go_wp2;go_meet;exact⟨_,_,rfl,rfl,H.perm (.cons _ (.cons _ (.cons _ (.swap _ _ _))))⟩
  ·obtain⟨p5,hp⟩:=ey X0.heap.size;have BQ:W.heap.size<=p5:=hp▸hb.size;have hb:=hb.alloc hb.size (.cells #[Aa Ab 0,Aa Ab 0] 282);have H:=H.new #[Aa Ab 0,Aa Ab 0] 282 hp;have PY:=Ah hp;go_simp;refine hK.o (ae.out _ hb) (λhS=>?_);clear hK K;generalize X0.alloc _=X1 at H hb⊢;clear hp hS PY;have hS:=ae.out _ hb;refine Ap (rs:=[1,8]) Gw Gx (Aq rfl (λK hK=>?_) (Aq rfl (λK hK=>?_) (Ar)))
   ·go_simp;refine(GC.out _).mono ?_;rintro e X2 ⟨rfl,ac⟩;have hb:=hb.trans (ac.mono hb.size);have H:=H.call ac;refine hK.o (ae.out _ hb) (λhS=>?_);clear hK K ac;refine Ap (rs:=[8]) Gw Gx (Aq rfl (λK hK=>?_) (Ar))
    ·obtain⟨p6,hp⟩:=ey X2.heap.size;have BR:W.heap.size<=p6:=hp▸hb.size;have hb:=hb.alloc hb.size (.cells #[Aa Ab 0,Aa Ab 0] 282);have H:=H.new #[Aa Ab 0,Aa Ab 0] 282 hp;have PZ:=Ah hp;go_simp;refine hK.o (ae.out _ hb) (λhS=>?_);clear hK K;generalize X2.alloc _=X3 at H hb⊢;clear hp hS PZ;have hS:=ae.out _ hb;refine Ap (rs:=[9]) Gw Gx (Aq rfl (λK hK=>?_) Ar);obtain⟨⟨y0,y1⟩,z0,z1⟩:=Hn (H.b 3);have hb:=(hb.setCell (p:=⟨p5,0,Ae⟩) BQ (Aa Ab (2*a+1))).setCell (p:=⟨p5,1,Ae⟩) BQ (Aa Ab (2*b+1));have H:=(H.set 3 0 rfl (Aa Ab (2*a+1))).set 3 1 rfl (Aa Ab (2*b+1));go_simp;refine hK.o (ae.out _ hb) (λhS=>?_);clear hK K y0 y1 z0 z1 hS;generalize (X3.setCell _ _).setCell _ _=Y9 at H hb⊢;have hS:=ae.out _ hb;refine Ap (rs:=[10]) Gw Gx (Aq rfl (λK hK=>?_) Ar);obtain⟨⟨y0,y1⟩,z0,z1⟩:=Hn (H.b 4);have hb:=(hb.setCell (p:=⟨p6,0,Ae⟩) BR (Aa Ab (s1))).setCell (p:=⟨p6,1,Ae⟩) BR (Aa Ab (s2));have H:=(H.set 4 0 rfl (Aa Ab (s1))).set 4 1 rfl (Aa Ab (s2));go_simp;refine hK.o (ae.out _ hb) (λhS=>?_);clear hK K y0 y1 z0 z1 hS;generalize (Y9.setCell _ _).setCell _ _=R_ at H hb⊢;have hS:=ae.out _ hb;refine An Gw ?_ _;go_wp2;go_meet;exact⟨_,_,rfl,rfl,H⟩
   ·obtain⟨p6,hp⟩:=ey X1.heap.size;have BR:W.heap.size<=p6:=hp▸hb.size;have hb:=hb.alloc hb.size (.cells #[Aa Ab 0,Aa Ab 0] 282);have H:=H.new #[Aa Ab 0,Aa Ab 0] 282 hp;have PZ:=Ah hp;go_simp;refine hK.o (ae.out _ hb) (λhS=>?_);clear hK K;generalize X1.alloc _=X2 at H hb⊢;clear hp hS PZ;have hS:=ae.out _ hb;refine Ap (rs:=[1]) Gw Gx (Aq rfl (λK hK=>?_) (Ar))
    ·go_simp;refine(GC.out _).mono ?_;rintro e X3 ⟨rfl,ac⟩;have hb:=hb.trans (ac.mono hb.size);have H:=H.call ac;refine hK.o (ae.out _ hb) (λhS=>?_);clear hK K ac;refine Ap (rs:=[9]) Gw Gx (Aq rfl (λK hK=>?_) Ar);obtain⟨⟨y0,y1⟩,z0,z1⟩:=Hn (H.b 3);have hb:=(hb.setCell (p:=⟨p5,0,Ae⟩) BQ (Aa Ab (2*a+1))).setCell (p:=⟨p5,1,Ae⟩) BQ (Aa Ab (2*b+1));have H:=(H.set 3 0 rfl (Aa Ab (2*a+1))).set 3 1 rfl (Aa Ab (2*b+1));go_simp;refine hK.o (ae.out _ hb) (λhS=>?_);clear hK K y0 y1 z0 z1 hS;generalize (X3.setCell _ _).setCell _ _=Y9 at H hb⊢;have hS:=ae.out _ hb;refine Ap (rs:=[10]) Gw Gx (Aq rfl (λK hK=>?_) Ar);obtain⟨⟨y0,y1⟩,z0,z1⟩:=Hn (H.b 4);have hb:=(hb.setCell (p:=⟨p6,0,Ae⟩) BR (Aa Ab (s1))).setCell (p:=⟨p6,1,Ae⟩) BR (Aa Ab (s2));have H:=(H.set 4 0 rfl (Aa Ab (s1))).set 4 1 rfl (Aa Ab (s2));go_simp;refine hK.o (ae.out _ hb) (λhS=>?_);clear hK K y0 y1 z0 z1 hS;generalize (Y9.setCell _ _).setCell _ _=R_ at H hb⊢;have hS:=ae.out _ hb;refine An Gw ?_ _;go_wp2;go_meet;exact⟨_,_,rfl,rfl,H⟩
  ·obtain⟨p6,hp⟩:=ey X0.heap.size;have BR:W.heap.size<=p6:=hp▸hb.size;have hb:=hb.alloc hb.size (.cells #[Aa Ab 0,Aa Ab 0] 282);have H:=H.new #[Aa Ab 0,Aa Ab 0] 282 hp;have PZ:=Ah hp;go_simp;refine hK.o (ae.out _ hb) (λhS=>?_);clear hK K;generalize X0.alloc _=X1 at H hb⊢;clear hp hS PZ;have hS:=ae.out _ hb;refine Ap (rs:=[1,7]) Gw Gx (Aq rfl (λK hK=>?_) (Aq rfl (λK hK=>?_) (Ar)))
   ·go_simp;refine(GC.out _).mono ?_;rintro e X2 ⟨rfl,ac⟩;have hb:=hb.trans (ac.mono hb.size);have H:=H.call ac;refine hK.o (ae.out _ hb) (λhS=>?_);clear hK K ac;refine Ap (rs:=[7]) Gw Gx (Aq rfl (λK hK=>?_) (Ar))
    ·obtain⟨p5,hp⟩:=ey X2.heap.size;have BQ:W.heap.size<=p5:=hp▸hb.size;have hb:=hb.alloc hb.size (.cells #[Aa Ab 0,Aa Ab 0] 282);have H:=H.new #[Aa Ab 0,Aa Ab 0] 282 hp;have PY:=Ah hp;go_simp;refine hK.o (ae.out _ hb) (λhS=>?_);clear hK K;generalize X2.alloc _=X3 at H hb⊢;clear hp hS PY;have hS:=ae.out _ hb;refine Ap (rs:=[9]) Gw Gx (Aq rfl (λK hK=>?_) Ar);obtain⟨⟨y0,y1⟩,z0,z1⟩:=Hn (H.b 4);have hb:=(hb.setCell (p:=⟨p5,0,Ae⟩) BQ (Aa Ab (2*a+1))).setCell (p:=⟨p5,1,Ae⟩) BQ (Aa Ab (2*b+1));have H:=(H.set 4 0 rfl (Aa Ab (2*a+1))).set 4 1 rfl (Aa Ab (2*b+1));go_simp;refine hK.o (ae.out _ hb) (λhS=>?_);clear hK K y0 y1 z0 z1 hS;generalize (X3.setCell _ _).setCell _ _=Y9 at H hb⊢;have hS:=ae.out _ hb;refine Ap (rs:=[10]) Gw Gx (Aq rfl (λK hK=>?_) Ar);obtain⟨⟨y0,y1⟩,z0,z1⟩:=Hn (H.b 3);have hb:=(hb.setCell (p:=⟨p6,0,Ae⟩) BR (Aa Ab (s1))).setCell (p:=⟨p6,1,Ae⟩) BR (Aa Ab (s2));have H:=(H.set 3 0 rfl (Aa Ab (s1))).set 3 1 rfl (Aa Ab (s2));go_simp;refine hK.o (ae.out _ hb) (λhS=>?_);clear hK K y0 y1 z0 z1 hS;generalize (Y9.setCell _ _).setCell _ _=R_ at H hb⊢;have hS:=ae.out _ hb;refine An Gw ?_ _;go_wp2;go_meet;exact⟨_,_,rfl,rfl,H.perm (.cons _ (.cons _ (.cons _ (.swap _ _ _))))⟩
   ·obtain⟨p5,hp⟩:=ey X1.heap.size;have BQ:W.heap.size<=p5:=hp▸hb.size;have hb:=hb.alloc hb.size (.cells #[Aa Ab 0,Aa Ab 0] 282);have H:=H.new #[Aa Ab 0,Aa Ab 0] 282 hp;have PY:=Ah hp;go_simp;refine hK.o (ae.out _ hb) (λhS=>?_);clear hK K;generalize X1.alloc _=X2 at H hb⊢;clear hp hS PY;have hS:=ae.out _ hb;refine Ap (rs:=[1]) Gw Gx (Aq rfl (λK hK=>?_) (Ar))
    ·go_simp;refine(GC.out _).mono ?_;rintro e X3 ⟨rfl,ac⟩;have hb:=hb.trans (ac.mono hb.size);have H:=H.call ac;refine hK.o (ae.out _ hb) (λhS=>?_);clear hK K ac;refine Ap (rs:=[9]) Gw Gx (Aq rfl (λK hK=>?_) Ar);obtain⟨⟨y0,y1⟩,z0,z1⟩:=Hn (H.b 4);have hb:=(hb.setCell (p:=⟨p5,0,Ae⟩) BQ (Aa Ab (2*a+1))).setCell (p:=⟨p5,1,Ae⟩) BQ (Aa Ab (2*b+1));have H:=(H.set 4 0 rfl (Aa Ab (2*a+1))).set 4 1 rfl (Aa Ab (2*b+1));go_simp;refine hK.o (ae.out _ hb) (λhS=>?_);clear hK K y0 y1 z0 z1 hS;generalize (X3.setCell _ _).setCell _ _=Y9 at H hb⊢;have hS:=ae.out _ hb;refine Ap (rs:=[10]) Gw Gx (Aq rfl (λK hK=>?_) Ar);obtain⟨⟨y0,y1⟩,z0,z1⟩:=Hn (H.b 3);have hb:=(hb.setCell (p:=⟨p6,0,Ae⟩) BR (Aa Ab (s1))).setCell (p:=⟨p6,1,Ae⟩) BR (Aa Ab (s2));have H:=(H.set 3 0 rfl (Aa Ab (s1))).set 3 1 rfl (Aa Ab (s2));go_simp;refine hK.o (ae.out _ hb) (λhS=>?_);clear hK K y0 y1 z0 z1 hS;generalize (Y9.setCell _ _).setCell _ _=R_ at H hb⊢;have hS:=ae.out _ hb;refine An Gw ?_ _;go_wp2;go_meet;exact⟨_,_,rfl,rfl,H.perm (.cons _ (.cons _ (.cons _ (.swap _ _ _))))⟩
 obtain⟨p5,p6,rfl,rfl,H⟩:=hcut;clear MH DS g0 g1 g2 r0 r1;obtain⟨⟨f0,f1,f2⟩,_⟩:=He (H.b 0);obtain⟨⟨e0,e1⟩,y0,y1⟩:=Hn (H.b 3);have UD:=HT.out.below H.below;go_wp2_with fail;refine(EN.out _ UD).mono ?_;rintro e w2 ⟨rfl,hb⟩;have H2:=H.call hb;clear f0 f1 f2 e0 e1 y0 y1 hb H UD;obtain⟨⟨f0,f1,f2⟩,u0,u1,u2⟩:=He (H2.b 0);obtain⟨⟨e0,e1⟩,y0,y1⟩:=Hn (H2.b 3);have nb1:N≠p5:=H2.ne 0 3 Gu rfl rfl;go_upto_region 3 with fail;have H3:=(H2.set 3 0 rfl (Aa Ab X)).set 3 1 rfl (Aa Ab Y);generalize (w2.setCell _ _).setCell _ _=W3 at H3⊢;clear f0 f1 f2 u0 u1 u2 e0 e1 y0 y1 H2;obtain⟨⟨f0,f1,f2⟩,u0,u1,u2⟩:=He (H3.b 0);go_upto_region 4 with fail;have H4:=(H3.set 0 1 rfl (Aa Ab 0)).set 0 2 rfl (Aa Ab 0);generalize (W3.setCell _ _).setCell _ _=W4 at H4⊢;clear f0 f1 f2 u0 u1 u2 H3;obtain⟨⟨f0,f1,f2⟩,_⟩:=He (H4.b 0);obtain⟨⟨e0,e1⟩,y0,y1⟩:=Hn (H4.b 4);have UE:=HT.out.below H4.below;go_wp2_with fail;refine(yh.out _ UE).mono ?_;rintro e w5 ⟨rfl,hb⟩;have H5:=H4.call hb;clear f0 f1 f2 e0 e1 y0 y1 hb H4 UE;obtain⟨⟨e0,e1⟩,y0,y1⟩:=Hn (H5.b 4);go_upto_region 5 with fail;have H6:=(H5.set 4 0 rfl (Aa Ab U)).set 4 1 rfl (Aa Ab V);generalize (w5.setCell _ _).setCell _ _=W6 at H6⊢;clear e0 e1 y0 y1 H5;obtain⟨⟨e0,e1⟩,_⟩:=Hn (H6.b 3);have a1:=bR X;have a2:=bR Y;have k1:Ab.wrap (X-X%2)=X-X%2:=Ca _ Gu;have k2:Ab.wrap (Y-Y%2)=Y-Y%2:=Ca _ Gu;have k3:Ab.wrap ((X-X%2).tdiv 2)=rx:=by rw[HX1.out,show X-X%2=2*(X/2)by omega,Int.mul_tdiv_cancel_left _ Ha];exact Ca _ Gu
 have k4:Ab.wrap ((Y-Y%2).tdiv 2)=ry:=by rw[YH.out,show Y-Y%2=2*(Y/2)by omega,Int.mul_tdiv_cancel_left _ Ha];exact Ca _ Gu
 go_upto_region 6 with fail;clear a1 a2 k1 k2 k3 k4 e0 e1;have H7:=H6.new #[rx,ry,Aa Ac 0] 90 rfl;generalize W6.heap.size=p7 at H7⊢;generalize W6.alloc _=W7 at H7⊢;clear H6;have hr:=(HQ.out.below H7.below).at'
 repeat' (go_not_at_region 7;first
  |refine wpList_load_mid rfl 301 (.global 1) rfl 1 0 rfl _ _ hr Tryz.underlying301 rfl Gw ?_
  |go_step)
 clear hr
 go_loopw [47] (λi wr=>∃k:Nat,k<=4/\i= Aa Ab k/\Bx w [(N,#[Aa Ac t,Aa Ab 0,Aa Ab 0],30),(N+1,#[a,b,Aa Ac q],90),(P,#[Aa Ab 0,Aa Ab 0,Aa Ac 0],90),(p5,#[X,Y],282),(p6,#[U,V],282),(p7,#[rx,ry,Aa Ac (sqN (U,V) k)],90)] wr) (λi _=>4-(intOf i).toNat)
 case atStart=>exact⟨0,Gu,rfl,H7⟩
 obtain⟨k,hk,rfl,Hr⟩:=hrel;obtain⟨S,hS⟩:=ey (sqN (U,V) k);have HS:=Ah hS;rw[hS]at Hr;clear hS;by_cases ad:k<4
 ·have q2:(k:Int)<4:=Gu;have zm:=λw=>vE k ad w;unfold Ra Ov at zm;obtain⟨⟨d1,d2⟩,hd⟩:=ey (Ip k);obtain⟨e3,h3⟩:=ey (qln k);obtain⟨e4,h4⟩:=ey (qby k);obtain⟨⟨n1,n2,n3⟩,h6⟩:=ey (nxt k 0);obtain⟨⟨n4,n5,n6⟩,h7⟩:=ey (nxt k 1);obtain⟨⟨n7,n8,n9⟩,h8⟩:=ey (nxt k 2);obtain⟨⟨u1,u2⟩,h1⟩:=ey (Ue k);obtain⟨⟨v1,v2⟩,h2⟩:=ey (Uf k);rw[hd,h3,h4,h6,h7,h8,h1,h2]at zm;dsimp only at zm;have HD:=Ah hd
  have kw:IntKind.u8.wrap (k:Int)=k:=by
   have:k=0∨k=1∨k=2∨k=3:=Gu;rcases this with rfl|rfl|rfl|rfl<;>rfl
  clear hd h3 h4 h6 h7 h8 h1 h2;go_upto_region 8 with fail
  repeat' (go_not_at_region 9;first
   |refine Pm rfl 300 (.tmp 9) (.tmp 50) rfl _ _ rfl rfl Gw rfl rfl ?_
   |go_step)
  clear zm;obtain⟨p9,hp9⟩:=ey wr.heap.size;rw[hp9];have H9:=Hr.new #[d1,d2,Aa Ac e3,e4,n1,n2,Aa Ac n3,n4,n5,Aa Ac n6,n7,n8,Aa Ac n9,u1,u2,v1,v2] 300 hp9;obtain⟨W9,QX⟩:=ez (wr.alloc (.cells #[d1,d2,Aa Ac e3,e4,n1,n2,Aa Ac n3,n4,n5,Aa Ac n6,n7,n8,Aa Ac n9,u1,u2,v1,v2] 300));rw[<-QX]at H9;change Code.wp _ _ _ _ (wr.alloc (.cells #[d1,d2,Aa Ac e3,e4,n1,n2,Aa Ac n3,n4,n5,Aa Ac n6,n7,n8,Aa Ac n9,u1,u2,v1,v2] 300));rw[<-QX];have jd:=H9.range 6 rfl;have r0:=jd 0 _ rfl;have r1:=jd 1 _ rfl;simp only[Bt]at r0 r1;clear jd hp9 QX Hr;obtain⟨⟨e0,e1⟩,_⟩:=Hn (H9.b 4);obtain⟨⟨f0,f1,f2⟩,g0,g1,g2⟩:=He (H9.b 5);have ft:sqN (U,V) (k+1)=if Ip k=(U,V)then k else sqN (U,V) k:=rfl;by_cases uh:d1=U/\d2=V
  ·obtain⟨rfl,rfl⟩:=uh;have HN:Hid (sqN (d1,d2) (k+1)=k):=Ah (by rw[ft,HD.out,Hd rfl]);clear ft;go_wp2;exact⟨⟨k+1,Gu,by go_num,by rw[HN.out];exact(H9.set 5 2 rfl (Aa Ac k)).upto 6⟩,by simp[intOf];omega⟩
  ·have HN:Hid (sqN (U,V) (k+1)=S):=Ah (by rw[ft,HD.out,Gz (λh=>uh (by injection h with h1 h2;exact⟨h1,h2⟩)),HS.out]);clear ft;go_wp2_with fail
   all_goals first
    |exact absurd ⟨rfl,rfl⟩ uh
    |exact absurd ⟨by assumption,by assumption⟩ uh
    |exact⟨⟨k+1,Gu,by go_num,by rw[HN.out];exact H9.upto 6⟩,by simp[intOf];omega⟩
 ·have hk4:k=4:=Gu;subst hk4;obtain⟨⟨f0,f1,f2⟩,_⟩:=He (Hr.b 5);obtain⟨⟨c0,c1',P4⟩,z0,z1,z2⟩:=He (Hr.b 2);have HF:Hid (S=rq):=Ah (by rw[<-HS.out,Cc3,HRQ.out]);go_wp2_with fail;have H8:=((Hr.set 2 0 rfl (Aa Ab rx)).set 2 1 rfl (Aa Ab ry)).set 2 2 rfl (Aa Ac S);exact Ai (Mm rfl rfl (H8.range 2 rfl) Tryz.underlying90 rfl Gw) rfl ⟨by rw[HF.out];rfl,H8.below⟩
theorem lE:wX:=λm c w hm hc hQ hT=>Av1 m c w hm hc hQ hT
structure jP {κ:Type} [DecidableEq κ] (kt:Cj) (K:κ->Ak):Prop where
 now:∃d,Tryz.prog.underlying kt=Af d/\∀p q,Instr.sameNow d (K p) (K q)=Ae
 eq:∀p q w,(Op.equal kt (K p) (K q)).run Do w= .ok (decide (p=q)) w
 check:∀b p w,(Instr.checkKey b 10000 kt (K p)).run Do w= .ok () w
 bits:∀p,Instr.sameBits 10000 (K p) (K p)=true
section
variable {κ:Type} [DecidableEq κ] {kt:Cj} {K:κ->Ak}
def Qj (p:κ):List (κ×Ak)->Nat->Option (Nat×Ak)
 |[],_=>Ae
 |q::l,n=>if p=q.1 then Af (n,q.2)else Qj p l (n+1)
def Of (p:κ) (l:List (κ×Ak)):Option Ak:=(Qj p l 0).map (·.2)
def Ro (p:κ) (v:Ak) (l:List (κ×Ak)):List (κ×Ak):=match Qj p l 0 with
 |some (i,_)=>l.set i (p,v)
 |none=>l++[(p,v)]
def Km (K:κ->Ak) (w:Aj) (M:Nat) (l:List (κ×Ak)):Prop:=
 ∃es clock,w.heap[M]? =Af (.map es clock)/\es.toList.map (λe=>(e.key,e.val))=l.map λq=>(K q.1,q.2)
theorem nJ (h:jP kt K) (p:κ) (w:Aj):∀(es:List MapEntry) (l:List (κ×Ak)) (n:Nat),es.map (λe=>(e.key,e.val))=(l.map λq=>(K q.1,q.2))->
  (Instr.findAsking kt (K p) es n).run Do w= .ok (Qj p l n) w
 |[],[],n,_=>by simp[Instr.findAsking,Qj]
 |[],q::l,n,he=>by simp at he
 |e::es,[],n,he=>by simp at he
 |e::es,q::l,n,he=>by
  simp only[List.map_cons,List.cons.injEq,Prod.mk.injEq]at he;obtain⟨⟨h1,h2⟩,h3⟩:=he;by_cases MR:p=q.1
  ·simp[Instr.findAsking,Qj,h1,h.eq,MR,h2]
  ·simp[Instr.findAsking,Qj,h1,h.eq,MR,nJ h p w es l (n+1) h3]
theorem bY (h:jP kt K) (p:κ) (w:Aj) (es:List MapEntry) (l:List (κ×Ak)) (he:es.map (λe=>(e.key,e.val))=l.map λq=>(K q.1,q.2)):
  (Instr.findKey kt (K p) es).run Do w= .ok (Qj p l 0) w:=by
 obtain⟨d,hd,hn⟩:=h.now
 cases es with
 |nil=>
  cases l with
  |nil=>simp[Instr.findKey,run_underlying hd,Instr.findNow,Qj]
  |cons q l=>simp at he
 |cons e r=>
  cases l with
  |nil=>simp at he
  |cons q l=>
   have h1:e.key=K q.1:=by simp at he;exact he.1.1
   have hr:(Instr.findKey kt (K p) (e::r)).run Do w=(Instr.findAsking kt (K p) (e::r) 0).run Do w:=by
    simp[Instr.findKey,run_underlying hd,Instr.findNow,h1,hn]
   rw[hr,nJ h p w _ _ 0 he]
theorem Wf (h:jP kt K) {mt et:Cj} (hm:Tryz.prog.underlying mt=Af (.map kt et)) {z:Ak} (hz:∀w,(zeroValue et).run Do w= .ok z w) {w:Aj} {M:Nat} {l:List (κ×Ak)} (hM:Km K w M l) (p:κ) (ok:Bool):
  (Instr.lookup mt (.map (Af M)) (K p) ok).run Do w= .ok (if ok then .tuple #[(Of p l).getD z,.bool (Of p l).isSome]else (Of p l).getD z) w:=by
 obtain⟨es,clock,hb,he⟩:=hM;have MJ:(getObj M).run Do w= .ok (.map es clock) w:=by simp[getObj,Sem.run,hb]
 have lq:=h.check es.isEmpty p w;have hf:=bY h p w es.toList l he;unfold Of
 cases hi:Qj p l 0 with
 |none=>
  rw[hi]at hf;simp only[Instr.lookup,Gq,run_underlying hm,Fo,MJ,Sem.run_pure,lq,hf,hz];rfl
 |some r=>
  rw[hi]at hf;simp only[Instr.lookup,Gq,run_underlying hm,Fo,MJ,Sem.run_pure,lq,hf];rfl
theorem Av2 (h:jP kt K) {mt et:Cj} (hm:Tryz.prog.underlying mt=Af (.map kt et)) {w:Aj} {M:Nat} {l:List (κ×Ak)} (hM:Km K w M l) (p:κ) (v:Ak):
  ∃w',(Instr.mapUpdate mt (.map (Af M)) (K p) v).run Do w= .ok () w'/\Km K w' M (Ro p v l)/\w.grownBy w' (Af M):=by
 obtain⟨es,clock,hb,he⟩:=hM;have ad:M<w.heap.size:=(Au.1 hb).1;have MJ:(getObj M).run Do w= .ok (.map es clock) w:=by simp[getObj,Sem.run,hb]
 have dj:∀o,(setObj M o).run Do w= .ok () {w with heap:=w.heap.setIfInBounds M o}:=by intro o;simp[setObj,Sem.run,hb]
 have lq:=h.check false p w
 have fj:∀o,w.grownBy {w with heap:=w.heap.setIfInBounds M o} (Af M):=λo=>⟨rfl,rfl,rfl,Gx,λi _ hi=>by
  have:M≠i:=λe=>hi (by rw[e]);simp[this]⟩
 have hf:=bY h p w es.toList l he
 have C6:∀(l:List (κ×Ak)) (n i:Nat) (v:Ak),Qj p l n=Af (i,v)->n<=i/\∃q,l[i-n]? =Af q/\q.1=p:=by
  intro l
  induction l with
  |nil=>intro n i v hh;simp[Qj]at hh
  |cons q l ih=>
   intro n i v hh;unfold Qj at hh;by_cases MR:p=q.1
   ·rw[Hd MR]at hh;injection hh with hh;injection hh with h1 h2;subst h1;exact⟨Am _,q,Gx,MR.symm⟩
   ·rw[Gz MR]at hh;obtain⟨h1,q',h2,h3⟩:=ih (n+1) i v hh;refine⟨Gu,q',?_,h3⟩;have e:i-n=(i-(n+1))+1:=Gu;rw[e,Cw];exact h2
 unfold Ro
 cases hi:Qj p l 0 with
 |none=>
  rw[hi]at hf;refine⟨{w with heap:=w.heap.setIfInBounds M (.map (es.push {key:=K p,val:=v,born:=clock}) (clock+1))},?_,⟨es.push {key:=K p,val:=v,born:=clock},clock+1,by simp[ad],?_⟩,fj _⟩
  ·simp only[Instr.mapUpdate,Gq,run_underlying hm,Fo,MJ,lq,hf,dj]
  ·simp[he]
 |some r=>
  obtain⟨i,u⟩:=r;rw[hi]at hf;obtain⟨_,q,hq,hqp⟩:=C6 l 0 i u hi;rw[Nat.sub_zero]at hq
  have hei:∃e,es[i]? =Af e/\e.key=K p:=by
   have h1:(es.toList.map (λe=>(e.key,e.val)))[i]? =(l.map λq=>(K q.1,q.2))[i]? :=by rw[he]
   rw[Fq,Fq,hq]at h1;simp only[Option.map_some,Array.getElem?_toList]at h1
   cases RF:es[i]? with
   |none=>rw[RF]at h1;simp at h1
   |some e=>
    rw[RF]at h1;simp at h1;exact⟨e,rfl,by rw[h1.1,hqp]⟩
  obtain⟨e,yk,hk⟩:=hei;have br:(Instr.keyThatStays (K p) (K p)).run Do w= .ok (K p) w:=by simp[Instr.keyThatStays,h.bits p]
  refine⟨{w with heap:=w.heap.setIfInBounds M (.map (es.modify i λe=>{e with key:=K p,val:=v}) clock)},?_,⟨es.modify i λe=>{e with key:=K p,val:=v},clock,by simp[ad],?_⟩,fj _⟩
  ·simp only[Instr.mapUpdate,Gq,run_underlying hm,Fo,MJ,lq,hf,dj,yk,Option.map_some,Option.getD_some,hk,br]
  ·apply List.ext_getElem?;intro k;have vc:(es.toList.map (λe=>(e.key,e.val)))[k]? =(l.map λq=>(K q.1,q.2))[k]? :=by rw[he]
   rw[Fq,Fq]at vc⊢;rw[Array.toList_modify,List.getElem?_modify,List.getElem?_set];have bv:i<l.length:=(Ax.1 hq).1;by_cases xt:i=k
   ·subst xt;have RF:es.toList[i]? =Af e:=by simpa using yk
    simp[RF,bv]
   ·simp only[xt,if_false];simpa using vc
theorem Vv (hk:jP kt K) {mt et:Cj} (tg:Tryz.prog.underlying mt=Af (.map kt et)) {z:Ak} (hz:∀w,(zeroValue et).run Do w= .ok z w) (w:Aj) {ops:Array Oper} {rest:List Oper} {o:Oper} {a:Act} {Q:Exit->Act->Aj->Prop}
  (hg:o.guard=Ae) (m x:Operand) (ok:Bool) (hop:o.op=Op.lookup mt m x ok) (M:Nat) (l:List (κ×Ak)) (p:κ) (hm:a.eval m= .map (Af M)) (hx:a.eval x=K p) (h:Km K w M l)
  (hK:wpList Do ops Q rest (a.put o.dst (if ok then .tuple #[(Of p l).getD z,.bool (Of p l).isSome]else (Of p l).getD z)) w):
  wpList Do ops Q (o::rest) a w:=by
 refine wpList_plain hg λK' hK'=>?_;have ah:=Wf hk tg hz h p ok;unfold Oper.wp;simp only[execOp,hop,hm,hx,ah,Gq,Fo];exact hK' _ _ hK
theorem Sl (hk:jP kt K) {mt et:Cj} (tg:Tryz.prog.underlying mt=Af (.map kt et)) (w:Aj) {ops:Array Oper} {rest:List Oper} {o:Oper} {a:Act} {Q:Exit->Act->Aj->Prop}
  (hg:o.guard=Ae) (m x v:Operand) (hop:o.op=Op.mapUpdate mt m x v) (M:Nat) (l:List (κ×Ak)) (p:κ) (u:Ak) (hm:a.eval m= .map (Af M)) (hx:a.eval x=K p) (hv:a.eval v=u) (h:Km K w M l)
  (hK:∀w',Km K w' M (Ro p u l)->w.grownBy w' (Af M)->wpList Do ops Q rest (a.put o.dst undef) w'):
  wpList Do ops Q (o::rest) a w:=by
 refine wpList_plain hg λK' hK'=>?_;obtain⟨w',ah,h1,h2⟩:=Av2 hk tg h p u;unfold Oper.wp;simp only[execOp,hop,hm,hx,hv,ah,Gq,Fo];exact hK' _ _ (hK w' h1 h2)
end
theorem Km.kept {κ:Type} {K:κ->Ak} {w w':Aj} {M:Nat} {l:List (κ×Ak)} {row:Option Nat} (h:Km K w M l) (hg:w.grownBy w' row) (hne:Af M≠row):Km K w' M l:=by
 obtain⟨es,clock,hb,RF⟩:=h;exact⟨es,clock,(hg.block M (Au.1 hb).1 hne).trans hb,RF⟩
theorem Km.below {κ:Type} {K:κ->Ak} {w w':Aj} {M N:Nat} {l:List (κ×Ak)} (h:Km K w M l) (hb:Below N w w') (hN:M<N):Km K w' M l:=by
 obtain⟨es,clock,hm,RF⟩:=h;exact⟨es,clock,_root_.Go.Proofs.YtlgkpdfieaadaaaGreatDoor.kept hb hm hN,RF⟩
theorem Km.lt {κ:Type} {K:κ->Ak} {w:Aj} {M:Nat} {l:List (κ×Ak)} (h:Km K w M l):M<w.heap.size:=by
 obtain⟨es,clock,hm,RF⟩:=h;exact(Au.1 hm).1
theorem Wg {κ:Type} (K:κ->Ak) (w:Aj):Km K (w.alloc (.map #[] 0)) w.heap.size []:=⟨#[],0,Bz w _,Gx⟩
def unK (u:Int×Int):Ak:= .agg #[Aa Ab u.1,Aa Ac u.2]
theorem Ca1:Tryz.prog.underlying 3=Af (.int .i64):=Gw
theorem Cd9:Tryz.prog.underlying 5=Af (.int .u8):=Gw
theorem Al4:Tryz.prog.stoodInHeld 194=false:=Gw
theorem Bo0 (a b:Int) (w:Aj):(part 3 #[Value.int .i64 a,Aa Ac b] 0).run Do w= .ok (Aa Ab a) w:=Gw
theorem Bo1 (a b:Int) (w:Aj):(part 5 #[Value.int .i64 a,Aa Ac b] 1).run Do w= .ok (Aa Ac b) w:=Gw
theorem oR (d:Nat) (a b:Int) (w:Aj):(Gr (d+1) 3 (Aa Ab a) (Aa Ab b)).run Do w= .ok (a==b) w:=by
 simp[Gr,run_underlying Ca1]
theorem yD (d:Nat) (a b:Int) (w:Aj):(Gr (d+1) 5 (Aa Ac a) (Aa Ac b)).run Do w= .ok (a==b) w:=by
 simp[Gr,run_underlying Cd9]
theorem wO (p q:Int×Int) (w:Aj):(Op.equal 194 (unK p) (unK q)).run Do w= .ok (decide (p=q)) w:=by
 obtain⟨a,b⟩:=p;obtain⟨a',b'⟩:=q
 have h:∀n,(Gr (n+1+1) 194 (unK (a,b)) (unK (a',b'))).run Do w= .ok (decide ((a,b)=(a',b'))) w:=by
  intro n;unfold Gr;simp only[Gq,run_underlying Tryz.underlying194,Fo,unK,run_program,Al4,Ej,if_false];simp[Bo0,Bo1,oR,yD];by_cases h0:a=a'<;>by_cases h1:b=b'<;>simp[h0,h1]
 exact h 9998
theorem Tq:jP (κ:=Int×Int) 194 unK where
 now:=⟨_,Tryz.underlying194,λp q=>rfl⟩
 eq:=wO
 check:=λb p w=>Gw
 bits:=λp=>by
  have h:∀n,Instr.sameBits (n+1+1) (unK p) (unK p)=true:=by intro n;simp[Instr.sameBits,unK]
  exact h 9998
theorem bX (r:Cr) (c e:Int) (w:Aj) (hr:r.fit) (hc:0<=c/\c<=1024) (he:0<=e/\e<=255):
  Al Do 277 #[.agg #[Aa Ab r.c,Aa Ac r.e,Aa Ac r.k],.agg #[c,Aa Ac e]] w (Gy (Aa Ab (Kv r.c r.e c e)) w):=by
 obtain⟨R,hR⟩:=ey (Kv r.c r.e c e);rw[hR];have HR:=Ah hR;have ze:=hr.1;have zf:=hr.2.1;obtain⟨n1,n2⟩:=gN w (.cells #[Aa Ab r.c,Aa Ac r.e,Aa Ac r.k] 192) (.cells #[c,Aa Ac e] 194);have ci:Below w.heap.size w ((w.alloc (.cells #[Aa Ab r.c,Aa Ac r.e,Aa Ac r.k] 192)).alloc (.cells #[c,Aa Ac e] 194)):=((Ag _ _).alloc (Am _) _).alloc Gx _;clear hR hr;go_enter Tryz.func277,Tryz.ntmps277;go_upto_region 1 with fail;generalize (w.alloc _).alloc _=W at n1 n2 ci⊢;generalize w.heap.size=N at n1 n2⊢;obtain⟨⟨x0,x1,x2⟩,_⟩:=He n1;obtain⟨⟨y0,y1⟩,_⟩:=Hn n2;clear n1 n2
 go_region_held3 (λw'=>w'.cell? ⟨N,0,Ae⟩=Af (Aa Ab r.c)/\w'.cell? ⟨N,1,Ae⟩=Af (Aa Ac r.e)/\w'.cell? ⟨N,2,Ae⟩=Af (Aa Ac r.k)/\w'.cell? ⟨N+1,0,Ae⟩=Af (Aa Ab c)/\w'.cell? ⟨N+1,1,Ae⟩=Af (Aa Ac e))
  (first|exact⟨x0,x1,x2,y0,y1⟩|go_keep)
  (first
   |(go_at_call 161;(with_reducible refine(aA _ _ _ _).mono ?_);rintro e' w6 ⟨rfl,ba⟩;have ci:=ci.trans ((Hk ba).mono ci.size);have x0:=Gv (Hk ba) x0;have x1:=Gv (Hk ba) x1;have x2:=Gv (Hk ba) x2;have y0:=Gv (Hk ba) y0;have y1:=Gv (Hk ba) y1)
   |(go_at_call 162;(with_reducible refine(iR r.c r.e c e _ ze hc zf he).mono ?_);rintro e' w6 ⟨rfl,ba⟩;rw[HR.out];have ci:=ci.trans (ba.mono ci.size);have x0:=Gv ba x0;have x1:=Gv ba x1;have x2:=Gv ba x2;have y0:=Gv ba y0;have y1:=Gv ba y1)
   |fail)
 all_goals
  go_wp2;go_ret;exact⟨rfl,ci⟩
def jN (l:List Cr) (c e:Int) (i:Nat) (is:Bool):Prop:=
 i<=l.length/\(∀k (hk:k<l.length),k<i->Kv l[k].c l[k].e c e<0)/\(∀k (hk:k<l.length),i<=k->0<=Kv l[k].c l[k].e c e)/\(is=true↔∃r,l[i]? =Af r/\Kv r.c r.e c e=0)
def wV (l:List Cr) (c e:Int) (w:Aj) (en:Ending) (w':Aj):Prop:=
 Below w.heap.size w w'/\∃i is,jN l c e i is/\en= .returned (.tuple #[Aa Ab ((i:Nat):Int),.bool is])
theorem Ag6 {a b:Cr} (h:Kv a.c a.e b.c b.e<0) (c e:Int) (hb:Kv b.c b.e c e<0):Kv a.c a.e c e<0:=by
 unfold Kv at*
 repeat' split at h
 all_goals repeat' split at hb
 all_goals repeat' split
 all_goals omega
theorem uR {a b:Cr} (h:Kv a.c a.e b.c b.e<0) (c e:Int) (ha:0<=Kv a.c a.e c e):0<Kv b.c b.e c e:=by
 unfold Kv at*
 repeat' split at h
 all_goals repeat' split at ha
 all_goals repeat' split
 all_goals omega
theorem Aa1 (A:Option Ci) (l:List Cr) (n cc:Nat) (c e:Int) (w:Aj) (hn:n=l.length) (h:Rd w A 3 n (crs l)) (hf:∀r∈l,r.fit) (ha:l.Pairwise λr q=>Kv r.c r.e q.c q.e<0) (hl:n<=1000000) (hc:0<=c/\c<=1024) (he:0<=e/\e<=255):
  Al Do 276 #[Ad A n cc,.agg #[c,Aa Ac e],.func (.func 277) #[] #[]] w (wV l c e w):=by
 have HN:=Ah hn;have dr:=Ah h;have HF:=Ah hf;have HA:=Ah ha;have ff:(w.alloc (.cells #[c,Aa Ac e] 194)).heap[w.heap.size]? =Af (.cells #[c,Aa Ac e] 194 (0,0)):=Bz w _;have ci:Below w.heap.size w (w.alloc (.cells #[c,Aa Ac e] 194)):=(Ag _ _).alloc (Am _) _;have ap:w.heap.size<(w.alloc (.cells #[c,Aa Ac e] 194)).heap.size:=Gx;clear hn h hf ha;go_enter Tryz.func276,Tryz.ntmps276;go_upto_region 1 with fail;generalize w.alloc _=W at ff ci ap⊢;generalize w.heap.size=N at ff ap⊢;have N1:=Ah ff;clear ff;go_wp2
 go_loopw [9,10,11] (λx y _ wr=>∃i j:Nat,i<=j/\j<=n/\x= Aa Ab i/\y= Aa Ab j/\wr.heap[N]? =Af (.cells #[c,Aa Ac e] 194 (0,0))/\N<wr.heap.size/\Below w.heap.size w wr/\Hid (∀k (hk:k<l.length),k<i->Kv l[k].c l[k].e c e<0)/\Hid (∀k (hk:k<l.length),j<=k->0<=Kv l[k].c l[k].e c e)) (λx y _ _=>(intOf y).toNat-(intOf x).toNat)
 case atStart=>exact⟨0,n,Gu,Gu,rfl,rfl,N1.out,ap,ci,Ah (λk hk vc=>Gu),Ah (λk hk vc=>by have:=HN.out;omega)⟩
 obtain⟨i,j,yj,OR,rfl,rfl,DG,hNr,jx,H1,H2⟩:=hrel;have HBK:=Ah DG;obtain⟨⟨u0,u1⟩,_⟩:=Hn DG;have be:=dr.out.below jx;have hlen:=HN.out;rw[hlen]at be;clear DG;by_cases ad:i<j
 ·obtain⟨m,hm⟩:=ez ((i+j)/2);have ig:m<l.length:=Gu;obtain⟨bb,o,hA,cj,c0,c1,c2⟩:=Xi be m ig;have BL:=HF.out l[m] (Ay _);obtain⟨r,hr⟩:=ey (l[m]);rw[hr]at c0 c1 c2 BL;have HR:=Ah hr;have HM:=Ah hm;have Z5:=Ah BL;have q1:(i:Int)<(j:Int):=Gu;have q2:((i:Int)+(j:Int))/2=(m:Int):=Gu;have q3:(m:Int)<(n:Int):=Gu;have q4:i<=m:=Gu;have q5:m<j:=Gu;clear hr hm be hlen BL;subst hA;go_wp2
  go_still_tail 6,Gw
  change wpList _ _ _ _ _ wr.drew;go_wp2_with fail;refine(bX r c e _ Z5.out hc he).mono ?_;rintro e' w2 ⟨rfl,dt⟩;have aj:=Hk dt;have VG:Below w.heap.size w w2:=jx.trans (aj.mono jx.size);have K2:=Ah (kept aj HBK.out hNr);have vr:N<w2.heap.size:=Bq hNr aj.size;obtain⟨O,hO⟩:=ey (Kv r.c r.e c e);rw[hO];have HO:=Ah hO;clear c0 c1 c2 u0 u1 aj dt q2 hO;by_cases hJ:O<0
  ·have HJ:=Ah hJ;have hd:decide (O<0)=true:=by simpa using hJ
   go_wp2
   go_roundw
   case rel=>
    refine⟨m+1,j,Gu,Gu,by go_num,rfl,K2.out,vr,VG,Ah (λk hk RP=>?_),H2⟩;rcases Nat.lt_or_ge k m with h'|h'
    ·have h3:=Fi.1 HA.out k m hk ig h';rw[HR.out]at h3;exact Ag6 h3 c e (by rw[HO.out];exact hJ)
    ·obtain rfl:k=m:=Gu;rw[HR.out,HO.out];exact hJ
   case measure=>simp[intOf];omega
  ·have hd:decide (O<0)=false:=by simpa using hJ
   go_wp2
   go_roundw
   case rel=>
    refine⟨i,m,Gu,Gu,rfl,rfl,K2.out,vr,VG,H1,Ah (λk hk RP=>?_)⟩;rcases Nat.lt_or_ge m k with h'|h'
    ·have h3:=Fi.1 HA.out m k ig hk h';rw[HR.out]at h3;have h4:=uR h3 c e (by rw[HO.out];omega);omega
    ·obtain rfl:k=m:=Gu;rw[HR.out,HO.out];omega
   case measure=>simp[intOf];omega
 ·obtain rfl:i=j:=Gu;have q1:¬(i:Int)<(i:Int):=Gu;by_cases hi:i<n
  ·have bv:i<l.length:=Gu;obtain⟨bb,o,hA,cj,c0,c1,c2⟩:=Xi be i bv;have BL:=HF.out l[i] (Ay _);obtain⟨r,hr⟩:=ey (l[i]);rw[hr]at c0 c1 c2 BL;have HR:=Ah hr;have Z5:=Ah BL;have q2:decide ((i:Int)<(n:Int))=true:=Hu;have q3:(i:Int)<(n:Int):=Gu;clear hr be hlen BL;subst hA;go_wp2_with fail
   go_region_held3 (λw'=>w'.cell? ⟨bb,o+i*3,Ae⟩=Af (Aa Ab r.c)/\w'.cell? ⟨bb,o+i*3+1,Ae⟩=Af (Aa Ac r.e)/\w'.cell? ⟨bb,o+i*3+2,Ae⟩=Af (Aa Ac r.k)/\w'.cell? ⟨N,0,Ae⟩=Af (Aa Ab c)/\w'.cell? ⟨N,1,Ae⟩=Af (Aa Ac e))
    (first|exact⟨c0,c1,c2,u0,u1⟩|go_keep)
    (first
     |(go_at_call 277;(with_reducible refine(bX r c e _ Z5.out hc he).mono ?_);rintro e' w6 ⟨rfl,ba⟩;have jx:=jx.trans ((Hk ba).mono jx.size);have c0:=Gv (Hk ba) c0;have c1:=Gv (Hk ba) c1;have c2:=Gv (Hk ba) c2;have u0:=Gv (Hk ba) u0;have u1:=Gv (Hk ba) u1)
     |fail)
   all_goals
    go_wp2_with fail
    go_ret2
    refine⟨jx,i,Kv r.c r.e c e==0,⟨Gu,H1.out,H2.out,?_⟩,rfl⟩;rw[Aw bv,HR.out];simp
  ·have q2:decide ((i:Int)<(n:Int))=false:=Hu;have qw:l.length<=i:=Gu;have hln2:i<=l.length:=Gu;clear hlen be;go_wp2
   go_quiet (fail)
   go_wp2_with fail
   go_ret2
   refine⟨Ij jx _,i,false,⟨hln2,H1.out,H2.out,?_⟩,rfl⟩;rw[Ei qw];simp
theorem Aq3 (A:Option Ci) (l:List Cr) (n cc:Nat) (c e:Int) (w:Aj) (hn:n=l.length) (h:Rd w A 3 n (crs l)) (hf:∀r∈l,r.fit) (ha:l.Pairwise λr q=>Kv r.c r.e q.c q.e<0) (hl:n<=1000000) (hc:0<=c/\c<=1024) (he:0<=e/\e<=255):
  Al Do 226 #[Ad A n cc,.agg #[c,Aa Ac e]] w (wV l c e w):=by
 have hb:=Aa1 A l n cc c e (w.alloc (.cells #[c,Aa Ac e] 194)) hn (h.alloc _) hf ha hl hc he;have HB:=Ah hb;clear hb hn h hf ha;go_enter Tryz.func226,Tryz.ntmps226;go_wp2_with fail;refine HB.out.mono ?_;rintro e' w2 ⟨aj,i,is,bi,rfl⟩;have EE:=Ah bi;clear bi;go_wp2_with fail
 go_ret2
 exact⟨((Ag _ _).alloc (Am _) _).trans (aj.mono Gx),i,is,EE.out,rfl⟩
def By1 (l:List Cr) (c e:Int) (w:Aj) (en:Ending) (w':Aj):Prop:=
 Below w.heap.size w w'/\∃i is,jN l c e i is/\en= .returned (.tuple #[.agg #[c,Aa Ac e],Aa Ab ((i:Nat):Int),.bool is,Aa Ab 0])
theorem By6 (a b:Int) (A:Option Ci) (l:List Cr) (n cc:Nat) (id e c':Int) (w:Aj) (hn:n=l.length) (h:Rd w A 3 n (crs l)) (hp:Lq a b l) (hQ:Qt w) (jw:Ig a b id e=(c',e,0)) (hc:0<=c'/\c'<=1024) (he:0<=e/\e<=255):
  Al Do 171 #[.agg #[a,b,Ad A n cc],id,Aa Ac e] w (By1 l c' e w):=by
 have HN:=Ah hn;have dr:=Ah h;have HP:=Ah hp;have EL:=Ah jw;have hlen:n<=1000000:=oHx hp.len;obtain⟨n1,n2⟩:=gN w (.cells #[a,b,Ad A n cc] 28) (.cells #[Aa Ab 0,Aa Ac 0] 194);have ci:Below w.heap.size w ((w.alloc (.cells #[a,b,Ad A n cc] 28)).alloc (.cells #[Aa Ab 0,Aa Ac 0] 194)):=((Ag _ _).alloc (Am _) _).alloc Gx _;have ap:w.heap.size+1<((w.alloc (.cells #[a,b,Ad A n cc] 28)).alloc (.cells #[Aa Ab 0,Aa Ac 0] 194)).heap.size:=Gx;clear hn h hp jw;go_enter Tryz.func171,Tryz.ntmps171;go_upto_region 1 with fail;generalize (w.alloc _).alloc _=W at n1 n2 ci ap⊢;obtain⟨N,hN⟩:=ez w.heap.size;rw[<-hN]at n1 n2 ap⊢;have db:=Ah hN;have N1:=Ah n1;have N2:=Ah n2;obtain⟨⟨x0,x1,x2⟩,_⟩:=He n1;clear n1 n2 hN;go_wp2_with fail;refine(aY a b A l n cc _ HN.out (dr.out.below ci) HP.out (hQ.below ci)).mono ?_;rintro e' w2 ⟨rfl,aj⟩;have dt:Below w.heap.size w w2:=ci.trans (aj.mono ci.size);have M1:=Ah (kept aj N1.out Gu);have M2:=Ah (kept aj N2.out ap);obtain⟨⟨y0,y1,y2⟩,_⟩:=He M1.out;have ca:N+1<w2.heap.size:=Bq ap aj.size;clear x0 x1 x2 aj N1 N2;go_wp2_with fail;refine(Zh a b id e _ HP.out.sheet he.1 (hQ.below dt)).mono ?_;rintro e' w3 ⟨rfl,bm⟩;rw[EL.out];unfold Vu;dsimp only;have jt:Below w.heap.size w w3:=dt.trans (bm.mono dt.size);have P1:=Ah (kept bm M1.out Gu);have P2:=Ah (kept bm M2.out ca);obtain⟨⟨z0,z1,z2⟩,_⟩:=He P1.out;have od:N+1<w3.heap.size:=Bq ca bm.size;have hz3':N<w3.heap.size:=Gu;have hs3:=jt.size;clear y0 y1 y2 bm M1 M2;go_wp2_with fail;have ct:Below w.heap.size w (w3.alloc (.cells #[c',Aa Ac e] 194)):=jt.alloc hs3 _;refine(Aq3 A l n cc c' e _ HN.out (dr.out.below ct) HP.out.fit HP.out.asc hlen hc he).mono ?_;rintro e' w5 ⟨da,i,is,bi,rfl⟩;have EE:=Ah bi;have hb5':Below w.heap.size w w5:=ct.trans (da.mono ct.size)
 have Q2:w5.heap[N+1]? =Af (.cells #[Aa Ab 0,Aa Ac 0] 194 (0,0)):=kept da ((Eg _ _ _ od).trans P2.out) Hu;have Q3:w5.heap[w3.heap.size]? =Af (.cells #[c',Aa Ac e] 194 (0,0)):=kept da (Bz w3 _) Gx;obtain⟨⟨r0,r1⟩,v0,v1⟩:=Hn Q2;obtain⟨⟨s0,s1⟩,_⟩:=Hn Q3;clear bi da Q2 Q3 z0 z1 z2;go_wp2_with fail;refine Ai (v:= .tuple #[.agg #[c',Aa Ac e],Aa Ab ((i:Nat):Int),.bool is,Aa Ab 0]) (by simp[results,Tryz.results171,go_sem,r0,r1]) rfl ⟨?_,i,is,EE.out,rfl⟩;have h9:=db.out;exact(hb5'.setCell Hu _).setCell Hu _
theorem Ab3 (a b:Int) (w:Aj) (hs:okS a b=true):
  Al Do 61 #[.agg #[a,b]] w (Gy (.tuple #[.agg #[a,b,Ad Ae 0 0],Aa Ab 0]) w):=by
 have HS:=Ah hs;obtain⟨n1,n2⟩:=gN w (.cells #[a,b] 25) (.cells #[Aa Ab 0,Aa Ab 0,Ad Ae 0 0] 28);have ci:Below w.heap.size w ((w.alloc (.cells #[a,b] 25)).alloc (.cells #[Aa Ab 0,Aa Ab 0,Ad Ae 0 0] 28)):=((Ag _ _).alloc (Am _) _).alloc Gx _;have ap:w.heap.size+1<((w.alloc (.cells #[a,b] 25)).alloc (.cells #[Aa Ab 0,Aa Ab 0,Ad Ae 0 0] 28)).heap.size:=Gx;clear hs;go_enter Tryz.func61,Tryz.ntmps61;go_upto_region 1 with fail;generalize (w.alloc _).alloc _=W at n1 n2 ci ap⊢;obtain⟨N,hN⟩:=ez w.heap.size;rw[<-hN]at n1 n2 ap⊢;have db:=Ah hN;obtain⟨⟨x0,x1⟩,_⟩:=Hn n1;have N1:=Ah n1;have N2:=Ah n2;clear n1 n2 hN;go_wp2_with fail;refine(Ju a b _).mono ?_;rintro e' w2 ⟨rfl,aj⟩;rw[HS.out,Ls];have dt:Below w.heap.size w w2:=ci.trans (aj.mono ci.size);obtain⟨⟨y0,y1⟩,_⟩:=Hn (kept aj N1.out Gu);obtain⟨⟨r0,r1,r2⟩,v0,v1,v2⟩:=He (kept aj N2.out ap);clear x0 x1 aj;go_wp2_with fail;refine Ai (v:= .tuple #[.agg #[a,b,Ad Ae 0 0],Aa Ab 0]) (by simp[results,Tryz.results61,go_sem,r0,r1,r2]) rfl ⟨rfl,?_⟩;have h9:=db.out;exact((dt.setCell Hu _).setCell Hu _).setCell Hu _
def Hm (l:List Cr) (c e:Int):Int:=match l.find? λr=>decide (r.c=c)&&decide (r.e=e)with
 |some r=>r.k
 |none=>0
theorem lJ {c e c' e':Int}:Kv c e c' e'=0↔c=c'/\e=e':=by
 unfold Kv
 split
 ·rename_i h;constructor
  ·intro h2;exact⟨h,Gu⟩
  ·rintro⟨_,h2⟩;omega
 ·rename_i h;constructor
  ·intro h2;exact absurd Gu h
  ·rintro⟨h2,_⟩;exact absurd h2 h
theorem Ae6 {l:List Cr} {c e:Int} {i:Nat} {is:Bool} (hf:jN l c e i is) (ha:l.Pairwise λr q=>Kv r.c r.e q.c q.e<0):
  (is=true->∃hi:i<l.length,Hm l c e=l[i].k)/\(is=false->Hm l c e=0):=by
 obtain⟨h1,h2,h3,h4⟩:=hf
 constructor
 ·intro his;obtain⟨r,hr,h0⟩:=h4.1 his;obtain⟨hi,hri⟩:=Ax.1 hr;refine⟨hi,?_⟩;unfold Hm;have hz:=lJ.1 h0
  have LO:l.find? (λr=>decide (r.c=c)&&decide (r.e=e))=Af l[i]:=by
   rw[List.find?_eq_some_iff_getElem];refine⟨by rw[hri];simp[hz.1,hz.2],i,hi,rfl,λk hk=>?_⟩;have ad:=h2 k Gu hk;simp only[Bool.not_eq_true',Bool.and_eq_false_iff,Rt];by_cases hc:l[k].c=c
   ·right;intro he;have:=lJ.2 ⟨hc,he⟩;omega
   ·left;exact hc
  rw[LO]
 ·intro his;unfold Hm
  have LO:l.find? (λr=>decide (r.c=c)&&decide (r.e=e))=Ae:=by
   rw[List.find?_eq_none];intro r hr hp;simp only[El,Lg]at hp;obtain⟨k,hk,rfl⟩:=Be.1 hr;have h0:Kv l[k].c l[k].e c e=0:=lJ.2 hp
   have xt:i<=k:=by
    by_cases h:k<i
    ·have:=h2 k hk h;omega
    ·omega
   have bv:i<l.length:=Gu
   have eh:Kv l[i].c l[i].e c e=0:=by
    rcases Nat.lt_or_eq_of_le xt with h|h
    ·have h5:=Fi.1 ha i k bv hk h;rw[hp.1,hp.2]at h5;have:=h3 i bv (Am _);omega
    ·subst h;exact h0
   have:is=true:=h4.2 ⟨l[i],Gx,eh⟩;rw[his]at this;cases this
  rw[LO]
theorem yG (a b:Int) (A:Option Ci) (l:List Cr) (n cc:Nat) (id e c':Int) (w:Aj) (hn:n=l.length) (h:Rd w A 3 n (crs l)) (hp:Lq a b l) (hQ:Qt w) (jw:Ig a b id e=(c',e,0)) (hc:0<=c'/\c'<=1024) (he:0<=e/\e<=255):
  Al Do 116 #[.agg #[a,b,Ad A n cc],id,Aa Ac e] w (Gy (.tuple #[Aa Ac (Hm l c' e),Aa Ab 0]) w):=by
 have EE:=Ah λw h hQ=>By6 a b A l n cc id e c' w hn h hp hQ jw hc he;have HKF:=Ah λi is (hf:jN l c' e i is)=>Ae6 hf hp.asc;have dr:=Ah h;have HN:=Ah hn;have HQ:=Ah hQ;have H:=(Bx.start w).new #[a,b,Ad A n cc] 28 rfl;have hlen:l.length<=1000000:=hp.len;clear hn h hp hQ jw hc he;go_enter Tryz.func116,Tryz.ntmps116;go_upto_region 1 with fail;generalize w.alloc _=W at H⊢;generalize w.heap.size=N at H⊢;obtain⟨⟨a0,a1,a2⟩,_⟩:=He (H.b 0);go_wp2_with fail;refine(EE.out _ (dr.out.below H.below) (HQ.out.below H.below)).mono ?_;rintro ee w2 ⟨hb,i,is,hfi,rfl⟩;have H2:=H.call hb;obtain⟨k1,k2⟩:=HKF.out i is hfi;clear a0 a1 a2 hb H;have l0:=H2.lt 0 rfl;obtain⟨⟨a0,a1,a2⟩,_⟩:=He (H2.b 0)
 cases is
 ·have hk:=k2 rfl;have HK:=Ah hk;clear k1 k2 hk hfi;go_wp2_with fail
  go_ret2
  exact⟨by rw[HK.out];rfl,(H2.other _).below⟩
 ·obtain⟨hi,hk⟩:=k1 rfl;have HK:=Ah hk;have be:=dr.out.below H2.below;rw[HN.out]at be;obtain⟨bb,o,hA,cj,c0,c1,c2⟩:=Xi be i hi;have q1:(i:Int)<(n:Int):=oHx HN.out;generalize l[i]=r at c0 c1 c2 HK;clear k1 k2 hk hfi be;subst hA;go_wp2_with fail
  go_ret2
  exact⟨by rw[HK.out];rfl,(H2.other _).below⟩
section
variable {κ:Type} [DecidableEq κ]
theorem yB (p:κ):∀(l:List (κ×Ak)) (n:Nat),Qj p l n=((Qj p l 0).map λr=>(r.1+n,r.2)):=by
 intro l
 induction l with
 |nil=>intro n;rfl
 |cons q l ih=>
  intro n;unfold Qj;by_cases h:p=q.1
  ·simp[h]
  ·rw[Gz h,Gz h,ih (n+1),ih (0+1)]
   cases Qj p l 0 with
   |none=>rfl
   |some r=>simp;omega
theorem Qy (p:κ) (q:κ×Ak) (l:List (κ×Ak)):Of p (q::l)=if p=q.1 then Af q.2 else Of p l:=by
 unfold Of
 conv=>lhs;unfold Qj
 by_cases h:p=q.1
 ·simp[h]
 ·rw[Gz h,Gz h,yB]
  cases Qj p l 0<;>rfl
theorem Ai3 (p:κ) (v:Ak) (q:κ×Ak) (l:List (κ×Ak)):Ro p v (q::l)=if p=q.1 then (p,v)::l else q::Ro p v l:=by
 unfold Ro
 conv=>lhs;unfold Qj
 by_cases h:p=q.1
 ·simp[h]
 ·rw[Gz h,Gz h,yB]
  cases Qj p l 0<;>simp
theorem dX (p q:κ) (v:Ak):∀l:List (κ×Ak),Of p (Ro q v l)=if p=q then Af v else Of p l:=by
 intro l
 induction l with
 |nil=>
  have e:Ro q v ([]:List (κ×Ak))=[(q,v)]:=rfl;rw[e,Qy]
 |cons r l ih=>
  rw[Ai3];by_cases h:q=r.1
  ·rw[Hd h,Qy,Qy];by_cases hp:p=q
   ·simp[hp]
   ·have:p≠r.1:=λe=>hp (e.trans h.symm);simp[hp,this]
  ·rw[Gz h,Qy,Qy,ih];by_cases hp:p=r.1
   ·have:p≠q:=λe=>h (e.symm.trans hp);simp[hp];intro e;exact absurd (hp.trans e) this
   ·simp[hp]
end
def crM (l:List Cr):List ((Int×Int)×Ak):=l.foldl (λm r=>Ro (r.c,r.e) (.bool true) m) []
theorem Aq0 (l:List Cr) (i:Nat) (h:i<l.length):crM (l.take (i+1))=Ro (l[i].c,l[i].e) (.bool true) (crM (l.take i)):=by
 unfold crM;rw[Bc h,List.foldl_append];rfl
theorem Bf6 (l:List Cr) (c e:Int):(Of (c,e) (crM l)).getD (.bool false)= .bool (Nm l c e):=by
 have key:∀(l:List Cr) (m:List ((Int×Int)×Ak)),Of (c,e) (l.foldl (λm r=>Ro (r.c,r.e) (.bool true) m) m)=if Nm l c e then Af (.bool true)else Of (c,e) m:=by
  intro l
  induction l with
  |nil=>intro m;simp[Nm]
  |cons r l ih=>
   intro m;rw[List.foldl_cons,ih,dX];unfold Nm;rw[List.any_cons];by_cases h:r.c=c/\r.e=e
   ·simp[h.1,h.2]
   ·have h':¬((c,e)=(r.c,r.e)):=λx=>h (by simp at x;exact⟨x.1.symm,x.2.symm⟩);rw[Gz h']
    have h2:(decide (r.c=c)&&decide (r.e=e))=false:=by
     simp only[Bool.and_eq_false_iff,Rt];by_cases hc:r.c=c
     ·right;exact λhe=>h ⟨hc,he⟩
     ·left;exact hc
    rw[h2,Bool.false_or]
 unfold crM;rw[key]
 cases Nm l c e with
 |true=>rfl
 |false=>rfl
theorem Bx.mapped {κ:Type} {K:κ->Ak} {w wr w':Aj} {l:List (Nat×Array Ak×Cj)} {M:Nat} {m:List (κ×Ak)} (h:Bx w l wr) (hk:Km K wr M m) (hg:wr.grownBy w' (Af M)) (hM:w.heap.size<=M):Bx w l w':=by
 obtain⟨es,clock,hb,_⟩:=hk;refine⟨h.below.grown hg h.below.size (λk hk=>by injection hk with hk;omega),λi g cs t hi=>?_,h.lo,h.inj⟩;have xp:=h.blk i g cs t hi;refine(hg.block g (h.lt i hi) ?_).trans xp;intro e;injection e with e;subst e;rw[xp]at hb
 cases hb
def Bq9 {κ:Type} (K:κ->Ak) (m:List (κ×Ak)) (w:Aj) (e:Ending) (w':Aj):Prop:=∃M,e= .returned (.map (Af M))/\w.heap.size<=M/\Km K w' M m/\Below w.heap.size w w'
theorem sM (a b:Int) (A:Option Ci) (l:List Cr) (n cc:Nat) (w:Aj) (hn:n=l.length) (h:Rd w A 3 n (crs l)) (hl:n<=1000000):
  Al Do 212 #[.agg #[a,b,Ad A n cc]] w (Bq9 unK (crM l) w):=by
 have dr:=Ah h;have HN:=Ah hn;have H:=(Bx.start w).new #[a,b,Ad A n cc] 28 rfl;clear hn h;go_enter Tryz.func212,Tryz.ntmps212;go_upto_region 1 with fail;generalize w.alloc _=W at H⊢;obtain⟨N,hN⟩:=ez w.heap.size;rw[<-hN]at H⊢;have db:=Ah hN;clear hN;obtain⟨⟨a0,a1,a2⟩,_⟩:=He (H.b 0);have qz:(Instr.makeMap 340 (Af (Aa Ab n))).run Do W= .ok (.map (Af W.heap.size)) (W.alloc (.map #[] 0)):=by first|rfl|simp[Instr.makeMap]
 go_upto_region 2 with fail;obtain⟨M,hM⟩:=ez W.heap.size;rw[<-hM];have KS:w.heap.size<=M:=oHx H.below.size;have hK:=Wg unK W;rw[<-hM]at hK;have H2:=H.other (.map #[] 0);generalize W.alloc _=W2 at hK H2⊢;clear qz hM a0 a1 a2 H;obtain⟨⟨a0,a1,a2⟩,_⟩:=He (H2.b 0);go_wp2_with fail;clear a0 a1 a2
 go_loopw [13] (λi wr=>∃k:Nat,k<=n/\i= Aa Ab k/\Bx w [(N,#[a,b,Ad A n cc],28)] wr/\Km unK wr M (crM (l.take k))) (λi _=>n-(intOf i).toNat)
 case atStart=>exact⟨0,Gu,rfl,H2,hK⟩
 obtain⟨k,hk,rfl,Hr,Kr⟩:=hrel;by_cases ad:k<n
 ·have bc:k<l.length:=oHx HN.out;have be:=dr.out.below Hr.below;rw[HN.out]at be;obtain⟨bb,o,hA,cj,c0,c1,c2⟩:=Xi be k bc;have ld:=Aq0 l k bc;generalize l[k]=r at c0 c1 c2 ld;have ur:=Ah ld;have q1:(k:Int)<(n:Int):=Gu;have P_:=Kr.below ((Ag wr.heap.size wr).alloc (Am _) (.cells #[Aa Ab r.c,Aa Ac r.e,Aa Ac r.k] 192)) Kr.lt;have Hr2:=Hr.other (.cells #[Aa Ab r.c,Aa Ac r.e,Aa Ac r.k] 192);clear be ld;subst hA;go_wp2_with (at_mapUpdate;refine Sl Tq Tryz.underlying340 _ rfl _ _ _ rfl M (crM (l.take k)) (r.c,r.e) (.bool true) rfl rfl rfl P_ ?_;intro w9 vd zg);exact⟨⟨k+1,Gu,by go_num,Hr2.mapped P_ zg KS,by rw[ur.out];exact vd⟩,by simp[intOf];omega⟩
 ·have q1:¬(k:Int)<(n:Int):=Gu;have sf:k=l.length:=oHx HN.out;go_wp2;go_ret;refine⟨M,rfl,KS,?_,Hr.below⟩;rw[sf,List.take_length]at Kr;exact Kr
def lnR (r:(Int×Int)×Int):Ak:= .tuple #[.agg #[Aa Ac r.1.1,Aa Ab r.1.2],Aa Ab r.2]
theorem Af0 (x y:Int) (q e:Nat) (hq:q<4):Js ⟨x,y,q⟩ e=if e=1 then (3,x+y+1)else if e=2 then (4,y-x)else (qln q,if qln q=2 then y+qby q else x+qby q):=by
 unfold Js;dsimp only
 split
 ·rfl
 ·split
  ·rfl
  ·have h4:q=0∨q=1∨q=2∨q=3:=Gu;rcases h4 with rfl|rfl|rfl|rfl<;>simp[qln,qby]
theorem qlb (q:Nat):(qln q=1∨qln q=2)/\(0<=qby q/\qby q<=1):=by
 unfold qln qby;split<;>decide
theorem mR (c:Cl) (e:Nat) (w:Aj) (hc:c.ok=true) (he:e<=2) (hQ:Qf w):
  Al Do 194 #[.agg #[Aa Ab c.x,Aa Ab c.y,Aa Ac c.q],Aa Ac e] w (Gy (lnR (Xc c e)) w):=by
 obtain⟨⟨⟨rk,rc⟩,re⟩,hR⟩:∃R,Xc c e=R:=⟨_,rfl⟩;rw[hR];unfold Cl.ok at hc;obtain⟨c1,c2,c3,c4,c5⟩:=Jt.1 hc;obtain⟨x,y,q⟩:=c;dsimp only at hc c1 c2 c3 c4 c5⊢;have hq:q<4:=Gu;unfold Xc at hR;rw[Af0 x y q e hq]at hR;unfold lnR;dsimp only;have ag:=λ(w':Aj) (h:Qf w')=>h.row hq;unfold Ov at ag;obtain⟨qw,hby1,hby2⟩:=qlb q;obtain⟨⟨u1,u2⟩,h1⟩:=ey (Ue q);obtain⟨⟨v1,v2⟩,h2⟩:=ey (Uf q);obtain⟨⟨s1,s2⟩,h3⟩:=ey (Ip q);obtain⟨ln,h4⟩:=ey (qln q);obtain⟨nm,h5⟩:=ey (qby q);obtain⟨⟨n1,n2,n3⟩,h6⟩:=ey (nxt q 0);obtain⟨⟨n4,n5,n6⟩,h7⟩:=ey (nxt q 1);obtain⟨⟨n7,n8,n9⟩,h8⟩:=ey (nxt q 2);rw[h1,h2,h3,h4,h5,h6,h7,h8]at ag;rw[h4]at qw hR;rw[h5]at hby1 hby2 hR;dsimp only at ag;have HC:=Ah hc;have yw:=Ah ag;have HQ:=Ah hQ;have HR:=Ah hR;have q1:(q:Int)<4:=Gu;have q2:¬(2:Int)<(e:Int):=Gu;have H:=((Bx.start w).new #[x,y,Aa Ac q] 90 rfl).new #[Aa Ac 0,Aa Ab 0] 48 (N:=w.heap.size+1) Gx;clear hc ag h1 h2 h3 h4 h5 h6 h7 h8 hQ hR;go_enter Tryz.func194,Tryz.ntmps194;go_upto_region 1 with fail;generalize (w.alloc _).alloc _=W at H⊢;generalize w.heap.size=N at H⊢;obtain⟨⟨a0,a1,a2⟩,_⟩:=He (H.b 0);go_wp2_with fail;refine(Jf x y q _).mono ?_;rintro ee w2 ⟨rfl,hb⟩;rw[HC.out,Ls];have H2:=H.call hb;clear a0 a1 a2 hb H;obtain⟨⟨a0,a1,a2⟩,_⟩:=He (H2.b 0);have hr:=yw.out _ (HQ.out.below H2.below);go_upto_region 3 with fail
 repeat' (go_not_at_region 4;first
  |refine wpList_load_mid rfl 300 (.tmp 18) rfl 1 (q*17) rfl _ _ hr Tryz.underlying300 rfl Gw ?_
  |refine Pm rfl 300 (.tmp 6) (.tmp 19) rfl _ _ rfl rfl Gw rfl rfl ?_
  |go_step)
 clear hr a0 a1 a2;obtain⟨G4,ZF⟩:=ez w2.heap.size;rw[<-ZF];have H4:=H2.new #[s1,s2,Aa Ac ln,nm,n1,n2,Aa Ac n3,n4,n5,Aa Ac n6,n7,n8,Aa Ac n9,u1,u2,v1,v2] 300 ZF.symm;obtain⟨W4,OI⟩:=ez (w2.alloc (.cells #[s1,s2,Aa Ac ln,nm,n1,n2,Aa Ac n3,n4,n5,Aa Ac n6,n7,n8,Aa Ac n9,u1,u2,v1,v2] 300));rw[<-OI]at H4;change Code.wp _ _ _ _ (w2.alloc (.cells #[s1,s2,Aa Ac ln,nm,n1,n2,Aa Ac n3,n4,n5,Aa Ac n6,n7,n8,Aa Ac n9,u1,u2,v1,v2] 300));rw[<-OI];have jd:=H4.range 2 rfl;have r2:=jd 2 _ rfl;have r3:=jd 3 _ rfl;simp only[Bt]at r2 r3;obtain⟨⟨a0,a1,a2⟩,_⟩:=He (H4.b 0);have w1:Ab.wrap (x+nm)=x+nm:=Ca _ Gu;clear jd ZF OI;go_upto_region 5 with fail;obtain⟨G5,ZG⟩:=ez W4.heap.size;rw[<-ZG];have H5:=H4.new #[Aa Ac ln,Aa Ab (x+nm)] 48 ZG.symm;generalize W4.alloc _=W5 at H5⊢;have MH:N≠G5:=oHx (H4.lt 0 rfl);have xz:G4≠G5:=oHx (H4.lt 2 rfl);clear ZG r2 r3 a0 a1 a2;obtain⟨⟨a0,a1,a2⟩,_⟩:=He (H5.b 0);obtain⟨⟨b0,b1⟩,f0,f1⟩:=Hn (H5.b 3);have jd:=H5.range 2 rfl;have r2:=jd 2 _ rfl;have r3:=jd 3 _ rfl;simp only[Bt]at r2 r3;clear jd;have T9:e=0∨e=1∨e=2:=Gu;rcases T9 with rfl|rfl|rfl
 ·rcases qw with rfl|rfl
  ·as_aux_lemma=>
     go_wp2_with fail;refine(Jn 1 (x+nm) _).mono ?_;rintro ee w6 ⟨rfl,ba⟩;have H7:=(H5).call ba;obtain⟨⟨p0,p1⟩,_⟩:=Hn (H7.b 3);obtain⟨⟨t0,t1⟩,z0,z1⟩:=Hn (H7.b 1);have am:=HR.out;clear b0 b1 f0 f1 r2 r3 a0 a1 a2 ba
     cases hk:okL 1 (x+nm)
     ·rw[Qq]
      have hv:rk=0/\rc=0/\re=3:=by
       simp[hk]at am;omega
      have HV:=Ah hv;clear hk am hv;go_wp2_with fail;have H8:=(H7.set 1 0 rfl (Aa Ac 0)).set 1 1 rfl (Aa Ab 0);exact Ai (Hj rfl rfl (H8.range 1 rfl) Dm rfl Gw) rfl ⟨by rw[HV.out.1,HV.out.2.1,HV.out.2.2];rfl,H8.below⟩
     ·rw[Ls]
      have hv:rk=1/\rc=x+nm/\re=0:=by
       simp[hk]at am;omega
      have HV:=Ah hv;clear hk am hv;go_wp2_with fail;have H8:=(H7.set 1 0 rfl (Aa Ac 1)).set 1 1 rfl (Aa Ab (x+nm));exact Ai (Hj rfl rfl (H8.range 1 rfl) Dm rfl Gw) rfl ⟨by rw[HV.out.1,HV.out.2.1,HV.out.2.2];rfl,H8.below⟩
  ·as_aux_lemma=>
     have XB:Ab.wrap (y+nm)=y+nm:=Ca _ Gu;go_wp2_with fail;refine(Jn 2 (y+nm) _).mono ?_;rintro ee w6 ⟨rfl,ba⟩;have H7:=((H5.set 3 1 rfl (Aa Ab (y+nm)))).call ba;obtain⟨⟨p0,p1⟩,_⟩:=Hn (H7.b 3);obtain⟨⟨t0,t1⟩,z0,z1⟩:=Hn (H7.b 1);have am:=HR.out;clear b0 b1 f0 f1 r2 r3 a0 a1 a2 ba
     cases hk:okL 2 (y+nm)
     ·rw[Qq]
      have hv:rk=0/\rc=0/\re=3:=by
       simp[hk]at am;omega
      have HV:=Ah hv;clear hk am hv;go_wp2_with fail;have H8:=(H7.set 1 0 rfl (Aa Ac 0)).set 1 1 rfl (Aa Ab 0);exact Ai (Hj rfl rfl (H8.range 1 rfl) Dm rfl Gw) rfl ⟨by rw[HV.out.1,HV.out.2.1,HV.out.2.2];rfl,H8.below⟩
     ·rw[Ls]
      have hv:rk=2/\rc=y+nm/\re=0:=by
       simp[hk]at am;omega
      have HV:=Ah hv;clear hk am hv;go_wp2_with fail;have H8:=(H7.set 1 0 rfl (Aa Ac 2)).set 1 1 rfl (Aa Ab (y+nm));exact Ai (Hj rfl rfl (H8.range 1 rfl) Dm rfl Gw) rfl ⟨by rw[HV.out.1,HV.out.2.1,HV.out.2.2];rfl,H8.below⟩
 ·as_aux_lemma=>
   have XB:Ab.wrap (x+y)=x+y:=Ca _ Gu;have w3':Ab.wrap (x+y+1)=x+y+1:=Ca _ Gu;go_wp2_with fail;refine(Jn 3 (x+y+1) _).mono ?_;rintro ee w6 ⟨rfl,ba⟩;have H7:=(((H5.set 3 0 rfl (Aa Ac 3)).set 3 1 rfl (Aa Ab (x+y+1)))).call ba;obtain⟨⟨p0,p1⟩,_⟩:=Hn (H7.b 3);obtain⟨⟨t0,t1⟩,z0,z1⟩:=Hn (H7.b 1);have am:=HR.out;clear b0 b1 f0 f1 r2 r3 a0 a1 a2 ba
   cases hk:okL 3 (x+y+1)
   ·rw[Qq]
    have hv:rk=0/\rc=0/\re=3:=by
     simp[hk]at am;omega
    have HV:=Ah hv;clear hk am hv;go_wp2_with fail;have H8:=(H7.set 1 0 rfl (Aa Ac 0)).set 1 1 rfl (Aa Ab 0);exact Ai (Hj rfl rfl (H8.range 1 rfl) Dm rfl Gw) rfl ⟨by rw[HV.out.1,HV.out.2.1,HV.out.2.2];rfl,H8.below⟩
   ·rw[Ls]
    have hv:rk=3/\rc=x+y+1/\re=0:=by
     simp[hk]at am;omega
    have HV:=Ah hv;clear hk am hv;go_wp2_with fail;have H8:=(H7.set 1 0 rfl (Aa Ac 3)).set 1 1 rfl (Aa Ab (x+y+1));exact Ai (Hj rfl rfl (H8.range 1 rfl) Dm rfl Gw) rfl ⟨by rw[HV.out.1,HV.out.2.1,HV.out.2.2];rfl,H8.below⟩
 ·as_aux_lemma=>
   have XB:Ab.wrap (y-x)=y-x:=Ca _ Gu;go_wp2_with fail;refine(Jn 4 (y-x) _).mono ?_;rintro ee w6 ⟨rfl,ba⟩;have H7:=(((H5.set 3 0 rfl (Aa Ac 4)).set 3 1 rfl (Aa Ab (y-x)))).call ba;obtain⟨⟨p0,p1⟩,_⟩:=Hn (H7.b 3);obtain⟨⟨t0,t1⟩,z0,z1⟩:=Hn (H7.b 1);have am:=HR.out;clear b0 b1 f0 f1 r2 r3 a0 a1 a2 ba
   cases hk:okL 4 (y-x)
   ·rw[Qq]
    have hv:rk=0/\rc=0/\re=3:=by
     simp[hk]at am;omega
    have HV:=Ah hv;clear hk am hv;go_wp2_with fail;have H8:=(H7.set 1 0 rfl (Aa Ac 0)).set 1 1 rfl (Aa Ab 0);exact Ai (Hj rfl rfl (H8.range 1 rfl) Dm rfl Gw) rfl ⟨by rw[HV.out.1,HV.out.2.1,HV.out.2.2];rfl,H8.below⟩
   ·rw[Ls]
    have hv:rk=4/\rc=y-x/\re=0:=by
     simp[hk]at am;omega
    have HV:=Ah hv;clear hk am hv;go_wp2_with fail;have H8:=(H7.set 1 0 rfl (Aa Ac 4)).set 1 1 rfl (Aa Ab (y-x));exact Ai (Hj rfl rfl (H8.range 1 rfl) Dm rfl Gw) rfl ⟨by rw[HV.out.1,HV.out.2.1,HV.out.2.2];rfl,H8.below⟩
theorem pN {a b c e:Int} (h:Ig a b c e=(c,e,0)):Sz a b c=true:=by
 unfold Ig at h
 split at h
 ·rename_i h0
  cases hh:Sz a b c with
  |true=>rfl
  |false=>unfold nbI at h0;rw[Hd hh]at h0;simp at h0
 ·rename_i h0;simp at h;exact absurd h.2.2 h0
theorem Wa (a b:Int) (w:Aj) (hs:okS a b=true):Al Do 202 #[.agg #[a,b]] w (Gy (Aa Ab (Hg a b)) w):=by
 obtain⟨m1,m2,m3,m4,m5,m6⟩:=Mg hs;have e0:4*a*b=4*(a*b):=Cv _ _ _;obtain⟨m,hm⟩:=ey (4*a*b);have am:(Hg a b:Int)=m:=by unfold Hg;rw[hm];omega
 rw[am];have HM:=Ah hm;have HS:=Ah hs;have k1:Ab.wrap (4*a)=4*a:=Ca _ Gu;have k2:Ab.wrap (4*a*b)=m:=by rw[Ca _ Gu];exact hm
 have H:=(Bx.start w).new #[a,b] 25 rfl;clear hm hs am e0 m1 m2 m3 m4 m5 m6;go_enter Tryz.func202,Tryz.ntmps202;go_upto_region 1 with fail;generalize w.alloc _=W at H⊢;generalize w.heap.size=N at H⊢;obtain⟨⟨a0,a1⟩,_⟩:=Hn (H.b 0);go_wp2_with fail;refine(Ju a b _).mono ?_;rintro e w2 ⟨rfl,hb⟩;rw[HS.out,Ls];have H2:=H.call hb;clear a0 a1 hb;obtain⟨⟨a0,a1⟩,_⟩:=Hn (H2.b 0);go_wp2;go_ret;exact⟨rfl,H2.below⟩
theorem Av4 (a b c e:Int) (w:Aj) (hs:okS a b=true) (he:0<=e) (hn:Ig a b c e=((c:Int),(e:Int),(0:Int))) (hQ:Qf w):
  Al Do 259 #[.agg #[a,b],.agg #[c,Aa Ac e]] w (Gy (.tuple #[.agg #[Aa Ab (c/4%a),Aa Ab (c/4/a),Aa Ac (c%4)],Aa Ab 0]) w):=by
 have HH:=Ah (pN hn);have HN:=Ah λw h=>Zh a b c e w hs he h;rw[hn]at HN;unfold Vu at HN;dsimp only at HN;have yp:=Ah λw=>mU a b c w hs HH.out;obtain⟨x,hx⟩:=ey (c/4%a);obtain⟨y,hy⟩:=ey (c/4/a);obtain⟨q,hq⟩:=ey (c%4);rw[hx,hy,hq]at yp;rw[hx,hy,hq];have HS:=Ah hs;have HQ:=Ah hQ;have H:=(((Bx.start w).new #[a,b] 25 rfl).new #[c,Aa Ac e] 194 (N:=w.heap.size+1) Gx).new #[Aa Ab 0,Aa Ab 0,Aa Ac 0] 90 (N:=w.heap.size+2) Gx;clear hx hy hq hs hn hQ;go_enter Tryz.func259,Tryz.ntmps259;go_upto_region 1 with fail;generalize ((w.alloc _).alloc _).alloc _=W at H⊢;generalize w.heap.size=N at H⊢;obtain⟨P,hP⟩:=ez (N+2);rw[<-hP]at H;rw[show N+1+1=P from hP.symm];clear hP;obtain⟨⟨a0,a1⟩,_⟩:=Hn (H.b 0);go_wp2_with fail;refine(Ju a b _).mono ?_;rintro ee w2 ⟨rfl,hb⟩;rw[HS.out,Ls];have H2:=H.call hb;clear a0 a1 hb H;obtain⟨⟨a0,a1⟩,_⟩:=Hn (H2.b 0);obtain⟨⟨b0,b1⟩,_⟩:=Hn (H2.b 1);go_wp2_with fail;refine(HN.out _ (HQ.out.below H2.below).qt).mono ?_;rintro ee w3 ⟨rfl,hb⟩;have H3:=H2.call hb;clear a0 a1 b0 b1 hb H2;obtain⟨⟨a0,a1⟩,_⟩:=Hn (H3.b 0);obtain⟨⟨b0,b1⟩,_⟩:=Hn (H3.b 1);have l0:=H3.lt 0 rfl;have l1:=H3.lt 1 rfl;have l2:=H3.lt 2 rfl;go_wp2_with fail;refine(yp.out _).mono ?_;rintro ee w4 ⟨rfl,hb⟩;have H4:=(H3.other _).call hb;clear a0 a1 b0 b1 hb H3;obtain⟨⟨d0,d1,d2⟩,f0,f1,f2⟩:=He (H4.b 2);go_wp2_with fail;have H5:=((H4.set 2 0 rfl (Aa Ab x)).set 2 1 rfl (Aa Ab y)).set 2 2 rfl (Aa Ac q);exact Ai (Hj rfl rfl (H5.range 2 rfl) Tryz.underlying90 rfl Gw) rfl ⟨rfl,H5.below⟩
theorem mT {a b:Int} {c:Nat} (hs:okS a b=true) (hh:Sz a b c=true):(Hf a c).ok=true:=by
 obtain⟨m1,m2,m3,m4,m5,m6⟩:=Mg hs;obtain⟨i1,i2⟩:=Ot.1 hh;have e0:4*a*b=4*(a*b):=Cv _ _ _;have d3:=Int.emod_nonneg ((c:Int)/4) (show a≠0 by omega);have d4:=Int.emod_lt_of_pos ((c:Int)/4) (show 0<a by omega);have d5:0<=(c:Int)/4/a:=Int.ediv_nonneg Gu Gu;have d6:(c:Int)/4/a<=(c:Int)/4:=Int.ediv_le_self _ Gu;unfold Cl.ok Hf;rw[Jt];dsimp only;refine⟨Gu,Gu,Gu,Gu,Gu⟩
theorem lW (a b:Int) (c e:Nat) (w:Aj) (hs:okS a b=true) (he:e<=2) (hn:Ig a b c e=((c:Int),(e:Int),(0:Int))) (hQ:Qf w):
  Al Do 214 #[.agg #[a,b],.agg #[c,Aa Ac e]] w (Gy (lnR (Xc (Hf a c) e)) w):=by
 have HN:=Ah λw h=>Av4 a b c e w hs Gu hn h;have el:=mT hs (pN hn);have HL:=Ah λw h=>mR (Hf a c) e w el he h;obtain⟨⟨⟨rk,rc⟩,re⟩,hR⟩:∃R,Xc (Hf a c) e=R:=⟨_,rfl⟩;rw[hR]at HL⊢;unfold lnR at HL⊢;dsimp only at HL⊢;have hq4:(c:Int)%4=((c%4:Nat):Int):=Gu;rw[hq4]at HN;unfold Hf at HL;dsimp only at HL;obtain⟨x,hx⟩:=ey ((c:Int)/4%a);obtain⟨y,hy⟩:=ey ((c:Int)/4/a);obtain⟨q,hq⟩:=ey (c%4);rw[hx,hy,hq]at HN HL;have HQ:=Ah hQ;have H:=(((Bx.start w).new #[a,b] 25 rfl).new #[c,Aa Ac e] 194 (N:=w.heap.size+1) Gx).new #[Aa Ac 0,Aa Ab 0] 48 (N:=w.heap.size+2) Gx;clear hx hy hq hs hn hQ hR el hq4;go_enter Tryz.func214,Tryz.ntmps214;go_upto_region 1 with fail;generalize ((w.alloc _).alloc _).alloc _=W at H⊢;generalize w.heap.size=N at H⊢;obtain⟨P,hP⟩:=ez (N+2);rw[<-hP]at H;rw[show N+1+1=P from hP.symm];clear hP;obtain⟨⟨a0,a1⟩,_⟩:=Hn (H.b 0);obtain⟨⟨b0,b1⟩,_⟩:=Hn (H.b 1);go_wp2_with fail;refine(HN.out _ (HQ.out.below H.below)).mono ?_;rintro ee w2 ⟨rfl,hb⟩;have H2:=H.call hb;clear a0 a1 b0 b1 hb H;obtain⟨⟨b0,b1⟩,_⟩:=Hn (H2.b 1);have l1:=H2.lt 1 rfl;have l2:=H2.lt 2 rfl;go_wp2_with fail;refine(HL.out _ (HQ.out.below (H2.other _).below)).mono ?_;rintro ee w3 ⟨rfl,hb⟩;have H3:=(H2.other _).call hb;clear b0 b1 hb H2;obtain⟨⟨d0,d1⟩,f0,f1⟩:=Hn (H3.b 2);go_wp2_with fail;have H4:=(H3.set 2 0 rfl (Aa Ac rk)).set 2 1 rfl (Aa Ab rc);exact Ai (Hj rfl rfl (H4.range 2 rfl) Dm rfl Gw) rfl ⟨rfl,H4.below⟩
theorem Ym {w X Y:Aj} (h:Below X.heap.size X Y) (k:Below w.heap.size w X):Below w.heap.size w Y:=k.trans (h.mono k.size)
def No (l:List Mv):List Ak:=l.flatMap Mv.cells
theorem Oa (m:Mv):m.cells.length=3:=rfl
theorem Xx {w:Aj} {g:Nat} {l:List Mv} (h:w.rangeAt g 0 (No l)) (i:Nat) (hi:i<l.length):
  w.cell? ⟨g,i*3,Ae⟩=Af (Aa Ac l[i].t)/\w.cell? ⟨g,i*3+1,Ae⟩=Af (Aa Ab l[i].x)/\w.cell? ⟨g,i*3+2,Ae⟩=Af (Aa Ab l[i].y):=by
 have bi:∀f,f<3->(No l)[i*3+f]? =(l[i].cells)[f]? :=λf hf=>Iv Mv.cells 3 Oa _ i f hi hf;have h0:=h (i*3+0) _ ((bi 0 Gu).trans rfl);have h1:=h (i*3+1) _ ((bi 1 Gu).trans rfl);have h2:=h (i*3+2) _ ((bi 2 Gu).trans rfl);simp only[Bt,De]at h0 h1 h2;exact⟨h0,h1,h2⟩
theorem Bj1 (c:Cl) (e:Nat):0<=(Xc c e).1.1:=by
 unfold Xc
 split
 ·unfold Js
  split
  ·exact(by decide:(0:Int)<=3)
  ·split
   ·exact(by decide:(0:Int)<=4)
   ·split
    ·exact(by decide:(0:Int)<=2)
    ·exact(by decide:(0:Int)<=1)
    ·exact(by decide:(0:Int)<=2)
    ·exact(by decide:(0:Int)<=1)
 ·exact Int.le_refl _
theorem Bk3 (l:Int×Int):(Ur l).1.t<=255:=by
 unfold Ur
 split
 ·unfold ofL
  split
  ·exact(by decide:4<=255)
  ·split
   ·exact(by decide:6<=255)
   ·split
    ·exact(by decide:5<=255)
    ·exact(by decide:7<=255)
 ·exact(by decide:0<=255)
theorem Bk8 (a b i e:Int) (h0:0<=e):0<=(Ig a b i e).2.1/\(Ig a b i e).2.1<=e:=by
 unfold Ig
 split
 ·exact⟨h0,Int.le_refl _⟩
 ·exact⟨Int.le_refl _,h0⟩
theorem rV (a b:Int) (l:List Cr) (out:List Mv) (id e N N4 N5 M go n:Nat) (w:Aj) (hp:Lq a b l) (hQ:Qf w) (hT:Tn w) (hn:n=out.length) (hid:id<n) (he:e<=2) (hm:∀m∈out,m.t<=255)
  (c0:w.cell? ⟨N,0,Ae⟩=Af (Aa Ab a)) (c1:w.cell? ⟨N,1,Ae⟩=Af (Aa Ab b)) (h4:w.cell? ⟨N4,0,Ae⟩=Af (.map (Af M))) (hM:Km unK w M (crM l))
  (h5:w.cell? ⟨N5,0,Ae⟩=Af (Ad (Af ⟨go,0,Ae⟩) n n)) (hr:w.rangeAt go 0 (No out)):
  Al Do 213 #[id,Aa Ac e,.pointer (Af ⟨N,0,Ae⟩),.pointer (Af ⟨N4,0,Ae⟩),.pointer (Af ⟨N5,0,Ae⟩)] w (Gy (Kh a b l out id e).v w):=by
 have B9:id<out.length:=Gu;obtain⟨m0,m1,m2⟩:=Xx hr id B9;have tg:=hm out[id] (Ay _);have OQ:out.getD id mv0=out[id]:=by simp[List.getD,B9]
 obtain⟨R,hR⟩:=ey (Kh a b l out id e);rw[hR];unfold Kh at hR;rw[OQ]at hR;generalize out[id]=m at m0 m1 m2 tg hR;obtain⟨mt,mx,my⟩:=m;dsimp only at m0 m1 m2 tg;have jw:=λw h=>Zh a b id e w hp.sheet (Int.natCast_nonneg e) h;have hne:=Bk8 a b id e (Int.natCast_nonneg e);obtain⟨⟨c,e',er⟩,hu⟩:=ey (Ig a b id e);rw[hu]at jw hR hne;unfold Vu at jw;dsimp only at jw hR hne;have pm:=Bf6 l c e';obtain⟨S,hS⟩:=ey (Nm l c e');rw[hS]at hR pm;have HS:=Ah hS;have HR:=Ah hR;have EL:=Ah jw;have HP:=Ah hp;have HQ:=Ah hQ;have HT:=Ah hT;have HM:=Ah hM;have NP:=Ah pm;have HN:=Ah hn;have qid:(id:Int)<(n:Int):=Gu;have H:=(Bx.start w).new #[Aa Ac 0,Aa Ab 0,Aa Ab 0] 30 rfl;clear hR jw hp hQ hT hM hu hm hr OQ hS pm hn B9;go_enter Tryz.func213,Tryz.ntmps213;go_upto_region 1 with fail;generalize w.alloc _=W at H⊢;generalize w.heap.size=N7 at H⊢;have d0:=Gv H.below c0;have d1:=Gv H.below c1;go_wp2_with fail;refine(EL.out _ (HQ.out.below H.below).qt).mono ?_;rintro e2 w2 ⟨rfl,hb⟩;have H2:=H.call hb;clear d0 d1 hb H;obtain⟨p8,hp8⟩:=ey w2.heap.size;have H3:=H2.new #[c,Aa Ac e'] 194 hp8;go_upto_region 2 with fail;generalize w2.alloc _=W3 at H3⊢;clear hp8 H2;obtain⟨⟨u0,u1⟩,_⟩:=Hn (H3.b 1);have f4:=Gv H3.below h4;have kg:=HM.out.below H3.below HM.out.lt;have pm:=NP.out;obtain⟨⟨r0,r1,r2⟩,z0,z1,z2⟩:=He (H3.b 0);have b0:=Gv H3.below m0;have b1:=Gv H3.below m1;have b2:=Gv H3.below m2;have b5:=Gv H3.below h5
 cases S with
 |false=>
  have HF:Hid (R=⟨mt,mx,my⟩):=Ah (by rw[<-HR.out];rfl);go_wp2_with (at_lookup;refine Vv (z:= .bool false) Tq Tryz.underlying340 (λw=>Gw) _ rfl _ _ _ rfl M (crM l) (c,e') rfl rfl kg ?_;simp only[Ej,if_false];rw[pm]);have H4:=((H3.set 0 0 rfl (Aa Ac mt)).set 0 1 rfl (Aa Ab mx)).set 0 2 rfl (Aa Ab my);exact Ai (Mm rfl rfl (H4.range 0 rfl) Fh rfl Gw) rfl ⟨by rw[HF.out];rfl,H4.below⟩
 |true=>
  have hex:∃r∈l,r.c=c/\r.e=e':=by
   have:=HS.out;unfold Nm at this;rw[Ev]at this;obtain⟨r,h1,h2⟩:=this;simp only[El,Lg]at h2;exact⟨r,h1,h2⟩
  obtain⟨r,na,rfl,rfl⟩:=hex;have E7:=HP.out.name r na;have nv:=HP.out.fit r na;unfold Cr.fit at nv;obtain⟨rc,re,rk⟩:=r;dsimp only at E7 nv hne HR NP kg u0 u1 H3 pm HS EL⊢;obtain⟨cn,rfl⟩:∃cn:Nat,rc=cn:=⟨rc.toNat,Gu⟩;obtain⟨en,rfl⟩:∃en:Nat,re=en:=⟨re.toNat,Gu⟩;have X':=λw h=>lW a b cn en w HP.out.sheet Gu E7 h;have BP:yK a b cn en=Xc (Hf a cn) en:=by unfold yK;rw[Hd E7];simp
  have di:=Bj1 (Hf a cn) en;obtain⟨⟨⟨lk,lc⟩,le⟩,hle⟩:∃z,Xc (Hf a cn) en=z:=⟨_,rfl⟩;rw[hle]at X' BP di;unfold lnR at X';dsimp only at X' di;have hOF:=λw=>Xw lk lc w di;have FQ:=Bk3 (lk,lc);have fa:Hid ((La (Ur (lk,lc)).1 ⟨mt,mx,my⟩).1=R):=Ah (by have:=HR.out;rw[Hd rfl,BP]at this;exact this);obtain⟨⟨⟨rt,rx,ry⟩,re2⟩,pr⟩:∃z,Ur (lk,lc)=z:=⟨_,rfl⟩;rw[pr]at hOF FQ fa;unfold mvR Mv.v at hOF;dsimp only at hOF FQ fa;have hTH:=λw h=>bK ⟨rt,rx,ry⟩ ⟨mt,mx,my⟩ w FQ tg h;obtain⟨⟨⟨qt,qx,qy⟩,qe⟩,WG⟩:∃z,La ⟨rt,rx,ry⟩ ⟨mt,mx,my⟩=z:=⟨_,rfl⟩;rw[WG]at hTH fa;unfold mvR Mv.v at hTH;dsimp only at hTH fa;have AJ:=Ah X';have EM:=Ah hOF;have UF:=Ah λ(w':Aj) (h:Below w.heap.size w w')=>hTH w' (HT.out.below h);clear E7 nv X' BP di hle hOF FQ pr hTH WG HR na hne HS EL HP;have d0:=Gv H3.below c0;have d1:=Gv H3.below c1;go_wp2_with (at_lookup;refine Vv (z:= .bool false) Tq Tryz.underlying340 (λw=>Gw) _ rfl _ _ _ rfl M (crM l) ((cn:Int),(en:Int)) rfl rfl kg ?_;simp only[Ej,if_false];rw[pm]);refine(AJ.out _ (HQ.out.below H3.below)).mono ?_;rintro e2 w4 ⟨rfl,hb⟩;have H4:=H3.call hb;clear d0 d1 hb H3 r0 r1 r2 z0 z1 z2 b0 b1 b2 b5 f4 kg pm u0 u1;obtain⟨p10,hp10⟩:=ey w4.heap.size;have H5:=H4.new #[Aa Ac lk,lc] 48 hp10;go_upto_region 5 with fail;generalize w4.alloc _=W5 at H5⊢;clear hp10 H4;obtain⟨⟨u0,u1⟩,_⟩:=Hn (H5.b 2);go_wp2_with fail;refine(EM.out _).mono ?_;rintro e2 w6 ⟨rfl,hb⟩;have H6:=H5.call hb;clear hb H5 u0 u1;obtain⟨L1,tl⟩:=ey w6.heap.size;have H7:=H6.new #[Aa Ac rt,rx,ry] 30 tl;go_upto_region 6 with fail;generalize w6.alloc _=W at H7⊢;have H:=H7;clear tl H6 H7;have un:=H.below
  go_cut [14] (λs14 wx=>∃IN,s14= .pointer (Af ⟨IN,0,Ae⟩)/\Bx w [(N7,#[Aa Ac 0,Aa Ab 0,Aa Ab 0],30),(p8,#[cn,Aa Ac en],194),(p10,#[Aa Ac lk,lc],48),(L1,#[Aa Ac rt,rx,ry],30),(IN,#[Aa Ac qt,qx,qy],30)] wx)
  case first=>
   obtain⟨⟨s0,s1,s2⟩,_⟩:=He (H.b 3);have b0:=Gv H.below m0;have b1:=Gv H.below m1;have b2:=Gv H.below m2;have b5:=Gv H.below h5;have ae:Hid (∀W',Below W.heap.size W W'->(λw':Aj=>w'.cell? ⟨L1,0,Ae⟩=Af (Aa Ac rt)/\w'.cell? ⟨L1,1,Ae⟩=Af (Aa Ab rx)/\w'.cell? ⟨L1,2,Ae⟩=Af (Aa Ab ry)/\w'.cell? ⟨N5,0,Ae⟩=Af (Ad (Af ⟨go,0,Ae⟩) n n)/\w'.cell? ⟨go,id*3,Ae⟩=Af (Aa Ac mt)/\w'.cell? ⟨go,id*3+1,Ae⟩=Af (Aa Ab mx)/\w'.cell? ⟨go,id*3+2,Ae⟩=Af (Aa Ab my)) W'):=Ah λW' h=>⟨Gv h s0,Gv h s1,Gv h s2,Gv h b5,Gv h b0,Gv h b1,Gv h b2⟩;clear s0 s1 s2 b0 b1 b2 b5 c0 c1 h4 h5 m0 m1 m2 HQ HT HM NP HN AJ EM fa;refine Ao (S:=(λw':Aj=>w'.cell? ⟨L1,0,Ae⟩=Af (Aa Ac rt)/\w'.cell? ⟨L1,1,Ae⟩=Af (Aa Ab rx)/\w'.cell? ⟨L1,2,Ae⟩=Af (Aa Ab ry)/\w'.cell? ⟨N5,0,Ae⟩=Af (Ad (Af ⟨go,0,Ae⟩) n n)/\w'.cell? ⟨go,id*3,Ae⟩=Af (Aa Ac mt)/\w'.cell? ⟨go,id*3+1,Ae⟩=Af (Aa Ab mx)/\w'.cell? ⟨go,id*3+2,Ae⟩=Af (Aa Ab my))) Gw (ae.out _ (Ag _ _).drew) (λhS=>?_);have hb:Below W.heap.size W W.drew:=(Ag _ _).drew;have H:=H.drew;generalize W.drew=X0 at H hb⊢;have hS:=ae.out _ hb;refine wpAnyH_take (i:=0) (v:=?_) rfl Gw Gw Gw (λ_ _ _ h=>h) (Or.inl ⟨by rfl,?_⟩) hS ?_;rotate_left
   ·intro w0 hSw
    (try dsimp only at hSw)
    go_split_ands;go_simp
    try with_reducible rfl
   try simp only[Act.put,Ce,Cc,Ch,Cf,Cg]
   refine wpAnyH_take (i:=1) (v:=?_) rfl Gw Gw Gw (λ_ _ _ h=>h) (Or.inl ⟨by rfl,?_⟩) hS ?_;rotate_left
   ·intro w0 hSw
    (try dsimp only at hSw)
    go_split_ands;go_simp
    try with_reducible rfl
   try simp only[Act.put,Ce,Cc,Cd,Ch,Cf,Cg]
   refine wpAnyH_take (i:=2) (v:=?_) rfl Gw Gw Gw (λ_ _ _ h=>h) (Or.inl ⟨by rfl,?_⟩) hS ?_;rotate_left
   ·intro w0 hSw
    (try dsimp only at hSw)
    go_split_ands;go_simp
    try with_reducible rfl
   try simp only[Act.put,Ce,Cc,Cd,Ch,Cf,Cg]
   refine wpAnyH_take (i:=3) (v:=?_) rfl Gw Gw Gw (λ_ _ _ h=>h) (Or.inl ⟨by rfl,?_⟩) hS ?_;rotate_left
   ·intro w0 hSw
    (try dsimp only at hSw)
    go_split_ands;go_simp
    try with_reducible rfl
   try simp only[Act.put,Ce,Cc,Cd,Ch,Cf,Cg]
   refine wpAnyH_take (i:=4) (v:=?_) rfl Gw Gw Gw (λ_ _ _ h=>h) (Or.inl ⟨by rfl,?_⟩) hS ?_;rotate_left
   ·intro w0 hSw
    (try dsimp only at hSw)
    go_split_ands;go_simp
    try with_reducible rfl
   try simp only[Act.put,Ce,Cc,Cd,Ch,Cf,Cg]
   refine Ap (rs:=[5,9]) Gw Gx (Aq rfl (λK hK=>?_) (Aq rfl (λK hK=>?_) Ar))
   ·go_simp;refine(UF.out _ (Ym hb un)).mono ?_;rintro e X1 ⟨rfl,ac⟩;have hb:=hb.trans (ac.mono hb.size);have H:=H.call ac;refine hK.o (ae.out _ hb) (λhS=>?_);clear hK K ac;refine wpAnyH_take (i:=6) (v:=?_) rfl Gw Gw Gw (λ_ _ _ h=>h) (Or.inl ⟨by rfl,?_⟩) hS ?_;rotate_left
    ·intro w0 hSw
     (try dsimp only at hSw)
     go_split_ands;go_simp
     try with_reducible rfl
    try simp only[Act.put,Ce,Cc,Cd,Ch,Cf,Cg]
    refine wpAnyH_take (i:=7) (v:=?_) rfl Gw Gw Gw (λ_ _ _ h=>h) (Or.inl ⟨by rfl,?_⟩) hS ?_;rotate_left
    ·intro w0 hSw
     (try dsimp only at hSw)
     go_split_ands;go_simp
     try with_reducible rfl
    try simp only[Act.put,Ce,Cc,Cd,Ch,Cf,Cg]
    refine wpAnyH_take (i:=8) (v:=?_) rfl Gw Gw Gw (λ_ _ _ h=>h) (Or.inl ⟨by rfl,?_⟩) hS ?_;rotate_left
    ·intro w0 hSw
     (try dsimp only at hSw)
     go_split_ands;go_simp
     try with_reducible rfl
    try simp only[Act.put,Ce,Cc,Cd,Ch,Cf,Cg]
    refine Ap (rs:=[9]) Gw Gx (Aq rfl (λK hK=>?_) Ar);obtain⟨IN,hp⟩:=ey X1.heap.size;have hl:W.heap.size<=IN:=hp▸hb.size;have hb:=hb.alloc hb.size (.cells #[Aa Ac 0,Aa Ab 0,Aa Ab 0] 30);have H:=H.new #[Aa Ac 0,Aa Ab 0,Aa Ab 0] 30 hp;go_simp;refine hK.o (ae.out _ hb) (λhS=>?_);clear hK K hS;generalize X1.alloc _=X2 at H hb⊢;clear hp;have hS:=ae.out _ hb;refine Ap (rs:=[10]) Gw Gx (Aq rfl (λK hK=>?_) Ar);obtain⟨⟨y0,y1,y2⟩,z0,z1,z2⟩:=He (H.b 4);have hb:=((hb.setCell (p:=⟨IN,0,Ae⟩) hl (Aa Ac qt)).setCell (p:=⟨IN,1,Ae⟩) hl (Aa Ab qx)).setCell (p:=⟨IN,2,Ae⟩) hl (Aa Ab qy);have H:=((H.set 4 0 rfl (Aa Ac qt)).set 4 1 rfl (Aa Ab qx)).set 4 2 rfl (Aa Ab qy);go_simp;refine hK.o (ae.out _ hb) (λhS=>?_);clear hK K y0 y1 y2 z0 z1 z2;refine Ap (rs:=[11]) Gw Gx (Aq rfl (λK hK=>?_) Ar);go_simp;refine hK.o (ae.out _ hb) (λhS=>?_);clear hK K;refine An Gw ?_ _;go_wp2;go_meet;exact⟨_,rfl,H⟩
   ·obtain⟨IN,hp⟩:=ey X0.heap.size;have hl:W.heap.size<=IN:=hp▸hb.size;have hb:=hb.alloc hb.size (.cells #[Aa Ac 0,Aa Ab 0,Aa Ab 0] 30);have H:=H.new #[Aa Ac 0,Aa Ab 0,Aa Ab 0] 30 hp;go_simp;refine hK.o (ae.out _ hb) (λhS=>?_);clear hK K hS;generalize X0.alloc _=X1 at H hb⊢;clear hp;have hS:=ae.out _ hb;refine Ap (rs:=[5]) Gw Gx (Aq rfl (λK hK=>?_) Ar);go_simp;refine(UF.out _ (Ym hb un)).mono ?_;rintro e X2 ⟨rfl,ac⟩;have hb:=hb.trans (ac.mono hb.size);have H:=H.call ac;refine hK.o (ae.out _ hb) (λhS=>?_);clear hK K ac;refine wpAnyH_take (i:=6) (v:=?_) rfl Gw Gw Gw (λ_ _ _ h=>h) (Or.inl ⟨by rfl,?_⟩) hS ?_;rotate_left
    ·intro w0 hSw
     (try dsimp only at hSw)
     go_split_ands;go_simp
     try with_reducible rfl
    try simp only[Act.put,Ce,Cc,Cd,Ch,Cf,Cg]
    refine wpAnyH_take (i:=7) (v:=?_) rfl Gw Gw Gw (λ_ _ _ h=>h) (Or.inl ⟨by rfl,?_⟩) hS ?_;rotate_left
    ·intro w0 hSw
     (try dsimp only at hSw)
     go_split_ands;go_simp
     try with_reducible rfl
    try simp only[Act.put,Ce,Cc,Cd,Ch,Cf,Cg]
    refine wpAnyH_take (i:=8) (v:=?_) rfl Gw Gw Gw (λ_ _ _ h=>h) (Or.inl ⟨by rfl,?_⟩) hS ?_;rotate_left
    ·intro w0 hSw
     (try dsimp only at hSw)
     go_split_ands;go_simp
     try with_reducible rfl
    try simp only[Act.put,Ce,Cc,Cd,Ch,Cf,Cg]
    refine Ap (rs:=[10]) Gw Gx (Aq rfl (λK hK=>?_) Ar);obtain⟨⟨y0,y1,y2⟩,z0,z1,z2⟩:=He (H.b 4);have hb:=((hb.setCell (p:=⟨IN,0,Ae⟩) hl (Aa Ac qt)).setCell (p:=⟨IN,1,Ae⟩) hl (Aa Ab qx)).setCell (p:=⟨IN,2,Ae⟩) hl (Aa Ab qy);have H:=((H.set 4 0 rfl (Aa Ac qt)).set 4 1 rfl (Aa Ab qx)).set 4 2 rfl (Aa Ab qy);go_simp;refine hK.o (ae.out _ hb) (λhS=>?_);clear hK K y0 y1 y2 z0 z1 z2;refine Ap (rs:=[11]) Gw Gx (Aq rfl (λK hK=>?_) Ar);go_simp;refine hK.o (ae.out _ hb) (λhS=>?_);clear hK K;refine An Gw ?_ _;go_wp2;go_meet;exact⟨_,rfl,H⟩
  obtain⟨IN,rfl,H⟩:=hcut;obtain⟨⟨s0,s1,s2⟩,_⟩:=He (H.b 4);obtain⟨⟨r0,r1,r2⟩,z0,z1,z2⟩:=He (H.b 0);go_wp2_with fail;have H4:=((H.set 0 0 rfl (Aa Ac qt)).set 0 1 rfl (Aa Ab qx)).set 0 2 rfl (Aa Ab qy);exact Ai (Mm rfl rfl (H4.range 0 rfl) Fh rfl Gw) rfl ⟨by rw[<-fa.out];rfl,H4.below⟩
theorem xC (b off n:Nat):(⟨b,off,Ae⟩:Ci).add n=⟨b,off+n,Ae⟩:=by
 unfold Addr.add;split
 ·rename_i h;subst h;rfl
 ·rfl
theorem Az4 {P:Program} {t:Cj} {n:Nat} {i:TypeInfo} (hi:P.info? t=Af i) (h:i.size=n) (w:Aj):(sizeOf t).run P w= .ok n w:=by
 simp[sizeOf,run_typeInfo w hi,h]
theorem Az3 {P:Program} {sT xT ty elem e:Cj} {w w':Aj} {b off sLen sCap n size:Nat} {y:Ak} {i:TypeInfo} {new:Array Ak} (hu:P.underlying sT=Af (.slice elem)) (hd:P.underlying xT=Af (.slice e))
  (hi:P.info? elem=Af i) (hs:i.size=size) (hn:(Builtin.lenOf y).run P w= .ok n w) (hc:sLen+n<=sCap) (hf:(Fv size n y).run P w= .ok new w)
  (br:(storeCells ⟨b,off+sLen*size,Ae⟩ new.toList).run P w= .ok () w'):
  (Builtin.append_ #[sT,xT] ty #[Ad (Af ⟨b,off,Ae⟩) sLen sCap,y]).run P w= .ok (Ad (Af ⟨b,off,Ae⟩) (sLen+n) sCap) w':=by
 simp[Builtin.append_,run_underlying hu,run_underlying hd,Az4 hi hs,hn,hc,hf,xC,br]
theorem xW (yg B:Nat) (hB:yg<=B):∀(r c:Nat),c<=2*B->Builtin.growBy yg r c<=2*B+B/4+1000
 |0,c,hc=>by simp only[Builtin.growBy];omega
 |r+1,c,hc=>by
  simp only[Builtin.growBy]
  split
  ·omega
  ·rename_i h;by_cases h2:c+(c+768)/4<=2*B
   ·exact xW yg B hB r _ h2
   ·have h3:yg<=c+(c+768)/4:=Gu
    cases r with
    |zero=>simp only[Builtin.growBy];omega
    |succ r=>simp only[Builtin.growBy];rw[Hd h3];omega
theorem Bl3 {TD cap:Nat} (h1:TD<=1000000) (h2:cap<TD):Builtin.nextslicecap TD cap<=3000000:=by
 unfold Builtin.nextslicecap
 split
 ·omega
 ·split
  ·omega
  ·have:=xW TD 1000000 h1 4 cap Gu;omega
theorem Ai9 {P:Program} {sT xT ty elem e:Cj} {w:Aj} {base:Option Ci} {sLen sCap n size:Nat} {y z:Ak} {i:TypeInfo} {old new:Array Ak} (hu:P.underlying sT=Af (.slice elem)) (hd:P.underlying xT=Af (.slice e))
  (hi:P.info? elem=Af i) (hs:i.size=size) (hb:i.bytes*3000000<=281474976710656) (hn:(Builtin.lenOf y).run P w= .ok n w) (hc:sCap<sLen+n) (hl:sLen+n<=1000000)
  (ho:(Fv size sLen (Ad base sLen sCap)).run P w.drew= .ok old w.drew) (hf:(Fv size n y).run P w.drew= .ok new w.drew) (hz:(zeroValue elem).run P w.drew= .ok z w.drew):
  ∃EC,sLen+n<=EC/\(Builtin.append_ #[sT,xT] ty #[Ad base sLen sCap,y]).run P w=
   .ok (Ad (Af ⟨w.heap.size,0,Ae⟩) (sLen+n) EC) (w.drew.alloc (.cells (old++new++Gm z.cells (EC-(sLen+n))) elem)):=by
 have h2:¬(Builtin.nextslicecap (sLen+n) sCap*i.bytes>2^48):=by
  have:=Bl3 hl hc;have h3:Builtin.nextslicecap (sLen+n) sCap*i.bytes<=3000000*i.bytes:=Ft _ this;have:(2:Nat)^48=281474976710656:=Ha;omega
 have h4:¬(((sLen+n:Nat):Int)>IntKind.i64.max):=by
  have:IntKind.i64.max=9223372036854775807:=Ha;omega
 have h5:¬(sLen+n<=sCap):=Gu
 have hch:(choose (.appendCap (sLen+n) sCap elem)).run P w= .ok (sLen+n+w.tape w.drawn (.appendCap (sLen+n) sCap elem)%(2^63-(sLen+n))) w.drew:=by
  rfl
 refine⟨sLen+n+w.tape w.drawn (.appendCap (sLen+n) sCap elem)%(2^63-(sLen+n)),Gu,?_⟩;generalize hq:sLen+n+w.tape w.drawn (.appendCap (sLen+n) sCap elem)%(2^63-(sLen+n))=q at hch
 have zc:∀m,(askRoom m).run P w.drew= .ok () w.drew:=by
  intro m;unfold askRoom;split<;>rfl
 have jo:∀cs,(newRow elem cs).run P w.drew= .ok ⟨w.heap.size,0,Ae⟩ (w.drew.alloc (.cells cs elem)):=λcs=>rfl;simp only[Builtin.append_,List.getElem?_toArray,List.getElem?_cons_zero,Cw,Gq,run_underlying hu,run_underlying hd,Fo,Az4 hi hs,Sem.run_pure,hn,Gz h5,h4,false_and,if_false,run_typeInfo w hi,Gz h2,hch,run_typeInfo w.drew hi,zc,ho,hf,hz,jo,Ej,Bool.not_false,if_true]
theorem Km.setCell {κ:Type} {K:κ->Ak} {w:Aj} {M:Nat} {l:List (κ×Ak)} (h:Km K w M l) (p:Ci) (v:Ak):Km K (w.setCell p v) M l:=by
 obtain⟨es,cl,h1,h2⟩:=h;refine⟨es,cl,?_,h2⟩;unfold World.setCell;simp only[Df]
 split
 ·rename_i e;subst e;rw[h1];rfl
 ·exact h1
theorem Km.drew {κ:Type} {K:κ->Ak} {w:Aj} {M:Nat} {l:List (κ×Ak)} (h:Km K w M l):Km K w.drew M l:=h
theorem Bx.setOther {w wr:Aj} {l:List (Nat×Array Ak×Cj)} (h:Bx w l wr) {g:Nat} (hg:w.heap.size<=g) (hne:∀(i:Nat) (x:Nat×Array Ak×Cj),l[i]? =Af x->x.1≠g) (j:Nat) (v:Ak):Bx w l (wr.setCell ⟨g,j,Ae⟩ v):=
 ⟨h.below.setCell (p:=⟨g,j,Ae⟩) hg v,λi b cs t hi=>(Dp wr ⟨g,j,Ae⟩ v b (hne i _ hi)).trans (h.blk i b cs t hi),h.lo,h.inj⟩
def QAt (w:Aj) (base:Nat) (av:List Nat) (v:Ak) (l:List Nat):Prop:=
 ∃g o c cw,v= Ad (Af ⟨g,o,Ae⟩) l.length c/\base<=g/\(∀x∈av,x≠g)/\w.heap[g]? =Af (Obj.cells cw 3 (0,0))/\l.length<=c/\o+c<=cw.size/\∀i,(h:i<l.length)->cw[o+i]? =Af (Aa Ab (l[i]:Nat))
theorem QAt.below {w w':Aj} {base:Nat} {av:List Nat} {v:Ak} {l:List Nat} (h:QAt w base av v l) (hb:Below w.heap.size w w'):QAt w' base av v l:=by
 obtain⟨g,o,c,cw,h1,h2,h3,h4,h5⟩:=h;exact⟨g,o,c,cw,h1,h2,h3,kept hb h4 (Au.1 h4).1,h5⟩
theorem QAt.set {w:Aj} {base:Nat} {av:List Nat} {v:Ak} {l:List Nat} (h:QAt w base av v l) {b:Nat} (hb:b∈av) (j:Nat) (u:Ak):QAt (w.setCell ⟨b,j,Ae⟩ u) base av v l:=by
 obtain⟨g,o,c,cw,h1,h2,h3,h4,h5⟩:=h;exact⟨g,o,c,cw,h1,h2,h3,(Dp w ⟨b,j,Ae⟩ u g (Ne.symm (h3 b hb))).trans h4,h5⟩
theorem QAt.head {w:Aj} {base:Nat} {av:List Nat} {v:Ak} {x:Nat} {l:List Nat} (h:QAt w base av v (x::l)):
  ∃g o c,v= Ad (Af ⟨g,o,Ae⟩) (l.length+1) c/\l.length+1<=c/\w.cell? ⟨g,o,Ae⟩=Af (Aa Ab (x:Nat))/\QAt w base av (Ad (Af ⟨g,o+1,Ae⟩) l.length (c-1)) l:=by
 obtain⟨g,o,c,cw,h1,h2,h3,h4,h5,h6,h7⟩:=h;simp only[En]at h1 h5 h7;refine⟨g,o,c,h1,h5,?_,g,o+1,c-1,cw,rfl,h2,h3,h4,Gu,Gu,λi hi=>?_⟩
 ·rw[By w g o cw _ (0,0) h4];have:=h7 0 Gu;simpa using this
 ·have:=h7 (i+1) Gu;rw[show o+1+i=o+(i+1)by omega,this];simp
theorem Cd3:∃i,Tryz.prog.info? 3=Af i/\i.size=1/\i.bytes=8:=by
 have h:(Tryz.prog.info? 3).map (λi=>(i.size,i.bytes))=Af (1,8):=Gw
 cases hi:Tryz.prog.info? 3 with
 |none=>rw[hi]at h;cases h
 |some i=>rw[hi]at h;injection h with h;injection h with h1 h2;exact⟨i,rfl,h1,h2⟩
theorem Bo2 (w:Aj):(zeroValue 3).run Do w= .ok (Aa Ab 0) w:=Gw
theorem QAt.push {w:Aj} {base:Nat} {av:List Nat} {v:Ak} {l:List Nat} (h:QAt w base av v l) (hl:l.length<900000) (kq:base<=w.heap.size) (hav:∀x∈av,x<w.heap.size) (x gy cy:Nat) (hy:w.cell? ⟨gy,0,Ae⟩=Af (Aa Ab (x:Nat))):
  ∃v' w',(Builtin.append_ #[38,38] 38 #[v,Ad (Af ⟨gy,0,Ae⟩) 1 cy]).run Do w= .ok v' w'/\QAt w' base av v' (l++[x])/\
   ((∃g j,base<=g/\(∀x∈av,x≠g)/\w'=w.setCell ⟨g,j,Ae⟩ (Aa Ab (x:Nat)))∨∃o,w'=w.drew.alloc o):=by
 obtain⟨g,o,c,cw,rfl,h2,h3,h4,h5,h6,h7⟩:=h;obtain⟨i,hi,hs,hbt⟩:=Cd3;have hu:Tryz.prog.underlying 38=Af (.slice 3):=Tryz.underlying38;have hn:∀W:Aj,(Builtin.lenOf (Ad (Af ⟨gy,0,Ae⟩) 1 cy)).run Do W= .ok 1 W:=λW=>rfl
 have VS:∀W:Aj,W.cell? ⟨gy,0,Ae⟩=Af (Aa Ab (x:Nat))->(Fv 1 1 (Ad (Af ⟨gy,0,Ae⟩) 1 cy)).run Do W= .ok #[(x:Nat)] W:=λW hW=>by
  have:=run_loadCells_list (P:=Do) (w:=W) ⟨gy,0,Ae⟩ [Aa Ab (x:Nat)] (λj u hu=>by
   cases j with
   |zero=>simp at hu;subst hu;exact hW
   |succ j=>simp at hu)
  simpa[Fv]using this
 by_cases hc:l.length+1<=c
 ·
  have br:(storeCells ⟨g,o+l.length*1,Ae⟩ [Aa Ab (x:Nat)]).run Do w= .ok () (w.setCell ⟨g,o+l.length,Ae⟩ (Aa Ab (x:Nat))):=by
   have bt:(w.cell? ⟨g,o+l.length,Ae⟩).isSome=true:=by rw[By w g _ cw _ (0,0) h4];simp;omega
   have RI:w.frozen? ⟨g,o+l.length,Ae⟩=false:=by simp[Dz,h4]
   have:=run_storeCells_cells (P:=Do) g (o+l.length) [Aa Ab (x:Nat)] 0 w (λj hj=>by
    have:j=0:=by simpa using hj
    subst this;exact bt) (λj hj=>by
    have:j=0:=by simpa using hj
    subst this;exact RI) (λu hu=>by simp at hu;subst hu;rfl)
   rw[Db];exact this
  have ah:=Az3 (P:=Do) (ty:=38) (sT:=38) (xT:=38) (b:=g) (off:=o) (sLen:=l.length) (sCap:=c) (n:=1) (size:=1) (y:= Ad (Af ⟨gy,0,Ae⟩) 1 cy) hu hu hi hs (hn w) hc (VS w hy) br;refine⟨_,_,ah,⟨g,o,c,_,Gx,h2,h3,Jv _ h4,by simpa using hc,Hu,λj hj=>?_⟩,.inl ⟨g,_,h2,h3,rfl⟩⟩;simp only[Bh,En,Cq]at hj;by_cases e:j=l.length
  ·subst e;rw[Array.getElem?_setIfInBounds];simp;omega
  ·rw[Array.getElem?_setIfInBounds,Gz Gu,h7 j Gu,List.getElem_append_left Gu]
 ·
  have hold:(Fv 1 l.length (Ad (Af ⟨g,o,Ae⟩) l.length c)).run Do w.drew= .ok (l.map λ(i:Nat)=>Value.int .i64 (i:Int)).toArray w.drew:=by
   have:=run_loadCells_list (P:=Do) (w:=w.drew) ⟨g,o,Ae⟩ (l.map λ(i:Nat)=>Value.int .i64 (i:Int)) (λj u hu=>by
    have hj:j<l.length:=by
     by_cases hj:j<l.length
     ·exact hj
     ·rw[Ei Hu]at hu;cases hu
    have e:w.drew.cell? ⟨g,o+j,Ae⟩=w.cell? ⟨g,o+j,Ae⟩:=rfl;rw[xC,e,By w g _ cw _ (0,0) h4,h7 j hj];simp[hj]at hu;rw[<-hu])
   simpa[Fv]using this
  obtain⟨q,hq,ah⟩:=Ai9 (P:=Do) (ty:=38) (sT:=38) (xT:=38) (base:=Af ⟨g,o,Ae⟩) (sLen:=l.length) (sCap:=c) (n:=1) (size:=1) (y:= Ad (Af ⟨gy,0,Ae⟩) 1 cy) (i:=i) hu hu hi hs (by rw[hbt];decide) (hn w) Gu Gu hold (VS w.drew hy) (Bo2 w.drew);refine⟨_,_,ah,⟨w.heap.size,0,q,_,Gx,kq,λy hy=>Nat.ne_of_lt (hav y hy),Bz w.drew _,by simpa using hq,?_,λj hj=>?_⟩,.inr ⟨_,rfl⟩⟩
  ·simp[Gm,Value.cells];omega
  ·simp only[Bh,En,Cq]at hj;rw[Bt];rw[Array.getElem?_append_left Hu];by_cases e:j=l.length
   ·subst e;simp
   ·rw[Array.getElem?_append_left Hu];simp[show j<l.length by omega]
def unk (kn:List Bool):Nat:=(kn.filter (λb=> !b)).length
theorem zS:∀(kn:List Bool) (n:Nat),n<kn.length->kn.getD n false=false->unk (kn.set n true)+1=unk kn
 |[],n,h,_=>by simp at h
 |b::kn,0,_,h=>by
  simp at h;subst h;simp[unk]
 |b::kn,n+1,h,h0=>by
  have ih:=zS kn n (by simpa using h) (by simpa using h0);unfold unk at ih⊢
  cases b<;>simp<;>omega
def RS.mm (s:RS):Nat:=unk s.known+s.wait.length
structure By2 (k:Nat) (s:RS):Prop where
 out:s.out.length=k
 known:s.known.length=k
 wait:∀i∈s.wait,i<k
 t:∀m∈s.out,m.t<=255
def Ui (a b:Int) (l:List Cr) (id:Nat):Nat->RS->Option RS
 |0,s=>Af s
 |j+1,s=>(Ox a b l id (2-j) s).bind (Ui a b l id j)
theorem qI (a b:Int) (l:List Cr) (id:Nat) (s:RS):Qr a b l id s=Ui a b l id 3 s:=by
 show((Ox a b l id 0 s).bind λs=>(Ox a b l id 1 s).bind λs=>Ox a b l id 2 s)=(Ox a b l id 0 s).bind λs=>(Ox a b l id 1 s).bind λs=>(Ox a b l id 2 s).bind Af
 cases Ox a b l id 0 s with
 |none=>rfl
 |some s1=>
  simp only[Option.bind_some]
  cases Ox a b l id 1 s1 with
  |none=>rfl
  |some s2=>
   simp only[Option.bind_some]
   cases Ox a b l id 2 s2<;>rfl
theorem zP (x y:Mv):(La x y).1.t<=255:=by
 unfold La
 split
 ·unfold Vt gJ
  split
  ·rename_i h;have:=(Mv.ok_iff.1 h).1;exact Br (Nat.le_of_lt this) Ha
  ·exact(by decide:0<=255)
 ·exact(by decide:0<=255)
theorem mD (a b:Int) (l:List Cr) (out:List Mv) (id e:Nat) (h:∀m∈out,m.t<=255):(Kh a b l out id e).t<=255:=by
 unfold Kh
 split
 ·exact zP _ _
 ·rw[List.getD_eq_getElem?_getD]
  cases ho:out[id]? with
  |none=>exact(by decide:0<=255)
  |some m=>exact h m (List.mem_of_getElem? ho)
theorem fF {a b i e:Int} (hs:okS a b=true) (h:(nbI a b i e).2=0):0<=(nbI a b i e).1/\(nbI a b i e).1<4*a*b:=by
 unfold nbI at h⊢
 split at h
 ·cases h
 ·rename_i h1;rw[Gz h1]
  split at h
  ·rename_i h2;rw[Hd h2];have hq:=uJ (i/4%a) (i/4/a) (i%4) e;unfold idI at h⊢
   split at h
   ·rename_i h3;rw[Hd h3];obtain⟨_,x1,x2,y1,y2⟩:=Za.1 h3;obtain⟨z1,z2,z3⟩:=Bp2 hs ⟨x1,x2⟩ ⟨y1,y2⟩;have e0:4*a*b=4*(a*b):=Cv _ _ _
    constructor
    ·dsimp only;omega
    ·dsimp only;omega
   ·cases h
  ·cases h
theorem Lf {a b:Int} (hs:okS a b=true):((Hg a b:Nat):Int)=4*a*b/\1<=Hg a b/\Hg a b<=1024:=by
 obtain⟨m1,m2,m3,m4,m5,m6⟩:=Mg hs;have e0:4*a*b=4*(a*b):=Cv _ _ _;unfold Hg;omega
def Ib (l:List Bool):List Ak:=l.map Value.bool
theorem aJ (l:List Bool) (n:Nat):(Ib l).toArray.setIfInBounds n (.bool true)=(Ib (l.set n true)).toArray:=by
 simp[Ib,List.map_set]
theorem yO (l:List Mv) (n:Nat) (m:Mv):(((No l).toArray.setIfInBounds (n*3) (Aa Ac m.t)).setIfInBounds (n*3+1) (Aa Ab m.x)).setIfInBounds (n*3+2) (Aa Ab m.y)=(No (l.set n m)).toArray:=by
 have hlen:∀l:List Mv,(No l).length=l.length*3:=λl=>by unfold No;induction l with|nil=>rfl|cons x l ih=>simp[Bf,ih,Oa];omega
 have bi:∀(l:List Mv) (i f:Nat),i<l.length->f<3->(No l)[i*3+f]? =(match l[i]? with|some m=>m.cells[f]? |none=>Ae):=λl i f hi hf=>by
  rw[Aw hi];exact Iv Mv.cells 3 Oa _ i f hi hf
 apply Array.ext';simp only[Array.toList_setIfInBounds];apply List.ext_getElem?;intro j;by_cases hj:j<l.length*3
 ·obtain⟨i,f,hf,rfl⟩:∃i f,f<3/\j=i*3+f:=⟨j/3,j%3,Gu,Gu⟩;have hi:i<l.length:=Gu;rw[bi (l.set n m) i f (by simpa using hi) hf];simp only[List.getElem?_set,List.length_set,hlen];by_cases e:n=i
  ·subst e;rw[Hd rfl,Hd hi];have h3:f=0∨f=1∨f=2:=Gu;rcases h3 with rfl|rfl|rfl
   ·simp[Mv.cells];omega
   ·simp[Mv.cells];omega
   ·simp[Mv.cells];omega
  ·rw[Gz e,Gz Gu,Gz Gu,Gz Gu,bi l i f hi hf]
 ·rw[Ei (by simp[hlen];omega),Ei (by simp[hlen];omega)]
def kK (w:Aj) (g:Nat):Nat:=match w.heap[g]? with
 |some (.cells c _ _)=>(c.toList.filter λv=>match v with| .bool false=>true|_=>false).length
 |_=>0
def Bv0:Ak->Nat
 | Ad _ n _=>n
 |_=>0
theorem Ab4 {w:Aj} {g:Nat} {l:List Bool} {t:Cj} (h:w.heap[g]? =Af (.cells (Ib l).toArray t (0,0))):kK w g=unk l:=by
 unfold kK;rw[h];clear h;unfold unk Ib
 induction l with
 |nil=>rfl
 |cons b l ih=>
  cases b<;>simp at ih⊢ <;>exact ih
theorem Vg (l:List Mv):(No l).length=l.length*3:=by
 unfold No;induction l with|nil=>rfl|cons x l ih=>simp[Bf,ih,Oa];omega
theorem Bj6 (k:Nat):madeCells #[Aa Ac 0,Aa Ab 0,Aa Ab 0] (k*3)=(No (Ba k mv0)).toArray:=by
 apply Array.ext';apply List.ext_getElem?;intro j;by_cases hj:j<k*3
 ·obtain⟨i,f,hf,rfl⟩:∃i f,f<3/\j=i*3+f:=⟨j/3,j%3,Gu,Gu⟩;have hi:i<k:=Gu;have h1:(No (Ba k mv0))[i*3+f]? =(((Ba k mv0)[i]'(by simpa using hi)).cells)[f]? :=Iv Mv.cells 3 Oa _ i f (by simpa using hi) hf;rw[h1];have h3:f=0∨f=1∨f=2:=Gu;have hm:(i*3+f)%3=f:=Gu;simp[madeCells,hj,hm];rcases h3 with rfl|rfl|rfl
  ·rfl
  ·rfl
  ·rfl
 ·rw[Ei (by simp[madeCells];omega),Ei (by simp[Vg];omega)]
theorem Au4 (k:Nat) (hk:k<=1024) (W:Aj):(Instr.makeSlice 133 (Aa Ab k) (Aa Ab k)).run Do W= .ok (Ad (Af ⟨W.heap.size,0,Ae⟩) k k) (W.alloc (.cells (No (Ba k mv0)).toArray 30)):=by
 have zj:(Tryz.prog.info? 30).map (λi=>(i.zero,i.size,i.bytes))=Af (Af (.agg #[Aa Ac 0,Aa Ab 0,Aa Ab 0]),3,24):=Gw;obtain⟨i,hi,hz,hs,hb⟩:=info_parts zj;have h:=run_make (P:=Do) W 133 30 i _ Tryz.underlying133 hi hz .i64 .i64 k k Gu Gu (by rw[hb];omega) Gu;rw[h];simp only[Eu,hs];have e:(Value.agg #[Aa Ac 0,Aa Ab 0,Aa Ab 0]).cells= #[Aa Ac 0,Aa Ab 0,Aa Ab 0]:=by rfl
 rw[e,Bj6]
theorem Xv (k:Nat) (hk:k<=1024) (W:Aj):(Instr.makeSlice 82 (Aa Ab k) (Aa Ab k)).run Do W= .ok (Ad (Af ⟨W.heap.size,0,Ae⟩) k k) (W.alloc (.cells (Ib (Ba k false)).toArray 4)):=by
 have zj:(Tryz.prog.info? 4).map (λi=>(i.zero,i.size,i.bytes))=Af (Af (.bool false),1,1):=Gw;obtain⟨i,hi,hz,hs,hb⟩:=info_parts zj;have h:=run_make (P:=Do) W 82 4 i _ Tryz.underlying82 hi hz .i64 .i64 k k Gu Gu (by rw[hb];omega) Gu;rw[h];simp only[Eu,hs,Db]
 have e:madeCells (Value.bool false).cells k=(Ib (Ba k false)).toArray:=by
  apply Array.ext';exact(toList_madeCells_one (.bool false) k).trans (by simp[Ib])
 rw[e]
def Br1 (r:Option (List Mv)) (w:Aj) (e:Ending) (w':Aj):Prop:=Below w.heap.size w w'/\match r with
 |some ms=>∃g,e= .returned (.tuple #[Ad (Af ⟨g,0,Ae⟩) ms.length ms.length,Aa Ab 0])/\w.heap.size<=g/\w'.heap[g]? =Af (Obj.cells (No ms).toArray 30 (0,0))
 |none=>e= .returned (.tuple #[Ad Ae 0 0,Aa Ab 11])
theorem Ay7 {w:Aj} {g:Nat} {cs:Array Ak} {t:Cj} (h:w.heap[g]? =Af (.cells cs t (0,0))) (j:Nat):w.frozen? ⟨g,j,Ae⟩=false:=by simp[Dz,h]
theorem Me {w:Aj} {g:Nat} {a:Ak} {t:Cj} (h:w.heap[g]? =Af (.cells #[a] t (0,0))):w.cell? ⟨g,0,Ae⟩=Af a/\w.frozen? ⟨g,0,Ae⟩=false:=by
 simp[World.cell?,Dz,h]
theorem Ak3 (m:Nat) (l:List Stk) (k:Nat) (h:k<l.length) (pv:Cl) (hp:∀(h0:0<k),(l[k-1]'(by omega)).c=pv):
  Ko m l k=(!l[k].c.ok||(decide (0<k)&&decide (0<=Kc pv l[k].c))||l[k].ls.isEmpty||l[k].ls.any λid=>decide (m<=id)):=by
 unfold Ko;rw[Aw h]
 cases k with
 |zero=>simp
 |succ k=>
  have h1:l[k].c=pv:=hp Gu;have e:l[k]? =Af l[k]:=Aw Gu;simp[e,h1]
theorem mE (l:List Stk) (k:Nat) (h:k<l.length):Hl (l.take (k+1))=Hl (l.take k)++l[k].ls:=by
 unfold Hl;rw[Bc h,Bi];simp
theorem dI {B:Nat}:∀{l:List Stk},(∀x∈l,x.ls.length<=B)->(Hl l).length<=l.length*B
 |[],_=>by simp[Hl]
 |x::l,h=>by
  have h1:=h x Gx;have h2:=dI (l:=l) λy hy=>h y (by simp[hy]);unfold Hl at h2⊢;simp only[Bf,Bh,En,Nat.succ_mul];omega
def idsTo (l:List Stk) (k j:Nat):List Nat:=Hl (l.take k)++(match l[k]? with|some x=>x.ls.take j|none=>[])
theorem Xt (l:List Stk):idsTo l 0 0=[]:=by
 unfold idsTo Hl
 cases l[0]? <;>simp
theorem tH (l:List Stk) (k:Nat) (h:k<l.length):idsTo l k l[k].ls.length=idsTo l (k+1) 0:=by
 unfold idsTo;rw[Aw h,mE l k h]
 cases l[k+1]? <;>simp
theorem tI (l:List Stk) (k j:Nat) (h:k<l.length) (hj:j<l[k].ls.length):idsTo l k (j+1)=idsTo l k j++[l[k].ls[j]]:=by
 unfold idsTo;rw[Aw h];simp only;rw[Bc hj,Bj]
theorem Ac8 (l:List Stk):idsTo l l.length 0=Hl l:=by
 unfold idsTo;simp
theorem oH (l:List Stk) (k j:Nat) (h:k<l.length) (hj:j<l[k].ls.length):∃r,Hl l=idsTo l k j++l[k].ls[j]::r:=by
 have h1:l=l.take k++l[k]::l.drop (k+1):=Gx;have h2:l[k].ls=l[k].ls.take j++l[k].ls[j]::l[k].ls.drop (j+1):=Gx;refine⟨l[k].ls.drop (j+1)++Hl (l.drop (k+1)),?_⟩;unfold idsTo;rw[Aw h];simp only
 have h3:Hl l=Hl (l.take k)++(l[k].ls++Hl (l.drop (k+1))):=by
  have h4:=congrArg Hl h1;unfold Hl at h4⊢;rw[Bi,Bf]at h4;exact h4
 have h5:=congrArg (· ++Hl (l.drop (k+1))) h2;rw[h3,h5];simp only[Bj,List.cons_append]
def Rr (m:Nat) (p:List Nat):List Bool:=(List.range m).map λi=>decide (i∈p)
theorem vW (m:Nat):Rr m []=Ba m false:=by
 unfold Rr;apply Gj
 ·simp
 ·intro i h1 h2;simp
theorem vX (m:Nat) (p:List Nat) (i:Nat):(Rr m p).set i true=Rr m (p++[i]):=by
 unfold Rr;apply Gj
 ·simp
 ·intro j h1 h2;simp only[List.getElem_set,Gd,List.getElem_range,List.mem_append,Ge];by_cases e:i=j
  ·subst e;simp
  ·have:¬j=i:=λh=>e h.symm;simp[e,this]
theorem Ao9 {n:Nat} {l:List Stk} {i:Nat} (hi:i<l.length) (h:Ko n l i=true):chkS n l=1:=by
 unfold chkS;rw[Hd (Ev.2 ⟨i,by simpa using hi,h⟩)]
theorem Ao8 {n:Nat} {l:List Stk} (h:∀i,i<l.length->Ko n l i=false):chkS n l=if¬(Hl l).Nodup then 8 else if(Hl l).length<n then 6 else 0:=by
 unfold chkS;rw[Gz];intro h2;obtain⟨i,h3,h4⟩:=Ev.1 h2;rw[h i (by simpa using h3)]at h4
 cases h4
theorem jH {n:Nat} {l:List Stk} {k:Nat} (hk:k<l.length) (h:Ko n l k=false):l[k].c.ok=true/\∀id∈l[k].ls,id<n:=by
 unfold Ko at h;rw[Aw hk]at h;simp only[Bool.or_eq_false_iff,Bool.not_eq_false',Dt,Lg]at h;exact⟨h.1.1.1,λid hid=>Nat.lt_of_not_le (h.2 id hid)⟩
theorem fY (A:Option Ci) (l:List Stk) (n cc:Nat) (a b:Int) (w:Aj) (hn:n=l.length) (h:Hz w A l) (hl:n<=100000) (ij:∀x∈l,x.ls.length<=100000) (vj:∀x∈l,x.c.q<=255) (hs:okS a b=true):
  Al Do 244 #[Ad A n cc,.agg #[a,b]] w (Gy (Aa Ab (chkS (Hg a b) l)) w):=by
 have gg:=λw'=>Wa a b w' hs;have lq:=λw'=>Ju a b w';have LM:ec (okS a b) 1=0:=by rw[hs];rfl
 rw[LM]at lq;obtain⟨_,m1,m2⟩:=Lf hs;generalize Hg a b=m at gg m1 m2⊢;obtain⟨R,hR⟩:=ey (chkS m l);rw[hR];have HR:=Ah hR;have HS:=Ah h;have HN:=Ah hn;have uq:=Ah ij;have HQS:=Ah vj;have mi:=Ah lq;have HCO:=Ah gg;have H:=(Bx.start w).new #[a,b] 25 rfl;clear hR h hn ij vj lq gg LM hs;go_enter Tryz.func244,Tryz.ntmps244;go_upto_region 1 with fail;generalize w.alloc _=W at H⊢;obtain⟨N,hN⟩:=ez w.heap.size;rw[<-hN]at H⊢;have db:=Ah hN;clear hN;obtain⟨⟨a0,a1⟩,_⟩:=Hn (H.b 0);go_wp2_with fail;refine(mi.out _).mono ?_;rintro e w2 ⟨rfl,hb⟩;have H2:=H.call hb;clear a0 a1 hb H;obtain⟨⟨a0,a1⟩,_⟩:=Hn (H2.b 0);go_wp2_with fail;refine(HCO.out _).mono ?_;rintro e w3 ⟨rfl,hb⟩;have H3:=H2.call hb;clear a0 a1 hb H2;go_upto_region 5 with fail;obtain⟨P,hP⟩:=ey w3.heap.size;have H4:=H3.new #[m] 3 hP;generalize w3.alloc _=W4 at H4⊢;rw[hP];have CP:=Ah H4;clear hP H3 H4;go_wp2
 go_loopw [25] (λi wr=>∃k:Nat,k<=n/\i= Aa Ab k/\Bx w [(N,#[a,b],25),(P,#[m],3)] wr/\Hid (∀j,j<k->Ko m l j=false)) (λi _=>n-(intOf i).toNat)
 case atStart=>exact⟨0,Gk _,rfl,CP.out,Ah λj hj=>absurd hj Gu⟩
 obtain⟨k,hk,rfl,Hr,HK⟩:=hrel;by_cases ad:k<n
 ·have bc:k<l.length:=oHx HN.out;obtain⟨bb,o,A',c',hA,cj,⟨d0,d1,d2,d3⟩,dq,hle,ia,be⟩:=(HS.out.below Hr.below).get k bc
  have hpv:∃pv:Cl,(∀(h0:0<k),(l[k-1]'(by omega)).c=pv)/\pv.q<=255/\(0<k->wr.cell? ⟨bb,o+(k-1)*4,Ae⟩=Af (Aa Ab pv.x)/\wr.cell? ⟨bb,o+(k-1)*4+1,Ae⟩=Af (Aa Ab pv.y)/\wr.cell? ⟨bb,o+(k-1)*4+2,Ae⟩=Af (Aa Ac pv.q)):=by
   by_cases h0:0<k
   ·obtain⟨bb2,o2,_,_,qf,_,⟨p0,p1,p2,_⟩,_⟩:=(HS.out.below Hr.below).get (k-1) Gu;rw[hA]at qf;injection qf with qf;injection qf with e1 e2;subst e1;subst e2;exact⟨_,λ_=>rfl,HQS.out _ (Ay _),λ_=>⟨p0,p1,p2⟩⟩
   ·exact⟨cl0,λh=>absurd h h0,Ha,λh=>absurd h h0⟩
  obtain⟨pv,hpv1,hpv2,hpv3⟩:=hpv;have nt:=Ak3 m l k bc pv hpv1;have q1:(k:Int)<(n:Int):=Gu;have dy:=uq.out l[k] (Ay _);have F7:=HQS.out l[k] (Ay _);obtain⟨⟨⟨x,y,q⟩,ids⟩,hr⟩:∃z,l[k]=z:=⟨_,rfl⟩;rw[hr]at d0 d1 d2 d3 dq hle be dy F7 nt;dsimp only at d0 d1 d2 d3 dq hle be dy F7 nt;have BY:Hid (Ko m l k=(!okC x y q||(decide (0<k)&&decide (0<=Kc pv ⟨x,y,q⟩))||ids.isEmpty||ids.any λid=>decide (m<=id))):=Ah nt;obtain⟨u,hu⟩:=ey ids.length;rw[hu]at d3 dq hle be dy;have HU:=Ah hu;have s_:=Ah λ(w':Aj) (hb:Below wr.heap.size wr w') (hp:w'.cell? ⟨P,0,Ae⟩=Af (Aa Ab (m:Int)))=>Bm1 A' ids u c' m P w' hu.symm (be.below hb) Gu hp;have HPV:=Ah hpv3;have HPQ:=Ah hpv2;have HQK:=Ah F7;have fa:=Ah Hr;have HWB:=Ah (Ag wr.heap.size wr);subst hA;clear nt hpv1 hpv3 hpv2 hr dq be F7 Hr hu;go_upto_region 8 with fail;obtain⟨C,hC⟩:=ey wr.heap.size;have H5:=fa.out.new #[x,y,Aa Ac q,Ad A' u c'] 92 hC;have da:=HWB.out.alloc (Am _) (.cells #[x,y,Aa Ac q,Ad A' u c'] 92);generalize wr.alloc _=W5 at H5 da⊢;rw[hC];clear hC d0 d1 d2 d3 fa;obtain⟨⟨c0,c1,c2,c3⟩,_⟩:=Jm (H5.b 2);have p0:=Me (H5.b 1);go_wp2_with fail;refine(s_.out _ da p0.1).mono ?_;rintro e w6 ⟨rfl,ba⟩;have H6:=H5.call ba;have dc:=da.trans (ba.mono da.size);clear c0 c1 c2 c3 p0 ba H5 da s_;obtain⟨fb,OP⟩:=ey ((ids.any λid=>decide (m<=id)));have sh:=BY.out;rw[OP]at sh⊢;have qp:=Ah sh;clear BY OP sh;obtain⟨S,an⟩:∃S:Aj->Prop,S=λw'=>(w'.cell? ⟨C,0,Ae⟩=Af (Aa Ab x)/\w'.cell? ⟨C,1,Ae⟩=Af (Aa Ab y)/\w'.cell? ⟨C,2,Ae⟩=Af (Aa Ac q)/\w'.cell? ⟨C,3,Ae⟩=Af (Ad A' u c'))/\(0<k->w'.cell? ⟨bb,o+(k-1)*4,Ae⟩=Af (Aa Ab pv.x)/\w'.cell? ⟨bb,o+(k-1)*4+1,Ae⟩=Af (Aa Ab pv.y)/\w'.cell? ⟨bb,o+(k-1)*4+2,Ae⟩=Af (Aa Ac pv.q)):=⟨_,rfl⟩
  have ae:Hid (∀W',Below w6.heap.size w6 W'->S W'):=Ah λW' h=>by
   subst an;obtain⟨⟨c0,c1,c2,c3⟩,_⟩:=Jm ((H6.call h).b 2);have hb:=dc.trans (h.mono dc.size);exact⟨⟨c0,c1,c2,c3⟩,λh0=>let⟨r0,r1,r2⟩:=HPV.out h0;⟨Gv hb r0,Gv hb r1,Gv hb r2⟩⟩
  have HSO:Hid (∀W',S W'->W'.cell? ⟨C,0,Ae⟩=Af (Aa Ab x)/\W'.cell? ⟨C,1,Ae⟩=Af (Aa Ab y)/\W'.cell? ⟨C,2,Ae⟩=Af (Aa Ac q)/\W'.cell? ⟨C,3,Ae⟩=Af (Ad A' u c')):=Ah λW' h=>by subst an;exact h.1
  have tz:Hid (∀W',S W'->0<k->W'.cell? ⟨bb,o+(k-1)*4,Ae⟩=Af (Aa Ab pv.x)/\W'.cell? ⟨bb,o+(k-1)*4+1,Ae⟩=Af (Aa Ab pv.y)/\W'.cell? ⟨bb,o+(k-1)*4+2,Ae⟩=Af (Aa Ac pv.q)):=Ah λW' h=>by subst an;exact h.2
  have sj:=Ah λ(w':Aj)=>Jf x y q w';clear an HPV dc;have og:=Ah H6;clear H6;go_upto_region 9 with fail;go_cut [62] (λsb wx=>∃v:Bool,sb= .bool v/\v=Ko m l k/\Bx w [(N,#[a,b],25),(P,#[m],3)] wx)
  case first=>
   refine Ao (S:=S) Gw (ae.out _ (Ag _ _).drew) (λhS=>?_);have hb:Below w6.heap.size w6 w6.drew:=(Ag _ _).drew;have H:=og.out.drew;generalize w6.drew=X0 at H hb hS⊢;clear og;refine Qp 0 1 ?_;refine rdy 2 (λK hK=>?_);go_simp;refine(sj.out _).mono ?_;rintro e X1 ⟨rfl,ac⟩;have hb:=hb.trans (ac.mono hb.size);have H:=H.call ac;have hS:=ae.out _ hb;refine hK.o hS (λhS=>?_);clear hK K ac
   cases hx:okC x y q
   ·have AG:Hid (true=Ko m l k):=Ah (by rw[qp.out,hx];rfl);rw[Qq];clear hx qp sj;refine Hh 3 4 5 6 ?_;refine Hh 7 8 9 10 ?_;refine Hh 11 12 13 14 ?_;refine Hh 15 16 17 18 ?_;refine Hh 19 20 21 22 ?_;refine Hh 23 24 25 26 ?_;refine Qp 27 28 ?_;refine An Gw ?_ _;go_wp2;go_meet;exact⟨true,rfl,AG.out,H.upto 2⟩
   ·rw[Ls];by_cases di:k=0
    ·subst di;refine Hh 3 4 5 6 ?_;refine Hh 7 8 9 10 ?_;refine Hh 11 12 13 14 ?_;refine Hh 15 16 17 18 ?_;refine Qp 19 20 ?_;by_cases hu:u=0
     ·have AG:Hid (true=Ko m l 0):=Ah (by rw[qp.out,hx,List.eq_nil_of_length_eq_zero (HU.out.trans hu)];simp);have WI:(u:Int)=0:=Gu;clear hx qp sj;refine Hh 21 22 23 24 ?_;refine Hh 25 26 27 28 ?_;refine An Gw ?_ _;go_wp2;go_meet;exact⟨true,rfl,AG.out,H.upto 2⟩
     ·have AG:Hid (fb=Ko m l 0):=Ah (by
       have h0:ids≠[]:=λe=>hu (by rw[<-HU.out,e];rfl);rw[qp.out,hx];simp[h0])
      have WI:((u:Int)==0)=false:=by simpa using hu
      clear hx qp sj;refine Hh 21 22 23 24 ?_;refine Hh 25 26 27 28 ?_;refine An Gw ?_ _;go_wp2;go_meet;exact⟨fb,rfl,AG.out,H.upto 2⟩
    ·obtain⟨k',rfl⟩:∃k',k=k'+1:=⟨k-1,Gu⟩;have HSO:Hid (∀W',S W'->(W'.cell? ⟨C,0,Ae⟩=Af (Aa Ab x)/\W'.cell? ⟨C,1,Ae⟩=Af (Aa Ab y)/\W'.cell? ⟨C,2,Ae⟩=Af (Aa Ac q)/\W'.cell? ⟨C,3,Ae⟩=Af (Ad A' u c'))/\W'.cell? ⟨bb,o+k'*4,Ae⟩=Af (Aa Ab pv.x)/\W'.cell? ⟨bb,o+k'*4+1,Ae⟩=Af (Aa Ab pv.y)/\W'.cell? ⟨bb,o+k'*4+2,Ae⟩=Af (Aa Ac pv.q)):=Ah λW' h=>⟨HSO.out W' h,by have:=tz.out W' h Gu;rw[Nat.add_sub_cancel]at this;exact this⟩;clear tz;obtain⟨px,py,pq⟩:=pv;dsimp only at HSO;have t1:((k'+1:Nat):Int)-1=(k':Int):=Gu;have t2:(0:Int)<((k'+1:Nat):Int):=Gu;have t3:Ab.wrap (k':Int)=k':=Ca _ Gu;have t4:(k':Int)<(n:Int):=Gu;have HCM:=Ah λ(w':Aj)=>bU ⟨px,py,pq⟩ ⟨x,y,q⟩ w' HPQ.out HQK.out;obtain⟨cv,hcv⟩:=ey (Kc ⟨px,py,pq⟩ ⟨x,y,q⟩);have si:=qp.out;rw[hcv]at HCM si;have qp:=Ah si;clear hcv si di;refine Hh 3 4 5 6 ?_;refine Hh 7 8 9 10 ?_;refine Hh 11 12 13 14 ?_;refine Kg 15 ?_;refine rdy 16 (λK hK=>?_);go_simp;refine(HCM.out _).mono ?_;rintro e X2 ⟨rfl,ac⟩;have hb:=hb.trans (ac.mono hb.size);have H:=H.call ac;have hS:=ae.out _ hb;refine hK.o hS (λhS=>?_);clear hK K ac;by_cases hg:0<=cv
     ·have AG:Hid (true=Ko m l (k'+1)):=Ah (by rw[qp.out,hx,Lb hg];simp);clear hx qp sj;refine Hh 17 18 19 20 ?_;refine Hh 21 22 23 24 ?_;refine Hh 25 26 27 28 ?_;refine An Gw ?_ _;go_wp2;go_meet;exact⟨true,rfl,AG.out,H.upto 2⟩
     ·refine Hh 17 18 19 20 ?_;by_cases hu:u=0
      ·have AG:Hid (true=Ko m l (k'+1)):=Ah (by rw[qp.out,hx,Ly hg,List.eq_nil_of_length_eq_zero (HU.out.trans hu)];simp);have WI:(u:Int)=0:=Gu;clear hx qp sj;refine Hh 21 22 23 24 ?_;refine Hh 25 26 27 28 ?_;refine An Gw ?_ _;go_wp2;go_meet;exact⟨true,rfl,AG.out,H.upto 2⟩
      ·have AG:Hid (fb=Ko m l (k'+1)):=Ah (by
        have h0:ids≠[]:=λe=>hu (by rw[<-HU.out,e];rfl);rw[qp.out,hx,Ly hg];simp[h0])
       have WI:((u:Int)==0)=false:=by simpa using hu
       clear hx qp sj;refine Hh 21 22 23 24 ?_;refine Hh 25 26 27 28 ?_;refine An Gw ?_ _;go_wp2;go_meet;exact⟨fb,rfl,AG.out,H.upto 2⟩
  case rest=>
  obtain⟨v,rfl,hv,Hr⟩:=hcut
  cases v
  ·have jf:=Ah (λj (hj:j<k+1)=>show Ko m l j=false by
    by_cases e:j=k
    ·subst e;exact hv.symm
    ·exact HK.out j Gu)
   have jq:=Ah Hr;clear Hr hv;go_wp2;exact⟨⟨k+1,Gu,by go_num,jq.out,jf⟩,by simp[intOf];omega⟩
  ·have HF:Hid (R=1):=Ah (by rw[<-HR.out];exact Ao9 bc hv.symm);have jq:=Ah Hr;clear Hr hv;go_wp2;go_ret;exact⟨by rw[HF.out];rfl,jq.out.below⟩
 ·have q1:¬(k:Int)<(n:Int):=Gu;have KD:Hid (R=if¬(Hl l).Nodup then 8 else if(Hl l).length<m then 6 else 0):=Ah (by rw[<-HR.out];exact Ao8 λi hi=>HK.out i (oHx HN.out));have sh:=Ah (λ(j:Nat) (hj:j<l.length)=>(jH hj (HK.out j (oHx HN.out))).2);have AJ:Hid ((Hl l).length<=n*100000):=Ah (by rw[HN.out];exact dI uq.out);have mk2:=λW=>Xv m Gu W;obtain⟨p0,_⟩:=Me (Hr.b 1);have fa:=Ah Hr;clear Hr HK;go_upto_region 13 with fail;obtain⟨gs,vb⟩:=ey wr.heap.size;have H9:=fa.out.new (Ib (Ba m false)).toArray 4 vb;generalize wr.alloc _=W9 at H9⊢;rw[vb];rw[<-vW m,<-Xt l]at H9;have EJ:Hid (Bx w [(N,#[a,b],25),(P,#[m],3),(gs,(Ib (Rr m (idsTo l 0 0))).toArray,4)] W9):=Ah H9;clear p0 vb H9 fa mk2;go_wp2
  go_loopw [68,11] (λi c wr=>∃k:Nat,k<=n/\i= Aa Ab k/\c= Aa Ab ((idsTo l k 0).length:Nat)/\Hid (Bx w [(N,#[a,b],25),(P,#[m],3),(gs,(Ib (Rr m (idsTo l k 0))).toArray,4)] wr)/\Hid (idsTo l k 0).Nodup) (λi _ _=>n-(intOf i).toNat)
  case atStart=>exact⟨0,Gk _,rfl,by rw[Xt];rfl,EJ,Ah (by rw[Xt];exact List.nodup_nil)⟩
  obtain⟨k,hk,rfl,rfl,HH,IX⟩:=hrel;clear EJ;by_cases ad:k<n
  ·have bc:k<l.length:=oHx HN.out;obtain⟨bb,o,A',c',hA,cj,⟨d0',d1',d2',d3'⟩,dq,hle,ia,be⟩:=HS.out.get k bc;have d0:=Gv HH.out.below d0';have d1:=Gv HH.out.below d1';have d2:=Gv HH.out.below d2';have d3:=Gv HH.out.below d3';clear d0' d1' d2' d3';have q1:(k:Int)<(n:Int):=Gu;have dy:=uq.out l[k] (Ay _);have PN:=Ah (sh.out k bc);have tz:=Ah (λj (hj:j<l[k].ls.length)=>oH l k j bc hj);have YE:=Ah (λj (hj:j<l[k].ls.length)=>tI l k j bc hj);have oh:=Ah (tH l k bc);obtain⟨⟨⟨x,y,q⟩,ids⟩,hr⟩:∃z,l[k]=z:=⟨_,rfl⟩;rw[hr]at d0 d1 d2 d3 dq hle be dy;have PN:Hid (∀id∈ids,id<m):=Ah (by have:=PN.out;rw[hr]at this;exact this);have tz:Hid (∀j (hj:j<ids.length),∃r,Hl l=idsTo l k j++ids[j]::r):=Ah (by have:=tz.out;simp only[hr]at this;exact this);have YE:Hid (∀j (hj:j<ids.length),idsTo l k (j+1)=idsTo l k j++[ids[j]]):=Ah (by have:=YE.out;simp only[hr]at this;exact this);have oh:Hid (idsTo l k ids.length=idsTo l (k+1) 0):=Ah (by have:=oh.out;simp only[hr]at this;exact this);dsimp only at d0 d1 d2 d3 dq hle be dy;obtain⟨u,hu⟩:=ey ids.length;rw[hu]at d3 hle be dy;have HU:=Ah hu;have dr:=Ah (λ(w':Aj) (hb:Below w.heap.size w w')=>be.below hb);subst hA;clear hr dq be hu ia hle;go_upto_region 17 with fail;obtain⟨C,hC⟩:=ey wr.heap.size;have H5:=HH.out.new #[x,y,Aa Ac q,Ad A' u c'] 92 hC;rw[hC];generalize wr.alloc _=W5 at H5⊢;obtain⟨⟨c0,c1,c2,c3⟩,_⟩:=Jm (H5.b 3);have IV:Hid (Bx w [(N,#[a,b],25),(P,#[m],3),(gs,(Ib (Rr m (idsTo l k 0))).toArray,4),(C,#[x,y,Aa Ac q,Ad A' u c'],92)] W5):=Ah H5;clear d0 d1 d2 d3 hC H5 HH;go_wp2
   go_loopw [75,11] (λi c wr=>∃j:Nat,j<=u/\i= Aa Ab j/\c= Aa Ab ((idsTo l k j).length:Nat)/\Hid (Bx w [(N,#[a,b],25),(P,#[m],3),(gs,(Ib (Rr m (idsTo l k j))).toArray,4),(C,#[x,y,Aa Ac q,Ad A' u c'],92)] wr)/\Hid (idsTo l k j).Nodup) (λi _ _=>u-(intOf i).toNat)
   case atStart=>exact⟨0,Gk _,rfl,rfl,IV,IX⟩
   obtain⟨j,hj,rfl,rfl,HH,IX⟩:=hrel;clear IV;by_cases xu:j<u
   ·have q2:(j:Int)<(u:Int):=Gu;have BO:j<ids.length:=oHx HU.out;obtain⟨b2,o2,rfl,hb2l,e0⟩:=Rp (dr.out _ HH.out.below) j BO;have hidm:=PN.out _ (Ay BO);have MZ:=tz.out j BO;have V5:=YE.out j BO;obtain⟨id,hid⟩:=ey (ids[j]);rw[hid]at e0 hidm MZ V5
    have e1:wr.cell? ⟨gs,id,Ae⟩=Af (.bool (decide (id∈idsTo l k j))):=by
     rw[By _ gs id _ _ (0,0) (HH.out.b 2)];simp[Ib,Rr,hidm]
    have e2:=Ay7 (HH.out.b 2) id;have q3:(id:Int)<(m:Int):=Gu;by_cases jm:id∈idsTo l k j
    ·have HF:Hid (R=8):=Ah (by
      rw[KD.out,Hd];intro bj;obtain⟨r,hr⟩:=MZ;rw[hr,Bp]at bj;exact bj.2.2 id jm id Gx rfl)
     rw[Lb jm]at e1;clear MZ V5 hid;go_wp2;go_ret;exact⟨by rw[HF.out];rfl,HH.out.below⟩
    ·rw[Ly jm]at e1;have H1:=HH.out.set 2 id rfl (.bool true);dsimp only[Cf,Cg]at H1;rw[aJ,vX,<-V5]at H1;have yt:Hid (Bx w [(N,#[a,b],25),(P,#[m],3),(gs,(Ib (Rr m (idsTo l k (j+1)))).toArray,4),(C,#[x,y,Aa Ac q,Ad (Af ⟨b2,o2,Ae⟩) u c'],92)] (wr.setCell ⟨gs,id,Ae⟩ (.bool true))):=Ah H1
     have DR:(idsTo l k j).length<=n*100000:=by
      obtain⟨r,hr⟩:=MZ;have:=AJ.out;rw[hr,Bh]at this;omega
     have VP:(idsTo l k (j+1)).length=(idsTo l k j).length+1:=by rw[V5];simp
     have HND1:Hid (idsTo l k (j+1)).Nodup:=Ah (by
      rw[V5,Bp];refine⟨IX.out,Gx,λx hx y hy=>?_⟩;simp only[Ge]at hy;subst hy;intro e;subst e;exact jm hx)
     generalize (idsTo l k j).length=L0 at VP DR⊢;clear MZ V5 hid H1 HH jm;go_wp2;exact⟨⟨j+1,Gu,by go_num,by rw[VP];go_num,yt,HND1⟩,by simp[intOf];omega⟩
   ·obtain rfl:j=u:=Gu;have q2:¬(j:Int)<(j:Int):=Gu;have fg:=oh.out;rw[HU.out]at fg;rw[fg]at HH IX⊢;have yt:=Ah (HH.out.upto 3);clear HH fg;go_wp2;exact⟨⟨k+1,Gu,by go_num,rfl,yt,IX⟩,by simp[intOf];omega⟩
  ·obtain rfl:k=n:=Gu;have q1:¬(k:Int)<(k:Int):=Gu;obtain⟨p0,_⟩:=Me (HH.out.b 1);have e0:idsTo l k 0=Hl l:=by rw[HN.out];exact Ac8 l
   have bj:=IX.out;rw[e0]at bj⊢;have HF:Hid (R=if(Hl l).length<m then 6 else 0):=Ah (by rw[KD.out,Gz (not_not_intro bj)]);generalize (Hl l).length=L0 at HF⊢;clear bj e0;by_cases FG:L0<m
   ·have q2:(L0:Int)<(m:Int):=Gu;go_wp2;go_ret;exact⟨by rw[HF.out,Hd FG];rfl,HH.out.below⟩
   ·have q2:¬(L0:Int)<(m:Int):=Gu;go_wp2;go_ret;exact⟨by rw[HF.out,Gz FG];rfl,HH.out.below⟩
theorem oD (W:Aj) (o:Obj) (r:Option Nat):W.grownBy (W.alloc o) r:=⟨rfl,rfl,rfl,Gx,λk hk _=>Eg W o k hk⟩
theorem Yk {sl e:Cj} {z:Ak} {sz bytes:Nat} (hu:Tryz.prog.underlying sl=Af (.slice e)) (hi:(Tryz.prog.info? e).map (λi=>(i.zero,i.size,i.bytes))=Af (Af z,sz,bytes)) (hz:z.cells.size=sz) (hs:0<sz) (hby:bytes<=100)
  (W:Aj) (M n:Nat) (v:Ak) (xs:List Ak) (ho:W.ownsRow M e sz v n xs) (hM:M<=W.heap.size) (hn:n<=900000000000) (news:List Ak) (hl:news.length=sz) (h1:∀u∈news,u.oneCell'=true):
  ∃A' c' w',(Builtin.append_ #[sl,sl] sl #[v,Ad (Af ⟨W.heap.size,0,Ae⟩) 1 1]).run Do (W.alloc (.cells news.toArray e))= .ok (Ad A' (n+1) c') w'/\w'.ownsRow M e sz (Ad A' (n+1) c') (n+1) (xs++news)/\
   Below M W w'/\W.grownBy w' v.ownBlock/\M<=w'.heap.size/\n+1<=c'/\c'<=maxLen/\(Value.ownBlock (Ad A' (n+1) c')=v.ownBlock∨∃g,Value.ownBlock (Ad A' (n+1) c')=Af g/\W.heap.size<=g):=by
 obtain⟨i0,eh,dp,ap,ca⟩:=info_parts hi;have hR:Rd (W.alloc (.cells news.toArray e)) (Af ⟨W.heap.size,0,Ae⟩) sz 1 news:=Pl news 1 sz Gu rfl
 obtain⟨v',w',hr,aa,hg,_,xn⟩:=run_append_own_at (P:=Do) (W.alloc (.cells news.toArray e)) M sl sl e i0 z sz bytes hu eh dp ap ca hz hs v n xs (ho.alloc _) ⟨W.heap.size,0,Ae⟩ 1 1 news hR.1 hR.allK h1 (by unfold maxLen;omega)
  (by have:(n+1)*bytes<=(n+1)*100:=Nat.mul_le_mul_left _ hby;omega) Hu
 obtain⟨A',c',rfl,kh,va⟩:=Hw aa;have fj:=Kt (oD W _ v.ownBlock) hg;refine⟨A',c',w',hr,aa,?_,fj,Br hM fj.size,kh,va,xn.imp id λh=>⟨_,h,Gx⟩⟩;exact((Ag M W).alloc hM _).grown hg Hu (λq hq=>(ho.lt q hq).1)
def Lu (l:List Int):List Ak:=l.map (Value.int .i64)
theorem Ad8 (l:List Int):(Lu l).length=l.length:=by simp[Lu]
theorem tM (l:List Int) (x:Int):Lu (l++[x])=Lu l++[Aa Ab x]:=by simp[Lu]
def pT (p:Int×Int):List Ak:=[Aa Ab p.1,Aa Ab p.2]
def Ql (l:List (Int×Int)):List Ak:=l.flatMap pT
theorem uX (l:List (Int×Int)):(Ql l).length=l.length*2:=Ks pT 2 (λ_=>rfl) l
theorem pU (l:List (Int×Int)) (x:Int×Int):Ql (l++[x])=Ql l++[Aa Ab x.1,Aa Ab x.2]:=by simp[Ql,pT]
theorem fO {w:Aj} {A:Option Ci} {l:List Int} {n:Nat} (h:Rd w A 1 n (Lu l)) (i:Nat) (hi:i<l.length):
  ∃b o,A=Af ⟨b,o,Ae⟩/\b<w.heap.size/\w.cell? ⟨b,o+i,Ae⟩=Af (Aa Ab l[i]):=by
 have hl:=h.1;rw[Ad8]at hl;obtain⟨b,o,e,hb,hc⟩:=h.2 Gu;exact⟨b,o,e,hb,hc i _ (by simp[Lu,hi])⟩
theorem yZ {w:Aj} {A:Option Ci} {l:List (Int×Int)} {n:Nat} (h:Rd w A 2 n (Ql l)) (i:Nat) (hi:i<l.length):
  ∃b o,A=Af ⟨b,o,Ae⟩/\b<w.heap.size/\w.cell? ⟨b,o+i*2,Ae⟩=Af (Aa Ab l[i].1)/\w.cell? ⟨b,o+i*2+1,Ae⟩=Af (Aa Ab l[i].2):=by
 have hl:=h.1;rw[uX]at hl;obtain⟨b,o,e,hb,hc⟩:=h.2 Gu;have bi:∀f,f<2->(Ql l)[i*2+f]? =(pT l[i])[f]? :=λf hf=>Iv pT 2 (λ_=>rfl) _ i f hi hf;exact⟨b,o,e,hb,hc (i*2+0) _ ((bi 0 Gu).trans rfl),hc (i*2+1) _ ((bi 1 Gu).trans rfl)⟩
def Xh (p:Nat×Nat):List Ak:=[Aa Ab (p.1:Int),Aa Ab (p.2:Int)]
def Qa (l:List (Nat×Nat)):List Ak:=l.flatMap Xh
theorem Ah7 (l:List (Nat×Nat)):(Qa l).length=l.length*2:=Ks Xh 2 (λ_=>rfl) l
theorem uZ (l:List (Nat×Nat)) (x:Nat×Nat):Qa (l++[x])=Qa l++[Aa Ab (x.1:Int),Aa Ab (x.2:Int)]:=by simp[Qa,Xh]
theorem Bm3 {w:Aj} {A:Option Ci} {l:List (Nat×Nat)} {n:Nat} (h:Rd w A 2 n (Qa l)) (i:Nat) (hi:i<l.length):
  ∃b o,A=Af ⟨b,o,Ae⟩/\b<w.heap.size/\w.cell? ⟨b,o+i*2,Ae⟩=Af (Aa Ab (l[i].1:Int))/\w.cell? ⟨b,o+i*2+1,Ae⟩=Af (Aa Ab (l[i].2:Int)):=by
 have hl:=h.1;rw[Ah7]at hl;obtain⟨b,o,e,hb,hc⟩:=h.2 Gu;have bi:∀f,f<2->(Qa l)[i*2+f]? =(Xh l[i])[f]? :=λf hf=>Iv Xh 2 (λ_=>rfl) _ i f hi hf;exact⟨b,o,e,hb,hc (i*2+0) _ ((bi 0 Gu).trans rfl),hc (i*2+1) _ ((bi 1 Gu).trans rfl)⟩
def Xd (p:Nat×Nat×Nat):List Ak:=[Aa Ac (p.1:Int),Aa Ab (p.2.1:Int),Aa Ab (p.2.2:Int)]
def Nn (l:List (Nat×Nat×Nat)):List Ak:=l.flatMap Xd
theorem Af4 (l:List (Nat×Nat×Nat)):(Nn l).length=l.length*3:=Ks Xd 3 (λ_=>rfl) l
theorem tV (l:List (Nat×Nat×Nat)) (x:Nat×Nat×Nat):Nn (l++[x])=Nn l++[Aa Ac (x.1:Int),Aa Ab (x.2.1:Int),Aa Ab (x.2.2:Int)]:=by simp[Nn,Xd]
theorem lQ {w:Aj} {A:Option Ci} {l:List (Nat×Nat×Nat)} {n:Nat} (h:Rd w A 3 n (Nn l)) (i:Nat) (hi:i<l.length):
  ∃b o,A=Af ⟨b,o,Ae⟩/\b<w.heap.size/\w.cell? ⟨b,o+i*3,Ae⟩=Af (Aa Ac (l[i].1:Int))/\w.cell? ⟨b,o+i*3+1,Ae⟩=Af (Aa Ab (l[i].2.1:Int))/\w.cell? ⟨b,o+i*3+2,Ae⟩=Af (Aa Ab (l[i].2.2:Int)):=by
 have hl:=h.1;rw[Af4]at hl;obtain⟨b,o,e,hb,hc⟩:=h.2 Gu;have bi:∀f,f<3->(Nn l)[i*3+f]? =(Xd l[i])[f]? :=λf hf=>Iv Xd 3 (λ_=>rfl) _ i f hi hf;exact⟨b,o,e,hb,hc (i*3+0) _ ((bi 0 Gu).trans rfl),hc (i*3+1) _ ((bi 1 Gu).trans rfl),hc (i*3+2) _ ((bi 2 Gu).trans rfl)⟩
theorem Bx.keepN {w wr w2:Aj} {l:List (Nat×Array Ak×Cj)} {M:Nat} (h:Bx w l wr) (hM:∀x∈l,x.1<M) (hw:w.heap.size<=M) (hb:Below M wr w2):Bx w l w2:=
 ⟨h.below.trans (hb.mono hw),λi g cs t hi=>(hb.block g (hM _ (List.mem_of_getElem? hi))).trans (h.blk i g cs t hi),h.lo,h.inj⟩
theorem Ja {w:Aj} {M e sz n:Nat} {v:Ak} {xs:List Ak} (h:w.ownsRow M e sz v n xs) {g:Nat} (hg:g<M) (j:Nat) (u:Ak):(w.setCell ⟨g,j,Ae⟩ u).ownsRow M e sz v n xs:=
 ⟨h.1,h.2.imp id λ⟨g',cap,cur,r1,r2,r3,r⟩=>⟨g',cap,cur,r1,r2,(Dp w ⟨g,j,Ae⟩ u g' (by show g'≠g;omega)).trans r3,r⟩⟩
open Go.Sort Go.Shelf
theorem nO {α:Type} [Inhabited α] (enc:α->List Ak) (k:Nat) (di:0<k) (hk:∀x,(enc x).length=k) (l:List α):flatK enc k l.toArray=(l.flatMap enc).toArray:=by
 have ji:=Ks enc k hk l;refine ext_get! (by simp[ji]) λt ht=>?_;have I9:t<l.length*k:=by simpa using ht
 have hj:t/k<l.length:=(Nat.div_lt_iff_lt_mul di).2 I9;rw[get_flatK _ _ _ t (by simpa using I9),getElem!_pos l.toArray (t/k) (by simpa using hj)];have hl:t<(l.flatMap enc).toArray.size:=by simp[ji];exact I9
 rw[getElem!_pos _ t hl];simp only[Ce];have hmod:t%k<k:=Nat.mod_lt _ di;have bi:=Iv enc k hk l (t/k) (t%k) hj hmod;rw[show t/k*k+t%k=t by rw[Nat.mul_comm];exact Nat.div_add_mod t k]at bi;have h2:(l.flatMap enc)[t]? =Af ((l.flatMap enc)[t]'(by simpa using hl)):=Aw _;have h3:t%k<(enc l[t/k]).length:=by rw[hk];exact hmod
 rw[h2,Aw h3]at bi;have:=Option.some.inj bi;rw[this];simp[h3]
theorem Ac7 {w:Aj} {g n:Nat} {os:Array Obj} {cur:Array Ak} {e:Cj} {fr:Nat×Nat} (d:Array Ak) (hb:w.heap[g]? =Af (.cells cur e fr)):
  (grow (putRow id (Sort.ahead w n) g 0 d) os).heap[g]? =Af (.cells (putCells id 0 d cur) e fr):=by
 have hg:g<w.heap.size:=(Au.1 hb).1;rw[heap_grow_old _ _ (by simpa using hg)];simp[putRow,mapBlock,Sort.ahead,Df,hb,onCells]
theorem Yu {w:Aj} {g n:Nat} {os:Array Obj} (d:Array Ak):w.grownBy (grow (putRow id (Sort.ahead w n) g 0 d) os) (Af g):=by
 refine⟨rfl,rfl,rfl,Gx,λk hk hne=>?_⟩;rw[heap_grow_old _ _ (by simpa using hk)];have:g≠k:=λe=>hne (by rw[e]);simp[putRow,mapBlock,Sort.ahead,Df,this]
theorem Ak8 (cur:Array Ak) (ts:List Ak) (h:ts.length<=cur.size):(putCells id 0 ts.toArray cur).toList.take ts.length=ts:=by
 apply List.ext_getElem?;intro j;by_cases hj:j<ts.length
 ·rw[List.getElem?_take_of_lt hj,Array.getElem?_toList];simp[putCells,hj,show j<cur.size by omega]
 ·rw[List.getElem?_take_eq_none Gu,Ei Gu]
def Lo {α:Type} (enc:α->List Ak) (cf:α->α->Int) (l:List α) (O e k m:Nat) (v:Ak) (w:Aj) (en:Ending) (w':Aj):Prop:=
 en= .returned (.tuple #[])/\∃l':List α,l'.Perm l/\l'.Pairwise (λp q=>ltOf cf q p=false)/\w'.ownsRow O e k v m (l'.flatMap enc)/\w.grownBy w' v.ownBlock
theorem Tp {α:Type} [Inhabited α] {ρ} (L:SlLaysF0.n6 Do ρ) (k:Nat) (di:0<k) (aE:∀w,(isAgg (ρ.t 24)).run Do w= .ok true w) (zE:∀w,(Go.sizeOf (ρ.t 24)).run Do w= .ok k w)
  (enc:α->List Ak) (hk:∀x,(enc x).length=k) (h1:∀x,∀v∈enc x,v.oneCell'=true) (cf:α->α->Int) (hO:SWO (ltOf cf)) (F:FuncId) (cb:Array Ak) (eg:∀args w,(callFunc F args).run Do w= .ok (.enter F args) w)
  {O e m c:Nat} {B:Option Ci} (l:List α) (w:Aj) (h:w.ownsRow O e k (Ad B m c) m (l.flatMap enc)) (MA:m<=1000000)
  (jr:∀W',w.grownBy W' (Value.slice B m c).ownBlock->∀x y,Al Do F (#[.agg (enc x).toArray,.agg (enc y).toArray]++cb) W' (Uv (Aa Ab (cf x y)) W')):
  Al Do (ρ.f 6) #[Ad B m c,.func (.func F) #[] cb] w (Lo enc cf l O e k m (Ad B m c) w):=by
 have ji:=Ks enc k hk l
 have hl:l.length=m:=by
  have:=h.1;rw[ji]at this;exact Nat.eq_of_mul_eq_mul_right di this
 rcases h.2 with⟨h0,P6⟩|⟨g,cap,cur,r1,r2,r3,r4,r5,r6,r7⟩
 ·obtain⟨rfl,rfl,rfl⟩:B=Ae/\m=0/\c=0:=by simpa using h0
  have hnil:l=[]:=List.length_eq_zero_iff.1 hl;subst hnil;refine(AnyF.slices_SortFunc_none L Ae 0 _ w).mono ?_;rintro e' w' ⟨rfl,rfl⟩;exact⟨rfl,[],List.Perm.refl _,List.Pairwise.nil,h,Jr _ _⟩
 ·obtain⟨rfl,rfl⟩:B=Af ⟨g,0,Ae⟩/\c=cap:=by simpa using r1
  have hH:HoldsK enc k w g 0 l.toArray:=by
   unfold HoldsK;rw[nO enc k di hk];intro j hj;refine⟨?_,by simp[Dz,r3]⟩;have yk:j<(l.flatMap enc).length:=by simpa using hj
   rw[Bt,By _ _ j cur e (0,0) r3,getElem!_pos _ j hj];have h2:(cur.toList.take (m*k))[j]? =(l.flatMap enc)[j]? :=by rw[r7]
   rw[List.getElem?_take_of_lt (by rw[ji,hl]at yk;exact yk),Array.getElem?_toList]at h2;rw[h2,Aw yk];rfl
  have RD:CmpLays Do F cb enc k cf g 0 l.toArray.size w:=λn os dk hs x y=>by
   have hg:w.grownBy (sortWorldK enc k w g 0 n dk os) (Af g):=by unfold sortWorldK putRowK;exact Yu _
   exact(jr _ hg x y).mono λ_ _ h=>⟨h.1,h.2.grow⟩
  have qu:=AnyQ.slices_SortFunc L k aE zE enc hk h1 cf hO F cb g 0 c l.toArray w eg RD hH (Au.1 r3).1 Hu;simp only[List.size_toArray,hl]at qu;refine qu.mono ?_;rintro e' w' ⟨rfl,d',n,os,hp,hs,rfl⟩;obtain⟨p1,p2,p3⟩:=hp;have hd:d'.size=m:=by rw[p1];simpa using hl
  have hd':d'.toList.toArray=d':=Gx;refine⟨rfl,d'.toList,?_,?_,?_,?_⟩
  ·have e1:d'.extract 0 m=d':=by rw[<-hd];simp
   have e2:l.toArray.extract 0 m=l.toArray:=by rw[<-hl];simp
   rw[e1,e2]at p3;simpa using p3
  ·rw[Fi];intro i j hi hj yj;have se:i<d'.size:=by simpa using hi
   have yk:j<d'.size:=by simpa using hj
   have:=hs i j (Gk _) yj Gu;rw[getElem!_pos d' i se,getElem!_pos d' j yk]at this;simpa using this
  ·unfold sortWorldK putRowK;rw[<-hd',nO enc k di hk];have hlen:(d'.toList.flatMap enc).length=m*k:=by rw[Ks enc k hk];simp[hd]
   exact⟨by simpa using hlen,.inr ⟨g,c,_,rfl,r2,Ac7 _ r3,r4,r5,by simp[putCells,r6],by rw[<-hlen];exact Ak8 cur _ (by rw[hlen,r6];exact Ft _ r4)⟩⟩
  ·unfold sortWorldK putRowK;exact Yu _
end Go.Proofs.YtlgkpdfieaadaaaGreatDoor
