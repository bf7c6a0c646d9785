import Derived.Test.YtlgkpdfieaadaaaGreatDoorRStk
import Derived.Deep.WholeRow
import Derived.Shelf.SlSortCmp.NoneTotal
set_option linter.all false
open Array renaming getElem?_eq_some_iff->Au,getElem?_modify->Dg
open Bool renaming and_eq_true->Em,false_eq_true->Ek
open Go renaming Addr->Cj,Calls->Al,TypeId->Ck,Value->Ak,World->Aj,bodyPost_ret->Ai,cell_of_row->Bz,heap_alloc_new->Ca,wpAnyH_done->An,wpAnyH_ready->Ap,wp_region_held_drew->Ao
open Go.AllReadyH renaming cons->Aq,nil->Ar
open Go.Builtin renaming firstCells->Ga,zeroCells->Gn
open Go.IntKind renaming i64->Ab,u8->Ac
open Go.IntWalk renaming i64_in->Cb
open Go.Lib renaming hid->Ah
open Go.Op renaming equalIn->Gu
open Go.Proofs.Tryz renaming prog->Dp,underlying30->Fi,underlying48->Dn
open Go.Result renaming andThen_ok->Fp
open Go.RowKit.Below renaming heap_alloc->Eh,heap_setCell->Dq,refl->Ag
open Go.Sem renaming run_bind->Gr
open Go.Value renaming int->Aa,slice->Ad
open Go.World renaming frozen?->Ea
open Int renaming mul_assoc->Cw,toNat_natCast->Ev
open List renaming any_eq_false->Du,any_eq_true->Ew,append_assoc->Bj,ext_getElem->Gk,flatMap_append->Bi,flatMap_cons->Bf,getElem?_append_left->Fk,getElem?_append_right->Eg,getElem?_cons_succ->Cx,getElem?_eq_getElem->Aw,getElem?_eq_none->Ej,getElem?_eq_some_iff->Ax,getElem?_map->Fs,getElem_cons_succ->Ce,getElem_cons_zero->Cd,getElem_map->Ge,getElem_mem->Ay,getElem_toArray->Cf,length_append->Bh,length_cons->Eo,length_nil->Cs,mem_iff_getElem->Be,mem_singleton->Gf,nodup_append->Bq,pairwise_iff_getElem->Fj,replicate->Ba,setIfInBounds_toArray->Ci,set_cons_succ->Ch,set_cons_zero->Cg,take_succ_eq_append_getElem->Bc
open Nat renaming add_zero->Df,le_refl->Am,le_trans->Bt,lt_of_lt_of_le->Br,mul_le_mul_right->Fu,mul_one->Dc,zero_add->Bu,zero_le->Gm
open Option renaming none->Ae,some->Af
set_option maxHeartbeats 8000000
set_option maxRecDepth 100000
namespace Go.Proofs.YtlgkpdfieaadaaaGreatDoor
open Go.RowKit
variable {P:Program} {ops:Array Oper} {rest:List Oper} {op o:Oper} {w w' wr X Y w2:Aj} {Q:Exit->Act->Aj->Prop} {q g g' M N n VP cap base x B k sz bytes:Nat} {t u mt et:Ck} {l l':List (Nat×Array Ak×Ck)} {cs ds new old cur:Array Ak} {z y v:Ak} {κ α:Type} {c e a b:Int} {i:TypeInfo} {av:List Nat} {A:Option Cj} {os:Array Obj}
def vU (i m P:Nat) (w:Aj) (hP:w.cell? ⟨P,0,Ae⟩=Af (Aa Ab (m:Int))):
  Al Dp 291 #[(i:Int),.pointer (Af ⟨P,0,Ae⟩)] w (Gz (.bool (decide (m<=i))) w):=by
 have q0:¬(i:Int)<0:=Gv;obtain⟨R,hR⟩:=ey (decide (m<=i));rw[hR];have HR:=Ah hR;clear hR;go_in;by_cases h:m<=i
 ·have h':(m:Int)<=i:=Gv;go_wp2;go_ret;exact⟨by rw[<-HR.out,Ld h];simp<;>omega,Ag _ _⟩
 ·have h':¬(m:Int)<=i:=Gv;go_wp2;go_ret;exact⟨by rw[<-HR.out,Me h];simp<;>omega,Ag _ _⟩
def Ai6 (A:Option Cj) (l:List Nat) (n c m P:Nat) (w:Aj) (hn:n=l.length) (h:Rd w A 1 n (Ih l)) (hl:n<=1000000) (hP:w.cell? ⟨P,0,Ae⟩=Af (Aa Ab (m:Int))):
  Al Dp 292 #[Ad A n c,.func (.func 291) #[] #[.pointer (Af ⟨P,0,Ae⟩)]] w λe w'=>(∃r:Int,e= .returned (Aa Ab r)/\((l.any λi=>decide (m<=i))=decide (0<=r)))/\Below w.heap.size w w':=by
 have dt:=Ah h;have HN:=Ah hn;clear h hn;go_in;go_wp2
 go_loopw [5,8] (λ_ i wr=>∃k:Nat,k<=n/\i= Aa Ab k/\Below w.heap.size w wr/\Hid (∀j (hj:j<l.length),j<k->¬m<=l[j])) (λ_ i _=>n-(intOf i).toNat)
 case atStart=>exact⟨0,Gv,rfl,Ag _ _,Ah λj _ hj=>absurd hj Gv⟩
 obtain⟨k,hk,rfl,hb,HK⟩:=hrel;by_cases ac:k<n
 ·have be:k<l.length:=oHx HN.out;obtain⟨bb,o,rfl,cj,c0⟩:=Rp (dt.out.below hb) k be;have q1:(k:Int)<(n:Int):=Gv;have hPr:=Gw hb hP;obtain⟨r,hr⟩:=ey (l[k]);have jn:=Ah hr;rw[hr]at c0;have HC:=Ah λw' (h:w'.cell? ⟨P,0,Ae⟩=Af (Aa Ab (m:Int)))=>vU r m P w' h;clear hr;go_wp2_with fail;refine(HC.out _ hPr).mono ?_;rintro e w2 ⟨rfl,aj⟩;have bh:=Up hb aj;by_cases he:m<=r
  ·rw[Ld he];have HA:Hid ((l.any λi=>decide (m<=i))=true):=Ah (by rw[Ew];exact⟨l[k],Ay _,by rw[jn.out];simpa using he⟩);go_wp2;go_ret;exact⟨⟨k,rfl,by rw[HA.out];simp⟩,bh⟩
  ·rw[Me he]
   have js:=Ah (λj (hj:j<l.length) (h:j<k+1)=>show¬m<=l[j]by
    by_cases lu:j=k
    ·subst lu;rw[jn.out];exact he
    ·exact HK.out j hj Gv)
   go_wp2;exact⟨⟨k+1,Gv,by go_num,bh,js⟩,by simp[intOf];omega⟩
 ·have q1:¬(k:Int)<(n:Int):=Gv
  have HA:Hid ((l.any λi=>decide (m<=i))=false):=Ah (by
   rw[Du];intro x hx;obtain⟨j,hj,rfl⟩:=Be.1 hx;simpa using HK.out j hj (oHx HN.out))
  go_wp2;go_ret;exact⟨⟨-1,rfl,by rw[HA.out];rfl⟩,hb⟩
def Bo3 (A:Option Cj) (l:List Nat) (n c m P:Nat) (w:Aj) (hn:n=l.length) (h:Rd w A 1 n (Ih l)) (hl:n<=1000000) (hP:w.cell? ⟨P,0,Ae⟩=Af (Aa Ab (m:Int))):
  Al Dp 245 #[Ad A n c,.func (.func 291) #[] #[.pointer (Af ⟨P,0,Ae⟩)]] w (Gz (.bool (l.any λi=>decide (m<=i))) w):=by
 have HC:=Ah (Ai6 A l n c m P w hn h hl hP);generalize (l.any λi=>decide (m<=i))=R at HC⊢;clear hn h hl;go_in;go_wp2_with fail;refine HC.out.mono ?_;rintro e w2 ⟨⟨r,rfl,hr⟩,hb⟩;go_wp2;go_ret;exact⟨by rw[hr];rfl,hb⟩
def Pk {a:Act} (QR:op.guard=Ae) (t:Ck) (x y:Operand) (ho:op.op= .store t x y)
  (c c':Array Ak) (hx:a.eval x= .pointer (Af ⟨w.heap.size,0,Ae⟩)) (hy:a.eval y= .agg c') (hi:(P.info? t).map (·.size)=Af c'.size) (hc:c.size=c'.size) (h1:c'.all (·.oneCell')=true)
  (h:wpList P ops Q rest (a.put op.dst undef) (w.alloc (.cells c' t))):wpList P ops Q (op::rest) a (w.alloc (.cells c t)):=
 wpList_plain QR λK hK=>by
  have hk:K (a.put op.dst undef) (w.alloc (.cells c' t)):=hK _ _ h;unfold Oper.wp execOp;simp only[ho,hx,hy,Gr,run_storeAt_new w t c c' hi hc h1,Sem.run_pure,Fp];exact hk
def qln:Nat->Int
 |0=>2|1=>1|2=>2|_=>1
def qby:Nat->Int
 |0=>0|1=>1|2=>1|_=>0
def Ou (q:Nat):List Ak:=[Aa Ab (Iu q).1,Aa Ab (Iu q).2,Aa Ac (qln q),Aa Ab (qby q),
 Aa Ab (nxt q 0).1,Aa Ab (nxt q 0).2.1,Aa Ac (nxt q 0).2.2,Aa Ab (nxt q 1).1,Aa Ab (nxt q 1).2.1,Aa Ac (nxt q 1).2.2,Aa Ab (nxt q 2).1,Aa Ab (nxt q 2).2.1,Aa Ac (nxt q 2).2.2,
 Aa Ab (Ue q).1,Aa Ab (Ue q).2,Aa Ab (Uf q).1,Aa Ab (Uf q).2]
def Pj:List Ak:=Ou 0++Ou 1++Ou 2++Ou 3
structure Qf (w:Aj):Prop where
 lt:1<w.heap.size
 at':w.rangeAt 1 0 Pj
def Qf.below (h:Qf w) (hb:Below w.heap.size w w'):Qf w':=
 ⟨Br h.lt hb.size,λj v hj=>Gw hb (h.at' j v hj)⟩
def Qf.row (h:Qf w) (hq:q<4):w.rangeAt 1 (q*17) (Ou q):=by
 intro j v hj;have hj17:j<17:=(Ax.1 hj).1
 have:=h.at' (q*17+j) v (by
  have h4:q=0∨q=1∨q=2∨q=3:=Gv;rcases h4 with rfl|rfl|rfl|rfl
  ·unfold Pj;rw[Bj,Bj,Fk (by simp[Ou];omega)];simpa using hj
  ·unfold Pj;rw[Bj,Bj,Eg (by simp[Ou]),Fk (by simp[Ou];omega)];have:1*17+j-(Ou 0).length=j:=by simp[Ou]
   rw[this];exact hj
  ·unfold Pj;rw[Bj,Eg (by simp[Ou]),Fk (by simp[Ou];omega)];have:2*17+j-(Ou 0++Ou 1).length=j:=by simp[Ou]
   rw[this];exact hj
  ·unfold Pj;rw[Eg (by simp[Ou])];have:3*17+j-(Ou 0++Ou 1++Ou 2).length=j:=by simp[Ou]
   rw[this];exact hj)
 rw[Bu]at this;exact this
def Qf.qt (h:Qf w):Qt w:=by
 refine⟨h.lt,λq e hq he=>?_⟩;have hr:=h.row hq;have h3:e=0∨e=1∨e=2:=Gv;rcases h3 with rfl|rfl|rfl
 ·exact⟨hr 4 _ rfl,hr 5 _ rfl,hr 6 _ rfl⟩
 ·exact⟨hr 7 _ rfl,hr 8 _ rfl,hr 9 _ rfl⟩
 ·exact⟨hr 10 _ rfl,hr 11 _ rfl,hr 12 _ rfl⟩
def eF (c:Cl):Ak:= .agg #[Aa Ab (2*c.x+1),Aa Ab (2*c.y+1),Aa Ab (2*c.x+(Ue c.q).1),Aa Ab (2*c.y+(Ue c.q).2),Aa Ab (2*c.x+(Uf c.q).1),Aa Ab (2*c.y+(Uf c.q).2)]
def Ce7 (q:Nat):(0<=(Ue q).1/\(Ue q).1<=2)/\(0<=(Ue q).2/\(Ue q).2<=2)/\(0<=(Uf q).1/\(Uf q).1<=2)/\(0<=(Uf q).2/\(Uf q).2<=2):=by
 unfold Ue Uf;split<;>decide
def Cc5 (x y u1 u2 v1 v2:Int):Nat->Array Ak
 |0=>#[Aa Ab 1,Aa Ab 1,u1,u2,v1,v2]
 |1=>#[Aa Ab (2*x+1),Aa Ab (2*y+1),u1,u2,v1,v2]
 |2=>#[Aa Ab (2*x+1),Aa Ab (2*y+1),Aa Ab (2*x+u1),Aa Ab (2*y+u2),v1,v2]
 |_=>#[Aa Ab (2*x+1),Aa Ab (2*y+1),Aa Ab (2*x+u1),Aa Ab (2*y+u2),Aa Ab (2*x+v1),Aa Ab (2*y+v2)]
def cY {a b c d e f:Ak} (h:w.heap[g]? =Af (Obj.cells #[a,b,c,d,e,f] t (0,0))):
  (w.cell? ⟨g,0,Ae⟩=Af a/\w.cell? ⟨g,1,Ae⟩=Af b/\w.cell? ⟨g,2,Ae⟩=Af c/\w.cell? ⟨g,3,Ae⟩=Af d/\w.cell? ⟨g,4,Ae⟩=Af e/\w.cell? ⟨g,5,Ae⟩=Af f)/\
  (w.frozen? ⟨g,0,Ae⟩=false/\w.frozen? ⟨g,1,Ae⟩=false/\w.frozen? ⟨g,2,Ae⟩=false/\w.frozen? ⟨g,3,Ae⟩=false/\w.frozen? ⟨g,4,Ae⟩=false/\w.frozen? ⟨g,5,Ae⟩=false):=by
 have hc:∀j,w.cell? ⟨g,j,Ae⟩= #[a,b,c,d,e,f][j]? :=λj=>Bz w g j _ t (0,0) h;have hf:∀j,w.frozen? ⟨g,j,Ae⟩=false:=λj=>by simp[Ea,h]
 exact⟨⟨hc 0,hc 1,hc 2,hc 3,hc 4,hc 5⟩,hf 0,hf 1,hf 2,hf 3,hf 4,hf 5⟩
def tH (c:Cl) (w:Aj) (hc:c.ok=true) (hQ:Qf w):Al Dp 167 #[.agg #[Aa Ab c.x,Aa Ab c.y,Aa Ac c.q]] w (Gz (.tuple #[eF c,Aa Ab 0]) w):=by
 unfold Cl.ok at hc;obtain⟨c1,c2,c3,c4,c5⟩:=Jq.1 hc;obtain⟨x,y,q⟩:=c;dsimp only at hc c1 c2 c3 c4 c5⊢;have hq:q<4:=Gv;unfold eF;dsimp only;obtain⟨⟨o1,o2⟩,⟨o3,o4⟩,⟨o5,o6⟩,o7,o8⟩:=Ce7 q;have ae:=λ(w':Aj) (h:Qf w')=>h.row hq;unfold Ou at ae;obtain⟨⟨u1,u2⟩,h1⟩:=ey (Ue q);obtain⟨⟨v1,v2⟩,h2⟩:=ey (Uf q);obtain⟨⟨s1,s2⟩,h3⟩:=ey (Iu q);obtain⟨ln,h4⟩:=ey (qln q);obtain⟨qd,h5⟩:=ey (qby q);obtain⟨⟨n1,n2,n3⟩,h6⟩:=ey (nxt q 0);obtain⟨⟨n4,n5,n6⟩,h7⟩:=ey (nxt q 1);obtain⟨⟨n7,n8,n9⟩,h8⟩:=ey (nxt q 2);rw[h1,h2,h3,h4,h5,h6,h7,h8]at ae;rw[h1]at o1 o2 o3 o4;rw[h2]at o5 o6 o7 o8;rw[h1,h2];dsimp only at ae o1 o2 o3 o4 o5 o6 o7 o8⊢;have HC:=Ah hc;have BF:=Ah ae;have HQ:=Ah hQ;have q1:(q:Int)<4:=Gv;have H:=((Bx.start w).new #[x,y,Aa Ac q] 90 rfl).new #[Aa Ab 0,Aa Ab 0,Aa Ab 0,Aa Ab 0,Aa Ab 0,Aa Ab 0] 283 (N:=w.heap.size+1) Gy;clear hc ae h1 h2 h3 h4 h5 h6 h7 h8 hQ;go_in;go_upto_region 1 with fail;generalize (w.alloc _).alloc _=W at H⊢;generalize w.heap.size=N at H⊢;obtain⟨⟨a0,a1,a2⟩,_⟩:=Hg (H.b 0);go_wp2_with fail;refine(Jg x y q _).mono ?_;rintro e w2 ⟨rfl,hb⟩;rw[HC.out,Lq];have H2:=H.call hb;clear a0 a1 a2 hb H;obtain⟨⟨a0,a1,a2⟩,_⟩:=Hg (H2.b 0);have hr:=BF.out _ (HQ.out.below H2.below);go_upto_region 3 with fail;have hz:Tryz.prog.info? 300=Tryz.prog.info? 300:=rfl;clear hz
 repeat' (go_not_at_region 4;first
  |refine wpList_load_mid rfl 300 (.tmp 13) rfl 1 (q*17) rfl _ _ hr Tryz.underlying300 rfl Gx ?_
  |refine Pk rfl 300 (.tmp 4) (.tmp 14) rfl _ _ rfl rfl Gx rfl rfl ?_
  |go_step)
 clear hr a0 a1 a2;obtain⟨G4,F0⟩:=ez w2.heap.size;rw[<-F0];have H4:=H2.new #[s1,s2,Aa Ac ln,qd,n1,n2,Aa Ac n3,n4,n5,Aa Ac n6,n7,n8,Aa Ac n9,u1,u2,v1,v2] 300 F0.symm;obtain⟨W4,QJ⟩:=ez (w2.alloc (.cells #[s1,s2,Aa Ac ln,qd,n1,n2,Aa Ac n3,n4,n5,Aa Ac n6,n7,n8,Aa Ac n9,u1,u2,v1,v2] 300));rw[<-QJ]at H4;change Code.wp _ _ _ _ (w2.alloc (.cells #[s1,s2,Aa Ac ln,qd,n1,n2,Aa Ac n3,n4,n5,Aa Ac n6,n7,n8,Aa Ac n9,u1,u2,v1,v2] 300));rw[<-QJ];have ja:=H4.range 2 rfl;have r13:=ja 13 _ rfl;have r14:=ja 14 _ rfl;have r15:=ja 15 _ rfl;have r16:=ja 16 _ rfl;simp only[Bu]at r13 r14 r15 r16;clear ja F0 QJ;go_wp2_with fail;obtain⟨G5,F3⟩:=ez W4.heap.size;rw[<-F3];have H5:=H4.new (Cc5 x y u1 u2 v1 v2 0) 283 F3.symm;have hne:N≠G5:=oHx (H4.lt 0 rfl);have FI:N+1≠G5:=oHx (H4.lt 1 rfl);clear F3 r13 r14 r15 r16
 go_loopw [21] (λi wr=>∃k:Nat,k<=3/\i= Aa Ab k/\Bx w [(N,#[x,y,Aa Ac q],90),(N+1,#[Aa Ab 0,Aa Ab 0,Aa Ab 0,Aa Ab 0,Aa Ab 0,Aa Ab 0],283),(G4,#[s1,s2,Aa Ac ln,qd,n1,n2,Aa Ac n3,n4,n5,Aa Ac n6,n7,n8,Aa Ac n9,u1,u2,v1,v2],300),(G5,Cc5 x y u1 u2 v1 v2 k,283)] wr) (λi _=>3-(intOf i).toNat)
 case atStart=>exact⟨0,Gv,rfl,H5⟩
 obtain⟨k,hk,rfl,Hr⟩:=hrel;obtain⟨⟨a0,a1,a2⟩,_⟩:=Hg (Hr.b 0);have w1:=Cb (2*x) Gv;have ZK:=Cb (2*y) Gv;have h4:k=0∨k=1∨k=2∨k=3:=Gv;rcases h4 with rfl|rfl|rfl|rfl
 ·as_aux_lemma=>
   have w3:Ab.wrap (1+2*x)=2*x+1:=by rw[Cb _ Gv];omega
   have w4:Ab.wrap (1+2*y)=2*y+1:=by rw[Cb _ Gv];omega
   obtain⟨⟨d0,d1,d2,d3,d4,d5⟩,f0,f1,f2,f3,f4,f5⟩:=cY (Hr.b 3);go_wp2
   go_region
   go_wp2
   go_region
   go_wp2;exact⟨⟨1,Gv,rfl,((Hr.set 3 0 rfl (Aa Ab (2*x+1))).set 3 1 rfl (Aa Ab (2*y+1))).drew.drew⟩,by simp[intOf]⟩
 ·as_aux_lemma=>
   have w3:Ab.wrap (u1+2*x)=2*x+u1:=by rw[Cb _ Gv];omega
   have w4:Ab.wrap (u2+2*y)=2*y+u2:=by rw[Cb _ Gv];omega
   obtain⟨⟨d0,d1,d2,d3,d4,d5⟩,f0,f1,f2,f3,f4,f5⟩:=cY (Hr.b 3);go_wp2
   go_region
   go_wp2
   go_region
   go_wp2;exact⟨⟨2,Gv,rfl,((Hr.set 3 2 rfl (Aa Ab (2*x+u1))).set 3 3 rfl (Aa Ab (2*y+u2))).drew.drew⟩,by simp[intOf]⟩
 ·as_aux_lemma=>
   have w3:Ab.wrap (v1+2*x)=2*x+v1:=by rw[Cb _ Gv];omega
   have w4:Ab.wrap (v2+2*y)=2*y+v2:=by rw[Cb _ Gv];omega
   obtain⟨⟨d0,d1,d2,d3,d4,d5⟩,f0,f1,f2,f3,f4,f5⟩:=cY (Hr.b 3);go_wp2
   go_region
   go_wp2
   go_region
   go_wp2;exact⟨⟨3,Gv,rfl,((Hr.set 3 4 rfl (Aa Ab (2*x+v1))).set 3 5 rfl (Aa Ab (2*y+v2))).drew.drew⟩,by simp[intOf]⟩
 ·as_aux_lemma=>
   obtain⟨⟨d0,d1,d2,d3,d4,d5⟩,f0,f1,f2,f3,f4,f5⟩:=cY (Hr.b 3);obtain⟨⟨b0,b1,b2,b3,b4,b5⟩,g0,g1,g2,g3,g4,g5⟩:=cY (Hr.b 1);go_wp2_with fail;have H6:=(((((Hr.set 1 0 rfl (Aa Ab (2*x+1))).set 1 1 rfl (Aa Ab (2*y+1))).set 1 2 rfl (Aa Ab (2*x+u1))).set 1 3 rfl (Aa Ab (2*y+u2))).set 1 4 rfl (Aa Ab (2*x+v1))).set 1 5 rfl (Aa Ab (2*y+v2));exact Ai (Hj rfl rfl (H6.range 1 rfl) Tryz.underlying283 rfl Gx) rfl ⟨rfl,H6.below⟩
def xZ:Prop:=∀(m:Mv) (c:Cl) (w:Aj),m.ok=true->c.ok=true->Qf w->Tn w->
 Al Dp 173 #[.agg #[Aa Ac m.t,Aa Ab m.x,Aa Ab m.y],.agg #[Aa Ab c.x,Aa Ab c.y,Aa Ac c.q]] w (Gz (.agg #[Aa Ab (Ht m c).x,Aa Ab (Ht m c).y,Aa Ac (Ht m c).q]) w)
def clR (r:Cl×Int):Ak:= .tuple #[.agg #[Aa Ab r.1.x,Aa Ab r.1.y,Aa Ac r.1.q],Aa Ab r.2]
def Uy (rp:xZ) (m:Mv) (c:Cl) (w:Aj) (hm:m.ok=true) (hc:c.ok=true) (hQ:Qf w) (hT:Tn w):
  Al Dp 121 #[.agg #[Aa Ac m.t,Aa Ab m.x,Aa Ab m.y],.agg #[Aa Ab c.x,Aa Ab c.y,Aa Ac c.q]] w (Gz (clR (Lj m c)) w):=by
 have HM:=Ah λw' (hb:Below w.heap.size w w')=>rp m c w' hm hc (hQ.below hb) (hT.below hb);have hR:Lj m c=if(Ht m c).ok then (Ht m c,0)else (cl0,3):=rfl;obtain⟨⟨rx,ry,rq⟩,hd⟩:=ey (Ht m c);rw[hd]at HM hR;dsimp only at HM;generalize Lj m c=R at hR⊢;have HR:=Ah hR;obtain⟨m1,_⟩:=Mv.ok_iff.1 hm;obtain⟨t,x,y⟩:=m;obtain⟨a,b,q⟩:=c;dsimp only at m1 HM⊢;have E1:Hid (okM t x y=true):=Ah hm;have E2:Hid (okC a b q=true):=Ah hc;have B1:=Ah (show 0<=(t:Int)/\(t:Int)<=255 by omega);have H:=(((Bx.start w).new #[Aa Ac t,x,y] 30 rfl).new #[a,b,Aa Ac q] 90 (N:=w.heap.size+1) Gy).new #[Aa Ab 0,Aa Ab 0,Aa Ac 0] 90 (N:=w.heap.size+2) Gy;clear hm hc hQ hT hR hd;go_in;go_upto_region 1 with fail;generalize ((w.alloc _).alloc _).alloc _=W at H⊢;generalize w.heap.size=N at H⊢;obtain⟨P,hP⟩:=ez (N+2);rw[<-hP]at H;rw[show N+1+1=P from hP.symm];clear hP;obtain⟨⟨f0,f1,f2⟩,_⟩:=Hg (H.b 0);go_wp2_with fail;refine(Jn t x y _ B1.out).mono ?_;rintro e w2 ⟨rfl,hb⟩;rw[E1.out,Lq];have H2:=H.call hb;clear f0 f1 f2 hb H;obtain⟨⟨g0,g1,g2⟩,_⟩:=Hg (H2.b 1);go_wp2_with fail;refine(Jg a b q _).mono ?_;rintro e w3 ⟨rfl,hb⟩;rw[E2.out,Lq];have H3:=H2.call hb;clear g0 g1 g2 hb H2;obtain⟨⟨f0,f1,f2⟩,_⟩:=Hg (H3.b 0);obtain⟨⟨g0,g1,g2⟩,_⟩:=Hg (H3.b 1);go_wp2_with fail;refine(HM.out _ H3.below).mono ?_;rintro e w4 ⟨rfl,hb⟩;have H4:=H3.call hb;clear f0 f1 f2 g0 g1 g2 hb H3;have H5:=H4.new #[rx,ry,Aa Ac rq] 90 rfl;go_wp2_with fail;refine(Jg rx ry rq _).mono ?_;rintro e w5 ⟨rfl,hb⟩;have H6:=H5.call hb;clear hb H5 H4;obtain⟨⟨c0,c1,c2⟩,d0,d1,d2⟩:=Hg (H6.b 2);obtain⟨⟨b0,b1,b2⟩,_⟩:=Hg (H6.b 3)
 cases hk:okC rx ry rq
 ·have HK:Hid ((⟨rx,ry,rq⟩:Cl).ok=false):=Ah hk;rw[Qm];clear hk;go_wp2_with fail;have H7:=((H6.set 2 0 rfl (Aa Ab 0)).set 2 1 rfl (Aa Ab 0)).set 2 2 rfl (Aa Ac 0);exact Ai (Hj rfl rfl (H7.range 2 rfl) Tryz.underlying90 rfl Gx) rfl ⟨by rw[HR.out,HK.out];rfl,H7.below⟩
 ·have HK:Hid ((⟨rx,ry,rq⟩:Cl).ok=true):=Ah hk;rw[Lq];clear hk;go_wp2_with fail;have H7:=((H6.set 2 0 rfl (Aa Ab rx)).set 2 1 rfl (Aa Ab ry)).set 2 2 rfl (Aa Ac rq);exact Ai (Hj rfl rfl (H7.range 2 rfl) Tryz.underlying90 rfl Gx) rfl ⟨by rw[HR.out,HK.out];rfl,H7.below⟩
def Bx.nodup (h:Bx w l wr):(l.map (·.1)).Nodup:=by
 rw[List.Nodup,Fj];intro i j hi hj FB he;simp only[List.length_map]at hi hj;simp only[Ge]at he;have h1:l[i]? =Af (l[i].1,l[i].2.1,l[i].2.2):=Aw hi;have h2:l[j]? =Af (l[i].1,l[j].2.1,l[j].2.2):=by rw[he];exact Aw hj
 have:=h.inj i j _ _ _ _ _ h1 h2;omega
def Bx.perm (h:Bx w l wr) (hp:l.Perm l'):Bx w l' wr:=by
 have hn:(l'.map (·.1)).Nodup:=(hp.map _).nodup_iff.1 h.nodup;have hm:∀(i g:Nat) (cs:Array Ak) (t:Ck),l'[i]? =Af (g,cs,t)->∃j,l[j]? =Af (g,cs,t):=λi g cs t hi=>List.mem_iff_getElem?.1 (hp.mem_iff.2 (List.mem_of_getElem? hi));refine⟨h.below,λi g cs t hi=>?_,λi g cs t hi=>?_,λi j g cs t ds u hi hj=>?_⟩
 ·obtain⟨j,hj⟩:=hm i g cs t hi;exact h.blk j g cs t hj
 ·obtain⟨j,hj⟩:=hm i g cs t hi;exact h.lo j g cs t hj
 ·rw[List.Nodup,Fj]at hn;have li:=(Ax.1 hi);have lj:=(Ax.1 hj);obtain⟨ye,DE⟩:=li;obtain⟨QS,P_⟩:=lj;rcases Nat.lt_trichotomy i j with ac|heq|lq
  ·exact absurd (by rw[Ge,Ge,DE,P_]) (hn i j (by simpa using ye) (by simpa using QS) ac)
  ·exact heq
  ·exact absurd (by rw[Ge,Ge,DE,P_]) (hn j i (by simpa using QS) (by simpa using ye) lq)
def Bx.ne (h:Bx w l wr) (i j:Nat) (FB:i≠j) (hi:l[i]? =Af (g,cs,t)) (hj:l[j]? =Af (g',ds,u)):g≠g':=by
 intro e;subst e;exact FB (h.inj i j g cs t ds u hi hj)
def Bx.upto (h:Bx w l wr) (n:Nat):Bx w (l.take n) wr:=by
 have hk:∀(i:Nat) (x:Nat×Array Ak×Ck),(l.take n)[i]? =Af x->l[i]? =Af x:=by
  intro i x hi;rw[List.getElem?_take]at hi
  split at hi
  ·exact hi
  ·cases hi
 exact⟨h.below,λi g cs t hi=>h.blk i g cs t (hk i _ hi),λi g cs t hi=>h.lo i g cs t (hk i _ hi),λi j g cs t ds u hi hj=>h.inj i j g cs t ds u (hk i _ hi) (hk j _ hj)⟩
def bT (X:Int):bits BinOp.and IntKind.i64 X 1=X%2:=by
 have h1:((BitVec.ofInt 64 X&&&BitVec.ofInt 64 1).toNat:Int)=X%2:=by
  rw[BitVec.toNat_and,BitVec.toNat_ofInt,BitVec.toNat_ofInt];have e:((1:Int)%(2^64:Nat)).toNat=1:=He;rw[e,Nat.and_one_is_mod];omega
 show Ab.wrap ((BitVec.ofInt 64 X&&&BitVec.ofInt 64 1).toNat:Int)=_;rw[h1];exact Cb _ Gv
def sqN (d:Int×Int):Nat->Nat
 |0=>0
 |k+1=>if Iu k=d then k else sqN d k
def Cf8 (d:Int×Int):sqN d 4=Mb d:=by
 unfold Mb;simp only[sqN,eq_comm (a:=d)]
 split
 ·rfl
 ·split
  ·rfl
  ·split
   ·rfl
   ·split<;>rfl
def Qx:Ak:= .agg Pj.toArray
def qU (w:Aj):(Instr.index 301 Qx (Aa Ab 0)).run Dp w= .ok (.agg (Ou 0).toArray) w:=Gx
def qV (w:Aj):(Instr.index 301 Qx (Aa Ab 1)).run Dp w= .ok (.agg (Ou 1).toArray) w:=Gx
def qW (w:Aj):(Instr.index 301 Qx (Aa Ab 2)).run Dp w= .ok (.agg (Ou 2).toArray) w:=Gx
def qX (w:Aj):(Instr.index 301 Qx (Aa Ab 3)).run Dp w= .ok (.agg (Ou 3).toArray) w:=Gx
def wF (k:Nat) (hk:k<4) (w:Aj):(Instr.index 301 Qx (Aa Ab k)).run Dp w= .ok (.agg (Ou k).toArray) w:=by
 have:k=0∨k=1∨k=2∨k=3:=Gv;rcases this with rfl|rfl|rfl|rfl
 ·exact qU w
 ·exact qV w
 ·exact qW w
 ·exact qX w
def Ax6 (m:Mv) (c:Cl) (w:Aj) (hm:m.ok=true) (hc:c.ok=true) (hQ:Qf w) (hT:Tn w):
  Al Dp 173 #[.agg #[Aa Ac m.t,Aa Ab m.x,Aa Ab m.y],.agg #[Aa Ab c.x,Aa Ab c.y,Aa Ac c.q]] w (Gz (.agg #[Aa Ab (Ht m c).x,Aa Ab (Ht m c).y,Aa Ac (Ht m c).q]) w):=by
 obtain⟨⟨rx,ry,rq⟩,hR⟩:=ey (Ht m c);rw[hR];unfold Cl.ok at hc;obtain⟨c1,c2,c3,c4,c5⟩:=Jq.1 hc;have JY:=λw=>vB c w Gv Gv;have qs:=λw h=>qR m (2*c.x+1) (2*c.y+1) w hm Gv Gv h;obtain⟨t,x,y⟩:=m;obtain⟨a,b,q⟩:=c;obtain⟨m1,⟨m2,m3⟩,⟨m4,m5⟩,_⟩:=Mv.ok_iff.1 hm;dsimp only at c1 c2 c3 c4 c5 m1 m2 m3 m4 m5 JY qs⊢;have JX:(⟨t,0,0⟩:Mv).ok=true:=Mv.ok_iff.2 ⟨m1,by dsimp only;omega,by dsimp only;omega,by dsimp only;omega⟩;have xy:(-1<=(Iu q).1/\(Iu q).1<=1)/\(-1<=(Iu q).2/\(Iu q).2<=1):=by unfold Iu;split<;>decide
 have lv:=λw h=>qR ⟨t,0,0⟩ (Iu q).1 (Iu q).2 w JX Gv Gv h;have hq:q<4:=Gv;obtain⟨⟨V3,V4⟩,V5,V6⟩:=fO t (x:=2*a+1) (y:=2*b+1) (B:=10000) Gv Gv;obtain⟨⟨X,Y⟩,LN⟩:=ey (Iy ⟨t,x,y⟩ (2*a+1) (2*b+1))
 have hXb:(-60000<=X/\X<=60000)/\(-60000<=Y/\Y<=60000):=by
  unfold Iy at LN;simp only[Prod.mk.injEq]at LN;obtain⟨e1,e2⟩:=LN;omega
 have H:=(((Bx.start w).new #[Aa Ac t,x,y] 30 rfl).new #[a,b,Aa Ac q] 90 (N:=w.heap.size+1) Gy).new #[Aa Ab 0,Aa Ab 0,Aa Ac 0] 90 (N:=w.heap.size+2) Gy;have q1:(q:Int)<4:=Gv;have JC:=Ah JY;have ae:=λ(w':Aj) (h:Qf w')=>h.row hq;unfold Ou at ae;obtain⟨⟨s1,s2⟩,h3⟩:=ey (Iu q);rw[h3]at ae lv xy;dsimp only at ae lv xy;obtain⟨⟨U,V⟩,hUV⟩:=ey (Iy ⟨t,0,0⟩ s1 s2)
 have rz:rx=X/2/\ry=Y/2/\rq=Mb (U,V):=by
  unfold Ht at hR;dsimp only at hR;rw[h3,LN]at hR;have hU:Ii (mat t) s1 s2=(U,V):=by rw[<-hUV];unfold Iy;simp
  rw[hU]at hR;simp only[Cl.mk.injEq]at hR;exact⟨hR.1.symm,hR.2.1.symm,hR.2.2.symm⟩
 rw[LN]at qs;rw[hUV]at lv;unfold ptR at qs lv;dsimp only at qs lv;obtain⟨hrx1,hrx2,hrq⟩:=rz;have HX1:=Ah hrx1;have y9:=Ah hrx2;clear hrx1 hrx2;have HRQ:=Ah hrq;have BF:=Ah ae;have GI:=Ah qs;have AN:=Ah lv;have HQ:=Ah hQ;have HT:=Ah hT;clear JY qs lv ae hQ hT hR h3 hm hc JX LN hUV hrq V3 V4 V5 V6;go_in;go_upto_region 1 with fail;generalize ((w.alloc _).alloc _).alloc _=W at H⊢;generalize w.heap.size=N at H⊢;obtain⟨P,hP⟩:=ez (N+2);rw[<-hP]at H;rw[show N+1+1=P from hP.symm];have OH:N≠P:=Gv;have FI:N+1≠P:=Gv;clear hP;obtain⟨⟨g0,g1,g2⟩,_⟩:=Hg (H.b 1);have hr:=BF.out _ (HQ.out.below H.below);have r0:=hr 0 _ rfl;have r1:=hr 1 _ rfl;simp only[Df]at r0;clear hr;go_cut [5,6] (λs5 s6 wx=>∃p5 p6,s5= .pointer (Af ⟨p5,0,Ae⟩)/\s6= .pointer (Af ⟨p6,0,Ae⟩)/\Bx w [(N,#[Aa Ac t,x,y],30),(N+1,#[a,b,Aa Ac q],90),(P,#[Aa Ab 0,Aa Ab 0,Aa Ac 0],90),(p5,#[Aa Ab (2*a+1),Aa Ab (2*b+1)],282),(p6,#[s1,s2],282)] wx)
 case first=>
  have ag:Hid (∀W',Below W.heap.size W W'->(λw':Aj=>w'.cell? ⟨N+1,0,Ae⟩=Af (Aa Ab a)/\w'.cell? ⟨N+1,1,Ae⟩=Af (Aa Ab b)/\w'.cell? ⟨N+1,2,Ae⟩=Af (Aa Ac q)/\w'.cell? ⟨1,q*17,Ae⟩=Af (Aa Ab s1)/\w'.cell? ⟨1,q*17+1,Ae⟩=Af (Aa Ab s2)) W'):=Ah λW' h=>⟨Gw h g0,Gw h g1,Gw h g2,Gw h r0,Gw h r1⟩;clear g0 g1 g2 r0 r1 OH FI HQ HT GI AN BF;refine Ao (S:=(λw':Aj=>w'.cell? ⟨N+1,0,Ae⟩=Af (Aa Ab a)/\w'.cell? ⟨N+1,1,Ae⟩=Af (Aa Ab b)/\w'.cell? ⟨N+1,2,Ae⟩=Af (Aa Ac q)/\w'.cell? ⟨1,q*17,Ae⟩=Af (Aa Ab s1)/\w'.cell? ⟨1,q*17+1,Ae⟩=Af (Aa Ab s2))) Gx (ag.out _ (Ag _ _).drew) (λhS=>?_);have hb:Below W.heap.size W W.drew:=(Ag _ _).drew;have H:=H.drew;generalize W.drew=X0 at H hb⊢;have hS:=ag.out _ hb;refine wpAnyH_take (i:=0) (v:=?_) rfl Gx Gx Gx (λ_ _ _ h=>h) (Or.inl ⟨by rfl,?_⟩) hS ?_;rotate_left
  ·intro w0 hSw
   (try dsimp only at hSw)
   go_split_ands;go_simp
   try with_reducible rfl
  try simp only[Act.put,Cf,Cd,Ci,Cg,Ch]
  refine wpAnyH_take (i:=2) (v:=?_) rfl Gx Gx Gx (λ_ _ _ h=>h) (Or.inl ⟨by rfl,?_⟩) hS ?_;rotate_left
  ·intro w0 hSw
   (try dsimp only at hSw)
   go_split_ands;go_simp
   try with_reducible rfl
  try simp only[Act.put,Cf,Cd,Ce,Ci,Cg,Ch]
  refine wpAnyH_take (i:=3) (v:=?_) rfl Gx Gx Gx (λ_ _ _ h=>h) (Or.inl ⟨by rfl,?_⟩) hS ?_;rotate_left
  ·intro w0 hSw
   (try dsimp only at hSw)
   go_split_ands;go_simp
   try with_reducible rfl
  try simp only[Act.put,Cf,Cd,Ce,Ci,Cg,Ch]
  refine wpAnyH_take (i:=4) (v:=?_) rfl Gx Gx Gx (λ_ _ _ h=>h) (Or.inl ⟨by rfl,?_⟩) hS ?_;rotate_left
  ·intro w0 hSw
   (try dsimp only at hSw)
   go_split_ands;go_simp
   try with_reducible rfl
  try simp only[Act.put,Cf,Cd,Ce,Ci,Cg,Ch]
  refine wpAnyH_take (i:=5) (v:=?_) rfl Gx Gx Gx (λ_ _ _ h=>h) (Or.inl ⟨by rfl,?_⟩) hS ?_;rotate_left
  ·intro w0 hSw
   (try dsimp only at hSw)
   go_split_ands;go_simp
   try with_reducible rfl
  try simp only[Act.put,Cf,Cd,Ce,Ci,Cg,Ch]
  refine wpAnyH_take (i:=6) (v:=?_) rfl Gx Gx Gx (λ_ _ _ h=>h) (Or.inl ⟨by rfl,?_⟩) hS ?_;rotate_left
  ·intro w0 hSw
   (try dsimp only at hSw)
   go_split_ands;go_simp
   try with_reducible rfl
  try simp only[Act.put,Cf,Cd,Ce,Ci,Cg,Ch]
  refine Ap (rs:=[1,7,8]) Gx Gy (Aq rfl (λK hK=>?_) (Aq rfl (λK hK=>?_) (Aq rfl (λK hK=>?_) (Ar))))
  ·go_simp;refine(JC.out _).mono ?_;rintro e X1 ⟨rfl,ad⟩;have hb:=Up hb ad;have H:=H.call ad;refine hK.o (ag.out _ hb) (λhS=>?_);clear hK K ad;refine Ap (rs:=[7,8]) Gx Gy (Aq rfl (λK hK=>?_) (Aq rfl (λK hK=>?_) (Ar)))
   ·obtain⟨p5,hp⟩:=ey X1.heap.size;have DI:W.heap.size<=p5:=hp▸hb.size;have hb:=hb.alloc hb.size (.cells #[Aa Ab 0,Aa Ab 0] 282);have H:=H.new #[Aa Ab 0,Aa Ab 0] 282 hp;have SQ:=Ah hp;go_simp;refine hK.o (ag.out _ hb) (λhS=>?_);clear hK K;generalize X1.alloc _=X2 at H hb⊢;clear hp hS SQ;have hS:=ag.out _ hb;refine Ap (rs:=[8]) Gx Gy (Aq rfl (λK hK=>?_) (Ar))
    ·obtain⟨p6,hp⟩:=ey X2.heap.size;have DJ:W.heap.size<=p6:=hp▸hb.size;have hb:=hb.alloc hb.size (.cells #[Aa Ab 0,Aa Ab 0] 282);have H:=H.new #[Aa Ab 0,Aa Ab 0] 282 hp;have SR:=Ah hp;go_simp;refine hK.o (ag.out _ hb) (λhS=>?_);clear hK K;generalize X2.alloc _=X3 at H hb⊢;clear hp hS SR;have hS:=ag.out _ hb;refine Ap (rs:=[9]) Gx Gy (Aq rfl (λK hK=>?_) Ar);obtain⟨⟨y0,y1⟩,z0,z1⟩:=Hm (H.b 3);have hb:=(hb.setCell (p:=⟨p5,0,Ae⟩) DI (Aa Ab (2*a+1))).setCell (p:=⟨p5,1,Ae⟩) DI (Aa Ab (2*b+1));have H:=(H.set 3 0 rfl (Aa Ab (2*a+1))).set 3 1 rfl (Aa Ab (2*b+1));go_simp;refine hK.o (ag.out _ hb) (λhS=>?_);clear hK K y0 y1 z0 z1 hS;generalize (X3.setCell _ _).setCell _ _=Y9 at H hb⊢;have hS:=ag.out _ hb;refine Ap (rs:=[10]) Gx Gy (Aq rfl (λK hK=>?_) Ar);obtain⟨⟨y0,y1⟩,z0,z1⟩:=Hm (H.b 4);have hb:=(hb.setCell (p:=⟨p6,0,Ae⟩) DJ (Aa Ab (s1))).setCell (p:=⟨p6,1,Ae⟩) DJ (Aa Ab (s2));have H:=(H.set 4 0 rfl (Aa Ab (s1))).set 4 1 rfl (Aa Ab (s2));go_simp;refine hK.o (ag.out _ hb) (λhS=>?_);clear hK K y0 y1 z0 z1 hS;generalize (Y9.setCell _ _).setCell _ _=Y10 at H hb⊢;have hS:=ag.out _ hb;refine An Gx ?_ _;go_wp2;go_meet;exact⟨_,_,rfl,rfl,H⟩
   ·obtain⟨p6,hp⟩:=ey X1.heap.size;have DJ:W.heap.size<=p6:=hp▸hb.size;have hb:=hb.alloc hb.size (.cells #[Aa Ab 0,Aa Ab 0] 282);have H:=H.new #[Aa Ab 0,Aa Ab 0] 282 hp;have SR:=Ah hp;go_simp;refine hK.o (ag.out _ hb) (λhS=>?_);clear hK K;generalize X1.alloc _=X2 at H hb⊢;clear hp hS SR;have hS:=ag.out _ hb;refine Ap (rs:=[7]) Gx Gy (Aq rfl (λK hK=>?_) (Ar))
    ·obtain⟨p5,hp⟩:=ey X2.heap.size;have DI:W.heap.size<=p5:=hp▸hb.size;have hb:=hb.alloc hb.size (.cells #[Aa Ab 0,Aa Ab 0] 282);have H:=H.new #[Aa Ab 0,Aa Ab 0] 282 hp;have SQ:=Ah hp;go_simp;refine hK.o (ag.out _ hb) (λhS=>?_);clear hK K;generalize X2.alloc _=X3 at H hb⊢;clear hp hS SQ;have hS:=ag.out _ hb;refine Ap (rs:=[9]) Gx Gy (Aq rfl (λK hK=>?_) Ar);obtain⟨⟨y0,y1⟩,z0,z1⟩:=Hm (H.b 4);have hb:=(hb.setCell (p:=⟨p5,0,Ae⟩) DI (Aa Ab (2*a+1))).setCell (p:=⟨p5,1,Ae⟩) DI (Aa Ab (2*b+1));have H:=(H.set 4 0 rfl (Aa Ab (2*a+1))).set 4 1 rfl (Aa Ab (2*b+1));go_simp;refine hK.o (ag.out _ hb) (λhS=>?_);clear hK K y0 y1 z0 z1 hS;generalize (X3.setCell _ _).setCell _ _=Y9 at H hb⊢;have hS:=ag.out _ hb;refine Ap (rs:=[10]) Gx Gy (Aq rfl (λK hK=>?_) Ar);obtain⟨⟨y0,y1⟩,z0,z1⟩:=Hm (H.b 3);have hb:=(hb.setCell (p:=⟨p6,0,Ae⟩) DJ (Aa Ab (s1))).setCell (p:=⟨p6,1,Ae⟩) DJ (Aa Ab (s2));have H:=(H.set 3 0 rfl (Aa Ab (s1))).set 3 1 rfl (Aa Ab (s2));go_simp;refine hK.o (ag.out _ hb) (λhS=>?_);clear hK K y0 y1 z0 z1 hS;generalize (Y9.setCell _ _).setCell _ _=Y10 at H hb⊢;have hS:=ag.out _ hb;refine An Gx ?_ _;go_wp2;go_meet;exact⟨_,_,rfl,rfl,H.perm (.cons _ (.cons _ (.cons _ (.swap _ _ _))))⟩
  ·obtain⟨p5,hp⟩:=ey X0.heap.size;have DI:W.heap.size<=p5:=hp▸hb.size;have hb:=hb.alloc hb.size (.cells #[Aa Ab 0,Aa Ab 0] 282);have H:=H.new #[Aa Ab 0,Aa Ab 0] 282 hp;have SQ:=Ah hp;go_simp;refine hK.o (ag.out _ hb) (λhS=>?_);clear hK K;generalize X0.alloc _=X1 at H hb⊢;clear hp hS SQ;have hS:=ag.out _ hb;refine Ap (rs:=[1,8]) Gx Gy (Aq rfl (λK hK=>?_) (Aq rfl (λK hK=>?_) (Ar)))
   ·go_simp;refine(JC.out _).mono ?_;rintro e X2 ⟨rfl,ad⟩;have hb:=Up hb ad;have H:=H.call ad;refine hK.o (ag.out _ hb) (λhS=>?_);clear hK K ad;refine Ap (rs:=[8]) Gx Gy (Aq rfl (λK hK=>?_) (Ar))
    ·obtain⟨p6,hp⟩:=ey X2.heap.size;have DJ:W.heap.size<=p6:=hp▸hb.size;have hb:=hb.alloc hb.size (.cells #[Aa Ab 0,Aa Ab 0] 282);have H:=H.new #[Aa Ab 0,Aa Ab 0] 282 hp;have SR:=Ah hp;go_simp;refine hK.o (ag.out _ hb) (λhS=>?_);clear hK K;generalize X2.alloc _=X3 at H hb⊢;clear hp hS SR;have hS:=ag.out _ hb;refine Ap (rs:=[9]) Gx Gy (Aq rfl (λK hK=>?_) Ar);obtain⟨⟨y0,y1⟩,z0,z1⟩:=Hm (H.b 3);have hb:=(hb.setCell (p:=⟨p5,0,Ae⟩) DI (Aa Ab (2*a+1))).setCell (p:=⟨p5,1,Ae⟩) DI (Aa Ab (2*b+1));have H:=(H.set 3 0 rfl (Aa Ab (2*a+1))).set 3 1 rfl (Aa Ab (2*b+1));go_simp;refine hK.o (ag.out _ hb) (λhS=>?_);clear hK K y0 y1 z0 z1 hS;generalize (X3.setCell _ _).setCell _ _=Y9 at H hb⊢;have hS:=ag.out _ hb;refine Ap (rs:=[10]) Gx Gy (Aq rfl (λK hK=>?_) Ar);obtain⟨⟨y0,y1⟩,z0,z1⟩:=Hm (H.b 4);have hb:=(hb.setCell (p:=⟨p6,0,Ae⟩) DJ (Aa Ab (s1))).setCell (p:=⟨p6,1,Ae⟩) DJ (Aa Ab (s2));have H:=(H.set 4 0 rfl (Aa Ab (s1))).set 4 1 rfl (Aa Ab (s2));go_simp;refine hK.o (ag.out _ hb) (λhS=>?_);clear hK K y0 y1 z0 z1 hS;generalize (Y9.setCell _ _).setCell _ _=Y10 at H hb⊢;have hS:=ag.out _ hb;refine An Gx ?_ _;go_wp2;go_meet;exact⟨_,_,rfl,rfl,H⟩
   ·obtain⟨p6,hp⟩:=ey X1.heap.size;have DJ:W.heap.size<=p6:=hp▸hb.size;have hb:=hb.alloc hb.size (.cells #[Aa Ab 0,Aa Ab 0] 282);have H:=H.new #[Aa Ab 0,Aa Ab 0] 282 hp;have SR:=Ah hp;go_simp;refine hK.o (ag.out _ hb) (λhS=>?_);clear hK K;generalize X1.alloc _=X2 at H hb⊢;clear hp hS SR;have hS:=ag.out _ hb;refine Ap (rs:=[1]) Gx Gy (Aq rfl (λK hK=>?_) (Ar))
    ·go_simp;refine(JC.out _).mono ?_;rintro e X3 ⟨rfl,ad⟩;have hb:=Up hb ad;have H:=H.call ad;refine hK.o (ag.out _ hb) (λhS=>?_);clear hK K ad;refine Ap (rs:=[9]) Gx Gy (Aq rfl (λK hK=>?_) Ar);obtain⟨⟨y0,y1⟩,z0,z1⟩:=Hm (H.b 3);have hb:=(hb.setCell (p:=⟨p5,0,Ae⟩) DI (Aa Ab (2*a+1))).setCell (p:=⟨p5,1,Ae⟩) DI (Aa Ab (2*b+1));have H:=(H.set 3 0 rfl (Aa Ab (2*a+1))).set 3 1 rfl (Aa Ab (2*b+1));go_simp;refine hK.o (ag.out _ hb) (λhS=>?_);clear hK K y0 y1 z0 z1 hS;generalize (X3.setCell _ _).setCell _ _=Y9 at H hb⊢;have hS:=ag.out _ hb;refine Ap (rs:=[10]) Gx Gy (Aq rfl (λK hK=>?_) Ar);obtain⟨⟨y0,y1⟩,z0,z1⟩:=Hm (H.b 4);have hb:=(hb.setCell (p:=⟨p6,0,Ae⟩) DJ (Aa Ab (s1))).setCell (p:=⟨p6,1,Ae⟩) DJ (Aa Ab (s2));have H:=(H.set 4 0 rfl (Aa Ab (s1))).set 4 1 rfl (Aa Ab (s2));go_simp;refine hK.o (ag.out _ hb) (λhS=>?_);clear hK K y0 y1 z0 z1 hS;generalize (Y9.setCell _ _).setCell _ _=Y10 at H hb⊢;have hS:=ag.out _ hb;refine An Gx ?_ _;go_wp2;go_meet;exact⟨_,_,rfl,rfl,H⟩
  ·obtain⟨p6,hp⟩:=ey X0.heap.size;have DJ:W.heap.size<=p6:=hp▸hb.size;have hb:=hb.alloc hb.size (.cells #[Aa Ab 0,Aa Ab 0] 282);have H:=H.new #[Aa Ab 0,Aa Ab 0] 282 hp;have SR:=Ah hp;go_simp;refine hK.o (ag.out _ hb) (λhS=>?_);clear hK K;generalize X0.alloc _=X1 at H hb⊢;clear hp hS SR;have hS:=ag.out _ hb;refine Ap (rs:=[1,7]) Gx Gy (Aq rfl (λK hK=>?_) (Aq rfl (λK hK=>?_) (Ar)))
   ·go_simp;refine(JC.out _).mono ?_;rintro e X2 ⟨rfl,ad⟩;have hb:=Up hb ad;have H:=H.call ad;refine hK.o (ag.out _ hb) (λhS=>?_);clear hK K ad;refine Ap (rs:=[7]) Gx Gy (Aq rfl (λK hK=>?_) (Ar))
    ·obtain⟨p5,hp⟩:=ey X2.heap.size;have DI:W.heap.size<=p5:=hp▸hb.size;have hb:=hb.alloc hb.size (.cells #[Aa Ab 0,Aa Ab 0] 282);have H:=H.new #[Aa Ab 0,Aa Ab 0] 282 hp;have SQ:=Ah hp;go_simp;refine hK.o (ag.out _ hb) (λhS=>?_);clear hK K;generalize X2.alloc _=X3 at H hb⊢;clear hp hS SQ;have hS:=ag.out _ hb;refine Ap (rs:=[9]) Gx Gy (Aq rfl (λK hK=>?_) Ar);obtain⟨⟨y0,y1⟩,z0,z1⟩:=Hm (H.b 4);have hb:=(hb.setCell (p:=⟨p5,0,Ae⟩) DI (Aa Ab (2*a+1))).setCell (p:=⟨p5,1,Ae⟩) DI (Aa Ab (2*b+1));have H:=(H.set 4 0 rfl (Aa Ab (2*a+1))).set 4 1 rfl (Aa Ab (2*b+1));go_simp;refine hK.o (ag.out _ hb) (λhS=>?_);clear hK K y0 y1 z0 z1 hS;generalize (X3.setCell _ _).setCell _ _=Y9 at H hb⊢;have hS:=ag.out _ hb;refine Ap (rs:=[10]) Gx Gy (Aq rfl (λK hK=>?_) Ar);obtain⟨⟨y0,y1⟩,z0,z1⟩:=Hm (H.b 3);have hb:=(hb.setCell (p:=⟨p6,0,Ae⟩) DJ (Aa Ab (s1))).setCell (p:=⟨p6,1,Ae⟩) DJ (Aa Ab (s2));have H:=(H.set 3 0 rfl (Aa Ab (s1))).set 3 1 rfl (Aa Ab (s2));go_simp;refine hK.o (ag.out _ hb) (λhS=>?_);clear hK K y0 y1 z0 z1 hS;generalize (Y9.setCell _ _).setCell _ _=Y10 at H hb⊢;have hS:=ag.out _ hb;refine An Gx ?_ _;go_wp2;go_meet;exact⟨_,_,rfl,rfl,H.perm (.cons _ (.cons _ (.cons _ (.swap _ _ _))))⟩
   ·obtain⟨p5,hp⟩:=ey X1.heap.size;have DI:W.heap.size<=p5:=hp▸hb.size;have hb:=hb.alloc hb.size (.cells #[Aa Ab 0,Aa Ab 0] 282);have H:=H.new #[Aa Ab 0,Aa Ab 0] 282 hp;have SQ:=Ah hp;go_simp;refine hK.o (ag.out _ hb) (λhS=>?_);clear hK K;generalize X1.alloc _=X2 at H hb⊢;clear hp hS SQ;have hS:=ag.out _ hb;refine Ap (rs:=[1]) Gx Gy (Aq rfl (λK hK=>?_) (Ar))
    ·go_simp;refine(JC.out _).mono ?_;rintro e X3 ⟨rfl,ad⟩;have hb:=Up hb ad;have H:=H.call ad;refine hK.o (ag.out _ hb) (λhS=>?_);clear hK K ad;refine Ap (rs:=[9]) Gx Gy (Aq rfl (λK hK=>?_) Ar);obtain⟨⟨y0,y1⟩,z0,z1⟩:=Hm (H.b 4);have hb:=(hb.setCell (p:=⟨p5,0,Ae⟩) DI (Aa Ab (2*a+1))).setCell (p:=⟨p5,1,Ae⟩) DI (Aa Ab (2*b+1));have H:=(H.set 4 0 rfl (Aa Ab (2*a+1))).set 4 1 rfl (Aa Ab (2*b+1));go_simp;refine hK.o (ag.out _ hb) (λhS=>?_);clear hK K y0 y1 z0 z1 hS;generalize (X3.setCell _ _).setCell _ _=Y9 at H hb⊢;have hS:=ag.out _ hb;refine Ap (rs:=[10]) Gx Gy (Aq rfl (λK hK=>?_) Ar);obtain⟨⟨y0,y1⟩,z0,z1⟩:=Hm (H.b 3);have hb:=(hb.setCell (p:=⟨p6,0,Ae⟩) DJ (Aa Ab (s1))).setCell (p:=⟨p6,1,Ae⟩) DJ (Aa Ab (s2));have H:=(H.set 3 0 rfl (Aa Ab (s1))).set 3 1 rfl (Aa Ab (s2));go_simp;refine hK.o (ag.out _ hb) (λhS=>?_);clear hK K y0 y1 z0 z1 hS;generalize (Y9.setCell _ _).setCell _ _=Y10 at H hb⊢;have hS:=ag.out _ hb;refine An Gx ?_ _;go_wp2;go_meet;exact⟨_,_,rfl,rfl,H.perm (.cons _ (.cons _ (.cons _ (.swap _ _ _))))⟩
 obtain⟨p5,p6,rfl,rfl,H⟩:=hcut;clear OH FI g0 g1 g2 r0 r1;obtain⟨⟨f0,f1,f2⟩,_⟩:=Hg (H.b 0);obtain⟨⟨e0,e1⟩,y0,y1⟩:=Hm (H.b 3);have WN:=HT.out.below H.below;go_wp2_with fail;refine(GI.out _ WN).mono ?_;rintro e w2 ⟨rfl,hb⟩;have H2:=H.call hb;clear f0 f1 f2 e0 e1 y0 y1 hb H WN;obtain⟨⟨f0,f1,f2⟩,u0,u1,u2⟩:=Hg (H2.b 0);obtain⟨⟨e0,e1⟩,y0,y1⟩:=Hm (H2.b 3);have nb1:N≠p5:=H2.ne 0 3 Gv rfl rfl;go_upto_region 3 with fail;have H3:=(H2.set 3 0 rfl (Aa Ab X)).set 3 1 rfl (Aa Ab Y);generalize (w2.setCell _ _).setCell _ _=W3 at H3⊢;clear f0 f1 f2 u0 u1 u2 e0 e1 y0 y1 H2;obtain⟨⟨f0,f1,f2⟩,u0,u1,u2⟩:=Hg (H3.b 0);go_upto_region 4 with fail;have H4:=(H3.set 0 1 rfl (Aa Ab 0)).set 0 2 rfl (Aa Ab 0);generalize (W3.setCell _ _).setCell _ _=W4 at H4⊢;clear f0 f1 f2 u0 u1 u2 H3;obtain⟨⟨f0,f1,f2⟩,_⟩:=Hg (H4.b 0);obtain⟨⟨e0,e1⟩,y0,y1⟩:=Hm (H4.b 4);have WO:=HT.out.below H4.below;go_wp2_with fail;refine(AN.out _ WO).mono ?_;rintro e w5 ⟨rfl,hb⟩;have H5:=H4.call hb;clear f0 f1 f2 e0 e1 y0 y1 hb H4 WO;obtain⟨⟨e0,e1⟩,y0,y1⟩:=Hm (H5.b 4);go_upto_region 5 with fail;have H6:=(H5.set 4 0 rfl (Aa Ab U)).set 4 1 rfl (Aa Ab V);generalize (w5.setCell _ _).setCell _ _=W6 at H6⊢;clear e0 e1 y0 y1 H5;obtain⟨⟨e0,e1⟩,_⟩:=Hm (H6.b 3);have a1:=bT X;have a2:=bT Y;have k1:=Cb (X-X%2) Gv;have k2:=Cb (Y-Y%2) Gv;have k3:Ab.wrap ((X-X%2).tdiv 2)=rx:=by rw[HX1.out,show X-X%2=2*(X/2)by omega,Int.mul_tdiv_cancel_left _ He];exact Cb _ Gv
 have k4:Ab.wrap ((Y-Y%2).tdiv 2)=ry:=by rw[y9.out,show Y-Y%2=2*(Y/2)by omega,Int.mul_tdiv_cancel_left _ He];exact Cb _ Gv
 go_upto_region 6 with fail;clear a1 a2 k1 k2 k3 k4 e0 e1;have H7:=H6.new #[rx,ry,Aa Ac 0] 90 rfl;generalize W6.heap.size=p7 at H7⊢;generalize W6.alloc _=W7 at H7⊢;clear H6;have hr:=(HQ.out.below H7.below).at'
 repeat' (go_not_at_region 7;first
  |refine wpList_load_mid rfl 301 (.global 1) rfl 1 0 rfl _ _ hr Tryz.underlying301 rfl Gx ?_
  |go_step)
 clear hr
 go_loopw [47] (λi wr=>∃k:Nat,k<=4/\i= Aa Ab k/\Bx w [(N,#[Aa Ac t,Aa Ab 0,Aa Ab 0],30),(N+1,#[a,b,Aa Ac q],90),(P,#[Aa Ab 0,Aa Ab 0,Aa Ac 0],90),(p5,#[X,Y],282),(p6,#[U,V],282),(p7,#[rx,ry,Aa Ac (sqN (U,V) k)],90)] wr) (λi _=>4-(intOf i).toNat)
 case atStart=>exact⟨0,Gv,rfl,H7⟩
 obtain⟨k,hk,rfl,Hr⟩:=hrel;obtain⟨S,hS⟩:=ey (sqN (U,V) k);have HS:=Ah hS;rw[hS]at Hr;clear hS;by_cases ac:k<4
 ·have q2:(k:Int)<4:=Gv;have BV:=λw=>wF k ac w;unfold Qx Ou at BV;obtain⟨⟨d1,d2⟩,hd⟩:=ey (Iu k);obtain⟨e3,h3⟩:=ey (qln k);obtain⟨e4,h4⟩:=ey (qby k);obtain⟨⟨n1,n2,n3⟩,h6⟩:=ey (nxt k 0);obtain⟨⟨n4,n5,n6⟩,h7⟩:=ey (nxt k 1);obtain⟨⟨n7,n8,n9⟩,h8⟩:=ey (nxt k 2);obtain⟨⟨u1,u2⟩,h1⟩:=ey (Ue k);obtain⟨⟨v1,v2⟩,h2⟩:=ey (Uf k);rw[hd,h3,h4,h6,h7,h8,h1,h2]at BV;dsimp only at BV;have HD:=Ah hd
  have kw:IntKind.u8.wrap (k:Int)=k:=by
   have:k=0∨k=1∨k=2∨k=3:=Gv;rcases this with rfl|rfl|rfl|rfl<;>rfl
  clear hd h3 h4 h6 h7 h8 h1 h2;go_upto_region 8 with fail
  repeat' (go_not_at_region 9;first
   |refine Pk rfl 300 (.tmp 9) (.tmp 50) rfl _ _ rfl rfl Gx rfl rfl ?_
   |go_step)
  clear BV;obtain⟨p9,hp9⟩:=ey wr.heap.size;rw[hp9];have H9:=Hr.new #[d1,d2,Aa Ac e3,e4,n1,n2,Aa Ac n3,n4,n5,Aa Ac n6,n7,n8,Aa Ac n9,u1,u2,v1,v2] 300 hp9;obtain⟨W9,TT⟩:=ez (wr.alloc (.cells #[d1,d2,Aa Ac e3,e4,n1,n2,Aa Ac n3,n4,n5,Aa Ac n6,n7,n8,Aa Ac n9,u1,u2,v1,v2] 300));rw[<-TT]at H9;change Code.wp _ _ _ _ (wr.alloc (.cells #[d1,d2,Aa Ac e3,e4,n1,n2,Aa Ac n3,n4,n5,Aa Ac n6,n7,n8,Aa Ac n9,u1,u2,v1,v2] 300));rw[<-TT];have ja:=H9.range 6 rfl;have r0:=ja 0 _ rfl;have r1:=ja 1 _ rfl;simp only[Bu]at r0 r1;clear ja hp9 TT Hr;obtain⟨⟨e0,e1⟩,_⟩:=Hm (H9.b 4);obtain⟨⟨f0,f1,f2⟩,g0,g1,g2⟩:=Hg (H9.b 5);have gr:sqN (U,V) (k+1)=if Iu k=(U,V)then k else sqN (U,V) k:=rfl;by_cases uu:d1=U/\d2=V
  ·obtain⟨rfl,rfl⟩:=uu;have HN:Hid (sqN (d1,d2) (k+1)=k):=Ah (by rw[gr,HD.out,Hc rfl]);clear gr;go_wp2;exact⟨⟨k+1,Gv,by go_num,by rw[HN.out];exact(H9.set 5 2 rfl (Aa Ac k)).upto 6⟩,by simp[intOf];omega⟩
  ·have HN:Hid (sqN (U,V) (k+1)=S):=Ah (by rw[gr,HD.out,Ha (λh=>uu (by injection h with h1 h2;exact⟨h1,h2⟩)),HS.out]);clear gr;go_wp2_with fail
   all_goals first
    |exact absurd ⟨rfl,rfl⟩ uu
    |exact absurd ⟨by assumption,by assumption⟩ uu
    |exact⟨⟨k+1,Gv,by go_num,by rw[HN.out];exact H9.upto 6⟩,by simp[intOf];omega⟩
 ·have hk4:k=4:=Gv;subst hk4;obtain⟨⟨f0,f1,f2⟩,_⟩:=Hg (Hr.b 5);obtain⟨⟨c0,c1',l_⟩,z0,z1,z2⟩:=Hg (Hr.b 2);have HF:Hid (S=rq):=Ah (by rw[<-HS.out,Cf8,HRQ.out]);go_wp2_with fail;have H8:=((Hr.set 2 0 rfl (Aa Ab rx)).set 2 1 rfl (Aa Ab ry)).set 2 2 rfl (Aa Ac S);exact Ai (Lv rfl rfl (H8.range 2 rfl) Tryz.underlying90 rfl Gx) rfl ⟨by rw[HF.out];rfl,H8.below⟩
def mA:xZ:=λm c w hm hc hQ hT=>Ax6 m c w hm hc hQ hT
structure kI {κ:Type} [DecidableEq κ] (kt:Ck) (K:κ->Ak):Prop where
 now:∃d,Tryz.prog.underlying kt=Af d/\∀p q,Instr.sameNow d (K p) (K q)=Ae
 eq:∀p q w,(Op.equal kt (K p) (K q)).run Dp w= .ok (decide (p=q)) w
 check:∀b p w,(Instr.checkKey b 10000 kt (K p)).run Dp w= .ok () w
 bits:∀p,Instr.sameBits 10000 (K p) (K p)=true
section
variable {κ:Type} [DecidableEq κ] {kt:Ck} {K:κ->Ak}
def Qd (p:κ):List (κ×Ak)->Nat->Option (Nat×Ak)
 |[],_=>Ae
 |q::l,n=>if p=q.1 then Af (n,q.2)else Qd p l (n+1)
def Of (p:κ) (l:List (κ×Ak)):Option Ak:=(Qd p l 0).map (·.2)
def Ro (p:κ) (v:Ak) (l:List (κ×Ak)):List (κ×Ak):=match Qd p l 0 with
 |some (i,_)=>l.set i (p,v)
 |none=>l++[(p,v)]
def Kl (K:κ->Ak) (w:Aj) (M:Nat) (l:List (κ×Ak)):Prop:=
 ∃es clock,w.heap[M]? =Af (.map es clock)/\es.toList.map (λe=>(e.key,e.val))=l.map λq=>(K q.1,q.2)
def oM (h:kI kt K) (p:κ) (w:Aj):∀(es:List MapEntry) (l:List (κ×Ak)) (n:Nat),es.map (λe=>(e.key,e.val))=(l.map λq=>(K q.1,q.2))->
  (Instr.findAsking kt (K p) es n).run Dp w= .ok (Qd p l n) w
 |[],[],n,_=>by simp[Instr.findAsking,Qd]
 |[],q::l,n,he=>by simp at he
 |e::es,[],n,he=>by simp at he
 |e::es,q::l,n,he=>by
  simp only[List.map_cons,List.cons.injEq,Prod.mk.injEq]at he;obtain⟨⟨h1,h2⟩,h3⟩:=he;by_cases OR:p=q.1
  ·simp[Instr.findAsking,Qd,h1,h.eq,OR,h2]
  ·simp[Instr.findAsking,Qd,h1,h.eq,OR,oM h p w es l (n+1) h3]
def bZ (h:kI kt K) (p:κ) (w:Aj) (es:List MapEntry) (l:List (κ×Ak)) (he:es.map (λe=>(e.key,e.val))=l.map λq=>(K q.1,q.2)):
  (Instr.findKey kt (K p) es).run Dp w= .ok (Qd p l 0) w:=by
 obtain⟨d,hd,hn⟩:=h.now
 cases es with
 |nil=>
  cases l with
  |nil=>simp[Instr.findKey,run_underlying hd,Instr.findNow,Qd]
  |cons q l=>simp at he
 |cons e r=>
  cases l with
  |nil=>simp at he
  |cons q l=>
   have h1:e.key=K q.1:=by simp at he;exact he.1.1
   have hr:(Instr.findKey kt (K p) (e::r)).run Dp w=(Instr.findAsking kt (K p) (e::r) 0).run Dp w:=by
    simp[Instr.findKey,run_underlying hd,Instr.findNow,h1,hn]
   rw[hr,oM h p w _ _ 0 he]
def We (h:kI kt K) (hm:Tryz.prog.underlying mt=Af (.map kt et)) (hz:∀w,(zeroValue et).run Dp w= .ok z w) {l:List (κ×Ak)} (hM:Kl K w M l) (p:κ) (ok:Bool):
  (Instr.lookup mt (.map (Af M)) (K p) ok).run Dp w= .ok (if ok then .tuple #[(Of p l).getD z,.bool (Of p l).isSome]else (Of p l).getD z) w:=by
 obtain⟨es,clock,hb,he⟩:=hM;have OK:(getObj M).run Dp w= .ok (.map es clock) w:=by simp[getObj,Sem.run,hb]
 have ni:=h.check es.isEmpty p w;have hf:=bZ h p w es.toList l he;unfold Of
 cases hi:Qd p l 0 with
 |none=>
  rw[hi]at hf;simp only[Instr.lookup,Gr,run_underlying hm,Fp,OK,Sem.run_pure,ni,hf,hz];rfl
 |some r=>
  rw[hi]at hf;simp only[Instr.lookup,Gr,run_underlying hm,Fp,OK,Sem.run_pure,ni,hf];rfl
def Ax7 (h:kI kt K) (hm:Tryz.prog.underlying mt=Af (.map kt et)) {l:List (κ×Ak)} (hM:Kl K w M l) (p:κ) (v:Ak):
  ∃w',(Instr.mapUpdate mt (.map (Af M)) (K p) v).run Dp w= .ok () w'/\Kl K w' M (Ro p v l)/\w.grownBy w' (Af M):=by
 obtain⟨es,clock,hb,he⟩:=hM;have ac:M<w.heap.size:=(Au.1 hb).1;have OK:(getObj M).run Dp w= .ok (.map es clock) w:=by simp[getObj,Sem.run,hb]
 have dl:∀o,(setObj M o).run Dp w= .ok () {w with heap:=w.heap.setIfInBounds M o}:=by intro o;simp[setObj,Sem.run,hb]
 have ni:=h.check false p w
 have gn:∀o,w.grownBy {w with heap:=w.heap.setIfInBounds M o} (Af M):=λo=>⟨rfl,rfl,rfl,Gy,λi _ hi=>by
  have:M≠i:=λe=>hi (by rw[e]);simp[this]⟩
 have hf:=bZ h p w es.toList l he
 have N8:∀(l:List (κ×Ak)) (n i:Nat) (v:Ak),Qd p l n=Af (i,v)->n<=i/\∃q,l[i-n]? =Af q/\q.1=p:=by
  intro l
  induction l with
  |nil=>intro n i v hh;simp[Qd]at hh
  |cons q l ih=>
   intro n i v hh;unfold Qd at hh;by_cases OR:p=q.1
   ·rw[Hc OR]at hh;injection hh with hh;injection hh with h1 h2;subst h1;exact⟨Am _,q,Gy,OR.symm⟩
   ·rw[Ha OR]at hh;obtain⟨h1,q',h2,h3⟩:=ih (n+1) i v hh;refine⟨Gv,q',?_,h3⟩;have e:i-n=(i-(n+1))+1:=Gv;rw[e,Cx];exact h2
 unfold Ro
 cases hi:Qd p l 0 with
 |none=>
  rw[hi]at hf;refine⟨{w with heap:=w.heap.setIfInBounds M (.map (es.push {key:=K p,val:=v,born:=clock}) (clock+1))},?_,⟨es.push {key:=K p,val:=v,born:=clock},clock+1,by simp[ac],?_⟩,gn _⟩
  ·simp only[Instr.mapUpdate,Gr,run_underlying hm,Fp,OK,ni,hf,dl]
  ·simp[he]
 |some r=>
  obtain⟨i,u⟩:=r;rw[hi]at hf;obtain⟨_,q,hq,hqp⟩:=N8 l 0 i u hi;rw[Nat.sub_zero]at hq
  have hei:∃e,es[i]? =Af e/\e.key=K p:=by
   have h1:(es.toList.map (λe=>(e.key,e.val)))[i]? =(l.map λq=>(K q.1,q.2))[i]? :=by rw[he]
   rw[Fs,Fs,hq]at h1;simp only[Option.map_some,Array.getElem?_toList]at h1
   cases UE:es[i]? with
   |none=>rw[UE]at h1;simp at h1
   |some e=>
    rw[UE]at h1;simp at h1;exact⟨e,rfl,by rw[h1.1,hqp]⟩
  obtain⟨e,AX,hk⟩:=hei;have bo:(Instr.keyThatStays (K p) (K p)).run Dp w= .ok (K p) w:=by simp[Instr.keyThatStays,h.bits p]
  refine⟨{w with heap:=w.heap.setIfInBounds M (.map (es.modify i λe=>{e with key:=K p,val:=v}) clock)},?_,⟨es.modify i λe=>{e with key:=K p,val:=v},clock,by simp[ac],?_⟩,gn _⟩
  ·simp only[Instr.mapUpdate,Gr,run_underlying hm,Fp,OK,ni,hf,dl,AX,Option.map_some,Option.getD_some,hk,bo]
  ·apply List.ext_getElem?;intro k;have zv:(es.toList.map (λe=>(e.key,e.val)))[k]? =(l.map λq=>(K q.1,q.2))[k]? :=by rw[he]
   rw[Fs,Fs]at zv⊢;rw[Array.toList_modify,List.getElem?_modify,List.getElem?_set];have bv:i<l.length:=(Ax.1 hq).1;by_cases zt:i=k
   ·subst zt;have UE:es.toList[i]? =Af e:=by simpa using AX
    simp[UE,bv]
   ·simp only[zt,if_false];simpa using zv
def Vt (hk:kI kt K) (vi:Tryz.prog.underlying mt=Af (.map kt et)) (hz:∀w,(zeroValue et).run Dp w= .ok z w) (w:Aj) {a:Act} 
  (hg:o.guard=Ae) (m x:Operand) (ok:Bool) (hop:o.op=Op.lookup mt m x ok) (M:Nat) (l:List (κ×Ak)) (p:κ) (hm:a.eval m= .map (Af M)) (hx:a.eval x=K p) (h:Kl K w M l)
  (hK:wpList Dp ops Q rest (a.put o.dst (if ok then .tuple #[(Of p l).getD z,.bool (Of p l).isSome]else (Of p l).getD z)) w):
  wpList Dp ops Q (o::rest) a w:=by
 refine wpList_plain hg λK' hK'=>?_;have ah:=We hk vi hz h p ok;unfold Oper.wp;simp only[execOp,hop,hm,hx,ah,Gr,Fp];exact hK' _ _ hK
def Sl (hk:kI kt K) (vi:Tryz.prog.underlying mt=Af (.map kt et)) (w:Aj) {a:Act} 
  (hg:o.guard=Ae) (m x v:Operand) (hop:o.op=Op.mapUpdate mt m x v) (M:Nat) (l:List (κ×Ak)) (p:κ) (u:Ak) (hm:a.eval m= .map (Af M)) (hx:a.eval x=K p) (hv:a.eval v=u) (h:Kl K w M l)
  (hK:∀w',Kl K w' M (Ro p u l)->w.grownBy w' (Af M)->wpList Dp ops Q rest (a.put o.dst undef) w'):
  wpList Dp ops Q (o::rest) a w:=by
 refine wpList_plain hg λK' hK'=>?_;obtain⟨w',ah,h1,h2⟩:=Ax7 hk vi h p u;unfold Oper.wp;simp only[execOp,hop,hm,hx,hv,ah,Gr,Fp];exact hK' _ _ (hK w' h1 h2)
end
def Kl.kept {K:κ->Ak} {l:List (κ×Ak)} {row:Option Nat} (h:Kl K w M l) (hg:w.grownBy w' row) (hne:Af M≠row):Kl K w' M l:=by
 obtain⟨es,clock,hb,UE⟩:=h;exact⟨es,clock,(hg.block M (Au.1 hb).1 hne).trans hb,UE⟩
def Kl.below {K:κ->Ak} {l:List (κ×Ak)} (h:Kl K w M l) (hb:Below N w w') (hN:M<N):Kl K w' M l:=by
 obtain⟨es,clock,hm,UE⟩:=h;exact⟨es,clock,_root_.Go.Proofs.YtlgkpdfieaadaaaGreatDoor.kept hb hm hN,UE⟩
def Kl.lt {K:κ->Ak} {l:List (κ×Ak)} (h:Kl K w M l):M<w.heap.size:=by
 obtain⟨es,clock,hm,UE⟩:=h;exact(Au.1 hm).1
def Wf (K:κ->Ak) (w:Aj):Kl K (w.alloc (.map #[] 0)) w.heap.size []:=⟨#[],0,Ca w _,Gy⟩
def unK (u:Int×Int):Ak:= .agg #[Aa Ab u.1,Aa Ac u.2]
def Cd5:Tryz.prog.underlying 3=Af (.int .i64):=Gx
def Ch3:Tryz.prog.underlying 5=Af (.int .u8):=Gx
def An5:Tryz.prog.stoodInHeld 194=false:=Gx
def Bq5 (a b:Int) (w:Aj):(part 3 #[Value.int .i64 a,Aa Ac b] 0).run Dp w= .ok (Aa Ab a) w:=Gx
def Bq6 (a b:Int) (w:Aj):(part 5 #[Value.int .i64 a,Aa Ac b] 1).run Dp w= .ok (Aa Ac b) w:=Gx
def pN (d:Nat) (a b:Int) (w:Aj):(Gu (d+1) 3 (Aa Ab a) (Aa Ab b)).run Dp w= .ok (a==b) w:=by
 simp[Gu,run_underlying Cd5]
def zC (d:Nat) (a b:Int) (w:Aj):(Gu (d+1) 5 (Aa Ac a) (Aa Ac b)).run Dp w= .ok (a==b) w:=by
 simp[Gu,run_underlying Ch3]
def xQ (p q:Int×Int) (w:Aj):(Op.equal 194 (unK p) (unK q)).run Dp w= .ok (decide (p=q)) w:=by
 obtain⟨a,b⟩:=p;obtain⟨a',b'⟩:=q
 have h:∀n,(Gu (n+1+1) 194 (unK (a,b)) (unK (a',b'))).run Dp w= .ok (decide ((a,b)=(a',b'))) w:=by
  intro n;unfold Gu;simp only[Gr,run_underlying Tryz.underlying194,Fp,unK,run_program,An5,Ek,if_false];simp[Bq5,Bq6,pN,zC];by_cases h0:a=a'<;>by_cases h1:b=b'<;>simp[h0,h1]
 exact h 9998
def Ts:kI (κ:=Int×Int) 194 unK where
 now:=⟨_,Tryz.underlying194,λp q=>rfl⟩
 eq:=xQ
 check:=λb p w=>Gx
 bits:=λp=>by
  have h:∀n,Instr.sameBits (n+1+1) (unK p) (unK p)=true:=by intro n;simp[Instr.sameBits,unK]
  exact h 9998
def bY (r:Cr) (c e:Int) (w:Aj) (hr:r.fit) (hc:0<=c/\c<=1024) (he:0<=e/\e<=255):
  Al Dp 277 #[.agg #[Aa Ab r.c,Aa Ac r.e,Aa Ac r.k],.agg #[c,Aa Ac e]] w (Gz (Aa Ab (Kv r.c r.e c e)) w):=by
 obtain⟨R,hR⟩:=ey (Kv r.c r.e c e);rw[hR];have HR:=Ah hR;have BQ:=hr.1;have BR:=hr.2.1;obtain⟨n1,n2⟩:=iD w (.cells #[Aa Ab r.c,Aa Ac r.e,Aa Ac r.k] 192) (.cells #[c,Aa Ac e] 194);have ci:Below w.heap.size w ((w.alloc (.cells #[Aa Ab r.c,Aa Ac r.e,Aa Ac r.k] 192)).alloc (.cells #[c,Aa Ac e] 194)):=((Ag _ _).alloc (Am _) _).alloc Gy _;clear hR hr;go_in;go_upto_region 1 with fail;generalize (w.alloc _).alloc _=W at n1 n2 ci⊢;generalize w.heap.size=N at n1 n2⊢;obtain⟨⟨x0,x1,x2⟩,_⟩:=Hg n1;obtain⟨⟨y0,y1⟩,_⟩:=Hm n2;clear n1 n2
 go_region_held3 (λw'=>w'.cell? ⟨N,0,Ae⟩=Af (Aa Ab r.c)/\w'.cell? ⟨N,1,Ae⟩=Af (Aa Ac r.e)/\w'.cell? ⟨N,2,Ae⟩=Af (Aa Ac r.k)/\w'.cell? ⟨N+1,0,Ae⟩=Af (Aa Ab c)/\w'.cell? ⟨N+1,1,Ae⟩=Af (Aa Ac e))
  (first|exact⟨x0,x1,x2,y0,y1⟩|go_keep)
  (first
   |(go_at_call 161;(with_reducible refine(Zx _ _ _ _).mono ?_);rintro e' w6 ⟨rfl,bc⟩;have ci:=ci.trans ((Hl bc).mono ci.size);have x0:=Gw (Hl bc) x0;have x1:=Gw (Hl bc) x1;have x2:=Gw (Hl bc) x2;have y0:=Gw (Hl bc) y0;have y1:=Gw (Hl bc) y1)
   |(go_at_call 162;(with_reducible refine(jK r.c r.e c e _ BQ hc BR he).mono ?_);rintro e' w6 ⟨rfl,bc⟩;rw[HR.out];have ci:=Up ci bc;have x0:=Gw bc x0;have x1:=Gw bc x1;have x2:=Gw bc x2;have y0:=Gw bc y0;have y1:=Gw bc y1)
   |fail)
 all_goals
  go_wp2;go_ret;exact⟨rfl,ci⟩
def kH (l:List Cr) (c e:Int) (i:Nat) (is:Bool):Prop:=
 i<=l.length/\(∀k (hk:k<l.length),k<i->Kv l[k].c l[k].e c e<0)/\(∀k (hk:k<l.length),i<=k->0<=Kv l[k].c l[k].e c e)/\(is=true↔∃r,l[i]? =Af r/\Kv r.c r.e c e=0)
def xX (l:List Cr) (c e:Int) (w:Aj) (en:Ending) (w':Aj):Prop:=
 Below w.heap.size w w'/\∃i is,kH l c e i is/\en= .returned (.tuple #[Aa Ab ((i:Nat):Int),.bool is])
def Ai3 {a b:Cr} (h:Kv a.c a.e b.c b.e<0) (c e:Int) (hb:Kv b.c b.e c e<0):Kv a.c a.e c e<0:=by
 unfold Kv at*
 repeat' split at h
 all_goals repeat' split at hb
 all_goals repeat' split
 all_goals omega
def vS {a b:Cr} (h:Kv a.c a.e b.c b.e<0) (c e:Int) (ha:0<=Kv a.c a.e c e):0<Kv b.c b.e c e:=by
 unfold Kv at*
 repeat' split at h
 all_goals repeat' split at ha
 all_goals repeat' split
 all_goals omega
def Ac4 (A:Option Cj) (l:List Cr) (n cc:Nat) (c e:Int) (w:Aj) (hn:n=l.length) (h:Rd w A 3 n (crs l)) (hf:∀r∈l,r.fit) (ha:l.Pairwise λr q=>Kv r.c r.e q.c q.e<0) (hl:n<=1000000) (hc:0<=c/\c<=1024) (he:0<=e/\e<=255):
  Al Dp 276 #[Ad A n cc,.agg #[c,Aa Ac e],.func (.func 277) #[] #[]] w (xX l c e w):=by
 have HN:=Ah hn;have dt:=Ah h;have HF:=Ah hf;have HA:=Ah ha;have fk:(w.alloc (.cells #[c,Aa Ac e] 194)).heap[w.heap.size]? =Af (.cells #[c,Aa Ac e] 194 (0,0)):=Ca w _;have ci:Below w.heap.size w (w.alloc (.cells #[c,Aa Ac e] 194)):=(Ag _ _).alloc (Am _) _;have ap:w.heap.size<(w.alloc (.cells #[c,Aa Ac e] 194)).heap.size:=Gy;clear hn h hf ha;go_in;go_upto_region 1 with fail;generalize w.alloc _=W at fk ci ap⊢;generalize w.heap.size=N at fk ap⊢;have N1:=Ah fk;clear fk;go_wp2
 go_loopw [9,10,11] (λx y _ wr=>∃i j:Nat,i<=j/\j<=n/\x= Aa Ab i/\y= Aa Ab j/\wr.heap[N]? =Af (.cells #[c,Aa Ac e] 194 (0,0))/\N<wr.heap.size/\Below w.heap.size w wr/\Hid (∀k (hk:k<l.length),k<i->Kv l[k].c l[k].e c e<0)/\Hid (∀k (hk:k<l.length),j<=k->0<=Kv l[k].c l[k].e c e)) (λx y _ _=>(intOf y).toNat-(intOf x).toNat)
 case atStart=>exact⟨0,n,Gv,Gv,rfl,rfl,N1.out,ap,ci,Ah (λk hk zv=>Gv),Ah (λk hk zv=>by have:=HN.out;omega)⟩
 obtain⟨i,j,FB,QT,rfl,rfl,tj,hNr,kj,H1,H2⟩:=hrel;have HBK:=Ah tj;obtain⟨⟨u0,u1⟩,_⟩:=Hm tj;have ba:=dt.out.below kj;have hlen:=HN.out;rw[hlen]at ba;clear tj;by_cases ac:i<j
 ·obtain⟨m,hm⟩:=ez ((i+j)/2);have jc:m<l.length:=Gv;obtain⟨bb,o,hA,cj,c0,c1,c2⟩:=Xh ba m jc;have DD:=HF.out l[m] (Ay _);obtain⟨r,hr⟩:=ey (l[m]);rw[hr]at c0 c1 c2 DD;have HR:=Ah hr;have HM:=Ah hm;have U':=Ah DD;have q1:(i:Int)<(j:Int):=Gv;have q2:((i:Int)+(j:Int))/2=(m:Int):=Gv;have q3:(m:Int)<(n:Int):=Gv;have q4:i<=m:=Gv;have q5:m<j:=Gv;clear hr hm ba hlen DD;subst hA;go_wp2
  go_still_tail 6,Gx
  change wpList _ _ _ _ _ wr.drew;go_wp2_with fail;refine(bY r c e _ U'.out hc he).mono ?_;rintro e' w2 ⟨rfl,dy⟩;have aj:=Hl dy;have XR:Below w.heap.size w w2:=Up kj aj;have K2:=Ah (kept aj HBK.out hNr);have tg:N<w2.heap.size:=Br hNr aj.size;obtain⟨O,hO⟩:=ey (Kv r.c r.e c e);rw[hO];have HO:=Ah hO;clear c0 c1 c2 u0 u1 aj dy q2 hO;by_cases hJ:O<0
  ·have HJ:=Ah hJ;have hd:decide (O<0)=true:=by simpa using hJ
   go_wp2
   go_roundw
   case rel=>
    refine⟨m+1,j,Gv,Gv,by go_num,rfl,K2.out,tg,XR,Ah (λk hk JU=>?_),H2⟩;rcases Nat.lt_or_ge k m with h'|h'
    ·have h3:=Fj.1 HA.out k m hk jc h';rw[HR.out]at h3;exact Ai3 h3 c e (by rw[HO.out];exact hJ)
    ·obtain rfl:k=m:=Gv;rw[HR.out,HO.out];exact hJ
   case measure=>simp[intOf];omega
  ·have hd:decide (O<0)=false:=by simpa using hJ
   go_wp2
   go_roundw
   case rel=>
    refine⟨i,m,Gv,Gv,rfl,rfl,K2.out,tg,XR,H1,Ah (λk hk JU=>?_)⟩;rcases Nat.lt_or_ge m k with h'|h'
    ·have h3:=Fj.1 HA.out m k jc hk h';rw[HR.out]at h3;have h4:=vS h3 c e (by rw[HO.out];omega);omega
    ·obtain rfl:k=m:=Gv;rw[HR.out,HO.out];omega
   case measure=>simp[intOf];omega
 ·obtain rfl:i=j:=Gv;have q1:¬(i:Int)<(i:Int):=Gv;by_cases hi:i<n
  ·have bv:i<l.length:=Gv;obtain⟨bb,o,hA,cj,c0,c1,c2⟩:=Xh ba i bv;have DD:=HF.out l[i] (Ay _);obtain⟨r,hr⟩:=ey (l[i]);rw[hr]at c0 c1 c2 DD;have HR:=Ah hr;have U':=Ah DD;have q2:decide ((i:Int)<(n:Int))=true:=Hv;have q3:(i:Int)<(n:Int):=Gv;clear hr ba hlen DD;subst hA;go_wp2_with fail
   go_region_held3 (λw'=>w'.cell? ⟨bb,o+i*3,Ae⟩=Af (Aa Ab r.c)/\w'.cell? ⟨bb,o+i*3+1,Ae⟩=Af (Aa Ac r.e)/\w'.cell? ⟨bb,o+i*3+2,Ae⟩=Af (Aa Ac r.k)/\w'.cell? ⟨N,0,Ae⟩=Af (Aa Ab c)/\w'.cell? ⟨N,1,Ae⟩=Af (Aa Ac e))
    (first|exact⟨c0,c1,c2,u0,u1⟩|go_keep)
    (first
     |(go_at_call 277;(with_reducible refine(bY r c e _ U'.out hc he).mono ?_);rintro e' w6 ⟨rfl,bc⟩;have kj:=kj.trans ((Hl bc).mono kj.size);have c0:=Gw (Hl bc) c0;have c1:=Gw (Hl bc) c1;have c2:=Gw (Hl bc) c2;have u0:=Gw (Hl bc) u0;have u1:=Gw (Hl bc) u1)
     |fail)
   all_goals
    go_wp2_with fail
    go_ret2
    refine⟨kj,i,Kv r.c r.e c e==0,⟨Gv,H1.out,H2.out,?_⟩,rfl⟩;rw[Aw bv,HR.out];simp
  ·have q2:decide ((i:Int)<(n:Int))=false:=Hv;have nm:l.length<=i:=Gv;have hln2:i<=l.length:=Gv;clear hlen ba;go_wp2
   go_quiet (fail)
   go_wp2_with fail
   go_ret2
   refine⟨Ic kj _,i,false,⟨hln2,H1.out,H2.out,?_⟩,rfl⟩;rw[Ej nm];simp
def As8 (A:Option Cj) (l:List Cr) (n cc:Nat) (c e:Int) (w:Aj) (hn:n=l.length) (h:Rd w A 3 n (crs l)) (hf:∀r∈l,r.fit) (ha:l.Pairwise λr q=>Kv r.c r.e q.c q.e<0) (hl:n<=1000000) (hc:0<=c/\c<=1024) (he:0<=e/\e<=255):
  Al Dp 226 #[Ad A n cc,.agg #[c,Aa Ac e]] w (xX l c e w):=by
 have hb:=Ac4 A l n cc c e (w.alloc (.cells #[c,Aa Ac e] 194)) hn (h.alloc _) hf ha hl hc he;have HB:=Ah hb;clear hb hn h hf ha;go_in;go_wp2_with fail;refine HB.out.mono ?_;rintro e' w2 ⟨aj,i,is,bi,rfl⟩;have ww:=Ah bi;clear bi;go_wp2_with fail
 go_ret2
 exact⟨((Ag _ _).alloc (Am _) _).trans (aj.mono Gy),i,is,ww.out,rfl⟩
def Cb5 (l:List Cr) (c e:Int) (w:Aj) (en:Ending) (w':Aj):Prop:=
 Below w.heap.size w w'/\∃i is,kH l c e i is/\en= .returned (.tuple #[.agg #[c,Aa Ac e],Aa Ab ((i:Nat):Int),.bool is,Aa Ab 0])
def Cc1 (a b:Int) (A:Option Cj) (l:List Cr) (n cc:Nat) (id e c':Int) (w:Aj) (hn:n=l.length) (h:Rd w A 3 n (crs l)) (hp:Lo a b l) (hQ:Qt w) (ka:Ij a b id e=(c',e,0)) (hc:0<=c'/\c'<=1024) (he:0<=e/\e<=255):
  Al Dp 171 #[.agg #[a,b,Ad A n cc],id,Aa Ac e] w (Cb5 l c' e w):=by
 have HN:=Ah hn;have dt:=Ah h;have HP:=Ah hp;have GG:=Ah ka;have hlen:n<=1000000:=oHx hp.len;obtain⟨n1,n2⟩:=iD w (.cells #[a,b,Ad A n cc] 28) (.cells #[Aa Ab 0,Aa Ac 0] 194);have ci:Below w.heap.size w ((w.alloc (.cells #[a,b,Ad A n cc] 28)).alloc (.cells #[Aa Ab 0,Aa Ac 0] 194)):=((Ag _ _).alloc (Am _) _).alloc Gy _;have ap:w.heap.size+1<((w.alloc (.cells #[a,b,Ad A n cc] 28)).alloc (.cells #[Aa Ab 0,Aa Ac 0] 194)).heap.size:=Gy;clear hn h hp ka;go_in;go_upto_region 1 with fail;generalize (w.alloc _).alloc _=W at n1 n2 ci ap⊢;obtain⟨N,hN⟩:=ez w.heap.size;rw[<-hN]at n1 n2 ap⊢;have ct:=Ah hN;have N1:=Ah n1;have N2:=Ah n2;obtain⟨⟨x0,x1,x2⟩,_⟩:=Hg n1;clear n1 n2 hN;go_wp2_with fail;refine(aZ a b A l n cc _ HN.out (dt.out.below ci) HP.out (hQ.below ci)).mono ?_;rintro e' w2 ⟨rfl,aj⟩;have dy:Below w.heap.size w w2:=Up ci aj;have M1:=Ah (kept aj N1.out Gv);have M2:=Ah (kept aj N2.out ap);obtain⟨⟨y0,y1,y2⟩,_⟩:=Hg M1.out;have bw:N+1<w2.heap.size:=Br ap aj.size;clear x0 x1 x2 aj N1 N2;go_wp2_with fail;refine(Zg a b id e _ HP.out.sheet he.1 (hQ.below dy)).mono ?_;rintro e' w3 ⟨rfl,bh⟩;rw[GG.out];unfold Vr;dsimp only;have jw:Below w.heap.size w w3:=Up dy bh;have P1:=Ah (kept bh M1.out Gv);have P2:=Ah (kept bh M2.out bw);obtain⟨⟨z0,z1,z2⟩,_⟩:=Hg P1.out;have qi:N+1<w3.heap.size:=Br bw bh.size;have hz3':N<w3.heap.size:=Gv;have hs3:=jw.size;clear y0 y1 y2 bh M1 M2;go_wp2_with fail;have da:Below w.heap.size w (w3.alloc (.cells #[c',Aa Ac e] 194)):=jw.alloc hs3 _;refine(As8 A l n cc c' e _ HN.out (dt.out.below da) HP.out.fit HP.out.asc hlen hc he).mono ?_;rintro e' w5 ⟨db,i,is,bi,rfl⟩;have ww:=Ah bi;have hb5':Below w.heap.size w w5:=Up da db
 have Q2:w5.heap[N+1]? =Af (.cells #[Aa Ab 0,Aa Ac 0] 194 (0,0)):=kept db ((Eh _ _ _ qi).trans P2.out) Hv;have Q3:w5.heap[w3.heap.size]? =Af (.cells #[c',Aa Ac e] 194 (0,0)):=kept db (Ca w3 _) Gy;obtain⟨⟨r0,r1⟩,v0,v1⟩:=Hm Q2;obtain⟨⟨s0,s1⟩,_⟩:=Hm Q3;clear bi db Q2 Q3 z0 z1 z2;go_wp2_with fail;refine Ai (v:= .tuple #[.agg #[c',Aa Ac e],Aa Ab ((i:Nat):Int),.bool is,Aa Ab 0]) (by simp[results,Tryz.results171,go_sem,r0,r1]) rfl ⟨?_,i,is,ww.out,rfl⟩;have h9:=ct.out;exact(hb5'.setCell Hv _).setCell Hv _
def Ad8 (a b:Int) (w:Aj) (hs:okS a b=true):
  Al Dp 61 #[.agg #[a,b]] w (Gz (.tuple #[.agg #[a,b,Ad Ae 0 0],Aa Ab 0]) w):=by
 have HS:=Ah hs;obtain⟨n1,n2⟩:=iD w (.cells #[a,b] 25) (.cells #[Aa Ab 0,Aa Ab 0,Ad Ae 0 0] 28);have ci:Below w.heap.size w ((w.alloc (.cells #[a,b] 25)).alloc (.cells #[Aa Ab 0,Aa Ab 0,Ad Ae 0 0] 28)):=((Ag _ _).alloc (Am _) _).alloc Gy _;have ap:w.heap.size+1<((w.alloc (.cells #[a,b] 25)).alloc (.cells #[Aa Ab 0,Aa Ab 0,Ad Ae 0 0] 28)).heap.size:=Gy;clear hs;go_in;go_upto_region 1 with fail;generalize (w.alloc _).alloc _=W at n1 n2 ci ap⊢;obtain⟨N,hN⟩:=ez w.heap.size;rw[<-hN]at n1 n2 ap⊢;have ct:=Ah hN;obtain⟨⟨x0,x1⟩,_⟩:=Hm n1;have N1:=Ah n1;have N2:=Ah n2;clear n1 n2 hN;go_wp2_with fail;refine(Js a b _).mono ?_;rintro e' w2 ⟨rfl,aj⟩;rw[HS.out,Lq];have dy:Below w.heap.size w w2:=Up ci aj;obtain⟨⟨y0,y1⟩,_⟩:=Hm (kept aj N1.out Gv);obtain⟨⟨r0,r1,r2⟩,v0,v1,v2⟩:=Hg (kept aj N2.out ap);clear x0 x1 aj;go_wp2_with fail;refine Ai (v:= .tuple #[.agg #[a,b,Ad Ae 0 0],Aa Ab 0]) (by simp[results,Tryz.results61,go_sem,r0,r1,r2]) rfl ⟨rfl,?_⟩;have h9:=ct.out;exact((dy.setCell Hv _).setCell Hv _).setCell Hv _
def Ho (l:List Cr) (c e:Int):Int:=match l.find? λr=>decide (r.c=c)&&decide (r.e=e)with
 |some r=>r.k
 |none=>0
def mF {c e c' e':Int}:Kv c e c' e'=0↔c=c'/\e=e':=by
 unfold Kv
 split
 ·rename_i h;constructor
  ·intro h2;exact⟨h,Gv⟩
  ·rintro⟨_,h2⟩;omega
 ·rename_i h;constructor
  ·intro h2;exact absurd Gv h
  ·rintro⟨h2,_⟩;exact absurd h2 h
def Ag7 {l:List Cr} {i:Nat} {is:Bool} (hf:kH l c e i is) (ha:l.Pairwise λr q=>Kv r.c r.e q.c q.e<0):
  (is=true->∃hi:i<l.length,Ho l c e=l[i].k)/\(is=false->Ho l c e=0):=by
 obtain⟨h1,h2,h3,h4⟩:=hf
 constructor
 ·intro his;obtain⟨r,hr,h0⟩:=h4.1 his;obtain⟨hi,hri⟩:=Ax.1 hr;refine⟨hi,?_⟩;unfold Ho;have hz:=mF.1 h0
  have NQ:l.find? (λr=>decide (r.c=c)&&decide (r.e=e))=Af l[i]:=by
   rw[List.find?_eq_some_iff_getElem];refine⟨by rw[hri];simp[hz.1,hz.2],i,hi,rfl,λk hk=>?_⟩;have ac:=h2 k Gv hk;simp only[Bool.not_eq_true',Bool.and_eq_false_iff,Rt];by_cases hc:l[k].c=c
   ·right;intro he;have:=mF.2 ⟨hc,he⟩;omega
   ·left;exact hc
  rw[NQ]
 ·intro his;unfold Ho
  have NQ:l.find? (λr=>decide (r.c=c)&&decide (r.e=e))=Ae:=by
   rw[List.find?_eq_none];intro r hr hp;simp only[Em,Li]at hp;obtain⟨k,hk,rfl⟩:=Be.1 hr;have h0:Kv l[k].c l[k].e c e=0:=mF.2 hp
   have zt:i<=k:=by
    by_cases h:k<i
    ·have:=h2 k hk h;omega
    ·omega
   have bv:i<l.length:=Gv
   have ep:Kv l[i].c l[i].e c e=0:=by
    rcases Nat.lt_or_eq_of_le zt with h|h
    ·have h5:=Fj.1 ha i k bv hk h;rw[hp.1,hp.2]at h5;have:=h3 i bv (Am _);omega
    ·subst h;exact h0
   have:is=true:=h4.2 ⟨l[i],Gy,ep⟩;rw[his]at this;cases this
  rw[NQ]
def zG (a b:Int) (A:Option Cj) (l:List Cr) (n cc:Nat) (id e c':Int) (w:Aj) (hn:n=l.length) (h:Rd w A 3 n (crs l)) (hp:Lo a b l) (hQ:Qt w) (ka:Ij a b id e=(c',e,0)) (hc:0<=c'/\c'<=1024) (he:0<=e/\e<=255):
  Al Dp 116 #[.agg #[a,b,Ad A n cc],id,Aa Ac e] w (Gz (.tuple #[Aa Ac (Ho l c' e),Aa Ab 0]) w):=by
 have ww:=Ah λw h hQ=>Cc1 a b A l n cc id e c' w hn h hp hQ ka hc he;have HKF:=Ah λi is (hf:kH l c' e i is)=>Ag7 hf hp.asc;have dt:=Ah h;have HN:=Ah hn;have HQ:=Ah hQ;have H:=(Bx.start w).new #[a,b,Ad A n cc] 28 rfl;have hlen:l.length<=1000000:=hp.len;clear hn h hp hQ ka hc he;go_in;go_upto_region 1 with fail;generalize w.alloc _=W at H⊢;generalize w.heap.size=N at H⊢;obtain⟨⟨a0,a1,a2⟩,_⟩:=Hg (H.b 0);go_wp2_with fail;refine(ww.out _ (dt.out.below H.below) (HQ.out.below H.below)).mono ?_;rintro ee w2 ⟨hb,i,is,hfi,rfl⟩;have H2:=H.call hb;obtain⟨k1,k2⟩:=HKF.out i is hfi;clear a0 a1 a2 hb H;have l0:=H2.lt 0 rfl;obtain⟨⟨a0,a1,a2⟩,_⟩:=Hg (H2.b 0)
 cases is
 ·have hk:=k2 rfl;have HK:=Ah hk;clear k1 k2 hk hfi;go_wp2_with fail
  go_ret2
  exact⟨by rw[HK.out];rfl,(H2.other _).below⟩
 ·obtain⟨hi,hk⟩:=k1 rfl;have HK:=Ah hk;have ba:=dt.out.below H2.below;rw[HN.out]at ba;obtain⟨bb,o,hA,cj,c0,c1,c2⟩:=Xh ba i hi;have q1:(i:Int)<(n:Int):=oHx HN.out;generalize l[i]=r at c0 c1 c2 HK;clear k1 k2 hk hfi ba;subst hA;go_wp2_with fail
  go_ret2
  exact⟨by rw[HK.out];rfl,(H2.other _).below⟩
section
variable {κ:Type} [DecidableEq κ]
def zA (p:κ):∀(l:List (κ×Ak)) (n:Nat),Qd p l n=((Qd p l 0).map λr=>(r.1+n,r.2)):=by
 intro l
 induction l with
 |nil=>intro n;rfl
 |cons q l ih=>
  intro n;unfold Qd;by_cases h:p=q.1
  ·simp[h]
  ·rw[Ha h,Ha h,ih (n+1),ih (0+1)]
   cases Qd p l 0 with
   |none=>rfl
   |some r=>simp;omega
def Qv (p:κ) (q:κ×Ak) (l:List (κ×Ak)):Of p (q::l)=if p=q.1 then Af q.2 else Of p l:=by
 unfold Of
 conv=>lhs;unfold Qd
 by_cases h:p=q.1
 ·simp[h]
 ·rw[Ha h,Ha h,zA]
  cases Qd p l 0<;>rfl
def Ak0 (p:κ) (v:Ak) (q:κ×Ak) (l:List (κ×Ak)):Ro p v (q::l)=if p=q.1 then (p,v)::l else q::Ro p v l:=by
 unfold Ro
 conv=>lhs;unfold Qd
 by_cases h:p=q.1
 ·simp[h]
 ·rw[Ha h,Ha h,zA]
  cases Qd p l 0<;>simp
def eJ (p q:κ) (v:Ak):∀l:List (κ×Ak),Of p (Ro q v l)=if p=q then Af v else Of p l:=by
 intro l
 induction l with
 |nil=>
  have e:Ro q v ([]:List (κ×Ak))=[(q,v)]:=rfl;rw[e,Qv]
 |cons r l ih=>
  rw[Ak0];by_cases h:q=r.1
  ·rw[Hc h,Qv,Qv];by_cases hp:p=q
   ·simp[hp]
   ·have:p≠r.1:=λe=>hp (e.trans h.symm);simp[hp,this]
  ·rw[Ha h,Qv,Qv,ih];by_cases hp:p=r.1
   ·have:p≠q:=λe=>h (e.symm.trans hp);simp[hp];intro e;exact absurd (hp.trans e) this
   ·simp[hp]
end
def crM (l:List Cr):List ((Int×Int)×Ak):=l.foldl (λm r=>Ro (r.c,r.e) (.bool true) m) []
def As5 (l:List Cr) (i:Nat) (h:i<l.length):crM (l.take (i+1))=Ro (l[i].c,l[i].e) (.bool true) (crM (l.take i)):=by
 unfold crM;rw[Bc h,List.foldl_append];rfl
def Bi1 (l:List Cr) (c e:Int):(Of (c,e) (crM l)).getD (.bool false)= .bool (Nk l c e):=by
 have key:∀(l:List Cr) (m:List ((Int×Int)×Ak)),Of (c,e) (l.foldl (λm r=>Ro (r.c,r.e) (.bool true) m) m)=if Nk l c e then Af (.bool true)else Of (c,e) m:=by
  intro l
  induction l with
  |nil=>intro m;simp[Nk]
  |cons r l ih=>
   intro m;rw[List.foldl_cons,ih,eJ];unfold Nk;rw[List.any_cons];by_cases h:r.c=c/\r.e=e
   ·simp[h.1,h.2]
   ·have h':¬((c,e)=(r.c,r.e)):=λx=>h (by simp at x;exact⟨x.1.symm,x.2.symm⟩);rw[Ha h']
    have h2:(decide (r.c=c)&&decide (r.e=e))=false:=by
     simp only[Bool.and_eq_false_iff,Rt];by_cases hc:r.c=c
     ·right;exact λhe=>h ⟨hc,he⟩
     ·left;exact hc
    rw[h2,Bool.false_or]
 unfold crM;rw[key]
 cases Nk l c e with
 |true=>rfl
 |false=>rfl
def Bx.mapped {K:κ->Ak} {m:List (κ×Ak)} (h:Bx w l wr) (hk:Kl K wr M m) (hg:wr.grownBy w' (Af M)) (hM:w.heap.size<=M):Bx w l w':=by
 obtain⟨es,clock,hb,_⟩:=hk;refine⟨h.below.grown hg h.below.size (λk hk=>by injection hk with hk;omega),λi g cs t hi=>?_,h.lo,h.inj⟩;have zp:=h.blk i g cs t hi;refine(hg.block g (h.lt i hi) ?_).trans zp;intro e;injection e with e;subst e;rw[zp]at hb
 cases hb
def Bt8 (K:κ->Ak) (m:List (κ×Ak)) (w:Aj) (e:Ending) (w':Aj):Prop:=∃M,e= .returned (.map (Af M))/\w.heap.size<=M/\Kl K w' M m/\Below w.heap.size w w'
def tK (a b:Int) (A:Option Cj) (l:List Cr) (n cc:Nat) (w:Aj) (hn:n=l.length) (h:Rd w A 3 n (crs l)) (hl:n<=1000000):
  Al Dp 212 #[.agg #[a,b,Ad A n cc]] w (Bt8 unK (crM l) w):=by
 have dt:=Ah h;have HN:=Ah hn;have H:=(Bx.start w).new #[a,b,Ad A n cc] 28 rfl;clear hn h;go_in;go_upto_region 1 with fail;generalize w.alloc _=W at H⊢;obtain⟨N,ct⟩:=Tw w.heap.size;rw[<-ct.out]at H⊢;obtain⟨⟨a0,a1,a2⟩,_⟩:=Hg (H.b 0);have ju:(Instr.makeMap 340 (Af (Aa Ab n))).run Dp W= .ok (.map (Af W.heap.size)) (W.alloc (.map #[] 0)):=by first|rfl|simp[Instr.makeMap]
 go_upto_region 2 with fail;obtain⟨M,hM⟩:=ez W.heap.size;rw[<-hM];have MW:w.heap.size<=M:=oHx H.below.size;have hK:=Wf unK W;rw[<-hM]at hK;have H2:=H.other (.map #[] 0);generalize W.alloc _=W2 at hK H2⊢;clear ju hM a0 a1 a2 H;obtain⟨⟨a0,a1,a2⟩,_⟩:=Hg (H2.b 0);go_wp2_with fail;clear a0 a1 a2
 go_loopw [13] (λi wr=>∃k:Nat,k<=n/\i= Aa Ab k/\Bx w [(N,#[a,b,Ad A n cc],28)] wr/\Kl unK wr M (crM (l.take k))) (λi _=>n-(intOf i).toNat)
 case atStart=>exact⟨0,Gv,rfl,H2,hK⟩
 obtain⟨k,hk,rfl,Hr,Kr⟩:=hrel;by_cases ac:k<n
 ·have be:k<l.length:=oHx HN.out;have ba:=dt.out.below Hr.below;rw[HN.out]at ba;obtain⟨bb,o,hA,cj,c0,c1,c2⟩:=Xh ba k be;have kg:=As5 l k be;generalize l[k]=r at c0 c1 c2 kg;have xd:=Ah kg;have q1:(k:Int)<(n:Int):=Gv;have Kr2:=Kr.below ((Ag wr.heap.size wr).alloc (Am _) (.cells #[Aa Ab r.c,Aa Ac r.e,Aa Ac r.k] 192)) Kr.lt;have Hr2:=Hr.other (.cells #[Aa Ab r.c,Aa Ac r.e,Aa Ac r.k] 192);clear ba kg;subst hA;go_wp2_with (at_mapUpdate;refine Sl Ts Tryz.underlying340 _ rfl _ _ _ rfl M (crM (l.take k)) (r.c,r.e) (.bool true) rfl rfl rfl Kr2 ?_;intro w9 ur BT);exact⟨⟨k+1,Gv,by go_num,Hr2.mapped Kr2 BT MW,by rw[xd.out];exact ur⟩,by simp[intOf];omega⟩
 ·have q1:¬(k:Int)<(n:Int):=Gv;have ut:k=l.length:=oHx HN.out;go_wp2;go_ret;refine⟨M,rfl,MW,?_,Hr.below⟩;rw[ut,List.take_length]at Kr;exact Kr
def lnR (r:(Int×Int)×Int):Ak:= .tuple #[.agg #[Aa Ac r.1.1,Aa Ab r.1.2],Aa Ab r.2]
def Ah0 (x y:Int) (q e:Nat) (hq:q<4):Jp ⟨x,y,q⟩ e=if e=1 then (3,x+y+1)else if e=2 then (4,y-x)else (qln q,if qln q=2 then y+qby q else x+qby q):=by
 unfold Jp;dsimp only
 split
 ·rfl
 ·split
  ·rfl
  ·have h4:q=0∨q=1∨q=2∨q=3:=Gv;rcases h4 with rfl|rfl|rfl|rfl<;>simp[qln,qby]
def qlb (q:Nat):(qln q=1∨qln q=2)/\(0<=qby q/\qby q<=1):=by
 unfold qln qby;split<;>decide
def nQ (c:Cl) (e:Nat) (w:Aj) (hc:c.ok=true) (he:e<=2) (hQ:Qf w):
  Al Dp 194 #[.agg #[Aa Ab c.x,Aa Ab c.y,Aa Ac c.q],Aa Ac e] w (Gz (lnR (Xc c e)) w):=by
 obtain⟨⟨⟨rk,rc⟩,re⟩,hR⟩:∃R,Xc c e=R:=⟨_,rfl⟩;rw[hR];unfold Cl.ok at hc;obtain⟨c1,c2,c3,c4,c5⟩:=Jq.1 hc;obtain⟨x,y,q⟩:=c;dsimp only at hc c1 c2 c3 c4 c5⊢;have hq:q<4:=Gv;unfold Xc at hR;rw[Ah0 x y q e hq]at hR;unfold lnR;dsimp only;have ae:=λ(w':Aj) (h:Qf w')=>h.row hq;unfold Ou at ae;obtain⟨nm,hby1,hby2⟩:=qlb q;obtain⟨⟨u1,u2⟩,h1⟩:=ey (Ue q);obtain⟨⟨v1,v2⟩,h2⟩:=ey (Uf q);obtain⟨⟨s1,s2⟩,h3⟩:=ey (Iu q);obtain⟨ln,h4⟩:=ey (qln q);obtain⟨qd,h5⟩:=ey (qby q);obtain⟨⟨n1,n2,n3⟩,h6⟩:=ey (nxt q 0);obtain⟨⟨n4,n5,n6⟩,h7⟩:=ey (nxt q 1);obtain⟨⟨n7,n8,n9⟩,h8⟩:=ey (nxt q 2);rw[h1,h2,h3,h4,h5,h6,h7,h8]at ae;rw[h4]at nm hR;rw[h5]at hby1 hby2 hR;dsimp only at ae;have HC:=Ah hc;have BF:=Ah ae;have HQ:=Ah hQ;have HR:=Ah hR;have q1:(q:Int)<4:=Gv;have q2:¬(2:Int)<(e:Int):=Gv;have H:=((Bx.start w).new #[x,y,Aa Ac q] 90 rfl).new #[Aa Ac 0,Aa Ab 0] 48 (N:=w.heap.size+1) Gy;clear hc ae h1 h2 h3 h4 h5 h6 h7 h8 hQ hR;go_in;go_upto_region 1 with fail;generalize (w.alloc _).alloc _=W at H⊢;generalize w.heap.size=N at H⊢;obtain⟨⟨a0,a1,a2⟩,_⟩:=Hg (H.b 0);go_wp2_with fail;refine(Jg x y q _).mono ?_;rintro ee w2 ⟨rfl,hb⟩;rw[HC.out,Lq];have H2:=H.call hb;clear a0 a1 a2 hb H;obtain⟨⟨a0,a1,a2⟩,_⟩:=Hg (H2.b 0);have hr:=BF.out _ (HQ.out.below H2.below);go_upto_region 3 with fail
 repeat' (go_not_at_region 4;first
  |refine wpList_load_mid rfl 300 (.tmp 18) rfl 1 (q*17) rfl _ _ hr Tryz.underlying300 rfl Gx ?_
  |refine Pk rfl 300 (.tmp 6) (.tmp 19) rfl _ _ rfl rfl Gx rfl rfl ?_
  |go_step)
 clear hr a0 a1 a2;obtain⟨G4,F0⟩:=ez w2.heap.size;rw[<-F0];have H4:=H2.new #[s1,s2,Aa Ac ln,qd,n1,n2,Aa Ac n3,n4,n5,Aa Ac n6,n7,n8,Aa Ac n9,u1,u2,v1,v2] 300 F0.symm;obtain⟨W4,QJ⟩:=ez (w2.alloc (.cells #[s1,s2,Aa Ac ln,qd,n1,n2,Aa Ac n3,n4,n5,Aa Ac n6,n7,n8,Aa Ac n9,u1,u2,v1,v2] 300));rw[<-QJ]at H4;change Code.wp _ _ _ _ (w2.alloc (.cells #[s1,s2,Aa Ac ln,qd,n1,n2,Aa Ac n3,n4,n5,Aa Ac n6,n7,n8,Aa Ac n9,u1,u2,v1,v2] 300));rw[<-QJ];have ja:=H4.range 2 rfl;have r2:=ja 2 _ rfl;have r3:=ja 3 _ rfl;simp only[Bu]at r2 r3;obtain⟨⟨a0,a1,a2⟩,_⟩:=Hg (H4.b 0);have w1:=Cb (x+qd) Gv;clear ja F0 QJ;go_upto_region 5 with fail;obtain⟨G5,F3⟩:=ez W4.heap.size;rw[<-F3];have H5:=H4.new #[Aa Ac ln,Aa Ab (x+qd)] 48 F3.symm;generalize W4.alloc _=W5 at H5⊢;have OH:N≠G5:=oHx (H4.lt 0 rfl);have AB:G4≠G5:=oHx (H4.lt 2 rfl);clear F3 r2 r3 a0 a1 a2;obtain⟨⟨a0,a1,a2⟩,_⟩:=Hg (H5.b 0);obtain⟨⟨b0,b1⟩,f0,f1⟩:=Hm (H5.b 3);have ja:=H5.range 2 rfl;have r2:=ja 2 _ rfl;have r3:=ja 3 _ rfl;simp only[Bu]at r2 r3;clear ja;have L_:e=0∨e=1∨e=2:=Gv;rcases L_ with rfl|rfl|rfl
 ·rcases nm with rfl|rfl
  ·as_aux_lemma=>
     go_wp2_with fail;refine(Jm 1 (x+qd) _).mono ?_;rintro ee w6 ⟨rfl,bc⟩;have H7:=(H5).call bc;obtain⟨⟨p0,p1⟩,_⟩:=Hm (H7.b 3);obtain⟨⟨t0,t1⟩,z0,z1⟩:=Hm (H7.b 1);have am:=HR.out;clear b0 b1 f0 f1 r2 r3 a0 a1 a2 bc
     cases hk:okL 1 (x+qd)
     ·rw[Qm]
      have hv:rk=0/\rc=0/\re=3:=by
       simp[hk]at am;omega
      have HV:=Ah hv;clear hk am hv;go_wp2_with fail;have H8:=(H7.set 1 0 rfl (Aa Ac 0)).set 1 1 rfl (Aa Ab 0);exact Ai (Hj rfl rfl (H8.range 1 rfl) Dn rfl Gx) rfl ⟨by rw[HV.out.1,HV.out.2.1,HV.out.2.2];rfl,H8.below⟩
     ·rw[Lq]
      have hv:rk=1/\rc=x+qd/\re=0:=by
       simp[hk]at am;omega
      have HV:=Ah hv;clear hk am hv;go_wp2_with fail;have H8:=(H7.set 1 0 rfl (Aa Ac 1)).set 1 1 rfl (Aa Ab (x+qd));exact Ai (Hj rfl rfl (H8.range 1 rfl) Dn rfl Gx) rfl ⟨by rw[HV.out.1,HV.out.2.1,HV.out.2.2];rfl,H8.below⟩
  ·as_aux_lemma=>
     have ZK:=Cb (y+qd) Gv;go_wp2_with fail;refine(Jm 2 (y+qd) _).mono ?_;rintro ee w6 ⟨rfl,bc⟩;have H7:=((H5.set 3 1 rfl (Aa Ab (y+qd)))).call bc;obtain⟨⟨p0,p1⟩,_⟩:=Hm (H7.b 3);obtain⟨⟨t0,t1⟩,z0,z1⟩:=Hm (H7.b 1);have am:=HR.out;clear b0 b1 f0 f1 r2 r3 a0 a1 a2 bc
     cases hk:okL 2 (y+qd)
     ·rw[Qm]
      have hv:rk=0/\rc=0/\re=3:=by
       simp[hk]at am;omega
      have HV:=Ah hv;clear hk am hv;go_wp2_with fail;have H8:=(H7.set 1 0 rfl (Aa Ac 0)).set 1 1 rfl (Aa Ab 0);exact Ai (Hj rfl rfl (H8.range 1 rfl) Dn rfl Gx) rfl ⟨by rw[HV.out.1,HV.out.2.1,HV.out.2.2];rfl,H8.below⟩
     ·rw[Lq]
      have hv:rk=2/\rc=y+qd/\re=0:=by
       simp[hk]at am;omega
      have HV:=Ah hv;clear hk am hv;go_wp2_with fail;have H8:=(H7.set 1 0 rfl (Aa Ac 2)).set 1 1 rfl (Aa Ab (y+qd));exact Ai (Hj rfl rfl (H8.range 1 rfl) Dn rfl Gx) rfl ⟨by rw[HV.out.1,HV.out.2.1,HV.out.2.2];rfl,H8.below⟩
 ·as_aux_lemma=>
   have ZK:=Cb (x+y) Gv;have w3':=Cb (x+y+1) Gv;go_wp2_with fail;refine(Jm 3 (x+y+1) _).mono ?_;rintro ee w6 ⟨rfl,bc⟩;have H7:=(((H5.set 3 0 rfl (Aa Ac 3)).set 3 1 rfl (Aa Ab (x+y+1)))).call bc;obtain⟨⟨p0,p1⟩,_⟩:=Hm (H7.b 3);obtain⟨⟨t0,t1⟩,z0,z1⟩:=Hm (H7.b 1);have am:=HR.out;clear b0 b1 f0 f1 r2 r3 a0 a1 a2 bc
   cases hk:okL 3 (x+y+1)
   ·rw[Qm]
    have hv:rk=0/\rc=0/\re=3:=by
     simp[hk]at am;omega
    have HV:=Ah hv;clear hk am hv;go_wp2_with fail;have H8:=(H7.set 1 0 rfl (Aa Ac 0)).set 1 1 rfl (Aa Ab 0);exact Ai (Hj rfl rfl (H8.range 1 rfl) Dn rfl Gx) rfl ⟨by rw[HV.out.1,HV.out.2.1,HV.out.2.2];rfl,H8.below⟩
   ·rw[Lq]
    have hv:rk=3/\rc=x+y+1/\re=0:=by
     simp[hk]at am;omega
    have HV:=Ah hv;clear hk am hv;go_wp2_with fail;have H8:=(H7.set 1 0 rfl (Aa Ac 3)).set 1 1 rfl (Aa Ab (x+y+1));exact Ai (Hj rfl rfl (H8.range 1 rfl) Dn rfl Gx) rfl ⟨by rw[HV.out.1,HV.out.2.1,HV.out.2.2];rfl,H8.below⟩
 ·as_aux_lemma=>
   have ZK:=Cb (y-x) Gv;go_wp2_with fail;refine(Jm 4 (y-x) _).mono ?_;rintro ee w6 ⟨rfl,bc⟩;have H7:=(((H5.set 3 0 rfl (Aa Ac 4)).set 3 1 rfl (Aa Ab (y-x)))).call bc;obtain⟨⟨p0,p1⟩,_⟩:=Hm (H7.b 3);obtain⟨⟨t0,t1⟩,z0,z1⟩:=Hm (H7.b 1);have am:=HR.out;clear b0 b1 f0 f1 r2 r3 a0 a1 a2 bc
   cases hk:okL 4 (y-x)
   ·rw[Qm]
    have hv:rk=0/\rc=0/\re=3:=by
     simp[hk]at am;omega
    have HV:=Ah hv;clear hk am hv;go_wp2_with fail;have H8:=(H7.set 1 0 rfl (Aa Ac 0)).set 1 1 rfl (Aa Ab 0);exact Ai (Hj rfl rfl (H8.range 1 rfl) Dn rfl Gx) rfl ⟨by rw[HV.out.1,HV.out.2.1,HV.out.2.2];rfl,H8.below⟩
   ·rw[Lq]
    have hv:rk=4/\rc=y-x/\re=0:=by
     simp[hk]at am;omega
    have HV:=Ah hv;clear hk am hv;go_wp2_with fail;have H8:=(H7.set 1 0 rfl (Aa Ac 4)).set 1 1 rfl (Aa Ab (y-x));exact Ai (Hj rfl rfl (H8.range 1 rfl) Dn rfl Gx) rfl ⟨by rw[HV.out.1,HV.out.2.1,HV.out.2.2];rfl,H8.below⟩
def qG (h:Ij a b c e=(c,e,0)):Sz a b c=true:=by
 unfold Ij at h
 split at h
 ·rename_i h0
  cases hh:Sz a b c with
  |true=>rfl
  |false=>unfold nbI at h0;rw[Hc hh]at h0;simp at h0
 ·rename_i h0;simp at h;exact absurd h.2.2 h0
def Vz (a b:Int) (w:Aj) (hs:okS a b=true):Al Dp 202 #[.agg #[a,b]] w (Gz (Aa Ab (Hh a b)) w):=by
 obtain⟨m1,m2,m3,m4,m5,m6⟩:=Mg hs;have e0:4*a*b=4*(a*b):=Cw _ _ _;obtain⟨m,hm⟩:=ey (4*a*b);have am:(Hh a b:Int)=m:=by unfold Hh;rw[hm];omega
 rw[am];have HM:=Ah hm;have HS:=Ah hs;have k1:=Cb (4*a) Gv;have k2:Ab.wrap (4*a*b)=m:=by rw[Cb _ Gv];exact hm
 have H:=(Bx.start w).new #[a,b] 25 rfl;clear hm hs am e0 m1 m2 m3 m4 m5 m6;go_in;go_upto_region 1 with fail;generalize w.alloc _=W at H⊢;generalize w.heap.size=N at H⊢;obtain⟨⟨a0,a1⟩,_⟩:=Hm (H.b 0);go_wp2_with fail;refine(Js a b _).mono ?_;rintro e w2 ⟨rfl,hb⟩;rw[HS.out,Lq];have H2:=H.call hb;clear a0 a1 hb;obtain⟨⟨a0,a1⟩,_⟩:=Hm (H2.b 0);go_wp2;go_ret;exact⟨rfl,H2.below⟩
def Ax9 (a b c e:Int) (w:Aj) (hs:okS a b=true) (he:0<=e) (hn:Ij a b c e=((c:Int),(e:Int),(0:Int))) (hQ:Qf w):
  Al Dp 259 #[.agg #[a,b],.agg #[c,Aa Ac e]] w (Gz (.tuple #[.agg #[Aa Ab (c/4%a),Aa Ab (c/4/a),Aa Ac (c%4)],Aa Ab 0]) w):=by
 have HH:=Ah (qG hn);have HN:=Ah λw h=>Zg a b c e w hs he h;rw[hn]at HN;unfold Vr at HN;dsimp only at HN;have AZ:=Ah λw=>nX a b c w hs HH.out;obtain⟨x,hx⟩:=ey (c/4%a);obtain⟨y,hy⟩:=ey (c/4/a);obtain⟨q,hq⟩:=ey (c%4);rw[hx,hy,hq]at AZ;rw[hx,hy,hq];have HS:=Ah hs;have HQ:=Ah hQ;have H:=(((Bx.start w).new #[a,b] 25 rfl).new #[c,Aa Ac e] 194 (N:=w.heap.size+1) Gy).new #[Aa Ab 0,Aa Ab 0,Aa Ac 0] 90 (N:=w.heap.size+2) Gy;clear hx hy hq hs hn hQ;go_in;go_upto_region 1 with fail;generalize ((w.alloc _).alloc _).alloc _=W at H⊢;generalize w.heap.size=N at H⊢;obtain⟨P,hP⟩:=ez (N+2);rw[<-hP]at H;rw[show N+1+1=P from hP.symm];clear hP;obtain⟨⟨a0,a1⟩,_⟩:=Hm (H.b 0);go_wp2_with fail;refine(Js a b _).mono ?_;rintro ee w2 ⟨rfl,hb⟩;rw[HS.out,Lq];have H2:=H.call hb;clear a0 a1 hb H;obtain⟨⟨a0,a1⟩,_⟩:=Hm (H2.b 0);obtain⟨⟨b0,b1⟩,_⟩:=Hm (H2.b 1);go_wp2_with fail;refine(HN.out _ (HQ.out.below H2.below).qt).mono ?_;rintro ee w3 ⟨rfl,hb⟩;have H3:=H2.call hb;clear a0 a1 b0 b1 hb H2;obtain⟨⟨a0,a1⟩,_⟩:=Hm (H3.b 0);obtain⟨⟨b0,b1⟩,_⟩:=Hm (H3.b 1);have l0:=H3.lt 0 rfl;have l1:=H3.lt 1 rfl;have l2:=H3.lt 2 rfl;go_wp2_with fail;refine(AZ.out _).mono ?_;rintro ee w4 ⟨rfl,hb⟩;have H4:=(H3.other _).call hb;clear a0 a1 b0 b1 hb H3;obtain⟨⟨d0,d1,d2⟩,f0,f1,f2⟩:=Hg (H4.b 2);go_wp2_with fail;have H5:=((H4.set 2 0 rfl (Aa Ab x)).set 2 1 rfl (Aa Ab y)).set 2 2 rfl (Aa Ac q);exact Ai (Hj rfl rfl (H5.range 2 rfl) Tryz.underlying90 rfl Gx) rfl ⟨rfl,H5.below⟩
def nU {c:Nat} (hs:okS a b=true) (hh:Sz a b c=true):(Hf a c).ok=true:=by
 obtain⟨m1,m2,m3,m4,m5,m6⟩:=Mg hs;obtain⟨i1,i2⟩:=Oq.1 hh;have e0:4*a*b=4*(a*b):=Cw _ _ _;have d3:=Int.emod_nonneg ((c:Int)/4) (show a≠0 by omega);have d4:=Int.emod_lt_of_pos ((c:Int)/4) (show 0<a by omega);have d5:0<=(c:Int)/4/a:=Int.ediv_nonneg Gv Gv;have d6:(c:Int)/4/a<=(c:Int)/4:=Int.ediv_le_self _ Gv;unfold Cl.ok Hf;rw[Jq];dsimp only;refine⟨Gv,Gv,Gv,Gv,Gv⟩
def mQ (a b:Int) (c e:Nat) (w:Aj) (hs:okS a b=true) (he:e<=2) (hn:Ij a b c e=((c:Int),(e:Int),(0:Int))) (hQ:Qf w):
  Al Dp 214 #[.agg #[a,b],.agg #[c,Aa Ac e]] w (Gz (lnR (Xc (Hf a c) e)) w):=by
 have HN:=Ah λw h=>Ax9 a b c e w hs Gv hn h;have dw:=nU hs (qG hn);have HL:=Ah λw h=>nQ (Hf a c) e w dw he h;obtain⟨⟨⟨rk,rc⟩,re⟩,hR⟩:∃R,Xc (Hf a c) e=R:=⟨_,rfl⟩;rw[hR]at HL⊢;unfold lnR at HL⊢;dsimp only at HL⊢;have R3:(c:Int)%4=((c%4:Nat):Int):=Gv;rw[R3]at HN;unfold Hf at HL;dsimp only at HL;obtain⟨x,hx⟩:=ey ((c:Int)/4%a);obtain⟨y,hy⟩:=ey ((c:Int)/4/a);obtain⟨q,hq⟩:=ey (c%4);rw[hx,hy,hq]at HN HL;have HQ:=Ah hQ;have H:=(((Bx.start w).new #[a,b] 25 rfl).new #[c,Aa Ac e] 194 (N:=w.heap.size+1) Gy).new #[Aa Ac 0,Aa Ab 0] 48 (N:=w.heap.size+2) Gy;clear hx hy hq hs hn hQ hR dw R3;go_in;go_upto_region 1 with fail;generalize ((w.alloc _).alloc _).alloc _=W at H⊢;generalize w.heap.size=N at H⊢;obtain⟨P,hP⟩:=ez (N+2);rw[<-hP]at H;rw[show N+1+1=P from hP.symm];clear hP;obtain⟨⟨a0,a1⟩,_⟩:=Hm (H.b 0);obtain⟨⟨b0,b1⟩,_⟩:=Hm (H.b 1);go_wp2_with fail;refine(HN.out _ (HQ.out.below H.below)).mono ?_;rintro ee w2 ⟨rfl,hb⟩;have H2:=H.call hb;clear a0 a1 b0 b1 hb H;obtain⟨⟨b0,b1⟩,_⟩:=Hm (H2.b 1);have l1:=H2.lt 1 rfl;have l2:=H2.lt 2 rfl;go_wp2_with fail;refine(HL.out _ (HQ.out.below (H2.other _).below)).mono ?_;rintro ee w3 ⟨rfl,hb⟩;have H3:=(H2.other _).call hb;clear b0 b1 hb H2;obtain⟨⟨d0,d1⟩,f0,f1⟩:=Hm (H3.b 2);go_wp2_with fail;have H4:=(H3.set 2 0 rfl (Aa Ac rk)).set 2 1 rfl (Aa Ab rc);exact Ai (Hj rfl rfl (H4.range 2 rfl) Dn rfl Gx) rfl ⟨rfl,H4.below⟩
def Yk (h:Below X.heap.size X Y) (k:Below w.heap.size w X):Below w.heap.size w Y:=Up k h
def Nm (l:List Mv):List Ak:=l.flatMap Mv.cells
def Oa (m:Mv):m.cells.length=3:=rfl
def Xv {l:List Mv} (h:w.rangeAt g 0 (Nm l)) (i:Nat) (hi:i<l.length):
  w.cell? ⟨g,i*3,Ae⟩=Af (Aa Ac l[i].t)/\w.cell? ⟨g,i*3+1,Ae⟩=Af (Aa Ab l[i].x)/\w.cell? ⟨g,i*3+2,Ae⟩=Af (Aa Ab l[i].y):=by
 have bi:∀f,f<3->(Nm l)[i*3+f]? =(l[i].cells)[f]? :=λf hf=>It Mv.cells 3 Oa _ i f hi hf;have h0:=h (i*3+0) _ ((bi 0 Gv).trans rfl);have h1:=h (i*3+1) _ ((bi 1 Gv).trans rfl);have h2:=h (i*3+2) _ ((bi 2 Gv).trans rfl);simp only[Bu,Df]at h0 h1 h2;exact⟨h0,h1,h2⟩
def Bl5 (c:Cl) (e:Nat):0<=(Xc c e).1.1:=by
 unfold Xc
 split
 ·unfold Jp
  split
  ·exact(by decide:(0:Int)<=3)
  ·split
   ·exact(by decide:(0:Int)<=4)
   ·split
    ·exact(by decide:(0:Int)<=2)
    ·exact(by decide:(0:Int)<=1)
    ·exact(by decide:(0:Int)<=2)
    ·exact(by decide:(0:Int)<=1)
 ·exact Int.le_refl _
def Bm6 (l:Int×Int):(Ur l).1.t<=255:=by
 unfold Ur
 split
 ·unfold ofL
  split
  ·exact(by decide:4<=255)
  ·split
   ·exact(by decide:6<=255)
   ·split
    ·exact(by decide:5<=255)
    ·exact(by decide:7<=255)
 ·exact(by decide:0<=255)
def Bn1 (a b i e:Int) (h0:0<=e):0<=(Ij a b i e).2.1/\(Ij a b i e).2.1<=e:=by
 unfold Ij
 split
 ·exact⟨h0,Int.le_refl _⟩
 ·exact⟨Int.le_refl _,h0⟩
def sW (a b:Int) (l:List Cr) (out:List Mv) (id e N N4 N5 M go n:Nat) (w:Aj) (hp:Lo a b l) (hQ:Qf w) (hT:Tn w) (hn:n=out.length) (hid:id<n) (he:e<=2) (hm:∀m∈out,m.t<=255)
  (c0:w.cell? ⟨N,0,Ae⟩=Af (Aa Ab a)) (c1:w.cell? ⟨N,1,Ae⟩=Af (Aa Ab b)) (h4:w.cell? ⟨N4,0,Ae⟩=Af (.map (Af M))) (hM:Kl unK w M (crM l))
  (h5:w.cell? ⟨N5,0,Ae⟩=Af (Ad (Af ⟨go,0,Ae⟩) n n)) (hr:w.rangeAt go 0 (Nm out)):
  Al Dp 213 #[id,Aa Ac e,.pointer (Af ⟨N,0,Ae⟩),.pointer (Af ⟨N4,0,Ae⟩),.pointer (Af ⟨N5,0,Ae⟩)] w (Gz (Kf a b l out id e).v w):=by
 have M6:id<out.length:=Gv;obtain⟨m0,m1,m2⟩:=Xv hr id M6;have vi:=hm out[id] (Ay _);have QR:out.getD id mv0=out[id]:=by simp[List.getD,M6]
 obtain⟨R,hR⟩:=ey (Kf a b l out id e);rw[hR];unfold Kf at hR;rw[QR]at hR;generalize out[id]=m at m0 m1 m2 vi hR;obtain⟨mt,mx,my⟩:=m;dsimp only at m0 m1 m2 vi;have ka:=λw h=>Zg a b id e w hp.sheet (Int.natCast_nonneg e) h;have hne:=Bn1 a b id e (Int.natCast_nonneg e);obtain⟨⟨c,e',er⟩,hu⟩:=ey (Ij a b id e);rw[hu]at ka hR hne;unfold Vr at ka;dsimp only at ka hR hne;have qr:=Bi1 l c e';obtain⟨S,hS⟩:=ey (Nk l c e');rw[hS]at hR qr;have HS:=Ah hS;have HR:=Ah hR;have GG:=Ah ka;have HP:=Ah hp;have HQ:=Ah hQ;have HT:=Ah hT;have HM:=Ah hM;have PO:=Ah qr;have HN:=Ah hn;have qid:(id:Int)<(n:Int):=Gv;have H:=(Bx.start w).new #[Aa Ac 0,Aa Ab 0,Aa Ab 0] 30 rfl;clear hR ka hp hQ hT hM hu hm hr QR hS qr hn M6;go_in;go_upto_region 1 with fail;generalize w.alloc _=W at H⊢;generalize w.heap.size=N7 at H⊢;have d0:=Gw H.below c0;have d1:=Gw H.below c1;go_wp2_with fail;refine(GG.out _ (HQ.out.below H.below).qt).mono ?_;rintro e2 w2 ⟨rfl,hb⟩;have H2:=H.call hb;clear d0 d1 hb H;obtain⟨p8,hp8⟩:=ey w2.heap.size;have H3:=H2.new #[c,Aa Ac e'] 194 hp8;go_upto_region 2 with fail;generalize w2.alloc _=W3 at H3⊢;clear hp8 H2;obtain⟨⟨u0,u1⟩,_⟩:=Hm (H3.b 1);have f4:=Gw H3.below h4;have lg:=HM.out.below H3.below HM.out.lt;have qr:=PO.out;obtain⟨⟨r0,r1,r2⟩,z0,z1,z2⟩:=Hg (H3.b 0);have b0:=Gw H3.below m0;have b1:=Gw H3.below m1;have b2:=Gw H3.below m2;have b5:=Gw H3.below h5
 cases S with
 |false=>
  have HF:Hid (R=⟨mt,mx,my⟩):=Ah (by rw[<-HR.out];rfl);go_wp2_with (at_lookup;refine Vt (z:= .bool false) Ts Tryz.underlying340 (λw=>Gx) _ rfl _ _ _ rfl M (crM l) (c,e') rfl rfl lg ?_;simp only[Ek,if_false];rw[qr]);have H4:=((H3.set 0 0 rfl (Aa Ac mt)).set 0 1 rfl (Aa Ab mx)).set 0 2 rfl (Aa Ab my);exact Ai (Lv rfl rfl (H4.range 0 rfl) Fi rfl Gx) rfl ⟨by rw[HF.out];rfl,H4.below⟩
 |true=>
  have hex:∃r∈l,r.c=c/\r.e=e':=by
   have:=HS.out;unfold Nk at this;rw[Ew]at this;obtain⟨r,h1,h2⟩:=this;simp only[Em,Li]at h2;exact⟨r,h1,h2⟩
  obtain⟨r,uw,rfl,rfl⟩:=hex;have OI:=HP.out.name r uw;have mc:=HP.out.fit r uw;unfold Cr.fit at mc;obtain⟨rc,re,rk⟩:=r;dsimp only at OI mc hne HR PO lg u0 u1 H3 qr HS GG⊢;obtain⟨cn,rfl⟩:∃cn:Nat,rc=cn:=⟨rc.toNat,Gv⟩;obtain⟨en,rfl⟩:∃en:Nat,re=en:=⟨re.toNat,Gv⟩;have hLN:=λw h=>mQ a b cn en w HP.out.sheet Gv OI h;have DH:zK a b cn en=Xc (Hf a cn) en:=by unfold zK;rw[Hc OI];simp
  have di:=Bl5 (Hf a cn) en;obtain⟨⟨⟨lk,lc⟩,le⟩,hle⟩:∃z,Xc (Hf a cn) en=z:=⟨_,rfl⟩;rw[hle]at hLN DH di;unfold lnR at hLN;dsimp only at hLN di;have hOF:=λw=>Xu lk lc w di;have IQ:=Bm6 (lk,lc);have ff:Hid ((Lc (Ur (lk,lc)).1 ⟨mt,mx,my⟩).1=R):=Ah (by have:=HR.out;rw[Hc rfl,DH]at this;exact this);obtain⟨⟨⟨rt,rx,ry⟩,re2⟩,rp⟩:∃z,Ur (lk,lc)=z:=⟨_,rfl⟩;rw[rp]at hOF IQ ff;unfold mvR Mv.v at hOF;dsimp only at hOF IQ ff;have hTH:=λw h=>bM ⟨rt,rx,ry⟩ ⟨mt,mx,my⟩ w IQ vi h;obtain⟨⟨⟨qt,qx,qy⟩,qe⟩,YV⟩:∃z,Lc ⟨rt,rx,ry⟩ ⟨mt,mx,my⟩=z:=⟨_,rfl⟩;rw[YV]at hTH ff;unfold mvR Mv.v at hTH;dsimp only at hTH ff;have CM:=Ah hLN;have BD:=Ah hOF;have WP:=Ah λ(w':Aj) (h:Below w.heap.size w w')=>hTH w' (HT.out.below h);clear OI mc hLN DH di hle hOF IQ rp hTH YV HR uw hne HS GG HP;have d0:=Gw H3.below c0;have d1:=Gw H3.below c1;go_wp2_with (at_lookup;refine Vt (z:= .bool false) Ts Tryz.underlying340 (λw=>Gx) _ rfl _ _ _ rfl M (crM l) ((cn:Int),(en:Int)) rfl rfl lg ?_;simp only[Ek,if_false];rw[qr]);refine(CM.out _ (HQ.out.below H3.below)).mono ?_;rintro e2 w4 ⟨rfl,hb⟩;have H4:=H3.call hb;clear d0 d1 hb H3 r0 r1 r2 z0 z1 z2 b0 b1 b2 b5 f4 lg qr u0 u1;obtain⟨p10,hp10⟩:=ey w4.heap.size;have H5:=H4.new #[Aa Ac lk,lc] 48 hp10;go_upto_region 5 with fail;generalize w4.alloc _=W5 at H5⊢;clear hp10 H4;obtain⟨⟨u0,u1⟩,_⟩:=Hm (H5.b 2);go_wp2_with fail;refine(BD.out _).mono ?_;rintro e2 w6 ⟨rfl,hb⟩;have H6:=H5.call hb;clear hb H5 u0 u1;obtain⟨V7,vk⟩:=ey w6.heap.size;have H7:=H6.new #[Aa Ac rt,rx,ry] 30 vk;go_upto_region 6 with fail;generalize w6.alloc _=W at H7⊢;have H:=H7;clear vk H6 H7;have wz:=H.below
  go_cut [14] (λs14 wx=>∃KN,s14= .pointer (Af ⟨KN,0,Ae⟩)/\Bx w [(N7,#[Aa Ac 0,Aa Ab 0,Aa Ab 0],30),(p8,#[cn,Aa Ac en],194),(p10,#[Aa Ac lk,lc],48),(V7,#[Aa Ac rt,rx,ry],30),(KN,#[Aa Ac qt,qx,qy],30)] wx)
  case first=>
   obtain⟨⟨s0,s1,s2⟩,_⟩:=Hg (H.b 3);have b0:=Gw H.below m0;have b1:=Gw H.below m1;have b2:=Gw H.below m2;have b5:=Gw H.below h5;have ag:Hid (∀W',Below W.heap.size W W'->(λw':Aj=>w'.cell? ⟨V7,0,Ae⟩=Af (Aa Ac rt)/\w'.cell? ⟨V7,1,Ae⟩=Af (Aa Ab rx)/\w'.cell? ⟨V7,2,Ae⟩=Af (Aa Ab ry)/\w'.cell? ⟨N5,0,Ae⟩=Af (Ad (Af ⟨go,0,Ae⟩) n n)/\w'.cell? ⟨go,id*3,Ae⟩=Af (Aa Ac mt)/\w'.cell? ⟨go,id*3+1,Ae⟩=Af (Aa Ab mx)/\w'.cell? ⟨go,id*3+2,Ae⟩=Af (Aa Ab my)) W'):=Ah λW' h=>⟨Gw h s0,Gw h s1,Gw h s2,Gw h b5,Gw h b0,Gw h b1,Gw h b2⟩;clear s0 s1 s2 b0 b1 b2 b5 c0 c1 h4 h5 m0 m1 m2 HQ HT HM PO HN CM BD ff;refine Ao (S:=(λw':Aj=>w'.cell? ⟨V7,0,Ae⟩=Af (Aa Ac rt)/\w'.cell? ⟨V7,1,Ae⟩=Af (Aa Ab rx)/\w'.cell? ⟨V7,2,Ae⟩=Af (Aa Ab ry)/\w'.cell? ⟨N5,0,Ae⟩=Af (Ad (Af ⟨go,0,Ae⟩) n n)/\w'.cell? ⟨go,id*3,Ae⟩=Af (Aa Ac mt)/\w'.cell? ⟨go,id*3+1,Ae⟩=Af (Aa Ab mx)/\w'.cell? ⟨go,id*3+2,Ae⟩=Af (Aa Ab my))) Gx (ag.out _ (Ag _ _).drew) (λhS=>?_);have hb:Below W.heap.size W W.drew:=(Ag _ _).drew;have H:=H.drew;generalize W.drew=X0 at H hb⊢;have hS:=ag.out _ hb;refine wpAnyH_take (i:=0) (v:=?_) rfl Gx Gx Gx (λ_ _ _ h=>h) (Or.inl ⟨by rfl,?_⟩) hS ?_;rotate_left
   ·intro w0 hSw
    (try dsimp only at hSw)
    go_split_ands;go_simp
    try with_reducible rfl
   try simp only[Act.put,Cf,Cd,Ci,Cg,Ch]
   refine wpAnyH_take (i:=1) (v:=?_) rfl Gx Gx Gx (λ_ _ _ h=>h) (Or.inl ⟨by rfl,?_⟩) hS ?_;rotate_left
   ·intro w0 hSw
    (try dsimp only at hSw)
    go_split_ands;go_simp
    try with_reducible rfl
   try simp only[Act.put,Cf,Cd,Ce,Ci,Cg,Ch]
   refine wpAnyH_take (i:=2) (v:=?_) rfl Gx Gx Gx (λ_ _ _ h=>h) (Or.inl ⟨by rfl,?_⟩) hS ?_;rotate_left
   ·intro w0 hSw
    (try dsimp only at hSw)
    go_split_ands;go_simp
    try with_reducible rfl
   try simp only[Act.put,Cf,Cd,Ce,Ci,Cg,Ch]
   refine wpAnyH_take (i:=3) (v:=?_) rfl Gx Gx Gx (λ_ _ _ h=>h) (Or.inl ⟨by rfl,?_⟩) hS ?_;rotate_left
   ·intro w0 hSw
    (try dsimp only at hSw)
    go_split_ands;go_simp
    try with_reducible rfl
   try simp only[Act.put,Cf,Cd,Ce,Ci,Cg,Ch]
   refine wpAnyH_take (i:=4) (v:=?_) rfl Gx Gx Gx (λ_ _ _ h=>h) (Or.inl ⟨by rfl,?_⟩) hS ?_;rotate_left
   ·intro w0 hSw
    (try dsimp only at hSw)
    go_split_ands;go_simp
    try with_reducible rfl
   try simp only[Act.put,Cf,Cd,Ce,Ci,Cg,Ch]
   refine Ap (rs:=[5,9]) Gx Gy (Aq rfl (λK hK=>?_) (Aq rfl (λK hK=>?_) Ar))
   ·go_simp;refine(WP.out _ (Yk hb wz)).mono ?_;rintro e X1 ⟨rfl,ad⟩;have hb:=Up hb ad;have H:=H.call ad;refine hK.o (ag.out _ hb) (λhS=>?_);clear hK K ad;refine wpAnyH_take (i:=6) (v:=?_) rfl Gx Gx Gx (λ_ _ _ h=>h) (Or.inl ⟨by rfl,?_⟩) hS ?_;rotate_left
    ·intro w0 hSw
     (try dsimp only at hSw)
     go_split_ands;go_simp
     try with_reducible rfl
    try simp only[Act.put,Cf,Cd,Ce,Ci,Cg,Ch]
    refine wpAnyH_take (i:=7) (v:=?_) rfl Gx Gx Gx (λ_ _ _ h=>h) (Or.inl ⟨by rfl,?_⟩) hS ?_;rotate_left
    ·intro w0 hSw
     (try dsimp only at hSw)
     go_split_ands;go_simp
     try with_reducible rfl
    try simp only[Act.put,Cf,Cd,Ce,Ci,Cg,Ch]
    refine wpAnyH_take (i:=8) (v:=?_) rfl Gx Gx Gx (λ_ _ _ h=>h) (Or.inl ⟨by rfl,?_⟩) hS ?_;rotate_left
    ·intro w0 hSw
     (try dsimp only at hSw)
     go_split_ands;go_simp
     try with_reducible rfl
    try simp only[Act.put,Cf,Cd,Ce,Ci,Cg,Ch]
    refine Ap (rs:=[9]) Gx Gy (Aq rfl (λK hK=>?_) Ar);obtain⟨KN,hp⟩:=ey X1.heap.size;have hl:W.heap.size<=KN:=hp▸hb.size;have hb:=hb.alloc hb.size (.cells #[Aa Ac 0,Aa Ab 0,Aa Ab 0] 30);have H:=H.new #[Aa Ac 0,Aa Ab 0,Aa Ab 0] 30 hp;go_simp;refine hK.o (ag.out _ hb) (λhS=>?_);clear hK K hS;generalize X1.alloc _=X2 at H hb⊢;clear hp;have hS:=ag.out _ hb;refine Ap (rs:=[10]) Gx Gy (Aq rfl (λK hK=>?_) Ar);obtain⟨⟨y0,y1,y2⟩,z0,z1,z2⟩:=Hg (H.b 4);have hb:=((hb.setCell (p:=⟨KN,0,Ae⟩) hl (Aa Ac qt)).setCell (p:=⟨KN,1,Ae⟩) hl (Aa Ab qx)).setCell (p:=⟨KN,2,Ae⟩) hl (Aa Ab qy);have H:=((H.set 4 0 rfl (Aa Ac qt)).set 4 1 rfl (Aa Ab qx)).set 4 2 rfl (Aa Ab qy);go_simp;refine hK.o (ag.out _ hb) (λhS=>?_);clear hK K y0 y1 y2 z0 z1 z2;refine Ap (rs:=[11]) Gx Gy (Aq rfl (λK hK=>?_) Ar);go_simp;refine hK.o (ag.out _ hb) (λhS=>?_);clear hK K;refine An Gx ?_ _;go_wp2;go_meet;exact⟨_,rfl,H⟩
   ·obtain⟨KN,hp⟩:=ey X0.heap.size;have hl:W.heap.size<=KN:=hp▸hb.size;have hb:=hb.alloc hb.size (.cells #[Aa Ac 0,Aa Ab 0,Aa Ab 0] 30);have H:=H.new #[Aa Ac 0,Aa Ab 0,Aa Ab 0] 30 hp;go_simp;refine hK.o (ag.out _ hb) (λhS=>?_);clear hK K hS;generalize X0.alloc _=X1 at H hb⊢;clear hp;have hS:=ag.out _ hb;refine Ap (rs:=[5]) Gx Gy (Aq rfl (λK hK=>?_) Ar);go_simp;refine(WP.out _ (Yk hb wz)).mono ?_;rintro e X2 ⟨rfl,ad⟩;have hb:=Up hb ad;have H:=H.call ad;refine hK.o (ag.out _ hb) (λhS=>?_);clear hK K ad;refine wpAnyH_take (i:=6) (v:=?_) rfl Gx Gx Gx (λ_ _ _ h=>h) (Or.inl ⟨by rfl,?_⟩) hS ?_;rotate_left
    ·intro w0 hSw
     (try dsimp only at hSw)
     go_split_ands;go_simp
     try with_reducible rfl
    try simp only[Act.put,Cf,Cd,Ce,Ci,Cg,Ch]
    refine wpAnyH_take (i:=7) (v:=?_) rfl Gx Gx Gx (λ_ _ _ h=>h) (Or.inl ⟨by rfl,?_⟩) hS ?_;rotate_left
    ·intro w0 hSw
     (try dsimp only at hSw)
     go_split_ands;go_simp
     try with_reducible rfl
    try simp only[Act.put,Cf,Cd,Ce,Ci,Cg,Ch]
    refine wpAnyH_take (i:=8) (v:=?_) rfl Gx Gx Gx (λ_ _ _ h=>h) (Or.inl ⟨by rfl,?_⟩) hS ?_;rotate_left
    ·intro w0 hSw
     (try dsimp only at hSw)
     go_split_ands;go_simp
     try with_reducible rfl
    try simp only[Act.put,Cf,Cd,Ce,Ci,Cg,Ch]
    refine Ap (rs:=[10]) Gx Gy (Aq rfl (λK hK=>?_) Ar);obtain⟨⟨y0,y1,y2⟩,z0,z1,z2⟩:=Hg (H.b 4);have hb:=((hb.setCell (p:=⟨KN,0,Ae⟩) hl (Aa Ac qt)).setCell (p:=⟨KN,1,Ae⟩) hl (Aa Ab qx)).setCell (p:=⟨KN,2,Ae⟩) hl (Aa Ab qy);have H:=((H.set 4 0 rfl (Aa Ac qt)).set 4 1 rfl (Aa Ab qx)).set 4 2 rfl (Aa Ab qy);go_simp;refine hK.o (ag.out _ hb) (λhS=>?_);clear hK K y0 y1 y2 z0 z1 z2;refine Ap (rs:=[11]) Gx Gy (Aq rfl (λK hK=>?_) Ar);go_simp;refine hK.o (ag.out _ hb) (λhS=>?_);clear hK K;refine An Gx ?_ _;go_wp2;go_meet;exact⟨_,rfl,H⟩
  obtain⟨KN,rfl,H⟩:=hcut;obtain⟨⟨s0,s1,s2⟩,_⟩:=Hg (H.b 4);obtain⟨⟨r0,r1,r2⟩,z0,z1,z2⟩:=Hg (H.b 0);go_wp2_with fail;have H4:=((H.set 0 0 rfl (Aa Ac qt)).set 0 1 rfl (Aa Ab qx)).set 0 2 rfl (Aa Ab qy);exact Ai (Lv rfl rfl (H4.range 0 rfl) Fi rfl Gx) rfl ⟨by rw[<-ff.out];rfl,H4.below⟩
def yC (b off n:Nat):(⟨b,off,Ae⟩:Cj).add n=⟨b,off+n,Ae⟩:=by
 unfold Addr.add;split
 ·rename_i h;subst h;rfl
 ·rfl
def Bb7 (hi:P.info? t=Af i) (h:i.size=n) (w:Aj):(sizeOf t).run P w= .ok n w:=by
 simp[sizeOf,run_typeInfo w hi,h]
def Bb6 {sT xT ty elem e:Ck} {b off sLen sCap n size:Nat} (hu:P.underlying sT=Af (.slice elem)) (hd:P.underlying xT=Af (.slice e))
  (hi:P.info? elem=Af i) (hs:i.size=size) (hn:(Builtin.lenOf y).run P w= .ok n w) (hc:sLen+n<=sCap) (hf:(Ga size n y).run P w= .ok new w)
  (bo:(storeCells ⟨b,off+sLen*size,Ae⟩ new.toList).run P w= .ok () w'):
  (Builtin.append_ #[sT,xT] ty #[Ad (Af ⟨b,off,Ae⟩) sLen sCap,y]).run P w= .ok (Ad (Af ⟨b,off,Ae⟩) (sLen+n) sCap) w':=by
 simp[Builtin.append_,run_underlying hu,run_underlying hd,Bb7 hi hs,hn,hc,hf,yC,bo]
def yW (AI B:Nat) (hB:AI<=B):∀(r c:Nat),c<=2*B->Builtin.growBy AI r c<=2*B+B/4+1000
 |0,c,hc=>by simp only[Builtin.growBy];omega
 |r+1,c,hc=>by
  simp only[Builtin.growBy]
  split
  ·omega
  ·rename_i h;by_cases h2:c+(c+768)/4<=2*B
   ·exact yW AI B hB r _ h2
   ·have h3:AI<=c+(c+768)/4:=Gv
    cases r with
    |zero=>simp only[Builtin.growBy];omega
    |succ r=>simp only[Builtin.growBy];rw[Hc h3];omega
def Bn6 (h1:VP<=1000000) (h2:cap<VP):Builtin.nextslicecap VP cap<=3000000:=by
 unfold Builtin.nextslicecap
 split
 ·omega
 ·split
  ·omega
  ·have:=yW VP 1000000 h1 4 cap Gv;omega
def Ak9 {sT xT ty elem e:Ck} {base:Option Cj} {sLen sCap n size:Nat} (hu:P.underlying sT=Af (.slice elem)) (hd:P.underlying xT=Af (.slice e))
  (hi:P.info? elem=Af i) (hs:i.size=size) (hb:i.bytes*3000000<=281474976710656) (hn:(Builtin.lenOf y).run P w= .ok n w) (hc:sCap<sLen+n) (hl:sLen+n<=1000000)
  (ho:(Ga size sLen (Ad base sLen sCap)).run P w.drew= .ok old w.drew) (hf:(Ga size n y).run P w.drew= .ok new w.drew) (hz:(zeroValue elem).run P w.drew= .ok z w.drew):
  ∃FU,sLen+n<=FU/\(Builtin.append_ #[sT,xT] ty #[Ad base sLen sCap,y]).run P w=
   .ok (Ad (Af ⟨w.heap.size,0,Ae⟩) (sLen+n) FU) (w.drew.alloc (.cells (old++new++Gn z.cells (FU-(sLen+n))) elem)):=by
 have h2:¬(Builtin.nextslicecap (sLen+n) sCap*i.bytes>2^48):=by
  have:=Bn6 hl hc;have h3:Builtin.nextslicecap (sLen+n) sCap*i.bytes<=3000000*i.bytes:=Fu _ this;have:(2:Nat)^48=281474976710656:=He;omega
 have h4:¬(((sLen+n:Nat):Int)>IntKind.i64.max):=by
  have:IntKind.i64.max=9223372036854775807:=He;omega
 have h5:¬(sLen+n<=sCap):=Gv
 have hch:(choose (.appendCap (sLen+n) sCap elem)).run P w= .ok (sLen+n+w.tape w.drawn (.appendCap (sLen+n) sCap elem)%(2^63-(sLen+n))) w.drew:=by
  rfl
 refine⟨sLen+n+w.tape w.drawn (.appendCap (sLen+n) sCap elem)%(2^63-(sLen+n)),Gv,?_⟩;generalize hq:sLen+n+w.tape w.drawn (.appendCap (sLen+n) sCap elem)%(2^63-(sLen+n))=q at hch
 have BM:∀m,(askRoom m).run P w.drew= .ok () w.drew:=by
  intro m;unfold askRoom;split<;>rfl
 have jr:∀cs,(newRow elem cs).run P w.drew= .ok ⟨w.heap.size,0,Ae⟩ (w.drew.alloc (.cells cs elem)):=λcs=>rfl;simp only[Builtin.append_,List.getElem?_toArray,List.getElem?_cons_zero,Cx,Gr,run_underlying hu,run_underlying hd,Fp,Bb7 hi hs,Sem.run_pure,hn,Ha h5,h4,false_and,if_false,run_typeInfo w hi,Ha h2,hch,run_typeInfo w.drew hi,BM,ho,hf,hz,jr,Ek,Bool.not_false,if_true]
def Kl.setCell {K:κ->Ak} {l:List (κ×Ak)} (h:Kl K w M l) (p:Cj) (v:Ak):Kl K (w.setCell p v) M l:=by
 obtain⟨es,cl,h1,h2⟩:=h;refine⟨es,cl,?_,h2⟩;unfold World.setCell;simp only[Dg]
 split
 ·rename_i e;subst e;rw[h1];rfl
 ·exact h1
def Kl.drew {K:κ->Ak} {l:List (κ×Ak)} (h:Kl K w M l):Kl K w.drew M l:=h
def Bx.setOther (h:Bx w l wr) (hg:w.heap.size<=g) (hne:∀(i:Nat) (x:Nat×Array Ak×Ck),l[i]? =Af x->x.1≠g) (j:Nat) (v:Ak):Bx w l (wr.setCell ⟨g,j,Ae⟩ v):=
 ⟨h.below.setCell (p:=⟨g,j,Ae⟩) hg v,λi b cs t hi=>(Dq wr ⟨g,j,Ae⟩ v b (hne i _ hi)).trans (h.blk i b cs t hi),h.lo,h.inj⟩
def QAt (w:Aj) (base:Nat) (av:List Nat) (v:Ak) (l:List Nat):Prop:=
 ∃g o c cw,v= Ad (Af ⟨g,o,Ae⟩) l.length c/\base<=g/\(∀x∈av,x≠g)/\w.heap[g]? =Af (Obj.cells cw 3 (0,0))/\l.length<=c/\o+c<=cw.size/\∀i,(h:i<l.length)->cw[o+i]? =Af (Aa Ab (l[i]:Nat))
def QAt.below {l:List Nat} (h:QAt w base av v l) (hb:Below w.heap.size w w'):QAt w' base av v l:=by
 obtain⟨g,o,c,cw,h1,h2,h3,h4,h5⟩:=h;exact⟨g,o,c,cw,h1,h2,h3,kept hb h4 (Au.1 h4).1,h5⟩
def QAt.set {l:List Nat} (h:QAt w base av v l) {b:Nat} (hb:b∈av) (j:Nat) (u:Ak):QAt (w.setCell ⟨b,j,Ae⟩ u) base av v l:=by
 obtain⟨g,o,c,cw,h1,h2,h3,h4,h5⟩:=h;exact⟨g,o,c,cw,h1,h2,h3,(Dq w ⟨b,j,Ae⟩ u g (Ne.symm (h3 b hb))).trans h4,h5⟩
def QAt.head {l:List Nat} (h:QAt w base av v (x::l)):
  ∃g o c,v= Ad (Af ⟨g,o,Ae⟩) (l.length+1) c/\l.length+1<=c/\w.cell? ⟨g,o,Ae⟩=Af (Aa Ab (x:Nat))/\QAt w base av (Ad (Af ⟨g,o+1,Ae⟩) l.length (c-1)) l:=by
 obtain⟨g,o,c,cw,h1,h2,h3,h4,h5,h6,h7⟩:=h;simp only[Eo]at h1 h5 h7;refine⟨g,o,c,h1,h5,?_,g,o+1,c-1,cw,rfl,h2,h3,h4,Gv,Gv,λi hi=>?_⟩
 ·rw[Bz w g o cw _ (0,0) h4];have:=h7 0 Gv;simpa using this
 ·have:=h7 (i+1) Gv;rw[show o+1+i=o+(i+1)by omega,this];simp
def Cg8:∃i,Tryz.prog.info? 3=Af i/\i.size=1/\i.bytes=8:=by
 have h:(Tryz.prog.info? 3).map (λi=>(i.size,i.bytes))=Af (1,8):=Gx
 cases hi:Tryz.prog.info? 3 with
 |none=>rw[hi]at h;cases h
 |some i=>rw[hi]at h;injection h with h;injection h with h1 h2;exact⟨i,rfl,h1,h2⟩
def Bq7 (w:Aj):(zeroValue 3).run Dp w= .ok (Aa Ab 0) w:=Gx
def QAt.push {l:List Nat} (h:QAt w base av v l) (hl:l.length<900000) (lz:base<=w.heap.size) (hav:∀x∈av,x<w.heap.size) (x gy cy:Nat) (hy:w.cell? ⟨gy,0,Ae⟩=Af (Aa Ab (x:Nat))):
  ∃v' w',(Builtin.append_ #[38,38] 38 #[v,Ad (Af ⟨gy,0,Ae⟩) 1 cy]).run Dp w= .ok v' w'/\QAt w' base av v' (l++[x])/\
   ((∃g j,base<=g/\(∀x∈av,x≠g)/\w'=w.setCell ⟨g,j,Ae⟩ (Aa Ab (x:Nat)))∨∃o,w'=w.drew.alloc o):=by
 obtain⟨g,o,c,cw,rfl,h2,h3,h4,h5,h6,h7⟩:=h;obtain⟨i,hi,hs,hbt⟩:=Cg8;have hu:Tryz.prog.underlying 38=Af (.slice 3):=Tryz.underlying38;have hn:∀W:Aj,(Builtin.lenOf (Ad (Af ⟨gy,0,Ae⟩) 1 cy)).run Dp W= .ok 1 W:=λW=>rfl
 have YE:∀W:Aj,W.cell? ⟨gy,0,Ae⟩=Af (Aa Ab (x:Nat))->(Ga 1 1 (Ad (Af ⟨gy,0,Ae⟩) 1 cy)).run Dp W= .ok #[(x:Nat)] W:=λW hW=>by
  have:=run_loadCells_list (P:=Dp) (w:=W) ⟨gy,0,Ae⟩ [Aa Ab (x:Nat)] (λj u hu=>by
   cases j with
   |zero=>simp at hu;subst hu;exact hW
   |succ j=>simp at hu)
  simpa[Ga]using this
 by_cases hc:l.length+1<=c
 ·
  have bo:(storeCells ⟨g,o+l.length*1,Ae⟩ [Aa Ab (x:Nat)]).run Dp w= .ok () (w.setCell ⟨g,o+l.length,Ae⟩ (Aa Ab (x:Nat))):=by
   have bj:(w.cell? ⟨g,o+l.length,Ae⟩).isSome=true:=by rw[Bz w g _ cw _ (0,0) h4];simp;omega
   have UJ:w.frozen? ⟨g,o+l.length,Ae⟩=false:=by simp[Ea,h4]
   have:=run_storeCells_cells (P:=Dp) g (o+l.length) [Aa Ab (x:Nat)] 0 w (λj hj=>by
    have:j=0:=by simpa using hj
    subst this;exact bj) (λj hj=>by
    have:j=0:=by simpa using hj
    subst this;exact UJ) (λu hu=>by simp at hu;subst hu;rfl)
   rw[Dc];exact this
  have ah:=Bb6 (P:=Dp) (ty:=38) (sT:=38) (xT:=38) (b:=g) (off:=o) (sLen:=l.length) (sCap:=c) (n:=1) (size:=1) (y:= Ad (Af ⟨gy,0,Ae⟩) 1 cy) hu hu hi hs (hn w) hc (YE w hy) bo;refine⟨_,_,ah,⟨g,o,c,_,Gy,h2,h3,Ju _ h4,by simpa using hc,Hv,λj hj=>?_⟩,.inl ⟨g,_,h2,h3,rfl⟩⟩;simp only[Bh,Eo,Cs]at hj;by_cases e:j=l.length
  ·subst e;rw[Array.getElem?_setIfInBounds];simp;omega
  ·rw[Array.getElem?_setIfInBounds,Ha Gv,h7 j Gv,List.getElem_append_left Gv]
 ·
  have hold:(Ga 1 l.length (Ad (Af ⟨g,o,Ae⟩) l.length c)).run Dp w.drew= .ok (l.map λ(i:Nat)=>Value.int .i64 (i:Int)).toArray w.drew:=by
   have:=run_loadCells_list (P:=Dp) (w:=w.drew) ⟨g,o,Ae⟩ (l.map λ(i:Nat)=>Value.int .i64 (i:Int)) (λj u hu=>by
    have hj:j<l.length:=by
     by_cases hj:j<l.length
     ·exact hj
     ·rw[Ej Hv]at hu;cases hu
    have e:w.drew.cell? ⟨g,o+j,Ae⟩=w.cell? ⟨g,o+j,Ae⟩:=rfl;rw[yC,e,Bz w g _ cw _ (0,0) h4,h7 j hj];simp[hj]at hu;rw[<-hu])
   simpa[Ga]using this
  obtain⟨q,hq,ah⟩:=Ak9 (P:=Dp) (ty:=38) (sT:=38) (xT:=38) (base:=Af ⟨g,o,Ae⟩) (sLen:=l.length) (sCap:=c) (n:=1) (size:=1) (y:= Ad (Af ⟨gy,0,Ae⟩) 1 cy) (i:=i) hu hu hi hs (by rw[hbt];decide) (hn w) Gv Gv hold (YE w.drew hy) (Bq7 w.drew);refine⟨_,_,ah,⟨w.heap.size,0,q,_,Gy,lz,λy hy=>Nat.ne_of_lt (hav y hy),Ca w.drew _,by simpa using hq,?_,λj hj=>?_⟩,.inr ⟨_,rfl⟩⟩
  ·simp[Gn,Value.cells];omega
  ·simp only[Bh,Eo,Cs]at hj;rw[Bu];rw[Array.getElem?_append_left Hv];by_cases e:j=l.length
   ·subst e;simp
   ·rw[Array.getElem?_append_left Hv];simp[show j<l.length by omega]
def unk (kn:List Bool):Nat:=(kn.filter (λb=> !b)).length
def Ab6:∀(kn:List Bool) (n:Nat),n<kn.length->kn.getD n false=false->unk (kn.set n true)+1=unk kn
 |[],n,h,_=>by simp at h
 |b::kn,0,_,h=>by
  simp at h;subst h;simp[unk]
 |b::kn,n+1,h,h0=>by
  have ih:=Ab6 kn n (by simpa using h) (by simpa using h0);unfold unk at ih⊢
  cases b<;>simp<;>omega
def RS.mm (s:RS):Nat:=unk s.known+s.wait.length
structure Cb6 (k:Nat) (s:RS):Prop where
 out:s.out.length=k
 known:s.known.length=k
 wait:∀i∈s.wait,i<k
 t:∀m∈s.out,m.t<=255
def Ui (a b:Int) (l:List Cr) (id:Nat):Nat->RS->Option RS
 |0,s=>Af s
 |j+1,s=>(Ow a b l id (2-j) s).bind (Ui a b l id j)
def rE (a b:Int) (l:List Cr) (id:Nat) (s:RS):Qn a b l id s=Ui a b l id 3 s:=by
 show((Ow a b l id 0 s).bind λs=>(Ow a b l id 1 s).bind λs=>Ow a b l id 2 s)=(Ow a b l id 0 s).bind λs=>(Ow a b l id 1 s).bind λs=>(Ow a b l id 2 s).bind Af
 cases Ow a b l id 0 s with
 |none=>rfl
 |some s1=>
  simp only[Option.bind_some]
  cases Ow a b l id 1 s1 with
  |none=>rfl
  |some s2=>
   simp only[Option.bind_some]
   cases Ow a b l id 2 s2<;>rfl
def Ab3 (x y:Mv):(Lc x y).1.t<=255:=by
 unfold Lc
 split
 ·unfold Vq gY
  split
  ·rename_i h;have:=(Mv.ok_iff.1 h).1;exact Bt (Nat.le_of_lt this) He
  ·exact(by decide:0<=255)
 ·exact(by decide:0<=255)
def mZ (a b:Int) (l:List Cr) (out:List Mv) (id e:Nat) (h:∀m∈out,m.t<=255):(Kf a b l out id e).t<=255:=by
 unfold Kf
 split
 ·exact Ab3 _ _
 ·rw[List.getD_eq_getElem?_getD]
  cases ho:out[id]? with
  |none=>exact(by decide:0<=255)
  |some m=>exact h m (List.mem_of_getElem? ho)
def fR {a b i e:Int} (hs:okS a b=true) (h:(nbI a b i e).2=0):0<=(nbI a b i e).1/\(nbI a b i e).1<4*a*b:=by
 unfold nbI at h⊢
 split at h
 ·cases h
 ·rename_i h1;rw[Ha h1]
  split at h
  ·rename_i h2;rw[Hc h2];have hq:=vJ (i/4%a) (i/4/a) (i%4) e;unfold idI at h⊢
   split at h
   ·rename_i h3;rw[Hc h3];obtain⟨_,x1,x2,y1,y2⟩:=Yy.1 h3;obtain⟨z1,z2,z3⟩:=Br8 hs ⟨x1,x2⟩ ⟨y1,y2⟩;have e0:4*a*b=4*(a*b):=Cw _ _ _
    constructor
    ·dsimp only;omega
    ·dsimp only;omega
   ·cases h
  ·cases h
def Lh (hs:okS a b=true):((Hh a b:Nat):Int)=4*a*b/\1<=Hh a b/\Hh a b<=1024:=by
 obtain⟨m1,m2,m3,m4,m5,m6⟩:=Mg hs;have e0:4*a*b=4*(a*b):=Cw _ _ _;unfold Hh;omega
def If (l:List Bool):List Ak:=l.map Value.bool
def aI (l:List Bool) (n:Nat):(If l).toArray.setIfInBounds n (.bool true)=(If (l.set n true)).toArray:=by
 simp[If,List.map_set]
def zQ (l:List Mv) (n:Nat) (m:Mv):(((Nm l).toArray.setIfInBounds (n*3) (Aa Ac m.t)).setIfInBounds (n*3+1) (Aa Ab m.x)).setIfInBounds (n*3+2) (Aa Ab m.y)=(Nm (l.set n m)).toArray:=by
 have hlen:∀l:List Mv,(Nm l).length=l.length*3:=λl=>by unfold Nm;induction l with|nil=>rfl|cons x l ih=>simp[Bf,ih,Oa];omega
 have bi:∀(l:List Mv) (i f:Nat),i<l.length->f<3->(Nm l)[i*3+f]? =(match l[i]? with|some m=>m.cells[f]? |none=>Ae):=λl i f hi hf=>by
  rw[Aw hi];exact It Mv.cells 3 Oa _ i f hi hf
 apply Array.ext';simp only[Array.toList_setIfInBounds];apply List.ext_getElem?;intro j;by_cases hj:j<l.length*3
 ·obtain⟨i,f,hf,rfl⟩:∃i f,f<3/\j=i*3+f:=⟨j/3,j%3,Gv,Gv⟩;have hi:i<l.length:=Gv;rw[bi (l.set n m) i f (by simpa using hi) hf];simp only[List.getElem?_set,List.length_set,hlen];by_cases e:n=i
  ·subst e;rw[Hc rfl,Hc hi];have h3:f=0∨f=1∨f=2:=Gv;rcases h3 with rfl|rfl|rfl
   ·simp[Mv.cells];omega
   ·simp[Mv.cells];omega
   ·simp[Mv.cells];omega
  ·rw[Ha e,Ha Gv,Ha Gv,Ha Gv,bi l i f hi hf]
 ·rw[Ej (by simp[hlen];omega),Ej (by simp[hlen];omega)]
def lJ (w:Aj) (g:Nat):Nat:=match w.heap[g]? with
 |some (.cells c _ _)=>(c.toList.filter λv=>match v with| .bool false=>true|_=>false).length
 |_=>0
def By2:Ak->Nat
 | Ad _ n _=>n
 |_=>0
def Ad9 {l:List Bool} (h:w.heap[g]? =Af (.cells (If l).toArray t (0,0))):lJ w g=unk l:=by
 unfold lJ;rw[h];clear h;unfold unk If
 induction l with
 |nil=>rfl
 |cons b l ih=>
  cases b<;>simp at ih⊢ <;>exact ih
def Ve (l:List Mv):(Nm l).length=l.length*3:=by
 unfold Nm;induction l with|nil=>rfl|cons x l ih=>simp[Bf,ih,Oa];omega
def Bm0 (k:Nat):madeCells #[Aa Ac 0,Aa Ab 0,Aa Ab 0] (k*3)=(Nm (Ba k mv0)).toArray:=by
 apply Array.ext';apply List.ext_getElem?;intro j;by_cases hj:j<k*3
 ·obtain⟨i,f,hf,rfl⟩:∃i f,f<3/\j=i*3+f:=⟨j/3,j%3,Gv,Gv⟩;have hi:i<k:=Gv;have h1:(Nm (Ba k mv0))[i*3+f]? =(((Ba k mv0)[i]'(by simpa using hi)).cells)[f]? :=It Mv.cells 3 Oa _ i f (by simpa using hi) hf;rw[h1];have h3:f=0∨f=1∨f=2:=Gv;have hm:(i*3+f)%3=f:=Gv;simp[madeCells,hj,hm];rcases h3 with rfl|rfl|rfl
  ·rfl
  ·rfl
  ·rfl
 ·rw[Ej (by simp[madeCells];omega),Ej (by simp[Ve];omega)]
def Aw8 (k:Nat) (hk:k<=1024) (W:Aj):(Instr.makeSlice 133 (Aa Ab k) (Aa Ab k)).run Dp W= .ok (Ad (Af ⟨W.heap.size,0,Ae⟩) k k) (W.alloc (.cells (Nm (Ba k mv0)).toArray 30)):=by
 have BU:(Tryz.prog.info? 30).map (λi=>(i.zero,i.size,i.bytes))=Af (Af (.agg #[Aa Ac 0,Aa Ab 0,Aa Ab 0]),3,24):=Gx;obtain⟨i,hi,hz,hs,hb⟩:=info_parts BU;have h:=run_make (P:=Dp) W 133 30 i _ Tryz.underlying133 hi hz .i64 .i64 k k Gv Gv (by rw[hb];omega) Gv;rw[h];simp only[Ev,hs];have e:(Value.agg #[Aa Ac 0,Aa Ab 0,Aa Ab 0]).cells= #[Aa Ac 0,Aa Ab 0,Aa Ab 0]:=by rfl
 rw[e,Bm0]
def Xt (k:Nat) (hk:k<=1024) (W:Aj):(Instr.makeSlice 82 (Aa Ab k) (Aa Ab k)).run Dp W= .ok (Ad (Af ⟨W.heap.size,0,Ae⟩) k k) (W.alloc (.cells (If (Ba k false)).toArray 4)):=by
 have BU:(Tryz.prog.info? 4).map (λi=>(i.zero,i.size,i.bytes))=Af (Af (.bool false),1,1):=Gx;obtain⟨i,hi,hz,hs,hb⟩:=info_parts BU;have h:=run_make (P:=Dp) W 82 4 i _ Tryz.underlying82 hi hz .i64 .i64 k k Gv Gv (by rw[hb];omega) Gv;rw[h];simp only[Ev,hs,Dc]
 have e:madeCells (Value.bool false).cells k=(If (Ba k false)).toArray:=by
  apply Array.ext';exact(toList_madeCells_one (.bool false) k).trans (by simp[If])
 rw[e]
def Bu0 (r:Option (List Mv)) (w:Aj) (e:Ending) (w':Aj):Prop:=Below w.heap.size w w'/\match r with
 |some ms=>∃g,e= .returned (.tuple #[Ad (Af ⟨g,0,Ae⟩) ms.length ms.length,Aa Ab 0])/\w.heap.size<=g/\w'.heap[g]? =Af (Obj.cells (Nm ms).toArray 30 (0,0))
 |none=>e= .returned (.tuple #[Ad Ae 0 0,Aa Ab 11])
def Bb0 (h:w.heap[g]? =Af (.cells cs t (0,0))) (j:Nat):w.frozen? ⟨g,j,Ae⟩=false:=by simp[Ea,h]
def Lx {a:Ak} (h:w.heap[g]? =Af (.cells #[a] t (0,0))):w.cell? ⟨g,0,Ae⟩=Af a/\w.frozen? ⟨g,0,Ae⟩=false:=by
 simp[World.cell?,Ea,h]
def Am4 (m:Nat) (l:List Stk) (k:Nat) (h:k<l.length) (pv:Cl) (hp:∀(h0:0<k),(l[k-1]'(by omega)).c=pv):
  Kn m l k=(!l[k].c.ok||(decide (0<k)&&decide (0<=Ka pv l[k].c))||l[k].ls.isEmpty||l[k].ls.any λid=>decide (m<=id)):=by
 unfold Kn;rw[Aw h]
 cases k with
 |zero=>simp
 |succ k=>
  have h1:l[k].c=pv:=hp Gv;have e:l[k]? =Af l[k]:=Aw Gv;simp[e,h1]
def nA (l:List Stk) (k:Nat) (h:k<l.length):Hn (l.take (k+1))=Hn (l.take k)++l[k].ls:=by
 unfold Hn;rw[Bc h,Bi];simp
def dQ:∀{l:List Stk},(∀x∈l,x.ls.length<=B)->(Hn l).length<=l.length*B
 |[],_=>by simp[Hn]
 |x::l,h=>by
  have h1:=h x Gy;have h2:=dQ (l:=l) λy hy=>h y (by simp[hy]);unfold Hn at h2⊢;simp only[Bf,Bh,Eo,Nat.succ_mul];omega
def idsTo (l:List Stk) (k j:Nat):List Nat:=Hn (l.take k)++(match l[k]? with|some x=>x.ls.take j|none=>[])
def Xq (l:List Stk):idsTo l 0 0=[]:=by
 unfold idsTo Hn
 cases l[0]? <;>simp
def uI (l:List Stk) (k:Nat) (h:k<l.length):idsTo l k l[k].ls.length=idsTo l (k+1) 0:=by
 unfold idsTo;rw[Aw h,nA l k h]
 cases l[k+1]? <;>simp
def uJ (l:List Stk) (k j:Nat) (h:k<l.length) (hj:j<l[k].ls.length):idsTo l k (j+1)=idsTo l k j++[l[k].ls[j]]:=by
 unfold idsTo;rw[Aw h];simp only;rw[Bc hj,Bj]
def Af2 (l:List Stk):idsTo l l.length 0=Hn l:=by
 unfold idsTo;simp
def pC (l:List Stk) (k j:Nat) (h:k<l.length) (hj:j<l[k].ls.length):∃r,Hn l=idsTo l k j++l[k].ls[j]::r:=by
 have h1:l=l.take k++l[k]::l.drop (k+1):=Gy;have h2:l[k].ls=l[k].ls.take j++l[k].ls[j]::l[k].ls.drop (j+1):=Gy;refine⟨l[k].ls.drop (j+1)++Hn (l.drop (k+1)),?_⟩;unfold idsTo;rw[Aw h];simp only
 have h3:Hn l=Hn (l.take k)++(l[k].ls++Hn (l.drop (k+1))):=by
  have h4:=congrArg Hn h1;unfold Hn at h4⊢;rw[Bi,Bf]at h4;exact h4
 have h5:=congrArg (· ++Hn (l.drop (k+1))) h2;rw[h3,h5];simp only[Bj,List.cons_append]
def Rr (m:Nat) (p:List Nat):List Bool:=(List.range m).map λi=>decide (i∈p)
def wX (m:Nat):Rr m []=Ba m false:=by
 unfold Rr;apply Gk
 ·simp
 ·intro i h1 h2;simp
def wY (m:Nat) (p:List Nat) (i:Nat):(Rr m p).set i true=Rr m (p++[i]):=by
 unfold Rr;apply Gk
 ·simp
 ·intro j h1 h2;simp only[List.getElem_set,Ge,List.getElem_range,List.mem_append,Gf];by_cases e:i=j
  ·subst e;simp
  ·have:¬j=i:=λh=>e h.symm;simp[e,this]
def Ar4 {l:List Stk} {i:Nat} (hi:i<l.length) (h:Kn n l i=true):chkS n l=1:=by
 unfold chkS;rw[Hc (Ew.2 ⟨i,by simpa using hi,h⟩)]
def Ar3 {l:List Stk} (h:∀i,i<l.length->Kn n l i=false):chkS n l=if¬(Hn l).Nodup then 8 else if(Hn l).length<n then 6 else 0:=by
 unfold chkS;rw[Ha];intro h2;obtain⟨i,h3,h4⟩:=Ew.1 h2;rw[h i (by simpa using h3)]at h4
 cases h4
def kB {l:List Stk} (hk:k<l.length) (h:Kn n l k=false):l[k].c.ok=true/\∀id∈l[k].ls,id<n:=by
 unfold Kn at h;rw[Aw hk]at h;simp only[Bool.or_eq_false_iff,Bool.not_eq_false',Du,Li]at h;exact⟨h.1.1.1,λid hid=>Nat.lt_of_not_le (h.2 id hid)⟩
def gL (A:Option Cj) (l:List Stk) (n cc:Nat) (a b:Int) (w:Aj) (hn:n=l.length) (h:Ib w A l) (hl:n<=100000) (jd:∀x∈l,x.ls.length<=100000) (xy:∀x∈l,x.c.q<=255) (hs:okS a b=true):
  Al Dp 244 #[Ad A n cc,.agg #[a,b]] w (Gz (Aa Ab (chkS (Hh a b) l)) w):=by
 have gw:=λw'=>Vz a b w' hs;have ni:=λw'=>Js a b w';have NP:ec (okS a b) 1=0:=by rw[hs];rfl
 rw[NP]at ni;obtain⟨_,m1,m2⟩:=Lh hs;generalize Hh a b=m at gw m1 m2⊢;obtain⟨R,hR⟩:=ey (chkS m l);rw[hR];have HR:=Ah hR;have HS:=Ah h;have HN:=Ah hn;have xb:=Ah jd;have HQS:=Ah xy;have pd:=Ah ni;have HCO:=Ah gw;have H:=(Bx.start w).new #[a,b] 25 rfl;clear hR h hn jd xy ni gw NP hs;go_in;go_upto_region 1 with fail;generalize w.alloc _=W at H⊢;obtain⟨N,ct⟩:=Tw w.heap.size;rw[<-ct.out]at H⊢;obtain⟨⟨a0,a1⟩,_⟩:=Hm (H.b 0);go_wp2_with fail;refine(pd.out _).mono ?_;rintro e w2 ⟨rfl,hb⟩;have H2:=H.call hb;clear a0 a1 hb H;obtain⟨⟨a0,a1⟩,_⟩:=Hm (H2.b 0);go_wp2_with fail;refine(HCO.out _).mono ?_;rintro e w3 ⟨rfl,hb⟩;have H3:=H2.call hb;clear a0 a1 hb H2;go_upto_region 5 with fail;obtain⟨P,hP⟩:=ey w3.heap.size;have H4:=H3.new #[m] 3 hP;generalize w3.alloc _=W4 at H4⊢;rw[hP];have EE:=Ah H4;clear hP H3 H4;go_wp2
 go_loopw [25] (λi wr=>∃k:Nat,k<=n/\i= Aa Ab k/\Bx w [(N,#[a,b],25),(P,#[m],3)] wr/\Hid (∀j,j<k->Kn m l j=false)) (λi _=>n-(intOf i).toNat)
 case atStart=>exact⟨0,Gm _,rfl,EE.out,Ah λj hj=>absurd hj Gv⟩
 obtain⟨k,hk,rfl,Hr,HK⟩:=hrel;by_cases ac:k<n
 ·have be:k<l.length:=oHx HN.out;obtain⟨bb,o,A',c',hA,cj,⟨d0,d1,d2,d3⟩,du,hle,jb,ba⟩:=(HS.out.below Hr.below).get k be
  have hpv:∃pv:Cl,(∀(h0:0<k),(l[k-1]'(by omega)).c=pv)/\pv.q<=255/\(0<k->wr.cell? ⟨bb,o+(k-1)*4,Ae⟩=Af (Aa Ab pv.x)/\wr.cell? ⟨bb,o+(k-1)*4+1,Ae⟩=Af (Aa Ab pv.y)/\wr.cell? ⟨bb,o+(k-1)*4+2,Ae⟩=Af (Aa Ac pv.q)):=by
   by_cases h0:0<k
   ·obtain⟨bb2,o2,_,_,sq,_,⟨p0,p1,p2,_⟩,_⟩:=(HS.out.below Hr.below).get (k-1) Gv;rw[hA]at sq;injection sq with sq;injection sq with e1 e2;subst e1;subst e2;exact⟨_,λ_=>rfl,HQS.out _ (Ay _),λ_=>⟨p0,p1,p2⟩⟩
   ·exact⟨cl0,λh=>absurd h h0,He,λh=>absurd h h0⟩
  obtain⟨pv,hpv1,hpv2,hpv3⟩:=hpv;have jx:=Am4 m l k be pv hpv1;have q1:(k:Int)<(n:Int):=Gv;have dq:=xb.out l[k] (Ay _);have hqk:=HQS.out l[k] (Ay _);obtain⟨⟨⟨x,y,q⟩,ids⟩,hr⟩:∃z,l[k]=z:=⟨_,rfl⟩;rw[hr]at d0 d1 d2 d3 du hle ba dq hqk jx;dsimp only at d0 d1 d2 d3 du hle ba dq hqk jx;have DP:Hid (Kn m l k=(!okC x y q||(decide (0<k)&&decide (0<=Ka pv ⟨x,y,q⟩))||ids.isEmpty||ids.any λid=>decide (m<=id))):=Ah jx;obtain⟨u,hu⟩:=ey ids.length;rw[hu]at d3 du hle ba dq;have HU:=Ah hu;have HOUT:=Ah λ(w':Aj) (hb:Below wr.heap.size wr w') (hp:w'.cell? ⟨P,0,Ae⟩=Af (Aa Ab (m:Int)))=>Bo3 A' ids u c' m P w' hu.symm (ba.below hb) Gv hp;have HPV:=Ah hpv3;have HPQ:=Ah hpv2;have HQK:=Ah hqk;have ff:=Ah Hr;have HWB:=Ah (Ag wr.heap.size wr);subst hA;clear jx hpv1 hpv3 hpv2 hr du ba hqk Hr hu;go_upto_region 8 with fail;obtain⟨C,hC⟩:=ey wr.heap.size;have H5:=ff.out.new #[x,y,Aa Ac q,Ad A' u c'] 92 hC;have db:=HWB.out.alloc (Am _) (.cells #[x,y,Aa Ac q,Ad A' u c'] 92);generalize wr.alloc _=W5 at H5 db⊢;rw[hC];clear hC d0 d1 d2 d3 ff;obtain⟨⟨c0,c1,c2,c3⟩,_⟩:=Jh (H5.b 2);have p0:=Lx (H5.b 1);go_wp2_with fail;refine(HOUT.out _ db p0.1).mono ?_;rintro e w6 ⟨rfl,bc⟩;have H6:=H5.call bc;have dc:=Up db bc;clear c0 c1 c2 c3 p0 bc H5 db HOUT;obtain⟨fb,UG⟩:=ey ((ids.any λid=>decide (m<=id)));have oz:=DP.out;rw[UG]at oz⊢;have wg:=Ah oz;clear DP UG oz;obtain⟨S,an⟩:∃S:Aj->Prop,S=λw'=>(w'.cell? ⟨C,0,Ae⟩=Af (Aa Ab x)/\w'.cell? ⟨C,1,Ae⟩=Af (Aa Ab y)/\w'.cell? ⟨C,2,Ae⟩=Af (Aa Ac q)/\w'.cell? ⟨C,3,Ae⟩=Af (Ad A' u c'))/\(0<k->w'.cell? ⟨bb,o+(k-1)*4,Ae⟩=Af (Aa Ab pv.x)/\w'.cell? ⟨bb,o+(k-1)*4+1,Ae⟩=Af (Aa Ab pv.y)/\w'.cell? ⟨bb,o+(k-1)*4+2,Ae⟩=Af (Aa Ac pv.q)):=⟨_,rfl⟩
  have ag:Hid (∀W',Below w6.heap.size w6 W'->S W'):=Ah λW' h=>by
   subst an;obtain⟨⟨c0,c1,c2,c3⟩,_⟩:=Jh ((H6.call h).b 2);have hb:=Up dc h;exact⟨⟨c0,c1,c2,c3⟩,λh0=>let⟨r0,r1,r2⟩:=HPV.out h0;⟨Gw hb r0,Gw hb r1,Gw hb r2⟩⟩
  have HSO:Hid (∀W',S W'->W'.cell? ⟨C,0,Ae⟩=Af (Aa Ab x)/\W'.cell? ⟨C,1,Ae⟩=Af (Aa Ab y)/\W'.cell? ⟨C,2,Ae⟩=Af (Aa Ac q)/\W'.cell? ⟨C,3,Ae⟩=Af (Ad A' u c')):=Ah λW' h=>by subst an;exact h.1
  have wi:Hid (∀W',S W'->0<k->W'.cell? ⟨bb,o+(k-1)*4,Ae⟩=Af (Aa Ab pv.x)/\W'.cell? ⟨bb,o+(k-1)*4+1,Ae⟩=Af (Aa Ab pv.y)/\W'.cell? ⟨bb,o+(k-1)*4+2,Ae⟩=Af (Aa Ac pv.q)):=Ah λW' h=>by subst an;exact h.2
  have pa:=Ah λ(w':Aj)=>Jg x y q w';clear an HPV dc;have qj:=Ah H6;clear H6;go_upto_region 9 with fail;go_cut [62] (λsb wx=>∃v:Bool,sb= .bool v/\v=Kn m l k/\Bx w [(N,#[a,b],25),(P,#[m],3)] wx)
  case first=>
   refine Ao (S:=S) Gx (ag.out _ (Ag _ _).drew) (λhS=>?_);have hb:Below w6.heap.size w6 w6.drew:=(Ag _ _).drew;have H:=qj.out.drew;generalize w6.drew=X0 at H hb hS⊢;clear qj;refine Ql 0 1 ?_;refine rdy 2 (λK hK=>?_);go_simp;refine(pa.out _).mono ?_;rintro e X1 ⟨rfl,ad⟩;have hb:=Up hb ad;have H:=H.call ad;have hS:=ag.out _ hb;refine hK.o hS (λhS=>?_);clear hK K ad
   cases hx:okC x y q
   ·have CG:Hid (true=Kn m l k):=Ah (by rw[wg.out,hx];rfl);rw[Qm];clear hx wg pa;refine Hk 3 4 5 6 ?_;refine Hk 7 8 9 10 ?_;refine Hk 11 12 13 14 ?_;refine Hk 15 16 17 18 ?_;refine Hk 19 20 21 22 ?_;refine Hk 23 24 25 26 ?_;refine Ql 27 28 ?_;refine An Gx ?_ _;go_wp2;go_meet;exact⟨true,rfl,CG.out,H.upto 2⟩
   ·rw[Lq];by_cases di:k=0
    ·subst di;refine Hk 3 4 5 6 ?_;refine Hk 7 8 9 10 ?_;refine Hk 11 12 13 14 ?_;refine Hk 15 16 17 18 ?_;refine Ql 19 20 ?_;by_cases hu:u=0
     ·have CG:Hid (true=Kn m l 0):=Ah (by rw[wg.out,hx,List.eq_nil_of_length_eq_zero (HU.out.trans hu)];simp);have YX:(u:Int)=0:=Gv;clear hx wg pa;refine Hk 21 22 23 24 ?_;refine Hk 25 26 27 28 ?_;refine An Gx ?_ _;go_wp2;go_meet;exact⟨true,rfl,CG.out,H.upto 2⟩
     ·have CG:Hid (fb=Kn m l 0):=Ah (by
       have h0:ids≠[]:=λe=>hu (by rw[<-HU.out,e];rfl);rw[wg.out,hx];simp[h0])
      have YX:((u:Int)==0)=false:=by simpa using hu
      clear hx wg pa;refine Hk 21 22 23 24 ?_;refine Hk 25 26 27 28 ?_;refine An Gx ?_ _;go_wp2;go_meet;exact⟨fb,rfl,CG.out,H.upto 2⟩
    ·obtain⟨k',rfl⟩:∃k',k=k'+1:=⟨k-1,Gv⟩;have HSO:Hid (∀W',S W'->(W'.cell? ⟨C,0,Ae⟩=Af (Aa Ab x)/\W'.cell? ⟨C,1,Ae⟩=Af (Aa Ab y)/\W'.cell? ⟨C,2,Ae⟩=Af (Aa Ac q)/\W'.cell? ⟨C,3,Ae⟩=Af (Ad A' u c'))/\W'.cell? ⟨bb,o+k'*4,Ae⟩=Af (Aa Ab pv.x)/\W'.cell? ⟨bb,o+k'*4+1,Ae⟩=Af (Aa Ab pv.y)/\W'.cell? ⟨bb,o+k'*4+2,Ae⟩=Af (Aa Ac pv.q)):=Ah λW' h=>⟨HSO.out W' h,by have:=wi.out W' h Gv;rw[Nat.add_sub_cancel]at this;exact this⟩;clear wi;obtain⟨px,py,pq⟩:=pv;dsimp only at HSO;have t1:((k'+1:Nat):Int)-1=(k':Int):=Gv;have t2:(0:Int)<((k'+1:Nat):Int):=Gv;have t3:Ab.wrap (k':Int)=k':=Cb _ Gv;have t4:(k':Int)<(n:Int):=Gv;have HCM:=Ah λ(w':Aj)=>bW ⟨px,py,pq⟩ ⟨x,y,q⟩ w' HPQ.out HQK.out;obtain⟨cv,hcv⟩:=ey (Ka ⟨px,py,pq⟩ ⟨x,y,q⟩);have sh:=wg.out;rw[hcv]at HCM sh;have wg:=Ah sh;clear hcv sh di;refine Hk 3 4 5 6 ?_;refine Hk 7 8 9 10 ?_;refine Hk 11 12 13 14 ?_;refine Ke 15 ?_;refine rdy 16 (λK hK=>?_);go_simp;refine(HCM.out _).mono ?_;rintro e X2 ⟨rfl,ad⟩;have hb:=Up hb ad;have H:=H.call ad;have hS:=ag.out _ hb;refine hK.o hS (λhS=>?_);clear hK K ad;by_cases hg:0<=cv
     ·have CG:Hid (true=Kn m l (k'+1)):=Ah (by rw[wg.out,hx,Ld hg];simp);clear hx wg pa;refine Hk 17 18 19 20 ?_;refine Hk 21 22 23 24 ?_;refine Hk 25 26 27 28 ?_;refine An Gx ?_ _;go_wp2;go_meet;exact⟨true,rfl,CG.out,H.upto 2⟩
     ·refine Hk 17 18 19 20 ?_;by_cases hu:u=0
      ·have CG:Hid (true=Kn m l (k'+1)):=Ah (by rw[wg.out,hx,Me hg,List.eq_nil_of_length_eq_zero (HU.out.trans hu)];simp);have YX:(u:Int)=0:=Gv;clear hx wg pa;refine Hk 21 22 23 24 ?_;refine Hk 25 26 27 28 ?_;refine An Gx ?_ _;go_wp2;go_meet;exact⟨true,rfl,CG.out,H.upto 2⟩
      ·have CG:Hid (fb=Kn m l (k'+1)):=Ah (by
        have h0:ids≠[]:=λe=>hu (by rw[<-HU.out,e];rfl);rw[wg.out,hx,Me hg];simp[h0])
       have YX:((u:Int)==0)=false:=by simpa using hu
       clear hx wg pa;refine Hk 21 22 23 24 ?_;refine Hk 25 26 27 28 ?_;refine An Gx ?_ _;go_wp2;go_meet;exact⟨fb,rfl,CG.out,H.upto 2⟩
  case rest=>
  obtain⟨v,rfl,hv,Hr⟩:=hcut
  cases v
  ·have js:=Ah (λj (hj:j<k+1)=>show Kn m l j=false by
    by_cases e:j=k
    ·subst e;exact hv.symm
    ·exact HK.out j Gv)
   have jn:=Ah Hr;clear Hr hv;go_wp2;exact⟨⟨k+1,Gv,by go_num,jn.out,js⟩,by simp[intOf];omega⟩
  ·have HF:Hid (R=1):=Ah (by rw[<-HR.out];exact Ar4 be hv.symm);have jn:=Ah Hr;clear Hr hv;go_wp2;go_ret;exact⟨by rw[HF.out];rfl,jn.out.below⟩
 ·have q1:¬(k:Int)<(n:Int):=Gv;have GH:Hid (R=if¬(Hn l).Nodup then 8 else if(Hn l).length<m then 6 else 0):=Ah (by rw[<-HR.out];exact Ar3 λi hi=>HK.out i (oHx HN.out));have oz:=Ah (λ(j:Nat) (hj:j<l.length)=>(kB hj (HK.out j (oHx HN.out))).2);have CM:Hid ((Hn l).length<=n*100000):=Ah (by rw[HN.out];exact dQ xb.out);have mk2:=λW=>Xt m Gv W;obtain⟨p0,_⟩:=Lx (Hr.b 1);have ff:=Ah Hr;clear Hr HK;go_upto_region 13 with fail;obtain⟨gs,xp⟩:=ey wr.heap.size;have H9:=ff.out.new (If (Ba m false)).toArray 4 xp;generalize wr.alloc _=W9 at H9⊢;rw[xp];rw[<-wX m,<-Xq l]at H9;have GD:Hid (Bx w [(N,#[a,b],25),(P,#[m],3),(gs,(If (Rr m (idsTo l 0 0))).toArray,4)] W9):=Ah H9;clear p0 xp H9 ff mk2;go_wp2
  go_loopw [68,11] (λi c wr=>∃k:Nat,k<=n/\i= Aa Ab k/\c= Aa Ab ((idsTo l k 0).length:Nat)/\Hid (Bx w [(N,#[a,b],25),(P,#[m],3),(gs,(If (Rr m (idsTo l k 0))).toArray,4)] wr)/\Hid (idsTo l k 0).Nodup) (λi _ _=>n-(intOf i).toNat)
  case atStart=>exact⟨0,Gm _,rfl,by rw[Xq];rfl,GD,Ah (by rw[Xq];exact List.nodup_nil)⟩
  obtain⟨k,hk,rfl,rfl,HH,KY⟩:=hrel;clear GD;by_cases ac:k<n
  ·have be:k<l.length:=oHx HN.out;obtain⟨bb,o,A',c',hA,cj,⟨d0',d1',d2',d3'⟩,du,hle,jb,ba⟩:=HS.out.get k be;have d0:=Gw HH.out.below d0';have d1:=Gw HH.out.below d1';have d2:=Gw HH.out.below d2';have d3:=Gw HH.out.below d3';clear d0' d1' d2' d3';have q1:(k:Int)<(n:Int):=Gv;have dq:=xb.out l[k] (Ay _);have SF:=Ah (oz.out k be);have wi:=Ah (λj (hj:j<l[k].ls.length)=>pC l k j be hj);have x8:=Ah (λj (hj:j<l[k].ls.length)=>uJ l k j be hj);have qm:=Ah (uI l k be);obtain⟨⟨⟨x,y,q⟩,ids⟩,hr⟩:∃z,l[k]=z:=⟨_,rfl⟩;rw[hr]at d0 d1 d2 d3 du hle ba dq;have SF:Hid (∀id∈ids,id<m):=Ah (by have:=SF.out;rw[hr]at this;exact this);have wi:Hid (∀j (hj:j<ids.length),∃r,Hn l=idsTo l k j++ids[j]::r):=Ah (by have:=wi.out;simp only[hr]at this;exact this);have x8:Hid (∀j (hj:j<ids.length),idsTo l k (j+1)=idsTo l k j++[ids[j]]):=Ah (by have:=x8.out;simp only[hr]at this;exact this);have qm:Hid (idsTo l k ids.length=idsTo l (k+1) 0):=Ah (by have:=qm.out;simp only[hr]at this;exact this);dsimp only at d0 d1 d2 d3 du hle ba dq;obtain⟨u,hu⟩:=ey ids.length;rw[hu]at d3 hle ba dq;have HU:=Ah hu;have dt:=Zz w (λw' hb=>ba.below hb);subst hA;clear hr du ba hu jb hle;go_upto_region 17 with fail;obtain⟨C,hC⟩:=ey wr.heap.size;have H5:=HH.out.new #[x,y,Aa Ac q,Ad A' u c'] 92 hC;rw[hC];generalize wr.alloc _=W5 at H5⊢;obtain⟨⟨c0,c1,c2,c3⟩,_⟩:=Jh (H5.b 3);have KW:Hid (Bx w [(N,#[a,b],25),(P,#[m],3),(gs,(If (Rr m (idsTo l k 0))).toArray,4),(C,#[x,y,Aa Ac q,Ad A' u c'],92)] W5):=Ah H5;clear d0 d1 d2 d3 hC H5 HH;go_wp2
   go_loopw [75,11] (λi c wr=>∃j:Nat,j<=u/\i= Aa Ab j/\c= Aa Ab ((idsTo l k j).length:Nat)/\Hid (Bx w [(N,#[a,b],25),(P,#[m],3),(gs,(If (Rr m (idsTo l k j))).toArray,4),(C,#[x,y,Aa Ac q,Ad A' u c'],92)] wr)/\Hid (idsTo l k j).Nodup) (λi _ _=>u-(intOf i).toNat)
   case atStart=>exact⟨0,Gm _,rfl,rfl,KW,KY⟩
   obtain⟨j,hj,rfl,rfl,HH,KY⟩:=hrel;clear KW;by_cases zu:j<u
   ·have q2:(j:Int)<(u:Int):=Gv;have DF:j<ids.length:=oHx HU.out;obtain⟨b2,o2,rfl,hb2l,e0⟩:=Rp (dt.out _ HH.out.below) j DF;have hidm:=SF.out _ (Ay DF);have OZ:=wi.out j DF;have Z_:=x8.out j DF;obtain⟨id,hid⟩:=ey (ids[j]);rw[hid]at e0 hidm OZ Z_
    have e1:wr.cell? ⟨gs,id,Ae⟩=Af (.bool (decide (id∈idsTo l k j))):=by
     rw[Bz _ gs id _ _ (0,0) (HH.out.b 2)];simp[If,Rr,hidm]
    have e2:=Bb0 (HH.out.b 2) id;have q3:(id:Int)<(m:Int):=Gv;by_cases fy:id∈idsTo l k j
    ·have HF:Hid (R=8):=Ah (by
      rw[GH.out,Hc];intro ca;obtain⟨r,hr⟩:=OZ;rw[hr,Bq]at ca;exact ca.2.2 id fy id Gy rfl)
     rw[Ld fy]at e1;clear OZ Z_ hid;go_wp2;go_ret;exact⟨by rw[HF.out];rfl,HH.out.below⟩
    ·rw[Me fy]at e1;have H1:=HH.out.set 2 id rfl (.bool true);dsimp only[Cg,Ch]at H1;rw[aI,wY,<-Z_]at H1;have BC:Hid (Bx w [(N,#[a,b],25),(P,#[m],3),(gs,(If (Rr m (idsTo l k (j+1)))).toArray,4),(C,#[x,y,Aa Ac q,Ad (Af ⟨b2,o2,Ae⟩) u c'],92)] (wr.setCell ⟨gs,id,Ae⟩ (.bool true))):=Ah H1
     have AA:(idsTo l k j).length<=n*100000:=by
      obtain⟨r,hr⟩:=OZ;have:=CM.out;rw[hr,Bh]at this;omega
     have YB:(idsTo l k (j+1)).length=(idsTo l k j).length+1:=by rw[Z_];simp
     have HND1:Hid (idsTo l k (j+1)).Nodup:=Ah (by
      rw[Z_,Bq];refine⟨KY.out,Gy,λx hx y hy=>?_⟩;simp only[Gf]at hy;subst hy;intro e;subst e;exact fy hx)
     generalize (idsTo l k j).length=L0 at YB AA⊢;clear OZ Z_ hid H1 HH fy;go_wp2;exact⟨⟨j+1,Gv,by go_num,by rw[YB];go_num,BC,HND1⟩,by simp[intOf];omega⟩
   ·obtain rfl:j=u:=Gv;have q2:¬(j:Int)<(j:Int):=Gv;have fp:=qm.out;rw[HU.out]at fp;rw[fp]at HH KY⊢;have BC:=Ah (HH.out.upto 3);clear HH fp;go_wp2;exact⟨⟨k+1,Gv,by go_num,rfl,BC,KY⟩,by simp[intOf];omega⟩
  ·obtain rfl:k=n:=Gv;have q1:¬(k:Int)<(k:Int):=Gv;obtain⟨p0,_⟩:=Lx (HH.out.b 1);have e0:idsTo l k 0=Hn l:=by rw[HN.out];exact Af2 l
   have ca:=KY.out;rw[e0]at ca⊢;have HF:Hid (R=if(Hn l).length<m then 6 else 0):=Ah (by rw[GH.out,Ha (not_not_intro ca)]);generalize (Hn l).length=L0 at HF⊢;clear ca e0;by_cases ID:L0<m
   ·have q2:(L0:Int)<(m:Int):=Gv;go_wp2;go_ret;exact⟨by rw[HF.out,Hc ID];rfl,HH.out.below⟩
   ·have q2:¬(L0:Int)<(m:Int):=Gv;go_wp2;go_ret;exact⟨by rw[HF.out,Ha ID];rfl,HH.out.below⟩
def oY (W:Aj) (o:Obj) (r:Option Nat):W.grownBy (W.alloc o) r:=⟨rfl,rfl,rfl,Gy,λk hk _=>Eh W o k hk⟩
def Yi {sl e:Ck} (hu:Tryz.prog.underlying sl=Af (.slice e)) (hi:(Tryz.prog.info? e).map (λi=>(i.zero,i.size,i.bytes))=Af (Af z,sz,bytes)) (hz:z.cells.size=sz) (hs:0<sz) (hby:bytes<=100)
  (W:Aj) (M n:Nat) (v:Ak) (xs:List Ak) (ho:W.ownsRow M e sz v n xs) (hM:M<=W.heap.size) (hn:n<=900000000000) (news:List Ak) (hl:news.length=sz) (h1:∀u∈news,u.oneCell'=true):
  ∃A' c' w',(Builtin.append_ #[sl,sl] sl #[v,Ad (Af ⟨W.heap.size,0,Ae⟩) 1 1]).run Dp (W.alloc (.cells news.toArray e))= .ok (Ad A' (n+1) c') w'/\w'.ownsRow M e sz (Ad A' (n+1) c') (n+1) (xs++news)/\
   Below M W w'/\W.grownBy w' v.ownBlock/\M<=w'.heap.size/\n+1<=c'/\c'<=maxLen/\(Value.ownBlock (Ad A' (n+1) c')=v.ownBlock∨∃g,Value.ownBlock (Ad A' (n+1) c')=Af g/\W.heap.size<=g):=by
 obtain⟨i0,ep,dp,ap,bw⟩:=info_parts hi;have hR:Rd (W.alloc (.cells news.toArray e)) (Af ⟨W.heap.size,0,Ae⟩) sz 1 news:=Qh news 1 sz Gv rfl
 obtain⟨v',w',hr,aa,hg,_,un⟩:=run_append_own_at (P:=Dp) (W.alloc (.cells news.toArray e)) M sl sl e i0 z sz bytes hu ep dp ap bw hz hs v n xs (ho.alloc _) ⟨W.heap.size,0,Ae⟩ 1 1 news hR.1 hR.allK h1 (by unfold maxLen;omega)
  (by have:(n+1)*bytes<=(n+1)*100:=Nat.mul_le_mul_left _ hby;omega) Hv
 obtain⟨A',c',rfl,jy,qo⟩:=Hy aa;have gn:=Ks (oY W _ v.ownBlock) hg;refine⟨A',c',w',hr,aa,?_,gn,Bt hM gn.size,jy,qo,un.imp id λh=>⟨_,h,Gy⟩⟩;exact((Ag M W).alloc hM _).grown hg Hv (λq hq=>(ho.lt q hq).1)
def Ls (l:List Int):List Ak:=l.map (Value.int .i64)
def Af9 (l:List Int):(Ls l).length=l.length:=by simp[Ls]
def uO (l:List Int) (x:Int):Ls (l++[x])=Ls l++[Aa Ab x]:=by simp[Ls]
def qL (p:Int×Int):List Ak:=[Aa Ab p.1,Aa Ab p.2]
def Qg (l:List (Int×Int)):List Ak:=l.flatMap qL
def vX (l:List (Int×Int)):(Qg l).length=l.length*2:=Kq qL 2 (λ_=>rfl) l
def qM (l:List (Int×Int)) (x:Int×Int):Qg (l++[x])=Qg l++[Aa Ab x.1,Aa Ab x.2]:=by simp[Qg,qL]
def fX {l:List Int} (h:Rd w A 1 n (Ls l)) (i:Nat) (hi:i<l.length):
  ∃b o,A=Af ⟨b,o,Ae⟩/\b<w.heap.size/\w.cell? ⟨b,o+i,Ae⟩=Af (Aa Ab l[i]):=by
 have hl:=h.1;rw[Af9]at hl;obtain⟨b,o,e,hb,hc⟩:=h.2 Gv;exact⟨b,o,e,hb,hc i _ (by simp[Ls,hi])⟩
def Aa3 {l:List (Int×Int)} (h:Rd w A 2 n (Qg l)) (i:Nat) (hi:i<l.length):
  ∃b o,A=Af ⟨b,o,Ae⟩/\b<w.heap.size/\w.cell? ⟨b,o+i*2,Ae⟩=Af (Aa Ab l[i].1)/\w.cell? ⟨b,o+i*2+1,Ae⟩=Af (Aa Ab l[i].2):=by
 have hl:=h.1;rw[vX]at hl;obtain⟨b,o,e,hb,hc⟩:=h.2 Gv;have bi:∀f,f<2->(Qg l)[i*2+f]? =(qL l[i])[f]? :=λf hf=>It qL 2 (λ_=>rfl) _ i f hi hf;exact⟨b,o,e,hb,hc (i*2+0) _ ((bi 0 Gv).trans rfl),hc (i*2+1) _ ((bi 1 Gv).trans rfl)⟩
def Xg (p:Nat×Nat):List Ak:=[Aa Ab (p.1:Int),Aa Ab (p.2:Int)]
def Pw (l:List (Nat×Nat)):List Ak:=l.flatMap Xg
def Aj4 (l:List (Nat×Nat)):(Pw l).length=l.length*2:=Kq Xg 2 (λ_=>rfl) l
def vZ (l:List (Nat×Nat)) (x:Nat×Nat):Pw (l++[x])=Pw l++[Aa Ab (x.1:Int),Aa Ab (x.2:Int)]:=by simp[Pw,Xg]
def Bo5 {l:List (Nat×Nat)} (h:Rd w A 2 n (Pw l)) (i:Nat) (hi:i<l.length):
  ∃b o,A=Af ⟨b,o,Ae⟩/\b<w.heap.size/\w.cell? ⟨b,o+i*2,Ae⟩=Af (Aa Ab (l[i].1:Int))/\w.cell? ⟨b,o+i*2+1,Ae⟩=Af (Aa Ab (l[i].2:Int)):=by
 have hl:=h.1;rw[Aj4]at hl;obtain⟨b,o,e,hb,hc⟩:=h.2 Gv;have bi:∀f,f<2->(Pw l)[i*2+f]? =(Xg l[i])[f]? :=λf hf=>It Xg 2 (λ_=>rfl) _ i f hi hf;exact⟨b,o,e,hb,hc (i*2+0) _ ((bi 0 Gv).trans rfl),hc (i*2+1) _ ((bi 1 Gv).trans rfl)⟩
def Xd (p:Nat×Nat×Nat):List Ak:=[Aa Ac (p.1:Int),Aa Ab (p.2.1:Int),Aa Ab (p.2.2:Int)]
def Nl (l:List (Nat×Nat×Nat)):List Ak:=l.flatMap Xd
def Ah4 (l:List (Nat×Nat×Nat)):(Nl l).length=l.length*3:=Kq Xd 3 (λ_=>rfl) l
def uX (l:List (Nat×Nat×Nat)) (x:Nat×Nat×Nat):Nl (l++[x])=Nl l++[Aa Ac (x.1:Int),Aa Ab (x.2.1:Int),Aa Ab (x.2.2:Int)]:=by simp[Nl,Xd]
def mM {l:List (Nat×Nat×Nat)} (h:Rd w A 3 n (Nl l)) (i:Nat) (hi:i<l.length):
  ∃b o,A=Af ⟨b,o,Ae⟩/\b<w.heap.size/\w.cell? ⟨b,o+i*3,Ae⟩=Af (Aa Ac (l[i].1:Int))/\w.cell? ⟨b,o+i*3+1,Ae⟩=Af (Aa Ab (l[i].2.1:Int))/\w.cell? ⟨b,o+i*3+2,Ae⟩=Af (Aa Ab (l[i].2.2:Int)):=by
 have hl:=h.1;rw[Ah4]at hl;obtain⟨b,o,e,hb,hc⟩:=h.2 Gv;have bi:∀f,f<3->(Nl l)[i*3+f]? =(Xd l[i])[f]? :=λf hf=>It Xd 3 (λ_=>rfl) _ i f hi hf;exact⟨b,o,e,hb,hc (i*3+0) _ ((bi 0 Gv).trans rfl),hc (i*3+1) _ ((bi 1 Gv).trans rfl),hc (i*3+2) _ ((bi 2 Gv).trans rfl)⟩
def Bx.keepN (h:Bx w l wr) (hM:∀x∈l,x.1<M) (hw:w.heap.size<=M) (hb:Below M wr w2):Bx w l w2:=
 ⟨h.below.trans (hb.mono hw),λi g cs t hi=>(hb.block g (hM _ (List.mem_of_getElem? hi))).trans (h.blk i g cs t hi),h.lo,h.inj⟩
def Jb {M e sz n:Nat} {xs:List Ak} (h:w.ownsRow M e sz v n xs) (hg:g<M) (j:Nat) (u:Ak):(w.setCell ⟨g,j,Ae⟩ u).ownsRow M e sz v n xs:=
 ⟨h.1,h.2.imp id λ⟨g',cap,cur,r1,r2,r3,r⟩=>⟨g',cap,cur,r1,r2,(Dq w ⟨g,j,Ae⟩ u g' (by show g'≠g;omega)).trans r3,r⟩⟩
open Go.Sort Go.Shelf
def oO [Inhabited α] (enc:α->List Ak) (k:Nat) (di:0<k) (hk:∀x,(enc x).length=k) (l:List α):flatK enc k l.toArray=(l.flatMap enc).toArray:=by
 have jq:=Kq enc k hk l;refine ext_get! (by simp[jq]) λt ht=>?_;have U2:t<l.length*k:=by simpa using ht
 have hj:t/k<l.length:=(Nat.div_lt_iff_lt_mul di).2 U2;rw[get_flatK _ _ _ t (by simpa using U2),getElem!_pos l.toArray (t/k) (by simpa using hj)];have hl:t<(l.flatMap enc).toArray.size:=by simp[jq];exact U2
 rw[getElem!_pos _ t hl];simp only[Cf];have hmod:t%k<k:=Nat.mod_lt _ di;have bi:=It enc k hk l (t/k) (t%k) hj hmod;rw[show t/k*k+t%k=t by rw[Nat.mul_comm];exact Nat.div_add_mod t k]at bi;have h2:(l.flatMap enc)[t]? =Af ((l.flatMap enc)[t]'(by simpa using hl)):=Aw _;have h3:t%k<(enc l[t/k]).length:=by rw[hk];exact hmod
 rw[h2,Aw h3]at bi;have:=Option.some.inj bi;rw[this];simp[h3]
def Af1 {e:Ck} {fr:Nat×Nat} (d:Array Ak) (hb:w.heap[g]? =Af (.cells cur e fr)):
  (grow (putRow id (Sort.ahead w n) g 0 d) os).heap[g]? =Af (.cells (putCells id 0 d cur) e fr):=by
 have hg:g<w.heap.size:=(Au.1 hb).1;rw[heap_grow_old _ _ (by simpa using hg)];simp[putRow,mapBlock,Sort.ahead,Dg,hb,onCells]
def Ys (d:Array Ak):w.grownBy (grow (putRow id (Sort.ahead w n) g 0 d) os) (Af g):=by
 refine⟨rfl,rfl,rfl,Gy,λk hk hne=>?_⟩;rw[heap_grow_old _ _ (by simpa using hk)];have:g≠k:=λe=>hne (by rw[e]);simp[putRow,mapBlock,Sort.ahead,Dg,this]
def Am9 (cur:Array Ak) (ts:List Ak) (h:ts.length<=cur.size):(putCells id 0 ts.toArray cur).toList.take ts.length=ts:=by
 apply List.ext_getElem?;intro j;by_cases hj:j<ts.length
 ·rw[List.getElem?_take_of_lt hj,Array.getElem?_toList];simp[putCells,hj,show j<cur.size by omega]
 ·rw[List.getElem?_take_eq_none Gv,Ej Gv]
def Lm (enc:α->List Ak) (cf:α->α->Int) (l:List α) (O e k m:Nat) (v:Ak) (w:Aj) (en:Ending) (w':Aj):Prop:=
 en= .returned (.tuple #[])/\∃l':List α,l'.Perm l/\l'.Pairwise (λp q=>ltOf cf q p=false)/\w'.ownsRow O e k v m (l'.flatMap enc)/\w.grownBy w' v.ownBlock
def Tq [Inhabited α] {ρ} (L:SlLaysF0.n6 Dp ρ) (k:Nat) (di:0<k) (aE:∀w,(isAgg (ρ.t 24)).run Dp w= .ok true w) (zE:∀w,(Go.sizeOf (ρ.t 24)).run Dp w= .ok k w)
  (enc:α->List Ak) (hk:∀x,(enc x).length=k) (h1:∀x,∀v∈enc x,v.oneCell'=true) (cf:α->α->Int) (hO:SWO (ltOf cf)) (F:FuncId) (cb:Array Ak) (eg:∀args w,(callFunc F args).run Dp w= .ok (.enter F args) w)
  {O e m c:Nat} {B:Option Cj} (l:List α) (w:Aj) (h:w.ownsRow O e k (Ad B m c) m (l.flatMap enc)) (OC:m<=1000000)
  (iu:∀W',w.grownBy W' (Value.slice B m c).ownBlock->∀x y,Al Dp F (#[.agg (enc x).toArray,.agg (enc y).toArray]++cb) W' (Uw (Aa Ab (cf x y)) W')):
  Al Dp (ρ.f 6) #[Ad B m c,.func (.func F) #[] cb] w (Lm enc cf l O e k m (Ad B m c) w):=by
 have jq:=Kq enc k hk l
 have hl:l.length=m:=by
  have:=h.1;rw[jq]at this;exact Nat.eq_of_mul_eq_mul_right di this
 rcases h.2 with⟨h0,n_⟩|⟨g,cap,cur,r1,r2,r3,r4,r5,r6,r7⟩
 ·obtain⟨rfl,rfl,rfl⟩:B=Ae/\m=0/\c=0:=by simpa using h0
  have hnil:l=[]:=List.length_eq_zero_iff.1 hl;subst hnil;refine(AnyF.slices_SortFunc_none L Ae 0 _ w).mono ?_;rintro e' w' ⟨rfl,rfl⟩;exact⟨rfl,[],List.Perm.refl _,List.Pairwise.nil,h,Jo _ _⟩
 ·obtain⟨rfl,rfl⟩:B=Af ⟨g,0,Ae⟩/\c=cap:=by simpa using r1
  have hH:HoldsK enc k w g 0 l.toArray:=by
   unfold HoldsK;rw[oO enc k di hk];intro j hj;refine⟨?_,by simp[Ea,r3]⟩;have AX:j<(l.flatMap enc).length:=by simpa using hj
   rw[Bu,Bz _ _ j cur e (0,0) r3,getElem!_pos _ j hj];have h2:(cur.toList.take (m*k))[j]? =(l.flatMap enc)[j]? :=by rw[r7]
   rw[List.getElem?_take_of_lt (by rw[jq,hl]at AX;exact AX),Array.getElem?_toList]at h2;rw[h2,Aw AX];rfl
  have UC:CmpLays Dp F cb enc k cf g 0 l.toArray.size w:=λn os dk hs x y=>by
   have hg:w.grownBy (sortWorldK enc k w g 0 n dk os) (Af g):=by unfold sortWorldK putRowK;exact Ys _
   exact(iu _ hg x y).mono λ_ _ h=>⟨h.1,h.2.grow⟩
  have tz:=AnyQ.slices_SortFunc L k aE zE enc hk h1 cf hO F cb g 0 c l.toArray w eg UC hH (Au.1 r3).1 Hv;simp only[List.size_toArray,hl]at tz;refine tz.mono ?_;rintro e' w' ⟨rfl,d',n,os,hp,hs,rfl⟩;obtain⟨p1,p2,p3⟩:=hp;have hd:d'.size=m:=by rw[p1];simpa using hl
  have hd':d'.toList.toArray=d':=Gy;refine⟨rfl,d'.toList,?_,?_,?_,?_⟩
  ·have e1:d'.extract 0 m=d':=by rw[<-hd];simp
   have e2:l.toArray.extract 0 m=l.toArray:=by rw[<-hl];simp
   rw[e1,e2]at p3;simpa using p3
  ·rw[Fj];intro i j hi hj FB;have uo:i<d'.size:=by simpa using hi
   have AX:j<d'.size:=by simpa using hj
   have:=hs i j (Gm _) FB Gv;rw[getElem!_pos d' i uo,getElem!_pos d' j AX]at this;simpa using this
  ·unfold sortWorldK putRowK;rw[<-hd',oO enc k di hk];have hlen:(d'.toList.flatMap enc).length=m*k:=by rw[Kq enc k hk];simp[hd]
   exact⟨by simpa using hlen,.inr ⟨g,c,_,rfl,r2,Af1 _ r3,r4,r5,by simp[putCells,r6],by rw[<-hlen];exact Am9 cur _ (by rw[hlen,r6];exact Fu _ r4)⟩⟩
  ·unfold sortWorldK putRowK;exact Ys _
end Go.Proofs.YtlgkpdfieaadaaaGreatDoor
