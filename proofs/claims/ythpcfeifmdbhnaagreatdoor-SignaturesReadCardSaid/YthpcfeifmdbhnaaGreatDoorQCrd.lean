import Derived.Test.YthpcfeifmdbhnaaGreatDoorQStk
import Derived.Deep.WholeRow
import Derived.Deep.RegionHeld3
import Derived.Test.YthpcfeifmdbhnaaGreatDoorQCel2
import Derived.Maps.OwnOps
import Derived.Test.YthpcfeifmdbhnaaGreatDoorRows
open Array renaming getElem?_eq_some_iff→Au
open Go renaming Calls→Al,Value→Ak,World→Aj,bodyPost_ret→Ai,cell_of_row→By,heap_alloc_new→Bz,wpAnyH_done→An,wpAnyH_ready→Ap,wp_region_held_drew→Ao
open Go.AllReadyH renaming cons→Aq,nil→Ar
open Go.IntKind renaming i64→Ab,u8→Ac
open Go.IntWalk renaming i64_in→Ca
open Go.Lib renaming hid→Ah
open Go.RowKit.Below renaming refl→Ag
open Go.Value renaming int→Aa,slice→Ad
open List renaming append_assoc→Bj,getElem?_eq_getElem→Aw,getElem?_eq_some_iff→Ax,getElem_cons_succ→Cd,getElem_cons_zero→Cc,getElem_mem→Ay,getElem_toArray→Ce,length_map→Bo,mem_iff_getElem→Be,setIfInBounds_toArray→Ch,set_cons_succ→Cg,set_cons_zero→Cf,take_succ_eq_append_getElem→Bc
open Nat renaming le_refl→Am,lt_of_lt_of_le→Bq,zero_add→Bt
open Option renaming none→Ae,some→Af
set_option maxHeartbeats 4000000
set_option maxRecDepth 100000
namespace Go.Proofs.YthpcfeifmdbhnaaGreatDoor
open Go.RowKit
theorem mY (i m P:Nat) (w:Aj) (hP:w.cell? ⟨P,0,Ae⟩=Af (Aa Ab (m:Int))):
  Al Tryz.prog 200 #[Aa Ab (i:Int),.pointer (Af ⟨P,0,Ae⟩)] w (Co (.bool (decide (m≤i))) w):=by
 have q0:¬(i:Int)<0:=Ci;obtain⟨R,hR⟩:=ey (decide (m≤i));rw[hR];have HR:=Ah hR;clear hR;go_enter Tryz.func200,Tryz.ntmps200;by_cases h:m≤i
 ·have h':(m:Int)≤i:=Ci;go_wp2;go_ret;exact⟨by rw[←HR.out,decide_eq_true h];simp<;>omega,Ag _ _⟩
 ·have h':¬(m:Int)≤i:=Ci;go_wp2;go_ret;exact⟨by rw[←HR.out,decide_eq_false h];simp<;>omega,Ag _ _⟩
theorem uD (A:Option Addr) (l:List Nat) (n c m P:Nat) (w:Aj) (hn:n=l.length) (h:Rd w A 1 n (Di l)) (hl:n≤1000000) (hP:w.cell? ⟨P,0,Ae⟩=Af (Aa Ab (m:Int))):
  Al Tryz.prog 201 #[Ad A n c,.func (.func 200) #[] #[.pointer (Af ⟨P,0,Ae⟩)]] w λe w'=>(∃r:Int,e= .returned (Aa Ab r)∧((l.any λi=>decide (m≤i))=decide (0≤r)))∧Below w.heap.size w w':=by
 have HRD:=Ah h;have HN:=Ah hn;clear h hn;go_enter Tryz.func201,Tryz.ntmps201;go_wp2
 go_loopw [5,8] (λ_ i wr=>∃k:Nat,k≤n∧i= Aa Ab k∧Below w.heap.size w wr∧Hid (∀j (hj:j<l.length),j<k→¬m≤l[j])) (λ_ i _=>n-(intOf i).toNat)
 case atStart=>exact⟨0,Ci,rfl,Ag _ _,Ah λj _ hj=>absurd hj Ci⟩
 case round=>
  obtain⟨k,hk,rfl,hb,HK⟩:=hrel;by_cases hlt:k<n
  ·have hkl:k<l.length:=by have:=HN.out;omega
   obtain⟨bb,o,rfl,hbl,c0⟩:=Mi (HRD.out.below hb) k hkl;have q1:(k:Int)<(n:Int):=Ci;have hPr:=Cj hb hP;obtain⟨r,hr⟩:=ey (l[k]);have HRR:=Ah hr;rw[hr]at c0;have HC:=Ah λw' (h:w'.cell? ⟨P,0,Ae⟩=Af (Aa Ab (m:Int)))=>mY r m P w' h;clear hr;go_wp2_with fail;refine(HC.out _ hPr).mono ?_;rintro e w2 ⟨rfl,hb2⟩;have hb3:=hb.trans (hb2.mono hb.size);by_cases he:m≤r
   ·rw[decide_eq_true he];have HA:Hid ((l.any λi=>decide (m≤i))=true):=Ah (by rw[List.any_eq_true];exact⟨l[k],Ay _,by rw[HRR.out];simpa using he⟩);go_wp2;go_ret;exact⟨⟨k,rfl,by rw[HA.out];simp⟩,hb3⟩
   ·rw[decide_eq_false he]
    have HKN:=Ah (λj (hj:j<l.length) (h:j<k+1)=>show¬m≤l[j]by
     by_cases hjk:j=k
     ·subst hjk;rw[HRR.out];exact he
     ·exact HK.out j hj Ci)
    go_wp2;exact⟨⟨k+1,Ci,by go_num,hb3,HKN⟩,by simp[intOf];omega⟩
  ·have q1:¬(k:Int)<(n:Int):=Ci
   have HA:Hid ((l.any λi=>decide (m≤i))=false):=Ah (by
    rw[List.any_eq_false];intro x hx;obtain⟨j,hj,rfl⟩:=Be.1 hx;simpa using HK.out j hj (by have:=HN.out;omega))
   go_wp2;go_ret;exact⟨⟨-1,rfl,by rw[HA.out];rfl⟩,hb⟩
theorem An1 (A:Option Addr) (l:List Nat) (n c m P:Nat) (w:Aj) (hn:n=l.length) (h:Rd w A 1 n (Di l)) (hl:n≤1000000) (hP:w.cell? ⟨P,0,Ae⟩=Af (Aa Ab (m:Int))):
  Al Tryz.prog 157 #[Ad A n c,.func (.func 200) #[] #[.pointer (Af ⟨P,0,Ae⟩)]] w (Co (.bool (l.any λi=>decide (m≤i))) w):=by
 have HC:=Ah (uD A l n c m P w hn h hl hP);obtain⟨R,hR⟩:=ey ((l.any λi=>decide (m≤i)));rw[hR]at HC⊢;clear hn h hR hl;go_enter Tryz.func157,Tryz.ntmps157;go_wp2_with fail;refine HC.out.mono ?_;rintro e w2 ⟨⟨r,rfl,hr⟩,hb⟩;go_wp2;go_ret;exact⟨by rw[hr];rfl,hb⟩
theorem Kj {P:Program} {ops:Array Oper} {rest:List Oper} {op:Oper} {a:Act} {w:Aj} {Q:Exit→Act→Aj→Prop} (hgd:op.guard=Ae) (t:TypeId) (x y:Operand) (ho:op.op= .store t x y)
  (c c':Array Ak) (hx:a.eval x= .pointer (Af ⟨w.heap.size,0,Ae⟩)) (hy:a.eval y= .agg c') (hi:(P.info? t).map (·.size)=Af c'.size) (hc:c.size=c'.size) (h1:c'.all (·.oneCell')=true)
  (h:wpList P ops Q rest (a.put op.dst undef) (w.alloc (.cells c' t))):wpList P ops Q (op::rest) a (w.alloc (.cells c t)):=
 wpList_plain hgd λK hK=>by
  have hk:K (a.put op.dst undef) (w.alloc (.cells c' t)):=hK _ _ h;unfold Oper.wp execOp;simp only[ho,hx,hy,Sem.run_bind,run_storeAt_new w t c c' hi hc h1,Sem.run_pure,Result.andThen_ok];exact hk
def qln:Nat→Int
 |0=>2|1=>1|2=>2|_=>1
def qby:Nat→Int
 |0=>0|1=>1|2=>1|_=>0
def Ju (q:Nat):List Ak:=[Aa Ab (Ea q).1,Aa Ab (Ea q).2,Aa Ac (qln q),Aa Ab (qby q),
 Aa Ab (nxt q 0).1,Aa Ab (nxt q 0).2.1,Aa Ac (nxt q 0).2.2,Aa Ab (nxt q 1).1,Aa Ab (nxt q 1).2.1,Aa Ac (nxt q 1).2.2,Aa Ab (nxt q 2).1,Aa Ab (nxt q 2).2.1,Aa Ac (nxt q 2).2.2,
 Aa Ab (Oa q).1,Aa Ab (Oa q).2,Aa Ab (Ob q).1,Aa Ab (Ob q).2]
def Ki:List Ak:=Ju 0++Ju 1++Ju 2++Ju 3
structure Qf (w:Aj):Prop where
 lt:1<w.heap.size
 at':w.rangeAt 1 0 Ki
theorem Qf.below {w w':Aj} (h:Qf w) (hb:Below w.heap.size w w'):Qf w':=
 ⟨Bq h.lt hb.size,λj v hj=>Cj hb (h.at' j v hj)⟩
theorem Qf.row {w:Aj} (h:Qf w) {q:Nat} (hq:q<4):w.rangeAt 1 (q*17) (Ju q):=by
 intro j v hj;have hj17:j<17:=(Ax.1 hj).1
 have:=h.at' (q*17+j) v (by
  have h4:q=0∨q=1∨q=2∨q=3:=Ci;rcases h4 with rfl|rfl|rfl|rfl
  ·unfold Ki;rw[Bj,Bj,List.getElem?_append_left (by simp[Ju];omega)];simpa using hj
  ·unfold Ki;rw[Bj,Bj,List.getElem?_append_right (by simp[Ju]),List.getElem?_append_left (by simp[Ju];omega)];have:1*17+j-(Ju 0).length=j:=by simp[Ju]
   rw[this];exact hj
  ·unfold Ki;rw[Bj,List.getElem?_append_right (by simp[Ju]),List.getElem?_append_left (by simp[Ju];omega)];have:2*17+j-(Ju 0++Ju 1).length=j:=by simp[Ju]
   rw[this];exact hj
  ·unfold Ki;rw[List.getElem?_append_right (by simp[Ju])];have:3*17+j-(Ju 0++Ju 1++Ju 2).length=j:=by simp[Ju]
   rw[this];exact hj)
 rw[Bt]at this;exact this
theorem Qf.qt {w:Aj} (h:Qf w):Qt w:=by
 refine⟨h.lt,λq e hq he=>?_⟩;have hr:=h.row hq;have h3:e=0∨e=1∨e=2:=Ci;rcases h3 with rfl|rfl|rfl
 ·exact⟨hr 4 _ rfl,hr 5 _ rfl,hr 6 _ rfl⟩
 ·exact⟨hr 7 _ rfl,hr 8 _ rfl,hr 9 _ rfl⟩
 ·exact⟨hr 10 _ rfl,hr 11 _ rfl,hr 12 _ rfl⟩
def Xf (c:Cl):Ak:= .agg #[Aa Ab (2*c.x+1),Aa Ab (2*c.y+1),Aa Ab (2*c.x+(Oa c.q).1),Aa Ab (2*c.y+(Oa c.q).2),Aa Ab (2*c.x+(Ob c.q).1),Aa Ab (2*c.y+(Ob c.q).2)]
theorem Bb3 (q:Nat):(0≤(Oa q).1∧(Oa q).1≤2)∧(0≤(Oa q).2∧(Oa q).2≤2)∧(0≤(Ob q).1∧(Ob q).1≤2)∧(0≤(Ob q).2∧(Ob q).2≤2):=by
 unfold Oa Ob;split<;>decide
def Ay9 (x y u1 u2 v1 v2:Int):Nat→Array Ak
 |0=>#[Aa Ab 1,Aa Ab 1,Aa Ab u1,Aa Ab u2,Aa Ab v1,Aa Ab v2]
 |1=>#[Aa Ab (2*x+1),Aa Ab (2*y+1),Aa Ab u1,Aa Ab u2,Aa Ab v1,Aa Ab v2]
 |2=>#[Aa Ab (2*x+1),Aa Ab (2*y+1),Aa Ab (2*x+u1),Aa Ab (2*y+u2),Aa Ab v1,Aa Ab v2]
 |_=>#[Aa Ab (2*x+1),Aa Ab (2*y+1),Aa Ab (2*x+u1),Aa Ab (2*y+u2),Aa Ab (2*x+v1),Aa Ab (2*y+v2)]
theorem Wa {w:Aj} {g:Nat} {a b c d e f:Ak} {t:TypeId} (h:w.heap[g]? =Af (Obj.cells #[a,b,c,d,e,f] t (0,0))):
  (w.cell? ⟨g,0,Ae⟩=Af a∧w.cell? ⟨g,1,Ae⟩=Af b∧w.cell? ⟨g,2,Ae⟩=Af c∧w.cell? ⟨g,3,Ae⟩=Af d∧w.cell? ⟨g,4,Ae⟩=Af e∧w.cell? ⟨g,5,Ae⟩=Af f)∧
  (w.frozen? ⟨g,0,Ae⟩=false∧w.frozen? ⟨g,1,Ae⟩=false∧w.frozen? ⟨g,2,Ae⟩=false∧w.frozen? ⟨g,3,Ae⟩=false∧w.frozen? ⟨g,4,Ae⟩=false∧w.frozen? ⟨g,5,Ae⟩=false):=by
 have hc:∀j,w.cell? ⟨g,j,Ae⟩= #[a,b,c,d,e,f][j]? :=λj=>By w g j _ t (0,0) h;have hf:∀j,w.frozen? ⟨g,j,Ae⟩=false:=λj=>by simp[World.frozen?,h]
 exact⟨⟨hc 0,hc 1,hc 2,hc 3,hc 4,hc 5⟩,hf 0,hf 1,hf 2,hf 3,hf 4,hf 5⟩
theorem kQ (c:Cl) (w:Aj) (hc:c.ok=true) (hQ:Qf w):Al Tryz.prog 134 #[.agg #[Aa Ab c.x,Aa Ab c.y,Aa Ac c.q]] w (Co (.tuple #[Xf c,Aa Ab 0]) w):=by
 unfold Cl.ok at hc;obtain⟨c1,c2,c3,c4,c5⟩:=Eu.1 hc;obtain⟨x,y,q⟩:=c;dsimp only at hc c1 c2 c3 c4 c5⊢;have hq:q<4:=Ci;unfold Xf;dsimp only;obtain⟨⟨o1,o2⟩,⟨o3,o4⟩,⟨o5,o6⟩,o7,o8⟩:=Bb3 q;have hrow:=λ(w':Aj) (h:Qf w')=>h.row hq;unfold Ju at hrow;obtain⟨⟨u1,u2⟩,h1⟩:=ey (Oa q);obtain⟨⟨v1,v2⟩,h2⟩:=ey (Ob q);obtain⟨⟨s1,s2⟩,h3⟩:=ey (Ea q);obtain⟨ln,h4⟩:=ey (qln q);obtain⟨by',h5⟩:=ey (qby q);obtain⟨⟨n1,n2,n3⟩,h6⟩:=ey (nxt q 0);obtain⟨⟨n4,n5,n6⟩,h7⟩:=ey (nxt q 1);obtain⟨⟨n7,n8,n9⟩,h8⟩:=ey (nxt q 2);rw[h1,h2,h3,h4,h5,h6,h7,h8]at hrow;rw[h1]at o1 o2 o3 o4;rw[h2]at o5 o6 o7 o8;rw[h1,h2];dsimp only at hrow o1 o2 o3 o4 o5 o6 o7 o8⊢;have HC:=Ah hc;have HROW:=Ah hrow;have HQ:=Ah hQ;have q1:(q:Int)<4:=Ci;have H:=((Bx.start w).new #[Aa Ab x,Aa Ab y,Aa Ac q] 87 rfl).new #[Aa Ab 0,Aa Ab 0,Aa Ab 0,Aa Ab 0,Aa Ab 0,Aa Ab 0] 260 (N:=w.heap.size+1) Cn;clear hc hrow h1 h2 h3 h4 h5 h6 h7 h8 hQ;go_enter Tryz.func134,Tryz.ntmps134;go_upto_region 1 with fail;obtain⟨W,hW⟩:=ez ((w.alloc (.cells #[Aa Ab x,Aa Ab y,Aa Ac q] 87)).alloc (.cells #[Aa Ab 0,Aa Ab 0,Aa Ab 0,Aa Ab 0,Aa Ab 0,Aa Ab 0] 260));rw[←hW]at H⊢;obtain⟨N,hN⟩:=ez w.heap.size;rw[←hN]at H⊢;clear hW hN;obtain⟨⟨a0,a1,a2⟩,_⟩:=Cv (H.blk 0 _ _ _ rfl);go_wp2_with fail;refine(El x y q _).mono ?_;rintro e w2 ⟨rfl,hb⟩;rw[HC.out,Gz];have H2:=H.call hb;clear a0 a1 a2 hb H;obtain⟨⟨a0,a1,a2⟩,_⟩:=Cv (H2.blk 0 _ _ _ rfl);have hr:=HROW.out _ (HQ.out.below H2.below);go_upto_region 3 with fail;have hz:Tryz.prog.info? 282=Tryz.prog.info? 282:=rfl;clear hz
 repeat' (go_not_at_region 4;first
  |refine wpList_load_mid rfl 282 (.tmp 13) rfl 1 (q*17) rfl _ _ hr Tryz.underlying282 rfl Cm ?_
  |refine Kj rfl 282 (.tmp 4) (.tmp 14) rfl _ _ rfl rfl Cm rfl rfl ?_
  |go_step)
 clear hr a0 a1 a2;obtain⟨G4,hG4⟩:=ez w2.heap.size;rw[←hG4];have H4:=H2.new #[Aa Ab s1,Aa Ab s2,Aa Ac ln,Aa Ab by',Aa Ab n1,Aa Ab n2,Aa Ac n3,Aa Ab n4,Aa Ab n5,Aa Ac n6,Aa Ab n7,Aa Ab n8,Aa Ac n9,Aa Ab u1,Aa Ab u2,Aa Ab v1,Aa Ab v2] 282 hG4.symm;obtain⟨W4,hW4⟩:=ez (w2.alloc (.cells #[Aa Ab s1,Aa Ab s2,Aa Ac ln,Aa Ab by',Aa Ab n1,Aa Ab n2,Aa Ac n3,Aa Ab n4,Aa Ab n5,Aa Ac n6,Aa Ab n7,Aa Ab n8,Aa Ac n9,Aa Ab u1,Aa Ab u2,Aa Ab v1,Aa Ab v2] 282));rw[←hW4]at H4;change Code.wp _ _ _ _ (w2.alloc (.cells #[Aa Ab s1,Aa Ab s2,Aa Ac ln,Aa Ab by',Aa Ab n1,Aa Ab n2,Aa Ac n3,Aa Ab n4,Aa Ab n5,Aa Ac n6,Aa Ab n7,Aa Ab n8,Aa Ac n9,Aa Ab u1,Aa Ab u2,Aa Ab v1,Aa Ab v2] 282));rw[←hW4];have hrr:=H4.range 2 rfl;have r13:=hrr 13 _ rfl;have r14:=hrr 14 _ rfl;have r15:=hrr 15 _ rfl;have r16:=hrr 16 _ rfl;simp only[Bt]at r13 r14 r15 r16;clear hrr hG4 hW4;go_wp2_with fail;obtain⟨G5,hG5⟩:=ez W4.heap.size;rw[←hG5];have H5:=H4.new (Ay9 x y u1 u2 v1 v2 0) 260 hG5.symm;have hne:N≠G5:=by have:=H4.lt 0 rfl;omega
 have hne2:N+1≠G5:=by have:=H4.lt 1 rfl;omega
 clear hG5 r13 r14 r15 r16
 go_loopw [21] (λi wr=>∃k:Nat,k≤3∧i= Aa Ab k∧Bx w [(N,#[Aa Ab x,Aa Ab y,Aa Ac q],87),(N+1,#[Aa Ab 0,Aa Ab 0,Aa Ab 0,Aa Ab 0,Aa Ab 0,Aa Ab 0],260),(G4,#[Aa Ab s1,Aa Ab s2,Aa Ac ln,Aa Ab by',Aa Ab n1,Aa Ab n2,Aa Ac n3,Aa Ab n4,Aa Ab n5,Aa Ac n6,Aa Ab n7,Aa Ab n8,Aa Ac n9,Aa Ab u1,Aa Ab u2,Aa Ab v1,Aa Ab v2],282),(G5,Ay9 x y u1 u2 v1 v2 k,260)] wr) (λi _=>3-(intOf i).toNat)
 case atStart=>exact⟨0,Ci,rfl,H5⟩
 case round=>
  obtain⟨k,hk,rfl,Hr⟩:=hrel;obtain⟨⟨a0,a1,a2⟩,_⟩:=Cv (Hr.blk 0 _ _ _ rfl);have w1:Ab.wrap (2*x)=2*x:=Ca _ Ci;have w2':Ab.wrap (2*y)=2*y:=Ca _ Ci;have h4:k=0∨k=1∨k=2∨k=3:=Ci;rcases h4 with rfl|rfl|rfl|rfl
  ·as_aux_lemma=>
    have w3:Ab.wrap (1+2*x)=2*x+1:=by rw[Ca _ Ci];omega
    have w4:Ab.wrap (1+2*y)=2*y+1:=by rw[Ca _ Ci];omega
    obtain⟨⟨d0,d1,d2,d3,d4,d5⟩,f0,f1,f2,f3,f4,f5⟩:=Wa (Hr.blk 3 _ _ _ rfl);go_wp2
    go_region
    go_wp2
    go_region
    go_wp2;exact⟨⟨1,Ci,rfl,((Hr.set 3 0 rfl (Aa Ab (2*x+1))).set 3 1 rfl (Aa Ab (2*y+1))).drew.drew⟩,by simp[intOf]⟩
  ·as_aux_lemma=>
    have w3:Ab.wrap (u1+2*x)=2*x+u1:=by rw[Ca _ Ci];omega
    have w4:Ab.wrap (u2+2*y)=2*y+u2:=by rw[Ca _ Ci];omega
    obtain⟨⟨d0,d1,d2,d3,d4,d5⟩,f0,f1,f2,f3,f4,f5⟩:=Wa (Hr.blk 3 _ _ _ rfl);go_wp2
    go_region
    go_wp2
    go_region
    go_wp2;exact⟨⟨2,Ci,rfl,((Hr.set 3 2 rfl (Aa Ab (2*x+u1))).set 3 3 rfl (Aa Ab (2*y+u2))).drew.drew⟩,by simp[intOf]⟩
  ·as_aux_lemma=>
    have w3:Ab.wrap (v1+2*x)=2*x+v1:=by rw[Ca _ Ci];omega
    have w4:Ab.wrap (v2+2*y)=2*y+v2:=by rw[Ca _ Ci];omega
    obtain⟨⟨d0,d1,d2,d3,d4,d5⟩,f0,f1,f2,f3,f4,f5⟩:=Wa (Hr.blk 3 _ _ _ rfl);go_wp2
    go_region
    go_wp2
    go_region
    go_wp2;exact⟨⟨3,Ci,rfl,((Hr.set 3 4 rfl (Aa Ab (2*x+v1))).set 3 5 rfl (Aa Ab (2*y+v2))).drew.drew⟩,by simp[intOf]⟩
  ·as_aux_lemma=>
    obtain⟨⟨d0,d1,d2,d3,d4,d5⟩,f0,f1,f2,f3,f4,f5⟩:=Wa (Hr.blk 3 _ _ _ rfl);obtain⟨⟨b0,b1,b2,b3,b4,b5⟩,g0,g1,g2,g3,g4,g5⟩:=Wa (Hr.blk 1 _ _ _ rfl);go_wp2_with fail;have H6:=(((((Hr.set 1 0 rfl (Aa Ab (2*x+1))).set 1 1 rfl (Aa Ab (2*y+1))).set 1 2 rfl (Aa Ab (2*x+u1))).set 1 3 rfl (Aa Ab (2*y+u2))).set 1 4 rfl (Aa Ab (2*x+v1))).set 1 5 rfl (Aa Ab (2*y+v2));exact Ai (Cs rfl rfl (H6.range 1 rfl) Tryz.underlying260 rfl Cm) rfl ⟨rfl,H6.below⟩
def pE:Prop:=∀(m:Mv) (c:Cl) (w:Aj),m.ok=true→c.ok=true→Qf w→Tn w→
 Al Tryz.prog 115 #[.agg #[Aa Ac m.t,Aa Ab m.x,Aa Ab m.y],.agg #[Aa Ab c.x,Aa Ab c.y,Aa Ac c.q]] w (Co (.agg #[Aa Ab (Da m c).x,Aa Ab (Da m c).y,Aa Ac (Da m c).q]) w)
def clR (r:Cl×Int):Ak:= .tuple #[.agg #[Aa Ab r.1.x,Aa Ab r.1.y,Aa Ac r.1.q],Aa Ab r.2]
theorem Ov (hmv:pE) (m:Mv) (c:Cl) (w:Aj) (hm:m.ok=true) (hc:c.ok=true) (hQ:Qf w) (hT:Tn w):
  Al Tryz.prog 62 #[.agg #[Aa Ac m.t,Aa Ab m.x,Aa Ab m.y],.agg #[Aa Ab c.x,Aa Ab c.y,Aa Ac c.q]] w (Co (clR (Gp m c)) w):=by
 have HM:=Ah λw' (hb:Below w.heap.size w w')=>hmv m c w' hm hc (hQ.below hb) (hT.below hb);have hR:Gp m c=if(Da m c).ok then (Da m c,0)else (cl0,3):=rfl;obtain⟨⟨rx,ry,rq⟩,hd⟩:=ey (Da m c);rw[hd]at HM hR;dsimp only at HM;obtain⟨R,hRR⟩:=ey (Gp m c);rw[hRR]at hR⊢;have HR:=Ah hR;obtain⟨m1,_⟩:=Mv.ok_iff.1 hm;obtain⟨t,x,y⟩:=m;obtain⟨a,b,q⟩:=c;dsimp only at m1 HM⊢;have E1:Hid (okM t x y=true):=Ah hm;have E2:Hid (okC a b q=true):=Ah hc;have B1:=Ah (show 0≤(t:Int)∧(t:Int)≤255 by omega);have H:=(((Bx.start w).new #[Aa Ac t,Aa Ab x,Aa Ab y] 30 rfl).new #[Aa Ab a,Aa Ab b,Aa Ac q] 87 (N:=w.heap.size+1) Cn).new #[Aa Ab 0,Aa Ab 0,Aa Ac 0] 87 (N:=w.heap.size+2) Cn;clear hm hc hQ hT hR hd hRR;go_enter Tryz.func62,Tryz.ntmps62;go_upto_region 1 with fail;obtain⟨W,hW⟩:=ez (((w.alloc (.cells #[Aa Ac t,Aa Ab x,Aa Ab y] 30)).alloc (.cells #[Aa Ab a,Aa Ab b,Aa Ac q] 87)).alloc (.cells #[Aa Ab 0,Aa Ab 0,Aa Ac 0] 87));rw[←hW]at H⊢;obtain⟨N,hN⟩:=ez w.heap.size;rw[←hN]at H⊢;obtain⟨P,hP⟩:=ez (N+2);rw[←hP]at H;rw[show N+1+1=P from hP.symm];clear hW hN hP;obtain⟨⟨f0,f1,f2⟩,_⟩:=Cv (H.blk 0 _ _ _ rfl);go_wp2_with fail;refine(Er t x y _ B1.out).mono ?_;rintro e w2 ⟨rfl,hb⟩;rw[E1.out,Gz];have H2:=H.call hb;clear f0 f1 f2 hb H;obtain⟨⟨g0,g1,g2⟩,_⟩:=Cv (H2.blk 1 _ _ _ rfl);go_wp2_with fail;refine(El a b q _).mono ?_;rintro e w3 ⟨rfl,hb⟩;rw[E2.out,Gz];have H3:=H2.call hb;clear g0 g1 g2 hb H2;obtain⟨⟨f0,f1,f2⟩,_⟩:=Cv (H3.blk 0 _ _ _ rfl);obtain⟨⟨g0,g1,g2⟩,_⟩:=Cv (H3.blk 1 _ _ _ rfl);go_wp2_with fail;refine(HM.out _ H3.below).mono ?_;rintro e w4 ⟨rfl,hb⟩;have H4:=H3.call hb;clear f0 f1 f2 g0 g1 g2 hb H3;have H5:=H4.new #[Aa Ab rx,Aa Ab ry,Aa Ac rq] 87 rfl;go_wp2_with fail;refine(El rx ry rq _).mono ?_;rintro e w5 ⟨rfl,hb⟩;have H6:=H5.call hb;clear hb H5 H4
 obtain⟨⟨c0,c1,c2⟩,d0,d1,d2⟩:=Cv (H6.blk 2 _ _ _ rfl);obtain⟨⟨b0,b1,b2⟩,_⟩:=Cv (H6.blk 3 _ _ _ rfl)
 cases hk:okC rx ry rq
 ·have HK:Hid ((⟨rx,ry,rq⟩:Cl).ok=false):=Ah hk;rw[Lj];clear hk;go_wp2_with fail;have H7:=((H6.set 2 0 rfl (Aa Ab 0)).set 2 1 rfl (Aa Ab 0)).set 2 2 rfl (Aa Ac 0);exact Ai (Cs rfl rfl (H7.range 2 rfl) Tryz.underlying87 rfl Cm) rfl ⟨by rw[HR.out,HK.out];rfl,H7.below⟩
 ·have HK:Hid ((⟨rx,ry,rq⟩:Cl).ok=true):=Ah hk;rw[Gz];clear hk;go_wp2_with fail;have H7:=((H6.set 2 0 rfl (Aa Ab rx)).set 2 1 rfl (Aa Ab ry)).set 2 2 rfl (Aa Ac rq);exact Ai (Cs rfl rfl (H7.range 2 rfl) Tryz.underlying87 rfl Cm) rfl ⟨by rw[HR.out,HK.out];rfl,H7.below⟩
theorem Bx.nodup {w wr:Aj} {l:List (Nat×Array Ak×TypeId)} (h:Bx w l wr):(l.map (·.1)).Nodup:=by
 rw[List.Nodup,List.pairwise_iff_getElem];intro i j hi hj hij he;simp only[Bo]at hi hj;simp only[List.getElem_map]at he;have h1:l[i]? =Af (l[i].1,l[i].2.1,l[i].2.2):=Aw hi;have h2:l[j]? =Af (l[i].1,l[j].2.1,l[j].2.2):=by rw[he];exact Aw hj
 have:=h.inj i j _ _ _ _ _ h1 h2;omega
theorem Bx.perm {w wr:Aj} {l l':List (Nat×Array Ak×TypeId)} (h:Bx w l wr) (hp:l.Perm l'):Bx w l' wr:=by
 have hn:(l'.map (·.1)).Nodup:=(hp.map _).nodup_iff.1 h.nodup;have hm:∀(i g:Nat) (cs:Array Ak) (t:TypeId),l'[i]? =Af (g,cs,t)→∃j,l[j]? =Af (g,cs,t):=λi g cs t hi=>List.mem_iff_getElem?.1 (hp.mem_iff.2 (List.mem_of_getElem? hi));refine⟨h.below,λi g cs t hi=>?_,λi g cs t hi=>?_,λi j g cs t ds u hi hj=>?_⟩
 ·obtain⟨j,hj⟩:=hm i g cs t hi;exact h.blk j g cs t hj
 ·obtain⟨j,hj⟩:=hm i g cs t hi;exact h.lo j g cs t hj
 ·rw[List.Nodup,List.pairwise_iff_getElem]at hn;have li:=(Ax.1 hi);have lj:=(Ax.1 hj);obtain⟨hi1,hi2⟩:=li;obtain⟨hj1,hj2⟩:=lj;rcases Nat.lt_trichotomy i j with hlt|heq|hgt
  ·exact absurd (by rw[List.getElem_map,List.getElem_map,hi2,hj2]) (hn i j (by simpa using hi1) (by simpa using hj1) hlt)
  ·exact heq
  ·exact absurd (by rw[List.getElem_map,List.getElem_map,hi2,hj2]) (hn j i (by simpa using hj1) (by simpa using hi1) hgt)
theorem Bx.ne {w wr:Aj} {l:List (Nat×Array Ak×TypeId)} (h:Bx w l wr) (i j:Nat) (hij:i≠j) {g g':Nat} {cs ds:Array Ak} {t u:TypeId} (hi:l[i]? =Af (g,cs,t)) (hj:l[j]? =Af (g',ds,u)):g≠g':=by
 intro e;subst e;exact hij (h.inj i j g cs t ds u hi hj)
theorem Bx.upto {w wr:Aj} {l:List (Nat×Array Ak×TypeId)} (h:Bx w l wr) (n:Nat):Bx w (l.take n) wr:=by
 have hk:∀(i:Nat) (x:Nat×Array Ak×TypeId),(l.take n)[i]? =Af x→l[i]? =Af x:=by
  intro i x hi;rw[List.getElem?_take]at hi
  split at hi
  ·exact hi
  ·cases hi
 exact⟨h.below,λi g cs t hi=>h.blk i g cs t (hk i _ hi),λi g cs t hi=>h.lo i g cs t (hk i _ hi),λi j g cs t ds u hi hj=>h.inj i j g cs t ds u (hk i _ hi) (hk j _ hj)⟩
theorem Vh (X:Int):bits BinOp.and IntKind.i64 X 1=X%2:=by
 have h1:((BitVec.ofInt 64 X&&&BitVec.ofInt 64 1).toNat:Int)=X%2:=by
  rw[BitVec.toNat_and,BitVec.toNat_ofInt,BitVec.toNat_ofInt];have e:((1:Int)%(2^64:Nat)).toNat=1:=Ct;rw[e,Nat.and_one_is_mod];omega
 show Ab.wrap ((BitVec.ofInt 64 X&&&BitVec.ofInt 64 1).toNat:Int)=_;rw[h1];exact Ca _ Ci
def sqN (d:Int×Int):Nat→Nat
 |0=>0
 |k+1=>if Ea k=d then k else sqN d k
theorem Bc0 (d:Int×Int):sqN d 4=Hk d:=by
 unfold Hk;simp only[sqN,eq_comm (a:=d)]
 split
 ·rfl
 ·split
  ·rfl
  ·split
   ·rfl
   ·split<;>rfl
def Lq:Ak:= .agg Ki.toArray
theorem iO (w:Aj):(Instr.index 283 Lq (Aa Ab 0)).run Tryz.prog w= .ok (.agg (Ju 0).toArray) w:=Cm
theorem iP (w:Aj):(Instr.index 283 Lq (Aa Ab 1)).run Tryz.prog w= .ok (.agg (Ju 1).toArray) w:=Cm
theorem iQ (w:Aj):(Instr.index 283 Lq (Aa Ab 2)).run Tryz.prog w= .ok (.agg (Ju 2).toArray) w:=Cm
theorem iR (w:Aj):(Instr.index 283 Lq (Aa Ab 3)).run Tryz.prog w= .ok (.agg (Ju 3).toArray) w:=Cm
theorem nJ (k:Nat) (hk:k<4) (w:Aj):(Instr.index 283 Lq (Aa Ab k)).run Tryz.prog w= .ok (.agg (Ju k).toArray) w:=by
 have:k=0∨k=1∨k=2∨k=3:=Ci;rcases this with rfl|rfl|rfl|rfl
 ·exact iO w
 ·exact iP w
 ·exact iQ w
 ·exact iR w
theorem zH (m:Mv) (c:Cl) (w:Aj) (hm:m.ok=true) (hc:c.ok=true) (hQ:Qf w) (hT:Tn w):
  Al Tryz.prog 115 #[.agg #[Aa Ac m.t,Aa Ab m.x,Aa Ab m.y],.agg #[Aa Ab c.x,Aa Ab c.y,Aa Ac c.q]] w (Co (.agg #[Aa Ab (Da m c).x,Aa Ab (Da m c).y,Aa Ac (Da m c).q]) w):=by
 obtain⟨⟨rx,ry,rq⟩,hR⟩:=ey (Da m c);rw[hR];unfold Cl.ok at hc;obtain⟨c1,c2,c3,c4,c5⟩:=Eu.1 hc;have hmid:=λw=>mH c w Ci Ci;have hp1:=λw h=>iL m (2*c.x+1) (2*c.y+1) w hm Ci Ci h;obtain⟨t,x,y⟩:=m;obtain⟨a,b,q⟩:=c;obtain⟨m1,⟨m2,m3⟩,⟨m4,m5⟩,_⟩:=Mv.ok_iff.1 hm;dsimp only at c1 c2 c3 c4 c5 m1 m2 m3 m4 m5 hmid hp1⊢;have hm0:(⟨t,0,0⟩:Mv).ok=true:=Mv.ok_iff.2 ⟨m1,by dsimp only;omega,by dsimp only;omega,by dsimp only;omega⟩;have hqs:(-1≤(Ea q).1∧(Ea q).1≤1)∧(-1≤(Ea q).2∧(Ea q).2≤1):=by unfold Ea;split<;>decide
 have hp2:=λw h=>iL ⟨t,0,0⟩ (Ea q).1 (Ea q).2 w hm0 Ci Ci h;have hq:q<4:=Ci;obtain⟨⟨ob1,ob2⟩,ob3,ob4⟩:=Yi t (x:=2*a+1) (y:=2*b+1) (B:=10000) Ci Ci;obtain⟨⟨X,Y⟩,hXY⟩:=ey (Ee ⟨t,x,y⟩ (2*a+1) (2*b+1))
 have hXb:(-60000≤X∧X≤60000)∧(-60000≤Y∧Y≤60000):=by
  unfold Ee at hXY;simp only[Prod.mk.injEq]at hXY;obtain⟨e1,e2⟩:=hXY;omega
 have H:=(((Bx.start w).new #[Aa Ac t,Aa Ab x,Aa Ab y] 30 rfl).new #[Aa Ab a,Aa Ab b,Aa Ac q] 87 (N:=w.heap.size+1) Cn).new #[Aa Ab 0,Aa Ab 0,Aa Ac 0] 87 (N:=w.heap.size+2) Cn;have q1:(q:Int)<4:=Ci;have HMID:=Ah hmid;have hrow:=λ(w':Aj) (h:Qf w')=>h.row hq;unfold Ju at hrow;obtain⟨⟨s1,s2⟩,h3⟩:=ey (Ea q);rw[h3]at hrow hp2 hqs;dsimp only at hrow hp2 hqs;obtain⟨⟨U,V⟩,hUV⟩:=ey (Ee ⟨t,0,0⟩ s1 s2)
 have hrx:rx=X/2∧ry=Y/2∧rq=Hk (U,V):=by
  unfold Da at hR;dsimp only at hR;rw[h3,hXY]at hR;have hU:Dk (mat t) s1 s2=(U,V):=by rw[←hUV];unfold Ee;simp
  rw[hU]at hR;simp only[Cl.mk.injEq]at hR;exact⟨hR.1.symm,hR.2.1.symm,hR.2.2.symm⟩
 rw[hXY]at hp1;rw[hUV]at hp2;unfold ptR at hp1 hp2;dsimp only at hp1 hp2;obtain⟨hrx1,hrx2,hrq⟩:=hrx;have HX1:=Ah hrx1;have HX2:=Ah hrx2;clear hrx1 hrx2;have HRQ:=Ah hrq;have HROW:=Ah hrow;have HP1:=Ah hp1;have HP2:=Ah hp2;have HQ:=Ah hQ;have HT:=Ah hT;clear hmid hp1 hp2 hrow hQ hT hR h3 hm hc hm0 hXY hUV hrq ob1 ob2 ob3 ob4;go_enter Tryz.func115,Tryz.ntmps115;go_upto_region 1 with fail;obtain⟨W,hW⟩:=ez (((w.alloc (.cells #[Aa Ac t,Aa Ab x,Aa Ab y] 30)).alloc (.cells #[Aa Ab a,Aa Ab b,Aa Ac q] 87)).alloc (.cells #[Aa Ab 0,Aa Ab 0,Aa Ac 0] 87));rw[←hW]at H⊢;obtain⟨N,hN⟩:=ez w.heap.size;rw[←hN]at H⊢;obtain⟨P,hP⟩:=ez (N+2);rw[←hP]at H;rw[show N+1+1=P from hP.symm];have hne1:N≠P:=Ci;have hne2:N+1≠P:=Ci;clear hW hN hP;obtain⟨⟨g0,g1,g2⟩,_⟩:=Cv (H.blk 1 _ _ _ rfl);have hr:=HROW.out _ (HQ.out.below H.below);have r0:=hr 0 _ rfl;have r1:=hr 1 _ rfl;simp only[Nat.add_zero]at r0;clear hr;go_cut [5,6] (λs5 s6 wx=>∃p5 p6,s5= .pointer (Af ⟨p5,0,Ae⟩)∧s6= .pointer (Af ⟨p6,0,Ae⟩)∧Bx w [(N,#[Aa Ac t,Aa Ab x,Aa Ab y],30),(N+1,#[Aa Ab a,Aa Ab b,Aa Ac q],87),(P,#[Aa Ab 0,Aa Ab 0,Aa Ac 0],87),(p5,#[Aa Ab (2*a+1),Aa Ab (2*b+1)],259),(p6,#[Aa Ab s1,Aa Ab s2],259)] wx)
 case first=>
  have HSA:Hid (∀W',Below W.heap.size W W'→(λw':Aj=>w'.cell? ⟨N+1,0,Ae⟩=Af (Aa Ab a)∧w'.cell? ⟨N+1,1,Ae⟩=Af (Aa Ab b)∧w'.cell? ⟨N+1,2,Ae⟩=Af (Aa Ac q)∧w'.cell? ⟨1,q*17,Ae⟩=Af (Aa Ab s1)∧w'.cell? ⟨1,q*17+1,Ae⟩=Af (Aa Ab s2)) W'):=Ah λW' h=>⟨Cj h g0,Cj h g1,Cj h g2,Cj h r0,Cj h r1⟩;clear g0 g1 g2 r0 r1 hne1 hne2 HQ HT HP1 HP2 HROW;refine Ao (S:=(λw':Aj=>w'.cell? ⟨N+1,0,Ae⟩=Af (Aa Ab a)∧w'.cell? ⟨N+1,1,Ae⟩=Af (Aa Ab b)∧w'.cell? ⟨N+1,2,Ae⟩=Af (Aa Ac q)∧w'.cell? ⟨1,q*17,Ae⟩=Af (Aa Ab s1)∧w'.cell? ⟨1,q*17+1,Ae⟩=Af (Aa Ab s2))) Cm (HSA.out _ (Ag _ _).drew) (λhS=>?_);have hb:Below W.heap.size W W.drew:=(Ag _ _).drew;have H:=H.drew;obtain⟨X0,hX⟩:=ez W.drew;rw[←hX]at H hb⊢;clear hX;have hS:=HSA.out _ hb;refine wpAnyH_take (i:=0) (v:=?_) rfl Cm Cm Cm (λ_ _ _ h=>h) (Or.inl ⟨by rfl,?_⟩) hS ?_;rotate_left
  ·intro w0 hSw
   (try dsimp only at hSw)
   go_split_ands;go_simp
   try with_reducible rfl
  try simp only[Act.put,Ce,Cc,Ch,Cf,Cg]
  refine wpAnyH_take (i:=2) (v:=?_) rfl Cm Cm Cm (λ_ _ _ h=>h) (Or.inl ⟨by rfl,?_⟩) hS ?_;rotate_left
  ·intro w0 hSw
   (try dsimp only at hSw)
   go_split_ands;go_simp
   try with_reducible rfl
  try simp only[Act.put,Ce,Cc,Cd,Ch,Cf,Cg]
  refine wpAnyH_take (i:=3) (v:=?_) rfl Cm Cm Cm (λ_ _ _ h=>h) (Or.inl ⟨by rfl,?_⟩) hS ?_;rotate_left
  ·intro w0 hSw
   (try dsimp only at hSw)
   go_split_ands;go_simp
   try with_reducible rfl
  try simp only[Act.put,Ce,Cc,Cd,Ch,Cf,Cg]
  refine wpAnyH_take (i:=4) (v:=?_) rfl Cm Cm Cm (λ_ _ _ h=>h) (Or.inl ⟨by rfl,?_⟩) hS ?_;rotate_left
  ·intro w0 hSw
   (try dsimp only at hSw)
   go_split_ands;go_simp
   try with_reducible rfl
  try simp only[Act.put,Ce,Cc,Cd,Ch,Cf,Cg]
  refine wpAnyH_take (i:=5) (v:=?_) rfl Cm Cm Cm (λ_ _ _ h=>h) (Or.inl ⟨by rfl,?_⟩) hS ?_;rotate_left
  ·intro w0 hSw
   (try dsimp only at hSw)
   go_split_ands;go_simp
   try with_reducible rfl
  try simp only[Act.put,Ce,Cc,Cd,Ch,Cf,Cg]
  refine wpAnyH_take (i:=6) (v:=?_) rfl Cm Cm Cm (λ_ _ _ h=>h) (Or.inl ⟨by rfl,?_⟩) hS ?_;rotate_left
  ·intro w0 hSw
   (try dsimp only at hSw)
   go_split_ands;go_simp
   try with_reducible rfl
  try simp only[Act.put,Ce,Cc,Cd,Ch,Cf,Cg]
  refine Ap (rs:=[1,7,8]) Cm Cn (Aq rfl (λK hK=>?_) (Aq rfl (λK hK=>?_) (Aq rfl (λK hK=>?_) (Ar))))
  ·go_simp;refine(HMID.out _).mono ?_;rintro e X1 ⟨rfl,hbm⟩;have hb:=hb.trans (hbm.mono hb.size);have H:=H.call hbm;refine hK.out _ _ (HSA.out _ hb) (λhS=>?_);clear hK K hbm;refine Ap (rs:=[7,8]) Cm Cn (Aq rfl (λK hK=>?_) (Aq rfl (λK hK=>?_) (Ar)))
   ·obtain⟨p5,hp⟩:=ey X1.heap.size;have hl7:W.heap.size≤p5:=hp▸hb.size;have hb:=hb.alloc hb.size (.cells #[Aa Ab 0,Aa Ab 0] 259);have H:=H.new #[Aa Ab 0,Aa Ab 0] 259 hp;have HP7:=Ah hp;go_simp;refine hK.out _ _ (HSA.out _ hb) (λhS=>?_);clear hK K;obtain⟨X2,hX⟩:=ez (X1.alloc (.cells #[Aa Ab 0,Aa Ab 0] 259));rw[←hX]at H hb⊢;clear hX hp hS HP7;have hS:=HSA.out _ hb;refine Ap (rs:=[8]) Cm Cn (Aq rfl (λK hK=>?_) (Ar))
    ·obtain⟨p6,hp⟩:=ey X2.heap.size;have hl8:W.heap.size≤p6:=hp▸hb.size;have hb:=hb.alloc hb.size (.cells #[Aa Ab 0,Aa Ab 0] 259);have H:=H.new #[Aa Ab 0,Aa Ab 0] 259 hp;have HP8:=Ah hp;go_simp;refine hK.out _ _ (HSA.out _ hb) (λhS=>?_);clear hK K;obtain⟨X3,hX⟩:=ez (X2.alloc (.cells #[Aa Ab 0,Aa Ab 0] 259));rw[←hX]at H hb⊢;clear hX hp hS HP8;have hS:=HSA.out _ hb;refine Ap (rs:=[9]) Cm Cn (Aq rfl (λK hK=>?_) Ar);obtain⟨⟨y0,y1⟩,z0,z1⟩:=Cy (H.blk 3 _ _ _ rfl);have hb:=(hb.setCell (p:=⟨p5,0,Ae⟩) hl7 (Aa Ab (2*a+1))).setCell (p:=⟨p5,1,Ae⟩) hl7 (Aa Ab (2*b+1));have H:=(H.set 3 0 rfl (Aa Ab (2*a+1))).set 3 1 rfl (Aa Ab (2*b+1));go_simp;refine hK.out _ _ (HSA.out _ hb) (λhS=>?_);clear hK K y0 y1 z0 z1 hS;obtain⟨Y9,hX⟩:=ez ((X3.setCell ⟨p5,0,Ae⟩ (Aa Ab (2*a+1))).setCell ⟨p5,1,Ae⟩ (Aa Ab (2*b+1)));rw[←hX]at H hb⊢;clear hX;have hS:=HSA.out _ hb;refine Ap (rs:=[10]) Cm Cn (Aq rfl (λK hK=>?_) Ar);obtain⟨⟨y0,y1⟩,z0,z1⟩:=Cy (H.blk 4 _ _ _ rfl);have hb:=(hb.setCell (p:=⟨p6,0,Ae⟩) hl8 (Aa Ab (s1))).setCell (p:=⟨p6,1,Ae⟩) hl8 (Aa Ab (s2));have H:=(H.set 4 0 rfl (Aa Ab (s1))).set 4 1 rfl (Aa Ab (s2));go_simp;refine hK.out _ _ (HSA.out _ hb) (λhS=>?_);clear hK K y0 y1 z0 z1 hS;obtain⟨Y10,hX⟩:=ez ((Y9.setCell ⟨p6,0,Ae⟩ (Aa Ab (s1))).setCell ⟨p6,1,Ae⟩ (Aa Ab (s2)));rw[←hX]at H hb⊢;clear hX;have hS:=HSA.out _ hb;refine An Cm ?_ _;go_wp2;go_meet;exact⟨_,_,rfl,rfl,H⟩
   ·obtain⟨p6,hp⟩:=ey X1.heap.size;have hl8:W.heap.size≤p6:=hp▸hb.size;have hb:=hb.alloc hb.size (.cells #[Aa Ab 0,Aa Ab 0] 259);have H:=H.new #[Aa Ab 0,Aa Ab 0] 259 hp;have HP8:=Ah hp;go_simp;refine hK.out _ _ (HSA.out _ hb) (λhS=>?_);clear hK K;obtain⟨X2,hX⟩:=ez (X1.alloc (.cells #[Aa Ab 0,Aa Ab 0] 259));rw[←hX]at H hb⊢;clear hX hp hS HP8;have hS:=HSA.out _ hb;refine Ap (rs:=[7]) Cm Cn (Aq rfl (λK hK=>?_) (Ar))
    ·obtain⟨p5,hp⟩:=ey X2.heap.size;have hl7:W.heap.size≤p5:=hp▸hb.size;have hb:=hb.alloc hb.size (.cells #[Aa Ab 0,Aa Ab 0] 259);have H:=H.new #[Aa Ab 0,Aa Ab 0] 259 hp;have HP7:=Ah hp;go_simp;refine hK.out _ _ (HSA.out _ hb) (λhS=>?_);clear hK K;obtain⟨X3,hX⟩:=ez (X2.alloc (.cells #[Aa Ab 0,Aa Ab 0] 259));rw[←hX]at H hb⊢;clear hX hp hS HP7;have hS:=HSA.out _ hb;refine Ap (rs:=[9]) Cm Cn (Aq rfl (λK hK=>?_) Ar);obtain⟨⟨y0,y1⟩,z0,z1⟩:=Cy (H.blk 4 _ _ _ rfl);have hb:=(hb.setCell (p:=⟨p5,0,Ae⟩) hl7 (Aa Ab (2*a+1))).setCell (p:=⟨p5,1,Ae⟩) hl7 (Aa Ab (2*b+1));have H:=(H.set 4 0 rfl (Aa Ab (2*a+1))).set 4 1 rfl (Aa Ab (2*b+1));go_simp;refine hK.out _ _ (HSA.out _ hb) (λhS=>?_);clear hK K y0 y1 z0 z1 hS;obtain⟨Y9,hX⟩:=ez ((X3.setCell ⟨p5,0,Ae⟩ (Aa Ab (2*a+1))).setCell ⟨p5,1,Ae⟩ (Aa Ab (2*b+1)));rw[←hX]at H hb⊢;clear hX;have hS:=HSA.out _ hb;refine Ap (rs:=[10]) Cm Cn (Aq rfl (λK hK=>?_) Ar);obtain⟨⟨y0,y1⟩,z0,z1⟩:=Cy (H.blk 3 _ _ _ rfl);have hb:=(hb.setCell (p:=⟨p6,0,Ae⟩) hl8 (Aa Ab (s1))).setCell (p:=⟨p6,1,Ae⟩) hl8 (Aa Ab (s2));have H:=(H.set 3 0 rfl (Aa Ab (s1))).set 3 1 rfl (Aa Ab (s2));go_simp;refine hK.out _ _ (HSA.out _ hb) (λhS=>?_);clear hK K y0 y1 z0 z1 hS;obtain⟨Y10,hX⟩:=ez ((Y9.setCell ⟨p6,0,Ae⟩ (Aa Ab (s1))).setCell ⟨p6,1,Ae⟩ (Aa Ab (s2)));rw[←hX]at H hb⊢;clear hX;have hS:=HSA.out _ hb;refine An Cm ?_ _;go_wp2;go_meet;exact⟨_,_,rfl,rfl,H.perm (.cons _ (.cons _ (.cons _ (.swap _ _ _))))⟩
  ·obtain⟨p5,hp⟩:=ey X0.heap.size;have hl7:W.heap.size≤p5:=hp▸hb.size;have hb:=hb.alloc hb.size (.cells #[Aa Ab 0,Aa Ab 0] 259);have H:=H.new #[Aa Ab 0,Aa Ab 0] 259 hp;have HP7:=Ah hp;go_simp;refine hK.out _ _ (HSA.out _ hb) (λhS=>?_);clear hK K;obtain⟨X1,hX⟩:=ez (X0.alloc (.cells #[Aa Ab 0,Aa Ab 0] 259));rw[←hX]at H hb⊢;clear hX hp hS HP7;have hS:=HSA.out _ hb;refine Ap (rs:=[1,8]) Cm Cn (Aq rfl (λK hK=>?_) (Aq rfl (λK hK=>?_) (Ar)))
   ·go_simp;refine(HMID.out _).mono ?_;rintro e X2 ⟨rfl,hbm⟩;have hb:=hb.trans (hbm.mono hb.size);have H:=H.call hbm;refine hK.out _ _ (HSA.out _ hb) (λhS=>?_);clear hK K hbm;refine Ap (rs:=[8]) Cm Cn (Aq rfl (λK hK=>?_) (Ar))
    ·obtain⟨p6,hp⟩:=ey X2.heap.size;have hl8:W.heap.size≤p6:=hp▸hb.size;have hb:=hb.alloc hb.size (.cells #[Aa Ab 0,Aa Ab 0] 259);have H:=H.new #[Aa Ab 0,Aa Ab 0] 259 hp;have HP8:=Ah hp;go_simp;refine hK.out _ _ (HSA.out _ hb) (λhS=>?_);clear hK K;obtain⟨X3,hX⟩:=ez (X2.alloc (.cells #[Aa Ab 0,Aa Ab 0] 259));rw[←hX]at H hb⊢;clear hX hp hS HP8;have hS:=HSA.out _ hb;refine Ap (rs:=[9]) Cm Cn (Aq rfl (λK hK=>?_) Ar);obtain⟨⟨y0,y1⟩,z0,z1⟩:=Cy (H.blk 3 _ _ _ rfl);have hb:=(hb.setCell (p:=⟨p5,0,Ae⟩) hl7 (Aa Ab (2*a+1))).setCell (p:=⟨p5,1,Ae⟩) hl7 (Aa Ab (2*b+1));have H:=(H.set 3 0 rfl (Aa Ab (2*a+1))).set 3 1 rfl (Aa Ab (2*b+1));go_simp;refine hK.out _ _ (HSA.out _ hb) (λhS=>?_);clear hK K y0 y1 z0 z1 hS;obtain⟨Y9,hX⟩:=ez ((X3.setCell ⟨p5,0,Ae⟩ (Aa Ab (2*a+1))).setCell ⟨p5,1,Ae⟩ (Aa Ab (2*b+1)));rw[←hX]at H hb⊢;clear hX;have hS:=HSA.out _ hb;refine Ap (rs:=[10]) Cm Cn (Aq rfl (λK hK=>?_) Ar);obtain⟨⟨y0,y1⟩,z0,z1⟩:=Cy (H.blk 4 _ _ _ rfl);have hb:=(hb.setCell (p:=⟨p6,0,Ae⟩) hl8 (Aa Ab (s1))).setCell (p:=⟨p6,1,Ae⟩) hl8 (Aa Ab (s2));have H:=(H.set 4 0 rfl (Aa Ab (s1))).set 4 1 rfl (Aa Ab (s2));go_simp;refine hK.out _ _ (HSA.out _ hb) (λhS=>?_);clear hK K y0 y1 z0 z1 hS;obtain⟨Y10,hX⟩:=ez ((Y9.setCell ⟨p6,0,Ae⟩ (Aa Ab (s1))).setCell ⟨p6,1,Ae⟩ (Aa Ab (s2)));rw[←hX]at H hb⊢;clear hX;have hS:=HSA.out _ hb;refine An Cm ?_ _;go_wp2;go_meet;exact⟨_,_,rfl,rfl,H⟩
   ·obtain⟨p6,hp⟩:=ey X1.heap.size;have hl8:W.heap.size≤p6:=hp▸hb.size;have hb:=hb.alloc hb.size (.cells #[Aa Ab 0,Aa Ab 0] 259);have H:=H.new #[Aa Ab 0,Aa Ab 0] 259 hp;have HP8:=Ah hp;go_simp;refine hK.out _ _ (HSA.out _ hb) (λhS=>?_);clear hK K;obtain⟨X2,hX⟩:=ez (X1.alloc (.cells #[Aa Ab 0,Aa Ab 0] 259));rw[←hX]at H hb⊢;clear hX hp hS HP8;have hS:=HSA.out _ hb;refine Ap (rs:=[1]) Cm Cn (Aq rfl (λK hK=>?_) (Ar))
    ·go_simp;refine(HMID.out _).mono ?_;rintro e X3 ⟨rfl,hbm⟩;have hb:=hb.trans (hbm.mono hb.size);have H:=H.call hbm;refine hK.out _ _ (HSA.out _ hb) (λhS=>?_);clear hK K hbm;refine Ap (rs:=[9]) Cm Cn (Aq rfl (λK hK=>?_) Ar);obtain⟨⟨y0,y1⟩,z0,z1⟩:=Cy (H.blk 3 _ _ _ rfl);have hb:=(hb.setCell (p:=⟨p5,0,Ae⟩) hl7 (Aa Ab (2*a+1))).setCell (p:=⟨p5,1,Ae⟩) hl7 (Aa Ab (2*b+1));have H:=(H.set 3 0 rfl (Aa Ab (2*a+1))).set 3 1 rfl (Aa Ab (2*b+1));go_simp;refine hK.out _ _ (HSA.out _ hb) (λhS=>?_);clear hK K y0 y1 z0 z1 hS;obtain⟨Y9,hX⟩:=ez ((X3.setCell ⟨p5,0,Ae⟩ (Aa Ab (2*a+1))).setCell ⟨p5,1,Ae⟩ (Aa Ab (2*b+1)));rw[←hX]at H hb⊢;clear hX;have hS:=HSA.out _ hb;refine Ap (rs:=[10]) Cm Cn (Aq rfl (λK hK=>?_) Ar);obtain⟨⟨y0,y1⟩,z0,z1⟩:=Cy (H.blk 4 _ _ _ rfl);have hb:=(hb.setCell (p:=⟨p6,0,Ae⟩) hl8 (Aa Ab (s1))).setCell (p:=⟨p6,1,Ae⟩) hl8 (Aa Ab (s2));have H:=(H.set 4 0 rfl (Aa Ab (s1))).set 4 1 rfl (Aa Ab (s2));go_simp;refine hK.out _ _ (HSA.out _ hb) (λhS=>?_);clear hK K y0 y1 z0 z1 hS;obtain⟨Y10,hX⟩:=ez ((Y9.setCell ⟨p6,0,Ae⟩ (Aa Ab (s1))).setCell ⟨p6,1,Ae⟩ (Aa Ab (s2)));rw[←hX]at H hb⊢;clear hX;have hS:=HSA.out _ hb;refine An Cm ?_ _;go_wp2;go_meet;exact⟨_,_,rfl,rfl,H⟩
  ·obtain⟨p6,hp⟩:=ey X0.heap.size;have hl8:W.heap.size≤p6:=hp▸hb.size;have hb:=hb.alloc hb.size (.cells #[Aa Ab 0,Aa Ab 0] 259);have H:=H.new #[Aa Ab 0,Aa Ab 0] 259 hp;have HP8:=Ah hp;go_simp;refine hK.out _ _ (HSA.out _ hb) (λhS=>?_);clear hK K;obtain⟨X1,hX⟩:=ez (X0.alloc (.cells #[Aa Ab 0,Aa Ab 0] 259));rw[←hX]at H hb⊢;clear hX hp hS HP8;have hS:=HSA.out _ hb;refine Ap (rs:=[1,7]) Cm Cn (Aq rfl (λK hK=>?_) (Aq rfl (λK hK=>?_) (Ar)))
   ·go_simp;refine(HMID.out _).mono ?_;rintro e X2 ⟨rfl,hbm⟩;have hb:=hb.trans (hbm.mono hb.size);have H:=H.call hbm;refine hK.out _ _ (HSA.out _ hb) (λhS=>?_);clear hK K hbm;refine Ap (rs:=[7]) Cm Cn (Aq rfl (λK hK=>?_) (Ar))
    ·obtain⟨p5,hp⟩:=ey X2.heap.size;have hl7:W.heap.size≤p5:=hp▸hb.size;have hb:=hb.alloc hb.size (.cells #[Aa Ab 0,Aa Ab 0] 259);have H:=H.new #[Aa Ab 0,Aa Ab 0] 259 hp;have HP7:=Ah hp;go_simp;refine hK.out _ _ (HSA.out _ hb) (λhS=>?_);clear hK K;obtain⟨X3,hX⟩:=ez (X2.alloc (.cells #[Aa Ab 0,Aa Ab 0] 259));rw[←hX]at H hb⊢;clear hX hp hS HP7;have hS:=HSA.out _ hb;refine Ap (rs:=[9]) Cm Cn (Aq rfl (λK hK=>?_) Ar);obtain⟨⟨y0,y1⟩,z0,z1⟩:=Cy (H.blk 4 _ _ _ rfl);have hb:=(hb.setCell (p:=⟨p5,0,Ae⟩) hl7 (Aa Ab (2*a+1))).setCell (p:=⟨p5,1,Ae⟩) hl7 (Aa Ab (2*b+1));have H:=(H.set 4 0 rfl (Aa Ab (2*a+1))).set 4 1 rfl (Aa Ab (2*b+1));go_simp;refine hK.out _ _ (HSA.out _ hb) (λhS=>?_);clear hK K y0 y1 z0 z1 hS;obtain⟨Y9,hX⟩:=ez ((X3.setCell ⟨p5,0,Ae⟩ (Aa Ab (2*a+1))).setCell ⟨p5,1,Ae⟩ (Aa Ab (2*b+1)));rw[←hX]at H hb⊢;clear hX;have hS:=HSA.out _ hb;refine Ap (rs:=[10]) Cm Cn (Aq rfl (λK hK=>?_) Ar);obtain⟨⟨y0,y1⟩,z0,z1⟩:=Cy (H.blk 3 _ _ _ rfl);have hb:=(hb.setCell (p:=⟨p6,0,Ae⟩) hl8 (Aa Ab (s1))).setCell (p:=⟨p6,1,Ae⟩) hl8 (Aa Ab (s2));have H:=(H.set 3 0 rfl (Aa Ab (s1))).set 3 1 rfl (Aa Ab (s2));go_simp;refine hK.out _ _ (HSA.out _ hb) (λhS=>?_);clear hK K y0 y1 z0 z1 hS;obtain⟨Y10,hX⟩:=ez ((Y9.setCell ⟨p6,0,Ae⟩ (Aa Ab (s1))).setCell ⟨p6,1,Ae⟩ (Aa Ab (s2)));rw[←hX]at H hb⊢;clear hX;have hS:=HSA.out _ hb;refine An Cm ?_ _;go_wp2;go_meet;exact⟨_,_,rfl,rfl,H.perm (.cons _ (.cons _ (.cons _ (.swap _ _ _))))⟩
   ·obtain⟨p5,hp⟩:=ey X1.heap.size;have hl7:W.heap.size≤p5:=hp▸hb.size;have hb:=hb.alloc hb.size (.cells #[Aa Ab 0,Aa Ab 0] 259);have H:=H.new #[Aa Ab 0,Aa Ab 0] 259 hp;have HP7:=Ah hp;go_simp;refine hK.out _ _ (HSA.out _ hb) (λhS=>?_);clear hK K;obtain⟨X2,hX⟩:=ez (X1.alloc (.cells #[Aa Ab 0,Aa Ab 0] 259));rw[←hX]at H hb⊢;clear hX hp hS HP7;have hS:=HSA.out _ hb;refine Ap (rs:=[1]) Cm Cn (Aq rfl (λK hK=>?_) (Ar))
    ·go_simp;refine(HMID.out _).mono ?_;rintro e X3 ⟨rfl,hbm⟩;have hb:=hb.trans (hbm.mono hb.size);have H:=H.call hbm;refine hK.out _ _ (HSA.out _ hb) (λhS=>?_);clear hK K hbm;refine Ap (rs:=[9]) Cm Cn (Aq rfl (λK hK=>?_) Ar);obtain⟨⟨y0,y1⟩,z0,z1⟩:=Cy (H.blk 4 _ _ _ rfl);have hb:=(hb.setCell (p:=⟨p5,0,Ae⟩) hl7 (Aa Ab (2*a+1))).setCell (p:=⟨p5,1,Ae⟩) hl7 (Aa Ab (2*b+1));have H:=(H.set 4 0 rfl (Aa Ab (2*a+1))).set 4 1 rfl (Aa Ab (2*b+1));go_simp;refine hK.out _ _ (HSA.out _ hb) (λhS=>?_);clear hK K y0 y1 z0 z1 hS;obtain⟨Y9,hX⟩:=ez ((X3.setCell ⟨p5,0,Ae⟩ (Aa Ab (2*a+1))).setCell ⟨p5,1,Ae⟩ (Aa Ab (2*b+1)));rw[←hX]at H hb⊢;clear hX;have hS:=HSA.out _ hb;refine Ap (rs:=[10]) Cm Cn (Aq rfl (λK hK=>?_) Ar);obtain⟨⟨y0,y1⟩,z0,z1⟩:=Cy (H.blk 3 _ _ _ rfl);have hb:=(hb.setCell (p:=⟨p6,0,Ae⟩) hl8 (Aa Ab (s1))).setCell (p:=⟨p6,1,Ae⟩) hl8 (Aa Ab (s2));have H:=(H.set 3 0 rfl (Aa Ab (s1))).set 3 1 rfl (Aa Ab (s2));go_simp;refine hK.out _ _ (HSA.out _ hb) (λhS=>?_);clear hK K y0 y1 z0 z1 hS;obtain⟨Y10,hX⟩:=ez ((Y9.setCell ⟨p6,0,Ae⟩ (Aa Ab (s1))).setCell ⟨p6,1,Ae⟩ (Aa Ab (s2)));rw[←hX]at H hb⊢;clear hX;have hS:=HSA.out _ hb;refine An Cm ?_ _;go_wp2;go_meet;exact⟨_,_,rfl,rfl,H.perm (.cons _ (.cons _ (.cons _ (.swap _ _ _))))⟩
 case rest=>
  obtain⟨p5,p6,rfl,rfl,H⟩:=hcut;clear hne1 hne2 g0 g1 g2 r0 r1;obtain⟨⟨f0,f1,f2⟩,_⟩:=Cv (H.blk 0 _ _ _ rfl);obtain⟨⟨e0,e1⟩,y0,y1⟩:=Cy (H.blk 3 _ _ _ rfl);have HT1:=HT.out.below H.below;go_wp2_with fail;refine(HP1.out _ HT1).mono ?_;rintro e w2 ⟨rfl,hb⟩;have H2:=H.call hb;clear f0 f1 f2 e0 e1 y0 y1 hb H HT1;obtain⟨⟨f0,f1,f2⟩,u0,u1,u2⟩:=Cv (H2.blk 0 _ _ _ rfl);obtain⟨⟨e0,e1⟩,y0,y1⟩:=Cy (H2.blk 3 _ _ _ rfl);have nb1:N≠p5:=H2.ne 0 3 Ci rfl rfl;go_upto_region 3 with fail;have H3:=(H2.set 3 0 rfl (Aa Ab X)).set 3 1 rfl (Aa Ab Y);obtain⟨W3,hW3⟩:=ez ((w2.setCell ⟨p5,0,Ae⟩ (Aa Ab X)).setCell ⟨p5,1,Ae⟩ (Aa Ab Y));rw[←hW3]at H3⊢;clear f0 f1 f2 u0 u1 u2 e0 e1 y0 y1 hW3 H2;obtain⟨⟨f0,f1,f2⟩,u0,u1,u2⟩:=Cv (H3.blk 0 _ _ _ rfl);go_upto_region 4 with fail;have H4:=(H3.set 0 1 rfl (Aa Ab 0)).set 0 2 rfl (Aa Ab 0);obtain⟨W4,hW4⟩:=ez ((W3.setCell ⟨N,1,Ae⟩ (Aa Ab 0)).setCell ⟨N,2,Ae⟩ (Aa Ab 0));rw[←hW4]at H4⊢;clear f0 f1 f2 u0 u1 u2 hW4 H3;obtain⟨⟨f0,f1,f2⟩,_⟩:=Cv (H4.blk 0 _ _ _ rfl);obtain⟨⟨e0,e1⟩,y0,y1⟩:=Cy (H4.blk 4 _ _ _ rfl);have HT4:=HT.out.below H4.below;go_wp2_with fail;refine(HP2.out _ HT4).mono ?_;rintro e w5 ⟨rfl,hb⟩;have H5:=H4.call hb;clear f0 f1 f2 e0 e1 y0 y1 hb H4 HT4;obtain⟨⟨e0,e1⟩,y0,y1⟩:=Cy (H5.blk 4 _ _ _ rfl);go_upto_region 5 with fail;have H6:=(H5.set 4 0 rfl (Aa Ab U)).set 4 1 rfl (Aa Ab V);obtain⟨W6,hW6⟩:=ez ((w5.setCell ⟨p6,0,Ae⟩ (Aa Ab U)).setCell ⟨p6,1,Ae⟩ (Aa Ab V));rw[←hW6]at H6⊢;clear e0 e1 y0 y1 hW6 H5;obtain⟨⟨e0,e1⟩,_⟩:=Cy (H6.blk 3 _ _ _ rfl);have a1:=Vh X;have a2:=Vh Y;have k1:Ab.wrap (X-X%2)=X-X%2:=Ca _ Ci;have k2:Ab.wrap (Y-Y%2)=Y-Y%2:=Ca _ Ci;have k3:Ab.wrap ((X-X%2).tdiv 2)=rx:=by rw[HX1.out,show X-X%2=2*(X/2)by omega,Int.mul_tdiv_cancel_left _ Ct];exact Ca _ Ci
  have k4:Ab.wrap ((Y-Y%2).tdiv 2)=ry:=by rw[HX2.out,show Y-Y%2=2*(Y/2)by omega,Int.mul_tdiv_cancel_left _ Ct];exact Ca _ Ci
  go_upto_region 6 with fail;clear a1 a2 k1 k2 k3 k4 e0 e1;have H7:=H6.new #[Aa Ab rx,Aa Ab ry,Aa Ac 0] 87 rfl;obtain⟨p7,hp7⟩:=ey W6.heap.size;rw[hp7]at H7⊢;obtain⟨W7,hW7⟩:=ez (W6.alloc (.cells #[Aa Ab rx,Aa Ab ry,Aa Ac 0] 87));rw[←hW7]at H7⊢;clear hp7 hW7 H6;have hr:=(HQ.out.below H7.below).at'
  repeat' (go_not_at_region 7;first
   |refine wpList_load_mid rfl 283 (.global 1) rfl 1 0 rfl _ _ hr Tryz.underlying283 rfl Cm ?_
   |go_step)
  clear hr
  go_loopw [47] (λi wr=>∃k:Nat,k≤4∧i= Aa Ab k∧Bx w [(N,#[Aa Ac t,Aa Ab 0,Aa Ab 0],30),(N+1,#[Aa Ab a,Aa Ab b,Aa Ac q],87),(P,#[Aa Ab 0,Aa Ab 0,Aa Ac 0],87),(p5,#[Aa Ab X,Aa Ab Y],259),(p6,#[Aa Ab U,Aa Ab V],259),(p7,#[Aa Ab rx,Aa Ab ry,Aa Ac (sqN (U,V) k)],87)] wr) (λi _=>4-(intOf i).toNat)
  case atStart=>exact⟨0,Ci,rfl,H7⟩
  case round=>
   obtain⟨k,hk,rfl,Hr⟩:=hrel;obtain⟨S,hS⟩:=ey (sqN (U,V) k);have HS:=Ah hS;rw[hS]at Hr;clear hS;by_cases hlt:k<4
   ·have q2:(k:Int)<4:=Ci;have hix:=λw=>nJ k hlt w;unfold Lq Ju at hix;obtain⟨⟨d1,d2⟩,hd⟩:=ey (Ea k);obtain⟨e3,h3⟩:=ey (qln k);obtain⟨e4,h4⟩:=ey (qby k);obtain⟨⟨n1,n2,n3⟩,h6⟩:=ey (nxt k 0);obtain⟨⟨n4,n5,n6⟩,h7⟩:=ey (nxt k 1);obtain⟨⟨n7,n8,n9⟩,h8⟩:=ey (nxt k 2);obtain⟨⟨u1,u2⟩,h1⟩:=ey (Oa k);obtain⟨⟨v1,v2⟩,h2⟩:=ey (Ob k);rw[hd,h3,h4,h6,h7,h8,h1,h2]at hix;dsimp only at hix;have HD:=Ah hd
    have kw:IntKind.u8.wrap (k:Int)=k:=by
     have:k=0∨k=1∨k=2∨k=3:=Ci;rcases this with rfl|rfl|rfl|rfl<;>rfl
    clear hd h3 h4 h6 h7 h8 h1 h2;go_upto_region 8 with fail
    repeat' (go_not_at_region 9;first
     |refine Kj rfl 282 (.tmp 9) (.tmp 50) rfl _ _ rfl rfl Cm rfl rfl ?_
     |go_step)
    clear hix;obtain⟨p9,hp9⟩:=ey wr.heap.size;rw[hp9];have H9:=Hr.new #[Aa Ab d1,Aa Ab d2,Aa Ac e3,Aa Ab e4,Aa Ab n1,Aa Ab n2,Aa Ac n3,Aa Ab n4,Aa Ab n5,Aa Ac n6,Aa Ab n7,Aa Ab n8,Aa Ac n9,Aa Ab u1,Aa Ab u2,Aa Ab v1,Aa Ab v2] 282 hp9;obtain⟨W9,hW9⟩:=ez (wr.alloc (.cells #[Aa Ab d1,Aa Ab d2,Aa Ac e3,Aa Ab e4,Aa Ab n1,Aa Ab n2,Aa Ac n3,Aa Ab n4,Aa Ab n5,Aa Ac n6,Aa Ab n7,Aa Ab n8,Aa Ac n9,Aa Ab u1,Aa Ab u2,Aa Ab v1,Aa Ab v2] 282));rw[←hW9]at H9;change Code.wp _ _ _ _ (wr.alloc (.cells #[Aa Ab d1,Aa Ab d2,Aa Ac e3,Aa Ab e4,Aa Ab n1,Aa Ab n2,Aa Ac n3,Aa Ab n4,Aa Ab n5,Aa Ac n6,Aa Ab n7,Aa Ab n8,Aa Ac n9,Aa Ab u1,Aa Ab u2,Aa Ab v1,Aa Ab v2] 282));rw[←hW9];have hrr:=H9.range 6 rfl;have r0:=hrr 0 _ rfl;have r1:=hrr 1 _ rfl;simp only[Bt]at r0 r1;clear hrr hp9 hW9 Hr;obtain⟨⟨e0,e1⟩,_⟩:=Cy (H9.blk 4 _ _ _ rfl);obtain⟨⟨f0,f1,f2⟩,g0,g1,g2⟩:=Cv (H9.blk 5 _ _ _ rfl);have hs1:sqN (U,V) (k+1)=if Ea k=(U,V)then k else sqN (U,V) k:=rfl;by_cases hq2:d1=U∧d2=V
    ·obtain⟨rfl,rfl⟩:=hq2;have HN:Hid (sqN (d1,d2) (k+1)=k):=Ah (by rw[hs1,HD.out,if_pos rfl]);clear hs1;go_wp2;exact⟨⟨k+1,Ci,by go_num,by rw[HN.out];exact(H9.set 5 2 rfl (Aa Ac k)).upto 6⟩,by simp[intOf];omega⟩
    ·have HN:Hid (sqN (U,V) (k+1)=S):=Ah (by rw[hs1,HD.out,if_neg (λh=>hq2 (by injection h with h1 h2;exact⟨h1,h2⟩)),HS.out]);clear hs1;go_wp2_with fail
     all_goals first
      |exact absurd ⟨rfl,rfl⟩ hq2
      |exact absurd ⟨by assumption,by assumption⟩ hq2
      |exact⟨⟨k+1,Ci,by go_num,by rw[HN.out];exact H9.upto 6⟩,by simp[intOf];omega⟩
   ·have hk4:k=4:=Ci;subst hk4;obtain⟨⟨f0,f1,f2⟩,_⟩:=Cv (Hr.blk 5 _ _ _ rfl);obtain⟨⟨c0,c1',c2'⟩,z0,z1,z2⟩:=Cv (Hr.blk 2 _ _ _ rfl);have HF:Hid (S=rq):=Ah (by rw[←HS.out,Bc0,HRQ.out]);go_wp2_with fail;have H8:=((Hr.set 2 0 rfl (Aa Ab rx)).set 2 1 rfl (Aa Ab ry)).set 2 2 rfl (Aa Ac S);exact Ai (Ht rfl rfl (H8.range 2 rfl) Tryz.underlying87 rfl Cm) rfl ⟨by rw[HF.out];rfl,H8.below⟩
theorem dK:pE:=λm c w hm hc hQ hT=>zH m c w hm hc hQ hT
structure cF {κ:Type} [DecidableEq κ] (kt:TypeId) (K:κ→Ak):Prop where
 now:∃d,Tryz.prog.underlying kt=Af d∧∀p q,Instr.sameNow d (K p) (K q)=Ae
 eq:∀p q w,(Op.equal kt (K p) (K q)).run Tryz.prog w= .ok (decide (p=q)) w
 check:∀b p w,(Instr.checkKey b 10000 kt (K p)).run Tryz.prog w= .ok () w
 bits:∀p,Instr.sameBits 10000 (K p) (K p)=true
section
variable {κ:Type} [DecidableEq κ] {kt:TypeId} {K:κ→Ak}
def Ld (p:κ):List (κ×Ak)→Nat→Option (Nat×Ak)
 |[],_=>Ae
 |q::l,n=>if p=q.1 then Af (n,q.2)else Ld p l (n+1)
def Ji (p:κ) (l:List (κ×Ak)):Option Ak:=(Ld p l 0).map (·.2)
def Ma (p:κ) (v:Ak) (l:List (κ×Ak)):List (κ×Ak):=match Ld p l 0 with
 |some (i,_)=>l.set i (p,v)
 |none=>l++[(p,v)]
def Fq (K:κ→Ak) (w:Aj) (M:Nat) (l:List (κ×Ak)):Prop:=
 ∃es clock,w.heap[M]? =Af (.map es clock)∧es.toList.map (λe=>(e.key,e.val))=l.map λq=>(K q.1,q.2)
theorem fL (h:cF kt K) (p:κ) (w:Aj):∀(es:List MapEntry) (l:List (κ×Ak)) (n:Nat),es.map (λe=>(e.key,e.val))=(l.map λq=>(K q.1,q.2))→
  (Instr.findAsking kt (K p) es n).run Tryz.prog w= .ok (Ld p l n) w
 |[],[],n,_=>by simp[Instr.findAsking,Ld]
 |[],q::l,n,he=>by simp at he
 |e::es,[],n,he=>by simp at he
 |e::es,q::l,n,he=>by
  simp only[List.map_cons,List.cons.injEq,Prod.mk.injEq]at he;obtain⟨⟨h1,h2⟩,h3⟩:=he;by_cases hpq:p=q.1
  ·simp[Instr.findAsking,Ld,h1,h.eq,hpq,h2]
  ·simp[Instr.findAsking,Ld,h1,h.eq,hpq,fL h p w es l (n+1) h3]
theorem Vm (h:cF kt K) (p:κ) (w:Aj) (es:List MapEntry) (l:List (κ×Ak)) (he:es.map (λe=>(e.key,e.val))=l.map λq=>(K q.1,q.2)):
  (Instr.findKey kt (K p) es).run Tryz.prog w= .ok (Ld p l 0) w:=by
 obtain⟨d,hd,hn⟩:=h.now
 cases es with
 |nil=>
  cases l with
  |nil=>simp[Instr.findKey,run_underlying hd,Instr.findNow,Ld]
  |cons q l=>simp at he
 |cons e r=>
  cases l with
  |nil=>simp at he
  |cons q l=>
   have h1:e.key=K q.1:=by simp at he;exact he.1.1
   have hr:(Instr.findKey kt (K p) (e::r)).run Tryz.prog w=(Instr.findAsking kt (K p) (e::r) 0).run Tryz.prog w:=by
    simp[Instr.findKey,run_underlying hd,Instr.findNow,h1,hn]
   rw[hr,fL h p w _ _ 0 he]
theorem Qa (h:cF kt K) {mt et:TypeId} (hm:Tryz.prog.underlying mt=Af (.map kt et)) {z:Ak} (hz:∀w,(zeroValue et).run Tryz.prog w= .ok z w) {w:Aj} {M:Nat} {l:List (κ×Ak)} (hM:Fq K w M l) (p:κ) (ok:Bool):
  (Instr.lookup mt (.map (Af M)) (K p) ok).run Tryz.prog w= .ok (if ok then .tuple #[(Ji p l).getD z,.bool (Ji p l).isSome]else (Ji p l).getD z) w:=by
 obtain⟨es,clock,hb,he⟩:=hM;have hobj:(getObj M).run Tryz.prog w= .ok (.map es clock) w:=by simp[getObj,Sem.run,hb]
 have hck:=h.check es.isEmpty p w;have hf:=Vm h p w es.toList l he;unfold Ji
 cases hi:Ld p l 0 with
 |none=>
  rw[hi]at hf;simp only[Instr.lookup,Sem.run_bind,run_underlying hm,Result.andThen_ok,hobj,Sem.run_pure,hck,hf,hz];rfl
 |some r=>
  rw[hi]at hf;simp only[Instr.lookup,Sem.run_bind,run_underlying hm,Result.andThen_ok,hobj,Sem.run_pure,hck,hf];rfl
theorem zI (h:cF kt K) {mt et:TypeId} (hm:Tryz.prog.underlying mt=Af (.map kt et)) {w:Aj} {M:Nat} {l:List (κ×Ak)} (hM:Fq K w M l) (p:κ) (v:Ak):
  ∃w',(Instr.mapUpdate mt (.map (Af M)) (K p) v).run Tryz.prog w= .ok () w'∧Fq K w' M (Ma p v l)∧w.grownBy w' (Af M):=by
 obtain⟨es,clock,hb,he⟩:=hM;have hlt:M<w.heap.size:=(Au.1 hb).1;have hobj:(getObj M).run Tryz.prog w= .ok (.map es clock) w:=by simp[getObj,Sem.run,hb]
 have hset:∀o,(setObj M o).run Tryz.prog w= .ok () {w with heap:=w.heap.setIfInBounds M o}:=by intro o;simp[setObj,Sem.run,hb]
 have hck:=h.check false p w
 have hgr:∀o,w.grownBy {w with heap:=w.heap.setIfInBounds M o} (Af M):=λo=>⟨rfl,rfl,rfl,Cn,λi _ hi=>by
  have:M≠i:=λe=>hi (by rw[e]);simp[this]⟩
 have hf:=Vm h p w es.toList l he
 have hidx:∀(l:List (κ×Ak)) (n i:Nat) (v:Ak),Ld p l n=Af (i,v)→n≤i∧∃q,l[i-n]? =Af q∧q.1=p:=by
  intro l
  induction l with
  |nil=>intro n i v hh;simp[Ld]at hh
  |cons q l ih=>
   intro n i v hh;unfold Ld at hh;by_cases hpq:p=q.1
   ·rw[if_pos hpq]at hh;injection hh with hh;injection hh with h1 h2;subst h1;exact⟨Am _,q,Cn,hpq.symm⟩
   ·rw[if_neg hpq]at hh;obtain⟨h1,q',h2,h3⟩:=ih (n+1) i v hh;refine⟨Ci,q',?_,h3⟩;have e:i-n=(i-(n+1))+1:=Ci;rw[e,List.getElem?_cons_succ];exact h2
 unfold Ma
 cases hi:Ld p l 0 with
 |none=>
  rw[hi]at hf;refine⟨{w with heap:=w.heap.setIfInBounds M (.map (es.push {key:=K p,val:=v,born:=clock}) (clock+1))},?_,⟨es.push {key:=K p,val:=v,born:=clock},clock+1,by simp[hlt],?_⟩,hgr _⟩
  ·simp only[Instr.mapUpdate,Sem.run_bind,run_underlying hm,Result.andThen_ok,hobj,hck,hf,hset]
  ·simp[he]
 |some r=>
  obtain⟨i,u⟩:=r;rw[hi]at hf;obtain⟨_,q,hq,hqp⟩:=hidx l 0 i u hi;rw[Nat.sub_zero]at hq
  have hei:∃e,es[i]? =Af e∧e.key=K p:=by
   have h1:(es.toList.map (λe=>(e.key,e.val)))[i]? =(l.map λq=>(K q.1,q.2))[i]? :=by rw[he]
   rw[List.getElem?_map,List.getElem?_map,hq]at h1;simp only[Option.map_some,Array.getElem?_toList]at h1
   cases hes:es[i]? with
   |none=>rw[hes]at h1;simp at h1
   |some e=>
    rw[hes]at h1;simp at h1;exact⟨e,rfl,by rw[h1.1,hqp]⟩
  obtain⟨e,hj',hk⟩:=hei;have hst:(Instr.keyThatStays (K p) (K p)).run Tryz.prog w= .ok (K p) w:=by simp[Instr.keyThatStays,h.bits p]
  refine⟨{w with heap:=w.heap.setIfInBounds M (.map (es.modify i λe=>{e with key:=K p,val:=v}) clock)},?_,⟨es.modify i λe=>{e with key:=K p,val:=v},clock,by simp[hlt],?_⟩,hgr _⟩
  ·simp only[Instr.mapUpdate,Sem.run_bind,run_underlying hm,Result.andThen_ok,hobj,hck,hf,hset,hj',Option.map_some,Option.getD_some,hk,hst]
  ·apply List.ext_getElem?;intro k;have hk':(es.toList.map (λe=>(e.key,e.val)))[k]? =(l.map λq=>(K q.1,q.2))[k]? :=by rw[he]
   rw[List.getElem?_map,List.getElem?_map]at hk'⊢;rw[Array.toList_modify,List.getElem?_modify,List.getElem?_set];have hil:i<l.length:=(Ax.1 hq).1;by_cases hik:i=k
   ·subst hik;have hes:es.toList[i]? =Af e:=by simpa using hj'
    simp[hes,hil]
   ·simp only[hik,if_false];simpa using hk'
theorem Po (hk:cF kt K) {mt et:TypeId} (hmt:Tryz.prog.underlying mt=Af (.map kt et)) {z:Ak} (hz:∀w,(zeroValue et).run Tryz.prog w= .ok z w) (w:Aj) {ops:Array Oper} {rest:List Oper} {o:Oper} {a:Act} {Q:Exit→Act→Aj→Prop}
  (hg:o.guard=Ae) (m x:Operand) (ok:Bool) (hop:o.op=Op.lookup mt m x ok) (M:Nat) (l:List (κ×Ak)) (p:κ) (hm:a.eval m= .map (Af M)) (hx:a.eval x=K p) (h:Fq K w M l)
  (hK:wpList Tryz.prog ops Q rest (a.put o.dst (if ok then .tuple #[(Ji p l).getD z,.bool (Ji p l).isSome]else (Ji p l).getD z)) w):
  wpList Tryz.prog ops Q (o::rest) a w:=by
 refine wpList_plain hg λK' hK'=>?_;have hrun:=Qa hk hmt hz h p ok;unfold Oper.wp;simp only[execOp,hop,hm,hx,hrun,Sem.run_bind,Result.andThen_ok];exact hK' _ _ hK
theorem Mx (hk:cF kt K) {mt et:TypeId} (hmt:Tryz.prog.underlying mt=Af (.map kt et)) (w:Aj) {ops:Array Oper} {rest:List Oper} {o:Oper} {a:Act} {Q:Exit→Act→Aj→Prop}
  (hg:o.guard=Ae) (m x v:Operand) (hop:o.op=Op.mapUpdate mt m x v) (M:Nat) (l:List (κ×Ak)) (p:κ) (u:Ak) (hm:a.eval m= .map (Af M)) (hx:a.eval x=K p) (hv:a.eval v=u) (h:Fq K w M l)
  (hK:∀w',Fq K w' M (Ma p u l)→w.grownBy w' (Af M)→wpList Tryz.prog ops Q rest (a.put o.dst undef) w'):
  wpList Tryz.prog ops Q (o::rest) a w:=by
 refine wpList_plain hg λK' hK'=>?_;obtain⟨w',hrun,h1,h2⟩:=zI hk hmt h p u;unfold Oper.wp;simp only[execOp,hop,hm,hx,hv,hrun,Sem.run_bind,Result.andThen_ok];exact hK' _ _ (hK w' h1 h2)
end
theorem Fq.kept {κ:Type} {K:κ→Ak} {w w':Aj} {M:Nat} {l:List (κ×Ak)} {row:Option Nat} (h:Fq K w M l) (hg:w.grownBy w' row) (hne:Af M≠row):Fq K w' M l:=by
 obtain⟨es,clock,hb,hes⟩:=h;exact⟨es,clock,(hg.block M (Au.1 hb).1 hne).trans hb,hes⟩
theorem Fq.below {κ:Type} {K:κ→Ak} {w w':Aj} {M N:Nat} {l:List (κ×Ak)} (h:Fq K w M l) (hb:Below N w w') (hN:M<N):Fq K w' M l:=by
 obtain⟨es,clock,hm,hes⟩:=h;exact⟨es,clock,_root_.Go.Proofs.YthpcfeifmdbhnaaGreatDoor.kept hb hm hN,hes⟩
theorem Fq.lt {κ:Type} {K:κ→Ak} {w:Aj} {M:Nat} {l:List (κ×Ak)} (h:Fq K w M l):M<w.heap.size:=by
 obtain⟨es,clock,hm,hes⟩:=h;exact(Au.1 hm).1
theorem Qb {κ:Type} (K:κ→Ak) (w:Aj):Fq K (w.alloc (.map #[] 0)) w.heap.size []:=⟨#[],0,Bz w _,Cn⟩
def unK (u:Int×Int):Ak:= .agg #[Aa Ab u.1,Aa Ac u.2]
theorem Ba1:Tryz.prog.underlying 3=Af (.int .i64):=Cm
theorem Bd4:Tryz.prog.underlying 5=Af (.int .u8):=Cm
theorem vT:Tryz.prog.stoodInHeld 126=false:=Cm
theorem Ap1 (a b:Int) (w:Aj):(part 3 #[Value.int .i64 a,Aa Ac b] 0).run Tryz.prog w= .ok (Aa Ab a) w:=Cm
theorem Ap2 (a b:Int) (w:Aj):(part 5 #[Value.int .i64 a,Aa Ac b] 1).run Tryz.prog w= .ok (Aa Ac b) w:=Cm
theorem gD (d:Nat) (a b:Int) (w:Aj):(Op.equalIn (d+1) 3 (Aa Ab a) (Aa Ab b)).run Tryz.prog w= .ok (a==b) w:=by
 simp[Op.equalIn,run_underlying Ba1]
theorem qG (d:Nat) (a b:Int) (w:Aj):(Op.equalIn (d+1) 5 (Aa Ac a) (Aa Ac b)).run Tryz.prog w= .ok (a==b) w:=by
 simp[Op.equalIn,run_underlying Bd4]
theorem oW (p q:Int×Int) (w:Aj):(Op.equal 126 (unK p) (unK q)).run Tryz.prog w= .ok (decide (p=q)) w:=by
 obtain⟨a,b⟩:=p;obtain⟨a',b'⟩:=q
 have h:∀n,(Op.equalIn (n+1+1) 126 (unK (a,b)) (unK (a',b'))).run Tryz.prog w= .ok (decide ((a,b)=(a',b'))) w:=by
  intro n;unfold Op.equalIn;simp only[Sem.run_bind,run_underlying Tryz.underlying126,Result.andThen_ok,unK,run_program,vT,Bool.false_eq_true,if_false];simp[Ap1,Ap2,gD,qG];by_cases h0:a=a'<;>by_cases h1:b=b'<;>simp[h0,h1]
 exact h 9998
theorem Nr:cF (κ:=Int×Int) 126 unK where
 now:=⟨_,Tryz.underlying126,λp q=>rfl⟩
 eq:=oW
 check:=λb p w=>Cm
 bits:=λp=>by
  have h:∀n,Instr.sameBits (n+1+1) (unK p) (unK p)=true:=by intro n;simp[Instr.sameBits,unK]
  exact h 9998
theorem Vl (r:Cr) (c e:Int) (w:Aj) (hr:r.fit) (hc:0≤c∧c≤1024) (he:0≤e∧e≤255):
  Al Tryz.prog 232 #[.agg #[Aa Ab r.c,Aa Ac r.e,Aa Ac r.k],.agg #[Aa Ab c,Aa Ac e]] w (Co (Aa Ab (Gd r.c r.e c e)) w):=by
 obtain⟨R,hR⟩:=ey (Gd r.c r.e c e);rw[hR];have HR:=Ah hR;have hf1:=hr.1;have hf2:=hr.2.1;obtain⟨n1,n2⟩:=Zx w (.cells #[Aa Ab r.c,Aa Ac r.e,Aa Ac r.k] 124) (.cells #[Aa Ab c,Aa Ac e] 126);have hb1:Below w.heap.size w ((w.alloc (.cells #[Aa Ab r.c,Aa Ac r.e,Aa Ac r.k] 124)).alloc (.cells #[Aa Ab c,Aa Ac e] 126)):=((Ag _ _).alloc (Am _) _).alloc Cn _;clear hR hr;go_enter Tryz.func232,Tryz.ntmps232;go_upto_region 1 with fail;obtain⟨W,hW⟩:=ez ((w.alloc (.cells #[Aa Ab r.c,Aa Ac r.e,Aa Ac r.k] 124)).alloc (.cells #[Aa Ab c,Aa Ac e] 126));rw[←hW]at n1 n2 hb1⊢;obtain⟨N,hN⟩:=ez w.heap.size;rw[←hN]at n1 n2⊢;obtain⟨⟨x0,x1,x2⟩,_⟩:=Cv n1;obtain⟨⟨y0,y1⟩,_⟩:=Cy n2;clear hW n1 n2 hN
 go_region_held3 (λw'=>w'.cell? ⟨N,0,Ae⟩=Af (Aa Ab r.c)∧w'.cell? ⟨N,1,Ae⟩=Af (Aa Ac r.e)∧w'.cell? ⟨N,2,Ae⟩=Af (Aa Ac r.k)∧w'.cell? ⟨N+1,0,Ae⟩=Af (Aa Ab c)∧w'.cell? ⟨N+1,1,Ae⟩=Af (Aa Ac e))
  (first|exact⟨x0,x1,x2,y0,y1⟩|go_keep)
  (first
   |(go_at_call 106;(with_reducible refine(Tt _ _ _ _).mono ?_);rintro e' w6 ⟨rfl,hb6⟩;have hb1:=hb1.trans ((Cu hb6).mono hb1.size);have x0:=Cj (Cu hb6) x0;have x1:=Cj (Cu hb6) x1;have x2:=Cj (Cu hb6) x2;have y0:=Cj (Cu hb6) y0;have y1:=Cj (Cu hb6) y1)
   |(go_at_call 107;(with_reducible refine(aZ r.c r.e c e _ hf1 hc hf2 he).mono ?_);rintro e' w6 ⟨rfl,hb6⟩;rw[HR.out];have hb1:=hb1.trans (hb6.mono hb1.size);have x0:=Cj hb6 x0;have x1:=Cj hb6 x1;have x2:=Cj hb6 x2;have y0:=Cj hb6 y0;have y1:=Cj hb6 y1)
   |fail)
 all_goals
  go_wp2;go_ret;exact⟨rfl,hb1⟩
def cE (l:List Cr) (c e:Int) (i:Nat) (is:Bool):Prop:=
 i≤l.length∧(∀k (hk:k<l.length),k<i→Gd l[k].c l[k].e c e<0)∧(∀k (hk:k<l.length),i≤k→0≤Gd l[k].c l[k].e c e)∧(is=true↔∃r,l[i]? =Af r∧Gd r.c r.e c e=0)
def pC (l:List Cr) (c e:Int) (w:Aj) (en:Ending) (w':Aj):Prop:=
 Below w.heap.size w w'∧∃i is,cE l c e i is∧en= .returned (.tuple #[Aa Ab ((i:Nat):Int),.bool is])
theorem uB {a b:Cr} (h:Gd a.c a.e b.c b.e<0) (c e:Int) (hb:Gd b.c b.e c e<0):Gd a.c a.e c e<0:=by
 unfold Gd at*
 repeat' split at h
 all_goals repeat' split at hb
 all_goals repeat' split
 all_goals omega
theorem mW {a b:Cr} (h:Gd a.c a.e b.c b.e<0) (c e:Int) (ha:0≤Gd a.c a.e c e):0<Gd b.c b.e c e:=by
 unfold Gd at*
 repeat' split at h
 all_goals repeat' split at ha
 all_goals repeat' split
 all_goals omega
theorem rV (A:Option Addr) (l:List Cr) (n cc:Nat) (c e:Int) (w:Aj) (hn:n=l.length) (h:Rd w A 3 n (crs l)) (hf:∀r∈l,r.fit) (ha:l.Pairwise λr q=>Gd r.c r.e q.c q.e<0) (hl:n≤1000000) (hc:0≤c∧c≤1024) (he:0≤e∧e≤255):
  Al Tryz.prog 231 #[Ad A n cc,.agg #[Aa Ab c,Aa Ac e],.func (.func 232) #[] #[]] w (pC l c e w):=by
 have HN:=Ah hn;have HRD:=Ah h;have HF:=Ah hf;have HA:=Ah ha;have hn1:(w.alloc (.cells #[Aa Ab c,Aa Ac e] 126)).heap[w.heap.size]? =Af (.cells #[Aa Ab c,Aa Ac e] 126 (0,0)):=Bz w _;have hb1:Below w.heap.size w (w.alloc (.cells #[Aa Ab c,Aa Ac e] 126)):=(Ag _ _).alloc (Am _) _;have hz1:w.heap.size<(w.alloc (.cells #[Aa Ab c,Aa Ac e] 126)).heap.size:=Cn;clear hn h hf ha;go_enter Tryz.func231,Tryz.ntmps231;go_upto_region 1 with fail;obtain⟨W,hW⟩:=ez (w.alloc (.cells #[Aa Ab c,Aa Ac e] 126));rw[←hW]at hn1 hb1 hz1⊢;obtain⟨N,hN⟩:=ez w.heap.size;rw[←hN]at hn1 hz1⊢;have N1:=Ah hn1;clear hW hn1 hN;go_wp2
 go_loopw [9,10,11] (λx y _ wr=>∃i j:Nat,i≤j∧j≤n∧x= Aa Ab i∧y= Aa Ab j∧wr.heap[N]? =Af (.cells #[Aa Ab c,Aa Ac e] 126 (0,0))∧N<wr.heap.size∧Below w.heap.size w wr∧Hid (∀k (hk:k<l.length),k<i→Gd l[k].c l[k].e c e<0)∧Hid (∀k (hk:k<l.length),j≤k→0≤Gd l[k].c l[k].e c e)) (λx y _ _=>(intOf y).toNat-(intOf x).toNat)
 case atStart=>exact⟨0,n,Ci,Ci,rfl,rfl,N1.out,hz1,hb1,Ah (λk hk hk'=>Ci),Ah (λk hk hk'=>by have:=HN.out;omega)⟩
 case round=>
  obtain⟨i,j,hij,hjn,rfl,rfl,hbk,hNr,hbr,H1,H2⟩:=hrel;have HBK:=Ah hbk;obtain⟨⟨u0,u1⟩,_⟩:=Cy hbk;have hrd:=HRD.out.below hbr;have hlen:=HN.out;rw[hlen]at hrd;clear hbk;by_cases hlt:i<j
  ·obtain⟨m,hm⟩:=ez ((i+j)/2);have hml:m<l.length:=Ci;obtain⟨bb,o,hA,hbl,c0,c1,c2⟩:=Qz hrd m hml;have hft:=HF.out l[m] (Ay _);obtain⟨r,hr⟩:=ey (l[m]);rw[hr]at c0 c1 c2 hft;have HR:=Ah hr;have HM:=Ah hm;have HFT:=Ah hft;have q1:(i:Int)<(j:Int):=Ci;have q2:((i:Int)+(j:Int))/2=(m:Int):=Ci;have q3:(m:Int)<(n:Int):=Ci;have q4:i≤m:=Ci;have q5:m<j:=Ci;clear hr hm hrd hlen hft;subst hA;go_wp2
   go_still_tail 6,Cm
   change wpList _ _ _ _ _ wr.drew;go_wp2_with fail;refine(Vl r c e _ HFT.out hc he).mono ?_;rintro e' w2 ⟨rfl,hb2'⟩;have hb2:=Cu hb2';have hbel2:Below w.heap.size w w2:=hbr.trans (hb2.mono hbr.size);have K2:=Ah (kept hb2 HBK.out hNr);have hN2:N<w2.heap.size:=Bq hNr hb2.size;obtain⟨O,hO⟩:=ey (Gd r.c r.e c e);rw[hO];have HO:=Ah hO;clear c0 c1 c2 u0 u1 hb2 hb2' q2 hO;by_cases hJ:O<0
   ·have HJ:=Ah hJ;have hd:decide (O<0)=true:=by simpa using hJ
    go_wp2
    go_roundw
    case rel=>
     refine⟨m+1,j,Ci,Ci,by go_num,rfl,K2.out,hN2,hbel2,Ah (λk hk hki=>?_),H2⟩;rcases Nat.lt_or_ge k m with h'|h'
     ·have h3:=List.pairwise_iff_getElem.1 HA.out k m hk hml h';rw[HR.out]at h3;exact uB h3 c e (by rw[HO.out];exact hJ)
     ·obtain rfl:k=m:=Ci;rw[HR.out,HO.out];exact hJ
    case measure=>simp[intOf];omega
   ·have hd:decide (O<0)=false:=by simpa using hJ
    go_wp2
    go_roundw
    case rel=>
     refine⟨i,m,Ci,Ci,rfl,rfl,K2.out,hN2,hbel2,H1,Ah (λk hk hki=>?_)⟩;rcases Nat.lt_or_ge m k with h'|h'
     ·have h3:=List.pairwise_iff_getElem.1 HA.out m k hml hk h';rw[HR.out]at h3;have h4:=mW h3 c e (by rw[HO.out];omega);omega
     ·obtain rfl:k=m:=Ci;rw[HR.out,HO.out];omega
    case measure=>simp[intOf];omega
  ·obtain rfl:i=j:=Ci;have q1:¬(i:Int)<(i:Int):=Ci;by_cases hi:i<n
   ·have hil:i<l.length:=Ci;obtain⟨bb,o,hA,hbl,c0,c1,c2⟩:=Qz hrd i hil;have hft:=HF.out l[i] (Ay _);obtain⟨r,hr⟩:=ey (l[i]);rw[hr]at c0 c1 c2 hft;have HR:=Ah hr;have HFT:=Ah hft;have q2:decide ((i:Int)<(n:Int))=true:=by simp;omega
    have q3:(i:Int)<(n:Int):=Ci;clear hr hrd hlen hft;subst hA;go_wp2_with fail
    go_region_held3 (λw'=>w'.cell? ⟨bb,o+i*3,Ae⟩=Af (Aa Ab r.c)∧w'.cell? ⟨bb,o+i*3+1,Ae⟩=Af (Aa Ac r.e)∧w'.cell? ⟨bb,o+i*3+2,Ae⟩=Af (Aa Ac r.k)∧w'.cell? ⟨N,0,Ae⟩=Af (Aa Ab c)∧w'.cell? ⟨N,1,Ae⟩=Af (Aa Ac e))
     (first|exact⟨c0,c1,c2,u0,u1⟩|go_keep)
     (first
      |(go_at_call 232;(with_reducible refine(Vl r c e _ HFT.out hc he).mono ?_);rintro e' w6 ⟨rfl,hb6⟩;have hbr:=hbr.trans ((Cu hb6).mono hbr.size);have c0:=Cj (Cu hb6) c0;have c1:=Cj (Cu hb6) c1;have c2:=Cj (Cu hb6) c2;have u0:=Cj (Cu hb6) u0;have u1:=Cj (Cu hb6) u1)
      |fail)
    all_goals
     go_wp2_with fail
     go_ret2
     refine⟨hbr,i,Gd r.c r.e c e==0,⟨Ci,H1.out,H2.out,?_⟩,rfl⟩;rw[Aw hil,HR.out];simp
   ·have q2:decide ((i:Int)<(n:Int))=false:=by simp;omega
    have hln:l.length≤i:=Ci;have hln2:i≤l.length:=Ci;clear hlen hrd;go_wp2
    go_quiet (fail)
    go_wp2_with fail
    go_ret2
    refine⟨Dg hbr _,i,false,⟨hln2,H1.out,H2.out,?_⟩,rfl⟩;rw[List.getElem?_eq_none hln];simp
theorem xP (A:Option Addr) (l:List Cr) (n cc:Nat) (c e:Int) (w:Aj) (hn:n=l.length) (h:Rd w A 3 n (crs l)) (hf:∀r∈l,r.fit) (ha:l.Pairwise λr q=>Gd r.c r.e q.c q.e<0) (hl:n≤1000000) (hc:0≤c∧c≤1024) (he:0≤e∧e≤255):
  Al Tryz.prog 186 #[Ad A n cc,.agg #[Aa Ab c,Aa Ac e]] w (pC l c e w):=by
 have hb:=rV A l n cc c e (w.alloc (.cells #[Aa Ab c,Aa Ac e] 126)) hn (h.alloc _) hf ha hl hc he;have HB:=Ah hb;clear hb hn h hf ha;go_enter Tryz.func186,Tryz.ntmps186;go_wp2_with fail;refine HB.out.mono ?_;rintro e' w2 ⟨hb2,i,is,hat,rfl⟩;have HAT:=Ah hat;clear hat;go_wp2_with fail
 go_ret2
 exact⟨((Ag _ _).alloc (Am _) _).trans (hb2.mono Cn),i,is,HAT.out,rfl⟩
def Ay3 (l:List Cr) (c e:Int) (w:Aj) (en:Ending) (w':Aj):Prop:=
 Below w.heap.size w w'∧∃i is,cE l c e i is∧en= .returned (.tuple #[.agg #[Aa Ab c,Aa Ac e],Aa Ab ((i:Nat):Int),.bool is,Aa Ab 0])
theorem Ay8 (a b:Int) (A:Option Addr) (l:List Cr) (n cc:Nat) (id e c':Int) (w:Aj) (hn:n=l.length) (h:Rd w A 3 n (crs l)) (hp:Gx a b l) (hQ:Qt w) (hnm:Dl a b id e=(c',e,0)) (hc:0≤c'∧c'≤1024) (he:0≤e∧e≤255):
  Al Tryz.prog 140 #[.agg #[Aa Ab a,Aa Ab b,Ad A n cc],Aa Ab id,Aa Ac e] w (Ay3 l c' e w):=by
 have HN:=Ah hn;have HRD:=Ah h;have HP:=Ah hp;have HNM:=Ah hnm;have hlen:n≤1000000:=by have:=hp.len;omega
 obtain⟨n1,n2⟩:=Zx w (.cells #[Aa Ab a,Aa Ab b,Ad A n cc] 28) (.cells #[Aa Ab 0,Aa Ac 0] 126);have hb1:Below w.heap.size w ((w.alloc (.cells #[Aa Ab a,Aa Ab b,Ad A n cc] 28)).alloc (.cells #[Aa Ab 0,Aa Ac 0] 126)):=((Ag _ _).alloc (Am _) _).alloc Cn _;have hz1:w.heap.size+1<((w.alloc (.cells #[Aa Ab a,Aa Ab b,Ad A n cc] 28)).alloc (.cells #[Aa Ab 0,Aa Ac 0] 126)).heap.size:=Cn;clear hn h hp hnm;go_enter Tryz.func140,Tryz.ntmps140;go_upto_region 1 with fail;obtain⟨W,hW⟩:=ez ((w.alloc (.cells #[Aa Ab a,Aa Ab b,Ad A n cc] 28)).alloc (.cells #[Aa Ab 0,Aa Ac 0] 126));rw[←hW]at n1 n2 hb1 hz1⊢;obtain⟨N,hN⟩:=ez w.heap.size;rw[←hN]at n1 n2 hz1⊢;have HNN:=Ah hN;have N1:=Ah n1;have N2:=Ah n2;obtain⟨⟨x0,x1,x2⟩,_⟩:=Cv n1;clear hW n1 n2 hN;go_wp2_with fail;refine(Uu a b A l n cc _ HN.out (HRD.out.below hb1) HP.out (hQ.below hb1)).mono ?_;rintro e' w2 ⟨rfl,hb2⟩;have hb2':Below w.heap.size w w2:=hb1.trans (hb2.mono hb1.size);have M1:=Ah (kept hb2 N1.out Ci);have M2:=Ah (kept hb2 N2.out hz1);obtain⟨⟨y0,y1,y2⟩,_⟩:=Cv M1.out;have hz2:N+1<w2.heap.size:=Bq hz1 hb2.size;clear x0 x1 x2 hb2 N1 N2;go_wp2_with fail;refine(Ta a b id e _ HP.out.sheet he.1 (hQ.below hb2')).mono ?_;rintro e' w3 ⟨rfl,hb3⟩;rw[HNM.out];unfold Pn;dsimp only;have hb3':Below w.heap.size w w3:=hb2'.trans (hb3.mono hb2'.size);have P1:=Ah (kept hb3 M1.out Ci);have P2:=Ah (kept hb3 M2.out hz2);obtain⟨⟨z0,z1,z2⟩,_⟩:=Cv P1.out;have hz3:N+1<w3.heap.size:=Bq hz2 hb3.size;have hz3':N<w3.heap.size:=Ci;have hs3:=hb3'.size;clear y0 y1 y2 hb3 M1 M2;go_wp2_with fail;have hb4:Below w.heap.size w (w3.alloc (.cells #[Aa Ab c',Aa Ac e] 126)):=hb3'.alloc hs3 _;refine(xP A l n cc c' e _ HN.out (HRD.out.below hb4) HP.out.fit HP.out.asc hlen hc he).mono ?_;rintro e' w5 ⟨hb5,i,is,hat,rfl⟩;have HAT:=Ah hat
 have hb5':Below w.heap.size w w5:=hb4.trans (hb5.mono hb4.size);have Q2:w5.heap[N+1]? =Af (.cells #[Aa Ab 0,Aa Ac 0] 126 (0,0)):=kept hb5 ((Below.heap_alloc _ _ _ hz3).trans P2.out) (by simp;omega);have Q3:w5.heap[w3.heap.size]? =Af (.cells #[Aa Ab c',Aa Ac e] 126 (0,0)):=kept hb5 (Bz w3 _) Cn;obtain⟨⟨r0,r1⟩,v0,v1⟩:=Cy Q2;obtain⟨⟨s0,s1⟩,_⟩:=Cy Q3;clear hat hb5 Q2 Q3 z0 z1 z2;go_wp2_with fail;refine Ai (v:= .tuple #[.agg #[Aa Ab c',Aa Ac e],Aa Ab ((i:Nat):Int),.bool is,Aa Ab 0]) (by simp[results,Tryz.results140,go_sem,r0,r1]) rfl ⟨?_,i,is,HAT.out,rfl⟩;have h9:=HNN.out;exact(hb5'.setCell (by simp;omega) _).setCell (by simp;omega) _
theorem sJ (a b:Int) (w:Aj) (hs:okS a b=true):
  Al Tryz.prog 42 #[.agg #[Aa Ab a,Aa Ab b]] w (Co (.tuple #[.agg #[Aa Ab a,Aa Ab b,Ad Ae 0 0],Aa Ab 0]) w):=by
 have HS:=Ah hs;obtain⟨n1,n2⟩:=Zx w (.cells #[Aa Ab a,Aa Ab b] 25) (.cells #[Aa Ab 0,Aa Ab 0,Ad Ae 0 0] 28);have hb1:Below w.heap.size w ((w.alloc (.cells #[Aa Ab a,Aa Ab b] 25)).alloc (.cells #[Aa Ab 0,Aa Ab 0,Ad Ae 0 0] 28)):=((Ag _ _).alloc (Am _) _).alloc Cn _;have hz1:w.heap.size+1<((w.alloc (.cells #[Aa Ab a,Aa Ab b] 25)).alloc (.cells #[Aa Ab 0,Aa Ab 0,Ad Ae 0 0] 28)).heap.size:=Cn;clear hs;go_enter Tryz.func42,Tryz.ntmps42;go_upto_region 1 with fail;obtain⟨W,hW⟩:=ez ((w.alloc (.cells #[Aa Ab a,Aa Ab b] 25)).alloc (.cells #[Aa Ab 0,Aa Ab 0,Ad Ae 0 0] 28));rw[←hW]at n1 n2 hb1 hz1⊢;obtain⟨N,hN⟩:=ez w.heap.size;rw[←hN]at n1 n2 hz1⊢;have HNN:=Ah hN;obtain⟨⟨x0,x1⟩,_⟩:=Cy n1;have N1:=Ah n1;have N2:=Ah n2;clear hW n1 n2 hN;go_wp2_with fail;refine(Ew a b _).mono ?_;rintro e' w2 ⟨rfl,hb2⟩;rw[HS.out,Gz];have hb2':Below w.heap.size w w2:=hb1.trans (hb2.mono hb1.size);obtain⟨⟨y0,y1⟩,_⟩:=Cy (kept hb2 N1.out Ci);obtain⟨⟨r0,r1,r2⟩,v0,v1,v2⟩:=Cv (kept hb2 N2.out hz1);clear x0 x1 hb2;go_wp2_with fail;refine Ai (v:= .tuple #[.agg #[Aa Ab a,Aa Ab b,Ad Ae 0 0],Aa Ab 0]) (by simp[results,Tryz.results42,go_sem,r0,r1,r2]) rfl ⟨rfl,?_⟩;have h9:=HNN.out;exact((hb2'.setCell (by simp;omega) _).setCell (by simp;omega) _).setCell (by simp;omega) _
def Cx (l:List Cr) (c e:Int):Int:=match l.find? λr=>decide (r.c=c)&&decide (r.e=e)with
 |some r=>r.k
 |none=>0
theorem dP {c e c' e':Int}:Gd c e c' e'=0↔c=c'∧e=e':=by
 unfold Gd
 split
 ·rename_i h;constructor
  ·intro h2;exact⟨h,Ci⟩
  ·rintro⟨_,h2⟩;omega
 ·rename_i h;constructor
  ·intro h2;exact absurd Ci h
  ·rintro⟨h2,_⟩;exact absurd h2 h
theorem tK {l:List Cr} {c e:Int} {i:Nat} {is:Bool} (hf:cE l c e i is) (ha:l.Pairwise λr q=>Gd r.c r.e q.c q.e<0):
  (is=true→∃hi:i<l.length,Cx l c e=l[i].k)∧(is=false→Cx l c e=0):=by
 obtain⟨h1,h2,h3,h4⟩:=hf
 constructor
 ·intro his;obtain⟨r,hr,h0⟩:=h4.1 his;obtain⟨hi,hri⟩:=Ax.1 hr;refine⟨hi,?_⟩;unfold Cx;have hz:=dP.1 h0
  have hfind:l.find? (λr=>decide (r.c=c)&&decide (r.e=e))=Af l[i]:=by
   rw[List.find?_eq_some_iff_getElem];refine⟨by rw[hri];simp[hz.1,hz.2],i,hi,rfl,λk hk=>?_⟩;have hlt:=h2 k Ci hk;simp only[Bool.not_eq_true',Bool.and_eq_false_iff,decide_eq_false_iff_not];by_cases hc:l[k].c=c
   ·right;intro he;have:=dP.2 ⟨hc,he⟩;omega
   ·left;exact hc
  rw[hfind]
 ·intro his;unfold Cx
  have hfind:l.find? (λr=>decide (r.c=c)&&decide (r.e=e))=Ae:=by
   rw[List.find?_eq_none];intro r hr hp;simp only[Bool.and_eq_true,decide_eq_true_eq]at hp;obtain⟨k,hk,rfl⟩:=Be.1 hr;have h0:Gd l[k].c l[k].e c e=0:=dP.2 hp
   have hik:i≤k:=by
    by_cases h:k<i
    ·have:=h2 k hk h;omega
    ·omega
   have hil:i<l.length:=Ci
   have hi0:Gd l[i].c l[i].e c e=0:=by
    rcases Nat.lt_or_eq_of_le hik with h|h
    ·have h5:=List.pairwise_iff_getElem.1 ha i k hil hk h;rw[hp.1,hp.2]at h5;have:=h3 i hil (Am _);omega
    ·subst h;exact h0
   have:is=true:=h4.2 ⟨l[i],Cn,hi0⟩;rw[his]at this;cases this
  rw[hfind]
theorem qJ (a b:Int) (A:Option Addr) (l:List Cr) (n cc:Nat) (id e c':Int) (w:Aj) (hn:n=l.length) (h:Rd w A 3 n (crs l)) (hp:Gx a b l) (hQ:Qt w) (hnm:Dl a b id e=(c',e,0)) (hc:0≤c'∧c'≤1024) (he:0≤e∧e≤255):
  Al Tryz.prog 84 #[.agg #[Aa Ab a,Aa Ab b,Ad A n cc],Aa Ab id,Aa Ac e] w (Co (.tuple #[Aa Ac (Cx l c' e),Aa Ab 0]) w):=by
 have HAT:=Ah λw h hQ=>Ay8 a b A l n cc id e c' w hn h hp hQ hnm hc he;have HKF:=Ah λi is (hf:cE l c' e i is)=>tK hf hp.asc;have HRD:=Ah h;have HN:=Ah hn;have HQ:=Ah hQ;have H:=(Bx.start w).new #[Aa Ab a,Aa Ab b,Ad A n cc] 28 rfl;have hlen:l.length≤1000000:=hp.len;clear hn h hp hQ hnm hc he;go_enter Tryz.func84,Tryz.ntmps84;go_upto_region 1 with fail;obtain⟨W,hW⟩:=ez (w.alloc (.cells #[Aa Ab a,Aa Ab b,Ad A n cc] 28));rw[←hW]at H⊢;obtain⟨N,hN⟩:=ez w.heap.size;rw[←hN]at H⊢;clear hW hN;obtain⟨⟨a0,a1,a2⟩,_⟩:=Cv (H.blk 0 _ _ _ rfl);go_wp2_with fail;refine(HAT.out _ (HRD.out.below H.below) (HQ.out.below H.below)).mono ?_;rintro ee w2 ⟨hb,i,is,hfi,rfl⟩;have H2:=H.call hb;obtain⟨k1,k2⟩:=HKF.out i is hfi;clear a0 a1 a2 hb H;have l0:=H2.lt 0 rfl;obtain⟨⟨a0,a1,a2⟩,_⟩:=Cv (H2.blk 0 _ _ _ rfl)
 cases is
 ·have hk:=k2 rfl;have HK:=Ah hk;clear k1 k2 hk hfi;go_wp2_with fail
  go_ret2
  exact⟨by rw[HK.out];rfl,(H2.other _).below⟩
 ·obtain⟨hi,hk⟩:=k1 rfl;have HK:=Ah hk;have hrd:=HRD.out.below H2.below;rw[HN.out]at hrd;obtain⟨bb,o,hA,hbl,c0,c1,c2⟩:=Qz hrd i hi;have q1:(i:Int)<(n:Int):=by have:=HN.out;omega
  obtain⟨r,hr⟩:=ey (l[i]);rw[hr]at c0 c1 c2 HK;clear k1 k2 hk hfi hrd hr;subst hA;go_wp2_with fail
  go_ret2
  exact⟨by rw[HK.out];rfl,(H2.other _).below⟩
section
variable {κ:Type} [DecidableEq κ]
theorem qD (p:κ):∀(l:List (κ×Ak)) (n:Nat),Ld p l n=((Ld p l 0).map λr=>(r.1+n,r.2)):=by
 intro l
 induction l with
 |nil=>intro n;rfl
 |cons q l ih=>
  intro n;unfold Ld;by_cases h:p=q.1
  ·simp[h]
  ·rw[if_neg h,if_neg h,ih (n+1),ih (0+1)]
   cases Ld p l 0 with
   |none=>rfl
   |some r=>simp;omega
theorem Lo (p:κ) (q:κ×Ak) (l:List (κ×Ak)):Ji p (q::l)=if p=q.1 then Af q.2 else Ji p l:=by
 unfold Ji
 conv=>lhs;unfold Ld
 by_cases h:p=q.1
 ·simp[h]
 ·rw[if_neg h,if_neg h,qD]
  cases Ld p l 0<;>rfl
theorem uR (p:κ) (v:Ak) (q:κ×Ak) (l:List (κ×Ak)):Ma p v (q::l)=if p=q.1 then (p,v)::l else q::Ma p v l:=by
 unfold Ma
 conv=>lhs;unfold Ld
 by_cases h:p=q.1
 ·simp[h]
 ·rw[if_neg h,if_neg h,qD]
  cases Ld p l 0<;>simp
theorem Xl (p q:κ) (v:Ak):∀l:List (κ×Ak),Ji p (Ma q v l)=if p=q then Af v else Ji p l:=by
 intro l
 induction l with
 |nil=>
  have e:Ma q v ([]:List (κ×Ak))=[(q,v)]:=rfl;rw[e,Lo]
 |cons r l ih=>
  rw[uR];by_cases h:q=r.1
  ·rw[if_pos h,Lo,Lo];by_cases hp:p=q
   ·simp[hp]
   ·have:p≠r.1:=λe=>hp (e.trans h.symm);simp[hp,this]
  ·rw[if_neg h,Lo,Lo,ih];by_cases hp:p=r.1
   ·have:p≠q:=λe=>h (e.symm.trans hp);simp[hp];intro e;exact absurd (hp.trans e) this
   ·simp[hp]
end
def crM (l:List Cr):List ((Int×Int)×Ak):=l.foldl (λm r=>Ma (r.c,r.e) (.bool true) m) []
theorem xM (l:List Cr) (i:Nat) (h:i<l.length):crM (l.take (i+1))=Ma (l[i].c,l[i].e) (.bool true) (crM (l.take i)):=by
 unfold crM;rw[Bc h,List.foldl_append];rfl
theorem Ah7 (l:List Cr) (c e:Int):(Ji (c,e) (crM l)).getD (.bool false)= .bool (It l c e):=by
 have key:∀(l:List Cr) (m:List ((Int×Int)×Ak)),Ji (c,e) (l.foldl (λm r=>Ma (r.c,r.e) (.bool true) m) m)=if It l c e then Af (.bool true)else Ji (c,e) m:=by
  intro l
  induction l with
  |nil=>intro m;simp[It]
  |cons r l ih=>
   intro m;rw[List.foldl_cons,ih,Xl];unfold It;rw[List.any_cons];by_cases h:r.c=c∧r.e=e
   ·simp[h.1,h.2]
   ·have h':¬((c,e)=(r.c,r.e)):=λx=>h (by simp at x;exact⟨x.1.symm,x.2.symm⟩);rw[if_neg h']
    have h2:(decide (r.c=c)&&decide (r.e=e))=false:=by
     simp only[Bool.and_eq_false_iff,decide_eq_false_iff_not];by_cases hc:r.c=c
     ·right;exact λhe=>h ⟨hc,he⟩
     ·left;exact hc
    rw[h2,Bool.false_or]
 unfold crM;rw[key]
 cases It l c e with
 |true=>rfl
 |false=>rfl
theorem Bx.mapped {κ:Type} {K:κ→Ak} {w wr w':Aj} {l:List (Nat×Array Ak×TypeId)} {M:Nat} {m:List (κ×Ak)} (h:Bx w l wr) (hk:Fq K wr M m) (hg:wr.grownBy w' (Af M)) (hM:w.heap.size≤M):Bx w l w':=by
 obtain⟨es,clock,hb,_⟩:=hk;refine⟨h.below.grown hg h.below.size (λk hk=>by injection hk with hk;omega),λi g cs t hi=>?_,h.lo,h.inj⟩;have hgb:=h.blk i g cs t hi;refine(hg.block g (h.lt i hi) ?_).trans hgb;intro e;injection e with e;subst e;rw[hgb]at hb
 cases hb
def As1 {κ:Type} (K:κ→Ak) (m:List (κ×Ak)) (w:Aj) (e:Ending) (w':Aj):Prop:=∃M,e= .returned (.map (Af M))∧w.heap.size≤M∧Fq K w' M m∧Below w.heap.size w w'
theorem kV (a b:Int) (A:Option Addr) (l:List Cr) (n cc:Nat) (w:Aj) (hn:n=l.length) (h:Rd w A 3 n (crs l)) (hl:n≤1000000):
  Al Tryz.prog 109 #[.agg #[Aa Ab a,Aa Ab b,Ad A n cc]] w (As1 unK (crM l) w):=by
 have HRD:=Ah h;have HN:=Ah hn;have H:=(Bx.start w).new #[Aa Ab a,Aa Ab b,Ad A n cc] 28 rfl;clear hn h;go_enter Tryz.func109,Tryz.ntmps109;go_upto_region 1 with fail;obtain⟨W,hW⟩:=ez (w.alloc (.cells #[Aa Ab a,Aa Ab b,Ad A n cc] 28));rw[←hW]at H⊢;obtain⟨N,hN⟩:=ez w.heap.size;rw[←hN]at H⊢;have HNN:=Ah hN;clear hW hN;obtain⟨⟨a0,a1,a2⟩,_⟩:=Cv (H.blk 0 _ _ _ rfl);have hmm:(Instr.makeMap 220 (Af (Aa Ab n))).run Tryz.prog W= .ok (.map (Af W.heap.size)) (W.alloc (.map #[] 0)):=by first|rfl|simp[Instr.makeMap]
 go_upto_region 2 with fail;obtain⟨M,hM⟩:=ez W.heap.size;rw[←hM];have hMl:w.heap.size≤M:=by have:=H.below.size;omega
 have hK:=Qb unK W;rw[←hM]at hK;have H2:=H.other (.map #[] 0);obtain⟨W2,hW2⟩:=ez (W.alloc (.map #[] 0));rw[←hW2]at hK H2⊢;clear hmm hM hW2 a0 a1 a2 H;obtain⟨⟨a0,a1,a2⟩,_⟩:=Cv (H2.blk 0 _ _ _ rfl);go_wp2_with fail;clear a0 a1 a2
 go_loopw [13] (λi wr=>∃k:Nat,k≤n∧i= Aa Ab k∧Bx w [(N,#[Aa Ab a,Aa Ab b,Ad A n cc],28)] wr∧Fq unK wr M (crM (l.take k))) (λi _=>n-(intOf i).toNat)
 case atStart=>exact⟨0,Ci,rfl,H2,hK⟩
 case round=>
  obtain⟨k,hk,rfl,Hr,Kr⟩:=hrel;by_cases hlt:k<n
  ·have hkl:k<l.length:=by have:=HN.out;omega
   have hrd:=HRD.out.below Hr.below;rw[HN.out]at hrd;obtain⟨bb,o,hA,hbl,c0,c1,c2⟩:=Qz hrd k hkl;have hsn:=xM l k hkl;obtain⟨r,hr⟩:=ey (l[k]);rw[hr]at c0 c1 c2 hsn;have HSN:=Ah hsn;have q1:(k:Int)<(n:Int):=Ci;have Kr2:=Kr.below ((Ag wr.heap.size wr).alloc (Am _) (.cells #[Aa Ab r.c,Aa Ac r.e,Aa Ac r.k] 124)) Kr.lt;have Hr2:=Hr.other (.cells #[Aa Ab r.c,Aa Ac r.e,Aa Ac r.k] 124);clear hrd hsn hr;subst hA;go_wp2_with (at_mapUpdate;refine Mx Nr Tryz.underlying220 _ rfl _ _ _ rfl M (crM (l.take k)) (r.c,r.e) (.bool true) rfl rfl rfl Kr2 ?_;intro w9 hk9 hg9);exact⟨⟨k+1,Ci,by go_num,Hr2.mapped Kr2 hg9 hMl,by rw[HSN.out];exact hk9⟩,by simp[intOf];omega⟩
  ·have q1:¬(k:Int)<(n:Int):=Ci;have hkn:k=l.length:=by have:=HN.out;omega
   go_wp2;go_ret;refine⟨M,rfl,hMl,?_,Hr.below⟩;rw[hkn,List.take_length]at Kr;exact Kr
end Go.Proofs.YthpcfeifmdbhnaaGreatDoor
