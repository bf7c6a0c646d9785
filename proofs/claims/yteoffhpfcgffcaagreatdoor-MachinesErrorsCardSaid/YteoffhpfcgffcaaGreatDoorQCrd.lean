import Derived.Test.YteoffhpfcgffcaaGreatDoorQStk
import Derived.Deep.WholeRow
import Derived.Deep.RegionHeld3
import Derived.Test.YteoffhpfcgffcaaGreatDoorQCel2
import Derived.Maps.OwnOps
import Derived.Test.YteoffhpfcgffcaaGreatDoorRows
open Array renaming getElem?_eq_some_iff→Aq
open Go renaming Calls→Ai,Value→Ah,World→Ag,bodyPost_ret→Af,cell_of_row→Bs,heap_alloc_new→Bt,wpAnyH_done→Ak,wpAnyH_ready→Am,wp_region_held_drew→Al
open Go.AllReadyH renaming cons→An,nil→Ao
open Go.IntKind renaming i64→Ab,u8→Ac
open Go.IntWalk renaming i64_in→Bu
open Go.Lib renaming hid→Ae
open Go.Value renaming int→Aa,slice→Ad
open List renaming append_assoc→Bg,getElem?_eq_getElem→Ar,getElem?_eq_some_iff→As,getElem_cons_succ→Bz,getElem_cons_zero→By,getElem_mem→Au,getElem_toArray→Ca,length_map→Bk,length_take→Bj,mem_append→Bi,mem_cons→Bh,mem_iff_getElem→Ay,setIfInBounds_toArray→Cd,set_cons_succ→Cc,set_cons_zero→Cb,take_succ_eq_append_getElem→Ax
open Nat renaming le_refl→Aj,lt_of_lt_of_le→Bm,zero_add→Bp
set_option maxHeartbeats 4000000
set_option maxRecDepth 100000
namespace Go.Proofs.YteoffhpfcgffcaaGreatDoor
open Go.RowKit
theorem fK (i m P:Nat) (w:Ag) (hP:w.cell? ⟨P,0,none⟩=some (Aa Ab (m:Int))):
  Ai Tryz.prog 239 #[Aa Ab (i:Int),.pointer (some ⟨P,0,none⟩)] w (Cg (.bool (decide (m≤i))) w):=by
 have q0:¬(i:Int)<0:=by omega
 obtain⟨R,hR⟩:=ey (decide (m≤i));rw[hR];have HR:=Ae hR;clear hR;go_enter Tryz.func239,Tryz.ntmps239;by_cases h:m≤i
 ·have h':(m:Int)≤i:=by omega
  go_wp2_with fail;go_ret;exact⟨by rw[←HR.out,decide_eq_true h];simp<;>omega,Below.refl _ _⟩
 ·have h':¬(m:Int)≤i:=by omega
  go_wp2_with fail;go_ret;exact⟨by rw[←HR.out,decide_eq_false h];simp<;>omega,Below.refl _ _⟩
theorem lZ (A:Option Addr) (l:List Nat) (n c m P:Nat) (w:Ag) (hn:n=l.length) (h:Rd w A 1 n (Cz l)) (hl:n≤1000000) (hP:w.cell? ⟨P,0,none⟩=some (Aa Ab (m:Int))):
  Ai Tryz.prog 240 #[Ad A n c,.func (.func 239) #[] #[.pointer (some ⟨P,0,none⟩)]] w fun e w'=>(∃r:Int,e= .returned (Aa Ab r)∧((l.any fun i=>decide (m≤i))=decide (0≤r)))∧Below w.heap.size w w':=by
 have HRD:=Ae h;have HN:=Ae hn;clear h hn;go_enter Tryz.func240,Tryz.ntmps240;go_wp2_with fail
 go_loopw [5,8] (fun _ i wr=>∃k:Nat,k≤n∧i= Aa Ab k∧Below w.heap.size w wr∧Hid (∀j (hj:j<l.length),j<k→¬m≤l[j])) (fun _ i _=>n-(intOf i).toNat)
 case atStart=>exact⟨0,by omega,rfl,Below.refl _ _,Ae fun j _ hj=>absurd hj (by omega)⟩
 case round=>
  obtain⟨k,hk,rfl,hb,HK⟩:=hrel;by_cases hlt:k<n
  ·have hkl:k<l.length:=by have:=HN.out;omega
   obtain⟨bb,o,rfl,hbl,c0⟩:=Km (HRD.out.below hb) k hkl;have q1:(k:Int)<(n:Int):=by omega
   have hPr:=Ce hb hP;obtain⟨r,hr⟩:=ey (l[k]);have HRR:=Ae hr;rw[hr]at c0;have HC:=Ae fun w' (h:w'.cell? ⟨P,0,none⟩=some (Aa Ab (m:Int)))=>fK r m P w' h;clear hr;go_wp2_with fail;refine(HC.out _ hPr).mono ?_;rintro e w2 ⟨rfl,hb2⟩;have hb3:=hb.trans (hb2.mono hb.size);by_cases he:m≤r
   ·rw[decide_eq_true he];have HA:Hid ((l.any fun i=>decide (m≤i))=true):=Ae (by rw[List.any_eq_true];exact⟨l[k],Au _,by rw[HRR.out];simpa using he⟩);go_wp2_with fail;go_ret;exact⟨⟨k,rfl,by rw[HA.out];simp⟩,hb3⟩
   ·rw[decide_eq_false he]
    have HKN:=Ae (fun j (hj:j<l.length) (h:j<k+1)=>show¬m≤l[j]by
     by_cases hjk:j=k
     ·subst hjk;rw[HRR.out];exact he
     ·exact HK.out j hj (by omega))
    go_wp2_with fail;exact⟨⟨k+1,by omega,by go_num,hb3,HKN⟩,by simp[intOf];omega⟩
  ·have q1:¬(k:Int)<(n:Int):=by omega
   have HA:Hid ((l.any fun i=>decide (m≤i))=false):=Ae (by
    rw[List.any_eq_false];intro x hx;obtain⟨j,hj,rfl⟩:=Ay.1 hx;simpa using HK.out j hj (by have:=HN.out;omega))
   go_wp2_with fail;go_ret;exact⟨⟨-1,rfl,by rw[HA.out];rfl⟩,hb⟩
theorem xR (A:Option Addr) (l:List Nat) (n c m P:Nat) (w:Ag) (hn:n=l.length) (h:Rd w A 1 n (Cz l)) (hl:n≤1000000) (hP:w.cell? ⟨P,0,none⟩=some (Aa Ab (m:Int))):
  Ai Tryz.prog 171 #[Ad A n c,.func (.func 239) #[] #[.pointer (some ⟨P,0,none⟩)]] w (Cg (.bool (l.any fun i=>decide (m≤i))) w):=by
 have HC:=Ae (lZ A l n c m P w hn h hl hP);obtain⟨R,hR⟩:=ey ((l.any fun i=>decide (m≤i)));rw[hR]at HC⊢;clear hn h hR hl;go_enter Tryz.func171,Tryz.ntmps171;go_wp2_with fail;refine HC.out.mono ?_;rintro e w2 ⟨⟨r,rfl,hr⟩,hb⟩;go_wp2_with fail;go_ret;exact⟨by rw[hr];rfl,hb⟩
theorem Iv {P:Program} {ops:Array Oper} {rest:List Oper} {op:Oper} {a:Act} {w:Ag} {Q:Exit→Act→Ag→Prop} (hgd:op.guard=none) (t:TypeId) (x y:Operand) (ho:op.op= .store t x y)
  (c c':Array Ah) (hx:a.eval x= .pointer (some ⟨w.heap.size,0,none⟩)) (hy:a.eval y= .agg c') (hi:(P.info? t).map (·.size)=some c'.size) (hc:c.size=c'.size) (h1:c'.all (·.oneCell')=true)
  (h:wpList P ops Q rest (a.put op.dst undef) (w.alloc (.cells c' t))):wpList P ops Q (op::rest) a (w.alloc (.cells c t)):=
 wpList_plain hgd fun K hK=>by
  have hk:K (a.put op.dst undef) (w.alloc (.cells c' t)):=hK _ _ h;unfold Oper.wp execOp;simp only[ho,hx,hy,Sem.run_bind,run_storeAt_new w t c c' hi hc h1,Sem.run_pure,Result.andThen_ok];exact hk
def qln:Nat→Int
 |0=>2|1=>1|2=>2|_=>1
def qby:Nat→Int
 |0=>0|1=>1|2=>1|_=>0
def Ie (q:Nat):List Ah:=[Aa Ab (Ho q).1,Aa Ab (Ho q).2,Aa Ac (qln q),Aa Ab (qby q),
 Aa Ab (nxt q 0).1,Aa Ab (nxt q 0).2.1,Aa Ac (nxt q 0).2.2,Aa Ab (nxt q 1).1,Aa Ab (nxt q 1).2.1,Aa Ac (nxt q 1).2.2,Aa Ab (nxt q 2).1,Aa Ab (nxt q 2).2.1,Aa Ac (nxt q 2).2.2,
 Aa Ab (Pq q).1,Aa Ab (Pq q).2,Aa Ab (Pr q).1,Aa Ab (Pr q).2]
def Ir:List Ah:=Ie 0++Ie 1++Ie 2++Ie 3
structure Qf (w:Ag):Prop where
 lt:1<w.heap.size
 at':w.rangeAt 1 0 Ir
theorem Qf.below {w w':Ag} (h:Qf w) (hb:Below w.heap.size w w'):Qf w':=
 ⟨Bm h.lt hb.size,fun j v hj=>Ce hb (h.at' j v hj)⟩
theorem Qf.row {w:Ag} (h:Qf w) {q:Nat} (hq:q<4):w.rangeAt 1 (q*17) (Ie q):=by
 intro j v hj;have hj17:j<17:=(As.1 hj).1
 have:=h.at' (q*17+j) v (by
  have h4:q=0∨q=1∨q=2∨q=3:=by omega
  rcases h4 with rfl|rfl|rfl|rfl
  ·unfold Ir;rw[Bg,Bg,List.getElem?_append_left (by simp[Ie];omega)];simpa using hj
  ·unfold Ir;rw[Bg,Bg,List.getElem?_append_right (by simp[Ie]),List.getElem?_append_left (by simp[Ie];omega)];have:1*17+j-(Ie 0).length=j:=by simp[Ie]
   rw[this];exact hj
  ·unfold Ir;rw[Bg,List.getElem?_append_right (by simp[Ie]),List.getElem?_append_left (by simp[Ie];omega)];have:2*17+j-(Ie 0++Ie 1).length=j:=by simp[Ie]
   rw[this];exact hj
  ·unfold Ir;rw[List.getElem?_append_right (by simp[Ie])];have:3*17+j-(Ie 0++Ie 1++Ie 2).length=j:=by simp[Ie]
   rw[this];exact hj)
 rw[Bp]at this;exact this
theorem Qf.qt {w:Ag} (h:Qf w):Qt w:=by
 refine⟨h.lt,fun q e hq he=>?_⟩;have hr:=h.row hq;have h3:e=0∨e=1∨e=2:=by omega
 rcases h3 with rfl|rfl|rfl
 ·exact⟨hr 4 _ rfl,hr 5 _ rfl,hr 6 _ rfl⟩
 ·exact⟨hr 7 _ rfl,hr 8 _ rfl,hr 9 _ rfl⟩
 ·exact⟨hr 10 _ rfl,hr 11 _ rfl,hr 12 _ rfl⟩
def Tt (c:Cl):Ah:= .agg #[Aa Ab (2*c.x+1),Aa Ab (2*c.y+1),Aa Ab (2*c.x+(Pq c.q).1),Aa Ab (2*c.y+(Pq c.q).2),Aa Ab (2*c.x+(Pr c.q).1),Aa Ab (2*c.y+(Pr c.q).2)]
theorem Ah9 (q:Nat):(0≤(Pq q).1∧(Pq q).1≤2)∧(0≤(Pq q).2∧(Pq q).2≤2)∧(0≤(Pr q).1∧(Pr q).1≤2)∧(0≤(Pr q).2∧(Pr q).2≤2):=by
 unfold Pq Pr;split<;>decide
def Ag0 (x y u1 u2 v1 v2:Int):Nat→Array Ah
 |0=>#[Aa Ab 1,Aa Ab 1,Aa Ab u1,Aa Ab u2,Aa Ab v1,Aa Ab v2]
 |1=>#[Aa Ab (2*x+1),Aa Ab (2*y+1),Aa Ab u1,Aa Ab u2,Aa Ab v1,Aa Ab v2]
 |2=>#[Aa Ab (2*x+1),Aa Ab (2*y+1),Aa Ab (2*x+u1),Aa Ab (2*y+u2),Aa Ab v1,Aa Ab v2]
 |_=>#[Aa Ab (2*x+1),Aa Ab (2*y+1),Aa Ab (2*x+u1),Aa Ab (2*y+u2),Aa Ab (2*x+v1),Aa Ab (2*y+v2)]
theorem Sq {w:Ag} {g:Nat} {a b c d e f:Ah} {t:TypeId} (h:w.heap[g]? =some (Obj.cells #[a,b,c,d,e,f] t (0,0))):
  (w.cell? ⟨g,0,none⟩=some a∧w.cell? ⟨g,1,none⟩=some b∧w.cell? ⟨g,2,none⟩=some c∧w.cell? ⟨g,3,none⟩=some d∧w.cell? ⟨g,4,none⟩=some e∧w.cell? ⟨g,5,none⟩=some f)∧
  (w.frozen? ⟨g,0,none⟩=false∧w.frozen? ⟨g,1,none⟩=false∧w.frozen? ⟨g,2,none⟩=false∧w.frozen? ⟨g,3,none⟩=false∧w.frozen? ⟨g,4,none⟩=false∧w.frozen? ⟨g,5,none⟩=false):=by
 have hc:∀j,w.cell? ⟨g,j,none⟩= #[a,b,c,d,e,f][j]? :=fun j=>Bs w g j _ t (0,0) h;have hf:∀j,w.frozen? ⟨g,j,none⟩=false:=fun j=>by simp[World.frozen?,h]
 exact⟨⟨hc 0,hc 1,hc 2,hc 3,hc 4,hc 5⟩,hf 0,hf 1,hf 2,hf 3,hf 4,hf 5⟩
theorem dO (c:Cl) (w:Ag) (hc:c.ok=true) (hQ:Qf w):Ai Tryz.prog 158 #[.agg #[Aa Ab c.x,Aa Ab c.y,Aa Ac c.q]] w (Cg (.tuple #[Tt c,Aa Ab 0]) w):=by
 unfold Cl.ok at hc;obtain⟨c1,c2,c3,c4,c5⟩:=Er.1 hc;obtain⟨x,y,q⟩:=c;dsimp only at hc c1 c2 c3 c4 c5⊢;have hq:q<4:=by omega
 unfold Tt;dsimp only;obtain⟨⟨o1,o2⟩,⟨o3,o4⟩,⟨o5,o6⟩,o7,o8⟩:=Ah9 q;have hrow:=fun(w':Ag) (h:Qf w')=>h.row hq;unfold Ie at hrow;obtain⟨⟨u1,u2⟩,h1⟩:=ey (Pq q);obtain⟨⟨v1,v2⟩,h2⟩:=ey (Pr q);obtain⟨⟨s1,s2⟩,h3⟩:=ey (Ho q);obtain⟨ln,h4⟩:=ey (qln q);obtain⟨by',h5⟩:=ey (qby q);obtain⟨⟨n1,n2,n3⟩,h6⟩:=ey (nxt q 0);obtain⟨⟨n4,n5,n6⟩,h7⟩:=ey (nxt q 1);obtain⟨⟨n7,n8,n9⟩,h8⟩:=ey (nxt q 2);rw[h1,h2,h3,h4,h5,h6,h7,h8]at hrow;rw[h1]at o1 o2 o3 o4;rw[h2]at o5 o6 o7 o8;rw[h1,h2];dsimp only at hrow o1 o2 o3 o4 o5 o6 o7 o8⊢;have HC:=Ae hc;have HROW:=Ae hrow;have HQ:=Ae hQ;have q1:(q:Int)<4:=by omega
 have H:=((Bx.start w).new #[Aa Ab x,Aa Ab y,Aa Ac q] 123 rfl).new #[Aa Ab 0,Aa Ab 0,Aa Ab 0,Aa Ab 0,Aa Ab 0,Aa Ab 0] 284 (N:=w.heap.size+1) (by simp);clear hc hrow h1 h2 h3 h4 h5 h6 h7 h8 hQ;go_enter Tryz.func158,Tryz.ntmps158;go_upto_region 1 with fail;obtain⟨W,hW⟩:=ez ((w.alloc (.cells #[Aa Ab x,Aa Ab y,Aa Ac q] 123)).alloc (.cells #[Aa Ab 0,Aa Ab 0,Aa Ab 0,Aa Ab 0,Aa Ab 0,Aa Ab 0] 284));rw[←hW]at H⊢;obtain⟨N,hN⟩:=ez w.heap.size;rw[←hN]at H⊢;clear hW hN;obtain⟨⟨a0,a1,a2⟩,_⟩:=Ci (H.blk 0 _ _ _ rfl);go_wp2_with fail;refine(Dk x y q _).mono ?_;rintro e w2 ⟨rfl,hb⟩;rw[HC.out,Fo];have H2:=H.call hb;clear a0 a1 a2 hb H;obtain⟨⟨a0,a1,a2⟩,_⟩:=Ci (H2.blk 0 _ _ _ rfl);have hr:=HROW.out _ (HQ.out.below H2.below);go_upto_region 3 with fail;have hz:Tryz.prog.info? 343=Tryz.prog.info? 343:=rfl;clear hz
 repeat' (go_not_at_region 4;first
  |refine wpList_load_mid rfl 343 (.tmp 13) rfl 1 (q*17) rfl _ _ hr Tryz.underlying343 rfl (by kernel_rfl) ?_
  |refine Iv rfl 343 (.tmp 4) (.tmp 14) rfl _ _ rfl rfl (by kernel_rfl) rfl rfl ?_
  |go_step)
 clear hr a0 a1 a2;obtain⟨G4,hG4⟩:=ez w2.heap.size;rw[←hG4];have H4:=H2.new #[Aa Ab s1,Aa Ab s2,Aa Ac ln,Aa Ab by',Aa Ab n1,Aa Ab n2,Aa Ac n3,Aa Ab n4,Aa Ab n5,Aa Ac n6,Aa Ab n7,Aa Ab n8,Aa Ac n9,Aa Ab u1,Aa Ab u2,Aa Ab v1,Aa Ab v2] 343 hG4.symm;obtain⟨W4,hW4⟩:=ez (w2.alloc (.cells #[Aa Ab s1,Aa Ab s2,Aa Ac ln,Aa Ab by',Aa Ab n1,Aa Ab n2,Aa Ac n3,Aa Ab n4,Aa Ab n5,Aa Ac n6,Aa Ab n7,Aa Ab n8,Aa Ac n9,Aa Ab u1,Aa Ab u2,Aa Ab v1,Aa Ab v2] 343));rw[←hW4]at H4;change Code.wp _ _ _ _ (w2.alloc (.cells #[Aa Ab s1,Aa Ab s2,Aa Ac ln,Aa Ab by',Aa Ab n1,Aa Ab n2,Aa Ac n3,Aa Ab n4,Aa Ab n5,Aa Ac n6,Aa Ab n7,Aa Ab n8,Aa Ac n9,Aa Ab u1,Aa Ab u2,Aa Ab v1,Aa Ab v2] 343));rw[←hW4];have hrr:=H4.range 2 rfl;have r13:=hrr 13 _ rfl;have r14:=hrr 14 _ rfl;have r15:=hrr 15 _ rfl;have r16:=hrr 16 _ rfl;simp only[Bp]at r13 r14 r15 r16;clear hrr hG4 hW4;go_wp2_with fail;obtain⟨G5,hG5⟩:=ez W4.heap.size;rw[←hG5];have H5:=H4.new (Ag0 x y u1 u2 v1 v2 0) 284 hG5.symm;have hne:N≠G5:=by have:=H4.lt 0 rfl;omega
 have hne2:N+1≠G5:=by have:=H4.lt 1 rfl;omega
 clear hG5 r13 r14 r15 r16
 go_loopw [21] (fun i wr=>∃k:Nat,k≤3∧i= Aa Ab k∧Bx w [(N,#[Aa Ab x,Aa Ab y,Aa Ac q],123),(N+1,#[Aa Ab 0,Aa Ab 0,Aa Ab 0,Aa Ab 0,Aa Ab 0,Aa Ab 0],284),(G4,#[Aa Ab s1,Aa Ab s2,Aa Ac ln,Aa Ab by',Aa Ab n1,Aa Ab n2,Aa Ac n3,Aa Ab n4,Aa Ab n5,Aa Ac n6,Aa Ab n7,Aa Ab n8,Aa Ac n9,Aa Ab u1,Aa Ab u2,Aa Ab v1,Aa Ab v2],343),(G5,Ag0 x y u1 u2 v1 v2 k,284)] wr) (fun i _=>3-(intOf i).toNat)
 case atStart=>exact⟨0,by omega,rfl,H5⟩
 case round=>
  obtain⟨k,hk,rfl,Hr⟩:=hrel;obtain⟨⟨a0,a1,a2⟩,_⟩:=Ci (Hr.blk 0 _ _ _ rfl);have w1:IntKind.i64.wrap (2*x)=2*x:=Bu _ (by omega);have w2':IntKind.i64.wrap (2*y)=2*y:=Bu _ (by omega);have h4:k=0∨k=1∨k=2∨k=3:=by omega
  rcases h4 with rfl|rfl|rfl|rfl
  ·as_aux_lemma=>
    have w3:IntKind.i64.wrap (1+2*x)=2*x+1:=by rw[Bu _ (by omega)];omega
    have w4:IntKind.i64.wrap (1+2*y)=2*y+1:=by rw[Bu _ (by omega)];omega
    obtain⟨⟨d0,d1,d2,d3,d4,d5⟩,f0,f1,f2,f3,f4,f5⟩:=Sq (Hr.blk 3 _ _ _ rfl);go_wp2_with fail
    go_region
    go_wp2_with fail
    go_region
    go_wp2_with fail;exact⟨⟨1,by omega,rfl,((Hr.set 3 0 rfl (Aa Ab (2*x+1))).set 3 1 rfl (Aa Ab (2*y+1))).drew.drew⟩,by simp[intOf]⟩
  ·as_aux_lemma=>
    have w3:IntKind.i64.wrap (u1+2*x)=2*x+u1:=by rw[Bu _ (by omega)];omega
    have w4:IntKind.i64.wrap (u2+2*y)=2*y+u2:=by rw[Bu _ (by omega)];omega
    obtain⟨⟨d0,d1,d2,d3,d4,d5⟩,f0,f1,f2,f3,f4,f5⟩:=Sq (Hr.blk 3 _ _ _ rfl);go_wp2_with fail
    go_region
    go_wp2_with fail
    go_region
    go_wp2_with fail;exact⟨⟨2,by omega,rfl,((Hr.set 3 2 rfl (Aa Ab (2*x+u1))).set 3 3 rfl (Aa Ab (2*y+u2))).drew.drew⟩,by simp[intOf]⟩
  ·as_aux_lemma=>
    have w3:IntKind.i64.wrap (v1+2*x)=2*x+v1:=by rw[Bu _ (by omega)];omega
    have w4:IntKind.i64.wrap (v2+2*y)=2*y+v2:=by rw[Bu _ (by omega)];omega
    obtain⟨⟨d0,d1,d2,d3,d4,d5⟩,f0,f1,f2,f3,f4,f5⟩:=Sq (Hr.blk 3 _ _ _ rfl);go_wp2_with fail
    go_region
    go_wp2_with fail
    go_region
    go_wp2_with fail;exact⟨⟨3,by omega,rfl,((Hr.set 3 4 rfl (Aa Ab (2*x+v1))).set 3 5 rfl (Aa Ab (2*y+v2))).drew.drew⟩,by simp[intOf]⟩
  ·as_aux_lemma=>
    obtain⟨⟨d0,d1,d2,d3,d4,d5⟩,f0,f1,f2,f3,f4,f5⟩:=Sq (Hr.blk 3 _ _ _ rfl);obtain⟨⟨b0,b1,b2,b3,b4,b5⟩,g0,g1,g2,g3,g4,g5⟩:=Sq (Hr.blk 1 _ _ _ rfl);go_wp2_with fail;have H6:=(((((Hr.set 1 0 rfl (Aa Ab (2*x+1))).set 1 1 rfl (Aa Ab (2*y+1))).set 1 2 rfl (Aa Ab (2*x+u1))).set 1 3 rfl (Aa Ab (2*y+u2))).set 1 4 rfl (Aa Ab (2*x+v1))).set 1 5 rfl (Aa Ab (2*y+v2));exact Af (Cj rfl rfl (H6.range 1 rfl) Tryz.underlying284 rfl (by kernel_rfl)) rfl ⟨rfl,H6.below⟩
def iC:Prop:=∀(m:Mv) (c:Cl) (w:Ag),m.ok=true→c.ok=true→Qf w→Tn w→
 Ai Tryz.prog 165 #[.agg #[Aa Ac m.t,Aa Ab m.x,Aa Ab m.y],.agg #[Aa Ab c.x,Aa Ab c.y,Aa Ac c.q]] w (Cg (.agg #[Aa Ab (Im m c).x,Aa Ab (Im m c).y,Aa Ac (Im m c).q]) w)
def clR (r:Cl×Int):Ah:= .tuple #[.agg #[Aa Ab r.1.x,Aa Ab r.1.y,Aa Ac r.1.q],Aa Ab r.2]
theorem Ms (hmv:iC) (m:Mv) (c:Cl) (w:Ag) (hm:m.ok=true) (hc:c.ok=true) (hQ:Qf w) (hT:Tn w):
  Ai Tryz.prog 92 #[.agg #[Aa Ac m.t,Aa Ab m.x,Aa Ab m.y],.agg #[Aa Ab c.x,Aa Ab c.y,Aa Ac c.q]] w (Cg (clR (Gh m c)) w):=by
 have HM:=Ae fun w' (hb:Below w.heap.size w w')=>hmv m c w' hm hc (hQ.below hb) (hT.below hb);have hR:Gh m c=if(Im m c).ok then (Im m c,0)else (cl0,3):=rfl;obtain⟨⟨rx,ry,rq⟩,hd⟩:=ey (Im m c);rw[hd]at HM hR;dsimp only at HM;obtain⟨R,hRR⟩:=ey (Gh m c);rw[hRR]at hR⊢;have HR:=Ae hR;obtain⟨m1,_⟩:=Mv.ok_iff.1 hm;obtain⟨t,x,y⟩:=m;obtain⟨a,b,q⟩:=c;dsimp only at m1 HM⊢;have E1:Hid (okM t x y=true):=Ae hm;have E2:Hid (okC a b q=true):=Ae hc;have B1:=Ae (show 0≤(t:Int)∧(t:Int)≤255 by omega);have H:=(((Bx.start w).new #[Aa Ac t,Aa Ab x,Aa Ab y] 40 rfl).new #[Aa Ab a,Aa Ab b,Aa Ac q] 123 (N:=w.heap.size+1) (by simp)).new #[Aa Ab 0,Aa Ab 0,Aa Ac 0] 123 (N:=w.heap.size+2) (by simp);clear hm hc hQ hT hR hd hRR;go_enter Tryz.func92,Tryz.ntmps92;go_upto_region 1 with fail;obtain⟨W,hW⟩:=ez (((w.alloc (.cells #[Aa Ac t,Aa Ab x,Aa Ab y] 40)).alloc (.cells #[Aa Ab a,Aa Ab b,Aa Ac q] 123)).alloc (.cells #[Aa Ab 0,Aa Ab 0,Aa Ac 0] 123));rw[←hW]at H⊢;obtain⟨N,hN⟩:=ez w.heap.size;rw[←hN]at H⊢;obtain⟨P,hP⟩:=ez (N+2);rw[←hP]at H;rw[show N+1+1=P from hP.symm];clear hW hN hP;obtain⟨⟨f0,f1,f2⟩,_⟩:=Ci (H.blk 0 _ _ _ rfl);go_wp2_with fail;refine(Eg t x y _ B1.out).mono ?_;rintro e w2 ⟨rfl,hb⟩;rw[E1.out,Fo];have H2:=H.call hb;clear f0 f1 f2 hb H;obtain⟨⟨g0,g1,g2⟩,_⟩:=Ci (H2.blk 1 _ _ _ rfl);go_wp2_with fail;refine(Dk a b q _).mono ?_;rintro e w3 ⟨rfl,hb⟩;rw[E2.out,Fo];have H3:=H2.call hb;clear g0 g1 g2 hb H2;obtain⟨⟨f0,f1,f2⟩,_⟩:=Ci (H3.blk 0 _ _ _ rfl);obtain⟨⟨g0,g1,g2⟩,_⟩:=Ci (H3.blk 1 _ _ _ rfl);go_wp2_with fail;refine(HM.out _ H3.below).mono ?_;rintro e w4 ⟨rfl,hb⟩;have H4:=H3.call hb;clear f0 f1 f2 g0 g1 g2 hb H3;have H5:=H4.new #[Aa Ab rx,Aa Ab ry,Aa Ac rq] 123 rfl;go_wp2_with fail;refine(Dk rx ry rq _).mono ?_;rintro e w5 ⟨rfl,hb⟩;have H6:=H5.call hb;clear hb H5 H4
 obtain⟨⟨c0,c1,c2⟩,d0,d1,d2⟩:=Ci (H6.blk 2 _ _ _ rfl);obtain⟨⟨b0,b1,b2⟩,_⟩:=Ci (H6.blk 3 _ _ _ rfl)
 cases hk:okC rx ry rq
 ·have HK:Hid ((⟨rx,ry,rq⟩:Cl).ok=false):=Ae hk;rw[Ji];clear hk;go_wp2_with fail;have H7:=((H6.set 2 0 rfl (Aa Ab 0)).set 2 1 rfl (Aa Ab 0)).set 2 2 rfl (Aa Ac 0);exact Af (Cj rfl rfl (H7.range 2 rfl) Tryz.underlying123 rfl (by kernel_rfl)) rfl ⟨by rw[HR.out,HK.out];rfl,H7.below⟩
 ·have HK:Hid ((⟨rx,ry,rq⟩:Cl).ok=true):=Ae hk;rw[Fo];clear hk;go_wp2_with fail;have H7:=((H6.set 2 0 rfl (Aa Ab rx)).set 2 1 rfl (Aa Ab ry)).set 2 2 rfl (Aa Ac rq);exact Af (Cj rfl rfl (H7.range 2 rfl) Tryz.underlying123 rfl (by kernel_rfl)) rfl ⟨by rw[HR.out,HK.out];rfl,H7.below⟩
theorem Bx.nodup {w wr:Ag} {l:List (Nat×Array Ah×TypeId)} (h:Bx w l wr):(l.map (·.1)).Nodup:=by
 rw[List.Nodup,List.pairwise_iff_getElem];intro i j hi hj hij he;simp only[Bk]at hi hj;simp only[List.getElem_map]at he;have h1:l[i]? =some (l[i].1,l[i].2.1,l[i].2.2):=Ar hi;have h2:l[j]? =some (l[i].1,l[j].2.1,l[j].2.2):=by rw[he];exact Ar hj
 have:=h.inj i j _ _ _ _ _ h1 h2;omega
theorem Bx.perm {w wr:Ag} {l l':List (Nat×Array Ah×TypeId)} (h:Bx w l wr) (hp:l.Perm l'):Bx w l' wr:=by
 have hn:(l'.map (·.1)).Nodup:=(hp.map _).nodup_iff.1 h.nodup;have hm:∀(i g:Nat) (cs:Array Ah) (t:TypeId),l'[i]? =some (g,cs,t)→∃j,l[j]? =some (g,cs,t):=fun i g cs t hi=>List.mem_iff_getElem?.1 (hp.mem_iff.2 (List.mem_of_getElem? hi));refine⟨h.below,fun i g cs t hi=>?_,fun i g cs t hi=>?_,fun i j g cs t ds u hi hj=>?_⟩
 ·obtain⟨j,hj⟩:=hm i g cs t hi;exact h.blk j g cs t hj
 ·obtain⟨j,hj⟩:=hm i g cs t hi;exact h.lo j g cs t hj
 ·rw[List.Nodup,List.pairwise_iff_getElem]at hn;have li:=(As.1 hi);have lj:=(As.1 hj);obtain⟨hi1,hi2⟩:=li;obtain⟨hj1,hj2⟩:=lj;rcases Nat.lt_trichotomy i j with hlt|heq|hgt
  ·exact absurd (by rw[List.getElem_map,List.getElem_map,hi2,hj2]) (hn i j (by simpa using hi1) (by simpa using hj1) hlt)
  ·exact heq
  ·exact absurd (by rw[List.getElem_map,List.getElem_map,hi2,hj2]) (hn j i (by simpa using hj1) (by simpa using hi1) hgt)
theorem Al8 {X w4:Ag} {c d:Ah} {e:TypeId} {g:Nat} (hb:Below (X.alloc (.cells #[c,d] e)).heap.size (X.alloc (.cells #[c,d] e)) w4) (hg:X.heap.size=g):
  (w4.cell? ⟨g,0,none⟩=some c∧w4.cell? ⟨g,1,none⟩=some d)∧(w4.frozen? ⟨g,0,none⟩=false∧w4.frozen? ⟨g,1,none⟩=false):=by
 subst hg;exact Cu (kept hb (Bt X _) (by simp))
theorem Ak5 {X w4:Ag} {c d:Ah} {e:TypeId} {o:Obj} {g:Nat} (hb:Below ((X.alloc (.cells #[c,d] e)).alloc o).heap.size ((X.alloc (.cells #[c,d] e)).alloc o) w4) (hg:X.heap.size=g):
  (w4.cell? ⟨g,0,none⟩=some c∧w4.cell? ⟨g,1,none⟩=some d)∧(w4.frozen? ⟨g,0,none⟩=false∧w4.frozen? ⟨g,1,none⟩=false):=by
 subst hg;exact Cu (kept hb ((Below.heap_alloc _ _ _ (by simp)).trans (Bt X _)) (by simp;omega))
theorem Bx.ne {w wr:Ag} {l:List (Nat×Array Ah×TypeId)} (h:Bx w l wr) (i j:Nat) (hij:i≠j) {g g':Nat} {cs ds:Array Ah} {t u:TypeId} (hi:l[i]? =some (g,cs,t)) (hj:l[j]? =some (g',ds,u)):g≠g':=by
 intro e;subst e;exact hij (h.inj i j g cs t ds u hi hj)
theorem Bx.upto {w wr:Ag} {l:List (Nat×Array Ah×TypeId)} (h:Bx w l wr) (n:Nat):Bx w (l.take n) wr:=by
 have hk:∀(i:Nat) (x:Nat×Array Ah×TypeId),(l.take n)[i]? =some x→l[i]? =some x:=by
  intro i x hi;rw[List.getElem?_take]at hi
  split at hi
  ·exact hi
  ·cases hi
 exact⟨h.below,fun i g cs t hi=>h.blk i g cs t (hk i _ hi),fun i g cs t hi=>h.lo i g cs t (hk i _ hi),fun i j g cs t ds u hi hj=>h.inj i j g cs t ds u (hk i _ hi) (hk j _ hj)⟩
theorem Rx (X:Int):bits BinOp.and IntKind.i64 X 1=X%2:=by
 have h1:((BitVec.ofInt 64 X&&&BitVec.ofInt 64 1).toNat:Int)=X%2:=by
  rw[BitVec.toNat_and,BitVec.toNat_ofInt,BitVec.toNat_ofInt];have e:((1:Int)%(2^64:Nat)).toNat=1:=by decide
  rw[e,Nat.and_one_is_mod];omega
 show IntKind.i64.wrap ((BitVec.ofInt 64 X&&&BitVec.ofInt 64 1).toNat:Int)=_;rw[h1];exact Bu _ (by omega)
def sqN (d:Int×Int):Nat→Nat
 |0=>0
 |k+1=>if Ho k=d then k else sqN d k
theorem Aj1 (d:Int×Int):sqN d 4=jN d:=by
 unfold jN;simp only[sqN,eq_comm (a:=d)]
 split
 ·rfl
 ·split
  ·rfl
  ·split
   ·rfl
   ·split<;>rfl
def Jy:Ah:= .agg Ir.toArray
theorem bG (w:Ag):(Instr.index 344 Jy (Aa Ab 0)).run Tryz.prog w= .ok (.agg (Ie 0).toArray) w:=by kernel_rfl
theorem bH (w:Ag):(Instr.index 344 Jy (Aa Ab 1)).run Tryz.prog w= .ok (.agg (Ie 1).toArray) w:=by kernel_rfl
theorem bI (w:Ag):(Instr.index 344 Jy (Aa Ab 2)).run Tryz.prog w= .ok (.agg (Ie 2).toArray) w:=by kernel_rfl
theorem bJ (w:Ag):(Instr.index 344 Jy (Aa Ab 3)).run Tryz.prog w= .ok (.agg (Ie 3).toArray) w:=by kernel_rfl
theorem fU (k:Nat) (hk:k<4) (w:Ag):(Instr.index 344 Jy (Aa Ab k)).run Tryz.prog w= .ok (.agg (Ie k).toArray) w:=by
 have:k=0∨k=1∨k=2∨k=3:=by omega
 rcases this with rfl|rfl|rfl|rfl
 ·exact bG w
 ·exact bH w
 ·exact bI w
 ·exact bJ w
theorem rS (m:Mv) (c:Cl) (w:Ag) (hm:m.ok=true) (hc:c.ok=true) (hQ:Qf w) (hT:Tn w):
  Ai Tryz.prog 165 #[.agg #[Aa Ac m.t,Aa Ab m.x,Aa Ab m.y],.agg #[Aa Ab c.x,Aa Ab c.y,Aa Ac c.q]] w (Cg (.agg #[Aa Ab (Im m c).x,Aa Ab (Im m c).y,Aa Ac (Im m c).q]) w):=by
 obtain⟨⟨rx,ry,rq⟩,hR⟩:=ey (Im m c);rw[hR];unfold Cl.ok at hc;obtain⟨c1,c2,c3,c4,c5⟩:=Er.1 hc;have hmid:=fun w=>eZ c w (by omega) (by omega);have hp1:=fun w h=>bD m (2*c.x+1) (2*c.y+1) w hm (by omega) (by omega) h;obtain⟨t,x,y⟩:=m;obtain⟨a,b,q⟩:=c;obtain⟨m1,⟨m2,m3⟩,⟨m4,m5⟩,_⟩:=Mv.ok_iff.1 hm;dsimp only at c1 c2 c3 c4 c5 m1 m2 m3 m4 m5 hmid hp1⊢;have hm0:(⟨t,0,0⟩:Mv).ok=true:=Mv.ok_iff.2 ⟨m1,by dsimp only;omega,by dsimp only;omega,by dsimp only;omega⟩;have hqs:(-1≤(Ho q).1∧(Ho q).1≤1)∧(-1≤(Ho q).2∧(Ho q).2≤1):=by unfold Ho;split<;>decide
 have hp2:=fun w h=>bD ⟨t,0,0⟩ (Ho q).1 (Ho q).2 w hm0 (by omega) (by omega) h;have hq:q<4:=by omega
 obtain⟨⟨ob1,ob2⟩,ob3,ob4⟩:=Ul t (x:=2*a+1) (y:=2*b+1) (B:=10000) (by omega) (by omega);obtain⟨⟨X,Y⟩,hXY⟩:=ey (Le ⟨t,x,y⟩ (2*a+1) (2*b+1))
 have hXb:(-60000≤X∧X≤60000)∧(-60000≤Y∧Y≤60000):=by
  unfold Le at hXY;simp only[Prod.mk.injEq]at hXY;obtain⟨e1,e2⟩:=hXY;omega
 have H:=(((Bx.start w).new #[Aa Ac t,Aa Ab x,Aa Ab y] 40 rfl).new #[Aa Ab a,Aa Ab b,Aa Ac q] 123 (N:=w.heap.size+1) (by simp)).new #[Aa Ab 0,Aa Ab 0,Aa Ac 0] 123 (N:=w.heap.size+2) (by simp);have q1:(q:Int)<4:=by omega
 have HMID:=Ae hmid;have hrow:=fun(w':Ag) (h:Qf w')=>h.row hq;unfold Ie at hrow;obtain⟨⟨s1,s2⟩,h3⟩:=ey (Ho q);rw[h3]at hrow hp2 hqs;dsimp only at hrow hp2 hqs;obtain⟨⟨U,V⟩,hUV⟩:=ey (Le ⟨t,0,0⟩ s1 s2)
 have hrx:rx=X/2∧ry=Y/2∧rq=jN (U,V):=by
  unfold Im at hR;dsimp only at hR;rw[h3,hXY]at hR;have hU:Gz (mat t) s1 s2=(U,V):=by rw[←hUV];unfold Le;simp
  rw[hU]at hR;simp only[Cl.mk.injEq]at hR;exact⟨hR.1.symm,hR.2.1.symm,hR.2.2.symm⟩
 rw[hXY]at hp1;rw[hUV]at hp2;unfold ptR at hp1 hp2;dsimp only at hp1 hp2;obtain⟨hrx1,hrx2,hrq⟩:=hrx;have HX1:=Ae hrx1;have HX2:=Ae hrx2;clear hrx1 hrx2;have HRQ:=Ae hrq;have HROW:=Ae hrow;have HP1:=Ae hp1;have HP2:=Ae hp2;have HQ:=Ae hQ;have HT:=Ae hT;clear hmid hp1 hp2 hrow hQ hT hR h3 hm hc hm0 hXY hUV hrq ob1 ob2 ob3 ob4;go_enter Tryz.func165,Tryz.ntmps165;go_upto_region 1 with fail;obtain⟨W,hW⟩:=ez (((w.alloc (.cells #[Aa Ac t,Aa Ab x,Aa Ab y] 40)).alloc (.cells #[Aa Ab a,Aa Ab b,Aa Ac q] 123)).alloc (.cells #[Aa Ab 0,Aa Ab 0,Aa Ac 0] 123));rw[←hW]at H⊢;obtain⟨N,hN⟩:=ez w.heap.size;rw[←hN]at H⊢;obtain⟨P,hP⟩:=ez (N+2);rw[←hP]at H;rw[show N+1+1=P from hP.symm];have hne1:N≠P:=by omega
 have hne2:N+1≠P:=by omega
 clear hW hN hP;obtain⟨⟨g0,g1,g2⟩,_⟩:=Ci (H.blk 1 _ _ _ rfl);have hr:=HROW.out _ (HQ.out.below H.below);have r0:=hr 0 _ rfl;have r1:=hr 1 _ rfl;simp only[Nat.add_zero]at r0;clear hr;go_cut [5,6] (fun s5 s6 wx=>∃p5 p6,s5= .pointer (some ⟨p5,0,none⟩)∧s6= .pointer (some ⟨p6,0,none⟩)∧Bx w [(N,#[Aa Ac t,Aa Ab x,Aa Ab y],40),(N+1,#[Aa Ab a,Aa Ab b,Aa Ac q],123),(P,#[Aa Ab 0,Aa Ab 0,Aa Ac 0],123),(p5,#[Aa Ab (2*a+1),Aa Ab (2*b+1)],283),(p6,#[Aa Ab s1,Aa Ab s2],283)] wx)
 case first=>
  have HSA:Hid (∀W',Below W.heap.size W W'→(fun w':Ag=>w'.cell? ⟨N+1,0,none⟩=some (Aa Ab a)∧w'.cell? ⟨N+1,1,none⟩=some (Aa Ab b)∧w'.cell? ⟨N+1,2,none⟩=some (Aa Ac q)∧w'.cell? ⟨1,q*17,none⟩=some (Aa Ab s1)∧w'.cell? ⟨1,q*17+1,none⟩=some (Aa Ab s2)) W'):=Ae fun W' h=>⟨Ce h g0,Ce h g1,Ce h g2,Ce h r0,Ce h r1⟩;clear g0 g1 g2 r0 r1 hne1 hne2 HQ HT HP1 HP2 HROW;refine Al (S:=(fun w':Ag=>w'.cell? ⟨N+1,0,none⟩=some (Aa Ab a)∧w'.cell? ⟨N+1,1,none⟩=some (Aa Ab b)∧w'.cell? ⟨N+1,2,none⟩=some (Aa Ac q)∧w'.cell? ⟨1,q*17,none⟩=some (Aa Ab s1)∧w'.cell? ⟨1,q*17+1,none⟩=some (Aa Ab s2))) (by kernel_rfl) (HSA.out _ (Below.refl _ _).drew) (fun hS=>?_);have hb:Below W.heap.size W W.drew:=(Below.refl _ _).drew;have H:=H.drew;obtain⟨X0,hX⟩:=ez W.drew;rw[←hX]at H hb⊢;clear hX;have hS:=HSA.out _ hb;refine wpAnyH_take (i:=0) (v:=?_) rfl (by kernel_rfl) (by kernel_rfl) (by kernel_rfl) (fun _ _ _ h=>h) (Or.inl ⟨by rfl,?_⟩) hS ?_;rotate_left
  ·intro w0 hSw
   (try dsimp only at hSw)
   go_split_ands;go_simp
   try with_reducible rfl
  try simp only[Act.put,Ca,By,Cd,Cb,Cc]
  refine wpAnyH_take (i:=2) (v:=?_) rfl (by kernel_rfl) (by kernel_rfl) (by kernel_rfl) (fun _ _ _ h=>h) (Or.inl ⟨by rfl,?_⟩) hS ?_;rotate_left
  ·intro w0 hSw
   (try dsimp only at hSw)
   go_split_ands;go_simp
   try with_reducible rfl
  try simp only[Act.put,Ca,By,Bz,Cd,Cb,Cc]
  refine wpAnyH_take (i:=3) (v:=?_) rfl (by kernel_rfl) (by kernel_rfl) (by kernel_rfl) (fun _ _ _ h=>h) (Or.inl ⟨by rfl,?_⟩) hS ?_;rotate_left
  ·intro w0 hSw
   (try dsimp only at hSw)
   go_split_ands;go_simp
   try with_reducible rfl
  try simp only[Act.put,Ca,By,Bz,Cd,Cb,Cc]
  refine wpAnyH_take (i:=4) (v:=?_) rfl (by kernel_rfl) (by kernel_rfl) (by kernel_rfl) (fun _ _ _ h=>h) (Or.inl ⟨by rfl,?_⟩) hS ?_;rotate_left
  ·intro w0 hSw
   (try dsimp only at hSw)
   go_split_ands;go_simp
   try with_reducible rfl
  try simp only[Act.put,Ca,By,Bz,Cd,Cb,Cc]
  refine wpAnyH_take (i:=5) (v:=?_) rfl (by kernel_rfl) (by kernel_rfl) (by kernel_rfl) (fun _ _ _ h=>h) (Or.inl ⟨by rfl,?_⟩) hS ?_;rotate_left
  ·intro w0 hSw
   (try dsimp only at hSw)
   go_split_ands;go_simp
   try with_reducible rfl
  try simp only[Act.put,Ca,By,Bz,Cd,Cb,Cc]
  refine wpAnyH_take (i:=6) (v:=?_) rfl (by kernel_rfl) (by kernel_rfl) (by kernel_rfl) (fun _ _ _ h=>h) (Or.inl ⟨by rfl,?_⟩) hS ?_;rotate_left
  ·intro w0 hSw
   (try dsimp only at hSw)
   go_split_ands;go_simp
   try with_reducible rfl
  try simp only[Act.put,Ca,By,Bz,Cd,Cb,Cc]
  refine Am (rs:=[1,7,8]) (by kernel_rfl) (by simp) (An rfl (fun K hK=>?_) (An rfl (fun K hK=>?_) (An rfl (fun K hK=>?_) (Ao))))
  ·go_simp;refine(HMID.out _).mono ?_;rintro e X1 ⟨rfl,hbm⟩;have hb:=hb.trans (hbm.mono hb.size);have H:=H.call hbm;refine hK.out _ _ (HSA.out _ hb) (fun hS=>?_);clear hK K hbm;refine Am (rs:=[7,8]) (by kernel_rfl) (by simp) (An rfl (fun K hK=>?_) (An rfl (fun K hK=>?_) (Ao)))
   ·obtain⟨p5,hp⟩:=ey X1.heap.size;have hl7:W.heap.size≤p5:=hp▸hb.size;have hb:=hb.alloc hb.size (.cells #[Aa Ab 0,Aa Ab 0] 283);have H:=H.new #[Aa Ab 0,Aa Ab 0] 283 hp;have HP7:=Ae hp;go_simp;refine hK.out _ _ (HSA.out _ hb) (fun hS=>?_);clear hK K;obtain⟨X2,hX⟩:=ez (X1.alloc (.cells #[Aa Ab 0,Aa Ab 0] 283));rw[←hX]at H hb⊢;clear hX hp hS HP7;have hS:=HSA.out _ hb;refine rdy 8 (fun K hK=>?_)
    ·obtain⟨p6,hp⟩:=ey X2.heap.size;have hl8:W.heap.size≤p6:=hp▸hb.size;have hb:=hb.alloc hb.size (.cells #[Aa Ab 0,Aa Ab 0] 283);have H:=H.new #[Aa Ab 0,Aa Ab 0] 283 hp;have HP8:=Ae hp;go_simp;refine hK.out _ _ (HSA.out _ hb) (fun hS=>?_);clear hK K;obtain⟨X3,hX⟩:=ez (X2.alloc (.cells #[Aa Ab 0,Aa Ab 0] 283));rw[←hX]at H hb⊢;clear hX hp hS HP8;have hS:=HSA.out _ hb;refine rdy 9 (fun K hK=>?_);obtain⟨⟨y0,y1⟩,z0,z1⟩:=Cu (H.blk 3 _ _ _ rfl);have hb:=(hb.setCell (p:=⟨p5,0,none⟩) hl7 (Aa Ab (2*a+1))).setCell (p:=⟨p5,1,none⟩) hl7 (Aa Ab (2*b+1));have H:=(H.set 3 0 rfl (Aa Ab (2*a+1))).set 3 1 rfl (Aa Ab (2*b+1));go_simp;refine hK.out _ _ (HSA.out _ hb) (fun hS=>?_);clear hK K y0 y1 z0 z1 hS;obtain⟨Y9,hX⟩:=ez ((X3.setCell ⟨p5,0,none⟩ (Aa Ab (2*a+1))).setCell ⟨p5,1,none⟩ (Aa Ab (2*b+1)));rw[←hX]at H hb⊢;clear hX;have hS:=HSA.out _ hb;refine rdy 10 (fun K hK=>?_);obtain⟨⟨y0,y1⟩,z0,z1⟩:=Cu (H.blk 4 _ _ _ rfl);have hb:=(hb.setCell (p:=⟨p6,0,none⟩) hl8 (Aa Ab (s1))).setCell (p:=⟨p6,1,none⟩) hl8 (Aa Ab (s2));have H:=(H.set 4 0 rfl (Aa Ab (s1))).set 4 1 rfl (Aa Ab (s2));go_simp;refine hK.out _ _ (HSA.out _ hb) (fun hS=>?_);clear hK K y0 y1 z0 z1 hS;obtain⟨Y10,hX⟩:=ez ((Y9.setCell ⟨p6,0,none⟩ (Aa Ab (s1))).setCell ⟨p6,1,none⟩ (Aa Ab (s2)));rw[←hX]at H hb⊢;clear hX;have hS:=HSA.out _ hb;refine Ak (by kernel_rfl) ?_ _;go_wp2_with fail;go_meet;exact⟨_,_,rfl,rfl,H⟩
   ·obtain⟨p6,hp⟩:=ey X1.heap.size;have hl8:W.heap.size≤p6:=hp▸hb.size;have hb:=hb.alloc hb.size (.cells #[Aa Ab 0,Aa Ab 0] 283);have H:=H.new #[Aa Ab 0,Aa Ab 0] 283 hp;have HP8:=Ae hp;go_simp;refine hK.out _ _ (HSA.out _ hb) (fun hS=>?_);clear hK K;obtain⟨X2,hX⟩:=ez (X1.alloc (.cells #[Aa Ab 0,Aa Ab 0] 283));rw[←hX]at H hb⊢;clear hX hp hS HP8;have hS:=HSA.out _ hb;refine rdy 7 (fun K hK=>?_)
    ·obtain⟨p5,hp⟩:=ey X2.heap.size;have hl7:W.heap.size≤p5:=hp▸hb.size;have hb:=hb.alloc hb.size (.cells #[Aa Ab 0,Aa Ab 0] 283);have H:=H.new #[Aa Ab 0,Aa Ab 0] 283 hp;have HP7:=Ae hp;go_simp;refine hK.out _ _ (HSA.out _ hb) (fun hS=>?_);clear hK K;obtain⟨X3,hX⟩:=ez (X2.alloc (.cells #[Aa Ab 0,Aa Ab 0] 283));rw[←hX]at H hb⊢;clear hX hp hS HP7;have hS:=HSA.out _ hb;refine rdy 9 (fun K hK=>?_);obtain⟨⟨y0,y1⟩,z0,z1⟩:=Cu (H.blk 4 _ _ _ rfl);have hb:=(hb.setCell (p:=⟨p5,0,none⟩) hl7 (Aa Ab (2*a+1))).setCell (p:=⟨p5,1,none⟩) hl7 (Aa Ab (2*b+1));have H:=(H.set 4 0 rfl (Aa Ab (2*a+1))).set 4 1 rfl (Aa Ab (2*b+1));go_simp;refine hK.out _ _ (HSA.out _ hb) (fun hS=>?_);clear hK K y0 y1 z0 z1 hS;obtain⟨Y9,hX⟩:=ez ((X3.setCell ⟨p5,0,none⟩ (Aa Ab (2*a+1))).setCell ⟨p5,1,none⟩ (Aa Ab (2*b+1)));rw[←hX]at H hb⊢;clear hX;have hS:=HSA.out _ hb;refine rdy 10 (fun K hK=>?_);obtain⟨⟨y0,y1⟩,z0,z1⟩:=Cu (H.blk 3 _ _ _ rfl);have hb:=(hb.setCell (p:=⟨p6,0,none⟩) hl8 (Aa Ab (s1))).setCell (p:=⟨p6,1,none⟩) hl8 (Aa Ab (s2));have H:=(H.set 3 0 rfl (Aa Ab (s1))).set 3 1 rfl (Aa Ab (s2));go_simp;refine hK.out _ _ (HSA.out _ hb) (fun hS=>?_);clear hK K y0 y1 z0 z1 hS;obtain⟨Y10,hX⟩:=ez ((Y9.setCell ⟨p6,0,none⟩ (Aa Ab (s1))).setCell ⟨p6,1,none⟩ (Aa Ab (s2)));rw[←hX]at H hb⊢;clear hX;have hS:=HSA.out _ hb;refine Ak (by kernel_rfl) ?_ _;go_wp2_with fail;go_meet;exact⟨_,_,rfl,rfl,H.perm (.cons _ (.cons _ (.cons _ (.swap _ _ _))))⟩
  ·obtain⟨p5,hp⟩:=ey X0.heap.size;have hl7:W.heap.size≤p5:=hp▸hb.size;have hb:=hb.alloc hb.size (.cells #[Aa Ab 0,Aa Ab 0] 283);have H:=H.new #[Aa Ab 0,Aa Ab 0] 283 hp;have HP7:=Ae hp;go_simp;refine hK.out _ _ (HSA.out _ hb) (fun hS=>?_);clear hK K;obtain⟨X1,hX⟩:=ez (X0.alloc (.cells #[Aa Ab 0,Aa Ab 0] 283));rw[←hX]at H hb⊢;clear hX hp hS HP7;have hS:=HSA.out _ hb;refine Am (rs:=[1,8]) (by kernel_rfl) (by simp) (An rfl (fun K hK=>?_) (An rfl (fun K hK=>?_) (Ao)))
   ·go_simp;refine(HMID.out _).mono ?_;rintro e X2 ⟨rfl,hbm⟩;have hb:=hb.trans (hbm.mono hb.size);have H:=H.call hbm;refine hK.out _ _ (HSA.out _ hb) (fun hS=>?_);clear hK K hbm;refine rdy 8 (fun K hK=>?_)
    ·obtain⟨p6,hp⟩:=ey X2.heap.size;have hl8:W.heap.size≤p6:=hp▸hb.size;have hb:=hb.alloc hb.size (.cells #[Aa Ab 0,Aa Ab 0] 283);have H:=H.new #[Aa Ab 0,Aa Ab 0] 283 hp;have HP8:=Ae hp;go_simp;refine hK.out _ _ (HSA.out _ hb) (fun hS=>?_);clear hK K;obtain⟨X3,hX⟩:=ez (X2.alloc (.cells #[Aa Ab 0,Aa Ab 0] 283));rw[←hX]at H hb⊢;clear hX hp hS HP8;have hS:=HSA.out _ hb;refine rdy 9 (fun K hK=>?_);obtain⟨⟨y0,y1⟩,z0,z1⟩:=Cu (H.blk 3 _ _ _ rfl);have hb:=(hb.setCell (p:=⟨p5,0,none⟩) hl7 (Aa Ab (2*a+1))).setCell (p:=⟨p5,1,none⟩) hl7 (Aa Ab (2*b+1));have H:=(H.set 3 0 rfl (Aa Ab (2*a+1))).set 3 1 rfl (Aa Ab (2*b+1));go_simp;refine hK.out _ _ (HSA.out _ hb) (fun hS=>?_);clear hK K y0 y1 z0 z1 hS;obtain⟨Y9,hX⟩:=ez ((X3.setCell ⟨p5,0,none⟩ (Aa Ab (2*a+1))).setCell ⟨p5,1,none⟩ (Aa Ab (2*b+1)));rw[←hX]at H hb⊢;clear hX;have hS:=HSA.out _ hb;refine rdy 10 (fun K hK=>?_);obtain⟨⟨y0,y1⟩,z0,z1⟩:=Cu (H.blk 4 _ _ _ rfl);have hb:=(hb.setCell (p:=⟨p6,0,none⟩) hl8 (Aa Ab (s1))).setCell (p:=⟨p6,1,none⟩) hl8 (Aa Ab (s2));have H:=(H.set 4 0 rfl (Aa Ab (s1))).set 4 1 rfl (Aa Ab (s2));go_simp;refine hK.out _ _ (HSA.out _ hb) (fun hS=>?_);clear hK K y0 y1 z0 z1 hS;obtain⟨Y10,hX⟩:=ez ((Y9.setCell ⟨p6,0,none⟩ (Aa Ab (s1))).setCell ⟨p6,1,none⟩ (Aa Ab (s2)));rw[←hX]at H hb⊢;clear hX;have hS:=HSA.out _ hb;refine Ak (by kernel_rfl) ?_ _;go_wp2_with fail;go_meet;exact⟨_,_,rfl,rfl,H⟩
   ·obtain⟨p6,hp⟩:=ey X1.heap.size;have hl8:W.heap.size≤p6:=hp▸hb.size;have hb:=hb.alloc hb.size (.cells #[Aa Ab 0,Aa Ab 0] 283);have H:=H.new #[Aa Ab 0,Aa Ab 0] 283 hp;have HP8:=Ae hp;go_simp;refine hK.out _ _ (HSA.out _ hb) (fun hS=>?_);clear hK K;obtain⟨X2,hX⟩:=ez (X1.alloc (.cells #[Aa Ab 0,Aa Ab 0] 283));rw[←hX]at H hb⊢;clear hX hp hS HP8;have hS:=HSA.out _ hb;refine rdy 1 (fun K hK=>?_)
    ·go_simp;refine(HMID.out _).mono ?_;rintro e X3 ⟨rfl,hbm⟩;have hb:=hb.trans (hbm.mono hb.size);have H:=H.call hbm;refine hK.out _ _ (HSA.out _ hb) (fun hS=>?_);clear hK K hbm;refine rdy 9 (fun K hK=>?_);obtain⟨⟨y0,y1⟩,z0,z1⟩:=Cu (H.blk 3 _ _ _ rfl);have hb:=(hb.setCell (p:=⟨p5,0,none⟩) hl7 (Aa Ab (2*a+1))).setCell (p:=⟨p5,1,none⟩) hl7 (Aa Ab (2*b+1));have H:=(H.set 3 0 rfl (Aa Ab (2*a+1))).set 3 1 rfl (Aa Ab (2*b+1));go_simp;refine hK.out _ _ (HSA.out _ hb) (fun hS=>?_);clear hK K y0 y1 z0 z1 hS;obtain⟨Y9,hX⟩:=ez ((X3.setCell ⟨p5,0,none⟩ (Aa Ab (2*a+1))).setCell ⟨p5,1,none⟩ (Aa Ab (2*b+1)));rw[←hX]at H hb⊢;clear hX;have hS:=HSA.out _ hb;refine rdy 10 (fun K hK=>?_);obtain⟨⟨y0,y1⟩,z0,z1⟩:=Cu (H.blk 4 _ _ _ rfl);have hb:=(hb.setCell (p:=⟨p6,0,none⟩) hl8 (Aa Ab (s1))).setCell (p:=⟨p6,1,none⟩) hl8 (Aa Ab (s2));have H:=(H.set 4 0 rfl (Aa Ab (s1))).set 4 1 rfl (Aa Ab (s2));go_simp;refine hK.out _ _ (HSA.out _ hb) (fun hS=>?_);clear hK K y0 y1 z0 z1 hS;obtain⟨Y10,hX⟩:=ez ((Y9.setCell ⟨p6,0,none⟩ (Aa Ab (s1))).setCell ⟨p6,1,none⟩ (Aa Ab (s2)));rw[←hX]at H hb⊢;clear hX;have hS:=HSA.out _ hb;refine Ak (by kernel_rfl) ?_ _;go_wp2_with fail;go_meet;exact⟨_,_,rfl,rfl,H⟩
  ·obtain⟨p6,hp⟩:=ey X0.heap.size;have hl8:W.heap.size≤p6:=hp▸hb.size;have hb:=hb.alloc hb.size (.cells #[Aa Ab 0,Aa Ab 0] 283);have H:=H.new #[Aa Ab 0,Aa Ab 0] 283 hp;have HP8:=Ae hp;go_simp;refine hK.out _ _ (HSA.out _ hb) (fun hS=>?_);clear hK K;obtain⟨X1,hX⟩:=ez (X0.alloc (.cells #[Aa Ab 0,Aa Ab 0] 283));rw[←hX]at H hb⊢;clear hX hp hS HP8;have hS:=HSA.out _ hb;refine Am (rs:=[1,7]) (by kernel_rfl) (by simp) (An rfl (fun K hK=>?_) (An rfl (fun K hK=>?_) (Ao)))
   ·go_simp;refine(HMID.out _).mono ?_;rintro e X2 ⟨rfl,hbm⟩;have hb:=hb.trans (hbm.mono hb.size);have H:=H.call hbm;refine hK.out _ _ (HSA.out _ hb) (fun hS=>?_);clear hK K hbm;refine rdy 7 (fun K hK=>?_)
    ·obtain⟨p5,hp⟩:=ey X2.heap.size;have hl7:W.heap.size≤p5:=hp▸hb.size;have hb:=hb.alloc hb.size (.cells #[Aa Ab 0,Aa Ab 0] 283);have H:=H.new #[Aa Ab 0,Aa Ab 0] 283 hp;have HP7:=Ae hp;go_simp;refine hK.out _ _ (HSA.out _ hb) (fun hS=>?_);clear hK K;obtain⟨X3,hX⟩:=ez (X2.alloc (.cells #[Aa Ab 0,Aa Ab 0] 283));rw[←hX]at H hb⊢;clear hX hp hS HP7;have hS:=HSA.out _ hb;refine rdy 9 (fun K hK=>?_);obtain⟨⟨y0,y1⟩,z0,z1⟩:=Cu (H.blk 4 _ _ _ rfl);have hb:=(hb.setCell (p:=⟨p5,0,none⟩) hl7 (Aa Ab (2*a+1))).setCell (p:=⟨p5,1,none⟩) hl7 (Aa Ab (2*b+1));have H:=(H.set 4 0 rfl (Aa Ab (2*a+1))).set 4 1 rfl (Aa Ab (2*b+1));go_simp;refine hK.out _ _ (HSA.out _ hb) (fun hS=>?_);clear hK K y0 y1 z0 z1 hS;obtain⟨Y9,hX⟩:=ez ((X3.setCell ⟨p5,0,none⟩ (Aa Ab (2*a+1))).setCell ⟨p5,1,none⟩ (Aa Ab (2*b+1)));rw[←hX]at H hb⊢;clear hX;have hS:=HSA.out _ hb;refine rdy 10 (fun K hK=>?_);obtain⟨⟨y0,y1⟩,z0,z1⟩:=Cu (H.blk 3 _ _ _ rfl);have hb:=(hb.setCell (p:=⟨p6,0,none⟩) hl8 (Aa Ab (s1))).setCell (p:=⟨p6,1,none⟩) hl8 (Aa Ab (s2));have H:=(H.set 3 0 rfl (Aa Ab (s1))).set 3 1 rfl (Aa Ab (s2));go_simp;refine hK.out _ _ (HSA.out _ hb) (fun hS=>?_);clear hK K y0 y1 z0 z1 hS;obtain⟨Y10,hX⟩:=ez ((Y9.setCell ⟨p6,0,none⟩ (Aa Ab (s1))).setCell ⟨p6,1,none⟩ (Aa Ab (s2)));rw[←hX]at H hb⊢;clear hX;have hS:=HSA.out _ hb;refine Ak (by kernel_rfl) ?_ _;go_wp2_with fail;go_meet;exact⟨_,_,rfl,rfl,H.perm (.cons _ (.cons _ (.cons _ (.swap _ _ _))))⟩
   ·obtain⟨p5,hp⟩:=ey X1.heap.size;have hl7:W.heap.size≤p5:=hp▸hb.size;have hb:=hb.alloc hb.size (.cells #[Aa Ab 0,Aa Ab 0] 283);have H:=H.new #[Aa Ab 0,Aa Ab 0] 283 hp;have HP7:=Ae hp;go_simp;refine hK.out _ _ (HSA.out _ hb) (fun hS=>?_);clear hK K;obtain⟨X2,hX⟩:=ez (X1.alloc (.cells #[Aa Ab 0,Aa Ab 0] 283));rw[←hX]at H hb⊢;clear hX hp hS HP7;have hS:=HSA.out _ hb;refine rdy 1 (fun K hK=>?_)
    ·go_simp;refine(HMID.out _).mono ?_;rintro e X3 ⟨rfl,hbm⟩;have hb:=hb.trans (hbm.mono hb.size);have H:=H.call hbm;refine hK.out _ _ (HSA.out _ hb) (fun hS=>?_);clear hK K hbm;refine rdy 9 (fun K hK=>?_);obtain⟨⟨y0,y1⟩,z0,z1⟩:=Cu (H.blk 4 _ _ _ rfl);have hb:=(hb.setCell (p:=⟨p5,0,none⟩) hl7 (Aa Ab (2*a+1))).setCell (p:=⟨p5,1,none⟩) hl7 (Aa Ab (2*b+1));have H:=(H.set 4 0 rfl (Aa Ab (2*a+1))).set 4 1 rfl (Aa Ab (2*b+1));go_simp;refine hK.out _ _ (HSA.out _ hb) (fun hS=>?_);clear hK K y0 y1 z0 z1 hS;obtain⟨Y9,hX⟩:=ez ((X3.setCell ⟨p5,0,none⟩ (Aa Ab (2*a+1))).setCell ⟨p5,1,none⟩ (Aa Ab (2*b+1)));rw[←hX]at H hb⊢;clear hX;have hS:=HSA.out _ hb;refine rdy 10 (fun K hK=>?_);obtain⟨⟨y0,y1⟩,z0,z1⟩:=Cu (H.blk 3 _ _ _ rfl);have hb:=(hb.setCell (p:=⟨p6,0,none⟩) hl8 (Aa Ab (s1))).setCell (p:=⟨p6,1,none⟩) hl8 (Aa Ab (s2));have H:=(H.set 3 0 rfl (Aa Ab (s1))).set 3 1 rfl (Aa Ab (s2));go_simp;refine hK.out _ _ (HSA.out _ hb) (fun hS=>?_);clear hK K y0 y1 z0 z1 hS;obtain⟨Y10,hX⟩:=ez ((Y9.setCell ⟨p6,0,none⟩ (Aa Ab (s1))).setCell ⟨p6,1,none⟩ (Aa Ab (s2)));rw[←hX]at H hb⊢;clear hX;have hS:=HSA.out _ hb;refine Ak (by kernel_rfl) ?_ _;go_wp2_with fail;go_meet;exact⟨_,_,rfl,rfl,H.perm (.cons _ (.cons _ (.cons _ (.swap _ _ _))))⟩
 case rest=>
  obtain⟨p5,p6,rfl,rfl,H⟩:=hcut;clear hne1 hne2 g0 g1 g2 r0 r1;obtain⟨⟨f0,f1,f2⟩,_⟩:=Ci (H.blk 0 _ _ _ rfl);obtain⟨⟨e0,e1⟩,y0,y1⟩:=Cu (H.blk 3 _ _ _ rfl);have HT1:=HT.out.below H.below;go_wp2_with fail;refine(HP1.out _ HT1).mono ?_;rintro e w2 ⟨rfl,hb⟩;have H2:=H.call hb;clear f0 f1 f2 e0 e1 y0 y1 hb H HT1;obtain⟨⟨f0,f1,f2⟩,u0,u1,u2⟩:=Ci (H2.blk 0 _ _ _ rfl);obtain⟨⟨e0,e1⟩,y0,y1⟩:=Cu (H2.blk 3 _ _ _ rfl);have nb1:N≠p5:=H2.ne 0 3 (by omega) rfl rfl;go_upto_region 3 with fail;have H3:=(H2.set 3 0 rfl (Aa Ab X)).set 3 1 rfl (Aa Ab Y);obtain⟨W3,hW3⟩:=ez ((w2.setCell ⟨p5,0,none⟩ (Aa Ab X)).setCell ⟨p5,1,none⟩ (Aa Ab Y));rw[←hW3]at H3⊢;clear f0 f1 f2 u0 u1 u2 e0 e1 y0 y1 hW3 H2;obtain⟨⟨f0,f1,f2⟩,u0,u1,u2⟩:=Ci (H3.blk 0 _ _ _ rfl);go_upto_region 4 with fail;have H4:=(H3.set 0 1 rfl (Aa Ab 0)).set 0 2 rfl (Aa Ab 0);obtain⟨W4,hW4⟩:=ez ((W3.setCell ⟨N,1,none⟩ (Aa Ab 0)).setCell ⟨N,2,none⟩ (Aa Ab 0));rw[←hW4]at H4⊢;clear f0 f1 f2 u0 u1 u2 hW4 H3;obtain⟨⟨f0,f1,f2⟩,_⟩:=Ci (H4.blk 0 _ _ _ rfl);obtain⟨⟨e0,e1⟩,y0,y1⟩:=Cu (H4.blk 4 _ _ _ rfl);have HT4:=HT.out.below H4.below;go_wp2_with fail;refine(HP2.out _ HT4).mono ?_;rintro e w5 ⟨rfl,hb⟩;have H5:=H4.call hb;clear f0 f1 f2 e0 e1 y0 y1 hb H4 HT4;obtain⟨⟨e0,e1⟩,y0,y1⟩:=Cu (H5.blk 4 _ _ _ rfl);go_upto_region 5 with fail;have H6:=(H5.set 4 0 rfl (Aa Ab U)).set 4 1 rfl (Aa Ab V);obtain⟨W6,hW6⟩:=ez ((w5.setCell ⟨p6,0,none⟩ (Aa Ab U)).setCell ⟨p6,1,none⟩ (Aa Ab V));rw[←hW6]at H6⊢;clear e0 e1 y0 y1 hW6 H5;obtain⟨⟨e0,e1⟩,_⟩:=Cu (H6.blk 3 _ _ _ rfl);have a1:=Rx X;have a2:=Rx Y;have k1:IntKind.i64.wrap (X-X%2)=X-X%2:=Bu _ (by omega);have k2:IntKind.i64.wrap (Y-Y%2)=Y-Y%2:=Bu _ (by omega);have k3:IntKind.i64.wrap ((X-X%2).tdiv 2)=rx:=by rw[HX1.out,show X-X%2=2*(X/2)by omega,Int.mul_tdiv_cancel_left _ (by decide)];exact Bu _ (by omega)
  have k4:IntKind.i64.wrap ((Y-Y%2).tdiv 2)=ry:=by rw[HX2.out,show Y-Y%2=2*(Y/2)by omega,Int.mul_tdiv_cancel_left _ (by decide)];exact Bu _ (by omega)
  go_upto_region 6 with fail;clear a1 a2 k1 k2 k3 k4 e0 e1;have H7:=H6.new #[Aa Ab rx,Aa Ab ry,Aa Ac 0] 123 rfl;obtain⟨p7,hp7⟩:=ey W6.heap.size;rw[hp7]at H7⊢;obtain⟨W7,hW7⟩:=ez (W6.alloc (.cells #[Aa Ab rx,Aa Ab ry,Aa Ac 0] 123));rw[←hW7]at H7⊢;clear hp7 hW7 H6;have hr:=(HQ.out.below H7.below).at'
  repeat' (go_not_at_region 7;first
   |refine wpList_load_mid rfl 344 (.global 1) rfl 1 0 rfl _ _ hr Tryz.underlying344 rfl (by kernel_rfl) ?_
   |go_step)
  clear hr
  go_loopw [47] (fun i wr=>∃k:Nat,k≤4∧i= Aa Ab k∧Bx w [(N,#[Aa Ac t,Aa Ab 0,Aa Ab 0],40),(N+1,#[Aa Ab a,Aa Ab b,Aa Ac q],123),(P,#[Aa Ab 0,Aa Ab 0,Aa Ac 0],123),(p5,#[Aa Ab X,Aa Ab Y],283),(p6,#[Aa Ab U,Aa Ab V],283),(p7,#[Aa Ab rx,Aa Ab ry,Aa Ac (sqN (U,V) k)],123)] wr) (fun i _=>4-(intOf i).toNat)
  case atStart=>exact⟨0,by omega,rfl,H7⟩
  case round=>
   obtain⟨k,hk,rfl,Hr⟩:=hrel;obtain⟨S,hS⟩:=ey (sqN (U,V) k);have HS:=Ae hS;rw[hS]at Hr;clear hS;by_cases hlt:k<4
   ·have q2:(k:Int)<4:=by omega
    have hix:=fun w=>fU k hlt w;unfold Jy Ie at hix;obtain⟨⟨d1,d2⟩,hd⟩:=ey (Ho k);obtain⟨e3,h3⟩:=ey (qln k);obtain⟨e4,h4⟩:=ey (qby k);obtain⟨⟨n1,n2,n3⟩,h6⟩:=ey (nxt k 0);obtain⟨⟨n4,n5,n6⟩,h7⟩:=ey (nxt k 1);obtain⟨⟨n7,n8,n9⟩,h8⟩:=ey (nxt k 2);obtain⟨⟨u1,u2⟩,h1⟩:=ey (Pq k);obtain⟨⟨v1,v2⟩,h2⟩:=ey (Pr k);rw[hd,h3,h4,h6,h7,h8,h1,h2]at hix;dsimp only at hix;have HD:=Ae hd
    have kw:IntKind.u8.wrap (k:Int)=k:=by
     have:k=0∨k=1∨k=2∨k=3:=by omega
     rcases this with rfl|rfl|rfl|rfl<;>rfl
    clear hd h3 h4 h6 h7 h8 h1 h2;go_upto_region 8 with fail
    repeat' (go_not_at_region 9;first
     |refine Iv rfl 343 (.tmp 9) (.tmp 50) rfl _ _ rfl rfl (by kernel_rfl) rfl rfl ?_
     |go_step)
    clear hix;obtain⟨p9,hp9⟩:=ey wr.heap.size;rw[hp9];have H9:=Hr.new #[Aa Ab d1,Aa Ab d2,Aa Ac e3,Aa Ab e4,Aa Ab n1,Aa Ab n2,Aa Ac n3,Aa Ab n4,Aa Ab n5,Aa Ac n6,Aa Ab n7,Aa Ab n8,Aa Ac n9,Aa Ab u1,Aa Ab u2,Aa Ab v1,Aa Ab v2] 343 hp9;obtain⟨W9,hW9⟩:=ez (wr.alloc (.cells #[Aa Ab d1,Aa Ab d2,Aa Ac e3,Aa Ab e4,Aa Ab n1,Aa Ab n2,Aa Ac n3,Aa Ab n4,Aa Ab n5,Aa Ac n6,Aa Ab n7,Aa Ab n8,Aa Ac n9,Aa Ab u1,Aa Ab u2,Aa Ab v1,Aa Ab v2] 343));rw[←hW9]at H9;change Code.wp _ _ _ _ (wr.alloc (.cells #[Aa Ab d1,Aa Ab d2,Aa Ac e3,Aa Ab e4,Aa Ab n1,Aa Ab n2,Aa Ac n3,Aa Ab n4,Aa Ab n5,Aa Ac n6,Aa Ab n7,Aa Ab n8,Aa Ac n9,Aa Ab u1,Aa Ab u2,Aa Ab v1,Aa Ab v2] 343));rw[←hW9];have hrr:=H9.range 6 rfl;have r0:=hrr 0 _ rfl;have r1:=hrr 1 _ rfl;simp only[Bp]at r0 r1;clear hrr hp9 hW9 Hr;obtain⟨⟨e0,e1⟩,_⟩:=Cu (H9.blk 4 _ _ _ rfl);obtain⟨⟨f0,f1,f2⟩,g0,g1,g2⟩:=Ci (H9.blk 5 _ _ _ rfl);have hs1:sqN (U,V) (k+1)=if Ho k=(U,V)then k else sqN (U,V) k:=rfl;by_cases hq2:d1=U∧d2=V
    ·obtain⟨rfl,rfl⟩:=hq2;have HN:Hid (sqN (d1,d2) (k+1)=k):=Ae (by rw[hs1,HD.out,if_pos rfl]);clear hs1;go_wp2_with fail;exact⟨⟨k+1,by omega,by go_num,by rw[HN.out];exact(H9.set 5 2 rfl (Aa Ac k)).upto 6⟩,by simp[intOf];omega⟩
    ·have HN:Hid (sqN (U,V) (k+1)=S):=Ae (by rw[hs1,HD.out,if_neg (fun h=>hq2 (by injection h with h1 h2;exact⟨h1,h2⟩)),HS.out]);clear hs1;go_wp2_with fail
     all_goals first
      |exact absurd ⟨rfl,rfl⟩ hq2
      |exact absurd ⟨by assumption,by assumption⟩ hq2
      |exact⟨⟨k+1,by omega,by go_num,by rw[HN.out];exact H9.upto 6⟩,by simp[intOf];omega⟩
   ·have hk4:k=4:=by omega
    subst hk4;obtain⟨⟨f0,f1,f2⟩,_⟩:=Ci (Hr.blk 5 _ _ _ rfl);obtain⟨⟨c0,c1',c2'⟩,z0,z1,z2⟩:=Ci (Hr.blk 2 _ _ _ rfl);have HF:Hid (S=rq):=Ae (by rw[←HS.out,Aj1,HRQ.out]);go_wp2_with fail;have H8:=((Hr.set 2 0 rfl (Aa Ab rx)).set 2 1 rfl (Aa Ab ry)).set 2 2 rfl (Aa Ac S);exact Af (Dg rfl rfl (H8.range 2 rfl) Tryz.underlying123 rfl (by kernel_rfl)) rfl ⟨by rw[HF.out];rfl,H8.below⟩
theorem Yd:iC:=fun m c w hm hc hQ hT=>rS m c w hm hc hQ hT
structure Xh {κ:Type} [DecidableEq κ] (kt:TypeId) (K:κ→Ah):Prop where
 now:∃d,Tryz.prog.underlying kt=some d∧∀p q,Instr.sameNow d (K p) (K q)=none
 eq:∀p q w,(Op.equal kt (K p) (K q)).run Tryz.prog w= .ok (decide (p=q)) w
 check:∀b p w,(Instr.checkKey b 10000 kt (K p)).run Tryz.prog w= .ok () w
 bits:∀p,Instr.sameBits 10000 (K p) (K p)=true
section
variable {κ:Type} [DecidableEq κ] {kt:TypeId} {K:κ→Ah}
def Il (p:κ):List (κ×Ah)→Nat→Option (Nat×Ah)
 |[],_=>none
 |q::l,n=>if p=q.1 then some (n,q.2)else Il p l (n+1)
def Ht (p:κ) (l:List (κ×Ah)):Option Ah:=(Il p l 0).map (·.2)
def Kl (p:κ) (v:Ah) (l:List (κ×Ah)):List (κ×Ah):=match Il p l 0 with
 |some (i,_)=>l.set i (p,v)
 |none=>l++[(p,v)]
def Fa (K:κ→Ah) (w:Ag) (M:Nat) (l:List (κ×Ah)):Prop:=
 ∃es clock,w.heap[M]? =some (.map es clock)∧es.toList.map (fun e=>(e.key,e.val))=l.map fun q=>(K q.1,q.2)
theorem Zr (h:Xh kt K) (p:κ) (w:Ag):∀(es:List MapEntry) (l:List (κ×Ah)) (n:Nat),es.map (fun e=>(e.key,e.val))=(l.map fun q=>(K q.1,q.2))→
  (Instr.findAsking kt (K p) es n).run Tryz.prog w= .ok (Il p l n) w
 |[],[],n,_=>by simp[Instr.findAsking,Il]
 |[],q::l,n,he=>by simp at he
 |e::es,[],n,he=>by simp at he
 |e::es,q::l,n,he=>by
  simp only[List.map_cons,List.cons.injEq,Prod.mk.injEq]at he;obtain⟨⟨h1,h2⟩,h3⟩:=he;by_cases hpq:p=q.1
  ·simp[Instr.findAsking,Il,h1,h.eq,hpq,h2]
  ·simp[Instr.findAsking,Il,h1,h.eq,hpq,Zr h p w es l (n+1) h3]
theorem Se (h:Xh kt K) (p:κ) (w:Ag) (es:List MapEntry) (l:List (κ×Ah)) (he:es.map (fun e=>(e.key,e.val))=l.map fun q=>(K q.1,q.2)):
  (Instr.findKey kt (K p) es).run Tryz.prog w= .ok (Il p l 0) w:=by
 obtain⟨d,hd,hn⟩:=h.now
 cases es with
 |nil=>
  cases l with
  |nil=>simp[Instr.findKey,run_underlying hd,Instr.findNow,Il]
  |cons q l=>simp at he
 |cons e r=>
  cases l with
  |nil=>simp at he
  |cons q l=>
   have h1:e.key=K q.1:=by simp at he;exact he.1.1
   have hr:(Instr.findKey kt (K p) (e::r)).run Tryz.prog w=(Instr.findAsking kt (K p) (e::r) 0).run Tryz.prog w:=by
    simp[Instr.findKey,run_underlying hd,Instr.findNow,h1,hn]
   rw[hr,Zr h p w _ _ 0 he]
theorem Nv (h:Xh kt K) {mt et:TypeId} (hm:Tryz.prog.underlying mt=some (.map kt et)) {z:Ah} (hz:∀w,(zeroValue et).run Tryz.prog w= .ok z w) {w:Ag} {M:Nat} {l:List (κ×Ah)} (hM:Fa K w M l) (p:κ) (ok:Bool):
  (Instr.lookup mt (.map (some M)) (K p) ok).run Tryz.prog w= .ok (if ok then .tuple #[(Ht p l).getD z,.bool (Ht p l).isSome]else (Ht p l).getD z) w:=by
 obtain⟨es,clock,hb,he⟩:=hM;have hobj:(getObj M).run Tryz.prog w= .ok (.map es clock) w:=by simp[getObj,Sem.run,hb]
 have hck:=h.check es.isEmpty p w;have hf:=Se h p w es.toList l he;unfold Ht
 cases hi:Il p l 0 with
 |none=>
  rw[hi]at hf;simp only[Instr.lookup,Sem.run_bind,run_underlying hm,Result.andThen_ok,hobj,Sem.run_pure,hck,hf,hz];rfl
 |some r=>
  rw[hi]at hf;simp only[Instr.lookup,Sem.run_bind,run_underlying hm,Result.andThen_ok,hobj,Sem.run_pure,hck,hf];rfl
theorem rT (h:Xh kt K) {mt et:TypeId} (hm:Tryz.prog.underlying mt=some (.map kt et)) {w:Ag} {M:Nat} {l:List (κ×Ah)} (hM:Fa K w M l) (p:κ) (v:Ah):
  ∃w',(Instr.mapUpdate mt (.map (some M)) (K p) v).run Tryz.prog w= .ok () w'∧Fa K w' M (Kl p v l)∧w.grownBy w' (some M):=by
 obtain⟨es,clock,hb,he⟩:=hM;have hlt:M<w.heap.size:=(Aq.1 hb).1;have hobj:(getObj M).run Tryz.prog w= .ok (.map es clock) w:=by simp[getObj,Sem.run,hb]
 have hset:∀o,(setObj M o).run Tryz.prog w= .ok () {w with heap:=w.heap.setIfInBounds M o}:=by intro o;simp[setObj,Sem.run,hb]
 have hck:=h.check false p w
 have hgr:∀o,w.grownBy {w with heap:=w.heap.setIfInBounds M o} (some M):=fun o=>⟨rfl,rfl,rfl,by simp,fun i _ hi=>by
  have:M≠i:=fun e=>hi (by rw[e]);simp[this]⟩
 have hf:=Se h p w es.toList l he
 have hidx:∀(l:List (κ×Ah)) (n i:Nat) (v:Ah),Il p l n=some (i,v)→n≤i∧∃q,l[i-n]? =some q∧q.1=p:=by
  intro l
  induction l with
  |nil=>intro n i v hh;simp[Il]at hh
  |cons q l ih=>
   intro n i v hh;unfold Il at hh;by_cases hpq:p=q.1
   ·rw[if_pos hpq]at hh;injection hh with hh;injection hh with h1 h2;subst h1;exact⟨Aj _,q,by simp,hpq.symm⟩
   ·rw[if_neg hpq]at hh;obtain⟨h1,q',h2,h3⟩:=ih (n+1) i v hh;refine⟨by omega,q',?_,h3⟩;have e:i-n=(i-(n+1))+1:=by omega
    rw[e,List.getElem?_cons_succ];exact h2
 unfold Kl
 cases hi:Il p l 0 with
 |none=>
  rw[hi]at hf;refine⟨{w with heap:=w.heap.setIfInBounds M (.map (es.push {key:=K p,val:=v,born:=clock}) (clock+1))},?_,⟨es.push {key:=K p,val:=v,born:=clock},clock+1,by simp[hlt],?_⟩,hgr _⟩
  ·simp only[Instr.mapUpdate,Sem.run_bind,run_underlying hm,Result.andThen_ok,hobj,hck,hf,hset]
  ·simp[he]
 |some r=>
  obtain⟨i,u⟩:=r;rw[hi]at hf;obtain⟨_,q,hq,hqp⟩:=hidx l 0 i u hi;rw[Nat.sub_zero]at hq
  have hei:∃e,es[i]? =some e∧e.key=K p:=by
   have h1:(es.toList.map (fun e=>(e.key,e.val)))[i]? =(l.map fun q=>(K q.1,q.2))[i]? :=by rw[he]
   rw[List.getElem?_map,List.getElem?_map,hq]at h1;simp only[Option.map_some,Array.getElem?_toList]at h1
   cases hes:es[i]? with
   |none=>rw[hes]at h1;simp at h1
   |some e=>
    rw[hes]at h1;simp at h1;exact⟨e,rfl,by rw[h1.1,hqp]⟩
  obtain⟨e,hj',hk⟩:=hei;have hst:(Instr.keyThatStays (K p) (K p)).run Tryz.prog w= .ok (K p) w:=by simp[Instr.keyThatStays,h.bits p]
  refine⟨{w with heap:=w.heap.setIfInBounds M (.map (es.modify i fun e=>{e with key:=K p,val:=v}) clock)},?_,⟨es.modify i fun e=>{e with key:=K p,val:=v},clock,by simp[hlt],?_⟩,hgr _⟩
  ·simp only[Instr.mapUpdate,Sem.run_bind,run_underlying hm,Result.andThen_ok,hobj,hck,hf,hset,hj',Option.map_some,Option.getD_some,hk,hst]
  ·apply List.ext_getElem?;intro k;have hk':(es.toList.map (fun e=>(e.key,e.val)))[k]? =(l.map fun q=>(K q.1,q.2))[k]? :=by rw[he]
   rw[List.getElem?_map,List.getElem?_map]at hk'⊢;rw[Array.toList_modify,List.getElem?_modify,List.getElem?_set];have hil:i<l.length:=(As.1 hq).1;by_cases hik:i=k
   ·subst hik;have hes:es.toList[i]? =some e:=by simpa using hj'
    simp[hes,hil]
   ·simp only[hik,if_false];simpa using hk'
theorem Nm (hk:Xh kt K) {mt et:TypeId} (hmt:Tryz.prog.underlying mt=some (.map kt et)) {z:Ah} (hz:∀w,(zeroValue et).run Tryz.prog w= .ok z w) (w:Ag) {ops:Array Oper} {rest:List Oper} {o:Oper} {a:Act} {Q:Exit→Act→Ag→Prop}
  (hg:o.guard=none) (m x:Operand) (ok:Bool) (hop:o.op=Op.lookup mt m x ok) (M:Nat) (l:List (κ×Ah)) (p:κ) (hm:a.eval m= .map (some M)) (hx:a.eval x=K p) (h:Fa K w M l)
  (hK:wpList Tryz.prog ops Q rest (a.put o.dst (if ok then .tuple #[(Ht p l).getD z,.bool (Ht p l).isSome]else (Ht p l).getD z)) w):
  wpList Tryz.prog ops Q (o::rest) a w:=by
 refine wpList_plain hg fun K' hK'=>?_;have hrun:=Nv hk hmt hz h p ok;unfold Oper.wp;simp only[execOp,hop,hm,hx,hrun,Sem.run_bind,Result.andThen_ok];exact hK' _ _ hK
theorem Lh (hk:Xh kt K) {mt et:TypeId} (hmt:Tryz.prog.underlying mt=some (.map kt et)) (w:Ag) {ops:Array Oper} {rest:List Oper} {o:Oper} {a:Act} {Q:Exit→Act→Ag→Prop}
  (hg:o.guard=none) (m x v:Operand) (hop:o.op=Op.mapUpdate mt m x v) (M:Nat) (l:List (κ×Ah)) (p:κ) (u:Ah) (hm:a.eval m= .map (some M)) (hx:a.eval x=K p) (hv:a.eval v=u) (h:Fa K w M l)
  (hK:∀w',Fa K w' M (Kl p u l)→w.grownBy w' (some M)→wpList Tryz.prog ops Q rest (a.put o.dst undef) w'):
  wpList Tryz.prog ops Q (o::rest) a w:=by
 refine wpList_plain hg fun K' hK'=>?_;obtain⟨w',hrun,h1,h2⟩:=rT hk hmt h p u;unfold Oper.wp;simp only[execOp,hop,hm,hx,hv,hrun,Sem.run_bind,Result.andThen_ok];exact hK' _ _ (hK w' h1 h2)
end
theorem Fa.kept {κ:Type} {K:κ→Ah} {w w':Ag} {M:Nat} {l:List (κ×Ah)} {row:Option Nat} (h:Fa K w M l) (hg:w.grownBy w' row) (hne:some M≠row):Fa K w' M l:=by
 obtain⟨es,clock,hb,hes⟩:=h;exact⟨es,clock,(hg.block M (Aq.1 hb).1 hne).trans hb,hes⟩
theorem Fa.below {κ:Type} {K:κ→Ah} {w w':Ag} {M N:Nat} {l:List (κ×Ah)} (h:Fa K w M l) (hb:Below N w w') (hN:M<N):Fa K w' M l:=by
 obtain⟨es,clock,hm,hes⟩:=h;exact⟨es,clock,_root_.Go.Proofs.YteoffhpfcgffcaaGreatDoor.kept hb hm hN,hes⟩
theorem Fa.lt {κ:Type} {K:κ→Ah} {w:Ag} {M:Nat} {l:List (κ×Ah)} (h:Fa K w M l):M<w.heap.size:=by
 obtain⟨es,clock,hm,hes⟩:=h;exact(Aq.1 hm).1
theorem Nx {κ:Type} (K:κ→Ah) (w:Ag):Fa K (w.alloc (.map #[] 0)) w.heap.size []:=⟨#[],0,Bt w _,by simp⟩
def unK (u:Int×Int):Ah:= .agg #[Aa Ab u.1,Aa Ac u.2]
theorem Ag8:Tryz.prog.underlying 3=some (.int .i64):=by kernel_rfl
theorem Am2:Tryz.prog.underlying 5=some (.int .u8):=by kernel_rfl
theorem nR:Tryz.prog.stoodInHeld 91=false:=by kernel_rfl
theorem yK (a b:Int) (w:Ag):(part 3 #[Value.int .i64 a,Aa Ac b] 0).run Tryz.prog w= .ok (Aa Ab a) w:=by kernel_rfl
theorem yL (a b:Int) (w:Ag):(part 5 #[Value.int .i64 a,Aa Ac b] 1).run Tryz.prog w= .ok (Aa Ac b) w:=by kernel_rfl
theorem aC (d:Nat) (a b:Int) (w:Ag):(Op.equalIn (d+1) 3 (Aa Ab a) (Aa Ab b)).run Tryz.prog w= .ok (a==b) w:=by
 simp[Op.equalIn,run_underlying Ag8]
theorem iZ (d:Nat) (a b:Int) (w:Ag):(Op.equalIn (d+1) 5 (Aa Ac a) (Aa Ac b)).run Tryz.prog w= .ok (a==b) w:=by
 simp[Op.equalIn,run_underlying Am2]
theorem gU (p q:Int×Int) (w:Ag):(Op.equal 91 (unK p) (unK q)).run Tryz.prog w= .ok (decide (p=q)) w:=by
 obtain⟨a,b⟩:=p;obtain⟨a',b'⟩:=q
 have h:∀n,(Op.equalIn (n+1+1) 91 (unK (a,b)) (unK (a',b'))).run Tryz.prog w= .ok (decide ((a,b)=(a',b'))) w:=by
  intro n;unfold Op.equalIn;simp only[Sem.run_bind,run_underlying Tryz.underlying91,Result.andThen_ok,unK,run_program,nR,Bool.false_eq_true,if_false];simp[yK,yL,aC,iZ];by_cases h0:a=a'<;>by_cases h1:b=b'<;>simp[h0,h1]
 exact h 9998
theorem Ly:Xh (κ:=Int×Int) 91 unK where
 now:=⟨_,Tryz.underlying91,fun p q=>rfl⟩
 eq:=gU
 check:=fun b p w=>by kernel_rfl
 bits:=fun p=>by
  have h:∀n,Instr.sameBits (n+1+1) (unK p) (unK p)=true:=by intro n;simp[Instr.sameBits,unK]
  exact h 9998
theorem Sd (r:Cr) (c e:Int) (w:Ag) (hr:r.fit) (hc:0≤c∧c≤1024) (he:0≤e∧e≤255):
  Ai Tryz.prog 292 #[.agg #[Aa Ab r.c,Aa Ac r.e,Aa Ac r.k],.agg #[Aa Ab c,Aa Ac e]] w (Cg (Aa Ab (Eh r.c r.e c e)) w):=by
 obtain⟨R,hR⟩:=ey (Eh r.c r.e c e);rw[hR];have HR:=Ae hR;have hf1:=hr.1;have hf2:=hr.2.1;obtain⟨n1,n2⟩:=Vt w (.cells #[Aa Ab r.c,Aa Ac r.e,Aa Ac r.k] 89) (.cells #[Aa Ab c,Aa Ac e] 91);have hb1:Below w.heap.size w ((w.alloc (.cells #[Aa Ab r.c,Aa Ac r.e,Aa Ac r.k] 89)).alloc (.cells #[Aa Ab c,Aa Ac e] 91)):=((Below.refl _ _).alloc (Aj _) _).alloc (by simp) _;clear hR hr;go_enter Tryz.func292,Tryz.ntmps292;go_upto_region 1 with fail;obtain⟨W,hW⟩:=ez ((w.alloc (.cells #[Aa Ab r.c,Aa Ac r.e,Aa Ac r.k] 89)).alloc (.cells #[Aa Ab c,Aa Ac e] 91));rw[←hW]at n1 n2 hb1⊢;obtain⟨N,hN⟩:=ez w.heap.size;rw[←hN]at n1 n2⊢;obtain⟨⟨x0,x1,x2⟩,_⟩:=Ci n1;obtain⟨⟨y0,y1⟩,_⟩:=Cu n2;clear hW n1 n2 hN
 go_region_held3 (fun w'=>w'.cell? ⟨N,0,none⟩=some (Aa Ab r.c)∧w'.cell? ⟨N,1,none⟩=some (Aa Ac r.e)∧w'.cell? ⟨N,2,none⟩=some (Aa Ac r.k)∧w'.cell? ⟨N+1,0,none⟩=some (Aa Ab c)∧w'.cell? ⟨N+1,1,none⟩=some (Aa Ac e))
  (first|exact⟨x0,x1,x2,y0,y1⟩|go_keep)
  (first
   |(go_at_call 42;(with_reducible refine(Rc _ _ _ _).mono ?_);rintro e' w6 ⟨rfl,hb6⟩;have hb1:=hb1.trans ((Cm hb6).mono hb1.size);have x0:=Ce (Cm hb6) x0;have x1:=Ce (Cm hb6) x1;have x2:=Ce (Cm hb6) x2;have y0:=Ce (Cm hb6) y0;have y1:=Ce (Cm hb6) y1)
   |(go_at_call 43;(with_reducible refine(Wt r.c r.e c e _ hf1 hc hf2 he).mono ?_);rintro e' w6 ⟨rfl,hb6⟩;rw[HR.out];have hb1:=hb1.trans (hb6.mono hb1.size);have x0:=Ce hb6 x0;have x1:=Ce hb6 x1;have x2:=Ce hb6 x2;have y0:=Ce hb6 y0;have y1:=Ce hb6 y1)
   |fail)
 all_goals
  go_wp2_with fail;go_ret;exact⟨rfl,hb1⟩
def Tg (l:List Cr) (c e:Int) (i:Nat) (is:Bool):Prop:=
 i≤l.length∧(∀k (hk:k<l.length),k<i→Eh l[k].c l[k].e c e<0)∧(∀k (hk:k<l.length),i≤k→0≤Eh l[k].c l[k].e c e)∧(is=true↔∃r,l[i]? =some r∧Eh r.c r.e c e=0)
def gZ (l:List Cr) (c e:Int) (w:Ag) (en:Ending) (w':Ag):Prop:=
 Below w.heap.size w w'∧∃i is,Tg l c e i is∧en= .returned (.tuple #[Aa Ab ((i:Nat):Int),.bool is])
theorem lX {a b:Cr} (h:Eh a.c a.e b.c b.e<0) (c e:Int) (hb:Eh b.c b.e c e<0):Eh a.c a.e c e<0:=by
 unfold Eh at*
 repeat' split at h
 all_goals repeat' split at hb
 all_goals repeat' split
 all_goals omega
theorem Pp {a b:Cr} (h:Eh a.c a.e b.c b.e<0) (c e:Int) (ha:0≤Eh a.c a.e c e):0<Eh b.c b.e c e:=by
 unfold Eh at*
 repeat' split at h
 all_goals repeat' split at ha
 all_goals repeat' split
 all_goals omega
theorem kH (A:Option Addr) (l:List Cr) (n cc:Nat) (c e:Int) (w:Ag) (hn:n=l.length) (h:Rd w A 3 n (crs l)) (hf:∀r∈l,r.fit) (ha:l.Pairwise fun r q=>Eh r.c r.e q.c q.e<0) (hl:n≤1000000) (hc:0≤c∧c≤1024) (he:0≤e∧e≤255):
  Ai Tryz.prog 291 #[Ad A n cc,.agg #[Aa Ab c,Aa Ac e],.func (.func 292) #[] #[]] w (gZ l c e w):=by
 have HN:=Ae hn;have HRD:=Ae h;have HF:=Ae hf;have HA:=Ae ha;have hn1:(w.alloc (.cells #[Aa Ab c,Aa Ac e] 91)).heap[w.heap.size]? =some (.cells #[Aa Ab c,Aa Ac e] 91 (0,0)):=Bt w _;have hb1:Below w.heap.size w (w.alloc (.cells #[Aa Ab c,Aa Ac e] 91)):=(Below.refl _ _).alloc (Aj _) _;have hz1:w.heap.size<(w.alloc (.cells #[Aa Ab c,Aa Ac e] 91)).heap.size:=by simp
 clear hn h hf ha;go_enter Tryz.func291,Tryz.ntmps291;go_upto_region 1 with fail;obtain⟨W,hW⟩:=ez (w.alloc (.cells #[Aa Ab c,Aa Ac e] 91));rw[←hW]at hn1 hb1 hz1⊢;obtain⟨N,hN⟩:=ez w.heap.size;rw[←hN]at hn1 hz1⊢;have N1:=Ae hn1;clear hW hn1 hN;go_wp2_with fail
 go_loopw [9,10,11] (fun x y _ wr=>∃i j:Nat,i≤j∧j≤n∧x= Aa Ab i∧y= Aa Ab j∧wr.heap[N]? =some (.cells #[Aa Ab c,Aa Ac e] 91 (0,0))∧N<wr.heap.size∧Below w.heap.size w wr∧Hid (∀k (hk:k<l.length),k<i→Eh l[k].c l[k].e c e<0)∧Hid (∀k (hk:k<l.length),j≤k→0≤Eh l[k].c l[k].e c e)) (fun x y _ _=>(intOf y).toNat-(intOf x).toNat)
 case atStart=>exact⟨0,n,by omega,by omega,rfl,rfl,N1.out,hz1,hb1,Ae (fun k hk hk'=>by omega),Ae (fun k hk hk'=>by have:=HN.out;omega)⟩
 case round=>
  obtain⟨i,j,hij,hjn,rfl,rfl,hbk,hNr,hbr,H1,H2⟩:=hrel;have HBK:=Ae hbk;obtain⟨⟨u0,u1⟩,_⟩:=Cu hbk;have hrd:=HRD.out.below hbr;have hlen:=HN.out;rw[hlen]at hrd;clear hbk;by_cases hlt:i<j
  ·obtain⟨m,hm⟩:=ez ((i+j)/2);have hml:m<l.length:=by omega
   obtain⟨bb,o,hA,hbl,c0,c1,c2⟩:=Qv hrd m hml;have hft:=HF.out l[m] (Au _);obtain⟨r,hr⟩:=ey (l[m]);rw[hr]at c0 c1 c2 hft;have HR:=Ae hr;have HM:=Ae hm;have HFT:=Ae hft;have q1:(i:Int)<(j:Int):=by omega
   have q2:((i:Int)+(j:Int))/2=(m:Int):=by omega
   have q3:(m:Int)<(n:Int):=by omega
   have q4:i≤m:=by omega
   have q5:m<j:=by omega
   clear hr hm hrd hlen hft;subst hA;go_wp2_with fail
   go_still_tail 6,(by kernel_rfl)
   change wpList _ _ _ _ _ wr.drew;go_wp2_with fail;refine(Sd r c e _ HFT.out hc he).mono ?_;rintro e' w2 ⟨rfl,hb2'⟩;have hb2:=Cm hb2';have hbel2:Below w.heap.size w w2:=hbr.trans (hb2.mono hbr.size);have K2:=Ae (kept hb2 HBK.out hNr);have hN2:N<w2.heap.size:=Bm hNr hb2.size;obtain⟨O,hO⟩:=ey (Eh r.c r.e c e);rw[hO];have HO:=Ae hO;clear c0 c1 c2 u0 u1 hb2 hb2' q2 hO;by_cases hJ:O<0
   ·have HJ:=Ae hJ;have hd:decide (O<0)=true:=by simpa using hJ
    go_wp2_with fail
    go_roundw
    case rel=>
     refine⟨m+1,j,by omega,by omega,by go_num,rfl,K2.out,hN2,hbel2,Ae (fun k hk hki=>?_),H2⟩;rcases Nat.lt_or_ge k m with h'|h'
     ·have h3:=List.pairwise_iff_getElem.1 HA.out k m hk hml h';rw[HR.out]at h3;exact lX h3 c e (by rw[HO.out];exact hJ)
     ·obtain rfl:k=m:=by omega
      rw[HR.out,HO.out];exact hJ
    case measure=>simp[intOf];omega
   ·have hd:decide (O<0)=false:=by simpa using hJ
    go_wp2_with fail
    go_roundw
    case rel=>
     refine⟨i,m,by omega,by omega,rfl,rfl,K2.out,hN2,hbel2,H1,Ae (fun k hk hki=>?_)⟩;rcases Nat.lt_or_ge m k with h'|h'
     ·have h3:=List.pairwise_iff_getElem.1 HA.out m k hml hk h';rw[HR.out]at h3;have h4:=Pp h3 c e (by rw[HO.out];omega);omega
     ·obtain rfl:k=m:=by omega
      rw[HR.out,HO.out];omega
    case measure=>simp[intOf];omega
  ·obtain rfl:i=j:=by omega
   have q1:¬(i:Int)<(i:Int):=by omega
   by_cases hi:i<n
   ·have hil:i<l.length:=by omega
    obtain⟨bb,o,hA,hbl,c0,c1,c2⟩:=Qv hrd i hil;have hft:=HF.out l[i] (Au _);obtain⟨r,hr⟩:=ey (l[i]);rw[hr]at c0 c1 c2 hft;have HR:=Ae hr;have HFT:=Ae hft;have q2:decide ((i:Int)<(n:Int))=true:=by simp;omega
    have q3:(i:Int)<(n:Int):=by omega
    clear hr hrd hlen hft;subst hA;go_wp2_with fail
    go_region_held3 (fun w'=>w'.cell? ⟨bb,o+i*3,none⟩=some (Aa Ab r.c)∧w'.cell? ⟨bb,o+i*3+1,none⟩=some (Aa Ac r.e)∧w'.cell? ⟨bb,o+i*3+2,none⟩=some (Aa Ac r.k)∧w'.cell? ⟨N,0,none⟩=some (Aa Ab c)∧w'.cell? ⟨N,1,none⟩=some (Aa Ac e))
     (first|exact⟨c0,c1,c2,u0,u1⟩|go_keep)
     (first
      |(go_at_call 292;(with_reducible refine(Sd r c e _ HFT.out hc he).mono ?_);rintro e' w6 ⟨rfl,hb6⟩;have hbr:=hbr.trans ((Cm hb6).mono hbr.size);have c0:=Ce (Cm hb6) c0;have c1:=Ce (Cm hb6) c1;have c2:=Ce (Cm hb6) c2;have u0:=Ce (Cm hb6) u0;have u1:=Ce (Cm hb6) u1)
      |fail)
    all_goals
     go_wp2_with fail
     go_ret2
     refine⟨hbr,i,Eh r.c r.e c e==0,⟨by omega,H1.out,H2.out,?_⟩,rfl⟩;rw[Ar hil,HR.out];simp
   ·have q2:decide ((i:Int)<(n:Int))=false:=by simp;omega
    have hln:l.length≤i:=by omega
    have hln2:i≤l.length:=by omega
    clear hlen hrd;go_wp2_with fail
    go_quiet (fail)
    go_wp2_with fail
    go_ret2
    refine⟨Cp hbr _,i,false,⟨hln2,H1.out,H2.out,?_⟩,rfl⟩;rw[List.getElem?_eq_none hln];simp
theorem pY (A:Option Addr) (l:List Cr) (n cc:Nat) (c e:Int) (w:Ag) (hn:n=l.length) (h:Rd w A 3 n (crs l)) (hf:∀r∈l,r.fit) (ha:l.Pairwise fun r q=>Eh r.c r.e q.c q.e<0) (hl:n≤1000000) (hc:0≤c∧c≤1024) (he:0≤e∧e≤255):
  Ai Tryz.prog 227 #[Ad A n cc,.agg #[Aa Ab c,Aa Ac e]] w (gZ l c e w):=by
 have hb:=kH A l n cc c e (w.alloc (.cells #[Aa Ab c,Aa Ac e] 91)) hn (h.alloc _) hf ha hl hc he;have HB:=Ae hb;clear hb hn h hf ha;go_enter Tryz.func227,Tryz.ntmps227;go_wp2_with fail;refine HB.out.mono ?_;rintro e' w2 ⟨hb2,i,is,hat,rfl⟩;have HAT:=Ae hat;clear hat;go_wp2_with fail
 go_ret2
 exact⟨((Below.refl _ _).alloc (Aj _) _).trans (hb2.mono (by simp)),i,is,HAT.out,rfl⟩
def Af6 (l:List Cr) (c e:Int) (w:Ag) (en:Ending) (w':Ag):Prop:=
 Below w.heap.size w w'∧∃i is,Tg l c e i is∧en= .returned (.tuple #[.agg #[Aa Ab c,Aa Ac e],Aa Ab ((i:Nat):Int),.bool is,Aa Ab 0])
theorem Af9 (a b:Int) (A:Option Addr) (l:List Cr) (n cc:Nat) (id e c':Int) (w:Ag) (hn:n=l.length) (h:Rd w A 3 n (crs l)) (hp:Fy a b l) (hQ:Qt w) (hnm:Fz a b id e=(c',e,0)) (hc:0≤c'∧c'≤1024) (he:0≤e∧e≤255):
  Ai Tryz.prog 162 #[.agg #[Aa Ab a,Aa Ab b,Ad A n cc],Aa Ab id,Aa Ac e] w (Af6 l c' e w):=by
 have HN:=Ae hn;have HRD:=Ae h;have HP:=Ae hp;have HNM:=Ae hnm;have hlen:n≤1000000:=by have:=hp.len;omega
 obtain⟨n1,n2⟩:=Vt w (.cells #[Aa Ab a,Aa Ab b,Ad A n cc] 38) (.cells #[Aa Ab 0,Aa Ac 0] 91);have hb1:Below w.heap.size w ((w.alloc (.cells #[Aa Ab a,Aa Ab b,Ad A n cc] 38)).alloc (.cells #[Aa Ab 0,Aa Ac 0] 91)):=((Below.refl _ _).alloc (Aj _) _).alloc (by simp) _;have hz1:w.heap.size+1<((w.alloc (.cells #[Aa Ab a,Aa Ab b,Ad A n cc] 38)).alloc (.cells #[Aa Ab 0,Aa Ac 0] 91)).heap.size:=by simp
 clear hn h hp hnm;go_enter Tryz.func162,Tryz.ntmps162;go_upto_region 1 with fail;obtain⟨W,hW⟩:=ez ((w.alloc (.cells #[Aa Ab a,Aa Ab b,Ad A n cc] 38)).alloc (.cells #[Aa Ab 0,Aa Ac 0] 91));rw[←hW]at n1 n2 hb1 hz1⊢;obtain⟨N,hN⟩:=ez w.heap.size;rw[←hN]at n1 n2 hz1⊢;have HNN:=Ae hN;have N1:=Ae n1;have N2:=Ae n2;obtain⟨⟨x0,x1,x2⟩,_⟩:=Ci n1;clear hW n1 n2 hN;go_wp2_with fail;refine(Wx a b A l n cc _ HN.out (HRD.out.below hb1) HP.out (hQ.below hb1)).mono ?_;rintro e' w2 ⟨rfl,hb2⟩;have hb2':Below w.heap.size w w2:=hb1.trans (hb2.mono hb1.size);have M1:=Ae (kept hb2 N1.out (by omega));have M2:=Ae (kept hb2 N2.out hz1);obtain⟨⟨y0,y1,y2⟩,_⟩:=Ci M1.out;have hz2:N+1<w2.heap.size:=Bm hz1 hb2.size;clear x0 x1 x2 hb2 N1 N2;go_wp2_with fail;refine(Qn a b id e _ HP.out.sheet he.1 (hQ.below hb2')).mono ?_;rintro e' w3 ⟨rfl,hb3⟩;rw[HNM.out];unfold Nl;dsimp only;have hb3':Below w.heap.size w w3:=hb2'.trans (hb3.mono hb2'.size);have P1:=Ae (kept hb3 M1.out (by omega));have P2:=Ae (kept hb3 M2.out hz2);obtain⟨⟨z0,z1,z2⟩,_⟩:=Ci P1.out;have hz3:N+1<w3.heap.size:=Bm hz2 hb3.size;have hz3':N<w3.heap.size:=by omega
 have hs3:=hb3'.size;clear y0 y1 y2 hb3 M1 M2;go_wp2_with fail;have hb4:Below w.heap.size w (w3.alloc (.cells #[Aa Ab c',Aa Ac e] 91)):=hb3'.alloc hs3 _;refine(pY A l n cc c' e _ HN.out (HRD.out.below hb4) HP.out.fit HP.out.asc hlen hc he).mono ?_;rintro e' w5 ⟨hb5,i,is,hat,rfl⟩;have HAT:=Ae hat;have hb5':Below w.heap.size w w5:=hb4.trans (hb5.mono hb4.size);have Q2:w5.heap[N+1]? =some (.cells #[Aa Ab 0,Aa Ac 0] 91 (0,0)):=kept hb5 ((Below.heap_alloc _ _ _ hz3).trans P2.out) (by simp;omega);have Q3:w5.heap[w3.heap.size]? =some (.cells #[Aa Ab c',Aa Ac e] 91 (0,0)):=kept hb5 (Bt w3 _) (by simp);obtain⟨⟨r0,r1⟩,v0,v1⟩:=Cu Q2;obtain⟨⟨s0,s1⟩,_⟩:=Cu Q3;clear hat hb5 Q2 Q3 z0 z1 z2;go_wp2_with fail;refine Af (v:= .tuple #[.agg #[Aa Ab c',Aa Ac e],Aa Ab ((i:Nat):Int),.bool is,Aa Ab 0]) (by simp[results,Tryz.results162,go_sem,r0,r1]) rfl ⟨?_,i,is,HAT.out,rfl⟩;have h9:=HNN.out;exact(hb5'.setCell (by simp;omega) _).setCell (by simp;omega) _
theorem kN (a b:Int) (w:Ag) (hs:okS a b=true):
  Ai Tryz.prog 45 #[.agg #[Aa Ab a,Aa Ab b]] w (Cg (.tuple #[.agg #[Aa Ab a,Aa Ab b,Ad none 0 0],Aa Ab 0]) w):=by
 have HS:=Ae hs;obtain⟨n1,n2⟩:=Vt w (.cells #[Aa Ab a,Aa Ab b] 35) (.cells #[Aa Ab 0,Aa Ab 0,Ad none 0 0] 38);have hb1:Below w.heap.size w ((w.alloc (.cells #[Aa Ab a,Aa Ab b] 35)).alloc (.cells #[Aa Ab 0,Aa Ab 0,Ad none 0 0] 38)):=((Below.refl _ _).alloc (Aj _) _).alloc (by simp) _;have hz1:w.heap.size+1<((w.alloc (.cells #[Aa Ab a,Aa Ab b] 35)).alloc (.cells #[Aa Ab 0,Aa Ab 0,Ad none 0 0] 38)).heap.size:=by simp
 clear hs;go_enter Tryz.func45,Tryz.ntmps45;go_upto_region 1 with fail;obtain⟨W,hW⟩:=ez ((w.alloc (.cells #[Aa Ab a,Aa Ab b] 35)).alloc (.cells #[Aa Ab 0,Aa Ab 0,Ad none 0 0] 38));rw[←hW]at n1 n2 hb1 hz1⊢;obtain⟨N,hN⟩:=ez w.heap.size;rw[←hN]at n1 n2 hz1⊢;have HNN:=Ae hN;obtain⟨⟨x0,x1⟩,_⟩:=Cu n1;have N1:=Ae n1;have N2:=Ae n2;clear hW n1 n2 hN;go_wp2_with fail;refine(Ev a b _).mono ?_;rintro e' w2 ⟨rfl,hb2⟩;rw[HS.out,Fo];have hb2':Below w.heap.size w w2:=hb1.trans (hb2.mono hb1.size);obtain⟨⟨y0,y1⟩,_⟩:=Cu (kept hb2 N1.out (by omega));obtain⟨⟨r0,r1,r2⟩,v0,v1,v2⟩:=Ci (kept hb2 N2.out hz1);clear x0 x1 hb2;go_wp2_with fail;refine Af (v:= .tuple #[.agg #[Aa Ab a,Aa Ab b,Ad none 0 0],Aa Ab 0]) (by simp[results,Tryz.results45,go_sem,r0,r1,r2]) rfl ⟨rfl,?_⟩;have h9:=HNN.out;exact((hb2'.setCell (by simp;omega) _).setCell (by simp;omega) _).setCell (by simp;omega) _
def fZ (l:List Cr) (i:Nat) (is:Bool) (r:Cr):List Cr:=l.take i++r::l.drop (if is then i+1 else i)
theorem sF (c e c' e':Int):Eh c' e' c e= -Eh c e c' e':=by
 unfold Eh
 repeat' split
 all_goals omega
theorem Af4 {c e c' e':Int} (h:Eh c e c' e'=0):c=c'∧e=e':=by
 unfold Eh at h
 split at h<;>omega
theorem xQ {a b c a' b' c':Int} (h1:Eh a a' b b'<0) (h2:Eh b b' c c'<0):Eh a a' c c'<0:=by
 unfold Eh at*
 repeat' split at h1
 all_goals repeat' split at h2
 all_goals repeat' split
 all_goals omega
theorem Af3 {a b:Int} {l:List Cr} {i:Nat} {is:Bool} {r:Cr} (hp:Fy a b l) (hat:Tg l r.c r.e i is) (hk:isK r.k=true) (hnm:Fz a b r.c r.e=(r.c,r.e,0)) (hf:r.fit) (hl:l.length<1000000):
  Fy a b (fZ l i is r)∧(fZ l i is r).length≤l.length+1:=by
 obtain⟨hi,h1,h2,h3⟩:=hat
 have hlen:(fZ l i is r).length≤l.length+1:=by
  unfold fZ
  cases is<;>simp<;>omega
 have hmem:∀q∈fZ l i is r,q=r∨q∈l:=by
  intro q hq;unfold fZ at hq;rcases Bi.1 hq with h|h
  ·exact .inr (List.mem_of_mem_take h)
  ·rcases Bh.1 h with h|h
   ·exact .inl h
   ·exact .inr (List.mem_of_mem_drop h)
 refine⟨⟨hp.sheet,fun q hq=>?_,fun q hq=>?_,fun q hq=>?_,?_,by omega⟩,hlen⟩
 ·rcases hmem q hq with rfl|h
  ·exact hk
  ·exact hp.kind q h
 ·rcases hmem q hq with rfl|h
  ·exact hnm
  ·exact hp.name q h
 ·rcases hmem q hq with rfl|h
  ·exact hf
  ·exact hp.fit q h
 ·have hlo:∀q∈l.take i,Eh q.c q.e r.c r.e<0:=by
   intro q hq;obtain⟨k,hk',rfl⟩:=Ay.1 hq;rw[Bj]at hk';rw[List.getElem_take];exact h1 k (by omega) (by omega)
  have hhi:∀q∈l.drop (if is then i+1 else i),Eh r.c r.e q.c q.e<0:=by
   intro q hq;obtain⟨k,hk',rfl⟩:=Ay.1 hq;rw[List.length_drop]at hk';rw[List.getElem_drop];rw[sF]
   cases is with
   |true=>
    simp only[if_true]at hk'⊢;obtain⟨x,hx,hx0⟩:=h3.1 rfl;obtain⟨hil,rfl⟩:=As.1 hx;have h4:=List.pairwise_iff_getElem.1 hp.asc i (i+1+k) hil (by omega) (by omega);have:=Pp h4 r.c r.e (by omega);omega
   |false=>
    have hne:∀x,l[i]? =some x→Eh x.c x.e r.c r.e≠0:=fun x hx h0=>by have:=h3.2 ⟨x,hx,h0⟩;cases this
    simp only[Bool.false_eq_true,if_false]at hk'⊢;have hil:i<l.length:=by omega
    have h5:=h2 i hil (Aj _);have h6:=hne l[i] (Ar hil);rcases Nat.eq_zero_or_pos k with h0|h0
    ·subst h0;simp only[Nat.add_zero];omega
    ·have h4:=List.pairwise_iff_getElem.1 hp.asc i (i+k) hil (by omega) (by omega);have:=Pp h4 r.c r.e h5;omega
  unfold fZ;refine List.pairwise_append.2 ⟨hp.asc.sublist (List.take_sublist _ _),List.pairwise_cons.2 ⟨hhi,hp.asc.sublist (List.drop_sublist _ _)⟩,fun q hq q' hq'=>?_⟩;rcases Bh.1 hq' with rfl|hq'
  ·exact hlo q hq
  ·exact xQ (hlo q hq) (hhi q' hq')
def Fw (l:List Cr) (c e:Int):Int:=match l.find? fun r=>decide (r.c=c)&&decide (r.e=e)with
 |some r=>r.k
 |none=>0
theorem Yj {c e c' e':Int}:Eh c e c' e'=0↔c=c'∧e=e':=by
 unfold Eh
 split
 ·rename_i h;constructor
  ·intro h2;exact⟨h,by omega⟩
  ·rintro⟨_,h2⟩;omega
 ·rename_i h;constructor
  ·intro h2;exact absurd (by omega) h
  ·rintro⟨h2,_⟩;exact absurd h2 h
theorem lJ {l:List Cr} {c e:Int} {i:Nat} {is:Bool} (hf:Tg l c e i is) (ha:l.Pairwise fun r q=>Eh r.c r.e q.c q.e<0):
  (is=true→∃hi:i<l.length,Fw l c e=l[i].k)∧(is=false→Fw l c e=0):=by
 obtain⟨h1,h2,h3,h4⟩:=hf
 constructor
 ·intro his;obtain⟨r,hr,h0⟩:=h4.1 his;obtain⟨hi,hri⟩:=As.1 hr;refine⟨hi,?_⟩;unfold Fw;have hz:=Yj.1 h0
  have hfind:l.find? (fun r=>decide (r.c=c)&&decide (r.e=e))=some l[i]:=by
   rw[List.find?_eq_some_iff_getElem];refine⟨by rw[hri];simp[hz.1,hz.2],i,hi,rfl,fun k hk=>?_⟩;have hlt:=h2 k (by omega) hk;simp only[Bool.not_eq_true',Bool.and_eq_false_iff,decide_eq_false_iff_not];by_cases hc:l[k].c=c
   ·right;intro he;have:=Yj.2 ⟨hc,he⟩;omega
   ·left;exact hc
  rw[hfind]
 ·intro his;unfold Fw
  have hfind:l.find? (fun r=>decide (r.c=c)&&decide (r.e=e))=none:=by
   rw[List.find?_eq_none];intro r hr hp;simp only[Bool.and_eq_true,decide_eq_true_eq]at hp;obtain⟨k,hk,rfl⟩:=Ay.1 hr;have h0:Eh l[k].c l[k].e c e=0:=Yj.2 hp
   have hik:i≤k:=by
    by_cases h:k<i
    ·have:=h2 k hk h;omega
    ·omega
   have hil:i<l.length:=by omega
   have hi0:Eh l[i].c l[i].e c e=0:=by
    rcases Nat.lt_or_eq_of_le hik with h|h
    ·have h5:=List.pairwise_iff_getElem.1 ha i k hil hk h;rw[hp.1,hp.2]at h5;have:=h3 i hil (Aj _);omega
    ·subst h;exact h0
   have:is=true:=h4.2 ⟨l[i],by simp,hi0⟩;rw[his]at this;cases this
  rw[hfind]
theorem Xy (a b:Int) (A:Option Addr) (l:List Cr) (n cc:Nat) (id e c':Int) (w:Ag) (hn:n=l.length) (h:Rd w A 3 n (crs l)) (hp:Fy a b l) (hQ:Qt w) (hnm:Fz a b id e=(c',e,0)) (hc:0≤c'∧c'≤1024) (he:0≤e∧e≤255):
  Ai Tryz.prog 87 #[.agg #[Aa Ab a,Aa Ab b,Ad A n cc],Aa Ab id,Aa Ac e] w (Cg (.tuple #[Aa Ac (Fw l c' e),Aa Ab 0]) w):=by
 have HAT:=Ae fun w h hQ=>Af9 a b A l n cc id e c' w hn h hp hQ hnm hc he;have HKF:=Ae fun i is (hf:Tg l c' e i is)=>lJ hf hp.asc;have HRD:=Ae h;have HN:=Ae hn;have HQ:=Ae hQ;have H:=(Bx.start w).new #[Aa Ab a,Aa Ab b,Ad A n cc] 38 rfl;have hlen:l.length≤1000000:=hp.len;clear hn h hp hQ hnm hc he;go_enter Tryz.func87,Tryz.ntmps87;go_upto_region 1 with fail;obtain⟨W,hW⟩:=ez (w.alloc (.cells #[Aa Ab a,Aa Ab b,Ad A n cc] 38));rw[←hW]at H⊢;obtain⟨N,hN⟩:=ez w.heap.size;rw[←hN]at H⊢;clear hW hN;obtain⟨⟨a0,a1,a2⟩,_⟩:=Ci (H.blk 0 _ _ _ rfl);go_wp2_with fail;refine(HAT.out _ (HRD.out.below H.below) (HQ.out.below H.below)).mono ?_;rintro ee w2 ⟨hb,i,is,hfi,rfl⟩;have H2:=H.call hb;obtain⟨k1,k2⟩:=HKF.out i is hfi;clear a0 a1 a2 hb H;have l0:=H2.lt 0 rfl;obtain⟨⟨a0,a1,a2⟩,_⟩:=Ci (H2.blk 0 _ _ _ rfl)
 cases is
 ·have hk:=k2 rfl;have HK:=Ae hk;clear k1 k2 hk hfi;go_wp2_with fail
  go_ret2
  exact⟨by rw[HK.out];rfl,(H2.other _).below⟩
 ·obtain⟨hi,hk⟩:=k1 rfl;have HK:=Ae hk;have hrd:=HRD.out.below H2.below;rw[HN.out]at hrd;obtain⟨bb,o,hA,hbl,c0,c1,c2⟩:=Qv hrd i hi;have q1:(i:Int)<(n:Int):=by have:=HN.out;omega
  obtain⟨r,hr⟩:=ey (l[i]);rw[hr]at c0 c1 c2 HK;clear k1 k2 hk hfi hrd hr;subst hA;go_wp2_with fail
  go_ret2
  exact⟨by rw[HK.out];rfl,(H2.other _).below⟩
section
variable {κ:Type} [DecidableEq κ]
theorem iV (p:κ):∀(l:List (κ×Ah)) (n:Nat),Il p l n=((Il p l 0).map fun r=>(r.1+n,r.2)):=by
 intro l
 induction l with
 |nil=>intro n;rfl
 |cons q l ih=>
  intro n;unfold Il;by_cases h:p=q.1
  ·simp[h]
  ·rw[if_neg h,if_neg h,ih (n+1),ih (0+1)]
   cases Il p l 0 with
   |none=>rfl
   |some r=>simp;omega
theorem Jw (p:κ) (q:κ×Ah) (l:List (κ×Ah)):Ht p (q::l)=if p=q.1 then some q.2 else Ht p l:=by
 unfold Ht
 conv=>lhs;unfold Il
 by_cases h:p=q.1
 ·simp[h]
 ·rw[if_neg h,if_neg h,iV]
  cases Il p l 0<;>rfl
theorem mR (p:κ) (v:Ah) (q:κ×Ah) (l:List (κ×Ah)):Kl p v (q::l)=if p=q.1 then (p,v)::l else q::Kl p v l:=by
 unfold Kl
 conv=>lhs;unfold Il
 by_cases h:p=q.1
 ·simp[h]
 ·rw[if_neg h,if_neg h,iV]
  cases Il p l 0<;>simp
theorem Ty (p q:κ) (v:Ah):∀l:List (κ×Ah),Ht p (Kl q v l)=if p=q then some v else Ht p l:=by
 intro l
 induction l with
 |nil=>
  have e:Kl q v ([]:List (κ×Ah))=[(q,v)]:=rfl;rw[e,Jw]
 |cons r l ih=>
  rw[mR];by_cases h:q=r.1
  ·rw[if_pos h,Jw,Jw];by_cases hp:p=q
   ·simp[hp]
   ·have:p≠r.1:=fun e=>hp (e.trans h.symm);simp[hp,this]
  ·rw[if_neg h,Jw,Jw,ih];by_cases hp:p=r.1
   ·have:p≠q:=fun e=>h (e.symm.trans hp);simp[hp];intro e;exact absurd (hp.trans e) this
   ·simp[hp]
end
def crM (l:List Cr):List ((Int×Int)×Ah):=l.foldl (fun m r=>Kl (r.c,r.e) (.bool true) m) []
theorem pW (l:List Cr) (i:Nat) (h:i<l.length):crM (l.take (i+1))=Kl (l[i].c,l[i].e) (.bool true) (crM (l.take i)):=by
 unfold crM;rw[Ax h,List.foldl_append];rfl
theorem vU (l:List Cr) (c e:Int):(Ht (c,e) (crM l)).getD (.bool false)= .bool (aB l c e):=by
 have key:∀(l:List Cr) (m:List ((Int×Int)×Ah)),Ht (c,e) (l.foldl (fun m r=>Kl (r.c,r.e) (.bool true) m) m)=if aB l c e then some (.bool true)else Ht (c,e) m:=by
  intro l
  induction l with
  |nil=>intro m;simp[aB]
  |cons r l ih=>
   intro m;rw[List.foldl_cons,ih,Ty];unfold aB;rw[List.any_cons];by_cases h:r.c=c∧r.e=e
   ·simp[h.1,h.2]
   ·have h':¬((c,e)=(r.c,r.e)):=fun x=>h (by simp at x;exact⟨x.1.symm,x.2.symm⟩);rw[if_neg h']
    have h2:(decide (r.c=c)&&decide (r.e=e))=false:=by
     simp only[Bool.and_eq_false_iff,decide_eq_false_iff_not];by_cases hc:r.c=c
     ·right;exact fun he=>h ⟨hc,he⟩
     ·left;exact hc
    rw[h2,Bool.false_or]
 unfold crM;rw[key]
 cases aB l c e with
 |true=>rfl
 |false=>rfl
theorem Bx.mapped {κ:Type} {K:κ→Ah} {w wr w':Ag} {l:List (Nat×Array Ah×TypeId)} {M:Nat} {m:List (κ×Ah)} (h:Bx w l wr) (hk:Fa K wr M m) (hg:wr.grownBy w' (some M)) (hM:w.heap.size≤M):Bx w l w':=by
 obtain⟨es,clock,hb,_⟩:=hk;refine⟨h.below.grown hg h.below.size (fun k hk=>by injection hk with hk;omega),fun i g cs t hi=>?_,h.lo,h.inj⟩;have hgb:=h.blk i g cs t hi;refine(hg.block g (h.lt i hi) ?_).trans hgb;intro e;injection e with e;subst e;rw[hgb]at hb
 cases hb
def zB {κ:Type} (K:κ→Ah) (m:List (κ×Ah)) (w:Ag) (e:Ending) (w':Ag):Prop:=∃M,e= .returned (.map (some M))∧w.heap.size≤M∧Fa K w' M m∧Below w.heap.size w w'
theorem dR (a b:Int) (A:Option Addr) (l:List Cr) (n cc:Nat) (w:Ag) (hn:n=l.length) (h:Rd w A 3 n (crs l)) (hl:n≤1000000):
  Ai Tryz.prog 212 #[.agg #[Aa Ab a,Aa Ab b,Ad A n cc]] w (zB unK (crM l) w):=by
 have HRD:=Ae h;have HN:=Ae hn;have H:=(Bx.start w).new #[Aa Ab a,Aa Ab b,Ad A n cc] 38 rfl;clear hn h;go_enter Tryz.func212,Tryz.ntmps212;go_upto_region 1 with fail;obtain⟨W,hW⟩:=ez (w.alloc (.cells #[Aa Ab a,Aa Ab b,Ad A n cc] 38));rw[←hW]at H⊢;obtain⟨N,hN⟩:=ez w.heap.size;rw[←hN]at H⊢;have HNN:=Ae hN;clear hW hN;obtain⟨⟨a0,a1,a2⟩,_⟩:=Ci (H.blk 0 _ _ _ rfl);have hmm:(Instr.makeMap 345 (some (Aa Ab n))).run Tryz.prog W= .ok (.map (some W.heap.size)) (W.alloc (.map #[] 0)):=by first|rfl|simp[Instr.makeMap]
 go_upto_region 2 with fail;obtain⟨M,hM⟩:=ez W.heap.size;rw[←hM];have hMl:w.heap.size≤M:=by have:=H.below.size;omega
 have hK:=Nx unK W;rw[←hM]at hK;have H2:=H.other (.map #[] 0);obtain⟨W2,hW2⟩:=ez (W.alloc (.map #[] 0));rw[←hW2]at hK H2⊢;clear hmm hM hW2 a0 a1 a2 H;obtain⟨⟨a0,a1,a2⟩,_⟩:=Ci (H2.blk 0 _ _ _ rfl);go_wp2_with fail;clear a0 a1 a2
 go_loopw [13] (fun i wr=>∃k:Nat,k≤n∧i= Aa Ab k∧Bx w [(N,#[Aa Ab a,Aa Ab b,Ad A n cc],38)] wr∧Fa unK wr M (crM (l.take k))) (fun i _=>n-(intOf i).toNat)
 case atStart=>exact⟨0,by omega,rfl,H2,hK⟩
 case round=>
  obtain⟨k,hk,rfl,Hr,Kr⟩:=hrel;by_cases hlt:k<n
  ·have hkl:k<l.length:=by have:=HN.out;omega
   have hrd:=HRD.out.below Hr.below;rw[HN.out]at hrd;obtain⟨bb,o,hA,hbl,c0,c1,c2⟩:=Qv hrd k hkl;have hsn:=pW l k hkl;obtain⟨r,hr⟩:=ey (l[k]);rw[hr]at c0 c1 c2 hsn;have HSN:=Ae hsn;have q1:(k:Int)<(n:Int):=by omega
   have Kr2:=Kr.below ((Below.refl wr.heap.size wr).alloc (Aj _) (.cells #[Aa Ab r.c,Aa Ac r.e,Aa Ac r.k] 89)) Kr.lt;have Hr2:=Hr.other (.cells #[Aa Ab r.c,Aa Ac r.e,Aa Ac r.k] 89);clear hrd hsn hr;subst hA;go_wp2_with (at_mapUpdate;refine Lh Ly Tryz.underlying345 _ rfl _ _ _ rfl M (crM (l.take k)) (r.c,r.e) (.bool true) rfl rfl rfl Kr2 ?_;intro w9 hk9 hg9);exact⟨⟨k+1,by omega,by go_num,Hr2.mapped Kr2 hg9 hMl,by rw[HSN.out];exact hk9⟩,by simp[intOf];omega⟩
  ·have q1:¬(k:Int)<(n:Int):=by omega
   have hkn:k=l.length:=by have:=HN.out;omega
   go_wp2_with fail;go_ret;refine⟨M,rfl,hMl,?_,Hr.below⟩;rw[hkn,List.take_length]at Kr;exact Kr
end Go.Proofs.YteoffhpfcgffcaaGreatDoor
