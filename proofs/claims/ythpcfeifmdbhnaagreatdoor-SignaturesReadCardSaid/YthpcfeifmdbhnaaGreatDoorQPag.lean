import Derived.Test.YthpcfeifmdbhnaaGreatDoorQMoz
import Derived.Test.YthpcfeifmdbhnaaGreatDoorQCsd
import Derived.Test.YthpcfeifmdbhnaaGreatDoorQFlt
import Derived.Test.YthpcfeifmdbhnaaGreatDoorQFrm
open Array renaming getElem?_eq_some_iff→Au
open Go renaming Calls→Al,Value→Ak,World→Aj,cell_of_row→By,heap_alloc_new→Bz,wpAnyH_done→An
open Go.IntKind renaming i64→Ab,u8→Ac
open Go.IntWalk renaming i64_in→Ca
open Go.Lib renaming hid→Ah
open Go.RowKit.Below renaming refl→Ag
open Go.Value renaming int→Aa,slice→Ad
open List renaming append_assoc→Bj,flatMap_append→Bi,getElem?_eq_getElem→Aw,getElem_cons_succ→Cd,getElem_cons_zero→Cc,getElem_toArray→Ce,setIfInBounds_toArray→Ch,set_cons_succ→Cg,set_cons_zero→Cf
open Nat renaming le_refl→Am,le_trans→Br
open Option renaming none→Ae,some→Af
set_option maxHeartbeats 16000000
set_option maxRecDepth 100000
namespace Go.Proofs.YthpcfeifmdbhnaaGreatDoor
open Go.RowKit Go.Shelf
attribute [local go_sem] Oper.semAt_some
def pgV (p:Pg):List Ak:=[Aa Ab (p.x:Nat),Aa Ab (p.y:Nat),.bool p.bk,.bool p.dn]
def pgI (a:Nat) (m:List Mv) (i:Nat):List Ak:=pgV (pgA a m i)++pgV (pgA a m i).flip
def pgs (a:Nat) (m:List Mv) (l:List Nat):List Ak:=l.flatMap (pgI a m)
theorem iJ (a:Nat) (m:List Mv) (l:List Nat) (i:Nat):pgs a m (l++[i])=pgs a m l++pgV (pgA a m i)++pgV (pgA a m i).flip:=by
 unfold pgs pgI;rw[Bi,Bj];simp
def pgP (m:List Mv) (i:Nat):Prop:=i<m.length∧i≤100000∧((m.getD i mv0).t=0∨(m.getD i mv0).t=2∨(m.getD i mv0).t=4∨(m.getD i mv0).t=6)
structure pF (a b:Nat) (s:St) (m:List Mv) (ls:List Nat):Prop where
 gs:Gs s
 sa:s.a=(a:Int)
 sb:s.b=(b:Int)
 bd:1≤a∧a≤16∧1≤b∧b≤16
 odd:∀r∈s.cr,r.odd=false
 both:∃is,Df s.a s.b s.cr s.root=((m,is),0)
 four:s.l.length=4
 top:∃x r,s.l=x::r∧x.ls=ls
 ids:∀i∈ls,pgP m i
 len:ls.length≤256∧m.length≤100000
def As3 (a:Nat) (m:List Mv) (ids:List Nat) (w:Aj) (e:Ending) (w':Aj):Prop:=Below w.heap.size w w'∧∃A c,e= .returned (.tuple #[Ad A (2*ids.length) c,Aa Ab 0])∧w'.ownsRow w.heap.size 50 4 (Ad A (2*ids.length) c) (2*ids.length) (pgs a m ids)
theorem yH:(Tryz.prog.info? 50).map (λi=>(i.zero,i.size,i.bytes))=Af (Af (.agg #[Aa Ab 0,Aa Ab 0,.bool false,.bool false]),4,24):=Cm
theorem Al9 {m:List Mv} {i:Nat} (h:i<m.length):(Iq m)[i*3]? =Af (Aa Ac (m.getD i mv0).t):=by
 have key:∀(m:List Mv) (i:Nat),i<m.length→(Iq m)[i*3]? =Af (Aa Ac (m.getD i mv0).t):=by
  intro m
  induction m with
  |nil=>intro i h;exact absurd h (Nat.not_lt_zero _)
  |cons x r ih=>
   intro i h
   cases i with
   |zero=>rfl
   |succ i=>
    have:=ih i (by simpa using h);rw[show(i+1)*3=i*3+3 by omega];exact this
 exact key m i h
theorem Kh {w w':Aj} {base n sz:Nat} {e:TypeId} {v:Ak} {xs:List Ak} (h:w.ownsRow base e sz v n xs) (hk:∀q,v.ownBlock=Af q→w'.heap[q]? =w.heap[q]?):w'.ownsRow base e sz v n xs:=
 ⟨h.1,h.2.imp id λ⟨g,cap,cur,r1,r2,r3,r⟩=>⟨g,cap,cur,r1,r2,(hk g (by rw[r1];rfl)).trans r3,r⟩⟩
structure PgR (W:Aj) (O P9 Bs Pp:Nat) (sv:Ak) (p0 p1 p2 p3:Ak) (k C:Nat) (xs:List Ak) (X:Aj):Prop where
 ko:KeepsOthers W X
 bx:Boxed X P9 43 (Ad (Af ⟨O,0,Ae⟩) k C)
 ow:X.ownsRow O 50 4 (Ad (Af ⟨O,0,Ae⟩) k C) k xs
 bs:X.heap[Bs]? =Af (Obj.cells #[sv] 46 (0,0))
 pg:X.heap[Pp]? =Af (Obj.cells #[p0,p1,p2,p3] 50 (0,0))
 bl:Below O W X
 nb:O<P9∧P9<Bs∧Bs<Pp∧O≤W.heap.size
section
variable {W X:Aj} {O P9 Bs Pp:Nat} {sv p0 p1 p2 p3:Ak} {k C:Nat} {xs:List Ak}
theorem PgR.facts (h:PgR W O P9 Bs Pp sv p0 p1 p2 p3 k C xs X):(X.cell? ⟨P9,0,Ae⟩=Af (Ad (Af ⟨O,0,Ae⟩) k C)∧X.frozen? ⟨P9,0,Ae⟩=false)∧(X.cell? ⟨Pp,0,Ae⟩=Af p0∧X.cell? ⟨Pp,1,Ae⟩=Af p1∧X.cell? ⟨Pp,2,Ae⟩=Af p2∧X.cell? ⟨Pp,3,Ae⟩=Af p3)∧
  (X.frozen? ⟨Pp,0,Ae⟩=false∧X.frozen? ⟨Pp,1,Ae⟩=false∧X.frozen? ⟨Pp,2,Ae⟩=false∧X.frozen? ⟨Pp,3,Ae⟩=false):=by
 obtain⟨h1,h2,h3,h4,h5⟩:=Ez h.pg;exact⟨⟨h.bx.cell,h.bx.frozen⟩,h1,h2,h3,h4,h5⟩
theorem PgR.setp (h:PgR W O P9 Bs Pp sv p0 p1 p2 p3 k C xs X) (i:Nat) (u:Ak) {q0 q1 q2 q3:Ak} (hq:(#[p0,p1,p2,p3]:Array Ak).setIfInBounds i u= #[q0,q1,q2,q3]):PgR W O P9 Bs Pp sv q0 q1 q2 q3 k C xs (X.setCell ⟨Pp,i,Ae⟩ u):=by
 obtain⟨n1,n2,n3,n4⟩:=h.nb;refine⟨h.ko.trans (KeepsOthers.setCell _ _ _),(Db Ci).trans h.bx,Kh h.ow λq hq=>Db ?_,(Db Ci).trans h.bs,?_,h.bl.setCell (p:=⟨Pp,i,Ae⟩) (by show O≤Pp;omega) u,h.nb⟩
 ·simp[Value.ownBlock]at hq;omega
 ·rw[Pj h.pg,hq]
theorem PgR.app (h:PgR W O P9 Bs Pp sv p0 p1 p2 p3 k C xs X) {tmp:Obj} {w1:Aj} {ys:List Ak} (ho:w1.ownsRow O 50 4 (Ad (Af ⟨O,0,Ae⟩) (k+1) C) (k+1) ys) (hg:(X.alloc tmp).grownBy w1 (Af O)):
  (w1.cell? ⟨P9,0,Ae⟩=Af (Ad (Af ⟨O,0,Ae⟩) k C)∧w1.frozen? ⟨P9,0,Ae⟩=false)∧PgR W O P9 Bs Pp sv p0 p1 p2 p3 (k+1) C ys (w1.setCell ⟨P9,0,Ae⟩ (Ad (Af ⟨O,0,Ae⟩) (k+1) C)):=by
 obtain⟨n1,n2,n3,n4⟩:=h.nb;obtain⟨a1,a2,a3,a4,a5⟩:=h.bx.appended Ct h.ow (Br n4 h.bl.size) Ci ho hg
 have hk:∀b,b≠O→b≠P9→b<X.heap.size→(w1.setCell ⟨P9,0,Ae⟩ (Ad (Af ⟨O,0,Ae⟩) (k+1) C)).heap[b]? =X.heap[b]? :=λb h1 h2 h3=>by
  rw[Db h2,hg.block b (by simp;omega) (by simpa using h1),Below.heap_alloc X _ b h3]
 refine⟨⟨a1.cell,a1.frozen⟩,h.ko.trans a4,a2,a3,(hk _ Ci Ci (Au.1 h.bs).1).trans h.bs,(hk _ Ci Ci (Au.1 h.pg).1).trans h.pg,h.bl.trans a5,h.nb⟩
end
theorem Kx (W:Aj) (cs:Array Ak) (t:TypeId):∀j u,cs.toList[j]? =Af u→(W.alloc (.cells cs t)).cell? ((⟨W.heap.size,0,Ae⟩:Addr).add j)=Af u:=λj u h=>Rf W cs t j u h
theorem Nn (a b:Nat) (s:St) (m:List Mv) (ls:List Nat) (hO:pF a b s m ls) (pA:Option Addr) (pc:Nat) (A:Option Addr) (cc:Nat) (w:Aj) (hA:AOk pA s.cr.length pc) (hpr:Rd w pA 3 s.cr.length (crs s.cr)) (hst:Dh w A s.l) (hQ:Qf w) (hT:Tn w):
  Al Tryz.prog 8 #[.agg #[Aa Ab s.a,Aa Ab s.b,Ad pA s.cr.length pc,Aa Ac s.root.t,Aa Ab s.root.x,Aa Ab s.root.y,Ad A s.l.length cc]] w (As3 a m ls.reverse w):=by
 have hs:=hO.gs;have hrt:=gV hs.root;have hpn:s.cr.length≤1000000:=by have:=hs.pn;omega
 have HCK:=Ah (λ(w':Aj) (hb:Below w.heap.size w w')=>Ug s.a s.b pA s.cr s.cr.length pc s.root A s.l s.l.length cc w' hs.pat rfl (hpr.below hb) hpn Ci rfl (hst.below hb) (by have:=hs.len;omega) (λx hx=>by have:=hs.ls x hx;omega) hs.q (hQ.below hb) (hT.below hb));have HMO:=Ah (λ(w':Aj) (hb:Below w.heap.size w w')=>gN s.a s.b pA s.cr s.cr.length pc w' rfl (hpr.below hb) hs.pat (by rw[hO.sa];have:=hO.bd;omega) (by rw[hO.sb];have:=hO.bd;omega) hO.odd (hQ.below hb));have HPL:=Ah (λ(w':Aj) (hb:Below w.heap.size w w')=>bF s.a s.b pA s.cr s.cr.length pc s.root w' hs.pat rfl (hpr.below hb) hpn Ci (hQ.below hb) (hT.below hb));have HST:=Ah (λ(w':Aj) (hb:Below w.heap.size w w')=>hst.below hb);have hck0:St.chk ⟨s.a,s.b,s.cr,s.root,s.l⟩=0:=hs.chk;obtain⟨is,hbo⟩:=hO.both;obtain⟨x0,xr,hl0,hls⟩:=hO.top;have h4:=hO.four;have hbd:=hO.bd;have hlen:=hO.len;have hids:=hO.ids;have hsa:=hO.sa;rw[hck0]at HCK;rw[hbo]at HPL;dsimp only at HPL;rw[hl0]at HST h4
 have HGT:Hid (∀(w':Aj),Below w.heap.size w w'→∃b o A' c',A=Af ⟨b,o,Ae⟩∧b<w'.heap.size∧w'.cell? ⟨b,o+3,Ae⟩=Af (Ad A' ls.length c')∧Rd w' A' 1 ls.length (Di ls)):=Ah λw' hb=>by
  obtain⟨b,o,A',c',e1,e2,⟨-,-,-,e3⟩,-,-,-,e4⟩:=(HST.out w' hb).get 0 Cn;have hx:(x0::xr)[0].ls=ls:=hls;rw[hx]at e3 e4;exact⟨b,o,A',c',e1,e2,by simpa using e3,e4⟩
 obtain⟨SN,hSN⟩:=ey s.l.length;have hSN4:SN=4:=by rw[←hSN,hl0];exact h4
 subst hSN4;rw[hSN]at HCK⊢;obtain⟨sa,sb,cr,⟨rt,rx,ry⟩,sl⟩:=s;dsimp only at HCK HMO HPL hsa hrt hpn⊢;subst hsa;obtain⟨pn,hpn2⟩:=ey cr.length;rw[hpn2]at HCK HMO HPL⊢;obtain⟨ML,hML⟩:=ey m.length;rw[hML]at HPL hlen;have HML:=Ah hML;have HIDS:=Ah hids;have H:=(((Bx.start w).new #[Aa Ab a,Aa Ab sb,Ad pA pn pc,Aa Ac rt,Aa Ab rx,Aa Ab ry,Ad A 4 cc] 33 rfl).new #[Ad Ae 0 0] 43 (N:=w.heap.size+1) Cn).new #[Aa Ab 0] 40 (N:=w.heap.size+1+1) Cn;clear hO hs hpr hst hQ hT HST hck0 hbo hl0 hls h4 hSN hpn2 hML hids hA hpn hrt;refine(callsIn_wide (n:=9)).1 (callsIn_of_wp_marks Tryz.func8 rfl trivial ?_ rfl);simp only[Tryz.ntmps8,List.size_toArray,List.length_cons,List.length_nil,Nat.reduceAdd,Nat.reduceSub,Array.replicate_succ,Array.replicate_zero,List.push_toArray,List.append_toArray,List.nil_append,List.cons_append];refine wpIn_wide.2 ?_;go_upto_region 1 with fail;obtain⟨N,hN⟩:=ez w.heap.size;rw[←hN]at H⊢;have HNN:=Ah hN;clear hN;obtain⟨W,hW⟩:=ez (((w.alloc (.cells #[Aa Ab a,Aa Ab sb,Ad pA pn pc,Aa Ac rt,Aa Ab rx,Aa Ab ry,Ad A 4 cc] 33)).alloc (.cells #[Ad Ae 0 0] 43)).alloc (.cells #[Aa Ab 0] 40));rw[←hW]at H⊢;clear hW;obtain⟨P1,hP1⟩:=ey (N+1);rw[hP1]at H⊢;obtain⟨P2,hP2⟩:=ey (P1+1);rw[hP2]at H⊢;clear hP1 hP2;obtain⟨a0,a1,a2,a3,a4,a5,a6⟩:=Gb (H.blk 0 _ _ _ rfl);go_wp2_with fail;refine(HCK.out _ H.below).mono ?_;rintro ee w2 ⟨rfl,hb⟩;have H:=H.call hb;clear a0 a1 a2 a3 a4 a5 a6 hb HCK;obtain⟨a0,a1,a2,a3,a4,a5,a6⟩:=Gb (H.blk 0 _ _ _ rfl);go_wp2_with fail;refine(HMO.out _ H.below).mono ?_;rintro ee w3 ⟨hb,ma,mb,gR,gU,W1,H1,rfl⟩;have H:=H.call hb;clear a0 a1 a2 a3 a4 a5 a6 hb HMO;have H:=H.other (.cells #[Aa Ab ma,Aa Ab mb,Ad (Af ⟨gR,0,Ae⟩) (H1+1) (H1+1),Ad (Af ⟨gU,0,Ae⟩) H1 H1] 80);go_upto_region 5 with fail
 obtain⟨W4,hW4⟩:=ez (w3.alloc (.cells #[Aa Ab ma,Aa Ab mb,Ad (Af ⟨gR,0,Ae⟩) (H1+1) (H1+1),Ad (Af ⟨gU,0,Ae⟩) H1 H1] 80));rw[←hW4]at H⊢;clear hW4;obtain⟨a0,a1,a2,a3,a4,a5,a6⟩:=Gb (H.blk 0 _ _ _ rfl);go_wp2_with fail;refine(HPL.out _ H.below).mono ?_;rintro ee w5 ⟨hb,⟨h0,-⟩|⟨-,g,rfl,hgl,hgb⟩⟩
 ·exact absurd rfl h0
 have H:=H.call hb;clear a0 a1 a2 a3 a4 a5 a6 hb HPL hgl;obtain⟨B7,hB7⟩:=ey w5.heap.size;have H:=H.new #[Ad (Af ⟨g,0,Ae⟩) ML ML] 83 hB7;have hgb:=(Below.heap_alloc w5 (.cells #[Ad (Af ⟨g,0,Ae⟩) ML ML] 83) g (Au.1 hgb).1).trans hgb;go_upto_region 8 with fail
 try rw[hB7]
 obtain⟨W6,hW6⟩:=ez (w5.alloc (.cells #[Ad (Af ⟨g,0,Ae⟩) ML ML] 83));rw[←hW6]at H hgb⊢;clear hW6;clear hB7;obtain⟨sb2,so,A',c',rfl,hsb,c3,hrd⟩:=HGT.out _ H.below;obtain⟨a0,a1,a2,a3,a4,a5,a6⟩:=Gb (H.blk 0 _ _ _ rfl);obtain⟨nl,hnl⟩:=ey ls.length;rw[hnl]at c3 hrd hlen;have HNL:=Ah hnl;have e1:Ab.wrap (2*(nl:Int))=((2*nl:Nat):Int):=by rw[Ca _ Ci];simp
 obtain⟨i0,hi0,hz0,hz1,hz2⟩:=info_parts yH;clear hnl HGT;go_wp2_with (at_make;refine wpList_make_own _ rfl _ _ 43 rfl W6.heap.size 50 i0 _ 4 Tryz.underlying43 hi0 hz0 hz1 _ _ _ (2*nl) rfl rfl Ci ?c1 ?c2 ?c3 ?_)
 case c1=>rw[hz2];omega
 case c2=>simp[maxLen];omega
 case c3=>exact Am _
 intro w7 hown7 hgrow7;have hb7:Below W6.heap.size W6 w7:=(Ag _ _).grown hgrow7 (Am _) Cn;obtain⟨O,hO⟩:=ey W6.heap.size;have hOo:=hown7.lt O (by rw[hO];rfl);rw[hO]at hown7;have hlo:=H.lt 0 rfl;have hlo7:=H.lt 3 rfl;have hgO:=(Au.1 hgb).1;have HH:=Ah H;have HGB:=Ah hgb;have HRD:=Ah hrd;obtain⟨P9,hP9⟩:=ey w7.heap.size;have hb8:Below W6.heap.size W6 (w7.alloc (.cells #[Ad (Af ⟨O,0,Ae⟩) 0 (2*nl)] 43)):=hb7.alloc Ci _;have bO:Boxed (w7.alloc (.cells #[Ad (Af ⟨O,0,Ae⟩) 0 (2*nl)] 43)) P9 43 (Ad (Af ⟨O,0,Ae⟩) 0 (2*nl)):=by rw[←hP9];exact Boxed.new w7 _ _
 have hown8:=hown7.alloc (.cells #[Ad (Af ⟨O,0,Ae⟩) 0 (2*nl)] 43);have hs8:(w7.alloc (.cells #[Ad (Af ⟨O,0,Ae⟩) 0 (2*nl)] 43)).heap.size=P9+1:=by rw[←hP9];simp
 rw[hP9]at hOo;clear a0 a1 a2 a3 a4 a5 a6 hown7 hgrow7 hb7 hi0 hz0 hz1 hz2 H hgb e1 hrd;go_upto_region 11 with fail
 try rw[hP9]
 try rw[hO]
 obtain⟨W8,hW8⟩:=ez (w7.alloc (.cells #[Ad (Af ⟨O,0,Ae⟩) 0 (2*nl)] 43));rw[←hW8]at hb8 bO hown8 hs8⊢;clear hW8;clear hP9;have H8:=HH.out.call hb8;have c38:=Cj hb8 c3;obtain⟨a0,a1,a2,a3,a4,a5,a6⟩:=Gb (H8.blk 0 _ _ _ rfl);go_wp2_with fail;refine(cJ A' nl c' W8).mono ?_;rintro e w9 ⟨rfl,hw9⟩;rw[hs8];have bS:w9.heap[P9+1]? =Af (Obj.cells #[Ad A' nl c'] 46 (0,0)):=by rw[hw9,←hs8];exact Bz W8 _
 have bO9:Boxed w9 P9 43 (Ad (Af ⟨O,0,Ae⟩) 0 (2*nl)):=by rw[hw9];exact bO.alloc _
 have hs9:w9.heap.size=P9+2:=by rw[hw9,World.size_alloc,hs8]
 have hown9:w9.ownsRow O 50 4 (Ad (Af ⟨O,0,Ae⟩) 0 (2*nl)) 0 []:=by rw[hw9];exact hown8.alloc _
 have hb9:Below W6.heap.size W6 w9:=by rw[hw9];exact hb8.alloc Ci _
 clear hw9 bO hown8 hs8 hb8 H8 c38 a0 a1 a2 a3 a4 a5 a6 c3;rw[hO]at hb9 hlo hlo7 hgO;have hO6:O≤W6.heap.size:=Nat.le_of_eq hO.symm;have HBX:Hid (∀X,Below O W6 X→Bx w [(N,#[Aa Ab a,Aa Ab sb,Ad pA pn pc,Aa Ac rt,Aa Ab rx,Aa Ab ry,Ad (Af ⟨sb2,so,Ae⟩) 4 cc],33),(P1,#[Ad Ae 0 0],43),(P2,#[Aa Ab 0],40),(B7,#[Ad (Af ⟨g,0,Ae⟩) ML ML],83)] X):=Ah λX hX=>HH.out.call (by rw[hO];exact hX);have HGX:Hid (∀X,Below O W6 X→X.heap[g]? =Af (Obj.cells (Iq m).toArray 30 (0,0))):=Ah λX hX=>(hX.block g hgO).trans HGB.out
 have hids2:∀j (hj:j<ls.length),∃b o,A'=Af ⟨b,o,Ae⟩∧b<O∧w9.cell? ⟨b,o+j,Ae⟩=Af (Aa Ab (ls[j]:Nat)):=λj hj=>by
  obtain⟨b,o,e,hb,hc⟩:=HRD.out.2 (by have:=HNL.out;omega);refine⟨b,o,e,Ci,(hb9.cell (p:=⟨b,o+j,Ae⟩) (by show b<O;omega)).trans (hc j _ ?_)⟩;unfold Di;rw[List.getElem?_map,Aw hj];rfl
 obtain⟨i0,hi0,hz0,hz1,hz2⟩:=info_parts yH;go_wp2_with fail;rw[←HNL.out]at bS;have hnl9:ls.length≤100000:=by have:=HNL.out;omega
 refine' wpIn_wide.1 (bH (F:=Fence.wide) (n:=9) (w0:=w9) rfl Ct (gf:=58) (lb:=#[.pointer (Af ⟨P9+1,0,Ae⟩)]) rfl trivial (enters_of Tryz.func58 Cm rfl)
  (kH (n₀:=O) (pgP m) (P9+1) A' ls c' HIDS.out hnl9 8 Ct w9 bS Ci hids2) Oy (λ_=>⟨Ag _ _,rfl⟩) (Ya Ci Ci) (Ag _ _) (λ_=>rfl)
  (λpre W=>(∃v,Boxed W P9 43 v∧W.ownsRow O 50 4 v (2*pre.length) (pgs a m (pre.map (·.1.2)))∧v= Ad (Af ⟨O,0,Ae⟩) (2*pre.length) (2*nl))∧(W.heap[P9+1]? =Af (Obj.cells #[Ad A' ls.length c'] 46 (0,0))∧Below O W6 W))
  (OwnFrom.and (Own.from (holdsRow_own O P9 43 50 4 (λpre:List (BwA (pgP m))=>2*pre.length) (λpre=>pgs a m (pre.map (·.1.2))) (λpre v=>v= Ad (Af ⟨O,0,Ae⟩) (2*pre.length) (2*nl))) _) (OwnFrom.and (λ_ _ _ _ hs hg hr=>Ps hs hg (λr e=>(hr r e).2)) (ownFrom_below Ci Ci)))
  ⟨⟨_,bO9,hown9,rfl⟩,bS,hb9⟩ _ ?assign ?body ?done)
 case assign=>
  rintro l x W K hK;unfold bwE
  gi_wp2
  exact hK
 case body=>
  rintro l pre ⟨⟨xi,id⟩,hid,hid9,htn⟩ W ⟨⟨v,hv,hrow,rfl⟩,hSW,hB⟩ hlt;dsimp only at hid hid9 htn⊢;obtain⟨x9,hx9⟩:∃z:BwA (pgP m),(⟨(xi,id),hid,hid9,htn⟩:BwA (pgP m))=z:=⟨_,rfl⟩;rw[hx9];have hx2:x9.1.2=id:=by rw[←hx9]
  clear hx9;have hBX:=HBX.out W hB;obtain⟨n0,-,-,-,-,-,-⟩:=Gb (hBX.blk 0 _ _ _ rfl);have HRow:Hid (W.ownsRow O 50 4 (Ad (Af ⟨O,0,Ae⟩) (2*pre.length) (2*nl)) (2*pre.length) (pgs a m (pre.map (·.1.2)))):=Ah hrow;obtain⟨k,hk⟩:=ey (2*pre.length);rw[hk]at hv hrow;have HK:=Ah hk;have hkc:k+2≤2*nl:=by have:=HNL.out;omega
  have hOW:O≤W.heap.size:=Br hO6 hB.size;have hlSW:=(Au.1 hSW).1;obtain⟨ba1,ba2,bb1,bb2⟩:=hbd;have d1:(0:Int)≤(id:Int)/4:=Ci;obtain⟨cx,hcx⟩:=ey (id/4%a);obtain⟨cy,hcy⟩:=ey (id/4/a);have hcyb:cy≤100000:=by rw[←hcy];exact Br (Nat.div_le_self _ _) Ci
  have hcxb:cx<a:=by rw[←hcx];exact Nat.mod_lt _ Ci
  have e1:((a:Int)==0)=false:=by simp;omega
  have e0:¬(a:Int)=0:=Ci;have e0b:¬a=0:=Ci;have e2:((id:Int)/4).tmod a=(cx:Int):=by rw[Int.tmod_eq_emod_of_nonneg d1,←hcx];simp
  have e3:((id:Int)/4).tdiv a=(cy:Int):=by rw[Int.tdiv_eq_ediv_of_nonneg d1,←hcy];simp
  have e4:(id:Int).tdiv 4=(id:Int)/4:=Int.tdiv_eq_ediv_of_nonneg Ci;have e6:Ab.wrap ((id:Int)/4)=(id:Int)/4:=Ca _ Ci;have e7:Ab.wrap (cx:Int)=cx:=Ca _ Ci;have e8:Ab.wrap (cy:Int)=cy:=Ca _ Ci;have HCX:=Ah (And.intro hcx hcy);clear hcx hcy hcyb hcxb d1 hk hBX;obtain⟨S,hSd⟩:∃S:Aj→Prop,S=λW'=>W'.cell? ⟨N,0,Ae⟩=Af (Aa Ab a):=⟨_,rfl⟩;have HSO:Hid (∀W',S W'→W'.cell? ⟨N,0,Ae⟩=Af (Aa Ab a)):=Ah λW' h=>by subst hSd;exact h
  have hS0:S W.drew:=by subst hSd;exact n0
  have hNW:N<W.heap.size:=Ci;have HSA:Hid (∀W' W'':Aj,S W'→(W''.cell? ⟨N,0,Ae⟩=W'.cell? ⟨N,0,Ae⟩)→S W''):=Ah λW' W'' h e=>by subst hSd;exact e.trans h
  obtain⟨Pp,hPp⟩:=ey W.heap.size
  have HR1:Hid (PgR W O P9 (P9+1) Pp (Ad A' ls.length c') (Aa Ab 0) (Aa Ab 0) (.bool false) (.bool false) k (2*nl) (pgs a m (pre.map (·.1.2))) (W.drew.alloc (.cells #[Aa Ab 0,Aa Ab 0,.bool false,.bool false] 50))):=Ah (by
   have hr9:=hrow.alloc (.cells #[Aa Ab 0,Aa Ab 0,.bool false,.bool false] 50);refine⟨(KeepsOthers.drew W).trans (KeepsOthers.alloc _ _),?_,?_,?_,?_,((Ag O W).drew).alloc hOW _,⟨Ci,Ci,Ci,hOW⟩⟩
   ·exact(Boxed.alloc (W:=W.drew) hv _)
   ·exact Kh hr9 λ_ _=>rfl
   ·exact(Below.heap_alloc W.drew _ (P9+1) hlSW).trans hSW
   ·rw[←hPp];exact Bz W.drew _)
  have hSW0:=Ah hSW;clear hSd n0 hv hrow hSW
  gi_wp2
  refine uU (S:=S) Cm (by rintro⟨_,_,h⟩;exact h) Cm hS0 (λhS=>?_);clear hS0;have hPd:W.drew.heap.size=Pp:=hPp;have c9:(W.drew.alloc (.cells #[Aa Ab 0,Aa Ab 0,.bool false,.bool false] 50)).cell? ⟨N,0,Ae⟩=W.drew.cell? ⟨N,0,Ae⟩:=Oj (Below.heap_alloc W.drew _ N hNW) 0;obtain⟨Y0,hY0⟩:=ez W.drew;rw[←hY0]at hS HR1 c9 hPd⊢;clear hY0;refine Ck 0 ?_;refine Ck 1 ?_;refine Ck 2 ?_;refine Ck 3 ?_;refine Ck 4 ?_;refine Ck 5 ?_;refine Ck 6 ?_;refine Ck 7 ?_;refine Ck 8 ?_;refine Ck 9 ?_;refine Ck 10 ?_;refine Ck 11 ?_;refine Ck 12 ?_;refine Ck 13 ?_;refine Ck 14 ?_;refine rdy 15 (λK hK=>?_);go_simp;refine hK.out _ _ (HSA.out _ _ hS c9) (λhS=>?_);clear hK K c9
  try rw[hPd]
  obtain⟨X1,hX1⟩:=ez (Y0.alloc (.cells #[Aa Ab 0,Aa Ab 0,.bool false,.bool false] 50));rw[←hX1]at hS HR1⊢;clear hX1;obtain⟨-,⟨x0,x1,x2,x3⟩,z0,z1,z2,z3⟩:=HR1.out.facts
  have HR2:Hid (PgR W O P9 (P9+1) Pp (Ad A' ls.length c') (Aa Ab cx) (Aa Ab cy) (.bool false) (.bool false) k (2*nl) (pgs a m (pre.map (·.1.2))) ((((X1.setCell ⟨Pp,0,Ae⟩ (Aa Ab cx)).setCell ⟨Pp,1,Ae⟩ (Aa Ab cy)).setCell ⟨Pp,2,Ae⟩ (.bool false)).setCell ⟨Pp,3,Ae⟩ (.bool false))):=Ah
   ((((HR1.out.setp 0 (Aa Ab cx) rfl).setp 1 (Aa Ab cy) rfl).setp 2 (.bool false) rfl).setp 3 (.bool false) rfl)
  have hS2:S ((((X1.setCell ⟨Pp,0,Ae⟩ (Aa Ab cx)).setCell ⟨Pp,1,Ae⟩ (Aa Ab cy)).setCell ⟨Pp,2,Ae⟩ (.bool false)).setCell ⟨Pp,3,Ae⟩ (.bool false)):=HSA.out _ _ hS (Oj (by rw[Db Ci,Db Ci,Db Ci,Db Ci]) 0);clear hPd hPp;refine rdy 16 (λK hK=>?_);go_simp;refine hK.out _ _ hS2 (λhS=>?_);clear hK K;refine An Cm ?_ _;have hS9:=hS;clear hS HSO HSA HR1 hS2 hS9 x0 x1 x2 x3 z0 z1 z2 z3 e1 e0 e0b e2 e3 e4 e6 e7 e8;obtain⟨X2,hX2⟩:=ez (((((X1.setCell ⟨Pp,0,Ae⟩ (Aa Ab cx)).setCell ⟨Pp,1,Ae⟩ (Aa Ab cy)).setCell ⟨Pp,2,Ae⟩ (.bool false)).setCell ⟨Pp,3,Ae⟩ (.bool false)));rw[←hX2]at HR2⊢;clear hX2;have hB2:Below O W6 X2:=hB.trans HR2.out.bl
  have l0:X2.cell? ⟨B7,0,Ae⟩=Af (Ad (Af ⟨g,0,Ae⟩) ML ML):=by
   rw[By _ _ 0 _ _ _ ((HBX.out X2 hB2).blk 3 _ _ _ rfl)];rfl
  have t0:X2.cell? ⟨g,id*3,Ae⟩=Af (Aa Ac (m.getD id mv0).t):=by
   rw[By _ _ (id*3) _ _ _ (HGX.out X2 hB2)];have:=Al9 hid;simpa using this
  have q0:(id:Int)<(ML:Int):=by have:=HML.out;omega
  have hpg:pgA a m id=⟨cx,cy,decide (4≤(m.getD id mv0).t),decide ((m.getD id mv0).t%4=2)⟩:=by
   unfold pgA;rw[HCX.out.1,HCX.out.2]
  obtain⟨tt,htt⟩:=ey ((m.getD id mv0).t);rw[htt]at t0 htn hpg;obtain⟨xs,hxs⟩:=ey (pgs a m (pre.map (·.1.2)));rw[hxs]at HR2
  have HFIN:Hid (∀(q0 q1 q2 q3:Ak) (X:Aj),PgR W O P9 (P9+1) Pp (Ad A' ls.length c') q0 q1 q2 q3 (k+1+1) (2*nl) (xs++[Aa Ab cx,Aa Ab cy,.bool (decide (4≤tt)),.bool (decide (tt%4=2))]++[Aa Ab cx,Aa Ab cy,.bool (!decide (4≤tt)),.bool (decide (tt%4=2))]) X→
    (KeepsFrom w9.heap.size W X∧Hw O (P9+1) W X∧((∃v,Boxed X P9 43 v∧X.ownsRow O 50 4 v (2*(pre++[x9]).length) (pgs a m ((pre++[x9]).map (·.1.2)))∧v= Ad (Af ⟨O,0,Ae⟩) (2*(pre++[x9]).length) (2*nl))∧(X.heap[P9+1]? =Af (Obj.cells #[Ad A' ls.length c'] 46 (0,0))∧Below O W6 X)))):=Ah λq0 q1 q2 q3 X h=>by
   have hl:2*(pre++[x9]).length=k+1+1:=by
    have:=HK.out;simp;omega
   rw[hl,List.map_append,List.map_cons,List.map_nil,hx2,iJ,hxs,hpg];exact⟨h.ko.from _,⟨h.bl,h.bs.trans hSW0.out.symm⟩,⟨_,h.bx,h.ow,rfl⟩,h.bs,hB.trans h.bl⟩
  clear htt hxs hpg hx2 hB hB2 HRow HCX HK hlt hid hid9 hOW hNW HH HRD HGX HGB HBX;rcases htn with rfl|rfl|rfl|rfl
  ·have HR3:Hid (PgR W O P9 (P9+1) Pp (Ad A' ls.length c') (Aa Ab cx) (Aa Ab cy) (.bool false) (.bool false) k (2*nl) xs X2):=Ah HR2.out;obtain⟨⟨u0,u1⟩,⟨x0,x1,x2,x3⟩,z0,z1,z2,z3⟩:=HR2.out.facts;obtain⟨⟨v0,v1⟩,⟨y0,y1,y2,y3⟩,f0,f1,f2,f3⟩:=HR3.out.facts;clear HR2
   as_aux_lemma=>
   gi_wp2_with (gi_at_builtin;first
    |(refine wpListIn_append_fits _ rfl _ _ 43 rfl O 50 i0 4 Tryz.underlying43 hi0 hz1 O (k+1) (2*nl) _ rfl (HR5.out.ow.alloc _) _ 1 1 [Aa Ab cx,Aa Ab cy,.bool true,.bool false] rfl rfl (by intro j u hju;have h9:=Kx HR5W #[Aa Ab cx,Aa Ab cy,.bool true,.bool false] 50 j u hju;simpa[hHR5W]using h9) (by simp[Value.oneCell']) Ci ?_;intro w2 hown2 hgrow2;have h62:=HR5.out.app hown2 hgrow2;have HR6:=Ah h62.2;obtain⟨⟨c2,d2⟩,-⟩:=h62;clear hown2 hgrow2)
    |(refine wpListIn_append_fits _ rfl _ _ 43 rfl O 50 i0 4 Tryz.underlying43 hi0 hz1 O k (2*nl) _ rfl (HR3.out.ow.alloc _) _ 1 1 [Aa Ab cx,Aa Ab cy,.bool false,.bool false] rfl rfl (by intro j u hju;have h9:=Kx X2 #[Aa Ab cx,Aa Ab cy,.bool false,.bool false] 50 j u hju;simpa using h9) (by simp[Value.oneCell']) Ci ?_;intro w1 hown1 hgrow1;have h41:=HR3.out.app hown1 hgrow1;have HR4:=Ah h41.2;obtain⟨⟨c1,d1⟩,-⟩:=h41;obtain⟨-,⟨p0,p1,p2,p3⟩,i4,i5,i6,i7⟩:=HR4.out.facts;have HR5:=Ah (HR4.out.setp 2 (.bool true) rfl);obtain⟨HR5W,hHR5W⟩:=ez ((w1.setCell ⟨P9,0,Ae⟩ (Ad (Af ⟨O,0,Ae⟩) (k+1) (2*nl))).setCell ⟨Pp,2,Ae⟩ (.bool true));obtain⟨⟨g0,g1⟩,⟨h0,h1,h2,h3⟩,-⟩:=HR5.out.facts;clear hown1 hgrow1))
   first
    |exact HFIN.out _ _ _ _ _ HR6.out
    |(obtain⟨h1,h2,⟨v,h3,h4,rfl⟩,h5,h6⟩:=HFIN.out _ _ _ _ _ HR6.out
      rw[hs9]at h1;exact⟨h1,h2,⟨h3,h4⟩,h5,h6⟩)
  ·have HR3:Hid (PgR W O P9 (P9+1) Pp (Ad A' ls.length c') (Aa Ab cx) (Aa Ab cy) (.bool false) (.bool true) k (2*nl) xs (X2.setCell ⟨Pp,3,Ae⟩ (.bool true))):=Ah (HR2.out.setp 3 (.bool true) rfl);obtain⟨⟨u0,u1⟩,⟨x0,x1,x2,x3⟩,z0,z1,z2,z3⟩:=HR2.out.facts;obtain⟨⟨v0,v1⟩,⟨y0,y1,y2,y3⟩,f0,f1,f2,f3⟩:=HR3.out.facts;clear HR2
   as_aux_lemma=>
   gi_wp2_with (gi_at_builtin;first
    |(refine wpListIn_append_fits _ rfl _ _ 43 rfl O 50 i0 4 Tryz.underlying43 hi0 hz1 O (k+1) (2*nl) _ rfl (HR5.out.ow.alloc _) _ 1 1 [Aa Ab cx,Aa Ab cy,.bool true,.bool true] rfl rfl (by intro j u hju;have h9:=Kx HR5W #[Aa Ab cx,Aa Ab cy,.bool true,.bool true] 50 j u hju;simpa[hHR5W]using h9) (by simp[Value.oneCell']) Ci ?_;intro w2 hown2 hgrow2;have h62:=HR5.out.app hown2 hgrow2;have HR6:=Ah h62.2;obtain⟨⟨c2,d2⟩,-⟩:=h62;clear hown2 hgrow2)
    |(refine wpListIn_append_fits _ rfl _ _ 43 rfl O 50 i0 4 Tryz.underlying43 hi0 hz1 O k (2*nl) _ rfl (HR3.out.ow.alloc _) _ 1 1 [Aa Ab cx,Aa Ab cy,.bool false,.bool true] rfl rfl (by intro j u hju;have h9:=Kx (X2.setCell ⟨Pp,3,Ae⟩ (.bool true)) #[Aa Ab cx,Aa Ab cy,.bool false,.bool true] 50 j u hju;simpa using h9) (by simp[Value.oneCell']) Ci ?_;intro w1 hown1 hgrow1;have h41:=HR3.out.app hown1 hgrow1;have HR4:=Ah h41.2;obtain⟨⟨c1,d1⟩,-⟩:=h41;obtain⟨-,⟨p0,p1,p2,p3⟩,i4,i5,i6,i7⟩:=HR4.out.facts;have HR5:=Ah (HR4.out.setp 2 (.bool true) rfl);obtain⟨HR5W,hHR5W⟩:=ez ((w1.setCell ⟨P9,0,Ae⟩ (Ad (Af ⟨O,0,Ae⟩) (k+1) (2*nl))).setCell ⟨Pp,2,Ae⟩ (.bool true));obtain⟨⟨g0,g1⟩,⟨h0,h1,h2,h3⟩,-⟩:=HR5.out.facts;clear hown1 hgrow1))
   first
    |exact HFIN.out _ _ _ _ _ HR6.out
    |(obtain⟨h1,h2,⟨v,h3,h4,rfl⟩,h5,h6⟩:=HFIN.out _ _ _ _ _ HR6.out
      rw[hs9]at h1;exact⟨h1,h2,⟨h3,h4⟩,h5,h6⟩)
  ·have HR3:Hid (PgR W O P9 (P9+1) Pp (Ad A' ls.length c') (Aa Ab cx) (Aa Ab cy) (.bool true) (.bool false) k (2*nl) xs (X2.setCell ⟨Pp,2,Ae⟩ (.bool true))):=Ah (HR2.out.setp 2 (.bool true) rfl);obtain⟨⟨u0,u1⟩,⟨x0,x1,x2,x3⟩,z0,z1,z2,z3⟩:=HR2.out.facts;obtain⟨⟨v0,v1⟩,⟨y0,y1,y2,y3⟩,f0,f1,f2,f3⟩:=HR3.out.facts;clear HR2
   as_aux_lemma=>
   gi_wp2_with (gi_at_builtin;first
    |(refine wpListIn_append_fits _ rfl _ _ 43 rfl O 50 i0 4 Tryz.underlying43 hi0 hz1 O (k+1) (2*nl) _ rfl (HR5.out.ow.alloc _) _ 1 1 [Aa Ab cx,Aa Ab cy,.bool false,.bool false] rfl rfl (by intro j u hju;have h9:=Kx HR5W #[Aa Ab cx,Aa Ab cy,.bool false,.bool false] 50 j u hju;simpa[hHR5W]using h9) (by simp[Value.oneCell']) Ci ?_;intro w2 hown2 hgrow2;have h62:=HR5.out.app hown2 hgrow2;have HR6:=Ah h62.2;obtain⟨⟨c2,d2⟩,-⟩:=h62;clear hown2 hgrow2)
    |(refine wpListIn_append_fits _ rfl _ _ 43 rfl O 50 i0 4 Tryz.underlying43 hi0 hz1 O k (2*nl) _ rfl (HR3.out.ow.alloc _) _ 1 1 [Aa Ab cx,Aa Ab cy,.bool true,.bool false] rfl rfl (by intro j u hju;have h9:=Kx (X2.setCell ⟨Pp,2,Ae⟩ (.bool true)) #[Aa Ab cx,Aa Ab cy,.bool true,.bool false] 50 j u hju;simpa using h9) (by simp[Value.oneCell']) Ci ?_;intro w1 hown1 hgrow1;have h41:=HR3.out.app hown1 hgrow1;have HR4:=Ah h41.2;obtain⟨⟨c1,d1⟩,-⟩:=h41;obtain⟨-,⟨p0,p1,p2,p3⟩,i4,i5,i6,i7⟩:=HR4.out.facts;have HR5:=Ah (HR4.out.setp 2 (.bool false) rfl);obtain⟨HR5W,hHR5W⟩:=ez ((w1.setCell ⟨P9,0,Ae⟩ (Ad (Af ⟨O,0,Ae⟩) (k+1) (2*nl))).setCell ⟨Pp,2,Ae⟩ (.bool false));obtain⟨⟨g0,g1⟩,⟨h0,h1,h2,h3⟩,-⟩:=HR5.out.facts;clear hown1 hgrow1))
   first
    |exact HFIN.out _ _ _ _ _ HR6.out
    |(obtain⟨h1,h2,⟨v,h3,h4,rfl⟩,h5,h6⟩:=HFIN.out _ _ _ _ _ HR6.out
      rw[hs9]at h1;exact⟨h1,h2,⟨h3,h4⟩,h5,h6⟩)
  ·have HR3:Hid (PgR W O P9 (P9+1) Pp (Ad A' ls.length c') (Aa Ab cx) (Aa Ab cy) (.bool true) (.bool true) k (2*nl) xs ((X2.setCell ⟨Pp,2,Ae⟩ (.bool true)).setCell ⟨Pp,3,Ae⟩ (.bool true))):=Ah ((HR2.out.setp 2 (.bool true) rfl).setp 3 (.bool true) rfl);obtain⟨⟨u0,u1⟩,⟨x0,x1,x2,x3⟩,z0,z1,z2,z3⟩:=HR2.out.facts;obtain⟨⟨v0,v1⟩,⟨y0,y1,y2,y3⟩,f0,f1,f2,f3⟩:=HR3.out.facts;have HM:=HR2.out.setp 2 (.bool true) rfl;obtain⟨-,-,r0,r1,r2,r3⟩:=HM.facts;clear HR2
   as_aux_lemma=>
   gi_wp2_with (gi_at_builtin;first
    |(refine wpListIn_append_fits _ rfl _ _ 43 rfl O 50 i0 4 Tryz.underlying43 hi0 hz1 O (k+1) (2*nl) _ rfl (HR5.out.ow.alloc _) _ 1 1 [Aa Ab cx,Aa Ab cy,.bool false,.bool true] rfl rfl (by intro j u hju;have h9:=Kx HR5W #[Aa Ab cx,Aa Ab cy,.bool false,.bool true] 50 j u hju;simpa[hHR5W]using h9) (by simp[Value.oneCell']) Ci ?_;intro w2 hown2 hgrow2;have h62:=HR5.out.app hown2 hgrow2;have HR6:=Ah h62.2;obtain⟨⟨c2,d2⟩,-⟩:=h62;clear hown2 hgrow2)
    |(refine wpListIn_append_fits _ rfl _ _ 43 rfl O 50 i0 4 Tryz.underlying43 hi0 hz1 O k (2*nl) _ rfl (HR3.out.ow.alloc _) _ 1 1 [Aa Ab cx,Aa Ab cy,.bool true,.bool true] rfl rfl (by intro j u hju;have h9:=Kx ((X2.setCell ⟨Pp,2,Ae⟩ (.bool true)).setCell ⟨Pp,3,Ae⟩ (.bool true)) #[Aa Ab cx,Aa Ab cy,.bool true,.bool true] 50 j u hju;simpa using h9) (by simp[Value.oneCell']) Ci ?_;intro w1 hown1 hgrow1;have h41:=HR3.out.app hown1 hgrow1;have HR4:=Ah h41.2;obtain⟨⟨c1,d1⟩,-⟩:=h41;obtain⟨-,⟨p0,p1,p2,p3⟩,i4,i5,i6,i7⟩:=HR4.out.facts;have HR5:=Ah (HR4.out.setp 2 (.bool false) rfl);obtain⟨HR5W,hHR5W⟩:=ez ((w1.setCell ⟨P9,0,Ae⟩ (Ad (Af ⟨O,0,Ae⟩) (k+1) (2*nl))).setCell ⟨Pp,2,Ae⟩ (.bool false));obtain⟨⟨g0,g1⟩,⟨h0,h1,h2,h3⟩,-⟩:=HR5.out.facts;clear hown1 hgrow1))
   first
    |exact HFIN.out _ _ _ _ _ HR6.out
    |(obtain⟨h1,h2,⟨v,h3,h4,rfl⟩,h5,h6⟩:=HFIN.out _ _ _ _ _ HR6.out
      rw[hs9]at h1;exact⟨h1,h2,⟨h3,h4⟩,h5,h6⟩)
 case done=>
  rintro D ys W hD rfl ⟨⟨v,hv,hrow,rfl⟩,hSW,hB⟩ hK;have hBX:=HBX.out W hB;rw[Ah2,Wk]at hrow;rw[Wk]at hv;have hc:=hv.cell;obtain⟨k,hk⟩:=ey (2*ls.length);rw[hk]at hv hrow hc;have H9:=(hBX.set 1 0 rfl (Ad (Af ⟨O,0,Ae⟩) k (2*nl))).set 2 0 rfl (Aa Ab 0);have p10:W.cell? ⟨P1,0,Ae⟩=Af (Ad Ae 0 0):=by rw[By _ _ 0 _ _ _ (hBX.blk 1 _ _ _ rfl)];rfl
  have p20:W.cell? ⟨P2,0,Ae⟩=Af (Aa Ab 0):=by rw[By _ _ 0 _ _ _ (hBX.blk 2 _ _ _ rfl)];rfl
  have z10:W.frozen? ⟨P1,0,Ae⟩=false:=by simp[World.frozen?,hBX.blk 1 _ _ _ rfl]
  have z20:W.frozen? ⟨P2,0,Ae⟩=false:=by simp[World.frozen?,hBX.blk 2 _ _ _ rfl]
  have hP12:P1≠P2:=λe=>absurd (HBX.out W hB|>.inj 1 2 _ _ _ _ _ rfl (by rw[e];rfl)) Ct;have hPD1:P1<W6.heap.size:=HH.out.lt 1 rfl;have hPD2:P2<W6.heap.size:=HH.out.lt 2 rfl
  have hK9:((W.setCell ⟨P1,0,Ae⟩ (Ad (Af ⟨O,0,Ae⟩) k (2*nl))).setCell ⟨P2,0,Ae⟩ (Aa Ab 0)).heap[D]? =Af (.deferred (Af [])):=by
   rw[Db Ci,Db Ci];exact hK
  have hrow9:=(ownsRow_putObj (Kh (w':=(W.setCell ⟨P1,0,Ae⟩ (Ad (Af ⟨O,0,Ae⟩) k (2*nl))).setCell ⟨P2,0,Ae⟩ (Aa Ab 0)) hrow λq hq=>by
   simp[Value.ownBlock]at hq;rw[Db Ci,Db Ci]) (.deferred Ae) hK9 rfl)
  have hbf:Below w.heap.size w (((W.setCell ⟨P1,0,Ae⟩ (Ad (Af ⟨O,0,Ae⟩) k (2*nl))).setCell ⟨P2,0,Ae⟩ (Aa Ab 0)).putObj D (.deferred Ae)):=H9.below.trans (belowK_b (n₀:=w.heap.size) (w:=w9) (by have:=HH.out.below.size;omega) _ D _ _ hD hK9 rfl rfl)
  have r1:(((W.setCell ⟨P1,0,Ae⟩ (Ad (Af ⟨O,0,Ae⟩) k (2*nl))).setCell ⟨P2,0,Ae⟩ (Aa Ab 0)).putObj D (.deferred Ae)).cell? ⟨P1,0,Ae⟩=Af (Ad (Af ⟨O,0,Ae⟩) k (2*nl)):=by
   rw[Oj (World.putObj_heap_other Ci) 0,By _ _ 0 _ _ _ (H9.blk 1 _ _ _ rfl)];rfl
  have r2:(((W.setCell ⟨P1,0,Ae⟩ (Ad (Af ⟨O,0,Ae⟩) k (2*nl))).setCell ⟨P2,0,Ae⟩ (Aa Ab 0)).putObj D (.deferred Ae)).cell? ⟨P2,0,Ae⟩=Af (Aa Ab 0):=by
   rw[Oj (World.putObj_heap_other Ci) 0,By _ _ 0 _ _ _ (H9.blk 2 _ _ _ rfl)];rfl
  have HR:=Ah (And.intro hrow9 hbf);have HKK:=Ah hK9;have HLN:Hid (k=2*ls.reverse.length):=Ah (by rw[←hk,List.length_reverse]);clear H9 hrow9 hbf hK9 hBX hrow hSW hk;go_wp2_with fail;refine⟨Cn,.inl ⟨_,_,rfl,run_takeDeferred HKK.out,?_⟩⟩;refine⟨.tuple #[Ad (Af ⟨O,0,Ae⟩) k (2*nl),Aa Ab 0],by simp[results,Tryz.results8,go_sem,r1,r2],HR.out.2,?_⟩;have h9:=HR.out.1;rw[HLN.out]at h9⊢;exact⟨_,_,rfl,Iv h9 (by have:=HH.out.below.size;omega)⟩
end Go.Proofs.YthpcfeifmdbhnaaGreatDoor
