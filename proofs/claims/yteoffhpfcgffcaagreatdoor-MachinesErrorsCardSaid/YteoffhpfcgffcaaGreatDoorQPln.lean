import Derived.Test.YteoffhpfcgffcaaGreatDoorQMbs
import Derived.Test.YteoffhpfcgffcaaGreatDoorQMlv
import Derived.Lib.SmallJoins
import Derived.ChangeSlices
import Derived.OpenShut
import Derived.Deep.Slices
import Derived.ProofKit
import Derived.Test.YteoffhpfcgffcaaGreatDoorQMru
import Derived.Deep.Strs
import Derived.Test.YteoffhpfcgffcaaGreatDoorQCrd
import Derived.Test.YteoffhpfcgffcaaGreatDoorRows
import Derived.DeepKeys2
import Derived.MapViews
import Derived.LaidLaws
import Derived.LaidMore
import Derived.Carry
import Derived.Test.YteoffhpfcgffcaaGreatDoorQMun
open Go renaming Calls→Ai,Value→Ah,World→Ag,bodyPost_ret→Af
open Go.IntKind renaming i64→Ab,u8→Ac
open Go.Lib renaming hid→Ae
open Go.Value renaming int→Aa,slice→Ad
open List renaming getElem?_eq_getElem→Ar,getElem?_eq_some_iff→As,getElem_mem→Au,length_map→Bk,mem_cons→Bh
open Nat renaming zero_add→Bp
set_option maxHeartbeats 4000000
set_option maxRecDepth 100000
namespace Go.Proofs.YteoffhpfcgffcaaGreatDoor
open Go.ChangeShapes Go.WideShapes Go.ChangeAt Go.RowKit Go.Deep
theorem uKs:Tryz.prog.underlying 25=some (.slice 5):=by kernel_rfl
theorem uU8:Tryz.prog.underlying 5=some (.int .u8):=by kernel_rfl
theorem cU8:Tryz.prog.cellsOf 5=1:=by kernel_rfl
theorem Aj0 {W:Ag} {a:Addr} {u:Ah} (h:W.cell? a=some u):a.spot=none:=by
 unfold World.cell? at h
 split at h
 ·cases hs:a.spot with
  |none=>rfl
  |some s=>simp[hs]at h
 ·cases h
theorem Al5 (a:Addr):a.add 0=a:=rfl
theorem Al6 {a:Addr} (h:a.spot=none) (j:Nat):a.add j=⟨a.block,a.off+j,none⟩:=by
 unfold Addr.add
 split
 ·rename_i e;subst e;cases a;simp_all
 ·rfl
theorem Sk {W:Ag} {a:Addr} (n sz:Nat) (xs:List Ah) (hl:xs.length=n*sz) (h0:0<sz) (h:∀j u,xs[j]? =some u→W.cell? (a.add j)=some u):Rd W (some a) sz n xs:=by
 refine⟨hl,fun hn=>?_⟩;have hp:0<xs.length:=by rw[hl];exact Nat.mul_pos hn h0
 have h1:=h 0 _ (Ar hp);rw[Al5]at h1;have hs:=Aj0 h1;refine⟨a.block,a.off,by cases a;simp_all,World.block_lt_of_cell? W _ h1,fun j u hu=>?_⟩;rw[←Al6 hs];exact h j u hu
def Jn (W:Ag) (a:Addr):Nat:=match W.cell? a with|some (Aa Ac x)=>x.toNat|_=>0
theorem Qo {W:Ag} {a:Addr} {x:Int} (h:W.cell? a=some (Aa Ac x)) (h0:0≤x):W.cell? a=some (Aa Ac (Jn W a:Int)):=by
 have e:Jn W a=x.toNat:=by unfold Jn;rw[h]
 rw[e,h,show((x.toNat:Nat):Int)=x by omega]
theorem cQ {x:Int} (h:(Lit.int .u8 x).wf=true):0≤x∧x≤255:=by
 have hm:IntKind.u8.min=0:=rfl;have hM:IntKind.u8.max=255:=rfl;simp[Lit.wf]at h;omega
theorem rW {W:Ag} {a:Addr} {x:Int} (h:W.cell? a=some (Aa Ac x)) (h1:x≤255):Jn W a≤255:=by
 have e:Jn W a=x.toNat:=by unfold Jn;rw[h]
 rw[e];omega
theorem xO {H:Type} {enc:TypeId×Ah→H} {W:Ag} {fuel:Nat} {v:Ah} {y:DataW H×List MemPlace} (h:DataW.trod enc Tryz.prog W 0 (fun _=>true) true fuel 25 [v]=some y):
  ∃A c ks,v= Ad A ks.length c∧Rd W A 1 ks.length (ksV ks)∧(∀k∈ks,k≤255)∧ks.length≤maxLen:=by
 rcases open_ints uKs uU8 cU8 h with⟨hcs,_⟩|⟨a,len,cap,zs,hcs,_,hlc,hcm,hzl,_,hi,hw⟩
 ·obtain rfl:v= Ad none 0 0:=by simpa using hcs
  exact⟨none,0,[],rfl,Rd.nil,by simp,by simp⟩
 ·obtain rfl:v= Ad (some a) len cap:=by simpa using hcs
  simp only[if_true]at hzl
  have hc:∀i,i<len→W.cell? (a.add i)=some (Aa Ac (Jn W (a.add i):Int))∧Jn W (a.add i)≤255:=fun i hil=>by
   have h1:=hi i (by omega)
   have hm:zs.getD i 0∈zs:=by
    rw[List.getD_eq_getElem?_getD,Ar (by omega)];exact Au _
   have hb:=cQ (hw _ hm);exact⟨Qo h1 hb.1,rW h1 hb.2⟩
  refine⟨some a,cap,(List.range len).map fun i=>Jn W (a.add i),by simp,?_,?_,by simp;omega⟩
  ·refine Sk _ 1 _ (by simp[ksV]) (by decide) fun j u hu=>?_;have hj:j<len:=by have:=(As.1 hu).1;simpa[ksV]using this
   simp[ksV,hj]at hu;rw[←hu];exact(hc j hj).1
  ·intro k hk;obtain⟨i,hi',rfl⟩:=List.mem_map.1 hk;exact(hc i (by simpa using hi')).2
theorem uSs:Tryz.prog.underlying 22=some (.slice 32):=by kernel_rfl
theorem cSn:Tryz.prog.cellsOf 32=3:=by kernel_rfl
theorem uSd:Tryz.prog.underlying 30=some (.int .u8):=by kernel_rfl
theorem cSd:Tryz.prog.cellsOf 30=1:=by kernel_rfl
theorem cIn:Tryz.prog.cellsOf 3=1:=by kernel_rfl
theorem cBo:Tryz.prog.cellsOf 4=1:=by kernel_rfl
def intAt (W:Ag) (a:Addr):Int:=match W.cell? a with|some (.int _ x)=>x|_=>0
def boolAt (W:Ag) (a:Addr):Bool:=match W.cell? a with|some (.bool x)=>x|_=>false
theorem intAt_eq {W:Ag} {a:Addr} {x:Int} (h:W.cell? a=some (Aa Ab x)):W.cell? a=some (Aa Ab (intAt W a)):=by
 have e:intAt W a=x:=by unfold intAt;rw[h]
 rw[e,h]
theorem boolAt_eq {W:Ag} {a:Addr} {x:Bool} (h:W.cell? a=some (.bool x)):W.cell? a=some (.bool (boolAt W a)):=by
 have e:boolAt W a=x:=by unfold boolAt;rw[h]
 rw[e,h]
theorem open_st {H:Type} {enc:TypeId×Ah→H} {W:Ag} {fuel:Nat} {v:Ah} {y:DataW H×List MemPlace} (h:DataW.trod enc Tryz.prog W 0 (fun _=>true) true fuel 22 [v]=some y):
  ∃A c,∃ts:List Sn,v= Ad A ts.length c∧Rd W A 3 ts.length (ts.flatMap snC)∧ts.length≤maxLen:=by
 rcases open_slice uSs h with⟨hcs,_⟩|⟨a,len,cap,m,n,D,Pl,hcs,_,hlc,hcm,hmm,_,hi⟩
 ·obtain rfl:v= Ad none 0 0:=by simpa using hcs
  exact⟨none,0,[],rfl,Rd.nil,by simp⟩
 ·obtain rfl:v= Ad (some a) len cap:=by simpa using hcs
  simp only[if_true]at hmm;subst hmm
  have hc:∀i,i<len→W.cell? (a.add (i*3))=some (Aa Ac (Jn W (a.add (i*3)):Int))∧W.cell? (a.add (i*3+1))=some (Aa Ab (intAt W (a.add (i*3+1))))∧W.cell? (a.add (i*3+2))=some (.bool (boolAt W (a.add (i*3+2)))):=fun i hil=>by
   obtain⟨cs',hcc,ht'⟩:=hi i (by omega);rw[cSn]at hcc;obtain⟨_,hcl,hat⟩:=World.cells?_some hcc
   match cs',hcl with
   |[u0,u1,u2],_=>
    obtain⟨y0,y1,y2,n',-,-,g0,g1,g2⟩:=trod_struct3 Tryz.underlying32 ht';dsimp only at g0 g1 g2;rw[cSd]at g0;rw[cIn]at g1;rw[cBo]at g2;obtain⟨x0,e0,-,w0⟩:=DataW.trod_int uSd g0;obtain⟨x1,e1,-,-⟩:=DataW.trod_int Tryz.underlying3 g1;obtain⟨x2,e2,-⟩:=DataW.trod_bool Tryz.underlying4 g2;obtain rfl:u0= Aa Ac x0:=by simpa using e0
    obtain rfl:u1= Aa Ab x1:=by simpa using e1
    obtain rfl:u2= .bool x2:=by simpa using e2
    have q0:=hat 0 (by omega);have q1:=hat 1 (by omega);have q2:=hat 2 (by omega);rw[Go.Deep.add_add]at q0 q1 q2;exact⟨Qo q0 (cQ w0).1,intAt_eq q1,boolAt_eq q2⟩
  refine⟨some a,m,(List.range len).map fun i=>⟨Jn W (a.add (i*3)),intAt W (a.add (i*3+1)),boolAt W (a.add (i*3+2))⟩,by simp,?_,by simp;omega⟩
  have hl:(((List.range len).map fun i=>(⟨Jn W (a.add (i*3)),intAt W (a.add (i*3+1)),boolAt W (a.add (i*3+2))⟩:Sn)).flatMap snC).length=len*3:=by
   rw[Dl snC 3 (fun _=>rfl)];simp
  rw[Bk,List.length_range];refine Sk _ 3 _ hl (by decide) fun j u hu=>?_;have hj:j<len*3:=by have:=(As.1 hu).1;rwa [hl]at this
  obtain⟨i,q,hq,rfl⟩:∃i q,q<3∧j=i*3+q:=⟨j/3,j%3,by omega,by omega⟩;have hil:i<len:=by omega
  rw[Dc snC 3 (fun _=>rfl) _ i q (by simpa using hil) hq]at hu;obtain⟨q0,q1,q2⟩:=hc i hil;simp only[List.getElem_map,List.getElem_range]at hu
  match q,hq with
  |0,_=>rw[show i*3+0=i*3 from rfl,q0,←hu];rfl
  |1,_=>rw[q1,←hu];rfl
  |2,_=>rw[q2,←hu];rfl
end Go.Proofs.YteoffhpfcgffcaaGreatDoor
namespace Go.Proofs.YteoffhpfcgffcaaGreatDoor
open Go.RowKit
theorem aG {P:Program} {W:Ag} {n:String} {d:DataW Unit}:∀{l:List (String×DataW Unit)} {ps:List MemPlace},DataW.LaidVars P W l ps→(n,d)∈l→∃g t cs fuel p,P.globalNamed n=some g∧(P.globals[g]?).map (·.type)=some t∧W.var? P n=some cs∧DataW.trod (fun _=>()) P W 0 (fun _=>true) false fuel t cs.toList=some (d,p)
 |(n',d')::r,ps,h,hm=>by
  obtain⟨g,t,cs,fuel,p,q,h1,h2,h3,h4,h5,_⟩:=h;rcases Bh.1 hm with e|hm
  ·injection e with e1 e2;subst e1;subst e2;exact⟨g,t,cs,fuel,p,h1,h2,h3,h4⟩
  ·exact aG h5 hm
theorem Tp {P:Program} {W:Ag} {n:String} {d:DataW Unit} {l:List (String×DataW Unit)} {g t:Nat} (hg:P.globalNamed n=some g) (ht:(P.globals[g]?).map (·.type)=some t) {m:Nat} (hk:P.keyTypeAt m t=true) (hti:P.tiled m t=true)
  (hl:(n,d)∈l) (h:laidMet P l W) (i:Nat):W.cell? ⟨g,i,none⟩=(d.flat.map Lit.toCell)[i]? :=by
 obtain⟨ps,hv,_⟩:=h;obtain⟨g',t',cs,fuel,p,hg',ht',hcs,htr⟩:=aG hv hl;obtain rfl:=Option.some.inj (hg.symm.trans hg');obtain rfl:=Option.some.inj (ht.symm.trans ht');obtain⟨h1,_⟩:=keyLits_of_trod m _ hk _ _ _ htr;have h2:=cells_of_lits m _ hti _ _ _ h1;rw[World.var?_cell hg hcs i];rw[←h2];simp
theorem Ai0 {W:Ag} {l:List (String×DataW Unit)} (hl:("crimp/cells.quarters",Rows.laid_crimp_cells_quarters)∈l) (h:laidMet Tryz.prog l W):Qf W:=by
 have hc:=Tp (m:=9) (t:=344) (show Tryz.prog.globalNamed "crimp/cells.quarters" =some 1 by kernel_rfl) (by kernel_rfl) (by kernel_rfl) (by kernel_rfl) hl h;have he:(Rows.laid_crimp_cells_quarters:DataW Unit).flat.map Lit.toCell=Ir:=by rfl
 rw[he]at hc;refine⟨World.block_lt_of_cell? W _ ((hc 0).trans rfl),fun j v hj=>?_⟩;rw[Bp,hc j,hj]
theorem Ak1 {W:Ag} {l:List (String×DataW Unit)} (hl:("crimp/moves.turns",Rows.laid_crimp_moves_turns)∈l) (h:laidMet Tryz.prog l W):Tn W:=by
 have hc:=Tp (m:=9) (t:=200) (show Tryz.prog.globalNamed "crimp/moves.turns" =some 0 by kernel_rfl) (by kernel_rfl) (by kernel_rfl) (by kernel_rfl) hl h;refine⟨World.block_lt_of_cell? W _ ((hc 0).trans rfl),fun t ht=>?_⟩;rw[hc,hc,hc,hc]
 match t,ht with
 |0,_=>exact⟨rfl,rfl,rfl,rfl⟩
 |1,_=>exact⟨rfl,rfl,rfl,rfl⟩
 |2,_=>exact⟨rfl,rfl,rfl,rfl⟩
 |3,_=>exact⟨rfl,rfl,rfl,rfl⟩
 |4,_=>exact⟨rfl,rfl,rfl,rfl⟩
 |5,_=>exact⟨rfl,rfl,rfl,rfl⟩
 |6,_=>exact⟨rfl,rfl,rfl,rfl⟩
 |7,_=>exact⟨rfl,rfl,rfl,rfl⟩
theorem patZero_any (w:Ag):Ai Tryz.prog 16 #[.agg #[Aa Ab 0,Aa Ab 0,Ad none 0 0]] w (Cg (Aa Ab 1) w):=by
 have HS:=Ae (fun(w':Ag)=>Ev 0 0 w');have H:=(Bx.start w).new #[Aa Ab 0,Aa Ab 0,Ad none 0 0] 38 rfl;go_enter Tryz.func16,Tryz.ntmps16;go_upto_region 1 with fail;obtain⟨N,hN⟩:=ez w.heap.size;rw[←hN]at H⊢;have HNN:=Ae hN;clear hN;obtain⟨W,hW⟩:=ez (w.alloc (.cells #[Aa Ab 0,Aa Ab 0,Ad none 0 0] 38));rw[←hW]at H⊢;clear hW;obtain⟨⟨a0,a1,a2⟩,-⟩:=Ci (H.blk 0 _ _ _ rfl);go_wp2_with fail;refine(HS.out _).mono ?_;rintro ee w2 ⟨rfl,hb⟩;rw[show ec (okS 0 0) 1=1 from rfl];have H2:=H.call hb;clear a0 a1 a2 H hb;go_wp2_with fail;go_ret;exact⟨rfl,H2.below⟩
theorem mchk_nil (a b cc:Int):∃E,mchkF ⟨a,b,cc,[]⟩=E∧(E=0∨E=1):=by
 refine⟨_,rfl,?_⟩;unfold mchkF;rw[if_neg (by simp)]
 cases Mh.far ⟨a,b,cc,[]⟩
 ·exact .inl (by simp[Mh.odd])
 ·exact .inr rfl
theorem planNo_any (a b cc:Int) (A:Option Addr) (n c:Nat) (w:Ag):
  Ai Tryz.prog 15 #[.agg #[Aa Ab a,Aa Ab b,Aa Ab cc,Ad A n c],.agg #[Aa Ab 0,Aa Ab 0,Ad none 0 0]] w (Cg (.tuple #[.agg #[Aa Ab 0,Aa Ab 0,Aa Ab 0,Ad none 0 0],Aa Ab 1]) w):=by
 have HMC:=Ae (fun(w':Ag)=>mchk_any ⟨a,b,cc,[]⟩ none 0 0 w' rfl (by omega) Rd.nil);have HPZ:=Ae (fun(w':Ag)=>patZero_any w');obtain⟨E,hE,hE2⟩:=mchk_nil a b cc;rw[hE]at HMC;dsimp only at HMC;have H:=(((Bx.start w).new #[Aa Ab a,Aa Ab b,Aa Ab cc,Ad A n c] 24 rfl).new #[Aa Ab 0,Aa Ab 0,Ad none 0 0] 38 (N:=w.heap.size+1) (by simp)).new #[Aa Ab 0,Aa Ab 0,Aa Ab 0,Ad none 0 0] 24 (N:=w.heap.size+1+1) (by simp);clear hE;go_enter Tryz.func15,Tryz.ntmps15;go_upto_region 1 with fail;obtain⟨N,hN⟩:=ez w.heap.size;rw[←hN]at H⊢;have HNN:=Ae hN;clear hN;obtain⟨P,hP⟩:=ey (N+1);obtain⟨R,hR⟩:=ey (P+1);rw[hP,hR]at H⊢;clear hP hR;obtain⟨W1,hW1⟩:=ez (((w.alloc (.cells #[Aa Ab a,Aa Ab b,Aa Ab cc,Ad A n c] 24)).alloc (.cells #[Aa Ab 0,Aa Ab 0,Ad none 0 0] 38)).alloc (.cells #[Aa Ab 0,Aa Ab 0,Aa Ab 0,Ad none 0 0] 24));rw[←hW1]at H⊢;clear hW1;obtain⟨⟨m0,m1,m2,m3⟩,z0,z1,z2,z3⟩:=Co (H.blk 0 _ _ _ rfl);have H2:=H.set 0 3 rfl (Ad none 0 0);clear H;go_upto_region 2 with fail;clear m0 m1 m2 m3 z0 z1 z2 z3;obtain⟨W2,hW2⟩:=ez (W1.setCell ⟨N,3,none⟩ (Ad none 0 0));rw[←hW2]at H2⊢;clear hW2;obtain⟨⟨m0,m1,m2,m3⟩,-⟩:=Co (H2.blk 0 _ _ _ rfl);go_wp2_with fail;refine(HMC.out _).mono ?_;rintro ee w3 ⟨rfl,hb⟩;have H3:=H2.call hb;clear m0 m1 m2 m3 hb H2 HMC;rcases hE2 with rfl|rfl
 ·obtain⟨⟨c0,c1,c2⟩,-⟩:=Ci (H3.blk 1 _ _ _ rfl);go_wp2_with fail;refine(HPZ.out _).mono ?_;rintro ee w4 ⟨rfl,hb⟩;have H4:=H3.call hb;clear c0 c1 c2 hb H3 HPZ;obtain⟨⟨g0,g1,g2,g3⟩,z0,z1,z2,z3⟩:=Co (H4.blk 2 _ _ _ rfl);have H9:=Ae ((((H4.set 2 0 rfl (Aa Ab 0)).set 2 1 rfl (Aa Ab 0)).set 2 2 rfl (Aa Ab 0)).set 2 3 rfl (Ad none 0 0));clear H4;go_wp2_with fail;exact Af (Cj (u:=5) rfl rfl (H9.out.range 2 rfl) Tryz.underlying24 rfl (by kernel_rfl)) rfl ⟨rfl,H9.out.below⟩
 ·obtain⟨⟨g0,g1,g2,g3⟩,z0,z1,z2,z3⟩:=Co (H3.blk 2 _ _ _ rfl);have H9:=Ae ((((H3.set 2 0 rfl (Aa Ab 0)).set 2 1 rfl (Aa Ab 0)).set 2 2 rfl (Aa Ab 0)).set 2 3 rfl (Ad none 0 0));clear H3;go_wp2_with fail;exact Af (Cj (u:=5) rfl rfl (H9.out.range 2 rfl) Tryz.underlying24 rfl (by kernel_rfl)) rfl ⟨rfl,H9.out.below⟩
end Go.Proofs.YteoffhpfcgffcaaGreatDoor
