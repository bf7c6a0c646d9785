import Derived.Test.YtadnbldkegkjaaaGreatDoorQMlb
import Derived.Test.YtadnbldkegkjaaaGreatDoorQMlk
import Derived.Lib.SmallJoins
import Derived.ChangeSlices
import Derived.OpenShut
import Derived.Laws.IdiomArrays
import Derived.Deep.Slices
import Derived.ProofKit
import Derived.Test.YtadnbldkegkjaaaGreatDoorQCrd
import Derived.Test.YtadnbldkegkjaaaGreatDoorRows
import Derived.DeepKeys2
import Derived.MapViews
import Derived.LaidLaws
import Derived.LaidMore
import Derived.Carry
open Go renaming Value→Ah,World→Ag
open Go.IntKind renaming u8→Ac
open Go.Value renaming int→Aa,slice→Ad
open List renaming getElem?_eq_getElem→Ar,getElem?_eq_some_iff→As,getElem_mem→Au,length_map→Bk,mem_cons→Bh
open Nat renaming zero_add→Bp
namespace Go.Proofs.YtadnbldkegkjaaaGreatDoor
open Go.ChangeShapes Go.WideShapes Go.ChangeAt Go.RowKit Go.Deep
theorem uKs:Tryz.prog.underlying 22=some (.slice 5):=by kernel_rfl
theorem uU8:Tryz.prog.underlying 5=some (.int .u8):=by kernel_rfl
theorem cU8:Tryz.prog.cellsOf 5=1:=by kernel_rfl
theorem uKt:Tryz.prog.underlying 25=some (.slice 86):=by kernel_rfl
theorem uK3:Tryz.prog.underlying 86=some (.array 3 5):=by kernel_rfl
theorem cK3:Tryz.prog.cellsOf 86=3:=by kernel_rfl
theorem Aj0 {W:Ag} {a:Addr} {u:Ah} (h:W.cell? a=some u):a.spot=none:=by
 unfold World.cell? at h
 split at h
 ·cases hs:a.spot with
  |none=>rfl
  |some s=>simp[hs]at h
 ·cases h
theorem Al5 (a:Addr):a.add 0=a:=rfl
theorem Al6 {a:Addr} (h:a.spot=none) (j:Nat):a.add j=⟨a.block,a.off+j,none⟩:=by
 unfold Addr.add
 split
 ·rename_i e;subst e;cases a;simp_all
 ·rfl
theorem Sk {W:Ag} {a:Addr} (n sz:Nat) (xs:List Ah) (hl:xs.length=n*sz) (h0:0<sz) (h:∀j u,xs[j]? =some u→W.cell? (a.add j)=some u):Rd W (some a) sz n xs:=by
 refine⟨hl,fun hn=>?_⟩;have hp:0<xs.length:=by rw[hl];exact Nat.mul_pos hn h0
 have h1:=h 0 _ (Ar hp);rw[Al5]at h1;have hs:=Aj0 h1;refine⟨a.block,a.off,by cases a;simp_all,World.block_lt_of_cell? W _ h1,fun j u hu=>?_⟩;rw[←Al6 hs];exact h j u hu
def Jn (W:Ag) (a:Addr):Nat:=match W.cell? a with|some (Aa Ac x)=>x.toNat|_=>0
theorem Qo {W:Ag} {a:Addr} {x:Int} (h:W.cell? a=some (Aa Ac x)) (h0:0≤x):W.cell? a=some (Aa Ac (Jn W a:Int)):=by
 have e:Jn W a=x.toNat:=by unfold Jn;rw[h]
 rw[e,h,show((x.toNat:Nat):Int)=x by omega]
theorem cQ {x:Int} (h:(Lit.int .u8 x).wf=true):0≤x∧x≤255:=by
 have hm:IntKind.u8.min=0:=rfl;have hM:IntKind.u8.max=255:=rfl;simp[Lit.wf]at h;omega
theorem rW {W:Ag} {a:Addr} {x:Int} (h:W.cell? a=some (Aa Ac x)) (h1:x≤255):Jn W a≤255:=by
 have e:Jn W a=x.toNat:=by unfold Jn;rw[h]
 rw[e];omega
theorem xO {H:Type} {enc:TypeId×Ah→H} {W:Ag} {fuel:Nat} {v:Ah} {y:DataW H×List MemPlace} (h:DataW.trod enc Tryz.prog W 0 (fun _=>true) true fuel 22 [v]=some y):
  ∃A c ks,v= Ad A ks.length c∧Rd W A 1 ks.length (ksV ks)∧(∀k∈ks,k≤255)∧ks.length≤maxLen:=by
 rcases open_ints uKs uU8 cU8 h with⟨hcs,_⟩|⟨a,len,cap,zs,hcs,_,hlc,hcm,hzl,_,hi,hw⟩
 ·obtain rfl:v= Ad none 0 0:=by simpa using hcs
  exact⟨none,0,[],rfl,Rd.nil,by simp,by simp⟩
 ·obtain rfl:v= Ad (some a) len cap:=by simpa using hcs
  simp only[if_true]at hzl
  have hc:∀i,i<len→W.cell? (a.add i)=some (Aa Ac (Jn W (a.add i):Int))∧Jn W (a.add i)≤255:=fun i hil=>by
   have h1:=hi i (by omega)
   have hm:zs.getD i 0∈zs:=by
    rw[List.getD_eq_getElem?_getD,Ar (by omega)];exact Au _
   have hb:=cQ (hw _ hm);exact⟨Qo h1 hb.1,rW h1 hb.2⟩
  refine⟨some a,cap,(List.range len).map fun i=>Jn W (a.add i),by simp,?_,?_,by simp;omega⟩
  ·refine Sk _ 1 _ (by simp[ksV]) (by decide) fun j u hu=>?_;have hj:j<len:=by have:=(As.1 hu).1;simpa[ksV]using this
   simp[ksV,hj]at hu;rw[←hu];exact(hc j hj).1
  ·intro k hk;obtain⟨i,hi',rfl⟩:=List.mem_map.1 hk;exact(hc i (by simpa using hi')).2
theorem xP {H:Type} {enc:TypeId×Ah→H} {W:Ag} {fuel:Nat} {v:Ah} {y:DataW H×List MemPlace} (h:DataW.trod enc Tryz.prog W 0 (fun _=>true) true fuel 25 [v]=some y):
  ∃A c,∃kt:List (Nat×Nat×Nat),v= Ad A kt.length c∧Rd W A 3 kt.length (kt.flatMap k3C)∧kt.length≤maxLen:=by
 rcases open_slice uKt h with⟨hcs,_⟩|⟨a,len,cap,m,n,D,Pl,hcs,_,hlc,hcm,hmm,_,hi⟩
 ·obtain rfl:v= Ad none 0 0:=by simpa using hcs
  exact⟨none,0,[],rfl,Rd.nil,by simp⟩
 ·obtain rfl:v= Ad (some a) len cap:=by simpa using hcs
  simp only[if_true]at hmm;subst hmm
  have hc:∀i,i<len→∀q,q<3→W.cell? (a.add (i*3+q))=some (Aa Ac (Jn W (a.add (i*3+q)):Int)):=fun i hil q hq=>by
   obtain⟨cs',hcc,ht'⟩:=hi i (by omega);rw[cK3]at hcc;obtain⟨_,hcl,hat⟩:=World.cells?_some hcc;have hq':=hat q hq;rw[Go.Deep.add_add]at hq'
   match cs',hcl with
   |[u0,u1,u2],_=>
    obtain⟨y0,y1,y2,n',-,g0,g1,g2⟩:=trod_array3 uK3 cU8 ht';obtain⟨x0,e0,-,w0⟩:=DataW.trod_int uU8 g0;obtain⟨x1,e1,-,w1⟩:=DataW.trod_int uU8 g1;obtain⟨x2,e2,-,w2⟩:=DataW.trod_int uU8 g2;obtain rfl:u0= Aa Ac x0:=by simpa using e0
    obtain rfl:u1= Aa Ac x1:=by simpa using e1
    obtain rfl:u2= Aa Ac x2:=by simpa using e2
    match q,hq with
    |0,_=>exact Qo hq' (cQ w0).1
    |1,_=>exact Qo hq' (cQ w1).1
    |2,_=>exact Qo hq' (cQ w2).1
  refine⟨some a,m,(List.range len).map fun i=>(Jn W (a.add (i*3)),Jn W (a.add (i*3+1)),Jn W (a.add (i*3+2))),by simp,?_,by simp;omega⟩
  have hl:(((List.range len).map fun i=>(Jn W (a.add (i*3)),Jn W (a.add (i*3+1)),Jn W (a.add (i*3+2)))).flatMap k3C).length=len*3:=by
   rw[Dl k3C 3 (fun _=>rfl)];simp
  rw[Bk,List.length_range];refine Sk _ 3 _ hl (by decide) fun j u hu=>?_;have hj:j<len*3:=by have:=(As.1 hu).1;rwa [hl]at this
  obtain⟨i,q,hq,rfl⟩:∃i q,q<3∧j=i*3+q:=⟨j/3,j%3,by omega,by omega⟩;have hil:i<len:=by omega
  rw[Dc k3C 3 (fun _=>rfl) _ i q (by simpa using hil) hq]at hu;have h9:=hc i hil q hq;simp only[List.getElem_map,List.getElem_range]at hu
  match q,hq with
  |0,_=>rw[h9,←hu];rfl
  |1,_=>rw[h9,←hu];rfl
  |2,_=>rw[h9,←hu];rfl
end Go.Proofs.YtadnbldkegkjaaaGreatDoor
namespace Go.Proofs.YtadnbldkegkjaaaGreatDoor
open Go.RowKit
theorem aG {P:Program} {W:Ag} {n:String} {d:DataW Unit}:∀{l:List (String×DataW Unit)} {ps:List MemPlace},DataW.LaidVars P W l ps→(n,d)∈l→∃g t cs fuel p,P.globalNamed n=some g∧(P.globals[g]?).map (·.type)=some t∧W.var? P n=some cs∧DataW.trod (fun _=>()) P W 0 (fun _=>true) false fuel t cs.toList=some (d,p)
 |(n',d')::r,ps,h,hm=>by
  obtain⟨g,t,cs,fuel,p,q,h1,h2,h3,h4,h5,_⟩:=h;rcases Bh.1 hm with e|hm
  ·injection e with e1 e2;subst e1;subst e2;exact⟨g,t,cs,fuel,p,h1,h2,h3,h4⟩
  ·exact aG h5 hm
theorem Tp {P:Program} {W:Ag} {n:String} {d:DataW Unit} {l:List (String×DataW Unit)} {g t:Nat} (hg:P.globalNamed n=some g) (ht:(P.globals[g]?).map (·.type)=some t) {m:Nat} (hk:P.keyTypeAt m t=true) (hti:P.tiled m t=true)
  (hl:(n,d)∈l) (h:laidMet P l W) (i:Nat):W.cell? ⟨g,i,none⟩=(d.flat.map Lit.toCell)[i]? :=by
 obtain⟨ps,hv,_⟩:=h;obtain⟨g',t',cs,fuel,p,hg',ht',hcs,htr⟩:=aG hv hl;obtain rfl:=Option.some.inj (hg.symm.trans hg');obtain rfl:=Option.some.inj (ht.symm.trans ht');obtain⟨h1,_⟩:=keyLits_of_trod m _ hk _ _ _ htr;have h2:=cells_of_lits m _ hti _ _ _ h1;rw[World.var?_cell hg hcs i];rw[←h2];simp
theorem Ai0 {W:Ag} {l:List (String×DataW Unit)} (hl:("crimp/cells.quarters",Rows.laid_crimp_cells_quarters)∈l) (h:laidMet Tryz.prog l W):Qf W:=by
 have hc:=Tp (m:=9) (t:=264) (show Tryz.prog.globalNamed "crimp/cells.quarters" =some 1 by kernel_rfl) (by kernel_rfl) (by kernel_rfl) (by kernel_rfl) hl h;have he:(Rows.laid_crimp_cells_quarters:DataW Unit).flat.map Lit.toCell=Ir:=by rfl
 rw[he]at hc;refine⟨World.block_lt_of_cell? W _ ((hc 0).trans rfl),fun j v hj=>?_⟩;rw[Bp,hc j,hj]
theorem Ak1 {W:Ag} {l:List (String×DataW Unit)} (hl:("crimp/moves.turns",Rows.laid_crimp_moves_turns)∈l) (h:laidMet Tryz.prog l W):Tn W:=by
 have hc:=Tp (m:=9) (t:=170) (show Tryz.prog.globalNamed "crimp/moves.turns" =some 0 by kernel_rfl) (by kernel_rfl) (by kernel_rfl) (by kernel_rfl) hl h;refine⟨World.block_lt_of_cell? W _ ((hc 0).trans rfl),fun t ht=>?_⟩;rw[hc,hc,hc,hc]
 match t,ht with
 |0,_=>exact⟨rfl,rfl,rfl,rfl⟩
 |1,_=>exact⟨rfl,rfl,rfl,rfl⟩
 |2,_=>exact⟨rfl,rfl,rfl,rfl⟩
 |3,_=>exact⟨rfl,rfl,rfl,rfl⟩
 |4,_=>exact⟨rfl,rfl,rfl,rfl⟩
 |5,_=>exact⟨rfl,rfl,rfl,rfl⟩
 |6,_=>exact⟨rfl,rfl,rfl,rfl⟩
 |7,_=>exact⟨rfl,rfl,rfl,rfl⟩
end Go.Proofs.YtadnbldkegkjaaaGreatDoor
