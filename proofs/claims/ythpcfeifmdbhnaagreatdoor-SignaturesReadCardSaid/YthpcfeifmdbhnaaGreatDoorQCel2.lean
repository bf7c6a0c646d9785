import Derived.WalkKit
import Derived.WalkSpells
import Derived.WalkLawsBesides
import Derived.Lib.Hide
import Derived.Maps.AppendAt
import Derived.Deep.AppendLies
import Derived.Lib.AppendZeros
import Derived.Laws.CopyOwn
import Derived.Deep.QuietTactic
import Derived.BigQuiet
import Derived.BigRegion
import Derived.StillTailTactics
import Derived.Deep.RegionLaw
import Derived.Deep.RegionWith
import Derived.Deep.DeepCutAuto
import Derived.Deep.CutBlock
import Derived.Test.YthpcfeifmdbhnaaGreatDoorRows
import Derived.KernelRfl
import Derived.Deep.RegionHeld3
import Derived.Deep.MidRow
import Derived.Deep.Upon
import Derived.Laws.EntriesVeiled
open Array renaming getElem?_eq_some_iff→Au
open Go renaming Calls→Al,Value→Ak,World→Aj,bodyPost_ret→Ai,cell_of_row→By,heap_alloc_new→Bz,wpAnyH_ready→Ap
open Go.AllReadyH renaming cons→Aq,nil→Ar
open Go.IntKind renaming i64→Ab,u8→Ac
open Go.IntWalk renaming i64_in→Ca
open Go.Lib renaming hid→Ah
open Go.RowKit.Below renaming refl→Ag
open Go.Value renaming int→Aa,slice→Ad
open List renaming flatMap_cons→Bf,getElem?_eq_some_iff→Ax,getElem_cons_succ→Cd,getElem_cons_zero→Cc,getElem_toArray→Ce,length_append→Bh,length_take→Bm,setIfInBounds_toArray→Ch,set_cons_succ→Cg,set_cons_zero→Cf
open Nat renaming le_refl→Am,le_trans→Br,lt_of_lt_of_le→Bq,zero_add→Bt
open Option renaming none→Ae,some→Af
set_option maxHeartbeats 4000000
set_option maxRecDepth 100000
namespace Go
theorem Ci {p:Prop} (h:p:=by omega):p:=h
theorem Cm {p:Prop} (h:p:=by kernel_rfl):p:=h
theorem Cn {p:Prop} (h:p:=by simp):p:=h
theorem Ct {p:Prop} (h:p:=by decide):p:=h
end Go
namespace Go.Proofs.YthpcfeifmdbhnaaGreatDoor
open Go.RowKit
theorem ez.{u} {α:Sort u} (a:α):∃z,z=a:=⟨a,rfl⟩
theorem ey.{u} {α:Sort u} (a:α):∃z,a=z:=⟨a,rfl⟩
def Co (v:Ak) (w:Aj) (e:Ending) (w':Aj):Prop:=e= .returned v∧Below w.heap.size w w'
theorem Ed {k:IntKind} {a b:Int} (h:a=b):Ending.returned (.int k a)= .returned (.int k b):=by rw[h]
def Rd (w:Aj) (A:Option Addr) (sz n:Nat) (xs:List Ak):Prop:=
 xs.length=n*sz∧(0<n→∃b o,A=Af ⟨b,o,Ae⟩∧b<w.heap.size∧∀j u,xs[j]? =Af u→w.cell? ⟨b,o+j,Ae⟩=Af u)
section
variable {w w':Aj} {A:Option Addr} {sz n:Nat} {xs:List Ak}
theorem Rd.nil:Rd w A sz 0 []:=⟨Cn,λh=>absurd h Ci⟩
theorem Rd.keep (h:Rd w A sz n xs) (hs:w.heap.size≤w'.heap.size) (hk:∀b o,b<w.heap.size→w'.cell? ⟨b,o,Ae⟩=w.cell? ⟨b,o,Ae⟩):Rd w' A sz n xs:=
 ⟨h.1,λhn=>by
  obtain⟨b,o,e,hb,hc⟩:=h.2 hn;exact⟨b,o,e,Ci,λj u hu=>(hk _ _ hb).trans (hc j u hu)⟩⟩
theorem Rd.below (h:Rd w A sz n xs) (hb:Below w.heap.size w w'):Rd w' A sz n xs:=h.keep hb.size λb o hl=>hb.cell (p:=⟨b,o,Ae⟩) hl
theorem Rd.alloc (h:Rd w A sz n xs) (o:Obj):Rd (w.alloc o) A sz n xs:=h.keep Cn λb o' hl=>World.cell?_alloc_lt w o ⟨b,o',Ae⟩ hl
theorem Rd.of_own {base:Nat} {e:TypeId} {c:Nat} (h:w.ownsRow base e sz (Ad A n c) n xs):Rd w A sz n xs:=by
 refine⟨h.1,λhn=>?_⟩;rcases h.2 with⟨_,h0⟩|⟨g,cap,cur,hv,_,hg,_,_,_,ht⟩
 ·omega
 ·have hA:A=Af ⟨g,0,Ae⟩:=by injection hv
  refine⟨g,0,hA,(Au.1 hg).1,λj u hu=>?_⟩;rw[Bt,By w g j cur e (0,0) hg];rw[←ht,List.getElem?_take]at hu
  split at hu
  ·simpa using hu
  ·cases hu
end
def Mo (e:TypeId) (sz n:Nat) (xs:List Ak) (w:Aj) (en:Ending) (w':Aj):Prop:=
 ∃v,en= .returned v∧w'.ownsRow w.heap.size e sz v n xs∧Below w.heap.size w w'
theorem nO {w:Aj} {e:TypeId} {b:Nat} (xs:List Ak) (n sz:Nat) (h:xs.length=n*sz) (hb:w.heap.size=b):Rd (w.alloc (.cells xs.toArray e)) (Af ⟨b,0,Ae⟩) sz n xs:=by
 subst hb
 exact⟨h,λ_=>⟨_,0,rfl,Cn,λj u hu=>by
  rw[Bt,By _ _ j xs.toArray e (0,0) (Bz w _)];simpa using hu⟩⟩
theorem Dg {B:Nat} {a w:Aj} (h:Below B a w) (n:Nat):Below B a (w.drewN n):=⟨h.os,h.tape,h.output,h.size,h.block⟩
theorem Cj {W w1:Aj} (hb:Below W.heap.size W w1) {b o:Nat} {v:Ak} (h:W.cell? ⟨b,o,Ae⟩=Af v):w1.cell? ⟨b,o,Ae⟩=Af v:=by
 rw[hb.cell (p:=⟨b,o,Ae⟩) (World.block_lt_of_cell? W ⟨b,o,Ae⟩ h)];exact h
theorem Dj {w w':Aj} {base:Nat} {e:TypeId} {size:Nat} {v:Ak} {n B:Nat} {xs:List Ak} (h:w.ownsRow base e size v n xs) (hB:w.heap.size≤B) (hb:Below B w w'):w'.ownsRow base e size v n xs:=by
 refine⟨h.1,?_⟩;rcases h.2 with hn|⟨g,cap,cur,rfl,hbb,hgg,rest⟩
 ·exact .inl hn
 ·exact .inr ⟨g,cap,cur,rfl,hbb,(hb.block g (by have:=(Au.1 hgg).1;omega)).trans hgg,rest⟩
theorem Dz {α β:Type} (g:α→List β) (sz:Nat) (hg:∀a,(g a).length=sz) (l:List α) (i f:Nat) (hi:i<l.length) (hf:f<sz):
  (l.flatMap g)[i*sz+f]? =(g l[i])[f]? :=by
 induction l generalizing i with
 |nil=>simp at hi
 |cons a r ih=>
  cases i with
  |zero=>rw[Bf,List.getElem?_append_left (by rw[hg];omega)];simp
  |succ i=>
   rw[Bf,List.getElem?_append_right (by rw[hg,Nat.succ_mul];omega),hg];have:(i+1)*sz+f-sz=i*sz+f:=by rw[Nat.succ_mul];omega
   rw[this];simpa using ih i (by simpa using hi)
theorem Fv {α β:Type} (g:α→List β) (sz:Nat) (hg:∀a,(g a).length=sz) (l:List α):(l.flatMap g).length=l.length*sz:=by
 induction l with
 |nil=>simp
 |cons a r ih=>rw[Bf,Bh,ih,hg,List.length_cons,Nat.succ_mul];omega
theorem Jo {α β:Type} (g:α→List β) (sz:Nat) (hg:∀a,(g a).length=sz) (l:List α) (i f:Nat) (hi:i<l.length) (hf:f<sz) (a:α) (u:β) (ha:g a=(g l[i]).set f u):
  (l.set i a).flatMap g=(l.flatMap g).set (i*sz+f) u:=by
 induction l generalizing i with
 |nil=>simp at hi
 |cons b r ih=>
  cases i with
  |zero=>
   simp only[Cf,Bf,Nat.zero_mul,Bt];rw[List.set_append_left _ _ (by rw[hg];omega),ha];simp
  |succ i=>
   simp only[Cg,Bf];rw[List.set_append_right _ _ (by rw[hg,Nat.succ_mul];omega),hg];have e:(i+1)*sz+f-sz=i*sz+f:=by rw[Nat.succ_mul];omega
   rw[e,ih i (by simpa using hi) (by simpa using ha)]
theorem Iv {w:Aj} {b b':Nat} {e:TypeId} {sz:Nat} {v:Ak} {n:Nat} {xs:List Ak} (h:w.ownsRow b e sz v n xs) (hb:b'≤b):w.ownsRow b' e sz v n xs:=by
 refine⟨h.1,?_⟩;rcases h.2 with hn|⟨g,cap,cur,r1,r2,r3⟩
 ·exact .inl hn
 ·exact .inr ⟨g,cap,cur,r1,Ci,r3⟩
theorem Dv {w:Aj} {b:Nat} {e:TypeId} {sz:Nat} {v:Ak} {n:Nat} {xs:List Ak} (h:w.ownsRow b e sz v n xs):∃A c,v= Ad A n c∧n≤c∧c≤maxLen:=by
 rcases h.2 with⟨rfl,h0⟩|⟨g,cap,cur,r1,_,_,r2,r3,_⟩
 ·exact⟨Ae,0,by rw[h0],Ci,by simp[maxLen]⟩
 ·exact⟨_,cap,r1,r2,r3⟩
theorem Nm {w:Aj} {base g n c sz:Nat} {e:TypeId} {xs:List Ak} (h:w.ownsRow base e sz (Ad (Af ⟨g,0,Ae⟩) n c) n xs):∀q,w.frozen? ⟨g,q,Ae⟩=false:=by
 intro q;rcases h.2 with⟨h0,_⟩|⟨g',cap,cur,hv,hbb,hgg,_⟩
 ·simp at h0
 obtain⟨rfl,rfl⟩:g'=g∧cap=c:=by simp at hv;exact⟨hv.1.symm,hv.2.symm⟩
 simp[World.frozen?,hgg]
theorem Ga {a b c:Aj} {r:Option Nat} (h:a.grownBy b r) (k:b.grownBy c r):a.grownBy c r:=
 ⟨k.os.trans h.os,k.tape.trans h.tape,k.output.trans h.output,Br h.size k.size,λi hi hne=>(k.block i (Bq hi h.size) hne).trans (h.block i hi hne)⟩
theorem Es (w:Aj) (r:Option Nat):w.grownBy w r:=⟨rfl,rfl,rfl,Am _,λ_ _ _=>rfl⟩
theorem Lv {a b:Aj} {r:Option Nat} (h:a.grownBy b r):a.grownBy b.drew r:=⟨h.os,h.tape,h.output,h.size,h.block⟩
theorem Ge {w0 w:Aj} {base g n cap sz:Nat} {e:TypeId} {xs:List Ak} (h:w.ownsRow base e sz (Ad (Af ⟨g,0,Ae⟩) n cap) n xs) (hg:w0.grownBy w (Af g)) (q:Nat) (u:Ak):
  (w.setCell ⟨g,q,Ae⟩ u).ownsRow base e sz (Ad (Af ⟨g,0,Ae⟩) n cap) n (xs.set q u)∧w0.grownBy (w.setCell ⟨g,q,Ae⟩ u) (Af g):=
 ⟨(h.stored q u).1,Ga hg (h.stored q u).2⟩
theorem Wh {P:Program} (w:Aj) (t ty e:TypeId) (i:TypeInfo) (ht:P.underlying t=Af (.slice e)) (hi:P.info? e=Af i) (b:Addr) (n cap c:Nat) (h:n≤cap):
  (Builtin.append_ #[t,t] ty #[Ad (Af b) n cap,Ad Ae 0 c]).run P w= .ok (Ad (Af b) n cap) w:=by
 simp[Builtin.append_,run_underlying ht,sizeOf,typeInfo,hi,Builtin.lenOf,Builtin.firstCells,loadCells,h,storeCells]
theorem Rd.allK {w:Aj} {a:Addr} {n sz:Nat} {xs:List Ak} (h:Rd w (Af a) sz n xs):∀j u,xs[j]? =Af u→w.cell? (a.add j)=Af u:=by
 intro j u hu;have hj:=(Ax.1 hu).1;have hl:=h.1
 have hn:0<n:=by
  rcases Nat.eq_zero_or_pos n with h0|h0
  ·subst h0;omega
  ·exact h0
 obtain⟨b,o,e,_,hc⟩:=h.2 hn
 cases e
 have hadd:(⟨b,o,Ae⟩:Addr).add j=⟨b,o+j,Ae⟩:=by unfold Addr.add;split<;>simp_all
 rw[hadd];exact hc j u hu
theorem Dx {P:Program} (w:Aj) (base:Nat) (t ty e:TypeId) (i:TypeInfo) (z:Ak) (size bytes:Nat) (ht:P.underlying t=Af (.slice e)) (hi:P.info? e=Af i) (hz:i.zero=Af z)
  (hsize:i.size=size) (hby:i.bytes=bytes) (hzs:z.cells.size=size) (hs:0<size) (v:Ak) (n:Nat) (xs:List Ak) (hown:w.ownsRow base e size v n xs) (A:Option Addr) (m c:Nat) (news:List Ak) (h1:∀u∈news,u.oneCell'=true) (hR:Rd w A size m news) (hA:A=Ae→m=0)
  (h63:n+m≤1000000000000) (hbytes:bytes≤100) (hbase:base≤w.heap.size):
  ∃v' w',(Builtin.append_ #[t,t] ty #[v,Ad A m c]).run P w= .ok v' w'∧w'.ownsRow base e size v' (n+m) (xs++news)∧w.grownBy w' v.ownBlock:=by
 cases A with
 |none=>
  have hm:=hA rfl;subst hm
  have hl:news=[]:=by
   have:=hR.1;rw[Nat.zero_mul]at this;exact List.length_eq_zero_iff.1 this
  subst hl;rw[List.append_nil,Nat.add_zero];refine⟨v,w,?_,hown,Es _ _⟩;rcases hown.2 with⟨rfl,rfl⟩|⟨g,cap,cur,rfl,_,_,hnc,_⟩
  ·simp[Builtin.append_,run_underlying ht,sizeOf,typeInfo,hi,Builtin.lenOf,Builtin.firstCells]
  ·exact Wh w t ty e i ht hi _ n cap c hnc
 |some a=>
  obtain⟨v',w',hr,h2,h3,_⟩:=run_append_own_at (P:=P) w base t ty e i z size bytes ht hi hz hsize hby hzs hs v n xs hown a m c news hR.1 hR.allK h1 (by unfold maxLen;omega) (by
   have:(n+m)*bytes≤(n+m)*100:=Nat.mul_le_mul_left _ hbytes;omega) hbase
  exact⟨v',w',hr,h2,h3⟩
theorem Ly {w:Aj} {g base n c:Nat} {e:TypeId} {cs:Array Ak} {sz:Nat} (hb:base≤g) (hg:w.heap[g]? =Af (.cells cs e (0,0))) (_hn:n≤c) (hc:c≤maxLen) (hcs:cs.size=c*sz):w.ownsRow base e sz (Ad (Af ⟨g,0,Ae⟩) 0 c) 0 []:=
 ⟨Cn,.inr ⟨g,c,cs,rfl,hb,hg,Ci,hc,hcs,Cn⟩⟩
theorem Ko {a b c:Aj} {g:Nat} (h:a.grownBy b (Af g)) (k:Below b.heap.size b c):a.grownBy c (Af g):=
 ⟨k.os.trans h.os,k.tape.trans h.tape,k.output.trans h.output,Br h.size k.size,λi hi hne=>(k.block i (Bq hi h.size)).trans (h.block i hi hne)⟩
theorem Vo {a b:Aj} {r:Option Nat} (h:a.grownBy b r) (n:Nat):a.grownBy (b.drewN n) r:=⟨h.os,h.tape,h.output,h.size,h.block⟩
theorem Pi {w:Aj} {base:Nat} {e:TypeId} {sz n:Nat} {v:Ak} {xs:List Ak} (h:w.ownsRow base e sz v n xs):∃A c,v= Ad A n c∧(A=Ae→n=0):=by
 rcases h.2 with⟨rfl,rfl⟩|⟨g,cap,cur,rfl,_⟩
 ·exact⟨Ae,0,rfl,λ_=>rfl⟩
 ·exact⟨Af ⟨g,0,Ae⟩,cap,rfl,λh=>by cases h⟩
theorem Dq {P:Program} {w:Aj} {ops:Array Oper} {o:Oper} {a:Act} {K:Act→Aj→Prop} {Q:Exit→Act→Aj→Prop} {E:Prop} (hw:Region.wanted o (yielded ops a.tmps)=true) (s x:Operand) (t:TypeId)
  (ho:o.op= .call {callee:= .builtin .append,args:=#[s,x],argTypes:=#[t,t]}) (vs vx:Ak) (hs:a.eval s=vs) (hx:a.eval x=vx) (v':Ak) (w':Aj)
  (hr:(Builtin.append_ #[t,t] o.type #[vs,vx]).run P w= .ok v' w') (h:K (a.put o.dst v') w'):if Region.wanted o (yielded ops a.tmps)=true then Oper.wp P o a w K Q else E:=by
 rw[if_pos hw];exact Lib.wp_append_run w s x t t ho vs vx hs hx v' w' hr h
theorem gZ {w:Aj} {g:Nat} {v:Ak} {t:TypeId} (h:w.heap[g]? =Af (.cells #[v] t (0,0))):w.cell? ⟨g,0,Ae⟩=Af v:=by
 rw[By w g 0 #[v] t (0,0) h];rfl
theorem Cu {w w2:Aj} (h:Below w.drew.heap.size w.drew w2):Below w.heap.size w w2:=⟨h.os,h.tape,h.output,h.size,h.block⟩
theorem uF {w:Aj} {B e e' s s' n n':Nat} {v v':Ak} {xs xs':List Ak} (h:w.ownsRow B e s v n xs) (h':w.ownsRow B e' s' v' n' xs') (hne:e≠e'):v.ownBlock=Ae∨v.ownBlock≠v'.ownBlock:=by
 rcases h.2 with⟨rfl,_⟩|⟨g,cap,cur,rfl,_,hg,_⟩
 ·exact .inl rfl
 ·refine .inr ?_;rcases h'.2 with⟨rfl,_⟩|⟨g',cap',cur',rfl,_,hg',_⟩
  ·simp[Value.ownBlock]
  ·intro e1;have:g=g':=by simpa[Value.ownBlock]using e1
   subst this;rw[hg]at hg';injection hg' with h1;injection h1 with _ h2 _;exact hne h2
theorem iD {w w':Aj} {B e s n:Nat} {v:Ak} {xs:List Ak} {row:Option Nat} (h:w.ownsRow B e s v n xs) (hg:w.grownBy w' row) (hne:v.ownBlock=Ae∨v.ownBlock≠row):w'.ownsRow B e s v n xs:=by
 refine⟨h.1,?_⟩;rcases h.2 with hn|⟨g,cap,cur,rfl,hb,hgg,rest⟩
 ·exact .inl hn
 ·refine .inr ⟨g,cap,cur,rfl,hb,(hg.block g (Au.1 hgg).1 ?_).trans hgg,rest⟩;rcases hne with h0|h0
  ·simp[Value.ownBlock]at h0
  ·exact h0
theorem Tq {α:Type} (U V Z:List α) (x y:α) {i j:Nat} (hi:i=U.length) (hj:j=U.length+1+V.length):
  (U++x::(V++y::Z))[i]? =Af x∧(U++x::(V++y::Z))[j]? =Af y∧((U++x::(V++y::Z)).set i y).set j x=U++y::(V++x::Z):=by
 subst hi hj;refine⟨?_,?_,?_⟩
 ·rw[List.getElem?_append_right (Am _),Nat.sub_self];rfl
 ·rw[List.getElem?_append_right Ci,show U.length+1+V.length-U.length=V.length+1 by omega,List.getElem?_cons_succ,List.getElem?_append_right (Am _),Nat.sub_self];rfl
 ·rw[List.set_append_right _ _ (Am _),Nat.sub_self,Cf,List.set_append_right _ _ Ci,show U.length+1+V.length-U.length=V.length+1 by omega,Cg,List.set_append_right _ _ (Am _),Nat.sub_self,Cf]
def Dm (a b:Int):Int:=if a<b then-1 else if b<a then 1 else 0
theorem Nu {a b:Int} (h:a<b):Dm a b= -1:=by unfold Dm;rw[if_pos h]
theorem cU {a b:Int} (h:b<a):Dm a b=1:=by unfold Dm;rw[if_neg Ci,if_pos h]
theorem cS {a b:Int} (h:b≤a) (h':a≤b):Dm a b=0:=by unfold Dm;rw[if_neg Ci,if_neg Ci]
theorem Mb {a b:Bool} (h:a=b):Ending.returned (.bool a)= .returned (.bool b):=by rw[h]
theorem Zx (w:Aj) (o1 o2:Obj):((w.alloc o1).alloc o2).heap[w.heap.size]? =Af o1∧((w.alloc o1).alloc o2).heap[w.heap.size+1]? =Af o2:=by
 have h1:=Bz (w.alloc o1) o2;have h2:=Bz w o1;refine⟨?_,by simpa using h1⟩;rw[Below.heap_alloc _ _ _ Cn];exact h2
theorem kept {w w':Aj} {g B:Nat} {o:Obj} (hb:Below B w w') (h:w.heap[g]? =Af o) (hg:g<B):w'.heap[g]? =Af o:=(hb.block g hg).trans h
theorem Cy {w:Aj} {g:Nat} {a b:Ak} {t:TypeId} (h:w.heap[g]? =Af (.cells #[a,b] t (0,0))):(w.cell? ⟨g,0,Ae⟩=Af a∧w.cell? ⟨g,1,Ae⟩=Af b)∧(w.frozen? ⟨g,0,Ae⟩=false∧w.frozen? ⟨g,1,Ae⟩=false):=by
 have hc:∀j,w.cell? ⟨g,j,Ae⟩= #[a,b][j]? :=λj=>By w g j _ t (0,0) h;have hf:∀j,w.frozen? ⟨g,j,Ae⟩=false:=λj=>by simp[World.frozen?,h]
 exact⟨⟨hc 0,hc 1⟩,hf 0,hf 1⟩
theorem Cv {w:Aj} {g:Nat} {a b c:Ak} {t:TypeId} (h:w.heap[g]? =Af (.cells #[a,b,c] t (0,0))):(w.cell? ⟨g,0,Ae⟩=Af a∧w.cell? ⟨g,1,Ae⟩=Af b∧w.cell? ⟨g,2,Ae⟩=Af c)∧(w.frozen? ⟨g,0,Ae⟩=false∧w.frozen? ⟨g,1,Ae⟩=false∧w.frozen? ⟨g,2,Ae⟩=false):=by
 have hc:∀j,w.cell? ⟨g,j,Ae⟩= #[a,b,c][j]? :=λj=>By w g j _ t (0,0) h;have hf:∀j,w.frozen? ⟨g,j,Ae⟩=false:=λj=>by simp[World.frozen?,h]
 exact⟨⟨hc 0,hc 1,hc 2⟩,hf 0,hf 1,hf 2⟩
theorem Ez {w:Aj} {g:Nat} {a b c d:Ak} {t:TypeId} (h:w.heap[g]? =Af (.cells #[a,b,c,d] t (0,0))):(w.cell? ⟨g,0,Ae⟩=Af a∧w.cell? ⟨g,1,Ae⟩=Af b∧w.cell? ⟨g,2,Ae⟩=Af c∧w.cell? ⟨g,3,Ae⟩=Af d)∧(w.frozen? ⟨g,0,Ae⟩=false∧w.frozen? ⟨g,1,Ae⟩=false∧w.frozen? ⟨g,2,Ae⟩=false∧w.frozen? ⟨g,3,Ae⟩=false):=by
 have hc:∀j,w.cell? ⟨g,j,Ae⟩= #[a,b,c,d][j]? :=λj=>By w g j _ t (0,0) h;have hf:∀j,w.frozen? ⟨g,j,Ae⟩=false:=λj=>by simp[World.frozen?,h]
 exact⟨⟨hc 0,hc 1,hc 2,hc 3⟩,hf 0,hf 1,hf 2,hf 3⟩
def okC (x y q:Int):Bool:=decide (-4096≤x)&&decide (x≤4096)&&decide (-4096≤y)&&decide (y≤4096)&&decide (q≤3)
theorem Eu {x y q:Int}:okC x y q=true↔-4096≤x∧x≤4096∧-4096≤y∧y≤4096∧q≤3:=by
 unfold okC;simp;omega
theorem Aw5 {x y q:Int} (h:¬(-4096≤x∧x≤4096∧-4096≤y∧y≤4096∧q≤3)):okC x y q=false:=by
 rw[←Bool.not_eq_true,Eu];exact h
def ec (b:Bool) (e:Int):Int:=if b then 0 else e
theorem Gz (e:Int):ec true e=0:=rfl
theorem Lj (e:Int):ec false e=e:=rfl
theorem El (x y q:Int) (w:Aj):
  Al Tryz.prog 87 #[.agg #[Aa Ab x,Aa Ab y,Aa Ac q]] w (Co (Aa Ab (ec (okC x y q) 1)) w):=by
 go_enter Tryz.func87,Tryz.ntmps87;go_wp2_with fail
 all_goals go_ret
 all_goals refine⟨Ed ?_,(Ag _ _).alloc (Am _) _⟩
 all_goals first|rw[Aw5 Ci,Lj]|rw[Eu.2 Ci,Gz]
def okS (a b:Int):Bool:=decide (1≤a)&&decide (1≤b)&&decide (a≤256)&&decide (b≤256)&&decide (a*b≤256)
theorem Wn {a b:Int}:okS a b=true↔1≤a∧1≤b∧a≤256∧b≤256∧a*b≤256:=by
 unfold okS;simp only[Bool.and_eq_true,decide_eq_true_eq,and_assoc]
theorem zU {a b:Int} (h:¬(1≤a∧1≤b∧a≤256∧b≤256∧a*b≤256)):okS a b=false:=by
 rw[←Bool.not_eq_true,Wn];exact h
theorem Ew (a b:Int) (w:Aj):
  Al Tryz.prog 39 #[.agg #[Aa Ab a,Aa Ab b]] w (Co (Aa Ab (ec (okS a b) 1)) w):=by
 by_cases hr:1≤a∧1≤b∧a≤256∧b≤256
 ·obtain⟨h1,h2,h3,h4⟩:=hr
  have hm:0≤a*b∧a*b≤65536:=by
   refine⟨Int.mul_nonneg Ci Ci,?_⟩;have e1:a*b≤256*b:=Int.mul_le_mul_of_nonneg_right h3 Ci;omega
  obtain⟨m,hm'⟩:=ey (a*b);rw[hm']at hm;obtain⟨hm1,hm2⟩:=hm
  have e:okS a b=decide (m≤256):=by
   by_cases hk:m≤256
   ·rw[Wn.2 ⟨h1,h2,h3,h4,Ci⟩];simp[hk]
   ·rw[zU (λh=>hk (by have:=h.2.2.2.2;omega))];simp[hk]
  rw[e];clear e;go_enter Tryz.func39,Tryz.ntmps39;go_wp2_with fail
  all_goals go_ret
  all_goals refine⟨Ed ?_,(Ag _ _).alloc (Am _) _⟩
  all_goals first|rw[decide_eq_false Ci,Lj]|rw[decide_eq_true Ci,Gz]
 ·rw[zU (λh=>hr ⟨h.1,h.2.1,h.2.2.1,h.2.2.2.1⟩),Lj];go_enter Tryz.func39,Tryz.ntmps39;go_wp2_with fail
  all_goals go_ret
  all_goals first|exact⟨rfl,(Ag _ _).alloc (Am _) _⟩|(exfalso;omega)
end Go.Proofs.YthpcfeifmdbhnaaGreatDoor
namespace Go.Proofs.YthpcfeifmdbhnaaGreatDoor
def okL (k c:Int):Bool:=decide (1≤k)&&decide (k≤4)&&decide (-4096≤c)&&decide (c≤4096)
theorem Ic {k c:Int}:okL k c=true↔1≤k∧k≤4∧-4096≤c∧c≤4096:=by unfold okL;simp;omega
theorem Aw6 {k c:Int} (h:¬(1≤k∧k≤4∧-4096≤c∧c≤4096)):okL k c=false:=by rw[←Bool.not_eq_true,Ic];exact h
def okP (x y:Int):Bool:=decide (-65536≤x)&&decide (x≤65536)&&decide (-65536≤y)&&decide (y≤65536)
theorem Qd {x y:Int}:okP x y=true↔-65536≤x∧x≤65536∧-65536≤y∧y≤65536:=by unfold okP;simp;omega
theorem Aw7 {x y:Int} (h:¬(-65536≤x∧x≤65536∧-65536≤y∧y≤65536)):okP x y=false:=by rw[←Bool.not_eq_true,Qd];exact h
def Hx (k x y:Int):Int:=if k=1 then x else if k=2 then y else if k=3 then x+y else y-x
def Ka (k c x y:Int):Int:=if Hx k x y<2*c then-1 else if 2*c<Hx k x y then 1 else 0
def Qw (n:Int):Bool:=decide (-16384≤n)&&decide (n≤16384)
def okM (t x y:Int):Bool:=decide (t<8)&&Qw x&&Qw y&&decide ((x+y)%2=0)
theorem Mg {t x y:Int}:okM t x y=true↔t<8∧(-16384≤x∧x≤16384)∧(-16384≤y∧y≤16384)∧(x+y)%2=0:=by
 unfold okM Qw;simp only[Bool.and_eq_true,decide_eq_true_eq,and_assoc]
def mat:Nat→Int×Int×Int×Int
 |0=>(1,0,0,1)|1=>(0,-1,1,0)|2=>(-1,0,0,-1)|3=>(0,1,-1,0)
 |4=>(-1,0,0,1)|5=>(0,-1,-1,0)|6=>(1,0,0,-1)|_=>(0,1,1,0)
def Dk (m:Int×Int×Int×Int) (x y:Int):Int×Int:=(m.1*x+m.2.1*y,m.2.2.1*x+m.2.2.2*y)
def Du (m n:Int×Int×Int×Int):Int×Int×Int×Int:=((Dk n m.1 m.2.2.1).1,(Dk n m.2.1 m.2.2.2).1,(Dk n m.1 m.2.2.1).2,(Dk n m.2.1 m.2.2.2).2)
def Gg (m:Int×Int×Int×Int):Nat:=if m=mat 0 then 0 else if m=mat 1 then 1 else if m=mat 2 then 2 else if m=mat 3 then 3 else if m=mat 4 then 4 else if m=mat 5 then 5 else if m=mat 6 then 6 else if m=mat 7 then 7 else 0
structure Mv where
 t:Nat
 x:Int
 y:Int
deriving DecidableEq
def Mv.ok (m:Mv):Bool:=okM m.t m.x m.y
def Mv.cells (m:Mv):List Ak:=[Aa Ac m.t,Aa Ab m.x,Aa Ab m.y]
def Mv.v (m:Mv):Ak:= .agg #[Aa Ac m.t,Aa Ab m.x,Aa Ab m.y]
def mv0:Mv:=⟨0,0,0⟩
def ofL (k c:Int):Mv:=if k=1 then⟨4,2*c,0⟩else if k=2 then⟨6,0,2*c⟩else if k=3 then⟨5,c,c⟩else⟨7,-c,c⟩
def Zt (m:Mv):Mv×Int:=if m.ok then (m,0)else (mv0,3)
def Pm (a b:Mv):Mv×Int:=Zt ⟨Gg (Du (mat a.t) (mat b.t)),(Dk (mat b.t) a.x a.y).1+b.x,(Dk (mat b.t) a.x a.y).2+b.y⟩
def Ee (m:Mv) (x y:Int):Int×Int:=((Dk (mat m.t) x y).1+2*m.x,(Dk (mat m.t) x y).2+2*m.y)
structure Cl where
 x:Int
 y:Int
 q:Nat
deriving DecidableEq
def Cl.ok (c:Cl):Bool:=okC c.x c.y c.q
def Cl.cells (c:Cl):List Ak:=[Aa Ab c.x,Aa Ab c.y,Aa Ac c.q]
def Cl.v (c:Cl):Ak:= .agg #[Aa Ab c.x,Aa Ab c.y,Aa Ac c.q]
def cl0:Cl:=⟨0,0,0⟩
def Ea:Nat→Int×Int
 |0=>(0,-1)|1=>(1,0)|2=>(0,1)|_=>(-1,0)
def Hk (d:Int×Int):Nat:=if d=Ea 3 then 3 else if d=Ea 2 then 2 else if d=Ea 1 then 1 else 0
def Da (m:Mv) (c:Cl):Cl:=⟨(Ee m (2*c.x+1) (2*c.y+1)).1/2,(Ee m (2*c.x+1) (2*c.y+1)).2/2,Hk (Dk (mat m.t) (Ea c.q).1 (Ea c.q).2)⟩
def Gp (m:Mv) (c:Cl):Cl×Int:=if(Da m c).ok then (Da m c,0)else (cl0,3)
def Oa:Nat→Int×Int
 |0=>(0,0)|1=>(2,2)|2=>(2,2)|_=>(0,0)
def Ob:Nat→Int×Int
 |0=>(2,0)|1=>(2,0)|2=>(0,2)|_=>(0,2)
def Dy (k c:Int) (e:Cl):Nat:=
 if Ka k c (2*e.x+1) (2*e.y+1)=1∨Ka k c (2*e.x+(Oa e.q).1) (2*e.y+(Oa e.q).2)=1∨Ka k c (2*e.x+(Ob e.q).1) (2*e.y+(Ob e.q).2)=1 then 1 else 0
def Fg (a b:Cl):Int:=if Dm a.y b.y≠0 then Dm a.y b.y else if Dm a.x b.x≠0 then Dm a.x b.x else Dm a.q b.q
def Et (c:Cl) (e:Nat):Int×Int:=
 if e=1 then (3,c.x+c.y+1)else if e=2 then (4,c.y-c.x)
 else match c.q with
  |0=>(2,c.y)|1=>(1,c.x+1)|2=>(2,c.y+1)|_=>(1,c.x)
def Qu (c:Cl) (e:Nat):(Int×Int)×Int:=if okL (Et c e).1 (Et c e).2 then (Et c e,0)else ((0,0),3)
end Go.Proofs.YthpcfeifmdbhnaaGreatDoor
namespace Go.Proofs.YthpcfeifmdbhnaaGreatDoor
open Go.RowKit
structure Bx (w:Aj) (l:List (Nat×Array Ak×TypeId)) (wr:Aj):Prop where
 below:Below w.heap.size w wr
 blk:∀(i g:Nat) (cs:Array Ak) (t:TypeId),l[i]? =Af (g,cs,t)→wr.heap[g]? =Af (Obj.cells cs t (0,0))
 lo:∀(i g:Nat) (cs:Array Ak) (t:TypeId),l[i]? =Af (g,cs,t)→w.heap.size≤g
 inj:∀(i j g:Nat) (cs:Array Ak) (t:TypeId) (ds:Array Ak) (u:TypeId),l[i]? =Af (g,cs,t)→l[j]? =Af (g,ds,u)→i=j
section
variable {w wr w2:Aj} {l:List (Nat×Array Ak×TypeId)}
theorem Bx.start (w:Aj):Bx w [] w:=⟨Ag _ _,Cn,Cn,Cn⟩
theorem Bx.lt (h:Bx w l wr) (i:Nat) {g:Nat} {cs:Array Ak} {t:TypeId} (hi:l[i]? =Af (g,cs,t)):g<wr.heap.size:=(Au.1 (h.blk i g cs t hi)).1
theorem Bx.call (h:Bx w l wr) (hb:Below wr.heap.size wr w2):Bx w l w2:=
 ⟨h.below.trans (hb.mono h.below.size),λi g cs t hi=>kept hb (h.blk i g cs t hi) (h.lt i hi),h.lo,h.inj⟩
theorem Bx.drew (h:Bx w l wr):Bx w l wr.drew:=⟨h.below.drew,h.blk,h.lo,h.inj⟩
theorem Bx.drewN (h:Bx w l wr) (n:Nat):Bx w l (wr.drewN n):=⟨Dg h.below n,h.blk,h.lo,h.inj⟩
theorem Bx.other (h:Bx w l wr) (o:Obj):Bx w l (wr.alloc o):=h.call ((Ag _ _).alloc (Am _) o)
theorem Bx.new (h:Bx w l wr) (cs:Array Ak) (t:TypeId) {N:Nat} (hN:wr.heap.size=N):Bx w (l++[(N,cs,t)]) (wr.alloc (.cells cs t)):=by
 subst hN;have h0:=h.other (Obj.cells cs t)
 have hk:∀(i g:Nat) (ds:Array Ak) (u:TypeId),(l++[(wr.heap.size,cs,t)])[i]? =Af (g,ds,u)→(i<l.length∧l[i]? =Af (g,ds,u))∨(i=l.length∧g=wr.heap.size∧ds=cs∧u=t):=by
  intro i g ds u hi;by_cases hl:i<l.length
  ·rw[List.getElem?_append_left hl]at hi;exact .inl ⟨hl,hi⟩
  ·have hi':i<(l++[(wr.heap.size,cs,t)]).length:=(Ax.1 hi).1;simp at hi';have:i=l.length:=Ci;subst this;rw[List.getElem?_append_right (Am _),Nat.sub_self]at hi;simp at hi;exact .inr ⟨rfl,hi.1.symm,hi.2.1.symm,hi.2.2.symm⟩
 refine⟨h0.below,?_,?_,?_⟩
 ·intro i g ds u hi;rcases hk i g ds u hi with⟨_,h1⟩|⟨_,rfl,rfl,rfl⟩
  ·exact h0.blk i g ds u h1
  ·exact Bz wr _
 ·intro i g ds u hi;rcases hk i g ds u hi with⟨_,h1⟩|⟨_,rfl,rfl,rfl⟩
  ·exact h.lo i g ds u h1
  ·exact h.below.size
 ·intro i j g ds u es v hi hj;rcases hk i g ds u hi with⟨_,h1⟩|⟨h1,rfl,_,_⟩
  ·rcases hk j g es v hj with⟨_,h2⟩|⟨_,rfl,_,_⟩
   ·exact h.inj i j g ds u es v h1 h2
   ·exact absurd (h.lt i h1) Ci
  ·rcases hk j _ es v hj with⟨_,h2⟩|⟨h2,_,_,_⟩
   ·exact absurd (h.lt j h2) Ci
   ·omega
theorem Ey {wr:Aj} {g j:Nat} {cs:Array Ak} {t:TypeId} (v:Ak) (hg:wr.heap[g]? =Af (Obj.cells cs t (0,0))):(wr.setCell ⟨g,j,Ae⟩ v).heap[g]? =Af (.cells (cs.setIfInBounds j v) t (0,0)):=by
 simp[World.setCell,Array.getElem?_modify,hg]
theorem Bx.set (h:Bx w l wr) (i j:Nat) {g:Nat} {cs:Array Ak} {t:TypeId} (hi:l[i]? =Af (g,cs,t)) (v:Ak):
  Bx w (l.set i (g,cs.setIfInBounds j v,t)) (wr.setCell ⟨g,j,Ae⟩ v):=by
 have hil:i<l.length:=(Ax.1 hi).1
 have hk:∀(k g':Nat) (ds:Array Ak) (u:TypeId),(l.set i (g,cs.setIfInBounds j v,t))[k]? =Af (g',ds,u)→(k≠i∧l[k]? =Af (g',ds,u))∨(k=i∧g'=g∧ds=cs.setIfInBounds j v∧u=t):=by
  intro k g' ds u hk;by_cases hki:k=i
  ·subst hki;rw[List.getElem?_set_self hil]at hk;simp at hk;exact .inr ⟨rfl,hk.1.symm,hk.2.1.symm,hk.2.2.symm⟩
  ·rw[List.getElem?_set_ne (Ne.symm hki)]at hk;exact .inl ⟨hki,hk⟩
 refine⟨h.below.setCell (h.lo i g cs t hi) v,?_,?_,?_⟩
 ·intro k g' ds u hk';rcases hk k g' ds u hk' with⟨hne,h1⟩|⟨_,rfl,rfl,rfl⟩
  ·have hgg:g'≠g:=λe=>by subst e;exact hne (h.inj k i _ _ _ _ _ h1 hi)
   exact(Below.heap_setCell wr ⟨g,j,Ae⟩ v g' hgg).trans (h.blk k g' ds u h1)
  ·exact Ey v (h.blk i _ cs _ hi)
 ·intro k g' ds u hk';rcases hk k g' ds u hk' with⟨_,h1⟩|⟨_,rfl,_,_⟩
  ·exact h.lo k g' ds u h1
  ·exact h.lo i _ cs t hi
 ·intro a b g' ds u es v' ha hb;rcases hk a g' ds u ha with⟨h0,h1⟩|⟨rfl,rfl,_,_⟩
  ·rcases hk b g' es v' hb with⟨_,h2⟩|⟨rfl,rfl,_,_⟩
   ·exact h.inj a b g' ds u es v' h1 h2
   ·exact h.inj a b _ ds u cs t h1 hi
  ·rcases hk b _ es v' hb with⟨_,h2⟩|⟨rfl,_,_,_⟩
   ·exact h.inj a b _ cs t es v' hi h2
   ·rfl
end
theorem Lg {g:Nat} {t:TypeId}:∀(vs:List Ak) (o:Nat) (w:Aj) (cs:Array Ak),w.heap[g]? =Af (Obj.cells cs t (0,0))→o+vs.length≤cs.size→
  (w.setCells g o vs).heap[g]? =Af (Obj.cells (cs.toList.take o++vs++cs.toList.drop (o+vs.length)).toArray t (0,0))
 |[],o,w,cs,hg,_=>by simp[World.setCells,hg]
 |v::r,o,w,cs,hg,hl=>by
  simp only[List.length_cons]at hl;rw[World.setCells,Lg r (o+1) _ _ (Ey v hg) (by simp;omega)]
  congr 2
  apply Array.ext';simp only[Array.toList_setIfInBounds,List.length_cons]
  have hs:cs.toList.set o v=cs.toList.take o++v::cs.toList.drop (o+1):=by
   rw[List.set_eq_take_append_cons_drop,if_pos (by simp;omega)]
  have e1:(cs.toList.set o v).take (o+1)=cs.toList.take o++[v]:=by
   rw[hs,List.take_append,Bm,Nat.min_eq_left (by simp;omega),List.take_take,Nat.min_eq_right Ci,show o+1-o=1 by omega];rfl
  have e2:(cs.toList.set o v).drop (o+1+r.length)=cs.toList.drop (o+(r.length+1)):=by
   rw[List.drop_set_of_lt Ci];congr 1;omega
  rw[e1,e2];simp
theorem Ti {g:Nat} {t:TypeId} {w:Aj} {cs:Array Ak} (hg:w.heap[g]? =Af (Obj.cells cs t (0,0))) (vs:List Ak) (hl:vs.length=cs.size):
  (w.setCells g 0 vs).heap[g]? =Af (Obj.cells vs.toArray t (0,0)):=by
 rw[Lg vs 0 w cs hg Ci];have:List.drop (0+vs.length) cs.toList=[]:=List.drop_of_length_le (by simp;omega);rw[this];simp
theorem Jl {B:Nat} {a w:Aj} (h:Below B a w) {g:Nat} (hg:B≤g):∀(vs:List Ak) (o:Nat),Below B a (w.setCells g o vs):=by
 intro vs
 induction vs generalizing w with
 |nil=>intro o;exact h
 |cons v r ih=>intro o;exact ih (h.setCell (p:=⟨g,o,Ae⟩) hg v) (o+1)
section
variable {w wr:Aj} {l:List (Nat×Array Ak×TypeId)}
theorem Bx.range (h:Bx w l wr) (i:Nat) {g:Nat} {cs:Array Ak} {t:TypeId} (hi:l[i]? =Af (g,cs,t)):wr.rangeAt g 0 cs.toList:=λj v hj=>by
 rw[Bt,By wr g j cs t (0,0) (h.blk i g cs t hi)];simpa using hj
theorem Bx.there (h:Bx w l wr) (i:Nat) {g:Nat} {cs:Array Ak} {t:TypeId} (hi:l[i]? =Af (g,cs,t)):wr.there g 0 cs.size:=λj hj=>by
 have hb:=h.blk i g cs t hi;rw[Bt,By wr g j cs t (0,0) hb];exact⟨by simp[hj],by simp[World.frozen?,hb]⟩
theorem Bx.setAll (h:Bx w l wr) (i:Nat) {g:Nat} {cs:Array Ak} {t:TypeId} (hi:l[i]? =Af (g,cs,t)) (vs:List Ak) (hl:vs.length=cs.size):
  Bx w (l.set i (g,vs.toArray,t)) (wr.setCells g 0 vs):=by
 have hil:i<l.length:=(Ax.1 hi).1
 have hk:∀(k g':Nat) (ds:Array Ak) (u:TypeId),(l.set i (g,vs.toArray,t))[k]? =Af (g',ds,u)→(k≠i∧l[k]? =Af (g',ds,u))∨(k=i∧g'=g∧ds=vs.toArray∧u=t):=by
  intro k g' ds u hk;by_cases hki:k=i
  ·subst hki;rw[List.getElem?_set_self hil]at hk;simp at hk;exact .inr ⟨rfl,hk.1.symm,hk.2.1.symm,hk.2.2.symm⟩
  ·rw[List.getElem?_set_ne (Ne.symm hki)]at hk;exact .inl ⟨hki,hk⟩
 refine⟨Jl h.below (h.lo i g cs t hi) vs 0,?_,?_,?_⟩
 ·intro k g' ds u hk';rcases hk k g' ds u hk' with⟨hne,h1⟩|⟨_,rfl,rfl,rfl⟩
  ·have hgg:g'≠g:=λe=>by subst e;exact hne (h.inj k i _ _ _ _ _ h1 hi)
   exact(World.heap_setCells_other wr g 0 vs (h.lt k h1) hgg).trans (h.blk k g' ds u h1)
  ·exact Ti (h.blk i _ cs _ hi) vs hl
 ·intro k g' ds u hk';rcases hk k g' ds u hk' with⟨_,h1⟩|⟨_,rfl,_,_⟩
  ·exact h.lo k g' ds u h1
  ·exact h.lo i _ cs t hi
 ·intro a b g' ds u es v' ha hb;rcases hk a g' ds u ha with⟨h0,h1⟩|⟨rfl,rfl,_,_⟩
  ·rcases hk b g' es v' hb with⟨_,h2⟩|⟨rfl,rfl,_,_⟩
   ·exact h.inj a b g' ds u es v' h1 h2
   ·exact h.inj a b _ ds u cs t h1 hi
  ·rcases hk b _ es v' hb with⟨_,h2⟩|⟨rfl,_,_,_⟩
   ·exact h.inj a b _ cs t es v' hi h2
   ·rfl
end
theorem Ht {P:Program} {fn:Func} {s:Nat} {t:TypeId} (hr:fn.results= #[.cell s t]) {tmps:Array Ak} {w:Aj} {g:Nat} {cs:Array Ak} {d:TypeDesc} (hs:tmps.getD s undef= .pointer (Af ⟨g,0,Ae⟩))
  (hc:w.rangeAt g 0 cs.toList) (hu:P.underlying t=Af d) (hd:d.isRow=true) (hi:(P.info? t).map (·.size)=Af cs.size):(results fn tmps).run P w= .ok (.agg cs) w:=by
 have h:=run_loadVar_mid (P:=P) w g 0 t cs.toList d hc hu hd (by simpa using hi);have e:tmps[s]?.getD undef= .pointer (Af ⟨g,0,Ae⟩):=by rw[←hs];simp
 simp[results,hr,e,asAddr,h]
theorem Cs {P:Program} {fn:Func} {s u:Nat} {t:TypeId} (hr:fn.results= #[.cell s t,.tmp u]) {tmps:Array Ak} {w:Aj} {g:Nat} {cs:Array Ak} {d:TypeDesc} (hs:tmps.getD s undef= .pointer (Af ⟨g,0,Ae⟩))
  (hc:w.rangeAt g 0 cs.toList) (hu:P.underlying t=Af d) (hd:d.isRow=true) (hi:(P.info? t).map (·.size)=Af cs.size):(results fn tmps).run P w= .ok (.tuple #[.agg cs,tmps.getD u undef]) w:=by
 have h:=run_loadVar_mid (P:=P) w g 0 t cs.toList d hc hu hd (by simpa using hi);have e:tmps[s]?.getD undef= .pointer (Af ⟨g,0,Ae⟩):=by rw[←hs];simp
 simp[results,hr,e,asAddr,h]
section
variable {P:Program} {ops:Array Oper} {Q:Exit→Act→Aj→Prop} {md:Region.Mode} {S:Aj→Prop} {oi:Oper} {v:Ak} {fuel:Nat} {listed l':Array Bool} {a a':Act} {w:Aj}
theorem Ck (i:Nat) (h:wpAnyH P md ops Q S fuel l' a' w) (hi:ops[i]? =Af oi:=by exact rfl)
  (hy:Region.wanted oi (yielded ops a.tmps)=true∧(∀w,S w→(execOp a.eval oi).run P w= .ok (.value v) w)∨Region.wanted oi (yielded ops a.tmps)=false∧v=undef:=by
   first
    |exact .inr ⟨by rfl,rfl⟩
    |refine .inl ⟨by rfl,?_⟩
     intro w0 hSw
     first|have hSw:=HSO.out _ hSw|(try dsimp only at hSw)
     go_split_ands;go_simp
     try with_reducible rfl)
  (hl:listed.setIfInBounds i true=l':=by
   (try simp only[Ch,Cf,Cg])
   exact rfl)
  (ha:a.put oi.dst v=a':=by
   (try simp only[Act.put,Ce,Cc,Cd,Ch,Cf,Cg])
   exact rfl)
  (hS:S w:=by exact hS)
  (hs:Region.noSelect ops=true:=by kernel_rfl) (hf:Region.free md ops listed i=true:=by kernel_rfl) (hr:(Region.ready md ops listed).contains i=true:=by kernel_rfl)
  (hQ:∀c a w,Q (.panic c) (a.put oi.dst v) w→Q (.panic c) a w:=by exact λ_ _ _ h=>h):wpAnyH P md ops Q S (fuel+1) listed a w:=by
 subst hl ha;exact wpAnyH_take hi hs hf hr hQ (hy.imp id id) hS h
theorem rdy (i:Nat) (h:∀K':Act→Aj→Prop,Shut (∀a w,S w→(S w→wpAnyH P md ops Q S fuel (listed.setIfInBounds i true) a w)→K' a w)→if Region.wanted oi (yielded ops a.tmps)=true then Oper.wp P oi a w K' Q else K' (a.put oi.dst undef) w)
  (hi:ops[i]? =Af oi:=by exact rfl) (hr:Region.ready md ops listed=[i]:=by kernel_rfl):wpAnyH P md ops Q S (fuel+1) listed a w:=
 Ap hr Cn (Aq hi h Ar)
end
theorem Ep (k c:Int) (w:Aj):
  Al Tryz.prog 80 #[.agg #[Aa Ac k,Aa Ab c]] w (Co (Aa Ab (ec (okL k c) 1)) w):=by
 go_enter Tryz.func80,Tryz.ntmps80;go_wp2_with fail
 all_goals go_ret
 all_goals refine⟨Ed ?_,(Ag _ _).alloc (Am _) _⟩
 all_goals first|rw[Aw6 Ci,Lj]|rw[Ic.2 Ci,Gz]
theorem Jm (x y:Int) (w:Aj):
  Al Tryz.prog 183 #[.agg #[Aa Ab x,Aa Ab y]] w (Co (Aa Ab (ec (okP x y) 1)) w):=by
 go_enter Tryz.func183,Tryz.ntmps183;go_wp2_with fail
 all_goals go_ret
 all_goals refine⟨Ed ?_,(Ag _ _).alloc (Am _) _⟩
 all_goals first|rw[Aw7 Ci,Lj]|rw[Qd.2 Ci,Gz]
theorem Pr (k x y:Int) (w:Aj) (h:okP x y=true):
  Al Tryz.prog 219 #[Aa Ac k,.agg #[Aa Ab x,Aa Ab y]] w (Co (Aa Ab (Hx k x y)) w):=by
 obtain⟨h1,h2,h3,h4⟩:=Qd.1 h;obtain⟨R,hR⟩:=ey (Hx k x y);rw[hR];have HR:=Ah hR;clear hR h;go_enter Tryz.func219,Tryz.ntmps219;go_wp2_with fail
 all_goals go_ret
 all_goals refine⟨Ed ?_,(Ag _ _).alloc (Am _) _⟩
 all_goals rw[←HR.out];unfold Hx
 all_goals simp_all
def fnV (f:FuncId):Ak:= .func (.func f) #[] #[]
def Yy (p q:Ak):Ak:= .agg #[.nilFunc,.nilFunc,.nilFunc,fnV 218,fnV 220,fnV 221,fnV 222,fnV 223,fnV 224,
 fnV 225,fnV 226,.func (.func 227) #[] #[p],fnV 228,fnV 229,.func (.func 230) #[] #[q]]
theorem Ql (w:Aj):Al Tryz.prog 184 #[] w λe w'=>∃p q,e= .returned (Yy p q)∧Below w.heap.size w w':=by
 have H:=Bx.start w;go_enter Tryz.func184,Tryz.ntmps184;go_upto_region 1 with fail;obtain⟨N,hN⟩:=ez w.heap.size;rw[←hN];have H:=H.new (#[.nilFunc,.nilFunc,.nilFunc,.nilFunc,.nilFunc,.nilFunc,.nilFunc,.nilFunc,.nilFunc,.nilFunc,.nilFunc,.nilFunc,.nilFunc,.nilFunc,.nilFunc]) 323 hN.symm;clear hN;go_upto_region 2 with go_region;obtain⟨P,hP⟩:=ez (w.heap.size+1);rw[←hP];have H:=H.new #[Aa Ac 0,Aa Ac 2,Aa Ac 1,Aa Ac 4,Aa Ac 3] 349 (N:=P) (by simp[hP]);obtain⟨W,hW⟩:=ez ((w.alloc (.cells #[.nilFunc,.nilFunc,.nilFunc,.nilFunc,.nilFunc,.nilFunc,.nilFunc,.nilFunc,.nilFunc,.nilFunc,.nilFunc,.nilFunc,.nilFunc,.nilFunc,.nilFunc] 323)).alloc (.cells #[Aa Ac 0,Aa Ac 2,Aa Ac 1,Aa Ac 4,Aa Ac 3] 349));rw[←hW]at H⊢;have a0:=H.blk 0 _ _ _ rfl;have fz:∀j,W.frozen? ⟨N,j,Ae⟩=false:=λj=>by simp[World.frozen?,a0]
 have cz:=H.range 0 rfl;unfold World.rangeAt at cz;have c0:=cz 0 _ rfl;have f0:=fz 0;have c1:=cz 1 _ rfl;have f1:=fz 1;have c2:=cz 2 _ rfl;have f2:=fz 2;have c3:=cz 3 _ rfl;have f3:=fz 3;have c4:=cz 4 _ rfl;have f4:=fz 4;have c5:=cz 5 _ rfl;have f5:=fz 5;have c6:=cz 6 _ rfl;have f6:=fz 6;have c7:=cz 7 _ rfl;have f7:=fz 7;have c8:=cz 8 _ rfl;have f8:=fz 8;have c9:=cz 9 _ rfl;have f9:=fz 9;have c10:=cz 10 _ rfl;have f10:=fz 10;have c11:=cz 11 _ rfl;have f11:=fz 11;have c12:=cz 12 _ rfl;have f12:=fz 12;have c13:=cz 13 _ rfl;have f13:=fz 13;have c14:=cz 14 _ rfl;have f14:=fz 14;simp only[Bt]at c0 c1 c2 c3 c4 c5 c6 c7 c8 c9 c10 c11 c12 c13 c14;have H:=H.setAll 0 rfl [.nilFunc,.nilFunc,.nilFunc,fnV 218,fnV 220,fnV 221,fnV 222,fnV 223,fnV 224,
 fnV 225,fnV 226,.func (.func 227) #[] #[.pointer (Af ⟨P,0,Ae⟩)],fnV 228,fnV 229,.func (.func 230) #[] #[.pointer (Af ⟨P,0,Ae⟩)]] rfl
 have HH:=Ah H;clear hP a0 fz cz hW H;go_wp2_with go_region;exact Ai (Ht rfl rfl (HH.out.range 0 rfl) Tryz.underlying323 rfl Cm) rfl ⟨_,_,rfl,HH.out.below⟩
theorem nV (x y:Int) (w:Aj) (h:okP x y=true):Al Tryz.prog 218 #[.agg #[Aa Ab x,Aa Ab y]] w (Co (Aa Ab (Hx 1 x y)) w):=by
 have H:=Ah h;clear h;go_enter Tryz.func218,Tryz.ntmps218;go_wp2_with fail;refine(Pr 1 x y _ H.out).mono ?_;rintro e w2 ⟨rfl,hb⟩;have hb':Below w.heap.size w w2:=((Ag _ _).alloc (Am _) _).trans (hb.mono Cn);go_wp2;go_ret;exact⟨rfl,hb'⟩
theorem nX (x y:Int) (w:Aj) (h:okP x y=true):Al Tryz.prog 222 #[.agg #[Aa Ab x,Aa Ab y]] w (Co (Aa Ab (Hx 2 x y)) w):=by
 have H:=Ah h;clear h;go_enter Tryz.func222,Tryz.ntmps222;go_wp2_with fail;refine(Pr 2 x y _ H.out).mono ?_;rintro e w2 ⟨rfl,hb⟩;have hb':Below w.heap.size w w2:=((Ag _ _).alloc (Am _) _).trans (hb.mono Cn);go_wp2;go_ret;exact⟨rfl,hb'⟩
theorem nY (x y:Int) (w:Aj) (h:okP x y=true):Al Tryz.prog 225 #[.agg #[Aa Ab x,Aa Ab y]] w (Co (Aa Ab (Hx 3 x y)) w):=by
 have H:=Ah h;clear h;go_enter Tryz.func225,Tryz.ntmps225;go_wp2_with fail;refine(Pr 3 x y _ H.out).mono ?_;rintro e w2 ⟨rfl,hb⟩;have hb':Below w.heap.size w w2:=((Ag _ _).alloc (Am _) _).trans (hb.mono Cn);go_wp2;go_ret;exact⟨rfl,hb'⟩
theorem nZ (x y:Int) (w:Aj) (h:okP x y=true):Al Tryz.prog 228 #[.agg #[Aa Ab x,Aa Ab y]] w (Co (Aa Ab (Hx 4 x y)) w):=by
 have H:=Ah h;clear h;go_enter Tryz.func228,Tryz.ntmps228;go_wp2_with fail;refine(Pr 4 x y _ H.out).mono ?_;rintro e w2 ⟨rfl,hb⟩;have hb':Below w.heap.size w w2:=((Ag _ _).alloc (Am _) _).trans (hb.mono Cn);go_wp2;go_ret;exact⟨rfl,hb'⟩
theorem Ab4 (p q:Ak) (w:Aj):(Instr.index 323 (.agg #[.nilFunc,.nilFunc,.nilFunc,.func (.func 218) #[] #[],.func (.func 220) #[] #[],.func (.func 221) #[] #[],.func (.func 222) #[] #[],.func (.func 223) #[] #[],.func (.func 224) #[] #[],.func (.func 225) #[] #[],.func (.func 226) #[] #[],.func (.func 227) #[] #[p],.func (.func 228) #[] #[],.func (.func 229) #[] #[],.func (.func 230) #[] #[q]]) (Aa Ac 1)).run Tryz.prog w= .ok (.agg #[.func (.func 218) #[] #[],.func (.func 220) #[] #[],.func (.func 221) #[] #[]]) w:=Cm
theorem Ab5 (p q:Ak) (w:Aj):(Instr.index 323 (.agg #[.nilFunc,.nilFunc,.nilFunc,.func (.func 218) #[] #[],.func (.func 220) #[] #[],.func (.func 221) #[] #[],.func (.func 222) #[] #[],.func (.func 223) #[] #[],.func (.func 224) #[] #[],.func (.func 225) #[] #[],.func (.func 226) #[] #[],.func (.func 227) #[] #[p],.func (.func 228) #[] #[],.func (.func 229) #[] #[],.func (.func 230) #[] #[q]]) (Aa Ac 2)).run Tryz.prog w= .ok (.agg #[.func (.func 222) #[] #[],.func (.func 223) #[] #[],.func (.func 224) #[] #[]]) w:=Cm
theorem Ab6 (p q:Ak) (w:Aj):(Instr.index 323 (.agg #[.nilFunc,.nilFunc,.nilFunc,.func (.func 218) #[] #[],.func (.func 220) #[] #[],.func (.func 221) #[] #[],.func (.func 222) #[] #[],.func (.func 223) #[] #[],.func (.func 224) #[] #[],.func (.func 225) #[] #[],.func (.func 226) #[] #[],.func (.func 227) #[] #[p],.func (.func 228) #[] #[],.func (.func 229) #[] #[],.func (.func 230) #[] #[q]]) (Aa Ac 3)).run Tryz.prog w= .ok (.agg #[.func (.func 225) #[] #[],.func (.func 226) #[] #[],.func (.func 227) #[] #[p]]) w:=Cm
theorem Ab7 (p q:Ak) (w:Aj):(Instr.index 323 (.agg #[.nilFunc,.nilFunc,.nilFunc,.func (.func 218) #[] #[],.func (.func 220) #[] #[],.func (.func 221) #[] #[],.func (.func 222) #[] #[],.func (.func 223) #[] #[],.func (.func 224) #[] #[],.func (.func 225) #[] #[],.func (.func 226) #[] #[],.func (.func 227) #[] #[p],.func (.func 228) #[] #[],.func (.func 229) #[] #[],.func (.func 230) #[] #[q]]) (Aa Ac 4)).run Tryz.prog w= .ok (.agg #[.func (.func 228) #[] #[],.func (.func 229) #[] #[],.func (.func 230) #[] #[q]]) w:=Cm
theorem Wr (a b c:Ak) (w:Aj):(Instr.field 322 (.agg #[a,b,c]) 0).run Tryz.prog w= .ok a w:=Cm
def Zc (k c x y:Int):Int:=if okL k c&&okP x y then Ka k c x y else 0
theorem Ze (k c x y:Int) (w:Aj) (hk0:0≤k):Al Tryz.prog 135 #[.agg #[Aa Ac k,Aa Ab c],.agg #[Aa Ab x,Aa Ab y]] w (Co (Aa Ab (Zc k c x y)) w):=by
 obtain⟨R,hR⟩:=ey (Zc k c x y);rw[hR];have HR:=Ah hR;have H:=((Bx.start w).new #[Aa Ac k,Aa Ab c] 72 rfl).new #[Aa Ab x,Aa Ab y] 259 (N:=w.heap.size+1) Cn;clear hR;go_enter Tryz.func135,Tryz.ntmps135;go_upto_region 1 with fail;obtain⟨W,hW⟩:=ez ((w.alloc (.cells #[Aa Ac k,Aa Ab c] 72)).alloc (.cells #[Aa Ab x,Aa Ab y] 259));rw[←hW]at H⊢;obtain⟨N,hN⟩:=ez w.heap.size;rw[←hN]at H⊢;clear hW hN;obtain⟨⟨a0,a1⟩,_⟩:=Cy (H.blk 0 _ _ _ rfl)
 cases hL:okL k c
 ·have HL:=Ah hL;have hfin:R=0:=by rw[←HR.out];unfold Zc;rw[HL.out];rfl
  clear hL;go_wp2_with fail;refine(Ep k c _).mono ?_;rintro e w2 ⟨rfl,hb⟩;rw[HL.out,Lj];have H2:=H.call hb;clear a0 a1 hb;go_wp2;go_ret;exact⟨Ed hfin.symm,H2.below⟩
 ·cases hP:okP x y
  ·have HL:=Ah hL;have HP:=Ah hP;have hfin:R=0:=by rw[←HR.out];unfold Zc;rw[HP.out,Bool.and_false];rfl
   clear hL hP;go_wp2_with fail;refine(Ep k c _).mono ?_;rintro e w2 ⟨rfl,hb⟩;rw[HL.out,Gz];have H2:=H.call hb;obtain⟨⟨p0,p1⟩,_⟩:=Cy (H2.blk 1 _ _ _ rfl);clear a0 a1 hb H;go_wp2_with fail;refine(Jm x y _).mono ?_;rintro e w3 ⟨rfl,hb⟩;rw[HP.out,Lj];have H3:=H2.call hb;clear p0 p1 hb;go_wp2;go_ret;exact⟨Ed hfin.symm,H3.below⟩
  ·have HL:=Ah hL;have HP:=Ah hP;have hfin:R=Ka k c x y:=by rw[←HR.out];unfold Zc;rw[HL.out,HP.out];rfl
   have HF:=Ah hfin;obtain⟨l1,l2,l3,l4⟩:=Ic.1 hL;clear hL hP hfin;go_wp2_with fail;refine(Ep k c _).mono ?_;rintro e w2 ⟨rfl,hb⟩;rw[HL.out,Gz];have H2:=H.call hb;obtain⟨⟨p0,p1⟩,_⟩:=Cy (H2.blk 1 _ _ _ rfl);clear a0 a1 hb H;go_wp2_with fail;refine(Jm x y _).mono ?_;rintro e w3 ⟨rfl,hb⟩;rw[HP.out,Gz];have H3:=H2.call hb;obtain⟨⟨a0,a1⟩,_⟩:=Cy (H3.blk 0 _ _ _ rfl);obtain⟨⟨p0',p1'⟩,_⟩:=Cy (H3.blk 1 _ _ _ rfl);clear p0 p1 hb H2;have h4:k=1∨k=2∨k=3∨k=4:=Ci;rcases h4 with rfl|rfl|rfl|rfl
   ·obtain⟨A,hA⟩:=ey (Hx 1 x y);have hR':R=if A<2*c then-1 else if 2*c<A then 1 else 0:=by rw[HF.out];unfold Ka;rw[hA]
    have HR':=Ah hR';have HA:=Ah hA;have hix:=Ab4;have hfd:=Wr;clear hA hR';go_upto_region 3 with fail
    go_region_held3 (λw'=>w'.cell? ⟨N,0,Ae⟩=Af (Aa Ac 1)∧w'.cell? ⟨N+1,0,Ae⟩=Af (Aa Ab x)∧w'.cell? ⟨N+1,1,Ae⟩=Af (Aa Ab y))
     (first|exact⟨a0,p0',p1'⟩|go_keep)
     (first
      |(go_at_call 184;(with_reducible refine(Ql _).mono ?_);rintro e w4 ⟨p,q,rfl,hb4⟩;unfold Yy fnV;have H3:=H3.call (Cu hb4);have a0:=Cj (Cu hb4) a0;have a1:=Cj (Cu hb4) a1;have p0':=Cj (Cu hb4) p0';have p1':=Cj (Cu hb4) p1')
      |(go_at_call 218;(with_reducible refine(nV x y _ HP.out).mono ?_);rintro e w5 ⟨rfl,hb5⟩;rw[HA.out];have H3:=H3.call hb5;have a0:=Cj hb5 a0;have a1:=Cj hb5 a1;have p0':=Cj hb5 p0';have p1':=Cj hb5 p1')
      |fail)
    go_wp2_with fail
    all_goals go_ret
    all_goals refine⟨Ed ?_,H3.below⟩
    all_goals rw[HR'.out]
    ·rw[if_pos Ci]
    ·rw[if_neg Ci,if_pos Ci]
    ·rw[if_neg Ci,if_neg Ci]
   ·obtain⟨A,hA⟩:=ey (Hx 2 x y);have hR':R=if A<2*c then-1 else if 2*c<A then 1 else 0:=by rw[HF.out];unfold Ka;rw[hA]
    have HR':=Ah hR';have HA:=Ah hA;have hix:=Ab5;have hfd:=Wr;clear hA hR';go_upto_region 3 with fail
    go_region_held3 (λw'=>w'.cell? ⟨N,0,Ae⟩=Af (Aa Ac 2)∧w'.cell? ⟨N+1,0,Ae⟩=Af (Aa Ab x)∧w'.cell? ⟨N+1,1,Ae⟩=Af (Aa Ab y))
     (first|exact⟨a0,p0',p1'⟩|go_keep)
     (first
      |(go_at_call 184;(with_reducible refine(Ql _).mono ?_);rintro e w4 ⟨p,q,rfl,hb4⟩;unfold Yy fnV;have H3:=H3.call (Cu hb4);have a0:=Cj (Cu hb4) a0;have a1:=Cj (Cu hb4) a1;have p0':=Cj (Cu hb4) p0';have p1':=Cj (Cu hb4) p1')
      |(go_at_call 222;(with_reducible refine(nX x y _ HP.out).mono ?_);rintro e w5 ⟨rfl,hb5⟩;rw[HA.out];have H3:=H3.call hb5;have a0:=Cj hb5 a0;have a1:=Cj hb5 a1;have p0':=Cj hb5 p0';have p1':=Cj hb5 p1')
      |fail)
    go_wp2_with fail
    all_goals go_ret
    all_goals refine⟨Ed ?_,H3.below⟩
    all_goals rw[HR'.out]
    ·rw[if_pos Ci]
    ·rw[if_neg Ci,if_pos Ci]
    ·rw[if_neg Ci,if_neg Ci]
   ·obtain⟨A,hA⟩:=ey (Hx 3 x y);have hR':R=if A<2*c then-1 else if 2*c<A then 1 else 0:=by rw[HF.out];unfold Ka;rw[hA]
    have HR':=Ah hR';have HA:=Ah hA;have hix:=Ab6;have hfd:=Wr;clear hA hR';go_upto_region 3 with fail
    go_region_held3 (λw'=>w'.cell? ⟨N,0,Ae⟩=Af (Aa Ac 3)∧w'.cell? ⟨N+1,0,Ae⟩=Af (Aa Ab x)∧w'.cell? ⟨N+1,1,Ae⟩=Af (Aa Ab y))
     (first|exact⟨a0,p0',p1'⟩|go_keep)
     (first
      |(go_at_call 184;(with_reducible refine(Ql _).mono ?_);rintro e w4 ⟨p,q,rfl,hb4⟩;unfold Yy fnV;have H3:=H3.call (Cu hb4);have a0:=Cj (Cu hb4) a0;have a1:=Cj (Cu hb4) a1;have p0':=Cj (Cu hb4) p0';have p1':=Cj (Cu hb4) p1')
      |(go_at_call 225;(with_reducible refine(nY x y _ HP.out).mono ?_);rintro e w5 ⟨rfl,hb5⟩;rw[HA.out];have H3:=H3.call hb5;have a0:=Cj hb5 a0;have a1:=Cj hb5 a1;have p0':=Cj hb5 p0';have p1':=Cj hb5 p1')
      |fail)
    go_wp2_with fail
    all_goals go_ret
    all_goals refine⟨Ed ?_,H3.below⟩
    all_goals rw[HR'.out]
    ·rw[if_pos Ci]
    ·rw[if_neg Ci,if_pos Ci]
    ·rw[if_neg Ci,if_neg Ci]
   ·obtain⟨A,hA⟩:=ey (Hx 4 x y);have hR':R=if A<2*c then-1 else if 2*c<A then 1 else 0:=by rw[HF.out];unfold Ka;rw[hA]
    have HR':=Ah hR';have HA:=Ah hA;have hix:=Ab7;have hfd:=Wr;clear hA hR';go_upto_region 3 with fail
    go_region_held3 (λw'=>w'.cell? ⟨N,0,Ae⟩=Af (Aa Ac 4)∧w'.cell? ⟨N+1,0,Ae⟩=Af (Aa Ab x)∧w'.cell? ⟨N+1,1,Ae⟩=Af (Aa Ab y))
     (first|exact⟨a0,p0',p1'⟩|go_keep)
     (first
      |(go_at_call 184;(with_reducible refine(Ql _).mono ?_);rintro e w4 ⟨p,q,rfl,hb4⟩;unfold Yy fnV;have H3:=H3.call (Cu hb4);have a0:=Cj (Cu hb4) a0;have a1:=Cj (Cu hb4) a1;have p0':=Cj (Cu hb4) p0';have p1':=Cj (Cu hb4) p1')
      |(go_at_call 228;(with_reducible refine(nZ x y _ HP.out).mono ?_);rintro e w5 ⟨rfl,hb5⟩;rw[HA.out];have H3:=H3.call hb5;have a0:=Cj hb5 a0;have a1:=Cj hb5 a1;have p0':=Cj hb5 p0';have p1':=Cj hb5 p1')
      |fail)
    go_wp2_with fail
    all_goals go_ret
    all_goals refine⟨Ed ?_,H3.below⟩
    all_goals rw[HR'.out]
    ·rw[if_pos Ci]
    ·rw[if_neg Ci,if_pos Ci]
    ·rw[if_neg Ci,if_neg Ci]
def Ba3 (m:Int×Int×Int×Int):Ak:= .agg #[Aa Ab m.1,Aa Ab m.2.1,Aa Ab m.2.2.1,Aa Ab m.2.2.2]
structure Tn (w:Aj):Prop where
 lt:0<w.heap.size
 at':∀t,t<8→w.cell? ⟨0,t*4,Ae⟩=Af (Aa Ab (mat t).1)∧w.cell? ⟨0,t*4+1,Ae⟩=Af (Aa Ab (mat t).2.1)∧w.cell? ⟨0,t*4+2,Ae⟩=Af (Aa Ab (mat t).2.2.1)∧w.cell? ⟨0,t*4+3,Ae⟩=Af (Aa Ab (mat t).2.2.2)
theorem Tn.below {w w':Aj} (h:Tn w) (hb:Below w.heap.size w w'):Tn w':=
 ⟨Bq h.lt hb.size,λt ht=>by
  obtain⟨h1,h2,h3,h4⟩:=h.at' t ht;exact⟨Cj hb h1,Cj hb h2,Cj hb h3,Cj hb h4⟩⟩
theorem Lt (n:Int) (w:Aj):Al Tryz.prog 108 #[Aa Ab n] w (Co (.bool (!Qw n)) w):=by
 obtain⟨R,hR⟩:=ey ((!Qw n));rw[hR];have HR:=Ah hR;clear hR;go_enter Tryz.func108,Tryz.ntmps108;go_wp2_with fail
 all_goals go_ret
 all_goals refine⟨Mb ?_,Ag _ _⟩
 all_goals rw[←HR.out];unfold Qw
 all_goals first
  |(rw[decide_eq_false (show¬-16384≤n by omega)];simp<;>omega)
  |(rw[decide_eq_true (show-16384≤n by omega)];by_cases h:n≤16384<;>simp[h]<;>omega)
theorem Bc7 {x y:Int}:((x+y).tmod 2=0)↔(x+y)%2=0:=by
 rw[Int.tmod_eq_emod];split<;>omega
theorem Ad9 (x:Int): -2<x.tmod 2∧x.tmod 2<2:=by
 rw[Int.tmod_eq_emod];split<;>omega
theorem Er (t x y:Int) (w:Aj) (ht:0≤t∧t≤255):Al Tryz.prog 59 #[.agg #[Aa Ac t,Aa Ab x,Aa Ab y]] w (Co (Aa Ab (ec (okM t x y) 1)) w):=by
 obtain⟨R,hR⟩:=ey (okM t x y);rw[hR];have HR:=Ah hR;obtain⟨t0,t1⟩:=ht;have H:=(Bx.start w).new #[Aa Ac t,Aa Ab x,Aa Ab y] 30 rfl;have c1:Ab.wrap t=t:=Ca _ Ci;clear hR;go_enter Tryz.func59,Tryz.ntmps59;go_upto_region 1 with fail;obtain⟨W,hW⟩:=ez (w.alloc (.cells #[Aa Ac t,Aa Ab x,Aa Ab y] 30));rw[←hW]at H⊢;obtain⟨N,hN⟩:=ez w.heap.size;rw[←hN]at H⊢;clear hW hN;obtain⟨⟨a0,a1,a2⟩,_⟩:=Cv (H.blk 0 _ _ _ rfl);by_cases h8:t<8
 ·cases hx:Qw x
  ·have hfin:R=false:=by rw[←HR.out];unfold okM;rw[hx];simp
   have HX:=Ah hx;clear hx;go_wp2_with fail;refine(Lt x _).mono ?_;rintro e w2 ⟨rfl,hb⟩;rw[HX.out];have H2:=H.call hb;clear a0 a1 a2 hb;go_wp2;go_ret;exact⟨Ed (by first|rfl|(rw[hfin];rfl)),H2.below⟩
  ·have HX:=Ah hx;obtain⟨x1,x2⟩: -16384≤x∧x≤16384:=by simpa[Qw]using hx
   clear hx
   cases hy:Qw y
   ·have hfin:R=false:=by rw[←HR.out];unfold okM;rw[hy];simp
    have HY:=Ah hy;clear hy;go_wp2_with fail;refine(Lt x _).mono ?_;rintro e w2 ⟨rfl,hb⟩;rw[HX.out];have H2:=H.call hb;obtain⟨⟨b0,b1,b2⟩,_⟩:=Cv (H2.blk 0 _ _ _ rfl);clear a0 a1 a2 hb;go_wp2_with fail;refine(Lt y _).mono ?_;rintro e w3 ⟨rfl,hb⟩;rw[HY.out];have H3:=H2.call hb;clear b0 b1 b2 hb;go_wp2;go_ret;exact⟨Ed (by first|rfl|(rw[hfin];rfl)),H3.below⟩
   ·have HY:=Ah hy;obtain⟨y1,y2⟩: -16384≤y∧y≤16384:=by simpa[Qw]using hy
    clear hy;have w1:Ab.wrap (x+y)=x+y:=Ca _ Ci;have w2':Ab.wrap ((x+y).tmod 2)=(x+y).tmod 2:=Ca _ (by have:=Ad9 (x+y);omega);obtain⟨z,hz⟩:=ey ((x+y).tmod 2)
    have hfin:R=decide (z=0):=by
     rw[←HR.out];unfold okM;rw[HX.out,HY.out,decide_eq_true h8,←hz];simp only[Bool.true_and,Bool.and_true,Bc7]
    have HF:=Ah hfin;rw[hz]at w2';clear hfin;go_wp2_with fail;refine(Lt x _).mono ?_;rintro e w2 ⟨rfl,hb⟩;rw[HX.out];have H2:=H.call hb;obtain⟨⟨b0,b1,b2⟩,_⟩:=Cv (H2.blk 0 _ _ _ rfl);clear a0 a1 a2 hb;go_wp2_with fail;refine(Lt y _).mono ?_;rintro e w3 ⟨rfl,hb⟩;rw[HY.out];have H3:=H2.call hb;obtain⟨⟨d0,d1,d2⟩,_⟩:=Cv (H3.blk 0 _ _ _ rfl);clear b0 b1 b2 hb;by_cases h0:z=0
    ·have hb0:(z != 0)=false:=by simpa using h0
     go_wp2;go_ret;exact⟨Ed (by rw[HF.out,decide_eq_true h0];rfl),H3.below⟩
    ·have hb0:(z != 0)=true:=by simpa using h0
     go_wp2;go_ret;exact⟨Ed (by rw[HF.out,decide_eq_false h0];rfl),H3.below⟩
 ·have hfin:R=false:=by rw[←HR.out];unfold okM;rw[decide_eq_false h8];simp
  have h8':(8:Int)≤t:=Ci;go_wp2;go_ret;exact⟨Ed (by first|rfl|(rw[hfin];rfl)),H.below⟩
theorem Sj (w:Aj):Al Tryz.prog 44 #[] w (Co mv0.v w):=by
 have H:=(Bx.start w).new #[Aa Ac 0,Aa Ab 0,Aa Ab 0] 30 rfl;go_enter Tryz.func44,Tryz.ntmps44;go_wp2_with fail;refine Ai (v:=mv0.v) (by simp[results,Tryz.results44,go_sem,Mv.v,mv0]) rfl ⟨rfl,?_⟩
 repeat' (first|exact Ag _ _|refine Below.setCell ?_ Cn _|refine Below.alloc ?_ Cn _)
theorem Aw4 (a b c d x y:Int) (w:Aj) (h1:Ab.wrap (a*x)=a*x) (h2:Ab.wrap (b*y)=b*y) (h3:Ab.wrap (a*x+b*y)=a*x+b*y)
  (h4:Ab.wrap (c*x)=c*x) (h5:Ab.wrap (d*y)=d*y) (h6:Ab.wrap (c*x+d*y)=c*x+d*y):
  Al Tryz.prog 91 #[.agg #[Aa Ab a,Aa Ab b,Aa Ab c,Aa Ab d],Aa Ab x,Aa Ab y] w (Co (.tuple #[Aa Ab (a*x+b*y),Aa Ab (c*x+d*y)]) w):=by
 go_enter Tryz.func91,Tryz.ntmps91;go_wp2
 go_quiet (fail)
 go_wp2_with fail
 go_ret2
 exact⟨rfl,Dg ((Ag _ _).alloc (Am _) _) _⟩
theorem Tn.cells {w:Aj} (h:Tn w):w.cell? ⟨0,0,Ae⟩=Af (Aa Ab 1)∧w.cell? ⟨0,1,Ae⟩=Af (Aa Ab 0)∧w.cell? ⟨0,2,Ae⟩=Af (Aa Ab 0)∧w.cell? ⟨0,3,Ae⟩=Af (Aa Ab 1)∧w.cell? ⟨0,4,Ae⟩=Af (Aa Ab 0)∧w.cell? ⟨0,5,Ae⟩=Af (Aa Ab (-1))∧w.cell? ⟨0,6,Ae⟩=Af (Aa Ab 1)∧w.cell? ⟨0,7,Ae⟩=Af (Aa Ab 0)∧w.cell? ⟨0,8,Ae⟩=Af (Aa Ab (-1))∧w.cell? ⟨0,9,Ae⟩=Af (Aa Ab 0)∧w.cell? ⟨0,10,Ae⟩=Af (Aa Ab 0)∧w.cell? ⟨0,11,Ae⟩=Af (Aa Ab (-1))∧w.cell? ⟨0,12,Ae⟩=Af (Aa Ab 0)∧w.cell? ⟨0,13,Ae⟩=Af (Aa Ab 1)∧w.cell? ⟨0,14,Ae⟩=Af (Aa Ab (-1))∧w.cell? ⟨0,15,Ae⟩=Af (Aa Ab 0)∧w.cell? ⟨0,16,Ae⟩=Af (Aa Ab (-1))∧w.cell? ⟨0,17,Ae⟩=Af (Aa Ab 0)∧w.cell? ⟨0,18,Ae⟩=Af (Aa Ab 0)∧w.cell? ⟨0,19,Ae⟩=Af (Aa Ab 1)∧w.cell? ⟨0,20,Ae⟩=Af (Aa Ab 0)∧w.cell? ⟨0,21,Ae⟩=Af (Aa Ab (-1))∧w.cell? ⟨0,22,Ae⟩=Af (Aa Ab (-1))∧w.cell? ⟨0,23,Ae⟩=Af (Aa Ab 0)∧w.cell? ⟨0,24,Ae⟩=Af (Aa Ab 1)∧w.cell? ⟨0,25,Ae⟩=Af (Aa Ab 0)∧w.cell? ⟨0,26,Ae⟩=Af (Aa Ab 0)∧w.cell? ⟨0,27,Ae⟩=Af (Aa Ab (-1))∧w.cell? ⟨0,28,Ae⟩=Af (Aa Ab 0)∧w.cell? ⟨0,29,Ae⟩=Af (Aa Ab 1)∧w.cell? ⟨0,30,Ae⟩=Af (Aa Ab 1)∧w.cell? ⟨0,31,Ae⟩=Af (Aa Ab 0):=by
 obtain⟨a0,a1,a2,a3⟩:=h.at' 0 Ct;obtain⟨b0,b1,b2,b3⟩:=h.at' 1 Ct;obtain⟨c0,c1,c2,c3⟩:=h.at' 2 Ct;obtain⟨d0,d1,d2,d3⟩:=h.at' 3 Ct;obtain⟨e0,e1,e2,e3⟩:=h.at' 4 Ct;obtain⟨f0,f1,f2,f3⟩:=h.at' 5 Ct;obtain⟨g0,g1,g2,g3⟩:=h.at' 6 Ct;obtain⟨i0,i1,i2,i3⟩:=h.at' 7 Ct;exact⟨a0,a1,a2,a3,b0,b1,b2,b3,c0,c1,c2,c3,d0,d1,d2,d3,e0,e1,e2,e3,f0,f1,f2,f3,g0,g1,g2,g3,i0,i1,i2,i3⟩
theorem Kz {a x B:Int} (ha: -1≤a∧a≤1) (hx: -B≤x∧x≤B): -B≤a*x∧a*x≤B:=by
 have:a= -1∨a=0∨a=1:=Ci;rcases this with rfl|rfl|rfl<;>omega
theorem mG (t:Nat):(-1≤(mat t).1∧(mat t).1≤1)∧(-1≤(mat t).2.1∧(mat t).2.1≤1)∧(-1≤(mat t).2.2.1∧(mat t).2.2.1≤1)∧(-1≤(mat t).2.2.2∧(mat t).2.2.2≤1):=by
 unfold mat;split<;>decide
theorem dN (t:Nat) (x y:Int) (w:Aj) (hx: -100000≤x∧x≤100000) (hy: -100000≤y∧y≤100000):
  Al Tryz.prog 91 #[.agg #[Aa Ab (mat t).1,Aa Ab (mat t).2.1,Aa Ab (mat t).2.2.1,Aa Ab (mat t).2.2.2],Aa Ab x,Aa Ab y] w (Co (.tuple #[Aa Ab (Dk (mat t) x y).1,Aa Ab (Dk (mat t) x y).2]) w):=by
 obtain⟨h1,h2,h3,h4⟩:=mG t;have a1:=Kz h1 hx;have a2:=Kz h2 hy;have a3:=Kz h3 hx;have a4:=Kz h4 hy;exact Aw4 _ _ _ _ x y w (Ca _ Ci) (Ca _ Ci) (Ca _ Ci) (Ca _ Ci) (Ca _ Ci) (Ca _ Ci)
theorem Yi (t:Nat) {x y B:Int} (hx: -B≤x∧x≤B) (hy: -B≤y∧y≤B):(-(2*B)≤(Dk (mat t) x y).1∧(Dk (mat t) x y).1≤2*B)∧(-(2*B)≤(Dk (mat t) x y).2∧(Dk (mat t) x y).2≤2*B):=by
 obtain⟨h1,h2,h3,h4⟩:=mG t;have a1:=Kz h1 hx;have a2:=Kz h2 hy;have a3:=Kz h3 hx;have a4:=Kz h4 hy;unfold Dk;dsimp only;omega
theorem Ad6 (s t:Nat) (w:Aj):
  Al Tryz.prog 94 #[.agg #[Aa Ab (mat s).1,Aa Ab (mat s).2.1,Aa Ab (mat s).2.2.1,Aa Ab (mat s).2.2.2],.agg #[Aa Ab (mat t).1,Aa Ab (mat t).2.1,Aa Ab (mat t).2.2.1,Aa Ab (mat t).2.2.2]] w
   (Co (Ba3 (Du (mat s) (mat t))) w):=by
 obtain⟨h1,h2,h3,h4⟩:=mG s;obtain⟨⟨a,b,c,d⟩,hs⟩:=ey (mat s);rw[hs]at h1 h2 h3 h4⊢;have O1:=λw=>dN t a c w (by dsimp only at h1;omega) (by dsimp only at h3;omega);have O2:=λw=>dN t b d w (by dsimp only at h2;omega) (by dsimp only at h4;omega);unfold Du;dsimp only at h1 h2 h3 h4⊢;obtain⟨⟨p,r⟩,hp⟩:=ey (Dk (mat t) a c);obtain⟨⟨q,u⟩,hq⟩:=ey (Dk (mat t) b d);obtain⟨⟨e,f,g,i⟩,hm⟩:=ey (mat t);rw[hp,hm]at O1;rw[hq,hm]at O2;rw[hp,hq,hm];dsimp only at O1 O2⊢;have OO1:=Ah O1;have OO2:=Ah O2;have H:=(((Bx.start w).new #[Aa Ab a,Aa Ab b,Aa Ab c,Aa Ab d] 201 rfl).new #[Aa Ab e,Aa Ab f,Aa Ab g,Aa Ab i] 201 (N:=w.heap.size+1) Cn).new #[Aa Ab 0,Aa Ab 0,Aa Ab 0,Aa Ab 0] 201 (N:=w.heap.size+2) Cn;clear O1 O2 hp hq hm hs h1 h2 h3 h4;go_enter Tryz.func94,Tryz.ntmps94;go_upto_region 1 with fail;obtain⟨W,hW⟩:=ez (((w.alloc (.cells #[Aa Ab a,Aa Ab b,Aa Ab c,Aa Ab d] 201)).alloc (.cells #[Aa Ab e,Aa Ab f,Aa Ab g,Aa Ab i] 201)).alloc (.cells #[Aa Ab 0,Aa Ab 0,Aa Ab 0,Aa Ab 0] 201));rw[←hW]at H⊢;obtain⟨N,hN⟩:=ez w.heap.size;rw[←hN]at H⊢;clear hW hN;obtain⟨⟨a0,a1,a2,a3⟩,_⟩:=Ez (H.blk 0 _ _ _ rfl);obtain⟨⟨b0,b1,b2,b3⟩,_⟩:=Ez (H.blk 1 _ _ _ rfl);go_wp2_with fail;refine(OO1.out _).mono ?_;rintro e' w2 ⟨rfl,hb⟩;have H2:=H.call hb;obtain⟨⟨c0,c1,c2,c3⟩,_⟩:=Ez (H2.blk 0 _ _ _ rfl);obtain⟨⟨d0,d1,d2,d3⟩,_⟩:=Ez (H2.blk 1 _ _ _ rfl);clear a0 a1 a2 a3 b0 b1 b2 b3 hb H;go_wp2_with fail;refine(OO2.out _).mono ?_;rintro e' w3 ⟨rfl,hb⟩;have H3:=H2.call hb;obtain⟨⟨e0,e1,e2,e3⟩,f0,f1,f2,f3⟩:=Ez (H3.blk 2 _ _ _ rfl);clear c0 c1 c2 c3 d0 d1 d2 d3 hb H2;go_wp2_with fail;have H4:=(((H3.set 2 0 rfl (Aa Ab p)).set 2 1 rfl (Aa Ab q)).set 2 2 rfl (Aa Ab r)).set 2 3 rfl (Aa Ab u);exact Ai (Ht rfl rfl (H4.range 2 rfl) Tryz.underlying201 rfl Cm) rfl ⟨rfl,H4.below⟩
theorem Ae3 (w:Aj):(Instr.index 202 (.agg #[Aa Ab 1,Aa Ab 0,Aa Ab 0,Aa Ab 1,Aa Ab 0,Aa Ab (-1),Aa Ab 1,Aa Ab 0,Aa Ab (-1),Aa Ab 0,Aa Ab 0,Aa Ab (-1),Aa Ab 0,Aa Ab 1,Aa Ab (-1),Aa Ab 0,Aa Ab (-1),Aa Ab 0,Aa Ab 0,Aa Ab 1,Aa Ab 0,Aa Ab (-1),Aa Ab (-1),Aa Ab 0,Aa Ab 1,Aa Ab 0,Aa Ab 0,Aa Ab (-1),Aa Ab 0,Aa Ab 1,Aa Ab 1,Aa Ab 0]) (Aa Ab 0)).run Tryz.prog w= .ok (.agg #[Aa Ab 1,Aa Ab 0,Aa Ab 0,Aa Ab 1]) w:=Cm
theorem Ae4 (w:Aj):(Instr.index 202 (.agg #[Aa Ab 1,Aa Ab 0,Aa Ab 0,Aa Ab 1,Aa Ab 0,Aa Ab (-1),Aa Ab 1,Aa Ab 0,Aa Ab (-1),Aa Ab 0,Aa Ab 0,Aa Ab (-1),Aa Ab 0,Aa Ab 1,Aa Ab (-1),Aa Ab 0,Aa Ab (-1),Aa Ab 0,Aa Ab 0,Aa Ab 1,Aa Ab 0,Aa Ab (-1),Aa Ab (-1),Aa Ab 0,Aa Ab 1,Aa Ab 0,Aa Ab 0,Aa Ab (-1),Aa Ab 0,Aa Ab 1,Aa Ab 1,Aa Ab 0]) (Aa Ab 1)).run Tryz.prog w= .ok (.agg #[Aa Ab 0,Aa Ab (-1),Aa Ab 1,Aa Ab 0]) w:=Cm
theorem Ae5 (w:Aj):(Instr.index 202 (.agg #[Aa Ab 1,Aa Ab 0,Aa Ab 0,Aa Ab 1,Aa Ab 0,Aa Ab (-1),Aa Ab 1,Aa Ab 0,Aa Ab (-1),Aa Ab 0,Aa Ab 0,Aa Ab (-1),Aa Ab 0,Aa Ab 1,Aa Ab (-1),Aa Ab 0,Aa Ab (-1),Aa Ab 0,Aa Ab 0,Aa Ab 1,Aa Ab 0,Aa Ab (-1),Aa Ab (-1),Aa Ab 0,Aa Ab 1,Aa Ab 0,Aa Ab 0,Aa Ab (-1),Aa Ab 0,Aa Ab 1,Aa Ab 1,Aa Ab 0]) (Aa Ab 2)).run Tryz.prog w= .ok (.agg #[Aa Ab (-1),Aa Ab 0,Aa Ab 0,Aa Ab (-1)]) w:=Cm
theorem Ae6 (w:Aj):(Instr.index 202 (.agg #[Aa Ab 1,Aa Ab 0,Aa Ab 0,Aa Ab 1,Aa Ab 0,Aa Ab (-1),Aa Ab 1,Aa Ab 0,Aa Ab (-1),Aa Ab 0,Aa Ab 0,Aa Ab (-1),Aa Ab 0,Aa Ab 1,Aa Ab (-1),Aa Ab 0,Aa Ab (-1),Aa Ab 0,Aa Ab 0,Aa Ab 1,Aa Ab 0,Aa Ab (-1),Aa Ab (-1),Aa Ab 0,Aa Ab 1,Aa Ab 0,Aa Ab 0,Aa Ab (-1),Aa Ab 0,Aa Ab 1,Aa Ab 1,Aa Ab 0]) (Aa Ab 3)).run Tryz.prog w= .ok (.agg #[Aa Ab 0,Aa Ab 1,Aa Ab (-1),Aa Ab 0]) w:=Cm
theorem Ae7 (w:Aj):(Instr.index 202 (.agg #[Aa Ab 1,Aa Ab 0,Aa Ab 0,Aa Ab 1,Aa Ab 0,Aa Ab (-1),Aa Ab 1,Aa Ab 0,Aa Ab (-1),Aa Ab 0,Aa Ab 0,Aa Ab (-1),Aa Ab 0,Aa Ab 1,Aa Ab (-1),Aa Ab 0,Aa Ab (-1),Aa Ab 0,Aa Ab 0,Aa Ab 1,Aa Ab 0,Aa Ab (-1),Aa Ab (-1),Aa Ab 0,Aa Ab 1,Aa Ab 0,Aa Ab 0,Aa Ab (-1),Aa Ab 0,Aa Ab 1,Aa Ab 1,Aa Ab 0]) (Aa Ab 4)).run Tryz.prog w= .ok (.agg #[Aa Ab (-1),Aa Ab 0,Aa Ab 0,Aa Ab 1]) w:=Cm
theorem Ae8 (w:Aj):(Instr.index 202 (.agg #[Aa Ab 1,Aa Ab 0,Aa Ab 0,Aa Ab 1,Aa Ab 0,Aa Ab (-1),Aa Ab 1,Aa Ab 0,Aa Ab (-1),Aa Ab 0,Aa Ab 0,Aa Ab (-1),Aa Ab 0,Aa Ab 1,Aa Ab (-1),Aa Ab 0,Aa Ab (-1),Aa Ab 0,Aa Ab 0,Aa Ab 1,Aa Ab 0,Aa Ab (-1),Aa Ab (-1),Aa Ab 0,Aa Ab 1,Aa Ab 0,Aa Ab 0,Aa Ab (-1),Aa Ab 0,Aa Ab 1,Aa Ab 1,Aa Ab 0]) (Aa Ab 5)).run Tryz.prog w= .ok (.agg #[Aa Ab 0,Aa Ab (-1),Aa Ab (-1),Aa Ab 0]) w:=Cm
theorem Ae9 (w:Aj):(Instr.index 202 (.agg #[Aa Ab 1,Aa Ab 0,Aa Ab 0,Aa Ab 1,Aa Ab 0,Aa Ab (-1),Aa Ab 1,Aa Ab 0,Aa Ab (-1),Aa Ab 0,Aa Ab 0,Aa Ab (-1),Aa Ab 0,Aa Ab 1,Aa Ab (-1),Aa Ab 0,Aa Ab (-1),Aa Ab 0,Aa Ab 0,Aa Ab 1,Aa Ab 0,Aa Ab (-1),Aa Ab (-1),Aa Ab 0,Aa Ab 1,Aa Ab 0,Aa Ab 0,Aa Ab (-1),Aa Ab 0,Aa Ab 1,Aa Ab 1,Aa Ab 0]) (Aa Ab 6)).run Tryz.prog w= .ok (.agg #[Aa Ab 1,Aa Ab 0,Aa Ab 0,Aa Ab (-1)]) w:=Cm
theorem Af0 (w:Aj):(Instr.index 202 (.agg #[Aa Ab 1,Aa Ab 0,Aa Ab 0,Aa Ab 1,Aa Ab 0,Aa Ab (-1),Aa Ab 1,Aa Ab 0,Aa Ab (-1),Aa Ab 0,Aa Ab 0,Aa Ab (-1),Aa Ab 0,Aa Ab 1,Aa Ab (-1),Aa Ab 0,Aa Ab (-1),Aa Ab 0,Aa Ab 0,Aa Ab 1,Aa Ab 0,Aa Ab (-1),Aa Ab (-1),Aa Ab 0,Aa Ab 1,Aa Ab 0,Aa Ab 0,Aa Ab (-1),Aa Ab 0,Aa Ab 1,Aa Ab 1,Aa Ab 0]) (Aa Ab 7)).run Tryz.prog w= .ok (.agg #[Aa Ab 0,Aa Ab 1,Aa Ab 1,Aa Ab 0]) w:=Cm
def Zm:List Ak:=[Aa Ab 1,Aa Ab 0,Aa Ab 0,Aa Ab 1,Aa Ab 0,Aa Ab (-1),Aa Ab 1,Aa Ab 0,Aa Ab (-1),Aa Ab 0,Aa Ab 0,Aa Ab (-1),Aa Ab 0,Aa Ab 1,Aa Ab (-1),Aa Ab 0,Aa Ab (-1),Aa Ab 0,Aa Ab 0,Aa Ab 1,Aa Ab 0,Aa Ab (-1),Aa Ab (-1),Aa Ab 0,Aa Ab 1,Aa Ab 0,Aa Ab 0,Aa Ab (-1),Aa Ab 0,Aa Ab 1,Aa Ab 1,Aa Ab 0]
def oV:Ak:= .agg Zm.toArray
theorem Tn.range {w:Aj} (h:Tn w):w.rangeAt 0 0 Zm:=by
 intro j v hj;obtain⟨h00,h01,h02,h03,h10,h11,h12,h13,h20,h21,h22,h23,h30,h31,h32,h33,h40,h41,h42,h43,h50,h51,h52,h53,h60,h61,h62,h63,h70,h71,h72,h73⟩:=h.cells;have hl:j<32:=(Ax.1 hj).1;rw[Bt];have:j=0∨j=1∨j=2∨j=3∨j=4∨j=5∨j=6∨j=7∨j=8∨j=9∨j=10∨j=11∨j=12∨j=13∨j=14∨j=15∨j=16∨j=17∨j=18∨j=19∨j=20∨j=21∨j=22∨j=23∨j=24∨j=25∨j=26∨j=27∨j=28∨j=29∨j=30∨j=31:=Ci;rcases this with rfl|rfl|rfl|rfl|rfl|rfl|rfl|rfl|rfl|rfl|rfl|rfl|rfl|rfl|rfl|rfl|rfl|rfl|rfl|rfl|rfl|rfl|rfl|rfl|rfl|rfl|rfl|rfl|rfl|rfl|rfl|rfl
 all_goals (simp only[Zm,List.getElem?_cons_succ,List.getElem?_cons_zero,Option.some.injEq]at hj;subst hj;assumption)
theorem Ap0 (k:Nat) (hk:k<8) (w:Aj):(Instr.index 202 oV (Aa Ab k)).run Tryz.prog w= .ok (.agg #[Aa Ab (mat k).1,Aa Ab (mat k).2.1,Aa Ab (mat k).2.2.1,Aa Ab (mat k).2.2.2]) w:=by
 have:k=0∨k=1∨k=2∨k=3∨k=4∨k=5∨k=6∨k=7:=Ci;rcases this with rfl|rfl|rfl|rfl|rfl|rfl|rfl|rfl
 ·exact Ae3 w
 ·exact Ae4 w
 ·exact Ae5 w
 ·exact Ae6 w
 ·exact Ae7 w
 ·exact Ae8 w
 ·exact Ae9 w
 ·exact Af0 w
theorem Al2 {k r:Nat} (hk:k<8) (hr:r<8) (h:(mat k).1=(mat r).1∧(mat k).2.1=(mat r).2.1∧(mat k).2.2.1=(mat r).2.2.1∧(mat k).2.2.2=(mat r).2.2.2):k=r:=by
 have:∀k<8,∀r<8,((mat k).1=(mat r).1∧(mat k).2.1=(mat r).2.1∧(mat k).2.2.1=(mat r).2.2.1∧(mat k).2.2.2=(mat r).2.2.2)→k=r:=Ct;exact this k hk r hr h
theorem mS (r:Nat) (hr:r<8) (w:Aj) (hT:Tn w):Al Tryz.prog 93 #[.agg #[Aa Ab (mat r).1,Aa Ab (mat r).2.1,Aa Ab (mat r).2.2.1,Aa Ab (mat r).2.2.2]] w (Co (Aa Ac r) w):=by
 obtain⟨⟨a,b,c,d⟩,hm⟩:=ey (mat r);have HI:=Ah λk hk=>Al2 (k:=k) hk hr;rw[hm]at HI⊢;dsimp only at HI⊢;have H:=(Bx.start w).new #[Aa Ab a,Aa Ab b,Aa Ab c,Aa Ab d] 201 rfl;have HT:=Ah (hT.below H.below);have HM:=Ah hm;clear hm;go_enter Tryz.func93,Tryz.ntmps93;go_upto_region 1 with fail;obtain⟨W,hW⟩:=ez (w.alloc (.cells #[Aa Ab a,Aa Ab b,Aa Ab c,Aa Ab d] 201));rw[←hW]at H HT⊢;obtain⟨N,hN⟩:=ez w.heap.size;rw[←hN]at H⊢;clear hW hN;refine wp_region_list ?_;refine wpList_load_mid rfl 202 (.global 0) rfl 0 0 rfl Zm _ HT.out.range Tryz.underlying202 rfl Cm ?_;rw[show Value.agg Zm.toArray=oV from rfl];obtain⟨TV,hTV⟩:=ey oV;have HX:=λk hk w=>Ap0 k hk w;rw[hTV]at HX;rw[hTV];have HXX:=Ah HX;clear hTV HX;go_upto_region 2 with fail
 go_loopw [6] (λi wr=>∃k:Nat,k≤r∧i= Aa Ab k∧Bx w [(N,#[Aa Ab a,Aa Ab b,Aa Ab c,Aa Ab d],201)] wr) (λi _=>r-(intOf i).toNat)
 case atStart=>exact⟨0,Ci,rfl,H⟩
 case round=>
  obtain⟨k,hk,rfl,Hr⟩:=hrel;obtain⟨⟨a0,a1,a2,a3⟩,_⟩:=Ez (Hr.blk 0 _ _ _ rfl);have hlt:=Hr.lt 0 rfl;have hix:=HXX.out k Ci;have hi:=HI.out k Ci;have q1:(k:Int)<8:=Ci;obtain⟨⟨a',b',c',d'⟩,hm'⟩:=ey (mat k);rw[hm']at hi hix;dsimp only at hi hix;have HI2:=Ah hi;have HM2:=Ah hm';clear hi hm';by_cases hkr:k=r
  ·subst hkr
   obtain⟨rfl,rfl,rfl,rfl⟩:a'=a∧b'=b∧c'=c∧d'=d:=by
    have h1:=HM.out;rw[HM2.out]at h1;simpa using h1
   have w1:IntKind.u8.wrap (k:Int)=k:=IntWalk.u8_in _ Ci;go_wp2;go_ret;exact⟨rfl,(Hr.call ((Ag _ _).alloc (Am _) _)).below⟩
  ·have hne:¬(a'=a∧b'=b∧c'=c∧d'=d):=λh=>hkr (HI2.out h);have hy:=λo=>Hr.call ((Ag _ _).alloc (Am _) o);go_wp2_with fail
   all_goals first
    |exact⟨⟨k+1,Ci,by go_num,hy _⟩,by simp[intOf];omega⟩
    |exact absurd ⟨rfl,rfl,rfl,rfl⟩ hne
def nxt:Nat→Nat→Int×Int×Int
 |0,0=>(0,-1,2)|0,1=>(0,0,1)|0,_=>(0,0,3)
 |1,0=>(1,0,3)|1,1=>(0,0,0)|1,_=>(0,0,2)
 |2,0=>(0,1,0)|2,1=>(0,0,3)|2,_=>(0,0,1)
 |_,0=>(-1,0,1)|_,1=>(0,0,2)|_,_=>(0,0,0)
theorem Ym (q e:Nat): -1≤(nxt q e).1∧(nxt q e).1≤1∧-1≤(nxt q e).2.1∧(nxt q e).2.1≤1∧0≤(nxt q e).2.2∧(nxt q e).2.2≤3:=by
 unfold nxt
 split<;>decide
structure Qt (w:Aj):Prop where
 lt:1<w.heap.size
 at':∀q e,q<4→e<3→w.cell? ⟨1,q*17+4+e*3,Ae⟩=Af (Aa Ab (nxt q e).1)∧w.cell? ⟨1,q*17+4+e*3+1,Ae⟩=Af (Aa Ab (nxt q e).2.1)∧w.cell? ⟨1,q*17+4+e*3+2,Ae⟩=Af (Aa Ac (nxt q e).2.2)
theorem Qt.below {w w':Aj} (h:Qt w) (hb:Below w.heap.size w w'):Qt w':=
 ⟨Bq h.lt hb.size,λq e hq he=>by
  obtain⟨h1,h2,h3⟩:=h.at' q e hq he;exact⟨Cj hb h1,Cj hb h2,Cj hb h3⟩⟩
def nbr (x y q e:Int):Int×Int×Int×Int:=
 if okC x y q=false∨2<e then (0,0,0,1)
 else if okC (x+(nxt q.toNat e.toNat).1) (y+(nxt q.toNat e.toNat).2.1) (nxt q.toNat e.toNat).2.2 then (x+(nxt q.toNat e.toNat).1,y+(nxt q.toNat e.toNat).2.1,(nxt q.toNat e.toNat).2.2,0)
 else (0,0,0,3)
def Ip (c:Int×Int×Int×Int):Ak:= .tuple #[.agg #[Aa Ab c.1,Aa Ab c.2.1,Aa Ac c.2.2.1],Aa Ab c.2.2.2]
theorem Mr (x y q e:Int) (w:Aj) (hq:0≤q) (he:0≤e) (hQ:Qt w):
  Al Tryz.prog 138 #[.agg #[Aa Ab x,Aa Ab y,Aa Ac q],Aa Ac e] w (Co (Ip (nbr x y q e)) w):=by
 cases hc:okC x y q
 ·have hn:nbr x y q e=(0,0,0,1):=by unfold nbr;rw[if_pos (.inl hc)]
  rw[hn];have HC:=Ah hc;clear hc hn;go_enter Tryz.func138,Tryz.ntmps138;go_wp2_with fail;refine(El x y q _).mono ?_;rintro e' w2 ⟨rfl,hb2⟩;rw[HC.out,Lj];obtain⟨n1,n2⟩:=Zx w (.cells #[Aa Ab x,Aa Ab y,Aa Ac q] 87) (.cells #[Aa Ab 0,Aa Ab 0,Aa Ac 0] 87);obtain⟨⟨r0,r1,r2⟩,z0,z1,z2⟩:=Cv (kept hb2 n2 Cn);have hbw:Below w.heap.size w w2:=(((Ag _ _).alloc (Am _) _).alloc Cn _).trans (hb2.mono (by simp;omega));clear n1 n2;go_wp2_with fail;refine Ai (v:=Ip (0,0,0,1)) (by simp[results,Tryz.results138,go_sem,r0,r1,r2,Ip]) rfl ⟨rfl,?_⟩;exact((hbw.setCell Cn _).setCell Cn _).setCell Cn _
 ·by_cases he2:2<e
  ·have hn:nbr x y q e=(0,0,0,1):=by unfold nbr;rw[if_pos (.inr he2)]
   rw[hn];have HC:=Ah hc;clear hc hn;go_enter Tryz.func138,Tryz.ntmps138;go_wp2_with fail;refine(El x y q _).mono ?_;rintro e' w2 ⟨rfl,hb2⟩;rw[HC.out,Gz];obtain⟨n1,n2⟩:=Zx w (.cells #[Aa Ab x,Aa Ab y,Aa Ac q] 87) (.cells #[Aa Ab 0,Aa Ab 0,Aa Ac 0] 87);obtain⟨⟨r0,r1,r2⟩,z0,z1,z2⟩:=Cv (kept hb2 n2 Cn);have hbw:Below w.heap.size w w2:=(((Ag _ _).alloc (Am _) _).alloc Cn _).trans (hb2.mono (by simp;omega));clear n1 n2;go_wp2_with fail;refine Ai (v:=Ip (0,0,0,1)) (by simp[results,Tryz.results138,go_sem,r0,r1,r2,Ip]) rfl ⟨rfl,?_⟩;exact((hbw.setCell Cn _).setCell Cn _).setCell Cn _
  ·obtain⟨qn,rfl⟩:=Int.eq_ofNat_of_zero_le hq;obtain⟨en,rfl⟩:=Int.eq_ofNat_of_zero_le he;have hcc:=Eu.1 hc;have hqn:qn<4:=Ci;have hen:en<3:=Ci;have hnb:=Ym qn en;obtain⟨nx,hnx⟩:=ey ((nxt qn en).1);obtain⟨ny,hny⟩:=ey ((nxt qn en).2.1);obtain⟨nq,hnq⟩:=ey ((nxt qn en).2.2)
   have hn:nbr x y qn en=if okC (x+nx) (y+ny) nq then (x+nx,y+ny,nq,0)else (0,0,0,3):=by
    unfold nbr;rw[if_neg (by rw[hc];simp;omega),Int.toNat_natCast,Int.toNat_natCast,hnx,hny,hnq]
   obtain⟨R,hR⟩:=ey (nbr x y qn en);rw[hR];have HR:=Ah (hR.symm.trans hn);rw[hnx,hny,hnq]at hnb;have HC:=Ah hc;have HNX:=Ah hnx;have HNY:=Ah hny;have HNQ:=Ah hnq;have q1:(qn:Int)<4:=Ci;have q2:(en:Int)<3:=Ci;have q3:¬(2:Int)<(en:Int):=Ci;clear hc hn hR hnx hny hnq he2;go_enter Tryz.func138,Tryz.ntmps138;go_wp2_with fail;refine(El x y qn _).mono ?_;rintro e' w2 ⟨rfl,hb2⟩;rw[HC.out,Gz];obtain⟨n1,n2⟩:=Zx w (.cells #[Aa Ab x,Aa Ab y,Aa Ac qn] 87) (.cells #[Aa Ab 0,Aa Ab 0,Aa Ac 0] 87);obtain⟨⟨r0,r1,r2⟩,z0,z1,z2⟩:=Cv (kept hb2 n2 Cn);obtain⟨⟨s0,s1,s2⟩,_⟩:=Cv (kept hb2 n1 (by simp;omega));have hbw:Below w.heap.size w w2:=(((Ag _ _).alloc (Am _) _).alloc Cn _).trans (hb2.mono (by simp;omega));obtain⟨t0,t1,t2⟩:=(hQ.below hbw).at' qn en hqn hen;rw[HNX.out]at t0;rw[HNY.out]at t1;rw[HNQ.out]at t2;have hsz:=hb2.size;simp only[World.size_alloc]at hsz;have hgl:1<w2.heap.size:=(hQ.below hbw).lt;have hwx: -4097≤nx+x∧nx+x≤4097:=Ci;have hwy: -4097≤ny+y∧ny+y≤4097:=Ci;obtain⟨cx,hcx⟩:=ez (x+nx);obtain⟨cy,hcy⟩:=ez (y+ny);have w1:Ab.wrap (nx+x)=cx:=by rw[Ca _ Ci];omega
   have w2':Ab.wrap (ny+y)=cy:=by rw[Ca _ Ci];omega
   have HCX:=Ah hcx;have HCY:=Ah hcy;have hlt1:w.heap.size<w2.heap.size:=Ci;have hlt2:w.heap.size+1<w2.heap.size:=Ci;have HN2:=Ah (kept hb2 n2 Cn);clear n1 n2 hcx hcy;go_wp2
   go_region
   go_wp2_with fail;refine(El cx cy nq _).mono ?_;rintro e' w3 ⟨rfl,hb3'⟩;have hb3:=Cu hb3';have m2:w3.heap[w.heap.size+1]? =Af (.cells #[Aa Ab 0,Aa Ab 0,Aa Ac 0] 87 (0,0)):=kept hb3 ((Below.heap_alloc _ _ _ hlt2).trans HN2.out) (by simp;omega);have m3:w3.heap[w2.heap.size]? =Af (.cells #[Aa Ab cx,Aa Ab cy,Aa Ac nq] 87 (0,0)):=kept hb3 (Bz w2 _) Cn;have hbw3:Below w.heap.size w w3:=(hbw.alloc hbw.size _).trans (hb3.mono (by simp;omega));have hlt3:w.heap.size+1<w3.heap.size:=(Au.1 m2).1;obtain⟨⟨a0,a1,a2⟩,y0,y1,y2⟩:=Cv m2;obtain⟨⟨b0,b1,b2⟩,_⟩:=Cv m3;clear r0 r1 r2 z0 z1 z2 s0 s1 s2 t0 t1 t2 m2 m3 hb2 hb3 hb3'
   cases hk:okC cx cy nq
   ·have HK:=Ah hk;rw[Lj];clear hk;go_wp2_with fail;refine Ai (v:=Ip (0,0,0,3)) (by simp[results,Tryz.results138,go_sem,a0,a1,a2,Ip]) rfl ⟨?_,?_⟩
    ·rw[HR.out,←HCX.out,←HCY.out,HK.out];rfl
    ·exact((hbw3.setCell Cn _).setCell Cn _).setCell Cn _
   ·have HK:=Ah hk;rw[Gz];clear hk;go_wp2_with fail;refine Ai (v:=Ip (cx,cy,nq,0)) (by simp[results,Tryz.results138,go_sem,a0,a1,a2,Ip]) rfl ⟨?_,?_⟩
    ·rw[HR.out,←HCX.out,←HCY.out,HK.out];rfl
    ·exact((hbw3.setCell Cn _).setCell Cn _).setCell Cn _
def Nd (a b i:Int):Bool:=decide (0≤i)&&decide (i<4*a*b)
theorem Jr {a b i:Int}:Nd a b i=true↔0≤i∧i<4*a*b:=by unfold Nd;simp
theorem Ho {a b:Int} (h:okS a b=true):1≤a*b∧a*b≤256∧1≤a∧a≤256∧1≤b∧b≤256:=by
 obtain⟨h1,h2,h3,h4,h5⟩:=Wn.1 h;refine⟨?_,h5,h1,h3,h2,h4⟩;have:=Int.mul_le_mul h1 h2 Ci Ci;omega
theorem Ai4 (a b i:Int) (w:Aj) (hs:okS a b=true):
  Al Tryz.prog 113 #[.agg #[Aa Ab a,Aa Ab b],Aa Ab i] w (Co (.bool (Nd a b i)) w):=by
 obtain⟨m1,m2,m3,m4,m5,m6⟩:=Ho hs;obtain⟨m,hm⟩:=ey (4*a*b)
 have hmb:4≤m∧m≤1024:=by
  have:4*a*b=4*(a*b):=Int.mul_assoc _ _ _;omega
 have HM:=Ah hm;obtain⟨R,hR⟩:=ey (Nd a b i);rw[hR];have HR:=Ah hR;obtain⟨hb1,hb2⟩:=hmb;clear hs hR;go_enter Tryz.func113,Tryz.ntmps113;go_wp2_with fail
 all_goals go_ret
 all_goals refine⟨?_,(Ag _ _).alloc (Am _) _⟩
 ·rw[←HR.out];exact Mb (by unfold Nd;rw[decide_eq_true (show 0≤i by omega),HM.out,Bool.true_and])
 ·rw[←HR.out];exact Mb (by unfold Nd;rw[decide_eq_false (show¬0≤i by omega),Bool.false_and])
theorem eY (a b i:Int) (w:Aj) (hs:okS a b=true) (hi:Nd a b i=true):
  Al Tryz.prog 114 #[.agg #[Aa Ab a,Aa Ab b],Aa Ab i] w (Co (.agg #[Aa Ab (i/4%a),Aa Ab (i/4/a),Aa Ac (i%4)]) w):=by
 obtain⟨m1,m2,m3,m4,m5,m6⟩:=Ho hs;obtain⟨i1,i2⟩:=Jr.1 hi;have i3:i≤1024:=by have:4*a*b=4*(a*b):=Int.mul_assoc _ _ _;omega
 have d1:0≤i/4:=Ci;have d2:i/4≤256:=Ci;have d3:=Int.emod_nonneg (i/4) (show a≠0 by omega);have d4:=Int.emod_lt_of_pos (i/4) (show 0<a by omega);have d5:0≤i/4/a:=Int.ediv_nonneg d1 Ci;have d6:i/4/a≤256:=Int.le_trans (Int.ediv_le_self _ d1) d2;have e1:(a==0)=false:=by simp;omega
 have e2:(i/4).tmod a=i/4%a:=Int.tmod_eq_emod_of_nonneg d1;have e3:(i/4).tdiv a=i/4/a:=Int.tdiv_eq_ediv_of_nonneg d1;have e4:i.tdiv 4=i/4:=Int.tdiv_eq_ediv_of_nonneg i1;have e5:i.tmod 4=i%4:=Int.tmod_eq_emod_of_nonneg i1;have e6:Ab.wrap (i/4)=i/4:=Ca _ Ci;have e7:Ab.wrap (i/4%a)=i/4%a:=Ca _ Ci;have e8:Ab.wrap (i/4/a)=i/4/a:=Ca _ Ci;have e9:Ab.wrap (i%4)=i%4:=Ca _ Ci;have e10:IntKind.u8.wrap (i%4)=i%4:=IntWalk.u8_in _ Ci;clear hs hi i2 d1 d2 d3 d4 d5 d6;obtain⟨n1,n2⟩:=Zx w (.cells #[Aa Ab a,Aa Ab b] 25) (.cells #[Aa Ab 0,Aa Ab 0,Aa Ac 0] 87);go_enter Tryz.func114,Tryz.ntmps114;go_wp2
 go_region
 go_wp2_with fail;refine Ai (v:= .agg #[Aa Ab (i/4%a),Aa Ab (i/4/a),Aa Ac (i%4)]) (by simp[results,Tryz.results114,go_sem]) rfl ⟨rfl,?_⟩
 repeat' (first|exact Ag _ _|refine Below.drew ?_|refine Below.setCell ?_ Cn _|refine Below.alloc ?_ Cn _)
end Go.Proofs.YthpcfeifmdbhnaaGreatDoor
