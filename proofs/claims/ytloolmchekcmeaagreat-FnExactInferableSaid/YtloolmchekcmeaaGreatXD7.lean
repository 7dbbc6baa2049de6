/- A part. -/
import Derived.Test.YtloolmchekcmeaaGreatXD6
set_option linter.unusedVariables false
set_option linter.unusedSimpArgs false
open List renaming all_eq_true->aaf,range->aag,zipWith->aah,take_append_drop->aai,mem_iff_getElem?->aaj,getElem?_zipIdx->aak,zipWith_append->aal,mem_range->aam,length_cons->aan
open Nat renaming lt_trichotomy->aao,lt_or_ge->aap,zero_le->aaq,zero_add->aar,le_refl->aas,strongRecOn->aat
open Array renaming getElem?_eq_some_iff->aau,getElem?_eq_getElem->aav,mem_toList_iff->aaw,getElem?_setIfInBounds_ne->aax
open Bool renaming and_eq_true->aay,or_eq_true->aaz
namespace Go.Av
attribute [-simp] Go.Av.bN
open Go
section
variable {P:Program} {f:FuncId} {as_:List AV} {L:Ts} {R R':AV->Ts->Prop}
theorem aH.mono (h:aH P f as_ L R) (hr:∀r L',R r L'->R' r L'):aH P f as_ L R':=by
 refine⟨h.1,fun g w vs S h1 h2 h3 h4 h5 h6 h7 h8 h9=>(h.2 g w vs S h1 h2 h3 h4 h5 h6 h7 h8 h9).mono ?_⟩;rintro e w' ⟨v,r,L',S',rfl,hR,Ob⟩;exact⟨v,r,L',S',rfl,hr _ _ hR,Ob⟩
theorem nT.ret {n:Nat} {y:Code} {Q:Exit->St->Ts->Prop} {s:St} (h:Q .ret s L):nT P n y Q .ret s L:=h
theorem fj.ret {id:Nat} {Q:Exit->St->Ts->Prop} {s:St} (h:Q .ret s L):fj id Q .ret s L:=h
theorem BC.one {fn:Func} {dE:TypeId} {sz n:Nat} {R:AV->List GC->Prop} {e:Exit} {s:St} {L Lc M:Ts} {r:AV} {rows:List (List DV)} {cs:List GC} (he:e=.normal\/e=.ret) (hr:fy P s fn.results.toList=some [r]) (hs:b8 none [r]=some [r])
  (hA:s.A[0]? =some ⟨sz,dE,rows,true⟩) (hn:rows.length=n) (vz:Mk cs rows.flatten Lc) (hp:L.Perm (Lc++M)) (hR:R r cs):BC P fn dE sz n R e s L:=
 ⟨he,[r],[r],rows,cs,Lc,M,hr,hs,hA,hn,vz,hp,hR⟩
theorem bk.LC {fn:Func} {R:AV->Ts->Prop} {e:Exit} {s:St} {L Lc L2:Ts} {k n:Nat} {a:bu} {cs:List GC} {rs:List AV} {rs':Value->List AV} (he:e=.normal\/e=.ret) (hr:fy P s fn.results.toList=some rs) (hA:s.A[k]? =some a) (hw:a.wr=true) (hn:n=a.rows.length)
  (vz:Mk cs a.rows.flatten Lc) (hp:L.Perm (Lc++L2)) (hs:∀v,b8 (some (k,n,v)) rs=some (rs' v)) (hR:∀v,∃L' M,((.t a.dE a.sz n cs,v)::L2).Perm (L'++M)/\R (one (rs' v)) L'):bk P fn R e s L:=by
 subst hn;exact⟨he,rs,hr,.inr ⟨k,a,cs,Lc,L2,[],hA,hw,vz,hp,.nil,fun v=>by
  obtain⟨L',M,h1,h2⟩:=hR v;exact⟨rs' v,L',M,hs v,by simpa using h1,h2⟩⟩⟩
end
end Go.Av
namespace Go.Av
attribute [-simp] Go.Av.bP Go.Av.eu Go.Av.eN Go.Av.eG Go.Av.b8 Go.Av.bN
open Go
mutual
def BL (et em:TypeId):ak->List GC
 |.mk k s n t f b l=>[.d (.i k),.d (.str s),.d (.i n),.d (.i t.kind),dt et t.kids,.d (.i f.kind),dt et f.kids,.d (.i b),.t em 9 l.length (ei et em l)]
def ei (et em:TypeId):List ak->List GC
 |[]=>[]
 |t::r=>BL et em t++ei et em r
end
def nE (et em:TypeId) (l:List ak):GC:=.t em 9 l.length (ei et em l)
theorem my (et em:TypeId) (e:ak):BL et em e=[.d (.i e.kind),.d (.str e.name),.d (.i e.num),.d (.i e.ty.kind),dt et e.ty.kids,.d (.i e.fr.kind),dt et e.fr.kids,.d (.i e.label),nE et em e.kids]:=by cases e;simp[BL,nE]
mutual
theorem Hw (et em:TypeId):∀(t:ak),yj (BL et em t)=eK t
 |.mk k s n t f b l=>by
  have:=tF et em l;rw[my,au];simp only[yj,GC.dv,Hq,nE,ak.cb,ak.gu,ak.ng,ak.jI,ak.jJ,ak.iR,ak.bD,this]
theorem tF (et em:TypeId):∀(l:List ak),chunks 9 l.length (yj (ei et em l))=l.map eK
 |[]=>rfl
 |t::r=>by
  have h1:=Hw et em t;have h2:=tF et em r;rw[ei,q7,h1,aan,lN _ (by rw[au];rfl),h2,List.map_cons]
end
theorem LD (et em:TypeId) (l:List ak):(nE et em l).dv=.sl (l.map eK):=by
 simp only[nE,GC.dv,tF]
mutual
theorem Hx (et em:TypeId):∀(t:ak),Bv (BL et em t)=true
 |.mk k s n t f b l=>by
  have:=tG et em l;rw[my];simp only[Bv,GC.pl,(eh et _).2,nE,ak.bD,ak.jI,ak.jJ,this,Bool.and_self]
theorem tG (et em:TypeId):∀(l:List ak),Bv (ei et em l)=true
 |[]=>rfl
 |t::r=>by rw[ei,q8,Hx et em t,tG et em r];rfl
end
theorem eS (et em:TypeId) (l:List ak):(nE et em l).dv=.sl (l.map eK)/\(nE et em l).pl=true:=⟨LD et em l,by simp only[nE,GC.pl,tG]⟩
abbrev V3:=Value×Value×Value
abbrev pU (e:ak) (v:V3):List DV:=[.i e.kind,.str e.name,.i e.num,.i e.ty.kind,.raw v.1,.i e.fr.kind,.raw v.2.1,.i e.label,.raw v.2.2]
abbrev mz (et em:TypeId) (e:ak) (v:V3):Ts:=[(dt et e.ty.kids,v.1),(dt et e.fr.kids,v.2.1),(nE et em e.kids,v.2.2)]
def qk (et em:TypeId) (l:List ak) (vs:List V3):Ts:=(aah (mz et em) l vs).flatten
theorem BM (et em:TypeId) (l:List ak):qk et em l []=[]:=by simp[qk]
theorem Ft (et em:TypeId) (e:ak) (l:List ak) (v:V3) (vs:List V3):qk et em (e::l) (v::vs)=mz et em e v++qk et em l vs:=rfl
theorem pV (et em:TypeId):∀{l:List ak} {vs:List V3},vs.length=l.length->Mk (ei et em l) (aah pU l vs).flatten (qk et em l vs)
 |[],[],_=>.nil
 |t::r,v::vs,h=>by
  rw[ei,my,Ft];exact .d rfl (.d rfl (.d rfl (.d rfl (.t (.d rfl (.t (.d rfl (.t (pV et em (by simpa using h))))))))))
theorem qH (et em:TypeId):∀{l:List ak} {ds:List DV} {L:Ts},Mk (ei et em l) ds L->∃vs:List V3,vs.length=l.length/\chunks 9 l.length ds=aah pU l vs/\L=qk et em l vs
 |[],ds,L,h=>by
  rw[ei]at h;cases h
  exact⟨[],rfl,rfl,rfl⟩
 |t::r,ds,L,h=>by
  rw[ei,my]at h;cases h with
  |d _ h=>cases h with
  |d _ h=>cases h with
  |d _ h=>cases h with
  |d _ h=>cases h with
  | @t _ _ _ _ _ _ _ v1 h=>cases h with
  |d _ h=>cases h with
  | @t _ _ _ _ _ _ _ v2 h=>cases h with
  |d _ h=>cases h with
  | @t _ _ _ _ _ ds' L' v3 h=>
   obtain⟨vs,h1,h2,h3⟩:=qH et em h;refine⟨(v1,v2,v3)::vs,by simp[h1],?_,by rw[h3];rfl⟩
   rw[aan,show DV.i t.kind::DV.str t.name::DV.i t.num::DV.i t.ty.kind::DV.raw v1::DV.i t.fr.kind::DV.raw v2::DV.i t.label::DV.raw v3::ds'=[DV.i t.kind,DV.str t.name,DV.i t.num,DV.i t.ty.kind,DV.raw v1,DV.i t.fr.kind,DV.raw v2,DV.i t.label,DV.raw v3]++ds' from rfl,
    lN (sz:=9) _ (r:=[DV.i t.kind,DV.str t.name,DV.i t.num,DV.i t.ty.kind,DV.raw v1,DV.i t.fr.kind,DV.raw v2,DV.i t.label,DV.raw v3]) rfl,h2]
   rfl
theorem uB (et em:TypeId):∀(l:List ak),∀x,GC.d x∈ei et em l->x.eM=true
 |[],x,h=>by simp[ei]at h
 |t::r,x,h=>by
  rw[ei,my]at h;simp only[List.cons_append,List.nil_append,List.mem_cons,dt,nE]at h;rcases h with h|h|h|h|h|h|h|h|h|h
  ·cases h;rfl
  ·cases h;rfl
  ·cases h;rfl
  ·cases h;rfl
  ·cases h
  ·cases h;rfl
  ·cases h
  ·cases h;rfl
  ·cases h
  ·exact uB et em r x h
theorem yT (et em:TypeId) {l:List ak} {vs:List V3} {a:ak} (h:l[vs.length]? =some a) (v:V3):qk et em l (vs++[v])=qk et em l vs++mz et em a v:=by
 obtain⟨h1,h2⟩:=List.getElem?_eq_some_iff.1 h;have hl:l=l.take vs.length++a::l.drop (vs.length+1):=by rw[<-h2,<-List.drop_eq_getElem_cons h1,aai]
 have ht:(l.take vs.length).length=vs.length:=by rw[List.length_take];omega
 generalize l.take vs.length=A at hl ht;generalize l.drop (vs.length+1)=B at hl;subst hl;have e:aah (mz et em) (A++a::B) (vs++[])=aah (mz et em) A vs:=by rw[aal ht];simp
 rw[List.append_nil]at e;rw[qk,qk,e,aal ht];simp
end Go.Av
namespace Go.Av
open Go
section
variable {P:Program} {m:Nat} {c:Code} {Q:Exit->St->Ts->Prop} {s:St} {L L2:Ts} {g:Gh} {w:World} {V:List (List CV)} {A:List bu}
end
section
variable {P:Program} {n:Nat} {w0 w w':World} {g0 g g':Gh} {X S S':List Nat} {s s':St} {L L':Ts} {a a':Act} {x y:Code} {all:Array Oper} {ws fs cs:List Nat} {m:Nat} {ex:List Nat} {V0:List (List CV)} {A0:List bu}
def kA (all:Array Oper) (ws fs:List Nat) (m:Nat) (cs:List Nat) (ms:List Nat) (oi oj:Oper) (i j:Nat):Bool:=
 if cs.contains i||cs.contains j then(oi.dst.isNone||oi.dst !=oj.dst)&&((!dk all oi oj && !dk all oj oi)||(ms.getD j 0).testBit i)else cn all ws fs m ms oi oj i j
def lQ (all:Array Oper) (ws fs:List Nat) (m:Nat) (cs:List Nat):Bool:=
 let l:=all.toList.zipIdx
 let ms:=aW all.toList []
 (l.all fun(o,j)=>o.after.toList.all fun e=> !Region.binds .any e||decide (e.on<j))&&
 (l.all fun(oj,j)=>l.all fun(oi,i)=> !(decide (i<j))||kA all ws fs m cs ms oi oj i j)&&
 (l.all fun(o,j)=> !ws.contains j|| !cy o.op)&&(fs.all fun j=> !ws.contains j)&&(fs.all fun j=>ws.all fun i=>decide (i<m)||decide (j<i))
def qI (P:Program) (ow:Nat->Bool) (ws fs:List Nat) (m:Nat) (ex:List Nat) (V0:List (List CV)) (A0:List bu) (cs:List Nat) (K:St->Ts->Prop):Nat->List Oper->St->Ts->Prop
 |_,[],s,L=>K s L
 |i,o::rest,s,L=>(i∈cs/\bN P s L o fun x L'=>qI P ow ws fs m ex V0 A0 cs K (i+1) rest (s.put o.dst x s.V s.A) L')\/
   (i∉cs/\bA P s (ow i) o fun x V A=>(i∈ws\/(V=s.V/\A=s.A))/\(i∈ws->i<m->V.take V0.length=qW ex (fun i=>V.getD i []) V0/\A.take A0.length=A0)/\(i∈fs->c8 P s (ow i) o ex V0 A0 x)/\qI P ow ws fs m ex V0 A0 cs K (i+1) rest (s.put o.dst x V A) L)
def LF (P:Program) (ow:Bool) (fs:List Nat) (j:Nat) (ex:List Nat) (V0:List (List CV)) (A0:List bu) (o:Oper) (s s':St):Prop:=
 ∃x V A,s'=s.put o.dst x V A/\(∀K:AV->List (List CV)->List bu->Prop,K x V A->bA P s ow o K)/\(j∈fs->c8 P s ow o ex V0 A0 x)
def Oc (ws:List Nat) (m:Nat) (ex:List Nat) (V0:List (List CV)) (A0:List bu) (j:Nat) (o:Oper) (s s':St):Prop:=∃x V A,s'=s.put o.dst x V A/\(j∈ws\/(V=s.V/\A=s.A))/\(j∈ws->j<m->V.take V0.length=qW ex (fun i=>V.getD i []) V0/\A.take A0.length=A0)
theorem o8 {ow:Nat->Bool} {K:St->Ts->Prop}:∀(ops:List Oper) (i:Nat) (s:St) (L:Ts),qI P ow ws fs m ex V0 A0 cs K i ops s L->
  ∃(τ:Nat->St) (q:Nat),q<=ops.length/\τ 0=s/\(∀(j:Nat) o,j<q->ops[j]? =some o->LF P (ow (i+j)) fs (i+j) ex V0 A0 o (τ j) (τ (j+1))/\Oc ws m ex V0 A0 (i+j) o (τ j) (τ (j+1))/\i+j∉cs)/\
   ((q=ops.length/\K (τ q) L)\/(i+q∈cs/\∃o,ops[q]? =some o/\bN P (τ q) L o fun x L'=>qI P ow ws fs m ex V0 A0 cs K (i+q+1) (ops.drop (q+1)) ((τ q).put o.dst x (τ q).V (τ q).A) L'))
 |[],i,s,L,h=>⟨fun _=>s,0,aas _,rfl,fun j o hj=>by omega,.inl ⟨rfl,h⟩⟩
 |o::rest,i,s,L,h=>by
  rcases h with⟨h1,h2⟩|⟨h1,h2⟩
  ·exact⟨fun _=>s,0,by simp,rfl,fun j o hj=>by omega,.inr ⟨h1,o,rfl,h2⟩⟩
  ·obtain⟨x,V,A,⟨h3,Nr,E7,h4⟩,h5⟩:=jg h2;obtain⟨τ,q,k1,k2,k3,k4⟩:=o8 rest (i+1) _ L h4;refine⟨fun j=>match j with|0=>s|j+1=>τ j,q+1,by simp;omega,rfl,fun j o' hj ho=>?_,?_⟩
   ·cases j with
    |zero=>
     simp at ho;subst ho;exact⟨⟨x,V,A,k2,h5,E7⟩,⟨x,V,A,k2,h3,Nr⟩,h1⟩
    |succ j=>
     simp at ho;have:=k3 j o' (by omega) ho;rwa[show i+1+j=i+(j+1) by omega]at this
   ·rcases k4 with⟨k5,k6⟩|⟨k5,o',k6,k7⟩
    ·exact .inl ⟨by simp[k5],k6⟩
    ·refine .inr ⟨by rw[show i+(q+1)=i+1+q by omega];exact k5,o',by simpa using k6,?_⟩;rw[show i+(q+1)+1=i+1+q+1 by omega];exact k7
structure BN (all:Array Oper) (ws:List Nat) (m:Nat) (ex:List Nat) (V0:List (List CV)) (A0:List bu) (σ:Nat->St) (c:Nat):Prop where
 le:c<=all.size
 v0:(σ 0).V=V0/\(σ 0).A=A0
 tr:∀(j:Nat) o,j<c->all[j]? =some o->Oc ws m ex V0 A0 j o (σ j) (σ (j+1))
theorem BN.SU {σ:Nat->St} {c:Nat} (h:BN all ws m ex V0 A0 σ c):Fl all ws σ c:=⟨h.le,fun j o hj ho=>by
 obtain⟨x,V,A,h1,h2,_⟩:=h.tr j o hj ho;exact⟨x,V,A,h1,h2⟩⟩
theorem BN.pre {σ:Nat->St} {c:Nat} (h:BN all ws m ex V0 A0 σ c):∀k,k<=m->k<=c->Kq ex V0 A0 (σ k):=by
 intro k;induction k with
 |zero=>
  intro _ _;refine⟨?_,by rw[h.v0.2];simp⟩;rw[h.v0.1,oV];simp
 |succ k ih=>
  intro h1 h2;have hle:=h.le;obtain⟨x,V,A,q1,q2,q3⟩:=h.tr k _ (by omega) (aav (by omega));have hV:(σ (k+1)).V=V:=by rw[q1];rfl
  have hA:(σ (k+1)).A=A:=by rw[q1];rfl
  by_cases hw:k∈ws
  ·have:=q3 hw (by omega);exact⟨by rw[hV];exact this.1,by rw[hA];exact this.2⟩
  ·rcases q2 with q2|⟨q2,q4⟩
   ·exact absurd q2 hw
   ·have:=ih (by omega) (by omega);exact⟨by rw[hV,q2];exact this.1,by rw[hA,q4];exact this.2⟩
set_option maxHeartbeats 2000000 in
theorem Fu {ow:Nat->Bool} (hd:lQ all ws fs m cs=true) (Ly:∀(j:Nat) o,all[j]? =some o->o.guard=none) (e5:cP n all.toList=true) {σ:Nat->St} {c:Nat} (Px:BN all ws m ex V0 A0 σ c) (Jq:∀i∈cs,i∉ws) (ML:∀i∈cs,i∉fs) {af:Array Bool} {k0:Nat} (hD:xN all ws σ n w g af k0 g a w) (gx:k0<=c) (mR:∀i,af[i]? =some true->i<c)
  {j:Nat} (hj:j∈Region.ready .any all af) (D8:j<=c) {o:Oper} (ho:all[j]? =some o) {next:Act->World->Prop} {Q:Exit->Act->World->Prop}:
  (j<c->j∉cs->LF P (ow j) fs j ex V0 A0 o (σ j) (σ (j+1))->(∀k1 v g' w',k1<=c->xN all ws σ n w' g' (af.setIfInBounds j true) k1 g' (a.put o.dst v) w'->Fr w g w' g'->next (a.put o.dst v) w')->wpOp P all Q j next a w)/\
  (j=c->cy o.op=false->j∉ws->Jb w0 g0 X L S g w->(∀K:AV->Ts->Prop,bN P (σ j) L o K->(∀x L' S' v g' w',K x L'->(∀σ':Nat->St,(∀i,i<=c->σ' i=σ i)->σ' (c+1)=(σ c).put o.dst x (σ c).V (σ c).A->xN all ws σ' n w' g' (af.setIfInBounds j true) k0 g' (a.put o.dst v) w')->Jb w0 g0 X L' S' g' w'->next (a.put o.dst v) w')->wpOp P all Q j next a w)):=by
 have hT:=Px.SU;simp only[lQ,aay,aaf]at hd;obtain⟨⟨⟨⟨gE,oG⟩,vp⟩,ID⟩,IE⟩:=hd;have cD:∀(j:Nat) o,all[j]? =some o->(o,j)∈all.toList.zipIdx:=fun j o h=>by
  rw[aaj];exact⟨j,by simp[aak,h]⟩
 have cK:∀(j:Nat) o,all[j]? =some o->∀e∈o.after,Region.binds .any e=true->e.on<j:=fun j o h e he hb=>by
  have:=gE _ (cD j o h) e (aaw.2 he);simpa[hb]using this
 have rh:∀(i j:Nat) oi oj,all[i]? =some oi->all[j]? =some oj->i<j->kA all ws fs m cs (aW all.toList []) oi oj i j=true:=fun i j oi oj h1 h2 ax=>by
  have:=oG _ (cD j oj h2) _ (cD i oi h1);simpa[ax]using this
 have fC:∀(i j:Nat) oi oj,all[i]? =some oi->all[j]? =some oj->i<j->i∉cs->j∉cs->cn all ws fs m (aW all.toList []) oi oj i j=true:=fun i j oi oj h1 h2 ax hi hj=>by
  have:=rh i j oi oj h1 h2 ax;simpa[kA,hi,hj]using this
 have bU:∀(i j:Nat) oi oj,all[i]? =some oi->all[j]? =some oj->i<j->i∉cs->j∉cs->i∉fs->j∉fs->bj all ws (aW all.toList []) oi oj i j=true:=fun i j oi oj h1 h2 ax hi hj Gf ni=>by
  have:=fC i j oi oj h1 h2 ax hi hj;simpa[cn,bj,Gf,ni]using this
 have Hy:∀(i j:Nat) oi oj,all[i]? =some oi->all[j]? =some oj->i<j->(dk all oi oj=true\/dk all oj oi=true)->((aW all.toList []).getD j 0).testBit i=true:=fun i j oi oj h1 h2 ax ht=>by
  have:=rh i j oi oj h1 h2 ax;simp only[kA]at this;split at this
  ·simp only[aay,aaz]at this;rcases this.2 with h|h
   ·rcases ht with ht|ht<;>simp[ht]at h
   ·exact h
  ·simp only[cn,aay,aaz]at this;rcases this.2 with h|h
   ·rcases ht with ht|ht<;>simp[ht]at h
   ·exact h
 have lI:∀i,i∈ws->i∉fs:=fun i hi hf=>by
  have:=ID i hf;simp[hi]at this
 have Od:∀i,i∈ws->i∉cs:=fun i hi hc=>Jq i hc hi
 have CJ:=Px.pre;have ui:∀(j:Nat) o,all[j]? =some o->j∈ws->cy o.op=false:=fun j o h hj=>by
  have:=vp _ (cD j o h);simpa[hj]using this
 have fA:∀(i j:Nat) oi oj d,all[i]? =some oi->all[j]? =some oj->i<j->oi.dst=some d->oj.dst≠some d:=fun i j oi oj d h1 h2 ax h3 h4=>by
  have:=rh i j oi oj h1 h2 ax;simp only[kA,cn,h3,h4]at this;split at this<;>simp at this
 have qU:∀(i j:Nat) oi oj d,all[i]? =some oi->all[j]? =some oj->oi.dst=some d->oj.dst=some d->i=j:=fun i j oi oj d h1 h2 h3 h4=>by
  rcases aao i j with h|h|h
  ·exact absurd h4 (fA i j oi oj d h1 h2 h h3)
  ·exact h
  ·exact absurd h3 (fA j i oj oi d h2 h1 h h4)
 have zt:∀(j:Nat) o d,all[j]? =some o->o.dst=some d->d<n:=fun j o d h1 h2=>by
  have:=aaf.1 e5 o (by rw[aaw];exact Array.mem_of_getElem? h1);simpa[h2]using this
 obtain⟨F8,_,ye⟩:=e6 all.toList []
 have mj:∀{af:Array Bool},(∀(i:Nat) o,all[i]? =some o->af[i]? =some true->∀e∈o.after,Region.binds .any e=true->af[e.on]? =some true)->
   ∀(i:Nat) o,all[i]? =some o->(∀e∈o.after,Region.binds .any e=true->af[e.on]? =some true)->∀k,((aW all.toList []).getD i 0).testBit k=true->af[k]? =some true:=by
  intro af j3 i;induction i using aat with
  |_ i ih=>
   intro o ho cm k hk;obtain⟨pre,h1,h2,h3⟩:=ye i o (by simpa using ho);simp only[List.length_nil,aar]at h1 h3;have h4:(aW all.toList []).getD i 0=mi pre o:=by simp[List.getD,h3]
   rw[h4]at hk;obtain⟨e,he,hb,h5⟩:=fz hk;have sI:=cm e he hb;rcases h5 with rfl|h5
   ·exact sI
   ·have ax:=cK i o ho e he hb;have h6:pre.getD e.on 0=(aW all.toList []).getD e.on 0:=by simp only[List.getD,h2 e.on (by omega)]
    rw[h6]at h5;have eP:e.on<all.size:=by have:=(aau.1 ho).1;omega
    have uj:all[e.on]? =some all[e.on]:=aav eP;exact ih e.on ax _ uj (j3 e.on _ uj sI) k h5
 have IG:=hT.le;have om:=hT.NW;have oo:=hT.NX qU;have s4:=hT.VA;obtain⟨ml,o2,l7,cm⟩:=mem_ready.1 hj;obtain rfl:o=o2:=by rw[ho]at l7;exact Option.some.inj l7
 have mo:=dU ml;have rv:j<all.size:=(aau.1 ho).1;have iP:j<af.size:=by rw[hD.er];exact rv
 have ch:∀e∈o.after,Region.binds .any e=true->af[e.on]? =some true:=fun e he hb=>cl.1 (cm e he hb)
 have ca:∀k,((aW all.toList []).getD j 0).testBit k=true->af[k]? =some true:=mj hD.closed j o ho ch;have bR:∀(i:Nat) oi,all[i]? =some oi->af[i]? =some true->((aW all.toList []).getD i 0).testBit j=false:=fun i oi aU bt=>by
  cases hb:((aW all.toList []).getD i 0).testBit j with
  |false=>rfl
  |true=>have:=mj hD.closed i oi aU (hD.closed i oi aU bt) j hb;rw[mo]at this;simp at this
 have jh:∀t∈o.looksAt all,∀x,look (σ j).fr t=some x->∃u,a.tmps[t]? =some u/\aR g w (σ k0).A x u:=by
  intro t ht x hx;by_cases hex:∃(i:Nat) (oi:Oper),i<j/\all[i]? =some oi/\oi.dst=some t
  ·obtain⟨i,oi,kK,aU,b7⟩:=hex;rw[oo j i oi t (by omega) kK aU b7]at hx;have s5:dk all oi o=true:=by simp only[dk,b7];simpa using ht
   have hb:((aW all.toList []).getD j 0).testBit i=true:=Hy i j oi o aU ho kK (.inl s5);exact hD.fH i oi t x aU (ca i hb) b7 hx
  ·rw[om j t (by omega) (fun i oi kK aU b7=>hex ⟨i,oi,kK,aU,b7⟩)]at hx;refine hD.fI t x (fun i oi aU bt b7=>?_) hx;rcases aao i j with h|h|h
   ·exact hex ⟨i,oi,h,aU,b7⟩
   ·subst h;rw[mo]at bt;simp at bt
   ·have s5:dk all oi o=true:=by simp only[dk,b7];simpa using ht
    have hb:=bR i oi aU bt;rw[Hy j i o oi ho aU h (.inr s5)]at hb;simp at hb
 let cB:=(σ j).fr.filter fun p=>(o.looksAt all).contains p.1
 have mJ:∀t,look cB t=if(o.looksAt all).contains t then look (σ j).fr t else none:=fun t=>eX (fun t=>(o.looksAt all).contains t) (σ j).fr t
 have hS:∀(V:List (List CV)),gU g w ⟨cB,V,(σ k0).A⟩ a:=fun V t x hx=>by
  simp only[mJ]at hx;split at hx
  ·rename_i hc;exact jh t (by simpa using hc) x hx
  ·cases hx
 have gd:∀(V V':List (List CV)) (A A':List bu),∀x∈o.op.operands.toList,bw ⟨cB,V,A⟩ x=bw ⟨(σ j).fr,V',A'⟩ x:=fun V V' A A' x hx=>by
  cases x with
  |tmp t=>
   simp only[bw,mJ];rw[if_pos];simp only[Oper.looksAt,List.contains_eq_mem,decide_eq_true_eq,List.mem_append,List.mem_filterMap];exact .inl ⟨.tmp t,hx,rfl⟩
  |_=>rfl
 have gg:Rp n w g ⟨cB,(σ k0).V,(σ k0).A⟩ g a w:=⟨hD.inv,hD.fr,hD.size,hD.defers,hS _⟩;have kV:Region.wanted o (yielded all a.tmps)=true:=by simp[Region.wanted,Ly j o ho]
 have bH:∀i,(af.setIfInBounds j true)[i]? =if i=j then some true else af[i]? :=fun i=>by
  by_cases e:i=j
  ·subst e;simp[iP]
  ·rw[if_neg e,aax (fun h=>e h.symm)]
 have cz:∀(σ':Nat->St) (k1:Nat) (x:AV) (v:Value) (w':World) (g':Gh),(∀i,i<=c->σ' i=σ i)->look (σ' (j+1)).fr=look ((σ j).put o.dst x [] []).fr->aR g' w' (σ k1).A x v->Inv g' w' (σ k1).V (σ k1).A->Ext g w (σ k0).A g' w' (σ k1).A->As w' g'->k1<=c->(k1=0\/∃i∈ws,k1=i+1)->
   (∀i∈ws,i<all.size->((af.setIfInBounds j true)[i]? =some true↔i<k1))->xN all ws σ' n w' g' (af.setIfInBounds j true) k1 g' (a.put o.dst v) w':=by
  intro σ' k1 x v w' g' hσ Cm x9 hI hx hF hk Li E2;have ij:∀t u,o.dst≠some t->a.tmps[t]? =some u->(a.put o.dst v).tmps[t]? =some u:=fun t u cY hu=>by
   cases qQ:o.dst with
   |none=>exact hu
   |some d=>
    simp only[Act.put];rw[aax (fun e=>cY (by rw[qQ,e]))];exact hu
  refine⟨by rw[hσ k1 hk];exact hI,.refl hF,?_,?_,by simp[hD.er],fun i oi t y aU bt b7 hy=>?_,fun t y gQ hy=>?_,E2,by omega,Li,fun i oi aU bt e he hb=>?_⟩
  ·cases o.dst<;>simp[Act.put,hD.size]
  ·cases o.dst<;>simp[Act.put,hD.defers]
  ·rw[hσ k1 hk];rw[bH]at bt;by_cases e:i=j
   ·subst e;obtain rfl:o=oi:=by rw[ho]at aU;exact Option.some.inj aU
    rw[Cm]at hy;simp only[St.put,b7,look,if_true]at hy;cases hy
    refine⟨v,?_,x9⟩;have:t<a.tmps.size:=by rw[hD.size];exact zt i o t ho b7
    simp[Act.put,b7,this]
   ·rw[if_neg e]at bt;rw[hσ (i+1) (mR i bt)]at hy;obtain⟨u,h1,h2⟩:=hD.fH i oi t y aU bt b7 hy;exact⟨u,ij t u (fun h=>e (qU i j oi o t aU ho b7 h)) h1,aR.ext hx h2⟩
  ·rw[hσ k1 hk];rw[hσ 0 (aaq _)]at hy;have cY:o.dst≠some t:=gQ j o ho (by rw[bH,if_pos rfl]);obtain⟨u,h1,h2⟩:=hD.fI t y (fun i oi aU bt=>gQ i oi aU (by
    rw[bH];by_cases e:i=j
    ·rw[if_pos e]
    ·rw[if_neg e];exact bt)) hy
   exact⟨u,ij t u cY h1,aR.ext hx h2⟩
  ·rw[bH]at bt⊢;have:af[e.on]? =some true:=by
    by_cases e':i=j
    ·subst e';obtain rfl:o=oi:=by rw[ho]at aU;exact Option.some.inj aU
     exact ch e he hb
    ·rw[if_neg e']at bt;exact hD.closed i oi aU bt e he hb
   by_cases e':e.on=j
   ·rw[if_pos e']
   ·rw[if_neg e'];exact this
 have gH:j∉ws->∀i∈ws,i<all.size->((af.setIfInBounds j true)[i]? =some true↔i<k0):=fun ea i hi b4=>by
  rw[bH,if_neg (fun e=>ea (by rw[<-e];exact hi))];exact hD.dT i hi b4
 have jU:cy o.op=false->j∉fs->j∉cs->(σ j).V=(σ k0).V/\(σ j).A=(σ k0).A:=by
  intro fq ni C5;rcases Nat.le_total j k0 with h|h
  ·have:=s4 k0 j h gx (fun i h1 h2 h3=>by
    have b4:i<all.size:=by omega
    have bt:=(hD.dT i h3 b4).2 h2;have aU:all[i]? =some all[i]:=aav b4;rcases aap j i with h4|h4
    ·have hp:=bU j i o _ ho aU h4 C5 (Od i h3) ni (lI i h3);have hb:=bR i _ aU bt;simp only[bj,hb,aay,aaz]at hp;simp[h3,fq,-cy]at hp
    ·obtain rfl:i=j:=by omega
     rw[mo]at bt;simp at bt)
   exact⟨this.1.symm,this.2.symm⟩
  ·exact s4 j k0 h D8 (fun i h1 h2 h3=>by
    have b4:i<all.size:=by omega
    have aU:all[i]? =some all[i]:=aav b4;have hp:=bU i j _ o aU ho h2 (Od i h3) C5 (lI i h3) ni;simp only[bj,aay,aaz]at hp;have hb:((aW all.toList []).getD j 0).testBit i=true:=by
     rcases hp.2 with h4|h4
     ·simp[h3,fq,-cy]at h4
     ·exact h4
    have:=(hD.dT i h3 b4).1 (ca i hb);omega)
 unfold wpOp;simp only[ho];rw[if_pos kV];refine⟨fun ly C5 jt ih=>.inl ?_,fun ly fq ea hJ K gV ih=>.inl ?_⟩
 ·obtain⟨x,V,A,h2,h3,E7⟩:=jt;have oz:look (σ (j+1)).fr=look ((σ j).put o.dst x [] []).fr:=by rw[h2];rfl
  by_cases hs:cy o.op=true
  ·-- slots alone
   have ea:j∉ws:=fun h=>by have:=ui j o ho h;rw[hs]at this;simp at this
   have h4:bA P ⟨cB,(σ k0).V,(σ k0).A⟩ (ow j) o (fun y V' A'=>y=x/\V'=(σ k0).V/\A'=(σ k0).A):=mW (s:=σ j) (s':=⟨cB,(σ k0).V,(σ k0).A⟩) hs (gd _ _ _ _) h3 ⟨rfl,rfl,rfl⟩;obtain⟨y,V',A',⟨rfl,rfl,rfl⟩,h5⟩:=cW gg.inv gg.fr gg.slot h4;exact h5 _ _ fun v w' g' h6 h7 h8 h9=>ih k0 v g' w' gx (cz σ k0 y v w' g' (fun _ _=>rfl) oz h6 h7 h8 h9.now gx hD.kw (gH ea)) h9
  ·have fq:cy o.op=false:=by simpa[-cy]using hs
   by_cases ni:j∈fs
   ·have ea:j∉ws:=fun h=>lI j h ni
    have CK:k0<=m:=by
     rcases hD.kw with h|⟨i,hi,hk⟩
     ·omega
     ·rcases aap i m with h|h
      ·omega
      ·exfalso
       have b4:i<all.size:=by have:=hD.mX;omega
       have aU:all[i]? =some all[i]:=aav b4;have bt:=(hD.dT i hi b4).2 (by omega);have Kr:j<i:=by
        have:=IE j ni i hi;simp at this;omega
       have hp:=fC j i o _ ho aU Kr C5 (Od i hi);have hb:=bR i _ aU bt;have sK:¬i<m:=by omega
       simp only[cn,hb,aay,aaz]at hp;simp[-cy,hi,fq,sK,ni,ea]at hp
    obtain⟨yB,zx⟩:=CJ k0 CK gx;have h4:bA P ⟨cB,(σ k0).V,(σ k0).A⟩ (ow j) o (fun y V' A'=>y=x/\V'=(σ k0).V/\A'=(σ k0).A):=by
     have h5:=E7 ni (fun i=>(σ k0).V.getD i []) ((σ k0).V.drop V0.length) ((σ k0).A.drop A0.length);have e1:qW ex (fun i=>(σ k0).V.getD i []) V0++(σ k0).V.drop V0.length=(σ k0).V:=by
      rw[<-yB];exact aai _ _
     have e2:A0++(σ k0).A.drop A0.length=(σ k0).A:=by conv=>lhs;arg 1;rw[<-zx]
                                                      exact aai _ _
     rw[e1,e2]at h5;exact dS (fr:=(σ j).fr) (gd _ _ _ _) h5
    obtain⟨y,V',A',⟨rfl,rfl,rfl⟩,h5⟩:=cW gg.inv gg.fr gg.slot h4;exact h5 _ _ fun v w' g' h6 h7 h8 h9=>ih k0 v g' w' gx (cz σ k0 y v w' g' (fun _ _=>rfl) oz h6 h7 h8 h9.now gx hD.kw (gH ea)) h9
   obtain⟨iG,gX⟩:=jU fq ni C5;have h4:bA P ⟨cB,(σ k0).V,(σ k0).A⟩ (ow j) o (fun y V' A'=>y=x/\V'=V/\A'=A):=by
    rw[<-iG,<-gX];exact dS (fr:=(σ j).fr) (gd _ _ _ _) (h3 _ ⟨rfl,rfl,rfl⟩)
   obtain⟨y,V',A',⟨rfl,rfl,rfl⟩,h5⟩:=cW gg.inv gg.fr gg.slot h4;have sJ:(σ (j+1)).V=V':=by rw[h2];rfl
   have iL:(σ (j+1)).A=A':=by rw[h2];rfl
   by_cases ea:j∈ws
   ·refine h5 _ _ fun v w' g' h6 h7 h8 h9=>ih (j+1) v g' w' ly (cz σ (j+1) y v w' g' (fun _ _=>rfl) oz (by rw[iL];exact h6) (by rw[sJ,iL];exact h7) (by rw[iL];exact h8) h9.now ly (.inr ⟨j,ea,rfl⟩) (fun i hi b4=>?_)) h9
    have aU:all[i]? =some all[i]:=aav b4;rw[bH];by_cases e:i=j
    ·subst e;simp
    ·rw[if_neg e];constructor
     ·intro bt;rcases aap j i with h|h
      ·have hp:=bU j i o _ ho aU h C5 (Od i hi) ni (lI i hi);have hb:=bR i _ aU bt;simp only[bj,hb,aay,aaz]at hp;simp[hi,fq,-cy]at hp
      ·omega
     ·intro ax;have hp:=bU i j _ o aU ho (by omega) (Od i hi) C5 (lI i hi) ni;simp only[bj,aay,aaz]at hp;rcases hp.2 with h|h
      ·simp[hi,fq,-cy]at h
      ·exact ca i h
   ·obtain⟨x2,V2,A2,q1,q2⟩:=hT.tr j o ly ho;rcases q2 with q2|⟨q2,q3⟩
    ·exact absurd q2 ea
    have pG:(σ (j+1)).V=(σ j).V:=by rw[q1];exact q2
    have l7:(σ (j+1)).A=(σ j).A:=by rw[q1];exact q3
    refine h5 _ _ fun v w' g' h6 h7 h8 h9=>ih k0 v g' w' gx (cz σ k0 y v w' g' (fun _ _=>rfl) oz ?_ ?_ ?_ h9.now gx hD.kw (gH ea)) h9
    ·rw[<-gX,<-l7,iL];exact h6
    ·rw[<-iG,<-gX,<-pG,<-l7,sJ,iL];exact h7
    ·have e1:(σ k0).A=A':=by rw[<-gX,<-l7,iL]
     rw[e1]at h8⊢;exact h8
 ·-- the call
  subst ly;have NY:qE n w0 g0 X ⟨cB,(σ k0).V,(σ k0).A⟩ L S g a w:=⟨hD.inv,hJ.fr,hD.size,hD.defers,hS _,hJ.mu,hJ.nd,hJ.out⟩;refine pR NY (o6 (s:=σ j) (ow:=ow j) (gd _ _ _ _) gV) _ _ ?_;rintro x V' A' L' S' v w' g' ⟨rfl,rfl,hk⟩ h6 h7 h8 h9 cv ep fG;refine ih x L' S' v g' w' hk (fun σ' hσ hn=>cz σ' k0 x v w' g' hσ (by rw[hn];rfl) h6 h7 h8 h9.now gx hD.kw (gH ea)) ⟨h9,cv,ep,fG⟩
theorem Fv (hd:lQ all ws fs m cs=true) {σ:Nat->St} (Px:BN all ws m ex V0 A0 σ all.size) {af:Array Bool} {k0:Nat} (hD:xN all ws σ n w g af k0 g a w) (cX:∀i,i<all.size->af[i]? =some true) (hJ:Jb w0 g0 X L S g w):qE n w0 g0 X (σ all.size) L S g a w:=by
 have hT:=Px.SU;simp only[lQ,aay,aaf]at hd;obtain⟨⟨⟨⟨gE,oG⟩,vp⟩,ID⟩,IE⟩:=hd;have cD:∀(j:Nat) o,all[j]? =some o->(o,j)∈all.toList.zipIdx:=fun j o h=>by
  rw[aaj];exact⟨j,by simp[aak,h]⟩
 have cK:∀(j:Nat) o,all[j]? =some o->∀e∈o.after,Region.binds .any e=true->e.on<j:=fun j o h e he hb=>by
  have:=gE _ (cD j o h) e (aaw.2 he);simpa[hb]using this
 have rh:∀(i j:Nat) oi oj,all[i]? =some oi->all[j]? =some oj->i<j->kA all ws fs m cs (aW all.toList []) oi oj i j=true:=fun i j oi oj h1 h2 ax=>by
  have:=oG _ (cD j oj h2) _ (cD i oi h1);simpa[ax]using this
 have ui:∀(j:Nat) o,all[j]? =some o->j∈ws->cy o.op=false:=fun j o h hj=>by
  have:=vp _ (cD j o h);simpa[hj]using this
 have fA:∀(i j:Nat) oi oj d,all[i]? =some oi->all[j]? =some oj->i<j->oi.dst=some d->oj.dst≠some d:=fun i j oi oj d h1 h2 ax h3 h4=>by
  have:=rh i j oi oj h1 h2 ax;simp only[kA,cn,h3,h4]at this;split at this<;>simp at this
 have qU:∀(i j:Nat) oi oj d,all[i]? =some oi->all[j]? =some oj->oi.dst=some d->oj.dst=some d->i=j:=fun i j oi oj d h1 h2 h3 h4=>by
  rcases aao i j with h|h|h
  ·exact absurd h4 (fA i j oi oj d h1 h2 h h3)
  ·exact h
  ·exact absurd h3 (fA j i oj oi d h2 h1 h h4)
 have jU:=hT.VA all.size k0 hD.mX (aas _) (fun i h1 h2 h3=>by have:=(hD.dT i h3 h2).1 (cX i h2);omega);refine⟨by rw[jU.1,jU.2];exact hD.inv,hJ.fr,hD.size,hD.defers,fun t x hx=>?_,hJ.mu,hJ.nd,hJ.out⟩;rw[jU.2];by_cases hex:∃(i:Nat) (o:Oper),all[i]? =some o/\o.dst=some t
 ·obtain⟨i,o,ho,b7⟩:=hex;have hi:=(aau.1 ho).1;rw[hT.NX qU all.size i o t (aas _) hi ho b7]at hx;exact hD.fH i o t x ho (cX i hi) b7 hx
 ·rw[hT.NW all.size t (aas _) (fun i o _ ho b7=>hex ⟨i,o,ho,b7⟩)]at hx;exact hD.fI t x (fun i o ho _ b7=>hex ⟨i,o,ho,b7⟩) hx
theorem BO {ow:Nat->Bool} {K:St->Ts->Prop} {Q:Exit->Act->World->Prop} (hd:lQ all ws fs m cs=true) (hc:kq all ws cs=true) (ML:∀i∈cs,i∉fs) (e5:cP n all.toList=true)
  (hQ:∀s' L' S' g' a' w',K s' L'->qE n w0 g0 X s' L' S' g' a' w'->Q .normal a' w'):
  ∀(fuel:Nat) (σ:Nat->St) (c:Nat) (L:Ts) (S:List Nat) (af:Array Bool) (k0:Nat) (g:Gh) (a:Act) (w:World),((aag all.size).filter fun i=> !af.getD i true).length<=fuel->BN all ws m ex V0 A0 σ c->k0<=c->
   (∀(j:Nat) o,j<c->all[j]? =some o->af[j]? ≠some true->j∉cs/\LF P (ow j) fs j ex V0 A0 o (σ j) (σ (j+1)))->(∀i,af[i]? =some true->i<c)->
   ((c=all.size/\K (σ c) L)\/(c∈cs/\∃o,all[c]? =some o/\bN P (σ c) L o fun x L'=>qI P ow ws fs m ex V0 A0 cs K (c+1) (all.toList.drop (c+1)) ((σ c).put o.dst x (σ c).V (σ c).A) L'))->
   xN all ws σ n w g af k0 g a w->Jb w0 g0 X L S g w->wpAny P .any all Q fuel af a w:=by
 have Ky:=hd;simp only[lQ,aay,aaf]at hd;obtain⟨⟨⟨⟨gE,oG⟩,vp⟩,ID⟩,IE⟩:=hd;have cD:∀(j:Nat) o,all[j]? =some o->(o,j)∈all.toList.zipIdx:=fun j o h=>by
  rw[aaj];exact⟨j,by simp[aak,h]⟩
 have cK:∀(j:Nat) o,all[j]? =some o->∀e∈o.after,Region.binds .any e=true->e.on<j:=fun j o h e he hb=>by
  have:=gE _ (cD j o h) e (aaw.2 he);simpa[hb]using this
 have rh:∀(i j:Nat) oi oj,all[i]? =some oi->all[j]? =some oj->i<j->kA all ws fs m cs (aW all.toList []) oi oj i j=true:=fun i j oi oj h1 h2 ax=>by
  have:=oG _ (cD j oj h2) _ (cD i oi h1);simpa[ax]using this
 have ui:∀(j:Nat) o,all[j]? =some o->j∈ws->cy o.op=false:=fun j o h hj=>by
  have:=vp _ (cD j o h);simpa[hj]using this
 have fA:∀(i j:Nat) oi oj d,all[i]? =some oi->all[j]? =some oj->i<j->oi.dst=some d->oj.dst≠some d:=fun i j oi oj d h1 h2 ax h3 h4=>by
  have:=rh i j oi oj h1 h2 ax;simp only[kA,cn,h3,h4]at this;split at this<;>simp at this
 have qU:∀(i j:Nat) oi oj d,all[i]? =some oi->all[j]? =some oj->oi.dst=some d->oj.dst=some d->i=j:=fun i j oi oj d h1 h2 h3 h4=>by
  rcases aao i j with h|h|h
  ·exact absurd h4 (fA i j oi oj d h1 h2 h h3)
  ·exact h
  ·exact absurd h3 (fA j i oj oi d h2 h1 h h4)
 simp only[kq,aay,aaf]at hc;obtain⟨⟨rJ,zo⟩,Fo⟩:=hc;have Ly:∀(j:Nat) o,all[j]? =some o->o.guard=none:=fun j o h=>by
  have:=zo _ (cD j o h);simpa using this
 have Jq:∀c∈cs,c∉ws:=fun c h=>by simpa using(rJ c h).1
 have NZ:∀c∈cs,∀o,all[c]? =some o->cy o.op=false:=fun c h o ho=>by
  have:=Fo _ (cD c o ho);simpa[h,-cy]using this
 have IF:∀c∈cs,∀(j:Nat) o,all[j]? =some o->c<j->((aW all.toList []).getD j 0).testBit c=true:=fun c h j o ho ax=>by
  have:=(rJ c h).2 _ (cD j o ho);simpa[ax]using this
 have oX:∀{af:Array Bool},Region.ready .any all af=[]->af.size=all.size->∀i,i<all.size->af[i]? =some true:=by
  intro af hr wx i;induction i using aat with
  |_ i ih=>
   intro hi;have ho:all[i]? =some all[i]:=aav hi;have bt:i<af.size:=by omega
   cases hl:af[i]with
   |true=>rw[aav bt,hl]
   |false=>
    exfalso
    have:i∈Region.ready .any all af:=mem_ready.2 ⟨by simp[bt,hl],_,ho,fun e he hb=>cl.2 (ih e.on (cK i _ ho e he hb) (by have:=cK i _ ho e he hb;omega))⟩;rw[hr]at this;simp at this
 have lx:∀{σ:Nat->St} {c:Nat} {L:Ts} {S:List Nat} {af:Array Bool} {k0:Nat} {g:Gh} {a:Act} {w:World},BN all ws m ex V0 A0 σ c->(∀i,af[i]? =some true->i<c)->
   ((c=all.size/\K (σ c) L)\/(c∈cs/\∃o,all[c]? =some o/\bN P (σ c) L o fun x L'=>qI P ow ws fs m ex V0 A0 cs K (c+1) (all.toList.drop (c+1)) ((σ c).put o.dst x (σ c).V (σ c).A) L'))->
   xN all ws σ n w g af k0 g a w->Jb w0 g0 X L S g w->Region.ready .any all af=[]->Q .normal a w:=by
  intro σ c L S af k0 g a w hT mR hK hD hJ hr;have cX:=oX hr hD.er;rcases hK with⟨rfl,hK⟩|⟨vd,o,ho,_⟩
  ·exact hQ _ _ _ _ _ _ hK (Fv Ky hT hD cX hJ)
  ·have b4:=(aau.1 ho).1;have:=mR c (cX c b4);omega
 intro fuel;induction fuel with
 |zero=>
  intro σ c L S af k0 g a w hf hT gx q9 mR hK hD hJ;have kh:Region.ready .any all af=[]:=by
   have h0:((aag all.size).filter fun i=> !af.getD i true)=[]:=List.eq_nil_of_length_eq_zero (by omega);rcases hr:Region.ready .any all af with _|⟨j,r⟩
   ·rfl
   ·have hj:j∈Region.ready .any all af:=by rw[hr];simp
    obtain⟨h1,o,h2,_⟩:=mem_ready.1 hj;have:j∈((aag all.size).filter fun i=> !af.getD i true):=by
     rw[List.mem_filter,aam];exact⟨(aau.1 h2).1,by simp[h1]⟩
    rw[h0]at this;simp at this
  exact⟨kh,lx hT mR hK hD hJ kh⟩
 |succ fuel ih=>
  intro σ c L S af k0 g a w hf hT gx q9 mR hK hD hJ;refine⟨fun hr=>lx hT mR hK hD hJ hr,fun j hj=>?_⟩;obtain⟨ml,o,ho,cm⟩:=mem_ready.1 hj;have mo:=dU ml;have rv:j<all.size:=(aau.1 ho).1;have iP:j<af.size:=by rw[hD.er];exact rv
  have ch:∀e∈o.after,Region.binds .any e=true->af[e.on]? =some true:=fun e he hb=>cl.1 (cm e he hb)
  have bH:∀i,(af.setIfInBounds j true)[i]? =if i=j then some true else af[i]? :=fun i=>by
   by_cases e:i=j
   ·subst e;simp[iP]
   ·rw[if_neg e,aax (fun h=>e h.symm)]
  have cI:((aag all.size).filter fun i=> !(af.setIfInBounds j true).getD i true).length<=fuel:=by
   have ax:((aag all.size).filter fun i=> !(af.setIfInBounds j true).getD i true).length<((aag all.size).filter fun i=> !af.getD i true).length:=by
    have ga:∀i,(!(af.setIfInBounds j true).getD i true)=true->(!af.getD i true)=true:=fun i h=>by
     by_cases e:i=j
     ·subst e;simp[iP]at h
     ·have:(af.setIfInBounds j true).getD i true=af.getD i true:=by
       simp only[Array.getD_eq_getD_getElem?,bH,if_neg e]
      rwa[this]at h
    exact filter_lt ga (aam.2 rv) (by simp[ml]) (by simp[iP])
   omega
  have D8:j<=c:=by
   rcases hK with⟨rfl,_⟩|⟨vd,oc,D9,_⟩
   ·omega
   ·rcases aap c j with h|h
    ·have:=mR c (ny cK hD.closed j o ho ch c (IF c vd j o ho h));omega
    ·exact h
  obtain⟨one1,one2⟩:=Fu (w0:=w0) (g0:=g0) (X:=X) (L:=L) (S:=S) (ow:=ow) Ky Ly e5 hT Jq ML hD gx mR hj D8 ho (next:=wpAny P .any all Q fuel (af.setIfInBounds j true)) (Q:=Q);rcases Nat.lt_or_eq_of_le D8 with ax|rfl
  ·refine one1 ax (q9 j o ax ho (by rw[mo];simp)).1 (q9 j o ax ho (by rw[mo];simp)).2 fun k1 v g' w' gF Je hF=>ih σ c L S _ k1 g' _ w' cI hT gF (fun i oi hi aU bt=>q9 i oi hi aU fun h=>bt ?_) (fun i hi=>?_) hK Je (hJ.cB hF)
   ·rw[bH];by_cases e:i=j
    ·rw[if_pos e]
    ·rw[if_neg e];exact h
   ·rw[bH]at hi;by_cases e:i=j
    ·subst e;exact ax
    ·rw[if_neg e]at hi;exact mR i hi
  ·rcases hK with⟨h,_⟩|⟨vd,oc,D9,gV⟩
   ·omega
   obtain rfl:o=oc:=by rw[ho]at D9;exact Option.some.inj D9
   refine one2 rfl (NZ j vd o ho) (Jq j vd) hJ _ gV fun x L' S' v g' w' hk N0 N1=>?_
   obtain⟨τ,m,k1,k2,k3,k4⟩:=o8 _ _ _ _ hk;have hlen:(all.toList.drop (j+1)).length=all.size-(j+1):=by simp
   let σ':Nat->St:=fun i=>if i<=j then σ i else τ (i-(j+1))
   have e1:∀i,i<=j->σ' i=σ i:=fun i hi=>by simp only[σ',if_pos hi]
   have e2:∀i,σ' (j+1+i)=τ i:=fun i=>by simp only[σ',if_neg (show¬j+1+i<=j by omega)];congr 1;omega
   have e3:∀i,(all.toList.drop (j+1))[i]? =all[j+1+i]? :=fun i=>by simp
   have jH:σ' (j+1)=(σ j).put o.dst x (σ j).V (σ j).A:=by rw[<-k2];exact e2 0
   refine ih σ' (j+1+m) L' S' _ k0 g' _ w' cI ⟨by omega,by rw[e1 0 (aaq _)];exact hT.v0,fun i oi hi aU=>?_⟩ (by omega) (fun i oi hi aU bt=>?_) (fun i hi=>?_) ?_ (N0 σ' e1 jH) N1
   ·rcases aao i j with h|h|h
    ·rw[e1 i (by omega),e1 (i+1) (by omega)];exact hT.tr i oi h aU
    ·subst h;obtain rfl:o=oi:=by rw[ho]at aU;exact Option.some.inj aU
     rw[e1 i (by omega),jH];exact⟨x,_,_,rfl,.inr ⟨rfl,rfl⟩,fun h=>absurd h (Jq i vd)⟩
    ·obtain⟨q,rfl⟩:∃q,i=j+1+q:=⟨i-(j+1),by omega⟩;rw[e2 q,show j+1+q+1=j+1+(q+1) by omega,e2 (q+1)];exact(k3 q oi (by omega) (by rw[e3];exact aU)).2.1
   ·rw[bH]at bt;by_cases e:i=j
    ·rw[if_pos e]at bt;simp at bt
    ·rw[if_neg e]at bt;rcases aap i j with h|h
     ·rw[e1 i (by omega),e1 (i+1) (by omega)];exact q9 i oi h aU bt
     ·obtain⟨q,rfl⟩:∃q,i=j+1+q:=⟨i-(j+1),by omega⟩;rw[e2 q,show j+1+q+1=j+1+(q+1) by omega,e2 (q+1)];exact⟨(k3 q oi (by omega) (by rw[e3];exact aU)).2.2,(k3 q oi (by omega) (by rw[e3];exact aU)).1⟩
   ·rw[bH]at hi;by_cases e:i=j
    ·omega
    ·rw[if_neg e]at hi;have:=mR i hi;omega
   ·rcases k4 with⟨h1,h2⟩|⟨h1,oc,h2,h3⟩
    ·exact .inl ⟨by omega,by rw[e2];exact h2⟩
    ·refine .inr ⟨h1,oc,by rw[<-e3];exact h2,?_⟩;rw[e2];rw[List.drop_drop,show j+1+(m+1)=j+1+m+1 by omega]at h3;exact h3
theorem wS {ow:Nat->Bool} {K:St->Ts->Prop} (p:List Nat):∀(ops:List Oper) (i:Nat) (s:St) (L:Ts),qI P ow ws fs m ex V0 A0 cs K i ops s L->qI P ow ws fs m ex V0 A0 cs K i (ops.map (ic p)) s L
 |[],_,_,_,h=>h
 |o::rest,i,s,L,h=>by
  rcases h with⟨h1,h2⟩|⟨h1,h2⟩
  ·exact .inl ⟨h1,pT (o:=o) (fun x L' h=>wS p rest _ _ _ h) h2⟩
  ·exact .inr ⟨h1,fN (o:=o) (fun x V A h=>⟨h.1,h.2.1,h.2.2.1,wS p rest _ _ _ h.2.2.2⟩) h2⟩
theorem TJ.zR {Q:Exit->St->Ts->Prop} {id:Nat} {l:List Oper} (hm:P.follows .mixedOrders=true) (p:List Nat) (ow:Nat->Bool) (ws fs:List Nat) (m:Nat) (ex:List Nat) (cs:List Nat) (hp:jZ l p=true) (hd:lQ (bG l p).toArray ws fs m cs=true) (hc:kq (bG l p).toArray ws cs=true) (ML:(cs.all fun i=> !fs.contains i)=true)
  (h:qI P ow ws fs m ex s.V s.A cs (fun s' L'=>Q .normal s' L') 0 (ee l p) s L):TJ P n (.region id l.toArray true) Q s L:=by
 obtain⟨p1,p2,p3,p4,p5⟩:=iB hp;intro eU w0 g0 X S g a w hR;have C0:cP n (bG l p).toArray.toList=true:=by
  have hx:cP n l=true:=by simpa[codeOk]using eU
  simp only[cP,aaf]at hx⊢;intro o' sG;obtain⟨j,hj⟩:=List.getElem?_of_mem sG;obtain⟨o,q1,rfl,_⟩:=ku hp (j:=j) (o':=o') (by simpa using hj);exact hx o (List.mem_of_getElem? q1)
 obtain⟨τ,m,k1,k2,k3,k4⟩:=o8 (ee l p|>.map (ic p)) 0 s L (wS p _ _ _ _ h);obtain⟨hI,hx⟩:=hR.inv.heap (w':={w with drawn:=w.drawn+1}) rfl;have hF:Fr w g {w with drawn:=w.drawn+1} g:=(Fr.refl hR.fr.now).heap rfl rfl rfl rfl;have hJ:Jb w0 g0 X L S g {w with drawn:=w.drawn+1}:=(Jb.mk hR.fr hR.mu hR.nd hR.out).cB hF;have eP:(bG l p).toArray.size=l.length:=by simp[da,p1]
 have vO:∀(i:Nat),(bG l p).toArray[i]? =(bG l p)[i]? :=fun i=>by simp
 refine wp_region_any hm (re hp _ _ (Array.replicate l.length false) a _ (by simp) (by simp) (fun i=>?_) (BO (ex:=ex) (V0:=s.V) (A0:=s.A) (K:=fun s' L'=>Q .normal s' L') (ow:=ow) hd hc (fun i hi hf=>by have:=aaf.1 ML i hi;simp[hf]at this) C0 (fun s' L' S' g' a' w' h1 h2=>⟨s',g',L',S',h1,h2⟩) _ τ m L S _ 0 g a _ ?_ ?_ (aaq _) ?_ ?_ ?_ ?_ hJ))
 ·simp only[Array.getElem?_replicate];by_cases hi:i<l.length
  ·have:=List.idxOf_lt_length_of_mem (p3 i hi);rw[if_pos (by omega),if_pos (by simpa using hi)]
  ·have N3:i∉p:=fun h=>hi (p2 i h)
   rw[if_neg (by rw[List.idxOf_eq_length N3];omega),if_neg (by simpa using hi)]
 ·refine Nat.le_trans (List.length_filter_le _ _) (by simp[da,p1])
 ·refine⟨by rw[eP,<-p1,<-da (l:=l)];exact k1,by rw[k2];exact⟨rfl,rfl⟩,fun j o hj ho=>?_⟩;have:=(k3 j o hj (by rw[vO]at ho;exact ho)).2.1;simpa only[aar]using this
 ·intro j o hj ho _;have:=And.intro (k3 j o hj (by rw[vO]at ho;exact ho)).2.2 (k3 j o hj (by rw[vO]at ho;exact ho)).1;simpa only[aar]using this
 ·intro i hi;have Au:=(aau.1 hi).1;simp at Au;simp[Au]at hi
 ·rcases k4 with⟨h1,h2⟩|⟨h1,oc,h2,h3⟩
  ·exact .inl ⟨by rw[h1];simp[bG],h2⟩
  ·refine .inr ⟨by simpa using h1,oc,by rw[vO];exact h2,?_⟩;simp only[aar]at h3;exact h3
 ·refine⟨by rw[k2];exact hI,.refl hF.now,hR.size,hR.defers,by simp[da,p1],fun i o t x ho hl=>?_,fun t x _ fW=>?_,fun i _ b4=>?_,aaq _,.inl rfl,fun i o ho hl=>?_⟩
  ·have hi:=(aau.1 hl).1;simp at hi;simp[hi]at hl
  ·rw[k2]at fW⊢;obtain⟨u,h1,h2⟩:=hR.slot t x fW;exact⟨u,h1,aR.ext hx h2⟩
  ·rw[eP]at b4;simp[b4]
  ·have hi:=(aau.1 hl).1;simp at hi;simp[hi]at hl
structure wU (P:Program) (ow:Nat->Bool) (ws fs:List Nat) (m:Nat) (ex:List Nat) (V0:List (List CV)) (A0:List bu) (cs:List Nat) (K:St->Ts->Prop) (i:Nat) (ops:List Oper) (s:St) (L:Ts):Prop where
 mk::
 run:qI P ow ws fs m ex V0 A0 cs K i ops s L
variable {ow:Nat->Bool} {K:St->Ts->Prop} {i:Nat} {o:Oper} {rest:List Oper}
theorem Hz (hi:cs.contains i=false) (h:bA P s (ow i) o fun x V A=>(i∈ws\/(V=s.V/\A=s.A))/\(i∈ws->i<m->V.take V0.length=qW ex (fun i=>V.getD i []) V0/\A.take A0.length=A0)/\(i∈fs->c8 P s (ow i) o ex V0 A0 x)/\wU P ow ws fs m ex V0 A0 cs K (i+1) rest (s.put o.dst x V A) L):wU P ow ws fs m ex V0 A0 cs K i (o::rest) s L:=
 ⟨.inr ⟨by simpa using hi,fN (fun x V A h=>⟨h.1,h.2.1,h.2.2.1,h.2.2.2.run⟩) h⟩⟩
theorem C6 (hi:cs.contains i=true) (h:bN P s L o fun x L'=>wU P ow ws fs m ex V0 A0 cs K (i+1) rest (s.put o.dst x s.V s.A) L'):wU P ow ws fs m ex V0 A0 cs K i (o::rest) s L:=
 ⟨.inl ⟨by simpa using hi,pT (fun x L' h=>h.run) h⟩⟩
theorem Fw (h:K s L):wU P ow ws fs m ex V0 A0 cs K i [] s L:=⟨h⟩
theorem wU.gen {ops:List Oper} {d:Nat} {b:Bool} {fr:List (Nat×AV)} {V:List (List CV)} {A:List bu} (h:∀q:Bool,b=q->wU P ow ws fs m ex V0 A0 cs K i ops ⟨(d,.c (.d (.bool q)))::fr,V,A⟩ L):wU P ow ws fs m ex V0 A0 cs K i ops ⟨(d,.c (.d (.bool b)))::fr,V,A⟩ L:=h b rfl
@[congr] theorem LG {i i':Nat} {ops:List Oper} (hi:i=i') (h:s=s'):wU P ow ws fs m ex V0 A0 cs K i ops s L=wU P ow ws fs m ex V0 A0 cs K i' ops s' L:=by rw[h,hi]
theorem TJ.UB {Q:Exit->St->Ts->Prop} {id:Nat} {l:List Oper} (hm:P.follows .mixedOrders=true) (p:List Nat) (ow:Nat->Bool) (ws fs:List Nat) (m:Nat) (ex:List Nat) (cs:List Nat) (hp:jZ l p=true) (hd:lQ (bG l p).toArray ws fs m cs=true) (hc:kq (bG l p).toArray ws cs=true) (ML:(cs.all fun i=> !fs.contains i)=true)
  (h:∀K:St->Ts->Prop,(∀s' L',TJ P n y Q s' L'->K s' L')->wU P ow ws fs m ex s.V s.A cs K 0 (ee l p) s L):TJ P n (.seq (.region id l.toArray true) y) Q s L:=
 TJ.seq (TJ.zR hm p ow ws fs m ex cs hp hd hc ML (h _ fun _ _ h=>h).run)
end
end Go.Av
namespace Go.Av
attribute [-simp] Go.Av.bP Go.Av.eu Go.Av.eN Go.Av.eG Go.Av.b8 Go.Av.bN
open Go
section
variable {P:Program} {n:Nat} {Q:Exit->St->Prop} {s:St}
def Rb (P:Program) (o1 o2:Oper) (K:St->Prop) (s:St):Prop:=
 ∃(t e:TypeId) (x lo:Operand) (d1:Nat) (ty:TypeId) (cs:Array Bool) (d de:TD) (z:List CV) (dz:List DV) (k m:Nat) (ki:IntKind) (i:Int) (r:bu),
  (o1.op=.slice t x (some lo) none none/\o1.dst=some d1/\o1.guard=none/\(∀(a:Act) (w:World),(execOp a.eval o2).run P w=(builtin .clear #[t] ty cs #[a.eval (.tmp d1)]).run P w)/\o2.guard=none)/\
  look s.fr d1=none/\(∀d2,o2.dst=some d2->look s.fr d2=none)/\td P t=some d/\d.el=some e/\td P e=some de/\de.zero=some z/\hP [] z=some dz/\z.length=de.sz/\0<de.sz/\
  bw s x=some (.c (.own k m))/\bw s lo=some (.c (.d (.int ki i)))/\0<=i/\i.toNat<m/\s.A[k]? =some r/\m=r.rows.length/\r.wr=true/\r.sz=de.sz/\
  K ⟨s.fr,s.V,s.A.set k {r with rows:=r.rows.take i.toNat++List.replicate (m-i.toNat) dz}⟩
end
section
variable {P:Program} {n:Nat} {Q:Exit->St->Prop} {s s':St} {y:Code}
structure Oe (P:Program) (all:Array Oper) (ow:Nat->Bool) (wv wa fs:List Nat) (m:Nat) (ex:List Nat) (V0:List (List CV)) (A0:List bu) (K:St->Prop) (i:Nat) (ops:List Oper) (s:St):Prop where
 mk::
 run:Hg P all ow wv wa fs m ex V0 A0 K i ops s
@[congr] theorem LH {all:Array Oper} {ow:Nat->Bool} {wv wa fs:List Nat} {m:Nat} {ex:List Nat} {V0:List (List CV)} {A0:List bu} {K:St->Prop} {i i':Nat} {ops:List Oper} (hi:i=i') (h:s=s'):Oe P all ow wv wa fs m ex V0 A0 K i ops s=Oe P all ow wv wa fs m ex V0 A0 K i' ops s':=by rw[h,hi]
end
end Go.Av
