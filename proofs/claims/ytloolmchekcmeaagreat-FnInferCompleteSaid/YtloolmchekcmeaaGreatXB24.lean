/- A part. -/
import Derived.Test.YtloolmchekcmeaaGreatXB23
import Derived.LaidEql
set_option linter.unusedVariables false
set_option linter.unusedSimpArgs false
open List renaming range->acp,append_assoc->acq,nodup_cons->acr,all_eq_true->acs,all_cons->acu,mem_of_getElem?->acv,mem_append->acw,map_cons->acx,mem_range->acz,mem_iff_getElem?->acA,mem_cons->acB,map_toArray->acC,map_nil->acD,length_nil->acE,length_cons->acF,getElem?_zipIdx->acG,getElem?_set->acH,getElem?_of_mem->acI,getElem?_eq_some_iff->acJ,contains_eq_mem->acK
open Bool renaming and_eq_true->acL,or_eq_true->acM,eq_iff_iff->acN
open Nat renaming lt_or_ge->acO,le_refl->acP,zero_add->acQ,lt_trichotomy->acR,zero_le->acS,strongRecOn->acT
open Array renaming getElem?_eq_some_iff->acU,getElem?_eq_getElem->acV,mem_toList_iff->acW,getElem?_setIfInBounds_ne->acX
open Option renaming bind_some->acY
namespace Go.Av
attribute [-simp] Go.Av.cj Go.Av.e0 Go.Av.fH Go.Av.fy Go.Av.cW Go.Av.cg Go.Av.IT.jQ Go.Av.IT.fJ Go.Av.IT.fi Go.Av.IT.jv Go.Av.IT.jR Go.Av.IT.jS Go.Av.IT.jT Go.Av.IT.jU Go.Av.IT.gv Go.Av.hM
open Go
def fp:Value->Nat->Value
 |.pointer (some ⟨b,o,k⟩),off=>.pointer (some ⟨b,o+off,k⟩)
 |v,_=>v
def Ld:CV->Option DV
 |.d x=>if x.kD=true then some x else none
 |.np=>some (.raw (.pointer none))
 |.nil=>some (.raw (.slice none 0 0))
 |_=>none
def CN:List CV->Option (List DV)
 |[]=>some []
 |c::r=>match Ld c,CN r with
  |some x,some l=>some (x::l)
  |_,_=>none
theorem Fg {g:Gh} {w:World} {A:List bu} {im:Nat->Nat} {w':World} {c:CV} {x:DV} {u:Value} (h:Ld c=some x) (hr:bn g w A c u):bh im w' x u:=by
 cases c with
 |d y=>
  simp only[Ld]at h;split at h
  ·rename_i hs;simp at h;subst h;exact DV.sK hs hr
  ·simp at h
 |np=>simp only[Ld,Option.some.injEq]at h;subst h;exact⟨hr,by simp only[bn]at hr;subst hr;rfl⟩
 |nil=>simp only[Ld,Option.some.injEq]at h;subst h;exact⟨hr,by simp only[bn]at hr;subst hr;rfl⟩
 |_=>simp[Ld]at h
theorem xV:∀{cs:List CV} {ds:List DV},CN cs=some ds->ds.length=cs.length
 |[],ds,h=>by simp[CN]at h;subst h;rfl
 |c::r,ds,h=>by
  simp only[CN]at h;split at h
  ·rename_i x l h1 h2;simp at h;subst h;simp[xV h2]
  ·simp at h
theorem Fh:∀{cs:List CV} {ds:List DV},CN cs=some ds->∀{j:Nat} {c x},cs[j]? =some c->ds[j]? =some x->Ld c=some x
 |[],ds,h,j,c,x,h1,_=>by simp at h1
 |y::r,ds,h,j,c,x,h1,h2=>by
  simp only[CN]at h;split at h
  ·rename_i a l h3 h4;simp at h;subst h;cases j with
   |zero=>simp at h1 h2;subst h1;subst h2;exact h3
   |succ j=>exact Fh h4 (by simpa using h1) (by simpa using h2)
  ·simp at h
section
variable {P:Program} {n:Nat} {s:St} {L L2:Ts} {all:Array Oper} {ow:Nat->Bool} {K:St->Ts->Prop} {i:Nat} {o:Oper} {rest:List Oper}
theorem iG.node {w:World} {T:TypeId} {row:List DV} {pv:Value} {S:List Nat} (h:iG w L S) (hm:(.n T row,pv)∈L):
  ∃b xs,pv=.pointer (some ⟨b,0,none⟩)/\b∈S/\w.heap[b]? =some (.cells xs T (0,0))/\xs.size=row.length/\∀(j:Nat) x u,row[j]? =some x->xs[j]? =some u->bh (fun _=>0) w x u:=by
 obtain⟨S',h1,h2⟩:=h.at_ hm;simp only[Tr]at h1;obtain⟨b,xs,rfl,h3,h4,h5,rfl⟩:=h1;exact⟨b,xs,rfl,h2 b (by simp),h3,h4,h5⟩
theorem vp {t:TypeId} {d:TD} {x y:Operand} {off:Nat} {T:TypeId} {row:List DV} {pv:Value} {c:CV} {e:DV} (hg:o.guard=none) (ho:o.op=.store t x y) (hd:td P t=some d) (e5:d.sz=1)
  (hx:bF s x=some (.c (.d (.raw (fp pv off))))) (hy:bF s y=some (.c c)) (hc:Ld c=some e) (hp:L.Perm ((.n T row,pv)::L2)) (R2:off<row.length)
  (hK:kE P n all ow K (i+1) rest (s.put o.dst (.c .undef) s.V s.A) ((.n T (row.set off e),pv)::L2)):kE P n all ow K i (o::rest) s L:=by
 refine⟨fun vU w0 g0 X S g a w Q hR hQ=>?_⟩;simp only[da,acu,acL]at vU;have fc:∀d,o.dst=some d->d<n:=fun d e=>by have:=vU.1;rw[e]at this;simpa using this
 obtain⟨S0,vM,EY⟩:=hR.nC.perm hp;obtain⟨S1,S2,rfl,lV,At⟩:=EY;simp only[Tr]at lV;obtain⟨b,xs,rfl,hh,Jj,hr,rfl⟩:=lV;have oO:=vM.nodup_iff.1 hR.nd;have jB:=fun b hb=>hR.out b (vM.mem_iff.2 hb)
 obtain⟨th,HO,Pd,TH,Pe⟩:=jB b (by simp);have hv:=aJ hR.slot hx;simp only[aO,dK,bn,bh]at hv;have hu:=aJ hR.slot hy;simp only[aO,dK]at hu;have TI:=Fg (im:=fun _=>0) (w':=w) hc hu;have R3:(a.eval y).oneCell'=true:=TI.l5;have nJ:(a.eval y).cells= #[a.eval y]:=by
  cases hq:a.eval y<;>first|rfl|(rw[hq]at R3;simp[Value.oneCell']at R3)
 have fC:=lB (P:=P) hd (v:=a.eval y) (by rw[nJ,e5];rfl) hh (off:=off) (by rw[e5];omega) (fun u hu=>by rw[nJ]at hu;simp at hu;subst hu;exact R3);have OI:(b9 xs.toList off (a.eval y).cells.toList).toArray=xs.setIfInBounds off (a.eval y):=by
  rw[nJ];apply Array.ext';simp only[Array.toList_setIfInBounds];apply List.ext_getElem?;intro j;rw[gj (by simp;omega),acH];simp only[acF,acE,acQ,Array.length_toList];by_cases hj:off=j
  ·subst hj;rw[if_pos ⟨acP _,by omega⟩,if_pos rfl,if_pos (by omega),Nat.sub_self];rfl
  ·rw[if_neg (by omega),if_neg hj]
 rw[OI]at fC;have Vo:b<w.heap.size:=(acU.1 hh).1;unfold wpList;rw[if_pos (by simp[Region.wanted,hg])];refine .inl ?_;unfold Oper.wp;have CO:(execOp a.eval o).run P w=.ok .skip (w.setRow b (xs.setIfInBounds off (a.eval y))):=by
  rw[execOp,ho];refine wo ?_;rw[hv.1,show fp (.pointer (some ⟨b,0,none⟩)) off=.pointer (some ⟨b,off,none⟩) by simp[fp]];exact fC
 rw[CO];have gG:∀b',b'≠b->(w.setRow b (xs.setIfInBounds off (a.eval y))).heap[b']? =w.heap[b']? :=fun b' dN=>cz w b b' _ dN
 have yw:(w.setRow b (xs.setIfInBounds off (a.eval y))).heap[b]? =some (.cells (xs.setIfInBounds off (a.eval y)) T (0,0)):=setRow_heap w b xs _ T (0,0) hh;have IK:(w.setRow b (xs.setIfInBounds off (a.eval y))).heap.size=w.heap.size:=by simp
 have ym:kj g.im w g.im (w.setRow b (xs.setIfInBounds off (a.eval y))):=⟨fun _=>acP _,fun b' o' GJ=>by
  have dj:b'≠b:=fun e=>by subst e;omega
  exact World.cell?_of_block (a:=⟨b',o',none⟩) (gG b' dj)⟩
 have IL:Ext g w s.A g (w.setRow b (xs.setIfInBounds off (a.eval y))) s.A:=⟨fun _ _ h=>h,ym,fun _ r h=>⟨r,h,rfl,acP _,fun _=>rfl⟩⟩;have Pf:Inv g (w.setRow b (xs.setIfInBounds off (a.eval y))) s.V s.A:=by
  refine⟨hR.inv.o0,hR.inv.lT,fun l row' b' h3 h4=>?_,fun k r u h3 h4=>?_,hR.inv.kZ,hR.inv.jr,hR.inv.jz,fun b' dN=>hR.inv.fresh b' (by omega)⟩
  ·exact hR.inv.fA IL h3 h4 (gG b' (fun e=>by subst e;exact HO (acv h4))) (hR.inv.obj l row' b' h3 h4).1
  ·exact hR.inv.fB IL h3 h4 (fun b' dN=>gG b' (fun e=>by subst e;exact Pd (Gh.j6 h4 dN))) (fun _ _=>rfl)
 have Pg:xl w0 g0 X (w.setRow b (xs.setIfInBounds off (a.eval y))) g:=by
  refine⟨hR.fr.os,hR.fr.tape,hR.fr.output,by rw[IK];exact hR.fr.size,fun b' q1 q2 q3 q4=>?_,hR.fr.js,hR.fr.ob,hR.fr.ar,hR.fr.wk,hR.fr.yl,hR.fr.Ci⟩;rw[gG b' (fun e=>by
   subst e;rcases Pe with q|q
   ·omega
   ·exact q4 q)]
  exact hR.fr.qI b' q1 q2 q3 q4
 have R4:b∉S2:=fun hm=>(acr.1 oO).1 hm
 refine hK.run vU.2 w0 g0 X (b::S2) g _ _ Q (hR.put fc (x:=.c .undef) (v:=undef) rfl Pf IL Pg ⟨[b],S2,rfl,?_,At.dQ fun b' dN=>gG b' (fun e=>by subst e;exact R4 dN)⟩ oO jB) hQ;simp only[Tr];refine⟨b,_,rfl,yw,by simp[Jj],fun j x' u h3 h4=>?_,rfl⟩;rw[acH]at h3;rw[Array.getElem?_setIfInBounds]at h4;by_cases hj:off=j
 ·rw[if_pos hj,if_pos R2]at h3;rw[if_pos hj,if_pos (by omega)]at h4;simp at h3 h4;subst h3;subst h4;exact TI.zero
 ·rw[if_neg hj]at h3;rw[if_neg hj]at h4;exact(hr j x' u h3 h4).zero
def vq:AV->Option Value
 |.c (.d (.raw v))=>some v
 |.c .np=>some (.pointer none)
 |_=>none
theorem zR {g:Gh} {w:World} {A:List bu} {x:AV} {v u:Value} (h:vq x=some v) (hr:aO g w A x u):u=v:=by
 unfold vq at h;split at h
 ·simp at h;subst h;simp only[aO,dK,bn,bh]at hr;exact hr.1
 ·simp at h;subst h;exact hr
 ·simp at h
def CP (L:Ts) (T:TypeId) (v:Value):Prop:=v=.pointer none\/∃row,(.n T row,v)∈L
end
theorem kO.IM {w:World}:∀{cs:List GC} {xs:List Value} {S:List Nat} {ds:List DV} {us:List Value},kO w cs xs S->us.length=ds.length->(∀(j:Nat) x u,ds[j]? =some x->us[j]? =some u->bh (fun _=>0) w x u)->kO w (cs++ds.map GC.d) (xs++us) S
 |[],xs,S,[],us,h,hl,_=>by
  have:us=[]:=List.length_eq_zero_iff.1 (by simpa using hl);simp only[kO]at h;obtain⟨rfl,rfl⟩:=h;subst this;simp[kO]
 |[],xs,S,d::ds,us,h,hl,hr=>by
  simp only[kO]at h;obtain⟨rfl,rfl⟩:=h
  match us,hl with
  |u::us,hl=>
   have h2:=kO.IM (w:=w) (cs:=[]) (xs:=[]) (S:=[]) (ds:=ds) (us:=us) (by simp[kO]) (by simpa using hl) (fun j x v h1 h2=>hr (j+1) x v (by simpa using h1) (by simpa using h2));simp only[List.nil_append,acx,kO]at h2⊢;exact⟨u,us,[],[],rfl,rfl,by simp only[Tr];exact⟨hr 0 d u rfl rfl,trivial⟩,h2⟩
 |c::cs,xs,S,ds,us,h,hl,hr=>by
  simp only[kO]at h;obtain⟨x,xs',S1,S2,rfl,rfl,h1,h2⟩:=h;simp only[List.cons_append,kO];exact⟨x,xs'++us,S1,S2,rfl,rfl,h1,kO.IM h2 hl hr⟩
section
variable {P:Program} {n:Nat} {s:St} {L L2:Ts} {all:Array Oper} {ow:Nat->Bool} {K:St->Ts->Prop} {i:Nat} {o:Oper} {rest:List Oper}
theorem AR {x y:Operand} {t e:TypeId} {d de:TD} {z:List CV} {m:Nat} {cs:List GC} {v:Value} {u:AV} {nr:List (List DV)} (hg:o.guard=none) (ho:o.op=.call {callee:=.builtin .append,args:= #[x,y],argTypes:= #[t,t]})
  (ht:td P t=some d) (tC:d.el=some e) (he:td P e=some de) (hz:de.zero=some z) (qK:z.length=de.sz) (hx:bF s x=some (.c (.d (.raw v)))) (hy:bF s y=some u) (ED:rowsOf s.A u=some nr) (hl:∀r∈nr,r.length=de.sz)
  (yR:∀r∈nr,∀c∈r,DV.kD c=true) (hp:L.Perm ((.t e de.sz m cs,v)::L2)) (hb:(m+nr.length)*de.lS<=140737488355328) (hm:m+nr.length<=9223372036854775807)
  (hK:∀v',kE P n all ow K (i+1) rest (s.put o.dst (.c (.d (.raw v'))) s.V s.A) ((.t e de.sz (m+nr.length) (cs++nr.flatten.map GC.d),v')::L2)):kE P n all ow K i (o::rest) s L:=by
 refine⟨fun vU w0 g0 X S g a w Q hR hQ=>?_⟩;simp only[da,acu,acL]at vU;have fc:∀d,o.dst=some d->d<n:=fun d e=>by have:=vU.1;rw[e]at this;simpa using this
 obtain⟨S0,vM,EY⟩:=hR.nC.perm hp;obtain⟨S1,S2,rfl,lV,At⟩:=EY;simp only[Tr]at lV;obtain⟨xs,S3,dP,Mv,rfl⟩:=lV;have oO:=vM.nodup_iff.1 hR.nd;have jB:=fun b hb=>hR.out b (vM.mem_iff.2 hb)
 have ax:∀b∈v.ownBlock.toList++S3++S2,b<w.heap.size:=fun b hb=>hR.nC.lt b (vM.mem_iff.2 hb)
 have hv:=aJ hR.slot hx;simp only[aO,dK,bn,bh]at hv;obtain⟨hv,kK⟩:=hv;have hu:=aJ hR.slot hy;obtain⟨inf,hi,o8,Dm,h0⟩:=gx he;obtain⟨zv,Hi,GM⟩:=h0 z hz;have I3:zv.cells.size=inf.size:=by have:=iW GM;simp at this;omega
 obtain⟨news,wA,vF,Aa⟩:=tD hR.inv hu ED hl;have Fi:∀(j:Nat) q u,nr.flatten[j]? =some q->news[j]? =some u->bh (fun _=>0) w q u:=fun j q u h1 h2=>by
  obtain⟨r,Mw,Dh⟩:=List.mem_flatten.1 (acv h1);exact DV.sK (yR r Mw q Dh) (Aa j q u h1 h2)
 have GL:news.length=nr.flatten.length:=by
  have ya:nr.flatten.length=nr.length*de.sz:=by
   clear wA Aa Fi hb hm hK ED yR;induction nr with
   |nil=>simp
   |cons r nr ih=>simp only[List.flatten_cons,List.length_append,acF];rw[hl r (by simp),ih (fun x hx=>hl x (by simp[hx])),Nat.add_mul,Nat.one_mul,Nat.add_comm]
  rcases wA with⟨h1,h2,_⟩|⟨_,_,_,h1,_⟩
  ·rw[ya,h1,h2];simp
  ·rw[ya,h1]
 have y3:w.ownsRow 0 e inf.size v m xs:=by rw[o8];exact dP
 obtain⟨v',w',fC,s6,hc⟩:=my (P:=P) t o.type e inf zv (mP ht tC) hi Hi I3 v m xs y3 (a.eval y) nr.length news (by rw[o8];exact wA) vF (by simp only[maxLen];omega) (by rw[Dm];exact hb);rw[o8]at s6;unfold wpList;rw[if_pos (by simp[Region.wanted,hg])];refine .inl ?_;unfold Oper.wp;have CO:(execOp a.eval o).run P w=.ok (.value v') w':=by
  unfold execOp;simp only[ho,resolve,invoke,Sem.run_bind,Sem.run_pure,Result.andThen_ok,acC,acx,acD,hv];exact oF fC
 rw[CO];have Ek:v'.oneCell'=true:=by
  rcases s6.2 with⟨rfl,_⟩|⟨b1,c1,cu1,rfl,_⟩<;>rfl
 rcases hc with⟨rfl,rfl⟩|⟨b,cs',Bb,xW,rfl⟩|⟨o',xW,rfl⟩
 ·refine(hK v').run vU.2 w0 g0 X (v'.ownBlock.toList++S3++S2) g _ _ Q (hR.put fc (x:=.c (.d (.raw v'))) ⟨rfl,Ek⟩ hR.inv (.refl _ _ _) hR.fr ⟨_,S2,rfl,?_,At⟩ oO jB) hQ;simp only[Tr];exact⟨xs++news,S3,s6,Mv.IM GL Fi,rfl⟩
 ·have R5:b∈v.ownBlock.toList++S3++S2:=by simp[Bb]
  obtain⟨th,HO,Pd,TH,Pe⟩:=jB b R5;have gG:∀b',b'≠b->(w.setRow b cs').heap[b']? =w.heap[b']? :=fun b' dN=>cz w b b' _ dN
  have IK:(w.setRow b cs').heap.size=w.heap.size:=by simp
  have ym:kj g.im w g.im (w.setRow b cs'):=⟨fun _=>acP _,fun b' o' GJ=>by
   have dj:b'≠b:=fun e=>by subst e;omega
   exact World.cell?_of_block (a:=⟨b',o',none⟩) (gG b' dj)⟩
  have IL:Ext g w s.A g (w.setRow b cs') s.A:=⟨fun _ _ h=>h,ym,fun _ r h=>⟨r,h,rfl,acP _,fun _=>rfl⟩⟩;have Pf:Inv g (w.setRow b cs') s.V s.A:=by
   refine⟨hR.inv.o0,hR.inv.lT,fun l row' b' h3 h4=>?_,fun k r u h3 h4=>?_,hR.inv.kZ,hR.inv.jr,hR.inv.jz,fun b' dN=>hR.inv.fresh b' (by omega)⟩
   ·exact hR.inv.fA IL h3 h4 (gG b' (fun e=>by subst e;exact HO (acv h4))) (hR.inv.obj l row' b' h3 h4).1
   ·exact hR.inv.fB IL h3 h4 (fun b' dN=>gG b' (fun e=>by subst e;exact Pd (Gh.j6 h4 dN))) (fun _ _=>rfl)
  have Pg:xl w0 g0 X (w.setRow b cs') g:=by
   refine⟨hR.fr.os,hR.fr.tape,hR.fr.output,by rw[IK];exact hR.fr.size,fun b' q1 q2 q3 q4=>?_,hR.fr.js,hR.fr.ob,hR.fr.ar,hR.fr.wk,hR.fr.yl,hR.fr.Ci⟩;rw[gG b' (fun e=>by
    subst e;rcases Pe with q|q
    ·omega
    ·exact q4 q)]
   exact hR.fr.qI b' q1 q2 q3 q4
  have yK:(b::(S3++S2)).Nodup:=by simpa[Bb]using oO
  have Bh:b∉S3++S2:=(acr.1 yK).1;refine(hK v').run vU.2 w0 g0 X (v'.ownBlock.toList++S3++S2) g _ _ Q (hR.put fc (x:=.c (.d (.raw v'))) ⟨rfl,Ek⟩ Pf IL Pg ⟨_,S2,rfl,?_,At.dQ fun b' dN=>gG b' (fun e=>by subst e;exact Bh (by simp[dN]))⟩ (by rw[xW];simpa using yK) fun b' dN=>jB b' (by rw[Bb];rw[xW]at dN;exact dN)) hQ;simp only[Tr];exact⟨xs++news,S3,s6,(Mv.dQ _ _ _ fun b' dN=>gG b' (fun e=>by subst e;exact Bh (by simp[dN]))).IM GL (fun j q u h1 h2=>(Fi j q u h1 h2).zero),rfl⟩
 ·obtain⟨R6,MY⟩:=hR.inv.heap (w':=w.drew) rfl;have R7:Fr w g w.drew g:=(Fr.refl hR.fr.now).heap rfl rfl rfl rfl;obtain⟨g1,vB,fj,dC⟩:=R6.ej o' 0;have kH:=R7.ej o' 0;have M0:w.drew.heap.size=w.heap.size:=rfl;rw[<-vB]at kH;have wX:∀b∈S3++S2,b<w.heap.size:=fun b hb=>ax b (by simp only[acq,acw]at hb⊢;exact .inr hb)
  have hold:∀b,b<w.heap.size->(w.drew.alloc o').heap[b]? =w.heap[b]? :=fun b hb=>RowKit.Below.heap_alloc w.drew o' b hb
  have HZ:(S3++S2).Nodup:=by rw[acq]at oO;exact(List.nodup_append.1 oO).2.1
  have uR:=hR.xm kH;refine(hK v').run vU.2 w0 g0 X (v'.ownBlock.toList++S3++S2) g1 _ _ Q (hR.put fc (x:=.c (.d (.raw v'))) ⟨rfl,Ek⟩ fj (MY.trans dC) (hR.fr.fr kH) ⟨_,S2,rfl,?_,At.dQ fun b' dN=>hold b' (wX b' (by simp[dN]))⟩ ?_ fun b hb=>?_) hQ
  ·simp only[Tr];exact⟨xs++news,S3,s6,(Mv.dQ _ _ _ fun b' dN=>hold b' (wX b' (by simp[dN]))).IM GL (fun j q u h1 h2=>(Fi j q u h1 h2).zero),rfl⟩
  ·rw[xW,acq];exact acr.2 ⟨fun hm=>absurd (wX _ hm) (by omega),HZ⟩
  ·rw[xW,acq]at hb;rcases acB.1 hb with rfl|hb
   ·refine⟨by rw[vB];simp,fun hm=>?_,fun hm=>?_,fun hm=>?_,.inl hR.fr.size⟩
    ·rw[vB]at hm;obtain⟨l,hl⟩:=acI hm;have:=hR.inv.qW hl;omega
    ·rw[vB]at hm;obtain⟨k,v',q1,q2⟩:=Gh.fQ (g:=g) (by simpa[Gh.jy]using hm);have:=hR.inv.mN q1 q2;omega
    ·have:=(hR.fr.now _ hm).1;omega
   ·exact uR.2 b (vM.mem_iff.2 (by rw[acq];exact List.mem_append_right _ hb))
end
end Go.Av
namespace Go.Av
attribute [-simp] Go.Av.IT.jQ Go.Av.IT.fJ Go.Av.IT.fi Go.Av.IT.jv Go.Av.IT.jR Go.Av.IT.jS Go.Av.IT.jT Go.Av.IT.jU Go.Av.IT.gv Go.Av.hM
open Go
section
variable {P:Program} {n:Nat} {w0 w w':World} {g0 g g':Gh} {X S S':List Nat} {s s':St} {L L':Ts} {a a':Act} {x y:Code} {all:Array Oper} {ws:List Nat}
def R8 (o:Oper) (cR:List (Nat×AV)) (V:List (List CV)) (A:List bu) (s:St):Prop:=∀x∈o.op.operands.toList,bF ⟨cR,V,A⟩ x=bF s x
def lq (P:Program) (s:St) (L:Ts) (o:Oper) (K:AV->Ts->Prop):Prop:=
 ∀(cR:List (Nat×AV)) (V:List (List CV)) (A:List bu),R8 o cR V A s->∀(n:Nat) (w0:World) (g0:Gh) (X S:List Nat) (g:Gh) (a:Act) (w:World),ry n w0 g0 X ⟨cR,V,A⟩ L S g a w->∀(next:Act->World->Prop) (Q:Exit->Act->World->Prop),
  (∀x L' S' v w' g',K x L'->aO g' w' A x v->Inv g' w' V A->Ext g w A g' w' A->xl w0 g0 X w' g'->iG w' L' S'->S'.Nodup->(∀b∈S',g'.im b=0/\b∉g'.ob/\b∉g'.jy/\¬o4 b/\(w0.heap.size<=b\/b∈X))->next (a.put o.dst v) w')->o.wp P a w next Q
def cI (P:Program) (s:St) (L:Ts) (o:Oper) (x:AV):Prop:=
 ∀(cR:List (Nat×AV)) (V:List (List CV)) (A:List bu),R8 o cR V A s->∀(g:Gh) (a:Act) (w:World) (S:List Nat),iA g w ⟨cR,V,A⟩ a->iG w L S->S.Nodup->∃v,aO g w A x v/\(execOp a.eval o).run P w=.ok (.value v) w
theorem lq.map {o:Oper} {K K':AV->Ts->Prop} (hk:∀x L,K x L->K' x L) (h:lq P s L o K):lq P s L o K':=
 fun cR V A hA n w0 g0 X S g a w hR next Q hn=>h cR V A hA n w0 g0 X S g a w hR next Q fun x L' S' v w' g' h1=>hn x L' S' v w' g' (hk _ _ h1)
theorem lq.call {o:Oper} {K:AV->Ts->Prop} (h:cg P s L o K):lq P s L o K:=by
 intro cR V A hA n w0 g0 X S g a w hR next Q hn;refine qf hR (pN (s:=s) (ow:=false) hA h) _ _ ?_;rintro x V' A' L' S' v w' g' ⟨rfl,rfl,hk⟩ h1 h2 h3 h4 h5 h6 h7;exact hn x L' S' v w' g' hk h1 h2 h3 h4 h5 h6 h7
theorem cI.wp {o:Oper} {x:AV} (h:cI P s L o x) {cR:List (Nat×AV)} {V:List (List CV)} {A:List bu} (hA:R8 o cR V A s) (hS:iA g w ⟨cR,V,A⟩ a) (hT:iG w L S) (hn:S.Nodup) {next:Act->World->Prop} {Q:Exit->Act->World->Prop} (hx:∀v,aO g w A x v->next (a.put o.dst v) w):o.wp P a w next Q:=by
 obtain⟨v,h1,h2⟩:=h cR V A hA g a w S hS hT hn;unfold Oper.wp;rw[h2];exact hx v h1
def kY (P:Program) (all:Array Oper) (ow:Nat->Bool) (ws cs ns:List Nat) (K:St->Ts->Prop):Nat->List Oper->St->Ts->Prop
 |_,[],s,L=>K s L
 |i,o::rest,s,L=>iv all s o
   ((i∈cs/\lq P s L o fun x L'=>kY P all ow ws cs ns K (i+1) rest (s.put o.dst x s.V s.A) L')\/
   (i∉cs/\i∈ns/\∃x,cI P s L o x/\kY P all ow ws cs ns K (i+1) rest (s.put o.dst x s.V s.A) L)\/
   (i∉cs/\i∉ns/\bI P s (ow i) o fun x V A=>(i∈ws\/(V=s.V/\A=s.A))/\kY P all ow ws cs ns K (i+1) rest (s.put o.dst x V A) L))
   (kY P all ow ws cs ns K (i+1) rest (s.put o.dst (.c .undef) s.V s.A) L)
def Gs (P:Program) (all:Array Oper) (ow:Bool) (ns:List Nat) (L:Ts) (j:Nat) (o:Oper) (s s':St):Prop:=
 iv all s o True True/\((gw all s o=true/\((j∈ns/\∃x,s'=s.put o.dst x s.V s.A/\cI P s L o x)\/(j∉ns/\JS P ow o s s')))\/(gw all s o=false/\s'=s.put o.dst (.c .undef) s.V s.A))
theorem mw {ow:Nat->Bool} {cs ns:List Nat} {K:St->Ts->Prop}:∀(ops:List Oper) (i:Nat) (s:St) (L:Ts),kY P all ow ws cs ns K i ops s L->
  ∃(τ:Nat->St) (m:Nat),m<=ops.length/\τ 0=s/\(∀(j:Nat) o,j<m->ops[j]? =some o->Gs P all (ow (i+j)) ns L (i+j) o (τ j) (τ (j+1))/\M8 ws (i+j) o (τ j) (τ (j+1)))/\
   ((m=ops.length/\K (τ m) L)\/(i+m∈cs/\∃o,ops[m]? =some o/\iv all (τ m) o True True/\gw all (τ m) o=true/\lq P (τ m) L o fun x L'=>kY P all ow ws cs ns K (i+m+1) (ops.drop (m+1)) ((τ m).put o.dst x (τ m).V (τ m).A) L'))
 |[],i,s,L,h=>⟨fun _=>s,0,acP _,rfl,fun j o hj=>by omega,.inl ⟨rfl,h⟩⟩
 |o::rest,i,s,L,h=>by
  have step:∀s',Gs P all (ow i) ns L i o s s'->M8 ws i o s s'->kY P all ow ws cs ns K (i+1) rest s' L->∃(τ:Nat->St) (m:Nat),m<=(o::rest).length/\τ 0=s/\(∀(j:Nat) o',j<m->(o::rest)[j]? =some o'->Gs P all (ow (i+j)) ns L (i+j) o' (τ j) (τ (j+1))/\M8 ws (i+j) o' (τ j) (τ (j+1)))/\
   ((m=(o::rest).length/\K (τ m) L)\/(i+m∈cs/\∃o',(o::rest)[m]? =some o'/\iv all (τ m) o' True True/\gw all (τ m) o'=true/\lq P (τ m) L o' fun x L'=>kY P all ow ws cs ns K (i+m+1) ((o::rest).drop (m+1)) ((τ m).put o'.dst x (τ m).V (τ m).A) L')):=by
   intro s' h1 h2 h3;obtain⟨τ,m,k1,k2,k3,k4⟩:=mw rest (i+1) _ L h3;refine⟨fun j=>match j with|0=>s|j+1=>τ j,m+1,by simp;omega,rfl,fun j o' hj ho=>?_,?_⟩
   ·cases j with
    |zero=>
     simp at ho;subst ho;show Gs P all (ow (i+0)) ns L (i+0) o s (τ 0)/\M8 ws (i+0) o s (τ 0);rw[k2];exact⟨h1,h2⟩
    |succ j=>
     simp at ho;have:=k3 j o' (by omega) ho;rwa[show i+1+j=i+(j+1) by omega]at this
   ·rcases k4 with⟨k5,k6⟩|⟨k5,o',k6,k7,k8,k9⟩
    ·exact .inl ⟨by simp[k5],k6⟩
    ·refine .inr ⟨by rw[show i+(m+1)=i+1+m by omega];exact k5,o',by simpa using k6,k7,k8,?_⟩;rw[show i+(m+1)+1=i+1+m+1 by omega];exact k9
  obtain⟨hg,bf⟩:=fZ h;rcases hg with⟨g1,h|h|h⟩|⟨g1,h⟩
  ·obtain⟨h1,h2⟩:=h;exact⟨fun _=>s,0,by simp,rfl,fun j o hj=>by omega,.inr ⟨h1,o,rfl,bf,g1,h2⟩⟩
  ·obtain⟨h1,h2,x,h3,h4⟩:=h;exact step _ ⟨bf,.inl ⟨g1,.inl ⟨h2,x,rfl,h3⟩⟩⟩ ⟨x,_,_,rfl,.inr ⟨rfl,rfl⟩⟩ h4
  ·obtain⟨h1,h2,h3⟩:=h;obtain⟨x,V,A,⟨h3,h4⟩,h5⟩:=gl h3;exact step _ ⟨bf,.inl ⟨g1,.inr ⟨h2,x,V,A,rfl,h5⟩⟩⟩ ⟨x,V,A,rfl,h3⟩ h4
  ·exact step _ ⟨bf,.inr ⟨g1,rfl⟩⟩ ⟨_,_,_,rfl,.inr ⟨rfl,rfl⟩⟩ h
set_option maxHeartbeats 2000000 in
theorem Gt {ns:List Nat} {ow:Nat->Bool} (hd:eC all ws=true) (fc:da n all.toList=true) {σ:Nat->St} {c:Nat} (hT:F1 all ws σ c) {af:Array Bool} {k0:Nat} (hD:DS all ws σ n w g af k0 g a w) (gC:k0<=c) (nI:∀i,af[i]? =some true->i<c)
  {j:Nat} (hj:j∈Region.ready .any all af) (EW:j<=c) {o:Oper} (ho:all[j]? =some o) {next:Act->World->Prop} {Q:Exit->Act->World->Prop}:
  (j<c->Jb w0 g0 X L S g w->Gs P all (ow j) ns L j o (σ j) (σ (j+1))->(∀k1 v g' w',k1<=c->DS all ws σ n w' g' (af.setIfInBounds j true) k1 g' (a.put o.dst v) w'->Fr w g w' g'->next (a.put o.dst v) w')->wpOp P all Q j next a w)/\
  (j=c->cO o.op=false->j∉ws->Jb w0 g0 X L S g w->iv all (σ j) o True True->gw all (σ j) o=true->(∀K:AV->Ts->Prop,lq P (σ j) L o K->(∀x L' S' v g' w',K x L'->(∀σ':Nat->St,(∀i,i<=c->σ' i=σ i)->σ' (c+1)=(σ c).put o.dst x (σ c).V (σ c).A->DS all ws σ' n w' g' (af.setIfInBounds j true) k0 g' (a.put o.dst v) w')->Jb w0 g0 X L' S' g' w'->next (a.put o.dst v) w')->wpOp P all Q j next a w)):=by
 simp only[eC,acL,acs]at hd;obtain⟨⟨gk,jk⟩,nM⟩:=hd;have cV:∀(j:Nat) o,all[j]? =some o->(o,j)∈all.toList.zipIdx:=fun j o h=>by
  rw[acA];exact⟨j,by simp[acG,h]⟩
 have c7:∀(j:Nat) o,all[j]? =some o->∀e∈o.after,Region.binds .any e=true->e.on<j:=fun j o h e he hb=>by
  have:=gk _ (cV j o h) e (acW.2 he);simpa[hb]using this
 have b7:∀(i j:Nat) oi oj,all[i]? =some oi->all[j]? =some oj->i<j->bq all ws (aX all.toList []) oi oj i j=true:=fun i j oi oj h1 h2 ax=>by
  have:=jk _ (cV j oj h2) _ (cV i oi h1);simpa[ax]using this
 have uT:∀(j:Nat) o,all[j]? =some o->j∈ws->cO o.op=false:=fun j o h hj=>by
  have:=nM _ (cV j o h);simpa[hj]using this
 have fU:∀(i j:Nat) oi oj d,all[i]? =some oi->all[j]? =some oj->i<j->oi.dst=some d->oj.dst≠some d:=fun i j oi oj d h1 h2 ax h3 h4=>by
  have:=b7 i j oi oj h1 h2 ax;simp[bq,h3,h4]at this
 have rj:∀(i j:Nat) oi oj d,all[i]? =some oi->all[j]? =some oj->oi.dst=some d->oj.dst=some d->i=j:=fun i j oi oj d h1 h2 h3 h4=>by
  rcases acR i j with h|h|h
  ·exact absurd h4 (fU i j oi oj d h1 h2 h h3)
  ·exact h
  ·exact absurd h3 (fU j i oj oi d h2 h1 h h4)
 have Ae:∀(j:Nat) o d,all[j]? =some o->o.dst=some d->d<n:=fun j o d h1 h2=>by
  have:=acs.1 fc o (by rw[acW];exact Array.mem_of_getElem? h1);simpa[h2]using this
 obtain⟨GO,_,BD⟩:=fe all.toList []
 have mW:∀{af:Array Bool},(∀(i:Nat) o,all[i]? =some o->af[i]? =some true->∀e∈o.after,Region.binds .any e=true->af[e.on]? =some true)->
   ∀(i:Nat) o,all[i]? =some o->(∀e∈o.after,Region.binds .any e=true->af[e.on]? =some true)->∀k,((aX all.toList []).getD i 0).testBit k=true->af[k]? =some true:=by
  intro af kS i;induction i using acT with
  |_ i ih=>
   intro o ho cG k hk;obtain⟨pre,h1,h2,h3⟩:=BD i o (by simpa using ho);simp only[acE,acQ]at h1 h3;have h4:(aX all.toList []).getD i 0=mV pre o:=by simp[List.getD,h3]
   rw[h4]at hk;obtain⟨e,he,hb,h5⟩:=fT hk;have s9:=cG e he hb;rcases h5 with rfl|h5
   ·exact s9
   ·have ax:=c7 i o ho e he hb;have h6:pre.getD e.on 0=(aX all.toList []).getD e.on 0:=by simp only[List.getD,h2 e.on (by omega)]
    rw[h6]at h5;have e5:e.on<all.size:=by have:=(acU.1 ho).1;omega
    have uU:all[e.on]? =some all[e.on]:=acV e5;exact ih e.on ax _ uU (kS e.on _ uU s9) k h5
 have EY:=hT.le;have oP:=hT.Ou;have oQ:=hT.Ov rj;have tH:=hT.VA;obtain⟨mX,o2,mI,cG⟩:=mem_ready.1 hj;obtain rfl:o=o2:=by rw[ho]at mI;exact Option.some.inj mI
 have mY:=er mX;have rP:j<all.size:=(acU.1 ho).1;have jA:j<af.size:=by rw[hD.eI];exact rP
 have cB:∀e∈o.after,Region.binds .any e=true->af[e.on]? =some true:=fun e he hb=>cF.1 (cG e he hb)
 have cv:∀k,((aX all.toList []).getD j 0).testBit k=true->af[k]? =some true:=mW hD.closed j o ho cB;have bZ:∀(i:Nat) oi,all[i]? =some oi->af[i]? =some true->((aX all.toList []).getD i 0).testBit j=false:=fun i oi aV bE=>by
  cases hb:((aX all.toList []).getD i 0).testBit j with
  |false=>rfl
  |true=>have:=mW hD.closed i oi aV (hD.closed i oi aV bE) j hb;rw[mY]at this;simp at this
 have jJ:∀t∈o.looksAt all,∀x,look (σ j).fr t=some x->∃u,a.tmps[t]? =some u/\aO g w (σ k0).A x u:=by
  intro t ht x hx;by_cases hex:∃(i:Nat) (oi:Oper),i<j/\all[i]? =some oi/\oi.dst=some t
  ·obtain⟨i,oi,kI,aV,cn⟩:=hex;rw[oQ j i oi t (by omega) kI aV cn]at hx;have hp:=b7 i j oi o aV ho kI;have tI:dE all oi o=true:=by simp only[dE,cn];simpa using ht
   simp only[bq,tI,acL,acM]at hp;have hb:((aX all.toList []).getD j 0).testBit i=true:=by simpa using hp.2
   exact hD.ga i oi t x aV (cv i hb) cn hx
  ·rw[oP j t (by omega) (fun i oi kI aV cn=>hex ⟨i,oi,kI,aV,cn⟩)]at hx;refine hD.gd t x (fun i oi aV bE cn=>?_) hx;rcases acR i j with h|h|h
   ·exact hex ⟨i,oi,h,aV,cn⟩
   ·subst h;rw[mY]at bE;simp at bE
   ·have hp:=b7 j i o oi ho aV h;have tI:dE all oi o=true:=by simp only[dE,cn];simpa using ht
    have hb:=bZ i oi aV bE;simp only[bq,tI,hb,acL,acM]at hp;simp at hp
 let cR:=(σ j).fr.filter fun p=>(o.looksAt all).contains p.1
 have ld:∀t,look cR t=if(o.looksAt all).contains t then look (σ j).fr t else none:=fun t=>e8 (fun t=>(o.looksAt all).contains t) (σ j).fr t
 have hS:∀(V:List (List CV)),iA g w ⟨cR,V,(σ k0).A⟩ a:=fun V t x hx=>by
  simp only[ld]at hx;split at hx
  ·rename_i hc;exact jJ t (by simpa using hc) x hx
  ·cases hx
 have gL:∀(V V':List (List CV)) (A A':List bu),∀x∈o.op.operands.toList,bF ⟨cR,V,A⟩ x=bF ⟨(σ j).fr,V',A'⟩ x:=fun V V' A A' x hx=>by
  cases x with
  |tmp t=>
   simp only[bF,ld];rw[if_pos];simp only[Oper.looksAt,acK,decide_eq_true_eq,acw,List.mem_filterMap];exact .inl ⟨.tmp t,hx,rfl⟩
  |_=>rfl
 have gU:Rp n w g ⟨cR,(σ k0).V,(σ k0).A⟩ g a w:=⟨hD.inv,hD.fr,hD.size,hD.defers,hS _⟩;have AS:iv all (σ j) o True True->Region.wanted o (yielded all a.tmps)=gw all (σ j) o:=by
  intro uP;have oR:iv all ⟨cR,(σ k0).V,(σ k0).A⟩ o True True/\gw all ⟨cR,(σ k0).V,(σ k0).A⟩ o=gw all (σ j) o:=by
   unfold iv gw at*;cases nN:o.guard with
   |none=>simp
   |some jw=>
    obtain⟨q,want⟩:=jw;simp only[nN]at uP⊢;obtain⟨oq,h1,h2⟩:=cC uP;obtain⟨t,h3,h4⟩:=cC h2;have:look cR t=look (σ j).fr t:=by
     rw[ld,if_pos];simp only[Oper.looksAt,nN,acK,decide_eq_true_eq,acw];exact .inr (by simp[h1,h3])
    simp only[h1,bU,h3,acY,this]at h4⊢;exact⟨h4,trivial⟩
  rw[<-oR.2];have h1:=oR.1;unfold iv at h1;unfold gw;cases nN:o.guard with
  |none=>simp[Region.wanted,nN]
  |some jw=>
   obtain⟨q,want⟩:=jw;simp only[nN]at h1⊢;obtain⟨oq,h2,h3⟩:=cC h1;obtain⟨t,h4,h5⟩:=cC h3;obtain⟨x,h6,h7⟩:=cC h5;obtain⟨h8,h9⟩:=jI gU h2 h4 h6;simp only[h2,acY,h4,h6];split at h7
   ·rename_i b;simp[Region.wanted,nN,h8 b rfl]
   ·simp[Region.wanted,nN,h9 rfl]
   ·exact h7.elim
 have bN:∀i,(af.setIfInBounds j true)[i]? =if i=j then some true else af[i]? :=fun i=>by
  by_cases e:i=j
  ·subst e;simp[jA]
  ·rw[if_neg e,acX (fun h=>e h.symm)]
 have cM:∀(σ':Nat->St) (k1:Nat) (x:AV) (v:Value) (w':World) (g':Gh),(∀i,i<=c->σ' i=σ i)->look (σ' (j+1)).fr=look ((σ j).put o.dst x [] []).fr->aO g' w' (σ k1).A x v->Inv g' w' (σ k1).V (σ k1).A->Ext g w (σ k0).A g' w' (σ k1).A->Bi w' g'->k1<=c->
   (∀i∈ws,i<all.size->((af.setIfInBounds j true)[i]? =some true↔i<k1))->DS all ws σ' n w' g' (af.setIfInBounds j true) k1 g' (a.put o.dst v) w':=by
  intro σ' k1 x v w' g' hσ C6 yv hI hx hF hk FH;have iY:∀t u,o.dst≠some t->a.tmps[t]? =some u->(a.put o.dst v).tmps[t]? =some u:=fun t u dj hu=>by
   cases q9:o.dst with
   |none=>exact hu
   |some d=>
    simp only[Act.put];rw[acX (fun e=>dj (by rw[q9,e]))];exact hu
  refine⟨by rw[hσ k1 hk];exact hI,.refl hF,?_,?_,by simp[hD.eI],fun i oi t y aV bE cn hy=>?_,fun t y iw hy=>?_,FH,by omega,fun i oi aV bE e he hb=>?_⟩
  ·cases o.dst<;>simp[Act.put,hD.size]
  ·cases o.dst<;>simp[Act.put,hD.defers]
  ·rw[hσ k1 hk];rw[bN]at bE;by_cases e:i=j
   ·subst e;obtain rfl:o=oi:=by rw[ho]at aV;exact Option.some.inj aV
    rw[C6]at hy;simp only[St.put,cn,look,if_true]at hy;cases hy
    refine⟨v,?_,yv⟩;have:t<a.tmps.size:=by rw[hD.size];exact Ae i o t ho cn
    simp[Act.put,cn,this]
   ·rw[if_neg e]at bE;rw[hσ (i+1) (nI i bE)]at hy;obtain⟨u,h1,h2⟩:=hD.ga i oi t y aV bE cn hy;exact⟨u,iY t u (fun h=>e (rj i j oi o t aV ho cn h)) h1,aO.ext hx h2⟩
  ·rw[hσ k1 hk];rw[hσ 0 (acS _)]at hy;have dj:o.dst≠some t:=iw j o ho (by rw[bN,if_pos rfl]);obtain⟨u,h1,h2⟩:=hD.gd t y (fun i oi aV bE=>iw i oi aV (by
    rw[bN];by_cases e:i=j
    ·rw[if_pos e]
    ·rw[if_neg e];exact bE)) hy
   exact⟨u,iY t u dj h1,aO.ext hx h2⟩
  ·rw[bN]at bE⊢;have:af[e.on]? =some true:=by
    by_cases e':i=j
    ·subst e';obtain rfl:o=oi:=by rw[ho]at aV;exact Option.some.inj aV
     exact cB e he hb
    ·rw[if_neg e']at bE;exact hD.closed i oi aV bE e he hb
   by_cases e':e.on=j
   ·rw[if_pos e']
   ·rw[if_neg e'];exact this
 have il:j∉ws->∀i∈ws,i<all.size->((af.setIfInBounds j true)[i]? =some true↔i<k0):=fun ez i hi b8=>by
  rw[bN,if_neg (fun e=>ez (by rw[<-e];exact hi))];exact hD.ep i hi b8
 have kV:cO o.op=false->(σ j).V=(σ k0).V/\(σ j).A=(σ k0).A:=by
  intro fK;rcases Nat.le_total j k0 with h|h
  ·have:=tH k0 j h gC (fun i h1 h2 h3=>by
    have b8:i<all.size:=by omega
    have bE:=(hD.ep i h3 b8).2 h2;have aV:all[i]? =some all[i]:=acV b8;rcases acO j i with h4|h4
    ·have hp:=b7 j i o _ ho aV h4;have hb:=bZ i _ aV bE;simp only[bq,hb,acL,acM]at hp;simp[h3,fK,-cO]at hp
    ·obtain rfl:i=j:=by omega
     rw[mY]at bE;simp at bE)
   exact⟨this.1.symm,this.2.symm⟩
  ·exact tH j k0 h EW (fun i h1 h2 h3=>by
    have b8:i<all.size:=by omega
    have aV:all[i]? =some all[i]:=acV b8;have hp:=b7 i j _ o aV ho h2;simp only[bq,acL,acM]at hp;have hb:((aX all.toList []).getD j 0).testBit i=true:=by
     rcases hp.2 with h4|h4
     ·simp[h3,fK,-cO]at h4
     ·exact h4
    have:=(hD.ep i h3 b8).1 (cv i hb);omega)
 unfold wpOp;simp only[ho];refine⟨fun lZ hJ ft ih=>?_,fun lZ fK ez hJ uP bf K iB ih=>?_⟩
 ·obtain⟨uP,ft⟩:=ft;obtain⟨x2,V2,A2,q1,q2⟩:=hT.tr j o lZ ho;rcases ft with⟨bf,ft|⟨R9,ft⟩⟩|⟨Vp,ft⟩
  ·-- a look
   obtain⟨R9,x,h2,h3⟩:=ft;rw[AS uP,if_pos bf];have oU:look (σ (j+1)).fr=look ((σ j).put o.dst x [] []).fr:=by rw[h2];rfl
   by_cases ez:j∈ws
   ·refine .inl (h3.wp (V:=(σ k0).V) (gL _ _ _ _) (hS _) hJ.nC hJ.nd fun v h6=>?_);by_cases hs:cO o.op=true
    ·have:=uT j o ho ez;rw[hs]at this;simp at this
    ·have fK:cO o.op=false:=by simpa[-cO]using hs
     obtain⟨kK,iZ⟩:=kV fK;have e1:(σ (j+1)).V=(σ k0).V:=by rw[h2];exact kK
     have e2:(σ (j+1)).A=(σ k0).A:=by rw[h2];exact iZ
     refine ih (j+1) v g w lZ (cM σ (j+1) x v w g (fun _ _=>rfl) oU (by rw[e2];exact h6) (by rw[e1,e2];exact hD.inv) (by rw[e2];exact .refl _ _ _) hD.fr.now lZ (fun i hi b8=>?_)) (.refl hD.fr.now);have aV:all[i]? =some all[i]:=acV b8;rw[bN];by_cases e:i=j
     ·subst e;simp
     ·rw[if_neg e];constructor
      ·intro bE;rcases acO j i with h|h
       ·have hp:=b7 j i o _ ho aV h;have hb:=bZ i _ aV bE;simp only[bq,hb,acL,acM]at hp;simp[hi,fK,-cO]at hp
       ·omega
      ·intro ax;have hp:=b7 i j _ o aV ho (by omega);simp only[bq,acL,acM]at hp;rcases hp.2 with h|h
       ·simp[hi,fK,-cO]at h
       ·exact cv i h
   ·refine .inl (h3.wp (V:=(σ k0).V) (gL _ _ _ _) (hS _) hJ.nC hJ.nd fun v h6=>?_);exact ih k0 v g w gC (cM σ k0 x v w g (fun _ _=>rfl) oU h6 hD.inv (.refl _ _ _) hD.fr.now gC (il ez)) (.refl hD.fr.now)
  ·rw[AS uP,if_pos bf];refine .inl ?_;obtain⟨x,V,A,h2,h3⟩:=ft;have oU:look (σ (j+1)).fr=look ((σ j).put o.dst x [] []).fr:=by rw[h2];rfl
   by_cases hs:cO o.op=true
   ·-- slots alone
    have ez:j∉ws:=fun h=>by have:=uT j o ho h;rw[hs]at this;simp at this
    have h4:bI P ⟨cR,(σ k0).V,(σ k0).A⟩ (ow j) o (fun y V' A'=>y=x/\V'=(σ k0).V/\A'=(σ k0).A):=nK (s:=σ j) (s':=⟨cR,(σ k0).V,(σ k0).A⟩) hs (gL _ _ _ _) h3 ⟨rfl,rfl,rfl⟩;obtain⟨y,V',A',⟨rfl,rfl,rfl⟩,h5⟩:=dk gU.inv gU.fr gU.slot h4;exact h5 _ _ fun v w' g' h6 h7 h8 h9=>ih k0 v g' w' gC (cM σ k0 y v w' g' (fun _ _=>rfl) oU h6 h7 h8 h9.now gC (il ez)) h9
   ·have fK:cO o.op=false:=by simpa[-cO]using hs
    obtain⟨kK,iZ⟩:=kV fK;have h4:bI P ⟨cR,(σ k0).V,(σ k0).A⟩ (ow j) o (fun y V' A'=>y=x/\V'=V/\A'=A):=by
     rw[<-kK,<-iZ];exact eo (fr:=(σ j).fr) (gL _ _ _ _) (h3 _ ⟨rfl,rfl,rfl⟩)
    obtain⟨y,V',A',⟨rfl,rfl,rfl⟩,h5⟩:=dk gU.inv gU.fr gU.slot h4;have tc:(σ (j+1)).V=V':=by rw[h2];rfl
    have jo:(σ (j+1)).A=A':=by rw[h2];rfl
    by_cases ez:j∈ws
    ·refine h5 _ _ fun v w' g' h6 h7 h8 h9=>ih (j+1) v g' w' lZ (cM σ (j+1) y v w' g' (fun _ _=>rfl) oU (by rw[jo];exact h6) (by rw[tc,jo];exact h7) (by rw[jo];exact h8) h9.now lZ (fun i hi b8=>?_)) h9
     have aV:all[i]? =some all[i]:=acV b8;rw[bN];by_cases e:i=j
     ·subst e;simp
     ·rw[if_neg e];constructor
      ·intro bE;rcases acO j i with h|h
       ·have hp:=b7 j i o _ ho aV h;have hb:=bZ i _ aV bE;simp only[bq,hb,acL,acM]at hp;simp[hi,fK,-cO]at hp
       ·omega
      ·intro ax;have hp:=b7 i j _ o aV ho (by omega);simp only[bq,acL,acM]at hp;rcases hp.2 with h|h
       ·simp[hi,fK,-cO]at h
       ·exact cv i h
    ·obtain⟨x2,V2,A2,q1,q2⟩:=hT.tr j o lZ ho;rcases q2 with q2|⟨q2,q3⟩
     ·exact absurd q2 ez
     have p9:(σ (j+1)).V=(σ j).V:=by rw[q1];exact q2
     have mI:(σ (j+1)).A=(σ j).A:=by rw[q1];exact q3
     refine h5 _ _ fun v w' g' h6 h7 h8 h9=>ih k0 v g' w' gC (cM σ k0 y v w' g' (fun _ _=>rfl) oU ?_ ?_ ?_ h9.now gC (il ez)) h9
     ·rw[<-iZ,<-mI,jo];exact h6
     ·rw[<-kK,<-iZ,<-p9,<-mI,tc,jo];exact h7
     ·have e1:(σ k0).A=A':=by rw[<-iZ,<-mI,jo]
      rw[e1]at h8⊢;exact h8
  ·rw[AS uP,if_neg (by rw[Vp];simp)];have oU:look (σ (j+1)).fr=look ((σ j).put o.dst (.c .undef) [] []).fr:=by rw[ft];rfl
   by_cases ez:j∈ws
   ·by_cases hs:cO o.op=true
    ·have:=uT j o ho ez;rw[hs]at this;simp at this
    ·have fK:cO o.op=false:=by simpa[-cO]using hs
     obtain⟨kK,iZ⟩:=kV fK;have e1:(σ (j+1)).V=(σ k0).V:=by rw[ft];exact kK
     have e2:(σ (j+1)).A=(σ k0).A:=by rw[ft];exact iZ
     refine ih (j+1) undef g w lZ (cM σ (j+1) (.c .undef) undef w g (fun _ _=>rfl) oU rfl (by rw[e1,e2];exact hD.inv) (by rw[e2];exact .refl _ _ _) hD.fr.now lZ (fun i hi b8=>?_)) (.refl hD.fr.now);have aV:all[i]? =some all[i]:=acV b8;rw[bN];by_cases e:i=j
     ·subst e;simp
     ·rw[if_neg e];constructor
      ·intro bE;rcases acO j i with h|h
       ·have hp:=b7 j i o _ ho aV h;have hb:=bZ i _ aV bE;simp only[bq,hb,acL,acM]at hp;simp[hi,fK,-cO]at hp
       ·omega
      ·intro ax;have hp:=b7 i j _ o aV ho (by omega);simp only[bq,acL,acM]at hp;rcases hp.2 with h|h
       ·simp[hi,fK,-cO]at h
       ·exact cv i h
   ·exact ih k0 undef g w gC (cM σ k0 (.c .undef) undef w g (fun _ _=>rfl) oU rfl hD.inv (.refl _ _ _) hD.fr.now gC (il ez)) (.refl hD.fr.now)
 ·rw[AS uP,if_pos bf];refine .inl ?_;subst lZ;have Ow:ry n w0 g0 X ⟨cR,(σ k0).V,(σ k0).A⟩ L S g a w:=⟨hD.inv,hJ.fr,hD.size,hD.defers,hS _,hJ.nC,hJ.nd,hJ.out⟩;obtain⟨kK,iZ⟩:=kV fK;refine iB cR _ _ (gL _ _ _ _) n w0 g0 X S g a w Ow _ _ ?_;rintro x L' S' v w' g' hk h6 h7 h8 h9 cJ eG fY;refine ih x L' S' v g' w' hk (fun σ' hσ hn=>cM σ' k0 x v w' g' hσ (by rw[hn];rfl) h6 h7 h8 h9.now gC (il ez)) ⟨h9,cJ,eG,fY⟩
def lO (all:Array Oper) (ws cs ns:List Nat):Bool:=
 let l:=all.toList.zipIdx
 let ms:=aX all.toList []
 (cs.all fun c=> !ws.contains c &&(l.all fun(_,j)=> !(decide (c<j))||(ms.getD j 0).testBit c)&&(ns.all fun j=> !(decide (j<c))||(ms.getD c 0).testBit j))&&(l.all fun(o,j)=> !cs.contains j|| !cO o.op)
set_option maxHeartbeats 2000000 in
theorem vt {cs ns:List Nat} {ow:Nat->Bool} {K:St->Ts->Prop} {Q:Exit->Act->World->Prop} (hd:eC all ws=true) (hc:lO all ws cs ns=true) (fc:da n all.toList=true)
  (hQ:∀s' L' S' g' a' w',K s' L'->ry n w0 g0 X s' L' S' g' a' w'->Q .normal a' w'):
  ∀(fuel:Nat) (σ:Nat->St) (c:Nat) (L:Ts) (S:List Nat) (af:Array Bool) (k0:Nat) (g:Gh) (a:Act) (w:World),((acp all.size).filter fun i=> !af.getD i true).length<=fuel->F1 all ws σ c->k0<=c->
   (∀(j:Nat) o,j<c->all[j]? =some o->af[j]? ≠some true->Gs P all (ow j) ns L j o (σ j) (σ (j+1)))->(∀i,af[i]? =some true->i<c)->
   ((c=all.size/\K (σ c) L)\/(c∈cs/\∃o,all[c]? =some o/\iv all (σ c) o True True/\gw all (σ c) o=true/\lq P (σ c) L o fun x L'=>kY P all ow ws cs ns K (c+1) (all.toList.drop (c+1)) ((σ c).put o.dst x (σ c).V (σ c).A) L'))->
   DS all ws σ n w g af k0 g a w->Jb w0 g0 X L S g w->wpAny P .any all Q fuel af a w:=by
 have yj:=hd;simp only[eC,acL,acs]at hd;obtain⟨⟨gk,jk⟩,nM⟩:=hd;have cV:∀(j:Nat) o,all[j]? =some o->(o,j)∈all.toList.zipIdx:=fun j o h=>by
  rw[acA];exact⟨j,by simp[acG,h]⟩
 have c7:∀(j:Nat) o,all[j]? =some o->∀e∈o.after,Region.binds .any e=true->e.on<j:=fun j o h e he hb=>by
  have:=gk _ (cV j o h) e (acW.2 he);simpa[hb]using this
 have b7:∀(i j:Nat) oi oj,all[i]? =some oi->all[j]? =some oj->i<j->bq all ws (aX all.toList []) oi oj i j=true:=fun i j oi oj h1 h2 ax=>by
  have:=jk _ (cV j oj h2) _ (cV i oi h1);simpa[ax]using this
 have uT:∀(j:Nat) o,all[j]? =some o->j∈ws->cO o.op=false:=fun j o h hj=>by
  have:=nM _ (cV j o h);simpa[hj]using this
 have fU:∀(i j:Nat) oi oj d,all[i]? =some oi->all[j]? =some oj->i<j->oi.dst=some d->oj.dst≠some d:=fun i j oi oj d h1 h2 ax h3 h4=>by
  have:=b7 i j oi oj h1 h2 ax;simp[bq,h3,h4]at this
 have rj:∀(i j:Nat) oi oj d,all[i]? =some oi->all[j]? =some oj->oi.dst=some d->oj.dst=some d->i=j:=fun i j oi oj d h1 h2 h3 h4=>by
  rcases acR i j with h|h|h
  ·exact absurd h4 (fU i j oi oj d h1 h2 h h3)
  ·exact h
  ·exact absurd h3 (fU j i oj oi d h2 h1 h h4)
 simp only[lO,acL,acs]at hc;obtain⟨uK,Ox⟩:=hc;have JT:∀c∈cs,c∉ws:=fun c h=>by simpa using(uK c h).1.1
 have Oy:∀c∈cs,∀o,all[c]? =some o->cO o.op=false:=fun c h o ho=>by
  have:=Ox _ (cV c o ho);simpa[h,-cO]using this
 have Jd:∀c∈cs,∀(j:Nat) o,all[j]? =some o->c<j->((aX all.toList []).getD j 0).testBit c=true:=fun c h j o ho ax=>by
  have:=(uK c h).1.2 _ (cV j o ho);simpa[ax]using this
 have Ka:∀c∈cs,∀j∈ns,j<c->((aX all.toList []).getD c 0).testBit j=true:=fun c h j hj ax=>by
  have:=(uK c h).2 j hj;simpa[ax]using this
 have pH:∀{af:Array Bool},Region.ready .any all af=[]->af.size=all.size->∀i,i<all.size->af[i]? =some true:=by
  intro af hr vK i;induction i using acT with
  |_ i ih=>
   intro hi;have ho:all[i]? =some all[i]:=acV hi;have bE:i<af.size:=by omega
   cases hl:af[i]with
   |true=>rw[acV bE,hl]
   |false=>
    exfalso
    have:i∈Region.ready .any all af:=mem_ready.2 ⟨by simp[bE,hl],_,ho,fun e he hb=>cF.2 (ih e.on (c7 i _ ho e he hb) (by have:=c7 i _ ho e he hb;omega))⟩;rw[hr]at this;simp at this
 have lU:∀{σ:Nat->St} {c:Nat} {L:Ts} {S:List Nat} {af:Array Bool} {k0:Nat} {g:Gh} {a:Act} {w:World},F1 all ws σ c->(∀i,af[i]? =some true->i<c)->
   ((c=all.size/\K (σ c) L)\/(c∈cs/\∃o,all[c]? =some o/\iv all (σ c) o True True/\gw all (σ c) o=true/\lq P (σ c) L o fun x L'=>kY P all ow ws cs ns K (c+1) (all.toList.drop (c+1)) ((σ c).put o.dst x (σ c).V (σ c).A) L'))->
   DS all ws σ n w g af k0 g a w->Jb w0 g0 X L S g w->Region.ready .any all af=[]->Q .normal a w:=by
  intro σ c L S af k0 g a w hT nI hK hD hJ hr;have dh:=pH hr hD.eI;rcases hK with⟨rfl,hK⟩|⟨oZ,o,ho,_⟩
  ·exact hQ _ _ _ _ _ _ hK (zC yj hT hD dh hJ)
  ·have b8:=(acU.1 ho).1;have:=nI c (dh c b8);omega
 intro fuel;induction fuel with
 |zero=>
  intro σ c L S af k0 g a w hf hT gC rD nI hK hD hJ;have la:Region.ready .any all af=[]:=by
   have h0:((acp all.size).filter fun i=> !af.getD i true)=[]:=List.eq_nil_of_length_eq_zero (by omega);rcases hr:Region.ready .any all af with _|⟨j,r⟩
   ·rfl
   ·have hj:j∈Region.ready .any all af:=by rw[hr];simp
    obtain⟨h1,o,h2,_⟩:=mem_ready.1 hj;have:j∈((acp all.size).filter fun i=> !af.getD i true):=by
     rw[List.mem_filter,acz];exact⟨(acU.1 h2).1,by simp[h1]⟩
    rw[h0]at this;simp at this
  exact⟨la,lU hT nI hK hD hJ la⟩
 |succ fuel ih=>
  intro σ c L S af k0 g a w hf hT gC rD nI hK hD hJ;refine⟨fun hr=>lU hT nI hK hD hJ hr,fun j hj=>?_⟩;obtain⟨mX,o,ho,cG⟩:=mem_ready.1 hj;have mY:=er mX;have rP:j<all.size:=(acU.1 ho).1;have jA:j<af.size:=by rw[hD.eI];exact rP
  have cB:∀e∈o.after,Region.binds .any e=true->af[e.on]? =some true:=fun e he hb=>cF.1 (cG e he hb)
  have bN:∀i,(af.setIfInBounds j true)[i]? =if i=j then some true else af[i]? :=fun i=>by
   by_cases e:i=j
   ·subst e;simp[jA]
   ·rw[if_neg e,acX (fun h=>e h.symm)]
  have c4:((acp all.size).filter fun i=> !(af.setIfInBounds j true).getD i true).length<=fuel:=by
   have ax:((acp all.size).filter fun i=> !(af.setIfInBounds j true).getD i true).length<((acp all.size).filter fun i=> !af.getD i true).length:=by
    have gK:∀i,(!(af.setIfInBounds j true).getD i true)=true->(!af.getD i true)=true:=fun i h=>by
     by_cases e:i=j
     ·subst e;simp[jA]at h
     ·have:(af.setIfInBounds j true).getD i true=af.getD i true:=by
       simp only[Array.getD_eq_getD_getElem?,bN,if_neg e]
      rwa[this]at h
    exact filter_lt gK (acz.2 rP) (by simp[mX]) (by simp[jA])
   omega
  have EW:j<=c:=by
   rcases hK with⟨rfl,_⟩|⟨oZ,oc,EZ,_⟩
   ·omega
   ·rcases acO c j with h|h
    ·have:=nI c (nZ c7 hD.closed j o ho cB c (Jd c oZ j o ho h));omega
    ·exact h
  obtain⟨one1,one2⟩:=Gt (ns:=ns) (w0:=w0) (g0:=g0) (X:=X) (L:=L) (S:=S) (ow:=ow) yj fc hT hD gC nI hj EW ho (next:=wpAny P .any all Q fuel (af.setIfInBounds j true)) (Q:=Q);rcases Nat.lt_or_eq_of_le EW with ax|rfl
  ·refine one1 ax hJ (rD j o ax ho (by rw[mY];simp)) fun k1 v g' w' jl JF hF=>ih σ c L S _ k1 g' _ w' c4 hT jl (fun i oi hi aV bE=>rD i oi hi aV fun h=>bE ?_) (fun i hi=>?_) hK JF (hJ.cR hF)
   ·rw[bN];by_cases e:i=j
    ·rw[if_pos e]
    ·rw[if_neg e];exact h
   ·rw[bN]at hi;by_cases e:i=j
    ·subst e;exact ax
    ·rw[if_neg e]at hi;exact nI i hi
  ·rcases hK with⟨h,_⟩|⟨oZ,oc,EZ,Vq,Sa,iB⟩
   ·omega
   obtain rfl:o=oc:=by rw[ho]at EZ;exact Option.some.inj EZ
   refine one2 rfl (Oy j oZ o ho) (JT j oZ) hJ Vq Sa _ iB fun x L' S' v g' w' hk Oz OA=>?_
   obtain⟨τ,m,k1,k2,k3,k4⟩:=mw _ _ _ _ hk;have hlen:(all.toList.drop (j+1)).length=all.size-(j+1):=by simp
   let σ':Nat->St:=fun i=>if i<=j then σ i else τ (i-(j+1))
   have e1:∀i,i<=j->σ' i=σ i:=fun i hi=>by simp only[σ',if_pos hi]
   have e2:∀i,σ' (j+1+i)=τ i:=fun i=>by simp only[σ',if_neg (show¬j+1+i<=j by omega)];congr 1;omega
   have e3:∀i,(all.toList.drop (j+1))[i]? =all[j+1+i]? :=fun i=>by simp
   have kp:σ' (j+1)=(σ j).put o.dst x (σ j).V (σ j).A:=by rw[<-k2];exact e2 0
   refine ih σ' (j+1+m) L' S' _ k0 g' _ w' c4 ⟨by omega,fun i oi hi aV=>?_⟩ (by omega) (fun i oi hi aV bE=>?_) (fun i hi=>?_) ?_ (Oz σ' e1 kp) OA
   ·rcases acR i j with h|h|h
    ·rw[e1 i (by omega),e1 (i+1) (by omega)];exact hT.tr i oi h aV
    ·subst h;obtain rfl:o=oi:=by rw[ho]at aV;exact Option.some.inj aV
     rw[e1 i (by omega),kp];exact⟨x,_,_,rfl,.inr ⟨rfl,rfl⟩⟩
    ·obtain⟨q,rfl⟩:∃q,i=j+1+q:=⟨i-(j+1),by omega⟩;rw[e2 q,show j+1+q+1=j+1+(q+1) by omega,e2 (q+1)];exact(k3 q oi (by omega) (by rw[e3];exact aV)).2
   ·rw[bN]at bE;by_cases e:i=j
    ·rw[if_pos e]at bE;simp at bE
    ·rw[if_neg e]at bE;rcases acO i j with h|h
     ·rw[e1 i (by omega),e1 (i+1) (by omega)];obtain⟨d1,d2⟩:=rD i oi h aV bE;refine⟨d1,?_⟩;rcases d2 with⟨d3,⟨d4,_⟩|d4⟩|d2
      ·exact absurd (nZ c7 hD.closed j o ho cB i (Ka j oZ i d4 h)) bE
      ·exact .inl ⟨d3,.inr d4⟩
      ·exact .inr d2
     ·obtain⟨q,rfl⟩:∃q,i=j+1+q:=⟨i-(j+1),by omega⟩;rw[e2 q,show j+1+q+1=j+1+(q+1) by omega,e2 (q+1)];exact(k3 q oi (by omega) (by rw[e3];exact aV)).1
   ·rw[bN]at hi;by_cases e:i=j
    ·omega
    ·rw[if_neg e]at hi;have:=nI i hi;omega
   ·rcases k4 with⟨h1,h2⟩|⟨h1,oc,h2,h4,h5,h3⟩
    ·exact .inl ⟨by omega,by rw[e2];exact h2⟩
    ·refine .inr ⟨h1,oc,by rw[<-e3];exact h2,?_⟩;rw[e2];rw[List.drop_drop,show j+1+(m+1)=j+1+m+1 by omega]at h3;exact⟨h4,h5,h3⟩
theorem TJ.sX {Q:Exit->St->Ts->Prop} {id:Nat} {l:List Oper} (hm:P.follows .mixedOrders=true) (ow:Nat->Bool) (ws cs ns:List Nat) (hd:eC l.toArray ws=true) (hc:lO l.toArray ws cs ns=true)
  (h:kY P l.toArray ow ws cs ns (fun s' L'=>Q .normal s' L') 0 l s L):TJ P n (.region id l.toArray true) Q s L:=by
 intro eT w0 g0 X S g a w hR;have DX:da n l.toArray.toList=true:=by simpa[codeOk]using eT
 obtain⟨τ,m,k1,k2,k3,k4⟩:=mw l 0 s L h;obtain⟨hI,hx⟩:=hR.inv.heap (w':={w with drawn:=w.drawn+1}) rfl;have hF:Fr w g {w with drawn:=w.drawn+1} g:=(Fr.refl hR.fr.now).heap rfl rfl rfl rfl;have hJ:Jb w0 g0 X L S g {w with drawn:=w.drawn+1}:=(Jb.mk hR.fr hR.nC hR.nd hR.out).cR hF;have wx:∀(i:Nat),l.toArray[i]? =l[i]? :=fun i=>by simp
 refine wp_region_any hm (vt (K:=fun s' L'=>Q .normal s' L') (ow:=ow) hd hc DX (fun s' L' S' g' a' w' h1 h2=>⟨s',g',L',S',h1,h2⟩) _ τ m L S (Array.replicate l.toArray.size false) 0 g a _ ?_ ?_ (acS _) ?_ ?_ ?_ ?_ hJ)
 ·refine Nat.le_trans (List.length_filter_le _ _) (by simp)
 ·refine⟨by simpa using k1,fun j o hj ho=>?_⟩;have:=(k3 j o hj (by rw[wx]at ho;exact ho)).2;simpa only[acQ]using this
 ·intro j o hj ho _;have:=(k3 j o hj (by rw[wx]at ho;exact ho)).1;simpa only[acQ]using this
 ·intro i hi;have Bd:=(acU.1 hi).1;simp at Bd;simp[Bd]at hi
 ·rcases k4 with⟨h1,h2⟩|⟨h1,oc,h2,h4,h5,h3⟩
  ·exact .inl ⟨by rw[h1];simp,h2⟩
  ·refine .inr ⟨by simpa using h1,oc,by rw[wx];exact h2,h4,h5,?_⟩;simp only[acQ]at h3;exact h3
 ·refine⟨by rw[k2];exact hI,.refl hF.now,hR.size,hR.defers,by simp,fun i o t x ho hl=>?_,fun t x _ gI=>?_,fun i _ b8=>?_,acS _,fun i o ho hl=>?_⟩
  ·have hi:=(acU.1 hl).1;simp at hi;simp[hi]at hl
  ·rw[k2]at gI⊢;obtain⟨u,h1,h2⟩:=hR.slot t x gI;exact⟨u,h1,aO.ext hx h2⟩
  ·simp at b8;simp[b8]
  ·have hi:=(acU.1 hl).1;simp at hi;simp[hi]at hl
structure jn (P:Program) (all:Array Oper) (ow:Nat->Bool) (ws cs ns:List Nat) (K:St->Ts->Prop) (i:Nat) (ops:List Oper) (s:St) (L:Ts):Prop where
 mk::
 run:kY P all ow ws cs ns K i ops s L
theorem TJ.Db {Q:Exit->St->Ts->Prop} {id:Nat} {l:List Oper} (hm:P.follows .mixedOrders=true) (ow:Nat->Bool) (ws cs ns:List Nat) (hd:eC l.toArray ws=true) (hc:lO l.toArray ws cs ns=true)
  (h:∀K:St->Ts->Prop,(∀s' L',TJ P n y Q s' L'->K s' L')->jn P l.toArray ow ws cs ns K 0 l s L):TJ P n (.seq (.region id l.toArray true) y) Q s L:=
 TJ.seq (TJ.sX hm ow ws cs ns hd hc (h _ fun _ _ h=>h).run)
theorem TJ.Km {Q:Exit->St->Ts->Prop} {id:Nat} {l:List Oper} (hm:P.follows .mixedOrders=true) (ow:Nat->Bool) (ws cs ns:List Nat) (hd:eC l.toArray ws=true) (hc:lO l.toArray ws cs ns=true)
  (h:∀K:St->Ts->Prop,(∀s' L',Q .normal s' L'->K s' L')->jn P l.toArray ow ws cs ns K 0 l s L):TJ P n (.region id l.toArray true) Q s L:=
 TJ.sX hm ow ws cs ns hd hc (h _ fun _ _ h=>h).run
variable {ow:Nat->Bool} {cs ns:List Nat} {K:St->Ts->Prop} {i:Nat} {o:Oper} {rest:List Oper}
theorem dX (hi:cs.contains i=false) (hn:ns.contains i=false) (h:iv all s o (bI P s (ow i) o fun x V A=>(i∈ws\/(V=s.V/\A=s.A))/\jn P all ow ws cs ns K (i+1) rest (s.put o.dst x V A) L) (jn P all ow ws cs ns K (i+1) rest (s.put o.dst (.c .undef) s.V s.A) L)):jn P all ow ws cs ns K i (o::rest) s L:=
 ⟨nP (fun h=>.inr (.inr ⟨by simpa using hi,by simpa using hn,gm (fun x V A h=>⟨h.1,h.2.run⟩) h⟩)) (fun h=>h.run) h⟩
theorem di (h:K s L):jn P all ow ws cs ns K i [] s L:=⟨h⟩
theorem jn.gen {ops:List Oper} {d:Nat} {b:Bool} {fr:List (Nat×AV)} {V:List (List CV)} {A:List bu} (h:∀q:Bool,b=q->jn P all ow ws cs ns K i ops ⟨(d,.c (.d (.bool q)))::fr,V,A⟩ L):jn P all ow ws cs ns K i ops ⟨(d,.c (.d (.bool b)))::fr,V,A⟩ L:=h b rfl
@[congr] theorem Mx {i i':Nat} {ops:List Oper} (hi:i=i') (h:s=s'):jn P all ow ws cs ns K i ops s L=jn P all ow ws cs ns K i' ops s' L:=by rw[h,hi]
theorem bT {all:Array Oper} {x:AV} (hg:iv all s o True False) (h:cI P s L o x) (hK:kE P n all ow K (i+1) rest (s.put o.dst x s.V s.A) L):kE P n all ow K i (o::rest) s L:=by
 refine⟨fun hd w0 g0 X S g a w Q hR hQ=>?_⟩;simp only[da,acu,acL]at hd;have fc:∀d,o.dst=some d->d<n:=fun d e=>by have:=hd.1;rw[e]at this;simpa using this
 unfold wpList;rcases qb hR.rp hg with⟨h1,_⟩|⟨_,h2⟩
 ·rw[if_pos h1];exact .inl (h.wp (fun x _=>rfl) hR.slot hR.nC hR.nd fun v hv=>hK.run hd.2 w0 g0 X S g _ w Q (hR.put fc hv hR.inv (.refl _ _ _) hR.fr hR.nC hR.nd hR.out) hQ)
 ·exact h2.elim
theorem cI.field {t:TypeId} {d:TD} {x:Operand} {f off sz:Nat} {T:TypeId} {row:List DV} {pv:Value} (ho:o.op=.fieldAddr t x f) (hd:td P t=some d) (hf:d.fl[f]? =some (off,sz)) (e5:sz≠0)
  (hx:bF s x=some (.c (.d (.raw pv)))) (hm:(.n T row,pv)∈L):cI P s L o (.c (.d (.raw (fp pv off)))):=by
 intro cR V A hA g a w S hS hT _;have gI:bF ⟨cR,V,A⟩ x=some (.c (.d (.raw pv))):=(hA x (by simp[ho,Op.operands])).trans hx;have hv:=aJ hS gI;simp only[aO,dK,bn,bh]at hv;obtain⟨b,xs,rfl,_⟩:=hT.node hm;refine⟨.pointer (some ⟨b,0+off,none⟩),⟨rfl,rfl⟩,?_⟩;rw[execOp,ho];exact bp (by rw[hv.1];exact o9 hd hf e5 b 0)
theorem cI.nilCheck {x:Operand} {T:TypeId} {row:List DV} {pv:Value} (ho:o.op=.nilCheck x) (hx:bF s x=some (.c (.d (.raw pv)))) (hm:(.n T row,pv)∈L):cI P s L o (.c (.d (.raw pv))):=by
 intro cR V A hA g a w S hS hT _;have gI:bF ⟨cR,V,A⟩ x=some (.c (.d (.raw pv))):=(hA x (by simp[ho,Op.operands])).trans hx;have hv:=aJ hS gI;simp only[aO,dK,bn,bh]at hv;obtain⟨b,xs,rfl,_⟩:=hT.node hm;refine⟨.pointer (some ⟨b,0,none⟩),⟨rfl,rfl⟩,?_⟩;simp[execOp,ho,hv.1]
theorem cI.load {t:TypeId} {d:TD} {x:Operand} {off:Nat} {T:TypeId} {row:List DV} {pv:Value} {y:DV} (ho:o.op=.load t x) (hd:td P t=some d) (e5:d.sz=1) (Dk:d.ag=false)
  (hx:bF s x=some (.c (.d (.raw (fp pv off))))) (hm:(.n T row,pv)∈L) (hy:row[off]? =some y):cI P s L o (.c (.d y)):=by
 intro cR V A hA g a w S hS hT _;have gI:bF ⟨cR,V,A⟩ x=some (.c (.d (.raw (fp pv off)))):=(hA x (by simp[ho,Op.operands])).trans hx;have hv:=aJ hS gI;simp only[aO,dK,bn,bh]at hv;obtain⟨b,xs,rfl,_,hh,Jj,hr⟩:=hT.node hm;have hj:off<xs.size:=by rw[Jj];exact(acJ.1 hy).1
 have hu:xs[off]? =some xs[off]:=acV hj;refine⟨xs[off],(hr off y _ hy hu).zero,?_⟩;obtain⟨_,h2⟩:=mA (P:=P) (w:=w) hd (b:=b) (off:=off) (vs:=[xs[off]]) (fun j u Hg=>by
  cases j with
  |zero=>simp at Hg;subst Hg;simp[World.cell?,hh]
  |succ j=>simp at Hg) (by simp[e5])
 rw[execOp,ho];refine bp ?_;rw[hv.1,show fp (.pointer (some ⟨b,0,none⟩)) off=.pointer (some ⟨b,off,none⟩) by simp[fp]];exact h2 Dk _ rfl
theorem IN {op:BinOp} {tp te:TypeId} {x y:Operand} {vx vy:AV} {p q:Value} {T:TypeId} {d:TD} {tb:TypeId} {cR:List (Nat×AV)} {V:List (List CV)} {A:List bu} {S:List Nat} (ho:o.op=.binOp op tp x y tb) (gL:op=.eql\/op=.neq)
  (hx:bF ⟨cR,V,A⟩ x=some vx) (hy:bF ⟨cR,V,A⟩ y=some vy) (Ph:vq vx=some p) (Pj:vq vy=some q) (hp:CP L T p) (hq:CP L T q)
  (Kn:P.underlying tp=some (.pointer te)) (hd:td P te=some d) (e5:d.sz≠0) (P9:P.pointee tp=te) (hS:iA g w ⟨cR,V,A⟩ a) (hT:iG w L S) {bb:Bool} (Gd:(bb=true)=((p=q)=(op=.eql))):(execOp a.eval o).run P w=.ok (.value (.bool bb)) w:=by
 have e1:=zR Ph (aJ hS hx);have e2:=zR Pj (aJ hS hy);obtain⟨inf,hi,o8,_,_⟩:=gx hd;have My:(eqGuard op tp x y p q).run P w=.ok () w:=by
  rcases hp with rfl|⟨row,hm⟩
  ·rcases gL with rfl|rfl<;>simp[eqGuard]
  ·obtain⟨b,_,rfl,_⟩:=hT.node hm;rcases gL with rfl|rfl<;>simp[eqGuard]
 obtain⟨e,Nb,heq⟩:∃e:Bool,(e=true↔p=q)/\∀k:Nat,(Op.equalIn (k+1) tp p q).run P w=.ok e w:=by
  rcases hp with rfl|⟨row,hm⟩
  ·rcases hq with rfl|⟨row',Sb⟩
   ·exact⟨true,by simp,fun k=>by simp[Op.equalIn,run_underlying Kn]⟩
   ·obtain⟨b,_,rfl,_⟩:=hT.node Sb;exact⟨false,by simp,fun k=>by simp[Op.equalIn,run_underlying Kn]⟩
  ·obtain⟨b,xs,rfl,_,hh,_⟩:=hT.node hm;rcases hq with rfl|⟨row',Sb⟩
   ·exact⟨false,by simp,fun k=>by simp[Op.equalIn,run_underlying Kn]⟩
   ·obtain⟨b',xs',rfl,_,Vr,_⟩:=hT.node Sb;by_cases Mz:b=b'
    ·subst Mz;exact⟨true,by simp,fun k=>by simp[Op.equalIn,run_underlying Kn,sizeOf,typeInfo,hi,o8,e5,run_sameAddr_same]⟩
    ·have dj:(⟨b,0,none⟩:Addr)≠⟨b',0,none⟩:=by simp[Mz]
     exact⟨false,by simp[Mz],fun k=>by simp[Op.equalIn,run_underlying Kn,sizeOf,typeInfo,hi,o8,e5,run_sameAddr_other w dj hh Vr]⟩
 have Pk:(Op.equal tp p q).run P w=.ok e w:=heq 9999;have Vs:(∃x,p=.pointer x)/\∃y,q=.pointer y:=by
  constructor
  ·rcases hp with rfl|⟨row,hm⟩
   ·exact⟨_,rfl⟩
   ·obtain⟨b,_,rfl,_⟩:=hT.node hm;exact⟨_,rfl⟩
  ·rcases hq with rfl|⟨row,hm⟩
   ·exact⟨_,rfl⟩
   ·obtain⟨b,_,rfl,_⟩:=hT.node hm;exact⟨_,rfl⟩
 rw[execOp,ho];refine bp ?_;rw[e1,e2,Sem.run_bind,My];simp only[Result.andThen_ok];obtain⟨⟨x',rfl⟩,y',rfl⟩:=Vs;rcases gL with rfl|rfl
 ·have:bb=e:=by
   rw[acN,Gd,Nb];simp
  rw[this];simp only[binOp];rw[Sem.run_bind,Pk]
  rfl
 ·have:bb= !e:=by
   rw[acN,Gd,Bool.not_eq_true',<-Bool.not_eq_true,Nb];simp
  rw[this];simp only[binOp];rw[Sem.run_bind,Pk]
  rfl
theorem cI.eql {tp te tb T:TypeId} {d:TD} {x y:Operand} {vx vy:AV} {p q:Value} (ho:o.op=.binOp .eql tp x y tb)
  (hx:bF s x=some vx) (hy:bF s y=some vy) (Ph:vq vx=some p) (Pj:vq vy=some q) (hp:CP L T p) (hq:CP L T q)
  (Kn:P.underlying tp=some (.pointer te)) (hd:td P te=some d) (e5:d.sz≠0) (P9:P.pointee tp=te):cI P s L o (.c (.d (.bool (@decide (p=q) (Classical.propDecidable _))))):=by
 intro cR V A hA g a w S hS hT _;have gI:=(hA x (by simp[ho,Op.operands])).trans hx;have PI:=(hA y (by simp[ho,Op.operands])).trans hy;exact⟨_,rfl,IN ho (.inl rfl) gI PI Ph Pj hp hq Kn hd e5 P9 hS hT (by simp)⟩
theorem cI.neq {tp te tb T:TypeId} {d:TD} {x y:Operand} {vx vy:AV} {p q:Value} (ho:o.op=.binOp .neq tp x y tb)
  (hx:bF s x=some vx) (hy:bF s y=some vy) (Ph:vq vx=some p) (Pj:vq vy=some q) (hp:CP L T p) (hq:CP L T q)
  (Kn:P.underlying tp=some (.pointer te)) (hd:td P te=some d) (e5:d.sz≠0) (P9:P.pointee tp=te):cI P s L o (.c (.d (.bool (!@decide (p=q) (Classical.propDecidable _))))):=by
 intro cR V A hA g a w S hS hT _;have gI:=(hA x (by simp[ho,Op.operands])).trans hx;have PI:=(hA y (by simp[ho,Op.operands])).trans hy;exact⟨_,rfl,IN ho (.inr rfl) gI PI Ph Pj hp hq Kn hd e5 P9 hS hT (by by_cases h:p=q<;>simp[h])⟩
theorem lq.box {T:TypeId} {x:Operand} {cells:List CV} {row:List DV} {k:AV->Ts->Prop} (ho:o.op=.box T x) (hx:bF s x=some (.agg cells)) (ef:CN cells=some row) (hK:∀pv,k (.c (.d (.raw pv))) ((.n T row,pv)::L)):lq P s L o k:=by
 intro cR V A hA n w0 g0 X S g a w hR next Q hn;have gI:bF ⟨cR,V,A⟩ x=some (.agg cells):=(hA x (by simp[ho,Op.operands])).trans hx;obtain⟨vs,hv,hl,hc⟩:=aJ hR.slot gI;have fC:(execOp a.eval o).run P w=.ok (.value (.pointer (some ⟨w.heap.size,0,none⟩))) (w.alloc (.cells vs.toArray T)):=by
  simp[execOp,ho,hv,Instr.box,newVar,jG,Value.cells]
 unfold Oper.wp;rw[fC];obtain⟨g1,vB,fj,dC⟩:=hR.inv.ej (.cells vs.toArray T) 0;have kH:=(Fr.refl hR.fr.now).ej (.cells vs.toArray T) 0;rw[<-vB]at kH;have uR:=hR.xm kH;have ax:∀b∈S,b<w.heap.size:=hR.nC.lt;refine hn _ _ (w.heap.size::S) _ _ g1 (hK (.pointer (some ⟨w.heap.size,0,none⟩))) ⟨rfl,rfl⟩ fj dC (hR.fr.fr kH) ⟨[w.heap.size],S,rfl,?_,uR.1⟩ (acr.2 ⟨fun h=>absurd (ax _ h) (by omega),hR.nd⟩) fun b hb=>?_
 ·simp only[Tr];refine⟨_,vs.toArray,rfl,heap_alloc_new w _,?_,fun j y u h1 h2=>?_,rfl⟩
  ·have h2:=xV ef;simp;omega
  ·have Lz:vs[j]? =some u:=by simpa using h2
   have jA:j<cells.length:=by
    have:=xV ef;have:=(acJ.1 h1).1;omega
   have Nt:cells[j]? =some cells[j]:=List.getElem?_eq_getElem jA;exact Fg (Fh ef Nt h1) (hc j _ u Nt Lz)
 ·rcases acB.1 hb with rfl|hb
  ·refine⟨by rw[vB];simp,fun hm=>?_,fun hm=>?_,fun hm=>?_,.inl hR.fr.size⟩
   ·rw[vB]at hm;obtain⟨l,hl⟩:=acI hm;have:=hR.inv.qW hl;omega
   ·rw[vB]at hm;obtain⟨k,v',q1,q2⟩:=Gh.fQ (g:=g) (by simpa[Gh.jy]using hm);have:=hR.inv.mN q1 q2;omega
   ·have:=(hR.fr.now _ hm).1;omega
  ·exact uR.2 b hb
theorem jX {all:Array Oper} (hg:iv all s o True False) (h:lq P s L o fun x L'=>kE P n all ow K (i+1) rest (s.put o.dst x s.V s.A) L'):kE P n all ow K i (o::rest) s L:=by
 refine⟨fun hd w0 g0 X S g a w Q hR hQ=>?_⟩;simp only[da,acu,acL]at hd;have fc:∀d,o.dst=some d->d<n:=fun d e=>by have:=hd.1;rw[e]at this;simpa using this
 unfold wpList;rcases qb hR.rp hg with⟨h1,_⟩|⟨_,h2⟩
 ·rw[if_pos h1];exact .inl (h _ _ _ (fun x _=>rfl) n w0 g0 X S g a w hR _ _ fun x L' S' v w' g' h3 h4 h5 h6 h7 h8 h9 cJ=>h3.run hd.2 w0 g0 X S' g' _ w' Q (hR.put fc h4 h5 h6 h7 h8 h9 cJ) hQ)
 ·exact h2.elim
end
section
variable {P:Program} {n:Nat} {s:St} {L L2:Ts} {all:Array Oper} {ow:Nat->Bool} {K:St->Ts->Prop} {i:Nat} {o:Oper} {rest:List Oper}
theorem cI.Sd {x:Operand} {t e e':TypeId} {d:TD} {sz m:Nat} {cs:List GC} {v:Value} (ho:o.op=.call {callee:=.builtin .len,args:= #[x],argTypes:= #[t]}) (hd:td P t=some d) (tC:d.el=some e')
  (hx:bF s x=some (.c (.d (.raw v)))) (hm:(.t e sz m cs,v)∈L):cI P s L o (.c (.d (.int .i64 m))):=by
 intro cR V A hA g a w S hS hT _;have gI:bF ⟨cR,V,A⟩ x=some (.c (.d (.raw v))):=(hA x (by simp[ho,Op.operands,Call.operands])).trans hx;have hv:=aJ hS gI;simp only[aO,dK,bn,bh]at hv;obtain⟨S',h1,_⟩:=hT.at_ hm;simp only[Tr]at h1;obtain⟨xs,S'',dP,_,_⟩:=h1;refine⟨.int .i64 m,rfl,?_⟩;have uM:∃ad cp,v=.slice ad m cp:=by
  rcases dP.2 with⟨e1,e2⟩|⟨b1,c1,cu1,e1,_⟩
  ·exact⟨none,0,by rw[e1,e2]⟩
  ·exact⟨_,_,e1⟩
 obtain⟨ad,cp,rfl⟩:=uM;unfold execOp;simp only[ho,resolve,invoke,Sem.run_bind,Sem.run_pure,Result.andThen_ok,acC,acx,acD,hv.1];refine bp ?_;simp[Builtin.len_,run_underlying (mP hd tC),goInt]
end
end Go.Av
