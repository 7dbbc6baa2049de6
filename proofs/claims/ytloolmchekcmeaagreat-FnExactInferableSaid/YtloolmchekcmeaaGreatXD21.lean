/- A part. -/
import Derived.Test.YtloolmchekcmeaaGreatXD20
import Derived.LaidEql
set_option linter.unusedVariables false
set_option linter.unusedSimpArgs false
open List renaming range->acb,append_assoc->acd,nodup_cons->ace,all_eq_true->acf,all_cons->acg,mem_of_getElem?->ach,mem_append->aci,map_cons->acj,mem_range->ack,mem_iff_getElem?->acm,mem_cons->acn,map_toArray->aco,map_nil->acp,length_nil->acq,length_cons->acr,getElem?_zipIdx->acs,getElem?_set->acu,getElem?_of_mem->acv,getElem?_eq_some_iff->acw,contains_eq_mem->acx
open Bool renaming and_eq_true->acz,or_eq_true->acA,eq_iff_iff->acB
open Nat renaming lt_or_ge->acC,le_refl->acD,zero_add->acE,lt_trichotomy->acF,zero_le->acG,strongRecOn->acH
open Array renaming getElem?_eq_some_iff->acI,getElem?_eq_getElem->acJ,mem_toList_iff->acK,getElem?_setIfInBounds_ne->acL
open Option renaming bind_some->acM
namespace Go.Av
attribute [-simp] Go.Av.bP Go.Av.eu Go.Av.eN Go.Av.eG Go.Av.b8 Go.Av.bN Go.Av.IT.gK Go.Av.IT.eH Go.Av.IT.ey Go.Av.IT.gj Go.Av.IT.gL Go.Av.IT.gM Go.Av.IT.gN Go.Av.IT.gO Go.Av.IT.e8 Go.Av.fh
open Go
def fp:Value->Nat->Value
 |.pointer (some ⟨b,o,k⟩),off=>.pointer (some ⟨b,o+off,k⟩)
 |v,_=>v
def KN:CV->Option DV
 |.d x=>if x.eM=true then some x else none
 |.np=>some (.raw (.pointer none))
 |.nil=>some (.raw (.slice none 0 0))
 |_=>none
def B0:List CV->Option (List DV)
 |[]=>some []
 |c::r=>match KN c,B0 r with
  |some x,some l=>some (x::l)
  |_,_=>none
theorem Eu {g:Gh} {w:World} {A:List bu} {im:Nat->Nat} {w':World} {c:CV} {x:DV} {u:Value} (h:KN c=some x) (hr:bc g w A c u):a6 im w' x u:=by
 cases c with
 |d y=>
  simp only[KN]at h;split at h
  ·rename_i hs;simp at h;subst h;exact DV.gY hs hr
  ·simp at h
 |np=>simp only[KN,Option.some.injEq]at h;subst h;exact⟨hr,by simp only[bc]at hr;subst hr;rfl⟩
 |nil=>simp only[KN,Option.some.injEq]at h;subst h;exact⟨hr,by simp only[bc]at hr;subst hr;rfl⟩
 |_=>simp[KN]at h
theorem xu:∀{cs:List CV} {ds:List DV},B0 cs=some ds->ds.length=cs.length
 |[],ds,h=>by simp[B0]at h;subst h;rfl
 |c::r,ds,h=>by
  simp only[B0]at h;split at h
  ·rename_i x l h1 h2;simp at h;subst h;simp[xu h2]
  ·simp at h
theorem Ev:∀{cs:List CV} {ds:List DV},B0 cs=some ds->∀{j:Nat} {c x},cs[j]? =some c->ds[j]? =some x->KN c=some x
 |[],ds,h,j,c,x,h1,_=>by simp at h1
 |y::r,ds,h,j,c,x,h1,h2=>by
  simp only[B0]at h;split at h
  ·rename_i a l h3 h4;simp at h;subst h;cases j with
   |zero=>simp at h1 h2;subst h1;subst h2;exact h3
   |succ j=>exact Ev h4 (by simpa using h1) (by simpa using h2)
  ·simp at h
section
variable {P:Program} {n:Nat} {s:St} {L L2:Ts} {all:Array Oper} {ow:Nat->Bool} {K:St->Ts->Prop} {i:Nat} {o:Oper} {rest:List Oper}
theorem gl.node {w:World} {T:TypeId} {row:List DV} {pv:Value} {S:List Nat} (h:gl w L S) (hm:(.n T row,pv)∈L):
  ∃b xs,pv=.pointer (some ⟨b,0,none⟩)/\b∈S/\w.heap[b]? =some (.cells xs T (0,0))/\xs.size=row.length/\∀(j:Nat) x u,row[j]? =some x->xs[j]? =some u->a6 (fun _=>0) w x u:=by
 obtain⟨S',h1,h2⟩:=h.at_ hm;simp only[Tr]at h1;obtain⟨b,xs,rfl,h3,h4,h5,rfl⟩:=h1;exact⟨b,xs,rfl,h2 b (by simp),h3,h4,h5⟩
theorem uI {t:TypeId} {d:TD} {x y:Operand} {off:Nat} {T:TypeId} {row:List DV} {pv:Value} {c:CV} {e:DV} (hg:o.guard=none) (ho:o.op=.store t x y) (hd:td P t=some d) (eP:d.sz=1)
  (hx:bw s x=some (.c (.d (.raw (fp pv off))))) (hy:bw s y=some (.c c)) (hc:KN c=some e) (hp:L.Perm ((.n T row,pv)::L2)) (RB:off<row.length)
  (hK:jP P n all ow K (i+1) rest (s.put o.dst (.c .undef) s.V s.A) ((.n T (row.set off e),pv)::L2)):jP P n all ow K i (o::rest) s L:=by
 refine⟨fun xL w0 g0 X S g a w Q hR hQ=>?_⟩;simp only[cP,acg,acz]at xL;have e5:∀d,o.dst=some d->d<n:=fun d e=>by have:=xL.1;rw[e]at this;simpa using this
 obtain⟨S0,u9,IG⟩:=hR.mu.perm hp;obtain⟨S1,S2,rfl,jT,zO⟩:=IG;simp only[Tr]at jT;obtain⟨b,xs,rfl,hh,Kc,hr,rfl⟩:=jT;have l8:=u9.nodup_iff.1 hR.nd;have iX:=fun b hb=>hR.out b (u9.mem_iff.2 hb)
 obtain⟨vA,LA,OD,Tb,OE⟩:=iX b (by simp);have hv:=aI hR.slot hx;simp only[aR,di,bc,a6]at hv;have hu:=aI hR.slot hy;simp only[aR,di]at hu;have Tc:=Eu (im:=fun _=>0) (w':=w) hc hu;have RC:(a.eval y).oneCell'=true:=Tc.lA;have kT:(a.eval y).cells= #[a.eval y]:=by
  cases hq:a.eval y<;>first|rfl|(rw[hq]at RC;simp[Value.oneCell']at RC)
 have e0:=kS (P:=P) hd (v:=a.eval y) (by rw[kT,eP];rfl) hh (off:=off) (by rw[eP];omega) (fun u hu=>by rw[kT]at hu;simp at hu;subst hu;exact RC);have Og:(bV xs.toList off (a.eval y).cells.toList).toArray=xs.setIfInBounds off (a.eval y):=by
  rw[kT];apply Array.ext';simp only[Array.toList_setIfInBounds];apply List.ext_getElem?;intro j;rw[fM (by simp;omega),acu];simp only[acr,acq,acE,Array.length_toList];by_cases hj:off=j
  ·subst hj;rw[if_pos ⟨acD _,by omega⟩,if_pos rfl,if_pos (by omega),Nat.sub_self];rfl
  ·rw[if_neg (by omega),if_neg hj]
 rw[Og]at e0;have US:b<w.heap.size:=(acI.1 hh).1;unfold wpList;rw[if_pos (by simp[Region.wanted,hg])];refine .inl ?_;unfold Oper.wp;have B5:(execOp a.eval o).run P w=.ok .skip (w.setRow b (xs.setIfInBounds off (a.eval y))):=by
  rw[execOp,ho];refine vM ?_;rw[hv.1,show fp (.pointer (some ⟨b,0,none⟩)) off=.pointer (some ⟨b,off,none⟩) by simp[fp]];exact e0
 rw[B5];have fY:∀b',b'≠b->(w.setRow b (xs.setIfInBounds off (a.eval y))).heap[b']? =w.heap[b']? :=fun b' eI=>cg w b b' _ eI
 have ya:(w.setRow b (xs.setIfInBounds off (a.eval y))).heap[b]? =some (.cells (xs.setIfInBounds off (a.eval y)) T (0,0)):=setRow_heap w b xs _ T (0,0) hh;have H7:(w.setRow b (xs.setIfInBounds off (a.eval y))).heap.size=w.heap.size:=by simp
 have xS:jE g.im w g.im (w.setRow b (xs.setIfInBounds off (a.eval y))):=⟨fun _=>acD _,fun b' o' F4=>by
  have cY:b'≠b:=fun e=>by subst e;omega
  exact World.cell?_of_block (a:=⟨b',o',none⟩) (fY b' cY)⟩
 have H8:Ext g w s.A g (w.setRow b (xs.setIfInBounds off (a.eval y))) s.A:=⟨fun _ _ h=>h,xS,fun _ r h=>⟨r,h,rfl,acD _,fun _=>rfl⟩⟩;have OF:Inv g (w.setRow b (xs.setIfInBounds off (a.eval y))) s.V s.A:=by
  refine⟨hR.inv.oe,hR.inv.lq,fun l row' b' h3 h4=>?_,fun k r u h3 h4=>?_,hR.inv.jW,hR.inv.iE,hR.inv.iM,fun b' eI=>hR.inv.fresh b' (by omega)⟩
  ·exact hR.inv.ff H8 h3 h4 (fY b' (fun e=>by subst e;exact LA (ach h4))) (hR.inv.obj l row' b' h3 h4).1
  ·exact hR.inv.fg H8 h3 h4 (fun b' eI=>fY b' (fun e=>by subst e;exact OD (Gh.iN h4 eI))) (fun _ _=>rfl)
 have OG:vv w0 g0 X (w.setRow b (xs.setIfInBounds off (a.eval y))) g:=by
  refine⟨hR.fr.os,hR.fr.tape,hR.fr.output,by rw[H7];exact hR.fr.size,fun b' q1 q2 q3 q4=>?_,hR.fr.iO,hR.fr.ob,hR.fr.ar,hR.fr.vk,hR.fr.xR,hR.fr.Bw⟩;rw[fY b' (fun e=>by
   subst e;rcases OE with q|q
   ·omega
   ·exact q4 q)]
  exact hR.fr.pF b' q1 q2 q3 q4
 have RD:b∉S2:=fun hm=>(ace.1 l8).1 hm
 refine hK.run xL.2 w0 g0 X (b::S2) g _ _ Q (hR.put e5 (x:=.c .undef) (v:=undef) rfl OF H8 OG ⟨[b],S2,rfl,?_,zO.dq fun b' eI=>fY b' (fun e=>by subst e;exact RD eI)⟩ l8 iX) hQ;simp only[Tr];refine⟨b,_,rfl,ya,by simp[Kc],fun j x' u h3 h4=>?_,rfl⟩;rw[acu]at h3;rw[Array.getElem?_setIfInBounds]at h4;by_cases hj:off=j
 ·rw[if_pos hj,if_pos RB]at h3;rw[if_pos hj,if_pos (by omega)]at h4;simp at h3 h4;subst h3;subst h4;exact Tc.zero
 ·rw[if_neg hj]at h3;rw[if_neg hj]at h4;exact(hr j x' u h3 h4).zero
def uJ:AV->Option Value
 |.c (.d (.raw v))=>some v
 |.c .np=>some (.pointer none)
 |_=>none
theorem y9 {g:Gh} {w:World} {A:List bu} {x:AV} {v u:Value} (h:uJ x=some v) (hr:aR g w A x u):u=v:=by
 unfold uJ at h;split at h
 ·simp at h;subst h;simp only[aR,di,bc,a6]at hr;exact hr.1
 ·simp at h;subst h;exact hr
 ·simp at h
def B6 (L:Ts) (T:TypeId) (v:Value):Prop:=v=.pointer none\/∃row,(.n T row,v)∈L
end
theorem iZ.H9 {w:World}:∀{cs:List GC} {xs:List Value} {S:List Nat} {ds:List DV} {us:List Value},iZ w cs xs S->us.length=ds.length->(∀(j:Nat) x u,ds[j]? =some x->us[j]? =some u->a6 (fun _=>0) w x u)->iZ w (cs++ds.map GC.d) (xs++us) S
 |[],xs,S,[],us,h,hl,_=>by
  have:us=[]:=List.length_eq_zero_iff.1 (by simpa using hl);simp only[iZ]at h;obtain⟨rfl,rfl⟩:=h;subst this;simp[iZ]
 |[],xs,S,d::ds,us,h,hl,hr=>by
  simp only[iZ]at h;obtain⟨rfl,rfl⟩:=h
  match us,hl with
  |u::us,hl=>
   have h2:=iZ.H9 (w:=w) (cs:=[]) (xs:=[]) (S:=[]) (ds:=ds) (us:=us) (by simp[iZ]) (by simpa using hl) (fun j x v h1 h2=>hr (j+1) x v (by simpa using h1) (by simpa using h2));simp only[List.nil_append,acj,iZ]at h2⊢;exact⟨u,us,[],[],rfl,rfl,by simp only[Tr];exact⟨hr 0 d u rfl rfl,trivial⟩,h2⟩
 |c::cs,xs,S,ds,us,h,hl,hr=>by
  simp only[iZ]at h;obtain⟨x,xs',S1,S2,rfl,rfl,h1,h2⟩:=h;simp only[List.cons_append,iZ];exact⟨x,xs'++us,S1,S2,rfl,rfl,h1,iZ.H9 h2 hl hr⟩
section
variable {P:Program} {n:Nat} {s:St} {L L2:Ts} {all:Array Oper} {ow:Nat->Bool} {K:St->Ts->Prop} {i:Nat} {o:Oper} {rest:List Oper}
theorem Ac {x y:Operand} {t e:TypeId} {d de:TD} {z:List CV} {m:Nat} {cs:List GC} {v:Value} {u:AV} {nr:List (List DV)} (hg:o.guard=none) (ho:o.op=.call {callee:=.builtin .append,args:= #[x,y],argTypes:= #[t,t]})
  (ht:td P t=some d) (sV:d.el=some e) (he:td P e=some de) (hz:de.zero=some z) (qt:z.length=de.sz) (hx:bw s x=some (.c (.d (.raw v)))) (hy:bw s y=some u) (DK:rowsOf s.A u=some nr) (hl:∀r∈nr,r.length=de.sz)
  (uy:∀r∈nr,∀c∈r,DV.eM c=true) (hp:L.Perm ((.t e de.sz m cs,v)::L2)) (hb:(m+nr.length)*de.kI<=140737488355328) (hm:m+nr.length<=9223372036854775807)
  (hK:∀v',jP P n all ow K (i+1) rest (s.put o.dst (.c (.d (.raw v'))) s.V s.A) ((.t e de.sz (m+nr.length) (cs++nr.flatten.map GC.d),v')::L2)):jP P n all ow K i (o::rest) s L:=by
 refine⟨fun xL w0 g0 X S g a w Q hR hQ=>?_⟩;simp only[cP,acg,acz]at xL;have e5:∀d,o.dst=some d->d<n:=fun d e=>by have:=xL.1;rw[e]at this;simpa using this
 obtain⟨S0,u9,IG⟩:=hR.mu.perm hp;obtain⟨S1,S2,rfl,jT,zO⟩:=IG;simp only[Tr]at jT;obtain⟨xs,S3,c7,L9,rfl⟩:=jT;have l8:=u9.nodup_iff.1 hR.nd;have iX:=fun b hb=>hR.out b (u9.mem_iff.2 hb)
 have ax:∀b∈v.ownBlock.toList++S3++S2,b<w.heap.size:=fun b hb=>hR.mu.lt b (u9.mem_iff.2 hb)
 have hv:=aI hR.slot hx;simp only[aR,di,bc,a6]at hv;obtain⟨hv,iG⟩:=hv;have hu:=aI hR.slot hy;obtain⟨inf,hi,oH,Cw,h0⟩:=fQ he;obtain⟨zv,GD,F6⟩:=h0 z hz;have Iw:zv.cells.size=inf.size:=by have:=ig F6;simp at this;omega
 obtain⟨news,vR,uT,zp⟩:=sW hR.inv hu DK hl;have Ew:∀(j:Nat) q u,nr.flatten[j]? =some q->news[j]? =some u->a6 (fun _=>0) w q u:=fun j q u h1 h2=>by
  obtain⟨r,Ma,Cs⟩:=List.mem_flatten.1 (ach h1);exact DV.gY (uy r Ma q Cs) (zp j q u h1 h2)
 have F5:news.length=nr.flatten.length:=by
  have vm:nr.flatten.length=nr.length*de.sz:=by
   clear vR zp Ew hb hm hK DK uy;induction nr with
   |nil=>simp
   |cons r nr ih=>simp only[List.flatten_cons,List.length_append,acr];rw[hl r (by simp),ih (fun x hx=>hl x (by simp[hx])),Nat.add_mul,Nat.one_mul,Nat.add_comm]
  rcases vR with⟨h1,h2,_⟩|⟨_,_,_,h1,_⟩
  ·rw[vm,h1,h2];simp
  ·rw[vm,h1]
 have nR:w.ownsRow 0 e inf.size v m xs:=by rw[oH];exact c7
 obtain⟨v',w',e0,sG,hc⟩:=lT (P:=P) t o.type e inf zv (mc ht sV) hi GD Iw v m xs nR (a.eval y) nr.length news (by rw[oH];exact vR) uT (by simp only[maxLen];omega) (by rw[Cw];exact hb);rw[oH]at sG;unfold wpList;rw[if_pos (by simp[Region.wanted,hg])];refine .inl ?_;unfold Oper.wp;have B5:(execOp a.eval o).run P w=.ok (.value v') w':=by
  unfold execOp;simp only[ho,resolve,invoke,Sem.run_bind,Sem.run_pure,Result.andThen_ok,aco,acj,acp,hv];exact nQ e0
 rw[B5];have Dq:v'.oneCell'=true:=by
  rcases sG.2 with⟨rfl,_⟩|⟨b1,c1,cu1,rfl,_⟩<;>rfl
 rcases hc with⟨rfl,rfl⟩|⟨b,cs',xV,xv,rfl⟩|⟨o',xv,rfl⟩
 ·refine(hK v').run xL.2 w0 g0 X (v'.ownBlock.toList++S3++S2) g _ _ Q (hR.put e5 (x:=.c (.d (.raw v'))) ⟨rfl,Dq⟩ hR.inv (.refl _ _ _) hR.fr ⟨_,S2,rfl,?_,zO⟩ l8 iX) hQ;simp only[Tr];exact⟨xs++news,S3,sG,L9.H9 F5 Ew,rfl⟩
 ·have RE:b∈v.ownBlock.toList++S3++S2:=by simp[xV]
  obtain⟨vA,LA,OD,Tb,OE⟩:=iX b RE;have fY:∀b',b'≠b->(w.setRow b cs').heap[b']? =w.heap[b']? :=fun b' eI=>cg w b b' _ eI
  have H7:(w.setRow b cs').heap.size=w.heap.size:=by simp
  have xS:jE g.im w g.im (w.setRow b cs'):=⟨fun _=>acD _,fun b' o' F4=>by
   have cY:b'≠b:=fun e=>by subst e;omega
   exact World.cell?_of_block (a:=⟨b',o',none⟩) (fY b' cY)⟩
  have H8:Ext g w s.A g (w.setRow b cs') s.A:=⟨fun _ _ h=>h,xS,fun _ r h=>⟨r,h,rfl,acD _,fun _=>rfl⟩⟩;have OF:Inv g (w.setRow b cs') s.V s.A:=by
   refine⟨hR.inv.oe,hR.inv.lq,fun l row' b' h3 h4=>?_,fun k r u h3 h4=>?_,hR.inv.jW,hR.inv.iE,hR.inv.iM,fun b' eI=>hR.inv.fresh b' (by omega)⟩
   ·exact hR.inv.ff H8 h3 h4 (fY b' (fun e=>by subst e;exact LA (ach h4))) (hR.inv.obj l row' b' h3 h4).1
   ·exact hR.inv.fg H8 h3 h4 (fun b' eI=>fY b' (fun e=>by subst e;exact OD (Gh.iN h4 eI))) (fun _ _=>rfl)
  have OG:vv w0 g0 X (w.setRow b cs') g:=by
   refine⟨hR.fr.os,hR.fr.tape,hR.fr.output,by rw[H7];exact hR.fr.size,fun b' q1 q2 q3 q4=>?_,hR.fr.iO,hR.fr.ob,hR.fr.ar,hR.fr.vk,hR.fr.xR,hR.fr.Bw⟩;rw[fY b' (fun e=>by
    subst e;rcases OE with q|q
    ·omega
    ·exact q4 q)]
   exact hR.fr.pF b' q1 q2 q3 q4
  have tv:(b::(S3++S2)).Nodup:=by simpa[xV]using l8
  have Aw:b∉S3++S2:=(ace.1 tv).1;refine(hK v').run xL.2 w0 g0 X (v'.ownBlock.toList++S3++S2) g _ _ Q (hR.put e5 (x:=.c (.d (.raw v'))) ⟨rfl,Dq⟩ OF H8 OG ⟨_,S2,rfl,?_,zO.dq fun b' eI=>fY b' (fun e=>by subst e;exact Aw (by simp[eI]))⟩ (by rw[xv];simpa using tv) fun b' eI=>iX b' (by rw[xV];rw[xv]at eI;exact eI)) hQ;simp only[Tr];exact⟨xs++news,S3,sG,(L9.dq _ _ _ fun b' eI=>fY b' (fun e=>by subst e;exact Aw (by simp[eI]))).H9 F5 (fun j q u h1 h2=>(Ew j q u h1 h2).zero),rfl⟩
 ·obtain⟨RF,MB⟩:=hR.inv.heap (w':=w.drew) rfl;have RG:Fr w g w.drew g:=(Fr.refl hR.fr.now).heap rfl rfl rfl rfl;obtain⟨g1,uP,e9,lu⟩:=RF.dR o' 0;have jS:=RG.dR o' 0;have MD:w.drew.heap.size=w.heap.size:=rfl;rw[<-uP]at jS;have ou:∀b∈S3++S2,b<w.heap.size:=fun b hb=>ax b (by simp only[acd,aci]at hb⊢;exact .inr hb)
  have hold:∀b,b<w.heap.size->(w.drew.alloc o').heap[b]? =w.heap[b]? :=fun b hb=>RowKit.Below.heap_alloc w.drew o' b hb
  have Ho:(S3++S2).Nodup:=by rw[acd]at l8;exact(List.nodup_append.1 l8).2.1
  have ug:=hR.wJ jS;refine(hK v').run xL.2 w0 g0 X (v'.ownBlock.toList++S3++S2) g1 _ _ Q (hR.put e5 (x:=.c (.d (.raw v'))) ⟨rfl,Dq⟩ e9 (MB.trans lu) (hR.fr.fr jS) ⟨_,S2,rfl,?_,zO.dq fun b' eI=>hold b' (ou b' (by simp[eI]))⟩ ?_ fun b hb=>?_) hQ
  ·simp only[Tr];exact⟨xs++news,S3,sG,(L9.dq _ _ _ fun b' eI=>hold b' (ou b' (by simp[eI]))).H9 F5 (fun j q u h1 h2=>(Ew j q u h1 h2).zero),rfl⟩
  ·rw[xv,acd];exact ace.2 ⟨fun hm=>absurd (ou _ hm) (by omega),Ho⟩
  ·rw[xv,acd]at hb;rcases acn.1 hb with rfl|hb
   ·refine⟨by rw[uP];simp,fun hm=>?_,fun hm=>?_,fun hm=>?_,.inl hR.fr.size⟩
    ·rw[uP]at hm;obtain⟨l,hl⟩:=acv hm;have:=hR.inv.qN hl;omega
    ·rw[uP]at hm;obtain⟨k,v',q1,q2⟩:=Gh.fw (g:=g) (by simpa[Gh.iF]using hm);have:=hR.inv.ma q1 q2;omega
    ·have:=(hR.fr.now _ hm).1;omega
   ·exact ug.2 b (u9.mem_iff.2 (by rw[acd];exact List.mem_append_right _ hb))
end
end Go.Av
namespace Go.Av
attribute [-simp] Go.Av.IT.gK Go.Av.IT.eH Go.Av.IT.ey Go.Av.IT.gj Go.Av.IT.gL Go.Av.IT.gM Go.Av.IT.gN Go.Av.IT.gO Go.Av.IT.e8 Go.Av.fh
open Go
section
variable {P:Program} {n:Nat} {w0 w w':World} {g0 g g':Gh} {X S S':List Nat} {s s':St} {L L':Ts} {a a':Act} {x y:Code} {all:Array Oper} {ws:List Nat}
def RH (o:Oper) (cB:List (Nat×AV)) (V:List (List CV)) (A:List bu) (s:St):Prop:=∀x∈o.op.operands.toList,bw ⟨cB,V,A⟩ x=bw s x
def kF (P:Program) (s:St) (L:Ts) (o:Oper) (K:AV->Ts->Prop):Prop:=
 ∀(cB:List (Nat×AV)) (V:List (List CV)) (A:List bu),RH o cB V A s->∀(n:Nat) (w0:World) (g0:Gh) (X S:List Nat) (g:Gh) (a:Act) (w:World),qE n w0 g0 X ⟨cB,V,A⟩ L S g a w->∀(next:Act->World->Prop) (Q:Exit->Act->World->Prop),
  (∀x L' S' v w' g',K x L'->aR g' w' A x v->Inv g' w' V A->Ext g w A g' w' A->vv w0 g0 X w' g'->gl w' L' S'->S'.Nodup->(∀b∈S',g'.im b=0/\b∉g'.ob/\b∉g'.iF/\¬oC b/\(w0.heap.size<=b\/b∈X))->next (a.put o.dst v) w')->o.wp P a w next Q
def cr (P:Program) (s:St) (L:Ts) (o:Oper) (x:AV):Prop:=
 ∀(cB:List (Nat×AV)) (V:List (List CV)) (A:List bu),RH o cB V A s->∀(g:Gh) (a:Act) (w:World) (S:List Nat),gU g w ⟨cB,V,A⟩ a->gl w L S->S.Nodup->∃v,aR g w A x v/\(execOp a.eval o).run P w=.ok (.value v) w
theorem kF.map {o:Oper} {K K':AV->Ts->Prop} (hk:∀x L,K x L->K' x L) (h:kF P s L o K):kF P s L o K':=
 fun cB V A hA n w0 g0 X S g a w hR next Q hn=>h cB V A hA n w0 g0 X S g a w hR next Q fun x L' S' v w' g' h1=>hn x L' S' v w' g' (hk _ _ h1)
theorem kF.call {o:Oper} {K:AV->Ts->Prop} (h:bN P s L o K):kF P s L o K:=by
 intro cB V A hA n w0 g0 X S g a w hR next Q hn;refine pR hR (o6 (s:=s) (ow:=false) hA h) _ _ ?_;rintro x V' A' L' S' v w' g' ⟨rfl,rfl,hk⟩ h1 h2 h3 h4 h5 h6 h7;exact hn x L' S' v w' g' hk h1 h2 h3 h4 h5 h6 h7
theorem cr.wp {o:Oper} {x:AV} (h:cr P s L o x) {cB:List (Nat×AV)} {V:List (List CV)} {A:List bu} (hA:RH o cB V A s) (hS:gU g w ⟨cB,V,A⟩ a) (hT:gl w L S) (hn:S.Nodup) {next:Act->World->Prop} {Q:Exit->Act->World->Prop} (hx:∀v,aR g w A x v->next (a.put o.dst v) w):o.wp P a w next Q:=by
 obtain⟨v,h1,h2⟩:=h cB V A hA g a w S hS hT hn;unfold Oper.wp;rw[h2];exact hx v h1
def kf (P:Program) (all:Array Oper) (ow:Nat->Bool) (ws cs ns:List Nat) (K:St->Ts->Prop):Nat->List Oper->St->Ts->Prop
 |_,[],s,L=>K s L
 |i,o::rest,s,L=>ib all s o
   ((i∈cs/\kF P s L o fun x L'=>kf P all ow ws cs ns K (i+1) rest (s.put o.dst x s.V s.A) L')\/
   (i∉cs/\i∈ns/\∃x,cr P s L o x/\kf P all ow ws cs ns K (i+1) rest (s.put o.dst x s.V s.A) L)\/
   (i∉cs/\i∉ns/\bA P s (ow i) o fun x V A=>(i∈ws\/(V=s.V/\A=s.A))/\kf P all ow ws cs ns K (i+1) rest (s.put o.dst x V A) L))
   (kf P all ow ws cs ns K (i+1) rest (s.put o.dst (.c .undef) s.V s.A) L)
def FM (P:Program) (all:Array Oper) (ow:Bool) (ns:List Nat) (L:Ts) (j:Nat) (o:Oper) (s s':St):Prop:=
 ib all s o True True/\((gw all s o=true/\((j∈ns/\∃x,s'=s.put o.dst x s.V s.A/\cr P s L o x)\/(j∉ns/\Jp P ow o s s')))\/(gw all s o=false/\s'=s.put o.dst (.c .undef) s.V s.A))
theorem lS {ow:Nat->Bool} {cs ns:List Nat} {K:St->Ts->Prop}:∀(ops:List Oper) (i:Nat) (s:St) (L:Ts),kf P all ow ws cs ns K i ops s L->
  ∃(τ:Nat->St) (m:Nat),m<=ops.length/\τ 0=s/\(∀(j:Nat) o,j<m->ops[j]? =some o->FM P all (ow (i+j)) ns L (i+j) o (τ j) (τ (j+1))/\MK ws (i+j) o (τ j) (τ (j+1)))/\
   ((m=ops.length/\K (τ m) L)\/(i+m∈cs/\∃o,ops[m]? =some o/\ib all (τ m) o True True/\gw all (τ m) o=true/\kF P (τ m) L o fun x L'=>kf P all ow ws cs ns K (i+m+1) (ops.drop (m+1)) ((τ m).put o.dst x (τ m).V (τ m).A) L'))
 |[],i,s,L,h=>⟨fun _=>s,0,acD _,rfl,fun j o hj=>by omega,.inl ⟨rfl,h⟩⟩
 |o::rest,i,s,L,h=>by
  have step:∀s',FM P all (ow i) ns L i o s s'->MK ws i o s s'->kf P all ow ws cs ns K (i+1) rest s' L->∃(τ:Nat->St) (m:Nat),m<=(o::rest).length/\τ 0=s/\(∀(j:Nat) o',j<m->(o::rest)[j]? =some o'->FM P all (ow (i+j)) ns L (i+j) o' (τ j) (τ (j+1))/\MK ws (i+j) o' (τ j) (τ (j+1)))/\
   ((m=(o::rest).length/\K (τ m) L)\/(i+m∈cs/\∃o',(o::rest)[m]? =some o'/\ib all (τ m) o' True True/\gw all (τ m) o'=true/\kF P (τ m) L o' fun x L'=>kf P all ow ws cs ns K (i+m+1) ((o::rest).drop (m+1)) ((τ m).put o'.dst x (τ m).V (τ m).A) L')):=by
   intro s' h1 h2 h3;obtain⟨τ,m,k1,k2,k3,k4⟩:=lS rest (i+1) _ L h3;refine⟨fun j=>match j with|0=>s|j+1=>τ j,m+1,by simp;omega,rfl,fun j o' hj ho=>?_,?_⟩
   ·cases j with
    |zero=>
     simp at ho;subst ho;show FM P all (ow (i+0)) ns L (i+0) o s (τ 0)/\MK ws (i+0) o s (τ 0);rw[k2];exact⟨h1,h2⟩
    |succ j=>
     simp at ho;have:=k3 j o' (by omega) ho;rwa[show i+1+j=i+(j+1) by omega]at this
   ·rcases k4 with⟨k5,k6⟩|⟨k5,o',k6,k7,k8,k9⟩
    ·exact .inl ⟨by simp[k5],k6⟩
    ·refine .inr ⟨by rw[show i+(m+1)=i+1+m by omega];exact k5,o',by simpa using k6,k7,k8,?_⟩;rw[show i+(m+1)+1=i+1+m+1 by omega];exact k9
  obtain⟨hg,bg⟩:=iQ h;rcases hg with⟨g1,h|h|h⟩|⟨g1,h⟩
  ·obtain⟨h1,h2⟩:=h;exact⟨fun _=>s,0,by simp,rfl,fun j o hj=>by omega,.inr ⟨h1,o,rfl,bg,g1,h2⟩⟩
  ·obtain⟨h1,h2,x,h3,h4⟩:=h;exact step _ ⟨bg,.inl ⟨g1,.inl ⟨h2,x,rfl,h3⟩⟩⟩ ⟨x,_,_,rfl,.inr ⟨rfl,rfl⟩⟩ h4
  ·obtain⟨h1,h2,h3⟩:=h;obtain⟨x,V,A,⟨h3,h4⟩,h5⟩:=jg h3;exact step _ ⟨bg,.inl ⟨g1,.inr ⟨h2,x,V,A,rfl,h5⟩⟩⟩ ⟨x,V,A,rfl,h3⟩ h4
  ·exact step _ ⟨bg,.inr ⟨g1,rfl⟩⟩ ⟨_,_,_,rfl,.inr ⟨rfl,rfl⟩⟩ h
set_option maxHeartbeats 2000000 in
theorem FN {ns:List Nat} {ow:Nat->Bool} (hd:eE all ws=true) (e5:cP n all.toList=true) {σ:Nat->St} {c:Nat} (hT:Fl all ws σ c) {af:Array Bool} {k0:Nat} (hD:DS all ws σ n w g af k0 g a w) (gx:k0<=c) (mR:∀i,af[i]? =some true->i<c)
  {j:Nat} (hj:j∈Region.ready .any all af) (D8:j<=c) {o:Oper} (ho:all[j]? =some o) {next:Act->World->Prop} {Q:Exit->Act->World->Prop}:
  (j<c->Jb w0 g0 X L S g w->FM P all (ow j) ns L j o (σ j) (σ (j+1))->(∀k1 v g' w',k1<=c->DS all ws σ n w' g' (af.setIfInBounds j true) k1 g' (a.put o.dst v) w'->Fr w g w' g'->next (a.put o.dst v) w')->wpOp P all Q j next a w)/\
  (j=c->cy o.op=false->j∉ws->Jb w0 g0 X L S g w->ib all (σ j) o True True->gw all (σ j) o=true->(∀K:AV->Ts->Prop,kF P (σ j) L o K->(∀x L' S' v g' w',K x L'->(∀σ':Nat->St,(∀i,i<=c->σ' i=σ i)->σ' (c+1)=(σ c).put o.dst x (σ c).V (σ c).A->DS all ws σ' n w' g' (af.setIfInBounds j true) k0 g' (a.put o.dst v) w')->Jb w0 g0 X L' S' g' w'->next (a.put o.dst v) w')->wpOp P all Q j next a w)):=by
 simp only[eE,acz,acf]at hd;obtain⟨⟨gE,oG⟩,vp⟩:=hd;have cD:∀(j:Nat) o,all[j]? =some o->(o,j)∈all.toList.zipIdx:=fun j o h=>by
  rw[acm];exact⟨j,by simp[acs,h]⟩
 have cK:∀(j:Nat) o,all[j]? =some o->∀e∈o.after,Region.binds .any e=true->e.on<j:=fun j o h e he hb=>by
  have:=gE _ (cD j o h) e (acK.2 he);simpa[hb]using this
 have bU:∀(i j:Nat) oi oj,all[i]? =some oi->all[j]? =some oj->i<j->bj all ws (aW all.toList []) oi oj i j=true:=fun i j oi oj h1 h2 ax=>by
  have:=oG _ (cD j oj h2) _ (cD i oi h1);simpa[ax]using this
 have ui:∀(j:Nat) o,all[j]? =some o->j∈ws->cy o.op=false:=fun j o h hj=>by
  have:=vp _ (cD j o h);simpa[hj]using this
 have fA:∀(i j:Nat) oi oj d,all[i]? =some oi->all[j]? =some oj->i<j->oi.dst=some d->oj.dst≠some d:=fun i j oi oj d h1 h2 ax h3 h4=>by
  have:=bU i j oi oj h1 h2 ax;simp[bj,h3,h4]at this
 have qU:∀(i j:Nat) oi oj d,all[i]? =some oi->all[j]? =some oj->oi.dst=some d->oj.dst=some d->i=j:=fun i j oi oj d h1 h2 h3 h4=>by
  rcases acF i j with h|h|h
  ·exact absurd h4 (fA i j oi oj d h1 h2 h h3)
  ·exact h
  ·exact absurd h3 (fA j i oj oi d h2 h1 h h4)
 have zt:∀(j:Nat) o d,all[j]? =some o->o.dst=some d->d<n:=fun j o d h1 h2=>by
  have:=acf.1 e5 o (by rw[acK];exact Array.mem_of_getElem? h1);simpa[h2]using this
 obtain⟨F8,_,ye⟩:=e6 all.toList []
 have mj:∀{af:Array Bool},(∀(i:Nat) o,all[i]? =some o->af[i]? =some true->∀e∈o.after,Region.binds .any e=true->af[e.on]? =some true)->
   ∀(i:Nat) o,all[i]? =some o->(∀e∈o.after,Region.binds .any e=true->af[e.on]? =some true)->∀k,((aW all.toList []).getD i 0).testBit k=true->af[k]? =some true:=by
  intro af j3 i;induction i using acH with
  |_ i ih=>
   intro o ho cm k hk;obtain⟨pre,h1,h2,h3⟩:=ye i o (by simpa using ho);simp only[acq,acE]at h1 h3;have h4:(aW all.toList []).getD i 0=mi pre o:=by simp[List.getD,h3]
   rw[h4]at hk;obtain⟨e,he,hb,h5⟩:=fz hk;have sI:=cm e he hb;rcases h5 with rfl|h5
   ·exact sI
   ·have ax:=cK i o ho e he hb;have h6:pre.getD e.on 0=(aW all.toList []).getD e.on 0:=by simp only[List.getD,h2 e.on (by omega)]
    rw[h6]at h5;have eP:e.on<all.size:=by have:=(acI.1 ho).1;omega
    have uj:all[e.on]? =some all[e.on]:=acJ eP;exact ih e.on ax _ uj (j3 e.on _ uj sI) k h5
 have IG:=hT.le;have om:=hT.NW;have oo:=hT.NX qU;have s4:=hT.VA;obtain⟨ml,o2,l7,cm⟩:=mem_ready.1 hj;obtain rfl:o=o2:=by rw[ho]at l7;exact Option.some.inj l7
 have mo:=dU ml;have rv:j<all.size:=(acI.1 ho).1;have iP:j<af.size:=by rw[hD.er];exact rv
 have ch:∀e∈o.after,Region.binds .any e=true->af[e.on]? =some true:=fun e he hb=>cl.1 (cm e he hb)
 have ca:∀k,((aW all.toList []).getD j 0).testBit k=true->af[k]? =some true:=mj hD.closed j o ho ch;have bR:∀(i:Nat) oi,all[i]? =some oi->af[i]? =some true->((aW all.toList []).getD i 0).testBit j=false:=fun i oi aU bt=>by
  cases hb:((aW all.toList []).getD i 0).testBit j with
  |false=>rfl
  |true=>have:=mj hD.closed i oi aU (hD.closed i oi aU bt) j hb;rw[mo]at this;simp at this
 have jh:∀t∈o.looksAt all,∀x,look (σ j).fr t=some x->∃u,a.tmps[t]? =some u/\aR g w (σ k0).A x u:=by
  intro t ht x hx;by_cases hex:∃(i:Nat) (oi:Oper),i<j/\all[i]? =some oi/\oi.dst=some t
  ·obtain⟨i,oi,kK,aU,b7⟩:=hex;rw[oo j i oi t (by omega) kK aU b7]at hx;have hp:=bU i j oi o aU ho kK;have s5:dk all oi o=true:=by simp only[dk,b7];simpa using ht
   simp only[bj,s5,acz,acA]at hp;have hb:((aW all.toList []).getD j 0).testBit i=true:=by simpa using hp.2
   exact hD.fH i oi t x aU (ca i hb) b7 hx
  ·rw[om j t (by omega) (fun i oi kK aU b7=>hex ⟨i,oi,kK,aU,b7⟩)]at hx;refine hD.fI t x (fun i oi aU bt b7=>?_) hx;rcases acF i j with h|h|h
   ·exact hex ⟨i,oi,h,aU,b7⟩
   ·subst h;rw[mo]at bt;simp at bt
   ·have hp:=bU j i o oi ho aU h;have s5:dk all oi o=true:=by simp only[dk,b7];simpa using ht
    have hb:=bR i oi aU bt;simp only[bj,s5,hb,acz,acA]at hp;simp at hp
 let cB:=(σ j).fr.filter fun p=>(o.looksAt all).contains p.1
 have mJ:∀t,look cB t=if(o.looksAt all).contains t then look (σ j).fr t else none:=fun t=>eX (fun t=>(o.looksAt all).contains t) (σ j).fr t
 have hS:∀(V:List (List CV)),gU g w ⟨cB,V,(σ k0).A⟩ a:=fun V t x hx=>by
  simp only[mJ]at hx;split at hx
  ·rename_i hc;exact jh t (by simpa using hc) x hx
  ·cases hx
 have gd:∀(V V':List (List CV)) (A A':List bu),∀x∈o.op.operands.toList,bw ⟨cB,V,A⟩ x=bw ⟨(σ j).fr,V',A'⟩ x:=fun V V' A A' x hx=>by
  cases x with
  |tmp t=>
   simp only[bw,mJ];rw[if_pos];simp only[Oper.looksAt,acx,decide_eq_true_eq,aci,List.mem_filterMap];exact .inl ⟨.tmp t,hx,rfl⟩
  |_=>rfl
 have gg:Rp n w g ⟨cB,(σ k0).V,(σ k0).A⟩ g a w:=⟨hD.inv,hD.fr,hD.size,hD.defers,hS _⟩;have Ad:ib all (σ j) o True True->Region.wanted o (yielded all a.tmps)=gw all (σ j) o:=by
  intro ue;have ot:ib all ⟨cB,(σ k0).V,(σ k0).A⟩ o True True/\gw all ⟨cB,(σ k0).V,(σ k0).A⟩ o=gw all (σ j) o:=by
   unfold ib gw at*;cases mY:o.guard with
   |none=>simp
   |some jw=>
    obtain⟨q,want⟩:=jw;simp only[mY]at ue⊢;obtain⟨oq,h1,h2⟩:=cj ue;obtain⟨t,h3,h4⟩:=cj h2;have:look cB t=look (σ j).fr t:=by
     rw[mJ,if_pos];simp only[Oper.looksAt,mY,acx,decide_eq_true_eq,aci];exact .inr (by simp[h1,h3])
    simp only[h1,bM,h3,acM,this]at h4⊢;exact⟨h4,trivial⟩
  rw[<-ot.2];have h1:=ot.1;unfold ib at h1;unfold gw;cases mY:o.guard with
  |none=>simp[Region.wanted,mY]
  |some jw=>
   obtain⟨q,want⟩:=jw;simp only[mY]at h1⊢;obtain⟨oq,h2,h3⟩:=cj h1;obtain⟨t,h4,h5⟩:=cj h3;obtain⟨x,h6,h7⟩:=cj h5;obtain⟨h8,h9⟩:=jf gg h2 h4 h6;simp only[h2,acM,h4,h6];split at h7
   ·rename_i b;simp[Region.wanted,mY,h8 b rfl]
   ·simp[Region.wanted,mY,h9 rfl]
   ·exact h7.elim
 have bH:∀i,(af.setIfInBounds j true)[i]? =if i=j then some true else af[i]? :=fun i=>by
  by_cases e:i=j
  ·subst e;simp[iP]
  ·rw[if_neg e,acL (fun h=>e h.symm)]
 have cz:∀(σ':Nat->St) (k1:Nat) (x:AV) (v:Value) (w':World) (g':Gh),(∀i,i<=c->σ' i=σ i)->look (σ' (j+1)).fr=look ((σ j).put o.dst x [] []).fr->aR g' w' (σ k1).A x v->Inv g' w' (σ k1).V (σ k1).A->Ext g w (σ k0).A g' w' (σ k1).A->As w' g'->k1<=c->
   (∀i∈ws,i<all.size->((af.setIfInBounds j true)[i]? =some true↔i<k1))->DS all ws σ' n w' g' (af.setIfInBounds j true) k1 g' (a.put o.dst v) w':=by
  intro σ' k1 x v w' g' hσ Cm x9 hI hx hF hk E2;have ij:∀t u,o.dst≠some t->a.tmps[t]? =some u->(a.put o.dst v).tmps[t]? =some u:=fun t u cY hu=>by
   cases qQ:o.dst with
   |none=>exact hu
   |some d=>
    simp only[Act.put];rw[acL (fun e=>cY (by rw[qQ,e]))];exact hu
  refine⟨by rw[hσ k1 hk];exact hI,.refl hF,?_,?_,by simp[hD.er],fun i oi t y aU bt b7 hy=>?_,fun t y gQ hy=>?_,E2,by omega,fun i oi aU bt e he hb=>?_⟩
  ·cases o.dst<;>simp[Act.put,hD.size]
  ·cases o.dst<;>simp[Act.put,hD.defers]
  ·rw[hσ k1 hk];rw[bH]at bt;by_cases e:i=j
   ·subst e;obtain rfl:o=oi:=by rw[ho]at aU;exact Option.some.inj aU
    rw[Cm]at hy;simp only[St.put,b7,look,if_true]at hy;cases hy
    refine⟨v,?_,x9⟩;have:t<a.tmps.size:=by rw[hD.size];exact zt i o t ho b7
    simp[Act.put,b7,this]
   ·rw[if_neg e]at bt;rw[hσ (i+1) (mR i bt)]at hy;obtain⟨u,h1,h2⟩:=hD.fH i oi t y aU bt b7 hy;exact⟨u,ij t u (fun h=>e (qU i j oi o t aU ho b7 h)) h1,aR.ext hx h2⟩
  ·rw[hσ k1 hk];rw[hσ 0 (acG _)]at hy;have cY:o.dst≠some t:=gQ j o ho (by rw[bH,if_pos rfl]);obtain⟨u,h1,h2⟩:=hD.fI t y (fun i oi aU bt=>gQ i oi aU (by
    rw[bH];by_cases e:i=j
    ·rw[if_pos e]
    ·rw[if_neg e];exact bt)) hy
   exact⟨u,ij t u cY h1,aR.ext hx h2⟩
  ·rw[bH]at bt⊢;have:af[e.on]? =some true:=by
    by_cases e':i=j
    ·subst e';obtain rfl:o=oi:=by rw[ho]at aU;exact Option.some.inj aU
     exact ch e he hb
    ·rw[if_neg e']at bt;exact hD.closed i oi aU bt e he hb
   by_cases e':e.on=j
   ·rw[if_pos e']
   ·rw[if_neg e'];exact this
 have gH:j∉ws->∀i∈ws,i<all.size->((af.setIfInBounds j true)[i]? =some true↔i<k0):=fun ea i hi b4=>by
  rw[bH,if_neg (fun e=>ea (by rw[<-e];exact hi))];exact hD.dT i hi b4
 have jU:cy o.op=false->(σ j).V=(σ k0).V/\(σ j).A=(σ k0).A:=by
  intro fq;rcases Nat.le_total j k0 with h|h
  ·have:=s4 k0 j h gx (fun i h1 h2 h3=>by
    have b4:i<all.size:=by omega
    have bt:=(hD.dT i h3 b4).2 h2;have aU:all[i]? =some all[i]:=acJ b4;rcases acC j i with h4|h4
    ·have hp:=bU j i o _ ho aU h4;have hb:=bR i _ aU bt;simp only[bj,hb,acz,acA]at hp;simp[h3,fq,-cy]at hp
    ·obtain rfl:i=j:=by omega
     rw[mo]at bt;simp at bt)
   exact⟨this.1.symm,this.2.symm⟩
  ·exact s4 j k0 h D8 (fun i h1 h2 h3=>by
    have b4:i<all.size:=by omega
    have aU:all[i]? =some all[i]:=acJ b4;have hp:=bU i j _ o aU ho h2;simp only[bj,acz,acA]at hp;have hb:((aW all.toList []).getD j 0).testBit i=true:=by
     rcases hp.2 with h4|h4
     ·simp[h3,fq,-cy]at h4
     ·exact h4
    have:=(hD.dT i h3 b4).1 (ca i hb);omega)
 unfold wpOp;simp only[ho];refine⟨fun ly hJ jt ih=>?_,fun ly fq ea hJ ue bg K gV ih=>?_⟩
 ·obtain⟨ue,jt⟩:=jt;obtain⟨x2,V2,A2,q1,q2⟩:=hT.tr j o ly ho;rcases jt with⟨bg,jt|⟨RJ,jt⟩⟩|⟨UT,jt⟩
  ·-- a look
   obtain⟨RJ,x,h2,h3⟩:=jt;rw[Ad ue,if_pos bg];have oz:look (σ (j+1)).fr=look ((σ j).put o.dst x [] []).fr:=by rw[h2];rfl
   by_cases ea:j∈ws
   ·refine .inl (h3.wp (V:=(σ k0).V) (gd _ _ _ _) (hS _) hJ.mu hJ.nd fun v h6=>?_);by_cases hs:cy o.op=true
    ·have:=ui j o ho ea;rw[hs]at this;simp at this
    ·have fq:cy o.op=false:=by simpa[-cy]using hs
     obtain⟨iG,gX⟩:=jU fq;have e1:(σ (j+1)).V=(σ k0).V:=by rw[h2];exact iG
     have e2:(σ (j+1)).A=(σ k0).A:=by rw[h2];exact gX
     refine ih (j+1) v g w ly (cz σ (j+1) x v w g (fun _ _=>rfl) oz (by rw[e2];exact h6) (by rw[e1,e2];exact hD.inv) (by rw[e2];exact .refl _ _ _) hD.fr.now ly (fun i hi b4=>?_)) (.refl hD.fr.now);have aU:all[i]? =some all[i]:=acJ b4;rw[bH];by_cases e:i=j
     ·subst e;simp
     ·rw[if_neg e];constructor
      ·intro bt;rcases acC j i with h|h
       ·have hp:=bU j i o _ ho aU h;have hb:=bR i _ aU bt;simp only[bj,hb,acz,acA]at hp;simp[hi,fq,-cy]at hp
       ·omega
      ·intro ax;have hp:=bU i j _ o aU ho (by omega);simp only[bj,acz,acA]at hp;rcases hp.2 with h|h
       ·simp[hi,fq,-cy]at h
       ·exact ca i h
   ·refine .inl (h3.wp (V:=(σ k0).V) (gd _ _ _ _) (hS _) hJ.mu hJ.nd fun v h6=>?_);exact ih k0 v g w gx (cz σ k0 x v w g (fun _ _=>rfl) oz h6 hD.inv (.refl _ _ _) hD.fr.now gx (gH ea)) (.refl hD.fr.now)
  ·rw[Ad ue,if_pos bg];refine .inl ?_;obtain⟨x,V,A,h2,h3⟩:=jt;have oz:look (σ (j+1)).fr=look ((σ j).put o.dst x [] []).fr:=by rw[h2];rfl
   by_cases hs:cy o.op=true
   ·-- slots alone
    have ea:j∉ws:=fun h=>by have:=ui j o ho h;rw[hs]at this;simp at this
    have h4:bA P ⟨cB,(σ k0).V,(σ k0).A⟩ (ow j) o (fun y V' A'=>y=x/\V'=(σ k0).V/\A'=(σ k0).A):=mW (s:=σ j) (s':=⟨cB,(σ k0).V,(σ k0).A⟩) hs (gd _ _ _ _) h3 ⟨rfl,rfl,rfl⟩;obtain⟨y,V',A',⟨rfl,rfl,rfl⟩,h5⟩:=cW gg.inv gg.fr gg.slot h4;exact h5 _ _ fun v w' g' h6 h7 h8 h9=>ih k0 v g' w' gx (cz σ k0 y v w' g' (fun _ _=>rfl) oz h6 h7 h8 h9.now gx (gH ea)) h9
   ·have fq:cy o.op=false:=by simpa[-cy]using hs
    obtain⟨iG,gX⟩:=jU fq;have h4:bA P ⟨cB,(σ k0).V,(σ k0).A⟩ (ow j) o (fun y V' A'=>y=x/\V'=V/\A'=A):=by
     rw[<-iG,<-gX];exact dS (fr:=(σ j).fr) (gd _ _ _ _) (h3 _ ⟨rfl,rfl,rfl⟩)
    obtain⟨y,V',A',⟨rfl,rfl,rfl⟩,h5⟩:=cW gg.inv gg.fr gg.slot h4;have sJ:(σ (j+1)).V=V':=by rw[h2];rfl
    have iL:(σ (j+1)).A=A':=by rw[h2];rfl
    by_cases ea:j∈ws
    ·refine h5 _ _ fun v w' g' h6 h7 h8 h9=>ih (j+1) v g' w' ly (cz σ (j+1) y v w' g' (fun _ _=>rfl) oz (by rw[iL];exact h6) (by rw[sJ,iL];exact h7) (by rw[iL];exact h8) h9.now ly (fun i hi b4=>?_)) h9
     have aU:all[i]? =some all[i]:=acJ b4;rw[bH];by_cases e:i=j
     ·subst e;simp
     ·rw[if_neg e];constructor
      ·intro bt;rcases acC j i with h|h
       ·have hp:=bU j i o _ ho aU h;have hb:=bR i _ aU bt;simp only[bj,hb,acz,acA]at hp;simp[hi,fq,-cy]at hp
       ·omega
      ·intro ax;have hp:=bU i j _ o aU ho (by omega);simp only[bj,acz,acA]at hp;rcases hp.2 with h|h
       ·simp[hi,fq,-cy]at h
       ·exact ca i h
    ·obtain⟨x2,V2,A2,q1,q2⟩:=hT.tr j o ly ho;rcases q2 with q2|⟨q2,q3⟩
     ·exact absurd q2 ea
     have pG:(σ (j+1)).V=(σ j).V:=by rw[q1];exact q2
     have l7:(σ (j+1)).A=(σ j).A:=by rw[q1];exact q3
     refine h5 _ _ fun v w' g' h6 h7 h8 h9=>ih k0 v g' w' gx (cz σ k0 y v w' g' (fun _ _=>rfl) oz ?_ ?_ ?_ h9.now gx (gH ea)) h9
     ·rw[<-gX,<-l7,iL];exact h6
     ·rw[<-iG,<-gX,<-pG,<-l7,sJ,iL];exact h7
     ·have e1:(σ k0).A=A':=by rw[<-gX,<-l7,iL]
      rw[e1]at h8⊢;exact h8
  ·rw[Ad ue,if_neg (by rw[UT];simp)];have oz:look (σ (j+1)).fr=look ((σ j).put o.dst (.c .undef) [] []).fr:=by rw[jt];rfl
   by_cases ea:j∈ws
   ·by_cases hs:cy o.op=true
    ·have:=ui j o ho ea;rw[hs]at this;simp at this
    ·have fq:cy o.op=false:=by simpa[-cy]using hs
     obtain⟨iG,gX⟩:=jU fq;have e1:(σ (j+1)).V=(σ k0).V:=by rw[jt];exact iG
     have e2:(σ (j+1)).A=(σ k0).A:=by rw[jt];exact gX
     refine ih (j+1) undef g w ly (cz σ (j+1) (.c .undef) undef w g (fun _ _=>rfl) oz rfl (by rw[e1,e2];exact hD.inv) (by rw[e2];exact .refl _ _ _) hD.fr.now ly (fun i hi b4=>?_)) (.refl hD.fr.now);have aU:all[i]? =some all[i]:=acJ b4;rw[bH];by_cases e:i=j
     ·subst e;simp
     ·rw[if_neg e];constructor
      ·intro bt;rcases acC j i with h|h
       ·have hp:=bU j i o _ ho aU h;have hb:=bR i _ aU bt;simp only[bj,hb,acz,acA]at hp;simp[hi,fq,-cy]at hp
       ·omega
      ·intro ax;have hp:=bU i j _ o aU ho (by omega);simp only[bj,acz,acA]at hp;rcases hp.2 with h|h
       ·simp[hi,fq,-cy]at h
       ·exact ca i h
   ·exact ih k0 undef g w gx (cz σ k0 (.c .undef) undef w g (fun _ _=>rfl) oz rfl hD.inv (.refl _ _ _) hD.fr.now gx (gH ea)) (.refl hD.fr.now)
 ·rw[Ad ue,if_pos bg];refine .inl ?_;subst ly;have NY:qE n w0 g0 X ⟨cB,(σ k0).V,(σ k0).A⟩ L S g a w:=⟨hD.inv,hJ.fr,hD.size,hD.defers,hS _,hJ.mu,hJ.nd,hJ.out⟩;obtain⟨iG,gX⟩:=jU fq;refine gV cB _ _ (gd _ _ _ _) n w0 g0 X S g a w NY _ _ ?_;rintro x L' S' v w' g' hk h6 h7 h8 h9 cv ep fG;refine ih x L' S' v g' w' hk (fun σ' hσ hn=>cz σ' k0 x v w' g' hσ (by rw[hn];rfl) h6 h7 h8 h9.now gx (gH ea)) ⟨h9,cv,ep,fG⟩
def lh (all:Array Oper) (ws cs ns:List Nat):Bool:=
 let l:=all.toList.zipIdx
 let ms:=aW all.toList []
 (cs.all fun c=> !ws.contains c &&(l.all fun(_,j)=> !(decide (c<j))||(ms.getD j 0).testBit c)&&(ns.all fun j=> !(decide (j<c))||(ms.getD c 0).testBit j))&&(l.all fun(o,j)=> !cs.contains j|| !cy o.op)
set_option maxHeartbeats 2000000 in
theorem uK {cs ns:List Nat} {ow:Nat->Bool} {K:St->Ts->Prop} {Q:Exit->Act->World->Prop} (hd:eE all ws=true) (hc:lh all ws cs ns=true) (e5:cP n all.toList=true)
  (hQ:∀s' L' S' g' a' w',K s' L'->qE n w0 g0 X s' L' S' g' a' w'->Q .normal a' w'):
  ∀(fuel:Nat) (σ:Nat->St) (c:Nat) (L:Ts) (S:List Nat) (af:Array Bool) (k0:Nat) (g:Gh) (a:Act) (w:World),((acb all.size).filter fun i=> !af.getD i true).length<=fuel->Fl all ws σ c->k0<=c->
   (∀(j:Nat) o,j<c->all[j]? =some o->af[j]? ≠some true->FM P all (ow j) ns L j o (σ j) (σ (j+1)))->(∀i,af[i]? =some true->i<c)->
   ((c=all.size/\K (σ c) L)\/(c∈cs/\∃o,all[c]? =some o/\ib all (σ c) o True True/\gw all (σ c) o=true/\kF P (σ c) L o fun x L'=>kf P all ow ws cs ns K (c+1) (all.toList.drop (c+1)) ((σ c).put o.dst x (σ c).V (σ c).A) L'))->
   DS all ws σ n w g af k0 g a w->Jb w0 g0 X L S g w->wpAny P .any all Q fuel af a w:=by
 have Ky:=hd;simp only[eE,acz,acf]at hd;obtain⟨⟨gE,oG⟩,vp⟩:=hd;have cD:∀(j:Nat) o,all[j]? =some o->(o,j)∈all.toList.zipIdx:=fun j o h=>by
  rw[acm];exact⟨j,by simp[acs,h]⟩
 have cK:∀(j:Nat) o,all[j]? =some o->∀e∈o.after,Region.binds .any e=true->e.on<j:=fun j o h e he hb=>by
  have:=gE _ (cD j o h) e (acK.2 he);simpa[hb]using this
 have bU:∀(i j:Nat) oi oj,all[i]? =some oi->all[j]? =some oj->i<j->bj all ws (aW all.toList []) oi oj i j=true:=fun i j oi oj h1 h2 ax=>by
  have:=oG _ (cD j oj h2) _ (cD i oi h1);simpa[ax]using this
 have ui:∀(j:Nat) o,all[j]? =some o->j∈ws->cy o.op=false:=fun j o h hj=>by
  have:=vp _ (cD j o h);simpa[hj]using this
 have fA:∀(i j:Nat) oi oj d,all[i]? =some oi->all[j]? =some oj->i<j->oi.dst=some d->oj.dst≠some d:=fun i j oi oj d h1 h2 ax h3 h4=>by
  have:=bU i j oi oj h1 h2 ax;simp[bj,h3,h4]at this
 have qU:∀(i j:Nat) oi oj d,all[i]? =some oi->all[j]? =some oj->oi.dst=some d->oj.dst=some d->i=j:=fun i j oi oj d h1 h2 h3 h4=>by
  rcases acF i j with h|h|h
  ·exact absurd h4 (fA i j oi oj d h1 h2 h h3)
  ·exact h
  ·exact absurd h3 (fA j i oj oi d h2 h1 h h4)
 simp only[lh,acz,acf]at hc;obtain⟨rJ,Fo⟩:=hc;have Jq:∀c∈cs,c∉ws:=fun c h=>by simpa using(rJ c h).1.1
 have NZ:∀c∈cs,∀o,all[c]? =some o->cy o.op=false:=fun c h o ho=>by
  have:=Fo _ (cD c o ho);simpa[h,-cy]using this
 have IF:∀c∈cs,∀(j:Nat) o,all[j]? =some o->c<j->((aW all.toList []).getD j 0).testBit c=true:=fun c h j o ho ax=>by
  have:=(rJ c h).1.2 _ (cD j o ho);simpa[ax]using this
 have JG:∀c∈cs,∀j∈ns,j<c->((aW all.toList []).getD c 0).testBit j=true:=fun c h j hj ax=>by
  have:=(rJ c h).2 j hj;simpa[ax]using this
 have oX:∀{af:Array Bool},Region.ready .any all af=[]->af.size=all.size->∀i,i<all.size->af[i]? =some true:=by
  intro af hr wx i;induction i using acH with
  |_ i ih=>
   intro hi;have ho:all[i]? =some all[i]:=acJ hi;have bt:i<af.size:=by omega
   cases hl:af[i]with
   |true=>rw[acJ bt,hl]
   |false=>
    exfalso
    have:i∈Region.ready .any all af:=mem_ready.2 ⟨by simp[bt,hl],_,ho,fun e he hb=>cl.2 (ih e.on (cK i _ ho e he hb) (by have:=cK i _ ho e he hb;omega))⟩;rw[hr]at this;simp at this
 have lx:∀{σ:Nat->St} {c:Nat} {L:Ts} {S:List Nat} {af:Array Bool} {k0:Nat} {g:Gh} {a:Act} {w:World},Fl all ws σ c->(∀i,af[i]? =some true->i<c)->
   ((c=all.size/\K (σ c) L)\/(c∈cs/\∃o,all[c]? =some o/\ib all (σ c) o True True/\gw all (σ c) o=true/\kF P (σ c) L o fun x L'=>kf P all ow ws cs ns K (c+1) (all.toList.drop (c+1)) ((σ c).put o.dst x (σ c).V (σ c).A) L'))->
   DS all ws σ n w g af k0 g a w->Jb w0 g0 X L S g w->Region.ready .any all af=[]->Q .normal a w:=by
  intro σ c L S af k0 g a w hT mR hK hD hJ hr;have cX:=oX hr hD.er;rcases hK with⟨rfl,hK⟩|⟨vd,o,ho,_⟩
  ·exact hQ _ _ _ _ _ _ hK (yR Ky hT hD cX hJ)
  ·have b4:=(acI.1 ho).1;have:=mR c (cX c b4);omega
 intro fuel;induction fuel with
 |zero=>
  intro σ c L S af k0 g a w hf hT gx q9 mR hK hD hJ;have kh:Region.ready .any all af=[]:=by
   have h0:((acb all.size).filter fun i=> !af.getD i true)=[]:=List.eq_nil_of_length_eq_zero (by omega);rcases hr:Region.ready .any all af with _|⟨j,r⟩
   ·rfl
   ·have hj:j∈Region.ready .any all af:=by rw[hr];simp
    obtain⟨h1,o,h2,_⟩:=mem_ready.1 hj;have:j∈((acb all.size).filter fun i=> !af.getD i true):=by
     rw[List.mem_filter,ack];exact⟨(acI.1 h2).1,by simp[h1]⟩
    rw[h0]at this;simp at this
  exact⟨kh,lx hT mR hK hD hJ kh⟩
 |succ fuel ih=>
  intro σ c L S af k0 g a w hf hT gx q9 mR hK hD hJ;refine⟨fun hr=>lx hT mR hK hD hJ hr,fun j hj=>?_⟩;obtain⟨ml,o,ho,cm⟩:=mem_ready.1 hj;have mo:=dU ml;have rv:j<all.size:=(acI.1 ho).1;have iP:j<af.size:=by rw[hD.er];exact rv
  have ch:∀e∈o.after,Region.binds .any e=true->af[e.on]? =some true:=fun e he hb=>cl.1 (cm e he hb)
  have bH:∀i,(af.setIfInBounds j true)[i]? =if i=j then some true else af[i]? :=fun i=>by
   by_cases e:i=j
   ·subst e;simp[iP]
   ·rw[if_neg e,acL (fun h=>e h.symm)]
  have cI:((acb all.size).filter fun i=> !(af.setIfInBounds j true).getD i true).length<=fuel:=by
   have ax:((acb all.size).filter fun i=> !(af.setIfInBounds j true).getD i true).length<((acb all.size).filter fun i=> !af.getD i true).length:=by
    have ga:∀i,(!(af.setIfInBounds j true).getD i true)=true->(!af.getD i true)=true:=fun i h=>by
     by_cases e:i=j
     ·subst e;simp[iP]at h
     ·have:(af.setIfInBounds j true).getD i true=af.getD i true:=by
       simp only[Array.getD_eq_getD_getElem?,bH,if_neg e]
      rwa[this]at h
    exact filter_lt ga (ack.2 rv) (by simp[ml]) (by simp[iP])
   omega
  have D8:j<=c:=by
   rcases hK with⟨rfl,_⟩|⟨vd,oc,D9,_⟩
   ·omega
   ·rcases acC c j with h|h
    ·have:=mR c (ny cK hD.closed j o ho ch c (IF c vd j o ho h));omega
    ·exact h
  obtain⟨one1,one2⟩:=FN (ns:=ns) (w0:=w0) (g0:=g0) (X:=X) (L:=L) (S:=S) (ow:=ow) Ky e5 hT hD gx mR hj D8 ho (next:=wpAny P .any all Q fuel (af.setIfInBounds j true)) (Q:=Q);rcases Nat.lt_or_eq_of_le D8 with ax|rfl
  ·refine one1 ax hJ (q9 j o ax ho (by rw[mo];simp)) fun k1 v g' w' gF Je hF=>ih σ c L S _ k1 g' _ w' cI hT gF (fun i oi hi aU bt=>q9 i oi hi aU fun h=>bt ?_) (fun i hi=>?_) hK Je (hJ.cB hF)
   ·rw[bH];by_cases e:i=j
    ·rw[if_pos e]
    ·rw[if_neg e];exact h
   ·rw[bH]at hi;by_cases e:i=j
    ·subst e;exact ax
    ·rw[if_neg e]at hi;exact mR i hi
  ·rcases hK with⟨h,_⟩|⟨vd,oc,D9,UU,RK,gV⟩
   ·omega
   obtain rfl:o=oc:=by rw[ho]at D9;exact Option.some.inj D9
   refine one2 rfl (NZ j vd o ho) (Jq j vd) hJ UU RK _ gV fun x L' S' v g' w' hk N0 N1=>?_
   obtain⟨τ,m,k1,k2,k3,k4⟩:=lS _ _ _ _ hk;have hlen:(all.toList.drop (j+1)).length=all.size-(j+1):=by simp
   let σ':Nat->St:=fun i=>if i<=j then σ i else τ (i-(j+1))
   have e1:∀i,i<=j->σ' i=σ i:=fun i hi=>by simp only[σ',if_pos hi]
   have e2:∀i,σ' (j+1+i)=τ i:=fun i=>by simp only[σ',if_neg (show¬j+1+i<=j by omega)];congr 1;omega
   have e3:∀i,(all.toList.drop (j+1))[i]? =all[j+1+i]? :=fun i=>by simp
   have jH:σ' (j+1)=(σ j).put o.dst x (σ j).V (σ j).A:=by rw[<-k2];exact e2 0
   refine ih σ' (j+1+m) L' S' _ k0 g' _ w' cI ⟨by omega,fun i oi hi aU=>?_⟩ (by omega) (fun i oi hi aU bt=>?_) (fun i hi=>?_) ?_ (N0 σ' e1 jH) N1
   ·rcases acF i j with h|h|h
    ·rw[e1 i (by omega),e1 (i+1) (by omega)];exact hT.tr i oi h aU
    ·subst h;obtain rfl:o=oi:=by rw[ho]at aU;exact Option.some.inj aU
     rw[e1 i (by omega),jH];exact⟨x,_,_,rfl,.inr ⟨rfl,rfl⟩⟩
    ·obtain⟨q,rfl⟩:∃q,i=j+1+q:=⟨i-(j+1),by omega⟩;rw[e2 q,show j+1+q+1=j+1+(q+1) by omega,e2 (q+1)];exact(k3 q oi (by omega) (by rw[e3];exact aU)).2
   ·rw[bH]at bt;by_cases e:i=j
    ·rw[if_pos e]at bt;simp at bt
    ·rw[if_neg e]at bt;rcases acC i j with h|h
     ·rw[e1 i (by omega),e1 (i+1) (by omega)];obtain⟨d1,d2⟩:=q9 i oi h aU bt;refine⟨d1,?_⟩;rcases d2 with⟨d3,⟨d4,_⟩|d4⟩|d2
      ·exact absurd (ny cK hD.closed j o ho ch i (JG j vd i d4 h)) bt
      ·exact .inl ⟨d3,.inr d4⟩
      ·exact .inr d2
     ·obtain⟨q,rfl⟩:∃q,i=j+1+q:=⟨i-(j+1),by omega⟩;rw[e2 q,show j+1+q+1=j+1+(q+1) by omega,e2 (q+1)];exact(k3 q oi (by omega) (by rw[e3];exact aU)).1
   ·rw[bH]at hi;by_cases e:i=j
    ·omega
    ·rw[if_neg e]at hi;have:=mR i hi;omega
   ·rcases k4 with⟨h1,h2⟩|⟨h1,oc,h2,h4,h5,h3⟩
    ·exact .inl ⟨by omega,by rw[e2];exact h2⟩
    ·refine .inr ⟨h1,oc,by rw[<-e3];exact h2,?_⟩;rw[e2];rw[List.drop_drop,show j+1+(m+1)=j+1+m+1 by omega]at h3;exact⟨h4,h5,h3⟩
theorem TJ.sA {Q:Exit->St->Ts->Prop} {id:Nat} {l:List Oper} (hm:P.follows .mixedOrders=true) (ow:Nat->Bool) (ws cs ns:List Nat) (hd:eE l.toArray ws=true) (hc:lh l.toArray ws cs ns=true)
  (h:kf P l.toArray ow ws cs ns (fun s' L'=>Q .normal s' L') 0 l s L):TJ P n (.region id l.toArray true) Q s L:=by
 intro eU w0 g0 X S g a w hR;have C0:cP n l.toArray.toList=true:=by simpa[codeOk]using eU
 obtain⟨τ,m,k1,k2,k3,k4⟩:=lS l 0 s L h;obtain⟨hI,hx⟩:=hR.inv.heap (w':={w with drawn:=w.drawn+1}) rfl;have hF:Fr w g {w with drawn:=w.drawn+1} g:=(Fr.refl hR.fr.now).heap rfl rfl rfl rfl;have hJ:Jb w0 g0 X L S g {w with drawn:=w.drawn+1}:=(Jb.mk hR.fr hR.mu hR.nd hR.out).cB hF;have vO:∀(i:Nat),l.toArray[i]? =l[i]? :=fun i=>by simp
 refine wp_region_any hm (uK (K:=fun s' L'=>Q .normal s' L') (ow:=ow) hd hc C0 (fun s' L' S' g' a' w' h1 h2=>⟨s',g',L',S',h1,h2⟩) _ τ m L S (Array.replicate l.toArray.size false) 0 g a _ ?_ ?_ (acG _) ?_ ?_ ?_ ?_ hJ)
 ·refine Nat.le_trans (List.length_filter_le _ _) (by simp)
 ·refine⟨by simpa using k1,fun j o hj ho=>?_⟩;have:=(k3 j o hj (by rw[vO]at ho;exact ho)).2;simpa only[acE]using this
 ·intro j o hj ho _;have:=(k3 j o hj (by rw[vO]at ho;exact ho)).1;simpa only[acE]using this
 ·intro i hi;have Au:=(acI.1 hi).1;simp at Au;simp[Au]at hi
 ·rcases k4 with⟨h1,h2⟩|⟨h1,oc,h2,h4,h5,h3⟩
  ·exact .inl ⟨by rw[h1];simp,h2⟩
  ·refine .inr ⟨by simpa using h1,oc,by rw[vO];exact h2,h4,h5,?_⟩;simp only[acE]at h3;exact h3
 ·refine⟨by rw[k2];exact hI,.refl hF.now,hR.size,hR.defers,by simp,fun i o t x ho hl=>?_,fun t x _ fW=>?_,fun i _ b4=>?_,acG _,fun i o ho hl=>?_⟩
  ·have hi:=(acI.1 hl).1;simp at hi;simp[hi]at hl
  ·rw[k2]at fW⊢;obtain⟨u,h1,h2⟩:=hR.slot t x fW;exact⟨u,h1,aR.ext hx h2⟩
  ·simp at b4;simp[b4]
  ·have hi:=(acI.1 hl).1;simp at hi;simp[hi]at hl
structure iJ (P:Program) (all:Array Oper) (ow:Nat->Bool) (ws cs ns:List Nat) (K:St->Ts->Prop) (i:Nat) (ops:List Oper) (s:St) (L:Ts):Prop where
 mk::
 run:kf P all ow ws cs ns K i ops s L
theorem TJ.Cp {Q:Exit->St->Ts->Prop} {id:Nat} {l:List Oper} (hm:P.follows .mixedOrders=true) (ow:Nat->Bool) (ws cs ns:List Nat) (hd:eE l.toArray ws=true) (hc:lh l.toArray ws cs ns=true)
  (h:∀K:St->Ts->Prop,(∀s' L',TJ P n y Q s' L'->K s' L')->iJ P l.toArray ow ws cs ns K 0 l s L):TJ P n (.seq (.region id l.toArray true) y) Q s L:=
 TJ.seq (TJ.sA hm ow ws cs ns hd hc (h _ fun _ _ h=>h).run)
theorem TJ.JV {Q:Exit->St->Ts->Prop} {id:Nat} {l:List Oper} (hm:P.follows .mixedOrders=true) (ow:Nat->Bool) (ws cs ns:List Nat) (hd:eE l.toArray ws=true) (hc:lh l.toArray ws cs ns=true)
  (h:∀K:St->Ts->Prop,(∀s' L',Q .normal s' L'->K s' L')->iJ P l.toArray ow ws cs ns K 0 l s L):TJ P n (.region id l.toArray true) Q s L:=
 TJ.sA hm ow ws cs ns hd hc (h _ fun _ _ h=>h).run
variable {ow:Nat->Bool} {cs ns:List Nat} {K:St->Ts->Prop} {i:Nat} {o:Oper} {rest:List Oper}
theorem dH (hi:cs.contains i=false) (hn:ns.contains i=false) (h:ib all s o (bA P s (ow i) o fun x V A=>(i∈ws\/(V=s.V/\A=s.A))/\iJ P all ow ws cs ns K (i+1) rest (s.put o.dst x V A) L) (iJ P all ow ws cs ns K (i+1) rest (s.put o.dst (.c .undef) s.V s.A) L)):iJ P all ow ws cs ns K i (o::rest) s L:=
 ⟨nf (fun h=>.inr (.inr ⟨by simpa using hi,by simpa using hn,fN (fun x V A h=>⟨h.1,h.2.run⟩) h⟩)) (fun h=>h.run) h⟩
theorem cV (h:K s L):iJ P all ow ws cs ns K i [] s L:=⟨h⟩
theorem iJ.gen {ops:List Oper} {d:Nat} {b:Bool} {fr:List (Nat×AV)} {V:List (List CV)} {A:List bu} (h:∀q:Bool,b=q->iJ P all ow ws cs ns K i ops ⟨(d,.c (.d (.bool q)))::fr,V,A⟩ L):iJ P all ow ws cs ns K i ops ⟨(d,.c (.d (.bool b)))::fr,V,A⟩ L:=h b rfl
@[congr] theorem Mb {i i':Nat} {ops:List Oper} (hi:i=i') (h:s=s'):iJ P all ow ws cs ns K i ops s L=iJ P all ow ws cs ns K i' ops s' L:=by rw[h,hi]
theorem bK {all:Array Oper} {x:AV} (hg:ib all s o True False) (h:cr P s L o x) (hK:jP P n all ow K (i+1) rest (s.put o.dst x s.V s.A) L):jP P n all ow K i (o::rest) s L:=by
 refine⟨fun hd w0 g0 X S g a w Q hR hQ=>?_⟩;simp only[cP,acg,acz]at hd;have e5:∀d,o.dst=some d->d<n:=fun d e=>by have:=hd.1;rw[e]at this;simpa using this
 unfold wpList;rcases pK hR.rp hg with⟨h1,_⟩|⟨_,h2⟩
 ·rw[if_pos h1];exact .inl (h.wp (fun x _=>rfl) hR.slot hR.mu hR.nd fun v hv=>hK.run hd.2 w0 g0 X S g _ w Q (hR.put e5 hv hR.inv (.refl _ _ _) hR.fr hR.mu hR.nd hR.out) hQ)
 ·exact h2.elim
theorem cr.field {t:TypeId} {d:TD} {x:Operand} {f off sz:Nat} {T:TypeId} {row:List DV} {pv:Value} (ho:o.op=.fieldAddr t x f) (hd:td P t=some d) (hf:d.fl[f]? =some (off,sz)) (eP:sz≠0)
  (hx:bw s x=some (.c (.d (.raw pv)))) (hm:(.n T row,pv)∈L):cr P s L o (.c (.d (.raw (fp pv off)))):=by
 intro cB V A hA g a w S hS hT _;have fW:bw ⟨cB,V,A⟩ x=some (.c (.d (.raw pv))):=(hA x (by simp[ho,Op.operands])).trans hx;have hv:=aI hS fW;simp only[aR,di,bc,a6]at hv;obtain⟨b,xs,rfl,_⟩:=hT.node hm;refine⟨.pointer (some ⟨b,0+off,none⟩),⟨rfl,rfl⟩,?_⟩;rw[execOp,ho];exact bh (by rw[hv.1];exact oI hd hf eP b 0)
theorem cr.nilCheck {x:Operand} {T:TypeId} {row:List DV} {pv:Value} (ho:o.op=.nilCheck x) (hx:bw s x=some (.c (.d (.raw pv)))) (hm:(.n T row,pv)∈L):cr P s L o (.c (.d (.raw pv))):=by
 intro cB V A hA g a w S hS hT _;have fW:bw ⟨cB,V,A⟩ x=some (.c (.d (.raw pv))):=(hA x (by simp[ho,Op.operands])).trans hx;have hv:=aI hS fW;simp only[aR,di,bc,a6]at hv;obtain⟨b,xs,rfl,_⟩:=hT.node hm;refine⟨.pointer (some ⟨b,0,none⟩),⟨rfl,rfl⟩,?_⟩;simp[execOp,ho,hv.1]
theorem cr.load {t:TypeId} {d:TD} {x:Operand} {off:Nat} {T:TypeId} {row:List DV} {pv:Value} {y:DV} (ho:o.op=.load t x) (hd:td P t=some d) (eP:d.sz=1) (Gz:d.ag=false)
  (hx:bw s x=some (.c (.d (.raw (fp pv off))))) (hm:(.n T row,pv)∈L) (hy:row[off]? =some y):cr P s L o (.c (.d y)):=by
 intro cB V A hA g a w S hS hT _;have fW:bw ⟨cB,V,A⟩ x=some (.c (.d (.raw (fp pv off)))):=(hA x (by simp[ho,Op.operands])).trans hx;have hv:=aI hS fW;simp only[aR,di,bc,a6]at hv;obtain⟨b,xs,rfl,_,hh,Kc,hr⟩:=hT.node hm;have hj:off<xs.size:=by rw[Kc];exact(acw.1 hy).1
 have hu:xs[off]? =some xs[off]:=acJ hj;refine⟨xs[off],(hr off y _ hy hu).zero,?_⟩;obtain⟨_,h2⟩:=lV (P:=P) (w:=w) hd (b:=b) (off:=off) (vs:=[xs[off]]) (fun j u Gy=>by
  cases j with
  |zero=>simp at Gy;subst Gy;simp[World.cell?,hh]
  |succ j=>simp at Gy) (by simp[eP])
 rw[execOp,ho];refine bh ?_;rw[hv.1,show fp (.pointer (some ⟨b,0,none⟩)) off=.pointer (some ⟨b,off,none⟩) by simp[fp]];exact h2 Gz _ rfl
theorem Ia {op:BinOp} {tp te:TypeId} {x y:Operand} {vx vy:AV} {p q:Value} {T:TypeId} {d:TD} {tb:TypeId} {cB:List (Nat×AV)} {V:List (List CV)} {A:List bu} {S:List Nat} (ho:o.op=.binOp op tp x y tb) (gd:op=.eql\/op=.neq)
  (hx:bw ⟨cB,V,A⟩ x=some vx) (hy:bw ⟨cB,V,A⟩ y=some vy) (OH:uJ vx=some p) (OI:uJ vy=some q) (hp:B6 L T p) (hq:B6 L T q)
  (JW:P.underlying tp=some (.pointer te)) (hd:td P te=some d) (eP:d.sz≠0) (PG:P.pointee tp=te) (hS:gU g w ⟨cB,V,A⟩ a) (hT:gl w L S) {bb:Bool} (PB:(bb=true)=((p=q)=(op=.eql))):(execOp a.eval o).run P w=.ok (.value (.bool bb)) w:=by
 have e1:=y9 OH (aI hS hx);have e2:=y9 OI (aI hS hy);obtain⟨inf,hi,oH,_,_⟩:=fQ hd;have Mc:(eqGuard op tp x y p q).run P w=.ok () w:=by
  rcases hp with rfl|⟨row,hm⟩
  ·rcases gd with rfl|rfl<;>simp[eqGuard]
  ·obtain⟨b,_,rfl,_⟩:=hT.node hm;rcases gd with rfl|rfl<;>simp[eqGuard]
 obtain⟨e,MN,heq⟩:∃e:Bool,(e=true↔p=q)/\∀k:Nat,(Op.equalIn (k+1) tp p q).run P w=.ok e w:=by
  rcases hp with rfl|⟨row,hm⟩
  ·rcases hq with rfl|⟨row',RL⟩
   ·exact⟨true,by simp,fun k=>by simp[Op.equalIn,run_underlying JW]⟩
   ·obtain⟨b,_,rfl,_⟩:=hT.node RL;exact⟨false,by simp,fun k=>by simp[Op.equalIn,run_underlying JW]⟩
  ·obtain⟨b,xs,rfl,_,hh,_⟩:=hT.node hm;rcases hq with rfl|⟨row',RL⟩
   ·exact⟨false,by simp,fun k=>by simp[Op.equalIn,run_underlying JW]⟩
   ·obtain⟨b',xs',rfl,_,UW,_⟩:=hT.node RL;by_cases Md:b=b'
    ·subst Md;exact⟨true,by simp,fun k=>by simp[Op.equalIn,run_underlying JW,sizeOf,typeInfo,hi,oH,eP,run_sameAddr_same]⟩
    ·have cY:(⟨b,0,none⟩:Addr)≠⟨b',0,none⟩:=by simp[Md]
     exact⟨false,by simp[Md],fun k=>by simp[Op.equalIn,run_underlying JW,sizeOf,typeInfo,hi,oH,eP,run_sameAddr_other w cY hh UW]⟩
 have OJ:(Op.equal tp p q).run P w=.ok e w:=heq 9999;have UX:(∃x,p=.pointer x)/\∃y,q=.pointer y:=by
  constructor
  ·rcases hp with rfl|⟨row,hm⟩
   ·exact⟨_,rfl⟩
   ·obtain⟨b,_,rfl,_⟩:=hT.node hm;exact⟨_,rfl⟩
  ·rcases hq with rfl|⟨row,hm⟩
   ·exact⟨_,rfl⟩
   ·obtain⟨b,_,rfl,_⟩:=hT.node hm;exact⟨_,rfl⟩
 rw[execOp,ho];refine bh ?_;rw[e1,e2,Sem.run_bind,Mc];simp only[Result.andThen_ok];obtain⟨⟨x',rfl⟩,y',rfl⟩:=UX;rcases gd with rfl|rfl
 ·have:bb=e:=by
   rw[acB,PB,MN];simp
  rw[this];simp only[binOp];rw[Sem.run_bind,OJ]
  rfl
 ·have:bb= !e:=by
   rw[acB,PB,Bool.not_eq_true',<-Bool.not_eq_true,MN];simp
  rw[this];simp only[binOp];rw[Sem.run_bind,OJ]
  rfl
theorem cr.eql {tp te tb T:TypeId} {d:TD} {x y:Operand} {vx vy:AV} {p q:Value} (ho:o.op=.binOp .eql tp x y tb)
  (hx:bw s x=some vx) (hy:bw s y=some vy) (OH:uJ vx=some p) (OI:uJ vy=some q) (hp:B6 L T p) (hq:B6 L T q)
  (JW:P.underlying tp=some (.pointer te)) (hd:td P te=some d) (eP:d.sz≠0) (PG:P.pointee tp=te):cr P s L o (.c (.d (.bool (@decide (p=q) (Classical.propDecidable _))))):=by
 intro cB V A hA g a w S hS hT _;have fW:=(hA x (by simp[ho,Op.operands])).trans hx;have RM:=(hA y (by simp[ho,Op.operands])).trans hy;exact⟨_,rfl,Ia ho (.inl rfl) fW RM OH OI hp hq JW hd eP PG hS hT (by simp)⟩
theorem cr.neq {tp te tb T:TypeId} {d:TD} {x y:Operand} {vx vy:AV} {p q:Value} (ho:o.op=.binOp .neq tp x y tb)
  (hx:bw s x=some vx) (hy:bw s y=some vy) (OH:uJ vx=some p) (OI:uJ vy=some q) (hp:B6 L T p) (hq:B6 L T q)
  (JW:P.underlying tp=some (.pointer te)) (hd:td P te=some d) (eP:d.sz≠0) (PG:P.pointee tp=te):cr P s L o (.c (.d (.bool (!@decide (p=q) (Classical.propDecidable _))))):=by
 intro cB V A hA g a w S hS hT _;have fW:=(hA x (by simp[ho,Op.operands])).trans hx;have RM:=(hA y (by simp[ho,Op.operands])).trans hy;exact⟨_,rfl,Ia ho (.inr rfl) fW RM OH OI hp hq JW hd eP PG hS hT (by by_cases h:p=q<;>simp[h])⟩
theorem kF.box {T:TypeId} {x:Operand} {cells:List CV} {row:List DV} {k:AV->Ts->Prop} (ho:o.op=.box T x) (hx:bw s x=some (.agg cells)) (ev:B0 cells=some row) (hK:∀pv,k (.c (.d (.raw pv))) ((.n T row,pv)::L)):kF P s L o k:=by
 intro cB V A hA n w0 g0 X S g a w hR next Q hn;have fW:bw ⟨cB,V,A⟩ x=some (.agg cells):=(hA x (by simp[ho,Op.operands])).trans hx;obtain⟨vs,hv,hl,hc⟩:=aI hR.slot fW;have e0:(execOp a.eval o).run P w=.ok (.value (.pointer (some ⟨w.heap.size,0,none⟩))) (w.alloc (.cells vs.toArray T)):=by
  simp[execOp,ho,hv,Instr.box,newVar,jc,Value.cells]
 unfold Oper.wp;rw[e0];obtain⟨g1,uP,e9,lu⟩:=hR.inv.dR (.cells vs.toArray T) 0;have jS:=(Fr.refl hR.fr.now).dR (.cells vs.toArray T) 0;rw[<-uP]at jS;have ug:=hR.wJ jS;have ax:∀b∈S,b<w.heap.size:=hR.mu.lt;refine hn _ _ (w.heap.size::S) _ _ g1 (hK (.pointer (some ⟨w.heap.size,0,none⟩))) ⟨rfl,rfl⟩ e9 lu (hR.fr.fr jS) ⟨[w.heap.size],S,rfl,?_,ug.1⟩ (ace.2 ⟨fun h=>absurd (ax _ h) (by omega),hR.nd⟩) fun b hb=>?_
 ·simp only[Tr];refine⟨_,vs.toArray,rfl,heap_alloc_new w _,?_,fun j y u h1 h2=>?_,rfl⟩
  ·have h2:=xu ev;simp;omega
  ·have Lb:vs[j]? =some u:=by simpa using h2
   have iP:j<cells.length:=by
    have:=xu ev;have:=(acw.1 h1).1;omega
   have M6:cells[j]? =some cells[j]:=List.getElem?_eq_getElem iP;exact Eu (Ev ev M6 h1) (hc j _ u M6 Lb)
 ·rcases acn.1 hb with rfl|hb
  ·refine⟨by rw[uP];simp,fun hm=>?_,fun hm=>?_,fun hm=>?_,.inl hR.fr.size⟩
   ·rw[uP]at hm;obtain⟨l,hl⟩:=acv hm;have:=hR.inv.qN hl;omega
   ·rw[uP]at hm;obtain⟨k,v',q1,q2⟩:=Gh.fw (g:=g) (by simpa[Gh.iF]using hm);have:=hR.inv.ma q1 q2;omega
   ·have:=(hR.fr.now _ hm).1;omega
  ·exact ug.2 b hb
theorem jm {all:Array Oper} (hg:ib all s o True False) (h:kF P s L o fun x L'=>jP P n all ow K (i+1) rest (s.put o.dst x s.V s.A) L'):jP P n all ow K i (o::rest) s L:=by
 refine⟨fun hd w0 g0 X S g a w Q hR hQ=>?_⟩;simp only[cP,acg,acz]at hd;have e5:∀d,o.dst=some d->d<n:=fun d e=>by have:=hd.1;rw[e]at this;simpa using this
 unfold wpList;rcases pK hR.rp hg with⟨h1,_⟩|⟨_,h2⟩
 ·rw[if_pos h1];exact .inl (h _ _ _ (fun x _=>rfl) n w0 g0 X S g a w hR _ _ fun x L' S' v w' g' h3 h4 h5 h6 h7 h8 h9 cv=>h3.run hd.2 w0 g0 X S' g' _ w' Q (hR.put e5 h4 h5 h6 h7 h8 h9 cv) hQ)
 ·exact h2.elim
end
section
variable {P:Program} {n:Nat} {s:St} {L L2:Ts} {all:Array Oper} {ow:Nat->Bool} {K:St->Ts->Prop} {i:Nat} {o:Oper} {rest:List Oper}
theorem cr.RN {x:Operand} {t e e':TypeId} {d:TD} {sz m:Nat} {cs:List GC} {v:Value} (ho:o.op=.call {callee:=.builtin .len,args:= #[x],argTypes:= #[t]}) (hd:td P t=some d) (sV:d.el=some e')
  (hx:bw s x=some (.c (.d (.raw v)))) (hm:(.t e sz m cs,v)∈L):cr P s L o (.c (.d (.int .i64 m))):=by
 intro cB V A hA g a w S hS hT _;have fW:bw ⟨cB,V,A⟩ x=some (.c (.d (.raw v))):=(hA x (by simp[ho,Op.operands,Call.operands])).trans hx;have hv:=aI hS fW;simp only[aR,di,bc,a6]at hv;obtain⟨S',h1,_⟩:=hT.at_ hm;simp only[Tr]at h1;obtain⟨xs,S'',c7,_,_⟩:=h1;refine⟨.int .i64 m,rfl,?_⟩;have x5:∃ad cp,v=.slice ad m cp:=by
  rcases c7.2 with⟨e1,e2⟩|⟨b1,c1,cu1,e1,_⟩
  ·exact⟨none,0,by rw[e1,e2]⟩
  ·exact⟨_,_,e1⟩
 obtain⟨ad,cp,rfl⟩:=x5;unfold execOp;simp only[ho,resolve,invoke,Sem.run_bind,Sem.run_pure,Result.andThen_ok,aco,acj,acp,hv.1];refine bh ?_;simp[Builtin.len_,run_underlying (mc hd sV),goInt]
end
end Go.Av
