/- A part. -/
import Derived.Test.YtloolmchekcmeaaGreatXF22
import Derived.LaidEql
set_option linter.unusedVariables false
set_option linter.unusedSimpArgs false
open List renaming range->acb,append_assoc->acd,nodup_cons->ace,all_eq_true->acf,all_cons->acg,mem_of_getElem?->ach,mem_append->aci,map_cons->acj,mem_range->ack,mem_iff_getElem?->acm,mem_cons->acn,map_toArray->aco,map_nil->acp,length_nil->acq,length_cons->acr,getElem?_zipIdx->acs,getElem?_set->acu,getElem?_of_mem->acv,getElem?_eq_some_iff->acw,contains_eq_mem->acx
open Bool renaming and_eq_true->acz,or_eq_true->acA,eq_iff_iff->acB
open Nat renaming lt_or_ge->acC,le_refl->acD,zero_add->acE,lt_trichotomy->acF,zero_le->acG,strongRecOn->acH
open Array renaming getElem?_eq_some_iff->acI,getElem?_eq_getElem->acJ,mem_toList_iff->acK,getElem?_setIfInBounds_ne->acL
open Option renaming bind_some->acM
namespace Go.Av
attribute [-simp] Go.Av.ch Go.Av.eY Go.Av.fw Go.Av.fi Go.Av.cY Go.Av.cb Go.Av.IT.mE Go.Av.IT.gO Go.Av.IT.gl Go.Av.IT.lM Go.Av.IT.mF Go.Av.IT.mG Go.Av.IT.mH Go.Av.IT.mI Go.Av.IT.iS Go.Av.j6
open Go
def fp:Value->Nat->Value
 |.pointer (some ⟨b,o,k⟩),off=>.pointer (some ⟨b,o+off,k⟩)
 |v,_=>v
def Ld:CV->Option DV
 |.d x=>if x.jN=true then some x else none
 |.np=>some (.raw (.pointer none))
 |.nil=>some (.raw (.slice none 0 0))
 |_=>none
def Ca:List CV->Option (List DV)
 |[]=>some []
 |c::r=>match Ld c,Ca r with
  |some x,some l=>some (x::l)
  |_,_=>none
theorem EH {g:Gh} {w:World} {A:List bz} {im:Nat->Nat} {w':World} {c:CV} {x:DV} {u:Value} (h:Ld c=some x) (hr:br g w A c u):bn im w' x u:=by
 cases c with
 |d y=>
  simp only[Ld]at h;split at h
  ·rename_i hs;simp at h;subst h;exact DV.sD hs hr
  ·simp at h
 |np=>simp only[Ld,Option.some.injEq]at h;subst h;exact⟨hr,by simp only[br]at hr;subst hr;rfl⟩
 |nil=>simp only[Ld,Option.some.injEq]at h;subst h;exact⟨hr,by simp only[br]at hr;subst hr;rfl⟩
 |_=>simp[Ld]at h
theorem xx:∀{cs:List CV} {ds:List DV},Ca cs=some ds->ds.length=cs.length
 |[],ds,h=>by simp[Ca]at h;subst h;rfl
 |c::r,ds,h=>by
  simp only[Ca]at h;split at h
  ·rename_i x l h1 h2;simp at h;subst h;simp[xx h2]
  ·simp at h
theorem EI:∀{cs:List CV} {ds:List DV},Ca cs=some ds->∀{j:Nat} {c x},cs[j]? =some c->ds[j]? =some x->Ld c=some x
 |[],ds,h,j,c,x,h1,_=>by simp at h1
 |y::r,ds,h,j,c,x,h1,h2=>by
  simp only[Ca]at h;split at h
  ·rename_i a l h3 h4;simp at h;subst h;cases j with
   |zero=>simp at h1 h2;subst h1;subst h2;exact h3
   |succ j=>exact EI h4 (by simpa using h1) (by simpa using h2)
  ·simp at h
section
variable {P:Program} {n:Nat} {s:St} {L L2:Ts} {all:Array Oper} {ow:Nat->Bool} {K:St->Ts->Prop} {i:Nat} {o:Oper} {rest:List Oper}
theorem iI.node {w:World} {T:TypeId} {row:List DV} {pv:Value} {S:List Nat} (h:iI w L S) (hm:(.n T row,pv)∈L):
  ∃b xs,pv=.pointer (some ⟨b,0,none⟩)/\b∈S/\w.heap[b]? =some (.cells xs T (0,0))/\xs.size=row.length/\∀(j:Nat) x u,row[j]? =some x->xs[j]? =some u->bn (fun _=>0) w x u:=by
 obtain⟨S',h1,h2⟩:=h.at_ hm;simp only[Tr]at h1;obtain⟨b,xs,rfl,h3,h4,h5,rfl⟩:=h1;exact⟨b,xs,rfl,h2 b (by simp),h3,h4,h5⟩
theorem gP {t:TypeId} {d:TD} {x y:Operand} {off:Nat} {T:TypeId} {row:List DV} {pv:Value} {c:CV} {e:DV} (hg:o.guard=none) (ho:o.op=.store t x y) (hd:td P t=some d) (fB:d.sz=1)
  (hx:bH s x=some (.c (.d (.raw (fp pv off))))) (hy:bH s y=some (.c c)) (hc:Ld c=some e) (hp:L.Perm ((.n T row,pv)::L2)) (RY:off<row.length)
  (hK:kC P n all ow K (i+1) rest (s.put o.dst (.c .undef) s.V s.A) ((.n T (row.set off e),pv)::L2)):kC P n all ow K i (o::rest) s L:=by
 refine⟨fun vD w0 g0 X S g a w Q hR hQ=>?_⟩;simp only[da,acg,acz]at vD;have fc:∀d,o.dst=some d->d<n:=fun d e=>by have:=vD.1;rw[e]at this;simpa using this
 obtain⟨S0,vu,I5⟩:=hR.nF.perm hp;obtain⟨S1,S2,rfl,lT,zW⟩:=I5;simp only[Tr]at lT;obtain⟨b,xs,rfl,hh,Jd,hr,rfl⟩:=lT;have oU:=vu.nodup_iff.1 hR.nd;have jC:=fun b hb=>hR.out b (vu.mem_iff.2 hb)
 obtain⟨uR,JH,O8,TG,O9⟩:=jC b (by simp);have hv:=aL hR.slot hx;simp only[aW,dL,br,bn]at hv;have hu:=aL hR.slot hy;simp only[aW,dL]at hu;have TH:=EH (im:=fun _=>0) (w':=w) hc hu;have RZ:(a.eval y).oneCell'=true:=TH.lY;have nN:(a.eval y).cells= #[a.eval y]:=by
  cases hq:a.eval y<;>first|rfl|(rw[hq]at RZ;simp[Value.oneCell']at RZ)
 have fC:=lC (P:=P) hd (v:=a.eval y) (by rw[nN,fB];rfl) hh (off:=off) (by rw[fB];omega) (fun u hu=>by rw[nN]at hu;simp at hu;subst hu;exact RZ);have OF:(ca xs.toList off (a.eval y).cells.toList).toArray=xs.setIfInBounds off (a.eval y):=by
  rw[nN];apply Array.ext';simp only[Array.toList_setIfInBounds];apply List.ext_getElem?;intro j;rw[ga (by simp;omega),acu];simp only[acr,acq,acE,Array.length_toList];by_cases hj:off=j
  ·subst hj;rw[if_pos ⟨acD _,by omega⟩,if_pos rfl,if_pos (by omega),Nat.sub_self];rfl
  ·rw[if_neg (by omega),if_neg hj]
 rw[OF]at fC;have Vj:b<w.heap.size:=(acI.1 hh).1;unfold wpList;rw[if_pos (by simp[Region.wanted,hg])];refine .inl ?_;unfold Oper.wp;have Cb:(execOp a.eval o).run P w=.ok .skip (w.setRow b (xs.setIfInBounds off (a.eval y))):=by
  rw[execOp,ho];refine vQ ?_;rw[hv.1,show fp (.pointer (some ⟨b,0,none⟩)) off=.pointer (some ⟨b,off,none⟩) by simp[fp]];exact fC
 rw[Cb];have gB:∀b',b'≠b->(w.setRow b (xs.setIfInBounds off (a.eval y))).heap[b']? =w.heap[b']? :=fun b' eV=>cC w b b' _ eV
 have x9:(w.setRow b (xs.setIfInBounds off (a.eval y))).heap[b]? =some (.cells (xs.setIfInBounds off (a.eval y)) T (0,0)):=setRow_heap w b xs _ T (0,0) hh;have Iu:(w.setRow b (xs.setIfInBounds off (a.eval y))).heap.size=w.heap.size:=by simp
 have xW:j7 g.im w g.im (w.setRow b (xs.setIfInBounds off (a.eval y))):=⟨fun _=>acD _,fun b' o' Gn=>by
  have di:b'≠b:=fun e=>by subst e;omega
  exact World.cell?_of_block (a:=⟨b',o',none⟩) (gB b' di)⟩
 have Iv:Ext g w s.A g (w.setRow b (xs.setIfInBounds off (a.eval y))) s.A:=⟨fun _ _ h=>h,xW,fun _ r h=>⟨r,h,rfl,acD _,fun _=>rfl⟩⟩;have Pa:Inv g (w.setRow b (xs.setIfInBounds off (a.eval y))) s.V s.A:=by
  refine⟨hR.inv.oT,hR.inv.lQ,fun l row' b' h3 h4=>?_,fun k r u h3 h4=>?_,hR.inv.kH,hR.inv.jj,hR.inv.jr,fun b' eV=>hR.inv.fresh b' (by omega)⟩
  ·exact hR.inv.fx Iv h3 h4 (gB b' (fun e=>by subst e;exact JH (ach h4))) (hR.inv.obj l row' b' h3 h4).1
  ·exact hR.inv.fy Iv h3 h4 (fun b' eV=>gB b' (fun e=>by subst e;exact O8 (Gh.jX h4 eV))) (fun _ _=>rfl)
 have Pb:wR w0 g0 X (w.setRow b (xs.setIfInBounds off (a.eval y))) g:=by
  refine⟨hR.fr.os,hR.fr.tape,hR.fr.output,by rw[Iu];exact hR.fr.size,fun b' q1 q2 q3 q4=>?_,hR.fr.js,hR.fr.ob,hR.fr.ar,hR.fr.vO,hR.fr.xV,hR.fr.BE⟩;rw[gB b' (fun e=>by
   subst e;rcases O9 with q|q
   ·omega
   ·exact q4 q)]
  exact hR.fr.qE b' q1 q2 q3 q4
 have R0:b∉S2:=fun hm=>(ace.1 oU).1 hm
 refine hK.run vD.2 w0 g0 X (b::S2) g _ _ Q (hR.put fc (x:=.c .undef) (v:=undef) rfl Pa Iv Pb ⟨[b],S2,rfl,?_,zW.dR fun b' eV=>gB b' (fun e=>by subst e;exact R0 eV)⟩ oU jC) hQ;simp only[Tr];refine⟨b,_,rfl,x9,by simp[Jd],fun j x' u h3 h4=>?_,rfl⟩;rw[acu]at h3;rw[Array.getElem?_setIfInBounds]at h4;by_cases hj:off=j
 ·rw[if_pos hj,if_pos RY]at h3;rw[if_pos hj,if_pos (by omega)]at h4;simp at h3 h4;subst h3;subst h4;exact TH.zero
 ·rw[if_neg hj]at h3;rw[if_neg hj]at h4;exact(hr j x' u h3 h4).zero
def u7:AV->Option Value
 |.c (.d (.raw v))=>some v
 |.c .np=>some (.pointer none)
 |_=>none
theorem zm {g:Gh} {w:World} {A:List bz} {x:AV} {v u:Value} (h:u7 x=some v) (hr:aW g w A x u):u=v:=by
 unfold u7 at h;split at h
 ·simp at h;subst h;simp only[aW,dL,br,bn]at hr;exact hr.1
 ·simp at h;subst h;exact hr
 ·simp at h
def Cc (L:Ts) (T:TypeId) (v:Value):Prop:=v=.pointer none\/∃row,(.n T row,v)∈L
end
theorem kN.Iw {w:World}:∀{cs:List GC} {xs:List Value} {S:List Nat} {ds:List DV} {us:List Value},kN w cs xs S->us.length=ds.length->(∀(j:Nat) x u,ds[j]? =some x->us[j]? =some u->bn (fun _=>0) w x u)->kN w (cs++ds.map GC.d) (xs++us) S
 |[],xs,S,[],us,h,hl,_=>by
  have:us=[]:=List.length_eq_zero_iff.1 (by simpa using hl);simp only[kN]at h;obtain⟨rfl,rfl⟩:=h;subst this;simp[kN]
 |[],xs,S,d::ds,us,h,hl,hr=>by
  simp only[kN]at h;obtain⟨rfl,rfl⟩:=h
  match us,hl with
  |u::us,hl=>
   have h2:=kN.Iw (w:=w) (cs:=[]) (xs:=[]) (S:=[]) (ds:=ds) (us:=us) (by simp[kN]) (by simpa using hl) (fun j x v h1 h2=>hr (j+1) x v (by simpa using h1) (by simpa using h2));simp only[List.nil_append,acj,kN]at h2⊢;exact⟨u,us,[],[],rfl,rfl,by simp only[Tr];exact⟨hr 0 d u rfl rfl,trivial⟩,h2⟩
 |c::cs,xs,S,ds,us,h,hl,hr=>by
  simp only[kN]at h;obtain⟨x,xs',S1,S2,rfl,rfl,h1,h2⟩:=h;simp only[List.cons_append,kN];exact⟨x,xs'++us,S1,S2,rfl,rfl,h1,kN.Iw h2 hl hr⟩
section
variable {P:Program} {n:Nat} {s:St} {L L2:Ts} {all:Array Oper} {ow:Nat->Bool} {K:St->Ts->Prop} {i:Nat} {o:Oper} {rest:List Oper}
theorem sR {x y:Operand} {t e:TypeId} {d de:TD} {z:List CV} {m:Nat} {cs:List GC} {v:Value} {u:AV} {nr:List (List DV)} (hg:o.guard=none) (ho:o.op=.call {callee:=.builtin .append,args:= #[x,y],argTypes:= #[t,t]})
  (ht:td P t=some d) (tq:d.el=some e) (he:td P e=some de) (hz:de.zero=some z) (qG:z.length=de.sz) (hx:bH s x=some (.c (.d (.raw v)))) (hy:bH s y=some u) (D4:rowsOf s.A u=some nr) (hl:∀r∈nr,r.length=de.sz)
  (yu:∀r∈nr,∀c∈r,DV.jN c=true) (hp:L.Perm ((.t e de.sz m cs,v)::L2)) (hb:(m+nr.length)*de.lR<=140737488355328) (hm:m+nr.length<=9223372036854775807)
  (hK:∀v',kC P n all ow K (i+1) rest (s.put o.dst (.c (.d (.raw v'))) s.V s.A) ((.t e de.sz (m+nr.length) (cs++nr.flatten.map GC.d),v')::L2)):kC P n all ow K i (o::rest) s L:=by
 refine⟨fun vD w0 g0 X S g a w Q hR hQ=>?_⟩;simp only[da,acg,acz]at vD;have fc:∀d,o.dst=some d->d<n:=fun d e=>by have:=vD.1;rw[e]at this;simpa using this
 obtain⟨S0,vu,I5⟩:=hR.nF.perm hp;obtain⟨S1,S2,rfl,lT,zW⟩:=I5;simp only[Tr]at lT;obtain⟨xs,S3,dQ,Mp,rfl⟩:=lT;have oU:=vu.nodup_iff.1 hR.nd;have jC:=fun b hb=>hR.out b (vu.mem_iff.2 hb)
 have ay:∀b∈v.ownBlock.toList++S3++S2,b<w.heap.size:=fun b hb=>hR.nF.lt b (vu.mem_iff.2 hb)
 have hv:=aL hR.slot hx;simp only[aW,dL,br,bn]at hv;obtain⟨hv,kJ⟩:=hv;have hu:=aL hR.slot hy;obtain⟨inf,hi,pg,CG,h0⟩:=gm he;obtain⟨zv,GS,Gr⟩:=h0 z hz;have IM:zv.cells.size=inf.size:=by have:=iV Gr;simp at this;omega
 obtain⟨news,vX,vk,zD⟩:=tt hR.inv hu D4 hl;have EJ:∀(j:Nat) q u,nr.flatten[j]? =some q->news[j]? =some u->bn (fun _=>0) w q u:=fun j q u h1 h2=>by
  obtain⟨r,Mq,CC⟩:=List.mem_flatten.1 (ach h1);exact DV.sD (yu r Mq q CC) (zD j q u h1 h2)
 have Gq:news.length=nr.flatten.length:=by
  have xK:nr.flatten.length=nr.length*de.sz:=by
   clear vX zD EJ hb hm hK D4 yu;induction nr with
   |nil=>simp
   |cons r nr ih=>simp only[List.flatten_cons,List.length_append,acr];rw[hl r (by simp),ih (fun x hx=>hl x (by simp[hx])),Nat.add_mul,Nat.one_mul,Nat.add_comm]
  rcases vX with⟨h1,h2,_⟩|⟨_,_,_,h1,_⟩
  ·rw[xK,h1,h2];simp
  ·rw[xK,h1]
 have yB:w.ownsRow 0 e inf.size v m xs:=by rw[pg];exact dQ
 obtain⟨v',w',fC,sY,hc⟩:=mo (P:=P) t o.type e inf zv (mQ ht tq) hi GS IM v m xs yB (a.eval y) nr.length news (by rw[pg];exact vX) vk (by simp only[maxLen];omega) (by rw[CG];exact hb);rw[pg]at sY;unfold wpList;rw[if_pos (by simp[Region.wanted,hg])];refine .inl ?_;unfold Oper.wp;have Cb:(execOp a.eval o).run P w=.ok (.value v') w':=by
  unfold execOp;simp only[ho,resolve,invoke,Sem.run_bind,Sem.run_pure,Result.andThen_ok,aco,acj,acp,hv];exact oF fC
 rw[Cb];have DK:v'.oneCell'=true:=by
  rcases sY.2 with⟨rfl,_⟩|⟨b1,c1,cu1,rfl,_⟩<;>rfl
 rcases hc with⟨rfl,rfl⟩|⟨b,cs',AD,xy,rfl⟩|⟨o',xy,rfl⟩
 ·refine(hK v').run vD.2 w0 g0 X (v'.ownBlock.toList++S3++S2) g _ _ Q (hR.put fc (x:=.c (.d (.raw v'))) ⟨rfl,DK⟩ hR.inv (.refl _ _ _) hR.fr ⟨_,S2,rfl,?_,zW⟩ oU jC) hQ;simp only[Tr];exact⟨xs++news,S3,sY,Mp.Iw Gq EJ,rfl⟩
 ·have R3:b∈v.ownBlock.toList++S3++S2:=by simp[AD]
  obtain⟨uR,JH,O8,TG,O9⟩:=jC b R3;have gB:∀b',b'≠b->(w.setRow b cs').heap[b']? =w.heap[b']? :=fun b' eV=>cC w b b' _ eV
  have Iu:(w.setRow b cs').heap.size=w.heap.size:=by simp
  have xW:j7 g.im w g.im (w.setRow b cs'):=⟨fun _=>acD _,fun b' o' Gn=>by
   have di:b'≠b:=fun e=>by subst e;omega
   exact World.cell?_of_block (a:=⟨b',o',none⟩) (gB b' di)⟩
  have Iv:Ext g w s.A g (w.setRow b cs') s.A:=⟨fun _ _ h=>h,xW,fun _ r h=>⟨r,h,rfl,acD _,fun _=>rfl⟩⟩;have Pa:Inv g (w.setRow b cs') s.V s.A:=by
   refine⟨hR.inv.oT,hR.inv.lQ,fun l row' b' h3 h4=>?_,fun k r u h3 h4=>?_,hR.inv.kH,hR.inv.jj,hR.inv.jr,fun b' eV=>hR.inv.fresh b' (by omega)⟩
   ·exact hR.inv.fx Iv h3 h4 (gB b' (fun e=>by subst e;exact JH (ach h4))) (hR.inv.obj l row' b' h3 h4).1
   ·exact hR.inv.fy Iv h3 h4 (fun b' eV=>gB b' (fun e=>by subst e;exact O8 (Gh.jX h4 eV))) (fun _ _=>rfl)
  have Pb:wR w0 g0 X (w.setRow b cs') g:=by
   refine⟨hR.fr.os,hR.fr.tape,hR.fr.output,by rw[Iu];exact hR.fr.size,fun b' q1 q2 q3 q4=>?_,hR.fr.js,hR.fr.ob,hR.fr.ar,hR.fr.vO,hR.fr.xV,hR.fr.BE⟩;rw[gB b' (fun e=>by
    subst e;rcases O9 with q|q
    ·omega
    ·exact q4 q)]
   exact hR.fr.qE b' q1 q2 q3 q4
  have yo:(b::(S3++S2)).Nodup:=by simpa[AD]using oU
  have zn:b∉S3++S2:=(ace.1 yo).1;refine(hK v').run vD.2 w0 g0 X (v'.ownBlock.toList++S3++S2) g _ _ Q (hR.put fc (x:=.c (.d (.raw v'))) ⟨rfl,DK⟩ Pa Iv Pb ⟨_,S2,rfl,?_,zW.dR fun b' eV=>gB b' (fun e=>by subst e;exact zn (by simp[eV]))⟩ (by rw[xy];simpa using yo) fun b' eV=>jC b' (by rw[AD];rw[xy]at eV;exact eV)) hQ;simp only[Tr];exact⟨xs++news,S3,sY,(Mp.dR _ _ _ fun b' eV=>gB b' (fun e=>by subst e;exact zn (by simp[eV]))).Iw Gq (fun j q u h1 h2=>(EJ j q u h1 h2).zero),rfl⟩
 ·obtain⟨R4,MU⟩:=hR.inv.heap (w':=w.drew) rfl;have R5:Fr w g w.drew g:=(Fr.refl hR.fr.now).heap rfl rfl rfl rfl;obtain⟨g1,vf,fj,dB⟩:=R4.ei o' 0;have kF:=R5.ei o' 0;have MW:w.drew.heap.size=w.heap.size:=rfl;rw[<-vf]at kF;have wE:∀b∈S3++S2,b<w.heap.size:=fun b hb=>ay b (by simp only[acd,aci]at hb⊢;exact .inr hb)
  have hold:∀b,b<w.heap.size->(w.drew.alloc o').heap[b]? =w.heap[b]? :=fun b hb=>RowKit.Below.heap_alloc w.drew o' b hb
  have HG:(S3++S2).Nodup:=by rw[acd]at oU;exact(List.nodup_append.1 oU).2.1
  have uC:=hR.wS kF;refine(hK v').run vD.2 w0 g0 X (v'.ownBlock.toList++S3++S2) g1 _ _ Q (hR.put fc (x:=.c (.d (.raw v'))) ⟨rfl,DK⟩ fj (MU.trans dB) (hR.fr.fr kF) ⟨_,S2,rfl,?_,zW.dR fun b' eV=>hold b' (wE b' (by simp[eV]))⟩ ?_ fun b hb=>?_) hQ
  ·simp only[Tr];exact⟨xs++news,S3,sY,(Mp.dR _ _ _ fun b' eV=>hold b' (wE b' (by simp[eV]))).Iw Gq (fun j q u h1 h2=>(EJ j q u h1 h2).zero),rfl⟩
  ·rw[xy,acd];exact ace.2 ⟨fun hm=>absurd (wE _ hm) (by omega),HG⟩
  ·rw[xy,acd]at hb;rcases acn.1 hb with rfl|hb
   ·refine⟨by rw[vf];simp,fun hm=>?_,fun hm=>?_,fun hm=>?_,.inl hR.fr.size⟩
    ·rw[vf]at hm;obtain⟨l,hl⟩:=acv hm;have:=hR.inv.qU hl;omega
    ·rw[vf]at hm;obtain⟨k,v',q1,q2⟩:=Gh.fL (g:=g) (by simpa[Gh.jB]using hm);have:=hR.inv.mO q1 q2;omega
    ·have:=(hR.fr.now _ hm).1;omega
   ·exact uC.2 b (vu.mem_iff.2 (by rw[acd];exact List.mem_append_right _ hb))
end
end Go.Av
namespace Go.Av
attribute [-simp] Go.Av.IT.mE Go.Av.IT.gO Go.Av.IT.gl Go.Av.IT.lM Go.Av.IT.mF Go.Av.IT.mG Go.Av.IT.mH Go.Av.IT.mI Go.Av.IT.iS Go.Av.j6
open Go
section
variable {P:Program} {n:Nat} {w0 w w':World} {g0 g g':Gh} {X S S':List Nat} {s s':St} {L L':Ts} {a a':Act} {x y:Code} {all:Array Oper} {ws:List Nat}
def R6 (o:Oper) (cU:List (Nat×AV)) (V:List (List CV)) (A:List bz) (s:St):Prop:=∀x∈o.op.operands.toList,bH ⟨cU,V,A⟩ x=bH s x
def lp (P:Program) (s:St) (L:Ts) (o:Oper) (K:AV->Ts->Prop):Prop:=
 ∀(cU:List (Nat×AV)) (V:List (List CV)) (A:List bz),R6 o cU V A s->∀(n:Nat) (w0:World) (g0:Gh) (X S:List Nat) (g:Gh) (a:Act) (w:World),rl n w0 g0 X ⟨cU,V,A⟩ L S g a w->∀(next:Act->World->Prop) (Q:Exit->Act->World->Prop),
  (∀x L' S' v w' g',K x L'->aW g' w' A x v->Inv g' w' V A->Ext g w A g' w' A->wR w0 g0 X w' g'->iI w' L' S'->S'.Nodup->(∀b∈S',g'.im b=0/\b∉g'.ob/\b∉g'.jB/\¬o7 b/\(w0.heap.size<=b\/b∈X))->next (a.put o.dst v) w')->o.wp P a w next Q
def bW (P:Program) (s:St) (L:Ts) (o:Oper) (x:AV):Prop:=
 ∀(cU:List (Nat×AV)) (V:List (List CV)) (A:List bz),R6 o cU V A s->∀(g:Gh) (a:Act) (w:World) (S:List Nat),iC g w ⟨cU,V,A⟩ a->iI w L S->S.Nodup->∃v,aW g w A x v/\(execOp a.eval o).run P w=.ok (.value v) w
theorem lp.map {o:Oper} {K K':AV->Ts->Prop} (hk:∀x L,K x L->K' x L) (h:lp P s L o K):lp P s L o K':=
 fun cU V A hA n w0 g0 X S g a w hR next Q hn=>h cU V A hA n w0 g0 X S g a w hR next Q fun x L' S' v w' g' h1=>hn x L' S' v w' g' (hk _ _ h1)
theorem lp.call {o:Oper} {K:AV->Ts->Prop} (h:cb P s L o K):lp P s L o K:=by
 intro cU V A hA n w0 g0 X S g a w hR next Q hn;refine qh hR (pO (s:=s) (ow:=false) hA h) _ _ ?_;rintro x V' A' L' S' v w' g' ⟨rfl,rfl,hk⟩ h1 h2 h3 h4 h5 h6 h7;exact hn x L' S' v w' g' hk h1 h2 h3 h4 h5 h6 h7
theorem bW.wp {o:Oper} {x:AV} (h:bW P s L o x) {cU:List (Nat×AV)} {V:List (List CV)} {A:List bz} (hA:R6 o cU V A s) (hS:iC g w ⟨cU,V,A⟩ a) (hT:iI w L S) (hn:S.Nodup) {next:Act->World->Prop} {Q:Exit->Act->World->Prop} (hx:∀v,aW g w A x v->next (a.put o.dst v) w):o.wp P a w next Q:=by
 obtain⟨v,h1,h2⟩:=h cU V A hA g a w S hS hT hn;unfold Oper.wp;rw[h2];exact hx v h1
def kZ (P:Program) (all:Array Oper) (ow:Nat->Bool) (ws cs ns:List Nat) (K:St->Ts->Prop):Nat->List Oper->St->Ts->Prop
 |_,[],s,L=>K s L
 |i,o::rest,s,L=>iA all s o
   ((i∈cs/\lp P s L o fun x L'=>kZ P all ow ws cs ns K (i+1) rest (s.put o.dst x s.V s.A) L')\/
   (i∉cs/\i∈ns/\∃x,bW P s L o x/\kZ P all ow ws cs ns K (i+1) rest (s.put o.dst x s.V s.A) L)\/
   (i∉cs/\i∉ns/\bJ P s (ow i) o fun x V A=>(i∈ws\/(V=s.V/\A=s.A))/\kZ P all ow ws cs ns K (i+1) rest (s.put o.dst x V A) L))
   (kZ P all ow ws cs ns K (i+1) rest (s.put o.dst (.c .undef) s.V s.A) L)
def F4 (P:Program) (all:Array Oper) (ow:Bool) (ns:List Nat) (L:Ts) (j:Nat) (o:Oper) (s s':St):Prop:=
 iA all s o True True/\((gw all s o=true/\((j∈ns/\∃x,s'=s.put o.dst x s.V s.A/\bW P s L o x)\/(j∉ns/\JN P ow o s s')))\/(gw all s o=false/\s'=s.put o.dst (.c .undef) s.V s.A))
theorem mj {ow:Nat->Bool} {cs ns:List Nat} {K:St->Ts->Prop}:∀(ops:List Oper) (i:Nat) (s:St) (L:Ts),kZ P all ow ws cs ns K i ops s L->
  ∃(τ:Nat->St) (m:Nat),m<=ops.length/\τ 0=s/\(∀(j:Nat) o,j<m->ops[j]? =some o->F4 P all (ow (i+j)) ns L (i+j) o (τ j) (τ (j+1))/\M6 ws (i+j) o (τ j) (τ (j+1)))/\
   ((m=ops.length/\K (τ m) L)\/(i+m∈cs/\∃o,ops[m]? =some o/\iA all (τ m) o True True/\gw all (τ m) o=true/\lp P (τ m) L o fun x L'=>kZ P all ow ws cs ns K (i+m+1) (ops.drop (m+1)) ((τ m).put o.dst x (τ m).V (τ m).A) L'))
 |[],i,s,L,h=>⟨fun _=>s,0,acD _,rfl,fun j o hj=>by omega,.inl ⟨rfl,h⟩⟩
 |o::rest,i,s,L,h=>by
  have step:∀s',F4 P all (ow i) ns L i o s s'->M6 ws i o s s'->kZ P all ow ws cs ns K (i+1) rest s' L->∃(τ:Nat->St) (m:Nat),m<=(o::rest).length/\τ 0=s/\(∀(j:Nat) o',j<m->(o::rest)[j]? =some o'->F4 P all (ow (i+j)) ns L (i+j) o' (τ j) (τ (j+1))/\M6 ws (i+j) o' (τ j) (τ (j+1)))/\
   ((m=(o::rest).length/\K (τ m) L)\/(i+m∈cs/\∃o',(o::rest)[m]? =some o'/\iA all (τ m) o' True True/\gw all (τ m) o'=true/\lp P (τ m) L o' fun x L'=>kZ P all ow ws cs ns K (i+m+1) ((o::rest).drop (m+1)) ((τ m).put o'.dst x (τ m).V (τ m).A) L')):=by
   intro s' h1 h2 h3;obtain⟨τ,m,k1,k2,k3,k4⟩:=mj rest (i+1) _ L h3;refine⟨fun j=>match j with|0=>s|j+1=>τ j,m+1,by simp;omega,rfl,fun j o' hj ho=>?_,?_⟩
   ·cases j with
    |zero=>
     simp at ho;subst ho;show F4 P all (ow (i+0)) ns L (i+0) o s (τ 0)/\M6 ws (i+0) o s (τ 0);rw[k2];exact⟨h1,h2⟩
    |succ j=>
     simp at ho;have:=k3 j o' (by omega) ho;rwa[show i+1+j=i+(j+1) by omega]at this
   ·rcases k4 with⟨k5,k6⟩|⟨k5,o',k6,k7,k8,k9⟩
    ·exact .inl ⟨by simp[k5],k6⟩
    ·refine .inr ⟨by rw[show i+(m+1)=i+1+m by omega];exact k5,o',by simpa using k6,k7,k8,?_⟩;rw[show i+(m+1)+1=i+1+m+1 by omega];exact k9
  obtain⟨hg,aX⟩:=fT h;rcases hg with⟨g1,h|h|h⟩|⟨g1,h⟩
  ·obtain⟨h1,h2⟩:=h;exact⟨fun _=>s,0,by simp,rfl,fun j o hj=>by omega,.inr ⟨h1,o,rfl,aX,g1,h2⟩⟩
  ·obtain⟨h1,h2,x,h3,h4⟩:=h;exact step _ ⟨aX,.inl ⟨g1,.inl ⟨h2,x,rfl,h3⟩⟩⟩ ⟨x,_,_,rfl,.inr ⟨rfl,rfl⟩⟩ h4
  ·obtain⟨h1,h2,h3⟩:=h;obtain⟨x,V,A,⟨h3,h4⟩,h5⟩:=gd h3;exact step _ ⟨aX,.inl ⟨g1,.inr ⟨h2,x,V,A,rfl,h5⟩⟩⟩ ⟨x,V,A,rfl,h3⟩ h4
  ·exact step _ ⟨aX,.inr ⟨g1,rfl⟩⟩ ⟨_,_,_,rfl,.inr ⟨rfl,rfl⟩⟩ h
set_option maxHeartbeats 2000000 in
theorem F5 {ns:List Nat} {ow:Nat->Bool} (hd:ey all ws=true) (fc:da n all.toList=true) {σ:Nat->St} {c:Nat} (hT:Fz all ws σ c) {af:Array Bool} {k0:Nat} (hD:DS all ws σ n w g af k0 g a w) (gv:k0<=c) (nM:∀i,af[i]? =some true->i<c)
  {j:Nat} (hj:j∈Region.ready .any all af) (En:j<=c) {o:Oper} (ho:all[j]? =some o) {next:Act->World->Prop} {Q:Exit->Act->World->Prop}:
  (j<c->Jb w0 g0 X L S g w->F4 P all (ow j) ns L j o (σ j) (σ (j+1))->(∀k1 v g' w',k1<=c->DS all ws σ n w' g' (af.setIfInBounds j true) k1 g' (a.put o.dst v) w'->Fr w g w' g'->next (a.put o.dst v) w')->wpOp P all Q j next a w)/\
  (j=c->cS o.op=false->j∉ws->Jb w0 g0 X L S g w->iA all (σ j) o True True->gw all (σ j) o=true->(∀K:AV->Ts->Prop,lp P (σ j) L o K->(∀x L' S' v g' w',K x L'->(∀σ':Nat->St,(∀i,i<=c->σ' i=σ i)->σ' (c+1)=(σ c).put o.dst x (σ c).V (σ c).A->DS all ws σ' n w' g' (af.setIfInBounds j true) k0 g' (a.put o.dst v) w')->Jb w0 g0 X L' S' g' w'->next (a.put o.dst v) w')->wpOp P all Q j next a w)):=by
 simp only[ey,acz,acf]at hd;obtain⟨⟨gR,jE⟩,o5⟩:=hd;have cZ:∀(j:Nat) o,all[j]? =some o->(o,j)∈all.toList.zipIdx:=fun j o h=>by
  rw[acm];exact⟨j,by simp[acs,h]⟩
 have c8:∀(j:Nat) o,all[j]? =some o->∀e∈o.after,Region.binds .any e=true->e.on<j:=fun j o h e he hb=>by
  have:=gR _ (cZ j o h) e (acK.2 he);simpa[hb]using this
 have b7:∀(i j:Nat) oi oj,all[i]? =some oi->all[j]? =some oj->i<j->bu all ws (bc all.toList []) oi oj i j=true:=fun i j oi oj h1 h2 ay=>by
  have:=jE _ (cZ j oj h2) _ (cZ i oi h1);simpa[ay]using this
 have uE:∀(j:Nat) o,all[j]? =some o->j∈ws->cS o.op=false:=fun j o h hj=>by
  have:=o5 _ (cZ j o h);simpa[hj]using this
 have fP:∀(i j:Nat) oi oj d,all[i]? =some oi->all[j]? =some oj->i<j->oi.dst=some d->oj.dst≠some d:=fun i j oi oj d h1 h2 ay h3 h4=>by
  have:=b7 i j oi oj h1 h2 ay;simp[bu,h3,h4]at this
 have re:∀(i j:Nat) oi oj d,all[i]? =some oi->all[j]? =some oj->oi.dst=some d->oj.dst=some d->i=j:=fun i j oi oj d h1 h2 h3 h4=>by
  rcases acF i j with h|h|h
  ·exact absurd h4 (fP i j oi oj d h1 h2 h h3)
  ·exact h
  ·exact absurd h3 (fP j i oj oi d h2 h1 h h4)
 have zG:∀(j:Nat) o d,all[j]? =some o->o.dst=some d->d<n:=fun j o d h1 h2=>by
  have:=acf.1 fc o (by rw[acK];exact Array.mem_of_getElem? h1);simpa[h2]using this
 obtain⟨Gs,_,A7⟩:=fe all.toList []
 have mX:∀{af:Array Bool},(∀(i:Nat) o,all[i]? =some o->af[i]? =some true->∀e∈o.after,Region.binds .any e=true->af[e.on]? =some true)->
   ∀(i:Nat) o,all[i]? =some o->(∀e∈o.after,Region.binds .any e=true->af[e.on]? =some true)->∀k,((bc all.toList []).getD i 0).testBit k=true->af[k]? =some true:=by
  intro af kS i;induction i using acH with
  |_ i ih=>
   intro o ho cL k hk;obtain⟨pre,h1,h2,h3⟩:=A7 i o (by simpa using ho);simp only[acq,acE]at h1 h3;have h4:(bc all.toList []).getD i 0=mW pre o:=by simp[List.getD,h3]
   rw[h4]at hk;obtain⟨e,he,hb,h5⟩:=fO hk;have s4:=cL e he hb;rcases h5 with rfl|h5
   ·exact s4
   ·have ay:=c8 i o ho e he hb;have h6:pre.getD e.on 0=(bc all.toList []).getD e.on 0:=by simp only[List.getD,h2 e.on (by omega)]
    rw[h6]at h5;have fB:e.on<all.size:=by have:=(acI.1 ho).1;omega
    have uF:all[e.on]? =some all[e.on]:=acJ fB;exact ih e.on ay _ uF (kS e.on _ uF s4) k h5
 have I5:=hT.le;have oV:=hT.Oo;have oW:=hT.Oq re;have tC:=hT.VA;obtain⟨mY,o2,mJ,cL⟩:=mem_ready.1 hj;obtain rfl:o=o2:=by rw[ho]at mJ;exact Option.some.inj mJ
 have mZ:=ep mY;have rG:j<all.size:=(acI.1 ho).1;have jk:j<af.size:=by rw[hD.eG];exact rG
 have cE:∀e∈o.after,Region.binds .any e=true->af[e.on]? =some true:=fun e he hb=>cK.1 (cL e he hb)
 have cw:∀k,((bc all.toList []).getD j 0).testBit k=true->af[k]? =some true:=mX hD.closed j o ho cE;have b4:∀(i:Nat) oi,all[i]? =some oi->af[i]? =some true->((bc all.toList []).getD i 0).testBit j=false:=fun i oi a7 bF=>by
  cases hb:((bc all.toList []).getD i 0).testBit j with
  |false=>rfl
  |true=>have:=mX hD.closed i oi a7 (hD.closed i oi a7 bF) j hb;rw[mZ]at this;simp at this
 have jJ:∀t∈o.looksAt all,∀x,look (σ j).fr t=some x->∃u,a.tmps[t]? =some u/\aW g w (σ k0).A x u:=by
  intro t ht x hx;by_cases hex:∃(i:Nat) (oi:Oper),i<j/\all[i]? =some oi/\oi.dst=some t
  ·obtain⟨i,oi,lr,a7,cn⟩:=hex;rw[oW j i oi t (by omega) lr a7 cn]at hx;have hp:=b7 i j oi o a7 ho lr;have tD:dC all oi o=true:=by simp only[dC,cn];simpa using ht
   simp only[bu,tD,acz,acA]at hp;have hb:((bc all.toList []).getD j 0).testBit i=true:=by simpa using hp.2
   exact hD.fU i oi t x a7 (cw i hb) cn hx
  ·rw[oV j t (by omega) (fun i oi lr a7 cn=>hex ⟨i,oi,lr,a7,cn⟩)]at hx;refine hD.fV t x (fun i oi a7 bF cn=>?_) hx;rcases acF i j with h|h|h
   ·exact hex ⟨i,oi,h,a7,cn⟩
   ·subst h;rw[mZ]at bF;simp at bF
   ·have hp:=b7 j i o oi ho a7 h;have tD:dC all oi o=true:=by simp only[dC,cn];simpa using ht
    have hb:=b4 i oi a7 bF;simp only[bu,tD,hb,acz,acA]at hp;simp at hp
 let cU:=(σ j).fr.filter fun p=>(o.looksAt all).contains p.1
 have ld:∀t,look cU t=if(o.looksAt all).contains t then look (σ j).fr t else none:=fun t=>e9 (fun t=>(o.looksAt all).contains t) (σ j).fr t
 have hS:∀(V:List (List CV)),iC g w ⟨cU,V,(σ k0).A⟩ a:=fun V t x hx=>by
  simp only[ld]at hx;split at hx
  ·rename_i hc;exact jJ t (by simpa using hc) x hx
  ·cases hx
 have gG:∀(V V':List (List CV)) (A A':List bz),∀x∈o.op.operands.toList,bH ⟨cU,V,A⟩ x=bH ⟨(σ j).fr,V',A'⟩ x:=fun V V' A A' x hx=>by
  cases x with
  |tmp t=>
   simp only[bH,ld];rw[if_pos];simp only[Oper.looksAt,acx,decide_eq_true_eq,aci,List.mem_filterMap];exact .inl ⟨.tmp t,hx,rfl⟩
  |_=>rfl
 have gX:Rp n w g ⟨cU,(σ k0).V,(σ k0).A⟩ g a w:=⟨hD.inv,hD.fr,hD.size,hD.defers,hS _⟩;have Am:iA all (σ j) o True True->Region.wanted o (yielded all a.tmps)=gw all (σ j) o:=by
  intro uA;have oX:iA all ⟨cU,(σ k0).V,(σ k0).A⟩ o True True/\gw all ⟨cU,(σ k0).V,(σ k0).A⟩ o=gw all (σ j) o:=by
   unfold iA gw at*;cases nQ:o.guard with
   |none=>simp
   |some jw=>
    obtain⟨q,want⟩:=jw;simp only[nQ]at uA⊢;obtain⟨oq,h1,h2⟩:=cI uA;obtain⟨t,h3,h4⟩:=cI h2;have:look cU t=look (σ j).fr t:=by
     rw[ld,if_pos];simp only[Oper.looksAt,nQ,acx,decide_eq_true_eq,aci];exact .inr (by simp[h1,h3])
    simp only[h1,bU,h3,acM,this]at h4⊢;exact⟨h4,trivial⟩
  rw[<-oX.2];have h1:=oX.1;unfold iA at h1;unfold gw;cases nQ:o.guard with
  |none=>simp[Region.wanted,nQ]
  |some jw=>
   obtain⟨q,want⟩:=jw;simp only[nQ]at h1⊢;obtain⟨oq,h2,h3⟩:=cI h1;obtain⟨t,h4,h5⟩:=cI h3;obtain⟨x,h6,h7⟩:=cI h5;obtain⟨h8,h9⟩:=jI gX h2 h4 h6;simp only[h2,acM,h4,h6];split at h7
   ·rename_i b;simp[Region.wanted,nQ,h8 b rfl]
   ·simp[Region.wanted,nQ,h9 rfl]
   ·exact h7.elim
 have bS:∀i,(af.setIfInBounds j true)[i]? =if i=j then some true else af[i]? :=fun i=>by
  by_cases e:i=j
  ·subst e;simp[jk]
  ·rw[if_neg e,acL (fun h=>e h.symm)]
 have cR:∀(σ':Nat->St) (k1:Nat) (x:AV) (v:Value) (w':World) (g':Gh),(∀i,i<=c->σ' i=σ i)->look (σ' (j+1)).fr=look ((σ j).put o.dst x [] []).fr->aW g' w' (σ k1).A x v->Inv g' w' (σ k1).V (σ k1).A->Ext g w (σ k0).A g' w' (σ k1).A->AI w' g'->k1<=c->
   (∀i∈ws,i<all.size->((af.setIfInBounds j true)[i]? =some true↔i<k1))->DS all ws σ' n w' g' (af.setIfInBounds j true) k1 g' (a.put o.dst v) w':=by
  intro σ' k1 x v w' g' hσ Cu x8 hI hx hF hk Fb;have iX:∀t u,o.dst≠some t->a.tmps[t]? =some u->(a.put o.dst v).tmps[t]? =some u:=fun t u di hu=>by
   cases qZ:o.dst with
   |none=>exact hu
   |some d=>
    simp only[Act.put];rw[acL (fun e=>di (by rw[qZ,e]))];exact hu
  refine⟨by rw[hσ k1 hk];exact hI,.refl hF,?_,?_,by simp[hD.eG],fun i oi t y a7 bF cn hy=>?_,fun t y fz hy=>?_,Fb,by omega,fun i oi a7 bF e he hb=>?_⟩
  ·cases o.dst<;>simp[Act.put,hD.size]
  ·cases o.dst<;>simp[Act.put,hD.defers]
  ·rw[hσ k1 hk];rw[bS]at bF;by_cases e:i=j
   ·subst e;obtain rfl:o=oi:=by rw[ho]at a7;exact Option.some.inj a7
    rw[Cu]at hy;simp only[St.put,cn,look,if_true]at hy;cases hy
    refine⟨v,?_,x8⟩;have:t<a.tmps.size:=by rw[hD.size];exact zG i o t ho cn
    simp[Act.put,cn,this]
   ·rw[if_neg e]at bF;rw[hσ (i+1) (nM i bF)]at hy;obtain⟨u,h1,h2⟩:=hD.fU i oi t y a7 bF cn hy;exact⟨u,iX t u (fun h=>e (re i j oi o t a7 ho cn h)) h1,aW.ext hx h2⟩
  ·rw[hσ k1 hk];rw[hσ 0 (acG _)]at hy;have di:o.dst≠some t:=fz j o ho (by rw[bS,if_pos rfl]);obtain⟨u,h1,h2⟩:=hD.fV t y (fun i oi a7 bF=>fz i oi a7 (by
    rw[bS];by_cases e:i=j
    ·rw[if_pos e]
    ·rw[if_neg e];exact bF)) hy
   exact⟨u,iX t u di h1,aW.ext hx h2⟩
  ·rw[bS]at bF⊢;have:af[e.on]? =some true:=by
    by_cases e':i=j
    ·subst e';obtain rfl:o=oi:=by rw[ho]at a7;exact Option.some.inj a7
     exact cE e he hb
    ·rw[if_neg e']at bF;exact hD.closed i oi a7 bF e he hb
   by_cases e':e.on=j
   ·rw[if_pos e']
   ·rw[if_neg e'];exact this
 have iu:j∉ws->∀i∈ws,i<all.size->((af.setIfInBounds j true)[i]? =some true↔i<k0):=fun eu i hi b8=>by
  rw[bS,if_neg (fun e=>eu (by rw[<-e];exact hi))];exact hD.eo i hi b8
 have kV:cS o.op=false->(σ j).V=(σ k0).V/\(σ j).A=(σ k0).A:=by
  intro fI;rcases Nat.le_total j k0 with h|h
  ·have:=tC k0 j h gv (fun i h1 h2 h3=>by
    have b8:i<all.size:=by omega
    have bF:=(hD.eo i h3 b8).2 h2;have a7:all[i]? =some all[i]:=acJ b8;rcases acC j i with h4|h4
    ·have hp:=b7 j i o _ ho a7 h4;have hb:=b4 i _ a7 bF;simp only[bu,hb,acz,acA]at hp;simp[h3,fI,-cS]at hp
    ·obtain rfl:i=j:=by omega
     rw[mZ]at bF;simp at bF)
   exact⟨this.1.symm,this.2.symm⟩
  ·exact tC j k0 h En (fun i h1 h2 h3=>by
    have b8:i<all.size:=by omega
    have a7:all[i]? =some all[i]:=acJ b8;have hp:=b7 i j _ o a7 ho h2;simp only[bu,acz,acA]at hp;have hb:((bc all.toList []).getD j 0).testBit i=true:=by
     rcases hp.2 with h4|h4
     ·simp[h3,fI,-cS]at h4
     ·exact h4
    have:=(hD.eo i h3 b8).1 (cw i hb);omega)
 unfold wpOp;simp only[ho];refine⟨fun lX hJ jG ih=>?_,fun lX fI eu hJ uA aX K iD ih=>?_⟩
 ·obtain⟨uA,jG⟩:=jG;obtain⟨x2,V2,A2,q1,q2⟩:=hT.tr j o lX ho;rcases jG with⟨aX,jG|⟨R7,jG⟩⟩|⟨Vk,jG⟩
  ·-- a look
   obtain⟨R7,x,h2,h3⟩:=jG;rw[Am uA,if_pos aX];have o0:look (σ (j+1)).fr=look ((σ j).put o.dst x [] []).fr:=by rw[h2];rfl
   by_cases eu:j∈ws
   ·refine .inl (h3.wp (V:=(σ k0).V) (gG _ _ _ _) (hS _) hJ.nF hJ.nd fun v h6=>?_);by_cases hs:cS o.op=true
    ·have:=uE j o ho eu;rw[hs]at this;simp at this
    ·have fI:cS o.op=false:=by simpa[-cS]using hs
     obtain⟨kJ,gn⟩:=kV fI;have e1:(σ (j+1)).V=(σ k0).V:=by rw[h2];exact kJ
     have e2:(σ (j+1)).A=(σ k0).A:=by rw[h2];exact gn
     refine ih (j+1) v g w lX (cR σ (j+1) x v w g (fun _ _=>rfl) o0 (by rw[e2];exact h6) (by rw[e1,e2];exact hD.inv) (by rw[e2];exact .refl _ _ _) hD.fr.now lX (fun i hi b8=>?_)) (.refl hD.fr.now);have a7:all[i]? =some all[i]:=acJ b8;rw[bS];by_cases e:i=j
     ·subst e;simp
     ·rw[if_neg e];constructor
      ·intro bF;rcases acC j i with h|h
       ·have hp:=b7 j i o _ ho a7 h;have hb:=b4 i _ a7 bF;simp only[bu,hb,acz,acA]at hp;simp[hi,fI,-cS]at hp
       ·omega
      ·intro ay;have hp:=b7 i j _ o a7 ho (by omega);simp only[bu,acz,acA]at hp;rcases hp.2 with h|h
       ·simp[hi,fI,-cS]at h
       ·exact cw i h
   ·refine .inl (h3.wp (V:=(σ k0).V) (gG _ _ _ _) (hS _) hJ.nF hJ.nd fun v h6=>?_);exact ih k0 v g w gv (cR σ k0 x v w g (fun _ _=>rfl) o0 h6 hD.inv (.refl _ _ _) hD.fr.now gv (iu eu)) (.refl hD.fr.now)
  ·rw[Am uA,if_pos aX];refine .inl ?_;obtain⟨x,V,A,h2,h3⟩:=jG;have o0:look (σ (j+1)).fr=look ((σ j).put o.dst x [] []).fr:=by rw[h2];rfl
   by_cases hs:cS o.op=true
   ·-- slots alone
    have eu:j∉ws:=fun h=>by have:=uE j o ho h;rw[hs]at this;simp at this
    have h4:bJ P ⟨cU,(σ k0).V,(σ k0).A⟩ (ow j) o (fun y V' A'=>y=x/\V'=(σ k0).V/\A'=(σ k0).A):=nO (s:=σ j) (s':=⟨cU,(σ k0).V,(σ k0).A⟩) hs (gG _ _ _ _) h3 ⟨rfl,rfl,rfl⟩;obtain⟨y,V',A',⟨rfl,rfl,rfl⟩,h5⟩:=dj gX.inv gX.fr gX.slot h4;exact h5 _ _ fun v w' g' h6 h7 h8 h9=>ih k0 v g' w' gv (cR σ k0 y v w' g' (fun _ _=>rfl) o0 h6 h7 h8 h9.now gv (iu eu)) h9
   ·have fI:cS o.op=false:=by simpa[-cS]using hs
    obtain⟨kJ,gn⟩:=kV fI;have h4:bJ P ⟨cU,(σ k0).V,(σ k0).A⟩ (ow j) o (fun y V' A'=>y=x/\V'=V/\A'=A):=by
     rw[<-kJ,<-gn];exact ej (fr:=(σ j).fr) (gG _ _ _ _) (h3 _ ⟨rfl,rfl,rfl⟩)
    obtain⟨y,V',A',⟨rfl,rfl,rfl⟩,h5⟩:=dj gX.inv gX.fr gX.slot h4;have s5:(σ (j+1)).V=V':=by rw[h2];rfl
    have jq:(σ (j+1)).A=A':=by rw[h2];rfl
    by_cases eu:j∈ws
    ·refine h5 _ _ fun v w' g' h6 h7 h8 h9=>ih (j+1) v g' w' lX (cR σ (j+1) y v w' g' (fun _ _=>rfl) o0 (by rw[jq];exact h6) (by rw[s5,jq];exact h7) (by rw[jq];exact h8) h9.now lX (fun i hi b8=>?_)) h9
     have a7:all[i]? =some all[i]:=acJ b8;rw[bS];by_cases e:i=j
     ·subst e;simp
     ·rw[if_neg e];constructor
      ·intro bF;rcases acC j i with h|h
       ·have hp:=b7 j i o _ ho a7 h;have hb:=b4 i _ a7 bF;simp only[bu,hb,acz,acA]at hp;simp[hi,fI,-cS]at hp
       ·omega
      ·intro ay;have hp:=b7 i j _ o a7 ho (by omega);simp only[bu,acz,acA]at hp;rcases hp.2 with h|h
       ·simp[hi,fI,-cS]at h
       ·exact cw i h
    ·obtain⟨x2,V2,A2,q1,q2⟩:=hT.tr j o lX ho;rcases q2 with q2|⟨q2,q3⟩
     ·exact absurd q2 eu
     have qa:(σ (j+1)).V=(σ j).V:=by rw[q1];exact q2
     have mJ:(σ (j+1)).A=(σ j).A:=by rw[q1];exact q3
     refine h5 _ _ fun v w' g' h6 h7 h8 h9=>ih k0 v g' w' gv (cR σ k0 y v w' g' (fun _ _=>rfl) o0 ?_ ?_ ?_ h9.now gv (iu eu)) h9
     ·rw[<-gn,<-mJ,jq];exact h6
     ·rw[<-kJ,<-gn,<-qa,<-mJ,s5,jq];exact h7
     ·have e1:(σ k0).A=A':=by rw[<-gn,<-mJ,jq]
      rw[e1]at h8⊢;exact h8
  ·rw[Am uA,if_neg (by rw[Vk];simp)];have o0:look (σ (j+1)).fr=look ((σ j).put o.dst (.c .undef) [] []).fr:=by rw[jG];rfl
   by_cases eu:j∈ws
   ·by_cases hs:cS o.op=true
    ·have:=uE j o ho eu;rw[hs]at this;simp at this
    ·have fI:cS o.op=false:=by simpa[-cS]using hs
     obtain⟨kJ,gn⟩:=kV fI;have e1:(σ (j+1)).V=(σ k0).V:=by rw[jG];exact kJ
     have e2:(σ (j+1)).A=(σ k0).A:=by rw[jG];exact gn
     refine ih (j+1) undef g w lX (cR σ (j+1) (.c .undef) undef w g (fun _ _=>rfl) o0 rfl (by rw[e1,e2];exact hD.inv) (by rw[e2];exact .refl _ _ _) hD.fr.now lX (fun i hi b8=>?_)) (.refl hD.fr.now);have a7:all[i]? =some all[i]:=acJ b8;rw[bS];by_cases e:i=j
     ·subst e;simp
     ·rw[if_neg e];constructor
      ·intro bF;rcases acC j i with h|h
       ·have hp:=b7 j i o _ ho a7 h;have hb:=b4 i _ a7 bF;simp only[bu,hb,acz,acA]at hp;simp[hi,fI,-cS]at hp
       ·omega
      ·intro ay;have hp:=b7 i j _ o a7 ho (by omega);simp only[bu,acz,acA]at hp;rcases hp.2 with h|h
       ·simp[hi,fI,-cS]at h
       ·exact cw i h
   ·exact ih k0 undef g w gv (cR σ k0 (.c .undef) undef w g (fun _ _=>rfl) o0 rfl hD.inv (.refl _ _ _) hD.fr.now gv (iu eu)) (.refl hD.fr.now)
 ·rw[Am uA,if_pos aX];refine .inl ?_;subst lX;have Ot:rl n w0 g0 X ⟨cU,(σ k0).V,(σ k0).A⟩ L S g a w:=⟨hD.inv,hJ.fr,hD.size,hD.defers,hS _,hJ.nF,hJ.nd,hJ.out⟩;obtain⟨kJ,gn⟩:=kV fI;refine iD cU _ _ (gG _ _ _ _) n w0 g0 X S g a w Ot _ _ ?_;rintro x L' S' v w' g' hk h6 h7 h8 h9 cO eE fS;refine ih x L' S' v g' w' hk (fun σ' hσ hn=>cR σ' k0 x v w' g' hσ (by rw[hn];rfl) h6 h7 h8 h9.now gv (iu eu)) ⟨h9,cO,eE,fS⟩
def lN (all:Array Oper) (ws cs ns:List Nat):Bool:=
 let l:=all.toList.zipIdx
 let ms:=bc all.toList []
 (cs.all fun c=> !ws.contains c &&(l.all fun(_,j)=> !(decide (c<j))||(ms.getD j 0).testBit c)&&(ns.all fun j=> !(decide (j<c))||(ms.getD c 0).testBit j))&&(l.all fun(o,j)=> !cs.contains j|| !cS o.op)
set_option maxHeartbeats 2000000 in
theorem u9 {cs ns:List Nat} {ow:Nat->Bool} {K:St->Ts->Prop} {Q:Exit->Act->World->Prop} (hd:ey all ws=true) (hc:lN all ws cs ns=true) (fc:da n all.toList=true)
  (hQ:∀s' L' S' g' a' w',K s' L'->rl n w0 g0 X s' L' S' g' a' w'->Q .normal a' w'):
  ∀(fuel:Nat) (σ:Nat->St) (c:Nat) (L:Ts) (S:List Nat) (af:Array Bool) (k0:Nat) (g:Gh) (a:Act) (w:World),((acb all.size).filter fun i=> !af.getD i true).length<=fuel->Fz all ws σ c->k0<=c->
   (∀(j:Nat) o,j<c->all[j]? =some o->af[j]? ≠some true->F4 P all (ow j) ns L j o (σ j) (σ (j+1)))->(∀i,af[i]? =some true->i<c)->
   ((c=all.size/\K (σ c) L)\/(c∈cs/\∃o,all[c]? =some o/\iA all (σ c) o True True/\gw all (σ c) o=true/\lp P (σ c) L o fun x L'=>kZ P all ow ws cs ns K (c+1) (all.toList.drop (c+1)) ((σ c).put o.dst x (σ c).V (σ c).A) L'))->
   DS all ws σ n w g af k0 g a w->Jb w0 g0 X L S g w->wpAny P .any all Q fuel af a w:=by
 have I3:=hd;simp only[ey,acz,acf]at hd;obtain⟨⟨gR,jE⟩,o5⟩:=hd;have cZ:∀(j:Nat) o,all[j]? =some o->(o,j)∈all.toList.zipIdx:=fun j o h=>by
  rw[acm];exact⟨j,by simp[acs,h]⟩
 have c8:∀(j:Nat) o,all[j]? =some o->∀e∈o.after,Region.binds .any e=true->e.on<j:=fun j o h e he hb=>by
  have:=gR _ (cZ j o h) e (acK.2 he);simpa[hb]using this
 have b7:∀(i j:Nat) oi oj,all[i]? =some oi->all[j]? =some oj->i<j->bu all ws (bc all.toList []) oi oj i j=true:=fun i j oi oj h1 h2 ay=>by
  have:=jE _ (cZ j oj h2) _ (cZ i oi h1);simpa[ay]using this
 have uE:∀(j:Nat) o,all[j]? =some o->j∈ws->cS o.op=false:=fun j o h hj=>by
  have:=o5 _ (cZ j o h);simpa[hj]using this
 have fP:∀(i j:Nat) oi oj d,all[i]? =some oi->all[j]? =some oj->i<j->oi.dst=some d->oj.dst≠some d:=fun i j oi oj d h1 h2 ay h3 h4=>by
  have:=b7 i j oi oj h1 h2 ay;simp[bu,h3,h4]at this
 have re:∀(i j:Nat) oi oj d,all[i]? =some oi->all[j]? =some oj->oi.dst=some d->oj.dst=some d->i=j:=fun i j oi oj d h1 h2 h3 h4=>by
  rcases acF i j with h|h|h
  ·exact absurd h4 (fP i j oi oj d h1 h2 h h3)
  ·exact h
  ·exact absurd h3 (fP j i oj oi d h2 h1 h h4)
 simp only[lN,acz,acf]at hc;obtain⟨vV,Ou⟩:=hc;have JO:∀c∈cs,c∉ws:=fun c h=>by simpa using(vV c h).1.1
 have Ov:∀c∈cs,∀o,all[c]? =some o->cS o.op=false:=fun c h o ho=>by
  have:=Ou _ (cZ c o ho);simpa[h,-cS]using this
 have I1:∀c∈cs,∀(j:Nat) o,all[j]? =some o->c<j->((bc all.toList []).getD j 0).testBit c=true:=fun c h j o ho ay=>by
  have:=(vV c h).1.2 _ (cZ j o ho);simpa[ay]using this
 have J1:∀c∈cs,∀j∈ns,j<c->((bc all.toList []).getD c 0).testBit j=true:=fun c h j hj ay=>by
  have:=(vV c h).2 j hj;simpa[ay]using this
 have pJ:∀{af:Array Bool},Region.ready .any all af=[]->af.size=all.size->∀i,i<all.size->af[i]? =some true:=by
  intro af hr sr i;induction i using acH with
  |_ i ih=>
   intro hi;have ho:all[i]? =some all[i]:=acJ hi;have bF:i<af.size:=by omega
   cases hl:af[i]with
   |true=>rw[acJ bF,hl]
   |false=>
    exfalso
    have:i∈Region.ready .any all af:=mem_ready.2 ⟨by simp[bF,hl],_,ho,fun e he hb=>cK.2 (ih e.on (c8 i _ ho e he hb) (by have:=c8 i _ ho e he hb;omega))⟩;rw[hr]at this;simp at this
 have lS:∀{σ:Nat->St} {c:Nat} {L:Ts} {S:List Nat} {af:Array Bool} {k0:Nat} {g:Gh} {a:Act} {w:World},Fz all ws σ c->(∀i,af[i]? =some true->i<c)->
   ((c=all.size/\K (σ c) L)\/(c∈cs/\∃o,all[c]? =some o/\iA all (σ c) o True True/\gw all (σ c) o=true/\lp P (σ c) L o fun x L'=>kZ P all ow ws cs ns K (c+1) (all.toList.drop (c+1)) ((σ c).put o.dst x (σ c).V (σ c).A) L'))->
   DS all ws σ n w g af k0 g a w->Jb w0 g0 X L S g w->Region.ready .any all af=[]->Q .normal a w:=by
  intro σ c L S af k0 g a w hT nM hK hD hJ hr;have dm:=pJ hr hD.eG;rcases hK with⟨rfl,hK⟩|⟨rK,o,ho,_⟩
  ·exact hQ _ _ _ _ _ _ hK (yZ I3 hT hD dm hJ)
  ·have b8:=(acI.1 ho).1;have:=nM c (dm c b8);omega
 intro fuel;induction fuel with
 |zero=>
  intro σ c L S af k0 g a w hf hT gv ru nM hK hD hJ;have la:Region.ready .any all af=[]:=by
   have h0:((acb all.size).filter fun i=> !af.getD i true)=[]:=List.eq_nil_of_length_eq_zero (by omega);rcases hr:Region.ready .any all af with _|⟨j,r⟩
   ·rfl
   ·have hj:j∈Region.ready .any all af:=by rw[hr];simp
    obtain⟨h1,o,h2,_⟩:=mem_ready.1 hj;have:j∈((acb all.size).filter fun i=> !af.getD i true):=by
     rw[List.mem_filter,ack];exact⟨(acI.1 h2).1,by simp[h1]⟩
    rw[h0]at this;simp at this
  exact⟨la,lS hT nM hK hD hJ la⟩
 |succ fuel ih=>
  intro σ c L S af k0 g a w hf hT gv ru nM hK hD hJ;refine⟨fun hr=>lS hT nM hK hD hJ hr,fun j hj=>?_⟩;obtain⟨mY,o,ho,cL⟩:=mem_ready.1 hj;have mZ:=ep mY;have rG:j<all.size:=(acI.1 ho).1;have jk:j<af.size:=by rw[hD.eG];exact rG
  have cE:∀e∈o.after,Region.binds .any e=true->af[e.on]? =some true:=fun e he hb=>cK.1 (cL e he hb)
  have bS:∀i,(af.setIfInBounds j true)[i]? =if i=j then some true else af[i]? :=fun i=>by
   by_cases e:i=j
   ·subst e;simp[jk]
   ·rw[if_neg e,acL (fun h=>e h.symm)]
  have c5:((acb all.size).filter fun i=> !(af.setIfInBounds j true).getD i true).length<=fuel:=by
   have ay:((acb all.size).filter fun i=> !(af.setIfInBounds j true).getD i true).length<((acb all.size).filter fun i=> !af.getD i true).length:=by
    have gF:∀i,(!(af.setIfInBounds j true).getD i true)=true->(!af.getD i true)=true:=fun i h=>by
     by_cases e:i=j
     ·subst e;simp[jk]at h
     ·have:(af.setIfInBounds j true).getD i true=af.getD i true:=by
       simp only[Array.getD_eq_getD_getElem?,bS,if_neg e]
      rwa[this]at h
    exact filter_lt gF (ack.2 rG) (by simp[mY]) (by simp[jk])
   omega
  have En:j<=c:=by
   rcases hK with⟨rfl,_⟩|⟨rK,oc,Eo,_⟩
   ·omega
   ·rcases acC c j with h|h
    ·have:=nM c (od c8 hD.closed j o ho cE c (I1 c rK j o ho h));omega
    ·exact h
  obtain⟨one1,one2⟩:=F5 (ns:=ns) (w0:=w0) (g0:=g0) (X:=X) (L:=L) (S:=S) (ow:=ow) I3 fc hT hD gv nM hj En ho (next:=wpAny P .any all Q fuel (af.setIfInBounds j true)) (Q:=Q);rcases Nat.lt_or_eq_of_le En with ay|rfl
  ·refine one1 ay hJ (ru j o ay ho (by rw[mZ];simp)) fun k1 v g' w' jn Jz hF=>ih σ c L S _ k1 g' _ w' c5 hT jn (fun i oi hi a7 bF=>ru i oi hi a7 fun h=>bF ?_) (fun i hi=>?_) hK Jz (hJ.cU hF)
   ·rw[bS];by_cases e:i=j
    ·rw[if_pos e]
    ·rw[if_neg e];exact h
   ·rw[bS]at hi;by_cases e:i=j
    ·subst e;exact ay
    ·rw[if_neg e]at hi;exact nM i hi
  ·rcases hK with⟨h,_⟩|⟨rK,oc,Eo,Vl,R8,iD⟩
   ·omega
   obtain rfl:o=oc:=by rw[ho]at Eo;exact Option.some.inj Eo
   refine one2 rfl (Ov j rK o ho) (JO j rK) hJ Vl R8 _ iD fun x L' S' v g' w' hk Ow Ox=>?_
   obtain⟨τ,m,k1,k2,k3,k4⟩:=mj _ _ _ _ hk;have hlen:(all.toList.drop (j+1)).length=all.size-(j+1):=by simp
   let σ':Nat->St:=fun i=>if i<=j then σ i else τ (i-(j+1))
   have e1:∀i,i<=j->σ' i=σ i:=fun i hi=>by simp only[σ',if_pos hi]
   have e2:∀i,σ' (j+1+i)=τ i:=fun i=>by simp only[σ',if_neg (show¬j+1+i<=j by omega)];congr 1;omega
   have e3:∀i,(all.toList.drop (j+1))[i]? =all[j+1+i]? :=fun i=>by simp
   have kh:σ' (j+1)=(σ j).put o.dst x (σ j).V (σ j).A:=by rw[<-k2];exact e2 0
   refine ih σ' (j+1+m) L' S' _ k0 g' _ w' c5 ⟨by omega,fun i oi hi a7=>?_⟩ (by omega) (fun i oi hi a7 bF=>?_) (fun i hi=>?_) ?_ (Ow σ' e1 kh) Ox
   ·rcases acF i j with h|h|h
    ·rw[e1 i (by omega),e1 (i+1) (by omega)];exact hT.tr i oi h a7
    ·subst h;obtain rfl:o=oi:=by rw[ho]at a7;exact Option.some.inj a7
     rw[e1 i (by omega),kh];exact⟨x,_,_,rfl,.inr ⟨rfl,rfl⟩⟩
    ·obtain⟨q,rfl⟩:∃q,i=j+1+q:=⟨i-(j+1),by omega⟩;rw[e2 q,show j+1+q+1=j+1+(q+1) by omega,e2 (q+1)];exact(k3 q oi (by omega) (by rw[e3];exact a7)).2
   ·rw[bS]at bF;by_cases e:i=j
    ·rw[if_pos e]at bF;simp at bF
    ·rw[if_neg e]at bF;rcases acC i j with h|h
     ·rw[e1 i (by omega),e1 (i+1) (by omega)];obtain⟨d1,d2⟩:=ru i oi h a7 bF;refine⟨d1,?_⟩;rcases d2 with⟨d3,⟨d4,_⟩|d4⟩|d2
      ·exact absurd (od c8 hD.closed j o ho cE i (J1 j rK i d4 h)) bF
      ·exact .inl ⟨d3,.inr d4⟩
      ·exact .inr d2
     ·obtain⟨q,rfl⟩:∃q,i=j+1+q:=⟨i-(j+1),by omega⟩;rw[e2 q,show j+1+q+1=j+1+(q+1) by omega,e2 (q+1)];exact(k3 q oi (by omega) (by rw[e3];exact a7)).1
   ·rw[bS]at hi;by_cases e:i=j
    ·omega
    ·rw[if_neg e]at hi;have:=nM i hi;omega
   ·rcases k4 with⟨h1,h2⟩|⟨h1,oc,h2,h4,h5,h3⟩
    ·exact .inl ⟨by omega,by rw[e2];exact h2⟩
    ·refine .inr ⟨h1,oc,by rw[<-e3];exact h2,?_⟩;rw[e2];rw[List.drop_drop,show j+1+(m+1)=j+1+m+1 by omega]at h3;exact⟨h4,h5,h3⟩
theorem TJ.sS {Q:Exit->St->Ts->Prop} {id:Nat} {l:List Oper} (hm:P.follows .mixedOrders=true) (ow:Nat->Bool) (ws cs ns:List Nat) (hd:ey l.toArray ws=true) (hc:lN l.toArray ws cs ns=true)
  (h:kZ P l.toArray ow ws cs ns (fun s' L'=>Q .normal s' L') 0 l s L):TJ P n (.region id l.toArray true) Q s L:=by
 intro eP w0 g0 X S g a w hR;have Df:da n l.toArray.toList=true:=by simpa[codeOk]using eP
 obtain⟨τ,m,k1,k2,k3,k4⟩:=mj l 0 s L h;obtain⟨hI,hx⟩:=hR.inv.heap (w':={w with drawn:=w.drawn+1}) rfl;have hF:Fr w g {w with drawn:=w.drawn+1} g:=(Fr.refl hR.fr.now).heap rfl rfl rfl rfl;have hJ:Jb w0 g0 X L S g {w with drawn:=w.drawn+1}:=(Jb.mk hR.fr hR.nF hR.nd hR.out).cU hF;have vS:∀(i:Nat),l.toArray[i]? =l[i]? :=fun i=>by simp
 refine wp_region_any hm (u9 (K:=fun s' L'=>Q .normal s' L') (ow:=ow) hd hc Df (fun s' L' S' g' a' w' h1 h2=>⟨s',g',L',S',h1,h2⟩) _ τ m L S (Array.replicate l.toArray.size false) 0 g a _ ?_ ?_ (acG _) ?_ ?_ ?_ ?_ hJ)
 ·refine Nat.le_trans (List.length_filter_le _ _) (by simp)
 ·refine⟨by simpa using k1,fun j o hj ho=>?_⟩;have:=(k3 j o hj (by rw[vS]at ho;exact ho)).2;simpa only[acE]using this
 ·intro j o hj ho _;have:=(k3 j o hj (by rw[vS]at ho;exact ho)).1;simpa only[acE]using this
 ·intro i hi;have AF:=(acI.1 hi).1;simp at AF;simp[AF]at hi
 ·rcases k4 with⟨h1,h2⟩|⟨h1,oc,h2,h4,h5,h3⟩
  ·exact .inl ⟨by rw[h1];simp,h2⟩
  ·refine .inr ⟨by simpa using h1,oc,by rw[vS];exact h2,h4,h5,?_⟩;simp only[acE]at h3;exact h3
 ·refine⟨by rw[k2];exact hI,.refl hF.now,hR.size,hR.defers,by simp,fun i o t x ho hl=>?_,fun t x _ gD=>?_,fun i _ b8=>?_,acG _,fun i o ho hl=>?_⟩
  ·have hi:=(acI.1 hl).1;simp at hi;simp[hi]at hl
  ·rw[k2]at gD⊢;obtain⟨u,h1,h2⟩:=hR.slot t x gD;exact⟨u,h1,aW.ext hx h2⟩
  ·simp at b8;simp[b8]
  ·have hi:=(acI.1 hl).1;simp at hi;simp[hi]at hl
structure jm (P:Program) (all:Array Oper) (ow:Nat->Bool) (ws cs ns:List Nat) (K:St->Ts->Prop) (i:Nat) (ops:List Oper) (s:St) (L:Ts):Prop where
 mk::
 run:kZ P all ow ws cs ns K i ops s L
theorem TJ.Cd {Q:Exit->St->Ts->Prop} {id:Nat} {l:List Oper} (hm:P.follows .mixedOrders=true) (ow:Nat->Bool) (ws cs ns:List Nat) (hd:ey l.toArray ws=true) (hc:lN l.toArray ws cs ns=true)
  (h:∀K:St->Ts->Prop,(∀s' L',TJ P n y Q s' L'->K s' L')->jm P l.toArray ow ws cs ns K 0 l s L):TJ P n (.seq (.region id l.toArray true) y) Q s L:=
 TJ.seq (TJ.sS hm ow ws cs ns hd hc (h _ fun _ _ h=>h).run)
theorem TJ.Kl {Q:Exit->St->Ts->Prop} {id:Nat} {l:List Oper} (hm:P.follows .mixedOrders=true) (ow:Nat->Bool) (ws cs ns:List Nat) (hd:ey l.toArray ws=true) (hc:lN l.toArray ws cs ns=true)
  (h:∀K:St->Ts->Prop,(∀s' L',Q .normal s' L'->K s' L')->jm P l.toArray ow ws cs ns K 0 l s L):TJ P n (.region id l.toArray true) Q s L:=
 TJ.sS hm ow ws cs ns hd hc (h _ fun _ _ h=>h).run
variable {ow:Nat->Bool} {cs ns:List Nat} {K:St->Ts->Prop} {i:Nat} {o:Oper} {rest:List Oper}
theorem dJ (hi:cs.contains i=false) (hn:ns.contains i=false) (h:iA all s o (bJ P s (ow i) o fun x V A=>(i∈ws\/(V=s.V/\A=s.A))/\jm P all ow ws cs ns K (i+1) rest (s.put o.dst x V A) L) (jm P all ow ws cs ns K (i+1) rest (s.put o.dst (.c .undef) s.V s.A) L)):jm P all ow ws cs ns K i (o::rest) s L:=
 ⟨nS (fun h=>.inr (.inr ⟨by simpa using hi,by simpa using hn,gg (fun x V A h=>⟨h.1,h.2.run⟩) h⟩)) (fun h=>h.run) h⟩
theorem c9 (h:K s L):jm P all ow ws cs ns K i [] s L:=⟨h⟩
theorem jm.gen {ops:List Oper} {d:Nat} {b:Bool} {fr:List (Nat×AV)} {V:List (List CV)} {A:List bz} (h:∀q:Bool,b=q->jm P all ow ws cs ns K i ops ⟨(d,.c (.d (.bool q)))::fr,V,A⟩ L):jm P all ow ws cs ns K i ops ⟨(d,.c (.d (.bool b)))::fr,V,A⟩ L:=h b rfl
@[congr] theorem Mr {i i':Nat} {ops:List Oper} (hi:i=i') (h:s=s'):jm P all ow ws cs ns K i ops s L=jm P all ow ws cs ns K i' ops s' L:=by rw[h,hi]
theorem bP {all:Array Oper} {x:AV} (hg:iA all s o True False) (h:bW P s L o x) (hK:kC P n all ow K (i+1) rest (s.put o.dst x s.V s.A) L):kC P n all ow K i (o::rest) s L:=by
 refine⟨fun hd w0 g0 X S g a w Q hR hQ=>?_⟩;simp only[da,acg,acz]at hd;have fc:∀d,o.dst=some d->d<n:=fun d e=>by have:=hd.1;rw[e]at this;simpa using this
 unfold wpList;rcases qc hR.rp hg with⟨h1,_⟩|⟨_,h2⟩
 ·rw[if_pos h1];exact .inl (h.wp (fun x _=>rfl) hR.slot hR.nF hR.nd fun v hv=>hK.run hd.2 w0 g0 X S g _ w Q (hR.put fc hv hR.inv (.refl _ _ _) hR.fr hR.nF hR.nd hR.out) hQ)
 ·exact h2.elim
theorem bW.field {t:TypeId} {d:TD} {x:Operand} {f off sz:Nat} {T:TypeId} {row:List DV} {pv:Value} (ho:o.op=.fieldAddr t x f) (hd:td P t=some d) (hf:d.fl[f]? =some (off,sz)) (fB:sz≠0)
  (hx:bH s x=some (.c (.d (.raw pv)))) (hm:(.n T row,pv)∈L):bW P s L o (.c (.d (.raw (fp pv off)))):=by
 intro cU V A hA g a w S hS hT _;have gD:bH ⟨cU,V,A⟩ x=some (.c (.d (.raw pv))):=(hA x (by simp[ho,Op.operands])).trans hx;have hv:=aL hS gD;simp only[aW,dL,br,bn]at hv;obtain⟨b,xs,rfl,_⟩:=hT.node hm;refine⟨.pointer (some ⟨b,0+off,none⟩),⟨rfl,rfl⟩,?_⟩;rw[execOp,ho];exact bt (by rw[hv.1];exact pj hd hf fB b 0)
theorem bW.nilCheck {x:Operand} {T:TypeId} {row:List DV} {pv:Value} (ho:o.op=.nilCheck x) (hx:bH s x=some (.c (.d (.raw pv)))) (hm:(.n T row,pv)∈L):bW P s L o (.c (.d (.raw pv))):=by
 intro cU V A hA g a w S hS hT _;have gD:bH ⟨cU,V,A⟩ x=some (.c (.d (.raw pv))):=(hA x (by simp[ho,Op.operands])).trans hx;have hv:=aL hS gD;simp only[aW,dL,br,bn]at hv;obtain⟨b,xs,rfl,_⟩:=hT.node hm;refine⟨.pointer (some ⟨b,0,none⟩),⟨rfl,rfl⟩,?_⟩;simp[execOp,ho,hv.1]
theorem bW.load {t:TypeId} {d:TD} {x:Operand} {off:Nat} {T:TypeId} {row:List DV} {pv:Value} {y:DV} (ho:o.op=.load t x) (hd:td P t=some d) (fB:d.sz=1) (GP:d.ag=false)
  (hx:bH s x=some (.c (.d (.raw (fp pv off))))) (hm:(.n T row,pv)∈L) (hy:row[off]? =some y):bW P s L o (.c (.d y)):=by
 intro cU V A hA g a w S hS hT _;have gD:bH ⟨cU,V,A⟩ x=some (.c (.d (.raw (fp pv off)))):=(hA x (by simp[ho,Op.operands])).trans hx;have hv:=aL hS gD;simp only[aW,dL,br,bn]at hv;obtain⟨b,xs,rfl,_,hh,Jd,hr⟩:=hT.node hm;have hj:off<xs.size:=by rw[Jd];exact(acw.1 hy).1
 have hu:xs[off]? =some xs[off]:=acJ hj;refine⟨xs[off],(hr off y _ hy hu).zero,?_⟩;obtain⟨_,h2⟩:=mr (P:=P) (w:=w) hd (b:=b) (off:=off) (vs:=[xs[off]]) (fun j u GO=>by
  cases j with
  |zero=>simp at GO;subst GO;simp[World.cell?,hh]
  |succ j=>simp at GO) (by simp[fB])
 rw[execOp,ho];refine bt ?_;rw[hv.1,show fp (.pointer (some ⟨b,0,none⟩)) off=.pointer (some ⟨b,off,none⟩) by simp[fp]];exact h2 GP _ rfl
theorem Ix {op:BinOp} {tp te:TypeId} {x y:Operand} {vx vy:AV} {p q:Value} {T:TypeId} {d:TD} {tb:TypeId} {cU:List (Nat×AV)} {V:List (List CV)} {A:List bz} {S:List Nat} (ho:o.op=.binOp op tp x y tb) (gG:op=.eql\/op=.neq)
  (hx:bH ⟨cU,V,A⟩ x=some vx) (hy:bH ⟨cU,V,A⟩ y=some vy) (Pc:u7 vx=some p) (Pd:u7 vy=some q) (hp:Cc L T p) (hq:Cc L T q)
  (Km:P.underlying tp=some (.pointer te)) (hd:td P te=some d) (fB:d.sz≠0) (P8:P.pointee tp=te) (hS:iC g w ⟨cU,V,A⟩ a) (hT:iI w L S) {bb:Bool} (P1:(bb=true)=((p=q)=(op=.eql))):(execOp a.eval o).run P w=.ok (.value (.bool bb)) w:=by
 have e1:=zm Pc (aL hS hx);have e2:=zm Pd (aL hS hy);obtain⟨inf,hi,pg,_,_⟩:=gm hd;have Ms:(eqGuard op tp x y p q).run P w=.ok () w:=by
  rcases hp with rfl|⟨row,hm⟩
  ·rcases gG with rfl|rfl<;>simp[eqGuard]
  ·obtain⟨b,_,rfl,_⟩:=hT.node hm;rcases gG with rfl|rfl<;>simp[eqGuard]
 obtain⟨e,M8,heq⟩:∃e:Bool,(e=true↔p=q)/\∀k:Nat,(Op.equalIn (k+1) tp p q).run P w=.ok e w:=by
  rcases hp with rfl|⟨row,hm⟩
  ·rcases hq with rfl|⟨row',R9⟩
   ·exact⟨true,by simp,fun k=>by simp[Op.equalIn,run_underlying Km]⟩
   ·obtain⟨b,_,rfl,_⟩:=hT.node R9;exact⟨false,by simp,fun k=>by simp[Op.equalIn,run_underlying Km]⟩
  ·obtain⟨b,xs,rfl,_,hh,_⟩:=hT.node hm;rcases hq with rfl|⟨row',R9⟩
   ·exact⟨false,by simp,fun k=>by simp[Op.equalIn,run_underlying Km]⟩
   ·obtain⟨b',xs',rfl,_,Vm,_⟩:=hT.node R9;by_cases Mt:b=b'
    ·subst Mt;exact⟨true,by simp,fun k=>by simp[Op.equalIn,run_underlying Km,sizeOf,typeInfo,hi,pg,fB,run_sameAddr_same]⟩
    ·have di:(⟨b,0,none⟩:Addr)≠⟨b',0,none⟩:=by simp[Mt]
     exact⟨false,by simp[Mt],fun k=>by simp[Op.equalIn,run_underlying Km,sizeOf,typeInfo,hi,pg,fB,run_sameAddr_other w di hh Vm]⟩
 have Pe:(Op.equal tp p q).run P w=.ok e w:=heq 9999;have Vn:(∃x,p=.pointer x)/\∃y,q=.pointer y:=by
  constructor
  ·rcases hp with rfl|⟨row,hm⟩
   ·exact⟨_,rfl⟩
   ·obtain⟨b,_,rfl,_⟩:=hT.node hm;exact⟨_,rfl⟩
  ·rcases hq with rfl|⟨row,hm⟩
   ·exact⟨_,rfl⟩
   ·obtain⟨b,_,rfl,_⟩:=hT.node hm;exact⟨_,rfl⟩
 rw[execOp,ho];refine bt ?_;rw[e1,e2,Sem.run_bind,Ms];simp only[Result.andThen_ok];obtain⟨⟨x',rfl⟩,y',rfl⟩:=Vn;rcases gG with rfl|rfl
 ·have:bb=e:=by
   rw[acB,P1,M8];simp
  rw[this];simp only[binOp];rw[Sem.run_bind,Pe]
  rfl
 ·have:bb= !e:=by
   rw[acB,P1,Bool.not_eq_true',<-Bool.not_eq_true,M8];simp
  rw[this];simp only[binOp];rw[Sem.run_bind,Pe]
  rfl
theorem bW.eql {tp te tb T:TypeId} {d:TD} {x y:Operand} {vx vy:AV} {p q:Value} (ho:o.op=.binOp .eql tp x y tb)
  (hx:bH s x=some vx) (hy:bH s y=some vy) (Pc:u7 vx=some p) (Pd:u7 vy=some q) (hp:Cc L T p) (hq:Cc L T q)
  (Km:P.underlying tp=some (.pointer te)) (hd:td P te=some d) (fB:d.sz≠0) (P8:P.pointee tp=te):bW P s L o (.c (.d (.bool (@decide (p=q) (Classical.propDecidable _))))):=by
 intro cU V A hA g a w S hS hT _;have gD:=(hA x (by simp[ho,Op.operands])).trans hx;have PI:=(hA y (by simp[ho,Op.operands])).trans hy;exact⟨_,rfl,Ix ho (.inl rfl) gD PI Pc Pd hp hq Km hd fB P8 hS hT (by simp)⟩
theorem bW.neq {tp te tb T:TypeId} {d:TD} {x y:Operand} {vx vy:AV} {p q:Value} (ho:o.op=.binOp .neq tp x y tb)
  (hx:bH s x=some vx) (hy:bH s y=some vy) (Pc:u7 vx=some p) (Pd:u7 vy=some q) (hp:Cc L T p) (hq:Cc L T q)
  (Km:P.underlying tp=some (.pointer te)) (hd:td P te=some d) (fB:d.sz≠0) (P8:P.pointee tp=te):bW P s L o (.c (.d (.bool (!@decide (p=q) (Classical.propDecidable _))))):=by
 intro cU V A hA g a w S hS hT _;have gD:=(hA x (by simp[ho,Op.operands])).trans hx;have PI:=(hA y (by simp[ho,Op.operands])).trans hy;exact⟨_,rfl,Ix ho (.inr rfl) gD PI Pc Pd hp hq Km hd fB P8 hS hT (by by_cases h:p=q<;>simp[h])⟩
theorem lp.box {T:TypeId} {x:Operand} {cells:List CV} {row:List DV} {k:AV->Ts->Prop} (ho:o.op=.box T x) (hx:bH s x=some (.agg cells)) (ef:Ca cells=some row) (hK:∀pv,k (.c (.d (.raw pv))) ((.n T row,pv)::L)):lp P s L o k:=by
 intro cU V A hA n w0 g0 X S g a w hR next Q hn;have gD:bH ⟨cU,V,A⟩ x=some (.agg cells):=(hA x (by simp[ho,Op.operands])).trans hx;obtain⟨vs,hv,hl,hc⟩:=aL hR.slot gD;have fC:(execOp a.eval o).run P w=.ok (.value (.pointer (some ⟨w.heap.size,0,none⟩))) (w.alloc (.cells vs.toArray T)):=by
  simp[execOp,ho,hv,Instr.box,newVar,jF,Value.cells]
 unfold Oper.wp;rw[fC];obtain⟨g1,vf,fj,dB⟩:=hR.inv.ei (.cells vs.toArray T) 0;have kF:=(Fr.refl hR.fr.now).ei (.cells vs.toArray T) 0;rw[<-vf]at kF;have uC:=hR.wS kF;have ay:∀b∈S,b<w.heap.size:=hR.nF.lt;refine hn _ _ (w.heap.size::S) _ _ g1 (hK (.pointer (some ⟨w.heap.size,0,none⟩))) ⟨rfl,rfl⟩ fj dB (hR.fr.fr kF) ⟨[w.heap.size],S,rfl,?_,uC.1⟩ (ace.2 ⟨fun h=>absurd (ay _ h) (by omega),hR.nd⟩) fun b hb=>?_
 ·simp only[Tr];refine⟨_,vs.toArray,rfl,heap_alloc_new w _,?_,fun j y u h1 h2=>?_,rfl⟩
  ·have h2:=xx ef;simp;omega
  ·have Lw:vs[j]? =some u:=by simpa using h2
   have jk:j<cells.length:=by
    have:=xx ef;have:=(acw.1 h1).1;omega
   have Nr:cells[j]? =some cells[j]:=List.getElem?_eq_getElem jk;exact EH (EI ef Nr h1) (hc j _ u Nr Lw)
 ·rcases acn.1 hb with rfl|hb
  ·refine⟨by rw[vf];simp,fun hm=>?_,fun hm=>?_,fun hm=>?_,.inl hR.fr.size⟩
   ·rw[vf]at hm;obtain⟨l,hl⟩:=acv hm;have:=hR.inv.qU hl;omega
   ·rw[vf]at hm;obtain⟨k,v',q1,q2⟩:=Gh.fL (g:=g) (by simpa[Gh.jB]using hm);have:=hR.inv.mO q1 q2;omega
   ·have:=(hR.fr.now _ hm).1;omega
  ·exact uC.2 b hb
theorem jR {all:Array Oper} (hg:iA all s o True False) (h:lp P s L o fun x L'=>kC P n all ow K (i+1) rest (s.put o.dst x s.V s.A) L'):kC P n all ow K i (o::rest) s L:=by
 refine⟨fun hd w0 g0 X S g a w Q hR hQ=>?_⟩;simp only[da,acg,acz]at hd;have fc:∀d,o.dst=some d->d<n:=fun d e=>by have:=hd.1;rw[e]at this;simpa using this
 unfold wpList;rcases qc hR.rp hg with⟨h1,_⟩|⟨_,h2⟩
 ·rw[if_pos h1];exact .inl (h _ _ _ (fun x _=>rfl) n w0 g0 X S g a w hR _ _ fun x L' S' v w' g' h3 h4 h5 h6 h7 h8 h9 cO=>h3.run hd.2 w0 g0 X S' g' _ w' Q (hR.put fc h4 h5 h6 h7 h8 h9 cO) hQ)
 ·exact h2.elim
end
section
variable {P:Program} {n:Nat} {s:St} {L L2:Ts} {all:Array Oper} {ow:Nat->Bool} {K:St->Ts->Prop} {i:Nat} {o:Oper} {rest:List Oper}
theorem bW.Pf {x:Operand} {t e e':TypeId} {d:TD} {sz m:Nat} {cs:List GC} {v:Value} (ho:o.op=.call {callee:=.builtin .len,args:= #[x],argTypes:= #[t]}) (hd:td P t=some d) (tq:d.el=some e')
  (hx:bH s x=some (.c (.d (.raw v)))) (hm:(.t e sz m cs,v)∈L):bW P s L o (.c (.d (.int .i64 m))):=by
 intro cU V A hA g a w S hS hT _;have gD:bH ⟨cU,V,A⟩ x=some (.c (.d (.raw v))):=(hA x (by simp[ho,Op.operands,Call.operands])).trans hx;have hv:=aL hS gD;simp only[aW,dL,br,bn]at hv;obtain⟨S',h1,_⟩:=hT.at_ hm;simp only[Tr]at h1;obtain⟨xs,S'',dQ,_,_⟩:=h1;refine⟨.int .i64 m,rfl,?_⟩;have ux:∃ad cp,v=.slice ad m cp:=by
  rcases dQ.2 with⟨e1,e2⟩|⟨b1,c1,cu1,e1,_⟩
  ·exact⟨none,0,by rw[e1,e2]⟩
  ·exact⟨_,_,e1⟩
 obtain⟨ad,cp,rfl⟩:=ux;unfold execOp;simp only[ho,resolve,invoke,Sem.run_bind,Sem.run_pure,Result.andThen_ok,aco,acj,acp,hv.1];refine bt ?_;simp[Builtin.len_,run_underlying (mQ hd tq),goInt]
end
end Go.Av
