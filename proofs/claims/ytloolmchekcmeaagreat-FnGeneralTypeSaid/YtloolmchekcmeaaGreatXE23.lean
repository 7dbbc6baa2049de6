/- A part. -/
import Derived.Test.YtloolmchekcmeaaGreatXE22
import Derived.LaidEql
set_option linter.unusedVariables false
set_option linter.unusedSimpArgs false
open List renaming range->ab8,append_assoc->ab9,nodup_cons->aca,all_eq_true->acb,all_cons->acd,mem_of_getElem?->ace,mem_append->acf,map_cons->acg,mem_range->ach,mem_iff_getElem?->aci,mem_cons->acj,map_toArray->ack,map_nil->acm,length_nil->acn,length_cons->aco,getElem?_zipIdx->acp,getElem?_set->acq,getElem?_of_mem->acr,getElem?_eq_some_iff->acs,contains_eq_mem->acu
open Bool renaming and_eq_true->acv,or_eq_true->acw,eq_iff_iff->acx
open Nat renaming lt_or_ge->acz,le_refl->acA,zero_add->acB,lt_trichotomy->acC,zero_le->acD,strongRecOn->acE
open Array renaming getElem?_eq_some_iff->acF,getElem?_eq_getElem->acG,mem_toList_iff->acH,getElem?_setIfInBounds_ne->acI
open Option renaming bind_some->acJ
namespace Go.Av
attribute [-simp] Go.Av.cb Go.Av.eL Go.Av.fj Go.Av.fa Go.Av.cT Go.Av.b9 Go.Av.IT.og Go.Av.IT.gU Go.Av.IT.gV Go.Av.IT.mA Go.Av.IT.oh Go.Av.IT.om Go.Av.IT.oo Go.Av.IT.ot Go.Av.IT.jF Go.Av.kY
open Go
def fp:Value->Nat->Value
 |.pointer (some ⟨b,o,k⟩),off=>.pointer (some ⟨b,o+off,k⟩)
 |v,_=>v
def K6:CV->Option DV
 |.d x=>if x.jA=true then some x else none
 |.np=>some (.raw (.pointer none))
 |.nil=>some (.raw (.slice none 0 0))
 |_=>none
def Cp:List CV->Option (List DV)
 |[]=>some []
 |c::r=>match K6 c,Cp r with
  |some x,some l=>some (x::l)
  |_,_=>none
theorem E3 {g:Gh} {w:World} {A:List bu} {im:Nat->Nat} {w':World} {c:CV} {x:DV} {u:Value} (h:K6 c=some x) (hr:bm g w A c u):bh im w' x u:=by
 cases c with
 |d y=>
  simp only[K6]at h;split at h
  ·rename_i hs;simp at h;subst h;exact DV.sC hs hr
  ·simp at h
 |np=>simp only[K6,Option.some.injEq]at h;subst h;exact⟨hr,by simp only[bm]at hr;subst hr;rfl⟩
 |nil=>simp only[K6,Option.some.injEq]at h;subst h;exact⟨hr,by simp only[bm]at hr;subst hr;rfl⟩
 |_=>simp[K6]at h
theorem xX:∀{cs:List CV} {ds:List DV},Cp cs=some ds->ds.length=cs.length
 |[],ds,h=>by simp[Cp]at h;subst h;rfl
 |c::r,ds,h=>by
  simp only[Cp]at h;split at h
  ·rename_i x l h1 h2;simp at h;subst h;simp[xX h2]
  ·simp at h
theorem E4:∀{cs:List CV} {ds:List DV},Cp cs=some ds->∀{j:Nat} {c x},cs[j]? =some c->ds[j]? =some x->K6 c=some x
 |[],ds,h,j,c,x,h1,_=>by simp at h1
 |y::r,ds,h,j,c,x,h1,h2=>by
  simp only[Cp]at h;split at h
  ·rename_i a l h3 h4;simp at h;subst h;cases j with
   |zero=>simp at h1 h2;subst h1;subst h2;exact h3
   |succ j=>exact E4 h4 (by simpa using h1) (by simpa using h2)
  ·simp at h
section
variable {P:Program} {n:Nat} {s:St} {L L2:Ts} {all:Array Oper} {ow:Nat->Bool} {K:St->Ts->Prop} {i:Nat} {o:Oper} {rest:List Oper}
theorem iq.node {w:World} {T:TypeId} {row:List DV} {pv:Value} {S:List Nat} (h:iq w L S) (hm:(.n T row,pv)∈L):
  ∃b xs,pv=.pointer (some ⟨b,0,none⟩)/\b∈S/\w.heap[b]? =some (.cells xs T (0,0))/\xs.size=row.length/\∀(j:Nat) x u,row[j]? =some x->xs[j]? =some u->bh (fun _=>0) w x u:=by
 obtain⟨S',h1,h2⟩:=h.at_ hm;simp only[Tr]at h1;obtain⟨b,xs,rfl,h3,h4,h5,rfl⟩:=h1;exact⟨b,xs,rfl,h2 b (by simp),h3,h4,h5⟩
theorem gy {t:TypeId} {d:TD} {x y:Operand} {off:Nat} {T:TypeId} {row:List DV} {pv:Value} {c:CV} {e:DV} (hg:o.guard=none) (ho:o.op=.store t x y) (hd:td P t=some d) (eM:d.sz=1)
  (hx:bE s x=some (.c (.d (.raw (fp pv off))))) (hy:bE s y=some (.c c)) (hc:K6 c=some e) (hp:L.Perm ((.n T row,pv)::L2)) (RJ:off<row.length)
  (hK:j9 P n all ow K (i+1) rest (s.put o.dst (.c .undef) s.V s.A) ((.n T (row.set off e),pv)::L2)):j9 P n all ow K i (o::rest) s L:=by
 refine⟨fun vZ w0 g0 X S g a w Q hR hQ=>?_⟩;simp only[c7,acd,acv]at vZ;have eT:∀d,o.dst=some d->d<n:=fun d e=>by have:=vZ.1;rw[e]at this;simpa using this
 obtain⟨S0,vQ,Jc⟩:=hR.nq.perm hp;obtain⟨S1,S2,rfl,lK,yN⟩:=Jc;simp only[Tr]at lK;obtain⟨b,xs,rfl,hh,Jj,hr,rfl⟩:=lK;have oQ:=vQ.nodup_iff.1 hR.nd;have jj:=fun b hb=>hR.out b (vQ.mem_iff.2 hb)
 obtain⟨wh,LD,OU,Tm,OV⟩:=jj b (by simp);have hv:=aJ hR.slot hx;simp only[aV,dD,bm,bh]at hv;have hu:=aJ hR.slot hy;simp only[aV,dD]at hu;have Tn:=E3 (im:=fun _=>0) (w':=w) hc hu;have RK:(a.eval y).oneCell'=true:=Tn.lQ;have nD:(a.eval y).cells= #[a.eval y]:=by
  cases hq:a.eval y<;>first|rfl|(rw[hq]at RK;simp[Value.oneCell']at RK)
 have ff:=lk (P:=P) hd (v:=a.eval y) (by rw[nD,eM];rfl) hh (off:=off) (by rw[eM];omega) (fun u hu=>by rw[nD]at hu;simp at hu;subst hu;exact RK);have Ow:(b6 xs.toList off (a.eval y).cells.toList).toArray=xs.setIfInBounds off (a.eval y):=by
  rw[nD];apply Array.ext';simp only[Array.toList_setIfInBounds];apply List.ext_getElem?;intro j;rw[fT (by simp;omega),acq];simp only[aco,acn,acB,Array.length_toList];by_cases hj:off=j
  ·subst hj;rw[if_pos ⟨acA _,by omega⟩,if_pos rfl,if_pos (by omega),Nat.sub_self];rfl
  ·rw[if_neg (by omega),if_neg hj]
 rw[Ow]at ff;have U6:b<w.heap.size:=(acF.1 hh).1;unfold wpList;rw[if_pos (by simp[Region.wanted,hg])];refine .inl ?_;unfold Oper.wp;have Cq:(execOp a.eval o).run P w=.ok .skip (w.setRow b (xs.setIfInBounds off (a.eval y))):=by
  rw[execOp,ho];refine wy ?_;rw[hv.1,show fp (.pointer (some ⟨b,0,none⟩)) off=.pointer (some ⟨b,off,none⟩) by simp[fp]];exact ff
 rw[Cq];have gm:∀b',b'≠b->(w.setRow b (xs.setIfInBounds off (a.eval y))).heap[b']? =w.heap[b']? :=fun b' eG=>cm w b b' _ eG
 have yz:(w.setRow b (xs.setIfInBounds off (a.eval y))).heap[b]? =some (.cells (xs.setIfInBounds off (a.eval y)) T (0,0)):=setRow_heap w b xs _ T (0,0) hh;have IC:(w.setRow b (xs.setIfInBounds off (a.eval y))).heap.size=w.heap.size:=by simp
 have uK:jX g.im w g.im (w.setRow b (xs.setIfInBounds off (a.eval y))):=⟨fun _=>acA _,fun b' o' GF=>by
  have dc:b'≠b:=fun e=>by subst e;omega
  exact World.cell?_of_block (a:=⟨b',o',none⟩) (gm b' dc)⟩
 have ID:Ext g w s.A g (w.setRow b (xs.setIfInBounds off (a.eval y))) s.A:=⟨fun _ _ h=>h,uK,fun _ r h=>⟨r,h,rfl,acA _,fun _=>rfl⟩⟩;have OW:Inv g (w.setRow b (xs.setIfInBounds off (a.eval y))) s.V s.A:=by
  refine⟨hR.inv.oP,hR.inv.lF,fun l row' b' h3 h4=>?_,fun k r u h3 h4=>?_,hR.inv.kA,hR.inv.iS,hR.inv.iX,fun b' eG=>hR.inv.fresh b' (by omega)⟩
  ·exact hR.inv.fb ID h3 h4 (gm b' (fun e=>by subst e;exact LD (ace h4))) (hR.inv.obj l row' b' h3 h4).1
  ·exact hR.inv.fc ID h3 h4 (fun b' eG=>gm b' (fun e=>by subst e;exact OU (Gh.jN h4 eG))) (fun _ _=>rfl)
 have OX:xn w0 g0 X (w.setRow b (xs.setIfInBounds off (a.eval y))) g:=by
  refine⟨hR.fr.os,hR.fr.tape,hR.fr.output,by rw[IC];exact hR.fr.size,fun b' q1 q2 q3 q4=>?_,hR.fr.iY,hR.fr.ob,hR.fr.ar,hR.fr.wq,hR.fr.yp,hR.fr.BS⟩;rw[gm b' (fun e=>by
   subst e;rcases OV with q|q
   ·omega
   ·exact q4 q)]
  exact hR.fr.qF b' q1 q2 q3 q4
 have RL:b∉S2:=fun hm=>(aca.1 oQ).1 hm
 refine hK.run vZ.2 w0 g0 X (b::S2) g _ _ Q (hR.put eT (x:=.c .undef) (v:=undef) rfl OW ID OX ⟨[b],S2,rfl,?_,yN.dI fun b' eG=>gm b' (fun e=>by subst e;exact RL eG)⟩ oQ jj) hQ;simp only[Tr];refine⟨b,_,rfl,yz,by simp[Jj],fun j x' u h3 h4=>?_,rfl⟩;rw[acq]at h3;rw[Array.getElem?_setIfInBounds]at h4;by_cases hj:off=j
 ·rw[if_pos hj,if_pos RJ]at h3;rw[if_pos hj,if_pos (by omega)]at h4;simp at h3 h4;subst h3;subst h4;exact Tn.zero
 ·rw[if_neg hj]at h3;rw[if_neg hj]at h4;exact(hr j x' u h3 h4).zero
def vz:AV->Option Value
 |.c (.d (.raw v))=>some v
 |.c .np=>some (.pointer none)
 |_=>none
theorem zM {g:Gh} {w:World} {A:List bu} {x:AV} {v u:Value} (h:vz x=some v) (hr:aV g w A x u):u=v:=by
 unfold vz at h;split at h
 ·simp at h;subst h;simp only[aV,dD,bm,bh]at hr;exact hr.1
 ·simp at h;subst h;exact hr
 ·simp at h
def Cr (L:Ts) (T:TypeId) (v:Value):Prop:=v=.pointer none\/∃row,(.n T row,v)∈L
end
theorem kF.IE {w:World}:∀{cs:List GC} {xs:List Value} {S:List Nat} {ds:List DV} {us:List Value},kF w cs xs S->us.length=ds.length->(∀(j:Nat) x u,ds[j]? =some x->us[j]? =some u->bh (fun _=>0) w x u)->kF w (cs++ds.map GC.d) (xs++us) S
 |[],xs,S,[],us,h,hl,_=>by
  have:us=[]:=List.length_eq_zero_iff.1 (by simpa using hl);simp only[kF]at h;obtain⟨rfl,rfl⟩:=h;subst this;simp[kF]
 |[],xs,S,d::ds,us,h,hl,hr=>by
  simp only[kF]at h;obtain⟨rfl,rfl⟩:=h
  match us,hl with
  |u::us,hl=>
   have h2:=kF.IE (w:=w) (cs:=[]) (xs:=[]) (S:=[]) (ds:=ds) (us:=us) (by simp[kF]) (by simpa using hl) (fun j x v h1 h2=>hr (j+1) x v (by simpa using h1) (by simpa using h2));simp only[List.nil_append,acg,kF]at h2⊢;exact⟨u,us,[],[],rfl,rfl,by simp only[Tr];exact⟨hr 0 d u rfl rfl,trivial⟩,h2⟩
 |c::cs,xs,S,ds,us,h,hl,hr=>by
  simp only[kF]at h;obtain⟨x,xs',S1,S2,rfl,rfl,h1,h2⟩:=h;simp only[List.cons_append,kF];exact⟨x,xs'++us,S1,S2,rfl,rfl,h1,kF.IE h2 hl hr⟩
section
variable {P:Program} {n:Nat} {s:St} {L L2:Ts} {all:Array Oper} {ow:Nat->Bool} {K:St->Ts->Prop} {i:Nat} {o:Oper} {rest:List Oper}
theorem sW {x y:Operand} {t e:TypeId} {d de:TD} {z:List CV} {m:Nat} {cs:List GC} {v:Value} {u:AV} {nr:List (List DV)} (hg:o.guard=none) (ho:o.op=.call {callee:=.builtin .append,args:= #[x,y],argTypes:= #[t,t]})
  (ht:td P t=some d) (tz:d.el=some e) (he:td P e=some de) (hz:de.zero=some z) (rJ:z.length=de.sz) (hx:bE s x=some (.c (.d (.raw v)))) (hy:bE s y=some u) (En:rowsOf s.A u=some nr) (hl:∀r∈nr,r.length=de.sz)
  (yV:∀r∈nr,∀c∈r,DV.jA c=true) (hp:L.Perm ((.t e de.sz m cs,v)::L2)) (hb:(m+nr.length)*de.lG<=140737488355328) (hm:m+nr.length<=9223372036854775807)
  (hK:∀v',j9 P n all ow K (i+1) rest (s.put o.dst (.c (.d (.raw v'))) s.V s.A) ((.t e de.sz (m+nr.length) (cs++nr.flatten.map GC.d),v')::L2)):j9 P n all ow K i (o::rest) s L:=by
 refine⟨fun vZ w0 g0 X S g a w Q hR hQ=>?_⟩;simp only[c7,acd,acv]at vZ;have eT:∀d,o.dst=some d->d<n:=fun d e=>by have:=vZ.1;rw[e]at this;simpa using this
 obtain⟨S0,vQ,Jc⟩:=hR.nq.perm hp;obtain⟨S1,S2,rfl,lK,yN⟩:=Jc;simp only[Tr]at lK;obtain⟨xs,S3,dS,Ml,rfl⟩:=lK;have oQ:=vQ.nodup_iff.1 hR.nd;have jj:=fun b hb=>hR.out b (vQ.mem_iff.2 hb)
 have az:∀b∈v.ownBlock.toList++S3++S2,b<w.heap.size:=fun b hb=>hR.nq.lt b (vQ.mem_iff.2 hb)
 have hv:=aJ hR.slot hx;simp only[aV,dD,bm,bh]at hv;obtain⟨hv,kC⟩:=hv;have hu:=aJ hR.slot hy;obtain⟨inf,hi,o6,C2,h0⟩:=fZ he;obtain⟨zv,Hd,GI⟩:=h0 z hz;have IX:zv.cells.size=inf.size:=by have:=iF GI;simp at this;omega
 obtain⟨news,wD,vJ,zY⟩:=tA hR.inv hu En hl;have E5:∀(j:Nat) q u,nr.flatten[j]? =some q->news[j]? =some u->bh (fun _=>0) w q u:=fun j q u h1 h2=>by
  obtain⟨r,Mm,CX⟩:=List.mem_flatten.1 (ace h1);exact DV.sC (yV r Mm q CX) (zY j q u h1 h2)
 have GH:news.length=nr.flatten.length:=by
  have yh:nr.flatten.length=nr.length*de.sz:=by
   clear wD zY E5 hb hm hK En yV;induction nr with
   |nil=>simp
   |cons r nr ih=>simp only[List.flatten_cons,List.length_append,aco];rw[hl r (by simp),ih (fun x hx=>hl x (by simp[hx])),Nat.add_mul,Nat.one_mul,Nat.add_comm]
  rcases wD with⟨h1,h2,_⟩|⟨_,_,_,h1,_⟩
  ·rw[yh,h1,h2];simp
  ·rw[yh,h1]
 have y5:w.ownsRow 0 e inf.size v m xs:=by rw[o6];exact dS
 obtain⟨v',w',ff,s4,hc⟩:=mh (P:=P) t o.type e inf zv (mG ht tz) hi Hd IX v m xs y5 (a.eval y) nr.length news (by rw[o6];exact wD) vJ (by simp only[maxLen];omega) (by rw[C2];exact hb);rw[o6]at s4;unfold wpList;rw[if_pos (by simp[Region.wanted,hg])];refine .inl ?_;unfold Oper.wp;have Cq:(execOp a.eval o).run P w=.ok (.value v') w':=by
  unfold execOp;simp only[ho,resolve,invoke,Sem.run_bind,Sem.run_pure,Result.andThen_ok,ack,acg,acm,hv];exact oE ff
 rw[Cq];have D3:v'.oneCell'=true:=by
  rcases s4.2 with⟨rfl,_⟩|⟨b1,c1,cu1,rfl,_⟩<;>rfl
 rcases hc with⟨rfl,rfl⟩|⟨b,cs',AS,xY,rfl⟩|⟨o',xY,rfl⟩
 ·refine(hK v').run vZ.2 w0 g0 X (v'.ownBlock.toList++S3++S2) g _ _ Q (hR.put eT (x:=.c (.d (.raw v'))) ⟨rfl,D3⟩ hR.inv (.refl _ _ _) hR.fr ⟨_,S2,rfl,?_,yN⟩ oQ jj) hQ;simp only[Tr];exact⟨xs++news,S3,s4,Ml.IE GH E5,rfl⟩
 ·have RM:b∈v.ownBlock.toList++S3++S2:=by simp[AS]
  obtain⟨wh,LD,OU,Tm,OV⟩:=jj b RM;have gm:∀b',b'≠b->(w.setRow b cs').heap[b']? =w.heap[b']? :=fun b' eG=>cm w b b' _ eG
  have IC:(w.setRow b cs').heap.size=w.heap.size:=by simp
  have uK:jX g.im w g.im (w.setRow b cs'):=⟨fun _=>acA _,fun b' o' GF=>by
   have dc:b'≠b:=fun e=>by subst e;omega
   exact World.cell?_of_block (a:=⟨b',o',none⟩) (gm b' dc)⟩
  have ID:Ext g w s.A g (w.setRow b cs') s.A:=⟨fun _ _ h=>h,uK,fun _ r h=>⟨r,h,rfl,acA _,fun _=>rfl⟩⟩;have OW:Inv g (w.setRow b cs') s.V s.A:=by
   refine⟨hR.inv.oP,hR.inv.lF,fun l row' b' h3 h4=>?_,fun k r u h3 h4=>?_,hR.inv.kA,hR.inv.iS,hR.inv.iX,fun b' eG=>hR.inv.fresh b' (by omega)⟩
   ·exact hR.inv.fb ID h3 h4 (gm b' (fun e=>by subst e;exact LD (ace h4))) (hR.inv.obj l row' b' h3 h4).1
   ·exact hR.inv.fc ID h3 h4 (fun b' eG=>gm b' (fun e=>by subst e;exact OU (Gh.jN h4 eG))) (fun _ _=>rfl)
  have OX:xn w0 g0 X (w.setRow b cs') g:=by
   refine⟨hR.fr.os,hR.fr.tape,hR.fr.output,by rw[IC];exact hR.fr.size,fun b' q1 q2 q3 q4=>?_,hR.fr.iY,hR.fr.ob,hR.fr.ar,hR.fr.wq,hR.fr.yp,hR.fr.BS⟩;rw[gm b' (fun e=>by
    subst e;rcases OV with q|q
    ·omega
    ·exact q4 q)]
   exact hR.fr.qF b' q1 q2 q3 q4
  have yO:(b::(S3++S2)).Nodup:=by simpa[AS]using oQ
  have AX:b∉S3++S2:=(aca.1 yO).1;refine(hK v').run vZ.2 w0 g0 X (v'.ownBlock.toList++S3++S2) g _ _ Q (hR.put eT (x:=.c (.d (.raw v'))) ⟨rfl,D3⟩ OW ID OX ⟨_,S2,rfl,?_,yN.dI fun b' eG=>gm b' (fun e=>by subst e;exact AX (by simp[eG]))⟩ (by rw[xY];simpa using yO) fun b' eG=>jj b' (by rw[AS];rw[xY]at eG;exact eG)) hQ;simp only[Tr];exact⟨xs++news,S3,s4,(Ml.dI _ _ _ fun b' eG=>gm b' (fun e=>by subst e;exact AX (by simp[eG]))).IE GH (fun j q u h1 h2=>(E5 j q u h1 h2).zero),rfl⟩
 ·obtain⟨RN,MR⟩:=hR.inv.heap (w':=w.drew) rfl;have RO:Fr w g w.drew g:=(Fr.refl hR.fr.now).heap rfl rfl rfl rfl;obtain⟨g1,vF,eZ,dn⟩:=RN.dW o' 0;have km:=RO.dW o' 0;have MT:w.drew.heap.size=w.heap.size:=rfl;rw[<-vF]at km;have w6:∀b∈S3++S2,b<w.heap.size:=fun b hb=>az b (by simp only[ab9,acf]at hb⊢;exact .inr hb)
  have hold:∀b,b<w.heap.size->(w.drew.alloc o').heap[b]? =w.heap[b]? :=fun b hb=>RowKit.Below.heap_alloc w.drew o' b hb
  have HT:(S3++S2).Nodup:=by rw[ab9]at oQ;exact(List.nodup_append.1 oQ).2.1
  have uV:=hR.xo km;refine(hK v').run vZ.2 w0 g0 X (v'.ownBlock.toList++S3++S2) g1 _ _ Q (hR.put eT (x:=.c (.d (.raw v'))) ⟨rfl,D3⟩ eZ (MR.trans dn) (hR.fr.fr km) ⟨_,S2,rfl,?_,yN.dI fun b' eG=>hold b' (w6 b' (by simp[eG]))⟩ ?_ fun b hb=>?_) hQ
  ·simp only[Tr];exact⟨xs++news,S3,s4,(Ml.dI _ _ _ fun b' eG=>hold b' (w6 b' (by simp[eG]))).IE GH (fun j q u h1 h2=>(E5 j q u h1 h2).zero),rfl⟩
  ·rw[xY,ab9];exact aca.2 ⟨fun hm=>absurd (w6 _ hm) (by omega),HT⟩
  ·rw[xY,ab9]at hb;rcases acj.1 hb with rfl|hb
   ·refine⟨by rw[vF];simp,fun hm=>?_,fun hm=>?_,fun hm=>?_,.inl hR.fr.size⟩
    ·rw[vF]at hm;obtain⟨l,hl⟩:=acr hm;have:=hR.inv.qR hl;omega
    ·rw[vF]at hm;obtain⟨k,v',q1,q2⟩:=Gh.fD (g:=g) (by simpa[Gh.jg]using hm);have:=hR.inv.mE q1 q2;omega
    ·have:=(hR.fr.now _ hm).1;omega
   ·exact uV.2 b (vQ.mem_iff.2 (by rw[ab9];exact List.mem_append_right _ hb))
end
end Go.Av
namespace Go.Av
attribute [-simp] Go.Av.IT.og Go.Av.IT.gU Go.Av.IT.gV Go.Av.IT.mA Go.Av.IT.oh Go.Av.IT.om Go.Av.IT.oo Go.Av.IT.ot Go.Av.IT.jF Go.Av.kY
open Go
section
variable {P:Program} {n:Nat} {w0 w w':World} {g0 g g':Gh} {X S S':List Nat} {s s':St} {L L':Ts} {a a':Act} {x y:Code} {all:Array Oper} {ws:List Nat}
def RP (o:Oper) (cM:List (Nat×AV)) (V:List (List CV)) (A:List bu) (s:St):Prop:=∀x∈o.op.operands.toList,bE ⟨cM,V,A⟩ x=bE s x
def kZ (P:Program) (s:St) (L:Ts) (o:Oper) (K:AV->Ts->Prop):Prop:=
 ∀(cM:List (Nat×AV)) (V:List (List CV)) (A:List bu),RP o cM V A s->∀(n:Nat) (w0:World) (g0:Gh) (X S:List Nat) (g:Gh) (a:Act) (w:World),rh n w0 g0 X ⟨cM,V,A⟩ L S g a w->∀(next:Act->World->Prop) (Q:Exit->Act->World->Prop),
  (∀x L' S' v w' g',K x L'->aV g' w' A x v->Inv g' w' V A->Ext g w A g' w' A->xn w0 g0 X w' g'->iq w' L' S'->S'.Nodup->(∀b∈S',g'.im b=0/\b∉g'.ob/\b∉g'.jg/\¬oZ b/\(w0.heap.size<=b\/b∈X))->next (a.put o.dst v) w')->o.wp P a w next Q
def bU (P:Program) (s:St) (L:Ts) (o:Oper) (x:AV):Prop:=
 ∀(cM:List (Nat×AV)) (V:List (List CV)) (A:List bu),RP o cM V A s->∀(g:Gh) (a:Act) (w:World) (S:List Nat),ia g w ⟨cM,V,A⟩ a->iq w L S->S.Nodup->∃v,aV g w A x v/\(execOp a.eval o).run P w=.ok (.value v) w
theorem kZ.map {o:Oper} {K K':AV->Ts->Prop} (hk:∀x L,K x L->K' x L) (h:kZ P s L o K):kZ P s L o K':=
 fun cM V A hA n w0 g0 X S g a w hR next Q hn=>h cM V A hA n w0 g0 X S g a w hR next Q fun x L' S' v w' g' h1=>hn x L' S' v w' g' (hk _ _ h1)
theorem kZ.call {o:Oper} {K:AV->Ts->Prop} (h:b9 P s L o K):kZ P s L o K:=by
 intro cM V A hA n w0 g0 X S g a w hR next Q hn;refine qg hR (pK (s:=s) (ow:=false) hA h) _ _ ?_;rintro x V' A' L' S' v w' g' ⟨rfl,rfl,hk⟩ h1 h2 h3 h4 h5 h6 h7;exact hn x L' S' v w' g' hk h1 h2 h3 h4 h5 h6 h7
theorem bU.wp {o:Oper} {x:AV} (h:bU P s L o x) {cM:List (Nat×AV)} {V:List (List CV)} {A:List bu} (hA:RP o cM V A s) (hS:ia g w ⟨cM,V,A⟩ a) (hT:iq w L S) (hn:S.Nodup) {next:Act->World->Prop} {Q:Exit->Act->World->Prop} (hx:∀v,aV g w A x v->next (a.put o.dst v) w):o.wp P a w next Q:=by
 obtain⟨v,h1,h2⟩:=h cM V A hA g a w S hS hT hn;unfold Oper.wp;rw[h2];exact hx v h1
def kR (P:Program) (all:Array Oper) (ow:Nat->Bool) (ws cs ns:List Nat) (K:St->Ts->Prop):Nat->List Oper->St->Ts->Prop
 |_,[],s,L=>K s L
 |i,o::rest,s,L=>gX all s o
   ((i∈cs/\kZ P s L o fun x L'=>kR P all ow ws cs ns K (i+1) rest (s.put o.dst x s.V s.A) L')\/
   (i∉cs/\i∈ns/\∃x,bU P s L o x/\kR P all ow ws cs ns K (i+1) rest (s.put o.dst x s.V s.A) L)\/
   (i∉cs/\i∉ns/\bH P s (ow i) o fun x V A=>(i∈ws\/(V=s.V/\A=s.A))/\kR P all ow ws cs ns K (i+1) rest (s.put o.dst x V A) L))
   (kR P all ow ws cs ns K (i+1) rest (s.put o.dst (.c .undef) s.V s.A) L)
def Gm (P:Program) (all:Array Oper) (ow:Bool) (ns:List Nat) (L:Ts) (j:Nat) (o:Oper) (s s':St):Prop:=
 gX all s o True True/\((gw all s o=true/\((j∈ns/\∃x,s'=s.put o.dst x s.V s.A/\bU P s L o x)\/(j∉ns/\JS P ow o s s')))\/(gw all s o=false/\s'=s.put o.dst (.c .undef) s.V s.A))
theorem me {ow:Nat->Bool} {cs ns:List Nat} {K:St->Ts->Prop}:∀(ops:List Oper) (i:Nat) (s:St) (L:Ts),kR P all ow ws cs ns K i ops s L->
  ∃(τ:Nat->St) (m:Nat),m<=ops.length/\τ 0=s/\(∀(j:Nat) o,j<m->ops[j]? =some o->Gm P all (ow (i+j)) ns L (i+j) o (τ j) (τ (j+1))/\M3 ws (i+j) o (τ j) (τ (j+1)))/\
   ((m=ops.length/\K (τ m) L)\/(i+m∈cs/\∃o,ops[m]? =some o/\gX all (τ m) o True True/\gw all (τ m) o=true/\kZ P (τ m) L o fun x L'=>kR P all ow ws cs ns K (i+m+1) (ops.drop (m+1)) ((τ m).put o.dst x (τ m).V (τ m).A) L'))
 |[],i,s,L,h=>⟨fun _=>s,0,acA _,rfl,fun j o hj=>by omega,.inl ⟨rfl,h⟩⟩
 |o::rest,i,s,L,h=>by
  have step:∀s',Gm P all (ow i) ns L i o s s'->M3 ws i o s s'->kR P all ow ws cs ns K (i+1) rest s' L->∃(τ:Nat->St) (m:Nat),m<=(o::rest).length/\τ 0=s/\(∀(j:Nat) o',j<m->(o::rest)[j]? =some o'->Gm P all (ow (i+j)) ns L (i+j) o' (τ j) (τ (j+1))/\M3 ws (i+j) o' (τ j) (τ (j+1)))/\
   ((m=(o::rest).length/\K (τ m) L)\/(i+m∈cs/\∃o',(o::rest)[m]? =some o'/\gX all (τ m) o' True True/\gw all (τ m) o'=true/\kZ P (τ m) L o' fun x L'=>kR P all ow ws cs ns K (i+m+1) ((o::rest).drop (m+1)) ((τ m).put o'.dst x (τ m).V (τ m).A) L')):=by
   intro s' h1 h2 h3;obtain⟨τ,m,k1,k2,k3,k4⟩:=me rest (i+1) _ L h3;refine⟨fun j=>match j with|0=>s|j+1=>τ j,m+1,by simp;omega,rfl,fun j o' hj ho=>?_,?_⟩
   ·cases j with
    |zero=>
     simp at ho;subst ho;show Gm P all (ow (i+0)) ns L (i+0) o s (τ 0)/\M3 ws (i+0) o s (τ 0);rw[k2];exact⟨h1,h2⟩
    |succ j=>
     simp at ho;have:=k3 j o' (by omega) ho;rwa[show i+1+j=i+(j+1) by omega]at this
   ·rcases k4 with⟨k5,k6⟩|⟨k5,o',k6,k7,k8,k9⟩
    ·exact .inl ⟨by simp[k5],k6⟩
    ·refine .inr ⟨by rw[show i+(m+1)=i+1+m by omega];exact k5,o',by simpa using k6,k7,k8,?_⟩;rw[show i+(m+1)+1=i+1+m+1 by omega];exact k9
  obtain⟨hg,a8⟩:=fO h;rcases hg with⟨g1,h|h|h⟩|⟨g1,h⟩
  ·obtain⟨h1,h2⟩:=h;exact⟨fun _=>s,0,by simp,rfl,fun j o hj=>by omega,.inr ⟨h1,o,rfl,a8,g1,h2⟩⟩
  ·obtain⟨h1,h2,x,h3,h4⟩:=h;exact step _ ⟨a8,.inl ⟨g1,.inl ⟨h2,x,rfl,h3⟩⟩⟩ ⟨x,_,_,rfl,.inr ⟨rfl,rfl⟩⟩ h4
  ·obtain⟨h1,h2,h3⟩:=h;obtain⟨x,V,A,⟨h3,h4⟩,h5⟩:=fU h3;exact step _ ⟨a8,.inl ⟨g1,.inr ⟨h2,x,V,A,rfl,h5⟩⟩⟩ ⟨x,V,A,rfl,h3⟩ h4
  ·exact step _ ⟨a8,.inr ⟨g1,rfl⟩⟩ ⟨_,_,_,rfl,.inr ⟨rfl,rfl⟩⟩ h
set_option maxHeartbeats 2000000 in
theorem Gn {ns:List Nat} {ow:Nat->Bool} (hd:ej all ws=true) (eT:c7 n all.toList=true) {σ:Nat->St} {c:Nat} (hT:FX all ws σ c) {ae:Array Bool} {k0:Nat} (hD:DS all ws σ n w g ae k0 g a w) (gx:k0<=c) (nC:∀i,ae[i]? =some true->i<c)
  {j:Nat} (hj:j∈Region.ready .any all ae) (EG:j<=c) {o:Oper} (ho:all[j]? =some o) {next:Act->World->Prop} {Q:Exit->Act->World->Prop}:
  (j<c->Jb w0 g0 X L S g w->Gm P all (ow j) ns L j o (σ j) (σ (j+1))->(∀k1 v g' w',k1<=c->DS all ws σ n w' g' (ae.setIfInBounds j true) k1 g' (a.put o.dst v) w'->Fr w g w' g'->next (a.put o.dst v) w')->wpOp P all Q j next a w)/\
  (j=c->cL o.op=false->j∉ws->Jb w0 g0 X L S g w->gX all (σ j) o True True->gw all (σ j) o=true->(∀K:AV->Ts->Prop,kZ P (σ j) L o K->(∀x L' S' v g' w',K x L'->(∀σ':Nat->St,(∀i,i<=c->σ' i=σ i)->σ' (c+1)=(σ c).put o.dst x (σ c).V (σ c).A->DS all ws σ' n w' g' (ae.setIfInBounds j true) k0 g' (a.put o.dst v) w')->Jb w0 g0 X L' S' g' w'->next (a.put o.dst v) w')->wpOp P all Q j next a w)):=by
 simp only[ej,acv,acb]at hd;obtain⟨⟨hP,jm⟩,oX⟩:=hd;have cQ:∀(j:Nat) o,all[j]? =some o->(o,j)∈all.toList.zipIdx:=fun j o h=>by
  rw[aci];exact⟨j,by simp[acp,h]⟩
 have cZ:∀(j:Nat) o,all[j]? =some o->∀e∈o.after,Region.binds .any e=true->e.on<j:=fun j o h e he hb=>by
  have:=hP _ (cQ j o h) e (acH.2 he);simpa[hb]using this
 have bY:∀(i j:Nat) oi oj,all[i]? =some oi->all[j]? =some oj->i<j->br all ws (a7 all.toList []) oi oj i j=true:=fun i j oi oj h1 h2 az=>by
  have:=jm _ (cQ j oj h2) _ (cQ i oi h1);simpa[az]using this
 have uX:∀(j:Nat) o,all[j]? =some o->j∈ws->cL o.op=false:=fun j o h hj=>by
  have:=oX _ (cQ j o h);simpa[hj]using this
 have fG:∀(i j:Nat) oi oj d,all[i]? =some oi->all[j]? =some oj->i<j->oi.dst=some d->oj.dst≠some d:=fun i j oi oj d h1 h2 az h3 h4=>by
  have:=bY i j oi oj h1 h2 az;simp[br,h3,h4]at this
 have q0:∀(i j:Nat) oi oj d,all[i]? =some oi->all[j]? =some oj->oi.dst=some d->oj.dst=some d->i=j:=fun i j oi oj d h1 h2 h3 h4=>by
  rcases acC i j with h|h|h
  ·exact absurd h4 (fG i j oi oj d h1 h2 h h3)
  ·exact h
  ·exact absurd h3 (fG j i oj oi d h2 h1 h h4)
 have z8:∀(j:Nat) o d,all[j]? =some o->o.dst=some d->d<n:=fun j o d h1 h2=>by
  have:=acb.1 eT o (by rw[acH];exact Array.mem_of_getElem? h1);simpa[h2]using this
 obtain⟨GJ,_,Bn⟩:=eU all.toList []
 have mO:∀{ae:Array Bool},(∀(i:Nat) o,all[i]? =some o->ae[i]? =some true->∀e∈o.after,Region.binds .any e=true->ae[e.on]? =some true)->
   ∀(i:Nat) o,all[i]? =some o->(∀e∈o.after,Region.binds .any e=true->ae[e.on]? =some true)->∀k,((a7 all.toList []).getD i 0).testBit k=true->ae[k]? =some true:=by
  intro ae kJ i;induction i using acE with
  |_ i ih=>
   intro o ho cz k hk;obtain⟨pre,h1,h2,h3⟩:=Bn i o (by simpa using ho);simp only[acn,acB]at h1 h3;have h4:(a7 all.toList []).getD i 0=mN pre o:=by simp[List.getD,h3]
   rw[h4]at hk;obtain⟨e,he,hb,h5⟩:=fF hk;have s7:=cz e he hb;rcases h5 with rfl|h5
   ·exact s7
   ·have az:=cZ i o ho e he hb;have h6:pre.getD e.on 0=(a7 all.toList []).getD e.on 0:=by simp only[List.getD,h2 e.on (by omega)]
    rw[h6]at h5;have eM:e.on<all.size:=by have:=(acF.1 ho).1;omega
    have uY:all[e.on]? =some all[e.on]:=acG eM;exact ih e.on az _ uY (kJ e.on _ uY s7) k h5
 have Jc:=hT.le;have oR:=hT.Oe;have oS:=hT.Of q0;have tE:=hT.VA;obtain⟨mP,o2,mC,cz⟩:=mem_ready.1 hj;obtain rfl:o=o2:=by rw[ho]at mC;exact Option.some.inj mC
 have mQ:=dZ mP;have rK:j<all.size:=(acF.1 ho).1;have iZ:j<ae.size:=by rw[hD.ey];exact rK
 have cn:∀e∈o.after,Region.binds .any e=true->ae[e.on]? =some true:=fun e he hb=>cy.1 (cz e he hb)
 have ck:∀k,((a7 all.toList []).getD j 0).testBit k=true->ae[k]? =some true:=mO hD.closed j o ho cn;have bV:∀(i:Nat) oi,all[i]? =some oi->ae[i]? =some true->((a7 all.toList []).getD i 0).testBit j=false:=fun i oi aZ bC=>by
  cases hb:((a7 all.toList []).getD i 0).testBit j with
  |false=>rfl
  |true=>have:=mO hD.closed i oi aZ (hD.closed i oi aZ bC) j hb;rw[mQ]at this;simp at this
 have jr:∀t∈o.looksAt all,∀x,look (σ j).fr t=some x->∃u,a.tmps[t]? =some u/\aV g w (σ k0).A x u:=by
  intro t ht x hx;by_cases hex:∃(i:Nat) (oi:Oper),i<j/\all[i]? =some oi/\oi.dst=some t
  ·obtain⟨i,oi,kq,aZ,cg⟩:=hex;rw[oS j i oi t (by omega) kq aZ cg]at hx;have hp:=bY i j oi o aZ ho kq;have tF:dq all oi o=true:=by simp only[dq,cg];simpa using ht
   simp only[br,tF,acv,acw]at hp;have hb:((a7 all.toList []).getD j 0).testBit i=true:=by simpa using hp.2
   exact hD.fP i oi t x aZ (ck i hb) cg hx
  ·rw[oR j t (by omega) (fun i oi kq aZ cg=>hex ⟨i,oi,kq,aZ,cg⟩)]at hx;refine hD.fQ t x (fun i oi aZ bC cg=>?_) hx;rcases acC i j with h|h|h
   ·exact hex ⟨i,oi,h,aZ,cg⟩
   ·subst h;rw[mQ]at bC;simp at bC
   ·have hp:=bY j i o oi ho aZ h;have tF:dq all oi o=true:=by simp only[dq,cg];simpa using ht
    have hb:=bV i oi aZ bC;simp only[br,tF,hb,acv,acw]at hp;simp at hp
 let cM:=(σ j).fr.filter fun p=>(o.looksAt all).contains p.1
 have mD:∀t,look cM t=if(o.looksAt all).contains t then look (σ j).fr t else none:=fun t=>eP (fun t=>(o.looksAt all).contains t) (σ j).fr t
 have hS:∀(V:List (List CV)),ia g w ⟨cM,V,(σ k0).A⟩ a:=fun V t x hx=>by
  simp only[mD]at hx;split at hx
  ·rename_i hc;exact jr t (by simpa using hc) x hx
  ·cases hx
 have gu:∀(V V':List (List CV)) (A A':List bu),∀x∈o.op.operands.toList,bE ⟨cM,V,A⟩ x=bE ⟨(σ j).fr,V',A'⟩ x:=fun V V' A A' x hx=>by
  cases x with
  |tmp t=>
   simp only[bE,mD];rw[if_pos];simp only[Oper.looksAt,acu,decide_eq_true_eq,acf,List.mem_filterMap];exact .inl ⟨.tmp t,hx,rfl⟩
  |_=>rfl
 have gD:Rp n w g ⟨cM,(σ k0).V,(σ k0).A⟩ g a w:=⟨hD.inv,hD.fr,hD.size,hD.defers,hS _⟩;have AF:gX all (σ j) o True True->Region.wanted o (yielded all a.tmps)=gw all (σ j) o:=by
  intro uT;have oT:gX all ⟨cM,(σ k0).V,(σ k0).A⟩ o True True/\gw all ⟨cM,(σ k0).V,(σ k0).A⟩ o=gw all (σ j) o:=by
   unfold gX gw at*;cases nG:o.guard with
   |none=>simp
   |some jw=>
    obtain⟨q,want⟩:=jw;simp only[nG]at uT⊢;obtain⟨oq,h1,h2⟩:=cv uT;obtain⟨t,h3,h4⟩:=cv h2;have:look cM t=look (σ j).fr t:=by
     rw[mD,if_pos];simp only[Oper.looksAt,nG,acu,decide_eq_true_eq,acf];exact .inr (by simp[h1,h3])
    simp only[h1,bS,h3,acJ,this]at h4⊢;exact⟨h4,trivial⟩
  rw[<-oT.2];have h1:=oT.1;unfold gX at h1;unfold gw;cases nG:o.guard with
  |none=>simp[Region.wanted,nG]
  |some jw=>
   obtain⟨q,want⟩:=jw;simp only[nG]at h1⊢;obtain⟨oq,h2,h3⟩:=cv h1;obtain⟨t,h4,h5⟩:=cv h3;obtain⟨x,h6,h7⟩:=cv h5;obtain⟨h8,h9⟩:=jq gD h2 h4 h6;simp only[h2,acJ,h4,h6];split at h7
   ·rename_i b;simp[Region.wanted,nG,h8 b rfl]
   ·simp[Region.wanted,nG,h9 rfl]
   ·exact h7.elim
 have bN:∀i,(ae.setIfInBounds j true)[i]? =if i=j then some true else ae[i]? :=fun i=>by
  by_cases e:i=j
  ·subst e;simp[iZ]
  ·rw[if_neg e,acI (fun h=>e h.symm)]
 have cJ:∀(σ':Nat->St) (k1:Nat) (x:AV) (v:Value) (w':World) (g':Gh),(∀i,i<=c->σ' i=σ i)->look (σ' (j+1)).fr=look ((σ j).put o.dst x [] []).fr->aV g' w' (σ k1).A x v->Inv g' w' (σ k1).V (σ k1).A->Ext g w (σ k0).A g' w' (σ k1).A->AZ w' g'->k1<=c->
   (∀i∈ws,i<all.size->((ae.setIfInBounds j true)[i]? =some true↔i<k1))->DS all ws σ' n w' g' (ae.setIfInBounds j true) k1 g' (a.put o.dst v) w':=by
  intro σ' k1 x v w' g' hσ CN yy hI hx hF hk Fw;have iH:∀t u,o.dst≠some t->a.tmps[t]? =some u->(a.put o.dst v).tmps[t]? =some u:=fun t u dc hu=>by
   cases rI:o.dst with
   |none=>exact hu
   |some d=>
    simp only[Act.put];rw[acI (fun e=>dc (by rw[rI,e]))];exact hu
  refine⟨by rw[hσ k1 hk];exact hI,.refl hF,?_,?_,by simp[hD.ey],fun i oi t y aZ bC cg hy=>?_,fun t y fe hy=>?_,Fw,by omega,fun i oi aZ bC e he hb=>?_⟩
  ·cases o.dst<;>simp[Act.put,hD.size]
  ·cases o.dst<;>simp[Act.put,hD.defers]
  ·rw[hσ k1 hk];rw[bN]at bC;by_cases e:i=j
   ·subst e;obtain rfl:o=oi:=by rw[ho]at aZ;exact Option.some.inj aZ
    rw[CN]at hy;simp only[St.put,cg,look,if_true]at hy;cases hy
    refine⟨v,?_,yy⟩;have:t<a.tmps.size:=by rw[hD.size];exact z8 i o t ho cg
    simp[Act.put,cg,this]
   ·rw[if_neg e]at bC;rw[hσ (i+1) (nC i bC)]at hy;obtain⟨u,h1,h2⟩:=hD.fP i oi t y aZ bC cg hy;exact⟨u,iH t u (fun h=>e (q0 i j oi o t aZ ho cg h)) h1,aV.ext hx h2⟩
  ·rw[hσ k1 hk];rw[hσ 0 (acD _)]at hy;have dc:o.dst≠some t:=fe j o ho (by rw[bN,if_pos rfl]);obtain⟨u,h1,h2⟩:=hD.fQ t y (fun i oi aZ bC=>fe i oi aZ (by
    rw[bN];by_cases e:i=j
    ·rw[if_pos e]
    ·rw[if_neg e];exact bC)) hy
   exact⟨u,iH t u dc h1,aV.ext hx h2⟩
  ·rw[bN]at bC⊢;have:ae[e.on]? =some true:=by
    by_cases e':i=j
    ·subst e';obtain rfl:o=oi:=by rw[ho]at aZ;exact Option.some.inj aZ
     exact cn e he hb
    ·rw[if_neg e']at bC;exact hD.closed i oi aZ bC e he hb
   by_cases e':e.on=j
   ·rw[if_pos e']
   ·rw[if_neg e'];exact this
 have gN:j∉ws->∀i∈ws,i<all.size->((ae.setIfInBounds j true)[i]? =some true↔i<k0):=fun ef i hi bZ=>by
  rw[bN,if_neg (fun e=>ef (by rw[<-e];exact hi))];exact hD.dY i hi bZ
 have kM:cL o.op=false->(σ j).V=(σ k0).V/\(σ j).A=(σ k0).A:=by
  intro fx;rcases Nat.le_total j k0 with h|h
  ·have:=tE k0 j h gx (fun i h1 h2 h3=>by
    have bZ:i<all.size:=by omega
    have bC:=(hD.dY i h3 bZ).2 h2;have aZ:all[i]? =some all[i]:=acG bZ;rcases acz j i with h4|h4
    ·have hp:=bY j i o _ ho aZ h4;have hb:=bV i _ aZ bC;simp only[br,hb,acv,acw]at hp;simp[h3,fx,-cL]at hp
    ·obtain rfl:i=j:=by omega
     rw[mQ]at bC;simp at bC)
   exact⟨this.1.symm,this.2.symm⟩
  ·exact tE j k0 h EG (fun i h1 h2 h3=>by
    have bZ:i<all.size:=by omega
    have aZ:all[i]? =some all[i]:=acG bZ;have hp:=bY i j _ o aZ ho h2;simp only[br,acv,acw]at hp;have hb:((a7 all.toList []).getD j 0).testBit i=true:=by
     rcases hp.2 with h4|h4
     ·simp[h3,fx,-cL]at h4
     ·exact h4
    have:=(hD.dY i h3 bZ).1 (ck i hb);omega)
 unfold wpOp;simp only[ho];refine⟨fun lN hJ kn ih=>?_,fun lN fx ef hJ uT a8 K ic ih=>?_⟩
 ·obtain⟨uT,kn⟩:=kn;obtain⟨x2,V2,A2,q1,q2⟩:=hT.tr j o lN ho;rcases kn with⟨a8,kn|⟨RQ,kn⟩⟩|⟨U7,kn⟩
  ·-- a look
   obtain⟨RQ,x,h2,h3⟩:=kn;rw[AF uT,if_pos a8];have oV:look (σ (j+1)).fr=look ((σ j).put o.dst x [] []).fr:=by rw[h2];rfl
   by_cases ef:j∈ws
   ·refine .inl (h3.wp (V:=(σ k0).V) (gu _ _ _ _) (hS _) hJ.nq hJ.nd fun v h6=>?_);by_cases hs:cL o.op=true
    ·have:=uX j o ho ef;rw[hs]at this;simp at this
    ·have fx:cL o.op=false:=by simpa[-cL]using hs
     obtain⟨kC,gY⟩:=kM fx;have e1:(σ (j+1)).V=(σ k0).V:=by rw[h2];exact kC
     have e2:(σ (j+1)).A=(σ k0).A:=by rw[h2];exact gY
     refine ih (j+1) v g w lN (cJ σ (j+1) x v w g (fun _ _=>rfl) oV (by rw[e2];exact h6) (by rw[e1,e2];exact hD.inv) (by rw[e2];exact .refl _ _ _) hD.fr.now lN (fun i hi bZ=>?_)) (.refl hD.fr.now);have aZ:all[i]? =some all[i]:=acG bZ;rw[bN];by_cases e:i=j
     ·subst e;simp
     ·rw[if_neg e];constructor
      ·intro bC;rcases acz j i with h|h
       ·have hp:=bY j i o _ ho aZ h;have hb:=bV i _ aZ bC;simp only[br,hb,acv,acw]at hp;simp[hi,fx,-cL]at hp
       ·omega
      ·intro az;have hp:=bY i j _ o aZ ho (by omega);simp only[br,acv,acw]at hp;rcases hp.2 with h|h
       ·simp[hi,fx,-cL]at h
       ·exact ck i h
   ·refine .inl (h3.wp (V:=(σ k0).V) (gu _ _ _ _) (hS _) hJ.nq hJ.nd fun v h6=>?_);exact ih k0 v g w gx (cJ σ k0 x v w g (fun _ _=>rfl) oV h6 hD.inv (.refl _ _ _) hD.fr.now gx (gN ef)) (.refl hD.fr.now)
  ·rw[AF uT,if_pos a8];refine .inl ?_;obtain⟨x,V,A,h2,h3⟩:=kn;have oV:look (σ (j+1)).fr=look ((σ j).put o.dst x [] []).fr:=by rw[h2];rfl
   by_cases hs:cL o.op=true
   ·-- slots alone
    have ef:j∉ws:=fun h=>by have:=uX j o ho h;rw[hs]at this;simp at this
    have h4:bH P ⟨cM,(σ k0).V,(σ k0).A⟩ (ow j) o (fun y V' A'=>y=x/\V'=(σ k0).V/\A'=(σ k0).A):=nE (s:=σ j) (s':=⟨cM,(σ k0).V,(σ k0).A⟩) hs (gu _ _ _ _) h3 ⟨rfl,rfl,rfl⟩;obtain⟨y,V',A',⟨rfl,rfl,rfl⟩,h5⟩:=db gD.inv gD.fr gD.slot h4;exact h5 _ _ fun v w' g' h6 h7 h8 h9=>ih k0 v g' w' gx (cJ σ k0 y v w' g' (fun _ _=>rfl) oV h6 h7 h8 h9.now gx (gN ef)) h9
   ·have fx:cL o.op=false:=by simpa[-cL]using hs
    obtain⟨kC,gY⟩:=kM fx;have h4:bH P ⟨cM,(σ k0).V,(σ k0).A⟩ (ow j) o (fun y V' A'=>y=x/\V'=V/\A'=A):=by
     rw[<-kC,<-gY];exact dX (fr:=(σ j).fr) (gu _ _ _ _) (h3 _ ⟨rfl,rfl,rfl⟩)
    obtain⟨y,V',A',⟨rfl,rfl,rfl⟩,h5⟩:=db gD.inv gD.fr gD.slot h4;have s8:(σ (j+1)).V=V':=by rw[h2];rfl
    have iW:(σ (j+1)).A=A':=by rw[h2];rfl
    by_cases ef:j∈ws
    ·refine h5 _ _ fun v w' g' h6 h7 h8 h9=>ih (j+1) v g' w' lN (cJ σ (j+1) y v w' g' (fun _ _=>rfl) oV (by rw[iW];exact h6) (by rw[s8,iW];exact h7) (by rw[iW];exact h8) h9.now lN (fun i hi bZ=>?_)) h9
     have aZ:all[i]? =some all[i]:=acG bZ;rw[bN];by_cases e:i=j
     ·subst e;simp
     ·rw[if_neg e];constructor
      ·intro bC;rcases acz j i with h|h
       ·have hp:=bY j i o _ ho aZ h;have hb:=bV i _ aZ bC;simp only[br,hb,acv,acw]at hp;simp[hi,fx,-cL]at hp
       ·omega
      ·intro az;have hp:=bY i j _ o aZ ho (by omega);simp only[br,acv,acw]at hp;rcases hp.2 with h|h
       ·simp[hi,fx,-cL]at h
       ·exact ck i h
    ·obtain⟨x2,V2,A2,q1,q2⟩:=hT.tr j o lN ho;rcases q2 with q2|⟨q2,q3⟩
     ·exact absurd q2 ef
     have pZ:(σ (j+1)).V=(σ j).V:=by rw[q1];exact q2
     have mC:(σ (j+1)).A=(σ j).A:=by rw[q1];exact q3
     refine h5 _ _ fun v w' g' h6 h7 h8 h9=>ih k0 v g' w' gx (cJ σ k0 y v w' g' (fun _ _=>rfl) oV ?_ ?_ ?_ h9.now gx (gN ef)) h9
     ·rw[<-gY,<-mC,iW];exact h6
     ·rw[<-kC,<-gY,<-pZ,<-mC,s8,iW];exact h7
     ·have e1:(σ k0).A=A':=by rw[<-gY,<-mC,iW]
      rw[e1]at h8⊢;exact h8
  ·rw[AF uT,if_neg (by rw[U7];simp)];have oV:look (σ (j+1)).fr=look ((σ j).put o.dst (.c .undef) [] []).fr:=by rw[kn];rfl
   by_cases ef:j∈ws
   ·by_cases hs:cL o.op=true
    ·have:=uX j o ho ef;rw[hs]at this;simp at this
    ·have fx:cL o.op=false:=by simpa[-cL]using hs
     obtain⟨kC,gY⟩:=kM fx;have e1:(σ (j+1)).V=(σ k0).V:=by rw[kn];exact kC
     have e2:(σ (j+1)).A=(σ k0).A:=by rw[kn];exact gY
     refine ih (j+1) undef g w lN (cJ σ (j+1) (.c .undef) undef w g (fun _ _=>rfl) oV rfl (by rw[e1,e2];exact hD.inv) (by rw[e2];exact .refl _ _ _) hD.fr.now lN (fun i hi bZ=>?_)) (.refl hD.fr.now);have aZ:all[i]? =some all[i]:=acG bZ;rw[bN];by_cases e:i=j
     ·subst e;simp
     ·rw[if_neg e];constructor
      ·intro bC;rcases acz j i with h|h
       ·have hp:=bY j i o _ ho aZ h;have hb:=bV i _ aZ bC;simp only[br,hb,acv,acw]at hp;simp[hi,fx,-cL]at hp
       ·omega
      ·intro az;have hp:=bY i j _ o aZ ho (by omega);simp only[br,acv,acw]at hp;rcases hp.2 with h|h
       ·simp[hi,fx,-cL]at h
       ·exact ck i h
   ·exact ih k0 undef g w gx (cJ σ k0 (.c .undef) undef w g (fun _ _=>rfl) oV rfl hD.inv (.refl _ _ _) hD.fr.now gx (gN ef)) (.refl hD.fr.now)
 ·rw[AF uT,if_pos a8];refine .inl ?_;subst lN;have Og:rh n w0 g0 X ⟨cM,(σ k0).V,(σ k0).A⟩ L S g a w:=⟨hD.inv,hJ.fr,hD.size,hD.defers,hS _,hJ.nq,hJ.nd,hJ.out⟩;obtain⟨kC,gY⟩:=kM fx;refine ic cM _ _ (gu _ _ _ _) n w0 g0 X S g a w Og _ _ ?_;rintro x L' S' v w' g' hk h6 h7 h8 h9 cE ev fM;refine ih x L' S' v g' w' hk (fun σ' hσ hn=>cJ σ' k0 x v w' g' hσ (by rw[hn];rfl) h6 h7 h8 h9.now gx (gN ef)) ⟨h9,cE,ev,fM⟩
def lD (all:Array Oper) (ws cs ns:List Nat):Bool:=
 let l:=all.toList.zipIdx
 let ms:=a7 all.toList []
 (cs.all fun c=> !ws.contains c &&(l.all fun(_,j)=> !(decide (c<j))||(ms.getD j 0).testBit c)&&(ns.all fun j=> !(decide (j<c))||(ms.getD c 0).testBit j))&&(l.all fun(o,j)=> !cs.contains j|| !cL o.op)
set_option maxHeartbeats 2000000 in
theorem vA {cs ns:List Nat} {ow:Nat->Bool} {K:St->Ts->Prop} {Q:Exit->Act->World->Prop} (hd:ej all ws=true) (hc:lD all ws cs ns=true) (eT:c7 n all.toList=true)
  (hQ:∀s' L' S' g' a' w',K s' L'->rh n w0 g0 X s' L' S' g' a' w'->Q .normal a' w'):
  ∀(fuel:Nat) (σ:Nat->St) (c:Nat) (L:Ts) (S:List Nat) (ae:Array Bool) (k0:Nat) (g:Gh) (a:Act) (w:World),((ab8 all.size).filter fun i=> !ae.getD i true).length<=fuel->FX all ws σ c->k0<=c->
   (∀(j:Nat) o,j<c->all[j]? =some o->ae[j]? ≠some true->Gm P all (ow j) ns L j o (σ j) (σ (j+1)))->(∀i,ae[i]? =some true->i<c)->
   ((c=all.size/\K (σ c) L)\/(c∈cs/\∃o,all[c]? =some o/\gX all (σ c) o True True/\gw all (σ c) o=true/\kZ P (σ c) L o fun x L'=>kR P all ow ws cs ns K (c+1) (all.toList.drop (c+1)) ((σ c).put o.dst x (σ c).V (σ c).A) L'))->
   DS all ws σ n w g ae k0 g a w->Jb w0 g0 X L S g w->wpAny P .any all Q fuel ae a w:=by
 have I9:=hd;simp only[ej,acv,acb]at hd;obtain⟨⟨hP,jm⟩,oX⟩:=hd;have cQ:∀(j:Nat) o,all[j]? =some o->(o,j)∈all.toList.zipIdx:=fun j o h=>by
  rw[aci];exact⟨j,by simp[acp,h]⟩
 have cZ:∀(j:Nat) o,all[j]? =some o->∀e∈o.after,Region.binds .any e=true->e.on<j:=fun j o h e he hb=>by
  have:=hP _ (cQ j o h) e (acH.2 he);simpa[hb]using this
 have bY:∀(i j:Nat) oi oj,all[i]? =some oi->all[j]? =some oj->i<j->br all ws (a7 all.toList []) oi oj i j=true:=fun i j oi oj h1 h2 az=>by
  have:=jm _ (cQ j oj h2) _ (cQ i oi h1);simpa[az]using this
 have uX:∀(j:Nat) o,all[j]? =some o->j∈ws->cL o.op=false:=fun j o h hj=>by
  have:=oX _ (cQ j o h);simpa[hj]using this
 have fG:∀(i j:Nat) oi oj d,all[i]? =some oi->all[j]? =some oj->i<j->oi.dst=some d->oj.dst≠some d:=fun i j oi oj d h1 h2 az h3 h4=>by
  have:=bY i j oi oj h1 h2 az;simp[br,h3,h4]at this
 have q0:∀(i j:Nat) oi oj d,all[i]? =some oi->all[j]? =some oj->oi.dst=some d->oj.dst=some d->i=j:=fun i j oi oj d h1 h2 h3 h4=>by
  rcases acC i j with h|h|h
  ·exact absurd h4 (fG i j oi oj d h1 h2 h h3)
  ·exact h
  ·exact absurd h3 (fG j i oj oi d h2 h1 h h4)
 simp only[lD,acv,acb]at hc;obtain⟨uO,Oh⟩:=hc;have JT:∀c∈cs,c∉ws:=fun c h=>by simpa using(uO c h).1.1
 have Oi:∀c∈cs,∀o,all[c]? =some o->cL o.op=false:=fun c h o ho=>by
  have:=Oh _ (cQ c o ho);simpa[h,-cL]using this
 have Oj:∀c∈cs,∀(j:Nat) o,all[j]? =some o->c<j->((a7 all.toList []).getD j 0).testBit c=true:=fun c h j o ho az=>by
  have:=(uO c h).1.2 _ (cQ j o ho);simpa[az]using this
 have J7:∀c∈cs,∀j∈ns,j<c->((a7 all.toList []).getD c 0).testBit j=true:=fun c h j hj az=>by
  have:=(uO c h).2 j hj;simpa[az]using this
 have pE:∀{ae:Array Bool},Region.ready .any all ae=[]->ae.size=all.size->∀i,i<all.size->ae[i]? =some true:=by
  intro ae hr vO i;induction i using acE with
  |_ i ih=>
   intro hi;have ho:all[i]? =some all[i]:=acG hi;have bC:i<ae.size:=by omega
   cases hl:ae[i]with
   |true=>rw[acG bC,hl]
   |false=>
    exfalso
    have:i∈Region.ready .any all ae:=mem_ready.2 ⟨by simp[bC,hl],_,ho,fun e he hb=>cy.2 (ih e.on (cZ i _ ho e he hb) (by have:=cZ i _ ho e he hb;omega))⟩;rw[hr]at this;simp at this
 have lJ:∀{σ:Nat->St} {c:Nat} {L:Ts} {S:List Nat} {ae:Array Bool} {k0:Nat} {g:Gh} {a:Act} {w:World},FX all ws σ c->(∀i,ae[i]? =some true->i<c)->
   ((c=all.size/\K (σ c) L)\/(c∈cs/\∃o,all[c]? =some o/\gX all (σ c) o True True/\gw all (σ c) o=true/\kZ P (σ c) L o fun x L'=>kR P all ow ws cs ns K (c+1) (all.toList.drop (c+1)) ((σ c).put o.dst x (σ c).V (σ c).A) L'))->
   DS all ws σ n w g ae k0 g a w->Jb w0 g0 X L S g w->Region.ready .any all ae=[]->Q .normal a w:=by
  intro σ c L S ae k0 g a w hT nC hK hD hJ hr;have df:=pE hr hD.ey;rcases hK with⟨rfl,hK⟩|⟨pH,o,ho,_⟩
  ·exact hQ _ _ _ _ _ _ hK (zu I9 hT hD df hJ)
  ·have bZ:=(acF.1 ho).1;have:=nC c (df c bZ);omega
 intro fuel;induction fuel with
 |zero=>
  intro σ c L S ae k0 g a w hf hT gx rl nC hK hD hJ;have lL:Region.ready .any all ae=[]:=by
   have h0:((ab8 all.size).filter fun i=> !ae.getD i true)=[]:=List.eq_nil_of_length_eq_zero (by omega);rcases hr:Region.ready .any all ae with _|⟨j,r⟩
   ·rfl
   ·have hj:j∈Region.ready .any all ae:=by rw[hr];simp
    obtain⟨h1,o,h2,_⟩:=mem_ready.1 hj;have:j∈((ab8 all.size).filter fun i=> !ae.getD i true):=by
     rw[List.mem_filter,ach];exact⟨(acF.1 h2).1,by simp[h1]⟩
    rw[h0]at this;simp at this
  exact⟨lL,lJ hT nC hK hD hJ lL⟩
 |succ fuel ih=>
  intro σ c L S ae k0 g a w hf hT gx rl nC hK hD hJ;refine⟨fun hr=>lJ hT nC hK hD hJ hr,fun j hj=>?_⟩;obtain⟨mP,o,ho,cz⟩:=mem_ready.1 hj;have mQ:=dZ mP;have rK:j<all.size:=(acF.1 ho).1;have iZ:j<ae.size:=by rw[hD.ey];exact rK
  have cn:∀e∈o.after,Region.binds .any e=true->ae[e.on]? =some true:=fun e he hb=>cy.1 (cz e he hb)
  have bN:∀i,(ae.setIfInBounds j true)[i]? =if i=j then some true else ae[i]? :=fun i=>by
   by_cases e:i=j
   ·subst e;simp[iZ]
   ·rw[if_neg e,acI (fun h=>e h.symm)]
  have cW:((ab8 all.size).filter fun i=> !(ae.setIfInBounds j true).getD i true).length<=fuel:=by
   have az:((ab8 all.size).filter fun i=> !(ae.setIfInBounds j true).getD i true).length<((ab8 all.size).filter fun i=> !ae.getD i true).length:=by
    have gq:∀i,(!(ae.setIfInBounds j true).getD i true)=true->(!ae.getD i true)=true:=fun i h=>by
     by_cases e:i=j
     ·subst e;simp[iZ]at h
     ·have:(ae.setIfInBounds j true).getD i true=ae.getD i true:=by
       simp only[Array.getD_eq_getD_getElem?,bN,if_neg e]
      rwa[this]at h
    exact filter_lt gq (ach.2 rK) (by simp[mP]) (by simp[iZ])
   omega
  have EG:j<=c:=by
   rcases hK with⟨rfl,_⟩|⟨pH,oc,EH,_⟩
   ·omega
   ·rcases acz c j with h|h
    ·have:=nC c (nP cZ hD.closed j o ho cn c (Oj c pH j o ho h));omega
    ·exact h
  obtain⟨one1,one2⟩:=Gn (ns:=ns) (w0:=w0) (g0:=g0) (X:=X) (L:=L) (S:=S) (ow:=ow) I9 eT hT hD gx nC hj EG ho (next:=wpAny P .any all Q fuel (ae.setIfInBounds j true)) (Q:=Q);rcases Nat.lt_or_eq_of_le EG with az|rfl
  ·refine one1 az hJ (rl j o az ho (by rw[mQ];simp)) fun k1 v g' w' oD JG hF=>ih σ c L S _ k1 g' _ w' cW hT oD (fun i oi hi aZ bC=>rl i oi hi aZ fun h=>bC ?_) (fun i hi=>?_) hK JG (hJ.cM hF)
   ·rw[bN];by_cases e:i=j
    ·rw[if_pos e]
    ·rw[if_neg e];exact h
   ·rw[bN]at hi;by_cases e:i=j
    ·subst e;exact az
    ·rw[if_neg e]at hi;exact nC i hi
  ·rcases hK with⟨h,_⟩|⟨pH,oc,EH,U8,RR,ic⟩
   ·omega
   obtain rfl:o=oc:=by rw[ho]at EH;exact Option.some.inj EH
   refine one2 rfl (Oi j pH o ho) (JT j pH) hJ U8 RR _ ic fun x L' S' v g' w' hk Ok Ol=>?_
   obtain⟨τ,m,k1,k2,k3,k4⟩:=me _ _ _ _ hk;have hlen:(all.toList.drop (j+1)).length=all.size-(j+1):=by simp
   let σ':Nat->St:=fun i=>if i<=j then σ i else τ (i-(j+1))
   have e1:∀i,i<=j->σ' i=σ i:=fun i hi=>by simp only[σ',if_pos hi]
   have e2:∀i,σ' (j+1+i)=τ i:=fun i=>by simp only[σ',if_neg (show¬j+1+i<=j by omega)];congr 1;omega
   have e3:∀i,(all.toList.drop (j+1))[i]? =all[j+1+i]? :=fun i=>by simp
   have j3:σ' (j+1)=(σ j).put o.dst x (σ j).V (σ j).A:=by rw[<-k2];exact e2 0
   refine ih σ' (j+1+m) L' S' _ k0 g' _ w' cW ⟨by omega,fun i oi hi aZ=>?_⟩ (by omega) (fun i oi hi aZ bC=>?_) (fun i hi=>?_) ?_ (Ok σ' e1 j3) Ol
   ·rcases acC i j with h|h|h
    ·rw[e1 i (by omega),e1 (i+1) (by omega)];exact hT.tr i oi h aZ
    ·subst h;obtain rfl:o=oi:=by rw[ho]at aZ;exact Option.some.inj aZ
     rw[e1 i (by omega),j3];exact⟨x,_,_,rfl,.inr ⟨rfl,rfl⟩⟩
    ·obtain⟨q,rfl⟩:∃q,i=j+1+q:=⟨i-(j+1),by omega⟩;rw[e2 q,show j+1+q+1=j+1+(q+1) by omega,e2 (q+1)];exact(k3 q oi (by omega) (by rw[e3];exact aZ)).2
   ·rw[bN]at bC;by_cases e:i=j
    ·rw[if_pos e]at bC;simp at bC
    ·rw[if_neg e]at bC;rcases acz i j with h|h
     ·rw[e1 i (by omega),e1 (i+1) (by omega)];obtain⟨d1,d2⟩:=rl i oi h aZ bC;refine⟨d1,?_⟩;rcases d2 with⟨d3,⟨d4,_⟩|d4⟩|d2
      ·exact absurd (nP cZ hD.closed j o ho cn i (J7 j pH i d4 h)) bC
      ·exact .inl ⟨d3,.inr d4⟩
      ·exact .inr d2
     ·obtain⟨q,rfl⟩:∃q,i=j+1+q:=⟨i-(j+1),by omega⟩;rw[e2 q,show j+1+q+1=j+1+(q+1) by omega,e2 (q+1)];exact(k3 q oi (by omega) (by rw[e3];exact aZ)).1
   ·rw[bN]at hi;by_cases e:i=j
    ·omega
    ·rw[if_neg e]at hi;have:=nC i hi;omega
   ·rcases k4 with⟨h1,h2⟩|⟨h1,oc,h2,h4,h5,h3⟩
    ·exact .inl ⟨by omega,by rw[e2];exact h2⟩
    ·refine .inr ⟨h1,oc,by rw[<-e3];exact h2,?_⟩;rw[e2];rw[List.drop_drop,show j+1+(m+1)=j+1+m+1 by omega]at h3;exact⟨h4,h5,h3⟩
theorem TJ.sX {Q:Exit->St->Ts->Prop} {id:Nat} {l:List Oper} (hm:P.follows .mixedOrders=true) (ow:Nat->Bool) (ws cs ns:List Nat) (hd:ej l.toArray ws=true) (hc:lD l.toArray ws cs ns=true)
  (h:kR P l.toArray ow ws cs ns (fun s' L'=>Q .normal s' L') 0 l s L):TJ P n (.region id l.toArray true) Q s L:=by
 intro eK w0 g0 X S g a w hR;have Dy:c7 n l.toArray.toList=true:=by simpa[codeOk]using eK
 obtain⟨τ,m,k1,k2,k3,k4⟩:=me l 0 s L h;obtain⟨hI,hx⟩:=hR.inv.heap (w':={w with drawn:=w.drawn+1}) rfl;have hF:Fr w g {w with drawn:=w.drawn+1} g:=(Fr.refl hR.fr.now).heap rfl rfl rfl rfl;have hJ:Jb w0 g0 X L S g {w with drawn:=w.drawn+1}:=(Jb.mk hR.fr hR.nq hR.nd hR.out).cM hF;have wA:∀(i:Nat),l.toArray[i]? =l[i]? :=fun i=>by simp
 refine wp_region_any hm (vA (K:=fun s' L'=>Q .normal s' L') (ow:=ow) hd hc Dy (fun s' L' S' g' a' w' h1 h2=>⟨s',g',L',S',h1,h2⟩) _ τ m L S (Array.replicate l.toArray.size false) 0 g a _ ?_ ?_ (acD _) ?_ ?_ ?_ ?_ hJ)
 ·refine Nat.le_trans (List.length_filter_le _ _) (by simp)
 ·refine⟨by simpa using k1,fun j o hj ho=>?_⟩;have:=(k3 j o hj (by rw[wA]at ho;exact ho)).2;simpa only[acB]using this
 ·intro j o hj ho _;have:=(k3 j o hj (by rw[wA]at ho;exact ho)).1;simpa only[acB]using this
 ·intro i hi;have AU:=(acF.1 hi).1;simp at AU;simp[AU]at hi
 ·rcases k4 with⟨h1,h2⟩|⟨h1,oc,h2,h4,h5,h3⟩
  ·exact .inl ⟨by rw[h1];simp,h2⟩
  ·refine .inr ⟨by simpa using h1,oc,by rw[wA];exact h2,h4,h5,?_⟩;simp only[acB]at h3;exact h3
 ·refine⟨by rw[k2];exact hI,.refl hF.now,hR.size,hR.defers,by simp,fun i o t x ho hl=>?_,fun t x _ gp=>?_,fun i _ bZ=>?_,acD _,fun i o ho hl=>?_⟩
  ·have hi:=(acF.1 hl).1;simp at hi;simp[hi]at hl
  ·rw[k2]at gp⊢;obtain⟨u,h1,h2⟩:=hR.slot t x gp;exact⟨u,h1,aV.ext hx h2⟩
  ·simp at bZ;simp[bZ]
  ·have hi:=(acF.1 hl).1;simp at hi;simp[hi]at hl
structure iV (P:Program) (all:Array Oper) (ow:Nat->Bool) (ws cs ns:List Nat) (K:St->Ts->Prop) (i:Nat) (ops:List Oper) (s:St) (L:Ts):Prop where
 mk::
 run:kR P all ow ws cs ns K i ops s L
theorem TJ.Cs {Q:Exit->St->Ts->Prop} {id:Nat} {l:List Oper} (hm:P.follows .mixedOrders=true) (ow:Nat->Bool) (ws cs ns:List Nat) (hd:ej l.toArray ws=true) (hc:lD l.toArray ws cs ns=true)
  (h:∀K:St->Ts->Prop,(∀s' L',TJ P n y Q s' L'->K s' L')->iV P l.toArray ow ws cs ns K 0 l s L):TJ P n (.seq (.region id l.toArray true) y) Q s L:=
 TJ.seq (TJ.sX hm ow ws cs ns hd hc (h _ fun _ _ h=>h).run)
theorem TJ.Ki {Q:Exit->St->Ts->Prop} {id:Nat} {l:List Oper} (hm:P.follows .mixedOrders=true) (ow:Nat->Bool) (ws cs ns:List Nat) (hd:ej l.toArray ws=true) (hc:lD l.toArray ws cs ns=true)
  (h:∀K:St->Ts->Prop,(∀s' L',Q .normal s' L'->K s' L')->iV P l.toArray ow ws cs ns K 0 l s L):TJ P n (.region id l.toArray true) Q s L:=
 TJ.sX hm ow ws cs ns hd hc (h _ fun _ _ h=>h).run
variable {ow:Nat->Bool} {cs ns:List Nat} {K:St->Ts->Prop} {i:Nat} {o:Oper} {rest:List Oper}
theorem dB (hi:cs.contains i=false) (hn:ns.contains i=false) (h:gX all s o (bH P s (ow i) o fun x V A=>(i∈ws\/(V=s.V/\A=s.A))/\iV P all ow ws cs ns K (i+1) rest (s.put o.dst x V A) L) (iV P all ow ws cs ns K (i+1) rest (s.put o.dst (.c .undef) s.V s.A) L)):iV P all ow ws cs ns K i (o::rest) s L:=
 ⟨nI (fun h=>.inr (.inr ⟨by simpa using hi,by simpa using hn,fV (fun x V A h=>⟨h.1,h.2.run⟩) h⟩)) (fun h=>h.run) h⟩
theorem c5 (h:K s L):iV P all ow ws cs ns K i [] s L:=⟨h⟩
theorem iV.gen {ops:List Oper} {d:Nat} {b:Bool} {fr:List (Nat×AV)} {V:List (List CV)} {A:List bu} (h:∀q:Bool,b=q->iV P all ow ws cs ns K i ops ⟨(d,.c (.d (.bool q)))::fr,V,A⟩ L):iV P all ow ws cs ns K i ops ⟨(d,.c (.d (.bool b)))::fr,V,A⟩ L:=h b rfl
@[congr] theorem Mn {i i':Nat} {ops:List Oper} (hi:i=i') (h:s=s'):iV P all ow ws cs ns K i ops s L=iV P all ow ws cs ns K i' ops s' L:=by rw[h,hi]
theorem bL {all:Array Oper} {x:AV} (hg:gX all s o True False) (h:bU P s L o x) (hK:j9 P n all ow K (i+1) rest (s.put o.dst x s.V s.A) L):j9 P n all ow K i (o::rest) s L:=by
 refine⟨fun hd w0 g0 X S g a w Q hR hQ=>?_⟩;simp only[c7,acd,acv]at hd;have eT:∀d,o.dst=some d->d<n:=fun d e=>by have:=hd.1;rw[e]at this;simpa using this
 unfold wpList;rcases p8 hR.rp hg with⟨h1,_⟩|⟨_,h2⟩
 ·rw[if_pos h1];exact .inl (h.wp (fun x _=>rfl) hR.slot hR.nq hR.nd fun v hv=>hK.run hd.2 w0 g0 X S g _ w Q (hR.put eT hv hR.inv (.refl _ _ _) hR.fr hR.nq hR.nd hR.out) hQ)
 ·exact h2.elim
theorem bU.field {t:TypeId} {d:TD} {x:Operand} {f off sz:Nat} {T:TypeId} {row:List DV} {pv:Value} (ho:o.op=.fieldAddr t x f) (hd:td P t=some d) (hf:d.fl[f]? =some (off,sz)) (eM:sz≠0)
  (hx:bE s x=some (.c (.d (.raw pv)))) (hm:(.n T row,pv)∈L):bU P s L o (.c (.d (.raw (fp pv off)))):=by
 intro cM V A hA g a w S hS hT _;have gp:bE ⟨cM,V,A⟩ x=some (.c (.d (.raw pv))):=(hA x (by simp[ho,Op.operands])).trans hx;have hv:=aJ hS gp;simp only[aV,dD,bm,bh]at hv;obtain⟨b,xs,rfl,_⟩:=hT.node hm;refine⟨.pointer (some ⟨b,0+off,none⟩),⟨rfl,rfl⟩,?_⟩;rw[execOp,ho];exact bp (by rw[hv.1];exact o7 hd hf eM b 0)
theorem bU.nilCheck {x:Operand} {T:TypeId} {row:List DV} {pv:Value} (ho:o.op=.nilCheck x) (hx:bE s x=some (.c (.d (.raw pv)))) (hm:(.n T row,pv)∈L):bU P s L o (.c (.d (.raw pv))):=by
 intro cM V A hA g a w S hS hT _;have gp:bE ⟨cM,V,A⟩ x=some (.c (.d (.raw pv))):=(hA x (by simp[ho,Op.operands])).trans hx;have hv:=aJ hS gp;simp only[aV,dD,bm,bh]at hv;obtain⟨b,xs,rfl,_⟩:=hT.node hm;refine⟨.pointer (some ⟨b,0,none⟩),⟨rfl,rfl⟩,?_⟩;simp[execOp,ho,hv.1]
theorem bU.load {t:TypeId} {d:TD} {x:Operand} {off:Nat} {T:TypeId} {row:List DV} {pv:Value} {y:DV} (ho:o.op=.load t x) (hd:td P t=some d) (eM:d.sz=1) (Hc:d.ag=false)
  (hx:bE s x=some (.c (.d (.raw (fp pv off))))) (hm:(.n T row,pv)∈L) (hy:row[off]? =some y):bU P s L o (.c (.d y)):=by
 intro cM V A hA g a w S hS hT _;have gp:bE ⟨cM,V,A⟩ x=some (.c (.d (.raw (fp pv off)))):=(hA x (by simp[ho,Op.operands])).trans hx;have hv:=aJ hS gp;simp only[aV,dD,bm,bh]at hv;obtain⟨b,xs,rfl,_,hh,Jj,hr⟩:=hT.node hm;have hj:off<xs.size:=by rw[Jj];exact(acs.1 hy).1
 have hu:xs[off]? =some xs[off]:=acG hj;refine⟨xs[off],(hr off y _ hy hu).zero,?_⟩;obtain⟨_,h2⟩:=mj (P:=P) (w:=w) hd (b:=b) (off:=off) (vs:=[xs[off]]) (fun j u Hb=>by
  cases j with
  |zero=>simp at Hb;subst Hb;simp[World.cell?,hh]
  |succ j=>simp at Hb) (by simp[eM])
 rw[execOp,ho];refine bp ?_;rw[hv.1,show fp (.pointer (some ⟨b,0,none⟩)) off=.pointer (some ⟨b,off,none⟩) by simp[fp]];exact h2 Hc _ rfl
theorem IF {op:BinOp} {tp te:TypeId} {x y:Operand} {vx vy:AV} {p q:Value} {T:TypeId} {d:TD} {tb:TypeId} {cM:List (Nat×AV)} {V:List (List CV)} {A:List bu} {S:List Nat} (ho:o.op=.binOp op tp x y tb) (gu:op=.eql\/op=.neq)
  (hx:bE ⟨cM,V,A⟩ x=some vx) (hy:bE ⟨cM,V,A⟩ y=some vy) (OY:vz vx=some p) (OZ:vz vy=some q) (hp:Cr L T p) (hq:Cr L T q)
  (Kj:P.underlying tp=some (.pointer te)) (hd:td P te=some d) (eM:d.sz≠0) (PX:P.pointee tp=te) (hS:ia g w ⟨cM,V,A⟩ a) (hT:iq w L S) {bb:Bool} (PO:(bb=true)=((p=q)=(op=.eql))):(execOp a.eval o).run P w=.ok (.value (.bool bb)) w:=by
 have e1:=zM OY (aJ hS hx);have e2:=zM OZ (aJ hS hy);obtain⟨inf,hi,o6,_,_⟩:=fZ hd;have Mo:(eqGuard op tp x y p q).run P w=.ok () w:=by
  rcases hp with rfl|⟨row,hm⟩
  ·rcases gu with rfl|rfl<;>simp[eqGuard]
  ·obtain⟨b,_,rfl,_⟩:=hT.node hm;rcases gu with rfl|rfl<;>simp[eqGuard]
 obtain⟨e,M5,heq⟩:∃e:Bool,(e=true↔p=q)/\∀k:Nat,(Op.equalIn (k+1) tp p q).run P w=.ok e w:=by
  rcases hp with rfl|⟨row,hm⟩
  ·rcases hq with rfl|⟨row',O0⟩
   ·exact⟨true,by simp,fun k=>by simp[Op.equalIn,run_underlying Kj]⟩
   ·obtain⟨b,_,rfl,_⟩:=hT.node O0;exact⟨false,by simp,fun k=>by simp[Op.equalIn,run_underlying Kj]⟩
  ·obtain⟨b,xs,rfl,_,hh,_⟩:=hT.node hm;rcases hq with rfl|⟨row',O0⟩
   ·exact⟨false,by simp,fun k=>by simp[Op.equalIn,run_underlying Kj]⟩
   ·obtain⟨b',xs',rfl,_,U9,_⟩:=hT.node O0;by_cases Mp:b=b'
    ·subst Mp;exact⟨true,by simp,fun k=>by simp[Op.equalIn,run_underlying Kj,sizeOf,typeInfo,hi,o6,eM,run_sameAddr_same]⟩
    ·have dc:(⟨b,0,none⟩:Addr)≠⟨b',0,none⟩:=by simp[Mp]
     exact⟨false,by simp[Mp],fun k=>by simp[Op.equalIn,run_underlying Kj,sizeOf,typeInfo,hi,o6,eM,run_sameAddr_other w dc hh U9]⟩
 have O5:(Op.equal tp p q).run P w=.ok e w:=heq 9999;have Va:(∃x,p=.pointer x)/\∃y,q=.pointer y:=by
  constructor
  ·rcases hp with rfl|⟨row,hm⟩
   ·exact⟨_,rfl⟩
   ·obtain⟨b,_,rfl,_⟩:=hT.node hm;exact⟨_,rfl⟩
  ·rcases hq with rfl|⟨row,hm⟩
   ·exact⟨_,rfl⟩
   ·obtain⟨b,_,rfl,_⟩:=hT.node hm;exact⟨_,rfl⟩
 rw[execOp,ho];refine bp ?_;rw[e1,e2,Sem.run_bind,Mo];simp only[Result.andThen_ok];obtain⟨⟨x',rfl⟩,y',rfl⟩:=Va;rcases gu with rfl|rfl
 ·have:bb=e:=by
   rw[acx,PO,M5];simp
  rw[this];simp only[binOp];rw[Sem.run_bind,O5]
  rfl
 ·have:bb= !e:=by
   rw[acx,PO,Bool.not_eq_true',<-Bool.not_eq_true,M5];simp
  rw[this];simp only[binOp];rw[Sem.run_bind,O5]
  rfl
theorem bU.eql {tp te tb T:TypeId} {d:TD} {x y:Operand} {vx vy:AV} {p q:Value} (ho:o.op=.binOp .eql tp x y tb)
  (hx:bE s x=some vx) (hy:bE s y=some vy) (OY:vz vx=some p) (OZ:vz vy=some q) (hp:Cr L T p) (hq:Cr L T q)
  (Kj:P.underlying tp=some (.pointer te)) (hd:td P te=some d) (eM:d.sz≠0) (PX:P.pointee tp=te):bU P s L o (.c (.d (.bool (@decide (p=q) (Classical.propDecidable _))))):=by
 intro cM V A hA g a w S hS hT _;have gp:=(hA x (by simp[ho,Op.operands])).trans hx;have Px:=(hA y (by simp[ho,Op.operands])).trans hy;exact⟨_,rfl,IF ho (.inl rfl) gp Px OY OZ hp hq Kj hd eM PX hS hT (by simp)⟩
theorem bU.neq {tp te tb T:TypeId} {d:TD} {x y:Operand} {vx vy:AV} {p q:Value} (ho:o.op=.binOp .neq tp x y tb)
  (hx:bE s x=some vx) (hy:bE s y=some vy) (OY:vz vx=some p) (OZ:vz vy=some q) (hp:Cr L T p) (hq:Cr L T q)
  (Kj:P.underlying tp=some (.pointer te)) (hd:td P te=some d) (eM:d.sz≠0) (PX:P.pointee tp=te):bU P s L o (.c (.d (.bool (!@decide (p=q) (Classical.propDecidable _))))):=by
 intro cM V A hA g a w S hS hT _;have gp:=(hA x (by simp[ho,Op.operands])).trans hx;have Px:=(hA y (by simp[ho,Op.operands])).trans hy;exact⟨_,rfl,IF ho (.inr rfl) gp Px OY OZ hp hq Kj hd eM PX hS hT (by by_cases h:p=q<;>simp[h])⟩
theorem kZ.box {T:TypeId} {x:Operand} {cells:List CV} {row:List DV} {k:AV->Ts->Prop} (ho:o.op=.box T x) (hx:bE s x=some (.agg cells)) (dK:Cp cells=some row) (hK:∀pv,k (.c (.d (.raw pv))) ((.n T row,pv)::L)):kZ P s L o k:=by
 intro cM V A hA n w0 g0 X S g a w hR next Q hn;have gp:bE ⟨cM,V,A⟩ x=some (.agg cells):=(hA x (by simp[ho,Op.operands])).trans hx;obtain⟨vs,hv,hl,hc⟩:=aJ hR.slot gp;have ff:(execOp a.eval o).run P w=.ok (.value (.pointer (some ⟨w.heap.size,0,none⟩))) (w.alloc (.cells vs.toArray T)):=by
  simp[execOp,ho,hv,Instr.box,newVar,jn,Value.cells]
 unfold Oper.wp;rw[ff];obtain⟨g1,vF,eZ,dn⟩:=hR.inv.dW (.cells vs.toArray T) 0;have km:=(Fr.refl hR.fr.now).dW (.cells vs.toArray T) 0;rw[<-vF]at km;have uV:=hR.xo km;have az:∀b∈S,b<w.heap.size:=hR.nq.lt;refine hn _ _ (w.heap.size::S) _ _ g1 (hK (.pointer (some ⟨w.heap.size,0,none⟩))) ⟨rfl,rfl⟩ eZ dn (hR.fr.fr km) ⟨[w.heap.size],S,rfl,?_,uV.1⟩ (aca.2 ⟨fun h=>absurd (az _ h) (by omega),hR.nd⟩) fun b hb=>?_
 ·simp only[Tr];refine⟨_,vs.toArray,rfl,heap_alloc_new w _,?_,fun j y u h1 h2=>?_,rfl⟩
  ·have h2:=xX dK;simp;omega
  ·have Lp:vs[j]? =some u:=by simpa using h2
   have iZ:j<cells.length:=by
    have:=xX dK;have:=(acs.1 h1).1;omega
   have Np:cells[j]? =some cells[j]:=List.getElem?_eq_getElem iZ;exact E3 (E4 dK Np h1) (hc j _ u Np Lp)
 ·rcases acj.1 hb with rfl|hb
  ·refine⟨by rw[vF];simp,fun hm=>?_,fun hm=>?_,fun hm=>?_,.inl hR.fr.size⟩
   ·rw[vF]at hm;obtain⟨l,hl⟩:=acr hm;have:=hR.inv.qR hl;omega
   ·rw[vF]at hm;obtain⟨k,v',q1,q2⟩:=Gh.fD (g:=g) (by simpa[Gh.jg]using hm);have:=hR.inv.mE q1 q2;omega
   ·have:=(hR.fr.now _ hm).1;omega
  ·exact uV.2 b hb
theorem jG {all:Array Oper} (hg:gX all s o True False) (h:kZ P s L o fun x L'=>j9 P n all ow K (i+1) rest (s.put o.dst x s.V s.A) L'):j9 P n all ow K i (o::rest) s L:=by
 refine⟨fun hd w0 g0 X S g a w Q hR hQ=>?_⟩;simp only[c7,acd,acv]at hd;have eT:∀d,o.dst=some d->d<n:=fun d e=>by have:=hd.1;rw[e]at this;simpa using this
 unfold wpList;rcases p8 hR.rp hg with⟨h1,_⟩|⟨_,h2⟩
 ·rw[if_pos h1];exact .inl (h _ _ _ (fun x _=>rfl) n w0 g0 X S g a w hR _ _ fun x L' S' v w' g' h3 h4 h5 h6 h7 h8 h9 cE=>h3.run hd.2 w0 g0 X S' g' _ w' Q (hR.put eT h4 h5 h6 h7 h8 h9 cE) hQ)
 ·exact h2.elim
end
section
variable {P:Program} {n:Nat} {s:St} {L L2:Ts} {all:Array Oper} {ow:Nat->Bool} {K:St->Ts->Prop} {i:Nat} {o:Oper} {rest:List Oper}
theorem bU.O6 {x:Operand} {t e e':TypeId} {d:TD} {sz m:Nat} {cs:List GC} {v:Value} (ho:o.op=.call {callee:=.builtin .len,args:= #[x],argTypes:= #[t]}) (hd:td P t=some d) (tz:d.el=some e')
  (hx:bE s x=some (.c (.d (.raw v)))) (hm:(.t e sz m cs,v)∈L):bU P s L o (.c (.d (.int .i64 m))):=by
 intro cM V A hA g a w S hS hT _;have gp:bE ⟨cM,V,A⟩ x=some (.c (.d (.raw v))):=(hA x (by simp[ho,Op.operands,Call.operands])).trans hx;have hv:=aJ hS gp;simp only[aV,dD,bm,bh]at hv;obtain⟨S',h1,_⟩:=hT.at_ hm;simp only[Tr]at h1;obtain⟨xs,S'',dS,_,_⟩:=h1;refine⟨.int .i64 m,rfl,?_⟩;have qH:∃ad cp,v=.slice ad m cp:=by
  rcases dS.2 with⟨e1,e2⟩|⟨b1,c1,cu1,e1,_⟩
  ·exact⟨none,0,by rw[e1,e2]⟩
  ·exact⟨_,_,e1⟩
 obtain⟨ad,cp,rfl⟩:=qH;unfold execOp;simp only[ho,resolve,invoke,Sem.run_bind,Sem.run_pure,Result.andThen_ok,ack,acg,acm,hv.1];refine bp ?_;simp[Builtin.len_,run_underlying (mG hd tz),goInt]
end
end Go.Av
