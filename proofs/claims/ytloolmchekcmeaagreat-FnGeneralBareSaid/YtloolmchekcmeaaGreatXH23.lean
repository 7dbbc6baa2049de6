/- A part. -/
import Derived.Test.YtloolmchekcmeaaGreatXH22
import Derived.LaidEql
set_option linter.unusedVariables false
set_option linter.unusedSimpArgs false
open List renaming range->W8,append_assoc->W9,nodup_cons->Xa,all_eq_true->Xb,all_cons->Xc,mem_of_getElem?->Xd,mem_append->Xe,map_cons->Xf,mem_range->Xg,mem_iff_getElem?->Xh,mem_cons->Xi,map_toArray->Xj,map_nil->Xk,length_nil->Xl,length_cons->Xm,getElem?_zipIdx->Xn,getElem?_set->Xo,getElem?_of_mem->Xp,getElem?_eq_some_iff->Xq,contains_eq_mem->Xr
open Bool renaming and_eq_true->Xs,or_eq_true->Xt,eq_iff_iff->Xu
open Nat renaming lt_or_ge->Xv,le_refl->Xw,zero_add->Xx,lt_trichotomy->Xy,zero_le->Xz,strongRecOn->XA
open Array renaming getElem?_eq_some_iff->XB,getElem?_eq_getElem->XC,mem_toList_iff->XD,getElem?_setIfInBounds_ne->XE
open Option renaming bind_some->XF
namespace Go.Av
attribute [-simp] Go.Av.bO Go.Av.dO Go.Av.ed Go.Av.ec Go.Av.cl Go.Av.cj Go.Av.IT.ly Go.Av.IT.fq Go.Av.IT.ft Go.Av.IT.j5 Go.Av.IT.lz Go.Av.IT.lA Go.Av.IT.lB Go.Av.IT.lC Go.Av.IT.gU Go.Av.iS
open Go
def fp:Value->Nat->Value
 |.pointer (some ⟨b,o,k⟩),off=>.pointer (some ⟨b,o+off,k⟩)
 |v,_=>v
def Ha:CV->Option DV
 |.d x=>if x.qB=true then some x else none
 |.np=>some (.raw (.pointer none))
 |.nil=>some (.raw (.slice none 0 0))
 |_=>none
def yL:List CV->Option (List DV)
 |[]=>some []
 |c::r=>match Ha c,yL r with
  |some x,some l=>some (x::l)
  |_,_=>none
theorem Be {g:Gh} {w:World} {A:List bp} {im:Nat->Nat} {w':World} {c:CV} {x:DV} {u:Value} (h:Ha c=some x) (hr:bj g w A c u):bc im w' x u:=by
 cases c with
 |d y=>
  simp only[Ha]at h;split at h
  ·rename_i hs;simp at h;subst h;exact DV.pF hs hr
  ·simp at h
 |np=>simp only[Ha,Option.some.injEq]at h;subst h;exact⟨hr,by simp only[bj]at hr;subst hr;rfl⟩
 |nil=>simp only[Ha,Option.some.injEq]at h;subst h;exact⟨hr,by simp only[bj]at hr;subst hr;rfl⟩
 |_=>simp[Ha]at h
theorem uo:∀{cs:List CV} {ds:List DV},yL cs=some ds->ds.length=cs.length
 |[],ds,h=>by simp[yL]at h;subst h;rfl
 |c::r,ds,h=>by
  simp only[yL]at h;split at h
  ·rename_i x l h1 h2;simp at h;subst h;simp[uo h2]
  ·simp at h
theorem Bf:∀{cs:List CV} {ds:List DV},yL cs=some ds->∀{j:Nat} {c x},cs[j]? =some c->ds[j]? =some x->Ha c=some x
 |[],ds,h,j,c,x,h1,_=>by simp at h1
 |y::r,ds,h,j,c,x,h1,h2=>by
  simp only[yL]at h;split at h
  ·rename_i a l h3 h4;simp at h;subst h;cases j with
   |zero=>simp at h1 h2;subst h1;subst h2;exact h3
   |succ j=>exact Bf h4 (by simpa using h1) (by simpa using h2)
  ·simp at h
section
variable {P:Program} {n:Nat} {s:St} {L L2:Ts} {all:Array Oper} {ow:Nat->Bool} {K:St->Ts->Prop} {i:Nat} {o:Oper} {rest:List Oper}
theorem gg.node {w:World} {T:TypeId} {row:List DV} {pv:Value} {S:List Nat} (h:gg w L S) (hm:(.n T row,pv)∈L):
  ∃b xs,pv=.pointer (some ⟨b,0,none⟩)/\b∈S/\w.heap[b]? =some (.cells xs T (0,0))/\xs.size=row.length/\∀(j:Nat) x u,row[j]? =some x->xs[j]? =some u->bc (fun _=>0) w x u:=by
 obtain⟨S',h1,h2⟩:=h.at_ hm;simp only[Tr]at h1;obtain⟨b,xs,rfl,h3,h4,h5,rfl⟩:=h1;exact⟨b,xs,rfl,h2 b (by simp),h3,h4,h5⟩
theorem eV {t:TypeId} {d:TD} {x y:Operand} {off:Nat} {T:TypeId} {row:List DV} {pv:Value} {c:CV} {e:DV} (hg:o.guard=none) (ho:o.op=.store t x y) (hd:td P t=some d) (fw:d.sz=1)
  (hx:bA s x=some (.c (.d (.raw (fp pv off))))) (hy:bA s y=some (.c c)) (hc:Ha c=some e) (hp:L.Perm ((.n T row,pv)::L2)) (NM:off<row.length)
  (hK:iP P n all ow K (i+1) rest (s.put o.dst (.c .undef) s.V s.A) ((.n T (row.set off e),pv)::L2)):iP P n all ow K i (o::rest) s L:=by
 refine⟨fun xo w0 g0 X S g a w Q hR hQ=>?_⟩;simp only[fh,Xc,Xs]at xo;have gn:∀d,o.dst=some d->d<n:=fun d e=>by have:=xo.1;rw[e]at this;simpa using this
 obtain⟨S0,y8,LR⟩:=hR.oR.perm hp;obtain⟨S1,S2,rfl,nG,DM⟩:=LR;simp only[Tr]at nG;obtain⟨b,xs,rfl,hh,EZ,hr,rfl⟩:=nG;have pY:=y8.nodup_iff.1 hR.nd;have lU:=fun b hb=>hR.out b (y8.mem_iff.2 hb)
 obtain⟨Na,J1,NN,Q2,NO⟩:=lU b (by simp);have hv:=aE hR.slot hx;simp only[aU,c7,bj,bc]at hv;have hu:=aE hR.slot hy;simp only[aU,c7]at hu;have Pp:=Be (im:=fun _=>0) (w':=w) hc hu;have NQ:(a.eval y).oneCell'=true:=Pp.jA;have kS:(a.eval y).cells= #[a.eval y]:=by
  cases hq:a.eval y<;>first|rfl|(rw[hq]at NQ;simp[Value.oneCell']at NQ)
 have eB:=jb (P:=P) hd (v:=a.eval y) (by rw[kS,fw];rfl) hh (off:=off) (by rw[fw];omega) (fun u hu=>by rw[kS]at hu;simp at hu;subst hu;exact NQ);have GS:(bH xs.toList off (a.eval y).cells.toList).toArray=xs.setIfInBounds off (a.eval y):=by
  rw[kS];apply Array.ext';simp only[Array.toList_setIfInBounds];apply List.ext_getElem?;intro j;rw[ez (by simp;omega),Xo];simp only[Xm,Xl,Xx,Array.length_toList];by_cases hj:off=j
  ·subst hj;rw[if_pos ⟨Xw _,by omega⟩,if_pos rfl,if_pos (by omega),Nat.sub_self];rfl
  ·rw[if_neg (by omega),if_neg hj]
 rw[GS]at eB;have Q3:b<w.heap.size:=(XB.1 hh).1;unfold wpList;rw[if_pos (by simp[Region.wanted,hg])];refine .inl ?_;unfold Oper.wp;have Em:(execOp a.eval o).run P w=.ok .skip (w.setRow b (xs.setIfInBounds off (a.eval y))):=by
  rw[execOp,ho];refine sN ?_;rw[hv.1,show fp (.pointer (some ⟨b,0,none⟩)) off=.pointer (some ⟨b,off,none⟩) by simp[fp]];exact eB
 rw[Em];have gH:∀b',b'≠b->(w.setRow b (xs.setIfInBounds off (a.eval y))).heap[b']? =w.heap[b']? :=fun b' eJ=>b4 w b b' _ eJ
 have uP:(w.setRow b (xs.setIfInBounds off (a.eval y))).heap[b]? =some (.cells (xs.setIfInBounds off (a.eval y)) T (0,0)):=setRow_heap w b xs _ T (0,0) hh;have Il:(w.setRow b (xs.setIfInBounds off (a.eval y))).heap.size=w.heap.size:=by simp
 have sK:iH g.im w g.im (w.setRow b (xs.setIfInBounds off (a.eval y))):=⟨fun _=>Xw _,fun b' o' CY=>by
  have cN:b'≠b:=fun e=>by subst e;omega
  exact World.cell?_of_block (a:=⟨b',o',none⟩) (gH b' cN)⟩
 have Im:Ext g w s.A g (w.setRow b (xs.setIfInBounds off (a.eval y))) s.A:=⟨fun _ _ h=>h,sK,fun _ r h=>⟨r,h,rfl,Xw _,fun _=>rfl⟩⟩;have NR:Inv g (w.setRow b (xs.setIfInBounds off (a.eval y))) s.V s.A:=by
  refine⟨hR.inv.nD,hR.inv.j7,fun l row' b' h3 h4=>?_,fun k r u h3 h4=>?_,hR.inv.jx,hR.inv.gF,hR.inv.ic,fun b' eJ=>hR.inv.fresh b' (by omega)⟩
  ·exact hR.inv.eH Im h3 h4 (gH b' (fun e=>by subst e;exact J1 (Xd h4))) (hR.inv.obj l row' b' h3 h4).1
  ·exact hR.inv.eI Im h3 h4 (fun b' eJ=>gH b' (fun e=>by subst e;exact NN (Gh.jB h4 eJ))) (fun _ _=>rfl)
 have NS:u9 w0 g0 X (w.setRow b (xs.setIfInBounds off (a.eval y))) g:=by
  refine⟨hR.fr.os,hR.fr.tape,hR.fr.output,by rw[Il];exact hR.fr.size,fun b' q1 q2 q3 q4=>?_,hR.fr.gG,hR.fr.ob,hR.fr.ar,hR.fr.uE,hR.fr.wh,hR.fr.B6⟩;rw[gH b' (fun e=>by
   subst e;rcases NO with q|q
   ·omega
   ·exact q4 q)]
  exact hR.fr.oO b' q1 q2 q3 q4
 have NT:b∉S2:=fun hm=>(Xa.1 pY).1 hm
 refine hK.run xo.2 w0 g0 X (b::S2) g _ _ Q (hR.put gn (x:=.c .undef) (v:=undef) rfl NR Im NS ⟨[b],S2,rfl,?_,DM.di fun b' eJ=>gH b' (fun e=>by subst e;exact NT eJ)⟩ pY lU) hQ;simp only[Tr];refine⟨b,_,rfl,uP,by simp[EZ],fun j x' u h3 h4=>?_,rfl⟩;rw[Xo]at h3;rw[Array.getElem?_setIfInBounds]at h4;by_cases hj:off=j
 ·rw[if_pos hj,if_pos NM]at h3;rw[if_pos hj,if_pos (by omega)]at h4;simp at h3 h4;subst h3;subst h4;exact Pp.zero
 ·rw[if_neg hj]at h3;rw[if_neg hj]at h4;exact(hr j x' u h3 h4).zero
def rI:AV->Option Value
 |.c (.d (.raw v))=>some v
 |.c .np=>some (.pointer none)
 |_=>none
theorem wb {g:Gh} {w:World} {A:List bp} {x:AV} {v u:Value} (h:rI x=some v) (hr:aU g w A x u):u=v:=by
 unfold rI at h;split at h
 ·simp at h;subst h;simp only[aU,c7,bj,bc]at hr;exact hr.1
 ·simp at h;subst h;exact hr
 ·simp at h
def yM (L:Ts) (T:TypeId) (v:Value):Prop:=v=.pointer none\/∃row,(.n T row,v)∈L
end
theorem jM.En {w:World}:∀{cs:List GC} {xs:List Value} {S:List Nat} {ds:List DV} {us:List Value},jM w cs xs S->us.length=ds.length->(∀(j:Nat) x u,ds[j]? =some x->us[j]? =some u->bc (fun _=>0) w x u)->jM w (cs++ds.map GC.d) (xs++us) S
 |[],xs,S,[],us,h,hl,_=>by
  have:us=[]:=List.length_eq_zero_iff.1 (by simpa using hl);simp only[jM]at h;obtain⟨rfl,rfl⟩:=h;subst this;simp[jM]
 |[],xs,S,d::ds,us,h,hl,hr=>by
  simp only[jM]at h;obtain⟨rfl,rfl⟩:=h
  match us,hl with
  |u::us,hl=>
   have h2:=jM.En (w:=w) (cs:=[]) (xs:=[]) (S:=[]) (ds:=ds) (us:=us) (by simp[jM]) (by simpa using hl) (fun j x v h1 h2=>hr (j+1) x v (by simpa using h1) (by simpa using h2));simp only[List.nil_append,Xf,jM]at h2⊢;exact⟨u,us,[],[],rfl,rfl,by simp only[Tr];exact⟨hr 0 d u rfl rfl,trivial⟩,h2⟩
 |c::cs,xs,S,ds,us,h,hl,hr=>by
  simp only[jM]at h;obtain⟨x,xs',S1,S2,rfl,rfl,h1,h2⟩:=h;simp only[List.cons_append,jM];exact⟨x,xs'++us,S1,S2,rfl,rfl,h1,jM.En h2 hl hr⟩
section
variable {P:Program} {n:Nat} {s:St} {L L2:Ts} {all:Array Oper} {ow:Nat->Bool} {K:St->Ts->Prop} {i:Nat} {o:Oper} {rest:List Oper}
theorem pQ {x y:Operand} {t e:TypeId} {d de:TD} {z:List CV} {m:Nat} {cs:List GC} {v:Value} {u:AV} {nr:List (List DV)} (hg:o.guard=none) (ho:o.op=.call {callee:=.builtin .append,args:= #[x,y],argTypes:= #[t,t]})
  (ht:td P t=some d) (uA:d.el=some e) (he:td P e=some de) (hz:de.zero=some z) (yZ:z.length=de.sz) (hx:bA s x=some (.c (.d (.raw v)))) (hy:bA s y=some u) (C9:rowsOf s.A u=some nr) (hl:∀r∈nr,r.length=de.sz)
  (vb:∀r∈nr,∀c∈r,DV.qB c=true) (hp:L.Perm ((.t e de.sz m cs,v)::L2)) (hb:(m+nr.length)*de.jy<=140737488355328) (hm:m+nr.length<=9223372036854775807)
  (hK:∀v',iP P n all ow K (i+1) rest (s.put o.dst (.c (.d (.raw v'))) s.V s.A) ((.t e de.sz (m+nr.length) (cs++nr.flatten.map GC.d),v')::L2)):iP P n all ow K i (o::rest) s L:=by
 refine⟨fun xo w0 g0 X S g a w Q hR hQ=>?_⟩;simp only[fh,Xc,Xs]at xo;have gn:∀d,o.dst=some d->d<n:=fun d e=>by have:=xo.1;rw[e]at this;simpa using this
 obtain⟨S0,y8,LR⟩:=hR.oR.perm hp;obtain⟨S1,S2,rfl,nG,DM⟩:=LR;simp only[Tr]at nG;obtain⟨xs,S3,dM,NU,rfl⟩:=nG;have pY:=y8.nodup_iff.1 hR.nd;have lU:=fun b hb=>hR.out b (y8.mem_iff.2 hb)
 have aC:∀b∈v.ownBlock.toList++S3++S2,b<w.heap.size:=fun b hb=>hR.oR.lt b (y8.mem_iff.2 hb)
 have hv:=aE hR.slot hx;simp only[aU,c7,bj,bc]at hv;obtain⟨hv,lH⟩:=hv;have hu:=aE hR.slot hy;obtain⟨inf,hi,qg,C8,h0⟩:=eY he;obtain⟨zv,E2,EE⟩:=h0 z hz;have Gd:zv.cells.size=inf.size:=by have:=gI EE;simp at this;omega
 obtain⟨news,zk,uL,E4⟩:=vk hR.inv hu C9 hl;have Bg:∀(j:Nat) q u,nr.flatten[j]? =some q->news[j]? =some u->bc (fun _=>0) w q u:=fun j q u h1 h2=>by
  obtain⟨r,Io,Bu⟩:=List.mem_flatten.1 (Xd h1);exact DV.pF (vb r Io q Bu) (E4 j q u h1 h2)
 have Hi:news.length=nr.flatten.length:=by
  have r9:nr.flatten.length=nr.length*de.sz:=by
   clear zk E4 Bg hb hm hK C9 vb;induction nr with
   |nil=>simp
   |cons r nr ih=>simp only[List.flatten_cons,List.length_append,Xm];rw[hl r (by simp),ih (fun x hx=>hl x (by simp[hx])),Nat.add_mul,Nat.one_mul,Nat.add_comm]
  rcases zk with⟨h1,h2,_⟩|⟨_,_,_,h1,_⟩
  ·rw[r9,h1,h2];simp
  ·rw[r9,h1]
 have AG:w.ownsRow 0 e inf.size v m xs:=by rw[qg];exact dM
 obtain⟨v',w',eB,yW,hc⟩:=nO (P:=P) t o.type e inf zv (lZ ht uA) hi E2 Gd v m xs AG (a.eval y) nr.length news (by rw[qg];exact zk) uL (by simp only[maxLen];omega) (by rw[C8];exact hb);rw[qg]at yW;unfold wpList;rw[if_pos (by simp[Region.wanted,hg])];refine .inl ?_;unfold Oper.wp;have Em:(execOp a.eval o).run P w=.ok (.value v') w':=by
  unfold execOp;simp only[ho,resolve,invoke,Sem.run_bind,Sem.run_pure,Result.andThen_ok,Xj,Xf,Xk,hv];exact rR eB
 rw[Em];have Ip:v'.oneCell'=true:=by
  rcases yW.2 with⟨rfl,_⟩|⟨b1,c1,cu1,rfl,_⟩<;>rfl
 rcases hc with⟨rfl,rfl⟩|⟨b,cs',Az,Eo,rfl⟩|⟨o',Eo,rfl⟩
 ·refine(hK v').run xo.2 w0 g0 X (v'.ownBlock.toList++S3++S2) g _ _ Q (hR.put gn (x:=.c (.d (.raw v'))) ⟨rfl,Ip⟩ hR.inv (.refl _ _ _) hR.fr ⟨_,S2,rfl,?_,DM⟩ pY lU) hQ;simp only[Tr];exact⟨xs++news,S3,yW,NU.En Hi Bg,rfl⟩
 ·have Q4:b∈v.ownBlock.toList++S3++S2:=by simp[Az]
  obtain⟨Na,J1,NN,Q2,NO⟩:=lU b Q4;have gH:∀b',b'≠b->(w.setRow b cs').heap[b']? =w.heap[b']? :=fun b' eJ=>b4 w b b' _ eJ
  have Il:(w.setRow b cs').heap.size=w.heap.size:=by simp
  have sK:iH g.im w g.im (w.setRow b cs'):=⟨fun _=>Xw _,fun b' o' CY=>by
   have cN:b'≠b:=fun e=>by subst e;omega
   exact World.cell?_of_block (a:=⟨b',o',none⟩) (gH b' cN)⟩
  have Im:Ext g w s.A g (w.setRow b cs') s.A:=⟨fun _ _ h=>h,sK,fun _ r h=>⟨r,h,rfl,Xw _,fun _=>rfl⟩⟩;have NR:Inv g (w.setRow b cs') s.V s.A:=by
   refine⟨hR.inv.nD,hR.inv.j7,fun l row' b' h3 h4=>?_,fun k r u h3 h4=>?_,hR.inv.jx,hR.inv.gF,hR.inv.ic,fun b' eJ=>hR.inv.fresh b' (by omega)⟩
   ·exact hR.inv.eH Im h3 h4 (gH b' (fun e=>by subst e;exact J1 (Xd h4))) (hR.inv.obj l row' b' h3 h4).1
   ·exact hR.inv.eI Im h3 h4 (fun b' eJ=>gH b' (fun e=>by subst e;exact NN (Gh.jB h4 eJ))) (fun _ _=>rfl)
  have NS:u9 w0 g0 X (w.setRow b cs') g:=by
   refine⟨hR.fr.os,hR.fr.tape,hR.fr.output,by rw[Il];exact hR.fr.size,fun b' q1 q2 q3 q4=>?_,hR.fr.gG,hR.fr.ob,hR.fr.ar,hR.fr.uE,hR.fr.wh,hR.fr.B6⟩;rw[gH b' (fun e=>by
    subst e;rcases NO with q|q
    ·omega
    ·exact q4 q)]
   exact hR.fr.oO b' q1 q2 q3 q4
  have zO:(b::(S3++S2)).Nodup:=by simpa[Az]using pY
  have CQ:b∉S3++S2:=(Xa.1 zO).1;refine(hK v').run xo.2 w0 g0 X (v'.ownBlock.toList++S3++S2) g _ _ Q (hR.put gn (x:=.c (.d (.raw v'))) ⟨rfl,Ip⟩ NR Im NS ⟨_,S2,rfl,?_,DM.di fun b' eJ=>gH b' (fun e=>by subst e;exact CQ (by simp[eJ]))⟩ (by rw[Eo];simpa using zO) fun b' eJ=>lU b' (by rw[Az];rw[Eo]at eJ;exact eJ)) hQ;simp only[Tr];exact⟨xs++news,S3,yW,(NU.di _ _ _ fun b' eJ=>gH b' (fun e=>by subst e;exact CQ (by simp[eJ]))).En Hi (fun j q u h1 h2=>(Bg j q u h1 h2).zero),rfl⟩
 ·obtain⟨Q5,My⟩:=hR.inv.heap (w':=w.drew) rfl;have Q6:Fr w g w.drew g:=(Fr.refl hR.fr.now).heap rfl rfl rfl rfl;obtain⟨g1,ve,eK,cJ⟩:=Q5.dG o' 0;have ju:=Q6.dG o' 0;have Jv:w.drew.heap.size=w.heap.size:=rfl;rw[<-ve]at ju;have tB:∀b∈S3++S2,b<w.heap.size:=fun b hb=>aC b (by simp only[W9,Xe]at hb⊢;exact .inr hb)
  have hold:∀b,b<w.heap.size->(w.drew.alloc o').heap[b]? =w.heap[b]? :=fun b hb=>RowKit.Below.heap_alloc w.drew o' b hb
  have HR:(S3++S2).Nodup:=by rw[W9]at pY;exact(List.nodup_append.1 pY).2.1
  have vp:=hR.vH ju;refine(hK v').run xo.2 w0 g0 X (v'.ownBlock.toList++S3++S2) g1 _ _ Q (hR.put gn (x:=.c (.d (.raw v'))) ⟨rfl,Ip⟩ eK (My.trans cJ) (hR.fr.fr ju) ⟨_,S2,rfl,?_,DM.di fun b' eJ=>hold b' (tB b' (by simp[eJ]))⟩ ?_ fun b hb=>?_) hQ
  ·simp only[Tr];exact⟨xs++news,S3,yW,(NU.di _ _ _ fun b' eJ=>hold b' (tB b' (by simp[eJ]))).En Hi (fun j q u h1 h2=>(Bg j q u h1 h2).zero),rfl⟩
  ·rw[Eo,W9];exact Xa.2 ⟨fun hm=>absurd (tB _ hm) (by omega),HR⟩
  ·rw[Eo,W9]at hb;rcases Xi.1 hb with rfl|hb
   ·refine⟨by rw[ve];simp,fun hm=>?_,fun hm=>?_,fun hm=>?_,.inl hR.fr.size⟩
    ·rw[ve]at hm;obtain⟨l,hl⟩:=Xp hm;have:=hR.inv.oU hl;omega
    ·rw[ve]at hm;obtain⟨k,v',q1,q2⟩:=Gh.eG (g:=g) (by simpa[Gh.gC]using hm);have:=hR.inv.kN q1 q2;omega
    ·have:=(hR.fr.now _ hm).1;omega
   ·exact vp.2 b (y8.mem_iff.2 (by rw[W9];exact List.mem_append_right _ hb))
end
end Go.Av
namespace Go.Av
attribute [-simp] Go.Av.IT.ly Go.Av.IT.fq Go.Av.IT.ft Go.Av.IT.j5 Go.Av.IT.lz Go.Av.IT.lA Go.Av.IT.lB Go.Av.IT.lC Go.Av.IT.gU Go.Av.iS
open Go
section
variable {P:Program} {n:Nat} {w0 w w':World} {g0 g g':Gh} {X S S':List Nat} {s s':St} {L L':Ts} {a a':Act} {x y:Code} {all:Array Oper} {ws:List Nat}
def NV (o:Oper) (cS:List (Nat×AV)) (V:List (List CV)) (A:List bp) (s:St):Prop:=∀x∈o.op.operands.toList,bA ⟨cS,V,A⟩ x=bA s x
def jr (P:Program) (s:St) (L:Ts) (o:Oper) (K:AV->Ts->Prop):Prop:=
 ∀(cS:List (Nat×AV)) (V:List (List CV)) (A:List bp),NV o cS V A s->∀(n:Nat) (w0:World) (g0:Gh) (X S:List Nat) (g:Gh) (a:Act) (w:World),rz n w0 g0 X ⟨cS,V,A⟩ L S g a w->∀(next:Act->World->Prop) (Q:Exit->Act->World->Prop),
  (∀x L' S' v w' g',K x L'->aU g' w' A x v->Inv g' w' V A->Ext g w A g' w' A->u9 w0 g0 X w' g'->gg w' L' S'->S'.Nodup->(∀b∈S',g'.im b=0/\b∉g'.ob/\b∉g'.gC/\¬lX b/\(w0.heap.size<=b\/b∈X))->next (a.put o.dst v) w')->o.wp P a w next Q
def bR (P:Program) (s:St) (L:Ts) (o:Oper) (x:AV):Prop:=
 ∀(cS:List (Nat×AV)) (V:List (List CV)) (A:List bp),NV o cS V A s->∀(g:Gh) (a:Act) (w:World) (S:List Nat),gD g w ⟨cS,V,A⟩ a->gg w L S->S.Nodup->∃v,aU g w A x v/\(execOp a.eval o).run P w=.ok (.value v) w
theorem jr.map {o:Oper} {K K':AV->Ts->Prop} (hk:∀x L,K x L->K' x L) (h:jr P s L o K):jr P s L o K':=
 fun cS V A hA n w0 g0 X S g a w hR next Q hn=>h cS V A hA n w0 g0 X S g a w hR next Q fun x L' S' v w' g' h1=>hn x L' S' v w' g' (hk _ _ h1)
theorem jr.call {o:Oper} {K:AV->Ts->Prop} (h:cj P s L o K):jr P s L o K:=by
 intro cS V A hA n w0 g0 X S g a w hR next Q hn;refine vI hR (yx (s:=s) (ow:=false) hA h) _ _ ?_;rintro x V' A' L' S' v w' g' ⟨rfl,rfl,hk⟩ h1 h2 h3 h4 h5 h6 h7;exact hn x L' S' v w' g' hk h1 h2 h3 h4 h5 h6 h7
theorem bR.wp {o:Oper} {x:AV} (h:bR P s L o x) {cS:List (Nat×AV)} {V:List (List CV)} {A:List bp} (hA:NV o cS V A s) (hS:gD g w ⟨cS,V,A⟩ a) (hT:gg w L S) (hn:S.Nodup) {next:Act->World->Prop} {Q:Exit->Act->World->Prop} (hx:∀v,aU g w A x v->next (a.put o.dst v) w):o.wp P a w next Q:=by
 obtain⟨v,h1,h2⟩:=h cS V A hA g a w S hS hT hn;unfold Oper.wp;rw[h2];exact hx v h1
def lQ (P:Program) (all:Array Oper) (ow:Nat->Bool) (ws cs ns:List Nat) (K:St->Ts->Prop):Nat->List Oper->St->Ts->Prop
 |_,[],s,L=>K s L
 |i,o::rest,s,L=>fT all s o
   ((i∈cs/\jr P s L o fun x L'=>lQ P all ow ws cs ns K (i+1) rest (s.put o.dst x s.V s.A) L')\/
   (i∉cs/\i∈ns/\∃x,bR P s L o x/\lQ P all ow ws cs ns K (i+1) rest (s.put o.dst x s.V s.A) L)\/
   (i∉cs/\i∉ns/\bJ P s (ow i) o fun x V A=>(i∈ws\/(V=s.V/\A=s.A))/\lQ P all ow ws cs ns K (i+1) rest (s.put o.dst x V A) L))
   (lQ P all ow ws cs ns K (i+1) rest (s.put o.dst (.c .undef) s.V s.A) L)
def Cu (P:Program) (all:Array Oper) (ow:Bool) (ns:List Nat) (L:Ts) (j:Nat) (o:Oper) (s s':St):Prop:=
 fT all s o True True/\((gw all s o=true/\((j∈ns/\∃x,s'=s.put o.dst x s.V s.A/\bR P s L o x)\/(j∉ns/\Np P ow o s s')))\/(gw all s o=false/\s'=s.put o.dst (.c .undef) s.V s.A))
theorem mJ {ow:Nat->Bool} {cs ns:List Nat} {K:St->Ts->Prop}:∀(ops:List Oper) (i:Nat) (s:St) (L:Ts),lQ P all ow ws cs ns K i ops s L->
  ∃(τ:Nat->St) (m:Nat),m<=ops.length/\τ 0=s/\(∀(j:Nat) o,j<m->ops[j]? =some o->Cu P all (ow (i+j)) ns L (i+j) o (τ j) (τ (j+1))/\Kj ws (i+j) o (τ j) (τ (j+1)))/\
   ((m=ops.length/\K (τ m) L)\/(i+m∈cs/\∃o,ops[m]? =some o/\fT all (τ m) o True True/\gw all (τ m) o=true/\jr P (τ m) L o fun x L'=>lQ P all ow ws cs ns K (i+m+1) (ops.drop (m+1)) ((τ m).put o.dst x (τ m).V (τ m).A) L'))
 |[],i,s,L,h=>⟨fun _=>s,0,Xw _,rfl,fun j o hj=>by omega,.inl ⟨rfl,h⟩⟩
 |o::rest,i,s,L,h=>by
  have step:∀s',Cu P all (ow i) ns L i o s s'->Kj ws i o s s'->lQ P all ow ws cs ns K (i+1) rest s' L->∃(τ:Nat->St) (m:Nat),m<=(o::rest).length/\τ 0=s/\(∀(j:Nat) o',j<m->(o::rest)[j]? =some o'->Cu P all (ow (i+j)) ns L (i+j) o' (τ j) (τ (j+1))/\Kj ws (i+j) o' (τ j) (τ (j+1)))/\
   ((m=(o::rest).length/\K (τ m) L)\/(i+m∈cs/\∃o',(o::rest)[m]? =some o'/\fT all (τ m) o' True True/\gw all (τ m) o'=true/\jr P (τ m) L o' fun x L'=>lQ P all ow ws cs ns K (i+m+1) ((o::rest).drop (m+1)) ((τ m).put o'.dst x (τ m).V (τ m).A) L')):=by
   intro s' h1 h2 h3;obtain⟨τ,m,k1,k2,k3,k4⟩:=mJ rest (i+1) _ L h3;refine⟨fun j=>match j with|0=>s|j+1=>τ j,m+1,by simp;omega,rfl,fun j o' hj ho=>?_,?_⟩
   ·cases j with
    |zero=>
     simp at ho;subst ho;show Cu P all (ow (i+0)) ns L (i+0) o s (τ 0)/\Kj ws (i+0) o s (τ 0);rw[k2];exact⟨h1,h2⟩
    |succ j=>
     simp at ho;have:=k3 j o' (by omega) ho;rwa[show i+1+j=i+(j+1) by omega]at this
   ·rcases k4 with⟨k5,k6⟩|⟨k5,o',k6,k7,k8,k9⟩
    ·exact .inl ⟨by simp[k5],k6⟩
    ·refine .inr ⟨by rw[show i+(m+1)=i+1+m by omega];exact k5,o',by simpa using k6,k7,k8,?_⟩;rw[show i+(m+1)+1=i+1+m+1 by omega];exact k9
  obtain⟨hg,bn⟩:=gp h;rcases hg with⟨g1,h|h|h⟩|⟨g1,h⟩
  ·obtain⟨h1,h2⟩:=h;exact⟨fun _=>s,0,by simp,rfl,fun j o hj=>by omega,.inr ⟨h1,o,rfl,bn,g1,h2⟩⟩
  ·obtain⟨h1,h2,x,h3,h4⟩:=h;exact step _ ⟨bn,.inl ⟨g1,.inl ⟨h2,x,rfl,h3⟩⟩⟩ ⟨x,_,_,rfl,.inr ⟨rfl,rfl⟩⟩ h4
  ·obtain⟨h1,h2,h3⟩:=h;obtain⟨x,V,A,⟨h3,h4⟩,h5⟩:=gL h3;exact step _ ⟨bn,.inl ⟨g1,.inr ⟨h2,x,V,A,rfl,h5⟩⟩⟩ ⟨x,V,A,rfl,h3⟩ h4
  ·exact step _ ⟨bn,.inr ⟨g1,rfl⟩⟩ ⟨_,_,_,rfl,.inr ⟨rfl,rfl⟩⟩ h
set_option maxHeartbeats 2000000 in
theorem Cv {ns:List Nat} {ow:Nat->Bool} (hd:fi all ws=true) (gn:fh n all.toList=true) {σ:Nat->St} {c:Nat} (hT:FD all ws σ c) {ai:Array Bool} {k0:Nat} (hD:DS all ws σ n w g ai k0 g a w) (iT:k0<=c) (zm:∀i,ai[i]? =some true->i<c)
  {j:Nat} (hj:j∈Region.ready .any all ai) (LS:j<=c) {o:Oper} (ho:all[j]? =some o) {next:Act->World->Prop} {Q:Exit->Act->World->Prop}:
  (j<c->Jb w0 g0 X L S g w->Cu P all (ow j) ns L j o (σ j) (σ (j+1))->(∀k1 v g' w',k1<=c->DS all ws σ n w' g' (ai.setIfInBounds j true) k1 g' (a.put o.dst v) w'->Fr w g w' g'->next (a.put o.dst v) w')->wpOp P all Q j next a w)/\
  (j=c->cG o.op=false->j∉ws->Jb w0 g0 X L S g w->fT all (σ j) o True True->gw all (σ j) o=true->(∀K:AV->Ts->Prop,jr P (σ j) L o K->(∀x L' S' v g' w',K x L'->(∀σ':Nat->St,(∀i,i<=c->σ' i=σ i)->σ' (c+1)=(σ c).put o.dst x (σ c).V (σ c).A->DS all ws σ' n w' g' (ai.setIfInBounds j true) k0 g' (a.put o.dst v) w')->Jb w0 g0 X L' S' g' w'->next (a.put o.dst v) w')->wpOp P all Q j next a w)):=by
 simp only[fi,Xs,Xb]at hd;obtain⟨⟨ij,jR⟩,sj⟩:=hd;have eE:∀(j:Nat) o,all[j]? =some o->(o,j)∈all.toList.zipIdx:=fun j o h=>by
  rw[Xh];exact⟨j,by simp[Xn,h]⟩
 have dQ:∀(j:Nat) o,all[j]? =some o->∀e∈o.after,Region.binds .any e=true->e.on<j:=fun j o h e he hb=>by
  have:=ij _ (eE j o h) e (XD.2 he);simpa[hb]using this
 have cH:∀(i j:Nat) oi oj,all[i]? =some oi->all[j]? =some oj->i<j->bM all ws (bD all.toList []) oi oj i j=true:=fun i j oi oj h1 h2 aC=>by
  have:=jR _ (eE j oj h2) _ (eE i oi h1);simpa[aC]using this
 have y3:∀(j:Nat) o,all[j]? =some o->j∈ws->cG o.op=false:=fun j o h hj=>by
  have:=sj _ (eE j o h);simpa[hj]using this
 have ko:∀(i j:Nat) oi oj d,all[i]? =some oi->all[j]? =some oj->i<j->oi.dst=some d->oj.dst≠some d:=fun i j oi oj d h1 h2 aC h3 h4=>by
  have:=cH i j oi oj h1 h2 aC;simp[bM,h3,h4]at this
 have wz:∀(i j:Nat) oi oj d,all[i]? =some oi->all[j]? =some oj->oi.dst=some d->oj.dst=some d->i=j:=fun i j oi oj d h1 h2 h3 h4=>by
  rcases Xy i j with h|h|h
  ·exact absurd h4 (ko i j oi oj d h1 h2 h h3)
  ·exact h
  ·exact absurd h3 (ko j i oj oi d h2 h1 h h4)
 have BF:∀(j:Nat) o d,all[j]? =some o->o.dst=some d->d<n:=fun j o d h1 h2=>by
  have:=Xb.1 gn o (by rw[XD];exact Array.mem_of_getElem? h1);simpa[h2]using this
 obtain⟨Fa,_,Dl⟩:=fN all.toList []
 have s8:∀{ai:Array Bool},(∀(i:Nat) o,all[i]? =some o->ai[i]? =some true->∀e∈o.after,Region.binds .any e=true->ai[e.on]? =some true)->
   ∀(i:Nat) o,all[i]? =some o->(∀e∈o.after,Region.binds .any e=true->ai[e.on]? =some true)->∀k,((bD all.toList []).getD i 0).testBit k=true->ai[k]? =some true:=by
  intro ai sQ i;induction i using XA with
  |_ i ih=>
   intro o ho dI k hk;obtain⟨pre,h1,h2,h3⟩:=Dl i o (by simpa using ho);simp only[Xl,Xx]at h1 h3;have h4:(bD all.toList []).getD i 0=nR pre o:=by simp[List.getD,h3]
   rw[h4]at hk;obtain⟨e,he,hb,h5⟩:=gM hk;have xU:=dI e he hb;rcases h5 with rfl|h5
   ·exact xU
   ·have aC:=dQ i o ho e he hb;have h6:pre.getD e.on 0=(bD all.toList []).getD e.on 0:=by simp only[List.getD,h2 e.on (by omega)]
    rw[h6]at h5;have fw:e.on<all.size:=by have:=(XB.1 ho).1;omega
    have xV:all[e.on]? =some all[e.on]:=XC fw;exact ih e.on aC _ xV (sQ e.on _ xV xU) k h5
 have LR:=hT.le;have s9:=hT.O5;have tc:=hT.O6 wz;have xW:=hT.VA;obtain⟨p7,o2,se,dI⟩:=mem_ready.1 hj;obtain rfl:o=o2:=by rw[ho]at se;exact Option.some.inj se
 have sk:=fW p7;have zn:j<all.size:=(XB.1 ho).1;have kf:j<ai.size:=by rw[hD.fc];exact zn
 have du:∀e∈o.after,Region.binds .any e=true->ai[e.on]? =some true:=fun e he hb=>dH.1 (dI e he hb)
 have df:∀k,((bD all.toList []).getD j 0).testBit k=true->ai[k]? =some true:=s8 hD.closed j o ho du;have cT:∀(i:Nat) oi,all[i]? =some oi->ai[i]? =some true->((bD all.toList []).getD i 0).testBit j=false:=fun i oi bG cg=>by
  cases hb:((bD all.toList []).getD i 0).testBit j with
  |false=>rfl
  |true=>have:=s8 hD.closed i oi bG (hD.closed i oi bG cg) j hb;rw[sk]at this;simp at this
 have oo:∀t∈o.looksAt all,∀x,look (σ j).fr t=some x->∃u,a.tmps[t]? =some u/\aU g w (σ k0).A x u:=by
  intro t ht x hx;by_cases hex:∃(i:Nat) (oi:Oper),i<j/\all[i]? =some oi/\oi.dst=some t
  ·obtain⟨i,oi,nS,bG,c8⟩:=hex;rw[tc j i oi t (by omega) nS bG c8]at hx;have hp:=cH i j oi o bG ho nS;have zw:eh all oi o=true:=by simp only[eh,c8];simpa using ht
   simp only[bM,zw,Xs,Xt]at hp;have hb:((bD all.toList []).getD j 0).testBit i=true:=by simpa using hp.2
   exact hD.iq i oi t x bG (df i hb) c8 hx
  ·rw[s9 j t (by omega) (fun i oi nS bG c8=>hex ⟨i,oi,nS,bG,c8⟩)]at hx;refine hD.ir t x (fun i oi bG cg c8=>?_) hx;rcases Xy i j with h|h|h
   ·exact hex ⟨i,oi,h,bG,c8⟩
   ·subst h;rw[sk]at cg;simp at cg
   ·have hp:=cH j i o oi ho bG h;have zw:eh all oi o=true:=by simp only[eh,c8];simpa using ht
    have hb:=cT i oi bG cg;simp only[bM,zw,hb,Xs,Xt]at hp;simp at hp
 let cS:=(σ j).fr.filter fun p=>(o.looksAt all).contains p.1
 have rU:∀t,look cS t=if(o.looksAt all).contains t then look (σ j).fr t else none:=fun t=>fV (fun t=>(o.looksAt all).contains t) (σ j).fr t
 have hS:∀(V:List (List CV)),gD g w ⟨cS,V,(σ k0).A⟩ a:=fun V t x hx=>by
  simp only[rU]at hx;split at hx
  ·rename_i hc;exact oo t (by simpa using hc) x hx
  ·cases hx
 have jf:∀(V V':List (List CV)) (A A':List bp),∀x∈o.op.operands.toList,bA ⟨cS,V,A⟩ x=bA ⟨(σ j).fr,V',A'⟩ x:=fun V V' A A' x hx=>by
  cases x with
  |tmp t=>
   simp only[bA,rU];rw[if_pos];simp only[Oper.looksAt,Xr,decide_eq_true_eq,Xe,List.mem_filterMap];exact .inl ⟨.tmp t,hx,rfl⟩
  |_=>rfl
 have kT:Rp n w g ⟨cS,(σ k0).V,(σ k0).A⟩ g a w:=⟨hD.inv,hD.fr,hD.size,hD.defers,hS _⟩;have w9:fT all (σ j) o True True->Region.wanted o (yielded all a.tmps)=gw all (σ j) o:=by
  intro s4;have o8:fT all ⟨cS,(σ k0).V,(σ k0).A⟩ o True True/\gw all ⟨cS,(σ k0).V,(σ k0).A⟩ o=gw all (σ j) o:=by
   unfold fT gw at*;cases ot:o.guard with
   |none=>simp
   |some jw=>
    obtain⟨q,want⟩:=jw;simp only[ot]at s4⊢;obtain⟨oq,h1,h2⟩:=cq s4;obtain⟨t,h3,h4⟩:=cq h2;have:look cS t=look (σ j).fr t:=by
     rw[rU,if_pos];simp only[Oper.looksAt,ot,Xr,decide_eq_true_eq,Xe];exact .inr (by simp[h1,h3])
    simp only[h1,bE,h3,XF,this]at h4⊢;exact⟨h4,trivial⟩
  rw[<-o8.2];have h1:=o8.1;unfold fT at h1;unfold gw;cases ot:o.guard with
  |none=>simp[Region.wanted,ot]
  |some jw=>
   obtain⟨q,want⟩:=jw;simp only[ot]at h1⊢;obtain⟨oq,h2,h3⟩:=cq h1;obtain⟨t,h4,h5⟩:=cq h3;obtain⟨x,h6,h7⟩:=cq h5;obtain⟨h8,h9⟩:=je kT h2 h4 h6;simp only[h2,XF,h4,h6];split at h7
   ·rename_i b;simp[Region.wanted,ot,h8 b rfl]
   ·simp[Region.wanted,ot,h9 rfl]
   ·exact h7.elim
 have cb:∀i,(ai.setIfInBounds j true)[i]? =if i=j then some true else ai[i]? :=fun i=>by
  by_cases e:i=j
  ·subst e;simp[kf]
  ·rw[if_neg e,XE (fun h=>e h.symm)]
 have dB:∀(σ':Nat->St) (k1:Nat) (x:AV) (v:Value) (w':World) (g':Gh),(∀i,i<=c->σ' i=σ i)->look (σ' (j+1)).fr=look ((σ j).put o.dst x [] []).fr->aU g' w' (σ k1).A x v->Inv g' w' (σ k1).V (σ k1).A->Ext g w (σ k0).A g' w' (σ k1).A->zg w' g'->k1<=c->
   (∀i∈ws,i<all.size->((ai.setIfInBounds j true)[i]? =some true↔i<k1))->DS all ws σ' n w' g' (ai.setIfInBounds j true) k1 g' (a.put o.dst v) w':=by
  intro σ' k1 x v w' g' hσ EL zr hI hx hF hk Hv;have mo:∀t u,o.dst≠some t->a.tmps[t]? =some u->(a.put o.dst v).tmps[t]? =some u:=fun t u cN hu=>by
   cases uJ:o.dst with
   |none=>exact hu
   |some d=>
    simp only[Act.put];rw[XE (fun e=>cN (by rw[uJ,e]))];exact hu
  refine⟨by rw[hσ k1 hk];exact hI,.refl hF,?_,?_,by simp[hD.fc],fun i oi t y bG cg c8 hy=>?_,fun t y fx hy=>?_,Hv,by omega,fun i oi bG cg e he hb=>?_⟩
  ·cases o.dst<;>simp[Act.put,hD.size]
  ·cases o.dst<;>simp[Act.put,hD.defers]
  ·rw[hσ k1 hk];rw[cb]at cg;by_cases e:i=j
   ·subst e;obtain rfl:o=oi:=by rw[ho]at bG;exact Option.some.inj bG
    rw[EL]at hy;simp only[St.put,c8,look,if_true]at hy;cases hy
    refine⟨v,?_,zr⟩;have:t<a.tmps.size:=by rw[hD.size];exact BF i o t ho c8
    simp[Act.put,c8,this]
   ·rw[if_neg e]at cg;rw[hσ (i+1) (zm i cg)]at hy;obtain⟨u,h1,h2⟩:=hD.iq i oi t y bG cg c8 hy;exact⟨u,mo t u (fun h=>e (wz i j oi o t bG ho c8 h)) h1,aU.ext hx h2⟩
  ·rw[hσ k1 hk];rw[hσ 0 (Xz _)]at hy;have cN:o.dst≠some t:=fx j o ho (by rw[cb,if_pos rfl]);obtain⟨u,h1,h2⟩:=hD.ir t y (fun i oi bG cg=>fx i oi bG (by
    rw[cb];by_cases e:i=j
    ·rw[if_pos e]
    ·rw[if_neg e];exact cg)) hy
   exact⟨u,mo t u cN h1,aU.ext hx h2⟩
  ·rw[cb]at cg⊢;have:ai[e.on]? =some true:=by
    by_cases e':i=j
    ·subst e';obtain rfl:o=oi:=by rw[ho]at bG;exact Option.some.inj bG
     exact du e he hb
    ·rw[if_neg e']at cg;exact hD.closed i oi bG cg e he hb
   by_cases e':e.on=j
   ·rw[if_pos e']
   ·rw[if_neg e'];exact this
 have kU:j∉ws->∀i∈ws,i<all.size->((ai.setIfInBounds j true)[i]? =some true↔i<k0):=fun fF i hi cr=>by
  rw[cb,if_neg (fun e=>fF (by rw[<-e];exact hi))];exact hD.fe i hi cr
 have mS:cG o.op=false->(σ j).V=(σ k0).V/\(σ j).A=(σ k0).A:=by
  intro iD;rcases Nat.le_total j k0 with h|h
  ·have:=xW k0 j h iT (fun i h1 h2 h3=>by
    have cr:i<all.size:=by omega
    have cg:=(hD.fe i h3 cr).2 h2;have bG:all[i]? =some all[i]:=XC cr;rcases Xv j i with h4|h4
    ·have hp:=cH j i o _ ho bG h4;have hb:=cT i _ bG cg;simp only[bM,hb,Xs,Xt]at hp;simp[h3,iD,-cG]at hp
    ·obtain rfl:i=j:=by omega
     rw[sk]at cg;simp at cg)
   exact⟨this.1.symm,this.2.symm⟩
  ·exact xW j k0 h LS (fun i h1 h2 h3=>by
    have cr:i<all.size:=by omega
    have bG:all[i]? =some all[i]:=XC cr;have hp:=cH i j _ o bG ho h2;simp only[bM,Xs,Xt]at hp;have hb:((bD all.toList []).getD j 0).testBit i=true:=by
     rcases hp.2 with h4|h4
     ·simp[h3,iD,-cG]at h4
     ·exact h4
    have:=(hD.fe i h3 cr).1 (df i hb);omega)
 unfold wpOp;simp only[ho];refine⟨fun vd hJ pV ih=>?_,fun vd iD fF hJ s4 bn K kj ih=>?_⟩
 ·obtain⟨s4,pV⟩:=pV;obtain⟨x2,V2,A2,q1,q2⟩:=hT.tr j o vd ho;rcases pV with⟨bn,pV|⟨NW,pV⟩⟩|⟨Q7,pV⟩
  ·-- a look
   obtain⟨NW,x,h2,h3⟩:=pV;rw[w9 s4,if_pos bn];have xc:look (σ (j+1)).fr=look ((σ j).put o.dst x [] []).fr:=by rw[h2];rfl
   by_cases fF:j∈ws
   ·refine .inl (h3.wp (V:=(σ k0).V) (jf _ _ _ _) (hS _) hJ.oR hJ.nd fun v h6=>?_);by_cases hs:cG o.op=true
    ·have:=y3 j o ho fF;rw[hs]at this;simp at this
    ·have iD:cG o.op=false:=by simpa[-cG]using hs
     obtain⟨lH,jv⟩:=mS iD;have e1:(σ (j+1)).V=(σ k0).V:=by rw[h2];exact lH
     have e2:(σ (j+1)).A=(σ k0).A:=by rw[h2];exact jv
     refine ih (j+1) v g w vd (dB σ (j+1) x v w g (fun _ _=>rfl) xc (by rw[e2];exact h6) (by rw[e1,e2];exact hD.inv) (by rw[e2];exact .refl _ _ _) hD.fr.now vd (fun i hi cr=>?_)) (.refl hD.fr.now);have bG:all[i]? =some all[i]:=XC cr;rw[cb];by_cases e:i=j
     ·subst e;simp
     ·rw[if_neg e];constructor
      ·intro cg;rcases Xv j i with h|h
       ·have hp:=cH j i o _ ho bG h;have hb:=cT i _ bG cg;simp only[bM,hb,Xs,Xt]at hp;simp[hi,iD,-cG]at hp
       ·omega
      ·intro aC;have hp:=cH i j _ o bG ho (by omega);simp only[bM,Xs,Xt]at hp;rcases hp.2 with h|h
       ·simp[hi,iD,-cG]at h
       ·exact df i h
   ·refine .inl (h3.wp (V:=(σ k0).V) (jf _ _ _ _) (hS _) hJ.oR hJ.nd fun v h6=>?_);exact ih k0 v g w iT (dB σ k0 x v w g (fun _ _=>rfl) xc h6 hD.inv (.refl _ _ _) hD.fr.now iT (kU fF)) (.refl hD.fr.now)
  ·rw[w9 s4,if_pos bn];refine .inl ?_;obtain⟨x,V,A,h2,h3⟩:=pV;have xc:look (σ (j+1)).fr=look ((σ j).put o.dst x [] []).fr:=by rw[h2];rfl
   by_cases hs:cG o.op=true
   ·-- slots alone
    have fF:j∉ws:=fun h=>by have:=y3 j o ho h;rw[hs]at this;simp at this
    have h4:bJ P ⟨cS,(σ k0).V,(σ k0).A⟩ (ow j) o (fun y V' A'=>y=x/\V'=(σ k0).V/\A'=(σ k0).A):=si (s:=σ j) (s':=⟨cS,(σ k0).V,(σ k0).A⟩) hs (jf _ _ _ _) h3 ⟨rfl,rfl,rfl⟩;obtain⟨y,V',A',⟨rfl,rfl,rfl⟩,h5⟩:=eu kT.inv kT.fr kT.slot h4;exact h5 _ _ fun v w' g' h6 h7 h8 h9=>ih k0 v g' w' iT (dB σ k0 y v w' g' (fun _ _=>rfl) xc h6 h7 h8 h9.now iT (kU fF)) h9
   ·have iD:cG o.op=false:=by simpa[-cG]using hs
    obtain⟨lH,jv⟩:=mS iD;have h4:bJ P ⟨cS,(σ k0).V,(σ k0).A⟩ (ow j) o (fun y V' A'=>y=x/\V'=V/\A'=A):=by
     rw[<-lH,<-jv];exact fU (fr:=(σ j).fr) (jf _ _ _ _) (h3 _ ⟨rfl,rfl,rfl⟩)
    obtain⟨y,V',A',⟨rfl,rfl,rfl⟩,h5⟩:=eu kT.inv kT.fr kT.slot h4;have xX:(σ (j+1)).V=V':=by rw[h2];rfl
    have lV:(σ (j+1)).A=A':=by rw[h2];rfl
    by_cases fF:j∈ws
    ·refine h5 _ _ fun v w' g' h6 h7 h8 h9=>ih (j+1) v g' w' vd (dB σ (j+1) y v w' g' (fun _ _=>rfl) xc (by rw[lV];exact h6) (by rw[xX,lV];exact h7) (by rw[lV];exact h8) h9.now vd (fun i hi cr=>?_)) h9
     have bG:all[i]? =some all[i]:=XC cr;rw[cb];by_cases e:i=j
     ·subst e;simp
     ·rw[if_neg e];constructor
      ·intro cg;rcases Xv j i with h|h
       ·have hp:=cH j i o _ ho bG h;have hb:=cT i _ bG cg;simp only[bM,hb,Xs,Xt]at hp;simp[hi,iD,-cG]at hp
       ·omega
      ·intro aC;have hp:=cH i j _ o bG ho (by omega);simp only[bM,Xs,Xt]at hp;rcases hp.2 with h|h
       ·simp[hi,iD,-cG]at h
       ·exact df i h
    ·obtain⟨x2,V2,A2,q1,q2⟩:=hT.tr j o vd ho;rcases q2 with q2|⟨q2,q3⟩
     ·exact absurd q2 fF
     have qa:(σ (j+1)).V=(σ j).V:=by rw[q1];exact q2
     have se:(σ (j+1)).A=(σ j).A:=by rw[q1];exact q3
     refine h5 _ _ fun v w' g' h6 h7 h8 h9=>ih k0 v g' w' iT (dB σ k0 y v w' g' (fun _ _=>rfl) xc ?_ ?_ ?_ h9.now iT (kU fF)) h9
     ·rw[<-jv,<-se,lV];exact h6
     ·rw[<-lH,<-jv,<-qa,<-se,xX,lV];exact h7
     ·have e1:(σ k0).A=A':=by rw[<-jv,<-se,lV]
      rw[e1]at h8⊢;exact h8
  ·rw[w9 s4,if_neg (by rw[Q7];simp)];have xc:look (σ (j+1)).fr=look ((σ j).put o.dst (.c .undef) [] []).fr:=by rw[pV];rfl
   by_cases fF:j∈ws
   ·by_cases hs:cG o.op=true
    ·have:=y3 j o ho fF;rw[hs]at this;simp at this
    ·have iD:cG o.op=false:=by simpa[-cG]using hs
     obtain⟨lH,jv⟩:=mS iD;have e1:(σ (j+1)).V=(σ k0).V:=by rw[pV];exact lH
     have e2:(σ (j+1)).A=(σ k0).A:=by rw[pV];exact jv
     refine ih (j+1) undef g w vd (dB σ (j+1) (.c .undef) undef w g (fun _ _=>rfl) xc rfl (by rw[e1,e2];exact hD.inv) (by rw[e2];exact .refl _ _ _) hD.fr.now vd (fun i hi cr=>?_)) (.refl hD.fr.now);have bG:all[i]? =some all[i]:=XC cr;rw[cb];by_cases e:i=j
     ·subst e;simp
     ·rw[if_neg e];constructor
      ·intro cg;rcases Xv j i with h|h
       ·have hp:=cH j i o _ ho bG h;have hb:=cT i _ bG cg;simp only[bM,hb,Xs,Xt]at hp;simp[hi,iD,-cG]at hp
       ·omega
      ·intro aC;have hp:=cH i j _ o bG ho (by omega);simp only[bM,Xs,Xt]at hp;rcases hp.2 with h|h
       ·simp[hi,iD,-cG]at h
       ·exact df i h
   ·exact ih k0 undef g w iT (dB σ k0 (.c .undef) undef w g (fun _ _=>rfl) xc rfl hD.inv (.refl _ _ _) hD.fr.now iT (kU fF)) (.refl hD.fr.now)
 ·rw[w9 s4,if_pos bn];refine .inl ?_;subst vd;have Q8:rz n w0 g0 X ⟨cS,(σ k0).V,(σ k0).A⟩ L S g a w:=⟨hD.inv,hJ.fr,hD.size,hD.defers,hS _,hJ.oR,hJ.nd,hJ.out⟩;obtain⟨lH,jv⟩:=mS iD;refine kj cS _ _ (jf _ _ _ _) n w0 g0 X S g a w Q8 _ _ ?_;rintro x L' S' v w' g' hk h6 h7 h8 h9 bZ dC eR;refine ih x L' S' v g' w' hk (fun σ' hσ hn=>dB σ' k0 x v w' g' hσ (by rw[hn];rfl) h6 h7 h8 h9.now iT (kU fF)) ⟨h9,bZ,dC,eR⟩
def mK (all:Array Oper) (ws cs ns:List Nat):Bool:=
 let l:=all.toList.zipIdx
 let ms:=bD all.toList []
 (cs.all fun c=> !ws.contains c &&(l.all fun(_,j)=> !(decide (c<j))||(ms.getD j 0).testBit c)&&(ns.all fun j=> !(decide (j<c))||(ms.getD c 0).testBit j))&&(l.all fun(o,j)=> !cs.contains j|| !cG o.op)
set_option maxHeartbeats 2000000 in
theorem yN {cs ns:List Nat} {ow:Nat->Bool} {K:St->Ts->Prop} {Q:Exit->Act->World->Prop} (hd:fi all ws=true) (hc:mK all ws cs ns=true) (gn:fh n all.toList=true)
  (hQ:∀s' L' S' g' a' w',K s' L'->rz n w0 g0 X s' L' S' g' a' w'->Q .normal a' w'):
  ∀(fuel:Nat) (σ:Nat->St) (c:Nat) (L:Ts) (S:List Nat) (ai:Array Bool) (k0:Nat) (g:Gh) (a:Act) (w:World),((W8 all.size).filter fun i=> !ai.getD i true).length<=fuel->FD all ws σ c->k0<=c->
   (∀(j:Nat) o,j<c->all[j]? =some o->ai[j]? ≠some true->Cu P all (ow j) ns L j o (σ j) (σ (j+1)))->(∀i,ai[i]? =some true->i<c)->
   ((c=all.size/\K (σ c) L)\/(c∈cs/\∃o,all[c]? =some o/\fT all (σ c) o True True/\gw all (σ c) o=true/\jr P (σ c) L o fun x L'=>lQ P all ow ws cs ns K (c+1) (all.toList.drop (c+1)) ((σ c).put o.dst x (σ c).V (σ c).A) L'))->
   DS all ws σ n w g ai k0 g a w->Jb w0 g0 X L S g w->wpAny P .any all Q fuel ai a w:=by
 have LC:=hd;simp only[fi,Xs,Xb]at hd;obtain⟨⟨ij,jR⟩,sj⟩:=hd;have eE:∀(j:Nat) o,all[j]? =some o->(o,j)∈all.toList.zipIdx:=fun j o h=>by
  rw[Xh];exact⟨j,by simp[Xn,h]⟩
 have dQ:∀(j:Nat) o,all[j]? =some o->∀e∈o.after,Region.binds .any e=true->e.on<j:=fun j o h e he hb=>by
  have:=ij _ (eE j o h) e (XD.2 he);simpa[hb]using this
 have cH:∀(i j:Nat) oi oj,all[i]? =some oi->all[j]? =some oj->i<j->bM all ws (bD all.toList []) oi oj i j=true:=fun i j oi oj h1 h2 aC=>by
  have:=jR _ (eE j oj h2) _ (eE i oi h1);simpa[aC]using this
 have y3:∀(j:Nat) o,all[j]? =some o->j∈ws->cG o.op=false:=fun j o h hj=>by
  have:=sj _ (eE j o h);simpa[hj]using this
 have ko:∀(i j:Nat) oi oj d,all[i]? =some oi->all[j]? =some oj->i<j->oi.dst=some d->oj.dst≠some d:=fun i j oi oj d h1 h2 aC h3 h4=>by
  have:=cH i j oi oj h1 h2 aC;simp[bM,h3,h4]at this
 have wz:∀(i j:Nat) oi oj d,all[i]? =some oi->all[j]? =some oj->oi.dst=some d->oj.dst=some d->i=j:=fun i j oi oj d h1 h2 h3 h4=>by
  rcases Xy i j with h|h|h
  ·exact absurd h4 (ko i j oi oj d h1 h2 h h3)
  ·exact h
  ·exact absurd h3 (ko j i oj oi d h2 h1 h h4)
 simp only[mK,Xs,Xb]at hc;obtain⟨Bz,Q9⟩:=hc;have Ra:∀c∈cs,c∉ws:=fun c h=>by simpa using(Bz c h).1.1
 have Rb:∀c∈cs,∀o,all[c]? =some o->cG o.op=false:=fun c h o ho=>by
  have:=Q9 _ (eE c o ho);simpa[h,-cG]using this
 have Rc:∀c∈cs,∀(j:Nat) o,all[j]? =some o->c<j->((bD all.toList []).getD j 0).testBit c=true:=fun c h j o ho aC=>by
  have:=(Bz c h).1.2 _ (eE j o ho);simpa[aC]using this
 have Rd:∀c∈cs,∀j∈ns,j<c->((bD all.toList []).getD c 0).testBit j=true:=fun c h j hj aC=>by
  have:=(Bz c h).2 j hj;simpa[aC]using this
 have wD:∀{ai:Array Bool},Region.ready .any all ai=[]->ai.size=all.size->∀i,i<all.size->ai[i]? =some true:=by
  intro ai hr y5 i;induction i using XA with
  |_ i ih=>
   intro hi;have ho:all[i]? =some all[i]:=XC hi;have cg:i<ai.size:=by omega
   cases hl:ai[i]with
   |true=>rw[XC cg,hl]
   |false=>
    exfalso
    have:i∈Region.ready .any all ai:=mem_ready.2 ⟨by simp[cg,hl],_,ho,fun e he hb=>dH.2 (ih e.on (dQ i _ ho e he hb) (by have:=dQ i _ ho e he hb;omega))⟩;rw[hr]at this;simp at this
 have qk:∀{σ:Nat->St} {c:Nat} {L:Ts} {S:List Nat} {ai:Array Bool} {k0:Nat} {g:Gh} {a:Act} {w:World},FD all ws σ c->(∀i,ai[i]? =some true->i<c)->
   ((c=all.size/\K (σ c) L)\/(c∈cs/\∃o,all[c]? =some o/\fT all (σ c) o True True/\gw all (σ c) o=true/\jr P (σ c) L o fun x L'=>lQ P all ow ws cs ns K (c+1) (all.toList.drop (c+1)) ((σ c).put o.dst x (σ c).V (σ c).A) L'))->
   DS all ws σ n w g ai k0 g a w->Jb w0 g0 X L S g w->Region.ready .any all ai=[]->Q .normal a w:=by
  intro σ c L S ai k0 g a w hT zm hK hD hJ hr;have dc:=wD hr hD.fc;rcases hK with⟨rfl,hK⟩|⟨xw,o,ho,_⟩
  ·exact hQ _ _ _ _ _ _ hK (Ca LC hT hD dc hJ)
  ·have cr:=(XB.1 ho).1;have:=zm c (dc c cr);omega
 intro fuel;induction fuel with
 |zero=>
  intro σ c L S ai k0 g a w hf hT iT FU zm hK hD hJ;have ql:Region.ready .any all ai=[]:=by
   have h0:((W8 all.size).filter fun i=> !ai.getD i true)=[]:=List.eq_nil_of_length_eq_zero (by omega);rcases hr:Region.ready .any all ai with _|⟨j,r⟩
   ·rfl
   ·have hj:j∈Region.ready .any all ai:=by rw[hr];simp
    obtain⟨h1,o,h2,_⟩:=mem_ready.1 hj;have:j∈((W8 all.size).filter fun i=> !ai.getD i true):=by
     rw[List.mem_filter,Xg];exact⟨(XB.1 h2).1,by simp[h1]⟩
    rw[h0]at this;simp at this
  exact⟨ql,qk hT zm hK hD hJ ql⟩
 |succ fuel ih=>
  intro σ c L S ai k0 g a w hf hT iT FU zm hK hD hJ;refine⟨fun hr=>qk hT zm hK hD hJ hr,fun j hj=>?_⟩;obtain⟨p7,o,ho,dI⟩:=mem_ready.1 hj;have sk:=fW p7;have zn:j<all.size:=(XB.1 ho).1;have kf:j<ai.size:=by rw[hD.fc];exact zn
  have du:∀e∈o.after,Region.binds .any e=true->ai[e.on]? =some true:=fun e he hb=>dH.1 (dI e he hb)
  have cb:∀i,(ai.setIfInBounds j true)[i]? =if i=j then some true else ai[i]? :=fun i=>by
   by_cases e:i=j
   ·subst e;simp[kf]
   ·rw[if_neg e,XE (fun h=>e h.symm)]
  have dN:((W8 all.size).filter fun i=> !(ai.setIfInBounds j true).getD i true).length<=fuel:=by
   have aC:((W8 all.size).filter fun i=> !(ai.setIfInBounds j true).getD i true).length<((W8 all.size).filter fun i=> !ai.getD i true).length:=by
    have gm:∀i,(!(ai.setIfInBounds j true).getD i true)=true->(!ai.getD i true)=true:=fun i h=>by
     by_cases e:i=j
     ·subst e;simp[kf]at h
     ·have:(ai.setIfInBounds j true).getD i true=ai.getD i true:=by
       simp only[Array.getD_eq_getD_getElem?,cb,if_neg e]
      rwa[this]at h
    exact filter_lt gm (Xg.2 zn) (by simp[p7]) (by simp[kf])
   omega
  have LS:j<=c:=by
   rcases hK with⟨rfl,_⟩|⟨xw,oc,I3,_⟩
   ·omega
   ·rcases Xv c j with h|h
    ·have:=zm c (tz dQ hD.closed j o ho du c (Rc c xw j o ho h));omega
    ·exact h
  obtain⟨one1,one2⟩:=Cv (ns:=ns) (w0:=w0) (g0:=g0) (X:=X) (L:=L) (S:=S) (ow:=ow) LC gn hT hD iT zm hj LS ho (next:=wpAny P .any all Q fuel (ai.setIfInBounds j true)) (Q:=Q);rcases Nat.lt_or_eq_of_le LS with aC|rfl
  ·refine one1 aC hJ (FU j o aC ho (by rw[sk];simp)) fun k1 v g' w' uz JS hF=>ih σ c L S _ k1 g' _ w' dN hT uz (fun i oi hi bG cg=>FU i oi hi bG fun h=>cg ?_) (fun i hi=>?_) hK JS (hJ.cS hF)
   ·rw[cb];by_cases e:i=j
    ·rw[if_pos e]
    ·rw[if_neg e];exact h
   ·rw[cb]at hi;by_cases e:i=j
    ·subst e;exact aC
    ·rw[if_neg e]at hi;exact zm i hi
  ·rcases hK with⟨h,_⟩|⟨xw,oc,I3,Re,NX,kj⟩
   ·omega
   obtain rfl:o=oc:=by rw[ho]at I3;exact Option.some.inj I3
   refine one2 rfl (Rb j xw o ho) (Ra j xw) hJ Re NX _ kj fun x L' S' v g' w' hk Rf Rg=>?_
   obtain⟨τ,m,k1,k2,k3,k4⟩:=mJ _ _ _ _ hk;have hlen:(all.toList.drop (j+1)).length=all.size-(j+1):=by simp
   let σ':Nat->St:=fun i=>if i<=j then σ i else τ (i-(j+1))
   have e1:∀i,i<=j->σ' i=σ i:=fun i hi=>by simp only[σ',if_pos hi]
   have e2:∀i,σ' (j+1+i)=τ i:=fun i=>by simp only[σ',if_neg (show¬j+1+i<=j by omega)];congr 1;omega
   have e3:∀i,(all.toList.drop (j+1))[i]? =all[j+1+i]? :=fun i=>by simp
   have ml:σ' (j+1)=(σ j).put o.dst x (σ j).V (σ j).A:=by rw[<-k2];exact e2 0
   refine ih σ' (j+1+m) L' S' _ k0 g' _ w' dN ⟨by omega,fun i oi hi bG=>?_⟩ (by omega) (fun i oi hi bG cg=>?_) (fun i hi=>?_) ?_ (Rf σ' e1 ml) Rg
   ·rcases Xy i j with h|h|h
    ·rw[e1 i (by omega),e1 (i+1) (by omega)];exact hT.tr i oi h bG
    ·subst h;obtain rfl:o=oi:=by rw[ho]at bG;exact Option.some.inj bG
     rw[e1 i (by omega),ml];exact⟨x,_,_,rfl,.inr ⟨rfl,rfl⟩⟩
    ·obtain⟨q,rfl⟩:∃q,i=j+1+q:=⟨i-(j+1),by omega⟩;rw[e2 q,show j+1+q+1=j+1+(q+1) by omega,e2 (q+1)];exact(k3 q oi (by omega) (by rw[e3];exact bG)).2
   ·rw[cb]at cg;by_cases e:i=j
    ·rw[if_pos e]at cg;simp at cg
    ·rw[if_neg e]at cg;rcases Xv i j with h|h
     ·rw[e1 i (by omega),e1 (i+1) (by omega)];obtain⟨d1,d2⟩:=FU i oi h bG cg;refine⟨d1,?_⟩;rcases d2 with⟨d3,⟨d4,_⟩|d4⟩|d2
      ·exact absurd (tz dQ hD.closed j o ho du i (Rd j xw i d4 h)) cg
      ·exact .inl ⟨d3,.inr d4⟩
      ·exact .inr d2
     ·obtain⟨q,rfl⟩:∃q,i=j+1+q:=⟨i-(j+1),by omega⟩;rw[e2 q,show j+1+q+1=j+1+(q+1) by omega,e2 (q+1)];exact(k3 q oi (by omega) (by rw[e3];exact bG)).1
   ·rw[cb]at hi;by_cases e:i=j
    ·omega
    ·rw[if_neg e]at hi;have:=zm i hi;omega
   ·rcases k4 with⟨h1,h2⟩|⟨h1,oc,h2,h4,h5,h3⟩
    ·exact .inl ⟨by omega,by rw[e2];exact h2⟩
    ·refine .inr ⟨h1,oc,by rw[<-e3];exact h2,?_⟩;rw[e2];rw[List.drop_drop,show j+1+(m+1)=j+1+m+1 by omega]at h3;exact⟨h4,h5,h3⟩
theorem TJ.pR {Q:Exit->St->Ts->Prop} {id:Nat} {l:List Oper} (hm:P.follows .mixedOrders=true) (ow:Nat->Bool) (ws cs ns:List Nat) (hd:fi l.toArray ws=true) (hc:mK l.toArray ws cs ns=true)
  (h:lQ P l.toArray ow ws cs ns (fun s' L'=>Q .normal s' L') 0 l s L):TJ P n (.region id l.toArray true) Q s L:=by
 intro eC w0 g0 X S g a w hR;have NY:fh n l.toArray.toList=true:=by simpa[codeOk]using eC
 obtain⟨τ,m,k1,k2,k3,k4⟩:=mJ l 0 s L h;obtain⟨hI,hx⟩:=hR.inv.heap (w':={w with drawn:=w.drawn+1}) rfl;have hF:Fr w g {w with drawn:=w.drawn+1} g:=(Fr.refl hR.fr.now).heap rfl rfl rfl rfl;have hJ:Jb w0 g0 X L S g {w with drawn:=w.drawn+1}:=(Jb.mk hR.fr hR.oR hR.nd hR.out).cS hF;have ED:∀(i:Nat),l.toArray[i]? =l[i]? :=fun i=>by simp
 refine wp_region_any hm (yN (K:=fun s' L'=>Q .normal s' L') (ow:=ow) hd hc NY (fun s' L' S' g' a' w' h1 h2=>⟨s',g',L',S',h1,h2⟩) _ τ m L S (Array.replicate l.toArray.size false) 0 g a _ ?_ ?_ (Xz _) ?_ ?_ ?_ ?_ hJ)
 ·refine Nat.le_trans (List.length_filter_le _ _) (by simp)
 ·refine⟨by simpa using k1,fun j o hj ho=>?_⟩;have:=(k3 j o hj (by rw[ED]at ho;exact ho)).2;simpa only[Xx]using this
 ·intro j o hj ho _;have:=(k3 j o hj (by rw[ED]at ho;exact ho)).1;simpa only[Xx]using this
 ·intro i hi;have Gn:=(XB.1 hi).1;simp at Gn;simp[Gn]at hi
 ·rcases k4 with⟨h1,h2⟩|⟨h1,oc,h2,h4,h5,h3⟩
  ·exact .inl ⟨by rw[h1];simp,h2⟩
  ·refine .inr ⟨by simpa using h1,oc,by rw[ED];exact h2,h4,h5,?_⟩;simp only[Xx]at h3;exact h3
 ·refine⟨by rw[k2];exact hI,.refl hF.now,hR.size,hR.defers,by simp,fun i o t x ho hl=>?_,fun t x _ jc=>?_,fun i _ cr=>?_,Xz _,fun i o ho hl=>?_⟩
  ·have hi:=(XB.1 hl).1;simp at hi;simp[hi]at hl
  ·rw[k2]at jc⊢;obtain⟨u,h1,h2⟩:=hR.slot t x jc;exact⟨u,h1,aU.ext hx h2⟩
  ·simp at cr;simp[cr]
  ·have hi:=(XB.1 hl).1;simp at hi;simp[hi]at hl
structure gy (P:Program) (all:Array Oper) (ow:Nat->Bool) (ws cs ns:List Nat) (K:St->Ts->Prop) (i:Nat) (ops:List Oper) (s:St) (L:Ts):Prop where
 mk::
 run:lQ P all ow ws cs ns K i ops s L
theorem TJ.yO {Q:Exit->St->Ts->Prop} {id:Nat} {l:List Oper} (hm:P.follows .mixedOrders=true) (ow:Nat->Bool) (ws cs ns:List Nat) (hd:fi l.toArray ws=true) (hc:mK l.toArray ws cs ns=true)
  (h:∀K:St->Ts->Prop,(∀s' L',TJ P n y Q s' L'->K s' L')->gy P l.toArray ow ws cs ns K 0 l s L):TJ P n (.seq (.region id l.toArray true) y) Q s L:=
 TJ.seq (TJ.pR hm ow ws cs ns hd hc (h _ fun _ _ h=>h).run)
theorem TJ.FV {Q:Exit->St->Ts->Prop} {id:Nat} {l:List Oper} (hm:P.follows .mixedOrders=true) (ow:Nat->Bool) (ws cs ns:List Nat) (hd:fi l.toArray ws=true) (hc:mK l.toArray ws cs ns=true)
  (h:∀K:St->Ts->Prop,(∀s' L',Q .normal s' L'->K s' L')->gy P l.toArray ow ws cs ns K 0 l s L):TJ P n (.region id l.toArray true) Q s L:=
 TJ.pR hm ow ws cs ns hd hc (h _ fun _ _ h=>h).run
variable {ow:Nat->Bool} {cs ns:List Nat} {K:St->Ts->Prop} {i:Nat} {o:Oper} {rest:List Oper}
theorem cX (hi:cs.contains i=false) (hn:ns.contains i=false) (h:fT all s o (bJ P s (ow i) o fun x V A=>(i∈ws\/(V=s.V/\A=s.A))/\gy P all ow ws cs ns K (i+1) rest (s.put o.dst x V A) L) (gy P all ow ws cs ns K (i+1) rest (s.put o.dst (.c .undef) s.V s.A) L)):gy P all ow ws cs ns K i (o::rest) s L:=
 ⟨mU (fun h=>.inr (.inr ⟨by simpa using hi,by simpa using hn,mV (fun x V A h=>⟨h.1,h.2.run⟩) h⟩)) (fun h=>h.run) h⟩
theorem cn (h:K s L):gy P all ow ws cs ns K i [] s L:=⟨h⟩
theorem gy.gen {ops:List Oper} {d:Nat} {b:Bool} {fr:List (Nat×AV)} {V:List (List CV)} {A:List bp} (h:∀q:Bool,b=q->gy P all ow ws cs ns K i ops ⟨(d,.c (.d (.bool q)))::fr,V,A⟩ L):gy P all ow ws cs ns K i ops ⟨(d,.c (.d (.bool b)))::fr,V,A⟩ L:=h b rfl
@[congr] theorem Iq {i i':Nat} {ops:List Oper} (hi:i=i') (h:s=s'):gy P all ow ws cs ns K i ops s L=gy P all ow ws cs ns K i' ops s' L:=by rw[h,hi]
theorem bx {all:Array Oper} {x:AV} (hg:fT all s o True False) (h:bR P s L o x) (hK:iP P n all ow K (i+1) rest (s.put o.dst x s.V s.A) L):iP P n all ow K i (o::rest) s L:=by
 refine⟨fun hd w0 g0 X S g a w Q hR hQ=>?_⟩;simp only[fh,Xc,Xs]at hd;have gn:∀d,o.dst=some d->d<n:=fun d e=>by have:=hd.1;rw[e]at this;simpa using this
 unfold wpList;rcases mR hR.rp hg with⟨h1,_⟩|⟨_,h2⟩
 ·rw[if_pos h1];exact .inl (h.wp (fun x _=>rfl) hR.slot hR.oR hR.nd fun v hv=>hK.run hd.2 w0 g0 X S g _ w Q (hR.put gn hv hR.inv (.refl _ _ _) hR.fr hR.oR hR.nd hR.out) hQ)
 ·exact h2.elim
theorem bR.field {t:TypeId} {d:TD} {x:Operand} {f off sz:Nat} {T:TypeId} {row:List DV} {pv:Value} (ho:o.op=.fieldAddr t x f) (hd:td P t=some d) (hf:d.fl[f]? =some (off,sz)) (fw:sz≠0)
  (hx:bA s x=some (.c (.d (.raw pv)))) (hm:(.n T row,pv)∈L):bR P s L o (.c (.d (.raw (fp pv off)))):=by
 intro cS V A hA g a w S hS hT _;have jc:bA ⟨cS,V,A⟩ x=some (.c (.d (.raw pv))):=(hA x (by simp[ho,Op.operands])).trans hx;have hv:=aE hS jc;simp only[aU,c7,bj,bc]at hv;obtain⟨b,xs,rfl,_⟩:=hT.node hm;refine⟨.pointer (some ⟨b,0+off,none⟩),⟨rfl,rfl⟩,?_⟩;rw[execOp,ho];exact bk (by rw[hv.1];exact l8 hd hf fw b 0)
theorem bR.nilCheck {x:Operand} {T:TypeId} {row:List DV} {pv:Value} (ho:o.op=.nilCheck x) (hx:bA s x=some (.c (.d (.raw pv)))) (hm:(.n T row,pv)∈L):bR P s L o (.c (.d (.raw pv))):=by
 intro cS V A hA g a w S hS hT _;have jc:bA ⟨cS,V,A⟩ x=some (.c (.d (.raw pv))):=(hA x (by simp[ho,Op.operands])).trans hx;have hv:=aE hS jc;simp only[aU,c7,bj,bc]at hv;obtain⟨b,xs,rfl,_⟩:=hT.node hm;refine⟨.pointer (some ⟨b,0,none⟩),⟨rfl,rfl⟩,?_⟩;simp[execOp,ho,hv.1]
theorem bR.load {t:TypeId} {d:TD} {x:Operand} {off:Nat} {T:TypeId} {row:List DV} {pv:Value} {y:DV} (ho:o.op=.load t x) (hd:td P t=some d) (fw:d.sz=1) (C5:d.ag=false)
  (hx:bA s x=some (.c (.d (.raw (fp pv off))))) (hm:(.n T row,pv)∈L) (hy:row[off]? =some y):bR P s L o (.c (.d y)):=by
 intro cS V A hA g a w S hS hT _;have jc:bA ⟨cS,V,A⟩ x=some (.c (.d (.raw (fp pv off)))):=(hA x (by simp[ho,Op.operands])).trans hx;have hv:=aE hS jc;simp only[aU,c7,bj,bc]at hv;obtain⟨b,xs,rfl,_,hh,EZ,hr⟩:=hT.node hm;have hj:off<xs.size:=by rw[EZ];exact(Xq.1 hy).1
 have hu:xs[off]? =some xs[off]:=XC hj;refine⟨xs[off],(hr off y _ hy hu).zero,?_⟩;obtain⟨_,h2⟩:=jQ (P:=P) (w:=w) hd (b:=b) (off:=off) (vs:=[xs[off]]) (fun j u C4=>by
  cases j with
  |zero=>simp at C4;subst C4;simp[World.cell?,hh]
  |succ j=>simp at C4) (by simp[fw])
 rw[execOp,ho];refine bk ?_;rw[hv.1,show fp (.pointer (some ⟨b,0,none⟩)) off=.pointer (some ⟨b,off,none⟩) by simp[fp]];exact h2 C5 _ rfl
theorem Ep {op:BinOp} {tp te:TypeId} {x y:Operand} {vx vy:AV} {p q:Value} {T:TypeId} {d:TD} {tb:TypeId} {cS:List (Nat×AV)} {V:List (List CV)} {A:List bp} {S:List Nat} (ho:o.op=.binOp op tp x y tb) (jf:op=.eql\/op=.neq)
  (hx:bA ⟨cS,V,A⟩ x=some vx) (hy:bA ⟨cS,V,A⟩ y=some vy) (KO:rI vx=some p) (KP:rI vy=some q) (hp:yM L T p) (hq:yM L T q)
  (FW:P.underlying tp=some (.pointer te)) (hd:td P te=some d) (fw:d.sz≠0) (LU:P.pointee tp=te) (hS:gD g w ⟨cS,V,A⟩ a) (hT:gg w L S) {bb:Bool} (Pq:(bb=true)=((p=q)=(op=.eql))):(execOp a.eval o).run P w=.ok (.value (.bool bb)) w:=by
 have e1:=wb KO (aE hS hx);have e2:=wb KP (aE hS hy);obtain⟨inf,hi,qg,_,_⟩:=eY hd;have Ir:(eqGuard op tp x y p q).run P w=.ok () w:=by
  rcases hp with rfl|⟨row,hm⟩
  ·rcases jf with rfl|rfl<;>simp[eqGuard]
  ·obtain⟨b,_,rfl,_⟩:=hT.node hm;rcases jf with rfl|rfl<;>simp[eqGuard]
 obtain⟨e,Pr,heq⟩:∃e:Bool,(e=true↔p=q)/\∀k:Nat,(Op.equalIn (k+1) tp p q).run P w=.ok e w:=by
  rcases hp with rfl|⟨row,hm⟩
  ·rcases hq with rfl|⟨row',KQ⟩
   ·exact⟨true,by simp,fun k=>by simp[Op.equalIn,run_underlying FW]⟩
   ·obtain⟨b,_,rfl,_⟩:=hT.node KQ;exact⟨false,by simp,fun k=>by simp[Op.equalIn,run_underlying FW]⟩
  ·obtain⟨b,xs,rfl,_,hh,_⟩:=hT.node hm;rcases hq with rfl|⟨row',KQ⟩
   ·exact⟨false,by simp,fun k=>by simp[Op.equalIn,run_underlying FW]⟩
   ·obtain⟨b',xs',rfl,_,Rh,_⟩:=hT.node KQ;by_cases Is:b=b'
    ·subst Is;exact⟨true,by simp,fun k=>by simp[Op.equalIn,run_underlying FW,sizeOf,typeInfo,hi,qg,fw,run_sameAddr_same]⟩
    ·have cN:(⟨b,0,none⟩:Addr)≠⟨b',0,none⟩:=by simp[Is]
     exact⟨false,by simp[Is],fun k=>by simp[Op.equalIn,run_underlying FW,sizeOf,typeInfo,hi,qg,fw,run_sameAddr_other w cN hh Rh]⟩
 have KR:(Op.equal tp p q).run P w=.ok e w:=heq 9999;have Ri:(∃x,p=.pointer x)/\∃y,q=.pointer y:=by
  constructor
  ·rcases hp with rfl|⟨row,hm⟩
   ·exact⟨_,rfl⟩
   ·obtain⟨b,_,rfl,_⟩:=hT.node hm;exact⟨_,rfl⟩
  ·rcases hq with rfl|⟨row,hm⟩
   ·exact⟨_,rfl⟩
   ·obtain⟨b,_,rfl,_⟩:=hT.node hm;exact⟨_,rfl⟩
 rw[execOp,ho];refine bk ?_;rw[e1,e2,Sem.run_bind,Ir];simp only[Result.andThen_ok];obtain⟨⟨x',rfl⟩,y',rfl⟩:=Ri;rcases jf with rfl|rfl
 ·have:bb=e:=by
   rw[Xu,Pq,Pr];simp
  rw[this];simp only[binOp];rw[Sem.run_bind,KR]
  rfl
 ·have:bb= !e:=by
   rw[Xu,Pq,Bool.not_eq_true',<-Bool.not_eq_true,Pr];simp
  rw[this];simp only[binOp];rw[Sem.run_bind,KR]
  rfl
theorem bR.eql {tp te tb T:TypeId} {d:TD} {x y:Operand} {vx vy:AV} {p q:Value} (ho:o.op=.binOp .eql tp x y tb)
  (hx:bA s x=some vx) (hy:bA s y=some vy) (KO:rI vx=some p) (KP:rI vy=some q) (hp:yM L T p) (hq:yM L T q)
  (FW:P.underlying tp=some (.pointer te)) (hd:td P te=some d) (fw:d.sz≠0) (LU:P.pointee tp=te):bR P s L o (.c (.d (.bool (@decide (p=q) (Classical.propDecidable _))))):=by
 intro cS V A hA g a w S hS hT _;have jc:=(hA x (by simp[ho,Op.operands])).trans hx;have Lm:=(hA y (by simp[ho,Op.operands])).trans hy;exact⟨_,rfl,Ep ho (.inl rfl) jc Lm KO KP hp hq FW hd fw LU hS hT (by simp)⟩
theorem bR.neq {tp te tb T:TypeId} {d:TD} {x y:Operand} {vx vy:AV} {p q:Value} (ho:o.op=.binOp .neq tp x y tb)
  (hx:bA s x=some vx) (hy:bA s y=some vy) (KO:rI vx=some p) (KP:rI vy=some q) (hp:yM L T p) (hq:yM L T q)
  (FW:P.underlying tp=some (.pointer te)) (hd:td P te=some d) (fw:d.sz≠0) (LU:P.pointee tp=te):bR P s L o (.c (.d (.bool (!@decide (p=q) (Classical.propDecidable _))))):=by
 intro cS V A hA g a w S hS hT _;have jc:=(hA x (by simp[ho,Op.operands])).trans hx;have Lm:=(hA y (by simp[ho,Op.operands])).trans hy;exact⟨_,rfl,Ep ho (.inr rfl) jc Lm KO KP hp hq FW hd fw LU hS hT (by by_cases h:p=q<;>simp[h])⟩
theorem jr.box {T:TypeId} {x:Operand} {cells:List CV} {row:List DV} {k:AV->Ts->Prop} (ho:o.op=.box T x) (hx:bA s x=some (.agg cells)) (cV:yL cells=some row) (hK:∀pv,k (.c (.d (.raw pv))) ((.n T row,pv)::L)):jr P s L o k:=by
 intro cS V A hA n w0 g0 X S g a w hR next Q hn;have jc:bA ⟨cS,V,A⟩ x=some (.agg cells):=(hA x (by simp[ho,Op.operands])).trans hx;obtain⟨vs,hv,hl,hc⟩:=aE hR.slot jc;have eB:(execOp a.eval o).run P w=.ok (.value (.pointer (some ⟨w.heap.size,0,none⟩))) (w.alloc (.cells vs.toArray T)):=by
  simp[execOp,ho,hv,Instr.box,newVar,gJ,Value.cells]
 unfold Oper.wp;rw[eB];obtain⟨g1,ve,eK,cJ⟩:=hR.inv.dG (.cells vs.toArray T) 0;have ju:=(Fr.refl hR.fr.now).dG (.cells vs.toArray T) 0;rw[<-ve]at ju;have vp:=hR.vH ju;have aC:∀b∈S,b<w.heap.size:=hR.oR.lt;refine hn _ _ (w.heap.size::S) _ _ g1 (hK (.pointer (some ⟨w.heap.size,0,none⟩))) ⟨rfl,rfl⟩ eK cJ (hR.fr.fr ju) ⟨[w.heap.size],S,rfl,?_,vp.1⟩ (Xa.2 ⟨fun h=>absurd (aC _ h) (by omega),hR.nd⟩) fun b hb=>?_
 ·simp only[Tr];refine⟨_,vs.toArray,rfl,heap_alloc_new w _,?_,fun j y u h1 h2=>?_,rfl⟩
  ·have h2:=uo cV;simp;omega
  ·have Ht:vs[j]? =some u:=by simpa using h2
   have kf:j<cells.length:=by
    have:=uo cV;have:=(Xq.1 h1).1;omega
   have Jn:cells[j]? =some cells[j]:=List.getElem?_eq_getElem kf;exact Be (Bf cV Jn h1) (hc j _ u Jn Ht)
 ·rcases Xi.1 hb with rfl|hb
  ·refine⟨by rw[ve];simp,fun hm=>?_,fun hm=>?_,fun hm=>?_,.inl hR.fr.size⟩
   ·rw[ve]at hm;obtain⟨l,hl⟩:=Xp hm;have:=hR.inv.oU hl;omega
   ·rw[ve]at hm;obtain⟨k,v',q1,q2⟩:=Gh.eG (g:=g) (by simpa[Gh.gC]using hm);have:=hR.inv.kN q1 q2;omega
   ·have:=(hR.fr.now _ hm).1;omega
  ·exact vp.2 b hb
theorem gV {all:Array Oper} (hg:fT all s o True False) (h:jr P s L o fun x L'=>iP P n all ow K (i+1) rest (s.put o.dst x s.V s.A) L'):iP P n all ow K i (o::rest) s L:=by
 refine⟨fun hd w0 g0 X S g a w Q hR hQ=>?_⟩;simp only[fh,Xc,Xs]at hd;have gn:∀d,o.dst=some d->d<n:=fun d e=>by have:=hd.1;rw[e]at this;simpa using this
 unfold wpList;rcases mR hR.rp hg with⟨h1,_⟩|⟨_,h2⟩
 ·rw[if_pos h1];exact .inl (h _ _ _ (fun x _=>rfl) n w0 g0 X S g a w hR _ _ fun x L' S' v w' g' h3 h4 h5 h6 h7 h8 h9 bZ=>h3.run hd.2 w0 g0 X S' g' _ w' Q (hR.put gn h4 h5 h6 h7 h8 h9 bZ) hQ)
 ·exact h2.elim
end
section
variable {P:Program} {n:Nat} {s:St} {L L2:Ts} {all:Array Oper} {ow:Nat->Bool} {K:St->Ts->Prop} {i:Nat} {o:Oper} {rest:List Oper}
theorem bR.NZ {x:Operand} {t e e':TypeId} {d:TD} {sz m:Nat} {cs:List GC} {v:Value} (ho:o.op=.call {callee:=.builtin .len,args:= #[x],argTypes:= #[t]}) (hd:td P t=some d) (uA:d.el=some e')
  (hx:bA s x=some (.c (.d (.raw v)))) (hm:(.t e sz m cs,v)∈L):bR P s L o (.c (.d (.int .i64 m))):=by
 intro cS V A hA g a w S hS hT _;have jc:bA ⟨cS,V,A⟩ x=some (.c (.d (.raw v))):=(hA x (by simp[ho,Op.operands,Call.operands])).trans hx;have hv:=aE hS jc;simp only[aU,c7,bj,bc]at hv;obtain⟨S',h1,_⟩:=hT.at_ hm;simp only[Tr]at h1;obtain⟨xs,S'',dM,_,_⟩:=h1;refine⟨.int .i64 m,rfl,?_⟩;have qV:∃ad cp,v=.slice ad m cp:=by
  rcases dM.2 with⟨e1,e2⟩|⟨b1,c1,cu1,e1,_⟩
  ·exact⟨none,0,by rw[e1,e2]⟩
  ·exact⟨_,_,e1⟩
 obtain⟨ad,cp,rfl⟩:=qV;unfold execOp;simp only[ho,resolve,invoke,Sem.run_bind,Sem.run_pure,Result.andThen_ok,Xj,Xf,Xk,hv.1];refine bk ?_;simp[Builtin.len_,run_underlying (lZ hd uA),goInt]
end
end Go.Av
