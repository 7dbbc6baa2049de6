/- A part. -/
import Derived.Test.YtloolmchekcmeaaGreatXH20
set_option linter.unusedVariables false
set_option linter.unusedSimpArgs false
open Go.Proofs.Tryz renaming prog->Wr
open List renaming take_add_one->Ws,set_cons_zero->Wt,nil_append->Wu,getElem?_eq_getElem->Wv,cons_append->Ww,drop_eq_getElem_cons->Wx,mem_of_getElem?->Wy,map->Wz,take_of_length_le->WA,take_length->WB,set_cons_succ->WC,map_cons->WD,any_append->WE,take->WG,length_take->WH,getElem?_map->WI,append_nil->WJ,getElem?_eq_some_iff->WK
open Bool renaming false_eq_true->WL
open Option renaming bind->WM
namespace Go.Proofs.YtloolmchekcmeaaGreat
attribute [-simp] Go.Av.bO Go.Av.dO Go.Av.ed Go.Av.ec Go.Av.cl Go.Av.cj
open Go Go.Av
attribute [local irreducible] T ah TX EX LX bo cE bF cD fZ aH.kind aH.kids an.kind an.name an.num an.ty an.fr an.label an.kids
attribute [local simp] aX ax
set_option maxHeartbeats 16000000
set_option maxRecDepth 8000
@[simp] theorem KH:td Wr 132=some {ag:=true,sz:=26,jy:=26,zero:=some (eg HZ),el:=none,ar:=some (26,4),fl:=[],ik:=none,cG:=false,kJ:=false}:=di (by kernel_rfl)
theorem iV (A:List bp) (ids:List Nat):∀S:List Bool,kR A ids (eg S)=some (eg S)
 |[]=>rfl
 |b::r=>by simp only[eg,WD,kR];rw[show kR A ids (Wz (fun b=>CV.d (DV.bool b)) r)=some (Wz (fun b=>CV.d (DV.bool b)) r)from iV A ids r];rfl
theorem kt (A:List bp) (os ks:List Nat):∀S:List Bool,me A os ks (eg S)=some (eg S)
 |[]=>rfl
 |b::r=>by simp only[eg,WD,me];rw[show me A os ks (Wz (fun b=>CV.d (DV.bool b)) r)=some (Wz (fun b=>CV.d (DV.bool b)) r)from kt A os ks r];rfl
theorem ku (ids:List Nat) (n m:Nat) (S:List Bool):Wz (CV.ej ids n m∘fun b=>CV.d (DV.bool b)) S=eg S:=List.map_congr_left fun b _=>rfl
theorem iW:∀(S:List Bool) (A:List bp),List.foldl er A (eg S)=A
 |[],A=>rfl
 |b::r,A=>by simp only[eg,WD,List.foldl_cons];exact iW r A
theorem yF {S:List Bool} {i:Nat} (h:i<S.length):bH (eg S) i [CV.d (.bool true)]=eg (S.set i true):=by
 simp only[bH,eg,List.map_set,List.length_singleton];rw[List.set_eq_take_append_cons_drop];simp[h]
set_option maxRecDepth 100000 in
theorem tV (s:ByteArray) (c:Int) (w:World):
  Calls Wr 174 #[.string s,.int .u8 c] w fun e w'=>e=.returned (.int .i64 (Lib.indexByte s.data.toList c.toNat.toUInt8))/\w'=w:=by
 go_enter Tryz.func174,Tryz.ntmps174
 go_wp2
 rw[run_callFunc_extern Tryz.func178 (by kernel_rfl) (by kernel_rfl) (by kernel_rfl) (e:=Extern.BytealgIndexByte.indexByte) (by kernel_rfl),Lib.run_indexByteString];simp only[Result.andThen];rw[Oper.upon_value]
 go_wp2
 go_ret
 exact⟨rfl,rfl⟩
theorem wQ (s:List UInt8) (c:Int):ah Wr 174 [.s s,.c (.d (.int .u8 c))] [] (.i (Lib.indexByte s c.toNat.toUInt8)) [] []:=by
 unfold ah;refine⟨enters (c:=(Tryz.f174.body).getD .skip) Tryz.func174 rfl (by kernel_rfl),by simp,fun g w vs hg hI hT hl hv=>?_⟩;have h0:0<vs.size:=by rw[hl];simp
 have h1:1<vs.size:=by rw[hl];simp
 have e0:=hv 0 _ vs[0] rfl (by simp[h0]);have e1:=hv 1 _ vs[1] rfl (by simp[h1]);simp only[aU,c7,bj,bc]at e0 e1;have e:vs= #[.string (bs s),.int .u8 c]:=by
  apply Array.ext
  ·simpa using hl
  ·intro i hi Ay
   match i with
   |0=>simpa using e0
   |1=>simpa using e1
   |i+2=>exact absurd Ay (by simp)
 subst e;refine(tV (bs s) c w).mono ?_;rintro e w' ⟨rfl,rfl⟩;exact⟨_,g,rfl,by simp[aU,c7,bj,bc,bs],hI,.refl hT⟩
theorem Cj (s:List UInt8) (c:UInt8):ah Wr 168 [.s s,.s [c]] [] (.i (Lib.indexByte s c)) [] []:=by
 have h:=wQ s c.toNat;have e:(c.toNat:Int).toNat.toUInt8=c:=by simp
 rw[e]at h;by_cases hs:s=[c]
 ·subst hs;refine ah.ob Tryz.func168 Tryz.ntmps168 rfl ?_;repeat' first|((first|refine ab (hK _ ?_)|refine aq (hK _ ?_)|refine aJ (hK _ ?_));clear hK K)|((first|refine ae ?_|refine aA ?_|refine aQ ?_|refine aa rfl (h) ?_);simp;(try(refine gen2 ?_ ?_<;>intro hq<;>try simp at hq)))|(refine T.ret (aG.data (Or.inr rfl) ?_ ?_)<;>simp[Tryz.results168,Lib.indexByte]<;>omega)|refine T.r0 fun K hK=>?_|refine T.r1 fun K hK=>?_|(refine⟨by omega,?_⟩)|refine T.ct rfl ?_|refine T.cf rfl ?_|refine T.seq ?_|refine T.block ?_|refine T.skip ?_|refine T.exit ?_
 ·have I6:¬[c]=s:=fun e=>hs e.symm
  refine ah.ob Tryz.func168 Tryz.ntmps168 rfl ?_;repeat' first|((first|refine ab (hK _ ?_)|refine aq (hK _ ?_)|refine aJ (hK _ ?_));clear hK K)|((first|refine ae ?_|refine aA ?_|refine aQ ?_|refine aa rfl (h) ?_);simp[I6];(try(refine gen2 ?_ ?_<;>intro hq<;>try simp[I6]at hq)))|(refine T.ret (aG.data (Or.inr rfl) ?_ ?_)<;>simp[Tryz.results168]<;>omega)|refine T.r0 fun K hK=>?_|refine T.r1 fun K hK=>?_|(refine⟨by omega,?_⟩)|refine T.ct rfl ?_|refine T.cf rfl ?_|refine T.seq ?_|refine T.block ?_|refine T.skip ?_|refine T.exit ?_
theorem z7 (s:List UInt8) (c:UInt8):ah Wr 159 [.s s,.s [c]] [] (.i (Lib.indexByte s c)) [] []:=by
 have h:=Cj s c;refine ah.ob Tryz.func159 Tryz.ntmps159 rfl ?_;repeat' first|((first|refine ab (hK _ ?_)|refine aq (hK _ ?_)|refine aJ (hK _ ?_));clear hK K)|((first|refine ae ?_|refine aA ?_|refine aQ ?_|refine aa rfl (h) ?_);simp;(try(refine gen2 ?_ ?_<;>intro hq<;>try simp at hq)))|(refine T.ret (aG.data (Or.inr rfl) ?_ ?_)<;>simp[Tryz.results159]<;>omega)|refine T.r0 fun K hK=>?_|refine T.r1 fun K hK=>?_|(refine⟨by omega,?_⟩)|refine T.ct rfl ?_|refine T.cf rfl ?_|refine T.seq ?_|refine T.block ?_|refine T.skip ?_|refine T.exit ?_
theorem pL (s:List UInt8) (c:UInt8):ah Wr 137 [.s s,.s [c]] [] (.b (s.contains c)) [] []:=by
 have h:=z7 s c;have e:decide (0<=Lib.indexByte s c)=s.contains c:=by
  rw[Bool.eq_iff_iff,decide_eq_true_iff];exact nY s c
 rw[<-e];refine ah.ob Tryz.func137 Tryz.ntmps137 rfl ?_;repeat' first|((first|refine ab (hK _ ?_)|refine aq (hK _ ?_)|refine aJ (hK _ ?_));clear hK K)|((first|refine ae ?_|refine aA ?_|refine aQ ?_|refine aa rfl (h) ?_);simp)|(refine T.ret (aG.data (Or.inr rfl) ?_ ?_)<;>simp[Tryz.results137]<;>omega)|refine T.r0 fun K hK=>?_|refine T.r1 fun K hK=>?_|(refine⟨by omega,?_⟩)|refine T.ct rfl ?_|refine T.cf rfl ?_|refine T.seq ?_|refine T.block ?_|refine T.skip ?_|refine T.exit ?_
theorem D9 (e:an) (bd:List UInt8) (h1:e.kind=1) (z:UInt8) (hz:e.name=[z]) (NF:97<=z.toNat) (Ic:z.toNat<=122) (cr:bd.contains z=false) (hl:e.kids.length<=3) (S:List Bool) (hS:S.length=26)
  (ih:∀u∈e.kids,∀S:List Bool,S.length=26->ah Wr 105 [cw u,.s (bd),.c (.ptr 0 0)] [eg S] (.bu []) [eg (iM (fun c=>aW c (bd) u) S)] []):
  ah Wr 105 [cw e,.s bd,.c (.ptr 0 0)] [eg S] (.bu []) [eg (iM (fun c=>e.kids.any (aW c (bd))) (iM (fun c=>decide (c=z)) S))] []:=by
 have hc:=pL bd z;rw[cr]at hc;have G6:IntKind.u8.wrap ((z.toNat:Int)-97)=(z.toNat-97:Nat):=by rw[show((z.toNat:Int)-97)=((z.toNat-97:Nat):Int) by omega];exact GU (by omega)
 rw[<-FK hS NF Ic];obtain⟨bd',A6⟩:∃bd',bd=bd':=⟨_,rfl⟩;rw[A6]at ih⊢;rw[A6]at hc;obtain⟨S1,CM⟩:∃S1,S.set (z.toNat-97) true=S1:=⟨_,rfl⟩;rw[CM];have uC:S1.length=26:=by rw[<-CM];simpa using hS
 have GS:WG (z.toNat-97) (eg S)++CV.d (.bool true)::List.drop (z.toNat-97+1) (eg S)=eg S1:=by rw[<-CM,<-yF (by omega)];simp[bH]
 refine ah.ob Tryz.func105 Tryz.ntmps105 rfl ?_;repeat' first|((first|refine ab (hK _ ?_)|refine aq (hK _ ?_)|refine aJ (hK _ ?_));clear hK K)|((first|refine ae ?_|refine aA ?_|refine aQ ?_|refine aa rfl (hc) ?_);simp[h1,hz,cr,G6,GS];(try(refine gen2 ?_ ?_<;>intro hq<;>try simp[h1,hz,cr,G6,GS]at hq)))|refine T.rd (id:=2) mixed (fun _=>false) [7] (by kernel_rfl) fun K hK=>?_|refine T.mW (id:=2) mixed (fun _=>false) [7] (by kernel_rfl) fun K hK=>?_|refine T.r0 fun K hK=>?_|refine T.r1 fun K hK=>?_|(refine⟨by omega,?_⟩)|refine T.ct rfl ?_|refine T.cf rfl ?_|refine T.seq ?_|refine T.block ?_|refine T.skip ?_|refine T.exit ?_
 refine T.dq (α:=Nat×List (List CV)) [1,2,33,34] (fun x=>[(35,.i x.1)]) (fun x=>[(0,eg (iM (fun c=>(e.kids.take x.1).any (aW c bd')) S1))]) (fun x=>x.2) (fun x A=>A) (fun x=>e.kids.length+1-x.1) (fun x=>x.1<=e.kids.length) (by simp;rfl) (fun x hx=>?_) (0,[]) (by simp) (by simp[pK,uC]) (by simp) (by simp);obtain⟨p,G⟩:=x;dsimp only at hx⊢;simp only[fP,Wt,Ww,Wu];by_cases aC:p<e.kids.length
 ·obtain⟨u,ht⟩:=bV aC;have eN:u∈e.kids:=Wy ht;have bn:e.kids[p]=u:=by rw[Wv aC]at ht;exact Option.some.inj ht
  have iA:e.kids.drop p=u::e.kids.drop (p+1):=by rw[Wx aC,bn]
  have FA:(iM (fun c=>(e.kids.take p).any (aW c bd')) S1).length=26:=ib uC;have hu:=ih u eN _ FA;rw[tS uC]at hu;have j6:iM (fun c=>(e.kids.take (p+1)).any (aW c bd')) S1=iM (fun c=>(e.kids.take p).any (aW c bd')||aW c bd' u) S1:=gh fun c=>by rw[Ws,ht,WE];simp
  rw[<-j6]at hu;generalize iM (fun c=>(e.kids.take p).any (aW c bd')) S1=Z at*;obtain⟨Z',vP⟩:∃Z',iM (fun c=>(e.kids.take (p+1)).any (aW c bd')) S1=Z':=⟨_,rfl⟩;rw[vP]at hu;repeat' first|((first|refine ab (hK _ ?_)|refine aq (hK _ ?_)|refine aJ (hK _ ?_));clear hK K)|((first|refine ae ?_|refine aA ?_|refine aQ ?_);simp[aC,bn];(try simp(disch:=omega)only[wrap64]);(try(refine gen2 ?_ ?_<;>intro hq<;>try simp[aC,bn]at hq)))|(refine mu [0] (by simp) rfl (by simp[iV]) hu ?_;simp[ku,iW])|refine T.rd (id:=2) mixed (fun _=>false) [7] (by kernel_rfl) fun K hK=>?_|refine T.mW (id:=2) mixed (fun _=>false) [7] (by kernel_rfl) fun K hK=>?_|refine T.r0 fun K hK=>?_|refine T.r1 fun K hK=>?_|(refine⟨by omega,?_⟩)|refine T.ct rfl ?_|refine T.cf rfl ?_|refine T.seq ?_|refine T.block ?_|refine T.skip ?_|refine T.exit ?_
  refine⟨(p+1,G++[(cw u).cells]),by dsimp only;omega,by dsimp only;omega,by dsimp only;rw[vP];rfl,?_,?_⟩<;>simp(disch:=omega) [wrap64]
 ·have fj:p=e.kids.length:=by omega
  subst fj;rw[WB];generalize iM (fun c=>e.kids.any (aW c bd')) S1=Z at*;repeat' first|((first|refine ab (hK _ ?_)|refine aq (hK _ ?_)|refine aJ (hK _ ?_));clear hK K)|((first|refine ae ?_|refine aA ?_|refine aQ ?_);simp[aC];(try(refine gen2 ?_ ?_<;>intro hq<;>try simp[aC]at hq)))|refine T.rd (id:=2) mixed (fun _=>false) [7] (by kernel_rfl) fun K hK=>?_|refine T.mW (id:=2) mixed (fun _=>false) [7] (by kernel_rfl) fun K hK=>?_|refine T.r0 fun K hK=>?_|refine T.r1 fun K hK=>?_|(refine⟨by omega,?_⟩)|refine T.ct rfl ?_|refine T.cf rfl ?_|refine T.seq ?_|refine T.block ?_|refine T.skip ?_|refine T.exit ?_
  all_goals(refine aG.g (ys:=[]) (Or.inl rfl) ?_ rfl ?_<;>simp[aI,kt,Tryz.results105])
theorem Ea (e:an) (bd:List UInt8) (h1:e.kind=1) (z:UInt8) (hz:e.name=[z]) (cr:bd.contains z=true) (hl:e.kids.length<=3) (S:List Bool) (hS:S.length=26)
  (ih:∀u∈e.kids,∀S:List Bool,S.length=26->ah Wr 105 [cw u,.s (bd),.c (.ptr 0 0)] [eg S] (.bu []) [eg (iM (fun c=>aW c (bd) u) S)] []):
  ah Wr 105 [cw e,.s bd,.c (.ptr 0 0)] [eg S] (.bu []) [eg (iM (fun c=>e.kids.any (aW c (bd))) (S))] []:=by
 have hc:=pL bd z;rw[cr]at hc;obtain⟨bd',A6⟩:∃bd',bd=bd':=⟨_,rfl⟩;rw[A6]at ih⊢;rw[A6]at hc;obtain⟨S1,CM⟩:∃S1,S=S1:=⟨_,rfl⟩;rw[CM]at hS⊢;have uC:S1.length=26:=hS;refine ah.ob Tryz.func105 Tryz.ntmps105 rfl ?_;repeat' first|((first|refine ab (hK _ ?_)|refine aq (hK _ ?_)|refine aJ (hK _ ?_));clear hK K)|((first|refine ae ?_|refine aA ?_|refine aQ ?_|refine aa rfl (hc) ?_);simp[h1,hz,cr];(try(refine gen2 ?_ ?_<;>intro hq<;>try simp[h1,hz,cr]at hq)))|refine T.rd (id:=2) mixed (fun _=>false) [7] (by kernel_rfl) fun K hK=>?_|refine T.mW (id:=2) mixed (fun _=>false) [7] (by kernel_rfl) fun K hK=>?_|refine T.r0 fun K hK=>?_|refine T.r1 fun K hK=>?_|(refine⟨by omega,?_⟩)|refine T.ct rfl ?_|refine T.cf rfl ?_|refine T.seq ?_|refine T.block ?_|refine T.skip ?_|refine T.exit ?_
 refine T.dq (α:=Nat×List (List CV)) [1,2,33,34] (fun x=>[(35,.i x.1)]) (fun x=>[(0,eg (iM (fun c=>(e.kids.take x.1).any (aW c bd')) S1))]) (fun x=>x.2) (fun x A=>A) (fun x=>e.kids.length+1-x.1) (fun x=>x.1<=e.kids.length) (by simp;rfl) (fun x hx=>?_) (0,[]) (by simp) (by simp[pK,uC]) (by simp) (by simp);obtain⟨p,G⟩:=x;dsimp only at hx⊢;simp only[fP,Wt,Ww,Wu];by_cases aC:p<e.kids.length
 ·obtain⟨u,ht⟩:=bV aC;have eN:u∈e.kids:=Wy ht;have bn:e.kids[p]=u:=by rw[Wv aC]at ht;exact Option.some.inj ht
  have iA:e.kids.drop p=u::e.kids.drop (p+1):=by rw[Wx aC,bn]
  have FA:(iM (fun c=>(e.kids.take p).any (aW c bd')) S1).length=26:=ib uC;have hu:=ih u eN _ FA;rw[tS uC]at hu;have j6:iM (fun c=>(e.kids.take (p+1)).any (aW c bd')) S1=iM (fun c=>(e.kids.take p).any (aW c bd')||aW c bd' u) S1:=gh fun c=>by rw[Ws,ht,WE];simp
  rw[<-j6]at hu;generalize iM (fun c=>(e.kids.take p).any (aW c bd')) S1=Z at*;obtain⟨Z',vP⟩:∃Z',iM (fun c=>(e.kids.take (p+1)).any (aW c bd')) S1=Z':=⟨_,rfl⟩;rw[vP]at hu;repeat' first|((first|refine ab (hK _ ?_)|refine aq (hK _ ?_)|refine aJ (hK _ ?_));clear hK K)|((first|refine ae ?_|refine aA ?_|refine aQ ?_);simp[aC,bn];(try simp(disch:=omega)only[wrap64]);(try(refine gen2 ?_ ?_<;>intro hq<;>try simp[aC,bn]at hq)))|(refine mu [0] (by simp) rfl (by simp[iV]) hu ?_;simp[ku,iW])|refine T.rd (id:=2) mixed (fun _=>false) [7] (by kernel_rfl) fun K hK=>?_|refine T.mW (id:=2) mixed (fun _=>false) [7] (by kernel_rfl) fun K hK=>?_|refine T.r0 fun K hK=>?_|refine T.r1 fun K hK=>?_|(refine⟨by omega,?_⟩)|refine T.ct rfl ?_|refine T.cf rfl ?_|refine T.seq ?_|refine T.block ?_|refine T.skip ?_|refine T.exit ?_
  refine⟨(p+1,G++[(cw u).cells]),by dsimp only;omega,by dsimp only;omega,by dsimp only;rw[vP];rfl,?_,?_⟩<;>simp(disch:=omega) [wrap64]
 ·have fj:p=e.kids.length:=by omega
  subst fj;rw[WB];generalize iM (fun c=>e.kids.any (aW c bd')) S1=Z at*;repeat' first|((first|refine ab (hK _ ?_)|refine aq (hK _ ?_)|refine aJ (hK _ ?_));clear hK K)|((first|refine ae ?_|refine aA ?_|refine aQ ?_);simp[aC];(try(refine gen2 ?_ ?_<;>intro hq<;>try simp[aC]at hq)))|refine T.rd (id:=2) mixed (fun _=>false) [7] (by kernel_rfl) fun K hK=>?_|refine T.mW (id:=2) mixed (fun _=>false) [7] (by kernel_rfl) fun K hK=>?_|refine T.r0 fun K hK=>?_|refine T.r1 fun K hK=>?_|(refine⟨by omega,?_⟩)|refine T.ct rfl ?_|refine T.cf rfl ?_|refine T.seq ?_|refine T.block ?_|refine T.skip ?_|refine T.exit ?_
  all_goals(refine aG.g (ys:=[]) (Or.inl rfl) ?_ rfl ?_<;>simp[aI,kt,Tryz.results105])
theorem Eb (e:an) (bd:List UInt8) (h1:¬e.kind=1) (h5:e.kind=5) (rX:bd.length+e.name.length<=4611686018427387904) (hl:e.kids.length<=3) (S:List Bool) (hS:S.length=26)
  (ih:∀u∈e.kids,∀S:List Bool,S.length=26->ah Wr 105 [cw u,.s (bd++e.name),.c (.ptr 0 0)] [eg S] (.bu []) [eg (iM (fun c=>aW c (bd++e.name) u) S)] []):
  ah Wr 105 [cw e,.s bd,.c (.ptr 0 0)] [eg S] (.bu []) [eg (iM (fun c=>e.kids.any (aW c (bd++e.name))) (S))] []:=by
 obtain⟨bd',A6⟩:∃bd',bd++e.name=bd':=⟨_,rfl⟩;rw[A6]at ih⊢;obtain⟨S1,CM⟩:∃S1,S=S1:=⟨_,rfl⟩;rw[CM]at hS⊢;have uC:S1.length=26:=hS;refine ah.ob Tryz.func105 Tryz.ntmps105 rfl ?_;repeat' first|((first|refine ab (hK _ ?_)|refine aq (hK _ ?_)|refine aJ (hK _ ?_));clear hK K)|((first|refine ae ?_|refine aA ?_|refine aQ ?_);simp[h1,h5,rX,A6];(try(refine gen2 ?_ ?_<;>intro hq<;>try simp[h1,h5,rX,A6]at hq)))|refine T.rd (id:=2) mixed (fun _=>false) [7] (by kernel_rfl) fun K hK=>?_|refine T.mW (id:=2) mixed (fun _=>false) [7] (by kernel_rfl) fun K hK=>?_|refine T.r0 fun K hK=>?_|refine T.r1 fun K hK=>?_|(refine⟨by omega,?_⟩)|refine T.ct rfl ?_|refine T.cf rfl ?_|refine T.seq ?_|refine T.block ?_|refine T.skip ?_|refine T.exit ?_
 refine T.dq (α:=Nat×List (List CV)) [1,2,33,34] (fun x=>[(35,.i x.1)]) (fun x=>[(0,eg (iM (fun c=>(e.kids.take x.1).any (aW c bd')) S1))]) (fun x=>x.2) (fun x A=>A) (fun x=>e.kids.length+1-x.1) (fun x=>x.1<=e.kids.length) (by simp;rfl) (fun x hx=>?_) (0,[]) (by simp) (by simp[pK,uC]) (by simp) (by simp);obtain⟨p,G⟩:=x;dsimp only at hx⊢;simp only[fP,Wt,Ww,Wu];by_cases aC:p<e.kids.length
 ·obtain⟨u,ht⟩:=bV aC;have eN:u∈e.kids:=Wy ht;have bn:e.kids[p]=u:=by rw[Wv aC]at ht;exact Option.some.inj ht
  have iA:e.kids.drop p=u::e.kids.drop (p+1):=by rw[Wx aC,bn]
  have FA:(iM (fun c=>(e.kids.take p).any (aW c bd')) S1).length=26:=ib uC;have hu:=ih u eN _ FA;rw[tS uC]at hu;have j6:iM (fun c=>(e.kids.take (p+1)).any (aW c bd')) S1=iM (fun c=>(e.kids.take p).any (aW c bd')||aW c bd' u) S1:=gh fun c=>by rw[Ws,ht,WE];simp
  rw[<-j6]at hu;generalize iM (fun c=>(e.kids.take p).any (aW c bd')) S1=Z at*;obtain⟨Z',vP⟩:∃Z',iM (fun c=>(e.kids.take (p+1)).any (aW c bd')) S1=Z':=⟨_,rfl⟩;rw[vP]at hu;repeat' first|((first|refine ab (hK _ ?_)|refine aq (hK _ ?_)|refine aJ (hK _ ?_));clear hK K)|((first|refine ae ?_|refine aA ?_|refine aQ ?_);simp[aC,bn];(try simp(disch:=omega)only[wrap64]);(try(refine gen2 ?_ ?_<;>intro hq<;>try simp[aC,bn]at hq)))|(refine mu [0] (by simp) rfl (by simp[iV]) hu ?_;simp[ku,iW])|refine T.rd (id:=2) mixed (fun _=>false) [7] (by kernel_rfl) fun K hK=>?_|refine T.mW (id:=2) mixed (fun _=>false) [7] (by kernel_rfl) fun K hK=>?_|refine T.r0 fun K hK=>?_|refine T.r1 fun K hK=>?_|(refine⟨by omega,?_⟩)|refine T.ct rfl ?_|refine T.cf rfl ?_|refine T.seq ?_|refine T.block ?_|refine T.skip ?_|refine T.exit ?_
  refine⟨(p+1,G++[(cw u).cells]),by dsimp only;omega,by dsimp only;omega,by dsimp only;rw[vP];rfl,?_,?_⟩<;>simp(disch:=omega) [wrap64]
 ·have fj:p=e.kids.length:=by omega
  subst fj;rw[WB];generalize iM (fun c=>e.kids.any (aW c bd')) S1=Z at*;repeat' first|((first|refine ab (hK _ ?_)|refine aq (hK _ ?_)|refine aJ (hK _ ?_));clear hK K)|((first|refine ae ?_|refine aA ?_|refine aQ ?_);simp[aC];(try(refine gen2 ?_ ?_<;>intro hq<;>try simp[aC]at hq)))|refine T.rd (id:=2) mixed (fun _=>false) [7] (by kernel_rfl) fun K hK=>?_|refine T.mW (id:=2) mixed (fun _=>false) [7] (by kernel_rfl) fun K hK=>?_|refine T.r0 fun K hK=>?_|refine T.r1 fun K hK=>?_|(refine⟨by omega,?_⟩)|refine T.ct rfl ?_|refine T.cf rfl ?_|refine T.seq ?_|refine T.block ?_|refine T.skip ?_|refine T.exit ?_
  all_goals(refine aG.g (ys:=[]) (Or.inl rfl) ?_ rfl ?_<;>simp[aI,kt,Tryz.results105])
theorem Ec (e:an) (bd:List UInt8) (h1:¬e.kind=1) (h5:¬e.kind=5) (hl:e.kids.length<=3) (S:List Bool) (hS:S.length=26)
  (ih:∀u∈e.kids,∀S:List Bool,S.length=26->ah Wr 105 [cw u,.s (bd),.c (.ptr 0 0)] [eg S] (.bu []) [eg (iM (fun c=>aW c (bd) u) S)] []):
  ah Wr 105 [cw e,.s bd,.c (.ptr 0 0)] [eg S] (.bu []) [eg (iM (fun c=>e.kids.any (aW c (bd))) (S))] []:=by
 obtain⟨bd',A6⟩:∃bd',bd=bd':=⟨_,rfl⟩;rw[A6]at ih⊢;obtain⟨S1,CM⟩:∃S1,S=S1:=⟨_,rfl⟩;rw[CM]at hS⊢;have uC:S1.length=26:=hS;refine ah.ob Tryz.func105 Tryz.ntmps105 rfl ?_;repeat' first|((first|refine ab (hK _ ?_)|refine aq (hK _ ?_)|refine aJ (hK _ ?_));clear hK K)|((first|refine ae ?_|refine aA ?_|refine aQ ?_);simp[h1,h5];(try(refine gen2 ?_ ?_<;>intro hq<;>try simp[h1,h5]at hq)))|refine T.rd (id:=2) mixed (fun _=>false) [7] (by kernel_rfl) fun K hK=>?_|refine T.mW (id:=2) mixed (fun _=>false) [7] (by kernel_rfl) fun K hK=>?_|refine T.r0 fun K hK=>?_|refine T.r1 fun K hK=>?_|(refine⟨by omega,?_⟩)|refine T.ct rfl ?_|refine T.cf rfl ?_|refine T.seq ?_|refine T.block ?_|refine T.skip ?_|refine T.exit ?_
 refine T.dq (α:=Nat×List (List CV)) [1,2,33,34] (fun x=>[(35,.i x.1)]) (fun x=>[(0,eg (iM (fun c=>(e.kids.take x.1).any (aW c bd')) S1))]) (fun x=>x.2) (fun x A=>A) (fun x=>e.kids.length+1-x.1) (fun x=>x.1<=e.kids.length) (by simp;rfl) (fun x hx=>?_) (0,[]) (by simp) (by simp[pK,uC]) (by simp) (by simp);obtain⟨p,G⟩:=x;dsimp only at hx⊢;simp only[fP,Wt,Ww,Wu];by_cases aC:p<e.kids.length
 ·obtain⟨u,ht⟩:=bV aC;have eN:u∈e.kids:=Wy ht;have bn:e.kids[p]=u:=by rw[Wv aC]at ht;exact Option.some.inj ht
  have iA:e.kids.drop p=u::e.kids.drop (p+1):=by rw[Wx aC,bn]
  have FA:(iM (fun c=>(e.kids.take p).any (aW c bd')) S1).length=26:=ib uC;have hu:=ih u eN _ FA;rw[tS uC]at hu;have j6:iM (fun c=>(e.kids.take (p+1)).any (aW c bd')) S1=iM (fun c=>(e.kids.take p).any (aW c bd')||aW c bd' u) S1:=gh fun c=>by rw[Ws,ht,WE];simp
  rw[<-j6]at hu;generalize iM (fun c=>(e.kids.take p).any (aW c bd')) S1=Z at*;obtain⟨Z',vP⟩:∃Z',iM (fun c=>(e.kids.take (p+1)).any (aW c bd')) S1=Z':=⟨_,rfl⟩;rw[vP]at hu;repeat' first|((first|refine ab (hK _ ?_)|refine aq (hK _ ?_)|refine aJ (hK _ ?_));clear hK K)|((first|refine ae ?_|refine aA ?_|refine aQ ?_);simp[aC,bn];(try simp(disch:=omega)only[wrap64]);(try(refine gen2 ?_ ?_<;>intro hq<;>try simp[aC,bn]at hq)))|(refine mu [0] (by simp) rfl (by simp[iV]) hu ?_;simp[ku,iW])|refine T.rd (id:=2) mixed (fun _=>false) [7] (by kernel_rfl) fun K hK=>?_|refine T.mW (id:=2) mixed (fun _=>false) [7] (by kernel_rfl) fun K hK=>?_|refine T.r0 fun K hK=>?_|refine T.r1 fun K hK=>?_|(refine⟨by omega,?_⟩)|refine T.ct rfl ?_|refine T.cf rfl ?_|refine T.seq ?_|refine T.block ?_|refine T.skip ?_|refine T.exit ?_
  refine⟨(p+1,G++[(cw u).cells]),by dsimp only;omega,by dsimp only;omega,by dsimp only;rw[vP];rfl,?_,?_⟩<;>simp(disch:=omega) [wrap64]
 ·have fj:p=e.kids.length:=by omega
  subst fj;rw[WB];generalize iM (fun c=>e.kids.any (aW c bd')) S1=Z at*;repeat' first|((first|refine ab (hK _ ?_)|refine aq (hK _ ?_)|refine aJ (hK _ ?_));clear hK K)|((first|refine ae ?_|refine aA ?_|refine aQ ?_);simp[aC];(try(refine gen2 ?_ ?_<;>intro hq<;>try simp[aC]at hq)))|refine T.rd (id:=2) mixed (fun _=>false) [7] (by kernel_rfl) fun K hK=>?_|refine T.mW (id:=2) mixed (fun _=>false) [7] (by kernel_rfl) fun K hK=>?_|refine T.r0 fun K hK=>?_|refine T.r1 fun K hK=>?_|(refine⟨by omega,?_⟩)|refine T.ct rfl ?_|refine T.cf rfl ?_|refine T.seq ?_|refine T.block ?_|refine T.skip ?_|refine T.exit ?_
  all_goals(refine aG.g (ys:=[]) (Or.inl rfl) ?_ rfl ?_<;>simp[aI,kt,Tryz.results105])
theorem FN {nt:Int}:∀(e:an) (d:Nat) (bd:List UInt8) (S:List Bool),bm nt d e=true->S.length=26->bd.length+d<=1000000->
  ah Wr 105 [cw e,.s bd,.c (.ptr 0 0)] [eg S] (.bu []) [eg (iM (fun c=>aW c bd e) S)] []:=by
 intro e;induction e using an.ind with
 |h e ih=>
  intro d bd S hs hS A6;obtain⟨d',rfl,cN,hlen,dM,ru⟩:=iO hs;have GK:e.kids.length<=3:=by have:=x9 e.kind;omega
  have ih':=fun(bd:List UInt8) (A6:bd.length+d'<=1000000) u hu (S:List Bool) hS=>ih u hu d' bd S (ru u hu) hS A6
  by_cases h1:e.kind=1
  ·have h5:¬e.kind=5:=by omega
   obtain⟨z,hz,NF,Ic⟩:=ni (vQ dM (by simp[cB,h1]));have h0:e.kids=[]:=by
    rw[h1]at hlen;simp[cv]at hlen;exact List.eq_nil_of_length_eq_zero (by omega)
   cases cr:bd.contains z with
   |false=>
    have:=D9 e bd h1 z hz NF Ic cr GK S hS (ih' bd (by omega));rw[tS hS]at this;rw[gh (g:=fun c=>decide (c=z)||e.kids.any (aW c bd)) (fun c=>?_)]
    ·exact this
    ·rw[ll,if_neg h5,hz];by_cases e:c=z
     ·subst e;simp only[h1,cr];simp
     ·simp[h1,e,Ne.symm e]
   |true=>
    have:=Ea e bd h1 z hz cr GK S hS (ih' bd (by omega));rw[gh (g:=fun c=>e.kids.any (aW c bd)) (fun c=>?_)]
    ·exact this
    ·rw[ll,if_neg h5,hz];by_cases e:c=z
     ·subst e;simp only[cr];simp
     ·simp[Ne.symm e]
  ·by_cases h5:e.kind=5
   ·obtain⟨z,hz,_,_⟩:=ni (vQ dM (by simp[cB,h5]));have Hi:e.name.length=1:=by rw[hz];rfl
    have:=Eb e bd h1 h5 (by omega) GK S hS (ih' (bd++e.name) (by simp;omega));rw[gh (g:=fun c=>e.kids.any (aW c (bd++e.name))) (fun c=>?_)]
    ·exact this
    ·rw[ll,if_pos h5];simp[h1]
   ·have:=Ec e bd h1 h5 GK S hS (ih' bd (by omega));rw[gh (g:=fun c=>e.kids.any (aW c bd)) (fun c=>?_)]
    ·exact this
    ·rw[ll,if_neg h5];simp[h1]
theorem wR {p:Nat} (h:p<26):fH.take (p+1)=fH.take p++[UInt8.ofNat (97+p)]:=by
 rw[Ws,rG h];rfl
theorem wS {nt:Int} (e:an) (d:Nat) (hd:d<=1000000) (hs:bm nt d e=true):ah Wr 50 [cw e] [] (.s (lp e)) [] []:=by
 have h1:=FN e d [] HZ hs A1 (by simp;omega);obtain⟨Z,hZ⟩:∃Z,iM (fun c=>aW c [] e) HZ=Z:=⟨_,rfl⟩;rw[hZ]at h1;have hg:∀p,p<26->Z[p]? =some (aW (UInt8.ofNat (97+p)) [] e):=fun p hp=>by
  rw[<-hZ,nj (b:=false) hp (FJ hp)];simp
 have yZ:Z.length=26:=by rw[<-hZ];exact ib A1
 have qo:lp e=(fH.take 26).filter fun c=>aW c [] e:=by rw[lp,WA (by rw[rF];omega)]
 rw[qo];clear qo hZ;generalize hf:(fun c=>aW c [] e)=f at*;have hg:∀p,p<26->Z[p]? =some (f (UInt8.ofNat (97+p))):=fun p hp=>by rw[hg p hp,<-hf]
 have Ie:WG 26 (eg Z)=eg Z:=WA (by simp[yZ]);refine ah.ob Tryz.func50 Tryz.ntmps50 rfl ?_;repeat' first|((first|refine ab (hK _ ?_)|refine aq (hK _ ?_)|refine aJ (hK _ ?_));clear hK K)|((first|refine ae ?_|refine aA ?_|refine aQ ?_);simp[yZ,Ie];(try(refine gen2 ?_ ?_<;>intro hq<;>try simp[yZ,Ie]at hq)))|(refine mu [1] (by simp) rfl (by simp[iV]) h1 ?_;simp[ku,iW,yZ,Ie])|refine T.r0 fun K hK=>?_|refine T.r1 fun K hK=>?_|(refine⟨by omega,?_⟩)|refine T.ct rfl ?_|refine T.cf rfl ?_|refine T.seq ?_|refine T.block ?_|refine T.skip ?_|refine T.exit ?_
 refine T.dq (α:=Nat×List (List CV)) [2,9] (fun x=>[(4,.s ((fH.take x.1).filter f)),(10,.i x.1)]) (fun x=>[]) (fun x=>x.2) (fun x A=>A) (fun x=>27-x.1) (fun x=>x.1<=26) (by simp;rfl) (fun x hx=>?_) (0,[]) (by simp) (by simp) (by simp) (by simp);obtain⟨p,G⟩:=x;dsimp only at hx⊢;simp only[fP,Wt,WC,Ww,Wu];by_cases aC:p<26
 ·have I7:=hg p aC;have G6:IntKind.u8.wrap (97+(p:Int))=(97+p:Nat):=by rw[show(97+(p:Int))=((97+p:Nat):Int) by omega];exact GU (by omega)
  have I8:bytesOf [[DV.int .u8 ((97+p:Nat):Int)]]=some [UInt8.ofNat (97+p)]:=by simp only[bytesOf,mP];rw[if_pos (by omega)];rfl
  have j6:=wR aC;have sJ:((97+p:Nat):Int)=97+(p:Int):=by omega
  rw[sJ]at G6 I8;clear sJ;obtain⟨z,hz⟩:∃z,UInt8.ofNat (97+p)=z:=⟨_,rfl⟩;rw[hz]at I7 I8 j6;have tB:(p:Int)<26:=by omega
  have r9:(List.filter f (WG p fH)).length<=4611686018427387903:=by
   have h8:=List.length_filter_le f (fH.take p);rw[WH]at h8;omega
  have hlt'':¬(26:Int)<=p:=by omega
  cases hb:f z<;>rw[hb]at I7
  ·repeat' first|((first|refine ab (hK _ ?_)|refine aq (hK _ ?_)|refine aJ (hK _ ?_));clear hK K)|((first|refine ae ?_|refine aA ?_|refine aQ ?_);simp[aC,tB,hlt'',r9,I7,G6,I8];(try simp(disch:=omega)only[wrap64]);(try(refine gen2 ?_ ?_<;>intro hq<;>try simp[aC,tB,hlt'',r9,I7,G6,I8]at hq)))|(refine⟨(p+1,_),by dsimp only;omega,by dsimp only;omega,rfl,?_,?_⟩<;>simp(disch:=omega) [wrap64,j6,hb])|refine T.r0 fun K hK=>?_|refine T.r1 fun K hK=>?_|(refine⟨by omega,?_⟩)|refine T.ct rfl ?_|refine T.cf rfl ?_|refine T.seq ?_|refine T.block ?_|refine T.skip ?_|refine T.exit ?_
  ·repeat' first|((first|refine ab (hK _ ?_)|refine aq (hK _ ?_)|refine aJ (hK _ ?_));clear hK K)|((first|refine ae ?_|refine aA ?_|refine aQ ?_);simp[aC,tB,hlt'',r9,I7,G6,I8];(try simp(disch:=omega)only[wrap64]);(try(refine gen2 ?_ ?_<;>intro hq<;>try simp[aC,tB,hlt'',r9,I7,G6,I8]at hq)))|(refine⟨(p+1,_),by dsimp only;omega,by dsimp only;omega,rfl,?_,?_⟩<;>simp(disch:=omega) [wrap64,j6,hb])|refine T.r0 fun K hK=>?_|refine T.r1 fun K hK=>?_|(refine⟨by omega,?_⟩)|refine T.ct rfl ?_|refine T.cf rfl ?_|refine T.seq ?_|refine T.block ?_|refine T.skip ?_|refine T.exit ?_
 ·have fj:p=26:=by omega
  subst fj;repeat' first|((first|refine ab (hK _ ?_)|refine aq (hK _ ?_)|refine aJ (hK _ ?_));clear hK K)|((first|refine ae ?_|refine aA ?_|refine aQ ?_);simp[aC];(try(refine gen2 ?_ ?_<;>intro hq<;>try simp[aC]at hq)))|(refine T.ret (aG.val (Or.inr rfl) ?_)<;>simp[aI,Tryz.results50]<;>omega)|refine T.r0 fun K hK=>?_|refine T.r1 fun K hK=>?_|(refine⟨by omega,?_⟩)|refine T.ct rfl ?_|refine T.cf rfl ?_|refine T.seq ?_|refine T.block ?_|refine T.skip ?_|refine T.exit ?_
theorem wU (e:an) (hn:fO e<=1099511627776):ah Wr 14 [cw e] [] (.s (if aR e=true then lp e else [])) [] []:=by
 have h1:=lk e hn;cases hv:aR e with
 |false=>
  rw[hv]at h1;simp only[WL,if_false];refine ah.ob Tryz.func14 Tryz.ntmps14 rfl ?_;repeat' first|((first|refine ab (hK _ ?_)|refine aq (hK _ ?_)|refine aJ (hK _ ?_));clear hK K)|((first|refine ae ?_|refine aA ?_|refine aQ ?_|refine aa rfl (h1) ?_);simp;(try(refine gen2 ?_ ?_<;>intro hq<;>try simp at hq)))|(refine T.ret (aG.data (Or.inr rfl) ?_ ?_)<;>simp[Tryz.results14]<;>omega)|refine T.r0 fun K hK=>?_|refine T.r1 fun K hK=>?_|(refine⟨by omega,?_⟩)|refine T.ct rfl ?_|refine T.cf rfl ?_|refine T.seq ?_|refine T.block ?_|refine T.skip ?_|refine T.exit ?_
 |true=>
  rw[hv]at h1;have h2:=wS e 12 (by omega) (rZ hv).shape;simp only[if_true];refine ah.ob Tryz.func14 Tryz.ntmps14 rfl ?_;repeat' first|((first|refine ab (hK _ ?_)|refine aq (hK _ ?_)|refine aJ (hK _ ?_));clear hK K)|((first|refine ae ?_|refine aA ?_|refine aQ ?_|refine aa rfl (h1) ?_|refine aa rfl (h2) ?_);simp;(try(refine gen2 ?_ ?_<;>intro hq<;>try simp at hq)))|(refine T.ret (aG.data (Or.inr rfl) ?_ ?_)<;>simp[Tryz.results14]<;>omega)|refine T.r0 fun K hK=>?_|refine T.r1 fun K hK=>?_|(refine⟨by omega,?_⟩)|refine T.ct rfl ?_|refine T.cf rfl ?_|refine T.seq ?_|refine T.block ?_|refine T.skip ?_|refine T.exit ?_
end Go.Proofs.YtloolmchekcmeaaGreat
namespace Go.Proofs.YtloolmchekcmeaaGreat
attribute [-simp] Go.Av.bO Go.Av.dO Go.Av.ed Go.Av.ec Go.Av.cl Go.Av.cj
open Go Go.Av
attribute [local irreducible] T ah TX EX LX bo cE bF cD fZ aH.kind aH.kids an.kind an.name an.num an.ty an.fr an.label an.kids
attribute [local simp] aX ax
set_option maxHeartbeats 16000000
set_option maxRecDepth 8000
attribute [local simp] WM
abbrev Pe (o:Option an):List AV:=match o with
 |some x=>[cw x,.i 1]
 |none=>[cw iz,.i 3]
end Go.Proofs.YtloolmchekcmeaaGreat
namespace Go.Proofs.YtloolmchekcmeaaGreat
attribute [-simp] Go.Av.bO Go.Av.dO Go.Av.ed Go.Av.ec Go.Av.cl Go.Av.cj
open Go Go.Av
attribute [local irreducible] T ah TX EX LX bo cE bF cD fZ aH.kind aH.kids an.kind an.name an.num an.ty an.fr an.label an.kids
attribute [local simp] aX ax
set_option maxHeartbeats 16000000
set_option maxRecDepth 8000
def QQ (l:List aH) (p:Nat):Nat:=((l.take p).map Cg).sum
@[simp] theorem LM:td Wr 188=some {ag:=false,sz:=1,jy:=8,zero:=some [.d (.int .u64 0)],el:=none,ar:=none,fl:=[],ik:=some .u64,cG:=false,kJ:=false}:=di (by kernel_rfl)
@[simp] theorem KI:td Wr 77=some {ag:=false,sz:=1,jy:=24,zero:=some [.nil],el:=some 3,ar:=none,fl:=[],ik:=none,cG:=false,kJ:=false}:=di (by kernel_rfl)
theorem Ig (e:an):ah Wr 47 [cw e] [] (cw (bP e)) [] []:=by
 have h1:=zR e;have hb:=AY 1;cases hh:bt e.kind with
 |true=>
  rw[hh]at h1;rw[show bP e=.mk e.kind e.name e.num iN e.fr e.label e.kids by simp[bP,hh]];refine ah.ob Tryz.func47 Tryz.ntmps47 rfl ?_;repeat' first|((first|refine ab (hK _ ?_)|refine aq (hK _ ?_)|refine aJ (hK _ ?_));clear hK K)|((first|refine ae ?_|refine aA ?_|refine aQ ?_|refine aa rfl (h1) ?_|refine aa rfl (hb) ?_);simp;(try(refine gen2 ?_ ?_<;>intro hq<;>try simp at hq)))|(refine T.ret (aG.val (Or.inr rfl) ?_)<;>simp[aI,Tryz.results47]<;>omega)|refine T.r0 fun K hK=>?_|refine T.r1 fun K hK=>?_|(refine⟨by omega,?_⟩)|refine T.ct rfl ?_|refine T.cf rfl ?_|refine T.seq ?_|refine T.block ?_|refine T.skip ?_|refine T.exit ?_
 |false=>
  rw[hh]at h1;rw[show bP e=e by simp[bP,hh]];refine ah.ob Tryz.func47 Tryz.ntmps47 rfl ?_;repeat' first|((first|refine ab (hK _ ?_)|refine aq (hK _ ?_)|refine aJ (hK _ ?_));clear hK K)|((first|refine ae ?_|refine aA ?_|refine aQ ?_|refine aa rfl (h1) ?_);simp;(try(refine gen2 ?_ ?_<;>intro hq<;>try simp at hq)))|(refine T.ret (aG.val (Or.inr rfl) ?_)<;>simp[aI,Tryz.results47]<;>omega)|refine T.r0 fun K hK=>?_|refine T.r1 fun K hK=>?_|(refine⟨by omega,?_⟩)|refine T.ct rfl ?_|refine T.cf rfl ?_|refine T.seq ?_|refine T.block ?_|refine T.skip ?_|refine T.exit ?_
theorem wV (e:an) (hn:fO e<=1099511627776):ah Wr 13 [cw e] [] (.bu (lM (if aR e=true then some (mapM bP e)else none))) [] []:=by
 have h1:=lk e hn;cases hv:aR e with
 |false=>
  rw[hv]at h1;simp only[WL,if_false,lM];refine ah.ob Tryz.func13 Tryz.ntmps13 rfl ?_;repeat' first|((first|refine ab (hK _ ?_)|refine aq (hK _ ?_)|refine aJ (hK _ ?_));clear hK K)|((first|refine ae ?_|refine aA ?_|refine aQ ?_|refine aa rfl (h1) ?_);simp;(try(refine gen2 ?_ ?_<;>intro hq<;>try simp at hq)))|(refine T.ret (aG.bu (Or.inr rfl) ?_)<;>simp[aI,Tryz.results13]<;>omega)|refine T.r0 fun K hK=>?_|refine T.r1 fun K hK=>?_|(refine⟨by omega,?_⟩)|refine T.ct rfl ?_|refine T.cf rfl ?_|refine T.seq ?_|refine T.block ?_|refine T.skip ?_|refine T.exit ?_
 |true=>
  rw[hv]at h1;have h2:=vO 47 bP (fun _=>True) (fun _ _ _ _=>trivial) (fun e _=>by rw[mw];exact Ig _) e trivial hn;simp only[if_true,lM];generalize mapM bP e=R at*;refine ah.ob Tryz.func13 Tryz.ntmps13 rfl ?_;repeat' first|((first|refine ab (hK _ ?_)|refine aq (hK _ ?_)|refine aJ (hK _ ?_));clear hK K)|((first|refine ae ?_|refine aA ?_|refine aQ ?_|refine aa rfl (h1) ?_|refine aa rfl (h2) ?_);simp;(try(refine gen2 ?_ ?_<;>intro hq<;>try simp at hq)))|(refine T.ret (aG.bu (Or.inr rfl) ?_)<;>simp[aI,Tryz.results13]<;>omega)|refine T.r0 fun K hK=>?_|refine T.r1 fun K hK=>?_|(refine⟨by omega,?_⟩)|refine T.ct rfl ?_|refine T.cf rfl ?_|refine T.seq ?_|refine T.block ?_|refine T.skip ?_|refine T.exit ?_
def QR (e:an):Int:=if jj e=true then((zW e).length:Int)-(zW (GW e)).length else 0
abbrev Pf (e:an):AV:=.agg [.d (.i e.kind),.d (.str e.name),.d (.i e.num),.d (.i e.ty.kind),.d (.sl (e.ty.kids.map cD)),.d (.i e.fr.kind),.d (.sl (e.fr.kids.map cD)),.d (.i e.label),.own 0 e.kids.length]
def QS (l:List an) (p:Nat):List an:=(l.map GW).take p++l.drop p
end Go.Proofs.YtloolmchekcmeaaGreat
namespace Go.Proofs.YtloolmchekcmeaaGreat
attribute [-simp] Go.Av.bO Go.Av.dO Go.Av.ed Go.Av.ec Go.Av.cl Go.Av.cj
open Go Go.Av
attribute [local irreducible] T ah TX EX LX bo cE bF cD fZ aH.kind aH.kids an.kind an.name an.num an.ty an.fr an.label an.kids
attribute [local simp] aX ax
set_option maxHeartbeats 16000000
set_option maxRecDepth 8000
attribute [local simp] WM
abbrev Pg (p:an×Int×Int):List AV:=[cw p.1,.i p.2.1,.i p.2.2]
abbrev QT (p:an×Int×Int×Int):List AV:=[cw p.1,.i p.2.1,.i p.2.2.1,.i p.2.2.2]
abbrev QU (e:an):List AV:=match GY e with
 |some x=>[cw x,.i 1,.i 0]
 |none=>[cw iz,.i 2,.i (D6 e.kind)]
def Ph (p:an×Int×Int):an×Int×Int:=if p.2.1=1 then(p.1,1,0)else(iz,p.2.1,p.2.2)
def RT (p:an×Int×Int×Int):an×Int×Int×Int:=if p.2.1=1 then(iz,5,0,p.2.2.2)else p
end Go.Proofs.YtloolmchekcmeaaGreat
namespace Go.Proofs.YtloolmchekcmeaaGreat
attribute [-simp] Go.Av.bO Go.Av.dO Go.Av.ed Go.Av.ec Go.Av.cl Go.Av.cj
open Go Go.Av
attribute [local irreducible] T ah TX EX LX bo cE bF cD fZ aH.kind aH.kids an.kind an.name an.num an.ty an.fr an.label an.kids
attribute [local simp] aX ax
set_option maxHeartbeats 16000000
set_option maxRecDepth 8000
def Pj (e:an) (f t:aH) (l:Int):an:=if fQ f t=true then e else AP e f t l
theorem z8 (e:an) (dt:¬e.kind=13) (eP:¬e.kind=14) (h5:e.kind=5) (hn:fO e<=1073741824)
  (ih:∀u∈e.kids,ah Wr 43 [cw u] [] (cw (mapM aM u)) [] []):ah Wr 43 [cw e] [] (cw (.mk e.kind e.name e.num iN cy 0 (e.kids.map (mapM aM)))) [] []:=by
 have NG:e.kids.length<=1073741824:=by have:=pg e.kids;rw[kX]at hn;omega
 have pE:=kr;refine ah.ob Tryz.func43 Tryz.ntmps43 rfl ?_;repeat' first|(refine ab (hK _ ?_);clear hK K)|((first|refine ae ?_|refine aa rfl (pE) ?_);simp[dt,eP,h5];(try(refine gen2 ?_ ?_<;>intro hq<;>try simp[dt,eP,h5]at hq)))|refine T.r0 fun K hK=>?_|refine T.r1 fun K hK=>?_|refine T.ct rfl ?_|refine T.cf rfl ?_|refine T.seq ?_|refine T.block ?_|refine T.skip ?_
 refine T.e6 2 8 9 28 (row:=[.d (.i 5),.d (.str e.name),.d (.i e.num),.d (.i 1),.d (.sl []),.d (.i 0),.nil,.d (.i 0),.nil]) (by simp) (by simp) ?_;refine T.dq (α:=Nat) [1,2,3] (fun x=>[(4,.i x)]) (fun x=>[(2,[.d (.i 5),.d (.str e.name),.d (.i e.num),.d (.i 1),.d (.sl []),.d (.i 0),.nil,.d (.i 0),.own 0 x])]) (fun x=>[]) (fun p _=>[{sz:=9,eO:=28,rows:=((e.kids.map (mapM aM)).take p).map fZ,wr:=true}]) (fun x=>e.kids.length+1-x) (fun x=>x<=e.kids.length) (by simp;rfl) (fun p hp=>?_) 0 (by simp) (by simp) (by simp) (by simp);dsimp only at hp⊢;simp only[fP,Wt,WC,Ww,Wu,WJ];by_cases aC:p<e.kids.length
 ·obtain⟨u,ht⟩:=bV aC;have eN:u∈e.kids:=Wy ht;have bn:e.kids[p]=u:=by rw[Wv aC]at ht;exact Option.some.inj ht
  have iA:e.kids.drop p=u::e.kids.drop (p+1):=by rw[Wx aC,bn]
  have hu:=ih u eN;have j6:(e.kids.map (mapM aM)).take (p+1)=(e.kids.map (mapM aM)).take p++[mapM aM u]:=by rw[Ws,WI,ht];rfl
  have na:min p (e.kids.map (mapM aM)).length=p:=by simp;omega
  generalize e.kids.map (mapM aM)=Z at*;generalize mapM aM u=su at*;repeat' first|((first|refine ab (hK _ ?_)|refine aq (hK _ ?_));clear hK K)|((first|refine ae ?_|refine aA ?_|refine aa rfl (hu) ?_);simp[aC,bn,na];(try simp(disch:=omega)only[wrap64]);(try(refine gen2 ?_ ?_<;>intro hq<;>try simp[aC,bn,na]at hq)))|(refine⟨by omega,by omega,?_⟩)|(refine⟨p+1,by dsimp only;omega,by dsimp only;omega,?_,?_,?_⟩<;>simp(disch:=omega) [fP,wrap64,j6,ax,na])|refine T.mW (id:=9) mixed (fun _=>false) [9,11] (by kernel_rfl) fun K hK=>?_|refine T.r0 fun K hK=>?_|refine T.r1 fun K hK=>?_|refine T.ct rfl ?_|refine T.seq ?_|refine T.block ?_|refine T.skip ?_
 ·have fj:p=e.kids.length:=by omega
  subst fj;have na:(e.kids.map (mapM aM)).length=e.kids.length:=by simp
  rw[WA (by omega)];generalize e.kids.map (mapM aM)=Z at*;repeat' first|(refine ab (hK _ ?_);clear hK K)|(refine ae ?_;simp[aC,na];(try(refine gen2 ?_ ?_<;>intro hq<;>try simp[aC,na]at hq)))|(refine T.ret (aG.val (Or.inr rfl) ?_)<;>simp[aI,Tryz.results43,na,h5]<;>omega)|refine T.r0 fun K hK=>?_|refine T.cf rfl ?_|refine T.seq ?_|refine T.exit ?_
theorem Aa (e:an) (dt:¬e.kind=13) (eP:¬e.kind=14) (h5:¬e.kind=5) (hn:fO e<=1073741824)
  (ih:∀u∈e.kids,ah Wr 43 [cw u] [] (cw (mapM aM u)) [] []):ah Wr 43 [cw e] [] (cw (.mk e.kind e.name e.num cy cy 0 (e.kids.map (mapM aM)))) [] []:=by
 have NG:e.kids.length<=1073741824:=by have:=pg e.kids;rw[kX]at hn;omega
 have pE:=kr;refine ah.ob Tryz.func43 Tryz.ntmps43 rfl ?_;repeat' first|(refine ab (hK _ ?_);clear hK K)|(refine ae ?_;simp[dt,eP,h5];(try(refine gen2 ?_ ?_<;>intro hq<;>try simp[dt,eP,h5]at hq)))|refine T.r0 fun K hK=>?_|refine T.cf rfl ?_|refine T.seq ?_|refine T.block ?_|refine T.skip ?_
 refine T.e6 2 8 9 28 (row:=[.d (.i e.kind),.d (.str e.name),.d (.i e.num),.d (.i 0),.nil,.d (.i 0),.nil,.d (.i 0),.nil]) (by simp) (by simp) ?_;refine T.dq (α:=Nat) [1,2,3] (fun x=>[(4,.i x)]) (fun x=>[(2,[.d (.i e.kind),.d (.str e.name),.d (.i e.num),.d (.i 0),.nil,.d (.i 0),.nil,.d (.i 0),.own 0 x])]) (fun x=>[]) (fun p _=>[{sz:=9,eO:=28,rows:=((e.kids.map (mapM aM)).take p).map fZ,wr:=true}]) (fun x=>e.kids.length+1-x) (fun x=>x<=e.kids.length) (by simp;rfl) (fun p hp=>?_) 0 (by simp) (by simp) (by simp) (by simp);dsimp only at hp⊢;simp only[fP,Wt,WC,Ww,Wu,WJ];by_cases aC:p<e.kids.length
 ·obtain⟨u,ht⟩:=bV aC;have eN:u∈e.kids:=Wy ht;have bn:e.kids[p]=u:=by rw[Wv aC]at ht;exact Option.some.inj ht
  have iA:e.kids.drop p=u::e.kids.drop (p+1):=by rw[Wx aC,bn]
  have hu:=ih u eN;have j6:(e.kids.map (mapM aM)).take (p+1)=(e.kids.map (mapM aM)).take p++[mapM aM u]:=by rw[Ws,WI,ht];rfl
  have na:min p (e.kids.map (mapM aM)).length=p:=by simp;omega
  generalize e.kids.map (mapM aM)=Z at*;generalize mapM aM u=su at*;repeat' first|((first|refine ab (hK _ ?_)|refine aq (hK _ ?_));clear hK K)|((first|refine ae ?_|refine aA ?_|refine aa rfl (hu) ?_);simp[aC,bn,na];(try simp(disch:=omega)only[wrap64]);(try(refine gen2 ?_ ?_<;>intro hq<;>try simp[aC,bn,na]at hq)))|(refine⟨by omega,by omega,?_⟩)|(refine⟨p+1,by dsimp only;omega,by dsimp only;omega,?_,?_,?_⟩<;>simp(disch:=omega) [fP,wrap64,j6,ax,na])|refine T.mW (id:=9) mixed (fun _=>false) [9,11] (by kernel_rfl) fun K hK=>?_|refine T.r0 fun K hK=>?_|refine T.r1 fun K hK=>?_|refine T.ct rfl ?_|refine T.seq ?_|refine T.block ?_|refine T.skip ?_
 ·have fj:p=e.kids.length:=by omega
  subst fj;have na:(e.kids.map (mapM aM)).length=e.kids.length:=by simp
  rw[WA (by omega)];generalize e.kids.map (mapM aM)=Z at*;repeat' first|(refine ab (hK _ ?_);clear hK K)|(refine ae ?_;simp[aC,na];(try(refine gen2 ?_ ?_<;>intro hq<;>try simp[aC,na]at hq)))|(refine T.ret (aG.val (Or.inr rfl) ?_)<;>simp[aI,Tryz.results43,na,h5]<;>omega)|refine T.r0 fun K hK=>?_|refine T.cf rfl ?_|refine T.seq ?_|refine T.exit ?_
theorem Ck (nt:Int):∀(e:an) (d:Nat),gN nt d e->fO e<=1073741824->ah Wr 43 [cw e] [] (cw (mapM aM e)) [] []:=by
 intro e;induction e using an.ind with
 |h e ih=>
  intro d hv hn;obtain⟨cY,JL⟩:=hv.plain;obtain⟨d',rfl,_,_,_,hk⟩:=iO hv.shape;have ih':∀u∈e.kids,ah Wr 43 [cw u] [] (cw (mapM aM u)) [] []:=fun u hu=>ih u hu d' (gN.of (hk u hu)) (by have:=tf hu;rw[kX]at hn;omega)
  by_cases hh:e.kind=13\/e.kind=14
  ·obtain⟨x,hx⟩:=cY hh;have h1:=ih' x (by simp[hx]);rw[show mapM aM e=mapM aM x by rw[mw];simp[aM,hh,hx]];generalize mapM aM x=R at*;rcases hh with hh|hh
   ·refine ah.ob Tryz.func43 Tryz.ntmps43 rfl ?_;repeat' first|(refine ab (hK _ ?_);clear hK K)|((first|refine ae ?_|(refine aa ?_ (h1) ?_;(focus(solve|simp[hh,hx,ax]))));simp[hh,hx,ax];(try(refine gen2 ?_ ?_<;>intro hq<;>try simp[hh,hx,ax]at hq)))|(refine T.ret (aG.val (Or.inr rfl) ?_)<;>simp[aI,Tryz.results43]<;>omega)|refine T.r0 fun K hK=>?_|refine T.ct rfl ?_|refine T.seq ?_
   ·refine ah.ob Tryz.func43 Tryz.ntmps43 rfl ?_;repeat' first|(refine ab (hK _ ?_);clear hK K)|((first|refine ae ?_|(refine aa ?_ (h1) ?_;(focus(solve|simp[hh,hx,ax]))));simp[hh,hx,ax];(try(refine gen2 ?_ ?_<;>intro hq<;>try simp[hh,hx,ax]at hq)))|(refine T.ret (aG.val (Or.inr rfl) ?_)<;>simp[aI,Tryz.results43]<;>omega)|refine T.r0 fun K hK=>?_|refine T.ct rfl ?_|refine T.seq ?_
  ·obtain⟨hf,hl,ht⟩:=JL hh;have dt:¬e.kind=13:=fun h=>hh (.inl h)
   have eP:¬e.kind=14:=fun h=>hh (.inr h)
   by_cases h5:e.kind=5
   ·rw[show mapM aM e=.mk e.kind e.name e.num iN cy 0 (e.kids.map (mapM aM)) by rw[mw];simp[aM,h5,hf,hl]];exact z8 e dt eP h5 hn ih'
   ·rw[show mapM aM e=.mk e.kind e.name e.num cy cy 0 (e.kids.map (mapM aM)) by rw[mw];simp[aM,hh,h5,hf,hl,ht h5]];exact Aa e dt eP h5 hn ih'
end Go.Proofs.YtloolmchekcmeaaGreat
namespace Go.Proofs.YtloolmchekcmeaaGreat
attribute [-simp] Go.Av.bO Go.Av.dO Go.Av.ed Go.Av.ec Go.Av.cl Go.Av.cj
open Go Go.Av
attribute [local irreducible] T ah TX EX LX bo cE bF cD fZ aH.kind aH.kids an.kind an.name an.num an.ty an.fr an.label an.kids
attribute [local simp] aX ax
set_option maxHeartbeats 16000000
set_option maxRecDepth 8000
attribute [local simp] WM
def pM (l:List aH):List aH:=l.map fun t=>if t.kind=1 then dD else t
theorem tW (l:List aH):(pM l).length=l.length:=by simp[pM]
def jn (l:List aH) (j:Nat):List (List DV):=(pM (l.take j)++l.drop j).map cD
theorem Cl (l:List aH) (j:Nat) (h:j<=l.length):(jn l j).length=l.length:=by simp[jn,pM];omega
theorem yG {l:List aH} {j:Nat} {u:aH} (h:l[j]? =some u):(jn l j)[j]? =some (cD u):=by
 have aC:=(WK.1 h).1;have hl:(pM (l.take j)).length=j:=by rw[tW,WH];omega
 rw[jn,WI,List.getElem?_append_right (by omega),hl,Nat.sub_self,List.getElem?_drop,Nat.add_zero,h]
 rfl
theorem tX {l:List aH} {j:Nat} {u:aH} (h:l[j]? =some u):jn l (j+1)=(jn l j).set j (cD (if u.kind=1 then dD else u)):=by
 have aC:=(WK.1 h).1;have hl:(pM (l.take j)).length=j:=by rw[tW,WH];omega
 have hd:l.drop j=u::l.drop (j+1):=by rw[Wx aC];congr 1;rw[Wv aC]at h;exact Option.some.inj h
 have ht:pM (l.take (j+1))=pM (l.take j)++[if u.kind=1 then dD else u]:=by rw[Ws,h];simp[pM]
 simp only[jn,ht,List.map_append,hd,WD];rw[List.set_append_right _ _ (by simp[hl])];simp[hl]
theorem Ab {l:List aH} {j:Nat} {u:aH} (h:l[j]? =some u) (hk:¬u.kind=1):jn l (j+1)=jn l j:=by
 rw[tX h,if_neg hk];apply List.ext_getElem?;intro i;rw[List.getElem?_set];split
 ·rename_i e;subst e;split
  ·rw[yG h]
  ·rename_i hn;rw[List.getElem?_eq_none (by omega)]
 ·rfl
theorem Ac (l:List aH):jn l 0=l.map cD:=by simp[jn,pM]
theorem Cm (l:List aH):jn l l.length=(pM l).map cD:=by simp[jn]
theorem Ad (b:List Int) (hb:okB b) (p:Nat) (hp:p+20000000<=1099511627776):bo Wr 37 [] b p 20000000 (RV cw ss fun e=>fO e<=2000000):=by
 refine bo.bW Tryz.func37 (by kernel_rfl) rfl (by kernel_rfl) (by simp[Tryz.ntmps37]) ?_;rw[Tryz.ntmps37];repeat' first|(refine ab (hK _ ?_);clear hK K)|(refine ae ?_;simp;(try simp(disch:=omega)only[wrap64]);(try(refine gen2 ?_ ?_<;>intro hq<;>try simp at hq)))|(refine jk rfl (mC _ (by omega)) ?_;simp;(try simp(disch:=omega)only[wrap64]);(try(refine gen2 ?_ ?_<;>intro hq<;>try simp at hq)))|((first|refine au 0 rfl rfl (gP b hb 1 (by omega) _ (by omega)) (fun t p1 ht cY bL=>?_)|(refine au 0 rfl rfl (fR b hb _ (by omega) [3,4,2,5] (by simp) (by simp)) (fun z p1 hz cY bL=>?_);simp at hz)|refine au 0 rfl rfl (zL b hb [] (by simp) (by simp) _ (by assumption) _ (by omega) (by omega) _ (by omega)) (fun e p1 he cY bL=>?_));simp)|refine TX.rs (id:=0) (fun _=>false) fun K hK=>?_|refine TX.rs (id:=1) (fun _=>false) fun K hK=>?_|refine TX.rs (id:=2) (fun _=>false) fun K hK=>?_|refine TX.rs (id:=3) (fun _=>false) fun K hK=>?_|refine TX.seq ?_|refine TX.block ?_
 have KJ:(c3 e).length<=2000001:=by
  rw[c3];split
  ·have:=(lh e).2;omega
  ·simp
 have hi:=yk;have fw:∀t∈c3 e,iK t<=2000001:=fun t ht=>by
  rw[c3]at ht;split at ht
  ·have:=(lh e).1;have:=iy ht;omega
  ·cases ht
 have kW:=va e (pM (c3 e)) (by omega) (fun t ht=>by
  obtain⟨u,hu,rfl⟩:=List.mem_map.1 ht;have:=fw u hu;split
  ·simp[dD,cI,cF]
  ·omega) (by rw[tW];omega)
 have QV:∀x,gQ e (pM (c3 e))=some x->fO x<=9000:=fun x h=>rv (tL h).2.1
 generalize gQ e (pM (c3 e))=W at*;generalize c3 e=l at*;refine TX.dq (α:=Nat) [0,2,3,4] (fun j=>[(5,.i j)]) (fun _=>[]) (fun _=>[]) (fun j _=>[{sz:=2,eO:=25,rows:=jn l j,wr:=true}]) (fun j=>l.length-j) (fun j=>j<=l.length) (by simp;rfl) (fun j hj=>?_) 0 (by simp) (by simp) (by simp[Ac]) (by simp);dsimp only at hj⊢;simp only[fP,Wt,WC,Ww,Wu,WJ];have kI:=Cl l j hj;by_cases aC:j<l.length
 ·obtain⟨u,hu⟩:=bV aC;have h1:=yG hu;have bn:∀h,(jn l j)[j]'h=cD u:=fun h=>by rw[Wv h]at h1;exact Option.some.inj h1
  by_cases hk:u.kind=1
  ·have hn:=tX hu;rw[if_pos hk,show cD dD=[.i 2,.sl []] by simp[aX,dD]]at hn;repeat' first|(refine ab (hK _ ?_);clear hK K)|((first|refine ae ?_|refine aa rfl (hi) ?_);simp[aC,kI,bn,aX u,hk];(try simp(disch:=omega)only[wrap64]);(try(refine gen2 ?_ ?_<;>intro hq<;>try simp[aC,kI,bn,aX u,hk]at hq)))|(refine EX.next (j+1) (by omega) (by omega) ⟨by simp,by rw[hn],?_⟩;simp(disch:=omega) [wrap64])|refine TX.rs (fun _=>false) fun K hK=>?_|refine TX.ef (fun _=>false) fun K hK=>?_|refine TX.cond rfl (fun ao=>?_) (fun ao=>absurd ao (by decide))|refine TX.seq ?_|refine TX.block ?_|refine TX.skip ?_|refine EX.fB ?_|refine EX.fm ?_
  ·have hn:=Ab hu hk;repeat' first|(refine ab (hK _ ?_);clear hK K)|(refine ae ?_;simp[aC,kI,bn,aX u,hk];(try simp(disch:=omega)only[wrap64]);(try(refine gen2 ?_ ?_<;>intro hq<;>try simp[aC,kI,bn,aX u,hk]at hq)))|(refine EX.next (j+1) (by omega) (by omega) ⟨by simp,by simp[hn],?_⟩;simp(disch:=omega) [wrap64])|refine TX.rs (fun _=>false) fun K hK=>?_|refine TX.ef (fun _=>false) fun K hK=>?_|refine TX.cond rfl (fun ao=>?_) (fun ao=>absurd ao (by decide))|refine TX.cond rfl (fun ao=>absurd ao (by decide)) (fun ao=>?_)|refine TX.seq ?_|refine TX.block ?_|refine TX.skip ?_|refine EX.fB ?_|refine EX.fm ?_
 ·have kf:j=l.length:=by omega
  subst kf;rw[Cm]at kI⊢;rw[List.length_map]at kI;cases W with
  |none=>
   simp only[lM]at kW;repeat' first|(refine ab (hK _ ?_);clear hK K)|((first|refine ae ?_|(refine aa ?_ (kW) ?_;(focus(solve|simp[aC,kI,ax e]))));simp[aC,kI,ax e];(try simp(disch:=omega)only[wrap64]);(try(refine gen2 ?_ ?_<;>intro hq<;>try simp[aC,kI,ax e]at hq)))|(refine au 0 rfl rfl (ry b hb _ (by omega)) (fun x1 p1 cJ cY bL=>?_);simp[aC,kI,ax e];(try simp(disch:=omega)only[wrap64]);(try(refine gen2 ?_ ?_<;>intro hq<;>try simp[aC,kI,ax e]at hq)))|refine TX.rs (fun _=>false) fun K hK=>?_|refine TX.cond rfl (fun ao=>absurd ao (by decide)) (fun ao=>?_)|refine TX.seq ?_|refine TX.skip ?_|refine TX.exit ?_|refine EX.fB ?_|refine EX.lK ?_|refine EX.iE ?_|refine EX.BM ?_
   all_goals(
    refine TX.ret ?_;repeat' first|refine EX.jW ?_|refine EX.fC ?_|refine EX.dT ?_|refine EX.jX ?_
    apply EX.vt (ks:=[])
    case he=>exact Or.inr rfl
    case kn=>simp[aI,c5,Tryz.results37]<;>rfl
    case hv=>first|(dsimp only[Av.one];exact rfl)|dsimp only[Av.one]
    case hx=>repeat' first|exact da.var _|exact bh.uS _|exact cc.var _|exact dE.row _|exact cc.row _|exact aZ.nil|exact aY.nil|exact a6.nil|exact aZ.map _|exact aY.map _|exact a6.map _|exact bh.int _|exact bh.str _|exact bh.bool _|apply bh.p2|apply bh.p3|apply bh.tm|apply bh.ty|apply cc.node|apply dE.of|apply aZ.cons|apply aY.cons|apply a6.cons|apply bh.uB|apply bh.uT|apply bh.uU|apply da.node|apply aZ.app|apply aY.app|apply a6.app|exact IsCos.map _|exact IsCos.nil|apply bh.co|apply IsCos.cons|apply IsCos.app|apply bh.ops|exact IsOps.map _|exact IsOps.nil|apply IsOps.cons|apply IsOps.app|apply IsOps.set|apply IsOps.take
    case hA=>exact rfl
    case jS=>simp
    case hV=>exact rfl
    case h1=>omega
    case h2=>omega
    case hg=>omega)
  |some x=>
   have hx:=QV x rfl;simp only[lM]at kW;repeat' first|(refine ab (hK _ ?_);clear hK K)|((first|refine ae ?_|(refine aa ?_ (kW) ?_;(focus(solve|simp[aC,kI,ax e,ax x]))));simp[aC,kI,ax e,ax x];(try simp(disch:=omega)only[wrap64]);(try(refine gen2 ?_ ?_<;>intro hq<;>try simp[aC,kI,ax e,ax x]at hq)))|(refine au 0 rfl rfl (c9 b hb _ (by omega) 3 (by omega)) (fun x1 p1 cJ cY bL=>?_);simp[aC,kI,ax e,ax x];(try simp(disch:=omega)only[wrap64]);(try(refine gen2 ?_ ?_<;>intro hq<;>try simp[aC,kI,ax e,ax x]at hq)))|(refine au 0 rfl rfl (ry b hb _ (by omega)) (fun x1 p1 cJ cY bL=>?_);simp[aC,kI,ax e,ax x];(try simp(disch:=omega)only[wrap64]);(try(refine gen2 ?_ ?_<;>intro hq<;>try simp[aC,kI,ax e,ax x]at hq)))|refine TX.rs (fun _=>false) fun K hK=>?_|refine TX.cond rfl (fun ao=>?_) (fun ao=>absurd ao (by decide))|refine TX.cond rfl (fun ao=>absurd ao (by decide)) (fun ao=>?_)|refine TX.seq ?_|refine TX.skip ?_|refine TX.exit ?_|refine EX.fB ?_|refine EX.lK ?_|refine EX.iE ?_|refine EX.BM ?_
   all_goals(
    refine TX.ret ?_;repeat' first|refine EX.jW ?_|refine EX.fC ?_|refine EX.dT ?_|refine EX.jX ?_
    apply EX.vt (ks:=[])
    case he=>exact Or.inr rfl
    case kn=>simp[aI,c5,Tryz.results37]<;>rfl
    case hv=>first|(dsimp only[Av.one];exact rfl)|dsimp only[Av.one]
    case hx=>repeat' first|exact da.var _|exact bh.uS _|exact cc.var _|exact dE.row _|exact cc.row _|exact aZ.nil|exact aY.nil|exact a6.nil|exact aZ.map _|exact aY.map _|exact a6.map _|exact bh.int _|exact bh.str _|exact bh.bool _|apply bh.p2|apply bh.p3|apply bh.tm|apply bh.ty|apply cc.node|apply dE.of|apply aZ.cons|apply aY.cons|apply a6.cons|apply bh.uB|apply bh.uT|apply bh.uU|apply da.node|apply aZ.app|apply aY.app|apply a6.app|exact IsCos.map _|exact IsCos.nil|apply bh.co|apply IsCos.cons|apply IsCos.app|apply bh.ops|exact IsOps.map _|exact IsOps.nil|apply IsOps.cons|apply IsOps.app|apply IsOps.set|apply IsOps.take
    case hA=>exact rfl
    case jS=>simp
    case hV=>exact rfl
    case h1=>omega
    case h2=>omega
    case hg=>omega)
theorem oH (b:List Int) (hb:∀n∈b,0<=n/\n<=255):cE Wr 10 [.l (rB b)] (RV cw ss fun e=>fO e<=3000000):=by
 obtain⟨b,p,hb,hp,hc⟩:=zE b hb;refine cE.bW Tryz.func10 (by kernel_rfl) rfl (by kernel_rfl) (by simp[Tryz.ntmps10]) ?_;rw[Tryz.ntmps10];repeat' first|(refine ab (hK _ ?_);clear hK K)|(refine ae ?_;simp;(try simp(disch:=omega)only[wrap64]);(try(refine gen2 ?_ ?_<;>intro hq<;>try simp at hq)))|(refine au 1 rfl rfl (Ad b hb _ (by omega)) (fun x1 p1 cJ cY bL=>?_);simp;(try simp(disch:=omega)only[wrap64]);(try(refine gen2 ?_ ?_<;>intro hq<;>try simp at hq)))|(refine au 1 rfl rfl (yo b hb _ (by omega) _ (by omega)) (fun x1 p1 cJ cY bL=>?_);simp;(try simp(disch:=omega)only[wrap64]);(try(refine gen2 ?_ ?_<;>intro hq<;>try simp at hq)))|(refine yd rfl hc ?_;simp[back])|refine TX.rs (fun _=>false) fun K hK=>?_
 all_goals(
  refine TX.ret ?_;repeat' first|refine EX.jW ?_|refine EX.fC ?_|refine EX.dT ?_|refine EX.jX ?_
  apply EX.JN (ks:=[])
  case he=>exact Or.inr rfl
  case kn=>simp[aI,c5,Tryz.results10]<;>rfl
  case hv=>first|(dsimp only[Av.one];exact rfl)|dsimp only[Av.one]
  case hx=>repeat' first|exact da.var _|exact bh.uS _|exact cc.var _|exact dE.row _|exact cc.row _|exact aZ.nil|exact aY.nil|exact a6.nil|exact aZ.map _|exact aY.map _|exact a6.map _|exact bh.int _|exact bh.str _|exact bh.bool _|apply bh.p2|apply bh.p3|apply bh.tm|apply bh.ty|apply cc.node|apply dE.of|apply aZ.cons|apply aY.cons|apply a6.cons|apply bh.uB|apply bh.uT|apply bh.uU|apply da.node|apply aZ.app|apply aY.app|apply a6.app|exact IsCos.map _|exact IsCos.nil|apply bh.co|apply IsCos.cons|apply IsCos.app|apply bh.ops|exact IsOps.map _|exact IsOps.nil|apply IsOps.cons|apply IsOps.app|apply IsOps.set|apply IsOps.take
  case hA=>exact rfl
  case jS=>simp
  case hg=>omega)
end Go.Proofs.YtloolmchekcmeaaGreat
