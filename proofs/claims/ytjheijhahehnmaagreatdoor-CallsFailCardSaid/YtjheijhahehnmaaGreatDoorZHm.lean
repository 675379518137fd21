/- THE WALKING LAYER: maps from int to int; a queue of ints. No statement of the seat is proved here. -/
import Derived.Test.YtjheijhahehnmaaGreatDoorZPar
import Derived.Shelf.SortM.Plain
import Derived.Ground.SlgmProg
import Derived.Ground.NamesProg
import Derived.Shelf.SlGeneric
import Derived.Shelf.Strings.Cut
import Derived.Shelf.Small.Wraps
import Derived.Shelf.Strconv.AtoiAll
import Derived.Shelf.Strconv.Itoa3
import Derived.Test.YtjheijhahehnmaaGreatDoorProg
import Derived.Test.YtjheijhahehnmaaGreatDoorZHn
import Derived.Test.YtjheijhahehnmaaGreatDoorZLoose
import Derived.Test.YtjheijhahehnmaaGreatDoorZSp
import Derived.Test.YtjheijhahehnmaaGreatDoorZOwn
import Derived.MapKept
import Derived.ArgAppend
namespace Go.Proofs.YtjheijhahehnmaaGreatDoor
open Go.Proofs.Tryz
set_option linter.unusedSimpArgs false
set_option linter.unusedVariables false
set_option linter.unusedSectionVars false
set_option maxHeartbeats 40000000
set_option maxRecDepth 8000
open Go.RowKit
section
variable{P:Program}{ops:Array Oper}{N:Fs}{Q:Exit->Act->World->Prop}{F:Fr}{E:Ent}{M Mi:Mem}{L Li:Lc}{fuel:Nat}{listed:Array Bool}{i j l d1 d2 d3:Nat}{Φ1 Φ2 Φ3:Value->Lc->Mem->Prop}
theorem QS.keep{w s:Fr->Prop}:∀(e:List Nat)(F0 b:Fr),Keep b F0->QS P ops N Mi Li e F0 w->(∀V:Fr,(∀p∈V,p.1∈Si ops e)->w (V++F0)->s (V++b))->QS P ops N Mi Li e b s
 |[],F0,b,_,h,k=>k [] (by simp) h
 |i::e,F0,b,j,⟨o,d,v,g,l,B,y,h⟩,k=>by
  refine⟨o,d,v,g,l,B,λa z=>y a (z.keep j),?_⟩;refine QS.keep e ((d,v)::F0) ((d,v)::b) ⟨λt u c=>?_⟩ h λV n C=>?_
  ·show (bif Nat.beq d t then some v else lk t b)=_;have c:(bif Nat.beq d t then some v else lk t F0)=some u:=c;cases m:Nat.beq d t with
   |true=>rw[m]at c;exact c
   |false=>rw[m]at c;exact j.sub t u c
  have:=k (V++[(d,v)]) (λp f=>by
   unfold Si at n⊢;rcases List.mem_append.1 f with f|f
   ·have:=n p f;rw[List.filterMap_cons];split
    ·exact this
    exact List.mem_cons_of_mem _ this
   rw[List.mem_singleton.1 f,List.filterMap_cons];rw[g,Option.bind_some,l];exact List.mem_cons_self ..) (by rw[List.append_assoc];exact C)
  rwa[List.append_assoc]at this
theorem jf1J{Q:Exit->Act->World->Prop}(i j:Nat)(g:List Nat)(ab:Array Bool){x:Operand}{xs:List Operand}{T:Array TypeId}{f:FuncId}{first d vs ac:List Value}{o:Oper}{post:Value->Mem->Prop}{t:TypeId}{sz ai:Nat}{z:List Value}{o2:Oper}{fl:Nat}
  (hs:∀M',MLe M M'->SpecL P f ac.toArray M' [] λu M2 L2=>post u M2/\L2=[])
  (k:∀v M',MLe M M'->post v M'->QS P ops N Mi Li g ((d1,v)::F) λH=>∀b,JA P ops N (NoPanic Q) fl ab ((d2,pB b)::H) E M' ((b,.cells z.toArray t (0,0))::L) Mi Li)
  [hl:Lay P t sz ai z] (m:MLe Mi M:=by first|exact MLe.refl _|assumption) (aa:∀p∈Li,p∈L:=by simp) (ho:ops[i]? =some o:=by rfl) (hd:o.dst=some d1:=by rfl) (hN:Nat.blt d1 N.n=true:=by rfl) (hn:lk d1 F=none:=by rfl) (hg:∀H,gd ops H o=some true:=by intro;rfl) (J:o.op=.call { callee:=.value x,args:=xs.toArray,argTypes:=T }:=by rfl) (hx:∀H,ev H x=some (.func (.func f) first.toArray d.toArray):=by intro;rfl) (hv:evs F xs=some vs:=by rfl) (C:first++vs++d=ac:=by rfl) (hgo:Dn P f=true:=by kernel_rfl)
  (K:ops[j]? =some o2:=by rfl) (X:o2.dst=some d2:=by rfl) (Z:Nat.blt d2 N.n=true:=by rfl) (O:lk d2 F=none:=by rfl) (U:∀H,gd ops H o2=some true:=by intro;rfl) (y:o2.op=.alloc t:=by rfl) (G:Nat.beq d1 d2=false:=by rfl)
  (hr:(Region.ready .any ops listed==[i,j])=true:=by kernel_rfl) (ae:(Region.ready .any ops (listed.setIfInBounds j true)==[i])=true:=by kernel_rfl)
  (ag:Pf ops g (listed.setIfInBounds i true)=true:=by kernel_rfl) (af:Pf ops g ((listed.setIfInBounds j true).setIfInBounds i true)=true:=by kernel_rfl)
  (ad:(Region.ready .any ops (B0 (listed.setIfInBounds i true) g)==[j])=true:=by kernel_rfl) (ah:((B0 (listed.setIfInBounds i true) g).setIfInBounds j true==B0 ((listed.setIfInBounds j true).setIfInBounds i true) g)=true:=by kernel_rfl)
  (W:((Si ops g).contains d2)=false:=by kernel_rfl)
  (s:(Region.noSelect ops&&Dc ops)=true:=by kernel_rfl) (B:(B0 ((listed.setIfInBounds j true).setIfInBounds i true) g==ab)=true:=by kernel_rfl) (S:fuel=fl+1+g.length+1:=by rfl):JA P ops N (NoPanic Q) fuel listed F E M L Mi Li:=by
 subst S;have aj:d1≠d2:=λe=>by subst e;rw[Nat.beq_refl]at G;cases G
 have hw:∀(c:Nat)(ob:Obj),∀p∈Li,p∈(c,ob)::L:=λc ob p D=>List.mem_cons_of_mem _ (aa p D);refine Bf [i,j] hr rfl ⟨?_,?_,trivial⟩
 ·refine Km ho hd hN (BV (L2:=L) (hg F) J (hx F) hv C hgo (hs M (MLe.refl _))) ?_;rintro v M' L' ⟨I,R,rfl,D,rfl⟩;refine Cw (m.trans I) aa ?_;rw[show fl+1+g.length=(fl+1)+g.length from rfl];refine Tg (F0:=F) s g _ _ _ ⟨λ_ _ h=>h⟩ ag (k v M' I D) λV Y hK=>?_;refine KZ ad (Km K X Z (AX (L:=L) (U _) y) ?_);rintro _ _ _ ⟨b,rfl,rfl,rfl⟩;refine Cw (m.trans I) (hw _ _) ?_;exact B3 ((eq_of_beq ah).trans (eq_of_beq B)) (hK b)
 refine Km K X Z (AX (L:=L) (U _) y) ?_;rintro _ _ _ ⟨b,rfl,rfl,rfl⟩;refine Cw m (hw _ _) ?_;rw[show fl+1+g.length=fl+g.length+1 by omega];have k2:Keep ((d2,pB b)::F) F:=⟨λt u a=>by
  show (bif Nat.beq d2 t then _ else lk t F)=_;cases l:Nat.beq d2 t with
  |true=>rw[Nat.eq_of_beq_eq_true l]at O;rw[O]at a;cases a
  |false=>exact a⟩
 refine KZ ae (Km ho hd hN (BV (L2:=_) (hg _) J (hx _) (GX k2 hv) C hgo (hs M (MLe.refl _))) ?_);rintro v M' L' ⟨I,R,rfl,D,rfl⟩;refine Cw (m.trans I) (hw _ _) ?_;refine Tg (F0:=F) s g _ ((d1,v)::(d2,pB b)::F) ((d1,v)::F) ⟨λt u a=>?_⟩ af (k v M' I D) λV Y hK=>?_
 ·show (bif Nat.beq d1 t then some v else lk t ((d2,_)::F))=_;have a:(bif Nat.beq d1 t then some v else lk t F)=some u:=a;cases l:Nat.beq d1 t with
  |true=>rw[l]at a;exact a
  |false=>rw[l]at a;exact k2.sub t u a
 refine BZ ⟨λt u a=>?_⟩ (B3 (eq_of_beq B) (hK b));have a:(bif Nat.beq d2 t then some (pB b)else lk t (V++(d1,v)::F))=some u:=a;cases l:Nat.beq d2 t with
 |true=>
  rw[l]at a
  obtain rfl:=Nat.eq_of_beq_eq_true l
  rw[QC,wMx λp D e=>by
   have h1:=Y p D
   rw[e]at h1
   rw[List.contains_iff_mem.2 h1]at W;cases W]
  show (bif Nat.beq d1 d2 then some v else lk d2 ((d2,_)::F))=_
  rw[G]
  show (bif Nat.beq d2 d2 then _ else _)=_
  rw[Nat.beq_refl]
  exact a
 |false=>
  rw[l]at a
  have a:lk t (V++(d1,v)::F)=some u:=a
  rw[QC]at a⊢
  cases Y:lk t V with
  |some w=>rw[Y]at a;exact a
  |none=>
   rw[Y]at a
   have a:(bif Nat.beq d1 t then some v else lk t F)=some u:=a
   show (bif Nat.beq d1 t then some v else bif Nat.beq d2 t then _ else lk t F)=_
   rw[l];exact a
theorem GO{x:Nat×Value}{F G:Fr}(h:Keep G F):Keep (x::G) (x::F):=⟨λt u a=>by
 obtain⟨d,v⟩:=x
 show (bif Nat.beq d t then some v else lk t G)=_
 have a:(bif Nat.beq d t then some v else lk t F)=some u:=a
 cases b:Nat.beq d t with
 |true=>rw[b]at a;exact a
 |false=>rw[b]at a;exact h.sub t u a⟩
theorem LR{d:Nat}{v:Value}{F:Fr}(b:lk d F=none):Keep ((d,v)::F) F:=⟨λt u a=>by
 show (bif Nat.beq d t then _ else lk t F)=_
 cases c:Nat.beq d t with
 |true=>rw[Nat.eq_of_beq_eq_true c]at b;rw[b]at a;cases a
 |false=>exact a⟩
theorem Kb{d e:Nat}{v w:Value}{F:Fr}(h:Nat.beq d e=false):Keep ((d,v)::(e,w)::F) ((e,w)::(d,v)::F):=⟨λt u a=>by
 show (bif Nat.beq d t then some v else bif Nat.beq e t then some w else lk t F)=_
 have a:(bif Nat.beq e t then some w else bif Nat.beq d t then some v else lk t F)=some u:=a
 cases b:Nat.beq d t with
 |true=>
  rw[Nat.eq_of_beq_eq_true b]at h
  cases c:Nat.beq e t with
  |true=>rw[Nat.eq_of_beq_eq_true c,Nat.beq_refl]at h;cases h
  |false=>rw[b,c]at a;exact a
 |false=>rw[b]at a;exact a⟩
theorem QK{d e:Nat}{v w:Value}{F:Fr}(a:Nat.beq d e=false):∀{V:Fr},(∀p∈V,p.1≠e)->Keep (V++(d,v)::(e,w)::F) ((e,w)::(V++(d,v)::F))
 |[],_=>Kb a
 |(f,x)::V,b=>⟨λt u c=>(GO (QK a λp g=>b p (by simp[g]))).sub t u ((Kb (d:=f) (e:=e) (v:=x) (w:=w) (F:=V++(d,v)::F) (by
  cases h:Nat.beq f e with
  |true=>exact absurd (Nat.eq_of_beq_eq_true h) (b (f,x) (by simp))
  |false=>rfl)).sub t u c)⟩
theorem Keep.tr{F G H:Fr}(h:Keep F G)(k:Keep G H):Keep F H:=⟨λt u a=>h.sub t u (k.sub t u a)⟩
def Xj(listed:Array Bool)(i j l:Nat)(qs:List Nat):Array Bool:=B0 (((listed.setIfInBounds j true).setIfInBounds l true).setIfInBounds i true) qs
theorem wXc{Q:Exit->Act->World->Prop}(i j l:Nat)(g S:List Nat){x:Operand}{xs:List Operand}{T:Array TypeId}{f:FuncId}{first y vs au:List Value}{o:Oper}{post:Value->Mem->Prop}{t t3:TypeId}{sz aH av aI:Nat}{z z3:List Value}{o2 o3:Oper}
  (hs:∀M',MLe M M'->SpecL P f au.toArray M' [] λu M2 L2=>post u M2/\L2=[])
  (k:∀v M',MLe M M'->post v M'->QS P ops N Mi Li g ((d1,v)::F) λF'=>∀b O,JD P ops N {} Mi Li (NoPanic Q) (Ep S) ((d3,pB O)::(d2,pB b)::F') E M' ((O,.cells z3.toArray t3 (0,0))::(b,.cells z.toArray t (0,0))::L) Mi Li)
  [hl:Lay P t sz aH z] [aJ:Lay P t3 av aI z3] (s:MLe Mi M:=by first|exact MLe.refl _|assumption) (aq:∀p∈Li,p∈L:=by simp) (ho:ops[i]? =some o:=by rfl) (hd:o.dst=some d1:=by rfl) (hN:Nat.blt d1 N.n=true:=by rfl) (hn:lk d1 F=none:=by rfl) (hg:∀F',gd ops F' o=some true:=by intro;rfl) (aj:o.op=.call { callee:=.value x,args:=xs.toArray,argTypes:=T }:=by rfl) (hx:∀F',ev F' x=some (.func (.func f) first.toArray y.toArray):=by intro;rfl) (hv:evs F xs=some vs:=by rfl) (K:first++vs++y=au:=by rfl) (hgo:Dn P f=true:=by kernel_rfl)
  (Z:ops[j]? =some o2:=by rfl) (ae:o2.dst=some d2:=by rfl) (ag:Nat.blt d2 N.n=true:=by rfl) (al:lk d2 F=none:=by rfl) (ab:∀F',gd ops F' o2=some true:=by intro;rfl) (C:o2.op=.alloc t:=by rfl) (ac:Nat.beq d1 d2=false:=by rfl)
  (Y:ops[l]? =some o3:=by rfl) (ad:o3.dst=some d3:=by rfl) (af:Nat.blt d3 N.n=true:=by rfl) (ak:lk d3 F=none:=by rfl) (aa:∀F',gd ops F' o3=some true:=by intro;rfl) (B:o3.op=.alloc t3:=by rfl) (D:Nat.beq d1 d3=false:=by rfl) (J:Nat.beq d2 d3=false:=by rfl)
  (hr:(Region.ready .any ops listed==[i,j,l])=true:=by kernel_rfl)
  (aF:Pf ops g (listed.setIfInBounds i true)=true:=by kernel_rfl) (aE:(Region.ready .any ops (B0 (listed.setIfInBounds i true) g)==[j,l])=true:=by kernel_rfl) (aD:(Region.ready .any ops ((B0 (listed.setIfInBounds i true) g).setIfInBounds j true)==[l])=true:=by kernel_rfl) (aC:(Region.ready .any ops ((B0 (listed.setIfInBounds i true) g).setIfInBounds l true)==[j])=true:=by kernel_rfl) (aB:(((B0 (listed.setIfInBounds i true) g).setIfInBounds j true).setIfInBounds l true==Xj listed i j l g)=true:=by kernel_rfl) (aA:(((B0 (listed.setIfInBounds i true) g).setIfInBounds l true).setIfInBounds j true==Xj listed i j l g)=true:=by kernel_rfl)
  (a9:(Region.ready .any ops (listed.setIfInBounds j true)==[i,l])=true:=by kernel_rfl) (a8:(Region.ready .any ops ((listed.setIfInBounds j true).setIfInBounds l true)==[i])=true:=by kernel_rfl) (a7:Pf ops g ((listed.setIfInBounds j true).setIfInBounds i true)=true:=by kernel_rfl) (a6:Pf ops g (((listed.setIfInBounds j true).setIfInBounds l true).setIfInBounds i true)=true:=by kernel_rfl) (a5:(Region.ready .any ops (B0 ((listed.setIfInBounds j true).setIfInBounds i true) g)==[l])=true:=by kernel_rfl) (a4:((B0 ((listed.setIfInBounds j true).setIfInBounds i true) g).setIfInBounds l true==B0 (((listed.setIfInBounds j true).setIfInBounds l true).setIfInBounds i true) g)=true:=by kernel_rfl) (a3:(B0 (((listed.setIfInBounds j true).setIfInBounds l true).setIfInBounds i true) g==Xj listed i j l g)=true:=by kernel_rfl)
  (a2:(Region.ready .any ops (listed.setIfInBounds l true)==[i,j])=true:=by kernel_rfl) (a1:(Region.ready .any ops ((listed.setIfInBounds l true).setIfInBounds j true)==[i])=true:=by kernel_rfl) (a0:Pf ops g ((listed.setIfInBounds l true).setIfInBounds i true)=true:=by kernel_rfl) (az:Pf ops g (((listed.setIfInBounds l true).setIfInBounds j true).setIfInBounds i true)=true:=by kernel_rfl) (ay:(Region.ready .any ops (B0 ((listed.setIfInBounds l true).setIfInBounds i true) g)==[j])=true:=by kernel_rfl) (ax:((B0 ((listed.setIfInBounds l true).setIfInBounds i true) g).setIfInBounds j true==B0 (((listed.setIfInBounds l true).setIfInBounds j true).setIfInBounds i true) g)=true:=by kernel_rfl) (aw:(B0 (((listed.setIfInBounds l true).setIfInBounds j true).setIfInBounds i true) g==Xj listed i j l g)=true:=by kernel_rfl)
  (ap:((Si ops g).contains d2)=false:=by kernel_rfl) (ah:((Si ops g).contains d3)=false:=by kernel_rfl)
  (m:(Region.noSelect ops&&Dc ops)=true:=by kernel_rfl) (X:Da ops (Ep S) (Xj listed i j l g)=true:=by kernel_rfl) (W:wAg ops (Xj listed i j l g)=true:=by kernel_rfl) (ao:fuel=(Ep S).length+1+1+g.length+1:=by rfl):JA P ops N (NoPanic Q) fuel listed F E M L Mi Li:=by
 subst ao;have hw:∀(c:Nat)(ob:Obj),∀p∈Li,p∈(c,ob)::L:=λc ob p I=>List.mem_cons_of_mem _ (aq p I);have U:∀(c c2:Nat)(ob ai:Obj),∀p∈Li,p∈(c,ob)::(c2,ai)::L:=λc c2 ob ai p I=>List.mem_cons_of_mem _ (hw c2 ai p I);have H:∀{d:Nat}{V:Fr},(Si ops g).contains d=false->(∀p∈V,p.1∈Si ops g)->∀p∈V,p.1≠d:=λhd hV p I e=>by
  have h1:=hV p I;rw[e]at h1;rw[List.contains_iff_mem.2 h1]at hd;cases hd
 have am:∀{M':Mem}{a b:Nat×Obj}(w:World),St E M' (a::b::L) w->St E M' (b::a::L) w:=λw h=>h.perm (List.Perm.swap ..);refine Bf [i,j,l] hr rfl ⟨?_,?_,?_,trivial⟩
 ·refine Km ho hd hN (BV (L2:=L) (hg F) aj (hx F) hv K hgo (hs M (MLe.refl _))) ?_;rintro v M' L' ⟨G,R,rfl,I,rfl⟩;refine Cw (s.trans G) aq ?_;refine Tg (F0:=F) m g _ _ _ ⟨λ_ _ h=>h⟩ aF (k v M' G I) λV hV hK=>?_;refine Bf [j,l] aE rfl ⟨?_,?_,trivial⟩
  ·refine Km Z ae ag (AX (L:=L) (ab _) C) ?_;rintro _ _ _ ⟨b,rfl,rfl,rfl⟩;refine Cw (s.trans G) (hw _ _) ?_;refine KZ aD (Km Y ad af (AX (aa _) B) ?_);rintro _ _ _ ⟨O,rfl,rfl,rfl⟩;refine Cw (s.trans G) (U _ _ _ _) ?_;exact B3 (eq_of_beq aB) (Th S (hK b O) m X W rfl)
  refine Km Y ad af (AX (L:=L) (aa _) B) ?_;rintro _ _ _ ⟨O,rfl,rfl,rfl⟩;refine Cw (s.trans G) (hw _ _) ?_;refine KZ aC (Km Z ae ag (AX (ab _) C) ?_);rintro _ _ _ ⟨b,rfl,rfl,rfl⟩;refine Cw (s.trans G) (U _ _ _ _) ?_;exact B3 (eq_of_beq aA) (Cp (am) (s.trans G) (U _ _ _ _) (BZ (Kb J) (Th S (hK b O) m X W rfl)))
 ·refine Km Z ae ag (AX (L:=L) (ab _) C) ?_;rintro _ _ _ ⟨b,rfl,rfl,rfl⟩;refine Cw s (hw _ _) ?_;refine jf1J i l g (Xj listed i j l g) (fl:=(Ep S).length) hs (λv M' G I=>QS.keep g ((d1,v)::F) _ (GO (LR al)) (k v M' G I) λV hV hK O=>BZ (GO (QK ac (H ap hV))) (Th S (hK b O) m X W rfl)) s (hw _ _) ho hd hN ?_ hg aj hx (GX (LR al) hv) K hgo Y ad af ?_ aa B D a9 a8 a7 a6 a5 a4 ah m a3 (by omega)
  ·show (bif Nat.beq d2 d1 then _ else lk d1 F)=none;cases hb:Nat.beq d2 d1 with
   |true=>rw[Nat.eq_of_beq_eq_true hb,Nat.beq_refl]at ac;cases ac
   |false=>exact hn
  show (bif Nat.beq d2 d3 then _ else lk d3 F)=none;rw[J];exact ak
 refine Km Y ad af (AX (L:=L) (aa _) B) ?_;rintro _ _ _ ⟨O,rfl,rfl,rfl⟩;refine Cw s (hw _ _) ?_;refine jf1J i j g (Xj listed i j l g) (fl:=(Ep S).length) hs (λv M' G I=>QS.keep g ((d1,v)::F) _ (GO (LR ak)) (k v M' G I) λV hV hK b=>Cp am (s.trans G) (U _ _ _ _) (BZ ((GO (QK D (H ah hV))).tr (Kb J)) (Th S (hK b O) m X W rfl))) s (hw _ _) ho hd hN ?_ hg aj hx (GX (LR ak) hv) K hgo Z ae ag ?_ ab C ac a2 a1 a0 az ay ax ap m aw (by omega)
 ·show (bif Nat.beq d3 d1 then _ else lk d1 F)=none;cases hb:Nat.beq d3 d1 with
  |true=>rw[Nat.eq_of_beq_eq_true hb,Nat.beq_refl]at D;cases D
  |false=>exact hn
 show (bif Nat.beq d3 d2 then _ else lk d2 F)=none;cases hb:Nat.beq d3 d2 with
 |true=>rw[Nat.eq_of_beq_eq_true hb,Nat.beq_refl]at J;cases J
 |false=>exact al
theorem gy{A:Prop}{C:Nat->Nat->Prop}(h:∀b c,C b c)(f:Hid (∀b c,C b c)->A:=by
 intro h;repeat (refine qsP rfl rfl ?_)
 refine qsN ?_;exact h.out):A:=f ⟨h⟩
end
section
open Go.Shelf
def wDq:Go.Shelf.Ren:=⟨fun|6=>76|8=>145|9=>144|19=>225|20=>226|21=>216|22=>217|23=>218|24=>219|25=>220|26=>221|27=>222|28=>223|29=>224|36=>289|31=>290|32=>291|37=>292|38=>293|39=>294|41=>329|n=>n,fun|27=>41|29=>9|3=>3|32=>227|26=>41|0=>0|44=>29|46=>309|4=>4|36=>301|35=>300|41=>305|5=>5|9=>9|53=>394|57=>398|63=>437|64=>438|n=>n,fun|n=>n⟩
theorem wWs:Go.Proofs.SlLaysM.n6 prog wDq:={
 mixed:=by kernel_rfl
 f6:=⟨Tryz.f76.name,by decide,func76.trans (congrArg some (by kernel_rfl))⟩
 f8:=func145.trans (congrArg some (by kernel_rfl))
 f9:=⟨Tryz.f144.name,by decide,func144.trans (congrArg some (by kernel_rfl))⟩
 f19:=func225.trans (congrArg some (by kernel_rfl))
 f20:=func226.trans (congrArg some (by kernel_rfl))
 f21:=⟨Tryz.f216.name,by decide,func216.trans (congrArg some (by kernel_rfl))⟩
 f22:=⟨Tryz.f217.name,by decide,func217.trans (congrArg some (by kernel_rfl))⟩
 f23:=⟨Tryz.f218.name,by decide,func218.trans (congrArg some (by kernel_rfl))⟩
 f24:=⟨Tryz.f219.name,by decide,func219.trans (congrArg some (by kernel_rfl))⟩
 f25:=⟨Tryz.f220.name,by decide,func220.trans (congrArg some (by kernel_rfl))⟩
 f26:=⟨Tryz.f221.name,by decide,func221.trans (congrArg some (by kernel_rfl))⟩
 f27:=⟨Tryz.f222.name,by decide,func222.trans (congrArg some (by kernel_rfl))⟩
 f28:=⟨Tryz.f223.name,by decide,func223.trans (congrArg some (by kernel_rfl))⟩
 f29:=⟨Tryz.f224.name,by decide,func224.trans (congrArg some (by kernel_rfl))⟩
 f31:=func290.trans (congrArg some (by kernel_rfl))
 f32:=func291.trans (congrArg some (by kernel_rfl))
 f36:=⟨Tryz.f289.name,by decide,func289.trans (congrArg some (by kernel_rfl))⟩
 f37:=⟨Tryz.f292.name,by decide,func292.trans (congrArg some (by kernel_rfl))⟩
 f38:=⟨Tryz.f293.name,by decide,func293.trans (congrArg some (by kernel_rfl))⟩
 f39:=⟨Tryz.f294.name,by decide,func294.trans (congrArg some (by kernel_rfl))⟩
 f41:=⟨Tryz.f329.name,by decide,func329.trans (congrArg some (by kernel_rfl))⟩
 t0:=Tryz.underlying0
 a0:=Tryz.isAgg0
 z0:=Tryz.sizeOf0
 v0:=Tryz.zeroValue0
 t3:=Tryz.underlying3
 a3:=Tryz.isAgg3
 z3:=Tryz.sizeOf3
 v3:=Tryz.zeroValue3
 t4:=Tryz.underlying4
 a4:=Tryz.isAgg4
 z4:=Tryz.sizeOf4
 v4:=Tryz.zeroValue4
 t5:=Tryz.underlying5
 a5:=Tryz.isAgg5
 z5:=Tryz.sizeOf5
 v5:=Tryz.zeroValue5
 t9:=Tryz.underlying9
 a9:=Tryz.isAgg9
 z9:=Tryz.sizeOf9
 v9:=Tryz.zeroValue9
 t26:=Tryz.underlying41
 a26:=Tryz.isAgg41
 z26:=Tryz.sizeOf41
 v26:=Tryz.zeroValue41
 t27:=Tryz.underlying41
 a27:=Tryz.isAgg41
 z27:=Tryz.sizeOf41
 v27:=Tryz.zeroValue41
 t29:=Tryz.underlying9
 a29:=Tryz.isAgg9
 z29:=Tryz.sizeOf9
 v29:=Tryz.zeroValue9
 t32:=Tryz.underlying227
 a32:=Tryz.isAgg227
 z32:=Tryz.sizeOf227
 v32:=Tryz.zeroValue227
 t35:=Tryz.underlying300
 a35:=Tryz.isAgg300
 z35:=Tryz.sizeOf300
 v35:=Tryz.zeroValue300
 t36:=Tryz.underlying301
 a36:=Tryz.isAgg301
 z36:=Tryz.sizeOf301
 v36:=Tryz.zeroValue301
 t41:=Tryz.underlying305
 a41:=Tryz.isAgg305
 z41:=Tryz.sizeOf305
 v41:=Tryz.zeroValue305
 t44:=Tryz.underlying29
 a44:=Tryz.isAgg29
 z44:=Tryz.sizeOf29
 v44:=Tryz.zeroValue29
 t46:=Tryz.underlying309
 a46:=Tryz.isAgg309
 z46:=Tryz.sizeOf309
 v46:=Tryz.zeroValue309
 t53:=Tryz.underlying394
 a53:=Tryz.isAgg394
 z53:=Tryz.sizeOf394
 v53:=Tryz.zeroValue394
 t57:=Tryz.underlying398
 a57:=Tryz.isAgg398
 z57:=Tryz.sizeOf398
 v57:=Tryz.zeroValue398
 t63:=Tryz.underlying437
 a63:=Tryz.isAgg437
 z63:=Tryz.sizeOf437
 v63:=Tryz.zeroValue437
 t64:=Tryz.underlying438
 a64:=Tryz.isAgg438
 z64:=Tryz.sizeOf438
 v64:=Tryz.zeroValue438 }
def cutA_ren:Go.Shelf.Ren:=⟨fun|145=>51|220=>93|219=>162|217=>241|225=>242|224=>243|267=>244|266=>297|314=>298|n=>n,fun|9=>9|4=>4|59=>106|3=>3|5=>5|46=>227|146=>404|51=>29|n=>n,fun|1=>1|n=>n⟩
theorem cutA:Go.Proofs.Lays.n145 prog cutA_ren:={
 mixed:=by kernel_rfl
 f145:=func51.trans (congrArg some (by kernel_rfl))
 f217:=func241.trans (congrArg some (by kernel_rfl))
 f219:=func162.trans (congrArg some (by kernel_rfl))
 f220:=func93.trans (congrArg some (by kernel_rfl))
 f224:=func243.trans (congrArg some (by kernel_rfl))
 f225:=func242.trans (congrArg some (by kernel_rfl))
 f266:=func297.trans (congrArg some (by kernel_rfl))
 f267:=func244.trans (congrArg some (by kernel_rfl))
 f314:=func298.trans (congrArg some (by kernel_rfl))
 t3:=Tryz.underlying3
 a3:=Tryz.isAgg3
 z3:=Tryz.sizeOf3
 v3:=Tryz.zeroValue3
 t4:=Tryz.underlying4
 a4:=Tryz.isAgg4
 z4:=Tryz.sizeOf4
 v4:=Tryz.zeroValue4
 t5:=Tryz.underlying5
 a5:=Tryz.isAgg5
 z5:=Tryz.sizeOf5
 v5:=Tryz.zeroValue5
 t9:=Tryz.underlying9
 a9:=Tryz.isAgg9
 z9:=Tryz.sizeOf9
 v9:=Tryz.zeroValue9
 t46:=Tryz.underlying227
 a46:=Tryz.isAgg227
 z46:=Tryz.sizeOf227
 v46:=Tryz.zeroValue227
 t51:=Tryz.underlying29
 a51:=Tryz.isAgg29
 z51:=Tryz.sizeOf29
 v51:=Tryz.zeroValue29
 t59:=Tryz.underlying106
 a59:=Tryz.isAgg106
 z59:=Tryz.sizeOf106
 v59:=Tryz.zeroValue106
 t146:=Tryz.underlying404
 a146:=Tryz.isAgg404
 z146:=Tryz.sizeOf404
 v146:=Tryz.zeroValue404
 g1:=by kernel_rfl }
def wHq:Go.Shelf.Ren:=⟨fun|103=>50|210=>92|206=>161|n=>n,fun|9=>9|4=>4|24=>104|3=>3|n=>n,fun|n=>n⟩
theorem cutpA:Go.Proofs.Lays.n103 prog wHq:={
 mixed:=by kernel_rfl
 f103:=func50.trans (congrArg some (by kernel_rfl))
 f206:=func161.trans (congrArg some (by kernel_rfl))
 f210:=func92.trans (congrArg some (by kernel_rfl))
 t3:=Tryz.underlying3
 a3:=Tryz.isAgg3
 z3:=Tryz.sizeOf3
 v3:=Tryz.zeroValue3
 t4:=Tryz.underlying4
 a4:=Tryz.isAgg4
 z4:=Tryz.sizeOf4
 v4:=Tryz.zeroValue4
 t9:=Tryz.underlying9
 a9:=Tryz.isAgg9
 z9:=Tryz.sizeOf9
 v9:=Tryz.zeroValue9
 t24:=Tryz.underlying104
 a24:=Tryz.isAgg104
 z24:=Tryz.sizeOf104
 v24:=Tryz.zeroValue104 }
def atoiA_ren:Go.Shelf.Ren:=⟨fun|172=>52|244=>94|245=>95|247=>163|279=>164|280=>165|281=>166|282=>167|287=>245|316=>246|171=>53|205=>247|321=>299|322=>300|243=>96|246=>168|283=>248|284=>249|285=>250|286=>251|129=>226|317=>301|318=>302|319=>303|320=>304|337=>330|338=>331|n=>n,fun|9=>9|3=>3|75=>109|76=>110|4=>4|5=>5|167=>246|37=>26|0=>0|85=>247|2=>2|168=>249|53=>309|175=>323|46=>227|210=>327|127=>407|145=>410|143=>408|21=>21|171=>329|173=>331|212=>412|51=>29|20=>20|213=>413|232=>446|233=>447|80=>449|n=>n,fun|15=>2|16=>3|17=>4|18=>5|19=>6|n=>n⟩
theorem wRs:Go.Proofs.LaysC.n172 prog atoiA_ren:={
 mixed:=by kernel_rfl
 f129:=func226.trans (congrArg some (by kernel_rfl))
 f171:=func53.trans (congrArg some (by kernel_rfl))
 f172:=func52.trans (congrArg some (by kernel_rfl))
 f205:=func247.trans (congrArg some (by kernel_rfl))
 f243:=func96.trans (congrArg some (by kernel_rfl))
 f244:=func94.trans (congrArg some (by kernel_rfl))
 f245:=func95.trans (congrArg some (by kernel_rfl))
 f246:=func168.trans (congrArg some (by kernel_rfl))
 f247:=func163.trans (congrArg some (by kernel_rfl))
 f279:=func164.trans (congrArg some (by kernel_rfl))
 f280:=func165.trans (congrArg some (by kernel_rfl))
 f281:=func166.trans (congrArg some (by kernel_rfl))
 f282:=func167.trans (congrArg some (by kernel_rfl))
 f283:=func248.trans (congrArg some (by kernel_rfl))
 f284:=func249.trans (congrArg some (by kernel_rfl))
 f285:=func250.trans (congrArg some (by kernel_rfl))
 f286:=func251.trans (congrArg some (by kernel_rfl))
 f287:=func245.trans (congrArg some (by kernel_rfl))
 f316:=func246.trans (congrArg some (by kernel_rfl))
 f317:=func301.trans (congrArg some (by kernel_rfl))
 f318:=func302.trans (congrArg some (by kernel_rfl))
 f319:=func303.trans (congrArg some (by kernel_rfl))
 f320:=func304.trans (congrArg some (by kernel_rfl))
 f321:=func299.trans (congrArg some (by kernel_rfl))
 f322:=func300.trans (congrArg some (by kernel_rfl))
 f337:=func330.trans (congrArg some (by kernel_rfl))
 f338:=func331.trans (congrArg some (by kernel_rfl))
 t0:=Tryz.underlying0
 a0:=Tryz.isAgg0
 z0:=Tryz.sizeOf0
 v0:=Tryz.zeroValue0
 t2:=Tryz.underlying2
 a2:=Tryz.isAgg2
 z2:=Tryz.sizeOf2
 v2:=Tryz.zeroValue2
 t3:=Tryz.underlying3
 a3:=Tryz.isAgg3
 z3:=Tryz.sizeOf3
 v3:=Tryz.zeroValue3
 t4:=Tryz.underlying4
 a4:=Tryz.isAgg4
 z4:=Tryz.sizeOf4
 v4:=Tryz.zeroValue4
 t5:=Tryz.underlying5
 a5:=Tryz.isAgg5
 z5:=Tryz.sizeOf5
 v5:=Tryz.zeroValue5
 t9:=Tryz.underlying9
 a9:=Tryz.isAgg9
 z9:=Tryz.sizeOf9
 v9:=Tryz.zeroValue9
 t20:=Tryz.underlying20
 a20:=Tryz.isAgg20
 z20:=Tryz.sizeOf20
 v20:=Tryz.zeroValue20
 t21:=Tryz.underlying21
 a21:=Tryz.isAgg21
 z21:=Tryz.sizeOf21
 v21:=Tryz.zeroValue21
 t37:=Tryz.underlying26
 a37:=Tryz.isAgg26
 z37:=Tryz.sizeOf26
 v37:=Tryz.zeroValue26
 t46:=Tryz.underlying227
 a46:=Tryz.isAgg227
 z46:=Tryz.sizeOf227
 v46:=Tryz.zeroValue227
 t51:=Tryz.underlying29
 a51:=Tryz.isAgg29
 z51:=Tryz.sizeOf29
 v51:=Tryz.zeroValue29
 t53:=Tryz.underlying309
 a53:=Tryz.isAgg309
 z53:=Tryz.sizeOf309
 v53:=Tryz.zeroValue309
 t75:=Tryz.underlying109
 a75:=Tryz.isAgg109
 z75:=Tryz.sizeOf109
 v75:=Tryz.zeroValue109
 t76:=Tryz.underlying110
 a76:=Tryz.isAgg110
 z76:=Tryz.sizeOf110
 v76:=Tryz.zeroValue110
 t85:=Tryz.underlying247
 a85:=Tryz.isAgg247
 z85:=Tryz.sizeOf247
 v85:=Tryz.zeroValue247
 t127:=Tryz.underlying407
 a127:=Tryz.isAgg407
 z127:=Tryz.sizeOf407
 v127:=Tryz.zeroValue407
 t143:=Tryz.underlying408
 a143:=Tryz.isAgg408
 z143:=Tryz.sizeOf408
 v143:=Tryz.zeroValue408
 t145:=Tryz.underlying410
 a145:=Tryz.isAgg410
 z145:=Tryz.sizeOf410
 v145:=Tryz.zeroValue410
 t167:=Tryz.underlying246
 a167:=Tryz.isAgg246
 z167:=Tryz.sizeOf246
 v167:=Tryz.zeroValue246
 t168:=Tryz.underlying249
 a168:=Tryz.isAgg249
 z168:=Tryz.sizeOf249
 v168:=Tryz.zeroValue249
 t171:=Tryz.underlying329
 a171:=Tryz.isAgg329
 z171:=Tryz.sizeOf329
 v171:=Tryz.zeroValue329
 t173:=Tryz.underlying331
 a173:=Tryz.isAgg331
 z173:=Tryz.sizeOf331
 v173:=Tryz.zeroValue331
 t175:=Tryz.underlying323
 a175:=Tryz.isAgg323
 z175:=Tryz.sizeOf323
 v175:=Tryz.zeroValue323
 t210:=Tryz.underlying327
 a210:=Tryz.isAgg327
 z210:=Tryz.sizeOf327
 v210:=Tryz.zeroValue327
 t212:=Tryz.underlying412
 a212:=Tryz.isAgg412
 z212:=Tryz.sizeOf412
 v212:=Tryz.zeroValue412
 t213:=Tryz.underlying413
 a213:=Tryz.isAgg413
 z213:=Tryz.sizeOf413
 t232:=Tryz.underlying446
 a232:=Tryz.isAgg446
 z232:=Tryz.sizeOf446
 v232:=Tryz.zeroValue446
 t233:=Tryz.underlying447
 a233:=Tryz.isAgg447
 z233:=Tryz.sizeOf447
 v233:=Tryz.zeroValue447
 g15:=by kernel_rfl
 g16:=by kernel_rfl
 g17:=by kernel_rfl
 g18:=by kernel_rfl
 g19:=by kernel_rfl
 t80:=Tryz.underlying449
 a80:=Tryz.isAgg449
 z80:=Tryz.sizeOf449
 v80:=Tryz.zeroValue449
 i0:=by kernel_rfl
 i2:=by kernel_rfl
 i3:=by kernel_rfl
 i4:=by kernel_rfl
 i5:=by kernel_rfl
 i9:=by kernel_rfl
 i20:=by kernel_rfl
 i21:=by kernel_rfl
 i37:=by kernel_rfl
 i46:=by kernel_rfl
 i51:=by kernel_rfl
 i53:=by kernel_rfl
 i75:=by kernel_rfl
 i76:=by kernel_rfl
 i80:=by kernel_rfl
 i85:=by kernel_rfl
 i127:=by kernel_rfl
 i143:=by kernel_rfl
 i145:=by kernel_rfl
 i167:=by kernel_rfl
 i168:=by kernel_rfl
 i171:=by kernel_rfl
 i173:=by kernel_rfl
 i175:=by kernel_rfl
 i210:=by kernel_rfl
 i212:=by kernel_rfl
 i232:=by kernel_rfl
 i233:=by kernel_rfl
 m15:=by kernel_rfl
 m16:=by kernel_rfl
 m17:=by kernel_rfl
 m18:=by kernel_rfl
 m19:=by kernel_rfl
 c0:=by kernel_rfl
 c2:=by kernel_rfl
 c3:=by kernel_rfl
 c4:=by kernel_rfl
 c5:=by kernel_rfl
 c9:=by kernel_rfl
 c20:=by kernel_rfl
 c21:=by kernel_rfl
 c37:=by kernel_rfl
 c46:=by kernel_rfl
 c51:=by kernel_rfl
 c53:=by kernel_rfl
 c75:=by kernel_rfl
 c76:=by kernel_rfl
 c80:=by kernel_rfl
 c85:=by kernel_rfl
 c127:=by kernel_rfl
 c143:=by kernel_rfl
 c145:=by kernel_rfl
 c167:=by kernel_rfl
 c168:=by kernel_rfl
 c171:=by kernel_rfl
 c173:=by kernel_rfl
 c175:=by kernel_rfl
 c210:=by kernel_rfl
 c212:=by kernel_rfl
 c213:=by kernel_rfl
 c232:=by kernel_rfl
 c233:=by kernel_rfl }
def wGj:Go.Shelf.Ren:=⟨fun|171=>53|243=>96|246=>168|283=>248|284=>249|285=>250|286=>251|129=>226|317=>301|318=>302|319=>303|320=>304|337=>330|338=>331|n=>n,fun|3=>3|9=>9|2=>2|4=>4|171=>329|0=>0|53=>309|37=>26|5=>5|173=>331|212=>412|51=>29|20=>20|213=>413|46=>227|232=>446|233=>447|n=>n,fun|17=>4|18=>5|19=>6|n=>n⟩
theorem itoaA:Go.Proofs.LaysM.n171 prog wGj:={
 mixed:=by kernel_rfl
 f129:=func226.trans (congrArg some (by kernel_rfl))
 f171:=func53.trans (congrArg some (by kernel_rfl))
 f243:=func96.trans (congrArg some (by kernel_rfl))
 f246:=func168.trans (congrArg some (by kernel_rfl))
 f283:=func248.trans (congrArg some (by kernel_rfl))
 f284:=func249.trans (congrArg some (by kernel_rfl))
 f285:=func250.trans (congrArg some (by kernel_rfl))
 f286:=func251.trans (congrArg some (by kernel_rfl))
 f317:=func301.trans (congrArg some (by kernel_rfl))
 f318:=func302.trans (congrArg some (by kernel_rfl))
 f319:=func303.trans (congrArg some (by kernel_rfl))
 f320:=func304.trans (congrArg some (by kernel_rfl))
 f337:=func330.trans (congrArg some (by kernel_rfl))
 f338:=func331.trans (congrArg some (by kernel_rfl))
 t0:=Tryz.underlying0
 a0:=Tryz.isAgg0
 z0:=Tryz.sizeOf0
 v0:=Tryz.zeroValue0
 t2:=Tryz.underlying2
 a2:=Tryz.isAgg2
 z2:=Tryz.sizeOf2
 v2:=Tryz.zeroValue2
 t3:=Tryz.underlying3
 a3:=Tryz.isAgg3
 z3:=Tryz.sizeOf3
 v3:=Tryz.zeroValue3
 t4:=Tryz.underlying4
 a4:=Tryz.isAgg4
 z4:=Tryz.sizeOf4
 v4:=Tryz.zeroValue4
 t5:=Tryz.underlying5
 a5:=Tryz.isAgg5
 z5:=Tryz.sizeOf5
 v5:=Tryz.zeroValue5
 t9:=Tryz.underlying9
 a9:=Tryz.isAgg9
 z9:=Tryz.sizeOf9
 v9:=Tryz.zeroValue9
 t20:=Tryz.underlying20
 a20:=Tryz.isAgg20
 z20:=Tryz.sizeOf20
 v20:=Tryz.zeroValue20
 t37:=Tryz.underlying26
 a37:=Tryz.isAgg26
 z37:=Tryz.sizeOf26
 v37:=Tryz.zeroValue26
 t46:=Tryz.underlying227
 a46:=Tryz.isAgg227
 z46:=Tryz.sizeOf227
 v46:=Tryz.zeroValue227
 t51:=Tryz.underlying29
 a51:=Tryz.isAgg29
 z51:=Tryz.sizeOf29
 v51:=Tryz.zeroValue29
 t53:=Tryz.underlying309
 a53:=Tryz.isAgg309
 z53:=Tryz.sizeOf309
 v53:=Tryz.zeroValue309
 t171:=Tryz.underlying329
 a171:=Tryz.isAgg329
 z171:=Tryz.sizeOf329
 v171:=Tryz.zeroValue329
 t173:=Tryz.underlying331
 a173:=Tryz.isAgg331
 z173:=Tryz.sizeOf331
 v173:=Tryz.zeroValue331
 t212:=Tryz.underlying412
 a212:=Tryz.isAgg412
 z212:=Tryz.sizeOf412
 v212:=Tryz.zeroValue412
 t213:=Tryz.underlying413
 a213:=Tryz.isAgg413
 z213:=Tryz.sizeOf413
 t232:=Tryz.underlying446
 a232:=Tryz.isAgg446
 z232:=Tryz.sizeOf446
 v232:=Tryz.zeroValue446
 t233:=Tryz.underlying447
 a233:=Tryz.isAgg447
 z233:=Tryz.sizeOf447
 v233:=Tryz.zeroValue447
 g17:=by kernel_rfl
 g18:=by kernel_rfl
 g19:=by kernel_rfl
 i0:=by kernel_rfl
 i2:=by kernel_rfl
 i3:=by kernel_rfl
 i4:=by kernel_rfl
 i5:=by kernel_rfl
 i9:=by kernel_rfl
 i20:=by kernel_rfl
 i37:=by kernel_rfl
 i46:=by kernel_rfl
 i51:=by kernel_rfl
 i53:=by kernel_rfl
 i171:=by kernel_rfl
 i173:=by kernel_rfl
 i212:=by kernel_rfl
 i232:=by kernel_rfl
 i233:=by kernel_rfl
 m17:=by kernel_rfl
 m18:=by kernel_rfl
 m19:=by kernel_rfl }
end
theorem Own.empty(b:Nat)(e:TypeId)(a:Nat):Own (.slice (some ⟨b,0,none⟩) 0 0) [(b,cE ([]:List Value) e)] e a 0 []:=⟨by simp,.inr ⟨b,0,#[],rfl,rfl,by omega,by decide,by simp,by simp⟩⟩
abbrev TDk:TypeId:=25
def DK(M:Mem)(v:Value)(bs:List (List By))(ws:List Wt):Prop:=∃bv wv,v=.agg #[bv,wv]/\LS M bv bs/\WS M wv ws
theorem Jw(bs:List (List By))(b:List Wt)(e c:Value)(M:Mem)(g:LS M e bs)(f:WS M c b)(d:Jv bs b)(k:Int)(hk:0<=k/\k<256):
  SpecL prog 327 #[.agg #[e,c],.int .i64 k] M [] λu _ _=>u=.int .i64 0:=by
 have a:Tx bs b=0:=if_pos d;refine sB func327 ntmps327 ?_;intro W;refine ga λh=>?_;refine gQ (Pb bs b e c M g f) ?_;refine jf rfl (decide_eq_false (by first|omega|(rw[a];decide))) ?_;refine gg ?_;refine jf rfl (decide_eq_false (by first|omega|(rw[a];decide))) ?_;refine gg ?_;refine jf rfl (decide_eq_false (by first|omega|(rw[a];decide))) ?_;refine gr ?_;rfl
theorem Xn(bs:List (List By))(g:List Wt)(X Y:Value)(M:Mem)(T:LS M X bs)(S:WS M Y g)(n:Jv bs g)(k:Int)(hk:0<=k/\k<256)(a:List By)(dv:Value)(Z:BS M dv a)(ah:a.length=128)(af:g.length<4096):
  SpecL prog 336 #[.agg #[X,Y],.int .i64 k,dv] M [] λu M' L'=>(∃d,u=.tuple #[d,.int .i64 0]/\DK M' d bs (g++[(k,a)]))/\L'=[]:=by
 have ak:=T;have aj:=S;obtain⟨a2,c2,y,rfl,L,D,H,O⟩:=id S;obtain⟨da,dc,rfl,ai,ag⟩:=id Z;refine sB func336 ntmps336 ?_;intro W;refine Ke λb3 b6=>?_;refine gQ (Jw bs g X _ M T S n k hk) ?_;refine gt ?_;obtain⟨a1,c1,z,rfl,N,E,I,P⟩:=id T;refine gC (Tu bs g a1 c1 z a2 c2 y M N E I P L D H O n) ?_;rintro _ M1 Rw Q ⟨ao,aa,rfl,hB,qs,G,F,c⟩;obtain⟨w,s,rfl⟩:=c.form;obtain⟨ba,bc,ap,rfl,_⟩:=id hB;refine ga λb9=>?_;refine Gt [9] [9] [0,1,2,3,104,5,106,107,8,109] M1 ([(b9,cE [.slice ba bs.length bc,.slice w g.length s] TDk)]) ([]) ?_;refine gh ?_;refine dh rfl (hC (B6 _ a M1 (Z.mono Q) (by omega))) ?_;rintro _ M2 _ ⟨b,Rc,rfl,e⟩;refine⟨b,by simp,?_⟩;obtain⟨ca,cc,rfl⟩:=e.form;refine gh ?_;refine GP rfl rfl rfl (Ab (cs:=[_,_]) rfl rfl rfl (by rfl) (by rfl) (by rfl)) ?_;rintro _ _ _ ⟨aq,rfl,rfl,rfl⟩;refine⟨_,_,MLe.refl _,b,λ_ h=>h,by simp,?_⟩;refine GP rfl rfl rfl (AY (R:=Rw) (m:=1) (news:=[.int .i64 k,.slice ca a.length cc]) rfl rfl rfl rfl c rfl (λi v hv=>CJ.loc (by simpa using hv)) rfl (by rfl) (by simp[Value.oneCell']) (by omega) (by omega)) ?_;rintro _ _ _ ⟨rfl,au,rfl,f,_⟩;refine⟨_,_,MLe.refl _,b,λ_ h=>h,by simp,?_⟩;obtain⟨ae,ac,rfl⟩:=f.form;refine dq rfl (Ac rfl rfl rfl rfl rfl) ?_;refine Ho rfl rfl (Ao rfl rfl rfl rfl rfl rfl rfl rfl) ?_;rintro _ _ _ ⟨rfl,rfl⟩;refine⟨b,by simp,?_⟩;refine gh ?_;refine BK e (by simp) ?_;intro Ma am al o V K J;cases V;refine BK f (by simp) ?_;intro Mb ad ab j U C B;cases U;refine gr ?_;refine⟨⟨_,rfl,_,_,rfl,hB.mono (b.trans (o.trans j)),?_⟩,rfl⟩;refine⟨_,_,qs++[((k,a),.slice ca a.length cc)],by rw[List.length_append];rfl,by rw[List.length_append];exact C,?_,by rw[List.map_append,G];rfl,?_⟩
 ·rw [List.flatMap_append];exact B
 intro p l;rcases List.mem_append.1 l with l|l
 ·exact (F p l).mono (b.trans (o.trans j))
 rw[List.mem_singleton.1 l];exact⟨_,_,rfl,K,J.mono j⟩
def kept:List Bool->List Wt->List Wt
 |b::bs,w::ws=>if b then w::kept bs ws else kept bs ws
 |_,_=>[]
def wCu(t:List By)(i:Nat):List By:=(t.drop (128*i)).take 128
theorem wBt(b:Option Addr)(c:Nat)(xs:List By)(a m:Nat)(M:Mem)(h:¬a+m<=xs.length)(f:m<=100)(g:a<=1000)(e:xs.length<=1000000):
  SpecL prog 234 #[.slice b xs.length c,.int .i64 a,.int .i64 m] M [] λv _ d=>v=.tuple #[.int .u32 0,.int .i64 8]/\d=[]:=by
 refine sB func234 ntmps234 ?_;intro W;refine gA λi=>?_;refine gu ?_;exact⟨rfl,rfl⟩
theorem N2(b:Option Addr)(c:Nat)(xs:List By)(a:Nat)(M:Mem)(d:xs.length<=1000000)(h:¬a+4<=xs.length)(e:a<=1000):
  SpecL prog 153 #[.slice b xs.length c,.int .i64 a] M [] λv _ _=>v=.tuple #[.int .u32 0,.int .i64 8]:=by
 refine sB func153 ntmps153 ?_;intro W;refine gc (wBt b c xs a 4 M h (by omega) e d) ?_;rintro _ _ _ rfl;refine gr ?_;rfl
theorem Zg(b:Option Addr)(c:Nat)(xs:List By)(a:Nat)(M:Mem)(d:xs.length<=1000000)(h:¬a+2<=xs.length)(e:a<=1000):
  SpecL prog 152 #[.slice b xs.length c,.int .i64 a] M [] λv _ _=>v=.tuple #[.int .i64 0,.int .i64 8]:=by
 refine sB func152 ntmps152 ?_;intro W;refine gc (wBt b c xs a 2 M h (by omega) e d) ?_;rintro _ _ _ rfl;refine gh ?_;refine lq (C7 rfl rfl rfl (by omega)) ?_;refine gr ?_;rfl
structure Vo where
 id:Int
 root:Int
 frz:Bool
 frm:Int
abbrev DA(v:Vo):List Value:=[.int .u32 v.id,.int .i64 v.root,.bool v.frz,.int .u32 v.frm]
def bB(b:Bool):By:=if b then 1 else 0
def wWp(v:Vo):List By:=[Kj v.root,[bB v.frz],CB v.frm].flatten
def Ci(v:Vo):It:=⟨⟨1,v.id,0⟩,0,wWp v⟩
def CG(x:It):Vo:=⟨x.key.id,Eu x.val 0 2,decide (((x.val.getD 2 0).toNat:Int)=1),Eu x.val 3 4⟩
def Dz(x:It):Prop:=7<=x.val.length/\Ci (CG x)=x
instance(x:It):Decidable (Dz x):=by unfold Dz;exact inferInstance
variable{M:Mem}{b:Nat}{u1:Value}{x1:List By}
theorem LS.three{c a:Value}{e d:List By}(h:M b=some (cE [u1,c,a] 26))(j:BS M u1 x1)(i:BS M c e)(g:BS M a d):LS M (.slice (some ⟨b,0,none⟩) 3 3) [x1,e,d]:=
 ⟨some ⟨b,0,none⟩,3,[(x1,u1),(e,c),(d,a)],rfl,Nat.le_refl _,SM.of_block (l:=[u1,c,a]) h,rfl,λp f=>by
  simp only[List.mem_cons,List.not_mem_nil,or_false]at f
  rcases f with rfl|rfl|rfl
  ·exact j
  ·exact i
  exact g⟩
theorem wPq(xs:List By)(a:Nat):0<=Eu xs a 2/\Eu xs a 2<65536:=by
 have d:∀x:By,0<=Ei [x]/\Ei [x]<256:=λx=>by
  have:∀n:Nat,n<256->0<=Ei [UInt8.ofNat n]/\Ei [UInt8.ofNat n]<256:=by decide +kernel
  have h:=this x.toNat x.toNat_lt;rwa[UInt8.ofNat_toNat]at h
 have h:∀b:List By,b.length<=2->0<=Ei b/\Ei b<65536:=λb c=>by
  match b,c with
  |[],_=>exact⟨by decide,by decide⟩
  |[x],_=>
   have:=d x;omega
  |[x,y],_=>
   have e:=d x
   show 0<=Ei ([x]++[y])/\Ei ([x]++[y])<65536
   rw[Fv]
   generalize Ei [x]=a at e
   have c:=y.toNat_lt
   have f:MK .u32 a 8=a*256:=by
    unfold MK
    rw[IntKind.wrap_u32,show (2:Int) ^ (min 8 IntKind.u32.bits)=256 by decide];omega
   rw[f]
   refine⟨(wCk _ _).1,?_⟩
   unfold ND
   rw[IntKind.wrap_u32]
   have i:(BitVec.ofInt IntKind.u32.bits (a*256)).toNat<2 ^ 16:=by
    rw[BitVec.toNat_ofInt];show ((a*256)%4294967296).toNat<_;omega
   have g:(BitVec.ofInt IntKind.u32.bits (y.toNat:Int)).toNat<2 ^ 16:=by
    rw[BitVec.toNat_ofInt];show (((y.toNat:Int))%4294967296).toNat<_;omega
   have j:(BitVec.ofInt IntKind.u32.bits (a*256) ||| BitVec.ofInt IntKind.u32.bits (y.toNat:Int)).toNat<2 ^ 16:=by
    rw[BitVec.toNat_or];exact Nat.or_lt_two_pow i g
   omega
 grind[Eu]
theorem Qp(v:Vo)(M:Mem)(h:0<=v.root/\v.root<65536):
  SpecL prog 155 #[.agg (DA v).toArray] M [] λu M' L'=>(∃Z Y,u=.agg (E1 (Ci v) Z Y).toArray/\(Ci v).val.length<=Y/\SM M' Z (Aa (Ci v).val))/\L'=[]:=by
 refine sB func155 ntmps155 ?_;intro W;refine Ke λK J=>?_;refine gc (Vn v.root M h) ?_;rintro _ M2 aa ⟨s2,rfl,C⟩;refine gg ?_;refine BP rfl rfl (Au rfl rfl rfl rfl (CJ.loc rfl)) (λB=>?_) (λB=>?_)
 ·refine gh ?_;refine AV ([(K,cE (DA v) 98)]) (by kernel_rfl) (by simp) ?_;refine gk [0,1] ?_;refine Et (i:=2) rfl (by kernel_rfl) (by kernel_rfl) rfl rfl (BF (cs:=[_,_,_]) rfl rfl rfl (by rfl)) ?_;refine gk [3,4,6,7] ?_;refine Eg (α:=Mem×Value×Value) (λy=>MLe M2 y.1/\BS y.1 y.2.1 [bB v.frz]/\BS y.1 y.2.2 (CB v.frm)) (λy=>[(2,pB J),(16,.agg #[.int .u8 1,.int .u32 v.id,.int .u32 0]),(17,s2),(19,y.2.1),(22,y.2.2)]) (λy=>y.1) (λ_=>[(J,.cells zeroIt.toArray IT (0,0)),(K,cE (DA v) 98)]) 4 #[true,true,true,true,true,true,true,true,true,false,false,false,false] ?_ (λf=>?_)
  ·rintro ⟨Mr,v5,I⟩ ⟨b,n,m⟩;try dsimp only at b n m⊢
   obtain⟨a5,k5,rfl,_,_⟩:=id n;obtain⟨a8,k8,rfl,_,_⟩:=id m;obtain⟨P,L,rfl,_,_⟩:=id C;refine aO 9 ?_;refine sh rfl (Ab (cs:=[_,_,_]) rfl rfl rfl (by rfl) (by rfl) (by rfl)) ?_;rintro _ _ _ ⟨G,rfl,rfl,rfl⟩;refine aG (b) ?_;refine AW G (by simp) (by simp) ?_;intro T c N;have D:=LS.three N (((C.mono b).mono c)) (n.mono c) (m.mono c);refine aO 10 ?_;refine sh rfl (hC (D2 _ _ T D (by simp) (by simp[CB,Kj]))) ?_;rintro _ X _ ⟨g,S,rfl,s⟩;refine aG ((b.trans c).trans g) ?_;refine wNp s (by simp) (by simp) ?_;intro V Q O z F w o;subst F;refine Et (i:=11) rfl (by kernel_rfl) (by kernel_rfl) rfl rfl (BF (cs:=[_,_,_,_,_]) rfl rfl rfl (by rfl)) ?_;refine aO 12 ?_;refine Ug rfl rfl (Ao rfl rfl rfl rfl rfl rfl rfl rfl) ?_;rintro _ _ _ ⟨rfl,rfl⟩;refine aG (((b.trans c).trans g).trans z) ?_;refine FP (by kernel_rfl) ?_;refine gr ?_;exact⟨⟨_,_,rfl,w,o⟩,rfl⟩
  refine Bf [5,8] (by kernel_rfl) rfl ⟨?_,?_,trivial⟩
  ·refine sh rfl (Ab (cs:=[_]) rfl rfl rfl (by rfl) (by rfl) (by rfl)) ?_;rintro _ _ _ ⟨e,rfl,rfl,rfl⟩;refine aG (MLe.refl _) ?_;refine AW e (by simp) (by simp) ?_;intro H d E;have k:BS H (.slice (some ⟨e,0,none⟩) 1 1) [bB v.frz]:=⟨_,1,rfl,Nat.le_refl _,SM.of_block (l:=Aa [bB v.frz]) (by rw[B];exact E)⟩;refine aO 8 ?_;refine sh rfl (hC (Ba v.frm _)) ?_;rintro I U _ ⟨a,R,rfl,j,rfl⟩;refine aG ((d).trans a) ?_;simp only[List.nil_append];exact aR f (_,_,_) ⟨(d.trans a),k.mono (a),j.mono (MLe.refl _)⟩
  refine sh rfl (hC (Ba v.frm _)) ?_;rintro I U _ ⟨a,R,rfl,j,rfl⟩;refine aG (a) ?_;simp only[List.nil_append];refine aO 5 ?_;refine sh rfl (Ab (cs:=[_]) rfl rfl rfl (by rfl) (by rfl) (by rfl)) ?_;rintro _ _ _ ⟨e,rfl,rfl,rfl⟩;refine aG (a) ?_;refine AW e (by simp) (by simp) ?_;intro H d E;have k:BS H (.slice (some ⟨e,0,none⟩) 1 1) [bB v.frz]:=⟨_,1,rfl,Nat.le_refl _,SM.of_block (l:=Aa [bB v.frz]) (by rw[B];exact E)⟩;exact aR f (_,_,_) ⟨(a.trans d),k.mono (MLe.refl _),j.mono (d)⟩
 refine gh ?_;refine AV ([(K,cE (DA v) 98)]) (by kernel_rfl) (by simp) ?_;refine gk [0,1] ?_;refine Et (i:=2) rfl (by kernel_rfl) (by kernel_rfl) rfl rfl (BF (cs:=[_,_,_]) rfl rfl rfl (by rfl)) ?_;refine gk [3,4,6,7] ?_;refine Eg (α:=Mem×Value×Value) (λy=>MLe M2 y.1/\BS y.1 y.2.1 [bB v.frz]/\BS y.1 y.2.2 (CB v.frm)) (λy=>[(2,pB J),(16,.agg #[.int .u8 1,.int .u32 v.id,.int .u32 0]),(17,s2),(19,y.2.1),(22,y.2.2)]) (λy=>y.1) (λ_=>[(J,.cells zeroIt.toArray IT (0,0)),(K,cE (DA v) 98)]) 4 #[true,true,true,true,true,true,true,true,true,false,false,false,false] ?_ (λf=>?_)
 ·rintro ⟨Mr,v5,I⟩ ⟨b,n,m⟩;try dsimp only at b n m⊢
  obtain⟨a5,k5,rfl,_,_⟩:=id n;obtain⟨a8,k8,rfl,_,_⟩:=id m;obtain⟨P,L,rfl,_,_⟩:=id C;refine aO 9 ?_;refine sh rfl (Ab (cs:=[_,_,_]) rfl rfl rfl (by rfl) (by rfl) (by rfl)) ?_;rintro _ _ _ ⟨G,rfl,rfl,rfl⟩;refine aG (b) ?_;refine AW G (by simp) (by simp) ?_;intro T c N;have D:=LS.three N (((C.mono b).mono c)) (n.mono c) (m.mono c);refine aO 10 ?_;refine sh rfl (hC (D2 _ _ T D (by simp) (by simp[CB,Kj]))) ?_;rintro _ X _ ⟨g,S,rfl,s⟩;refine aG ((b.trans c).trans g) ?_;refine wNp s (by simp) (by simp) ?_;intro V Q O z F w o;subst F;refine Et (i:=11) rfl (by kernel_rfl) (by kernel_rfl) rfl rfl (BF (cs:=[_,_,_,_,_]) rfl rfl rfl (by rfl)) ?_;refine aO 12 ?_;refine Ug rfl rfl (Ao rfl rfl rfl rfl rfl rfl rfl rfl) ?_;rintro _ _ _ ⟨rfl,rfl⟩;refine aG (((b.trans c).trans g).trans z) ?_;refine FP (by kernel_rfl) ?_;refine gr ?_;exact⟨⟨_,_,rfl,w,o⟩,rfl⟩
 refine Bf [5,8] (by kernel_rfl) rfl ⟨?_,?_,trivial⟩
 ·refine sh rfl (Ab (cs:=[_]) rfl rfl rfl (by rfl) (by rfl) (by rfl)) ?_;rintro _ _ _ ⟨e,rfl,rfl,rfl⟩;refine aG (MLe.refl _) ?_;refine AW e (by simp) (by simp) ?_;intro H d E;have k:BS H (.slice (some ⟨e,0,none⟩) 1 1) [bB v.frz]:=⟨_,1,rfl,Nat.le_refl _,SM.of_block (l:=Aa [bB v.frz]) (by rw[B];exact E)⟩;refine aO 8 ?_;refine sh rfl (hC (Ba v.frm _)) ?_;rintro I U _ ⟨a,R,rfl,j,rfl⟩;refine aG ((d).trans a) ?_;simp only[List.nil_append];exact aR f (_,_,_) ⟨(d.trans a),k.mono (a),j.mono (MLe.refl _)⟩
 refine sh rfl (hC (Ba v.frm _)) ?_;rintro I U _ ⟨a,R,rfl,j,rfl⟩;refine aG (a) ?_;simp only[List.nil_append];refine aO 5 ?_;refine sh rfl (Ab (cs:=[_]) rfl rfl rfl (by rfl) (by rfl) (by rfl)) ?_;rintro _ _ _ ⟨e,rfl,rfl,rfl⟩;refine aG (a) ?_;refine AW e (by simp) (by simp) ?_;intro H d E;have k:BS H (.slice (some ⟨e,0,none⟩) 1 1) [bB v.frz]:=⟨_,1,rfl,Nat.le_refl _,SM.of_block (l:=Aa [bB v.frz]) (by rw[B];exact E)⟩;exact aR f (_,_,_) ⟨(a.trans d),k.mono (MLe.refl _),j.mono (d)⟩
theorem vol_a(x:It)(c:Option Addr)(b:Nat)(M:Mem)(f:x.val.length<=b)(hs:SM M c (Aa x.val))(d:x.val.length<=1000000)(h:x.val.length<2):
  SpecL prog 87 #[.agg (E1 x c b).toArray] M [] λu j e=>(∃v,u=.tuple #[.agg (DA v).toArray,.bool (decide (Dz x))]/\(Dz x->v=CG x))/\e=[]:=by
 refine sB func87 ntmps87 ?_;intro W;refine Ke λi g=>?_;refine gq (Zg c b x.val 0 M d (by omega) (by omega)) ?_;refine gQ (N2 c b x.val 3 M d (by omega) (by omega)) ?_;refine gu ?_;have a:¬Dz x:=λh=>by have:=h.1;omega
 rw[show decide (Dz x)=false from decide_eq_false a];exact⟨⟨⟨0,0,false,0⟩,rfl,λh=>absurd h a⟩,rfl⟩
theorem vol_b(x:It)(c:Option Addr)(b:Nat)(M:Mem)(e:x.val.length<=b)(hs:SM M c (Aa x.val))(d:x.val.length<=1000000)(h:2<=x.val.length)(g:x.val.length<7):
  SpecL prog 87 #[.agg (E1 x c b).toArray] M [] λu k f=>(∃v,u=.tuple #[.agg (DA v).toArray,.bool (decide (Dz x))]/\(Dz x->v=CG x))/\f=[]:=by
 refine sB func87 ntmps87 ?_;intro W;refine Ke λj i=>?_;refine gq (Gj c b x.val 0 M hs e (by omega) d) ?_;refine gQ (N2 c b x.val 3 M d (by omega) (by omega)) ?_;refine gu ?_;have a:¬Dz x:=λh=>by have:=h.1;omega
 rw[show decide (Dz x)=false from decide_eq_false a];exact⟨⟨⟨0,0,false,0⟩,rfl,λh=>absurd h a⟩,rfl⟩
theorem wYa(x:It)(l:Option Addr)(a:Nat)(M:Mem)(i:x.val.length<=a)(hs:SM M l (Aa x.val))(m:x.val.length<=1000000)(w:7<=x.val.length):
  SpecL prog 87 #[.agg (E1 x l a).toArray] M [] λu E B=>(∃v,u=.tuple #[.agg (DA v).toArray,.bool (decide (Dz x))]/\(Dz x->v=CG x))/\B=[]:=by
 obtain⟨d,c,y,o⟩:=hs.open (by intro e;have:=congrArg List.length e;rw[Ad,List.length_nil]at this;omega);subst y;refine DX (vs:=[_]) 46 _ func87 rfl ntmps87 rfl rfl ?_;intro W;refine Ah (Af ?_);refine lh (Bt (cs:=[_,_,_,_,_]) rfl rfl rfl rfl) ?_;rintro _ _ _ ⟨k,rfl,rfl,rfl⟩;refine lh (AX rfl rfl) ?_;rintro _ _ _ ⟨z,rfl,rfl,rfl⟩;refine jp rfl ?_;refine Ai (jT (Ah (Af ?_)));refine lq (Ac rfl rfl rfl rfl rfl) ?_;refine lq (Ac rfl rfl rfl rfl rfl) ?_;refine lq (Au rfl rfl rfl rfl (CJ.loc rfl)) ?_;refine lq (Ac rfl rfl rfl rfl rfl) ?_;refine DE rfl (Ao rfl rfl rfl rfl rfl rfl rfl rfl) ?_;rintro _ _ _ ⟨rfl,rfl⟩;refine Ai (jT (Ah (Af ?_)));refine lq (Ac rfl rfl rfl rfl rfl) ?_;refine lq (Au rfl rfl rfl rfl (CJ.loc rfl)) ?_;refine lq (qC (Gj _ a x.val 0 M hs i (by omega) m)) ?_;iterate 5 refine jp rfl ?_
 refine Ai (jT (Ah (Af ?_)));refine lq (Ac rfl rfl rfl rfl rfl) ?_;refine lq (Au rfl rfl rfl rfl (CJ.loc rfl)) ?_;refine lq (qC (CV _ a x.val 3 M hs i (by omega) m)) ?_;iterate 5 refine jp rfl ?_
 refine Ai (jT (Ah (Ah (Af ?_))));refine jp rfl ?_;refine jf rfl (decide_eq_false (by omega)) ?_;iterate 2 refine jp rfl ?_
 refine jf rfl (decide_eq_false (by omega)) ?_;refine jp rfl ?_;refine Ai (jT (DM rfl (Co (jT (Ah ?_)))));refine D7 [0,1,2,3,4,5,6,7,108,9,110,11,112] [(k,cE (E1 x (some ⟨d,c,none⟩) a) IT)] ?_;refine dp rfl rfl ?_;refine dq rfl (Ac rfl rfl rfl rfl rfl) ?_;refine dq rfl (Au rfl rfl rfl rfl (CJ.loc rfl)) ?_;refine dq rfl (EV rfl rfl rfl rfl (by omega)) ?_;refine dq rfl (Au rfl rfl rfl rfl ((o ((2:Int).toNat*1) _ (Ca (j:=2) (by omega))).cj _)) ?_;iterate 2 refine dp rfl rfl ?_
 refine dq rfl (Ac rfl rfl rfl rfl rfl) ?_;refine DF rfl rfl (Ao rfl rfl rfl rfl rfl rfl rfl rfl) ?_;rintro _ _ _ ⟨rfl,rfl⟩;refine⟨_,_,MLe.refl _,MLe.refl _,λ_ h=>h,by simp,?_⟩;refine dq rfl (Ac rfl rfl rfl rfl rfl) ?_;refine DF rfl rfl (Ao rfl rfl rfl rfl rfl rfl rfl rfl) ?_;rintro _ _ _ ⟨rfl,rfl⟩;refine⟨_,_,MLe.refl _,MLe.refl _,λ_ h=>h,by simp,?_⟩;refine dq rfl (Ac rfl rfl rfl rfl rfl) ?_;refine DF rfl rfl (Ao rfl rfl rfl rfl rfl rfl rfl rfl) ?_;rintro _ _ _ ⟨rfl,rfl⟩;refine⟨_,_,MLe.refl _,MLe.refl _,λ_ h=>h,by simp,?_⟩;refine Nm (wGh (jT (Ah ?_)));refine Gt [5] [2,3,5,6] [0,1,3,102,4,105,6] M ([(z,cE [.int .u32 x.key.id,.int .i64 (Eu x.val 0 2),.bool (decide (((x.val.getD 2 0).toNat:Int)=1)),.int .u32 (Eu x.val 3 4)] 98),(k,cE (E1 x (some ⟨d,c,none⟩) a) IT)]) ([(k,cE (E1 x (some ⟨d,c,none⟩) a) IT)]) ?_;refine dq rfl (HO rfl rfl rfl rfl rfl) ?_;refine dq rfl (HO rfl rfl rfl rfl rfl) ?_;refine wNm rfl rfl rfl (HO rfl rfl rfl rfl rfl) ?_;refine GP rfl rfl rfl (BV rfl rfl rfl rfl rfl (by kernel_rfl) (Qp (CG x) M (wPq _ _))) ?_;rintro _ n _ ⟨b,_,rfl,⟨⟨D,C,rfl,g,f⟩,rfl⟩⟩;refine⟨n,_,b,MLe.refl _,λ_ h=>h,by simp,?_⟩;refine dq rfl (qC (WF (Ci (CG x)) x _ _ n ⟨_,_,rfl,g,f⟩ ⟨_,_,rfl,i,hs.mono b⟩)) ?_;refine Ho rfl rfl (Ao rfl rfl rfl rfl rfl rfl rfl rfl) ?_;rintro _ _ _ ⟨rfl,rfl⟩;refine⟨b,by simp,?_⟩;refine ep rfl rfl ?_;refine QM ?_;refine wGh (jT (Bq ?_));refine zd ([]) rfl ?_;have s:decide (Dz x)=decide (Ci (CG x)=x):=decide_eq_decide.2 ⟨λh=>h.2,λh=>⟨w,h⟩⟩;rw[s];exact⟨⟨CG x,rfl,λ_=>rfl⟩,rfl⟩
theorem Vi(x:It)(b:Option Addr)(a:Nat)(M:Mem)(e:x.val.length<=a)(hs:SM M b (Aa x.val))(d:x.val.length<=1000000):SpecL prog 87 #[.agg (E1 x b a).toArray] M [] λu f c=>(∃v,u=.tuple #[.agg (DA v).toArray,.bool (decide (Dz x))]/\(Dz x->v=CG x))/\c=[]:=by
 grind[vol_a,vol_b,wYa]
variable{A:Lc}{E:Ent}{M:Mem}{b:Nat}{o:Obj}{w:World}
theorem St.setObj{w':World}{m:Obj}{B:Lc}(h:St E M (A++(b,o)::B) w)(i:w'.os=w.os)(n:w'.tape=w.tape)(s:w'.output=w.output)(hs:w'.heap.size=w.heap.size)
  (j:w'.heap[b]? =some m) (g:∀k,k≠b->w'.heap[k]? =w.heap[k]?):St E M (A++(b,m)::B) w':=by
 have l:=h.locs (b,o) (by simp);have f:∀p∈A++B,p.1≠b:=by
  intro p c z;have y:=h.nodup;grind
 exact
  {os:=i.trans h.os,tape:=n.trans h.tape,output:=s.trans h.output,size:=by rw[hs];exact h.size
   same:=λk u d=>by
    have:k≠b:=λe=>by subst e;exact l.2.1.elim (λh=>by omega) d
    rw[g k this];exact h.same k u d
   fresh:=h.fresh
   agree:=λk x d=>by
    have:k≠b:=λe=>by subst e;rw[l.2.2]at d;cases d
    rw[g k this];exact h.agree k x d
   locs:=λp c=>by
    rcases List.mem_append.1 c with c|c
    ·have a:=h.locs p (by simp[c])
     exact⟨by rw[g _ (f p (by simp[c]))];exact a.1,a.2⟩
    rcases List.mem_cons.1 c with rfl|c
    ·exact ⟨j,l.2⟩
    have a:=h.locs p (by simp[c])
    exact⟨by rw[g _ (f p (by simp[c]))];exact a.1,a.2⟩
   nodup:=by have:=h.nodup;simpa [List.map_append]using this }
section
variable{P:Program}{ops:Array Oper}{N:Fs}{F:Fr}{E:Ent}{M:Mem}{L:Lc}{o:Oper}
end
end Go.Proofs.YtjheijhahehnmaaGreatDoor
