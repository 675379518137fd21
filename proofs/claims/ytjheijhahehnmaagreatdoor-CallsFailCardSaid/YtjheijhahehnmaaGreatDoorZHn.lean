/- THE WALKING LAYER: what is new; blocks of one's own that are lent. No statement of the seat is proved here. -/
import Derived.Test.YtjheijhahehnmaaGreatDoorZShv
import Derived.Lib.AppendZeros
namespace Go.Proofs.YtjheijhahehnmaaGreatDoor
set_option linter.unusedSimpArgs false
set_option linter.unusedVariables false
set_option linter.unusedSectionVars false
set_option maxRecDepth 8000
open Go.RowKit
section
variable{P:Program}{ops:Array Oper}{N:Fs}{Q:Exit->Act->World->Prop}{F F':Fr}{E:Ent}{M:Mem}{L:Lc}{Mi:Mem}{Li:Lc}{fuel:Nat}{listed:Array Bool}
theorem AC.pt{A:Nat->Bool}{r:Option Nat}{f:Region.Mode}{J I C:Pe}{g:Bool}{a:Act}:∀{fuel:Nat},(∀w,C w->∃b:Pe,b w/\AC A r P f ops Q J I fuel g listed a b)->AC A r P f ops Q J I fuel g listed a C
 |0,h=>λw c=>by obtain⟨b,e,d⟩:=h w c;exact d w e
 |_+1,h=>λw c=>by obtain⟨b,e,d⟩:=h w c;exact d w e
def JA(P:Program)(ops:Array Oper)(N:Fs)(Q:Exit->Act->World->Prop)(fuel:Nat)(listed:Array Bool)(F:Fr)(E:Ent)(M:Mem)(L:Lc)(Mi:Mem)(Li:Lc):Prop:=
 MLe Mi M->(∀p∈Li,p∈L)->∀a,Has N F a->AC (λ_=>true) N.r P .any ops Q (Js Mi Li) (Js Mi Li) fuel true listed a (St E M L)
theorem AV{e:Nat}{l:List Oper}(d:Lc)(g:P.follows .mixedOrders=true)(c:∀p∈d,p∈L)(h:JA P l.toArray N (NoPanic Q) l.length (Array.replicate l.length false) F E M L M d):JC P N (.region e l.toArray true) F E M L Q:=λa w i f=>by
 refine wpIn_mono (Q:=NoPanic Q) (wpIn_region_any g ?_) NoPanic.imp
 have b:St E M L { w with drawn:=w.drawn+1 }:={ f with }
 have:=AC.any _ _ _ a (St E M L) _ b (h (MLe.refl _) c a i)
 simpa using this
theorem Et{Q:Exit->Act->World->Prop}{i:Nat}{o:Oper}{v:Value}{d:Nat}(k:ops[i]? =some o)(hs:(Region.noSelect ops&&Dc ops)=true)(e:((Region.ready .any ops listed).contains i&&Region.free .any ops listed i)=true)(y:o.dst=some d)(z:Nat.blt d N.n=true)
  (m:QF P ops N F Mi Li o v) (h:JA P ops N (NoPanic Q) fuel (listed.setIfInBounds i true) ((d,v)::F) E M L Mi Li):JA P ops N (NoPanic Q) (fuel+1) listed F E M L Mi Li:=λf g a l=>by
 rw[Bool.and_eq_true]at hs e
 refine AC.first true k (Region.noSelect_spec hs.1) (LK hs.2) (λc a w u=>u) rfl (λ_ j _ s=>by cases s) fuel true listed a _ (λ_=>rfl) (.inl λ_=>rfl) (Region.free_spec k e.2) (by simpa using e.1) (m a l) (St.closed _ _ _)
  (λw b=>b.js.sub f g) (λ_ w b=>b.js.sub f g) ?_
 rw[y]
 exact h f g _ (l.put (by simpa [Nat.blt_eq]using z) v)
theorem Eg{α:Type}(d:α->Prop)(g:α->Fr)(e:α->Mem)(f:α->Lc)(b:Nat)(a:Array Bool)(c:∀x,d x->JA P ops N Q b a (g x) E (e x) (f x) Mi Li)
  (k:(∀x,d x->JA P ops N Q b a (g x) E (e x) (f x) Mi Li)->JA P ops N Q fuel listed F E M L Mi Li):JA P ops N Q fuel listed F E M L Mi Li:=k c
def JS(P:Program)(ops:Array Oper)(N:Fs)(Q:Exit->Act->World->Prop)(fuel:Nat)(listed:Array Bool)(F:Fr)(E:Ent)(M:Mem)(L:Lc)(Mi:Mem)(Li:Lc)(i:Nat):Prop:=
 ∃o,ops[i]? =some o/\(match o.dst with|some d=>Nat.blt d N.n|none=>true)=true/\∃K,HF P ops N F E M L o K/\∀v M' L',K v M' L'->∃Mi' Li',MLe Mi Mi'/\MLe Mi' M'/\(∀p∈Li,p∈Li')/\(∀p∈Li',p∈L')/\JA P ops N Q fuel (listed.setIfInBounds i true) (match o.dst with|some d=>(d,v)::F|none=>F) E M' L' Mi' Li'
theorem Km{i:Nat}{o:Oper}{K:Value->Mem->Lc->Prop}{d:Nat}(e:ops[i]? =some o)(c:o.dst=some d)(g:Nat.blt d N.n=true)(f:HF P ops N F E M L o K)
  (h:∀v M' L',K v M' L'->∃a b,MLe Mi a/\MLe a M'/\(∀p∈Li,p∈b)/\(∀p∈b,p∈L')/\JA P ops N Q fuel (listed.setIfInBounds i true) ((d,v)::F) E M' L' a b):JS P ops N Q fuel listed F E M L Mi Li i:=
 ⟨o,e,by rw[c];exact g,K,f,by rw[c];exact h⟩
theorem Ug{i:Nat}{o:Oper}{K:Value->Mem->Lc->Prop}(d:ops[i]? =some o)(c:o.dst=none)(e:HF P ops N F E M L o K)
  (h:∀v M' L',K v M' L'->∃a b,MLe Mi a/\MLe a M'/\(∀p∈Li,p∈b)/\(∀p∈b,p∈L')/\JA P ops N Q fuel (listed.setIfInBounds i true) F E M' L' a b):JS P ops N Q fuel listed F E M L Mi Li i:=
 ⟨o,d,by rw[c],K,e,by rw[c];exact h⟩
def JSs(P:Program)(ops:Array Oper)(N:Fs)(Q:Exit->Act->World->Prop)(fuel:Nat)(listed:Array Bool)(F:Fr)(E:Ent)(M:Mem)(L:Lc)(Mi:Mem)(Li:Lc):List Nat->Prop
 |[]=>True
 |i::rs=>JS P ops N Q fuel listed F E M L Mi Li i/\JSs P ops N Q fuel listed F E M L Mi Li rs
theorem JSs.get:∀{rs:List Nat},JSs P ops N Q fuel listed F E M L Mi Li rs->∀i∈rs,JS P ops N Q fuel listed F E M L Mi Li i
 |_::_,h,i,a=>by
  rcases List.mem_cons.1 a with rfl|a
  ·exact h.1
  exact JSs.get h.2 i a
theorem Bf(rs:List Nat)(I:(Region.ready .any ops listed==rs)=true)(f:rs.isEmpty=false)(h:JSs P ops N Q fuel listed F E M L Mi Li rs):JA P ops N Q (fuel+1) listed F E M L Mi Li:=λW X a n w G=>by
 have e:=eq_of_beq I
 refine⟨λB=>(by rw[e]at B;rw[B]at f;cases f),λi y=>?_⟩
 rw[e]at y
 obtain⟨o,J,z,K,m,O⟩:=h.get i y
 obtain⟨U,T⟩:=m a w n G
 unfold wpOpIn
 simp only[J,U,if_true]
 refine Oper.wpIn_mono (λY V m=>?_) (T Q)
 obtain⟨v,C,L',rfl,H,S⟩:=m
 obtain⟨s,u,l,k,j,g,D⟩:=O v C L' S
 refine⟨St E C L',St.closed _ _ _,λ_ b=>(b.js.sub k g).sub l j,λ_ _ b=>(b.js.sub k g).sub l j,H,?_⟩
 have c:∀w,Js s u w->Js Mi Li w:=λ_ b=>b.sub l j
 refine AC.mono c c _ _ _ _ _ (D k g _ ?_)
 cases R:o.dst with
 |none=>exact n
 |some d=>rw[R]at z;exact n.put (by simpa [Nat.blt_eq]using z) v
theorem KZ{i:Nat}(a:(Region.ready .any ops listed==[i])=true)(h:JS P ops N Q fuel listed F E M L Mi Li i):JA P ops N Q (fuel+1) listed F E M L Mi Li:=Bf [i] a rfl ⟨h,trivial⟩
theorem FP(c:(Region.ready .any ops listed).isEmpty=true)(h:JQ N .normal F E M L Q):JA P ops N Q fuel listed F E M L Mi Li:=λ_ _ a d=>AC.done (by simpa using c) (λw b=>h a w d b) fuel
theorem BZ(k:Keep F F')(h:JA P ops N Q fuel listed F' E M L Mi Li):JA P ops N Q fuel listed F E M L Mi Li:=λc d a b=>h c d a (b.keep k)
theorem B3{listed':Array Bool}(e:listed=listed')(h:JA P ops N Q fuel listed' F E M L Mi Li):JA P ops N Q fuel listed F E M L Mi Li:=by grind
theorem Cw{M':Mem}{L':Lc}(d:MLe Mi M')(c:∀p∈Li,p∈L')(h:JA P ops N Q fuel listed F E M' L' Mi Li):
  ∃a b,MLe Mi a/\MLe a M'/\(∀p∈Li,p∈b)/\(∀p∈b,p∈L')/\JA P ops N Q fuel listed F E M' L' a b:=
 ⟨Mi,Li,MLe.refl _,d,λ_ h=>h,c,h⟩
theorem Cp{M2:Mem}{L2:Lc}(hs:∀w,St E M L w->St E M2 L2 w)(e:MLe Mi M2)(d:∀p∈Li,p∈L2)(h:JA P ops N Q fuel listed F E M2 L2 Mi Li):JA P ops N Q fuel listed F E M L Mi Li:=λ_ _ a c=>
 AC.pt λw b=>⟨_,hs w b,h e d a c⟩
theorem AW{W:World}{X:List Nat}{d:Mem}{b:Obj}{L2:Lc}(g:Nat)[f:Rm g b L L2](j:g∉X)(i:∀p∈Li,p∈L2)(h:∀M',MLe M M'->M' g=some b->JA P ops N Q fuel listed F ⟨W,X,d⟩ M' L2 Mi Li):JA P ops N Q fuel listed F ⟨W,X,d⟩ M L Mi Li:=λl o a k=>
 AC.pt λw e=>by
  obtain⟨n,c,m⟩:=St.freeze' j (e.perm f.perm)
  exact⟨_,n,h _ c m (l.trans c) i a k⟩
theorem wNp{W:World}{X:List Nat}{d:Mem}{v:Value}{R L2:Lc}{e:TypeId}{size n:Nat}{xs:List Value}(m:Own v R e size n xs)[l:Pick R L L2](s:∀p∈R,p.1∉X)(o:∀p∈Li,p∈L2)
  (h:∀M' a b,MLe M M'->v=.slice a n b->n<=b->SM M' a xs->JA P ops N Q fuel listed F ⟨W,X,d⟩ M' L2 Mi Li):JA P ops N Q fuel listed F ⟨W,X,d⟩ M L Mi Li:=λy B a u=>
 AC.pt λw k=>by
  obtain⟨M',z,b,c,j,i,g,f⟩:=m.freeze s (k.perm l.perm)
  exact⟨_,f,h M' z b c j i g (y.trans c) o a u⟩
end
instance(priority:=low) Pick.pair{p q:Nat×Obj}{R L L1 L2:Lc}[h:Pick [p] L L1][h2:Pick (q::R) L1 L2]:Pick (p::q::R) L L2:=⟨h.perm.trans (List.Perm.cons p h2.perm)⟩
section
variable{P:Program}{ops:Array Oper}{N:Fs}{F:Fr}{E:Ent}{M:Mem}{L:Lc}{o:Oper}
theorem HF.mono{K d:Value->Mem->Lc->Prop}(h:HF P ops N F E M L o K)(hk:∀w v M' L',K v M' L'->St E M' L' w->∃L2,St E M' L2 w/\d v M' L2):HF P ops N F E M L o d:=λa w c b=>
 ⟨(h a w c b).1,λQ=>Oper.wpIn_mono (λl f ⟨v,M',L',e,g,i⟩=>by
  obtain⟨L2,k,j⟩:=hk f v M' L' i g
  exact⟨v,M',L2,e,k,j⟩) ((h a w c b).2 Q)⟩
theorem Eh{x y:Operand}{t e:TypeId}{v:Value}{R L2:Lc}{size d n m c:Nat}{z xs news:List Value}{G:Option Addr}(O:gd ops F o=some true)
  (K:o.op=.call { callee:=.builtin .append,args:=#[x,y],argTypes:=#[t,t] }) (I:ev F x=some v) (H:ev F y=some (.slice G m c)) [Z:Und P t (.slice e)] [hl:Lay P e size d z]
  (a:Own v R e size n xs) [V:Pick R L L2] (g:news.length=m*size) (f:SM M G news) (k:Nat.blt 0 size=true) (Y:∀u∈news,u.oneCell'=true) (h:n+m<=1000000000) (B:d<=100000):
  HF P ops N F E M L o (λj D L'=>M=D/\∃C,L'=C++L2/\Own j C e size (n+m) (xs++news)):=by
 have l:0<size:=by simp_all
 rcases Nat.eq_zero_or_pos m with rfl|W
 ·have:news=[]:=List.eq_nil_of_length_eq_zero (by simpa using g);subst this;refine(L7 O K I H a).mono λw j D L' ⟨T,S,Q⟩ J=>?_;subst T;subst S;subst Q;exact⟨R++L2,J.perm V.perm,rfl,R,rfl,by simpa using a⟩
 have s:news≠[]:=λe=>by
  rw[e,List.length_nil]at g;have:=Nat.mul_pos W l;omega
 obtain⟨b,off,rfl,X⟩:=f.open s;refine(AY O K I H a g (λi u U=>(X i u U).cj L) rfl k Y h B).mono λw j D L' ⟨T,C,S,Q,_⟩ J=>?_;grind
theorem wPg{x y:Operand}{t e:TypeId}{D:Addr}{size d n m c:Nat}{z xs news:List Value}{f:Addr}(hg:gd ops F o=some true)
  (ho:o.op=.call { callee:=.builtin .append,args:=#[x,y],argTypes:=#[t,t] }) (hx:ev F x=some (.slice (some D) n n)) (hy:ev F y=some (.slice (some f) m c)) [ht:Und P t (.slice e)] [hl:Lay P e size d z]
  (l:xs.length=n*size) (J:∀i v,xs[i]? =some v->CJ M L D.block (D.off+i) v) (Y:xs=[]\/D.spot=none) (C:news.length=m*size) (B:∀i v,news[i]? =some v->CJ M L f.block (f.off+i) v) (s:f.spot=none) (hm:0<m) (Q:n+m<=1000000000) (X:d<=100000):
  HF P ops N F E M L o (λv' M' L'=>M=M'/\∃R',L'=R'++L/\Own v' R' e size (n+m) (xs++news)):=CP hg λa w ha T=>by
 obtain⟨ti,G,hi,K,U,hz,S⟩:=hl.info
 have R:G.cells.size=size:=by rw[S];simpa using hl.len
 have add:∀(f:Addr),f.spot=none->∀j,f.add j=⟨f.block,f.off+j,none⟩:=λf Z j=>by
  obtain⟨b,of,sp⟩:=f;simp only at Z;subst Z;unfold Addr.add;split<;>simp_all
 have hb:(n+m)*d<=1000000000*100000:=Nat.mul_le_mul Q X
 have hr:=run_append_grow (P:=P) w t o.type e ti G ht.h hi hz D n n xs (by rw[K];exact l) (λj u H=>by rw[add D (Y.resolve_left λe=>by rw[e]at H;cases H)];exact(J j u H).cell T.js) f m c news (by rw[K];exact C)
  (λj u H=>by rw[add f s];exact(B j u H).cell T.js) (by omega) (by omega) (growslice_fits (by omega) (by rw[U];omega))
 have V:=grownCap_ge w (n+m) n e
 have W:grownCap w (n+m) n e<=maxLen:=grownCap_le_maxLen w (n+m) n e (by unfold maxLen;omega)
 have k:(xs++news).length=(n+m)*size:=by rw[List.length_append,l,C,Nat.add_mul]
 have O:(xs.toArray++news.toArray++Builtin.zeroCells G.cells (grownCap w (n+m) n e-(n+m))).size=grownCap w (n+m) n e*size:=by
  simp only[Array.size_append,List.size_toArray,size_zeroCells,R,l,C,<-Nat.add_mul];congr 1;omega
 have I:(xs.toArray++news.toArray++Builtin.zeroCells G.cells (grownCap w (n+m) n e-(n+m))).toList.take ((n+m)*size)=xs++news:=by
  simp only[Array.toList_append,List.append_assoc];rw[<-List.append_assoc,<-k];exact List.take_left
 generalize xs.toArray++news.toArray++Builtin.zeroCells G.cells (grownCap w (n+m) n e-(n+m))=g at hr O I
 have hd:St E M L w.drew:={ T with }
 refine⟨_,w.drew.alloc (.cells g e),M,[(w.drew.heap.size,.cells g e (0,0))]++L,.inl ?_,hd.alloc (.cells g e),rfl,[(w.heap.size,.cells g e (0,0))],rfl,⟨k,.inr ⟨w.heap.size,_,g,rfl,rfl,V,W,O,I⟩⟩⟩
 simp[execOp,ho,resolve,invoke,builtin,ha.ev hx,ha.ev hy,hr]
theorem WV{x y:Operand}{t e:TypeId}{v:Value}{R L2:Lc}{size f n m c:Nat}{z xs news:List Value}{C:Addr}(V:gd ops F o=some true)
  (U:o.op=.call { callee:=.builtin .append,args:=#[x,y],argTypes:=#[t,t] }) (T:ev F x=some v) (S:ev F y=some (.slice (some C) m c)) [ht:Und P t (.slice e)] [hl:Lay P e size f z]
  (b:Own v R e size n xs\/(R=[]/\xs.length=n*size/\∃s,v=.slice (some s) n n/\(xs=[]\/s.spot=none)/\∀i u,xs[i]? =some u->CM M s.block (s.off+i) u)) [X:Pick R L L2] (k:news.length=m*size) (d:∀i v,news[i]? =some v->CJ M L C.block (C.off+i) v) (a:C.spot=none) (G:Nat.blt 0 size=true) (Z:∀u∈news,u.oneCell'=true) (Y:0<m) (g:n+m<=1000000000) (l:f<=100000):
  HF P ops N F E M L o (λD Q L'=>M=Q/\∃h,L'=h++L2/\Own D h e size (n+m) (xs++news)):=by
 rcases b with b|⟨rfl,H,s,rfl,I,j⟩
 ·exact (AY V U T S b k d a G Z g l).mono λw D Q L' ⟨O,h,K,J,_⟩ B=>⟨L',B,O,h,K,J⟩
 refine(wPg V U T S H (λi u W=>(j i u W).cj L) I k d a Y g l).mono λw D Q L' ⟨O,h,K,J⟩ B=>?_;exact⟨h++L2,by rw[K]at B;exact B.perm (List.Perm.append_left h (by simpa using X.perm)),O,h,rfl,J⟩
theorem wPe{x y:Operand}{t j e:TypeId}{k D:IntKind}{n d:Nat}{z:List Value}(Y:gd ops F o=some true)
  (U:o.op=.call { callee:=.builtin .append,args:=#[x,y],argTypes:=#[t,j] }) (R:ev F x=some (.slice none 0 0)) (Q:ev F y=some (.int k n)) [T:Und P t (.slice e)] [s:Und P j (.int D)] [H:Lay P e 1 d z]
  (h0:0<n) (V:n<=1000000000) (C:d<=100000):
  HF P ops N F E M L o (λJ M' L'=>M=M'/\∃b f c,J=.slice (some ⟨b,0,none⟩) n f/\L'=(b,.cells c e (0,0))::L/\n<=f/\f<=maxLen/\c.size=f):=CP Y λa w I S=>by
 obtain⟨K,g,X,W,u,O,m⟩:=H.info
 have l:g.cells.size=1:=by rw[m];simpa using H.len
 have hb:n*d<=1000000000*100000:=Nat.mul_le_mul V C
 have G:=Go.Lib.run_append_nil_zeros (P:=P) w t j o.type e K g k D T.h s.h X O n h0 (by omega) (by omega) (by rw[u];omega)
 have B:=grownCap_ge w n 0 e
 have i:(Builtin.zeroCells g.cells n++Builtin.zeroCells g.cells (grownCap w n 0 e-n)).size=grownCap w n 0 e:=by
  simp only[Array.size_append,size_zeroCells,l];omega
 generalize Builtin.zeroCells g.cells n++Builtin.zeroCells g.cells (grownCap w n 0 e-n)=c at G i
 have Z:St E M L w.drew:={ S with }
 refine⟨_,w.drew.alloc (.cells c e),M,(w.drew.heap.size,.cells c e (0,0))::L,.inl ?_,Z.alloc (.cells c e),rfl,w.heap.size,_,c,rfl,rfl,B,grownCap_le_maxLen w n 0 e (by unfold maxLen;omega),i⟩
 simp[execOp,U,resolve,invoke,builtin,I.ev R,I.ev Q,G]
theorem T1{x:Operand}{t e:TypeId}{a:Option Addr}{n c:Nat}(g:gd ops F o=some true)(f:o.op=.call { callee:=.builtin .cap,args:=#[x],argTypes:=#[t] })
  (b:ev F x=some (.slice a n c)) [d:Und P t (.slice e)]:QF P ops N F M L o (.int .i64 c):=Bv g λj i w _=>by
 simp[execOp,f,resolve,invoke,builtin,Builtin.cap_,i.ev b,run_underlying d.h,goInt]
end
section
variable{P:Program}{ops:Array Oper}{N:Fs}{F:Fr}{E:Ent}{M Mw Mi:Mem}{L L' Lw Li:Lc}{Q:Exit->Act->World->Prop}{e:Exit}{c:Code}{os:List Oper}{o:Oper}{d i:Nat}{v:Value}{p:Ph}{rs:List (Nat×Bool)}{pr:Prop}
theorem isQ(h:JQ N e F E M L Q):JQ N e F E M L Q:=h
theorem isC(h:JC P N c F E M L Q):JC P N c F E M L Q:=h
theorem isL(h:JL P ops N Q os F E M L):JL P ops N Q os F E M L:=h
theorem isD(h:JD P ops N p Mw Lw Q rs F E M L Mi Li):JD P ops N p Mw Lw Q rs F E M L Mi Li:=h
theorem isE(h:JE P ops N p Mw Lw Q rs F E M L):JE P ops N p Mw Lw Q rs F E M L:=h
def ariO:Op->Bool
 |.binOp .add _ _ _ _=>true
 |.binOp .sub _ _ _ _=>true
 |.binOp .mul _ _ _ _=>true
 |_=>false
def cmpO:Op->Bool
 |.binOp .eql _ _ _ _=>true
 |.binOp .neq _ _ _ _=>true
 |.binOp .lss _ _ _ _=>true
 |.binOp .leq _ _ _ _=>true
 |.binOp .gtr _ _ _ _=>true
 |.binOp .geq _ _ _ _=>true
 |_=>false
def notB(o:Oper):Bool:= !(Nat.beq o.type 4)
def wKg(ops:Array Oper)(F:Fr)(o:Oper):Bool:=match gd ops F o with
 |some true=>cmpO o.op||ariO o.op
 |_=>false
def Ti(ops:Array Oper)(F:Fr)(o:Oper):Bool:=match gd ops F o with
 |some true=>cmpO o.op
 |_=>false
theorem jg(hs:wKg ops F o=false)(h:DC N ops F o=some (d,v))(k:JL P ops N Q os ((d,v)::F) E M L):JL P ops N Q (o::os) F E M L:=jp h k
theorem dg(a:ops[i]? =some o)(hs:wKg ops F o=false)(h:DC N ops F o=some (d,v))(k:JD P ops N p Mw Lw Q rs ((d,v)::F) E M L Mi Li)(b:p.A i=true:=by rfl):JD P ops N p Mw Lw Q ((i,true)::rs) F E M L Mi Li:=dp a h k b
theorem eg(a:ops[i]? =some o)(hs:wKg ops F o=false)(h:DC N ops F o=some (d,v))(k:JE P ops N p Mw Lw Q rs ((d,v)::F) E M L)(c:p.A i=true:=by rfl)(b:p.U i=false:=by rfl):JE P ops N p Mw Lw Q ((i,true)::rs) F E M L:=ep a h k c b
theorem cP(hs:Ti ops F o=true)(h:DC N ops F o=some (d,v))(k:JL P ops N Q os ((d,v)::F) E M L):JL P ops N Q (o::os) F E M L:=jp h k
theorem cT{_:Decidable pr}(hs:Ti ops F o=true)(h:DC N ops F o=some (d,.bool (decide pr)))(a:pr)(k:JL P ops N Q os ((d,.bool true)::F) E M L):JL P ops N Q (o::os) F E M L:=jt h (decide_eq_true a) k
theorem cF{_:Decidable pr}(hs:Ti ops F o=true)(h:DC N ops F o=some (d,.bool (decide pr)))(a:¬pr)(k:JL P ops N Q os ((d,.bool false)::F) E M L):JL P ops N Q (o::os) F E M L:=jf h (decide_eq_false a) k
theorem kP(a:ops[i]? =some o)(hs:Ti ops F o=true)(h:DC N ops F o=some (d,v))(k:JD P ops N p Mw Lw Q rs ((d,v)::F) E M L Mi Li)(b:p.A i=true:=by rfl):JD P ops N p Mw Lw Q ((i,true)::rs) F E M L Mi Li:=dp a h k b
theorem kT{_:Decidable pr}(b:ops[i]? =some o)(hs:Ti ops F o=true)(h:DC N ops F o=some (d,.bool (decide pr)))(a:pr)(k:JD P ops N p Mw Lw Q rs ((d,.bool true)::F) E M L Mi Li)(c:p.A i=true:=by rfl):JD P ops N p Mw Lw Q ((i,true)::rs) F E M L Mi Li:=dt b h (decide_eq_true a) k c
theorem kF{_:Decidable pr}(b:ops[i]? =some o)(hs:Ti ops F o=true)(h:DC N ops F o=some (d,.bool (decide pr)))(a:¬pr)(k:JD P ops N p Mw Lw Q rs ((d,.bool false)::F) E M L Mi Li)(c:p.A i=true:=by rfl):JD P ops N p Mw Lw Q ((i,true)::rs) F E M L Mi Li:=df b h (decide_eq_false a) k c
theorem sLg{t:TypeId}{a:TypeDesc}{b off:Nat}{l:List Value}{e:TypeId}{fz:Nat×Nat}(j:notB o=true)(h:Vu N ops F o=some (d,t,b,off))(k:JL P ops N Q os ((d,v)::F) E M L)[i:Und P t a](f:HR a=false:=by rfl)[g:At b (.cells l.toArray e fz) L](c:l[off]? =some v:=by rfl):JL P ops N Q (o::os) F E M L:=sLd h k f c
def wSy(N:Fs)(ops:Array Oper)(F:Fr)(o:Oper):Option (Nat×TypeId×List (Nat×Value)):=match gd ops F o,o.dst,o.op with
 |some true,some d,.build t ps=>bif Nat.blt d N.n then match evp F ps.toList with
  |some vs=>some (d,t,vs)
  |none=>none
  else none
 |_,_,_=>none
theorem wAf{t:TypeId}{vs:List (Nat×Value)}(h:wSy N ops F o=some (d,t,vs)):∃a:List (Nat×Operand),o.dst=some d/\Nat.blt d N.n=true/\gd ops F o=some true/\o.op=.build t a.toArray/\evp F a=some vs:=by
 unfold wSy at h;split at h
 ·rename_i j k a i g f;cases b:Nat.blt j N.n with
  |false=>rw[b]at h;cases h
  |true=>
   rw[b]at h
   simp only[cond_true]at h
   split at h
   ·rename_i c e;cases h;exact⟨a.toList,g,b,i,by simpa using f,e⟩
   cases h
 cases h
def wSx(N:Fs)(ops:Array Oper)(F:Fr)(o:Oper):Option (Nat×TypeId×Nat×Nat×Nat×Int):=match gd ops F o,o.dst,o.op with
 |some true,some d,.indexAddr t x ix=>bif Nat.blt d N.n then match ev F x,ev F ix with
  |some (.slice (some ⟨b,off,none⟩) n _),some (.int _ i)=>some (d,t,b,off,n,i)
  |_,_=>none
  else none
 |_,_,_=>none
theorem wAe{t:TypeId}{b off n:Nat}{j:Int}(h:wSx N ops F o=some (d,t,b,off,n,j)):∃x a c k,o.dst=some d/\Nat.blt d N.n=true/\gd ops F o=some true/\o.op=.indexAddr t x a/\ev F x=some (.slice (some ⟨b,off,none⟩) n c)/\ev F a=some (.int k j):=by
 unfold wSx at h;split at h
 ·rename_i s u x a m l i;cases e:Nat.blt s N.n with
  |false=>rw[e]at h;cases h
  |true=>
   rw[e]at h
   simp only[cond_true]at h
   split at h
   ·rename_i g f;cases h;exact⟨x,a,_,_,l,e,m,i,g,f⟩
   cases h
 cases h
section
variable{t:TypeId}{vs:List (Nat×Value)}{sz by_:Nat}{z cs:List Value}{pl:List (Nat×Nat)}{el:TypeId}{b off n:Nat}{j:Int}
theorem sBd(h:wSy N ops F o=some (d,t,vs))(k:JL P ops N Q os ((d,.agg cs.toArray)::F) E M L)[l:Lay P t sz by_ z][j:Plc P t pl](f:Gl (pl[·]?) z vs=some cs:=by first|exact(rfl:_=some [_,_,_,_])|exact(rfl:_=some [_,_])|exact(rfl:_=some [_,_,_,_,_,_,_,_,_])|exact(rfl:_=some [_,_,_])|exact(rfl:_=some [_,_,_,_,_,_,_,_])|exact(rfl:_=some [_,_,_,_,_])|exact(rfl:_=some [_])|exact(rfl:_=some [_,_,_,_,_,_])|exact(rfl:_=some [_,_,_,_,_,_,_])|rfl):JL P ops N Q (o::os) F E M L:=by
 obtain⟨i,e,g,c,b,a⟩:=wAf h;exact A2 e g (BF c b a f) k
theorem dBd(c:ops[i]? =some o)(h:wSy N ops F o=some (d,t,vs))(k:JD P ops N p Mw Lw Q rs ((d,.agg cs.toArray)::F) E M L Mi Li)[s:Lay P t sz by_ z][n:Plc P t pl](g:Gl (pl[·]?) z vs=some cs:=by first|exact(rfl:_=some [_,_,_,_])|exact(rfl:_=some [_,_])|exact(rfl:_=some [_,_,_,_,_,_,_,_,_])|exact(rfl:_=some [_,_,_])|exact(rfl:_=some [_,_,_,_,_,_,_,_])|exact(rfl:_=some [_,_,_,_,_])|exact(rfl:_=some [_])|exact(rfl:_=some [_,_,_,_,_,_])|exact(rfl:_=some [_,_,_,_,_,_,_])|rfl)(l:p.A i=true:=by rfl):JD P ops N p Mw Lw Q ((i,true)::rs) F E M L Mi Li:=by
 obtain⟨m,f,j,e,a,b⟩:=wAf h;exact Nn c f j (λ_ _=>BF e a b g) k l
theorem sIx(h:wSx N ops F o=some (d,t,b,off,n,j))(f:0<=j/\j<n)(k:JL P ops N Q os ((d,.pointer (some ⟨b,off+j.toNat*sz,none⟩))::F) E M L)[w:Und P t (.slice el)][y:Lay P el sz by_ z]:JL P ops N Q (o::os) F E M L:=by
 obtain⟨x,u,c,s,l,m,i,e,a,g⟩:=wAe h;exact A2 l m (EV i e a g f) k
theorem dIx(f:ops[i]? =some o)(h:wSx N ops F o=some (d,t,b,off,n,j))(g:0<=j/\j<n)(k:JD P ops N p Mw Lw Q rs ((d,.pointer (some ⟨b,off+j.toNat*sz,none⟩))::F) E M L Mi Li)[C:Und P t (.slice el)][D:Lay P el sz by_ z](w:p.A i=true:=by rfl):JD P ops N p Mw Lw Q ((i,true)::rs) F E M L Mi Li:=by
 obtain⟨x,B,c,y,s,u,m,a,e,l⟩:=wAe h;exact Nn f s u (λ_ _=>EV m a e l g) k w
end
theorem aFa{s:TypeId}{j m:Nat}{l:TypeId}{g f:Nat}{z:List Value}{b off a:Nat}(w:ops[i]? =some o)(h:wKj N ops F o=some (d,s,j,b,off))(k:JD P ops N p Mw Lw Q rs ((d,.pointer (some ⟨b,a,none⟩))::F) E M L Mi Li)[H:Fld P s j m l][G:Lay P l g f z]
  (n:Nat.beq g 0=false:=by rfl) (e:off+m=a:=by rfl) (D:p.A i=true:=by rfl):JD P ops N p Mw Lw Q ((i,true)::rs) F E M L Mi Li:=by
 obtain⟨x,B,C,y,c,u⟩:=TU h;exact Nn w B C (λ_ _=>Ac y c u n e) k D
theorem uLd{t:TypeId}{c:TypeDesc}{b off:Nat}{l:List Value}{e:TypeId}{fz:Nat×Nat}(g:ops[i]? =some o)(h:Vu N ops F o=some (d,t,b,off))(k:JD P ops N p Mw Lw Q rs ((d,v)::F) E M L Mi Li)[B:Und P t c](s:HR c=false:=by rfl)[z:At b (.cells l.toArray e fz) Lw](n:l[off]? =some v:=by rfl)(y:p.A i=true:=by rfl)(u:p.U i=false:=by rfl):JD P ops N p Mw Lw Q ((i,true)::rs) F E M L Mi Li:=by
 obtain⟨x,m,w,j,a,f⟩:=Lv h;exact wNm g m w (Au j a f s (CJ.loc n)) k y u
theorem eFa{s:TypeId}{j m:Nat}{l:TypeId}{g f:Nat}{z:List Value}{b off a:Nat}(w:ops[i]? =some o)(h:wKj N ops F o=some (d,s,j,b,off))(k:JE P ops N p Mw Lw Q rs ((d,.pointer (some ⟨b,a,none⟩))::F) E M L)[I:Fld P s j m l][H:Lay P l g f z]
  (n:Nat.beq g 0=false:=by rfl) (e:off+m=a:=by rfl) (G:p.A i=true:=by rfl) (C:p.U i=false:=by rfl):JE P ops N p Mw Lw Q ((i,true)::rs) F E M L:=by
 obtain⟨x,B,D,y,c,u⟩:=TU h;exact Kn w B D (Ac y c u n e) k G C
section
variable{t:TypeId}{u:Value}{b off sz by_:Nat}{l l2 cs z:List Value}{e:TypeId}
theorem dSt(B:ops[i]? =some o)(h:wDp ops F o=some (t,b,off,u))(k:JD P ops N p Mw Lw Q rs F E M L' Mi Li)
  [R:Lay P t sz by_ z] (H:u.cells=cs.toArray:=by rfl) (C:cs.length=sz:=by rfl) (g:(cs.all λv=>v.oneCell')=true:=by rfl) [K:At b (.cells l.toArray e (0,0)) L] (a:Nat.ble (off+sz) l.length=true:=by rfl) (f:l.take off++cs++l.drop (off+cs.length)=l2:=by first|(simp only[Nat.reduceAdd,Nat.zero_add,Nat.add_zero,List.drop_succ_cons,List.drop_zero,List.drop_nil,List.take_succ_cons,List.take_zero,List.take_nil,List.cons_append,List.nil_append,List.append_nil,List.length_cons,List.length_nil];try rfl)|rfl)
  [O:PutAt b (.cells l.toArray e (0,0)) (.cells l2.toArray e (0,0)) L L'] (J:p.A i=true:=by rfl) (d:∀p∈Li,p∈L':=by simp):JD P ops N p Mw Lw Q ((i,false)::rs) F E M L Mi Li:=λj I m n=>by
 obtain⟨x,y,G,D,c,w,s⟩:=Pt h
 exact DF B G (Ao D c w s H C g a f) (λ_ _ _ ⟨g,f⟩=>by subst g;subst f;exact⟨Mi,Li,MLe.refl _,j,λ_ h=>h,d,k⟩) J j I m n
theorem dSe(B:ops[i]? =some o)(h:wDp ops F o=some (t,b,off,u))(k:JE P ops N p Mw Lw Q rs F E M L')
  [R:Lay P t sz by_ z] (H:u.cells=cs.toArray:=by rfl) (C:cs.length=sz:=by rfl) (g:(cs.all λv=>v.oneCell')=true:=by rfl) [K:At b (.cells l.toArray e (0,0)) L] (a:Nat.ble (off+sz) l.length=true:=by rfl) (f:l.take off++cs++l.drop (off+cs.length)=l2:=by first|(simp only[Nat.reduceAdd,Nat.zero_add,Nat.add_zero,List.drop_succ_cons,List.drop_zero,List.drop_nil,List.take_succ_cons,List.take_zero,List.take_nil,List.cons_append,List.nil_append,List.append_nil,List.length_cons,List.length_nil];try rfl)|rfl)
  [O:PutAt b (.cells l.toArray e (0,0)) (.cells l2.toArray e (0,0)) L L'] (J:p.A i=false:=by rfl) (d:∀p∈Lw,p∈L':=by simp):JD P ops N p Mw Lw Q ((i,false)::rs) F E M L Mi Li:=λm I j n=>by
 obtain⟨x,y,G,D,c,w,s⟩:=Pt h
 exact Ho B G (Ao D c w s H C g a f) (λ_ _ _ ⟨g,f⟩=>by subst g;subst f;exact⟨j.trans m,d,k⟩) J m I j n
theorem eSt(w:ops[i]? =some o)(h:wDp ops F o=some (t,b,off,u))(k:JE P ops N p Mw Lw Q rs F E M L')
  [J:Lay P t sz by_ z] (G:u.cells=cs.toArray:=by rfl) (B:cs.length=sz:=by rfl) (g:(cs.all λv=>v.oneCell')=true:=by rfl) [H:At b (.cells l.toArray e (0,0)) L] (a:Nat.ble (off+sz) l.length=true:=by rfl) (f:l.take off++cs++l.drop (off+cs.length)=l2:=by first|(simp only[Nat.reduceAdd,Nat.zero_add,Nat.add_zero,List.drop_succ_cons,List.drop_zero,List.drop_nil,List.take_succ_cons,List.take_zero,List.take_nil,List.cons_append,List.nil_append,List.append_nil,List.length_cons,List.length_nil];try rfl)|rfl)
  [I:PutAt b (.cells l.toArray e (0,0)) (.cells l2.toArray e (0,0)) L L'] (d:∀p∈Lw,p∈L':=by simp):JE P ops N p Mw Lw Q ((i,false)::rs) F E M L:=λj m=>by
 obtain⟨x,y,D,C,c,s,n⟩:=Pt h
 exact KY w D (Ao C c s n G B g a f) (λ_ _ _ ⟨g,f⟩=>by subst g;subst f;exact⟨j,d,k⟩) j m
end
section
variable{fn:Func}{n:Nat}{W:World}{X:List Nat}{M0:Mem}{post:Value->Mem->Lc->Prop}
theorem z1{t:Nat}(b:fn.results=#[.tmp t])(a:lk t F=some v)(h:post v M []):JQ ⟨n,[],none⟩ .ret F ⟨W,X,M0⟩ M L (Bz P fn ⟨W,X,M0⟩ post):=AB (List.nil_sublist _) (FX b a h)
theorem z2{t u:Nat}{x:Value}(c:fn.results=#[.tmp t,.tmp u])(b:lk t F=some v)(a:lk u F=some x)(h:post (.tuple #[v,x]) M []):JQ ⟨n,[],none⟩ .ret F ⟨W,X,M0⟩ M L (Bz P fn ⟨W,X,M0⟩ post):=AB (List.nil_sublist _) (wSg c b a h)
theorem zs{r:List ResultVar}{vs:List Value}(a:fn.results=r.toArray)(b:post (wKs vs) M [])(h:RVs P F L r vs:=by repeat (first|exact RVs.nil|apply RVs.cons (.tmp rfl)|apply RVs.cons (.one rfl rfl rfl)|apply RVs.cons (.agg rfl rfl rfl))):JQ ⟨n,[],none⟩ .ret F ⟨W,X,M0⟩ M L (Bz P fn ⟨W,X,M0⟩ post):=jrsd [] (List.nil_sublist _) a h b
end
section
variable{α:Type}{Fi:α->Fr}{Mi:α->Mem}{Li:α->Lc}{φ:α->Prop}{μ:α->Nat}
theorem BD{x:α}(y:α)(a:φ y)(b:μ y<μ x:=by first|omega|(dsimp only;omega))(hk:Keep F (Fi y):=by repeat (first|exact .nil|refine .cons rfl ?_))(hs:∀w,St E M L w->St E (Mi y) (Li y) w:=by first|exact λ_ h=>h|exact λ_ h=>h.fewer (by simp)|exact λ_ h=>h.fewer (by repeat (first|exact .refl _|exact List.sublist_append_left _ _|apply List.Sublist.cons|apply List.Sublist.cons_cons))):JQ N .normal F E M L (Exit.then (XP N E Fi Mi Li φ μ x) Q):=Hp y hk a b hs
end
theorem CC{α:Type}(e:α->Fr)(b:α->Mem)(d:α->Lc)(a:α->Prop)(f:α->Nat)(x:α)(g:a x)
  (h:∀x,a x->JC P N c (e x) E (b x) (d x) (Exit.then (XP N E e b d a f x) Q)) (hk:Keep F (e x):=by repeat (first|exact .nil|refine .cons rfl ?_)) (hs:∀w,St E M L w->St E (b x) (d x) w:=by first|exact λ_ h=>h|exact λ_ h=>h.fewer (by simp)|exact λ_ h=>h.fewer (by repeat (first|exact .refl _|exact List.sublist_append_left _ _|apply List.Sublist.cons|apply List.Sublist.cons_cons))):JC P N (.loop c) F E M L Q:=LW e b d a f x hk g hs h
section
variable{x:Operand}{xs:List Operand}{T:Array TypeId}{f:FuncId}{first captured vs all:List Value}
theorem call0{b:Value->Mem->Prop}(i:o.dst=some d)(j:Nat.blt d N.n=true)(h:gd ops F o=some true)
  (g:o.op=.call { callee:=.value x,args:=xs.toArray,argTypes:=T }) (c:ev F x=some (.func (.func f) first.toArray captured.toArray)) (e:evs F xs=some vs) (a:first++vs++captured=all) (hgo:Dn P f=true)
  (hs:SpecL P f all.toArray M [] λu M' L'=>b u M'/\L'=[]) (k:∀v M',MLe M M'->b v M'->JL P ops N Q os ((d,v)::F) E M' L):JL P ops N Q (o::os) F E M L:=
 Ee i j (BV (L2:=L) h g c e a hgo hs) λv M' L' ⟨w,L2,s,m,l⟩=>by subst l;subst s;exact k v M' w m
theorem callR{R L2:Lc}{post:Value->Mem->Lc->Prop}(i:o.dst=some d)(j:Nat.blt d N.n=true)(h:gd ops F o=some true)
  (g:o.op=.call { callee:=.value x,args:=xs.toArray,argTypes:=T }) (c:ev F x=some (.func (.func f) first.toArray captured.toArray)) (e:evs F xs=some vs) (a:first++vs++captured=all) (hgo:Dn P f=true)
  (hs:SpecL P f all.toArray M R post) [u:Pick R L L2] (k:∀v M' b,MLe M M'->post v M' b->JL P ops N Q os ((d,v)::F) E M' (b++L2)):JL P ops N Q (o::os) F E M L:=
 Ee i j (BV h g c e a hgo hs) λv M' L' ⟨s,b,m,l⟩=>by subst m;exact k v M' b s l
theorem wXp(h:o.dst=some d)(i:Nat.blt d N.n=true)(g:gd ops F o=some true)
  (e:o.op=.call { callee:=.value x,args:=xs.toArray,argTypes:=T }) (b:ev F x=some (.func (.func f) first.toArray captured.toArray)) (c:evs F xs=some vs) (a:first++vs++captured=all) (hgo:Dn P f=true)
  (hs:SpecL P f all.toArray M [] λu _ _=>u=v) (k:JL P ops N Q os ((d,v)::F) E M L):JL P ops N Q (o::os) F E M L:=A2 h i (CZ g e b c a hgo hs) k
theorem wXq(b:ops[i]? =some o)(j:o.dst=some d)(m:Nat.blt d N.n=true)(h:gd ops F o=some true)
  (g:o.op=.call { callee:=.value x,args:=xs.toArray,argTypes:=T }) (c:ev F x=some (.func (.func f) first.toArray captured.toArray)) (e:evs F xs=some vs) (a:first++vs++captured=all) (hgo:Dn P f=true)
  (hs:SpecL P f all.toArray Mi [] λu _ _=>u=v) (k:JD P ops N p Mw Lw Q rs ((d,v)::F) E M L Mi Li) (s:p.A i=true:=by rfl) (l:p.U i=true:=by rfl):JD P ops N p Mw Lw Q ((i,true)::rs) F E M L Mi Li:=Ch b j m (CZ h g c e a hgo hs) k s l
end
end
variable{L:Lc}{M:Mem}{N:Nat}{P:Program}{c:Code}{f:FuncId}{fn:Func}{post:Value->Mem->Lc->Prop}{vs:List Value}
theorem sB(d:P.funcs[f]? =some fn)(b:fn.ntmps=N)
  (h:∀W,JC P ⟨N,[],none⟩ c (Jr 0 vs) ⟨W,L.map (·.1),M⟩ M L (Bz P fn ⟨W,L.map (·.1),M⟩ post)) (e:fn.body=some c:=by rfl) (a:Nat.ble vs.length N=true:=by rfl):SpecL P f vs.toArray M L post:=DX N _ d e b a rfl h
structure Hid(p:Prop):Prop where
 out:p
variable{A B:Prop}
theorem gg(h:B)(f:Hid B->A:=by
 intro h;repeat' (first
  |(with_reducible refine isL ?_);first
   |(refine ja rfl ?_ ?_;(focus omega))
   |refine jg rfl rfl ?_
   |with_reducible refine Ai ?_
   |refine sSt rfl ?_
   |refine sFa rfl ?_
   |refine sLg rfl rfl ?_
   |refine sLL rfl ?_
   |refine A2 rfl rfl (FY rfl rfl rfl) ?_
   |(refine sIx rfl ?_ ?_;(focus omega))
   |refine sBd rfl ?_
   |refine A2 rfl rfl (BY rfl rfl rfl) ?_
  |(with_reducible refine isQ ?_);first
   |with_reducible refine jT ?_
   |with_reducible refine wJh ?_
   |with_reducible refine wBo ?_
   |with_reducible refine jB ?_
   |with_reducible refine jBr ?_
   |with_reducible refine wXd ?_
   |with_reducible refine wGh ?_
  |(with_reducible refine isC ?_);first
   |with_reducible refine Ah ?_
   |with_reducible refine Af ?_
   |with_reducible refine Co ?_
   |with_reducible refine Dm ?_
   |with_reducible refine Bq ?_
   |with_reducible refine Gi ?_
   |refine DM rfl ?_
   |refine EF rfl ?_
  |(with_reducible refine isD ?_);first
   |(refine da rfl rfl ?_ ?_;(focus omega))
   |refine dg rfl rfl rfl ?_
   |refine Nm ?_
   |refine aFa rfl rfl ?_
   |refine dLd rfl rfl ?_
   |refine dLL rfl rfl ?_
   |refine uLd rfl rfl ?_
   |refine dSt rfl rfl ?_
   |refine dSe rfl rfl ?_
   |refine Ch rfl rfl rfl (FY rfl rfl rfl) ?_
   |(refine dIx rfl rfl ?_ ?_;(focus omega))
   |refine dBd rfl rfl ?_
   |refine Nn rfl rfl rfl (λ_ _=>BY rfl rfl rfl) ?_
  |(with_reducible refine isE ?_);first
   |refine eg rfl rfl rfl ?_
   |refine QM ?_
   |refine eFa rfl rfl ?_
   |refine eSt rfl rfl ?_)
 exact h.out):A:=f ⟨h⟩
theorem gh(h:B)(f:Hid B->A:=by
 intro h;refine gg ?_;repeat (first|((with_reducible refine isL ?_);first|refine cP rfl rfl ?_|refine sLd rfl ?_)|((with_reducible refine isD ?_);refine kP rfl rfl rfl ?_));refine gg ?_
 exact h.out):A:=f ⟨h⟩
theorem gt(h:B)(f:Hid B->A:=by
 intro h;refine gg ?_;repeat (first|((with_reducible refine isL ?_);first|(refine cT rfl rfl ?_ ?_;(focus omega))|(refine cF rfl rfl ?_ ?_;(focus omega)))|((with_reducible refine isD ?_);first|(refine kT rfl rfl rfl ?_ ?_;(focus omega))|(refine kF rfl rfl rfl ?_ ?_;(focus omega))));refine gg ?_
 exact h.out):A:=f ⟨h⟩
theorem gr(h:B)(f:Hid B->A:=by
 intro h;refine gh ?_;try with_reducible refine YU ?_
 first|refine z1 rfl rfl ?_|refine z2 rfl rfl rfl ?_|refine zs rfl ?_
 exact h.out):A:=f ⟨h⟩
theorem gu(h:B)(f:Hid B->A:=by
 intro h;refine gt ?_;try with_reducible refine YU ?_
 first|refine z1 rfl rfl ?_|refine z2 rfl rfl rfl ?_|refine zs rfl ?_
 exact h.out):A:=f ⟨h⟩
variable{K Φ:Value->Mem->Prop}{args:Array Value}
theorem gc(s:SpecL P f args M [] λu M' L'=>Φ u M'/\L'=[])(k:∀v M',MLe M M'->Φ v M'->K v M')
  (g:Hid (SpecL P f args M [] λu M' L'=>Φ u M'/\L'=[])->Hid (∀v M',MLe M M'->Φ v M'->K v M')->A:=by
   intro s k;refine gh ?_;exact call0 rfl rfl rfl rfl rfl rfl rfl (by kernel_rfl) s.out k.out):A:=g ⟨s⟩ ⟨k⟩
variable{R:Lc}
theorem gC{K:Value->Mem->Lc->Prop}(s:SpecL P f args M R post)(k:∀v M' a,MLe M M'->post v M' a->K v M' a)
  (g:Hid (SpecL P f args M R post)->Hid (∀v M' a,MLe M M'->post v M' a->K v M' a)->A:=by
   intro s k;refine gh ?_;exact callR rfl rfl rfl rfl rfl rfl rfl (by kernel_rfl) s.out k.out):A:=g ⟨s⟩ ⟨k⟩
theorem gq{v:Value}(s:SpecL P f args M [] λu _ _=>u=v)(k:B)
  (g:Hid (SpecL P f args M [] λu _ _=>u=v)->Hid B->A:=by
   intro s k;refine gh ?_;first
    |((with_reducible refine isL ?_);exact wXp rfl rfl rfl rfl rfl rfl rfl (by kernel_rfl) s.out (gh k.out))
    |exact wXq rfl rfl rfl rfl rfl rfl rfl rfl (by kernel_rfl) s.out (gh k.out)):A:=g ⟨s⟩ ⟨k⟩
theorem gQ{v:Value}(s:SpecL P f args M [] λu _ _=>u=v)(k:B)
  (g:Hid (SpecL P f args M [] λu _ _=>u=v)->Hid B->A:=by
   intro s k;refine gh ?_;first
    |((with_reducible refine isL ?_);exact wXp rfl rfl rfl rfl rfl rfl rfl (by kernel_rfl) s.out (gg k.out))
    |exact wXq rfl rfl rfl rfl rfl rfl rfl rfl (by kernel_rfl) s.out (gg k.out)):A:=g ⟨s⟩ ⟨k⟩
theorem gj{C p:Prop}(b:p->B)(a:¬p->C)(g:Hid (p->B)->Hid (¬p->C)->A:=by
  intro h k;refine gg ?_;first|((with_reducible refine isL ?_);exact js rfl h.out k.out)|exact ds rfl rfl h.out k.out):A:=g ⟨b⟩ ⟨a⟩
variable{C:Nat->Prop}
theorem ga(h:∀b,C b)(f:Hid (∀b,C b)->A:=by
 intro h;refine gh ?_;first
  |exact sAl rfl λb=>gh (h.out b)
  |(refine Ee rfl rfl (Bt (cs:=[_]) rfl rfl rfl rfl) ?_;rintro _ _ _ ⟨b,rfl,rfl,rfl⟩;exact gh (h.out b))
  |(refine Ee rfl rfl (Bt (cs:=[_,_]) rfl rfl rfl rfl) ?_;rintro _ _ _ ⟨b,rfl,rfl,rfl⟩;exact gh (h.out b))
  |(refine Ee rfl rfl (Bt (cs:=[_,_,_]) rfl rfl rfl rfl) ?_;rintro _ _ _ ⟨b,rfl,rfl,rfl⟩;exact gh (h.out b))
  |(refine Ee rfl rfl (Bt (cs:=[_,_,_,_]) rfl rfl rfl rfl) ?_;rintro _ _ _ ⟨b,rfl,rfl,rfl⟩;exact gh (h.out b))
  |(refine Ee rfl rfl (Bt (cs:=[_,_,_,_,_]) rfl rfl rfl rfl) ?_;rintro _ _ _ ⟨b,rfl,rfl,rfl⟩;exact gh (h.out b))
  |(refine Ee rfl rfl (Bt (cs:=[_,_,_,_,_,_]) rfl rfl rfl rfl) ?_;rintro _ _ _ ⟨b,rfl,rfl,rfl⟩;exact gh (h.out b))
  |(refine Ee rfl rfl (Bt (cs:=[_,_,_,_,_,_,_]) rfl rfl rfl rfl) ?_;rintro _ _ _ ⟨b,rfl,rfl,rfl⟩;exact gh (h.out b))
  |(refine Ee rfl rfl (Bt (cs:=[_,_,_,_,_,_,_,_]) rfl rfl rfl rfl) ?_;rintro _ _ _ ⟨b,rfl,rfl,rfl⟩;exact gh (h.out b))
  |(refine Ee rfl rfl (Bt (cs:=[_,_,_,_,_,_,_,_,_]) rfl rfl rfl rfl) ?_;rintro _ _ _ ⟨b,rfl,rfl,rfl⟩;exact gh (h.out b))):A:=f ⟨h⟩
theorem gA(h:∀b,C b)(f:Hid (∀b,C b)->A:=by
 intro h;refine gh ?_;first
  |exact sAl rfl λb=>gg (h.out b)
  |(refine Ee rfl rfl (Bt (cs:=[_]) rfl rfl rfl rfl) ?_;rintro _ _ _ ⟨b,rfl,rfl,rfl⟩;exact gg (h.out b))
  |(refine Ee rfl rfl (Bt (cs:=[_,_]) rfl rfl rfl rfl) ?_;rintro _ _ _ ⟨b,rfl,rfl,rfl⟩;exact gg (h.out b))
  |(refine Ee rfl rfl (Bt (cs:=[_,_,_]) rfl rfl rfl rfl) ?_;rintro _ _ _ ⟨b,rfl,rfl,rfl⟩;exact gg (h.out b))
  |(refine Ee rfl rfl (Bt (cs:=[_,_,_,_]) rfl rfl rfl rfl) ?_;rintro _ _ _ ⟨b,rfl,rfl,rfl⟩;exact gg (h.out b))
  |(refine Ee rfl rfl (Bt (cs:=[_,_,_,_,_]) rfl rfl rfl rfl) ?_;rintro _ _ _ ⟨b,rfl,rfl,rfl⟩;exact gg (h.out b))
  |(refine Ee rfl rfl (Bt (cs:=[_,_,_,_,_,_]) rfl rfl rfl rfl) ?_;rintro _ _ _ ⟨b,rfl,rfl,rfl⟩;exact gg (h.out b))
  |(refine Ee rfl rfl (Bt (cs:=[_,_,_,_,_,_,_]) rfl rfl rfl rfl) ?_;rintro _ _ _ ⟨b,rfl,rfl,rfl⟩;exact gg (h.out b))
  |(refine Ee rfl rfl (Bt (cs:=[_,_,_,_,_,_,_,_]) rfl rfl rfl rfl) ?_;rintro _ _ _ ⟨b,rfl,rfl,rfl⟩;exact gg (h.out b))
  |(refine Ee rfl rfl (Bt (cs:=[_,_,_,_,_,_,_,_,_]) rfl rfl rfl rfl) ?_;rintro _ _ _ ⟨b,rfl,rfl,rfl⟩;exact gg (h.out b))):A:=f ⟨h⟩
theorem Ke{C:Nat->Nat->Prop}(h:∀b a,C b a)(f:Hid (∀b a,C b a)->A:=by
 intro h;refine ga λb=>?_;exact ga λa=>h.out b a):A:=f ⟨h⟩
theorem Mo{C:Nat->Nat->Prop}(h:∀b a,C b a)(f:Hid (∀b a,C b a)->A:=by
 intro h;refine ga λb=>?_;exact gA λa=>h.out b a):A:=f ⟨h⟩
theorem W4{C:Nat->Nat->Nat->Prop}(h:∀c b a,C c b a)(f:Hid (∀c b a,C c b a)->A:=by
 intro h;refine ga λc=>?_;exact Ke λb a=>h.out c b a):A:=f ⟨h⟩
theorem Zh{C:Nat->Nat->Nat->Prop}(h:∀c b a,C c b a)(f:Hid (∀c b a,C c b a)->A:=by
 intro h;refine ga λc=>?_;exact Mo λb a=>h.out c b a):A:=f ⟨h⟩
theorem ga4{C:Nat->Nat->Nat->Nat->Prop}(h:∀d c b a,C d c b a)(f:Hid (∀d c b a,C d c b a)->A:=by
 intro h;refine ga λd=>?_;exact W4 λc b a=>h.out d c b a):A:=f ⟨h⟩
theorem gA4{C:Nat->Nat->Nat->Nat->Prop}(h:∀d c b a,C d c b a)(f:Hid (∀d c b a,C d c b a)->A:=by
 intro h;refine ga λd=>?_;exact Zh λc b a=>h.out d c b a):A:=f ⟨h⟩
theorem ga5{C:Nat->Nat->Nat->Nat->Nat->Prop}(h:∀e d c b a,C e d c b a)(f:Hid (∀e d c b a,C e d c b a)->A:=by
 intro h;refine ga λe=>?_;exact ga4 λd c b a=>h.out e d c b a):A:=f ⟨h⟩
theorem gA5{C:Nat->Nat->Nat->Nat->Nat->Prop}(h:∀e d c b a,C e d c b a)(f:Hid (∀e d c b a,C e d c b a)->A:=by
 intro h;refine ga λe=>?_;exact gA4 λd c b a=>h.out e d c b a):A:=f ⟨h⟩
section
variable{P:Program}{ops:Array Oper}{N:Fs}{F:Fr}{E:Ent}{M Mw Mi:Mem}{L L2 L' Lw Li R:Lc}{Q:Exit->Act->World->Prop}{e:Exit}{c:Code}{os:List Oper}{o:Oper}{d i fuel:Nat}{v:Value}{p:Ph}{rs:List (Nat×Bool)}{pr:Prop}{listed listed2:Array Bool}{K:Value->Mem->Lc->Prop}
theorem lq(a:QF P ops N F M L o v)(h:JL P ops N Q os ((d,v)::F) E M L)(b:o.dst=some d:=by rfl)(c:Nat.blt d N.n=true:=by rfl):JL P ops N Q (o::os) F E M L:=A2 b c a h
theorem lh(a:HF P ops N F E M L o K)(h:∀v M' L',K v M' L'->JL P ops N Q os ((d,v)::F) E M' L')(b:o.dst=some d:=by rfl)(c:Nat.blt d N.n=true:=by rfl):JL P ops N Q (o::os) F E M L:=Ee b c a h
theorem dq(b:ops[i]? =some o)(a:QF P ops N F Mi Li o v)(h:JD P ops N p Mw Lw Q rs ((d,v)::F) E M L Mi Li)(c:o.dst=some d:=by rfl)(f:Nat.blt d N.n=true:=by rfl)(g:p.A i=true:=by rfl)(e:p.U i=true:=by rfl):JD P ops N p Mw Lw Q ((i,true)::rs) F E M L Mi Li:=Ch b c f a h g e
theorem dh(f:ops[i]? =some o)(g:HF P ops N F E M L o K)(h:∀v M' L',K v M' L'->MLe M M'/\(∀p∈Li,p∈L')/\JD P ops N p Mw Lw Q rs ((d,v)::F) E M' L' Mi Li)(j:o.dst=some d:=by rfl)(k:Nat.blt d N.n=true:=by rfl)(m:p.A i=true:=by rfl):JD P ops N p Mw Lw Q ((i,false)::rs) F E M L Mi Li:=λb l c e=>
 GP f j k g (λv M' L' a=>⟨Mi,Li,MLe.refl _,b.trans (h v M' L' a).1,λ_ h=>h,(h v M' L' a).2.1,(h v M' L' a).2.2⟩) m b l c e
theorem sh(c:ops[i]? =some o)(e:HF P ops N F E M L o K)
  (h:∀v M' L',K v M' L'->∃a b,MLe Mi a/\MLe a M'/\(∀p∈Li,p∈b)/\(∀p∈b,p∈L')/\JA P ops N Q fuel (listed.setIfInBounds i true) ((d,v)::F) E M' L' a b) (f:o.dst=some d:=by rfl) (g:Nat.blt d N.n=true:=by rfl):JS P ops N Q fuel listed F E M L Mi Li i:=Km c f g e h
section
variable{x:Operand}{xs:List Operand}{T:Array TypeId}{f:FuncId}{first captured vs all:List Value}{post:Value->Mem->Lc->Prop}
theorem hC(hs:SpecL P f all.toArray M R post)[i:Pick R L L2](h:gd ops F o=some true:=by rfl)(g:o.op=.call { callee:=.value x,args:=xs.toArray,argTypes:=T }:=by rfl)(d:ev F x=some (.func (.func f) first.toArray captured.toArray):=by rfl)(e:evs F xs=some vs:=by rfl)(a:first++vs++captured=all:=by rfl)(hgo:Dn P f=true:=by kernel_rfl):
  HF P ops N F E M L o (λv c L'=>MLe M c/\∃b,L'=b++L2/\post v c b):=BV h g d e a hgo hs
theorem qC(hs:SpecL P f all.toArray M [] (λu _ _=>u=v))(e:gd ops F o=some true:=by rfl)(d:o.op=.call { callee:=.value x,args:=xs.toArray,argTypes:=T }:=by rfl)(b:ev F x=some (.func (.func f) first.toArray captured.toArray):=by rfl)(c:evs F xs=some vs:=by rfl)(a:first++vs++captured=all:=by rfl)(hgo:Dn P f=true:=by kernel_rfl):
  QF P ops N F M L o v:=CZ e d b c a hgo hs
end
section
variable{fn:Func}{n:Nat}{W:World}{X:List Nat}{M0:Mem}{post:Value->Mem->Lc->Prop}
theorem zd(L':Lc){r:List ResultVar}{vs:List Value}(a:fn.results=r.toArray)(b:post (wKs vs) M L')(h:RVs P F L r vs:=by repeat (first|exact RVs.nil|apply RVs.cons (.tmp rfl)|apply RVs.cons (.one rfl rfl rfl)|apply RVs.cons (.agg rfl rfl rfl)))(hs:L'.Sublist L:=by repeat (first|exact List.nil_sublist _|exact .refl _|exact List.sublist_append_left _ _|apply List.Sublist.cons_cons|apply List.Sublist.cons)):JQ ⟨n,[],none⟩ .ret F ⟨W,X,M0⟩ M L (Bz P fn ⟨W,X,M0⟩ post):=jrsd L' hs a h b
end
def Ep:List Nat->List (Nat×Bool)
 |[]=>[]
 |n::l=>(n%100,Nat.blt n 100)::Ep l
def phL(a u:List Nat):Ph:={ A:=λi=> !(a.contains i),U:=λi=> !(u.contains i) }
section
variable{id:Nat}{l:List Oper}
theorem D7(b:List Nat)(c:Lc)(h:JD P l.toArray N {} M c (NoPanic Q) (Ep b) F E M L M c)(e:∀p∈c,p∈L:=by first|exact λ_ h=>h|simp)(f:P.follows .mixedOrders=true:=by kernel_rfl)(hs:(Region.noSelect l.toArray&&Dc l.toArray)=true:=by kernel_rfl)
  (d:Da l.toArray (Ep b) (Array.replicate l.length false)=true:=by kernel_rfl) (a:(Ep b).length=l.length:=by rfl):JC P N (.region id l.toArray true) F E M L Q:=LX (Ep b) c f hs d a e h
theorem QQ(b:List Nat)(h:JD P l.toArray N {} M L (NoPanic Q) (Ep b) F E M L M L)(d:P.follows .mixedOrders=true:=by kernel_rfl)(hs:(Region.noSelect l.toArray&&Dc l.toArray)=true:=by kernel_rfl)
  (c:Da l.toArray (Ep b) (Array.replicate l.length false)=true:=by kernel_rfl) (a:(Ep b).length=l.length:=by rfl):JC P N (.region id l.toArray true) F E M L Q:=LX (Ep b) L d hs c a (λ_ h=>h) h
theorem Gt(a u c:List Nat)(k:Mem)(d m:Lc)(h:JD P l.toArray N (phL a u) k m (NoPanic Q) (Ep c) F E M L M d)(j:∀p∈d,p∈L:=by first|exact λ_ h=>h|simp)(g:MLe k M:=by first|exact MLe.refl _|assumption)(i:∀p∈m,p∈d:=by first|exact λ_ h=>h|simp)(n:P.follows .mixedOrders=true:=by kernel_rfl)(hs:(Region.noSelect l.toArray&&Dc l.toArray)=true:=by kernel_rfl)
  (f:Da l.toArray (Ep c) (Array.replicate l.length false)=true:=by kernel_rfl) (e:Nd (phL a u) l.toArray=true:=by kernel_rfl) (b:(Ep c).length=l.length:=by rfl):JC P N (.region id l.toArray true) F E M L Q:=WC (Ep c) k d m n hs f e b j g i h
end
structure Tag(l:List Nat):Prop where mk::
theorem wXt{r:List Nat}(t:Tag (i::r))(c:ops[i]? =some o)(b:QF P ops N F Mi Li o v)(k:Tag r->JA P ops N (NoPanic Q) fuel (listed.setIfInBounds i true) ((d,v)::F) E M L Mi Li)(e:o.dst=some d:=by rfl)(f:Nat.blt d N.n=true:=by rfl)(hs:(Region.noSelect ops&&Dc ops)=true:=by kernel_rfl)(a:((Region.ready .any ops listed).contains i&&Region.free .any ops listed i)=true:=by kernel_rfl):JA P ops N (NoPanic Q) (fuel+1) listed F E M L Mi Li:=Et c hs a e f b (k ⟨⟩)
theorem aO(i:Nat)(h:JS P ops N Q fuel listed F E M L Mi Li i)(a:(Region.ready .any ops listed==[i])=true:=by kernel_rfl):JA P ops N Q (fuel+1) listed F E M L Mi Li:=KZ a h
theorem aG{M':Mem}{L':Lc}(d:MLe Mi M')(h:JA P ops N Q fuel listed F E M' L' Mi Li)(c:∀p∈Li,p∈L':=by simp):∃a b,MLe Mi a/\MLe a M'/\(∀p∈Li,p∈b)/\(∀p∈b,p∈L')/\JA P ops N Q fuel listed F E M' L' a b:=Cw d c h
theorem aR{α:Type}{b:α->Prop}{e:α->Fr}{c:α->Mem}{d:α->Lc}(a:∀x,b x->JA P ops N Q fuel listed2 (e x) E (c x) (d x) Mi Li)(x:α)(f:b x)(g:listed=listed2:=by kernel_rfl)(k:Keep F (e x):=by repeat (first|exact .nil|refine .cons rfl ?_)):JA P ops N Q fuel listed F E (c x) (d x) Mi Li:=B3 g (BZ k (a x f))
end
variable{A:Prop}
theorem gk(l:List Nat){B:Prop}(h:B)(f:Tag l->Hid B->A:=by
 intro t h;repeat (first
  |(refine wXt t rfl (qA rfl rfl rfl rfl rfl (by omega)) ?_;intro t)
  |(refine wXt t rfl (qP rfl rfl) ?_;intro t)
  |(refine wXt t rfl (Ac rfl rfl rfl rfl rfl) ?_;intro t)
  |(refine wXt t rfl (Au rfl rfl rfl rfl (CJ.loc rfl)) ?_;intro t)
  |(refine wXt t rfl (FY rfl rfl rfl) ?_;intro t)
  |(refine wXt t rfl (HO rfl rfl rfl rfl rfl rfl) ?_;intro t)
  |(refine wXt t rfl (BY rfl rfl rfl) ?_;intro t)
  |(refine wXt t rfl (EV rfl rfl rfl rfl (by omega)) ?_;intro t))
 exact h.out):A:=f ⟨⟩ ⟨h⟩
def plain:Obj->Bool
 |.cells _ _ fz=>decide (fz=(0,0))
 |_=>false
def Cn(M M':Mem):Mem:=λb=>match M b with|none=>(match M' b with|some o=>if plain o=true then some o else none|none=>none)|some _=>none
variable{M:Mem}{b:Nat}{o:Obj}
theorem newOf_iff{M':Mem}:Cn M M' b=some o↔M b=none/\M' b=some o/\plain o=true:=by
 grind[Cn,plain]
theorem EZ(M M':Mem):MLe (Cn M M') M':=λb o h=>(newOf_iff.1 h).2.1
theorem Qw{a M2:Mem}(h:MLe a M2):MLe (Cn M a) (Cn M M2):=λb o c=>by
 obtain⟨f,e,d⟩:=newOf_iff.1 c
 exact newOf_iff.2 ⟨f,h b o e,d⟩
variable{M0:Mem}
theorem FJ{M':Mem}(h:MLe M0 M):MLe (Cn M M') (Cn M0 M'):=λb o c=>by
 obtain⟨a,e,d⟩:=newOf_iff.1 c
 refine newOf_iff.2 ⟨?_,e,d⟩
 cases f:M0 b with
 |none=>rfl
 |some x=>rw[h b x f]at a;cases a
section
variable{P:Program}{ops:Array Oper}{N:Fs}{F:Fr}{W:World}{X:List Nat}{M0 M:Mem}{L:Lc}{o:Oper}{Q:Exit->Act->World->Prop}{rest:List Oper}
theorem Own.freezeN{v:Value}{R:Lc}{e:TypeId}{size n:Nat}{xs:List Value}(f:Own v R e size n xs)(o:∀p∈R,p.1∉X){w:World}(h:St ⟨W,X,M0⟩ M (R++L) w):∃d a b,MLe M d/\v=.slice a n b/\n<=b/\SM (Cn M d) a xs/\St ⟨W,X,M0⟩ d L w:=by
 rcases f.2 with⟨rfl,rfl,rfl⟩|⟨g,b,c,rfl,rfl,s,C,B,z⟩
 ·have:xs=[]:=List.eq_nil_of_length_eq_zero (by simpa using f.1);subst this;exact⟨M,none,0,MLe.refl _,rfl,Nat.le_refl _,.inl rfl,h⟩
 have m:M g=none:=(h.locs (g,.cells c e (0,0)) (by simp)).2.2;obtain⟨l,k,j⟩:=St.freeze' (o (g,.cells c e (0,0)) (by simp)) h;refine⟨_,_,b,k,rfl,s,.inr ⟨g,0,rfl,λi u y=>⟨c,e,(0,0),?_,?_⟩⟩,l⟩
 ·exact newOf_iff.2 ⟨m,j,rfl⟩
 grind
theorem Ui{v:Value}{R L2:Lc}{e:TypeId}{size n:Nat}{xs:List Value}(l:Own v R e size n xs)[k:Pick R L L2](m:∀p∈R,p.1∉X)
  (h:∀M' a b,MLe M M'->v=.slice a n b->n<=b->SM (Cn M M') a xs->JL P ops N Q rest F ⟨W,X,M0⟩ M' L2):JL P ops N Q rest F ⟨W,X,M0⟩ M L:=by
 intro a w o j;obtain⟨M',s,b,i,g,f,d,c⟩:=l.freezeN m (j.perm k.perm);exact h M' s b i g f d a w o c
theorem wBk{c:Exit}{v:Value}{R L2:Lc}{e:TypeId}{size n:Nat}{xs:List Value}(m:Own v R e size n xs)[l:Pick R L L2](o:∀p∈R,p.1∉X)
  (h:∀M' a b,MLe M M'->v=.slice a n b->n<=b->SM (Cn M M') a xs->JQ N c F ⟨W,X,M0⟩ M' L2 Q):JQ N c F ⟨W,X,M0⟩ M L Q:=by
 intro a w s k;obtain⟨M',u,b,j,i,g,f,d⟩:=m.freezeN o (k.perm l.perm);exact h M' u b j i g f a w s d
end
def Ev(M:Mem):Lc->Mem
 |[]=>M
 |p::R=>(Ev M R).set p.1 p.2
theorem JH:∀{R:Lc},b∉R.map (·.1)->Ev M R b=M b
 |[],_=>rfl
 |p::R,h=>by
  rw[List.map_cons,List.mem_cons,not_or]at h;show (if b=p.1 then some p.2 else Ev M R b)=_;simp_all [JH]
theorem Gp{p:Nat×Obj}:∀{R:Lc},(R.map (·.1)).Nodup->p∈R->Ev M R p.1=some p.2
 |q::R,a,h=>by
  rw[List.map_cons,List.nodup_cons]at a;show (if p.1=q.1 then some q.2 else Ev M R p.1)=_;rcases List.mem_cons.1 h with rfl|h
  ·grind
  have:p.1≠q.1:=λe=>a.1 (by rw[<-e];exact List.mem_map.2 ⟨p,h,rfl⟩);simp_all [Gp]
variable{R:Lc}
theorem PJ(h:∀p∈R,M p.1=none):MLe M (Ev M R):=λb o a=>by
 have:b∉R.map (·.1):=λd=>by
  obtain⟨p,c,rfl⟩:=List.mem_map.1 d
  rw[h p c]at a;cases a
 rw[JH this];exact a
def PX(M:Mem)(R:Lc):Mem:=λb=>if b∈R.map (·.1)then none else M b
theorem wSv(M:Mem)(R:Lc):MLe (PX M R) M:=λb o h=>by
 unfold PX at h;split at h
 ·cases h
 exact h
theorem wFe{c:Mem}(e:(R.map (·.1)).Nodup):MLe (Cn (Ev M R) c) (PX c R):=λb o h=>by
 have g:b∉R.map (·.1):=λf=>by
  obtain⟨p,d,rfl⟩:=List.mem_map.1 f
  have a:=(newOf_iff.1 h).1
  rw[Gp e d]at a;cases a
 unfold PX;rw[if_neg g];exact EZ _ _ _ _ h
variable{W w:World}{X:List Nat}
theorem St.lend{L:Lc}(h:St ⟨W,X,M0⟩ M (R++L) w):(R.map (·.1)).Nodup/\∀p∈R,M p.1=none:=by
 refine⟨?_,λp a=>(h.locs p (List.mem_append_left _ a)).2.2⟩;have:=h.nodup;grind
variable{P:Program}{args:Array Value}{f:FuncId}{post:Value->Mem->Lc->Prop}
theorem SpecL.lend{L:Lc}(h:(R.map (·.1)).Nodup->(∀p∈R,M p.1=none)->SpecL P f args (Ev M R) L post):
  SpecL P f args M (R++L) λv O L'=>∃j s,post v j s/\L'=R++s/\O=PX j R/\(R.map (·.1)).Nodup:=by
 intro w l;obtain⟨n,F⟩:=l.lend;have I:=PJ F;have i:=l.nodup;rw[List.map_append]at i;have E:∀p∈L,p.1∉R.map (·.1):=λp a d=>(List.nodup_append.1 i).2.2 _ d _ (List.mem_map_of_mem a) rfl;have z:St ⟨w,L.map (·.1),Ev M R⟩ (Ev M R) L w:=by
  refine { os:=rfl,tape:=rfl,output:=rfl,size:=Nat.le_refl _,same:=λ_ _ _=>rfl,fresh:=λ_ _=>rfl,agree:=λb o m=>?_,locs:=λp a=>?_,nodup:=(List.nodup_append.1 i).2.1 }
  ·by_cases d:b∈R.map (·.1)
   ·obtain ⟨p,a,rfl⟩:=List.mem_map.1 d;rw[Gp n a]at m;cases m;exact(l.locs p (List.mem_append_left _ a)).1
   rw[JH d]at m;exact l.agree b o m
  obtain⟨N,K,J⟩:=l.locs p (List.mem_append_right _ a);grind[JH]
 refine(h n F w z).mono ?_;rintro e Q ⟨v,j,s,rfl,g,c⟩;refine⟨v,PX j R,R++s,rfl,⟨j,s,g,rfl,rfl,n⟩,?_⟩;have C:∀p∈R,p.1<w.heap.size:=λp a=>Bw (l.locs p (List.mem_append_left _ a)).1;have B:∀p∈R,j p.1=some p.2:=λp a=>(c.fresh p.1 (C p a)).trans (Gp n a);refine { os:=c.os,tape:=c.tape,output:=c.output,size:=c.size,same:=λk D u=>?_,fresh:=λk D=>?_,agree:=λb o m=>c.agree b o (wSv _ _ b o m),locs:=λp a=>?_,nodup:=?_ }
 ·refine c.same k D λd=>u ?_;grind
 ·by_cases d:k∈R.map (·.1)
  ·grind [PX]
  show PX j R k=M k;unfold PX;rw[if_neg d,<-JH (M:=M) d];exact c.fresh k D
 ·rcases List.mem_append.1 a with a|a
  ·refine ⟨c.agree _ _ (B p a),.inr ?_,?_⟩
   ·grind
   grind[PX]
  obtain⟨N,K,J⟩:=c.locs p a;grind[PX]
 rw[List.map_append,List.nodup_append];refine⟨n,c.nodup,λx u y G e=>?_⟩;subst e;obtain⟨p,a,rfl⟩:=List.mem_map.1 u;obtain⟨q,H,e⟩:=List.mem_map.1 G;have S:=(c.locs q H).2.2;grind
variable{e:TypeId}{xs:List Value}
theorem Own.lent{v:Value}{size n:Nat}(d:Own v R e size n xs)(h:∀p∈R,M p.1=some p.2):∃a b,v=.slice a n b/\n<=b/\SM M a xs:=by
 rcases d.2 with⟨rfl,rfl,rfl⟩|⟨g,b,c,rfl,rfl,f,m,l,k⟩
 ·have:xs=[]:=List.eq_nil_of_length_eq_zero (by simpa using d.1);exact⟨none,0,rfl,Nat.le_refl _,.inl this⟩
 refine⟨_,b,rfl,f,.inr ⟨g,0,rfl,λi u j=>⟨c,e,(0,0),h (g,.cells c e (0,0)) (by simp),?_⟩⟩⟩;grind
end Go.Proofs.YtjheijhahehnmaaGreatDoor
