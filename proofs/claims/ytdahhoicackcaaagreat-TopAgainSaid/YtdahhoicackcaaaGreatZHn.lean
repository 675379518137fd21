/- THE WALKING LAYER: what is new; blocks of one's own that are lent. No statement of the seat is proved here. -/
import Derived.Test.YtdahhoicackcaaaGreatZShv
import Derived.Lib.AppendZeros
namespace Go.Proofs.YtdahhoicackcaaaGreat
set_option linter.unusedSimpArgs false
set_option linter.unusedVariables false
set_option linter.unusedSectionVars false
open Go.RowKit
set_option maxRecDepth 8000
section
variable{P:Program}{ops:Array Oper}{N:Fs}{Q:Exit->Act->World->Prop}{F F':Fr}{E:Ent}{M:Mem}{L:Lc}{Mi:Mem}{Li:Lc}{fuel:Nat}{listed:Array Bool}
theorem AC.pt{A:Nat->Bool}{r:Option Nat}{f:Region.Mode}{J I C:LZ}{g:Bool}{a:Act}:∀{fuel:Nat},(∀w,C w->∃b:LZ,b w/\AC A r P f ops Q J I fuel g listed a b)->AC A r P f ops Q J I fuel g listed a C
 |0,h=>λw c=>by obtain⟨b,e,d⟩:=h w c;exact d w e
 |_+1,h=>λw c=>by obtain⟨b,e,d⟩:=h w c;exact d w e
def JA(P:Program)(ops:Array Oper)(N:Fs)(Q:Exit->Act->World->Prop)(fuel:Nat)(listed:Array Bool)(F:Fr)(E:Ent)(M:Mem)(L:Lc)(Mi:Mem)(Li:Lc):Prop:=
 MLe Mi M->(∀p∈Li,p∈L)->∀a,Has N F a->AC (λ_=>true) N.r P .any ops Q (Js Mi Li) (Js Mi Li) fuel true listed a (St E M L)
theorem Cg{e:Nat}{l:List Oper}(d:Lc)(g:P.follows .mixedOrders=true)(c:∀p∈d,p∈L)(h:JA P l.toArray N (NoPanic Q) l.length (Array.replicate l.length false) F E M L M d):JC P N (.region e l.toArray true) F E M L Q:=λa w i f=>by
 refine wpIn_mono (Q:=NoPanic Q) (wpIn_region_any g ?_) NoPanic.imp
 have b:St E M L { w with drawn:=w.drawn+1 }:={ f with }
 have:=AC.any _ _ _ a (St E M L) _ b (h (MLe.refl _) c a i)
 simpa using this
theorem GJ{Q:Exit->Act->World->Prop}{i:Nat}{o:Oper}{v:Value}{d:Nat}(k:ops[i]? =some o)(hs:(Region.noSelect ops&&ES ops)=true)(e:((Region.ready .any ops listed).contains i&&Region.free .any ops listed i)=true)(t:o.dst=some d)(u:Nat.blt d N.n=true)
  (m:QF P ops N F Mi Li o v) (h:JA P ops N (NoPanic Q) fuel (listed.setIfInBounds i true) ((d,v)::F) E M L Mi Li):JA P ops N (NoPanic Q) (fuel+1) listed F E M L Mi Li:=λf g a l=>by
 rw[Bool.and_eq_true]at hs e
 refine AC.first true k (Region.noSelect_spec hs.1) (Ki hs.2) (λc a w s=>s) rfl (λ_ j _ r=>by cases r) fuel true listed a _ (λ_=>rfl) (.inl λ_=>rfl) (Region.free_spec k e.2) (by simpa using e.1) (m a l) (St.closed _ _ _)
  (λw b=>b.js.sub f g) (λ_ w b=>b.js.sub f g) ?_
 rw[t]
 exact h f g _ (l.put (by simpa [Nat.blt_eq]using u) v)
theorem Ch{α:Type}(d:α->Prop)(g:α->Fr)(e:α->Mem)(f:α->Lc)(b:Nat)(a:Array Bool)(c:∀x,d x->JA P ops N Q b a (g x) E (e x) (f x) Mi Li)
  (k:(∀x,d x->JA P ops N Q b a (g x) E (e x) (f x) Mi Li)->JA P ops N Q fuel listed F E M L Mi Li):JA P ops N Q fuel listed F E M L Mi Li:=k c
def JS(P:Program)(ops:Array Oper)(N:Fs)(Q:Exit->Act->World->Prop)(fuel:Nat)(listed:Array Bool)(F:Fr)(E:Ent)(M:Mem)(L:Lc)(Mi:Mem)(Li:Lc)(i:Nat):Prop:=
 ∃o,ops[i]? =some o/\(match o.dst with|some d=>Nat.blt d N.n|none=>true)=true/\∃K,HF P ops N F E M L o K/\∀v M' L',K v M' L'->∃Mi' Li',MLe Mi Mi'/\MLe Mi' M'/\(∀p∈Li,p∈Li')/\(∀p∈Li',p∈L')/\JA P ops N Q fuel (listed.setIfInBounds i true) (match o.dst with|some d=>(d,v)::F|none=>F) E M' L' Mi' Li'
theorem js_h{i:Nat}{o:Oper}{K:Value->Mem->Lc->Prop}{d:Nat}(e:ops[i]? =some o)(c:o.dst=some d)(g:Nat.blt d N.n=true)(f:HF P ops N F E M L o K)
  (h:∀v M' L',K v M' L'->∃a b,MLe Mi a/\MLe a M'/\(∀p∈Li,p∈b)/\(∀p∈b,p∈L')/\JA P ops N Q fuel (listed.setIfInBounds i true) ((d,v)::F) E M' L' a b):JS P ops N Q fuel listed F E M L Mi Li i:=
 ⟨o,e,by rw[c];exact g,K,f,by rw[c];exact h⟩
theorem My{i:Nat}{o:Oper}{K:Value->Mem->Lc->Prop}(d:ops[i]? =some o)(c:o.dst=none)(e:HF P ops N F E M L o K)
  (h:∀v M' L',K v M' L'->∃a b,MLe Mi a/\MLe a M'/\(∀p∈Li,p∈b)/\(∀p∈b,p∈L')/\JA P ops N Q fuel (listed.setIfInBounds i true) F E M' L' a b):JS P ops N Q fuel listed F E M L Mi Li i:=
 ⟨o,d,by rw[c],K,e,by rw[c];exact h⟩
def JSs(P:Program)(ops:Array Oper)(N:Fs)(Q:Exit->Act->World->Prop)(fuel:Nat)(listed:Array Bool)(F:Fr)(E:Ent)(M:Mem)(L:Lc)(Mi:Mem)(Li:Lc):List Nat->Prop
 |[]=>True
 |i::rs=>JS P ops N Q fuel listed F E M L Mi Li i/\JSs P ops N Q fuel listed F E M L Mi Li rs
theorem JSs.get:∀{rs:List Nat},JSs P ops N Q fuel listed F E M L Mi Li rs->∀i∈rs,JS P ops N Q fuel listed F E M L Mi Li i
 |_::_,h,i,a=>by
  rcases List.mem_cons.1 a with rfl|a
  ·exact h.1
  exact JSs.get h.2 i a
theorem AR(rs:List Nat)(G:(Region.ready .any ops listed==rs)=true)(f:rs.isEmpty=false)(h:JSs P ops N Q fuel listed F E M L Mi Li rs):JA P ops N Q (fuel+1) listed F E M L Mi Li:=λU V a n w C=>by
 have e:=eq_of_beq G
 refine⟨λy=>(by rw[e]at y;rw[y]at f;cases f),λi t=>?_⟩
 rw[e]at t
 obtain⟨o,H,u,K,m,I⟩:=h.get i t
 obtain⟨S,R⟩:=m a w n C
 unfold wpOpIn
 simp only[H,S,if_true]
 refine Oper.wpIn_mono (λW T m=>?_) (R Q)
 obtain⟨v,z,L',rfl,D,O⟩:=m
 obtain⟨r,s,l,k,j,g,B⟩:=I v z L' O
 refine⟨St E z L',St.closed _ _ _,λ_ b=>(b.js.sub k g).sub l j,λ_ _ b=>(b.js.sub k g).sub l j,D,?_⟩
 have c:∀w,Js r s w->Js Mi Li w:=λ_ b=>b.sub l j
 refine AC.mono c c _ _ _ _ _ (B k g _ ?_)
 cases J:o.dst with
 |none=>exact n
 |some d=>rw[J]at u;exact n.put (by simpa [Nat.blt_eq]using u) v
theorem wMy{i:Nat}(a:(Region.ready .any ops listed==[i])=true)(h:JS P ops N Q fuel listed F E M L Mi Li i):JA P ops N Q (fuel+1) listed F E M L Mi Li:=AR [i] a rfl ⟨h,trivial⟩
theorem D3(c:(Region.ready .any ops listed).isEmpty=true)(h:JQ N .normal F E M L Q):JA P ops N Q fuel listed F E M L Mi Li:=λ_ _ a d=>AC.done (by simpa using c) (λw b=>h a w d b) fuel
theorem Cq(k:Keep F F')(h:JA P ops N Q fuel listed F' E M L Mi Li):JA P ops N Q fuel listed F E M L Mi Li:=λc d a b=>h c d a (b.keep k)
theorem Cr{listed':Array Bool}(e:listed=listed')(h:JA P ops N Q fuel listed' F E M L Mi Li):JA P ops N Q fuel listed F E M L Mi Li:=by grind
theorem wJk{M':Mem}{L':Lc}(d:MLe Mi M')(c:∀p∈Li,p∈L')(h:JA P ops N Q fuel listed F E M' L' Mi Li):
  ∃a b,MLe Mi a/\MLe a M'/\(∀p∈Li,p∈b)/\(∀p∈b,p∈L')/\JA P ops N Q fuel listed F E M' L' a b:=
 ⟨Mi,Li,MLe.refl _,d,λ_ h=>h,c,h⟩
theorem D2{M2:Mem}{L2:Lc}(hs:∀w,St E M L w->St E M2 L2 w)(e:MLe Mi M2)(d:∀p∈Li,p∈L2)(h:JA P ops N Q fuel listed F E M2 L2 Mi Li):JA P ops N Q fuel listed F E M L Mi Li:=λ_ _ a c=>
 AC.pt λw b=>⟨_,hs w b,h e d a c⟩
theorem AH{W:World}{X:List Nat}{d:Mem}{b:Obj}{L2:Lc}(g:Nat)[hp:Rm g b L L2](i:g∉X)(f:∀p∈Li,p∈L2)(h:∀M',MLe M M'->M' g=some b->JA P ops N Q fuel listed F ⟨W,X,d⟩ M' L2 Mi Li):JA P ops N Q fuel listed F ⟨W,X,d⟩ M L Mi Li:=λk n a j=>
 AC.pt λw e=>by
  obtain⟨m,c,l⟩:=St.freeze' i (e.perm hp.perm)
  exact⟨_,m,h _ c l (k.trans c) f a j⟩
theorem wBx{W:World}{X:List Nat}{f:Mem}{v:Value}{R L2:Lc}{e:TypeId}{c n:Nat}{xs:List Value}(m:Own v R e c n xs)[hp:Pick R L L2](r:∀p∈R,p.1∉X)(o:∀p∈Li,p∈L2)
  (h:∀M' a b,MLe M M'->v=.slice a n b->n<=b->SM M' a xs->JA P ops N Q fuel listed F ⟨W,X,f⟩ M' L2 Mi Li):JA P ops N Q fuel listed F ⟨W,X,f⟩ M L Mi Li:=λt y a s=>
 AC.pt λw l=>by
  obtain⟨M',u,b,d,k,j,i,g⟩:=m.freeze r (l.perm hp.perm)
  exact⟨_,g,h M' u b d k j i (t.trans d) o a s⟩
end
instance(priority:=low) Pick.pair{p q:Nat×Obj}{R L L1 L2:Lc}[h:Pick [p] L L1][h2:Pick (q::R) L1 L2]:Pick (p::q::R) L L2:=⟨h.perm.trans (List.Perm.cons p h2.perm)⟩
section
variable{P:Program}{ops:Array Oper}{N:Fs}{F:Fr}{E:Ent}{M:Mem}{L:Lc}{o:Oper}
theorem HF.mono{K d:Value->Mem->Lc->Prop}(h:HF P ops N F E M L o K)(hk:∀w v M' L',K v M' L'->St E M' L' w->∃L2,St E M' L2 w/\d v M' L2):HF P ops N F E M L o d:=λa w c b=>
 ⟨(h a w c b).1,λQ=>Oper.wpIn_mono (λl f ⟨v,M',L',e,g,i⟩=>by
  obtain⟨L2,k,j⟩:=hk f v M' L' i g
  exact⟨v,M',L2,e,k,j⟩) ((h a w c b).2 Q)⟩
theorem Dx{x y:Operand}{t e:TypeId}{v:Value}{R L2:Lc}{a f n m c:Nat}{z xs news:List Value}{G:Option Addr}(O:gd ops F o=some true)
  (K:o.op=.call { callee:=.builtin .append,args:=#[x,y],argTypes:=#[t,t] }) (I:ev F x=some v) (H:ev F y=some (.slice G m c)) [Y:Und P t (.slice e)] [Z:Lay P e a f z]
  (d:Own v R e a n xs) [hp:Pick R L L2] (h:news.length=m*a) (g:SM M G news) (l:Nat.blt 0 a=true) (X:∀u∈news,u.oneCell'=true) (j:n+m<=1000000000) (B:f<=100000):
  HF P ops N F E M L o (λk D L'=>M=D/\∃C,L'=C++L2/\Own k C e a (n+m) (xs++news)):=by
 have r:0<a:=by simp_all
 rcases Nat.eq_zero_or_pos m with rfl|V
 ·have:news=[]:=List.eq_nil_of_length_eq_zero (by simpa using h)
  subst this
  refine(Pf O K I H d).mono λw k D L' ⟨T,S,Q⟩ J=>?_
  subst T;subst S;subst Q
  exact⟨R++L2,J.perm hp.perm,rfl,R,rfl,by simpa using d⟩
 have s:news≠[]:=λe=>by
  rw[e,List.length_nil]at h
  have:=Nat.mul_pos V r
  omega
 obtain⟨b,off,rfl,W⟩:=g.open s
 refine(Ba O K I H d h (λi u U=>(W i u U).cj L) rfl l X j B).mono λw k D L' ⟨T,C,S,Q,_⟩ J=>?_
 grind
theorem wCk{x y:Operand}{t e:TypeId}{D:Addr}{d f n m c:Nat}{z xs news:List Value}{g:Addr}(hg:gd ops F o=some true)
  (ho:o.op=.call { callee:=.builtin .append,args:=#[x,y],argTypes:=#[t,t] }) (hx:ev F x=some (.slice (some D) n n)) (hy:ev F y=some (.slice (some g) m c)) [ht:Und P t (.slice e)] [hl:Lay P e d f z]
  (r:xs.length=n*d) (hold:∀i v,xs[i]? =some v->CJ M L D.block (D.off+i) v) (X:xs=[]\/D.spot=none) (C:news.length=m*d) (B:∀i v,news[i]? =some v->CJ M L g.block (g.off+i) v) (s:g.spot=none) (hm:0<m) (O:n+m<=1000000000) (W:f<=100000):
  HF P ops N F E M L o (λv' M' L'=>M=M'/\∃R',L'=R'++L/\Own v' R' e d (n+m) (xs++news)):=Dw hg λa w ha S=>by
 obtain⟨ti,G,hi,J,T,hz,R⟩:=hl.info
 have Q:G.cells.size=d:=by rw[R];simpa using hl.len
 have add:∀(g:Addr),g.spot=none->∀j,g.add j=⟨g.block,g.off+j,none⟩:=λg Y j=>by
  obtain⟨b,of,sp⟩:=g;simp only at Y;subst Y;unfold Addr.add;split<;>simp_all
 have hb:(n+m)*f<=1000000000*100000:=Nat.mul_le_mul O W
 have Z:=run_append_grow (P:=P) w t o.type e ti G ht.h hi hz D n n xs (by rw[J];exact r) (λj u H=>by rw[add D (X.resolve_left λe=>by rw[e]at H;cases H)];exact(hold j u H).cell S.js) g m c news (by rw[J];exact C)
  (λj u H=>by rw[add g s];exact(B j u H).cell S.js) (by omega) (by omega) (growslice_fits (by omega) (by rw[T];omega))
 have U:=grownCap_ge w (n+m) n e
 have V:grownCap w (n+m) n e<=maxLen:=grownCap_le_maxLen w (n+m) n e (by unfold maxLen;omega)
 have l:(xs++news).length=(n+m)*d:=by rw[List.length_append,r,C,Nat.add_mul]
 have K:(xs.toArray++news.toArray++Builtin.zeroCells G.cells (grownCap w (n+m) n e-(n+m))).size=grownCap w (n+m) n e*d:=by
  simp only[Array.size_append,List.size_toArray,size_zeroCells,Q,r,C,<-Nat.add_mul]
  congr 1;omega
 have I:(xs.toArray++news.toArray++Builtin.zeroCells G.cells (grownCap w (n+m) n e-(n+m))).toList.take ((n+m)*d)=xs++news:=by
  simp only[Array.toList_append,List.append_assoc]
  rw[<-List.append_assoc,<-l]
  exact List.take_left
 generalize xs.toArray++news.toArray++Builtin.zeroCells G.cells (grownCap w (n+m) n e-(n+m))=k at Z K I
 have hd:St E M L w.drew:={ S with }
 refine⟨_,w.drew.alloc (.cells k e),M,[(w.drew.heap.size,.cells k e (0,0))]++L,.inl ?_,hd.alloc (.cells k e),rfl,[(w.heap.size,.cells k e (0,0))],rfl,⟨l,.inr ⟨w.heap.size,_,k,rfl,rfl,U,V,K,I⟩⟩⟩
 simp[execOp,ho,resolve,invoke,builtin,ha.ev hx,ha.ev hy,Z]
theorem Tz{x y:Operand}{t e:TypeId}{v:Value}{R L2:Lc}{a g n m c:Nat}{z xs news:List Value}{B:Addr}(U:gd ops F o=some true)
  (T:o.op=.call { callee:=.builtin .append,args:=#[x,y],argTypes:=#[t,t] }) (S:ev F x=some v) (Q:ev F y=some (.slice (some B) m c)) [Y:Und P t (.slice e)] [Z:Lay P e a g z]
  (d:Own v R e a n xs\/(R=[]/\xs.length=n*a/\∃r,v=.slice (some r) n n/\(xs=[]\/r.spot=none)/\∀i u,xs[i]? =some u->CM M r.block (r.off+i) u)) [hp:Pick R L L2] (k:news.length=m*a) (f:∀i v,news[i]? =some v->CJ M L B.block (B.off+i) v) (b:B.spot=none) (D:Nat.blt 0 a=true) (X:∀u∈news,u.oneCell'=true) (W:0<m) (h:n+m<=1000000000) (l:g<=100000):
  HF P ops N F E M L o (λC O L'=>M=O/\∃j,L'=j++L2/\Own C j e a (n+m) (xs++news)):=by
 rcases d with d|⟨rfl,G,r,rfl,H,hold⟩
 ·exact (Ba U T S Q d k f b D X h l).mono λw C O L' ⟨K,j,J,I,_⟩ s=>⟨L',s,K,j,J,I⟩
 refine(wCk U T S Q G (λi u V=>(hold i u V).cj L) H k f b W h l).mono λw C O L' ⟨K,j,J,I⟩ s=>?_
 exact⟨j++L2,by rw[J]at s;exact s.perm (List.Perm.append_left j (by simpa using hp.perm)),K,j,rfl,I⟩
theorem wCj{x y:Operand}{t j e:TypeId}{k C:IntKind}{n d:Nat}{z:List Value}(X:gd ops F o=some true)
  (T:o.op=.call { callee:=.builtin .append,args:=#[x,y],argTypes:=#[t,j] }) (Q:ev F x=some (.slice none 0 0)) (O:ev F y=some (.int k n)) [S:Und P t (.slice e)] [r:Und P j (.int C)] [G:Lay P e 1 d z]
  (Z:0<n) (U:n<=1000000000) (B:d<=100000):
  HF P ops N F E M L o (λI M' L'=>M=M'/\∃b f c,I=.slice (some ⟨b,0,none⟩) n f/\L'=(b,.cells c e (0,0))::L/\n<=f/\f<=maxLen/\c.size=f):=Dw X λa w H R=>by
 obtain⟨J,g,W,V,s,K,m⟩:=G.info
 have l:g.cells.size=1:=by rw[m];simpa using G.len
 have hb:n*d<=1000000000*100000:=Nat.mul_le_mul U B
 have D:=Go.Lib.run_append_nil_zeros (P:=P) w t j o.type e J g k C S.h r.h W K n Z (by omega) (by omega) (by rw[s];omega)
 have u:=grownCap_ge w n 0 e
 have i:(Builtin.zeroCells g.cells n++Builtin.zeroCells g.cells (grownCap w n 0 e-n)).size=grownCap w n 0 e:=by
  simp only[Array.size_append,size_zeroCells,l];omega
 generalize Builtin.zeroCells g.cells n++Builtin.zeroCells g.cells (grownCap w n 0 e-n)=c at D i
 have Y:St E M L w.drew:={ R with }
 refine⟨_,w.drew.alloc (.cells c e),M,(w.drew.heap.size,.cells c e (0,0))::L,.inl ?_,Y.alloc (.cells c e),rfl,w.heap.size,_,c,rfl,rfl,u,grownCap_le_maxLen w n 0 e (by unfold maxLen;omega),i⟩
 simp[execOp,T,resolve,invoke,builtin,H.ev Q,H.ev O,D]
theorem QZ{x:Operand}{t e:TypeId}{a:Option Addr}{n c:Nat}(g:gd ops F o=some true)(f:o.op=.call { callee:=.builtin .cap,args:=#[x],argTypes:=#[t] })
  (b:ev F x=some (.slice a n c)) [d:Und P t (.slice e)]:QF P ops N F M L o (.int .i64 c):=BG g λj i w _=>by
 simp[execOp,f,resolve,invoke,builtin,Builtin.cap_,i.ev b,run_underlying d.h,goInt]
end
set_option maxRecDepth 8000
section
variable{P:Program}{ops:Array Oper}{N:Fs}{F:Fr}{E:Ent}{M Mw Mi:Mem}{L L' Lw Li:Lc}{Q:Exit->Act->World->Prop}{e:Exit}{c:Code}{os:List Oper}{o:Oper}{d i:Nat}{v:Value}{p:Ph}{rs:List (Nat×Bool)}{pr:Prop}
theorem isQ(h:JQ N e F E M L Q):JQ N e F E M L Q:=h
theorem isC(h:JC P N c F E M L Q):JC P N c F E M L Q:=h
theorem isL(h:JL P ops N Q os F E M L):JL P ops N Q os F E M L:=h
theorem isD(h:JD P ops N p Mw Lw Q rs F E M L Mi Li):JD P ops N p Mw Lw Q rs F E M L Mi Li:=h
theorem isE(h:JE P ops N p Mw Lw Q rs F E M L):JE P ops N p Mw Lw Q rs F E M L:=h
def ariO:Op->Bool
 |.binOp .add _ _ _ _=>true
 |.binOp .sub _ _ _ _=>true
 |.binOp .mul _ _ _ _=>true
 |_=>false
def cmpO:Op->Bool
 |.binOp .eql _ _ _ _=>true
 |.binOp .neq _ _ _ _=>true
 |.binOp .lss _ _ _ _=>true
 |.binOp .leq _ _ _ _=>true
 |.binOp .gtr _ _ _ _=>true
 |.binOp .geq _ _ _ _=>true
 |_=>false
def notB(o:Oper):Bool:= !(Nat.beq o.type 4)
def ZG(ops:Array Oper)(F:Fr)(o:Oper):Bool:=match gd ops F o with
 |some true=>cmpO o.op||ariO o.op
 |_=>false
def Tr(ops:Array Oper)(F:Fr)(o:Oper):Bool:=match gd ops F o with
 |some true=>cmpO o.op
 |_=>false
theorem jg(hs:ZG ops F o=false)(h:DG N ops F o=some (d,v))(k:JL P ops N Q os ((d,v)::F) E M L):JL P ops N Q (o::os) F E M L:=jp h k
theorem dg(a:ops[i]? =some o)(hs:ZG ops F o=false)(h:DG N ops F o=some (d,v))(k:JD P ops N p Mw Lw Q rs ((d,v)::F) E M L Mi Li)(b:p.A i=true:=by rfl):JD P ops N p Mw Lw Q ((i,true)::rs) F E M L Mi Li:=dp a h k b
theorem eg(a:ops[i]? =some o)(hs:ZG ops F o=false)(h:DG N ops F o=some (d,v))(k:JE P ops N p Mw Lw Q rs ((d,v)::F) E M L)(c:p.A i=true:=by rfl)(b:p.U i=false:=by rfl):JE P ops N p Mw Lw Q ((i,true)::rs) F E M L:=ep a h k c b
theorem cP(hs:Tr ops F o=true)(h:DG N ops F o=some (d,v))(k:JL P ops N Q os ((d,v)::F) E M L):JL P ops N Q (o::os) F E M L:=jp h k
theorem cT{_:Decidable pr}(hs:Tr ops F o=true)(h:DG N ops F o=some (d,.bool (decide pr)))(hp:pr)(k:JL P ops N Q os ((d,.bool true)::F) E M L):JL P ops N Q (o::os) F E M L:=jt h (decide_eq_true hp) k
theorem cF{_:Decidable pr}(hs:Tr ops F o=true)(h:DG N ops F o=some (d,.bool (decide pr)))(hp:¬pr)(k:JL P ops N Q os ((d,.bool false)::F) E M L):JL P ops N Q (o::os) F E M L:=jf h (decide_eq_false hp) k
theorem kP(a:ops[i]? =some o)(hs:Tr ops F o=true)(h:DG N ops F o=some (d,v))(k:JD P ops N p Mw Lw Q rs ((d,v)::F) E M L Mi Li)(b:p.A i=true:=by rfl):JD P ops N p Mw Lw Q ((i,true)::rs) F E M L Mi Li:=dp a h k b
theorem kT{_:Decidable pr}(a:ops[i]? =some o)(hs:Tr ops F o=true)(h:DG N ops F o=some (d,.bool (decide pr)))(hp:pr)(k:JD P ops N p Mw Lw Q rs ((d,.bool true)::F) E M L Mi Li)(b:p.A i=true:=by rfl):JD P ops N p Mw Lw Q ((i,true)::rs) F E M L Mi Li:=dt a h (decide_eq_true hp) k b
theorem kF{_:Decidable pr}(a:ops[i]? =some o)(hs:Tr ops F o=true)(h:DG N ops F o=some (d,.bool (decide pr)))(hp:¬pr)(k:JD P ops N p Mw Lw Q rs ((d,.bool false)::F) E M L Mi Li)(b:p.A i=true:=by rfl):JD P ops N p Mw Lw Q ((i,true)::rs) F E M L Mi Li:=df a h (decide_eq_false hp) k b
theorem sLg{t:TypeId}{a:TypeDesc}{b off:Nat}{l:List Value}{e:TypeId}{fz:Nat×Nat}(i:notB o=true)(h:Sm N ops F o=some (d,t,b,off))(k:JL P ops N Q os ((d,v)::F) E M L)[g:Und P t a](f:G3 a=false:=by rfl)[at_:At b (.cells l.toArray e fz) L](c:l[off]? =some v:=by rfl):JL P ops N Q (o::os) F E M L:=sLd h k f c
def wGk(N:Fs)(ops:Array Oper)(F:Fr)(o:Oper):Option (Nat×TypeId×List (Nat×Value)):=match gd ops F o,o.dst,o.op with
 |some true,some d,.build t ps=>bif Nat.blt d N.n then match evp F ps.toList with
  |some vs=>some (d,t,vs)
  |none=>none
  else none
 |_,_,_=>none
theorem Wx{t:TypeId}{vs:List (Nat×Value)}(h:wGk N ops F o=some (d,t,vs)):∃a:List (Nat×Operand),o.dst=some d/\Nat.blt d N.n=true/\gd ops F o=some true/\o.op=.build t a.toArray/\evp F a=some vs:=by
 unfold wGk at h
 split at h
 ·rename_i j k a i g f
  cases b:Nat.blt j N.n with
  |false=>rw[b]at h;cases h
  |true=>
   rw[b]at h
   simp only[cond_true]at h
   split at h
   ·rename_i c e;cases h;exact⟨a.toList,g,b,i,by simpa using f,e⟩
   cases h
 cases h
def wGi(N:Fs)(ops:Array Oper)(F:Fr)(o:Oper):Option (Nat×TypeId×Nat×Nat×Nat×Int):=match gd ops F o,o.dst,o.op with
 |some true,some d,.indexAddr t x ix=>bif Nat.blt d N.n then match ev F x,ev F ix with
  |some (.slice (some ⟨b,off,none⟩) n _),some (.int _ i)=>some (d,t,b,off,n,i)
  |_,_=>none
  else none
 |_,_,_=>none
theorem Wv{t:TypeId}{b off n:Nat}{j:Int}(h:wGi N ops F o=some (d,t,b,off,n,j)):∃x a c k,o.dst=some d/\Nat.blt d N.n=true/\gd ops F o=some true/\o.op=.indexAddr t x a/\ev F x=some (.slice (some ⟨b,off,none⟩) n c)/\ev F a=some (.int k j):=by
 unfold wGi at h
 split at h
 ·rename_i r s x a m l i
  cases e:Nat.blt r N.n with
  |false=>rw[e]at h;cases h
  |true=>
   rw[e]at h
   simp only[cond_true]at h
   split at h
   ·rename_i g f;cases h;exact⟨x,a,_,_,l,e,m,i,g,f⟩
   cases h
 cases h
section
variable{t:TypeId}{vs:List (Nat×Value)}{sz by_:Nat}{z cs:List Value}{pl:List (Nat×Nat)}{el:TypeId}{b off n:Nat}{j:Int}
theorem sBd(h:wGk N ops F o=some (d,t,vs))(k:JL P ops N Q os ((d,.agg cs.toArray)::F) E M L)[j:Lay P t sz by_ z][hp:Plc P t pl](f:GW (pl[·]?) z vs=some cs:=by first|exact(rfl:_=some [_,_,_,_])|exact(rfl:_=some [_,_])|exact(rfl:_=some [_,_,_,_,_,_,_,_,_])|exact(rfl:_=some [_,_,_])|exact(rfl:_=some [_,_,_,_,_,_,_,_])|exact(rfl:_=some [_,_,_,_,_])|exact(rfl:_=some [_])|exact(rfl:_=some [_,_,_,_,_,_])|exact(rfl:_=some [_,_,_,_,_,_,_])|rfl):JL P ops N Q (o::os) F E M L:=by
 obtain⟨i,e,g,c,b,a⟩:=Wx h
 exact Kn e g (Bk c b a f) k
theorem dBd(c:ops[i]? =some o)(h:wGk N ops F o=some (d,t,vs))(k:JD P ops N p Mw Lw Q rs ((d,.agg cs.toArray)::F) E M L Mi Li)[n:Lay P t sz by_ z][hp:Plc P t pl](g:GW (pl[·]?) z vs=some cs:=by first|exact(rfl:_=some [_,_,_,_])|exact(rfl:_=some [_,_])|exact(rfl:_=some [_,_,_,_,_,_,_,_,_])|exact(rfl:_=some [_,_,_])|exact(rfl:_=some [_,_,_,_,_,_,_,_])|exact(rfl:_=some [_,_,_,_,_])|exact(rfl:_=some [_])|exact(rfl:_=some [_,_,_,_,_,_])|exact(rfl:_=some [_,_,_,_,_,_,_])|rfl)(l:p.A i=true:=by rfl):JD P ops N p Mw Lw Q ((i,true)::rs) F E M L Mi Li:=by
 obtain⟨m,f,j,e,a,b⟩:=Wx h
 exact Le c f j (λ_ _=>Bk e a b g) k l
theorem sIx(h:wGi N ops F o=some (d,t,b,off,n,j))(f:0<=j/\j<n)(k:JL P ops N Q os ((d,.pointer (some ⟨b,off+j.toNat*sz,none⟩))::F) E M L)[u:Und P t (.slice el)][y:Lay P el sz by_ z]:JL P ops N Q (o::os) F E M L:=by
 obtain⟨x,s,c,r,l,m,i,e,a,g⟩:=Wv h
 exact Kn l m (Ca i e a g f) k
theorem dIx(f:ops[i]? =some o)(h:wGi N ops F o=some (d,t,b,off,n,j))(g:0<=j/\j<n)(k:JD P ops N p Mw Lw Q rs ((d,.pointer (some ⟨b,off+j.toNat*sz,none⟩))::F) E M L Mi Li)[C:Und P t (.slice el)][D:Lay P el sz by_ z](u:p.A i=true:=by rfl):JD P ops N p Mw Lw Q ((i,true)::rs) F E M L Mi Li:=by
 obtain⟨x,B,c,y,r,s,m,a,e,l⟩:=Wv h
 exact Le f r s (λ_ _=>Ca m a e l g) k u
end
theorem aFa{s:TypeId}{j m:Nat}{l:TypeId}{g f:Nat}{z:List Value}{b off a:Nat}(t:ops[i]? =some o)(h:wGj N ops F o=some (d,s,j,b,off))(k:JD P ops N p Mw Lw Q rs ((d,.pointer (some ⟨b,a,none⟩))::F) E M L Mi Li)[G:Fld P s j m l][D:Lay P l g f z]
  (n:Nat.beq g 0=false:=by rfl) (e:off+m=a:=by rfl) (C:p.A i=true:=by rfl):JD P ops N p Mw Lw Q ((i,true)::rs) F E M L Mi Li:=by
 obtain⟨x,y,B,u,c,r⟩:=Ww h
 exact Le t y B (λ_ _=>Ak u c r n e) k C
theorem uLd{t:TypeId}{c:TypeDesc}{b off:Nat}{l:List Value}{e:TypeId}{fz:Nat×Nat}(g:ops[i]? =some o)(h:Sm N ops F o=some (d,t,b,off))(k:JD P ops N p Mw Lw Q rs ((d,v)::F) E M L Mi Li)[z:Und P t c](r:G3 c=false:=by rfl)[at_:At b (.cells l.toArray e fz) Lw](n:l[off]? =some v:=by rfl)(y:p.A i=true:=by rfl)(s:p.U i=false:=by rfl):JD P ops N p Mw Lw Q ((i,true)::rs) F E M L Mi Li:=by
 obtain⟨x,m,u,j,a,f⟩:=J4 h
 exact Vr g m u (AE j a f r (CJ.loc n)) k y s
theorem eFa{s:TypeId}{j m:Nat}{l:TypeId}{g f:Nat}{z:List Value}{b off a:Nat}(t:ops[i]? =some o)(h:wGj N ops F o=some (d,s,j,b,off))(k:JE P ops N p Mw Lw Q rs ((d,.pointer (some ⟨b,a,none⟩))::F) E M L)[H:Fld P s j m l][G:Lay P l g f z]
  (n:Nat.beq g 0=false:=by rfl) (e:off+m=a:=by rfl) (D:p.A i=true:=by rfl) (B:p.U i=false:=by rfl):JE P ops N p Mw Lw Q ((i,true)::rs) F E M L:=by
 obtain⟨x,y,C,u,c,r⟩:=Ww h
 exact Hq t y C (Ak u c r n e) k D B
section
variable{t:TypeId}{u:Value}{b off sz by_:Nat}{l l2 cs z:List Value}{e:TypeId}
theorem dSt(B:ops[i]? =some o)(h:XO ops F o=some (t,b,off,u))(k:JD P ops N p Mw Lw Q rs F E M L' Mi Li)
  [K:Lay P t sz by_ z] (H:u.cells=cs.toArray:=by rfl) (C:cs.length=sz:=by rfl) (g:(cs.all λv=>v.oneCell')=true:=by rfl) [at_:At b (.cells l.toArray e (0,0)) L] (a:Nat.ble (off+sz) l.length=true:=by rfl) (f:l.take off++cs++l.drop (off+cs.length)=l2:=by first|(simp only[Nat.reduceAdd,Nat.zero_add,Nat.add_zero,List.drop_succ_cons,List.drop_zero,List.drop_nil,List.take_succ_cons,List.take_zero,List.take_nil,List.cons_append,List.nil_append,List.append_nil,List.length_cons,List.length_nil];try rfl)|rfl)
  [hp:PutAt b (.cells l.toArray e (0,0)) (.cells l2.toArray e (0,0)) L L'] (J:p.A i=true:=by rfl) (d:∀p∈Li,p∈L':=by simp):JD P ops N p Mw Lw Q ((i,false)::rs) F E M L Mi Li:=λj I m n=>by
 obtain⟨x,y,G,D,c,s,r⟩:=ME h
 exact Df B G (Ae D c s r H C g a f) (λ_ _ _ ⟨g,f⟩=>by subst g;subst f;exact⟨Mi,Li,MLe.refl _,j,λ_ h=>h,d,k⟩) J j I m n
theorem dSe(B:ops[i]? =some o)(h:XO ops F o=some (t,b,off,u))(k:JE P ops N p Mw Lw Q rs F E M L')
  [K:Lay P t sz by_ z] (H:u.cells=cs.toArray:=by rfl) (C:cs.length=sz:=by rfl) (g:(cs.all λv=>v.oneCell')=true:=by rfl) [at_:At b (.cells l.toArray e (0,0)) L] (a:Nat.ble (off+sz) l.length=true:=by rfl) (f:l.take off++cs++l.drop (off+cs.length)=l2:=by first|(simp only[Nat.reduceAdd,Nat.zero_add,Nat.add_zero,List.drop_succ_cons,List.drop_zero,List.drop_nil,List.take_succ_cons,List.take_zero,List.take_nil,List.cons_append,List.nil_append,List.append_nil,List.length_cons,List.length_nil];try rfl)|rfl)
  [hp:PutAt b (.cells l.toArray e (0,0)) (.cells l2.toArray e (0,0)) L L'] (J:p.A i=false:=by rfl) (d:∀p∈Lw,p∈L':=by simp):JD P ops N p Mw Lw Q ((i,false)::rs) F E M L Mi Li:=λm I j n=>by
 obtain⟨x,y,G,D,c,s,r⟩:=ME h
 exact Ed B G (Ae D c s r H C g a f) (λ_ _ _ ⟨g,f⟩=>by subst g;subst f;exact⟨j.trans m,d,k⟩) J m I j n
theorem eSt(s:ops[i]? =some o)(h:XO ops F o=some (t,b,off,u))(k:JE P ops N p Mw Lw Q rs F E M L')
  [H:Lay P t sz by_ z] (G:u.cells=cs.toArray:=by rfl) (B:cs.length=sz:=by rfl) (g:(cs.all λv=>v.oneCell')=true:=by rfl) [at_:At b (.cells l.toArray e (0,0)) L] (a:Nat.ble (off+sz) l.length=true:=by rfl) (f:l.take off++cs++l.drop (off+cs.length)=l2:=by first|(simp only[Nat.reduceAdd,Nat.zero_add,Nat.add_zero,List.drop_succ_cons,List.drop_zero,List.drop_nil,List.take_succ_cons,List.take_zero,List.take_nil,List.cons_append,List.nil_append,List.append_nil,List.length_cons,List.length_nil];try rfl)|rfl)
  [hp:PutAt b (.cells l.toArray e (0,0)) (.cells l2.toArray e (0,0)) L L'] (d:∀p∈Lw,p∈L':=by simp):JE P ops N p Mw Lw Q ((i,false)::rs) F E M L:=λj m=>by
 obtain⟨x,y,D,C,c,r,n⟩:=ME h
 exact G1 s D (Ae C c r n G B g a f) (λ_ _ _ ⟨g,f⟩=>by subst g;subst f;exact⟨j,d,k⟩) j m
end
section
variable{fn:Func}{n:Nat}{W:World}{X:List Nat}{M0:Mem}{post:Value->Mem->Lc->Prop}
theorem z1{t:Nat}(b:fn.results=#[.tmp t])(a:lk t F=some v)(h:post v M []):JQ ⟨n,[],none⟩ .ret F ⟨W,X,M0⟩ M L (Bq P fn ⟨W,X,M0⟩ post):=AD (List.nil_sublist _) (Gd b a h)
theorem z2{t u:Nat}{x:Value}(c:fn.results=#[.tmp t,.tmp u])(b:lk t F=some v)(a:lk u F=some x)(h:post (.tuple #[v,x]) M []):JQ ⟨n,[],none⟩ .ret F ⟨W,X,M0⟩ M L (Bq P fn ⟨W,X,M0⟩ post):=AD (List.nil_sublist _) (wFo c b a h)
theorem zs{r:List ResultVar}{vs:List Value}(a:fn.results=r.toArray)(hp:post (ZW vs) M [])(h:RVs P F L r vs:=by repeat (first|exact RVs.nil|apply RVs.cons (.tmp rfl)|apply RVs.cons (.one rfl rfl rfl)|apply RVs.cons (.agg rfl rfl rfl))):JQ ⟨n,[],none⟩ .ret F ⟨W,X,M0⟩ M L (Bq P fn ⟨W,X,M0⟩ post):=jrsd [] (List.nil_sublist _) a h hp
end
section
variable{α:Type}{Fi:α->Fr}{Mi:α->Mem}{Li:α->Lc}{φ:α->Prop}{μ:α->Nat}
theorem Bw{x:α}(y:α)(a:φ y)(b:μ y<μ x:=by first|omega|(dsimp only;omega))(hk:Keep F (Fi y):=by repeat (first|exact .nil|refine .cons rfl ?_))(hs:∀w,St E M L w->St E (Mi y) (Li y) w:=by first|exact λ_ h=>h|exact λ_ h=>h.fewer (by simp)|exact λ_ h=>h.fewer (by repeat (first|exact .refl _|exact List.sublist_append_left _ _|apply List.Sublist.cons|apply List.Sublist.cons_cons))):JQ N .normal F E M L (Exit.then (Ue N E Fi Mi Li φ μ x) Q):=H1 y hk a b hs
end
theorem Cz{α:Type}(e:α->Fr)(b:α->Mem)(d:α->Lc)(a:α->Prop)(f:α->Nat)(x:α)(g:a x)
  (h:∀x,a x->JC P N c (e x) E (b x) (d x) (Exit.then (Ue N E e b d a f x) Q)) (hk:Keep F (e x):=by repeat (first|exact .nil|refine .cons rfl ?_)) (hs:∀w,St E M L w->St E (b x) (d x) w:=by first|exact λ_ h=>h|exact λ_ h=>h.fewer (by simp)|exact λ_ h=>h.fewer (by repeat (first|exact .refl _|exact List.sublist_append_left _ _|apply List.Sublist.cons|apply List.Sublist.cons_cons))):JC P N (.loop c) F E M L Q:=wBv e b d a f x hk g hs h
section
variable{x:Operand}{xs:List Operand}{T:Array TypeId}{f:FuncId}{first captured vs all:List Value}
theorem call0{c:Value->Mem->Prop}(j:o.dst=some d)(l:Nat.blt d N.n=true)(i:gd ops F o=some true)
  (h:o.op=.call { callee:=.value x,args:=xs.toArray,argTypes:=T }) (e:ev F x=some (.func (.func f) first.toArray captured.toArray)) (g:evs F xs=some vs) (a:first++vs++captured=all) (b:EN P f=true)
  (hs:SpecL P f all.toArray M [] λu M' L'=>c u M'/\L'=[]) (k:∀v M',MLe M M'->c v M'->JL P ops N Q os ((d,v)::F) E M' L):JL P ops N Q (o::os) F E M L:=
 Fy j l (Bu (L2:=L) i h e g a b hs) λv M' L' ⟨t,L2,s,r,m⟩=>by subst m;subst s;exact k v M' t r
theorem callR{R L2:Lc}{post:Value->Mem->Lc->Prop}(i:o.dst=some d)(j:Nat.blt d N.n=true)(h:gd ops F o=some true)
  (g:o.op=.call { callee:=.value x,args:=xs.toArray,argTypes:=T }) (c:ev F x=some (.func (.func f) first.toArray captured.toArray)) (e:evs F xs=some vs) (a:first++vs++captured=all) (b:EN P f=true)
  (hs:SpecL P f all.toArray M R post) [hp:Pick R L L2] (k:∀v M' R',MLe M M'->post v M' R'->JL P ops N Q os ((d,v)::F) E M' (R'++L2)):JL P ops N Q (o::os) F E M L:=
 Fy i j (Bu h g c e a b hs) λv M' L' ⟨r,R',m,l⟩=>by subst m;exact k v M' R' r l
theorem wLs(i:o.dst=some d)(j:Nat.blt d N.n=true)(h:gd ops F o=some true)
  (g:o.op=.call { callee:=.value x,args:=xs.toArray,argTypes:=T }) (c:ev F x=some (.func (.func f) first.toArray captured.toArray)) (e:evs F xs=some vs) (a:first++vs++captured=all) (b:EN P f=true)
  (hs:SpecL P f all.toArray M [] λu _ _=>u=v) (k:JL P ops N Q os ((d,v)::F) E M L):JL P ops N Q (o::os) F E M L:=Kn i j (CG h g c e a b hs) k
theorem wLt(b:ops[i]? =some o)(l:o.dst=some d)(r:Nat.blt d N.n=true)(j:gd ops F o=some true)
  (h:o.op=.call { callee:=.value x,args:=xs.toArray,argTypes:=T }) (e:ev F x=some (.func (.func f) first.toArray captured.toArray)) (g:evs F xs=some vs) (a:first++vs++captured=all) (c:EN P f=true)
  (hs:SpecL P f all.toArray Mi [] λu _ _=>u=v) (k:JD P ops N p Mw Lw Q rs ((d,v)::F) E M L Mi Li) (s:p.A i=true:=by rfl) (m:p.U i=true:=by rfl):JD P ops N p Mw Lw Q ((i,true)::rs) F E M L Mi Li:=Tk b l r (CG j h e g a c hs) k s m
end
end
variable{L:Lc}{M:Mem}{N:Nat}{P:Program}{c:Code}{f:FuncId}{fn:Func}{post:Value->Mem->Lc->Prop}{vs:List Value}
theorem sB(d:P.funcs[f]? =some fn)(b:fn.ntmps=N)
  (h:∀W,JC P ⟨N,[],none⟩ c (Hx 0 vs) ⟨W,L.map (·.1),M⟩ M L (Bq P fn ⟨W,L.map (·.1),M⟩ post)) (e:fn.body=some c:=by rfl) (a:Nat.ble vs.length N=true:=by rfl):SpecL P f vs.toArray M L post:=HM N _ d e b a rfl h
structure Hid(p:Prop):Prop where
 out:p
variable{A B:Prop}
theorem gg(h:B)(f:Hid B->A:=by
 intro h
 repeat' (first
  |(with_reducible refine isL ?_);first
   |(refine ja rfl ?_ ?_;(focus omega))
   |refine jg rfl rfl ?_
   |with_reducible refine Am ?_
   |refine sSt rfl ?_
   |refine sFa rfl ?_
   |refine sLg rfl rfl ?_
   |refine sLL rfl ?_
   |refine Kn rfl rfl (KZ rfl rfl rfl) ?_
   |(refine sIx rfl ?_ ?_;(focus omega))
   |refine sBd rfl ?_
   |refine Kn rfl rfl (BZ rfl rfl rfl) ?_
  |(with_reducible refine isQ ?_);first
   |with_reducible refine jT ?_
   |with_reducible refine wLj ?_
   |with_reducible refine wLi ?_
   |with_reducible refine jB ?_
   |with_reducible refine jBr ?_
   |with_reducible refine jBx ?_
   |with_reducible refine wJm ?_
  |(with_reducible refine isC ?_);first
   |with_reducible refine Ao ?_
   |with_reducible refine Ah ?_
   |with_reducible refine D0 ?_
   |with_reducible refine Ge ?_
   |with_reducible refine Bs ?_
   |with_reducible refine Kr ?_
   |refine FM rfl ?_
   |refine GI rfl ?_
  |(with_reducible refine isD ?_);first
   |(refine da rfl rfl ?_ ?_;(focus omega))
   |refine dg rfl rfl rfl ?_
   |refine wBu ?_
   |refine aFa rfl rfl ?_
   |refine dLd rfl rfl ?_
   |refine dLL rfl rfl ?_
   |refine uLd rfl rfl ?_
   |refine dSt rfl rfl ?_
   |refine dSe rfl rfl ?_
   |refine Tk rfl rfl rfl (KZ rfl rfl rfl) ?_
   |(refine dIx rfl rfl ?_ ?_;(focus omega))
   |refine dBd rfl rfl ?_
   |refine Le rfl rfl rfl (λ_ _=>BZ rfl rfl rfl) ?_
  |(with_reducible refine isE ?_);first
   |refine eg rfl rfl rfl ?_
   |refine Ld ?_
   |refine eFa rfl rfl ?_
   |refine eSt rfl rfl ?_)
 exact h.out):A:=f ⟨h⟩
theorem gh(h:B)(f:Hid B->A:=by
 intro h
 refine gg ?_
 repeat (first|((with_reducible refine isL ?_);first|refine cP rfl rfl ?_|refine sLd rfl ?_)|((with_reducible refine isD ?_);refine kP rfl rfl rfl ?_));refine gg ?_
 exact h.out):A:=f ⟨h⟩
theorem gt(h:B)(f:Hid B->A:=by
 intro h
 refine gg ?_
 repeat (first|((with_reducible refine isL ?_);first|(refine cT rfl rfl ?_ ?_;(focus omega))|(refine cF rfl rfl ?_ ?_;(focus omega)))|((with_reducible refine isD ?_);first|(refine kT rfl rfl rfl ?_ ?_;(focus omega))|(refine kF rfl rfl rfl ?_ ?_;(focus omega))));refine gg ?_
 exact h.out):A:=f ⟨h⟩
theorem gr(h:B)(f:Hid B->A:=by
 intro h
 refine gh ?_
 try with_reducible refine Ug ?_
 first|refine z1 rfl rfl ?_|refine z2 rfl rfl rfl ?_|refine zs rfl ?_
 exact h.out):A:=f ⟨h⟩
theorem gu(h:B)(f:Hid B->A:=by
 intro h
 refine gt ?_
 try with_reducible refine Ug ?_
 first|refine z1 rfl rfl ?_|refine z2 rfl rfl rfl ?_|refine zs rfl ?_
 exact h.out):A:=f ⟨h⟩
variable{K Φ:Value->Mem->Prop}{args:Array Value}
theorem gc(s:SpecL P f args M [] λu M' L'=>Φ u M'/\L'=[])(k:∀v M',MLe M M'->Φ v M'->K v M')
  (g:Hid (SpecL P f args M [] λu M' L'=>Φ u M'/\L'=[])->Hid (∀v M',MLe M M'->Φ v M'->K v M')->A:=by
   intro s k
   refine gh ?_
   exact call0 rfl rfl rfl rfl rfl rfl rfl (by kernel_rfl) s.out k.out):A:=g ⟨s⟩ ⟨k⟩
variable{R:Lc}
theorem gC{K:Value->Mem->Lc->Prop}(s:SpecL P f args M R post)(k:∀v M' R',MLe M M'->post v M' R'->K v M' R')
  (g:Hid (SpecL P f args M R post)->Hid (∀v M' R',MLe M M'->post v M' R'->K v M' R')->A:=by
   intro s k
   refine gh ?_
   exact callR rfl rfl rfl rfl rfl rfl rfl (by kernel_rfl) s.out k.out):A:=g ⟨s⟩ ⟨k⟩
theorem gq{v:Value}(s:SpecL P f args M [] λu _ _=>u=v)(k:B)
  (g:Hid (SpecL P f args M [] λu _ _=>u=v)->Hid B->A:=by
   intro s k
   refine gh ?_
   first
    |((with_reducible refine isL ?_);exact wLs rfl rfl rfl rfl rfl rfl rfl (by kernel_rfl) s.out (gh k.out))
    |exact wLt rfl rfl rfl rfl rfl rfl rfl rfl (by kernel_rfl) s.out (gh k.out)):A:=g ⟨s⟩ ⟨k⟩
theorem gQ{v:Value}(s:SpecL P f args M [] λu _ _=>u=v)(k:B)
  (g:Hid (SpecL P f args M [] λu _ _=>u=v)->Hid B->A:=by
   intro s k
   refine gh ?_
   first
    |((with_reducible refine isL ?_);exact wLs rfl rfl rfl rfl rfl rfl rfl (by kernel_rfl) s.out (gg k.out))
    |exact wLt rfl rfl rfl rfl rfl rfl rfl rfl (by kernel_rfl) s.out (gg k.out)):A:=g ⟨s⟩ ⟨k⟩
theorem gj{C p:Prop}(b:p->B)(a:¬p->C)(g:Hid (p->B)->Hid (¬p->C)->A:=by
  intro h k
  refine gg ?_
  first|((with_reducible refine isL ?_);exact js rfl h.out k.out)|exact ds rfl rfl h.out k.out):A:=g ⟨b⟩ ⟨a⟩
variable{C:Nat->Prop}
theorem ga(h:∀b,C b)(f:Hid (∀b,C b)->A:=by
 intro h
 refine gh ?_
 first
  |exact sAl rfl λb=>gh (h.out b)
  |(refine Fy rfl rfl (Bf (cs:=[_]) rfl rfl rfl rfl) ?_;rintro _ _ _ ⟨b,rfl,rfl,rfl⟩;exact gh (h.out b))
  |(refine Fy rfl rfl (Bf (cs:=[_,_]) rfl rfl rfl rfl) ?_;rintro _ _ _ ⟨b,rfl,rfl,rfl⟩;exact gh (h.out b))
  |(refine Fy rfl rfl (Bf (cs:=[_,_,_]) rfl rfl rfl rfl) ?_;rintro _ _ _ ⟨b,rfl,rfl,rfl⟩;exact gh (h.out b))
  |(refine Fy rfl rfl (Bf (cs:=[_,_,_,_]) rfl rfl rfl rfl) ?_;rintro _ _ _ ⟨b,rfl,rfl,rfl⟩;exact gh (h.out b))
  |(refine Fy rfl rfl (Bf (cs:=[_,_,_,_,_]) rfl rfl rfl rfl) ?_;rintro _ _ _ ⟨b,rfl,rfl,rfl⟩;exact gh (h.out b))
  |(refine Fy rfl rfl (Bf (cs:=[_,_,_,_,_,_]) rfl rfl rfl rfl) ?_;rintro _ _ _ ⟨b,rfl,rfl,rfl⟩;exact gh (h.out b))
  |(refine Fy rfl rfl (Bf (cs:=[_,_,_,_,_,_,_]) rfl rfl rfl rfl) ?_;rintro _ _ _ ⟨b,rfl,rfl,rfl⟩;exact gh (h.out b))
  |(refine Fy rfl rfl (Bf (cs:=[_,_,_,_,_,_,_,_]) rfl rfl rfl rfl) ?_;rintro _ _ _ ⟨b,rfl,rfl,rfl⟩;exact gh (h.out b))
  |(refine Fy rfl rfl (Bf (cs:=[_,_,_,_,_,_,_,_,_]) rfl rfl rfl rfl) ?_;rintro _ _ _ ⟨b,rfl,rfl,rfl⟩;exact gh (h.out b))):A:=f ⟨h⟩
theorem gA(h:∀b,C b)(f:Hid (∀b,C b)->A:=by
 intro h
 refine gh ?_
 first
  |exact sAl rfl λb=>gg (h.out b)
  |(refine Fy rfl rfl (Bf (cs:=[_]) rfl rfl rfl rfl) ?_;rintro _ _ _ ⟨b,rfl,rfl,rfl⟩;exact gg (h.out b))
  |(refine Fy rfl rfl (Bf (cs:=[_,_]) rfl rfl rfl rfl) ?_;rintro _ _ _ ⟨b,rfl,rfl,rfl⟩;exact gg (h.out b))
  |(refine Fy rfl rfl (Bf (cs:=[_,_,_]) rfl rfl rfl rfl) ?_;rintro _ _ _ ⟨b,rfl,rfl,rfl⟩;exact gg (h.out b))
  |(refine Fy rfl rfl (Bf (cs:=[_,_,_,_]) rfl rfl rfl rfl) ?_;rintro _ _ _ ⟨b,rfl,rfl,rfl⟩;exact gg (h.out b))
  |(refine Fy rfl rfl (Bf (cs:=[_,_,_,_,_]) rfl rfl rfl rfl) ?_;rintro _ _ _ ⟨b,rfl,rfl,rfl⟩;exact gg (h.out b))
  |(refine Fy rfl rfl (Bf (cs:=[_,_,_,_,_,_]) rfl rfl rfl rfl) ?_;rintro _ _ _ ⟨b,rfl,rfl,rfl⟩;exact gg (h.out b))
  |(refine Fy rfl rfl (Bf (cs:=[_,_,_,_,_,_,_]) rfl rfl rfl rfl) ?_;rintro _ _ _ ⟨b,rfl,rfl,rfl⟩;exact gg (h.out b))
  |(refine Fy rfl rfl (Bf (cs:=[_,_,_,_,_,_,_,_]) rfl rfl rfl rfl) ?_;rintro _ _ _ ⟨b,rfl,rfl,rfl⟩;exact gg (h.out b))
  |(refine Fy rfl rfl (Bf (cs:=[_,_,_,_,_,_,_,_,_]) rfl rfl rfl rfl) ?_;rintro _ _ _ ⟨b,rfl,rfl,rfl⟩;exact gg (h.out b))):A:=f ⟨h⟩
theorem EV{C:Nat->Nat->Prop}(h:∀b a,C b a)(f:Hid (∀b a,C b a)->A:=by
 intro h
 refine ga λb=>?_
 exact ga λa=>h.out b a):A:=f ⟨h⟩
theorem gA2{C:Nat->Nat->Prop}(h:∀b a,C b a)(f:Hid (∀b a,C b a)->A:=by
 intro h
 refine ga λb=>?_
 exact gA λa=>h.out b a):A:=f ⟨h⟩
theorem Rl{C:Nat->Nat->Nat->Prop}(h:∀c b a,C c b a)(f:Hid (∀c b a,C c b a)->A:=by
 intro h
 refine ga λc=>?_
 exact EV λb a=>h.out c b a):A:=f ⟨h⟩
theorem ga4{C:Nat->Nat->Nat->Nat->Prop}(h:∀d c b a,C d c b a)(f:Hid (∀d c b a,C d c b a)->A:=by
 intro h
 refine ga λd=>?_
 exact Rl λc b a=>h.out d c b a):A:=f ⟨h⟩
theorem ga5{C:Nat->Nat->Nat->Nat->Nat->Prop}(h:∀e d c b a,C e d c b a)(f:Hid (∀e d c b a,C e d c b a)->A:=by
 intro h
 refine ga λe=>?_
 exact ga4 λd c b a=>h.out e d c b a):A:=f ⟨h⟩
set_option maxRecDepth 8000
section
variable{P:Program}{ops:Array Oper}{N:Fs}{F:Fr}{E:Ent}{M Mw Mi:Mem}{L L2 L' Lw Li R:Lc}{Q:Exit->Act->World->Prop}{e:Exit}{c:Code}{os:List Oper}{o:Oper}{d i fuel:Nat}{v:Value}{p:Ph}{rs:List (Nat×Bool)}{pr:Prop}{listed listed2:Array Bool}{K:Value->Mem->Lc->Prop}
theorem lq(a:QF P ops N F M L o v)(h:JL P ops N Q os ((d,v)::F) E M L)(b:o.dst=some d:=by rfl)(c:Nat.blt d N.n=true:=by rfl):JL P ops N Q (o::os) F E M L:=Kn b c a h
theorem lh(a:HF P ops N F E M L o K)(h:∀v M' L',K v M' L'->JL P ops N Q os ((d,v)::F) E M' L')(b:o.dst=some d:=by rfl)(c:Nat.blt d N.n=true:=by rfl):JL P ops N Q (o::os) F E M L:=Fy b c a h
theorem dq(b:ops[i]? =some o)(a:QF P ops N F Mi Li o v)(h:JD P ops N p Mw Lw Q rs ((d,v)::F) E M L Mi Li)(c:o.dst=some d:=by rfl)(f:Nat.blt d N.n=true:=by rfl)(g:p.A i=true:=by rfl)(e:p.U i=true:=by rfl):JD P ops N p Mw Lw Q ((i,true)::rs) F E M L Mi Li:=Tk b c f a h g e
theorem dh(f:ops[i]? =some o)(g:HF P ops N F E M L o K)(h:∀v M' L',K v M' L'->MLe M M'/\(∀p∈Li,p∈L')/\JD P ops N p Mw Lw Q rs ((d,v)::F) E M' L' Mi Li)(j:o.dst=some d:=by rfl)(k:Nat.blt d N.n=true:=by rfl)(m:p.A i=true:=by rfl):JD P ops N p Mw Lw Q ((i,false)::rs) F E M L Mi Li:=λb l c e=>
 DA f j k g (λv M' L' a=>⟨Mi,Li,MLe.refl _,b.trans (h v M' L' a).1,λ_ h=>h,(h v M' L' a).2.1,(h v M' L' a).2.2⟩) m b l c e
theorem sh(c:ops[i]? =some o)(e:HF P ops N F E M L o K)
  (h:∀v M' L',K v M' L'->∃a b,MLe Mi a/\MLe a M'/\(∀p∈Li,p∈b)/\(∀p∈b,p∈L')/\JA P ops N Q fuel (listed.setIfInBounds i true) ((d,v)::F) E M' L' a b) (f:o.dst=some d:=by rfl) (g:Nat.blt d N.n=true:=by rfl):JS P ops N Q fuel listed F E M L Mi Li i:=js_h c f g e h
section
variable{x:Operand}{xs:List Operand}{T:Array TypeId}{f:FuncId}{first captured vs all:List Value}{post:Value->Mem->Lc->Prop}
theorem hC(hs:SpecL P f all.toArray M R post)[hp:Pick R L L2](i:gd ops F o=some true:=by rfl)(h:o.op=.call { callee:=.value x,args:=xs.toArray,argTypes:=T }:=by rfl)(e:ev F x=some (.func (.func f) first.toArray captured.toArray):=by rfl)(g:evs F xs=some vs:=by rfl)(a:first++vs++captured=all:=by rfl)(b:EN P f=true:=by kernel_rfl):
  HF P ops N F E M L o (λv d L'=>MLe M d/\∃c,L'=c++L2/\post v d c):=Bu i h e g a b hs
theorem qC(hs:SpecL P f all.toArray M [] (λu _ _=>u=v))(g:gd ops F o=some true:=by rfl)(e:o.op=.call { callee:=.value x,args:=xs.toArray,argTypes:=T }:=by rfl)(c:ev F x=some (.func (.func f) first.toArray captured.toArray):=by rfl)(d:evs F xs=some vs:=by rfl)(a:first++vs++captured=all:=by rfl)(b:EN P f=true:=by kernel_rfl):
  QF P ops N F M L o v:=CG g e c d a b hs
end
section
variable{fn:Func}{n:Nat}{W:World}{X:List Nat}{M0:Mem}{post:Value->Mem->Lc->Prop}
theorem zd(L':Lc){r:List ResultVar}{vs:List Value}(a:fn.results=r.toArray)(hp:post (ZW vs) M L')(h:RVs P F L r vs:=by repeat (first|exact RVs.nil|apply RVs.cons (.tmp rfl)|apply RVs.cons (.one rfl rfl rfl)|apply RVs.cons (.agg rfl rfl rfl)))(hs:L'.Sublist L:=by repeat (first|exact List.nil_sublist _|exact .refl _|exact List.sublist_append_left _ _|apply List.Sublist.cons_cons|apply List.Sublist.cons)):JQ ⟨n,[],none⟩ .ret F ⟨W,X,M0⟩ M L (Bq P fn ⟨W,X,M0⟩ post):=jrsd L' hs a h hp
end
def K1:List Nat->List (Nat×Bool)
 |[]=>[]
 |n::l=>(n%100,Nat.blt n 100)::K1 l
def phL(a u:List Nat):Ph:={ A:=λi=> !(a.contains i),U:=λi=> !(u.contains i) }
section
variable{id:Nat}{l:List Oper}
theorem LL(b:List Nat)(c:Lc)(h:JD P l.toArray N {} M c (NoPanic Q) (K1 b) F E M L M c)(e:∀p∈c,p∈L:=by first|exact λ_ h=>h|simp)(f:P.follows .mixedOrders=true:=by kernel_rfl)(hs:(Region.noSelect l.toArray&&ES l.toArray)=true:=by kernel_rfl)
  (d:DY l.toArray (K1 b) (Array.replicate l.length false)=true:=by kernel_rfl) (a:(K1 b).length=l.length:=by rfl):JC P N (.region id l.toArray true) F E M L Q:=WZ (K1 b) c f hs d a e h
theorem JG(b:List Nat)(h:JD P l.toArray N {} M L (NoPanic Q) (K1 b) F E M L M L)(d:P.follows .mixedOrders=true:=by kernel_rfl)(hs:(Region.noSelect l.toArray&&ES l.toArray)=true:=by kernel_rfl)
  (c:DY l.toArray (K1 b) (Array.replicate l.length false)=true:=by kernel_rfl) (a:(K1 b).length=l.length:=by rfl):JC P N (.region id l.toArray true) F E M L Q:=WZ (K1 b) L d hs c a (λ_ h=>h) h
theorem Hr(a u c:List Nat)(k:Mem)(d m:Lc)(h:JD P l.toArray N (phL a u) k m (NoPanic Q) (K1 c) F E M L M d)(j:∀p∈d,p∈L:=by first|exact λ_ h=>h|simp)(g:MLe k M:=by first|exact MLe.refl _|assumption)(i:∀p∈m,p∈d:=by first|exact λ_ h=>h|simp)(n:P.follows .mixedOrders=true:=by kernel_rfl)(hs:(Region.noSelect l.toArray&&ES l.toArray)=true:=by kernel_rfl)
  (f:DY l.toArray (K1 c) (Array.replicate l.length false)=true:=by kernel_rfl) (e:K0 (phL a u) l.toArray=true:=by kernel_rfl) (b:(K1 c).length=l.length:=by rfl):JC P N (.region id l.toArray true) F E M L Q:=Tl (K1 c) k d m n hs f e b j g i h
end
structure Tag(l:List Nat):Prop where mk::
theorem wLw{r:List Nat}(t:Tag (i::r))(c:ops[i]? =some o)(b:QF P ops N F Mi Li o v)(k:Tag r->JA P ops N (NoPanic Q) fuel (listed.setIfInBounds i true) ((d,v)::F) E M L Mi Li)(e:o.dst=some d:=by rfl)(f:Nat.blt d N.n=true:=by rfl)(hs:(Region.noSelect ops&&ES ops)=true:=by kernel_rfl)(a:((Region.ready .any ops listed).contains i&&Region.free .any ops listed i)=true:=by kernel_rfl):JA P ops N (NoPanic Q) (fuel+1) listed F E M L Mi Li:=GJ c hs a e f b (k ⟨⟩)
theorem aO(i:Nat)(h:JS P ops N Q fuel listed F E M L Mi Li i)(a:(Region.ready .any ops listed==[i])=true:=by kernel_rfl):JA P ops N Q (fuel+1) listed F E M L Mi Li:=wMy a h
theorem aG{M':Mem}{L':Lc}(d:MLe Mi M')(h:JA P ops N Q fuel listed F E M' L' Mi Li)(c:∀p∈Li,p∈L':=by simp):∃a b,MLe Mi a/\MLe a M'/\(∀p∈Li,p∈b)/\(∀p∈b,p∈L')/\JA P ops N Q fuel listed F E M' L' a b:=wJk d c h
theorem aR{α:Type}{b:α->Prop}{e:α->Fr}{c:α->Mem}{d:α->Lc}(a:∀x,b x->JA P ops N Q fuel listed2 (e x) E (c x) (d x) Mi Li)(x:α)(f:b x)(g:listed=listed2:=by kernel_rfl)(k:Keep F (e x):=by repeat (first|exact .nil|refine .cons rfl ?_)):JA P ops N Q fuel listed F E (c x) (d x) Mi Li:=Cr g (Cq k (a x f))
end
variable{A:Prop}
theorem gk(l:List Nat){B:Prop}(h:B)(f:Tag l->Hid B->A:=by
 intro t h
 repeat (first
  |(refine wLw t rfl (qA rfl rfl rfl rfl rfl (by omega)) ?_;intro t)
  |(refine wLw t rfl (qP rfl rfl) ?_;intro t)
  |(refine wLw t rfl (Ak rfl rfl rfl rfl rfl) ?_;intro t)
  |(refine wLw t rfl (AE rfl rfl rfl rfl (CJ.loc rfl)) ?_;intro t)
  |(refine wLw t rfl (KZ rfl rfl rfl) ?_;intro t)
  |(refine wLw t rfl (Gz rfl rfl rfl rfl rfl rfl) ?_;intro t)
  |(refine wLw t rfl (BZ rfl rfl rfl) ?_;intro t)
  |(refine wLw t rfl (Ca rfl rfl rfl rfl (by omega)) ?_;intro t))
 exact h.out):A:=f ⟨⟩ ⟨h⟩
set_option maxRecDepth 8000
def plain:Obj->Bool
 |.cells _ _ fz=>decide (fz=(0,0))
 |_=>false
def Cf(M M':Mem):Mem:=λb=>match M b with|none=>(match M' b with|some o=>if plain o=true then some o else none|none=>none)|some _=>none
variable{M:Mem}{b:Nat}{o:Obj}
theorem newOf_iff{M':Mem}:Cf M M' b=some o↔M b=none/\M' b=some o/\plain o=true:=by
 grind[Cf,plain]
theorem EF(M M':Mem):MLe (Cf M M') M':=λb o h=>(newOf_iff.1 h).2.1
theorem NR{a M2:Mem}(h:MLe a M2):MLe (Cf M a) (Cf M M2):=λb o c=>by
 obtain⟨f,e,d⟩:=newOf_iff.1 c
 exact newOf_iff.2 ⟨f,h b o e,d⟩
variable{M0:Mem}
theorem Fd{M':Mem}(h:MLe M0 M):MLe (Cf M M') (Cf M0 M'):=λb o c=>by
 obtain⟨a,e,d⟩:=newOf_iff.1 c
 refine newOf_iff.2 ⟨?_,e,d⟩
 cases f:M0 b with
 |none=>rfl
 |some x=>rw[h b x f]at a;cases a
section
variable{P:Program}{ops:Array Oper}{N:Fs}{F:Fr}{W:World}{X:List Nat}{M0 M:Mem}{L:Lc}{o:Oper}{Q:Exit->Act->World->Prop}{rest:List Oper}
theorem Own.freezeN{v:Value}{R:Lc}{e:TypeId}{d n:Nat}{xs:List Value}(j:Own v R e d n xs)(r:∀p∈R,p.1∉X){w:World}(h:St ⟨W,X,M0⟩ M (R++L) w):∃f a b,MLe M f/\v=.slice a n b/\n<=b/\SM (Cf M f) a xs/\St ⟨W,X,M0⟩ f L w:=by
 rcases j.2 with⟨rfl,rfl,rfl⟩|⟨g,b,c,rfl,rfl,s,B,z,y⟩
 ·have:xs=[]:=List.eq_nil_of_length_eq_zero (by simpa using j.1)
  subst this
  exact⟨M,none,0,MLe.refl _,rfl,Nat.le_refl _,.inl rfl,h⟩
 have o:M g=none:=(h.locs (g,.cells c e (0,0)) (by simp)).2.2
 obtain⟨m,l,k⟩:=St.freeze' (r (g,.cells c e (0,0)) (by simp)) h
 refine⟨_,_,b,l,rfl,s,.inr ⟨g,0,rfl,λi u t=>⟨c,e,(0,0),?_,?_⟩⟩,m⟩
 ·exact newOf_iff.2 ⟨o,k,rfl⟩
 grind
theorem Rf{v:Value}{R L2:Lc}{e:TypeId}{c n:Nat}{xs:List Value}(l:Own v R e c n xs)[hp:Pick R L L2](m:∀p∈R,p.1∉X)
  (h:∀M' a b,MLe M M'->v=.slice a n b->n<=b->SM (Cf M M') a xs->JL P ops N Q rest F ⟨W,X,M0⟩ M' L2):JL P ops N Q rest F ⟨W,X,M0⟩ M L:=by
 intro a w o k
 obtain⟨M',r,b,j,i,g,f,d⟩:=l.freezeN m (k.perm hp.perm)
 exact h M' r b j i g f a w o d
theorem WX{d:Exit}{v:Value}{R L2:Lc}{e:TypeId}{c n:Nat}{xs:List Value}(m:Own v R e c n xs)[hp:Pick R L L2](o:∀p∈R,p.1∉X)
  (h:∀M' a b,MLe M M'->v=.slice a n b->n<=b->SM (Cf M M') a xs->JQ N d F ⟨W,X,M0⟩ M' L2 Q):JQ N d F ⟨W,X,M0⟩ M L Q:=by
 intro a w r l
 obtain⟨M',s,b,k,j,i,g,f⟩:=m.freezeN o (l.perm hp.perm)
 exact h M' s b k j i g a w r f
end
def Gq(M:Mem):Lc->Mem
 |[]=>M
 |p::R=>(Gq M R).set p.1 p.2
theorem HH:∀{R:Lc},b∉R.map (·.1)->Gq M R b=M b
 |[],_=>rfl
 |p::R,h=>by
  rw[List.map_cons,List.mem_cons,not_or]at h
  show (if b=p.1 then some p.2 else Gq M R b)=_
  simp_all [HH]
theorem GT{p:Nat×Obj}:∀{R:Lc},(R.map (·.1)).Nodup->p∈R->Gq M R p.1=some p.2
 |q::R,a,h=>by
  rw[List.map_cons,List.nodup_cons]at a
  show (if p.1=q.1 then some q.2 else Gq M R p.1)=_
  rcases List.mem_cons.1 h with rfl|h
  ·grind
  have:p.1≠q.1:=λe=>a.1 (by rw[<-e];exact List.mem_map.2 ⟨p,h,rfl⟩)
  simp_all [GT]
variable{R:Lc}
theorem MY(h:∀p∈R,M p.1=none):MLe M (Gq M R):=λb o a=>by
 have:b∉R.map (·.1):=λd=>by
  obtain⟨p,c,rfl⟩:=List.mem_map.1 d
  rw[h p c]at a;cases a
 rw[HH this];exact a
def Nl(M:Mem)(R:Lc):Mem:=λb=>if b∈R.map (·.1)then none else M b
theorem wGe(M:Mem)(R:Lc):MLe (Nl M R) M:=λb o h=>by
 unfold Nl at h;split at h
 ·cases h
 exact h
theorem Yo{c:Mem}(e:(R.map (·.1)).Nodup):MLe (Cf (Gq M R) c) (Nl c R):=λb o h=>by
 have g:b∉R.map (·.1):=λf=>by
  obtain⟨p,d,rfl⟩:=List.mem_map.1 f
  have a:=(newOf_iff.1 h).1
  rw[GT e d]at a;cases a
 unfold Nl;rw[if_neg g];exact EF _ _ _ _ h
variable{W:World}{X:List Nat}
theorem St.lend{L:Lc}{w:World}(h:St ⟨W,X,M0⟩ M (R++L) w):(R.map (·.1)).Nodup/\∀p∈R,M p.1=none:=by
 refine⟨?_,λp a=>(h.locs p (List.mem_append_left _ a)).2.2⟩
 have:=h.nodup
 grind
variable{P:Program}{args:Array Value}{f:FuncId}{post:Value->Mem->Lc->Prop}
theorem SpecL.lend{L:Lc}(h:(R.map (·.1)).Nodup->(∀p∈R,M p.1=none)->SpecL P f args (Gq M R) L post):
  SpecL P f args M (R++L) λv K L'=>∃j r,post v j r/\L'=R++r/\K=Nl j R/\(R.map (·.1)).Nodup:=by
 intro w l
 obtain⟨n,D⟩:=l.lend
 have G:=MY D
 have i:=l.nodup
 rw[List.map_append]at i
 have C:∀p∈L,p.1∉R.map (·.1):=λp a d=>(List.nodup_append.1 i).2.2 _ d _ (List.mem_map_of_mem a) rfl
 have t:St ⟨w,L.map (·.1),Gq M R⟩ (Gq M R) L w:=by
  refine { os:=rfl,tape:=rfl,output:=rfl,size:=Nat.le_refl _,same:=λ_ _ _=>rfl,fresh:=λ_ _=>rfl,agree:=λb o m=>?_,locs:=λp a=>?_,nodup:=(List.nodup_append.1 i).2.1 }
  ·by_cases d:b∈R.map (·.1)
   ·obtain ⟨p,a,rfl⟩:=List.mem_map.1 d
    rw[GT n a]at m;cases m
    exact(l.locs p (List.mem_append_left _ a)).1
   rw[HH d]at m;exact l.agree b o m
  obtain⟨J,I,H⟩:=l.locs p (List.mem_append_right _ a)
  grind[HH]
 refine(h n D w t).mono ?_
 rintro e N ⟨v,j,r,rfl,g,c⟩
 refine⟨v,Nl j R,R++r,rfl,⟨j,r,g,rfl,rfl,n⟩,?_⟩
 have z:∀p∈R,p.1<w.heap.size:=λp a=>BL (l.locs p (List.mem_append_left _ a)).1
 have u:∀p∈R,j p.1=some p.2:=λp a=>(c.fresh p.1 (z p a)).trans (GT n a)
 refine { os:=c.os,tape:=c.tape,output:=c.output,size:=c.size,same:=λk B s=>?_,fresh:=λk B=>?_,agree:=λb o m=>c.agree b o (wGe _ _ b o m),locs:=λp a=>?_,nodup:=?_ }
 ·refine c.same k B λd=>s ?_
  grind
 ·by_cases d:k∈R.map (·.1)
  ·grind [Nl]
  show Nl j R k=M k
  unfold Nl;rw[if_neg d,<-HH (M:=M) d];exact c.fresh k B
 ·rcases List.mem_append.1 a with a|a
  ·refine ⟨c.agree _ _ (u p a),.inr ?_,?_⟩
   ·grind
   grind[Nl]
  obtain⟨J,I,H⟩:=c.locs p a
  grind[Nl]
 rw[List.map_append,List.nodup_append]
 refine⟨n,c.nodup,λx s y E e=>?_⟩
 subst e
 obtain⟨p,a,rfl⟩:=List.mem_map.1 s
 obtain⟨q,F,e⟩:=List.mem_map.1 E
 have O:=(c.locs q F).2.2
 grind
variable{e:TypeId}{size:Nat}{xs:List Value}
theorem Own.lent{v:Value}{n:Nat}(d:Own v R e size n xs)(h:∀p∈R,M p.1=some p.2):∃a b,v=.slice a n b/\n<=b/\SM M a xs:=by
 rcases d.2 with⟨rfl,rfl,rfl⟩|⟨g,b,c,rfl,rfl,f,m,l,k⟩
 ·have:xs=[]:=List.eq_nil_of_length_eq_zero (by simpa using d.1)
  exact⟨none,0,rfl,Nat.le_refl _,.inl this⟩
 refine⟨_,b,rfl,f,.inr ⟨g,0,rfl,λi u j=>⟨c,e,(0,0),h (g,.cells c e (0,0)) (by simp),?_⟩⟩⟩
 grind
end Go.Proofs.YtdahhoicackcaaaGreat
