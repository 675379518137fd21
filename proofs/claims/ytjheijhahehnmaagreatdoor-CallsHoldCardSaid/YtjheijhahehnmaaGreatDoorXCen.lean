/- Lemmas. -/
import Derived.Test.YtjheijhahehnmaaGreatDoorXHm
namespace Go.Proofs.YtjheijhahehnmaaGreatDoor
open Go.Proofs.Tryz
set_option linter.unusedSimpArgs false
set_option linter.unusedVariables false
set_option linter.unusedSectionVars false
set_option maxHeartbeats 40000000
set_option maxRecDepth 8000
open Go.RowKit
def CI:Nat->List (Int×Value)->List MapEntry
 |_,[]=>[]
 |j,p::l=>{ key:=.int .i64 p.1,val:=p.2,born:=j }::CI (j+1) l
def Bg(l:List (Int×Value)):Obj:=.map (CI 0 l).toArray l.length
def MX(k:Int):List (Int×Value)->Nat->Option (Nat×Value)
 |[],_=>none
 |p::l,i=>if k=p.1 then some (i,p.2)else MX k l (i+1)
def CP(k:Int):List (Int×Value)->Option Value
 |[]=>none
 |p::l=>if k=p.1 then some p.2 else CP k l
def F7(k:Int)(v:Value):List (Int×Value)->List (Int×Value)
 |[]=>[(k,v)]
 |p::l=>if k=p.1 then (k,v)::l else p::F7 k v l
theorem Gd{q:IntKind}(k:Int):∀(l:List (Int×Value))(j i:Nat),Instr.findNow (.int q) (.int .i64 k) (CI j l) i=some (MX k l i)
 |[],_,_=>rfl
 |p::l,j,i=>by
  rw[CI,Instr.findNow,MX];by_cases h:k=p.1
  ·simp [Instr.sameNow,h]
  have a:(k==p.1)=false:=by simpa using h
  simp only[Instr.sameNow,if_true,a,if_neg h];exact Gd k l (j+1) (i+1)
theorem Wa(k:Int):∀(l:List (Int×Value))(i:Nat),(MX k l i=none/\CP k l=none)\/∃j v,MX k l i=some (i+j,v)/\CP k l=some v/\j<l.length
 |[],_=>.inl ⟨rfl,rfl⟩
 |p::l,i=>by
  rw[MX,CP];by_cases h:k=p.1
  ·rw [if_pos h,if_pos h];exact .inr ⟨0,p.2,rfl,rfl,by simp⟩
  rw[if_neg h,if_neg h];rcases Wa k l (i+1)with a|⟨j,v,a,b,c⟩
  ·exact .inl a
  exact .inr ⟨j+1,v,by rw[a];congr 2;omega,b,by simp;omega⟩
theorem U1(k:Int)(v:Value):∀(l:List (Int×Value))(i j:Nat),MX k l i=none->CI j (F7 k v l)=CI j l++[{ key:=.int .i64 k,val:=v,born:=j+l.length }]/\(F7 k v l).length=l.length+1
 |[],_,j,_=>⟨by simp[F7,CI],rfl⟩
 |p::l,i,j,h=>by
  rw[MX]at h;split at h
  ·cases h
  rename_i a;obtain⟨c,b⟩:=U1 k v l (i+1) (j+1) h;rw[F7,if_neg a];refine⟨?_,by simp[b]⟩;rw[CI,c,CI];simp[Nat.add_comm,Nat.add_left_comm]
theorem U0(k:Int)(v:Value):∀(l:List (Int×Value))(i j n:Nat)(u:Value),MX k l i=some (n,u)->i<=n/\CI j (F7 k v l)=(CI j l).modify (n-i) (λe=>{ e with key:=.int .i64 k,val:=v })/\(F7 k v l).length=l.length/\∃e,(CI j l)[n-i]? =some e/\e.key=.int .i64 k
 |[],_,_,_,_,h=>by cases h
 |p::l,i,j,n,u,h=>by
  rw[MX]at h;rw[F7];split at h
  ·rename_i a;cases h;rw[if_pos a];exact⟨Nat.le_refl _,by simp[CI],rfl,_,by simp[CI];rfl,by simp[a]⟩
  rename_i a;rw[if_neg a];obtain⟨m,g,f,e,d,c⟩:=U0 k v l (i+1) (j+1) n u h;have b:n-i=(n-(i+1))+1:=by omega
  refine⟨by omega,?_,by simp[f],e,?_,c⟩
  ·rw [CI,g,CI,b];rfl
  rw[CI,b];simpa using d
theorem Gz(k:Int)(v:Value):∀(l:List (Int×Value))(x:Int),CP x (F7 k v l)=if x=k then some v else CP x l
 |[],x=>by simp[F7,CP]
 |p::l,x=>by
  rw[F7];by_cases h:k=p.1
  ·rw [if_pos h,CP,CP];by_cases a:x=k
   ·simp [a]
   simp[a,<-h]
  rw[if_neg h,CP,CP,Gz k v l x];by_cases a:x=p.1
  ·rw [if_pos a,if_pos a,if_neg (λe=>h (by rw[<-e,a]))]
  rw[if_neg a,if_neg a]
section
variable{P:Program}{ops:Array Oper}{N:Fs}{F:Fr}{E:Ent}{M:Mem}{L:Lc}{o:Oper}
theorem Sy{t:TypeId}(e:gd ops F o=some true)(d:o.op=.makeMap t none):
  HF P ops N F E M L o (λv M' f=>∃b,v=.map (some b)/\M=M'/\f=(b,Bg [])::L):=CG e λa w g c=>
 ⟨_,_,M,_,.inl (by simp[execOp,d,Instr.makeMap,newObj];rfl),c.alloc (Bg []),_,rfl,rfl,rfl⟩
theorem Nt{t g m:TypeId}(h:P.underlying t=some (.map g m))(hk:P.underlying g=some (.int .i64)){w:World}{z:Value}(n:(zeroValue m).run P w=.ok z w){b:Nat}{l:List (Int×Value)}(o:w.heap[b]? =some (Bg l))(k:Int)(c:Bool):
  (Instr.lookup t (.map (some b)) (.int .i64 k) c).run P w=.ok (if c then .tuple #[(CP k l).getD z,.bool (CP k l).isSome]else (CP k l).getD z) w:=by
 have a:MapKept.IsKey (.int .i64) (.int .i64 k):=by simp[MapKept.IsKey]
 have d:Instr.findNow (.int .i64) (.int .i64 k) (CI 0 l).toArray.toList 0=some (MX k l 0):=Gd k l 0 0;have i:=MapKept.run_getObj_map (P:=P) (w:=w) (r:=b) (es:=(CI 0 l).toArray) (clock:=l.length) o;rcases Wa k l 0 with⟨f,e⟩|⟨j,v,f,e,_⟩
 ·rw [f]at d;simp[Instr.lookup,run_underlying h,i,MapKept.run_checkKey hk a,MapKept.run_findKey hk d,Result.andThen,n,e]
 rw[f]at d;simp[Instr.lookup,run_underlying h,i,MapKept.run_checkKey hk a,MapKept.run_findKey hk d,Result.andThen,e]
theorem Uk{c:TypeId}{z:Value}(a:(P.info? c).bind (·.zero)=some z)(w:World):(zeroValue c).run P w=.ok z w:=by
 cases b:P.info? c with
 |none=>rw[b]at a;cases a
 |some d=>
  rw[b]at a
  have e:d.zero=some z:=a
  simp[zeroValue,typeInfo,b,e]
theorem UY{t d f:TypeId}{x y:Operand}{b:Nat}{k:Int}{l:List (Int×Value)}{z:Value}(s:gd ops F o=some true)(n:o.op=.lookup t x y false)(i:ev F x=some (.map (some b)))(g:ev F y=some (.int .i64 k))
  [m:Und P t (.map d f)] [hk:Und P d (.int .i64)] [c:At b (Bg l) L] (u:(P.info? f).bind (·.zero)=some z):QF P ops N F M L o ((CP k l).getD z):=Br s λa e w j=>by
 have:=Nt (P:=P) m.h hk.h (Uk u w) (j.locs _ c.mem) k false
 simp only[Bool.false_eq_true,if_false]at this
 simp[execOp,n,e.ev i,e.ev g,this]
theorem wCa{t d f:TypeId}{x y:Operand}{b:Nat}{k:Int}{l:List (Int×Value)}{z:Value}(s:gd ops F o=some true)(n:o.op=.lookup t x y true)(i:ev F x=some (.map (some b)))(g:ev F y=some (.int .i64 k))
  [m:Und P t (.map d f)] [hk:Und P d (.int .i64)] [c:At b (Bg l) L] (u:(P.info? f).bind (·.zero)=some z):QF P ops N F M L o (.tuple #[(CP k l).getD z,.bool (CP k l).isSome]):=Br s λa e w j=>by
 have:=Nt (P:=P) m.h hk.h (Uk u w) (j.locs _ c.mem) k true
 simp only[if_true]at this
 simp[execOp,n,e.ev i,e.ev g,this]
theorem UK{t j s:TypeId}(m:P.underlying t=some (.map j s))(hk:P.underlying j=some (.int .i64)){w:World}{b:Nat}{l:List (Int×Value)}(f:w.heap[b]? =some (Bg l))(k:Int)(v:Value):
  (Instr.mapUpdate t (.map (some b)) (.int .i64 k) v).run P w=.ok () { w with heap:=w.heap.setIfInBounds b (Bg (F7 k v l)) }:=by
 have a:MapKept.IsKey (.int .i64) (.int .i64 k):=by simp[MapKept.IsKey]
 have c:Instr.findNow (.int .i64) (.int .i64 k) (CI 0 l).toArray.toList 0=some (MX k l 0):=Gd k l 0 0;have o:=MapKept.run_getObj_map (P:=P) (w:=w) (r:=b) (es:=(CI 0 l).toArray) (clock:=l.length) f;cases d:MX k l 0 with
 |none=>
  rw[d]at c
  obtain⟨i,h⟩:=U1 k v l 0 0 d
  have g:Bg (F7 k v l)=.map ((CI 0 l).toArray.push { key:=.int .i64 k,val:=v,born:=l.length }) (l.length+1):=by
   unfold Bg;rw[i,h];simp
  simp[Instr.mapUpdate,run_underlying m,o,MapKept.run_checkKey hk a,MapKept.run_findKey hk c,Result.andThen,MapKept.run_setObj_map _ (show w.heap[b]? =some (.map (CI 0 l).toArray l.length)from f),g]
 |some r=>
  obtain⟨n,u⟩:=r
  rw[d]at c
  obtain⟨_,i,h,e,B,z⟩:=U0 k v l 0 0 n u d
  have g:Bg (F7 k v l)=.map ((CI 0 l).toArray.modify n (λe=>{ e with key:=.int .i64 k,val:=v })) l.length:=by
   unfold Bg;rw[i,h];simp
  have y:(CI 0 l)[n]? =some e:=by simpa using B
  simp[Instr.mapUpdate,run_underlying m,o,MapKept.run_checkKey hk a,MapKept.run_findKey hk c,Result.andThen,y,z,MapKept.run_keyThatStays a,MapKept.run_setObj_map _ (show w.heap[b]? =some (.map (CI 0 l).toArray l.length)from f),g]
theorem VN{t i H:TypeId}{x y z:Operand}{b:Nat}{k:Int}{v:Value}{l:List (Int×Value)}{L':Lc}(G:gd ops F o=some true)(c:o.op=.mapUpdate t x y z\/o.op=.insert t x y z)(s:ev F x=some (.map (some b)))(n:ev F y=some (.int .i64 k))(m:ev F z=some v)
  [u:Und P t (.map i H)] [hk:Und P i (.int .i64)] [f:At b (Bg l) L] [D:PutAt b (Bg l) (Bg (F7 k v l)) L L']:HF P ops N F E M L o (λ_ M' g=>M=M'/\g=L'):=CG G λa w e j=>by
 have d:w.heap[b]? =some (Bg l):=(j.locs (b,Bg l) f.mem).1
 obtain⟨A,B,rfl,rfl⟩:=D.ex
 have C:=UK (P:=P) u.h hk.h d k v
 refine⟨undef,{ w with heap:=w.heap.setIfInBounds b (Bg (F7 k v l)) },M,_,.inr ⟨rfl,?_⟩,j.setObj rfl rfl rfl (by simp) (MapKept.heap_set d).1 (λk hk=>(MapKept.heap_set d).2 k hk),rfl,rfl⟩
 rcases c with c|c<;>simp[execOp,c,e.ev s,e.ev n,e.ev m,C]
end
abbrev DX:TypeId:=75
abbrev wTr:TypeId:=94
abbrev TNd:TypeId:=81
abbrev Ri(lv:Int)(sl:Value)(p:Sp):List Value:=[iL lv,sl,iB p.first.kind,iU p.first.id,iU p.first.off,iB p.last.kind,iU p.last.id,iU p.last.off,.bool p.is]
abbrev spnZ:List Value:=[iL 0,sN,iB 0,iU 0,iU 0,iB 0,iU 0,iU 0,.bool false]
def KX(o:Option Sp):Sp:=o.getD ⟨⟨0,0,0⟩,⟨0,0,0⟩,true⟩
def Cd(s:Sto)(lv:Int)(xs:List It):Sp:=if xs=[]then KX none else A4 (AR s lv.toNat) none xs
def Qa(s:Sto)(k level:Int):Option (Int×List It):=if k<8\/256<=k then none else match Ag s k.toNat with
 |none=>none
 |some (lv,xs)=>if 0<=level/\(lv≠level\/xs=[])then none else some (lv,xs)
variable{k level:Int}{s:Sto}
theorem ZC(h:k<8\/256<=k):Qa s k level=none:=by grind[Qa]
theorem Vv(h:Ag s k.toNat=none):Qa s k level=none:=by grind[Qa]
variable{lv:Int}{xs:List It}
theorem Ln(h:Ag s k.toNat=some (lv,xs))(a:0<=level/\(lv≠level\/xs=[])):Qa s k level=none:=by
 grind[Qa]
theorem Ft(hk:8<=k/\k<256)(h:Ag s k.toNat=some (lv,xs))(a:¬(0<=level/\(lv≠level\/xs=[]))):Qa s k level=some (lv,xs):=by
 grind[Qa]
theorem Tv(h:Qa s k level=some (lv,xs)):8<=k/\k<256/\Ag s k.toNat=some (lv,xs)/\(0<=level->lv=level/\xs≠[]):=by
 grind[Qa]
theorem wRm{l:Nat}{x:It}(d:8<=x.ref/\x.ref<256):AR s (l+1) x=match Qa s x.ref (l:Int)with|none=>Cq|some (lv,c)=>Cd s lv c:=by
 cases b:Ag s x.ref.toNat with
 |none=>rw[Vv b];simp only[AR,b]
 |some q=>
  obtain⟨lv,c⟩:=q
  by_cases a:lv=(l:Int)/\c≠[]
  ·rw [Ft d b (λh=>h.2.elim (λh=>h a.1) (λh=>a.2 h))]
   simp only[AR,b]
   rw[iP a];unfold Cd;rw[iN a.2,a.1];rfl
  rw[Ln b ⟨by omega,by
   by_cases h:lv=(l:Int)
   ·exact .inr (Classical.byContradiction λe=>a ⟨h,e⟩)
   exact .inl h⟩]
  simp only[AR,b];rw[iN a]
variable{n:Nat}{o:Option Sp}
theorem GT{k:Nat}(a:lv.toNat=n)(hk:k<xs.length)(b:A4 (AR s n) none xs=A4 (AR s n) o (xs.drop k))(h:Aq (AR s n xs[k]) o xs[k]=false):Cd s lv xs=Cq:=by
 grind[Cd,Dx]
theorem wHk{k:Nat}(c:lv.toNat=n)(hk:k=xs.length)(b:o=none↔k=0)(d:A4 (AR s n) none xs=A4 (AR s n) o (xs.drop k)):Cd s lv xs=KX o:=by
 unfold Cd;by_cases a:xs=[]
 ·rw [iP a,b.2 (by rw[hk,a];rfl)]
 rw[iN a,c,Yb hk d];cases o with
 |none=>exact aD (List.eq_nil_of_length_eq_zero (by rw[<-hk];exact b.1 rfl)) a
 |some p=>rfl
structure MapI(M:Mem)(s:Sto)(l:List (Int×Value)):Prop where
 ent:∀k v,CP k l=some v->8<=k/\k<256/\∃lv xs sl,Ag s k.toNat=some (lv,xs)/\NS M sl xs/\v=.agg (Ri lv sl (Cd s lv xs)).toArray
 kid:∀k lv xs,(CP k l).isSome=true->Ag s k.toNat=some (lv,xs)->(Cd s lv xs).is=true->0<lv->∀x∈xs,(CP x.ref l).isSome=true
variable{M M':Mem}{l:List (Int×Value)}
theorem MapI.mono(h:MapI M s l)(b:MLe M M'):MapI M' s l:=
 ⟨λk v a=>by obtain⟨g,f,lv,xs,sl,e,d,c⟩:=h.ent k v a;exact⟨g,f,lv,xs,sl,e,d.mono b,c⟩,h.kid⟩
theorem MapI.nil:MapI M s []:=⟨λk v h=>(by cases h),λk lv xs h=>(by cases h)⟩
def Ext(l l':List (Int×Value)):Prop:=∀k,(CP k l).isSome=true->(CP k l').isSome=true
theorem Ext.refl(l:List (Int×Value)):Ext l l:=λ_ h=>h
variable{l':List (Int×Value)}
theorem Ext.trans{a:List (Int×Value)}(h:Ext l l')(c:Ext l' a):Ext l a:=λk b=>c k (h k b)
theorem Pj{v:Value}:Ext l (F7 k v l):=λx a=>by
 rw[Gz]
 split
 ·rfl
 exact a
theorem MapI.put{sl:Value}(h:MapI M s l)(hk:8<=k/\k<256)(g:Ag s k.toNat=some (lv,xs))(hs:NS M sl xs)(n:(Cd s lv xs).is=true->0<lv->∀x∈xs,(CP x.ref l).isSome=true):
  MapI M s (F7 k (.agg (Ri lv sl (Cd s lv xs)).toArray) l):=by
 refine⟨λj v c=>?_,λj b a e d m i x f=>?_⟩
 ·rw [Gz]at c;split at c
  ·grind
  exact h.ent j v c
 refine Pj _ ?_;rw[Gz]at e;split at e
 ·grind
 exact h.kid j b a e d m i x f
structure CN(M:Mem)(s:Sto)(nv pb:Value):Prop where
 now:BS M nv s.now
 bn:BN M pb s
variable{nv:Value}
theorem CN.mono{a:Value}(h:CN M s nv a)(b:MLe M M'):CN M' s nv a:=⟨h.now.mono b,h.bn.mono b⟩
abbrev CX(bv wv nv lw pb:Value)(m:Nat)(rest:List Value):List Value:=bv::wv::nv::lw::pb::.map (some m)::rest
def LrP(s:Sto)(k level:Int)(u:Value)(M':Mem)(l':List (Int×Value)):Prop:=match Qa s k level with
 |none=>u=.agg spnZ.toArray
 |some (lv,xs)=>∃sl,NS M' sl xs/\u=.agg (Ri lv sl (Cd s lv xs)).toArray/\(CP k l').isSome=true
variable{u:Value}
theorem LrP.form(h:LrP s k level u M' l'):∃lv a n c p,u=.agg (Ri lv (.slice a n c) p).toArray/\
  ((Qa s k level=none/\p=Cq)\/∃xs,Qa s k level=some (lv,xs)/\n=xs.length/\NS M' (.slice a n c) xs/\p=Cd s lv xs/\(CP k l').isSome=true):=by
 unfold LrP at h;split at h
 ·grind [Cq]
 rename_i lv xs e;obtain⟨sl,b,rfl,f⟩:=h;obtain⟨a,c,d,rfl,_⟩:=id b;grind
def L3(s:Sto)(cb m:Nat)(bv wv nv lw pb:Value)(rest:List Value)(lv:Int):Prop:=∀(xs:List It)(sl:Value)(M:Mem)(l:List (Int×Value)),CN M s nv pb->MapI M s l->NS M sl xs->NdOk lv xs->
 Sg 86 #[pB cb,.agg #[iL lv,sl]] M [(cb,cE (CX bv wv nv lw pb m rest) DX),(m,Bg l)]
  λu M' L'=>∃l',L'=[(cb,cE (CX bv wv nv lw pb m rest) DX),(m,Bg l')]/\MapI M' s l'/\Ext l l'/\u=.agg (Ri lv sl (Cd s lv xs)).toArray/\((Cd s lv xs).is=true->0<lv->∀x∈xs,(CP x.ref l').isSome=true)
def L4(s:Sto)(cb m:Nat)(bv wv nv lw pb:Value)(rest:List Value)(level:Int):Prop:=∀(k:Int)(M:Mem)(l:List (Int×Value)),CN M s nv pb->MapI M s l->
 Sg 43 #[pB cb,iL k,iL level] M [(cb,cE (CX bv wv nv lw pb m rest) DX),(m,Bg l)]
  λu M' L'=>∃l',L'=[(cb,cE (CX bv wv nv lw pb m rest) DX),(m,Bg l')]/\MapI M' s l'/\Ext l l'/\LrP s k level u M' l'
theorem wBu(s:Sto)(ab:Au s)(L m:Nat)(R P nv Q N:Value)(z:List Value)(xs:List It)(a:Option Addr)(c:Nat)(ps:List (It×Value))(M:Mem)(l:List (Int×Value))(aa:CN M s nv N)(ag:MapI M s l)(hc:xs.length<=c)(hs:SM M a (ps.flatMap Ad))(hp:ps.map (·.1)=xs)(G:∀p∈ps,BS M p.2 p.1.val)(X:NdOk 0 xs):
  Sg 86 #[pB L,.agg #[iL 0,.slice a xs.length c]] M [(L,cE (CX R P nv Q N m z) DX),(m,Bg l)] λu M' L'=>∃l',L'=[(L,cE (CX R P nv Q N m z) DX),(m,Bg l')]/\MapI M' s l'/\Ext l l'/\u=.agg (Ri 0 (.slice a xs.length c) (Cd s 0 xs)).toArray/\((Cd s 0 xs).is=true->0<(0:Int)->∀x∈xs,(CP x.ref l').isSome=true):=by
 have av:=X.lev;have al:=X.len;obtain⟨na,T,rfl,au,ae⟩:=id aa.now;have af:s.now.length=256:=ab.2.1.1;obtain⟨U,no,e0,ad⟩:=ae.open (by intro e;have:=cA List.length e;rw[Ac,List.length_nil]at this;omega);subst e0;refine sB func86 ntmps86 ?_;intro W;refine VY λb3 b4 b5=>?_;refine Cy (α:=Nat×Mem×Option Sp×List (Int×Value)) (λx=>[(0,pB L),(3,pB b3),(4,pB b4),(5,pB b5),(12,.slice a xs.length c),(13,iL xs.length),(14,iL x.1)]) (λx=>x.2.1) (λx=>[(b5,cE (Ri 0 (.slice a xs.length c) (KX x.2.2.1)) wTr),(b4,.cells spnZ.toArray wTr (0,0)),(b3,cE [iL 0,.slice a xs.length c] TNd),(L,cE (CX R P (.slice (sA U no) s.now.length T) Q N m z) DX),(m,Bg x.2.2.2)]) (λx=>x.1<=xs.length/\MLe M x.2.1/\(x.2.2.1=none↔x.1=0)/\A4 (AR s 0) none xs=A4 (AR s 0) x.2.2.1 (xs.drop x.1)/\MapI x.2.1 s x.2.2.2/\Ext l x.2.2.2/\(0<(0:Int)->∀y∈xs.take x.1,(CP y.ref x.2.2.2).isSome=true)/\(KX x.2.2.1).is=true) (λx=>xs.length-x.1) (0,M,none,l) ⟨zL,mR,by simp,rfl,ag,Ext.refl _,λ_ y hy=>by simp at hy,rfl⟩ ?_;rintro⟨k,Mk,o,lk⟩ ⟨hk,H,f,K,g,d,V,O⟩;try dsimp only at hk H f K g d V O⊢
 have am:=aa.mono H;have ac:=hs.mono H;have ai:=λp hp=>(G p hp).mono H;refine gj (λaj=>?_) λaj=>?_
 ·refine gh ?_;have E:k<xs.length:=by omega
  obtain⟨sb,so,e0,hx⟩:=ac.open (by intro e;have:=cA List.length e;rw[Af Ad 5 Ae,List.length_nil]at this;have h2:=cA List.length hp;rw[List.length_map]at h2;omega);subst e0;obtain⟨va,vc,ah,aq,ap⟩:=Av hx hp ai E;have ao:=X.ref xs[k] (List.getElem_mem E);refine gh ?_;refine lq (A0 (cs:=EL xs[k] va vc) rfl rfl rfl rfl rfl (λi v hv=>(ah i v hv).cj _)) ?_;refine ga λb7=>?_;refine Qp [0,1,2,3,4,5,6,7,8,9,10,11,12,13,14,15,16,17,18,19,120,121] ?_;refine gj (λZ=>?_) λZ=>?_
  ·refine gh ?_;refine Gu rfl rfl rfl (AW rfl rfl) ?_;rintro _ _ _ ⟨b8,rfl,rfl,rfl⟩;refine Cr (mR) (λ_ h=>List.mem_cons_of_mem _ h) (by first|exact mR|assumption) (by simp) ?_;refine gt ?_;obtain⟨p,b⟩:∃p:Sp,p=AR s 0 xs[k]:=⟨_,rfl⟩;rw[show ([iL 0,sN,iB xs[k].key.kind,iU xs[k].key.id,iU xs[k].key.off,iB xs[k].key.kind,iU xs[k].key.id,iU xs[k].key.off,.bool true]:List Value)=Ri 0 (sN) p by rw[b];simp[AR,Z]];refine BK rfl rfl (Aw rfl rfl rfl rfl (CJ.loc rfl)) (λD=>?_) (λD=>?_)
   ·refine gg ?_;refine BK rfl rfl (UW (ns:=[p.first.kind,p.first.id,p.first.off]) (ms:=[xs[k].key.kind,xs[k].key.id,xs[k].key.off]) rfl rfl rfl rfl rfl rfl ⟨rfl,rfl⟩) (λC=>?_) (λC=>?_)
    ·refine gh ?_;refine zd ([(L,cE (CX R P (.slice (sA U no) s.now.length T) Q N m z) DX),(m,Bg lk)]) rfl ?_;have G:Cd s 0 xs=Cq:=GT (n:=0) rfl E K (by first|(rw[<-b];simp[Aq,D];done)|(rw[<-b];simp[Aq,show ¬p.first=xs[k].key from λe=>oT C (by rw[e])];done)|(obtain⟨q,rfl⟩:=Option.ne_none_iff_exists'.1 (λe=>by have:=f.1 e;omega:o≠none);rw[<-b];simp[Aq,show Ap q.last p.first=false from F]));exact⟨lk,rfl,g,d,by rw[G];rfl,λh=>by rw[G]at h;cases h⟩
    refine gj (λY=>?_) λY=>?_
    ·refine gg ?_;refine BK rfl rfl (Dc rfl rfl rfl rfl rfl (by kernel_rfl) (Ch (KX o).last p.first _)) (λF=>?_) (λF=>?_)
     ·refine gj (λJ=>?_) λJ=>?_
      ·exfalso;omega
      refine gh ?_;have I:p.first=xs[k].key:=by have:=DZ p.first xs[k].key;rw[dT (nN (oF C))]at this;exact oT this.symm
      obtain⟨q,rfl⟩:∃q,o=some q:=by
        cases o with
        |none=>have:=f.1 rfl;omega
        |some q=>exact⟨q,rfl⟩
      have B:0<(0:Int)->∀x∈xs.take (k+1),(CP x.ref lk).isSome=true:=λS=>aD S (by decide);refine BB (k+1,Mk,some (Bi p (some q)),lk) ⟨by show k+1<=xs.length;omega,H,by simp,?_,g,d,B,rfl⟩ (hs:=?_)
      ·show A4 _ _ _=A4 _ (some (Bi p _)) _;rw[b];exact Hm E K (by rw[<-b];simp[Aq,D,<-I,show Ap q.last p.first=true from F])
      intro w h;rw[show (KX (some q)).is=true from O]at h;refine(h.fewer ?_:St _ _ _ w);exact .cons _ (.cons _ (.refl _))
     refine gh ?_;refine zd ([(L,cE (CX R P (.slice (sA U no) s.now.length T) Q N m z) DX),(m,Bg lk)]) rfl ?_;have G:Cd s 0 xs=Cq:=GT (n:=0) rfl E K (by first|(rw[<-b];simp[Aq,D];done)|(rw[<-b];simp[Aq,show ¬p.first=xs[k].key from λe=>oT C (by rw[e])];done)|(obtain⟨q,rfl⟩:=Option.ne_none_iff_exists'.1 (λe=>by have:=f.1 e;omega:o≠none);rw[<-b];simp[Aq,show Ap q.last p.first=false from F]));exact⟨lk,rfl,g,d,by rw[G];rfl,λh=>by rw[G]at h;cases h⟩
    refine gj (λJ=>?_) λJ=>?_
    ·refine gh ?_;have I:p.first=xs[k].key:=by have:=DZ p.first xs[k].key;rw[dT (nN (oF C))]at this;exact oT this.symm
     obtain rfl:o=none:=f.2 (by omega);have B:0<(0:Int)->∀x∈xs.take (k+1),(CP x.ref lk).isSome=true:=λS=>aD S (by decide);refine BB (k+1,Mk,some (Bi p none),lk) ⟨by show k+1<=xs.length;omega,H,by simp,?_,g,d,B,rfl⟩ (hs:=?_)
     ·show A4 _ _ _=A4 _ (some (Bi p _)) _;rw[b];exact Hm E K (by rw[<-b];simp[Aq,D,I])
     intro w h;refine(h.fewer ?_:St _ _ _ w);exact .cons _ (.cons _ (.refl _))
    exfalso;omega
   refine gh ?_;refine zd ([(L,cE (CX R P (.slice (sA U no) s.now.length T) Q N m z) DX),(m,Bg lk)]) rfl ?_;have G:Cd s 0 xs=Cq:=GT (n:=0) rfl E K (by first|(rw[<-b];simp[Aq,D];done)|(rw[<-b];simp[Aq,show ¬p.first=xs[k].key from λe=>oT C (by rw[e])];done)|(obtain⟨q,rfl⟩:=Option.ne_none_iff_exists'.1 (λe=>by have:=f.1 e;omega:o≠none);rw[<-b];simp[Aq,show Ap q.last p.first=false from F]));exact⟨lk,rfl,g,d,by rw[G];rfl,λh=>by rw[G]at h;cases h⟩
  refine gh ?_;have ak:0<=xs[k].ref/\xs[k].ref<256:=by omega
  refine gh ?_;refine dq rfl (Aw rfl rfl rfl rfl (((ad _ _ (by rw[mO];exact B5 (j:=xs[k].ref.toNat) (by omega))).mono H).cj _)) ?_;refine gh ?_;refine Gu rfl rfl rfl (AW rfl rfl) ?_;rintro _ _ _ ⟨b8,rfl,rfl,rfl⟩;refine Cr (mR) (λ_ h=>List.mem_cons_of_mem _ h) (by first|exact mR|assumption) (by simp) ?_;refine gt ?_;obtain⟨p,b⟩:∃p:Sp,p=AR s 0 xs[k]:=⟨_,rfl⟩;rw[show ([iL 0,sN,iB xs[k].key.kind,iU xs[k].key.id,iU xs[k].key.off,iB xs[k].key.kind,iU xs[k].key.id,iU xs[k].key.off,.bool (decide (0<((s.now.getD xs[k].ref.toNat 0).toNat:Int)))]:List Value)=Ri 0 (sN) p by rw[b];simp[AR,Z]];refine BK rfl rfl (Aw rfl rfl rfl rfl (CJ.loc rfl)) (λD=>?_) (λD=>?_)
  ·refine gg ?_;refine BK rfl rfl (UW (ns:=[p.first.kind,p.first.id,p.first.off]) (ms:=[xs[k].key.kind,xs[k].key.id,xs[k].key.off]) rfl rfl rfl rfl rfl rfl ⟨rfl,rfl⟩) (λC=>?_) (λC=>?_)
   ·refine gh ?_;refine zd ([(L,cE (CX R P (.slice (sA U no) s.now.length T) Q N m z) DX),(m,Bg lk)]) rfl ?_;have G:Cd s 0 xs=Cq:=GT (n:=0) rfl E K (by first|(rw[<-b];simp[Aq,D];done)|(rw[<-b];simp[Aq,show ¬p.first=xs[k].key from λe=>oT C (by rw[e])];done)|(obtain⟨q,rfl⟩:=Option.ne_none_iff_exists'.1 (λe=>by have:=f.1 e;omega:o≠none);rw[<-b];simp[Aq,show Ap q.last p.first=false from F]));exact⟨lk,rfl,g,d,by rw[G];rfl,λh=>by rw[G]at h;cases h⟩
   refine gj (λY=>?_) λY=>?_
   ·refine gg ?_;refine BK rfl rfl (Dc rfl rfl rfl rfl rfl (by kernel_rfl) (Ch (KX o).last p.first _)) (λF=>?_) (λF=>?_)
    ·refine gj (λJ=>?_) λJ=>?_
     ·exfalso;omega
     refine gh ?_;have I:p.first=xs[k].key:=by have:=DZ p.first xs[k].key;rw[dT (nN (oF C))]at this;exact oT this.symm
     obtain⟨q,rfl⟩:∃q,o=some q:=by
       cases o with
       |none=>have:=f.1 rfl;omega
       |some q=>exact⟨q,rfl⟩
     have B:0<(0:Int)->∀x∈xs.take (k+1),(CP x.ref lk).isSome=true:=λS=>aD S (by decide);refine BB (k+1,Mk,some (Bi p (some q)),lk) ⟨by show k+1<=xs.length;omega,H,by simp,?_,g,d,B,rfl⟩ (hs:=?_)
     ·show A4 _ _ _=A4 _ (some (Bi p _)) _;rw[b];exact Hm E K (by rw[<-b];simp[Aq,D,<-I,show Ap q.last p.first=true from F])
     intro w h;rw[show (KX (some q)).is=true from O]at h;refine(h.fewer ?_:St _ _ _ w);exact .cons _ (.cons _ (.refl _))
    refine gh ?_;refine zd ([(L,cE (CX R P (.slice (sA U no) s.now.length T) Q N m z) DX),(m,Bg lk)]) rfl ?_;have G:Cd s 0 xs=Cq:=GT (n:=0) rfl E K (by first|(rw[<-b];simp[Aq,D];done)|(rw[<-b];simp[Aq,show ¬p.first=xs[k].key from λe=>oT C (by rw[e])];done)|(obtain⟨q,rfl⟩:=Option.ne_none_iff_exists'.1 (λe=>by have:=f.1 e;omega:o≠none);rw[<-b];simp[Aq,show Ap q.last p.first=false from F]));exact⟨lk,rfl,g,d,by rw[G];rfl,λh=>by rw[G]at h;cases h⟩
   refine gj (λJ=>?_) λJ=>?_
   ·refine gh ?_;have I:p.first=xs[k].key:=by have:=DZ p.first xs[k].key;rw[dT (nN (oF C))]at this;exact oT this.symm
    obtain rfl:o=none:=f.2 (by omega);have B:0<(0:Int)->∀x∈xs.take (k+1),(CP x.ref lk).isSome=true:=λS=>aD S (by decide);refine BB (k+1,Mk,some (Bi p none),lk) ⟨by show k+1<=xs.length;omega,H,by simp,?_,g,d,B,rfl⟩ (hs:=?_)
    ·show A4 _ _ _=A4 _ (some (Bi p _)) _;rw[b];exact Hm E K (by rw[<-b];simp[Aq,D,I])
    intro w h;refine(h.fewer ?_:St _ _ _ w);exact .cons _ (.cons _ (.refl _))
   exfalso;omega
  refine gh ?_;refine zd ([(L,cE (CX R P (.slice (sA U no) s.now.length T) Q N m z) DX),(m,Bg lk)]) rfl ?_;have G:Cd s 0 xs=Cq:=GT (n:=0) rfl E K (by first|(rw[<-b];simp[Aq,D];done)|(rw[<-b];simp[Aq,show ¬p.first=xs[k].key from λe=>oT C (by rw[e])];done)|(obtain⟨q,rfl⟩:=Option.ne_none_iff_exists'.1 (λe=>by have:=f.1 e;omega:o≠none);rw[<-b];simp[Aq,show Ap q.last p.first=false from F]));exact⟨lk,rfl,g,d,by rw[G];rfl,λh=>by rw[G]at h;cases h⟩
 refine gh ?_;refine zd ([(L,cE (CX R P (.slice (sA U no) s.now.length T) Q N m z) DX),(m,Bg lk)]) rfl ?_;have G:Cd s 0 xs=KX o:=wHk (n:=0) rfl (by omega) f K;obtain rfl:k=xs.length:=by omega
 exact⟨lk,rfl,g,d,by rw[G];rfl,λ_ S x hx=>V S x (by rw[List.take_length];exact hx)⟩
theorem wBt(s:Sto)(af:Au s)(Q m:Nat)(X S nv T R:Value)(g:List Value)(l:Nat)(hl:L4 s Q m X S nv T R g (l:Int))(xs:List It)(a:Option Addr)(c:Nat)(ps:List (It×Value))(M:Mem)(l0:List (Int×Value))(ac:CN M s nv R)(ak:MapI M s l0)(hc:xs.length<=c)(hs:SM M a (ps.flatMap Ad))(hp:ps.map (·.1)=xs)(J:∀p∈ps,BS M p.2 p.1.val)(K:NdOk ((l+1:Nat):Int) xs)  :
  Sg 86 #[pB Q,.agg #[iL ((l+1:Nat):Int),.slice a xs.length c]] M [(Q,cE (CX X S nv T R m g) DX),(m,Bg l0)] λu M' L'=>∃l',L'=[(Q,cE (CX X S nv T R m g) DX),(m,Bg l')]/\MapI M' s l'/\Ext l0 l'/\u=.agg (Ri ((l+1:Nat):Int) (.slice a xs.length c) (Cd s ((l+1:Nat):Int) xs)).toArray/\((Cd s ((l+1:Nat):Int) xs).is=true->0<((l+1:Nat):Int)->∀x∈xs,(CP x.ref l').isSome=true):=by
 have a1:=K.lev;have av:=K.len;obtain⟨na,nc,rfl,a0,ai⟩:=id ac.now;have aj:s.now.length=256:=af.2.1.1;obtain⟨nb,no,e0,ah⟩:=ai.open (by intro e;have:=cA List.length e;rw[Ac,List.length_nil]at this;omega);subst e0;refine sB func86 ntmps86 ?_;intro W;refine VY λb3 b4 b5=>?_;refine Cy (α:=Nat×Mem×Option Sp×List (Int×Value)) (λx=>[(0,pB Q),(3,pB b3),(4,pB b4),(5,pB b5),(12,.slice a xs.length c),(13,iL xs.length),(14,iL x.1)]) (λx=>x.2.1) (λx=>[(b5,cE (Ri ((l+1:Nat):Int) (.slice a xs.length c) (KX x.2.2.1)) wTr),(b4,.cells spnZ.toArray wTr (0,0)),(b3,cE [iL ((l+1:Nat):Int),.slice a xs.length c] TNd),(Q,cE (CX X S (.slice (sA nb no) s.now.length nc) T R m g) DX),(m,Bg x.2.2.2)]) (λx=>x.1<=xs.length/\MLe M x.2.1/\(x.2.2.1=none↔x.1=0)/\A4 (AR s (l+1)) none xs=A4 (AR s (l+1)) x.2.2.1 (xs.drop x.1)/\MapI x.2.1 s x.2.2.2/\Ext l0 x.2.2.2/\(0<((l+1:Nat):Int)->∀y∈xs.take x.1,(CP y.ref x.2.2.2).isSome=true)/\(KX x.2.2.1).is=true) (λx=>xs.length-x.1) (0,M,none,l0) ⟨zL,mR,by simp,rfl,ak,Ext.refl _,λ_ y hy=>by simp at hy,rfl⟩ ?_;rintro⟨k,Mk,o,lk⟩ ⟨hk,F,z,hI,L,b,G,U⟩;try dsimp only at hk F z hI L b G U⊢
 have V:=ac.mono F;have ag:=hs.mono F;have ao:=λp hp=>(J p hp).mono F;refine gj (λaq=>?_) λaq=>?_
 ·refine gh ?_;have B:k<xs.length:=by omega
  obtain⟨sb,so,e0,Y⟩:=ag.open (by intro e;have:=cA List.length e;rw[Af Ad 5 Ae,List.length_nil]at this;have I:=cA List.length hp;rw[List.length_map]at I;omega);subst e0;obtain⟨va,vc,am,ay,ax⟩:=Av Y hp ao B;have aw:=K.ref xs[k] (List.getElem_mem B);refine gh ?_;refine lq (A0 (cs:=EL xs[k] va vc) rfl rfl rfl rfl rfl (λi v hv=>(am i v hv).cj _)) ?_;refine ga λb7=>?_;refine Qp [0,1,2,3,4,5,6,7,8,9,10,11,12,13,14,15,16,17,18,19,120,121] ?_;refine gj (λae=>?_) λae=>?_
  ·exfalso;exact K.up (by omega) xs[k] (List.getElem_mem B) ae
  refine gh ?_;have au:0<=xs[k].ref/\xs[k].ref<256:=by omega
  refine gh ?_;refine dq rfl (Aw rfl rfl rfl rfl (((ah _ _ (by rw[mO];exact B5 (j:=xs[k].ref.toNat) (by omega))).mono F).cj _)) ?_;refine gh ?_;refine Gu rfl rfl rfl (AW rfl rfl) ?_;rintro _ _ _ ⟨b8,rfl,rfl,rfl⟩;refine Cr (mR) (λ_ h=>List.mem_cons_of_mem _ h) (by first|exact mR|assumption) (by simp) ?_;refine gt ?_;have az:=K.up (by omega) xs[k] (List.getElem_mem B);have al:=V;refine gC (by have:=hl xs[k].ref Mk lk V L;rwa[show ((l:Nat):Int)=((l+1:Nat):Int)-1 by omega]at this) ?_;rintro _ Mn _ ad ⟨P,rfl,D,d,ab⟩;simp only[List.cons_append,List.nil_append];rw[show ((l+1:Nat):Int)-1=(l:Int)by omega]at ab;obtain⟨zl,za,zn,zc,p,rfl,N⟩:=ab.form;have f:p=AR s (l+1) xs[k]:=by
   rw[wRm (by omega)];rcases N with⟨h1,I⟩|⟨ys,h1,_,_,I,_⟩
   ·rw [h1];exact I
   rw[h1];exact I
  refine gg ?_;refine BK rfl rfl (Aw rfl rfl rfl rfl (CJ.loc rfl)) (λC=>?_) (λC=>?_)
  ·refine gg ?_;refine BK rfl rfl (UW (ns:=[p.first.kind,p.first.id,p.first.off]) (ms:=[xs[k].key.kind,xs[k].key.id,xs[k].key.off]) rfl rfl rfl rfl rfl rfl ⟨rfl,rfl⟩) (λH=>?_) (λH=>?_)
   ·refine gh ?_;refine zd ([(Q,cE (CX X S (.slice (sA nb no) s.now.length nc) T R m g) DX),(m,Bg P)]) rfl ?_;have J:Cd s ((l+1:Nat):Int) xs=Cq:=GT (n:=(l+1)) (by omega) B hI (by first|(rw[<-f];simp[Aq,C];done)|(rw[<-f];simp[Aq,show ¬p.first=xs[k].key from λe=>oT H (by rw[e])];done)|(obtain⟨q,rfl⟩:=Option.ne_none_iff_exists'.1 (λe=>by have:=z.1 e;omega:o≠none);rw[<-f];simp[Aq,show Ap q.last p.first=false from O]));exact⟨P,rfl,D,(b.trans d),by rw[J];rfl,λh=>by rw[J]at h;cases h⟩
   refine gj (λap=>?_) λap=>?_
   ·refine gg ?_;refine BK rfl rfl (Dc rfl rfl rfl rfl rfl (by kernel_rfl) (Ch (KX o).last p.first _)) (λO=>?_) (λO=>?_)
    ·refine gj (λaa=>?_) λaa=>?_
     ·exfalso;omega
     refine gh ?_;have Z:p.first=xs[k].key:=by have:=DZ p.first xs[k].key;rw[dT (nN (oF H))]at this;exact oT this.symm
     obtain⟨q,rfl⟩:∃q,o=some q:=by
       cases o with
       |none=>have:=z.1 rfl;omega
       |some q=>exact⟨q,rfl⟩
     have E:0<((l+1:Nat):Int)->∀x∈xs.take (k+1),(CP x.ref P).isSome=true:=λh0=>Ud B (λx Y=>d _ (G h0 x Y)) (by
      rcases N with⟨_,I⟩|⟨ys,_,_,_,_,I⟩
      ·rw [I]at C;cases C
      exact I)
     refine BB (k+1,Mn,some (Bi p (some q)),P) ⟨by show k+1<=xs.length;omega,F.trans ad,by simp,?_,D,(b.trans d),E,rfl⟩ (hs:=?_)
     ·show A4 _ _ _=A4 _ (some (Bi p _)) _;rw[f];exact Hm B hI (by rw[<-f];simp[Aq,C,<-Z,show Ap q.last p.first=true from O])
     intro w h;rw[show (KX (some q)).is=true from U]at h;refine((h.perm (List.perm_append_comm (l₁:=[_,_]) (l₂:=[_,_,_,_,_]))).fewer ?_:St _ _ _ w);exact .cons _ (.cons _ (.refl _))
    refine gh ?_;refine zd ([(Q,cE (CX X S (.slice (sA nb no) s.now.length nc) T R m g) DX),(m,Bg P)]) rfl ?_;have J:Cd s ((l+1:Nat):Int) xs=Cq:=GT (n:=(l+1)) (by omega) B hI (by first|(rw[<-f];simp[Aq,C];done)|(rw[<-f];simp[Aq,show ¬p.first=xs[k].key from λe=>oT H (by rw[e])];done)|(obtain⟨q,rfl⟩:=Option.ne_none_iff_exists'.1 (λe=>by have:=z.1 e;omega:o≠none);rw[<-f];simp[Aq,show Ap q.last p.first=false from O]));exact⟨P,rfl,D,(b.trans d),by rw[J];rfl,λh=>by rw[J]at h;cases h⟩
   refine gj (λaa=>?_) λaa=>?_
   ·refine gh ?_;have Z:p.first=xs[k].key:=by have:=DZ p.first xs[k].key;rw[dT (nN (oF H))]at this;exact oT this.symm
    obtain rfl:o=none:=z.2 (by omega);have E:0<((l+1:Nat):Int)->∀x∈xs.take (k+1),(CP x.ref P).isSome=true:=λh0=>Ud B (λx Y=>d _ (G h0 x Y)) (by
     rcases N with⟨_,I⟩|⟨ys,_,_,_,_,I⟩
     ·rw [I]at C;cases C
     exact I)
    refine BB (k+1,Mn,some (Bi p none),P) ⟨by show k+1<=xs.length;omega,F.trans ad,by simp,?_,D,(b.trans d),E,rfl⟩ (hs:=?_)
    ·show A4 _ _ _=A4 _ (some (Bi p _)) _;rw[f];exact Hm B hI (by rw[<-f];simp[Aq,C,Z])
    intro w h;refine((h.perm (List.perm_append_comm (l₁:=[_,_]) (l₂:=[_,_,_,_,_]))).fewer ?_:St _ _ _ w);exact .cons _ (.cons _ (.refl _))
   exfalso;omega
  refine gh ?_;refine zd ([(Q,cE (CX X S (.slice (sA nb no) s.now.length nc) T R m g) DX),(m,Bg P)]) rfl ?_;have J:Cd s ((l+1:Nat):Int) xs=Cq:=GT (n:=(l+1)) (by omega) B hI (by first|(rw[<-f];simp[Aq,C];done)|(rw[<-f];simp[Aq,show ¬p.first=xs[k].key from λe=>oT H (by rw[e])];done)|(obtain⟨q,rfl⟩:=Option.ne_none_iff_exists'.1 (λe=>by have:=z.1 e;omega:o≠none);rw[<-f];simp[Aq,show Ap q.last p.first=false from O]));exact⟨P,rfl,D,(b.trans d),by rw[J];rfl,λh=>by rw[J]at h;cases h⟩
 refine gh ?_;refine zd ([(Q,cE (CX X S (.slice (sA nb no) s.now.length nc) T R m g) DX),(m,Bg lk)]) rfl ?_;have J:Cd s ((l+1:Nat):Int) xs=KX o:=wHk (n:=(l+1)) (by omega) (by omega) z hI;obtain rfl:k=xs.length:=by omega
 exact⟨lk,rfl,L,b,by rw[J];rfl,λ_ h0 x Y=>G h0 x (by rw[List.take_length];exact Y)⟩
theorem wNi(s:Sto)(d:Au s)(o m:Nat)(u i k n j:Value)(b:List Value):L3 s o m u i k n j b 0:=λxs sl M l h g e f=>by
 obtain⟨a,c,w,rfl,B,y,z,C⟩:=e
 exact wBu s d o m u i k n j b xs a c w M l h g B y z C f
theorem wNh(s:Sto)(h:Au s)(o m:Nat)(u d f g e:Value)(b:List Value)(l:Nat)(C:L4 s o m u d f g e b (l:Int)):L3 s o m u d f g e b ((l+1:Nat):Int):=λxs sl M y n k i j=>by
 obtain⟨a,c,w,rfl,D,z,B,E⟩:=i
 exact wBt s h o m u d f g e b l C xs a c w M y n k D z B E j
theorem XL(s:Sto)(ad:Au s)(y m:Nat)(D B o C j:Value)(b:List Value)(g:Int)(aa:∀lv:Int,(0<=g->lv=g)->L3 s y m D B o C j b lv)(k:Int)(M:Mem)(l:List (Int×Value))(S:CN M s o j)(f:MapI M s l):
  Sg 43 #[pB y,iL k,iL g] M [(y,cE (CX D B o C j m b) DX),(m,Bg l)] λu M' L'=>∃l',L'=[(y,cE (CX D B o C j m b) DX),(m,Bg l')]/\MapI M' s l'/\Ext l l'/\LrP s k g u M' l':=by
 refine sB func43 ntmps43 ?_;intro W;refine gA λb6=>?_;refine gj (λah=>?_) λah=>?_
 ·refine gh ?_;refine zd ([(y,cE (CX D B o C j m b) DX),(m,Bg l)]) rfl ?_;exact⟨l,rfl,f,Ext.refl _,by unfold LrP;rw[ZC (by omega)];rfl⟩
 refine gj (λag=>?_) λag=>?_
 ·refine gh ?_;refine zd ([(y,cE (CX D B o C j m b) DX),(m,Bg l)]) rfl ?_;exact⟨l,rfl,f,Ext.refl _,by unfold LrP;rw[ZC (by omega)];rfl⟩
 refine gh ?_;refine lq (wCa (z:=.agg spnZ.toArray) rfl rfl rfl rfl (by kernel_rfl)) ?_;iterate 2 refine jp rfl ?_
 refine wWn rfl (λR=>?_) (λR=>?_)
 ·obtain ⟨v,hv⟩:=Option.isSome_iff_exists.1 R;obtain⟨ab,O,lv,xs,sl,d,U,rfl⟩:=f.ent k v hv;obtain⟨a,c,ps,rfl,_⟩:=id U;rw[hv];refine gj (λw=>?_) λw=>?_
  ·refine gj (λJ=>?_) λJ=>?_
   ·refine gh ?_;refine zd ([(y,cE (CX D B o C j m b) DX),(m,Bg l)]) rfl ?_;exact⟨l,rfl,f,Ext.refl _,by unfold LrP;rw[Ln d ⟨w,.inl J⟩];rfl⟩
   refine gj (λQ=>?_) λQ=>?_
   ·refine gh ?_;refine zd ([(y,cE (CX D B o C j m b) DX),(m,Bg l)]) rfl ?_;exact⟨l,rfl,f,Ext.refl _,by unfold LrP;rw[Ln d ⟨w,.inr (List.eq_nil_of_length_eq_zero (by omega))⟩];rfl⟩
   refine gh ?_;refine zd ([(y,cE (CX D B o C j m b) DX),(m,Bg l)]) rfl ?_;exact⟨l,rfl,f,Ext.refl _,by unfold LrP;rw[Ft ⟨ab,O⟩ d (λh=>h.2.elim (λe=>J e) (λe=>Q (by rw[e];rfl)))];exact⟨_,U,rfl,R⟩⟩
  refine gh ?_;refine zd ([(y,cE (CX D B o C j m b) DX),(m,Bg l)]) rfl ?_;exact⟨l,rfl,f,Ext.refl _,by unfold LrP;rw[Ft ⟨ab,O⟩ d (λh=>w h.1)];exact⟨_,U,rfl,R⟩⟩
 have hv:CP k l=none:=Option.not_isSome_iff_eq_none.1 (by rw[R];decide);rw[hv];refine gh ?_;obtain⟨L,rfl⟩:∃n:Nat,k=(n:Int):=⟨k.toNat,by omega⟩;have ai:=S.bn;refine gc (Et s L j M ad (by omega) S.bn) ?_;rintro _ M1 I ae;obtain⟨K,Z,yn,Y,e,rfl,H⟩:=BnPost.form ae;refine gA λb8=>?_;refine gj (λaf=>?_) λaf=>?_
 ·refine gh ?_;refine zd ([(y,cE (CX D B o C j m b) DX),(m,Bg l)]) rfl ?_;obtain⟨_,d⟩|⟨he,_⟩:=H
  ·exact ⟨l,rfl,f.mono I,Ext.refl _,by unfold LrP;rw[Vv (show Ag s ((L:Int)).toNat=none from d)];rfl⟩
  omega
 refine gj (λT=>?_) λT=>?_
 ·refine gj (λac=>?_) λac=>?_
  ·refine gh ?_;refine zd ([(y,cE (CX D B o C j m b) DX),(m,Bg l)]) rfl ?_;obtain⟨he,_⟩|⟨_,F,d,_,_⟩:=H
   ·omega
   exact⟨l,rfl,f.mono I,Ext.refl _,by unfold LrP;rw[Ln (show Ag s ((L:Int)).toNat=_ from d) ⟨T,.inl ac⟩];rfl⟩
  refine gh ?_;obtain⟨_,d⟩|⟨rfl,F,d,rfl,E⟩:=H
  ·omega
  have V:=Ar d;refine gC (aa K (by intro h;omega) F _ M1 l (S.mono I) (f.mono I) E V) ?_;rintro _ M2 _ P ⟨l2,rfl,N,i,rfl,X⟩;simp only[List.cons_append,List.nil_append];have G:=N.put (k:=(L:Int)) ⟨by omega,by omega⟩ d (E.mono P) X;refine gh ?_;refine DW [0,1,2,3,4,5,106] [(b6,cE (Ri K (.slice Z F.length Y) (Cd s K F)) wTr),(y,cE (CX D B o C j m b) DX)] ?_;refine gh ?_;refine Dw rfl rfl (VN rfl (.inl rfl) rfl rfl rfl) ?_;rintro _ _ _ ⟨rfl,rfl⟩;refine⟨_,_,mR,mR,λ_ h=>h,by simp,?_⟩;refine gj (λw=>?_) λw=>?_
  ·refine gj (λJ=>?_) λJ=>?_
   ·omega
   refine gj (λQ=>?_) λQ=>?_
   ·refine gh ?_;refine zd ([(y,cE (CX D B o C j m b) DX),(m,Bg (F7 (L:Int) (.agg (Ri K (.slice Z F.length Y) (Cd s K F)).toArray) l2))]) rfl ?_;exact⟨_,rfl,G,(i.trans Pj),by unfold LrP;rw[Ln (show Ag s ((L:Int)).toNat=_ from d) ⟨T,.inr (List.eq_nil_of_length_eq_zero (by omega))⟩];rfl⟩
   refine gh ?_;refine zd ([(y,cE (CX D B o C j m b) DX),(m,Bg (F7 (L:Int) (.agg (Ri K (.slice Z F.length Y) (Cd s K F)).toArray) l2))]) rfl ?_;exact⟨_,rfl,G,(i.trans Pj),by unfold LrP;rw[Ft ⟨by omega,by omega⟩ (show Ag s ((L:Int)).toNat=_ from d) (λh=>h.2.elim (λe=>J e) (λe=>Q (by rw[e];rfl)))];exact⟨_,E.mono P,rfl,by rw[Gz,iP rfl];rfl⟩⟩
  omega
 refine gh ?_;obtain⟨_,d⟩|⟨rfl,F,d,rfl,E⟩:=H
 ·omega
 have V:=Ar d;refine gC (aa K (by intro h;omega) F _ M1 l (S.mono I) (f.mono I) E V) ?_;rintro _ M2 _ P ⟨l2,rfl,N,i,rfl,X⟩;simp only[List.cons_append,List.nil_append];have G:=N.put (k:=(L:Int)) ⟨by omega,by omega⟩ d (E.mono P) X;refine gh ?_;refine DW [0,1,2,3,4,5,106] [(b6,cE (Ri K (.slice Z F.length Y) (Cd s K F)) wTr),(y,cE (CX D B o C j m b) DX)] ?_;refine gh ?_;refine Dw rfl rfl (VN rfl (.inl rfl) rfl rfl rfl) ?_;rintro _ _ _ ⟨rfl,rfl⟩;refine⟨_,_,mR,mR,λ_ h=>h,by simp,?_⟩;refine gj (λw=>?_) λw=>?_
 ·omega
 refine gh ?_;refine zd ([(y,cE (CX D B o C j m b) DX),(m,Bg (F7 (L:Int) (.agg (Ri K (.slice Z F.length Y) (Cd s K F)).toArray) l2))]) rfl ?_;exact⟨_,rfl,G,(i.trans Pj),by unfold LrP;rw[Ft ⟨by omega,by omega⟩ (show Ag s ((L:Int)).toNat=_ from d) (λh=>T h.1)];exact⟨_,E.mono P,rfl,by rw[Gz,iP rfl];rfl⟩⟩
theorem SY(s:Sto)(g:Au s)(o m:Nat)(u c e f d:Value)(b:List Value)(a:Int)(i:∀lv:Int,(0<=a->lv=a)->0<=lv->L3 s o m u c e f d b lv):L4 s o m u c e f d b a:=λk M l n j=>
 XL s g o m u c e f d b a (λlv h xs sl M l B z y w=>i lv h w.lev.1 xs sl M l B z y w) k M l n j
theorem Wv(s:Sto)(b:Au s)(g m:Nat)(i c e f d:Value)(a:List Value):∀l:Nat,L3 s g m i c e f d a (l:Int)
 |0=>wNi s b g m i c e f d a
 |l+1=>wNh s b g m i c e f d a l (SY s b g m i c e f d a (l:Int) λlv h _=>by rw[h (by omega)];exact Wv s b g m i c e f d a l)
theorem Qf(s:Sto)(c:Au s)(i m:Nat)(j d f g e:Value)(a:List Value)(b:Int):L4 s i m j d f g e a b:=
 SY s c i m j d f g e a b λlv _ h=>by
  obtain⟨n,rfl⟩:∃n:Nat,lv=n:=⟨lv.toNat,by omega⟩
  exact Wv s c i m j d f g e a n
end Go.Proofs.YtjheijhahehnmaaGreatDoor
