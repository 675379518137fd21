/- Walks: nodes of a pool learned, each once. -/
import Derived.Test.YtjheijhahehnmaaGreatDoorZHm
import Derived.Test.YtjheijhahehnmaaGreatDoorZHn
namespace Go.Proofs.YtjheijhahehnmaaGreatDoor
open Go.Proofs.Tryz
set_option linter.unusedSimpArgs false
set_option linter.unusedVariables false
set_option linter.unusedSectionVars false
set_option maxHeartbeats 40000000
set_option maxRecDepth 8000
open Go.RowKit
def CR:Nat->List (Int×Value)->List MapEntry
 |_,[]=>[]
 |j,p::l=>{ key:=.int .i64 p.1,val:=p.2,born:=j }::CR (j+1) l
def Bi(l:List (Int×Value)):Obj:=.map (CR 0 l).toArray l.length
def Nv(k:Int):List (Int×Value)->Nat->Option (Nat×Value)
 |[],_=>none
 |p::l,i=>if k=p.1 then some (i,p.2)else Nv k l (i+1)
def CU(k:Int):List (Int×Value)->Option Value
 |[]=>none
 |p::l=>if k=p.1 then some p.2 else CU k l
def Gr(k:Int)(v:Value):List (Int×Value)->List (Int×Value)
 |[]=>[(k,v)]
 |p::l=>if k=p.1 then (k,v)::l else p::Gr k v l
theorem Gw{q:IntKind}(k:Int):∀(l:List (Int×Value))(j i:Nat),Instr.findNow (.int q) (.int .i64 k) (CR j l) i=some (Nv k l i)
 |[],_,_=>rfl
 |p::l,j,i=>by
  rw[CR,Instr.findNow,Nv];by_cases h:k=p.1
  ·simp [Instr.sameNow,h]
  have a:(k==p.1)=false:=by simpa using h
  simp only[Instr.sameNow,if_true,a,if_neg h];exact Gw k l (j+1) (i+1)
theorem Xg(k:Int):∀(l:List (Int×Value))(i:Nat),(Nv k l i=none/\CU k l=none)\/∃j v,Nv k l i=some (i+j,v)/\CU k l=some v/\j<l.length
 |[],_=>.inl ⟨rfl,rfl⟩
 |p::l,i=>by
  rw[Nv,CU];by_cases h:k=p.1
  ·rw [if_pos h,if_pos h];exact .inr ⟨0,p.2,rfl,rfl,by simp⟩
  rw[if_neg h,if_neg h];rcases Xg k l (i+1)with a|⟨j,v,a,b,c⟩
  ·exact .inl a
  exact .inr ⟨j+1,v,by rw[a];congr 2;omega,b,by simp;omega⟩
theorem V2(k:Int)(v:Value):∀(l:List (Int×Value))(i j:Nat),Nv k l i=none->CR j (Gr k v l)=CR j l++[{ key:=.int .i64 k,val:=v,born:=j+l.length }]/\(Gr k v l).length=l.length+1
 |[],_,j,_=>⟨by simp[Gr,CR],rfl⟩
 |p::l,i,j,h=>by
  rw[Nv]at h;split at h
  ·cases h
  rename_i a;obtain⟨c,b⟩:=V2 k v l (i+1) (j+1) h;rw[Gr,if_neg a];refine⟨?_,by simp[b]⟩;rw[CR,c,CR];simp[Nat.add_comm,Nat.add_left_comm]
theorem V1(k:Int)(v:Value):∀(l:List (Int×Value))(i j n:Nat)(u:Value),Nv k l i=some (n,u)->i<=n/\CR j (Gr k v l)=(CR j l).modify (n-i) (λe=>{ e with key:=.int .i64 k,val:=v })/\(Gr k v l).length=l.length/\∃e,(CR j l)[n-i]? =some e/\e.key=.int .i64 k
 |[],_,_,_,_,h=>by cases h
 |p::l,i,j,n,u,h=>by
  rw[Nv]at h;rw[Gr];split at h
  ·rename_i a;cases h;rw[if_pos a];exact⟨Nat.le_refl _,by simp[CR],rfl,_,by simp[CR];rfl,by simp[a]⟩
  rename_i a;rw[if_neg a];obtain⟨m,g,f,e,d,c⟩:=V1 k v l (i+1) (j+1) n u h;have b:n-i=(n-(i+1))+1:=by omega
  refine⟨by omega,?_,by simp[f],e,?_,c⟩
  ·rw [CR,g,CR,b];rfl
  rw[CR,b];simpa using d
theorem GT(k:Int)(v:Value):∀(l:List (Int×Value))(x:Int),CU x (Gr k v l)=if x=k then some v else CU x l
 |[],x=>by simp[Gr,CU]
 |p::l,x=>by
  rw[Gr];by_cases h:k=p.1
  ·rw [if_pos h,CU,CU];by_cases a:x=k
   ·simp [a]
   simp[a,<-h]
  rw[if_neg h,CU,CU,GT k v l x];by_cases a:x=p.1
  ·rw [if_pos a,if_pos a,if_neg (λe=>h (by rw[<-e,a]))]
  rw[if_neg a,if_neg a]
section
variable{P:Program}{ops:Array Oper}{N:Fs}{F:Fr}{E:Ent}{M:Mem}{L:Lc}{o:Oper}
theorem Tj{t:TypeId}(e:gd ops F o=some true)(d:o.op=.makeMap t none):
  HF P ops N F E M L o (λv M' f=>∃b,v=.map (some b)/\M=M'/\f=(b,Bi [])::L):=CP e λa w g c=>
 ⟨_,_,M,_,.inl (by simp[execOp,d,Instr.makeMap,newObj];rfl),c.alloc (Bi []),_,rfl,rfl,rfl⟩
theorem NT{t g m:TypeId}(h:P.underlying t=some (.map g m))(hk:P.underlying g=some (.int .i64)){w:World}{z:Value}(n:(zeroValue m).run P w=.ok z w){b:Nat}{l:List (Int×Value)}(o:w.heap[b]? =some (Bi l))(k:Int)(c:Bool):
  (Instr.lookup t (.map (some b)) (.int .i64 k) c).run P w=.ok (if c then .tuple #[(CU k l).getD z,.bool (CU k l).isSome]else (CU k l).getD z) w:=by
 have a:MapKept.IsKey (.int .i64) (.int .i64 k):=by simp[MapKept.IsKey]
 have d:Instr.findNow (.int .i64) (.int .i64 k) (CR 0 l).toArray.toList 0=some (Nv k l 0):=Gw k l 0 0;have i:=MapKept.run_getObj_map (P:=P) (w:=w) (r:=b) (es:=(CR 0 l).toArray) (clock:=l.length) o;rcases Xg k l 0 with⟨f,e⟩|⟨j,v,f,e,_⟩
 ·rw [f]at d;simp[Instr.lookup,run_underlying h,i,MapKept.run_checkKey hk a,MapKept.run_findKey hk d,Result.andThen,n,e]
 rw[f]at d;simp[Instr.lookup,run_underlying h,i,MapKept.run_checkKey hk a,MapKept.run_findKey hk d,Result.andThen,e]
theorem Vc{c:TypeId}{z:Value}(a:(P.info? c).bind (·.zero)=some z)(w:World):(zeroValue c).run P w=.ok z w:=by
 cases b:P.info? c with
 |none=>rw[b]at a;cases a
 |some d=>
  rw[b]at a
  have e:d.zero=some z:=a
  simp[zeroValue,typeInfo,b,e]
theorem VZ{t d f:TypeId}{x y:Operand}{b:Nat}{k:Int}{l:List (Int×Value)}{z:Value}(s:gd ops F o=some true)(n:o.op=.lookup t x y false)(i:ev F x=some (.map (some b)))(g:ev F y=some (.int .i64 k))
  [m:Und P t (.map d f)] [hk:Und P d (.int .i64)] [c:At b (Bi l) L] (u:(P.info? f).bind (·.zero)=some z):QF P ops N F M L o ((CU k l).getD z):=Bv s λa e w j=>by
 have:=NT (P:=P) m.h hk.h (Vc u w) (j.locs _ c.mem) k false
 simp only[Bool.false_eq_true,if_false]at this
 simp[execOp,n,e.ev i,e.ev g,this]
theorem wEo{t d f:TypeId}{x y:Operand}{b:Nat}{k:Int}{l:List (Int×Value)}{z:Value}(s:gd ops F o=some true)(n:o.op=.lookup t x y true)(i:ev F x=some (.map (some b)))(g:ev F y=some (.int .i64 k))
  [m:Und P t (.map d f)] [hk:Und P d (.int .i64)] [c:At b (Bi l) L] (u:(P.info? f).bind (·.zero)=some z):QF P ops N F M L o (.tuple #[(CU k l).getD z,.bool (CU k l).isSome]):=Bv s λa e w j=>by
 have:=NT (P:=P) m.h hk.h (Vc u w) (j.locs _ c.mem) k true
 simp only[if_true]at this
 simp[execOp,n,e.ev i,e.ev g,this]
theorem VE{t j s:TypeId}(m:P.underlying t=some (.map j s))(hk:P.underlying j=some (.int .i64)){w:World}{b:Nat}{l:List (Int×Value)}(f:w.heap[b]? =some (Bi l))(k:Int)(v:Value):
  (Instr.mapUpdate t (.map (some b)) (.int .i64 k) v).run P w=.ok () { w with heap:=w.heap.setIfInBounds b (Bi (Gr k v l)) }:=by
 have a:MapKept.IsKey (.int .i64) (.int .i64 k):=by simp[MapKept.IsKey]
 have c:Instr.findNow (.int .i64) (.int .i64 k) (CR 0 l).toArray.toList 0=some (Nv k l 0):=Gw k l 0 0;have o:=MapKept.run_getObj_map (P:=P) (w:=w) (r:=b) (es:=(CR 0 l).toArray) (clock:=l.length) f;cases d:Nv k l 0 with
 |none=>
  rw[d]at c
  obtain⟨i,h⟩:=V2 k v l 0 0 d
  have g:Bi (Gr k v l)=.map ((CR 0 l).toArray.push { key:=.int .i64 k,val:=v,born:=l.length }) (l.length+1):=by
   unfold Bi;rw[i,h];simp
  simp[Instr.mapUpdate,run_underlying m,o,MapKept.run_checkKey hk a,MapKept.run_findKey hk c,Result.andThen,MapKept.run_setObj_map _ (show w.heap[b]? =some (.map (CR 0 l).toArray l.length)from f),g]
 |some r=>
  obtain⟨n,u⟩:=r
  rw[d]at c
  obtain⟨_,i,h,e,B,z⟩:=V1 k v l 0 0 n u d
  have g:Bi (Gr k v l)=.map ((CR 0 l).toArray.modify n (λe=>{ e with key:=.int .i64 k,val:=v })) l.length:=by
   unfold Bi;rw[i,h];simp
  have y:(CR 0 l)[n]? =some e:=by simpa using B
  simp[Instr.mapUpdate,run_underlying m,o,MapKept.run_checkKey hk a,MapKept.run_findKey hk c,Result.andThen,y,z,MapKept.run_keyThatStays a,MapKept.run_setObj_map _ (show w.heap[b]? =some (.map (CR 0 l).toArray l.length)from f),g]
theorem WP{t i H:TypeId}{x y z:Operand}{b:Nat}{k:Int}{v:Value}{l:List (Int×Value)}{L':Lc}(G:gd ops F o=some true)(c:o.op=.mapUpdate t x y z\/o.op=.insert t x y z)(s:ev F x=some (.map (some b)))(n:ev F y=some (.int .i64 k))(m:ev F z=some v)
  [u:Und P t (.map i H)] [hk:Und P i (.int .i64)] [f:At b (Bi l) L] [D:PutAt b (Bi l) (Bi (Gr k v l)) L L']:HF P ops N F E M L o (λ_ M' g=>M=M'/\g=L'):=CP G λa w e j=>by
 have d:w.heap[b]? =some (Bi l):=(j.locs (b,Bi l) f.mem).1
 obtain⟨A,B,rfl,rfl⟩:=D.ex
 have C:=VE (P:=P) u.h hk.h d k v
 refine⟨undef,{ w with heap:=w.heap.setIfInBounds b (Bi (Gr k v l)) },M,_,.inr ⟨rfl,?_⟩,j.setObj rfl rfl rfl (by simp) (MapKept.heap_set d).1 (λk hk=>(MapKept.heap_set d).2 k hk),rfl,rfl⟩
 rcases c with c|c<;>simp[execOp,c,e.ev s,e.ev n,e.ev m,C]
end
abbrev Ea:TypeId:=75
abbrev wWk:TypeId:=94
abbrev TNd:TypeId:=81
abbrev RX(lv:Int)(sl:Value)(p:Sp):List Value:=[.int .i64 lv,sl,.int .u8 p.first.kind,.int .u32 p.first.id,.int .u32 p.first.off,.int .u8 p.last.kind,.int .u32 p.last.id,.int .u32 p.last.off,.bool p.is]
abbrev spnZ:List Value:=[.int .i64 0,.slice none 0 0,.int .u8 0,.int .u32 0,.int .u32 0,.int .u8 0,.int .u32 0,.int .u32 0,.bool false]
def Ly(o:Option Sp):Sp:=o.getD ⟨⟨0,0,0⟩,⟨0,0,0⟩,true⟩
def Cg(s:Sto)(lv:Int)(xs:List It):Sp:=if xs=[]then Ly none else A6 (AR s lv.toNat) none xs
def Qz(s:Sto)(k level:Int):Option (Int×List It):=if k<8\/256<=k then none else match Ak s k.toNat with
 |none=>none
 |some (lv,xs)=>if 0<=level/\(lv≠level\/xs=[])then none else some (lv,xs)
variable{k level:Int}{s:Sto}
theorem wBf(h:k<8\/256<=k):Qz s k level=none:=by grind[Qz]
theorem Wx(h:Ak s k.toNat=none):Qz s k level=none:=by grind[Qz]
variable{lv:Int}{xs:List It}
theorem LM(h:Ak s k.toNat=some (lv,xs))(a:0<=level/\(lv≠level\/xs=[])):Qz s k level=none:=by
 grind[Qz]
theorem FL(hk:8<=k/\k<256)(h:Ak s k.toNat=some (lv,xs))(a:¬(0<=level/\(lv≠level\/xs=[]))):Qz s k level=some (lv,xs):=by
 grind[Qz]
theorem Ue(h:Qz s k level=some (lv,xs)):8<=k/\k<256/\Ak s k.toNat=some (lv,xs)/\(0<=level->lv=level/\xs≠[]):=by
 grind[Qz]
theorem wUe{l:Nat}{x:It}(d:8<=x.ref/\x.ref<256):AR s (l+1) x=match Qz s x.ref (l:Int)with|none=>Cu|some (lv,c)=>Cg s lv c:=by
 cases b:Ak s x.ref.toNat with
 |none=>rw[Wx b];simp only[AR,b]
 |some q=>
  obtain⟨lv,c⟩:=q
  by_cases a:lv=(l:Int)/\c≠[]
  ·rw [FL d b (λh=>h.2.elim (λh=>h a.1) (λh=>a.2 h))]
   simp only[AR,b]
   rw[if_pos a];unfold Cg;rw[if_neg a.2,a.1];rfl
  rw[LM b ⟨by omega,by
   by_cases h:lv=(l:Int)
   ·exact .inr (Classical.byContradiction λe=>a ⟨h,e⟩)
   exact .inl h⟩]
  simp only[AR,b];rw[if_neg a]
variable{n:Nat}{o:Option Sp}
theorem Hd{k:Nat}(a:lv.toNat=n)(hk:k<xs.length)(b:A6 (AR s n) none xs=A6 (AR s n) o (xs.drop k))(h:Aq (AR s n xs[k]) o xs[k]=false):Cg s lv xs=Cu:=by
 grind[Cg,DG]
theorem wLc{k:Nat}(c:lv.toNat=n)(hk:k=xs.length)(b:o=none↔k=0)(d:A6 (AR s n) none xs=A6 (AR s n) o (xs.drop k)):Cg s lv xs=Ly o:=by
 unfold Cg;by_cases a:xs=[]
 ·rw [if_pos a,b.2 (by rw[hk,a];rfl)]
 rw[if_neg a,c,Ze hk d];cases o with
 |none=>exact absurd (List.eq_nil_of_length_eq_zero (by rw[<-hk];exact b.1 rfl)) a
 |some p=>rfl
structure MapI(M:Mem)(s:Sto)(l:List (Int×Value)):Prop where
 ent:∀k v,CU k l=some v->8<=k/\k<256/\∃lv xs sl,Ak s k.toNat=some (lv,xs)/\NS M sl xs/\v=.agg (RX lv sl (Cg s lv xs)).toArray
 kid:∀k lv xs,(CU k l).isSome=true->Ak s k.toNat=some (lv,xs)->(Cg s lv xs).is=true->0<lv->∀x∈xs,(CU x.ref l).isSome=true
variable{M M':Mem}{l:List (Int×Value)}
theorem MapI.mono(h:MapI M s l)(b:MLe M M'):MapI M' s l:=
 ⟨λk v a=>by obtain⟨g,f,lv,xs,sl,e,d,c⟩:=h.ent k v a;exact⟨g,f,lv,xs,sl,e,d.mono b,c⟩,h.kid⟩
theorem MapI.nil:MapI M s []:=⟨λk v h=>(by cases h),λk lv xs h=>(by cases h)⟩
def Ext(l l':List (Int×Value)):Prop:=∀k,(CU k l).isSome=true->(CU k l').isSome=true
theorem Ext.refl(l:List (Int×Value)):Ext l l:=λ_ h=>h
variable{l':List (Int×Value)}
theorem Ext.trans{a:List (Int×Value)}(h:Ext l l')(c:Ext l' a):Ext l a:=λk b=>c k (h k b)
theorem PE{v:Value}:Ext l (Gr k v l):=λx a=>by
 rw[GT]
 split
 ·rfl
 exact a
theorem MapI.put{sl:Value}(h:MapI M s l)(hk:8<=k/\k<256)(g:Ak s k.toNat=some (lv,xs))(hs:NS M sl xs)(n:(Cg s lv xs).is=true->0<lv->∀x∈xs,(CU x.ref l).isSome=true):
  MapI M s (Gr k (.agg (RX lv sl (Cg s lv xs)).toArray) l):=by
 refine⟨λj v c=>?_,λj b a e d m i x f=>?_⟩
 ·rw [GT]at c;split at c
  ·grind
  exact h.ent j v c
 refine PE _ ?_;rw[GT]at e;split at e
 ·grind
 exact h.kid j b a e d m i x f
structure CN(M:Mem)(s:Sto)(nv pb:Value):Prop where
 now:BS M nv s.now
 bn:BN M pb s
variable{nv:Value}
theorem CN.mono{a:Value}(h:CN M s nv a)(b:MLe M M'):CN M' s nv a:=⟨h.now.mono b,h.bn.mono b⟩
abbrev C5(bv wv nv lw pb:Value)(m:Nat)(rest:List Value):List Value:=bv::wv::nv::lw::pb::.map (some m)::rest
def LrP(s:Sto)(k level:Int)(u:Value)(M':Mem)(l':List (Int×Value)):Prop:=match Qz s k level with
 |none=>u=.agg spnZ.toArray
 |some (lv,xs)=>∃sl,NS M' sl xs/\u=.agg (RX lv sl (Cg s lv xs)).toArray/\(CU k l').isSome=true
variable{u:Value}
theorem LrP.form(h:LrP s k level u M' l'):∃lv a n c p,u=.agg (RX lv (.slice a n c) p).toArray/\
  ((Qz s k level=none/\p=Cu)\/∃xs,Qz s k level=some (lv,xs)/\n=xs.length/\NS M' (.slice a n c) xs/\p=Cg s lv xs/\(CU k l').isSome=true):=by
 unfold LrP at h;split at h
 ·grind [Cu]
 rename_i lv xs e;obtain⟨sl,b,rfl,f⟩:=h;obtain⟨a,c,d,rfl,_⟩:=id b;grind
def MO(s:Sto)(cb m:Nat)(bv wv nv lw pb:Value)(rest:List Value)(lv:Int):Prop:=∀(xs:List It)(sl:Value)(M:Mem)(l:List (Int×Value)),CN M s nv pb->MapI M s l->NS M sl xs->NdOk lv xs->
 SpecL prog 86 #[pB cb,.agg #[.int .i64 lv,sl]] M [(cb,cE (C5 bv wv nv lw pb m rest) Ea),(m,Bi l)]
  λu M' L'=>∃l',L'=[(cb,cE (C5 bv wv nv lw pb m rest) Ea),(m,Bi l')]/\MapI M' s l'/\Ext l l'/\u=.agg (RX lv sl (Cg s lv xs)).toArray/\((Cg s lv xs).is=true->0<lv->∀x∈xs,(CU x.ref l').isSome=true)
def MP(s:Sto)(cb m:Nat)(bv wv nv lw pb:Value)(rest:List Value)(level:Int):Prop:=∀(k:Int)(M:Mem)(l:List (Int×Value)),CN M s nv pb->MapI M s l->
 SpecL prog 43 #[pB cb,.int .i64 k,.int .i64 level] M [(cb,cE (C5 bv wv nv lw pb m rest) Ea),(m,Bi l)]
  λu M' L'=>∃l',L'=[(cb,cE (C5 bv wv nv lw pb m rest) Ea),(m,Bi l')]/\MapI M' s l'/\Ext l l'/\LrP s k level u M' l'
theorem wEi(s:Sto)(ab:Av s)(L m:Nat)(R P nv Q N:Value)(z:List Value)(xs:List It)(a:Option Addr)(c:Nat)(ps:List (It×Value))(M:Mem)(l:List (Int×Value))(aa:CN M s nv N)(ag:MapI M s l)(hc:xs.length<=c)(hs:SM M a (ps.flatMap Ae))(hp:ps.map (·.1)=xs)(G:∀p∈ps,BS M p.2 p.1.val)(X:NdOk 0 xs):
  SpecL prog 86 #[pB L,.agg #[.int .i64 0,.slice a xs.length c]] M [(L,cE (C5 R P nv Q N m z) Ea),(m,Bi l)] λu M' L'=>∃l',L'=[(L,cE (C5 R P nv Q N m z) Ea),(m,Bi l')]/\MapI M' s l'/\Ext l l'/\u=.agg (RX 0 (.slice a xs.length c) (Cg s 0 xs)).toArray/\((Cg s 0 xs).is=true->0<(0:Int)->∀x∈xs,(CU x.ref l').isSome=true):=by
 have av:=X.lev;have al:=X.len;obtain⟨na,T,rfl,au,ae⟩:=id aa.now;have af:s.now.length=256:=ab.2.1.1;obtain⟨U,no,e0,ad⟩:=ae.open (by intro e;have:=congrArg List.length e;rw[Ad,List.length_nil]at this;omega);subst e0;refine sB func86 ntmps86 ?_;intro W;refine W4 λb3 b4 b5=>?_;refine CC (α:=Nat×Mem×Option Sp×List (Int×Value)) (λx=>[(0,pB L),(3,pB b3),(4,pB b4),(5,pB b5),(12,.slice a xs.length c),(13,.int .i64 xs.length),(14,.int .i64 x.1)]) (λx=>x.2.1) (λx=>[(b5,cE (RX 0 (.slice a xs.length c) (Ly x.2.2.1)) wWk),(b4,.cells spnZ.toArray wWk (0,0)),(b3,cE [.int .i64 0,.slice a xs.length c] TNd),(L,cE (C5 R P (.slice (some ⟨U,no,none⟩) s.now.length T) Q N m z) Ea),(m,Bi x.2.2.2)]) (λx=>x.1<=xs.length/\MLe M x.2.1/\(x.2.2.1=none↔x.1=0)/\A6 (AR s 0) none xs=A6 (AR s 0) x.2.2.1 (xs.drop x.1)/\MapI x.2.1 s x.2.2.2/\Ext l x.2.2.2/\(0<(0:Int)->∀y∈xs.take x.1,(CU y.ref x.2.2.2).isSome=true)/\(Ly x.2.2.1).is=true) (λx=>xs.length-x.1) (0,M,none,l) ⟨Nat.zero_le _,MLe.refl _,by simp,rfl,ag,Ext.refl _,λ_ y hy=>by simp at hy,rfl⟩ ?_;rintro⟨k,Mk,o,lk⟩ ⟨hk,H,f,K,g,d,V,O⟩;try dsimp only at hk H f K g d V O⊢
 have am:=aa.mono H;have ac:=hs.mono H;have ai:=λp hp=>(G p hp).mono H;refine gj (λaj=>?_) λaj=>?_
 ·refine gh ?_;have E:k<xs.length:=by omega
  obtain⟨sb,so,e0,hx⟩:=ac.open (by intro e;have:=congrArg List.length e;rw[Aj Ae 5 Ag,List.length_nil]at this;have h2:=congrArg List.length hp;rw[List.length_map]at h2;omega);subst e0;obtain⟨va,vc,ah,aq,ap⟩:=Aw hx hp ai E;have ao:=X.ref xs[k] (List.getElem_mem E);refine gh ?_;refine lq (A1 (cs:=E1 xs[k] va vc) rfl rfl rfl rfl rfl (λi v hv=>(ah i v hv).cj _)) ?_;refine ga λb7=>?_;refine QQ [0,1,2,3,4,5,6,7,8,9,10,11,12,13,14,15,16,17,18,19,120,121] ?_;refine gj (λZ=>?_) λZ=>?_
  ·refine gh ?_;refine GP rfl rfl rfl (AX rfl rfl) ?_;rintro _ _ _ ⟨b8,rfl,rfl,rfl⟩;refine Cv (MLe.refl _) (λ_ h=>List.mem_cons_of_mem _ h) (by first|exact MLe.refl _|assumption) (by simp) ?_;refine gt ?_;obtain⟨p,b⟩:∃p:Sp,p=AR s 0 xs[k]:=⟨_,rfl⟩;rw[show ([.int .i64 0,.slice none 0 0,.int .u8 xs[k].key.kind,.int .u32 xs[k].key.id,.int .u32 xs[k].key.off,.int .u8 xs[k].key.kind,.int .u32 xs[k].key.id,.int .u32 xs[k].key.off,.bool true]:List Value)=RX 0 (.slice none 0 0) p by rw[b];simp[AR,Z]];refine BP rfl rfl (Au rfl rfl rfl rfl (CJ.loc rfl)) (λD=>?_) (λD=>?_)
   ·refine gg ?_;refine BP rfl rfl (VX (ns:=[p.first.kind,p.first.id,p.first.off]) (ms:=[xs[k].key.kind,xs[k].key.id,xs[k].key.off]) rfl rfl rfl rfl rfl rfl ⟨rfl,rfl⟩) (λC=>?_) (λC=>?_)
    ·refine gh ?_;refine zd ([(L,cE (C5 R P (.slice (some ⟨U,no,none⟩) s.now.length T) Q N m z) Ea),(m,Bi lk)]) rfl ?_;have G:Cg s 0 xs=Cu:=Hd (n:=0) rfl E K (by first|(rw[<-b];simp[Aq,D];done)|(rw[<-b];simp[Aq,show ¬p.first=xs[k].key from λe=>of_decide_eq_true C (by rw[e])];done)|(obtain⟨q,rfl⟩:=Option.ne_none_iff_exists'.1 (λe=>by have:=f.1 e;omega:o≠none);rw[<-b];simp[Aq,show Ap q.last p.first=false from F]));exact⟨lk,rfl,g,d,by rw[G];rfl,λh=>by rw[G]at h;cases h⟩
    refine gj (λY=>?_) λY=>?_
    ·refine gg ?_;refine BP rfl rfl (CZ rfl rfl rfl rfl rfl (by kernel_rfl) (Ck (Ly o).last p.first _)) (λF=>?_) (λF=>?_)
     ·refine gj (λJ=>?_) λJ=>?_
      ·exfalso;omega
      refine gh ?_;have I:p.first=xs[k].key:=by have:=Ed p.first xs[k].key;rw[decide_eq_true (Classical.not_not.1 (of_decide_eq_false C))]at this;exact of_decide_eq_true this.symm
      obtain⟨q,rfl⟩:∃q,o=some q:=by
        cases o with
        |none=>have:=f.1 rfl;omega
        |some q=>exact⟨q,rfl⟩
      have B:0<(0:Int)->∀x∈xs.take (k+1),(CU x.ref lk).isSome=true:=λS=>absurd S (by decide);refine BD (k+1,Mk,some (Bk p (some q)),lk) ⟨by show k+1<=xs.length;omega,H,by simp,?_,g,d,B,rfl⟩ (hs:=?_)
      ·show A6 _ _ _=A6 _ (some (Bk p _)) _;rw[b];exact HH E K (by rw[<-b];simp[Aq,D,<-I,show Ap q.last p.first=true from F])
      intro w h;rw[show (Ly (some q)).is=true from O]at h;refine(h.fewer ?_:St _ _ _ w);exact .cons _ (.cons _ (.refl _))
     refine gh ?_;refine zd ([(L,cE (C5 R P (.slice (some ⟨U,no,none⟩) s.now.length T) Q N m z) Ea),(m,Bi lk)]) rfl ?_;have G:Cg s 0 xs=Cu:=Hd (n:=0) rfl E K (by first|(rw[<-b];simp[Aq,D];done)|(rw[<-b];simp[Aq,show ¬p.first=xs[k].key from λe=>of_decide_eq_true C (by rw[e])];done)|(obtain⟨q,rfl⟩:=Option.ne_none_iff_exists'.1 (λe=>by have:=f.1 e;omega:o≠none);rw[<-b];simp[Aq,show Ap q.last p.first=false from F]));exact⟨lk,rfl,g,d,by rw[G];rfl,λh=>by rw[G]at h;cases h⟩
    refine gj (λJ=>?_) λJ=>?_
    ·refine gh ?_;have I:p.first=xs[k].key:=by have:=Ed p.first xs[k].key;rw[decide_eq_true (Classical.not_not.1 (of_decide_eq_false C))]at this;exact of_decide_eq_true this.symm
     obtain rfl:o=none:=f.2 (by omega);have B:0<(0:Int)->∀x∈xs.take (k+1),(CU x.ref lk).isSome=true:=λS=>absurd S (by decide);refine BD (k+1,Mk,some (Bk p none),lk) ⟨by show k+1<=xs.length;omega,H,by simp,?_,g,d,B,rfl⟩ (hs:=?_)
     ·show A6 _ _ _=A6 _ (some (Bk p _)) _;rw[b];exact HH E K (by rw[<-b];simp[Aq,D,I])
     intro w h;refine(h.fewer ?_:St _ _ _ w);exact .cons _ (.cons _ (.refl _))
    exfalso;omega
   refine gh ?_;refine zd ([(L,cE (C5 R P (.slice (some ⟨U,no,none⟩) s.now.length T) Q N m z) Ea),(m,Bi lk)]) rfl ?_;have G:Cg s 0 xs=Cu:=Hd (n:=0) rfl E K (by first|(rw[<-b];simp[Aq,D];done)|(rw[<-b];simp[Aq,show ¬p.first=xs[k].key from λe=>of_decide_eq_true C (by rw[e])];done)|(obtain⟨q,rfl⟩:=Option.ne_none_iff_exists'.1 (λe=>by have:=f.1 e;omega:o≠none);rw[<-b];simp[Aq,show Ap q.last p.first=false from F]));exact⟨lk,rfl,g,d,by rw[G];rfl,λh=>by rw[G]at h;cases h⟩
  refine gh ?_;have ak:0<=xs[k].ref/\xs[k].ref<256:=by omega
  refine gh ?_;refine dq rfl (Au rfl rfl rfl rfl (((ad _ _ (by rw[Nat.mul_one];exact Ca (j:=xs[k].ref.toNat) (by omega))).mono H).cj _)) ?_;refine gh ?_;refine GP rfl rfl rfl (AX rfl rfl) ?_;rintro _ _ _ ⟨b8,rfl,rfl,rfl⟩;refine Cv (MLe.refl _) (λ_ h=>List.mem_cons_of_mem _ h) (by first|exact MLe.refl _|assumption) (by simp) ?_;refine gt ?_;obtain⟨p,b⟩:∃p:Sp,p=AR s 0 xs[k]:=⟨_,rfl⟩;rw[show ([.int .i64 0,.slice none 0 0,.int .u8 xs[k].key.kind,.int .u32 xs[k].key.id,.int .u32 xs[k].key.off,.int .u8 xs[k].key.kind,.int .u32 xs[k].key.id,.int .u32 xs[k].key.off,.bool (decide (0<((s.now.getD xs[k].ref.toNat 0).toNat:Int)))]:List Value)=RX 0 (.slice none 0 0) p by rw[b];simp[AR,Z]];refine BP rfl rfl (Au rfl rfl rfl rfl (CJ.loc rfl)) (λD=>?_) (λD=>?_)
  ·refine gg ?_;refine BP rfl rfl (VX (ns:=[p.first.kind,p.first.id,p.first.off]) (ms:=[xs[k].key.kind,xs[k].key.id,xs[k].key.off]) rfl rfl rfl rfl rfl rfl ⟨rfl,rfl⟩) (λC=>?_) (λC=>?_)
   ·refine gh ?_;refine zd ([(L,cE (C5 R P (.slice (some ⟨U,no,none⟩) s.now.length T) Q N m z) Ea),(m,Bi lk)]) rfl ?_;have G:Cg s 0 xs=Cu:=Hd (n:=0) rfl E K (by first|(rw[<-b];simp[Aq,D];done)|(rw[<-b];simp[Aq,show ¬p.first=xs[k].key from λe=>of_decide_eq_true C (by rw[e])];done)|(obtain⟨q,rfl⟩:=Option.ne_none_iff_exists'.1 (λe=>by have:=f.1 e;omega:o≠none);rw[<-b];simp[Aq,show Ap q.last p.first=false from F]));exact⟨lk,rfl,g,d,by rw[G];rfl,λh=>by rw[G]at h;cases h⟩
   refine gj (λY=>?_) λY=>?_
   ·refine gg ?_;refine BP rfl rfl (CZ rfl rfl rfl rfl rfl (by kernel_rfl) (Ck (Ly o).last p.first _)) (λF=>?_) (λF=>?_)
    ·refine gj (λJ=>?_) λJ=>?_
     ·exfalso;omega
     refine gh ?_;have I:p.first=xs[k].key:=by have:=Ed p.first xs[k].key;rw[decide_eq_true (Classical.not_not.1 (of_decide_eq_false C))]at this;exact of_decide_eq_true this.symm
     obtain⟨q,rfl⟩:∃q,o=some q:=by
       cases o with
       |none=>have:=f.1 rfl;omega
       |some q=>exact⟨q,rfl⟩
     have B:0<(0:Int)->∀x∈xs.take (k+1),(CU x.ref lk).isSome=true:=λS=>absurd S (by decide);refine BD (k+1,Mk,some (Bk p (some q)),lk) ⟨by show k+1<=xs.length;omega,H,by simp,?_,g,d,B,rfl⟩ (hs:=?_)
     ·show A6 _ _ _=A6 _ (some (Bk p _)) _;rw[b];exact HH E K (by rw[<-b];simp[Aq,D,<-I,show Ap q.last p.first=true from F])
     intro w h;rw[show (Ly (some q)).is=true from O]at h;refine(h.fewer ?_:St _ _ _ w);exact .cons _ (.cons _ (.refl _))
    refine gh ?_;refine zd ([(L,cE (C5 R P (.slice (some ⟨U,no,none⟩) s.now.length T) Q N m z) Ea),(m,Bi lk)]) rfl ?_;have G:Cg s 0 xs=Cu:=Hd (n:=0) rfl E K (by first|(rw[<-b];simp[Aq,D];done)|(rw[<-b];simp[Aq,show ¬p.first=xs[k].key from λe=>of_decide_eq_true C (by rw[e])];done)|(obtain⟨q,rfl⟩:=Option.ne_none_iff_exists'.1 (λe=>by have:=f.1 e;omega:o≠none);rw[<-b];simp[Aq,show Ap q.last p.first=false from F]));exact⟨lk,rfl,g,d,by rw[G];rfl,λh=>by rw[G]at h;cases h⟩
   refine gj (λJ=>?_) λJ=>?_
   ·refine gh ?_;have I:p.first=xs[k].key:=by have:=Ed p.first xs[k].key;rw[decide_eq_true (Classical.not_not.1 (of_decide_eq_false C))]at this;exact of_decide_eq_true this.symm
    obtain rfl:o=none:=f.2 (by omega);have B:0<(0:Int)->∀x∈xs.take (k+1),(CU x.ref lk).isSome=true:=λS=>absurd S (by decide);refine BD (k+1,Mk,some (Bk p none),lk) ⟨by show k+1<=xs.length;omega,H,by simp,?_,g,d,B,rfl⟩ (hs:=?_)
    ·show A6 _ _ _=A6 _ (some (Bk p _)) _;rw[b];exact HH E K (by rw[<-b];simp[Aq,D,I])
    intro w h;refine(h.fewer ?_:St _ _ _ w);exact .cons _ (.cons _ (.refl _))
   exfalso;omega
  refine gh ?_;refine zd ([(L,cE (C5 R P (.slice (some ⟨U,no,none⟩) s.now.length T) Q N m z) Ea),(m,Bi lk)]) rfl ?_;have G:Cg s 0 xs=Cu:=Hd (n:=0) rfl E K (by first|(rw[<-b];simp[Aq,D];done)|(rw[<-b];simp[Aq,show ¬p.first=xs[k].key from λe=>of_decide_eq_true C (by rw[e])];done)|(obtain⟨q,rfl⟩:=Option.ne_none_iff_exists'.1 (λe=>by have:=f.1 e;omega:o≠none);rw[<-b];simp[Aq,show Ap q.last p.first=false from F]));exact⟨lk,rfl,g,d,by rw[G];rfl,λh=>by rw[G]at h;cases h⟩
 refine gh ?_;refine zd ([(L,cE (C5 R P (.slice (some ⟨U,no,none⟩) s.now.length T) Q N m z) Ea),(m,Bi lk)]) rfl ?_;have G:Cg s 0 xs=Ly o:=wLc (n:=0) rfl (by omega) f K;obtain rfl:k=xs.length:=by omega
 exact⟨lk,rfl,g,d,by rw[G];rfl,λ_ S x hx=>V S x (by rw[List.take_length];exact hx)⟩
theorem wEh(s:Sto)(af:Av s)(Q m:Nat)(X S nv T R:Value)(g:List Value)(l:Nat)(hl:MP s Q m X S nv T R g (l:Int))(xs:List It)(a:Option Addr)(c:Nat)(ps:List (It×Value))(M:Mem)(l0:List (Int×Value))(ac:CN M s nv R)(ak:MapI M s l0)(hc:xs.length<=c)(hs:SM M a (ps.flatMap Ae))(hp:ps.map (·.1)=xs)(J:∀p∈ps,BS M p.2 p.1.val)(K:NdOk ((l+1:Nat):Int) xs)  :
  SpecL prog 86 #[pB Q,.agg #[.int .i64 ((l+1:Nat):Int),.slice a xs.length c]] M [(Q,cE (C5 X S nv T R m g) Ea),(m,Bi l0)] λu M' L'=>∃l',L'=[(Q,cE (C5 X S nv T R m g) Ea),(m,Bi l')]/\MapI M' s l'/\Ext l0 l'/\u=.agg (RX ((l+1:Nat):Int) (.slice a xs.length c) (Cg s ((l+1:Nat):Int) xs)).toArray/\((Cg s ((l+1:Nat):Int) xs).is=true->0<((l+1:Nat):Int)->∀x∈xs,(CU x.ref l').isSome=true):=by
 have a1:=K.lev;have av:=K.len;obtain⟨na,nc,rfl,a0,ai⟩:=id ac.now;have aj:s.now.length=256:=af.2.1.1;obtain⟨nb,no,e0,ah⟩:=ai.open (by intro e;have:=congrArg List.length e;rw[Ad,List.length_nil]at this;omega);subst e0;refine sB func86 ntmps86 ?_;intro W;refine W4 λb3 b4 b5=>?_;refine CC (α:=Nat×Mem×Option Sp×List (Int×Value)) (λx=>[(0,pB Q),(3,pB b3),(4,pB b4),(5,pB b5),(12,.slice a xs.length c),(13,.int .i64 xs.length),(14,.int .i64 x.1)]) (λx=>x.2.1) (λx=>[(b5,cE (RX ((l+1:Nat):Int) (.slice a xs.length c) (Ly x.2.2.1)) wWk),(b4,.cells spnZ.toArray wWk (0,0)),(b3,cE [.int .i64 ((l+1:Nat):Int),.slice a xs.length c] TNd),(Q,cE (C5 X S (.slice (some ⟨nb,no,none⟩) s.now.length nc) T R m g) Ea),(m,Bi x.2.2.2)]) (λx=>x.1<=xs.length/\MLe M x.2.1/\(x.2.2.1=none↔x.1=0)/\A6 (AR s (l+1)) none xs=A6 (AR s (l+1)) x.2.2.1 (xs.drop x.1)/\MapI x.2.1 s x.2.2.2/\Ext l0 x.2.2.2/\(0<((l+1:Nat):Int)->∀y∈xs.take x.1,(CU y.ref x.2.2.2).isSome=true)/\(Ly x.2.2.1).is=true) (λx=>xs.length-x.1) (0,M,none,l0) ⟨Nat.zero_le _,MLe.refl _,by simp,rfl,ak,Ext.refl _,λ_ y hy=>by simp at hy,rfl⟩ ?_;rintro⟨k,Mk,o,lk⟩ ⟨hk,F,z,hI,L,b,G,U⟩;try dsimp only at hk F z hI L b G U⊢
 have V:=ac.mono F;have ag:=hs.mono F;have ao:=λp hp=>(J p hp).mono F;refine gj (λaq=>?_) λaq=>?_
 ·refine gh ?_;have B:k<xs.length:=by omega
  obtain⟨sb,so,e0,Y⟩:=ag.open (by intro e;have:=congrArg List.length e;rw[Aj Ae 5 Ag,List.length_nil]at this;have I:=congrArg List.length hp;rw[List.length_map]at I;omega);subst e0;obtain⟨va,vc,am,ay,ax⟩:=Aw Y hp ao B;have aw:=K.ref xs[k] (List.getElem_mem B);refine gh ?_;refine lq (A1 (cs:=E1 xs[k] va vc) rfl rfl rfl rfl rfl (λi v hv=>(am i v hv).cj _)) ?_;refine ga λb7=>?_;refine QQ [0,1,2,3,4,5,6,7,8,9,10,11,12,13,14,15,16,17,18,19,120,121] ?_;refine gj (λae=>?_) λae=>?_
  ·exfalso;exact K.up (by omega) xs[k] (List.getElem_mem B) ae
  refine gh ?_;have au:0<=xs[k].ref/\xs[k].ref<256:=by omega
  refine gh ?_;refine dq rfl (Au rfl rfl rfl rfl (((ah _ _ (by rw[Nat.mul_one];exact Ca (j:=xs[k].ref.toNat) (by omega))).mono F).cj _)) ?_;refine gh ?_;refine GP rfl rfl rfl (AX rfl rfl) ?_;rintro _ _ _ ⟨b8,rfl,rfl,rfl⟩;refine Cv (MLe.refl _) (λ_ h=>List.mem_cons_of_mem _ h) (by first|exact MLe.refl _|assumption) (by simp) ?_;refine gt ?_;have az:=K.up (by omega) xs[k] (List.getElem_mem B);have al:=V;refine gC (by have:=hl xs[k].ref Mk lk V L;rwa[show ((l:Nat):Int)=((l+1:Nat):Int)-1 by omega]at this) ?_;rintro _ Mn _ ad ⟨P,rfl,D,d,ab⟩;simp only[List.cons_append,List.nil_append];rw[show ((l+1:Nat):Int)-1=(l:Int)by omega]at ab;obtain⟨zl,za,zn,zc,p,rfl,N⟩:=ab.form;have f:p=AR s (l+1) xs[k]:=by
   rw[wUe (by omega)];rcases N with⟨h1,I⟩|⟨ys,h1,_,_,I,_⟩
   ·rw [h1];exact I
   rw[h1];exact I
  refine gg ?_;refine BP rfl rfl (Au rfl rfl rfl rfl (CJ.loc rfl)) (λC=>?_) (λC=>?_)
  ·refine gg ?_;refine BP rfl rfl (VX (ns:=[p.first.kind,p.first.id,p.first.off]) (ms:=[xs[k].key.kind,xs[k].key.id,xs[k].key.off]) rfl rfl rfl rfl rfl rfl ⟨rfl,rfl⟩) (λH=>?_) (λH=>?_)
   ·refine gh ?_;refine zd ([(Q,cE (C5 X S (.slice (some ⟨nb,no,none⟩) s.now.length nc) T R m g) Ea),(m,Bi P)]) rfl ?_;have J:Cg s ((l+1:Nat):Int) xs=Cu:=Hd (n:=(l+1)) (by omega) B hI (by first|(rw[<-f];simp[Aq,C];done)|(rw[<-f];simp[Aq,show ¬p.first=xs[k].key from λe=>of_decide_eq_true H (by rw[e])];done)|(obtain⟨q,rfl⟩:=Option.ne_none_iff_exists'.1 (λe=>by have:=z.1 e;omega:o≠none);rw[<-f];simp[Aq,show Ap q.last p.first=false from O]));exact⟨P,rfl,D,(b.trans d),by rw[J];rfl,λh=>by rw[J]at h;cases h⟩
   refine gj (λap=>?_) λap=>?_
   ·refine gg ?_;refine BP rfl rfl (CZ rfl rfl rfl rfl rfl (by kernel_rfl) (Ck (Ly o).last p.first _)) (λO=>?_) (λO=>?_)
    ·refine gj (λaa=>?_) λaa=>?_
     ·exfalso;omega
     refine gh ?_;have Z:p.first=xs[k].key:=by have:=Ed p.first xs[k].key;rw[decide_eq_true (Classical.not_not.1 (of_decide_eq_false H))]at this;exact of_decide_eq_true this.symm
     obtain⟨q,rfl⟩:∃q,o=some q:=by
       cases o with
       |none=>have:=z.1 rfl;omega
       |some q=>exact⟨q,rfl⟩
     have E:0<((l+1:Nat):Int)->∀x∈xs.take (k+1),(CU x.ref P).isSome=true:=λh0=>U5 B (λx Y=>d _ (G h0 x Y)) (by
      rcases N with⟨_,I⟩|⟨ys,_,_,_,_,I⟩
      ·rw [I]at C;cases C
      exact I)
     refine BD (k+1,Mn,some (Bk p (some q)),P) ⟨by show k+1<=xs.length;omega,F.trans ad,by simp,?_,D,(b.trans d),E,rfl⟩ (hs:=?_)
     ·show A6 _ _ _=A6 _ (some (Bk p _)) _;rw[f];exact HH B hI (by rw[<-f];simp[Aq,C,<-Z,show Ap q.last p.first=true from O])
     intro w h;rw[show (Ly (some q)).is=true from U]at h;refine((h.perm (List.perm_append_comm (l₁:=[_,_]) (l₂:=[_,_,_,_,_]))).fewer ?_:St _ _ _ w);exact .cons _ (.cons _ (.refl _))
    refine gh ?_;refine zd ([(Q,cE (C5 X S (.slice (some ⟨nb,no,none⟩) s.now.length nc) T R m g) Ea),(m,Bi P)]) rfl ?_;have J:Cg s ((l+1:Nat):Int) xs=Cu:=Hd (n:=(l+1)) (by omega) B hI (by first|(rw[<-f];simp[Aq,C];done)|(rw[<-f];simp[Aq,show ¬p.first=xs[k].key from λe=>of_decide_eq_true H (by rw[e])];done)|(obtain⟨q,rfl⟩:=Option.ne_none_iff_exists'.1 (λe=>by have:=z.1 e;omega:o≠none);rw[<-f];simp[Aq,show Ap q.last p.first=false from O]));exact⟨P,rfl,D,(b.trans d),by rw[J];rfl,λh=>by rw[J]at h;cases h⟩
   refine gj (λaa=>?_) λaa=>?_
   ·refine gh ?_;have Z:p.first=xs[k].key:=by have:=Ed p.first xs[k].key;rw[decide_eq_true (Classical.not_not.1 (of_decide_eq_false H))]at this;exact of_decide_eq_true this.symm
    obtain rfl:o=none:=z.2 (by omega);have E:0<((l+1:Nat):Int)->∀x∈xs.take (k+1),(CU x.ref P).isSome=true:=λh0=>U5 B (λx Y=>d _ (G h0 x Y)) (by
     rcases N with⟨_,I⟩|⟨ys,_,_,_,_,I⟩
     ·rw [I]at C;cases C
     exact I)
    refine BD (k+1,Mn,some (Bk p none),P) ⟨by show k+1<=xs.length;omega,F.trans ad,by simp,?_,D,(b.trans d),E,rfl⟩ (hs:=?_)
    ·show A6 _ _ _=A6 _ (some (Bk p _)) _;rw[f];exact HH B hI (by rw[<-f];simp[Aq,C,Z])
    intro w h;refine((h.perm (List.perm_append_comm (l₁:=[_,_]) (l₂:=[_,_,_,_,_]))).fewer ?_:St _ _ _ w);exact .cons _ (.cons _ (.refl _))
   exfalso;omega
  refine gh ?_;refine zd ([(Q,cE (C5 X S (.slice (some ⟨nb,no,none⟩) s.now.length nc) T R m g) Ea),(m,Bi P)]) rfl ?_;have J:Cg s ((l+1:Nat):Int) xs=Cu:=Hd (n:=(l+1)) (by omega) B hI (by first|(rw[<-f];simp[Aq,C];done)|(rw[<-f];simp[Aq,show ¬p.first=xs[k].key from λe=>of_decide_eq_true H (by rw[e])];done)|(obtain⟨q,rfl⟩:=Option.ne_none_iff_exists'.1 (λe=>by have:=z.1 e;omega:o≠none);rw[<-f];simp[Aq,show Ap q.last p.first=false from O]));exact⟨P,rfl,D,(b.trans d),by rw[J];rfl,λh=>by rw[J]at h;cases h⟩
 refine gh ?_;refine zd ([(Q,cE (C5 X S (.slice (some ⟨nb,no,none⟩) s.now.length nc) T R m g) Ea),(m,Bi lk)]) rfl ?_;have J:Cg s ((l+1:Nat):Int) xs=Ly o:=wLc (n:=(l+1)) (by omega) (by omega) z hI;obtain rfl:k=xs.length:=by omega
 exact⟨lk,rfl,L,b,by rw[J];rfl,λ_ h0 x Y=>G h0 x (by rw[List.take_length];exact Y)⟩
theorem wRd(s:Sto)(d:Av s)(o m:Nat)(u i k n j:Value)(b:List Value):MO s o m u i k n j b 0:=λxs sl M l h g e f=>by
 obtain⟨a,c,w,rfl,B,y,z,C⟩:=e
 exact wEi s d o m u i k n j b xs a c w M l h g B y z C f
theorem wRc(s:Sto)(h:Av s)(o m:Nat)(u d f g e:Value)(b:List Value)(l:Nat)(C:MP s o m u d f g e b (l:Int)):MO s o m u d f g e b ((l+1:Nat):Int):=λxs sl M y n k i j=>by
 obtain⟨a,c,w,rfl,D,z,B,E⟩:=i
 exact wEh s h o m u d f g e b l C xs a c w M y n k D z B E j
theorem YO(s:Sto)(ad:Av s)(y m:Nat)(D B o C j:Value)(b:List Value)(g:Int)(aa:∀lv:Int,(0<=g->lv=g)->MO s y m D B o C j b lv)(k:Int)(M:Mem)(l:List (Int×Value))(S:CN M s o j)(f:MapI M s l):
  SpecL prog 43 #[pB y,.int .i64 k,.int .i64 g] M [(y,cE (C5 D B o C j m b) Ea),(m,Bi l)] λu M' L'=>∃l',L'=[(y,cE (C5 D B o C j m b) Ea),(m,Bi l')]/\MapI M' s l'/\Ext l l'/\LrP s k g u M' l':=by
 refine sB func43 ntmps43 ?_;intro W;refine gA λb6=>?_;refine gj (λah=>?_) λah=>?_
 ·refine gh ?_;refine zd ([(y,cE (C5 D B o C j m b) Ea),(m,Bi l)]) rfl ?_;exact⟨l,rfl,f,Ext.refl _,by unfold LrP;rw[wBf (by omega)];rfl⟩
 refine gj (λag=>?_) λag=>?_
 ·refine gh ?_;refine zd ([(y,cE (C5 D B o C j m b) Ea),(m,Bi l)]) rfl ?_;exact⟨l,rfl,f,Ext.refl _,by unfold LrP;rw[wBf (by omega)];rfl⟩
 refine gh ?_;refine lq (wEo (z:=.agg spnZ.toArray) rfl rfl rfl rfl (by kernel_rfl)) ?_;iterate 2 refine jp rfl ?_
 refine LZ rfl (λR=>?_) (λR=>?_)
 ·obtain ⟨v,hv⟩:=Option.isSome_iff_exists.1 R;obtain⟨ab,O,lv,xs,sl,d,U,rfl⟩:=f.ent k v hv;obtain⟨a,c,ps,rfl,_⟩:=id U;rw[hv];refine gj (λw=>?_) λw=>?_
  ·refine gj (λJ=>?_) λJ=>?_
   ·refine gh ?_;refine zd ([(y,cE (C5 D B o C j m b) Ea),(m,Bi l)]) rfl ?_;exact⟨l,rfl,f,Ext.refl _,by unfold LrP;rw[LM d ⟨w,.inl J⟩];rfl⟩
   refine gj (λQ=>?_) λQ=>?_
   ·refine gh ?_;refine zd ([(y,cE (C5 D B o C j m b) Ea),(m,Bi l)]) rfl ?_;exact⟨l,rfl,f,Ext.refl _,by unfold LrP;rw[LM d ⟨w,.inr (List.eq_nil_of_length_eq_zero (by omega))⟩];rfl⟩
   refine gh ?_;refine zd ([(y,cE (C5 D B o C j m b) Ea),(m,Bi l)]) rfl ?_;exact⟨l,rfl,f,Ext.refl _,by unfold LrP;rw[FL ⟨ab,O⟩ d (λh=>h.2.elim (λe=>J e) (λe=>Q (by rw[e];rfl)))];exact⟨_,U,rfl,R⟩⟩
  refine gh ?_;refine zd ([(y,cE (C5 D B o C j m b) Ea),(m,Bi l)]) rfl ?_;exact⟨l,rfl,f,Ext.refl _,by unfold LrP;rw[FL ⟨ab,O⟩ d (λh=>w h.1)];exact⟨_,U,rfl,R⟩⟩
 have hv:CU k l=none:=Option.not_isSome_iff_eq_none.1 (by rw[R];decide);rw[hv];refine gh ?_;obtain⟨L,rfl⟩:∃n:Nat,k=(n:Int):=⟨k.toNat,by omega⟩;have ai:=S.bn;refine gc (EI s L j M ad (by omega) S.bn) ?_;rintro _ M1 I ae;obtain⟨K,Z,yn,Y,e,rfl,H⟩:=BnPost.form ae;refine gA λb8=>?_;refine gj (λaf=>?_) λaf=>?_
 ·refine gh ?_;refine zd ([(y,cE (C5 D B o C j m b) Ea),(m,Bi l)]) rfl ?_;obtain⟨_,d⟩|⟨he,_⟩:=H
  ·exact ⟨l,rfl,f.mono I,Ext.refl _,by unfold LrP;rw[Wx (show Ak s ((L:Int)).toNat=none from d)];rfl⟩
  omega
 refine gj (λT=>?_) λT=>?_
 ·refine gj (λac=>?_) λac=>?_
  ·refine gh ?_;refine zd ([(y,cE (C5 D B o C j m b) Ea),(m,Bi l)]) rfl ?_;obtain⟨he,_⟩|⟨_,F,d,_,_⟩:=H
   ·omega
   exact⟨l,rfl,f.mono I,Ext.refl _,by unfold LrP;rw[LM (show Ak s ((L:Int)).toNat=_ from d) ⟨T,.inl ac⟩];rfl⟩
  refine gh ?_;obtain⟨_,d⟩|⟨rfl,F,d,rfl,E⟩:=H
  ·omega
  have V:=Ar d;refine gC (aa K (by intro h;omega) F _ M1 l (S.mono I) (f.mono I) E V) ?_;rintro _ M2 _ P ⟨l2,rfl,N,i,rfl,X⟩;simp only[List.cons_append,List.nil_append];have G:=N.put (k:=(L:Int)) ⟨by omega,by omega⟩ d (E.mono P) X;refine gh ?_;refine D7 [0,1,2,3,4,5,106] [(b6,cE (RX K (.slice Z F.length Y) (Cg s K F)) wWk),(y,cE (C5 D B o C j m b) Ea)] ?_;refine gh ?_;refine DF rfl rfl (WP rfl (.inl rfl) rfl rfl rfl) ?_;rintro _ _ _ ⟨rfl,rfl⟩;refine⟨_,_,MLe.refl _,MLe.refl _,λ_ h=>h,by simp,?_⟩;refine gj (λw=>?_) λw=>?_
  ·refine gj (λJ=>?_) λJ=>?_
   ·omega
   refine gj (λQ=>?_) λQ=>?_
   ·refine gh ?_;refine zd ([(y,cE (C5 D B o C j m b) Ea),(m,Bi (Gr (L:Int) (.agg (RX K (.slice Z F.length Y) (Cg s K F)).toArray) l2))]) rfl ?_;exact⟨_,rfl,G,(i.trans PE),by unfold LrP;rw[LM (show Ak s ((L:Int)).toNat=_ from d) ⟨T,.inr (List.eq_nil_of_length_eq_zero (by omega))⟩];rfl⟩
   refine gh ?_;refine zd ([(y,cE (C5 D B o C j m b) Ea),(m,Bi (Gr (L:Int) (.agg (RX K (.slice Z F.length Y) (Cg s K F)).toArray) l2))]) rfl ?_;exact⟨_,rfl,G,(i.trans PE),by unfold LrP;rw[FL ⟨by omega,by omega⟩ (show Ak s ((L:Int)).toNat=_ from d) (λh=>h.2.elim (λe=>J e) (λe=>Q (by rw[e];rfl)))];exact⟨_,E.mono P,rfl,by rw[GT,if_pos rfl];rfl⟩⟩
  omega
 refine gh ?_;obtain⟨_,d⟩|⟨rfl,F,d,rfl,E⟩:=H
 ·omega
 have V:=Ar d;refine gC (aa K (by intro h;omega) F _ M1 l (S.mono I) (f.mono I) E V) ?_;rintro _ M2 _ P ⟨l2,rfl,N,i,rfl,X⟩;simp only[List.cons_append,List.nil_append];have G:=N.put (k:=(L:Int)) ⟨by omega,by omega⟩ d (E.mono P) X;refine gh ?_;refine D7 [0,1,2,3,4,5,106] [(b6,cE (RX K (.slice Z F.length Y) (Cg s K F)) wWk),(y,cE (C5 D B o C j m b) Ea)] ?_;refine gh ?_;refine DF rfl rfl (WP rfl (.inl rfl) rfl rfl rfl) ?_;rintro _ _ _ ⟨rfl,rfl⟩;refine⟨_,_,MLe.refl _,MLe.refl _,λ_ h=>h,by simp,?_⟩;refine gj (λw=>?_) λw=>?_
 ·omega
 refine gh ?_;refine zd ([(y,cE (C5 D B o C j m b) Ea),(m,Bi (Gr (L:Int) (.agg (RX K (.slice Z F.length Y) (Cg s K F)).toArray) l2))]) rfl ?_;exact⟨_,rfl,G,(i.trans PE),by unfold LrP;rw[FL ⟨by omega,by omega⟩ (show Ak s ((L:Int)).toNat=_ from d) (λh=>T h.1)];exact⟨_,E.mono P,rfl,by rw[GT,if_pos rfl];rfl⟩⟩
theorem TE(s:Sto)(g:Av s)(o m:Nat)(u c e f d:Value)(b:List Value)(a:Int)(i:∀lv:Int,(0<=a->lv=a)->0<=lv->MO s o m u c e f d b lv):MP s o m u c e f d b a:=λk M l n j=>
 YO s g o m u c e f d b a (λlv h xs sl M l B z y w=>i lv h w.lev.1 xs sl M l B z y w) k M l n j
theorem XA(s:Sto)(b:Av s)(g m:Nat)(i c e f d:Value)(a:List Value):∀l:Nat,MO s g m i c e f d a (l:Int)
 |0=>wRd s b g m i c e f d a
 |l+1=>wRc s b g m i c e f d a l (TE s b g m i c e f d a (l:Int) λlv h _=>by rw[h (by omega)];exact XA s b g m i c e f d a l)
theorem QE(s:Sto)(c:Av s)(i m:Nat)(j d f g e:Value)(a:List Value)(b:Int):MP s i m j d f g e a b:=
 TE s c i m j d f g e a b λlv _ h=>by
  obtain⟨n,rfl⟩:∃n:Nat,lv=n:=⟨lv.toNat,by omega⟩
  exact XA s c i m j d f g e a n
end Go.Proofs.YtjheijhahehnmaaGreatDoor
