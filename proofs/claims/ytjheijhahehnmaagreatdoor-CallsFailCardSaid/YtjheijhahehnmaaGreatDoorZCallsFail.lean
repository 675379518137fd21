/- CallsFail: with an error a pool is as it was, and all else of the reply is nothing; what only looks changes nothing. Any calls. -/
import Derived.Test.YtjheijhahehnmaaGreatDoorZShv
import Derived.Test.YtjheijhahehnmaaGreatDoorZCx
import Derived.Test.YtjheijhahehnmaaGreatDoorZOpc
import Derived.Lay
namespace Go.Proofs.YtjheijhahehnmaaGreatDoor
open Go.Proofs.Tryz
set_option linter.unusedSimpArgs false
set_option linter.unusedVariables false
set_option linter.unusedSectionVars false
set_option maxHeartbeats 40000000
set_option maxRecDepth 8000
open Go.RowKit
def FitV:Value->TypeDesc->Prop
 |.int k _,.int k'=>k=k'
 |.bool _,.bool=>True
 |_,_=>False
variable{P:Program}
theorem D3(d:Nat)(xs:Array Value)(w:World):∀(h:List Field)(ds:List TypeDesc)(vs:List Value)(i:Nat),vs.length=ds.length->
  h.map (fun f => (f.name != "_", f.offset, P.underlying f.type)) = (ds.zipIdx i).map (fun (k, i) => (true, i, some k)) →
  (∀(j:Nat) v k,vs[j]? =some v->ds[j]? =some k->FitV v k)->(∀(j:Nat) v,vs[j]? =some v->xs[i+j]? =some v)->(Op.eqFields (d+1) xs xs h).run P w=.ok true w
 |[],ds,vs,i,m,g,_,_=>by simp[Op.eqFields]
 |f::h,[],vs,i,m,g,_,_=>by simp at g
 |f::h,k::ds,[],i,m,g,_,_=>by simp at m
 |f::h,k::ds,v::vs,i,m,g,H,F=>by
  simp only[List.map_cons,List.zipIdx_cons,List.cons.injEq,Prod.mk.injEq]at g;obtain⟨⟨J,G,o⟩,e⟩:=g;have s:=F 0 v rfl;simp only[Nat.add_zero]at s;have a:=H 0 v k rfl rfl;have l : f.name ≠ "_" := by simpa using J
  have E:=D3 d xs w h ds vs (i+1) (by simpa using m) e (λj u c y D=>H (j+1) u c (by simpa using y) (by simpa using D))
   (λj u y=>by have:=F (j+1) u (by simpa using y);rwa[show i+(j+1)=i+1+j by omega]at this)
  cases k with
  |int I=>
   cases v with
   |int c n=>
    have C:c=I:=a
    subst C
    have B:(part f.type xs f.offset).run P w=.ok (.int c n) w:=by simp[part,C1 o,HR,G,s]
    have z:(Op.equalIn (d+1) f.type (.int c n) (.int c n)).run P w=.ok (n==n) w:=run_equalIn_int w d f.type c c n n o
    unfold Op.eqFields
    simp only[l,ne_eq,not_false_eq_true,if_true,Sem.run_bind,B,Result.andThen_ok,z]
    simp[E]
   |_=>exact a.elim
  |bool=>
   cases v with
   |bool b=>
    have B:(part f.type xs f.offset).run P w=.ok (.bool b) w:=by simp[part,C1 o,HR,G,s]
    have z:(Op.equalIn (d+1) f.type (.bool b) (.bool b)).run P w=.ok (b==b) w:=run_equalIn_bool' w d f.type b b o
    unfold Op.eqFields
    simp only[l,ne_eq,not_false_eq_true,if_true,Sem.run_bind,B,Result.andThen_ok,z]
    simp[E]
   |_=>exact a.elim
  |_=>cases v<;>exact a.elim
section
variable{P:Program}{ops:Array Oper}{N:Fs}{F:Fr}{M:Mem}{L:Lc}{o:Oper}
theorem wAw{x y:Operand}{t c:TypeId}{ds:List TypeDesc}{vs:List Value}(s:gd ops F o=some true)(m:o.op=.binOp .neq t x y c)(e:ev F x=some (.agg vs.toArray))(d:ev F y=some (.agg vs.toArray))
  (h : P.underlying t = some (.struct (P.fieldsOf t))) (u : (P.fieldsOf t).toList.map (fun f => (f.name != "_", f.offset, P.underlying f.type)) = ds.zipIdx.map fun (k, i) => (true, i, some k)) (hs : P.stoodInHeld t = false) (a : P.eqGuardType P.depth t = false)
  (n:vs.length=ds.length) (hk:∀(j:Nat) v k,vs[j]? =some v->ds[j]? =some k->FitV v k):QF P ops N F M L o (.bool false):=Bv s λB b w _=>by
 have l:=D3 (P:=P) 9998 vs.toArray w _ ds vs 0 n u hk (λj v g=>by simpa using g)
 have z:(binOp .neq t (.agg vs.toArray) (.agg vs.toArray)).run P w=.ok (.bool false) w:=by
  rw[run_neq_struct w t,run_equalIn_struct w 9999 t _ _ h hs,l];simp
 simp only[execOp,m,b.ev e,b.ev d]
 simp only[Sem.run_bind,run_eqGuard_agg w _ t x y _ _ a,Result.andThen_ok,z,Sem.run_pure]
end
theorem GF(p:Po)(y z:V5)(M:Mem)(c:PW M y p)(a:PW M z p)(g:Fh p []):SpecL prog 13 #[DH p y,DH p z] M [] λu _ _=>u=.bool true:=by
 obtain⟨o,k,i,_,f⟩:=c.pt.d;obtain⟨m,j,h,_,e⟩:=a.pt.d;have:=Sm p y.b.v y.w.v y.n.v y.l.v z.b.v z.w.v z.n.v z.l.v o m k j M ⟨⟨_,_,_,_,rfl,c.pt.b,c.pt.w,c.pt.n,c.pt.l⟩⟩ f ⟨⟨_,_,_,_,rfl,a.pt.b,a.pt.w,a.pt.n,a.pt.l⟩⟩ e (by obtain⟨⟨h1,h2,h3,h4⟩,⟨h5,_⟩,h6,_⟩:=g.st;exact⟨⟨⟨by omega,by omega,λb hb=>by have:=h3 b hb;omega,λw hw=>by have:=(h4 w hw).2.2;omega⟩,by omega,by omega⟩,by have:=g.2.1;omega⟩);rw[<-i,<-h]at this;exact this
section
variable{P:Program}{ops:Array Oper}{N:Fs}{F:Fr}{E:Ent}{M:Mem}{L:Lc}{o:Oper}
theorem wAm{x y:Operand}{t e:TypeId}{v:Value}{R L2:Lc}{size f n m c:Nat}{z xs news:List Value}{D:Option Addr}(O:gd ops F o=some true)
  (K:o.op=.call { callee:=.builtin .append,args:=#[x,y],argTypes:=#[t,t] }) (I:ev F x=some v) (H:ev F y=some (.slice D m c)) [ht:Und P t (.slice e)] [hl:Lay P e size f z]
  (d:Own v R e size n xs) [W:Pick R L L2] (i:news.length=m*size) (hs:SJ M L D news) (g:Nat.blt 0 size=true) (Z:∀u∈news,u.oneCell'=true) (l:n+m<=maxLen) (j:(n+m)*f<=140737488355328):
  HF P ops N F E M L o (λG B C=>M=B/\∃k,C=k++L2/\Own G k e size (n+m) (xs++news)):=by
 have hz:0<size:=by simpa [Nat.blt_eq]using g
 rcases hs with rfl|⟨b,U,rfl,Y⟩
 ·obtain rfl:m=0:=by
   rcases Nat.mul_eq_zero.1 i.symm with h|h
   ·exact h
   omega
  have T:=L7 (P:=P) (N:=N) (E:=E) (M:=M) (L:=L) O K I H d;exact λa w S J=>⟨(T a w S J).1,λQ=>Oper.wpIn_mono (λa' w' ⟨v,B,C,e,hs,X,s,V⟩=>by
   subst X;subst s;subst V;exact⟨_,_,R++L2,e,hs.perm W.perm,rfl,R,rfl,by simpa using d⟩) ((T a w S J).2 Q)⟩
 exact HF.imp (WR O K I H d i Y rfl g Z l j) λG B C ⟨e1,k,e2,e3,_,_⟩=>⟨e1,k,e2,e3⟩
end
variable{l:List TI}
theorem wCj(h:∀x∈l,Pn x.1<=30000):AkF l:=⟨λx a=>by
 have:=h x a
 unfold Pn mnI at this
 omega⟩
theorem VI(l:List TI)(a:Option Addr)(c:Nat)(x:TI)(M:Mem)(h:AkS M a l)(hl:(1+l.length)*88<=140737488355328)(K:BS M x.2 x.1.data)(hk:0<=x.1.kind/\x.1.kind<256)(X:Tabs M)(hK:Kinds M):
  SpecL prog 5 #[.slice a l.length c,.agg (Lm x).toArray] M [] λu _ L'=>u=.bool true/\L'=[]:=by
 obtain⟨q,dv⟩:=x;dsimp only at K hk;obtain⟨da,F,rfl,ak,aj⟩:=_root_.id K;refine sB func5 ntmps5 ?_;intro W;refine gg ?_;refine lh (Bt (cs:=JG q (.slice da q.data.length F)) rfl rfl rfl rfl) ?_;rintro _ _ _ ⟨b3,rfl,rfl,rfl⟩;refine gc (Ll M X hK) ?_;rintro _ M1 z rfl;refine gh ?_;refine lh (Ab (cs:=JG q (.slice da q.data.length F)) rfl rfl rfl (by rfl) (by rfl) (by rfl)) ?_;rintro _ _ _ ⟨J,rfl,rfl,rfl⟩;refine gg ?_;refine lh (wAm (R:=[(J,cE (JG q (.slice da q.data.length F)) 39)]) (n:=1) (xs:=JG q (.slice da q.data.length F)) (news:=l.flatMap Lm) rfl rfl rfl rfl ⟨rfl,.inr ⟨J,1,_,rfl,rfl,Nat.le_refl _,by decide,rfl,rfl⟩⟩ (Aj Lm 7 Ft l) ((h.sm.mono z).sj _) rfl ?_ (by unfold maxLen;omega) hl) ?_
 ·intro u hu;obtain⟨y,_,f⟩:=List.mem_flatMap.1 hu;simp only[Lm,JG,List.mem_cons,List.not_mem_nil,or_false]at f;obtain⟨ao,am,e',_⟩:=h.bs y ‹_›;rw[e']at f;rcases f with rfl|rfl|rfl|rfl|rfl|rfl|rfl<;>rfl
 rintro v3 _ _ ⟨rfl,S2,rfl,G⟩;rw[Nat.add_comm]at G;refine Hn G (by simp) ?_;intro M2 a4 c4 B e4 al O;cases e4;have V:AkS M2 a4 ((q,.slice da q.data.length F)::l):=⟨O,λy f=>by
  rcases List.mem_cons.1 f with rfl|f
  ·exact K.mono (z.trans B)
  ·exact (h.bs y f).mono (z.trans B),λy f=>by
  rcases List.mem_cons.1 f with rfl|f
  ·exact hk
  exact h.kd y f⟩
 refine gc (Q0 ((q,.slice da q.data.length F)::l) a4 c4 13 M2 V (by rw[List.length_cons];omega) (by decide)) ?_;rintro _ M3 aa ⟨g,rfl,hg⟩;cases g with
 |true=>
  refine gr ?_
  exact⟨rfl,rfl⟩
 |false=>
 obtain⟨H,T⟩:=hg rfl;rw[List.length_cons]at H;have hf:=wCj T;have s:=hf.sz _ (List.mem_cons_self ..);dsimp only at s;have d:=(z.trans B).trans aa;refine gc (H3 l a c M3 (h.mono d) ⟨λy f=>hf.sz y (List.mem_cons_of_mem _ f)⟩ (by omega) (X.mono d) (hK.mono d)) ?_;rintro _ M4 Z ⟨y,xs,ra,rc,rfl,P,_,_,_,_⟩;have E:=YH (l.map (·.1));generalize (GE (l.map (·.1))).1=o at P E⊢;have m:=d.trans Z;refine gA λb6=>?_;refine gc (Ki o y M4 P E (X.mono m) (hK.mono m) q hk s.1 s.2.1 _ (K.mono m) s.2.2) ?_;rintro _ L Y ⟨y2,N,r,e,rd,rn,rfl,w,U,S,hr⟩;obtain⟨ai,ah,rfl,ae,ad⟩:=_root_.id U;obtain⟨ag,af,rfl,ac,ab⟩:=_root_.id S;refine Mo λb8 b9=>?_;have b:=P.mono Y;rcases hr with⟨rfl,Q⟩|⟨he,_,i,h3⟩
 ·refine gj (λ_=>?_) λh=>absurd rfl h;refine gg ?_;by_cases h8:q.kind=8
  ·refine gj (λh=>absurd h8 h) λ_=>?_;have i:=Jy Q (.inl h8);subst i;refine gj (λh=>absurd rfl h) λ_=>?_;refine gQ (GF N _ _ L b w E) ?_;refine gr ?_;exact⟨rfl,rfl⟩
  refine gj (λ_=>?_) λh=>absurd h8 h;refine gg ?_;by_cases D:q.kind=16
  ·refine gj (λh=>absurd D h) λ_=>?_;have i:=Jy Q (.inr (.inl D));subst i;refine gj (λh=>absurd rfl h) λ_=>?_;refine gQ (GF N _ _ L b w E) ?_;refine gr ?_;exact⟨rfl,rfl⟩
  refine gj (λ_=>?_) λh=>absurd D h;refine gg ?_;by_cases C:q.kind=17
  ·refine gj (λh=>absurd C h) λ_=>?_;have i:=Jy Q (.inr (.inr C));subst i;refine gj (λh=>absurd rfl h) λ_=>?_;refine gQ (GF N _ _ L b w E) ?_;refine gr ?_;exact⟨rfl,rfl⟩
  refine gj (λ_=>?_) λh=>absurd C h;refine gr ?_;exact⟨rfl,rfl⟩
 subst i;subst h3;refine gj (λh=>absurd h he) λ_=>?_;refine gj (λ_=>?_) λh=>absurd he h;refine gj (λh=>absurd rfl h) λ_=>?_;refine gj (λh=>absurd rfl h) λ_=>?_;refine gj (λh=>absurd rfl h) λ_=>?_;refine gg ?_;refine lq (Bh (wAw (ds:=[.int .u32,.bool,.int .i64,.int .i64]) (vs:=[.int .u32 0,.bool false,.int .i64 0,.int .i64 0]) rfl rfl rfl rfl (by kernel_rfl) (by kernel_rfl) (by kernel_rfl) (by kernel_rfl) rfl (λj v k I i=>by
  match j with
  |0=>cases I;cases i;rfl
  |1=>cases I;cases i;trivial
  |2=>cases I;cases i;rfl
  |3=>cases I;cases i;rfl
  |n+4=>cases I)) (v':=.bool false) (by rfl)) ?_
 refine gQ (GF _ _ _ L b w E) ?_;refine gr ?_;exact⟨rfl,rfl⟩
section
open Go.ChangeShapes Go.WideShapes Go.ChangeAt Go.Joins
set_option maxRecDepth 100000 in
theorem callsFail_lifted(os:Os)(b:os.Started)(H:Type)(enc:TypeId×Value->H):
  ReturnsInHanded {} Tryz.checked os 5 .any (λw a=>(Rows.callsFailSpec.pre enc prog Tryz.f5 [] false w a/\laidMetH prog Rows.callsFailRow.laid w)/\sizedMet enc prog Tryz.f5 (OpenSpec.ofChange Rows.callsFailSpec) false w a)
   (Rows.callsFailSpec.post enc prog Tryz.f5 false true false false):=by
 refine KM (C:=Tryz.checked) (X:=λw _=>laidMetH prog Rows.callsFailRow.laid w) (λ_ _ _ Z h=>h.of_heap Z) A.own b (by kernel_rfl) func5
  (ChangeSpec.witness_shaped (enc:=enc) (C:=Tryz.checked) (os:=os) (X:=λw _=>laidMetH prog Rows.callsFailRow.laid w) false (World.laidAll prog os Rows.callsFailRow.laid) #[.slice none 0 0,.agg #[.int .u8 0,.string ⟨#[]⟩,.string ⟨#[]⟩,.int .i64 0,.int .i64 0,.int .i64 0,.slice none 0 0]] 8 (World.laidAll_os _ _ _)
   (World.shaped_of_ZipB (by kernel_rfl) (by kernel_rfl)) (by kernel_rfl) (by kernel_rfl) (by kernel_rfl)
   (by rw[MakeChecks.laidMetH_plain _ _ _ (by kernel_rfl)];exact laidMet_laidAll _ (by kernel_rfl) (by kernel_rfl))) ?_
 intro W n a ds gs o d K hL y f;obtain⟨hT,hK⟩:=TP hL y;have c:∀(j:Nat) t v,Tryz.f5.params[j]? =some t->a[j]? =some v->Value.okWide prog W .any n t v:=d;have D:=K;obtain⟨p,q,E,hV,rfl,aa,Y⟩:=K;have L:DataW.TrodAll enc prog W 0 (λ_=>true) true Tryz.f5.params.toList a.toList ds p:=E;have g:(DataW.weightsEach prog (Tryz.f5.params.toList++(OpenSpec.ofChange Rows.callsFailSpec).bare.plain.varTypes prog) (ds++gs)).all (· <=reachBytes)=true:=f;rw[Tryz.params5]at L c g;obtain⟨S,R,d0,d1,p0,p1,rfl,rfl,rfl,h0,h1⟩:=trodAll_two L;obtain⟨rfl,rfl⟩:=trodVars_none hV;obtain⟨Q,O,P,rfl⟩:=okWide_slice Tryz.underlying36 (c 0 36 S rfl rfl);obtain⟨_,B⟩:=h0;obtain⟨F,U,T,N,J,I,k,i⟩:=Qo B;simp only[Value.slice.injEq]at N;obtain⟨rfl,rfl,rfl⟩:=N;have l:(1+F.length)*88<=140737488355328:=by
  rcases i with⟨rfl,_⟩|⟨el,er,G,hl⟩
  ·decide
  dsimp only at G;subst G;have:=sized_slice g (j:=0) (t:=36) (e:=39) rfl rfl Tryz.underlying36;rw[show prog.bytesOf 39=88 by kernel_rfl]at this;unfold reachBytes at this;omega
 obtain⟨m,rfl,V⟩:=okWide_struct Tryz.underlying39 (c 1 39 R rfl rfl);obtain⟨_,z⟩:=h1;obtain⟨x,M,u,s⟩:=S3 z;obtain rfl:m=(Lm x).toArray:=by cases m;simp only[Value.cells]at M;exact congrArg List.toArray M
 refine(VI F _ _ x (GM W) k l u s hT hK |>.mono λ_ _ _ h=>h.1).run.mono λe W' ⟨he,hb⟩=>?_;subst he;exact⟨_,rfl,QH D (by kernel_rfl) rfl rfl rfl hb⟩
theorem SU:laidOutB prog=true:=by kernel_rfl
theorem Sv:mapsRowed prog=true:=by kernel_rfl
theorem Su:(Rows.callsFailRow.inPlace==prog.inPlace 5)=true:=by kernel_rfl
theorem Ss:(Rows.callsFailRow.unfollowed==prog.unfollowed 5)=true:=by kernel_rfl
theorem Sr:(Rows.callsFailRow.recurses==prog.recurses 5)=true:=by kernel_rfl
theorem Sq:(Rows.callsFailRow.named==prog.varsNamed 5)=true:=by kernel_rfl
theorem JY:joinedFacts prog 5 Tryz.f5 Rows.callsFailSpec Rows.callsFailRow=true:=by
 unfold joinedFacts;rw[SU,Sv,Su,Ss,Sr,Sq];kernel_rfl
theorem callsFail_holds:Rows.CallsFailSaid:=
 OpenClaim.holds_of_wide 5 Tryz.f5 rfl rfl rfl rfl rfl rfl rfl ⟨rfl,rfl,rfl,rfl,rfl⟩ rfl rfl rfl rfl rfl (by kernel_rfl) func5 JY
  (of_decide_eq_true (by kernel_rfl)) (by unfold Func.isWrapper;first|(rw[if_pos (by decide +kernel)];kernel_rfl)|(rw[if_neg (by decide +kernel)];exact⟨rfl,rfl⟩))
  (λc a H b _=>callsFail_lifted c a H b)
end
end Go.Proofs.YtjheijhahehnmaaGreatDoor
