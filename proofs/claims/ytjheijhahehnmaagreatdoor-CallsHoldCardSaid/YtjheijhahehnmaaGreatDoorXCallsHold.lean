/- Lemmas. -/
import Derived.Test.YtjheijhahehnmaaGreatDoorXCx
import Derived.ProofKit
import Derived.Carry
import Derived.Test.YtjheijhahehnmaaGreatDoorRows
import Derived.Lib.SmallJoins
import Derived.Handed
import Derived.HandedShaped
import Derived.LaidMore
import Derived.MakeChecks
import Derived.Lib.LaidTab
import Derived.Stop.LaidErr
import Derived.Stop.Joined
import Derived.OpenShut
import Derived.SizedLaws
import Derived.Lay
namespace Go.Proofs.YtjheijhahehnmaaGreatDoor
open Go.Proofs.Tryz
open List (getElem_mem length length_nil)
set_option linter.unusedSimpArgs false
set_option linter.unusedVariables false
set_option linter.unusedSectionVars false
set_option maxHeartbeats 40000000
set_option maxRecDepth 8000
open Go.ChangeShapes Go.WideShapes Go.ChangeAt Go.RowKit
def HO(W:World):Mem:=λb=>W.heap[b]?
variable{P:Program}{W:World}{args:Array Value}{f:FuncId}
theorem SpecL.run{v:Value}(h:SpecL P f args (HO W) [] λu _ _=>u=v):Calls P f args W λe c=>e=.returned v/\Below W.heap.size W c:=by
 have b:St ⟨W,([]:Lc).map (·.1),HO W⟩ (HO W) [] W:=
  {os:=rfl,tape:=rfl,output:=rfl,size:=lR,same:=λ_ _ _=>rfl,fresh:=λ_ _=>rfl,agree:=λ_ _ h=>h
   locs:=λp d=>by cases d
   nodup:=by simp }
 refine(h W b).mono λe c i=>?_;obtain⟨u,l,j,rfl,rfl,a⟩:=i;exact⟨rfl,⟨a.os,a.tape,a.output,a.size,λk g=>a.same k g (by simp)⟩⟩
variable{H:Type}{enc:TypeId×Value->H}
theorem J0(f:laidOutB P=true){i:World}(g:Below W.heap.size W i):∀(ts:List TypeId)(vs:List Value)(ds:List (DataW H))(ps:List MemPlace),
  ts.all (λt=>P.readableRec t&&decide (t<P.types.size))=true->(∀x∈ps,x.block<W.heap.size)->
  DataW.TrodAll enc P W 0 (λ_=>true) true ts vs ds ps->DataW.TrodAll enc P i 0 (λb=>decide (b<W.heap.size)) true ts vs ds ps
 |[],[],[],ps,_,_,h=>h
 |t::ts,v::vs,d::ds,ps,c,a,h=>by
  obtain⟨p,q,k,j,rfl⟩:=h;simp only[List.all_cons,Bool.and_eq_true,decide_eq_true_eq]at c;exact⟨p,q,Below.trod f c.1.1 c.1.2 k g (λx e=>a x (by simp[e])),J0 f g ts vs ds q c.2 (λx e=>a x (by simp[e])) j,rfl⟩
 |[],_::_,_,_,_,_,h=>h.elim
 |[],[],_::_,_,_,_,h=>h.elim
 |_::_,[],_,_,_,_,h=>h.elim
 |_::_,_::_,[],_,_,_,h=>h.elim
theorem A.laid:laidOutB prog=true:=by kernel_rfl
theorem A.own:ownKnob prog.godebug=none:=by kernel_rfl
variable{s:ChangeSpec}{ds:List (DataW H)}
theorem wKi{f:Func}{l:World}{k:List (DataW H)}{p:List MemPlace}
  (i:DataW.Whole enc prog f.params.toList s.vars false W args.toList ds k p) (n:f.params.toList.all (λt=>prog.readableRec t&&decide (t<prog.types.size))=true)
  (e:s.vars=[]) (b:f.resultTypes=#[4]) (a:(s.fn H (ds++k))={ results:=[.lit (.bool true)],args:=ds }) (g:Below W.heap.size W l):
  s.post enc prog f false true false false W args (.bool true) l:=by
 have c:=i;obtain⟨d,y,w,j,rfl,u,o⟩:=i;rw[e]at j;obtain⟨rfl,rfl⟩:=trodVars_none j;refine⟨ds,[],d++[],[],d,[],c,?_,?_,?_,g.frame _,λh=>by cases h⟩
 ·rw [a,b];exact trodAll_mk1 (shut_bool Tryz.underlying4 _)
 ·rw [a];exact J0 A.laid g _ _ _ _ n (λx m=>c.lt x (by simp[m])) w
 rw[a,e];exact rfl
variable{n:Int}
theorem wTw(h:(Lit.int .u8 n).wf=true):0<=n/\n<256:=by
 simp[Lit.wf,IntKind.min,IntKind.max,IntKind.signed,IntKind.bits]at h;omega
section
open Go.Joins Go.MapKept
section
variable{H:Type}{enc:TypeId×Value->H}
theorem Xl{a:Assume}{C:Checked}{os:Os}{f:FuncId}{n:Func}{s:ChangeSpec}{o:List PathCond}{b m g u:Bool}{X:World->Array Value->Prop}
  (S:∀(w w':World)(args:Array Value),w.heap=w'.heap->X w args->X w' args)
  (own:ownKnob C.prog.godebug=none) (l:os.Started) (y:C.prog.inits.idxOf? f=none) (L:C.prog.funcs[f]? =some n)
  (k:∃(w:World)(c:Tape)(i:Input),w.os=os/\(w.forCall c i).Shaped C.prog/\i.vars=[]/\Input.okWide C.prog (w.forCall c i) .any w.heap.size f i/\
   ((s.pre enc C.prog n o b (w.forCall c i).memory i.args/\X (w.forCall c i).memory i.args)/\sizedMet enc C.prog n (OpenSpec.ofChange s) b (w.forCall c i).memory i.args)/\a.holds C.prog (lone (Frame.enter C.prog f i.args .normal) [] (w.forCall c i)))
  (h:∀(W:World)(E:Nat)(args:Array Value)(ds F:List (DataW H))(d:List MemPlace),
   (∀(j:Nat) t v,n.params[j]? =some t->args[j]? =some v->Value.okWide C.prog W .any E t v)->
   DataW.Whole enc C.prog n.params.toList s.vars b W args.toList ds F d->X W args->W.ShapedOpen C.prog->
   (DataW.weightsEach C.prog (n.params.toList++(OpenSpec.ofChange s).bare.plain.varTypes C.prog) (ds++F)).all (· <=reachBytes)=true->
   Calls C.prog f args W λe N=>∃v,e=.returned v/\s.post enc C.prog n b m g u W args v N):
  ReturnsInHanded a C os f .any (λw args=>(s.pre enc C.prog n o b w args/\X w args)/\sizedMet enc C.prog n (OpenSpec.ofChange s) b w args) (s.post enc C.prog n b m g u):=by
 refine returnsInHanded_of_calls own l y k ?_;intro w c i _ J _ K B _;obtain⟨_,_,_,M,D,_,_,_,_,z⟩:=K;have e:M=n:=Option.some.inj (D.symm.trans L);subst e;obtain⟨⟨_,O⟩,_,ds,F,d,P,G⟩:=B;have I:=DataW.Whole.of_heap (w':=w.forCall c i) (by rfl) P;refine(h (w.forCall c i) w.heap.size i.args ds F d z I (S _ _ _ (by rfl) O) J G).mono λe N ⟨v,R,Q⟩=>?_;subst R;exact ChangeSpec.post_blind Q
end
variable{W:World}{a:Addr}
theorem JR{v:Value}(h:W.cell? a=some v):∃c e fz,W.heap[a.block]? =some (.cells c e fz)/\a.spot=none/\c[a.off]? =some v:=by
 unfold World.cell? at h;split at h
 ·rename_i c e fz d;split at h
  ·cases h
  rename_i b;exact⟨c,e,fz,d,by simpa using b,h⟩
 cases h
variable{b:Nat}
theorem wPb{off j:Nat}:(⟨b,off,none⟩:Addr).add j=⟨b,off+j,none⟩:=by unfold Addr.add;split<;>simp_all
variable{cs:List Value}
theorem UE(h:∀i u,cs[i]? =some u->W.cell? (a.add i)=some u):SM (HO W) (some a) cs:=by
 cases cs with
 |nil=>exact .inl rfl
 |cons u n=>
  obtain⟨w,s,k,o,f,_⟩:=JR (h 0 u rfl)
  obtain⟨b,d,e⟩:=a
  simp[Addr.add]at f
  subst f
  refine .inr ⟨b,d,rfl,λi v j=>?_⟩
  obtain⟨m,l,fz1,c,_,g⟩:=JR (h i v j)
  rw[wPb]at c g
  exact⟨m,l,fz1,c,g⟩
variable{α:Type}
theorem ZE{p:Nat->α->Prop}:∀{n:Nat},(∀i,i<n->∃x,p i x)->∃l:List α,l.length=n/\∀i (h:i<l.length),p i l[i]
 |0,_=>⟨[],rfl,λi h=>aD h (Nat.not_lt_zero i)⟩
 |n+1,h=>by
  obtain⟨l,e,d⟩:=ZE (n:=n) (λi a=>h i (by omega));obtain⟨x,c⟩:=h n (by omega);refine⟨l++[x],by simp[e],λi a=>?_⟩;by_cases b:i<l.length
  ·rw [List.getElem_append_left b];exact d i b
  obtain rfl:i=n:=by rw[List.length_append,List.length_singleton]at a;omega
  rw[List.getElem_append_right (by omega)];simpa using c
def bOf(x:Int):By:=UInt8.ofNat x.toNat
theorem wXu{x:Int}(h:0<=x/\x<256):((bOf x).toNat:Int)=x:=by
 unfold bOf;rw[UInt8.toNat_ofNat_of_lt' (by show x.toNat<256;omega)];omega
section
variable{H:Type}{enc:TypeId×Value->H}{W:World}
theorem wHy{e:Nat}{v:Value}{x:DataW H×List MemPlace}(h:DataW.trod enc prog W 0 (λ_=>true) true e 26 [v]=some x):∃(f:List By)(a:Option Addr)(c:Nat),v=.slice a f.length c/\f.length<=c/\c<=maxLen/\SM (HO W) a (Aa f):=by
 rcases open_ints Tryz.underlying26 Tryz.underlying5 (by kernel_rfl) h with⟨o,_⟩|⟨a,len,s,zs,o,_,l,k,d,_,b,g⟩
 ·cases o;exact⟨[],none,0,rfl,lR,zL,.inl rfl⟩
 cases o;simp only[if_true]at d;have w:∀n∈zs,((bOf n).toNat:Int)=n:=λn y=>wXu (wTw (g n y));have m:((zs.take len).map bOf).length=len:=by rw[List.length_map,List.length_take];omega
 refine⟨(zs.take len).map bOf,some a,s,by rw[m],by rw[m];exact l,k,UE λi u j=>?_⟩;have z:i<len:=by
  have:=(List.getElem?_eq_some_iff.1 j).1;rw[Ac,m]at this;exact this
 rw[b i (by omega)];simp only[Aa,List.getElem?_map,List.getElem?_take,z,if_true,List.getElem?_eq_getElem (show i<zs.length by omega),Option.map_some,Option.some.injEq]at j;rw[<-j,w _ (getElem_mem _)];simp[List.getD,List.getElem?_eq_getElem (show i<zs.length by omega)]
theorem RQ(s:ByteArray):.string s=Value.string (AK s.data.toList):=by unfold AK;simp
set_option maxRecDepth 100000 in
theorem wCi{f:Nat}{cs:List Value}{x:DataW H×List MemPlace}(h:DataW.trod enc prog W 0 (λ_=>true) true f 39 cs=some x):∃q:WK,cs=Ue q/\BS (HO W) q.2 q.1.data/\0<=q.1.kind/\q.1.kind<256:=by
 obtain⟨C,n,_,rfl,g,e,d⟩:=DataW.trod_struct Tryz.underlying39 h;rw[show prog.cellsOf 39=7 by kernel_rfl]at g;have R:prog.cellsOf 5=1:=by kernel_rfl
 have Q:prog.cellsOf 9=1:=by kernel_rfl
 have P:prog.cellsOf 3=1:=by kernel_rfl
 have O:prog.cellsOf 26=1:=by kernel_rfl
 match cs,g,C,e with
 |[c0,c1,c2,c3,c4,c5,c6],_,[y0,X,V,U,T,S,y6],_=>
  have w:=d 0 _ rfl
  have u:=d 1 _ rfl
  have s:=d 2 _ rfl
  have m:=d 3 _ rfl
  have l:=d 4 _ rfl
  have j:=d 5 _ rfl
  have i:=d 6 _ rfl
  simp only[R,Q,P,O,List.drop_succ_cons,List.drop_zero,List.take_succ_cons,List.take_zero,List.getElem?_cons_zero,List.getElem?_cons_succ]at w u s m l j i
  obtain⟨k,L,-,D⟩:=DataW.trod_int Tryz.underlying5 w
  obtain⟨p,K,-,w1⟩:=DataW.trod_string Tryz.underlying9 u
  obtain⟨o,J,-,w2⟩:=DataW.trod_string Tryz.underlying9 s
  obtain⟨a,I,-,w3⟩:=DataW.trod_int Tryz.underlying3 m
  obtain⟨b,G,-,Z⟩:=DataW.trod_int Tryz.underlying3 l
  obtain⟨c,F,-,Y⟩:=DataW.trod_int Tryz.underlying3 j
  obtain⟨y,B,z,E,N,k2,M⟩:=wHy i
  cases L;cases K;cases J;cases I;cases G;cases F;cases E
  have:=wTw D
  exact⟨(⟨k,p.data.toList,o.data.toList,a,b,c,y⟩,.slice B y.length z),by unfold Ue Rf;dsimp only;rw[<-RQ,<-RQ],⟨B,z,rfl,N,M⟩,this.1,by show k<256;omega⟩
theorem Xx{B:Nat}{v:Value}{x:DataW H×List MemPlace}(h:DataW.trod enc prog W 0 (λ_=>true) true B 36 [v]=some x):∃(d:List WK)(a:Option Addr)(c:Nat),v=.slice a d.length c/\d.length<=c/\c<=maxLen/\AkS (HO W) a d/\((d=[]/\x.1=.nil)\/∃e r,x.1=.slice e r/\e.length=d.length):=by
 rcases DataW.trod_slice Tryz.underlying36 h with⟨E,f⟩|⟨a,len,G,F,I,n,_,E,f,_,P,C,D,K,_⟩
 ·cases E;exact⟨[],none,0,rfl,lR,zL,⟨.inl rfl,(λ_ h=>by cases h),(λ_ h=>by cases h)⟩,.inl ⟨rfl,by rw[f]⟩⟩
 cases E;have R:prog.cellsOf 39=7:=by kernel_rfl
 rw[R]at K;have z:∀(b:Addr)(x y:Nat),(b.add x).add y=b.add (x+y):=λb x y=>by
  obtain⟨X,N,M⟩:=b;cases M<;>simp[Addr.add]<;>(try split)<;>(try split)<;>simp_all<;>omega
 obtain⟨d,s,g⟩:=ZE (p:=λi (q:WK)=>(∀j u,(Ue q)[j]? =some u->W.cell? (a.add (i*7+j))=some u)/\BS (HO W) q.2 q.1.data/\0<=q.1.kind/\q.1.kind<256) (n:=len) (λi k=>by
  have l:=K i k;rw[List.getElem?_eq_getElem (by omega),Option.bind_eq_some_iff]at l;obtain⟨cs,U,T⟩:=l;obtain⟨_,V,S⟩:=World.cells?_some U;obtain⟨q,rfl,o⟩:=wCi T;refine⟨q,λj u m=>?_,o⟩;have Q:j<7:=(List.getElem?_eq_some_iff.1 m).1;have L:=S j Q;rw[z]at L;rw[L,<-m])
 refine⟨d,some a,G,by rw[s],by omega,C,⟨UE λi u m=>?_,λq o=>?_,λq o=>?_⟩,.inr ⟨_,_,by rw[f],by rw[List.length_map,D,s]⟩⟩
 ·have k:=(List.getElem?_eq_some_iff.1 m).1;rw[Af Ue 7 F4]at k;have J:i / 7<d.length:=by omega
  have w:i=(i / 7)*7+i%7:=by omega
  have O:i%7<7:=by omega
  have l:=QM Ue 7 F4 d (i / 7) (i%7) O;rw[List.getElem?_eq_getElem J,bS]at l;rw[<-w,m]at l;have:=(g (i / 7) J).1 (i%7) u l.symm;rw[<-w]at this;exact this
 ·obtain ⟨i,k,rfl⟩:=List.mem_iff_getElem.1 o;exact(g i k).2.1
 obtain⟨i,k,rfl⟩:=List.mem_iff_getElem.1 o;exact(g i k).2.2
end
abbrev laidA : List (String × DataW Unit) := [("math/bits.deBruijn32tab", Rows.laid_math_bits_deBruijn32tab), ("math/bits.deBruijn64tab", Rows.laid_math_bits_deBruijn64tab), ("internal/strconv.uint64pow10", Rows.laid_internal_strconv_uint64pow10), ("strconv.ErrRange", Rows.laid_strconv_ErrRange), ("strconv.ErrSyntax", Rows.laid_strconv_ErrSyntax), ("scionry/calls.kinds", Rows.laid_scionry_calls_kinds)]
theorem Zl (u : TypeId) (h : prog.typeName? 3 u = some "*errors.errorString") : u = 408 :=
 typeName_ptr_named (nm := "errors.errorString") (by rw [show "*" ++ "errors.errorString" = "*errors.errorString" by decide]; kernel_rfl) (by kernel_rfl) (by decide) u (by rw [show "*" ++ "errors.errorString" = "*errors.errorString" by decide]; exact h)
theorem Q2{w:World}{v:Value}(h:W.cell? a=some v)(i:∀(b:Nat)(o:Obj),W.heap[b]? =some o->w.heap[b]? =some o):w.cell? a=some v:=by
 obtain⟨c,e,fz,j,f,d⟩:=JR h;have:=i _ _ j;obtain⟨b,g,k⟩:=a;simp only at f;subst f;simp only at this d;simp[World.cell?,this,d]
variable{n:String}
theorem wPr{w:World}{cs:Array Value}(h:W.var? prog n=some cs)(d:∀(b:Nat)(o:Obj),W.heap[b]? =some o->w.heap[b]? =some o):w.var? prog n=some cs:=by
 unfold World.var? at h⊢;cases c:prog.globalNamed n with
 |none=>rw[c]at h;cases h
 |some g=>
  rw[c]at h
  simp only[bS]at h⊢
  cases a:W.heap[g]? with
  |none=>rw[a]at h;cases h
  |some o=>rw[a]at h;rw[d g o a];exact h
set_option maxRecDepth 100000 in
theorem wPx(a:laidMetH prog laidA W)(k:W.ShapedOpen prog):Tabs (HO W)/\Kinds (HO W):=by
 rw[MakeChecks.laidMetH_plain _ _ _ (by kernel_rfl)]at a;have s : Lib.TabIs prog W "internal/strconv.uint64pow10" .u64 Lib.pow10Tab :=
  Lib.tabIs_of_head (g:=4) (t:=412) (e:=309) (n:=20) (by kernel_rfl) (by kernel_rfl) Tryz.underlying412 Tryz.underlying309 (by kernel_rfl) (by kernel_rfl) a.tail.tail
 obtain⟨G,I,h,_⟩:=laid_sentinel a.tail.tail.tail (g:=3) (ti:=109) (tp:=408) (te:=410) (ts:=9) (by kernel_rfl) (by kernel_rfl) Tryz.underlying109 Zl Tryz.underlying408 Tryz.underlying410 rfl rfl Tryz.underlying9 (by kernel_rfl) (by kernel_rfl);obtain⟨F,H,f,_⟩:=laid_sentinel a.tail.tail.tail.tail (g:=2) (ti:=109) (tp:=408) (te:=410) (ts:=9) (by kernel_rfl) (by kernel_rfl) Tryz.underlying109 Zl Tryz.underlying408 Tryz.underlying410 rfl rfl Tryz.underlying9 (by kernel_rfl) (by kernel_rfl);have y : Lib.TabIs prog W "scionry/calls.kinds" .i64 [0, 0, 0, 0, 0, 1, 1, 1, 1, 1, 1, 2, 2, 1, 2, 1, 1, 1, 0] :=
  Lib.tabIs_of_head (g:=0) (t:=84) (e:=3) (n:=19) (by kernel_rfl) (by kernel_rfl) Tryz.underlying84 Tryz.underlying3 (by kernel_rfl) (by kernel_rfl) a.tail.tail.tail.tail.tail
 have E : W.cell? ⟨3, 0, none⟩ = some (.iface 408 (.pointer (some G))) := by simpa using World.var?_cell (show prog.globalNamed "strconv.ErrRange" = some 3 by kernel_rfl) h 0
 have D : W.cell? ⟨2, 0, none⟩ = some (.iface 408 (.pointer (some F))) := by simpa using World.var?_cell (show prog.globalNamed "strconv.ErrSyntax" = some 2 by kernel_rfl) f 0
 have o := fun i => World.var?_cell (show prog.globalNamed "scionry/calls.kinds" = some 0 by kernel_rfl) y i;obtain⟨m,u⟩:∃m,W.cell? ⟨1,0,none⟩=some (iL m):=cell_of_shapedOpen_int (zero:=#[iL 0]) (t:=3) k (oT (by kernel_rfl)) (by kernel_rfl) rfl (by kernel_rfl) (by kernel_rfl) Tryz.underlying3;refine⟨λw b=>⟨⟨m,Q2 u b⟩,⟨_,Q2 D b,.inr ⟨_,_,rfl⟩⟩,⟨_,Q2 E b,.inr ⟨_,_,rfl⟩⟩,wPr s b⟩,?_⟩;obtain⟨c,e,fz,l,_,_⟩:=JR (o 0);refine⟨c,e,fz,l,λi z=>?_⟩;have d:=o i;unfold World.cell? at d;rw[show W.heap[(0:Nat)]? =_ from l]at d;have C:∀j:_root_.Fin 19,([0,0,0,0,0,1,1,1,1,1,1,2,2,1,2,1,1,1,0]:List Int)[j.val]? =some ((kindsL.getD j.val 0:Nat):Int):=by decide
 have B:=C ⟨i,z⟩;rw[List.getElem?_toArray,List.getElem?_map,B]at d;exact d
end
section
variable{P:Program}{ops:Array Oper}{N:Fs}{F:Fr}{M:Mem}{L:Lc}{o:Oper}
end
section
variable{P:Program}{ops:Array Oper}{N:Fs}{F:Fr}{E:Ent}{M:Mem}{L:Lc}{o:Oper}
end
variable{l:List WK}
theorem wTn(h:∀x∈l,NX x.1<=30000):AkF l:=⟨λx a=>by
 have:=h x a
 unfold NX mnI at this
 omega⟩
structure HoI where
 k:Nat
 y:V5
 o:Po
 M:Mem
theorem YN(l:List WK)(a:Option Addr)(c:Nat)(M:Mem)(h:AkS M a l)(hl:l.length<=4611686018427387903)(hT:Tabs M)(hK:Kinds M):
  Sg 4 #[.slice a l.length c] M [] λu _ L'=>u=.bool true/\L'=[]:=by
 refine sB func4 ntmps4 ?_;intro W;refine gc (YY M hT hK) ?_;rintro _ M1 L rfl;refine gc (Ya l a c 14 M1 (h.mono L) hl (by decide)) ?_;rintro _ M2 ao ⟨g,rfl,hg⟩;cases g with
 |true=>
  refine gr ?_
  exact⟨rfl,rfl⟩
 |false=>
 obtain⟨az,ai⟩:=hg rfl;have hf:=wTn ai;refine gc (SG M2) ?_;rintro _ M3 am Z;obtain⟨y0,rfl,S⟩:=Z.five;have aa:PW M3 y0 po0:=⟨S,by decide,by decide⟩;refine gA λP=>?_;refine Cy (α:=HoI) (λz=>[(0,.slice a l.length c),(4,pB P),(5,iL z.k)]) (λz=>z.M) (λz=>[GJ P z.y z.o.gen z.o.root z.o.next]) (λz=>z.k<=l.length/\PW z.M z.y z.o/\Fh z.o []/\MLe M3 z.M) (λz=>l.length-z.k) ⟨0,y0,po0,M3⟩ ⟨zL,aa,wYe,mR⟩ ?_;rintro⟨k,y,o,Mk⟩ ⟨hk,hp,B,F⟩;try dsimp only at hk hp B F⊢
 have w:=(L.trans ao).trans (am.trans F);refine gj (λaq=>?_) λaq=>?_
 ·have m:k<l.length:=by omega
  obtain⟨sb,so,O,hx⟩:=(h.sm.mono w).open (by intro e;have:=cA length e;rw[Af Ue 7 F4,length_nil]at this;omega);cases O;have K:=Bx Ue 7 F4 hx (List.getElem?_eq_getElem m);have s:=(h.bs l[k] (getElem_mem m)).mono w;have D:=h.kd l[k] (getElem_mem m);have d:=hf.sz l[k] (getElem_mem m);generalize l[k]=ak at K s D d;obtain⟨q,dv⟩:=ak;dsimp only at s D d;obtain⟨da,dc,rfl,_,_⟩:=_root_.id s;refine gh ?_;refine AX [GJ P y o.gen o.root o.next] (by kernel_rfl) (by simp) ?_;refine gk [0,1,2,3] ?_;refine Er (i:=4) rfl (by kernel_rfl) (by kernel_rfl) rfl rfl (A0 (cs:=Rf q (.slice da q.data.length dc)) rfl rfl rfl rfl rfl (λi v hv=>(K i v hv).cj _)) ?_;refine wUh 5 9 10 [6,7,8] [111,112] (λM' Q=>SZ o y M' (hp.mono Q) B (hT.mono (w.trans Q)) (hK.mono (w.trans Q)) q D d.1 d.2.1 _ (s.mono Q) d.2.2) ?_;rintro _ M4 al ⟨y2,b,r,e,rd,rn,rfl,f,aj,ah,hr⟩;refine gy λb6 b7=>?_;obtain⟨a3,a2,rfl,ay,ax⟩:=_root_.id aj;obtain⟨a1,a0,rfl,aw,av⟩:=_root_.id ah;have N:Fh b []:=by
   rcases hr with⟨_,hd⟩|⟨_,_,rfl,_⟩
   ·exact wMi B hd
   exact B
  obtain⟨E,af⟩:=N.cnt;have T:=Fg E;obtain⟨⟨yb,yw,⟨na,nn,nc⟩,yl,yd⟩,R⟩:=(show ∃q:V5,q=y2 from⟨y2,rfl⟩);subst R;obtain⟨_,_,au,ac,C⟩:=_root_.id f.pt.n;cases au;try dsimp only at ac C
  have ad:b.st.now.length=256:=T.2.1.1;obtain⟨nb,no,O,ab⟩:=C.open (by intro e;have:=cA length e;rw[Ac,length_nil]at this;omega);subst O;refine gh ?_;refine gc (QI b _ M4 f.pt f.dead) ?_;rintro _ M5 G ⟨⟨ra,rn,rc⟩,rfl,J,X,I,V⟩;try dsimp only at J X I
  subst J;have Y:=V E;rw[E];obtain⟨rb,ro,O,U⟩:=I.open (by intro e;have:=cA length e;rw[Ay,length_nil]at this;omega);subst O;refine gj (λh=>aD rfl h) λ_=>?_;refine gg ?_;refine Cy (α:=Nat) (λi=>[(0,.slice (sA sb so) l.length c),(4,pB P),(5,iL k),(8,.slice (sA rb ro) (CS b).length rc),(10,iL i)]) (λ_=>M5) (λ_=>[(P,cE (PP yb.v yw.v (.slice (sA nb no) b.st.now.length nc) yl.v b.gen b.root b.next yd.v) 32)]) (λi=>8<=i/\i<=256) (λi=>256-i) 8 ⟨lR,by decide⟩ ?_;rintro i ⟨ae,hi⟩;try dsimp only
  refine gj (λap=>?_) λap=>?_
  ·refine gh ?_;refine Qp [0,1,2,3,4,5,6,7,8,9,10,11] ?_;refine gh ?_;refine dq rfl (Aw rfl rfl rfl rfl (((ab _ _ (by rw[mO];exact B5 (j:=(i:Int).toNat) (by omega))).mono G).cj _)) ?_;refine dq rfl (CZ rfl rfl rfl (by have:=(b.st.now.getD (i:Int).toNat 0).toNat_lt;omega)) ?_;refine gh ?_;refine dq rfl (Aw rfl rfl rfl rfl ((U _ _ (by rw[mO];exact TA (j:=(i:Int).toNat) (by omega))).cj _)) ?_;have ag:=af i ae (by omega);refine gj (λH=>?_) λH=>?_
   ·exact aD ag.symm (by rw[tN]at H;exact H)
   refine gh ?_;refine BB (i+1) ⟨by omega,by omega⟩
  refine gh ?_;refine BB ⟨k+1,⟨yb,yw,⟨sA nb no,b.st.now.length,nc⟩,yl,yd⟩,b,M5⟩ ⟨by show k+1<=l.length;omega,f.mono G,N,(F.trans al).trans G⟩
 refine gr ?_;exact⟨rfl,rfl⟩
section
open Go.Joins
set_option maxRecDepth 100000 in
theorem callsHold_lifted(os:Os)(a:os.Started)(H:Type)(enc:TypeId×Value->H):
  ReturnsInHanded {} Tryz.checked os 4 .any (λw args=>(Rows.callsHoldSpec.pre enc prog Tryz.f4 [] false w args/\laidMetH prog Rows.callsHoldRow.laid w)/\sizedMet enc prog Tryz.f4 (OpenSpec.ofChange Rows.callsHoldSpec) false w args)
   (Rows.callsHoldSpec.post enc prog Tryz.f4 false true false false):=by
 refine Xl (C:=Tryz.checked) (X:=λw _=>laidMetH prog Rows.callsHoldRow.laid w) (λ_ _ _ P h=>h.of_heap P) A.own a (by kernel_rfl) func4
  (ChangeSpec.witness_shaped (enc:=enc) (C:=Tryz.checked) (os:=os) (X:=λw _=>laidMetH prog Rows.callsHoldRow.laid w) false (World.laidAll prog os Rows.callsHoldRow.laid) #[sN] 8 (World.laidAll_os _ _ _)
   (World.shaped_of_ZipB (by kernel_rfl) (by kernel_rfl)) (by kernel_rfl) (by kernel_rfl) (by kernel_rfl)
   (by rw[MakeChecks.laidMetH_plain _ _ _ (by kernel_rfl)];exact laidMet_laidAll _ (by kernel_rfl) (by kernel_rfl))) ?_
 intro W k args ds gs l c E V m d;obtain⟨U,Y⟩:=wPx V m;have b:∀(j:Nat) t v,Tryz.f4.params[j]? =some t->args[j]? =some v->Value.okWide prog W .any k t v:=c;have o:=E;obtain⟨p,q,s,T,rfl,Q,O⟩:=E;have F:DataW.TrodAll enc prog W 0 (λ_=>true) true Tryz.f4.params.toList args.toList ds p:=s;have f:(DataW.weightsEach prog (Tryz.f4.params.toList++(OpenSpec.ofChange Rows.callsHoldSpec).bare.plain.varTypes prog) (ds++gs)).all (· <=reachBytes)=true:=d;rw[Tryz.params4]at F b f;obtain⟨L,d0,rfl,rfl,Z⟩:=trodAll_one F;obtain⟨rfl,rfl⟩:=trodVars_none T;obtain⟨K,I,J,rfl⟩:=okWide_slice Tryz.underlying36 (b 0 36 L rfl rfl);obtain⟨_,n⟩:=Z;obtain⟨u,N,M,G,B,z,i,g⟩:=Xx n;simp only[Value.slice.injEq]at G;obtain⟨rfl,rfl,rfl⟩:=G;have D:(1+u.length)*88<=140737488355328:=by
  rcases g with⟨rfl,_⟩|⟨el,er,y,hl⟩
  ·decide
  dsimp only at y;subst y;have:=sized_slice f (j:=0) (t:=36) (e:=39) rfl rfl Tryz.underlying36;rw[show prog.bytesOf 39=88 by kernel_rfl]at this;unfold reachBytes at this;omega
 refine(YN u _ _ (HO W) i (by omega) U Y |>.mono λ_ _ _ h=>h.1).run.mono λe W' ⟨R,S⟩=>?_;subst R;exact⟨_,rfl,wKi o (by kernel_rfl) rfl rfl rfl S⟩
theorem T4:laidOutB prog=true:=by kernel_rfl
theorem T3:mapsRowed prog=true:=by kernel_rfl
theorem T2:(Rows.callsHoldRow.inPlace==prog.inPlace 4)=true:=by kernel_rfl
theorem T1:(Rows.callsHoldRow.unfollowed==prog.unfollowed 4)=true:=by kernel_rfl
theorem T0:(Rows.callsHoldRow.recurses==prog.recurses 4)=true:=by kernel_rfl
theorem TZ:(Rows.callsHoldRow.named==prog.varsNamed 4)=true:=by kernel_rfl
theorem NW:joinedFacts prog 4 Tryz.f4 Rows.callsHoldSpec Rows.callsHoldRow=true:=by
 unfold joinedFacts;rw[T4,T3,T2,T1,T0,TZ];kernel_rfl
theorem callsHold_holds:Rows.CallsHoldSaid:=
 OpenClaim.holds_of_wide 4 Tryz.f4 rfl rfl rfl rfl rfl rfl rfl ⟨rfl,rfl,rfl,rfl,rfl⟩ rfl rfl rfl rfl rfl (by kernel_rfl) func4 NW
  (oT (by kernel_rfl)) (by unfold Func.isWrapper;first|(rw[iP (by decide +kernel)];kernel_rfl)|(rw[iN (by decide +kernel)];exact⟨rfl,rfl⟩))
  (λb a H enc _=>callsHold_lifted b a H enc)
end
end Go.Proofs.YtjheijhahehnmaaGreatDoor
