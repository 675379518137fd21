/- Opening arguments: lists of calls; the tables that the library reads, and the kinds. No statement of the seat is proved here. -/
import Derived.Test.YtjheijhahehnmaaGreatDoorZShv
import Derived.ProofKit
import Derived.Carry
import Derived.Test.YtjheijhahehnmaaGreatDoorZCx
import Derived.Test.YtjheijhahehnmaaGreatDoorRows
import Derived.Lib.SmallJoins
import Derived.Handed
import Derived.HandedShaped
import Derived.LaidMore
import Derived.MakeChecks
import Derived.Lib.LaidTab
import Derived.Stop.LaidErr
import Derived.Stop.Joined
import Derived.OpenShut
import Derived.SizedLaws
namespace Go.Proofs.YtjheijhahehnmaaGreatDoor
open Go.Proofs.Tryz
set_option linter.unusedSimpArgs false
set_option linter.unusedVariables false
set_option linter.unusedSectionVars false
set_option maxRecDepth 8000
open Go.ChangeShapes Go.WideShapes Go.ChangeAt Go.RowKit
def GM(W:World):Mem:=λb=>W.heap[b]?
variable{P:Program}{W:World}{args:Array Value}{f:FuncId}
theorem SpecL.run{v:Value}(h:SpecL P f args (GM W) [] λu _ _=>u=v):Calls P f args W λe c=>e=.returned v/\Below W.heap.size W c:=by
 have b:St ⟨W,([]:Lc).map (·.1),GM W⟩ (GM W) [] W:=
  {os:=rfl,tape:=rfl,output:=rfl,size:=Nat.le_refl _,same:=λ_ _ _=>rfl,fresh:=λ_ _=>rfl,agree:=λ_ _ h=>h
   locs:=λp d=>by cases d
   nodup:=by simp }
 refine(h W b).mono λe c i=>?_;obtain⟨u,l,j,rfl,rfl,a⟩:=i;exact⟨rfl,⟨a.os,a.tape,a.output,a.size,λk g=>a.same k g (by simp)⟩⟩
variable{H:Type}{enc:TypeId×Value->H}
theorem Ko(f:laidOutB P=true){i:World}(g:Below W.heap.size W i):∀(ts:List TypeId)(vs:List Value)(ds:List (DataW H))(ps:List MemPlace),
  ts.all (λt=>P.readableRec t&&decide (t<P.types.size))=true->(∀x∈ps,x.block<W.heap.size)->
  DataW.TrodAll enc P W 0 (λ_=>true) true ts vs ds ps->DataW.TrodAll enc P i 0 (λb=>decide (b<W.heap.size)) true ts vs ds ps
 |[],[],[],ps,_,_,h=>h
 |t::ts,v::vs,d::ds,ps,c,a,h=>by
  obtain⟨p,q,k,j,rfl⟩:=h;simp only[List.all_cons,Bool.and_eq_true,decide_eq_true_eq]at c;exact⟨p,q,Below.trod f c.1.1 c.1.2 k g (λx e=>a x (by simp[e])),Ko f g ts vs ds q c.2 (λx e=>a x (by simp[e])) j,rfl⟩
 |[],_::_,_,_,_,_,h=>h.elim
 |[],[],_::_,_,_,_,h=>h.elim
 |_::_,[],_,_,_,_,h=>h.elim
 |_::_,_::_,[],_,_,_,h=>h.elim
theorem A.laid:laidOutB prog=true:=by kernel_rfl
theorem A.own:ownKnob prog.godebug=none:=by kernel_rfl
variable{s:ChangeSpec}{ds:List (DataW H)}
theorem QH{f:Func}{l:World}{k:List (DataW H)}{p:List MemPlace}
  (i:DataW.Whole enc prog f.params.toList s.vars false W args.toList ds k p) (n:f.params.toList.all (λt=>prog.readableRec t&&decide (t<prog.types.size))=true)
  (e:s.vars=[]) (b:f.resultTypes=#[4]) (a:(s.fn H (ds++k))={ results:=[.lit (.bool true)],args:=ds }) (g:Below W.heap.size W l):
  s.post enc prog f false true false false W args (.bool true) l:=by
 have c:=i;obtain⟨d,y,w,j,rfl,u,o⟩:=i;rw[e]at j;obtain⟨rfl,rfl⟩:=trodVars_none j;refine⟨ds,[],d++[],[],d,[],c,?_,?_,?_,g.frame _,λh=>by cases h⟩
 ·rw [a,b];exact trodAll_mk1 (shut_bool Tryz.underlying4 _)
 ·rw [a];exact Ko A.laid g _ _ _ _ n (λx m=>c.lt x (by simp[m])) w
 rw[a,e];exact rfl
variable{n:Int}
theorem wWr(h:(Lit.int .u8 n).wf=true):0<=n/\n<256:=by
 simp[Lit.wf,IntKind.min,IntKind.max,IntKind.signed,IntKind.bits]at h;omega
section
open Go.Joins Go.MapKept
section
variable{H:Type}{enc:TypeId×Value->H}
theorem KM{a:Assume}{C:Checked}{os:Os}{f:FuncId}{n:Func}{s:ChangeSpec}{o:List PathCond}{b m g u:Bool}{X:World->Array Value->Prop}
  (S:∀(w w':World)(args:Array Value),w.heap=w'.heap->X w args->X w' args)
  (own:ownKnob C.prog.godebug=none) (l:os.Started) (y:C.prog.inits.idxOf? f=none) (L:C.prog.funcs[f]? =some n)
  (k:∃(w:World)(c:Tape)(i:Input),w.os=os/\(w.forCall c i).Shaped C.prog/\i.vars=[]/\Input.okWide C.prog (w.forCall c i) .any w.heap.size f i/\
   ((s.pre enc C.prog n o b (w.forCall c i).memory i.args/\X (w.forCall c i).memory i.args)/\sizedMet enc C.prog n (OpenSpec.ofChange s) b (w.forCall c i).memory i.args)/\a.holds C.prog (lone (Frame.enter C.prog f i.args .normal) [] (w.forCall c i)))
  (h:∀(W:World)(E:Nat)(args:Array Value)(ds F:List (DataW H))(d:List MemPlace),
   (∀(j:Nat) t v,n.params[j]? =some t->args[j]? =some v->Value.okWide C.prog W .any E t v)->
   DataW.Whole enc C.prog n.params.toList s.vars b W args.toList ds F d->X W args->W.ShapedOpen C.prog->
   (DataW.weightsEach C.prog (n.params.toList++(OpenSpec.ofChange s).bare.plain.varTypes C.prog) (ds++F)).all (· <=reachBytes)=true->
   Calls C.prog f args W λe N=>∃v,e=.returned v/\s.post enc C.prog n b m g u W args v N):
  ReturnsInHanded a C os f .any (λw args=>(s.pre enc C.prog n o b w args/\X w args)/\sizedMet enc C.prog n (OpenSpec.ofChange s) b w args) (s.post enc C.prog n b m g u):=by
 refine returnsInHanded_of_calls own l y k ?_;intro w c i _ J _ K B _;obtain⟨_,_,_,M,D,_,_,_,_,z⟩:=K;have e:M=n:=Option.some.inj (D.symm.trans L);subst e;obtain⟨⟨_,O⟩,_,ds,F,d,P,G⟩:=B;have I:=DataW.Whole.of_heap (w':=w.forCall c i) (by rfl) P;refine(h (w.forCall c i) w.heap.size i.args ds F d z I (S _ _ _ (by rfl) O) J G).mono λe N ⟨v,R,Q⟩=>?_;subst R;exact ChangeSpec.post_blind Q
end
variable{W:World}{a:Addr}
theorem Kh{v:Value}(h:W.cell? a=some v):∃c e fz,W.heap[a.block]? =some (.cells c e fz)/\a.spot=none/\c[a.off]? =some v:=by
 unfold World.cell? at h;split at h
 ·rename_i c e fz d;split at h
  ·cases h
  rename_i b;exact⟨c,e,fz,d,by simpa using b,h⟩
 cases h
variable{b:Nat}
theorem wRx{off j:Nat}:(⟨b,off,none⟩:Addr).add j=⟨b,off+j,none⟩:=by unfold Addr.add;split<;>simp_all
variable{cs:List Value}
theorem Vz(h:∀i u,cs[i]? =some u->W.cell? (a.add i)=some u):SM (GM W) (some a) cs:=by
 cases cs with
 |nil=>exact .inl rfl
 |cons u n=>
  obtain⟨w,s,k,o,f,_⟩:=Kh (h 0 u rfl)
  obtain⟨b,d,e⟩:=a
  simp[Addr.add]at f
  subst f
  refine .inr ⟨b,d,rfl,λi v j=>?_⟩
  obtain⟨m,l,fz1,c,_,g⟩:=Kh (h i v j)
  rw[wRx]at c g
  exact⟨m,l,fz1,c,g⟩
variable{α:Type}
theorem wBh{p:Nat->α->Prop}:∀{n:Nat},(∀i,i<n->∃x,p i x)->∃l:List α,l.length=n/\∀i (h:i<l.length),p i l[i]
 |0,_=>⟨[],rfl,λi h=>absurd h (Nat.not_lt_zero i)⟩
 |n+1,h=>by
  obtain⟨l,e,d⟩:=wBh (n:=n) (λi a=>h i (by omega));obtain⟨x,c⟩:=h n (by omega);refine⟨l++[x],by simp[e],λi a=>?_⟩;by_cases b:i<l.length
  ·rw [List.getElem_append_left b];exact d i b
  obtain rfl:i=n:=by rw[List.length_append,List.length_singleton]at a;omega
  rw[List.getElem_append_right (by omega)];simpa using c
def bOf(x:Int):By:=UInt8.ofNat x.toNat
theorem UQ{x:Int}(h:0<=x/\x<256):((bOf x).toNat:Int)=x:=by
 unfold bOf;rw[UInt8.toNat_ofNat_of_lt' (by show x.toNat<256;omega)];omega
section
variable{H:Type}{enc:TypeId×Value->H}{W:World}
theorem wLv{e:Nat}{v:Value}{x:DataW H×List MemPlace}(h:DataW.trod enc prog W 0 (λ_=>true) true e 26 [v]=some x):∃(f:List By)(a:Option Addr)(c:Nat),v=.slice a f.length c/\f.length<=c/\c<=maxLen/\SM (GM W) a (Aa f):=by
 rcases open_ints Tryz.underlying26 Tryz.underlying5 (by kernel_rfl) h with⟨o,_⟩|⟨a,len,s,zs,o,_,l,k,d,_,b,g⟩
 ·cases o;exact⟨[],none,0,rfl,Nat.le_refl _,Nat.zero_le _,.inl rfl⟩
 cases o;simp only[if_true]at d;have w:∀n∈zs,((bOf n).toNat:Int)=n:=λn y=>UQ (wWr (g n y));have m:((zs.take len).map bOf).length=len:=by rw[List.length_map,List.length_take];omega
 refine⟨(zs.take len).map bOf,some a,s,by rw[m],by rw[m];exact l,k,Vz λi u j=>?_⟩;have z:i<len:=by
  have:=(List.getElem?_eq_some_iff.1 j).1;rw[Ad,m]at this;exact this
 rw[b i (by omega)];simp only[Aa,List.getElem?_map,List.getElem?_take,z,if_true,List.getElem?_eq_getElem (show i<zs.length by omega),Option.map_some,Option.some.injEq]at j;rw[<-j,w _ (List.getElem_mem _)];simp[List.getD,List.getElem?_eq_getElem (show i<zs.length by omega)]
theorem SH(s:ByteArray):.string s=Value.string (AD s.data.toList):=by unfold AD;simp
set_option maxRecDepth 100000 in
theorem S3{f:Nat}{cs:List Value}{x:DataW H×List MemPlace}(h:DataW.trod enc prog W 0 (λ_=>true) true f 39 cs=some x):∃q:TI,cs=Lm q/\BS (GM W) q.2 q.1.data/\0<=q.1.kind/\q.1.kind<256:=by
 obtain⟨C,n,_,rfl,g,e,d⟩:=DataW.trod_struct Tryz.underlying39 h;rw[show prog.cellsOf 39=7 by kernel_rfl]at g;have R:prog.cellsOf 5=1:=by kernel_rfl
 have Q:prog.cellsOf 9=1:=by kernel_rfl
 have P:prog.cellsOf 3=1:=by kernel_rfl
 have O:prog.cellsOf 26=1:=by kernel_rfl
 match cs,g,C,e with
 |[c0,c1,c2,c3,c4,c5,c6],_,[y0,X,V,U,T,S,y6],_=>
  have w:=d 0 _ rfl
  have u:=d 1 _ rfl
  have s:=d 2 _ rfl
  have m:=d 3 _ rfl
  have l:=d 4 _ rfl
  have j:=d 5 _ rfl
  have i:=d 6 _ rfl
  simp only[R,Q,P,O,List.drop_succ_cons,List.drop_zero,List.take_succ_cons,List.take_zero,List.getElem?_cons_zero,List.getElem?_cons_succ]at w u s m l j i
  obtain⟨k,L,-,D⟩:=DataW.trod_int Tryz.underlying5 w
  obtain⟨p,K,-,w1⟩:=DataW.trod_string Tryz.underlying9 u
  obtain⟨o,J,-,w2⟩:=DataW.trod_string Tryz.underlying9 s
  obtain⟨a,I,-,w3⟩:=DataW.trod_int Tryz.underlying3 m
  obtain⟨b,G,-,Z⟩:=DataW.trod_int Tryz.underlying3 l
  obtain⟨c,F,-,Y⟩:=DataW.trod_int Tryz.underlying3 j
  obtain⟨y,B,z,E,N,k2,M⟩:=wLv i
  cases L;cases K;cases J;cases I;cases G;cases F;cases E
  have:=wWr D
  exact⟨(⟨k,p.data.toList,o.data.toList,a,b,c,y⟩,.slice B y.length z),by unfold Lm JG;dsimp only;rw[<-SH,<-SH],⟨B,z,rfl,N,M⟩,this.1,by show k<256;omega⟩
theorem Qo{B:Nat}{v:Value}{x:DataW H×List MemPlace}(h:DataW.trod enc prog W 0 (λ_=>true) true B 36 [v]=some x):∃(d:List TI)(a:Option Addr)(c:Nat),v=.slice a d.length c/\d.length<=c/\c<=maxLen/\AkS (GM W) a d/\((d=[]/\x.1=.nil)\/∃e r,x.1=.slice e r/\e.length=d.length):=by
 rcases DataW.trod_slice Tryz.underlying36 h with⟨E,f⟩|⟨a,len,G,F,I,n,_,E,f,_,P,C,D,K,_⟩
 ·cases E;exact⟨[],none,0,rfl,Nat.le_refl _,Nat.zero_le _,⟨.inl rfl,(λ_ h=>by cases h),(λ_ h=>by cases h)⟩,.inl ⟨rfl,by rw[f]⟩⟩
 cases E;have R:prog.cellsOf 39=7:=by kernel_rfl
 rw[R]at K;have z:∀(b:Addr)(x y:Nat),(b.add x).add y=b.add (x+y):=λb x y=>by
  obtain⟨X,N,M⟩:=b;cases M<;>simp[Addr.add]<;>(try split)<;>(try split)<;>simp_all<;>omega
 obtain⟨d,s,g⟩:=wBh (p:=λi (q:TI)=>(∀j u,(Lm q)[j]? =some u->W.cell? (a.add (i*7+j))=some u)/\BS (GM W) q.2 q.1.data/\0<=q.1.kind/\q.1.kind<256) (n:=len) (λi k=>by
  have l:=K i k;rw[List.getElem?_eq_getElem (by omega),Option.bind_eq_some_iff]at l;obtain⟨cs,U,T⟩:=l;obtain⟨_,V,S⟩:=World.cells?_some U;obtain⟨q,rfl,o⟩:=S3 T;refine⟨q,λj u m=>?_,o⟩;have Q:j<7:=(List.getElem?_eq_some_iff.1 m).1;have L:=S j Q;rw[z]at L;rw[L,<-m])
 refine⟨d,some a,G,by rw[s],by omega,C,⟨Vz λi u m=>?_,λq o=>?_,λq o=>?_⟩,.inr ⟨_,_,by rw[f],by rw[List.length_map,D,s]⟩⟩
 ·have k:=(List.getElem?_eq_some_iff.1 m).1;rw[Aj Lm 7 Ft]at k;have J:i / 7<d.length:=by omega
  have w:i=(i / 7)*7+i%7:=by omega
  have O:i%7<7:=by omega
  have l:=Ri Lm 7 Ft d (i / 7) (i%7) O;rw[List.getElem?_eq_getElem J,Option.bind_some]at l;rw[<-w,m]at l;have:=(g (i / 7) J).1 (i%7) u l.symm;rw[<-w]at this;exact this
 ·obtain ⟨i,k,rfl⟩:=List.mem_iff_getElem.1 o;exact(g i k).2.1
 obtain⟨i,k,rfl⟩:=List.mem_iff_getElem.1 o;exact(g i k).2.2
end
abbrev laidA : List (String × DataW Unit) := [("math/bits.deBruijn32tab", Rows.laid_math_bits_deBruijn32tab), ("math/bits.deBruijn64tab", Rows.laid_math_bits_deBruijn64tab), ("internal/strconv.uint64pow10", Rows.laid_internal_strconv_uint64pow10), ("strconv.ErrRange", Rows.laid_strconv_ErrRange), ("strconv.ErrSyntax", Rows.laid_strconv_ErrSyntax), ("scionry/calls.kinds", Rows.laid_scionry_calls_kinds)]
theorem wAk (u : TypeId) (h : prog.typeName? 3 u = some "*errors.errorString") : u = 408 :=
 typeName_ptr_named (nm := "errors.errorString") (by rw [show "*" ++ "errors.errorString" = "*errors.errorString" by decide]; kernel_rfl) (by kernel_rfl) (by decide) u (by rw [show "*" ++ "errors.errorString" = "*errors.errorString" by decide]; exact h)
theorem RK{w:World}{v:Value}(h:W.cell? a=some v)(i:∀(b:Nat)(o:Obj),W.heap[b]? =some o->w.heap[b]? =some o):w.cell? a=some v:=by
 obtain⟨c,e,fz,j,f,d⟩:=Kh h;have:=i _ _ j;obtain⟨b,g,k⟩:=a;simp only at f;subst f;simp only at this d;simp[World.cell?,this,d]
variable{n:String}
theorem wSo{w:World}{cs:Array Value}(h:W.var? prog n=some cs)(d:∀(b:Nat)(o:Obj),W.heap[b]? =some o->w.heap[b]? =some o):w.var? prog n=some cs:=by
 unfold World.var? at h⊢;cases c:prog.globalNamed n with
 |none=>rw[c]at h;cases h
 |some g=>
  rw[c]at h
  simp only[Option.bind_some]at h⊢
  cases a:W.heap[g]? with
  |none=>rw[a]at h;cases h
  |some o=>rw[a]at h;rw[d g o a];exact h
set_option maxRecDepth 100000 in
theorem TP(a:laidMetH prog laidA W)(k:W.ShapedOpen prog):Tabs (GM W)/\Kinds (GM W):=by
 rw[MakeChecks.laidMetH_plain _ _ _ (by kernel_rfl)]at a;have s : Lib.TabIs prog W "internal/strconv.uint64pow10" .u64 Lib.pow10Tab :=
  Lib.tabIs_of_head (g:=4) (t:=412) (e:=309) (n:=20) (by kernel_rfl) (by kernel_rfl) Tryz.underlying412 Tryz.underlying309 (by kernel_rfl) (by kernel_rfl) a.tail.tail
 obtain⟨G,I,h,_⟩:=laid_sentinel a.tail.tail.tail (g:=3) (ti:=109) (tp:=408) (te:=410) (ts:=9) (by kernel_rfl) (by kernel_rfl) Tryz.underlying109 wAk Tryz.underlying408 Tryz.underlying410 rfl rfl Tryz.underlying9 (by kernel_rfl) (by kernel_rfl);obtain⟨F,H,f,_⟩:=laid_sentinel a.tail.tail.tail.tail (g:=2) (ti:=109) (tp:=408) (te:=410) (ts:=9) (by kernel_rfl) (by kernel_rfl) Tryz.underlying109 wAk Tryz.underlying408 Tryz.underlying410 rfl rfl Tryz.underlying9 (by kernel_rfl) (by kernel_rfl);have y : Lib.TabIs prog W "scionry/calls.kinds" .i64 [0, 0, 0, 0, 0, 1, 1, 1, 1, 1, 1, 2, 2, 1, 2, 1, 1, 1, 0] :=
  Lib.tabIs_of_head (g:=0) (t:=84) (e:=3) (n:=19) (by kernel_rfl) (by kernel_rfl) Tryz.underlying84 Tryz.underlying3 (by kernel_rfl) (by kernel_rfl) a.tail.tail.tail.tail.tail
 have E : W.cell? ⟨3, 0, none⟩ = some (.iface 408 (.pointer (some G))) := by simpa using World.var?_cell (show prog.globalNamed "strconv.ErrRange" = some 3 by kernel_rfl) h 0
 have D : W.cell? ⟨2, 0, none⟩ = some (.iface 408 (.pointer (some F))) := by simpa using World.var?_cell (show prog.globalNamed "strconv.ErrSyntax" = some 2 by kernel_rfl) f 0
 have o := fun i => World.var?_cell (show prog.globalNamed "scionry/calls.kinds" = some 0 by kernel_rfl) y i;obtain⟨m,u⟩:∃m,W.cell? ⟨1,0,none⟩=some (.int .i64 m):=cell_of_shapedOpen_int (zero:=#[.int .i64 0]) (t:=3) k (of_decide_eq_true (by kernel_rfl)) (by kernel_rfl) rfl (by kernel_rfl) (by kernel_rfl) Tryz.underlying3;refine⟨λw b=>⟨⟨m,RK u b⟩,⟨_,RK D b,.inr ⟨_,_,rfl⟩⟩,⟨_,RK E b,.inr ⟨_,_,rfl⟩⟩,wSo s b⟩,?_⟩;obtain⟨c,e,fz,l,_,_⟩:=Kh (o 0);refine⟨c,e,fz,l,λi z=>?_⟩;have d:=o i;unfold World.cell? at d;rw[show W.heap[(0:Nat)]? =_ from l]at d;have C:∀j:_root_.Fin 19,([0,0,0,0,0,1,1,1,1,1,1,2,2,1,2,1,1,1,0]:List Int)[j.val]? =some ((kindsL.getD j.val 0:Nat):Int):=by decide
 have B:=C ⟨i,z⟩;rw[List.getElem?_toArray,List.getElem?_map,B]at d;exact d
end
end Go.Proofs.YtjheijhahehnmaaGreatDoor
