/- Blocks counted just so, without a program in sight: a node made, a reference taken away, a node left. No statement of the seat is proved here. -/
import Derived.Test.YtdahhoicackcaaaGreatZHn
import Derived.Test.YtdahhoicackcaaaGreatZNdr
import Derived.Test.YtdahhoicackcaaaGreatZLeave
namespace Go.Proofs.YtdahhoicackcaaaGreat
open Go.Proofs.Tryz
open List (length length_append map_map length_map length_nil map_append map_cons sum_cons flatMap_cons getD count_cons_self)
set_option linter.unusedSimpArgs false
set_option linter.unusedVariables false
set_option linter.unusedSectionVars false
open Go.RowKit
set_option maxRecDepth 8000
set_option maxHeartbeats 40000000
theorem GK(xs:List By)(a n:Nat):0<=Cl xs a n/\Cl xs a n<4294967296:=El _
theorem wHb(xs:List By):BP (G0 xs).key:=by
 have:=(xs.getD 0 0).toNat_lt
 exact⟨⟨by show (0:Int)<=((xs.getD 0 0).toNat:Int);omega,by show ((xs.getD 0 0).toNat:Int)<256;omega⟩,GK _ _ _,GK _ _ _⟩
theorem LJ:∀{n:Nat}{r:List By}{b:List It}{a:List It×List By},B6 n r b=some a->(∀x∈b,BP x.key)->∀x∈a.1,BP x.key
 |0,r,b,a,h,d=>by rw[B6]at h;cases h;exact d
 |n+1,r,b,a,h,d=>by
  rw[B6]at h
  split at h
  ·refine LJ h λx c=>?_
   rcases List.mem_append.1 c with c|c
   ·exact d x c
   rw[List.mem_singleton.1 c];exact wHb _
  cases h
variable{k:Nat}{lv:Int}{s:Sto}{xs:List It}
theorem Hk(h:Ai s k=some (lv,xs)):∀x∈xs,BP x.key:=by
 grind[Ai,C1,LJ]
theorem FY{q:Ky}:∀{l:Nat}{xs:List It}{k:Nat},Ai s k=some ((l:Int),xs)->AV s l xs->∀w∈Av s q l xs,(∃j,Ai s j=some (w.lv,w.xs))/\w.at_<=w.xs.length/\(w.lv≠0->w.at_<w.xs.length)
 |0,xs,k,b,f,w,a=>by
  rw[Av]at a
  rw[List.mem_singleton.1 a]
  exact⟨⟨k,b⟩,Hg _ _,λh=>absurd rfl h⟩
 |l+1,xs,k,b,f,w,a=>by
  have e:=FH b (by omega)
  have c:=G6 (q:=q) e
  rw[Av,List.getElem?_eq_getElem c]at a
  rcases List.mem_cons.1 a with rfl|a
  ·exact ⟨⟨k,b⟩,by show Bz xs q<=xs.length;omega,λ_=>c⟩
  obtain⟨ys,g,_,i⟩:=BA f (List.getElem_mem c)
  have d:kid s xs[Bz xs q]=ys:=by unfold kid;rw[g]
  change w∈Av s q l (kid s xs[Bz xs q])at a
  rw[d]at a
  exact FY g i w a
theorem EQ{q:Ky}:∀(l:Nat)(xs:List It),(Av s q l xs).length=l+1
 |0,_=>rfl
 |l+1,xs=>by rw[Av,List.length_cons,EQ l]
variable{α:Type}{ps:List α}
theorem wLu{pre:List (α×Nat)}{y:α×Nat}(h:pre++[y]<+:bw ps 0):∃h:pre.length<ps.length,y.1=ps[ps.length-1-pre.length]:=by
 obtain⟨r,b⟩:=h
 have c:=congrArg length b
 rw[DO,length_append,length_append,List.length_singleton]at c
 have a:pre.length<ps.length:=by omega
 refine⟨a,?_⟩
 have e:=congrArg (λl=>(l.map (·.1))[pre.length]?) b
 grind[JT]
def wFg(up:List It):Prop:=∀y∈up,(0<=y.ref/\(y.ref=0\/8<=y.ref)/\y.ref<256)/\BP y.key
theorem wBf:∀{ps:List (List It)}{s t:Sto}{up0 up:List It},Aq s->Mx lv ps s up0=.ok (t,up)->(∀p∈ps,p≠[]/\∀x∈p,BP x.key)->wFg up0->Aq t/\up.length=up0.length+ps.length/\wFg up
 |[],s,t,up0,up,a,h,_,f=>by rw[Mx]at h;cases h;exact⟨a,rfl,f⟩
 |p::ps,s,t,up0,up,a,h,g,f=>by
  rw[Mx]at h
  split at h
  ·rename_i j
   have b:=GE j a.1.2.1
   obtain⟨m,l,k⟩:=wBf (Hl a b.1 b.2.2.1 b.2.2.2) h (λp i=>g p (by simp[i])) (λy c=>by
    rcases List.mem_append.1 c with c|c
    ·exact f y c
    rw[List.mem_singleton.1 c]
    have n:8<=mkAt (Ag s p):=H5 _ _ _
    obtain⟨d,e⟩:=g p (by simp)
    obtain⟨z,zs,rfl⟩:=List.exists_cons_of_ne_nil d
    refine⟨⟨?_,.inr ?_,?_⟩,e z (by simp)⟩
    ·show (0:Int)<=(mkAt (Ag s (z::zs)):Int);omega
    ·show (8:Int)<=(mkAt (Ag s (z::zs)):Int);omega
    show (mkAt (Ag s (z::zs)):Int)<256;omega)
   refine⟨m,?_,k⟩
   rw[l,length_append,List.length_singleton,List.length_cons];omega
  cases h
variable{l up:List It}
theorem T3{t:Sto}{held:List It}(a:Aq s)(h:build s lv l held=.ok (t,up))(e:l≠[])(hk:∀x∈l,BP x.key):up.length=(if 5<l.length then 2 else 1)/\wFg up:=by
 unfold build at h
 split at h
 ·cases h
 rename_i g c f
 split at h
 ·cases h
 cases h
 obtain⟨_,j,i⟩:=wBf a f (λp b=>⟨(F7 b).2 e,λx d=>hk x ((F7 b).1 x d)⟩) (λ_ h=>by cases h)
 grind[Ga]
variable{e:Int}
theorem W7{x:It}:∀{ws:List Stp}(k:Nat),H2 s x (ws.drop k)=.error e->H2 s x ws=.error e
 |ws,0,h=>by simpa using h
 |[],k+1,h=>by simpa using h
 |w::ws,k+1,h=>by
  rw[List.drop_succ_cons]at h
  rw[H2,W7 k h]
theorem wGy{w:Stp}{q:Ky}(h:up≠[]):Fa w q up≠[]:=λe=>by
 unfold Fa at e
 have:=List.append_eq_nil_iff.1 e
 exact h (List.append_eq_nil_iff.1 this.1).2
variable{y:It}
theorem Z0{w:Stp}{q:Ky}(h:y∈Fa w q up):y∈w.xs\/y∈up:=by
 grind[Fa]
theorem Z1(w:Stp)(q:Ky)(up:List It):(Fa w q up).length<=w.xs.length+up.length:=by
 grind[Fa]
def UF(M:Mem)(v:Value)(up:List It):Prop:=∃b c,∃ps:List Ir,∃vl e,v=.slice (some ⟨b,0,none⟩) up.length c/\up.length<=c/\M b=some (cE (ps.flatMap Ac++vl) e)/\ps.map (·.1)=up/\∀p∈ps,BS M p.2 p.1.val
variable{M M':Mem}
theorem UF.mono{v:Value}(h:UF M v up)(a:MLe M M'):UF M' v up:=by
 obtain⟨b,c,ps,d,e,l,k,j,i,g⟩:=h;exact⟨b,c,ps,d,e,l,k,a _ _ j,i,λp f=>(g p f).mono a⟩
theorem UF.ns{v:Value}(h:UF M v up):NS M v up:=by
 obtain⟨b,c,ps,m,e,l,k,j,g,f⟩:=h
 exact⟨_,c,ps,l,k,.inr ⟨b,0,rfl,λi u a=>⟨_,_,_,j,by
  have d:=(List.getElem?_eq_some_iff.1 a).1
  rw[Nat.zero_add,List.getElem?_toArray,List.getElem?_append_left d];exact a⟩⟩,g,f⟩
variable{cur:Array Value}{g:Nat}
theorem wLa{a:Nat}(h:M g=some (.cells cur IT (0,0)))(f:up.length<=a)(d:cur.toList.take (up.length*5)=up.flatMap Ly)(c:∀x∈up,x.val=[]):UF M (.slice (some ⟨g,0,none⟩) up.length a) up:=by
 refine⟨g,a,up.map (λx=>(x,.slice none 0 0)),cur.toList.drop (up.length*5),IT,rfl,f,?_,by rw[map_map];exact List.map_id _,λp e=>?_⟩
 ·rw [h,List.flatMap_map,show (up.flatMap λx=>Ac (x,.slice none 0 0))=up.flatMap Ly from rfl,<-d,List.take_append_drop]
 obtain⟨x,b,rfl⟩:=List.mem_map.1 e
 exact⟨none,0,by rw[c x b];rfl,by rw[c x b];exact Nat.le_refl _,by rw[c x b];exact .inl rfl⟩
variable{L' Lb:Lc}{bb:Nat}{r:Except Int (Sto×List It)}{u:Value}
theorem BdPost.form(h:BdPost r bb Lb u M' L'):∃a n c e,u=.tuple #[.slice a n c,.int .i64 e]/\((e≠0/\r=.error e)\/(e=0/\∃t up d b,r=.ok (t,up)/\n=up.length/\L'=d++b/\Aq t/\BOwn M' bb b t/\Own (.slice a up.length c) d IT 5 up.length (up.flatMap Ly)/\(∀x∈up,x.val=[])/\∀p∈d,p.1∉Lb.map (·.1))):=by
 unfold BdPost at h
 grind
variable{root:Int}
theorem LvPost.form(h:LvPost s root bb u M' L'):∃e:Int,u=.int .i64 e/\((e=8/\leave s root=none)\/(e=0/\∃t,leave s root=some t/\Aq t/\BOwn M' bb L' t)):=by
 rcases h with⟨b,a⟩|⟨t,b,a,d,c⟩
 ·grind
 grind
def zeroSt:List Value:=[.slice none 0 0,.slice none 0 0,.slice none 0 0,.slice none 0 0]
theorem P6{x:It}(h:CL s root x=0):(fchk s root).2=0/\BY x=0/\(x.ref≠0->¬s.now.getD x.ref.toNat 0=0):=by
 grind[CL,fchk,BY]
variable{a:Ky}
theorem wMx{b:Ky}(h:decide (¬ [a.kind,a.id,a.off]=[b.kind,b.id,b.off])=true):a≠b:=λe=>by rw[e]at h;exact of_decide_eq_true h rfl
theorem wBs{b:Ky}(h:decide (¬ [a.kind,a.id,a.off]=[b.kind,b.id,b.off])=false)(c:a≠b):False:=by
 have:=Classical.not_not.1 (of_decide_eq_false h)
 simp only[List.cons.injEq,and_true]at this
 obtain⟨f,e,d⟩:=a
 simp_all
theorem ZZ(ps vs:List Ir)(i m:Nat)(y:i+m<=ps.length)(s:m<=1)(d:Option Addr)(b:Nat)(R:Lc)(a:Own (.slice d ps.length b) R IT 5 ps.length (ps.flatMap Ac))(o:∀x∈ps,x.2.oneCell'=true)(c k:Nat)(g:List Value)(j:TypeId)(M:Mem)(n:M c=some (cE (vs.flatMap Ac++g) j))(l:∀x∈vs,x.2.oneCell'=true)(t:0<vs.length)(f:ps.length+vs.length<=100000):
  SpecL prog 111 #[.slice d ps.length b,.int .i64 i,.int .i64 ((i+m:Nat):Int),.slice (some ⟨c,0,none⟩) vs.length k] M R λu _ L'=>Own u L' IT 5 (ps.length-m+vs.length) ((ps.take i++vs++ps.drop (i+m)).flatMap Ac):=by
 have r:ps.length<=b:=by
  rcases a.2 with⟨e,h,_⟩|⟨_,_,_,e,_,h,_⟩
  ·omega
  grind
 rcases Nat.lt_or_ge 0 m with h|h
 ·obtain rfl:m=1:=by omega
  grind[SE]
 grind[ZX]
variable{F:Fr}{L:Lc}{M0:Mem}{N:Fs}{P:Program}{Q:Exit->Act->World->Prop}{W:World}{X:List Nat}{c:Code}
theorem Tm{L2:Lc}(O:BOwn M bb Lb s)[hp:Pick Lb L L2](z:∀p∈Lb,p.1∉X)
  (h:∀M' t l nv lv,MLe M M'->M' bb=some (cE [t,l,nv,lv] Ee)->LS M' t s.blocks->WS M' l s.waits->BS M' nv s.now->BS M' lv s.last->JC P N c F ⟨W,X,M0⟩ M' L2 Q):JC P N c F ⟨W,X,M0⟩ M L Q:=by
 obtain⟨t,l,E,D,lv,Rw,H,rfl,U,T,S,n,r,o,k⟩:=O
 refine BU (M':=M) (L':=(bb,cE [t,l,.slice E s.now.length D,lv] Ee)::(Rw++(H++L2))) (λw I=>by have:=I.perm hp.perm;rwa[List.cons_append,List.append_assoc]at this) ?_
 have fin:∀(m:Mem)(j:Value),MLe M m->j=l->WS m j s.waits->JC P N c F ⟨W,X,M0⟩ m ((bb,cE [t,l,.slice E s.now.length D,lv] Ee)::(H++L2)) Q:=λm j d e K=>by
  subst e
  refine JF S (λp hp=>z p (by simp[hp])) ?_
  intro M2 a2 c2 i V B u
  refine B1 bb (z _ (List.mem_cons_self (a:=(bb,_)))) ?_
  intro M3 f G
  rw[V]at G
  exact h M3 _ _ _ _ (d.trans (i.trans f)) G (U.mono (d.trans (i.trans f))) (K.mono (i.trans f)) ⟨_,_,rfl,B,u.mono f⟩ (T.mono (d.trans (i.trans f)))
 rcases k with k|⟨rfl,J,ba,rfl,g,hold⟩
 ·refine JF k (λp hp=>z p (by simp[hp])) ?_
  intro m a1 Z d Y C y
  exact fin m _ d Y.symm ⟨a1,Z,n,rfl,C,y,r,λp hp=>(o p hp).mono d⟩
 refine fin M _ (MLe.refl _) rfl ⟨_,_,n,rfl,Nat.le_refl _,?_,r,o⟩
 rcases g with R|g
 ·exact .inl R
 obtain⟨b,of,sp⟩:=ba
 simp only at g
 subst g
 exact .inr ⟨b,of,rfl,hold⟩
structure PtZ where
 t:Sto
 up:List It
 M:Mem
 L:Lc
 v:Value
structure PtZI(r:Except Int (Sto×List It))(bb:Nat)(M0:Mem)(z:PtZ):Prop where
 eq:r=.ok (z.t,z.up)
 bo:BOwn z.M bb z.L z.t
 ok:Aq z.t
 uf:UF z.M z.v z.up
 pos:0<z.up.length
 mle:MLe M0 z.M
variable{lev:Nat}
theorem HT{x:It}(h:CL s root x=0)(a:Ai s root.toNat=some ((lev:Int),xs)):Fw s root x=F6 s root x (Av s x.key lev xs):=by
 grind[Fw]
variable{ws:List Stp}
theorem NE{x:It}(h:DT ws x.key=true):F6 s root x ws=.error 120:=by grind[F6]
theorem P5{x:It}(h:¬DT ws x.key=true)(a:H2 s x ws=.error e):F6 s root x ws=.error e:=by unfold F6;rw[if_neg h,a];rfl
theorem P4{x:It}(h:¬DT ws x.key=true)(a:EL x ws.length (H2 s x ws)=.error e):F6 s root x ws=.error e:=by grind[F6]
theorem wAc{t:Sto}{x:It}(h:¬DT ws x.key=true)(b:EL x ws.length (H2 s x ws)=.ok (t,up))(a:leave t root=none):F6 s root x ws=.error 8:=by
 grind[F6,leave]
theorem NF{t a:Sto}{x:It}(h:¬DT ws x.key=true)(c:EL x ws.length (H2 s x ws)=.ok (t,y::up))(b:leave t root=some a):F6 s root x ws=.ok (a,y.ref):=by
 grind[F6,leave]
def PtPost(r:Except Int (Sto×Int))(u:Value)(M':Mem):Prop:=match r with
 |.error e=>e≠0/\u=.tuple #[.agg zeroSt.toArray,.int .i64 0,.int .i64 e]
 |.ok (t,now)=>∃v,u=.tuple #[v,.int .i64 now,.int .i64 0]/\ST M' v t/\Aq t
theorem wAb(s:Sto)(k:Int)(x:It)(xv bv nv lw:Value)(wa:Option Addr)(wc:Nat)(C:List (Wt×Value))(M:Mem)(h1:LS M bv s.blocks)(bJ:s.waits.length<=wc)(bF:SM M wa (C.flatMap AT))(al:C.map (·.1)=s.waits)(aF:∀p∈C,BS M p.2 p.1.2)(h3:BS M nv s.now)(h4:BS M lw s.last)(hx:BS M xv x.val)(cD:BP x.key):
  SpecL prog 61 #[.agg #[bv,.slice wa s.waits.length wc,nv,lw],.int .i64 k,.agg #[.int .u8 x.key.kind,.int .u32 x.key.id,.int .u32 x.key.off,.int .i64 x.ref,xv]] M [] λu M' L'=>PtPost (Fw s k x) u M'/\L'=[]:=by
 have h2:WS M (.slice wa s.waits.length wc) s.waits:=⟨wa,wc,C,rfl,bJ,bF,al,aF⟩
 have cO:ST M (.agg #[bv,.slice wa s.waits.length wc,nv,lw]) s:=⟨_,_,_,_,rfl,h1,h2,h3,h4⟩
 obtain⟨xa,xc,rfl,d5,d4⟩:=id hx
 refine sB func61 ntmps61 ?_;intro W
 refine gh ?_
 refine lh (Bf (cs:=[bv,.slice wa s.waits.length wc,nv,lw]) rfl rfl rfl rfl) ?_;rintro _ _ _ ⟨b3,rfl,rfl,rfl⟩
 refine lh (Bf (cs:=Fk x xa xc) rfl rfl rfl rfl) ?_;rintro _ _ _ ⟨b5,rfl,rfl,rfl⟩
 refine Rl λT S H=>?_
 refine gQ (Zc s k x _ _ _ _ _ M h1 h2 h3 h4 hx) ?_
 refine gj (λaA=>?_) λaA=>?_
 ·refine gr ?_
  refine⟨?_,rfl⟩
  have:Fw s k x=.error (CL s k x):=by unfold Fw;rw[if_pos aA]
  rw[this];exact⟨aA,rfl⟩
 refine gh ?_
 have D:CL s k x=0:=Classical.not_not.1 aA
 have az:=P6 D
 obtain⟨bh,bT,au,d9,lev,f,l,bg,_⟩:=CT az.1
 obtain⟨cK,⟨c9,_⟩,⟨cC,_⟩⟩:=id bh
 have d7:s.waits.length<=4096:=cK.2.1
 have dr:=(Ar l).lev
 have dj:=EQ (s:=s) (q:=x.key) lev f
 refine gc (Zp s k x.key bv _ nv lw lev f M cO ⟨bT,au⟩ bh l bg) ?_;rintro _ Mw ci c5
 obtain⟨b9,b4,I,rfl,bI,aD,am,bK⟩:=id c5
 have aE:I.length=(Av s x.key lev f).length:=by rw[<-am,length_map]
 simp only[List.nil_append]
 refine gg ?_
 refine Br rfl rfl (CG rfl rfl rfl rfl rfl (by kernel_rfl) (XJ (Av s x.key lev f) b9 b4 I Mw bI aD am bK (by omega) x.key (by omega) (λw hw=>by obtain⟨⟨j,h⟩,_⟩:=FY l bg w hw;have:=(Ar h).len;omega))) (λah=>?_) (λah=>?_)
 ·refine gr ?_
  refine⟨?_,rfl⟩
  rw[HT D l,NE ah];exact⟨by decide,rfl⟩
 refine gh ?_
 refine lh (Aa (cs:=[_,_,_,_,_]) rfl rfl rfl (by rfl) (by rfl) (by rfl)) ?_;rintro _ _ _ ⟨aj,rfl,rfl,rfl⟩
 refine ga λg=>?_
 refine gC (K2 s bv nv lw wa wc Mw bJ (by omega) (h3.mono ci) (by omega)) ?_;rintro _ Mb _ co ⟨bb,Rn,na,nc,rfl,rfl,bV⟩
 have P:=ci.trans co
 have cW:BOwn Mb bb ((bb,cE [bv,.slice wa s.waits.length s.waits.length,.slice na s.now.length nc,lw] Ee)::Rn) s:=by
  refine⟨bv,_,na,nc,lw,[],Rn,rfl,h1.mono P,h4.mono P,bV,C,al,λp o=>(aF p o).mono P,?_⟩
  have ce:(C.flatMap AT).length=s.waits.length*2:=by rw[Aj AT 2 Bl,<-al,length_map]
  rcases bF with h0|⟨wb,wo,rfl,bE⟩
  ·have hz:s.waits.length=0:=by rw[h0,length_nil]at ce;omega
   rw[h0,hz]
   cases wa with
   |none=>exact .inl (Own.nil _ _)
   |some ba=>exact .inr ⟨rfl,rfl,ba,rfl,.inl rfl,λi u hu=>by cases hu⟩
  exact .inr ⟨rfl,ce,_,rfl,.inr rfl,λi u hu=>(bE i u hu).mono P⟩
 refine lh (AM rfl rfl) ?_;rintro _ _ _ ⟨b1,rfl,rfl,rfl⟩
 refine Dz rfl (Ae rfl rfl rfl rfl rfl rfl rfl rfl) ?_;rintro _ _ _ ⟨rfl,rfl⟩
 refine Am (jT (Ao (Ao ?_)))
 refine B1 b1 (by simp) ?_
 intro Ma cR ai
 refine B1 aj (by simp) ?_
 intro Mq cl b0
 refine B1 b5 (by simp) ?_
 intro Me a1 e5
 have a0:=cR.trans (cl.trans a1)
 replace b0:=a1 _ _ b0
 replace ai:=a1 _ _ (cl _ _ ai)
 refine BU (M':=Me) (L':=(g,cE [.slice (some ⟨aj,0,none⟩) 1 1] 133)::(H,cE [Value.int .i64 (0)] 39)::(T,cE [Value.slice none 0 0,Value.slice none 0 0,Value.slice none 0 0,Value.slice none 0 0] 32)::(S,cE [Value.int .i64 0] 3)::((bb,cE [bv,.slice wa s.waits.length s.waits.length,.slice na s.now.length nc,lw] Ee)::Rn)) (λw h=>(h.perm (L':=(b3,cE [bv,.slice wa s.waits.length wc,nv,lw] 32)::(g,cE [.slice (some ⟨aj,0,none⟩) 1 1] 133)::(H,cE [Value.int .i64 (0)] 39)::(T,cE [Value.slice none 0 0,Value.slice none 0 0,Value.slice none 0 0,Value.slice none 0 0] 32)::(S,cE [Value.int .i64 0] 3)::((bb,cE [bv,.slice wa s.waits.length s.waits.length,.slice na s.now.length nc,lw] Ee)::Rn)) BW).tl) ?_
 have bN:UF Me (.slice (some ⟨aj,0,none⟩) 1 1) [x]:=⟨aj,1,[(x,.slice xa x.val.length xc)],[],_,rfl,Nat.le_refl _,(by rw[b0];rfl),rfl,λp o=>by rw[List.mem_singleton.1 o];exact hx.mono (P.trans a0)⟩
 refine gC (bws _ _ _ Me) ?_;rintro _ Mg _ n ⟨cZ,rfl,cr,rfl⟩
 rw[<-aE]at cr
 simp only[List.nil_append]
 have cm:MLe Mw Mg:=co.trans (a0.trans n)
 refine gh ?_
 have bD:wFg [x]:=λy J=>by
  rw[List.mem_singleton.1 J]
  have:=of_decide_eq_false (show decide _=false from CH az.2.1)
  exact⟨by omega,cD⟩
 refine Qj (R:=(g,cE [.slice (some ⟨aj,0,none⟩) 1 1] 133)::(H,cE [Value.int .i64 (0)] 39)::(T,cE [Value.slice none 0 0,Value.slice none 0 0,Value.slice none 0 0,Value.slice none 0 0] 32)::(S,cE [Value.int .i64 0] 3)::((bb,cE [bv,.slice wa s.waits.length s.waits.length,.slice na s.now.length nc,lw] Ee)::Rn)) (xs:=bw I 0) (enc:=(λp:(Stp×Value)×Nat=>[.int .i64 p.2,.agg (A0 p.1).toArray])) (ps:=[42,43]) rfl (by kernel_rfl) (wEs cZ b9 b4 I Mg cr (aD.mono cm) (by omega))
  (λpre M' R=>∃t up ad Lb,R=(g,cE [ad] 133)::(H,cE [Value.int .i64 (0)] 39)::(T,cE [Value.slice none 0 0,Value.slice none 0 0,Value.slice none 0 0,Value.slice none 0 0] 32)::(S,cE [Value.int .i64 0] 3)::Lb/\H2 s x ((Av s x.key lev f).drop ((Av s x.key lev f).length-pre.length))=.ok (t,up)/\BOwn M' bb Lb t/\Aq t/\UF M' ad up/\wFg up/\0<up.length/\up.length<=2)
  (λc pre M' R=>∃(e:Int)(ad:Value)(Lb:Lc),c=.ret/\e≠0/\R=(g,cE [ad] 133)::(H,cE [Value.int .i64 (e)] 39)::(T,cE [Value.slice none 0 0,Value.slice none 0 0,Value.slice none 0 0,Value.slice none 0 0] 32)::(S,cE [Value.int .i64 0] 3)::Lb/\H2 s x (Av s x.key lev f)=.error e)
  (λ_=>rfl) (by decide) ⟨s,[x],_,((bb,cE [bv,.slice wa s.waits.length s.waits.length,.slice na s.now.length nc,lw] Ee)::Rn),rfl,(by rw[length_nil,Nat.sub_zero,List.drop_length];rfl),cW.mono (a0.trans n),bh,bN.mono n,bD,Nat.le_refl _,(by show 1<=2;omega)⟩ ?_ ?_ ?_
 ·intro l2 W2 pre y M2 R2 cM a9 cU aM
  obtain⟨t,up,ad,b2,rfl,F,cV,bR,bO,bM,bQ,d8⟩:=cU
  obtain⟨dC,J⟩:=wLu aM
  obtain⟨⟨w,wv⟩,yi⟩:=y
  dsimp only at J
  have bH:(w,wv)∈I:=by rw[J];exact List.getElem_mem _
  have c1:w∈Av s x.key lev f:=by rw[<-am];exact List.mem_map_of_mem bH
  have bG:=(bK _ bH).mono (cm.trans a9)
  dsimp only at bG
  obtain⟨ia,ic,U,c2,cI,a5,af,Y⟩:=id bG
  subst c2
  obtain⟨⟨jw,cb⟩,d6,di⟩:=FY l bg w c1
  have aQ:=Ar cb
  have bE:=aQ.len
  have dd:=aQ.lev
  have cG:=Hk cb
  have ay:(Av s x.key lev f).drop ((Av s x.key lev f).length-(pre.length+1))=w::(Av s x.key lev f).drop ((Av s x.key lev f).length-pre.length):=by
   have de:(Av s x.key lev f).length=I.length:=by rw[<-am,length_map]
   have cH:(Av s x.key lev f).length-(pre.length+1)<(Av s x.key lev f).length:=by omega
   rw[List.drop_eq_getElem_cons cH]
   congr 1
   ·have:w=(I[I.length-1-pre.length]).1:=by rw[<-J]
    rw[this];simp only[<-am,List.getElem_map,length_map];congr 2;omega
   congr 1;omega
  obtain⟨ub,uc,ae,aW,aX,rfl,bP,bc,a4,aa⟩:=id bO
  have aT:U.length=w.xs.length:=by rw[<-af,length_map]
  have aH:ae.length=up.length:=by rw[<-a4,length_map]
  simp only[A0]
  refine ga λaB=>?_
  refine jKN λW' cN=>?_
  refine Ge (Ao (Ah ?_))
  refine jp rfl ?_
  refine Am (jT ?_)
  refine Du (α:=Nat) (λm=>[(5,pB b5),(6,pB T),(7,pB S),(8,pB H),(11,pB g),(12,pB b1),(14,pB aB),(15,.int .i64 (m:Int))]) (λ_=>M2) (λ_=>(aB,cE [.int .i64 w.lv,.slice ia w.xs.length ic,.int .i64 w.at_] 185)::(g,cE [.slice (some ⟨ub,0,none⟩) up.length uc] 133)::(H,cE [Value.int .i64 (0)] 39)::(T,cE [Value.slice none 0 0,Value.slice none 0 0,Value.slice none 0 0,Value.slice none 0 0] 32)::(S,cE [Value.int .i64 0] 3)::b2) (λm=>m=Dr w x.key) ?_ ?_
  ·rintro m hm
   have dB:m<=1/\w.at_+m<=w.xs.length:=by
    rw[hm];unfold Dr;split
    ·omega
    rename_i y c0
    have:=(List.getElem?_eq_some_iff.1 c0).1
    split<;>omega
   have ch:∀x∈((g,cE [.slice (some ⟨ub,0,none⟩) up.length uc] 133)::(H,cE [Value.int .i64 (0)] 39)::(T,cE [Value.slice none 0 0,Value.slice none 0 0,Value.slice none 0 0,Value.slice none 0 0] 32)::(S,cE [Value.int .i64 0] 3)::b2:Lc).map (·.1),x<W'.heap.size:=by rw[cN];exact cM
   have aL:U.length-m+ae.length=(Fa w x.key up).length:=by unfold Fa;rw[<-hm];simp only[length_append,List.length_take,List.length_drop];omega
   refine gh ?_
   refine JG [0,1,2,4,5,6,7,8,9,10,103,111,12] ?_
   refine dq rfl (Ak rfl rfl rfl rfl rfl) ?_
   refine dq rfl (Ak rfl rfl rfl rfl rfl) ?_
   refine dq rfl (AE rfl rfl rfl rfl (CJ.loc rfl)) ?_
   refine dq rfl (Ak rfl rfl rfl rfl rfl) ?_
   refine dq rfl (AE rfl rfl rfl rfl (CJ.loc rfl)) ?_
   refine dq rfl (Ak rfl rfl rfl rfl rfl) ?_
   refine dq rfl (AE rfl rfl rfl rfl (CJ.loc rfl)) ?_
   refine dp rfl rfl ?_
   refine dq rfl (Bc (qA rfl rfl rfl rfl rfl (by omega)) (v':=.int .i64 ((w.at_+m:Nat):Int)) (congrArg _ (by omega))) ?_
   refine gh ?_
   rw[<-aT]
   refine DA rfl rfl rfl (FT rfl rfl rfl rfl rfl (by kernel_rfl) (EH ia ic U M2 a5 (Dl Y) (by omega))) ?_;rintro _ Mc _ ⟨Q,Rc,rfl,aw,bZ⟩
   refine⟨_,_,MLe.refl _,Q,λ_ h=>h,λp o=>List.mem_append_right _ o,?_⟩
   obtain⟨ca,cc,cL⟩:=aw.form
   subst cL
   rw[<-aH]
   refine DA rfl rfl rfl (FT rfl rfl rfl rfl rfl (by kernel_rfl) (ZZ U ae w.at_ m (by omega) (by omega) ca cc Rc aw (Dl Y) ub uc aW aX Mc (Q _ _ bc) (Dl aa) (by omega) (by omega))) ?_;rintro _ Mp _ ⟨ag,Rr,rfl,av,bY⟩
   refine⟨_,_,MLe.refl _,(Q.trans ag),λ_ h=>h,λp o=>List.mem_append_right _ o,?_⟩
   rw[aH]
   rw[aT]
   refine gh ?_
   refine lq (AE rfl rfl rfl rfl (CM.cj ⟨_,_,_,(n.trans (a9.trans (Q.trans ag))) _ _ ai,rfl⟩ _)) ?_
   refine gh ?_
   have c8:∀p∈Rr,W'.heap.size<=p.1:=λp o=>(bY p o).elim (λh=>by obtain⟨q,hq,e⟩:=List.mem_map.1 h;rw[<-e];exact(bZ q hq).elim (λh=>by cases h) id) id
   obtain⟨ra,rc,c6⟩:=av.form
   subst c6
   refine Rf av (NP ch c8) ?_
   intro Mr dz dy a8 er c7 bi;cases er
   replace bi:=bi.mono (EF _ _)
   have cA:NS Mr (.slice ra (Fa w x.key up).length rc) (Fa w x.key up):=by
    refine⟨ra,rc,U.take w.at_++ae++U.drop (w.at_+m),rfl,by rw[<-aL];exact c7,bi,?_,λp o=>?_⟩
    ·unfold Fa;rw[map_append,map_append,List.map_take,List.map_drop,af,a4,hm]
    rcases List.mem_append.1 o with o|o
    ·rcases List.mem_append.1 o with o|o
     ·exact (Y p (List.mem_of_mem_take o)).mono (Q.trans (ag.trans a8))
     exact(aa p o).mono (Q.trans (ag.trans a8))
    exact(Y p (List.mem_of_mem_drop o)).mono (Q.trans (ag.trans a8))
   have a2:=Q.trans (ag.trans a8)
   have aK:Fa w x.key up≠[]:=wGy (λe=>by rw[e]at bQ;exact absurd bQ (by decide))
   have bS:∀y∈Fa w x.key up,BP y.key:=λy J=>(Z0 J).elim (cG y) (λh=>(bM y h).2)
   have dm:=Z1 w x.key up
   rw[aL]
   refine lh (FT rfl rfl rfl rfl rfl (by kernel_rfl) (by have:=PB t w.lv (Fa w x.key up) up ra rc (.slice (some ⟨ub,0,none⟩) up.length uc) bb Mr b2 (cV.mono a2) bR cA (bO.ns.mono a2) aK (λy J=>(bS y J).1) (λy J=>(bM y J).1) (by omega) (by omega);exact this)) ?_;rintro _ Md _ ⟨cn,Rd,rfl,bp,bX⟩
   obtain⟨da,dn,dc,e,rfl,O⟩:=BdPost.form bp
   refine gj (λbs=>?_) λbs=>?_
   ·refine gh ?_
    refine Hr [4] [4] [0,1,102,103,104] _ ([(H,cE [Value.int .i64 e] 39)]) ([]) ?_
    refine dq rfl (Bk (cs:=[_,_,_,_]) rfl rfl rfl (by rfl)) ?_
    refine dq rfl (AE rfl rfl rfl rfl (CJ.loc rfl)) ?_
    refine Df rfl rfl (Ae rfl rfl rfl rfl rfl rfl rfl rfl) ?_;rintro _ _ _ ⟨rfl,rfl⟩
    refine⟨_,_,MLe.refl _,(by first|exact MLe.refl _|assumption),λ_ h=>h,by simp,?_⟩
    refine Df rfl rfl (Ae rfl rfl rfl rfl rfl rfl rfl rfl) ?_;rintro _ _ _ ⟨rfl,rfl⟩
    refine⟨_,_,MLe.refl _,(by first|exact MLe.refl _|assumption),λ_ h=>h,by simp,?_⟩
    refine gh ?_
    obtain⟨Z,G⟩|⟨rfl,_⟩:=O
    rotate_left
    ·exact absurd rfl bs
    refine AK (M':=Md) (L':=(g,cE [.slice da dn dc] 133)::(H,cE [Value.int .i64 (e)] 39)::(T,cE [Value.slice none 0 0,Value.slice none 0 0,Value.slice none 0 0,Value.slice none 0 0] 32)::(S,cE [Value.int .i64 0] 3)::Rd) (λw9 h=>(h.perm (L':=(aB,cE [.int .i64 w.lv,.slice ia w.xs.length ic,.int .i64 w.at_] 185)::(g,cE [.slice da dn dc] 133)::(H,cE [Value.int .i64 (e)] 39)::(T,cE [Value.slice none 0 0,Value.slice none 0 0,Value.slice none 0 0,Value.slice none 0 0] 32)::(S,cE [Value.int .i64 0] 3)::Rd) BW).tl) ?_
    refine jQr ?_
    refine⟨e,_,Rd,rfl,Z,rfl,?_⟩
    refine W7 ((Av s x.key lev f).length-(pre.length+1)) ?_
    rw[ay,H2,F];exact G
   refine gh ?_
   obtain⟨Z,_⟩|⟨rfl,t9,r,Ru,ak,G,rfl,rfl,be,br,bj,K,bW⟩:=O
   ·exact absurd (Classical.not_not.1 bs) Z
   have a6:=T3 bR G aK bS
   have ab:0<r.length/\r.length<=2:=by rw[a6.1];split<;>omega
   obtain⟨g9,ct,E,e9,rfl,bo,_,_,aq⟩:=bj.open (by omega)
   cases e9
   refine AK (M':=Md) (L':=(g9,.cells E IT (0,0))::(g,cE [.slice (some ⟨g9,0,none⟩) r.length dc] 133)::(H,cE [Value.int .i64 (0)] 39)::(T,cE [Value.slice none 0 0,Value.slice none 0 0,Value.slice none 0 0,Value.slice none 0 0] 32)::(S,cE [Value.int .i64 0] 3)::ak) (λw9 h=>(h.perm (L':=(aB,cE [.int .i64 w.lv,.slice ia w.xs.length ic,.int .i64 w.at_] 185)::(g9,.cells E IT (0,0))::(g,cE [.slice (some ⟨g9,0,none⟩) r.length dc] 133)::(H,cE [Value.int .i64 (0)] 39)::(T,cE [Value.slice none 0 0,Value.slice none 0 0,Value.slice none 0 0,Value.slice none 0 0] 32)::(S,cE [Value.int .i64 0] 3)::ak) BW).tl) ?_
   refine AP g9 (NP ch (R:=[(g9,.cells E IT (0,0))]) (λp o=>(bX p (List.mem_append_left _ o)).elim (λh=>absurd h (bW p o)) id) (g9,.cells E IT (0,0)) (List.mem_singleton.2 rfl)) ?_
   intro Mz a7 bx
   refine Zj ?_
   refine⟨t9,r,_,ak,rfl,?_,br.mono a7,be,wLa bx bo aq K,a6.2,ab.1,ab.2⟩
   rw[length_append,List.length_singleton,ay,H2,F];exact G
  refine gh ?_
  refine JG [0,1,2,3,4,5,6,7,8,9,10,11,12,13,14,15,16,17,18,19,20,21,22,23,24,25] ?_
  refine gj (λcY=>?_) λcY=>?_
  ·refine gh ?_
   refine AS 0 (Keep.cons (t:=5) rfl (Keep.cons (t:=6) rfl (Keep.cons (t:=7) rfl (Keep.cons (t:=8) rfl (Keep.cons (t:=11) rfl (Keep.cons (t:=12) rfl (Keep.cons (t:=14) rfl (Keep.cons (t:=15) rfl Keep.nil)))))))) (by show 0=Dr w x.key;unfold Dr;rw[List.getElem?_eq_none (by omega)]) (λw h=>h)
  refine gj (λbu=>?_) λbu=>?_
  ·refine gh ?_
   have bl:w.at_<w.xs.length:=by omega
   obtain⟨sb,so,e0,aZ⟩:=a5.open (by intro e;have:=congrArg length e;rw[Aj Ac 5 Ad,length_nil]at this;omega)
   cases e0
   obtain⟨va,vc,bm,c4,c3⟩:=Au aZ af Y bl
   refine gh ?_
   refine dq rfl (Bb (cs:=AG w.xs[w.at_].key) rfl rfl rfl rfl rfl (λi v hv=>(bm i v (MO hv)).cj _)) ?_
   refine gh ?_
   refine dq rfl (Bb (cs:=AG x.key) rfl rfl rfl rfl rfl (λi v hv=>CM.cj ⟨_,_,_,(n.trans a9) _ _ e5,by rw[List.getElem?_toArray,Nat.zero_add];exact MO hv⟩ _)) ?_
   refine Qh rfl rfl rfl (UZ (ns:=[w.xs[w.at_].key.kind,w.xs[w.at_].key.id,w.xs[w.at_].key.off]) (ms:=[x.key.kind,x.key.id,x.key.off]) rfl rfl rfl rfl rfl rfl ⟨rfl,rfl⟩) (λbt=>?_) (λbt=>?_)
   ·refine gh ?_
    refine AS 0 (Keep.cons (t:=5) rfl (Keep.cons (t:=6) rfl (Keep.cons (t:=7) rfl (Keep.cons (t:=8) rfl (Keep.cons (t:=11) rfl (Keep.cons (t:=12) rfl (Keep.cons (t:=14) rfl (Keep.cons (t:=15) rfl Keep.nil)))))))) (by show 0=Dr w x.key;unfold Dr;rw[List.getElem?_eq_getElem bl];show 0=if w.lv=0/\_ then 0 else 1;rw[if_pos ⟨bu,wMx bt⟩]) (λw h=>h)
   refine gh ?_
   refine AS 1 (Keep.cons (t:=5) rfl (Keep.cons (t:=6) rfl (Keep.cons (t:=7) rfl (Keep.cons (t:=8) rfl (Keep.cons (t:=11) rfl (Keep.cons (t:=12) rfl (Keep.cons (t:=14) rfl (Keep.cons (t:=15) rfl Keep.nil)))))))) (by show 1=Dr w x.key;unfold Dr;rw[List.getElem?_eq_getElem bl];show 1=if w.lv=0/\_ then 0 else 1;rw[if_neg (λh=>wBs bt h.2)]) (λw h=>h)
  refine gh ?_
  refine AS 1 (Keep.cons (t:=5) rfl (Keep.cons (t:=6) rfl (Keep.cons (t:=7) rfl (Keep.cons (t:=8) rfl (Keep.cons (t:=11) rfl (Keep.cons (t:=12) rfl (Keep.cons (t:=14) rfl (Keep.cons (t:=15) rfl Keep.nil)))))))) (by show 1=Dr w x.key;unfold Dr;rw[List.getElem?_eq_getElem (by omega)];show 1=if w.lv=0/\_ then 0 else 1;rw[if_neg (λh=>bu h.1)]) (λw h=>h)
 ·intro d M3 R3 bq cS
  obtain⟨t3,B,bC,aC,rfl,F,cq,bf,N,ao,ap,dl⟩:=cS
  rw[DO,aE,Nat.sub_self,List.drop_zero]at F
  obtain⟨cv,aY,bL⟩:∃a c,bC=.slice a B.length c:=by obtain⟨b,c,_,_,_,h,_⟩:=id N;exact⟨_,c,h⟩
  subst bL
  refine AK (M':=M3) (L':=(d,.deferred (some []))::(g,cE [.slice cv B.length aY] 133)::(H,cE [Value.int .i64 (0)] 39)::(T,cE [Value.slice none 0 0,Value.slice none 0 0,Value.slice none 0 0,Value.slice none 0 0] 32)::(S,cE [Value.int .i64 0] 3)::aC) (λw9 h=>by rw[List.append_nil]at h;exact h) ?_
  refine jB (jT ?_)
  refine Du (α:=PtZ) (λz=>[(1,.int .i64 k),(6,pB T),(7,pB S),(8,pB H),(11,pB g),(12,pB b1)]) (λz=>z.M) (λz=>(d,.deferred (some []))::(g,cE [z.v] 133)::(H,cE [Value.int .i64 (0)] 39)::(T,cE [Value.slice none 0 0,Value.slice none 0 0,Value.slice none 0 0,Value.slice none 0 0] 32)::(S,cE [Value.int .i64 0] 3)::z.L) (λz=>PtZI (EL x ((Av s x.key lev f).length:Int) (H2 s x (Av s x.key lev f))) bb M3 z) ?_ ?_
  ·rintro ⟨tz,bA,Mz,Lz,vz⟩ ⟨ax,aU,aN,ac,V,X⟩
   dsimp only at ax aU aN ac V X⊢
   obtain⟨dx,cu,K⟩:∃a c,vz=.slice a bA.length c:=by obtain⟨b,c,_,_,_,h,_⟩:=id ac;exact⟨_,c,h⟩
   subst K
   refine gh ?_
   refine lq (AE rfl rfl rfl rfl (CM.cj ⟨_,_,_,(n.trans (bq.trans X)) _ _ ai,rfl⟩ _)) ?_
   refine gC (GG tz k ⟨bT,au⟩ aN bb Mz Lz aU) ?_;rintro _ Mv Rv ck cB
   obtain⟨e,rfl,aS⟩:=LvPost.form cB
   refine gj (λaV=>?_) λaV=>?_
   ·refine gh ?_
    refine Bi (L2:=_) Rm.perm ?_
    refine gr ?_
    refine⟨?_,rfl⟩
    obtain⟨rfl,bk⟩|⟨rfl,_⟩:=aS
    rotate_left
    ·exact absurd rfl aV
    rw[HT D l,wAc (by rw[ah];decide) ax bk];exact⟨by decide,rfl⟩
   refine gh ?_
   obtain⟨_,_⟩|⟨_,tv,bk,aP,cg⟩:=aS
   ·exfalso;omega
   obtain⟨cf,⟨dA,_⟩,⟨dD,_⟩⟩:=id aP
   obtain⟨ub,uc,ae,aW,aX,eu,bP,bc,a4,aa⟩:=id ac
   cases eu
   refine Tm (s:=tv) cg (by simp) ?_
   intro M9 cz cw cx cy cp e9 k1 k2 k3 k4
   have cd:=(ac.mono (ck.trans cp)).ns
   obtain⟨ia,ic,U,ei,cI,a5,af,Y⟩:=id cd
   cases ei
   obtain⟨sb,so,e0,aZ⟩:=a5.open (by intro e;have:=congrArg length e;rw[Aj Ac 5 Ad,length_nil]at this;have h9:=congrArg length af;rw[length_map]at h9;omega)
   cases e0
   obtain⟨va,vc,bm,c4,c3⟩:=Au aZ af Y V
   refine LL [0,2,3,4,5,101,106,107,108] [(g,cE [.slice (some ⟨ub,0,none⟩) bA.length cu] 133)] ?_
   refine dq rfl (AE rfl rfl rfl rfl (CM.cj ⟨_,_,_,(n.trans (bq.trans (X.trans (ck.trans cp)))) _ _ ai,rfl⟩ _)) ?_
   refine gh ?_
   refine dq rfl (AE rfl rfl rfl rfl (((bm 3 _ rfl).mono (by first|exact MLe.refl _|assumption)).cj _)) ?_
   refine dh rfl (hC (DP tv bb cz cw cx cy M9 e9 k1 k2 k3 k4 cf (by omega) (by omega))) ?_;rintro _ Ms _ ⟨cQ,_,rfl,⟨aJ,rfl⟩⟩
   refine⟨cQ,by simp,?_⟩
   obtain⟨q1,q2,q3,q4,rfl,f1,f2,f3,f4⟩:=aJ.ex
   obtain⟨dF,dE,du,rfl,_⟩:=id f1
   obtain⟨dw,dv,db,rfl,_⟩:=id f2
   obtain⟨d1,d0,rfl,_⟩:=id f3
   obtain⟨d3,d2,rfl,_⟩:=id f4
   refine Df rfl rfl (Ae rfl rfl rfl rfl rfl rfl rfl rfl) ?_;rintro _ _ _ ⟨rfl,rfl⟩
   refine⟨_,_,MLe.refl _,(by first|exact MLe.refl _|assumption),λ_ h=>h,by simp,?_⟩
   refine Df rfl rfl (Ae rfl rfl rfl rfl rfl rfl rfl rfl) ?_;rintro _ _ _ ⟨rfl,rfl⟩
   refine⟨_,_,MLe.refl _,(by first|exact MLe.refl _|assumption),λ_ h=>h,by simp,?_⟩
   refine Df rfl rfl (Ae rfl rfl rfl rfl rfl rfl rfl rfl) ?_;rintro _ _ _ ⟨rfl,rfl⟩
   refine⟨_,_,MLe.refl _,(by first|exact MLe.refl _|assumption),λ_ h=>h,by simp,?_⟩
   refine gh ?_
   refine Bi (L2:=_) Rm.perm ?_
   refine gr ?_
   refine⟨?_,rfl⟩
   obtain⟨y,ys,rfl⟩:=List.exists_cons_of_length_pos V
   rw[HT D l,NF (by rw[ah];decide) ax bk]
   exact⟨_,rfl,aJ,aP⟩
  refine gj (λcX=>?_) λcX=>?_
  ·refine gh ?_
   refine lq (AE rfl rfl rfl rfl (CM.cj ⟨_,_,_,(n.trans bq) _ _ ai,rfl⟩ _)) ?_
   refine gh ?_
   obtain⟨ub,uc,ae,aW,aX,eu,bP,bc,a4,aa⟩:=id N
   cases eu
   have aI:B≠[]:=λe=>by rw[e]at ap;exact absurd ap (by decide)
   refine gC (PB t3 ((Av s x.key lev f).length:Int) B B (some ⟨ub,0,none⟩) aY (.slice (some ⟨ub,0,none⟩) B.length aY) bb M3 aC cq bf N.ns N.ns aI (λy J=>(ao y J).2.1) (λy J=>(ao y J).1) (by omega) (by omega)) ?_;rintro _ Md Rd cn bp
   obtain⟨da,dn,dc,e,rfl,O⟩:=BdPost.form bp
   refine gj (λa3=>?_) λa3=>?_
   ·refine gh ?_
    refine Hr [4] [4] [0,1,102,103,104] _ ([(H,cE [Value.int .i64 e] 39)]) ([]) ?_
    refine dq rfl (Bk (cs:=[_,_,_,_]) rfl rfl rfl (by rfl)) ?_
    refine dq rfl (AE rfl rfl rfl rfl (CJ.loc rfl)) ?_
    refine Df rfl rfl (Ae rfl rfl rfl rfl rfl rfl rfl rfl) ?_;rintro _ _ _ ⟨rfl,rfl⟩
    refine⟨_,_,MLe.refl _,(by first|exact MLe.refl _|assumption),λ_ h=>h,by simp,?_⟩
    refine Df rfl rfl (Ae rfl rfl rfl rfl rfl rfl rfl rfl) ?_;rintro _ _ _ ⟨rfl,rfl⟩
    refine⟨_,_,MLe.refl _,(by first|exact MLe.refl _|assumption),λ_ h=>h,by simp,?_⟩
    refine gh ?_
    refine Bi (L2:=_) Rm.perm ?_
    refine gr ?_
    refine⟨?_,rfl⟩
    obtain⟨Z,G⟩|⟨rfl,_⟩:=O
    rotate_left
    ·exact absurd rfl a3
    rw[HT D l,P4 (e:=e) (by rw[ah];decide) (by rw[F];show (if 1<B.length then _ else _)=_;rw[if_pos (by omega)];exact G)];exact⟨Z,rfl⟩
   refine gh ?_
   obtain⟨Z,_⟩|⟨rfl,t9,r,Ru,ak,G,rfl,rfl,be,br,bj,K,bW⟩:=O
   ·exact absurd (Classical.not_not.1 a3) Z
   have a6:=T3 bf G aI (λy J=>(ao y J).2)
   have ab:0<r.length/\r.length<=2:=by rw[a6.1];split<;>omega
   obtain⟨g9,ct,E,e9,rfl,bo,_,_,aq⟩:=bj.open (by omega)
   cases e9
   refine AK (M':=Md) (L':=(g9,.cells E IT (0,0))::(d,.deferred (some []))::(g,cE [.slice (some ⟨g9,0,none⟩) r.length dc] 133)::(H,cE [Value.int .i64 (0)] 39)::(T,cE [Value.slice none 0 0,Value.slice none 0 0,Value.slice none 0 0,Value.slice none 0 0] 32)::(S,cE [Value.int .i64 0] 3)::ak) (λw h=>h.perm BW) ?_
   refine AP g9 (by simp) ?_
   intro Mz a7 bx
   refine AS ⟨t9,r,Mz,ak,_⟩ (Keep.cons (t:=1) rfl (Keep.cons (t:=6) rfl (Keep.cons (t:=7) rfl (Keep.cons (t:=8) rfl (Keep.cons (t:=11) rfl (Keep.cons (t:=12) rfl Keep.nil)))))) ⟨?_,br.mono a7,be,wLa bx bo aq K,ab.1,cn.trans a7⟩ (λw h=>h)
   rw[F];show (if 1<B.length then _ else _)=_;rw[if_pos (by omega)];exact G
  refine gh ?_
  refine AS ⟨t3,B,M3,aC,_⟩ (Keep.cons (t:=1) rfl (Keep.cons (t:=6) rfl (Keep.cons (t:=7) rfl (Keep.cons (t:=8) rfl (Keep.cons (t:=11) rfl (Keep.cons (t:=12) rfl Keep.nil)))))) ⟨?_,cq,bf,N,ap,MLe.refl _⟩ (λw h=>h)
  rw[F];show (if 1<B.length then _ else _)=_;rw[if_neg (by omega)]
 intro d c pre M2 R2 a9 aM hI
 obtain⟨e,ad,aC,rfl,cJ,rfl,F⟩:=hI
 refine gh ?_
 refine Bi (L2:=_) Rm.perm ?_
 refine gr ?_
 refine⟨?_,rfl⟩
 rw[HT D l,P5 (by rw[ah];decide) F];exact⟨cJ,rfl⟩
set_option maxRecDepth 8000
def Be(s:Sto)(n:Nat):List Int:=match Ai s n with|some (_,ys)=>ys.map (·.ref)|none=>[]
def wS(s:Sto)(S:List Nat)(k:Int):Nat:=(S.map λn=>(Be s n).count k).sum
variable{lv:Int}{n:Nat}{s:Sto}{ys:List It}
theorem CC(h:Ai s n=some (lv,ys)):Be s n=ys.map (·.ref):=by unfold Be;rw[h]
theorem EC(h:Ai s n=none):Be s n=[]:=by unfold Be;rw[h]
theorem sum_le{α:Type}{f g:α->Nat}:∀{l:List α},(∀x∈l,f x<=g x)->(l.map f).sum<=(l.map g).sum
 |[],_=>Nat.le_refl _
 |x::l,h=>by
  have h1:=h x (by simp)
  have h2:=sum_le (l:=l) (f:=f) (g:=g) λy hy=>h y (by simp[hy])
  simp only[map_cons,sum_cons];omega
theorem Wq{α:Type}{f:α->Nat}:∀{l:List α}{x:α},x∈l->f x<=(l.map f).sum
 |y::l,x,h=>by
  simp only[map_cons,sum_cons]
  rcases List.mem_cons.1 h with rfl|h
  ·omega
  have:=Wq (f:=f) h;omega
variable{α:Type}{f:α->Nat}{l:List α}
theorem QQ{g:α->Nat}(h:∀x∈l,f x=g x):(l.map f).sum=(l.map g).sum:=by rw[List.map_congr_left h]
theorem QO{g:α->Nat}{x:α}:∀{l:List α},l.Nodup->x∈l->(∀y∈l,y≠x->f y=g y)->(l.map f).sum+g x=(l.map g).sum+f x
 |y::l,c,h,b=>by
  obtain⟨i,d⟩:=List.nodup_cons.1 c
  simp only[map_cons,sum_cons]
  by_cases e:y=x
  ·subst e
   have:=QQ (l:=l) (f:=f) (g:=g) λz a=>b z (by simp[a]) λe=>i (e▸a)
   omega
  have:=QO d ((List.mem_cons.1 h).resolve_left (Ne.symm e)) λz a=>b z (by simp[a])
  have:=b y (by simp) e
  omega
variable{S:List Nat}
theorem G5{x:It}(b:n∈S)(h:Ai s n=some (lv,ys))(a:x∈ys):0<wS s S x.ref:=by
 have d:=Wq (f:=λn=>(Be s n).count x.ref) b
 have c:0<(Be s n).count x.ref:=by rw[CC h];exact List.count_pos_iff.2 (List.mem_map_of_mem a)
 exact Nat.lt_of_lt_of_le c d
structure En(s:Sto)(S:List Nat)(R:List Int):Prop where
 ok:Aq s
 nodup:S.Nodup
 enough:∀k:Int,0<k->k<256->wS s S k+R.count k=(s.now.getD k.toNat 0).toNat
 disj:∀n∈S,∀ys,Ai s n=some (0,ys)->∀x∈ys,x.ref≠0->x.ref.toNat∉S
 closed:∀n∈S,∀lv ys,Ai s n=some (lv,ys)->0<lv->∀x∈ys,x.ref.toNat∈S/\∃zs,Ai s x.ref.toNat=some (lv-1,zs)
variable{R:List Int}
theorem En.less{R':List Int}(h:En s S R)(b:∀k,0<k->R'.count k=R.count k):En s S R':=
 ⟨h.ok,h.nodup,λk a c=>by have:=h.enough k a c;have:=b k a;omega,h.disj,h.closed⟩
theorem En.perm{R':List Int}(h:En s S R)(hp:R.Perm R'):En s S R':=h.less λk _=>by rw[hp.count_eq]
variable{b:By}
theorem FG(h:0<b.toNat):¬b=0:=λe=>by rw[e]at h;exact absurd h (by decide)
variable{k:Int}
theorem En.live(h:En s S R)(b:0<k)(a:k<256)(hk:0<wS s S k+R.count k):¬s.now.getD k.toNat 0=0:=by
 have:=h.enough k b a;exact FG (by omega)
structure ExtB(s t:Sto):Prop where
 nd:∀n r,Ai s n=some r->Ai t n=some r
 live:∀k,¬s.now.getD k 0=0->¬t.now.getD k 0=0
theorem ExtB.refl(s:Sto):ExtB s s:=⟨λ_ _ h=>h,λ_ h=>h⟩
variable{t:Sto}
theorem ExtB.trans{u:Sto}(h:ExtB s t)(k:ExtB t u):ExtB s u:=⟨λn r e=>k.nd n r (h.nd n r e),λn e=>k.live n (h.live n e)⟩
theorem ExtB.shp(h:ExtB s t):∀{l:Nat}{xs:List It},Shp s l xs->Shp t l xs/\Aw t l xs=Aw s l xs
 |0,xs,b=>⟨λx a=>(b x a).imp id (h.live _),by rw[B2,B2]⟩
 |l+1,xs,b=>by
  have c:∀x∈xs,(∃ys,Ai t x.ref.toNat=some ((l:Int),ys)/\ys≠[]/\Bt ys=x.key/\Shp t l ys)/\allOne t (l+1) x=allOne s (l+1) x:=λx a=>by
   obtain⟨ys,e,n,m,k⟩:=b x a
   obtain⟨i,g⟩:=h.shp k
   have d:=h.nd _ _ e
   exact⟨⟨ys,d,n,m,i⟩,by rw[A3 d,A3 e,g]⟩
  refine⟨λx a=>(c x a).1,?_⟩
  unfold Aw
  clear b
  induction xs with
  |nil=>rfl
  |cons x xs f=>rw[flatMap_cons,flatMap_cons,(c x (by simp)).2,f λy j=>c y (by simp[j])]
structure Thin(s t:Sto):Prop where
 waits:t.waits=s.waits
 blocks:t.blocks=s.blocks
 last:t.last=s.last
 now:∀n,(t.now.getD n 0).toNat<=(s.now.getD n 0).toNat
theorem Thin.refl(s:Sto):Thin s s:=⟨rfl,rfl,rfl,λ_=>Nat.le_refl _⟩
theorem Thin.trans{u:Sto}(h:Thin s t)(k:Thin t u):Thin s u:=⟨k.waits.trans h.waits,k.blocks.trans h.blocks,k.last.trans h.last,λn=>Nat.le_trans (k.now n) (h.now n)⟩
theorem Thin.nd(h:Thin s t)(a:¬t.now.getD n 0=0):Ai t n=Ai s n:=by
 have c:¬s.now.getD n 0=0:=λe=>by
  have:=h.now n;rw[e]at this
  exact a (UInt8.toNat.inj (by have d:(0:By).toNat=0:=rfl;omega))
 have b:seen t n=seen s n:=by unfold seen;rw[h.waits,h.blocks]
 unfold Ai;rw[if_neg a,if_neg c,b]
theorem Thin.nd_or(h:Thin s t)(n:Nat):Ai t n=Ai s n\/Ai t n=none:=by
 by_cases a:t.now.getD n 0=0
 ·right;unfold Ai;rw[if_pos a]
 exact .inl (h.nd a)
variable{r:Int×List It}
theorem B0(h:Ai s n=some r):¬s.now.getD n 0=0:=Q6 h
theorem wAx(h:En s S R)(a:Ai s n=some r):n<256:=Classical.byContradiction λc=>by
 have b:s.now.length=256:=h.ok.2.1.1
 exact B0 a (by simp[getD,show s.now.length<=n by omega])
theorem Thin.shp(h:Thin s t)(i:En t S R):∀{l:Nat}{xs:List It},Shp s l xs->(∀x∈xs,(0<l->x.ref.toNat∈S/\Ai t x.ref.toNat≠none)/\(l=0->x.ref≠0->¬t.now.getD x.ref.toNat 0=0))->Shp t l xs/\Aw t l xs=Aw s l xs
 |0,xs,f,d=>⟨λx a=>(Classical.em (x.ref=0)).imp id ((d x a).2 rfl),by rw[B2,B2]⟩
 |l+1,xs,f,d=>by
  have a:∀x∈xs,(∃ys,Ai t x.ref.toNat=some ((l:Int),ys)/\ys≠[]/\Bt ys=x.key/\Shp t l ys)/\allOne t (l+1) x=allOne s (l+1) x:=λx a=>by
   obtain⟨ys,k,D,C,B⟩:=f x a
   obtain⟨j,u⟩:=(d x a).1 (by omega)
   have c:Ai t x.ref.toNat=some ((l:Int),ys):=by
    rcases h.nd_or x.ref.toNat with e|e
    ·rw [e];exact k
    exact absurd e u
   have g:=Ar c
   obtain⟨o,n⟩:=h.shp i B λy b=>⟨λz=>by
    obtain⟨F,zs,E⟩:=i.closed _ j _ _ c (by omega) y b
    exact⟨F,by rw[E];simp⟩,λz r=>by
    have:=g.ref y b
    exact i.live (by omega) (by omega) (by have:=G5 j c b;omega)⟩
   exact⟨⟨ys,c,D,C,o⟩,by rw[A3 c,A3 k,n]⟩
  refine⟨λx h=>(a x h).1,?_⟩
  unfold Aw
  clear f d
  induction xs with
  |nil=>rfl
  |cons x xs m=>rw[flatMap_cons,flatMap_cons,(a x (by simp)).2,m λy b=>a y (by simp[b])]
variable{xs:List By}
theorem AU{k:Nat}{v:By}(h:k<xs.length):(xs.set k v).getD k 0=v:=by simp[getD,h]
theorem MD(h:¬b=0):(b-1).toNat+1=b.toNat:=by have:=RD h;omega
theorem EG(s:Sto){k:Nat}(hk:k<s.now.length)(h:¬s.now.getD k 0=0):Thin s (AF s k):=⟨rfl,rfl,rfl,λn=>by
 show ((s.now.set k _).getD n 0).toNat<=_
 by_cases e:n=k
 ·subst e;rw[AU hk];have:=MD h;omega
 rw[Az e];exact Nat.le_refl _⟩
theorem En.loose(h:En s S (k::R))(hk:8<=k/\k<256)(t:0<wS s S k+R.count k\/k.toNat∉S):looseE s k.toNat=0/\¬s.now.getD k.toNat 0=0/\En (AF s k.toNat) S R:=by
 have L:s.now.length=256:=h.ok.2.1.1
 have F:=h.enough k (by omega) hk.2
 rw[count_cons_self]at F
 have o:¬s.now.getD k.toNat 0=0:=FG (by omega)
 have d:=EG s (show k.toNat<s.now.length by omega) o
 have D:=MD o
 have c:∀n∈S,Ai (AF s k.toNat) n=Ai s n:=λn b=>by
  by_cases e:n=k.toNat
  ·subst e
   refine d.nd ?_
   show ¬(s.now.set k.toNat _).getD k.toNat 0=0
   rw[AU (by omega)]
   rcases t with t|t
   ·exact FG (by omega)
   exact absurd b t
  unfold Ai
  have I:(AF s k.toNat).now.getD n 0=s.now.getD n 0:=by show (s.now.set k.toNat _).getD n 0=_;exact Az e
  have H:seen (AF s k.toNat) n=seen s n:=rfl
  rw[I,H]
 refine⟨if_neg o,o,CY h.ok (by omega),h.nodup,λj G m=>?_,λn b ys B=>h.disj n b ys (by rw[<-c n b];exact B),λn b lv ys i l x r=>?_⟩
 ·have y:=h.enough j G m
  have M:wS (AF s k.toNat) S j=wS s S j:=QQ λn b=>by unfold Be;rw[c n b]
  show _=((s.now.set k.toNat _).getD j.toNat 0).toNat
  by_cases e:j=k
  ·subst e
   rw[count_cons_self]at y
   rw[AU (by omega)];omega
  rw[Az (by omega)]
  rw[List.count_cons_of_ne (Ne.symm e)]at y;omega
 have u:=B0 i
 have a:Ai s n=some (lv,ys):=by rw[<-d.nd u];exact i
 obtain⟨J,zs,z⟩:=h.closed n b lv ys a l x r
 refine⟨J,zs,?_⟩
 have g:=Ar a
 have K:=g.ref x r
 have E:=g.up l x r
 have C:=G5 b a r
 have f:¬(AF s k.toNat).now.getD x.ref.toNat 0=0:=by
  show ¬(s.now.set k.toNat _).getD x.ref.toNat 0=0
  by_cases e:x.ref=k
  ·rw [e]at C⊢
   rw[AU (by omega)]
   exact FG (by omega)
  rw[Az (by omega)];exact B0 z
 rw[d.nd f];exact z
theorem Yu(h:En s S (k::R))(hk:8<=k/\k<256)(i:0<wS s S k+R.count k):ExtB s (AF s k.toNat):=by
 have j:s.now.length=256:=h.ok.2.1.1
 have g:=h.enough k (by omega) hk.2
 rw[count_cons_self]at g
 have d:¬s.now.getD k.toNat 0=0:=FG (by omega)
 have c:=EG s (show k.toNat<s.now.length by omega) d
 have f:=MD d
 have a:∀n,¬s.now.getD n 0=0->¬(AF s k.toNat).now.getD n 0=0:=λn b=>by
  show ¬(s.now.set k.toNat _).getD n 0=0
  by_cases e:n=k.toNat
  ·subst e;rw[AU (by omega)];exact FG (by omega)
  rw[Az e];exact b
 exact⟨λn r b=>by rw[c.nd (a n (B0 b))];exact b,a⟩
theorem DM(s:Sto)(k:Nat):Thin s (AN s k):=⟨rfl,rfl,rfl,λn=>by
 show ((s.now.set k 0).getD n 0).toNat<=_
 by_cases e:n=k
 ·subst e
  rcases Nat.lt_or_ge n s.now.length with h|h
  ·rw [AU h];exact Nat.zero_le _
  rw[List.set_eq_of_length_le h];exact Nat.le_refl _
 rw[Az e];exact Nat.le_refl _⟩
theorem En.clear(h:En s S (k::R))(hk:8<=k/\k<256)(O:s.now.getD k.toNat 0=1)(L:k.toNat∈S)(C:Ai s k.toNat=some (lv,ys)):
  En (AN s k.toNat) S (ys.map (·.ref)++R)/\wS s S k=0/\R.count k=0:=by
 have W:s.now.length=256:=h.ok.2.1.1
 have m:=DM s k.toNat
 have E:=h.enough k (by omega) hk.2
 rw[count_cons_self,O]at E
 have N:(1:By).toNat=1:=rfl
 have z:wS s S k=0:=by omega
 have D:R.count k=0:=by omega
 have b:Ai (AN s k.toNat) k.toNat=none:=by
  unfold Ai;rw[if_pos];show (s.now.set k.toNat 0).getD k.toNat 0=0;exact AU (by omega)
 have c:∀n,n≠k.toNat->Ai (AN s k.toNat) n=Ai s n:=λn e=>by
  unfold Ai
  have E:(AN s k.toNat).now.getD n 0=s.now.getD n 0:=by show (s.now.set k.toNat _).getD n 0=_;exact Az e
  have T:seen (AN s k.toNat) n=seen s n:=rfl
  rw[E,T]
 refine⟨⟨E2 h.ok (by omega),h.nodup,λj Q r=>?_,λn u zs y=>h.disj n u zs (by
  by_cases e:n=k.toNat
  ·rw [e,b]at y;cases y
  rw[<-c n e];exact y),λn u l zs d o x t=>?_⟩,z,D⟩
 ·have M:=h.enough j Q r
  have X:wS (AN s k.toNat) S j+(ys.map (·.ref)).count j=wS s S j:=by
   have F:=QO (f:=λn=>(Be (AN s k.toNat) n).count j) (g:=λn=>(Be s n).count j) h.nodup L (λn _ e=>by unfold Be;rw[c n e])
   rw[EC b,CC C]at F
   unfold wS
   simpa using F
  rw[List.count_append]
  show _=((s.now.set k.toNat 0).getD j.toNat 0).toNat
  by_cases e:j=k
  ·subst e
   have P:(0:By).toNat=0:=rfl
   rw[AU (by omega)];omega
  rw[Az (by omega)]
  rw[List.count_cons_of_ne (Ne.symm e)]at M;omega
 have B:=B0 d
 have a:Ai s n=some (l,zs):=by rw[<-m.nd B];exact d
 obtain⟨U,H,G⟩:=h.closed n u l zs a o x t
 refine⟨U,H,?_⟩
 have V:=(Ar a).ref x t
 have J:=(Ar a).up o x t
 have I:=G5 u a t
 have K:x.ref≠k:=λe=>by rw[e]at I;omega
 have i:¬(AN s k.toNat).now.getD x.ref.toNat 0=0:=by
  show ¬(s.now.set k.toNat 0).getD x.ref.toNat 0=0
  rw[Az (by omega)];exact B0 G
 rw[m.nd i];exact G
theorem Jy:∀{ys:List It}{s:Sto},En s S (ys.map (·.ref)++R)->(∀y∈ys,y.ref=0\/(8<=y.ref/\y.ref<256)/\y.ref.toNat∉S)->∃t,BT ys s=some t/\En t S R/\Thin s t/\Do t.now<=Do s.now
 |[],s,h,_=>⟨s,rfl,h,Thin.refl s,Nat.le_refl _⟩
 |y::ys,s,h,b=>by
  rw[BT]
  by_cases d:y.ref=0
  ·rw [if_pos d]
   exact Jy (h.less λk e=>by rw[map_cons,List.cons_append,List.count_cons_of_ne (by omega)]) λz a=>b z (by simp[a])
  obtain⟨e,c⟩:=(b y (by simp)).resolve_left d
  have o:s.now.length=256:=h.ok.2.1.1
  obtain⟨m,f,l⟩:=En.loose (k:=y.ref) (R:=ys.map (·.ref)++R) h e (.inr c)
  rw[if_neg d,if_pos m]
  obtain⟨t,j,i,g,n⟩:=Jy l λz a=>b z (by simp[a])
  refine⟨t,j,i,(EG s (by omega) f).trans g,?_⟩
  have:=Fg (s:=s) (k:=y.ref.toNat) (by omega) f;omega
structure LvJ(first:List By)(s:Sto)(S:List Nat)(R:List Int)(st:List (Int×Int)):Prop where
 en:En s S (st.map (·.1)++R)
 st:∀p∈st,(8<=p.1/\p.1<256)/\p.1.toNat∈S/\∃lv ys,Ai s p.1.toNat=some (lv,ys)/\(p.2<0\/lv=p.2)
 first:∀n,(s.now.getD n 0).toNat<=(first.getD n 0).toNat
theorem LvJ.thin{first:List By}{st:List (Int×Int)}(d:En t S (st.map (·.1)++R))(b:∀p∈st,(8<=p.1/\p.1<256)/\p.1.toNat∈S/\∃lv ys,Ai s p.1.toNat=some (lv,ys)/\(p.2<0\/lv=p.2))(f:∀n,(s.now.getD n 0).toNat<=(first.getD n 0).toNat)(a:Thin s t):LvJ first t S R st:=by
 refine⟨d,λp c=>?_,λn=>Nat.le_trans (a.now n) (f n)⟩
 obtain⟨e,i,lv,ys,h,g⟩:=b p c
 refine⟨e,i,lv,ys,?_,g⟩
 have j:0<(st.map (·.1)++R).count p.1:=List.count_pos_iff.2 (List.mem_append_left _ (List.mem_map_of_mem c))
 rw[a.nd (d.live (by omega) e.2 (by omega))];exact h
theorem HX{first:List By}:∀{f:Nat}{s:Sto}{st:List (Int×Int)},LvJ first s S R st->Do s.now<=f->∃t,HV first f s st=some t/\En t S R/\Thin s t
 |f,s,[],h,_=>⟨s,by cases f<;>rfl,h.en,Thin.refl s⟩
 |f,s,(k,l)::st,h,Z=>by
  obtain⟨I,J,lv,ys,a,i⟩:=h.st (k,l) (by simp)
  dsimp only at I J a i
  have Y:s.now.length=256:=h.en.ok.2.1.1
  have b:En s S (k::(st.map (·.1)++R)):=h.en
  have L:=b.enough k (by omega) I.2
  rw[count_cons_self]at L
  have H:¬s.now.getD k.toNat 0=0:=FG (by omega)
  have M:=Nk H
  obtain⟨f,rfl⟩:∃T,f=T+1:=⟨f-1,by omega⟩
  have j:∀p∈st,(8<=p.1/\p.1<256)/\p.1.toNat∈S/\∃lv ys,Ai s p.1.toNat=some (lv,ys)/\(p.2<0\/lv=p.2):=λp m=>h.st p (by simp[m])
  by_cases z:s.now.getD k.toNat 0=1
  ·obtain ⟨N,c2,c3⟩:=b.clear I z J a
   rw[Eu H z a]
   have g:¬first.getD k.toNat 0=0:=λe=>by
    have:=h.first k.toNat
    rw[e,z]at this;exact absurd this (by decide)
   rw[if_neg (λh=>h.elim g λh=>i.elim (λh=>by omega) h.2)]
   have c:=Ar a
   have E:=Fq (s:=s) (k:=k.toNat) (by omega) (by rw[z];rfl)
   by_cases d:0<lv
   ·rw [if_pos d]
    have F:(ED lv ys++st).map (·.1)=ys.map (·.ref)++st.map (·.1):=by
     rw[map_append];unfold ED;rw[map_map];rfl
    have G:LvJ first (AN s k.toNat) S R (ED lv ys++st):=by
     refine LvJ.thin (s:=s) (by rw[F,List.append_assoc];exact N) (λp m=>?_) h.first (DM s k.toNat)
     rcases List.mem_append.1 m with m|m
     ·obtain ⟨y,r,rfl⟩:=List.mem_map.1 m
      obtain⟨W,zs,V⟩:=b.closed _ J _ _ a d y r
      have:=c.ref y r
      have:=c.up d y r
      exact⟨by show 8<=y.ref/\y.ref<256;omega,W,lv-1,zs,V,.inr rfl⟩
     exact j p m
    obtain⟨t,C,B,o⟩:=HX G (f:=f) (by omega)
    exact⟨t,C,B,(DM s k.toNat).trans o⟩
   rw[if_neg d]
   have n:lv=0:=by have:=c.lev;omega
   obtain⟨t,C,B,o,X⟩:=Jy N λy r=>by
    by_cases K:y.ref=0
    ·exact .inl K
    exact .inr ⟨(c.ref y r).resolve_left K,b.disj _ J ys (by rw[a,n]) y r K⟩
   rw[C]
   have G:LvJ first t S R st:=LvJ.thin (s:=s) B j h.first ((DM s k.toNat).trans o)
   obtain⟨u,Q,P,O⟩:=HX G (f:=f) (by omega)
   exact⟨u,Q,P,(DM s k.toNat).trans (o.trans O)⟩
  obtain⟨_,_,U⟩:=b.loose I (.inl (by
   have:(s.now.getD k.toNat 0).toNat≠1:=λe=>z (UInt8.toNat.inj e)
   omega))
  rw[ML H z]
  have D:=EG s (show k.toNat<s.now.length by omega) H
  have E:=Fg (s:=s) (k:=k.toNat) (by omega) H
  have G:LvJ first (AF s k.toNat) S R st:=LvJ.thin (s:=s) U j h.first D
  obtain⟨t,C,B,o⟩:=HX G (f:=f) (by omega)
  exact⟨t,C,B,D.trans o⟩
variable{root:Int}
theorem GF(h:En s S (root::R))(hk:8<=root/\root<256)(c:root.toNat∈S)(a:Ai s root.toNat=some (lv,ys)):∃t,leave s root=some t/\En t S R/\Thin s t:=
 HX ⟨h,λp b=>by rw[List.mem_singleton.1 b];exact⟨hk,c,lv,ys,a,.inl (by show (-1:Int)<0;omega)⟩,λ_=>Nat.le_refl _⟩ (Nat.le_refl _)
end Go.Proofs.YtdahhoicackcaaaGreat
