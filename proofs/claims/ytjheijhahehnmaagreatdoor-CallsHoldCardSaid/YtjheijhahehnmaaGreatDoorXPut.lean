/- Lemmas. -/
import Derived.Test.YtjheijhahehnmaaGreatDoorXShp
namespace Go.Proofs.YtjheijhahehnmaaGreatDoor
open List (append_assoc length_cons length_append replicate nil_append length length_map length_nil)
set_option linter.unusedSimpArgs false
set_option linter.unusedVariables false
set_option linter.unusedSectionVars false
set_option maxHeartbeats 40000000
set_option maxRecDepth 8000
open Go.RowKit
def Bh(k:Ky):Prop:=(0<=k.kind/\k.kind<256)/\(0<=k.id/\k.id<4294967296)/\(0<=k.off/\k.off<4294967296)
theorem wWo{x:It}(r:List By)(e:Bv x=false)(hk:Bh x.key):UT (Gi x++r)=0/\Hs (Gi x++r)=x/\(Gi x++r).drop (ER (Gi x++r))=r:=by
 obtain⟨⟨u,s⟩,i,h⟩:=hk;have j:=oF (show decide _=false from e);have w:x.val.length<=12:=by omega
 have y:0<=x.ref/\x.ref<256:=by omega
 have b:Gi x++r=[bU x.key.kind]++(Cw x.key.id++(Cw x.key.off++(JU x.ref++([bU x.val.length]++(x.val++r))))):=by
  unfold Gi;simp only[append_assoc]
 have c:(Gi x++r).getD 11 0=bU x.val.length:=by rw[b];rfl
 have g:ER (Gi x++r)=12+x.val.length:=by
  unfold ER;rw[c];have:=Gf x.val.length;omega
 have z:(Gi x++r).length=12+x.val.length+r.length:=by
  rw[b];simp[Cw,JU];omega
 have o:(((Gi x++r).getD 0 0).toNat:Int)=x.key.kind:=by
  rw[b];show ((bU x.key.kind).toNat:Int)=_;rw[Gf];omega
 have m:Ee (Gi x++r) 1 4=x.key.id:=by
  rw[JK (xs:=Gi x++r) (a:=1) (n:=4) [bU x.key.kind] (Cw x.key.id) _ b rfl rfl,JP i]
 have l:Ee (Gi x++r) 5 4=x.key.off:=by
  rw[JK (xs:=Gi x++r) (a:=5) (n:=4) ([bU x.key.kind]++Cw x.key.id) (Cw x.key.off) (JU x.ref++([bU x.val.length]++(x.val++r))) (by rw[b];simp only[append_assoc]) rfl rfl,JP h]
 have k:Ee (Gi x++r) 9 2=x.ref:=by
  rw[JK (xs:=Gi x++r) (a:=9) (n:=2) ([bU x.key.kind]++Cw x.key.id++Cw x.key.off) (JU x.ref) ([bU x.val.length]++(x.val++r)) (by rw[b];simp only[append_assoc]) rfl rfl,Uv (by omega)]
 have d:(Gi x++r).drop 12=x.val++r:=by
  rw[b];rfl
 have f:Hs (Gi x++r)=x:=by
  unfold Hs;rw[o,m,l,k,d,g,Nat.add_sub_cancel_left,List.take_left]
 refine⟨?_,f,?_⟩
 ·unfold UT;rw[iN (by omega),iN (by omega),f];unfold Ca;rw[e];rfl
 rw[g,<-List.drop_drop,d,List.drop_left]
theorem VF:∀(xs:List It)(r:List By)(a:List It),(∀x∈xs,Bv x=false)->(∀x∈xs,Bh x.key)->Cb xs.length (xs.flatMap Gi++r) a=some (a++xs,r)
 |[],r,a,_,_=>by simp[Cb]
 |x::xs,r,a,d,c=>by
  obtain⟨g,f,e⟩:=wWo (x:=x) (xs.flatMap Gi++r) (d x (by simp)) (c x (by simp));rw[List.flatMap_cons,append_assoc,length_cons,PL g,f,e,VF xs r (a++[x]) (λy b=>d y (by simp[b])) (λy b=>c y (by simp[b]))];simp
variable{lv:Int}{xs:List It}
theorem wRp(c:Cx lv xs=true)(hk:∀x∈xs,Bh x.key):Db (J3 lv xs)=some (lv,xs):=by
 have b:=NdOk.of c;have a:=λx g=>(B1 b.ok x g).1;have l:=Gw a;have j:=b.lev;have k:=b.len;have h:(C3 lv xs).length=3+(xs.flatMap Gi).length:=by unfold C3;rw[length_append];rfl
 have i:(C3 lv xs).length<=124:=by omega
 have m:(J3 lv xs).drop 4=Gq (C3 lv xs):=rfl;have d:Gq (C3 lv xs)=[78,bU lv,bU xs.length]++(xs.flatMap Gi++replicate (124-(C3 lv xs).length) 0):=by
  unfold Gq;rw[<-append_assoc];rfl
 have w:((Gq (C3 lv xs)).getD 0 0).toNat=78:=by rw[d];rfl
 have u:(((Gq (C3 lv xs)).getD 1 0).toNat:Int)=lv:=by rw[d];show ((bU lv).toNat:Int)=_;rw[Gf];omega
 have s:((Gq (C3 lv xs)).getD 2 0).toNat=xs.length:=by
  have:(((Gq (C3 lv xs)).getD 2 0).toNat:Int)=xs.length:=by rw[d];show ((bU xs.length).toNat:Int)=_;rw[Gf];omega
  omega
 have o:(Gq (C3 lv xs)).drop 3=xs.flatMap Gi++replicate (124-(C3 lv xs).length) 0:=by rw[d];rfl
 rw[Gm m (wCh i) w (by omega),u,s,o,VF xs _ [] a hk];have e:C1 (replicate (124-(C3 lv xs).length) 0)=true:=by
  unfold C1;rw[List.all_eq_true];intro y f;rw[(List.mem_replicate.1 f).2];rfl
 have n:CT lv xs=0:=by unfold CT;rw[iP (by simpa using c)]
 show (if CT lv ([]++xs)=0/\C1 (replicate (124-(C3 lv xs).length) 0)=true then some (lv,[]++xs)else none)=_;rw[nil_append,iP ⟨n,e⟩]
theorem G5(xs:List By)(a n:Nat):0<=Ee xs a n/\Ee xs a n<4294967296:=QB _
theorem wQv(xs:List By):Bh (Hs xs).key:=by
 have:=(xs.getD 0 0).toNat_lt;exact⟨⟨by show (0:Int)<=((xs.getD 0 0).toNat:Int);omega,by show ((xs.getD 0 0).toNat:Int)<256;omega⟩,G5 _ _ _,G5 _ _ _⟩
theorem Nv:∀{n:Nat}{r:List By}{b:List It}{a:List It×List By},Cb n r b=some a->(∀x∈b,Bh x.key)->∀x∈a.1,Bh x.key
 |0,r,b,a,h,d=>by rw[Cb]at h;cases h;exact d
 |n+1,r,b,a,h,d=>by
  rw[Cb]at h;split at h
  ·refine Nv h λx c=>?_;rcases mA c with c|c
   ·exact d x c
   rw[mS c];exact wQv _
  cases h
variable{k:Nat}{lv:Int}{s:Sto}{xs:List It}
theorem HM(h:Ag s k=some (lv,xs)):∀x∈xs,Bh x.key:=by
 grind[Ag,Db,Nv]
theorem Gj{q:Ky}:∀{l:Nat}{xs:List It}{k:Nat},Ag s k=some ((l:Int),xs)->A1 s l xs->∀w∈AB s q l xs,(∃j,Ag s j=some (w.lv,w.xs))/\w.at_<=w.xs.length/\(w.lv≠0->w.at_<w.xs.length)
 |0,xs,k,b,f,w,a=>by
  rw[AB]at a;rw[mS a];exact⟨⟨k,b⟩,HH _ _,λh=>aD rfl h⟩
 |l+1,xs,k,b,f,w,a=>by
  have e:=FR b (by omega);have c:=Hw (q:=q) e;rw[AB,List.getElem?_eq_getElem c]at a;rcases List.mem_cons.1 a with rfl|a
  ·exact ⟨⟨k,b⟩,by show BJ xs q<=xs.length;omega,λ_=>c⟩
  obtain⟨i,g,_,m⟩:=BE f (List.getElem_mem c);have d:kid s xs[BJ xs q]=i:=by unfold kid;rw[g]
  change w∈AB s q l (kid s xs[BJ xs q])at a;rw[d]at a;exact Gj g m w a
theorem EY{q:Ky}:∀(l:Nat)(xs:List It),(AB s q l xs).length=l+1
 |0,_=>rfl
 |l+1,xs=>by rw[AB,length_cons,EY l]
variable{α:Type}{pre:List (α×Nat)}{ps:List α}
theorem wUv{y:α×Nat}(h:pre++[y]<+:bw ps 0):∃h:pre.length<ps.length,y.1=ps[ps.length-1-pre.length]:=by
 obtain⟨r,b⟩:=h;have c:=cA length b;rw[DT,length_append,length_append,List.length_singleton]at c;have a:pre.length<ps.length:=by omega
 refine⟨a,?_⟩;have e:=cA (λl=>(l.map (·.1))[pre.length]?) b;grind[Jc]
def wPc(up:List It):Prop:=∀y∈up,(0<=y.ref/\(y.ref=0\/8<=y.ref)/\y.ref<256)/\Bh y.key
theorem wJw:∀{ps:List (List It)}{s t:Sto}{up0 up:List It},Au s->Tu lv ps s up0=.ok (t,up)->(∀p∈ps,p≠[]/\∀x∈p,Bh x.key)->wPc up0->Au t/\up.length=up0.length+ps.length/\wPc up
 |[],s,t,up0,up,a,h,_,f=>by rw[Tu]at h;cases h;exact⟨a,rfl,f⟩
 |p::ps,s,t,up0,up,a,h,g,f=>by
  rw[Tu]at h;split at h
  ·rename_i j;have b:=GW j a.1.2.1;obtain⟨m,l,k⟩:=wJw (HN a b.1 b.2.2.1 b.2.2.2) h (λp i=>g p (by simp[i])) (λy c=>by
    rcases mA c with c|c
    ·exact f y c
    rw[mS c];have n:8<=BD (Ai s p):=LG _ _ _;obtain⟨d,e⟩:=g p (by simp);obtain⟨z,zs,rfl⟩:=List.exists_cons_of_ne_nil d;refine⟨⟨?_,.inr ?_,?_⟩,e z (by simp)⟩
    ·show (0:Int)<=(BD (Ai s (z::zs)):Int);omega
    ·show (8:Int)<=(BD (Ai s (z::zs)):Int);omega
    show (BD (Ai s (z::zs)):Int)<256;omega)
   refine⟨m,?_,k⟩;rw[l,length_append,List.length_singleton,length_cons];omega
  cases h
variable{l up:List It}
theorem WA{t:Sto}{held:List It}(a:Au s)(h:build s lv l held=.ok (t,up))(e:l≠[])(hk:∀x∈l,Bh x.key):up.length=(if 5<l.length then 2 else 1)/\wPc up:=by
 unfold build at h;split at h
 ·cases h
 rename_i g c f;split at h
 ·cases h
 cases h;obtain⟨_,j,i⟩:=wJw a f (λp b=>⟨(Gn b).2 e,λx d=>hk x ((Gn b).1 x d)⟩) (λ_ h=>by cases h);grind[Gp]
variable{e:Int}
theorem ZO{x:It}:∀{ws:List Stp}(k:Nat),Rp s x (ws.drop k)=.error e->Rp s x ws=.error e
 |ws,0,h=>by simpa using h
 |[],k+1,h=>by simpa using h
 |w::ws,k+1,h=>by
  rw[List.drop_succ_cons]at h;rw[Rp,ZO k h]
variable{w:Stp}
theorem wQt{q:Ky}(h:up≠[]):Fe w q up≠[]:=λe=>by
 unfold Fe at e
 have:=List.append_eq_nil_iff.1 e
 exact h (List.append_eq_nil_iff.1 this.1).2
variable{y:It}
theorem wHf{q:Ky}(h:y∈Fe w q up):y∈w.xs\/y∈up:=by
 grind[Fe]
theorem wHg(w:Stp)(q:Ky)(a:List It):(Fe w q a).length<=w.xs.length+a.length:=by
 grind[Fe]
def UF(M:Mem)(v:Value)(up:List It):Prop:=∃b c,∃ps:List Ir,∃vl e,v=.slice (sA b 0) up.length c/\up.length<=c/\M b=some (cE (ps.flatMap Ad++vl) e)/\ps.map (·.1)=up/\∀p∈ps,BS M p.2 p.1.val
variable{M M':Mem}
theorem UF.mono{v:Value}(h:UF M v up)(a:MLe M M'):UF M' v up:=by
 obtain⟨b,c,ps,d,e,l,k,j,i,g⟩:=h;exact⟨b,c,ps,d,e,l,k,a _ _ j,i,λp f=>(g p f).mono a⟩
theorem UF.ns{v:Value}(h:UF M v up):NS M v up:=by
 obtain⟨b,c,ps,m,e,l,k,j,g,f⟩:=h;exact⟨_,c,ps,l,k,.inr ⟨b,0,rfl,λi u a=>⟨_,_,_,j,by
  have d:=(List.getElem?_eq_some_iff.1 a).1;rw[Nat.zero_add,List.getElem?_toArray,List.getElem?_append_left d];exact a⟩⟩,g,f⟩
variable{cur:Array Value}{g:Nat}
theorem wTv{a:Nat}(h:M g=some (.cells cur IT (0,0)))(f:up.length<=a)(d:cur.toList.take (up.length*5)=up.flatMap Nl)(c:∀x∈up,x.val=[]):UF M (.slice (sA g 0) up.length a) up:=by
 refine⟨g,a,up.map (λx=>(x,sN)),cur.toList.drop (up.length*5),IT,rfl,f,?_,by rw[List.map_map];exact List.map_id _,λp e=>?_⟩
 ·rw [h,List.flatMap_map,show (up.flatMap λx=>Ad (x,sN))=up.flatMap Nl from rfl,<-d,List.take_append_drop]
 obtain⟨x,b,rfl⟩:=List.mem_map.1 e;exact⟨none,0,by rw[c x b];rfl,by rw[c x b];exact lR,by rw[c x b];exact .inl rfl⟩
variable{L' Lb:Lc}{bb:Nat}{u:Value}
theorem BdPost.form{r:Except Int (Sto×List It)}(h:BdPost r bb Lb u M' L'):∃a n c e,u=.tuple #[.slice a n c,iL e]/\((e≠0/\r=.error e)\/(e=0/\∃t up d b,r=.ok (t,up)/\n=up.length/\L'=d++b/\Au t/\BOwn M' bb b t/\Own (.slice a up.length c) d IT 5 up.length (up.flatMap Nl)/\(∀x∈up,x.val=[])/\∀p∈d,p.1∉Lb.map (·.1))):=by
 unfold BdPost at h;grind
theorem LvPost.form{root:Int}(h:LvPost s root bb u M' L'):∃e:Int,u=iL e/\((e=8/\leave s root=none)\/(e=0/\∃t,leave s root=some t/\Au t/\BOwn M' bb L' t)):=by
 rcases h with⟨b,a⟩|⟨t,b,a,d,c⟩
 ·grind
 grind
def zeroSt:List Value:=[sN,sN,sN,sN]
theorem Se{root:Int}{x:It}(h:DF s root x=0):(AN s root).2=0/\Ca x=0/\(x.ref≠0->¬s.now.getD x.ref.toNat 0=0):=by
 grind[DF,AN,Ca]
variable{a:Ky}
theorem wWm{b:Ky}(h:decide (¬ [a.kind,a.id,a.off]=[b.kind,b.id,b.off])=true):a≠b:=λe=>by rw[e]at h;exact oT h rfl
theorem wKo{b:Ky}(h:decide (¬ [a.kind,a.id,a.off]=[b.kind,b.id,b.off])=false)(c:a≠b):False:=by
 have:=nN (oF h);simp only[List.cons.injEq,and_true]at this;obtain⟨f,e,d⟩:=a;simp_all
theorem wHe(ps vs:List Ir)(i m:Nat)(z:i+m<=ps.length)(w:m<=1)(d:Option Addr)(b:Nat)(R:Lc)(a:Own (.slice d ps.length b) R IT 5 ps.length (ps.flatMap Ad))(o:∀x∈ps,x.2.oneCell'=true)(c k:Nat)(g:List Value)(j:TypeId)(M:Mem)(n:M c=some (cE (vs.flatMap Ad++g) j))(l:∀x∈vs,x.2.oneCell'=true)(y:0<vs.length)(f:ps.length+vs.length<=100000):
  Sg 261 #[.slice d ps.length b,iL i,iL ((i+m:Nat):Int),.slice (sA c 0) vs.length k] M R λu _ L'=>Own u L' IT 5 (ps.length-m+vs.length) ((ps.take i++vs++ps.drop (i+m)).flatMap Ad):=by
 have s:ps.length<=b:=by
  rcases a.2 with⟨e,h,_⟩|⟨_,_,_,e,_,h,_⟩
  ·omega
  grind
 rcases Nat.lt_or_ge 0 m with h|h
 ·obtain rfl:m=1:=by omega
  grind[UO]
 grind[wHc]
variable{F:Fr}{L:Lc}{M0:Mem}{N:Fs}{P:Program}{Q:Exit->Act->World->Prop}{W:World}{X:List Nat}{c:Code}
theorem VC{L2:Lc}(U:BOwn M bb Lb s)[l:Pick Lb L L2](D:∀p∈Lb,p.1∉X)
  (h:∀M' z m H lv,MLe M M'->M' bb=some (cE [z,m,H,lv] Eg)->LS M' z s.blocks->WS M' m s.waits->BS M' H s.now->BS M' lv s.last->JC P N c F ⟨W,X,M0⟩ M' L2 Q):JC P N c F ⟨W,X,M0⟩ M L Q:=by
 obtain⟨z,m,J,I,lv,Rw,O,rfl,g2,Z,Y,o,y,u,k⟩:=U;refine Cc (M':=M) (L':=(bb,cE [z,m,.slice J s.now.length I,lv] Eg)::(Rw++(O++L2))) (λw R=>by have:=R.perm l.perm;rwa[List.cons_append,append_assoc]at this) ?_;have fin:∀(n:Mem)(j:Value),MLe M n->j=m->WS n j s.waits->JC P N c F ⟨W,X,M0⟩ n ((bb,cE [z,m,.slice J s.now.length I,lv] Eg)::(O++L2)) Q:=λn j d e T=>by
  subst e;refine HQ Y (λp l=>D p (by simp[l])) ?_;intro M2 a2 c2 i e2 E B;refine BH bb (D _ (List.mem_cons_self (a:=(bb,_)))) ?_;intro M3 f K;rw[e2]at K;exact h M3 _ _ _ _ (d.trans (i.trans f)) K (g2.mono (d.trans (i.trans f))) (T.mono (i.trans f)) ⟨_,_,rfl,E,B.mono f⟩ (Z.mono (d.trans (i.trans f)))
 rcases k with k|⟨rfl,S,ba,rfl,g,hold⟩
 ·refine HQ k (λp l=>D p (by simp[l])) ?_;intro n a1 c1 d e1 G C;exact fin n _ d e1.symm ⟨a1,c1,o,rfl,G,C,y,λp l=>(u p l).mono d⟩
 refine fin M _ (mR) rfl ⟨_,_,o,rfl,lR,?_,y,u⟩;rcases g with V|g
 ·exact .inl V
 obtain⟨b,of,sp⟩:=ba;simp only at g;subst g;exact .inr ⟨b,of,rfl,hold⟩
structure PtZ where
 t:Sto
 up:List It
 M:Mem
 L:Lc
 v:Value
structure PtZI(r:Except Int (Sto×List It))(bb:Nat)(M0:Mem)(z:PtZ):Prop where
 eq:r=.ok (z.t,z.up)
 bo:BOwn z.M bb z.L z.t
 ok:Au z.t
 uf:UF z.M z.v z.up
 pos:0<z.up.length
 mle:MLe M0 z.M
variable{lev:Nat}
theorem Jt{root:Int}{x:It}(h:DF s root x=0)(a:Ag s root.toNat=some ((lev:Int),xs)):HG s root x=Hl s root x (AB s x.key lev xs):=by
 grind[HG]
variable{ws:List Stp}
theorem PN{root:Int}{x:It}(h:Eh ws x.key=true):Hl s root x ws=.error 120:=by grind[Hl]
theorem Sd{root:Int}{x:It}(h:¬Eh ws x.key=true)(a:Rp s x ws=.error e):Hl s root x ws=.error e:=by unfold Hl;rw[iN h,a];rfl
theorem Sc{root:Int}{x:It}(h:¬Eh ws x.key=true)(a:Kq x ws.length (Rp s x ws)=.error e):Hl s root x ws=.error e:=by grind[Hl]
theorem wHr{t:Sto}{root:Int}{x:It}(h:¬Eh ws x.key=true)(b:Kq x ws.length (Rp s x ws)=.ok (t,up))(a:leave t root=none):Hl s root x ws=.error 8:=by
 grind[Hl,leave]
theorem PO{t a:Sto}{root:Int}{x:It}(h:¬Eh ws x.key=true)(c:Kq x ws.length (Rp s x ws)=.ok (t,y::up))(b:leave t root=some a):Hl s root x ws=.ok (a,y.ref):=by
 grind[Hl,leave]
def PtPost(r:Except Int (Sto×Int))(u:Value)(M':Mem):Prop:=match r with
 |.error e=>e≠0/\u=.tuple #[.agg zeroSt.toArray,iL 0,iL e]
 |.ok (t,now)=>∃v,u=.tuple #[v,iL now,iL 0]/\ST M' v t/\Au t
theorem wHq(s:Sto)(root:Int)(x:It)(xv bv nv lw:Value)(wa:Option Addr)(wc:Nat)(C:List (Wt×Value))(M:Mem)(h1:LS M bv s.blocks)(bJ:s.waits.length<=wc)(bF:SM M wa (C.flatMap Bb))(al:C.map (·.1)=s.waits)(aH:∀p∈C,BS M p.2 p.1.2)(h3:BS M nv s.now)(h4:BS M lw s.last)(hx:BS M xv x.val)(cG:Bh x.key):
  Sg 172 #[.agg #[bv,.slice wa s.waits.length wc,nv,lw],iL root,.agg #[iB x.key.kind,iU x.key.id,iU x.key.off,iL x.ref,xv]] M [] λu M' L'=>PtPost (HG s root x) u M'/\L'=[]:=by
 have h2:WS M (.slice wa s.waits.length wc) s.waits:=⟨wa,wc,C,rfl,bJ,bF,al,aH⟩;have cQ:ST M (.agg #[bv,.slice wa s.waits.length wc,nv,lw]) s:=⟨_,_,_,_,rfl,h1,h2,h3,h4⟩;obtain⟨xa,xc,rfl,d6,d5⟩:=id hx;refine sB Tryz.func172 Tryz.ntmps172 ?_;intro W;refine gh ?_;refine lh (Bz (cs:=[bv,.slice wa s.waits.length wc,nv,lw]) rfl rfl rfl rfl) ?_;rintro _ _ _ ⟨b3,rfl,rfl,rfl⟩;refine lh (Bz (cs:=EL x xa xc) rfl rfl rfl rfl) ?_;rintro _ _ _ ⟨b5,rfl,rfl,rfl⟩;refine VY λT S H=>?_;refine gQ (wFr s root x _ _ _ _ _ M h1 h2 h3 h4 hx) ?_;refine gj (λaA=>?_) λaA=>?_
 ·refine gr ?_;refine⟨?_,rfl⟩;have:HG s root x=.error (DF s root x):=by unfold HG;rw[iP aA]
  rw[this];exact⟨aA,rfl⟩
 refine gh ?_;have D:DF s root x=0:=nN aA;have az:=Se D;obtain⟨bi,bV,au,dA,lev,f,k,bh,_⟩:=CR az.1;obtain⟨cL,⟨c9,_⟩,⟨cD,_⟩⟩:=id bi;have d8:s.waits.length<=4096:=cL.2.1;have du:=(Ar k).lev;have dl:=EY (s:=s) (q:=x.key) lev f;refine gc (wGa s root x.key bv _ nv lw lev f M cQ ⟨bV,au⟩ bi k bh) ?_;rintro _ Mw ck c5;obtain⟨b9,b4,I,rfl,bI,aE,am,bK⟩:=id c5;have aF:I.length=(AB s x.key lev f).length:=by rw[<-am,length_map]
 simp only[nil_append];refine gg ?_;refine BK rfl rfl (Dc rfl rfl rfl rfl rfl (by kernel_rfl) (wAv (AB s x.key lev f) b9 b4 I Mw bI aE am bK (by omega) x.key (by omega) (λw hw=>by obtain⟨⟨j,h⟩,_⟩:=Gj k bh w hw;have:=(Ar h).len;omega))) (λah=>?_) (λah=>?_)
 ·refine gr ?_;refine⟨?_,rfl⟩;rw[Jt D k,PN ah];exact⟨by decide,rfl⟩
 refine gh ?_;refine lh (Ab (cs:=[_,_,_,_,_]) rfl rfl rfl (by rfl) (by rfl) (by rfl)) ?_;rintro _ _ _ ⟨aj,rfl,rfl,rfl⟩;refine ga λg=>?_;refine gC (MI s bv nv lw wa wc Mw bJ (by omega) (h3.mono ck) (by omega)) ?_;rintro _ Mb _ cp ⟨bb,Rn,na,nc,rfl,rfl,bW⟩;have P:=ck.trans cp;have cX:BOwn Mb bb ((bb,cE [bv,.slice wa s.waits.length s.waits.length,.slice na s.now.length nc,lw] Eg)::Rn) s:=by
  refine⟨bv,_,na,nc,lw,[],Rn,rfl,h1.mono P,h4.mono P,bW,C,al,λp n=>(aH p n).mono P,?_⟩;have cf:(C.flatMap Bb).length=s.waits.length*2:=by rw[Af Bb 2 B3,<-al,length_map]
  rcases bF with h0|⟨wb,wo,rfl,bE⟩
  ·have hz:s.waits.length=0:=by rw[h0,length_nil]at cf;omega
   rw[h0,hz];cases wa with
   |none=>exact .inl (Own.nil _ _)
   |some ba=>exact .inr ⟨rfl,rfl,ba,rfl,.inl rfl,λi u hu=>by cases hu⟩
  exact .inr ⟨rfl,cf,_,rfl,.inr rfl,λi u hu=>(bE i u hu).mono P⟩
 refine lh (AW rfl rfl) ?_;rintro _ _ _ ⟨b1,rfl,rfl,rfl⟩;refine Dv rfl (Ak rfl rfl rfl rfl rfl rfl rfl rfl) ?_;rintro _ _ _ ⟨rfl,rfl⟩;refine Am (jT (Ao (Ao ?_)));refine BH b1 (by simp) ?_;intro Ma cS ai;refine BH aj (by simp) ?_;intro Mq cm b0;refine BH b5 (by simp) ?_;intro Me a1 e5;have a0:=cS.trans (cm.trans a1);replace b0:=a1 _ _ b0;replace ai:=a1 _ _ (cm _ _ ai);refine Cc (M':=Me) (L':=(g,cE [.slice (sA aj 0) 1 1] 79)::(H,cE [iL (0)] 40)::(T,cE [sN,sN,sN,sN] 28)::(S,cE [iL 0] 3)::((bb,cE [bv,.slice wa s.waits.length s.waits.length,.slice na s.now.length nc,lw] Eg)::Rn)) (λw h=>(h.perm (L':=(b3,cE [bv,.slice wa s.waits.length wc,nv,lw] 28)::(g,cE [.slice (sA aj 0) 1 1] 79)::(H,cE [iL (0)] 40)::(T,cE [sN,sN,sN,sN] 28)::(S,cE [iL 0] 3)::((bb,cE [bv,.slice wa s.waits.length s.waits.length,.slice na s.now.length nc,lw] Eg)::Rn)) BA).tl) ?_;have bN:UF Me (.slice (sA aj 0) 1 1) [x]:=⟨aj,1,[(x,.slice xa x.val.length xc)],[],_,rfl,lR,(by rw[b0];rfl),rfl,λp n=>by rw[mS n];exact hx.mono (P.trans a0)⟩;refine gC (bws _ _ _ Me) ?_;rintro _ Mg _ l ⟨db,rfl,ct,rfl⟩;rw[<-aF]at ct;simp only[nil_append];have cn:MLe Mw Mg:=cp.trans (a0.trans l);refine gh ?_;have bD:wPc [x]:=λy J=>by
  rw[mS J];have:=oF (show decide _=false from CH az.2.1);exact⟨by omega,cG⟩
 refine Ss (R:=(g,cE [.slice (sA aj 0) 1 1] 79)::(H,cE [iL (0)] 40)::(T,cE [sN,sN,sN,sN] 28)::(S,cE [iL 0] 3)::((bb,cE [bv,.slice wa s.waits.length s.waits.length,.slice na s.now.length nc,lw] Eg)::Rn)) (xs:=bw I 0) (enc:=(λp:(Stp×Value)×Nat=>[iL p.2,.agg (A2 p.1).toArray])) (ps:=[42,43]) rfl (by kernel_rfl) (wNn db b9 b4 I Mg ct (aE.mono cn) (by omega))
  (λpre M' R=>∃t up ad Lb,R=(g,cE [ad] 79)::(H,cE [iL (0)] 40)::(T,cE [sN,sN,sN,sN] 28)::(S,cE [iL 0] 3)::Lb/\Rp s x ((AB s x.key lev f).drop ((AB s x.key lev f).length-pre.length))=.ok (t,up)/\BOwn M' bb Lb t/\Au t/\UF M' ad up/\wPc up/\0<up.length/\up.length<=2)
  (λc pre M' R=>∃(e:Int)(ad:Value)(Lb:Lc),c=.ret/\e≠0/\R=(g,cE [ad] 79)::(H,cE [iL (e)] 40)::(T,cE [sN,sN,sN,sN] 28)::(S,cE [iL 0] 3)::Lb/\Rp s x (AB s x.key lev f)=.error e)
  (λ_=>rfl) (by decide) ⟨s,[x],_,((bb,cE [bv,.slice wa s.waits.length s.waits.length,.slice na s.now.length nc,lw] Eg)::Rn),rfl,(by rw[length_nil,Nat.sub_zero,List.drop_length];rfl),cX.mono (a0.trans l),bi,bN.mono l,bD,lR,(by show 1<=2;omega)⟩ ?_ ?_ ?_
 ·intro l2 W2 pre y M2 R2 cN a9 cV aN;obtain⟨t,up,ad,b2,rfl,F,cW,bR,bO,bM,bQ,d9⟩:=cV;obtain⟨dD,J⟩:=wUv aN;obtain⟨⟨w,wv⟩,yi⟩:=y;dsimp only at J;have bH:(w,wv)∈I:=by rw[J];exact List.getElem_mem _
  have c1:w∈AB s x.key lev f:=by rw[<-am];exact List.mem_map_of_mem bH
  have bG:=(bK _ bH).mono (cn.trans a9);dsimp only at bG;obtain⟨ia,ic,U,c2,cJ,a5,af,Y⟩:=id bG;subst c2;obtain⟨⟨jw,cd⟩,d7,dj⟩:=Gj k bh w c1;have aS:=Ar cd;have bE:=aS.len;have de:=aS.lev;have cH:=HM cd;have ay:(AB s x.key lev f).drop ((AB s x.key lev f).length-(pre.length+1))=w::(AB s x.key lev f).drop ((AB s x.key lev f).length-pre.length):=by
   have di:(AB s x.key lev f).length=I.length:=by rw[<-am,length_map]
   have cI:(AB s x.key lev f).length-(pre.length+1)<(AB s x.key lev f).length:=by omega
   rw[List.drop_eq_getElem_cons cI];congr 1
   ·have:w=(I[I.length-1-pre.length]).1:=by rw[<-J]
    rw[this];simp only[<-am,List.getElem_map,length_map];congr 2;omega
   congr 1;omega
  obtain⟨ub,uc,ae,aX,aY,rfl,bP,be,a4,aa⟩:=id bO;have aU:U.length=w.xs.length:=by rw[<-af,length_map]
  have aI:ae.length=up.length:=by rw[<-a4,length_map]
  simp only[A2];refine ga λaB=>?_;refine jKN λW' cO=>?_;refine HR (Ao (Aj ?_));refine jp rfl ?_;refine Am (jT ?_);refine Fw (α:=Nat) (λm=>[(5,pB b5),(6,pB T),(7,pB S),(8,pB H),(11,pB g),(12,pB b1),(14,pB aB),(15,iL (m:Int))]) (λ_=>M2) (λ_=>(aB,cE [iL w.lv,.slice ia w.xs.length ic,iL w.at_] 347)::(g,cE [.slice (sA ub 0) up.length uc] 79)::(H,cE [iL (0)] 40)::(T,cE [sN,sN,sN,sN] 28)::(S,cE [iL 0] 3)::b2) (λm=>m=DA w x.key) ?_ ?_
  ·rintro m hm;have dC:m<=1/\w.at_+m<=w.xs.length:=by
    rw[hm];unfold DA;split
    ·omega
    rename_i y c0;have:=(List.getElem?_eq_some_iff.1 c0).1;split<;>omega
   have ci:∀x∈((g,cE [.slice (sA ub 0) up.length uc] 79)::(H,cE [iL (0)] 40)::(T,cE [sN,sN,sN,sN] 28)::(S,cE [iL 0] 3)::b2:Lc).map (·.1),x<W'.heap.size:=by rw[cO];exact cN
   have aM:U.length-m+ae.length=(Fe w x.key up).length:=by unfold Fe;rw[<-hm];simp only[length_append,List.length_take,List.length_drop];omega
   refine gh ?_;refine Qp [0,1,2,4,5,6,7,8,9,10,103,111,12] ?_;refine dq rfl (Ah rfl rfl rfl rfl rfl) ?_;refine dq rfl (Ah rfl rfl rfl rfl rfl) ?_;refine dq rfl (Aw rfl rfl rfl rfl (CJ.loc rfl)) ?_;refine dq rfl (Ah rfl rfl rfl rfl rfl) ?_;refine dq rfl (Aw rfl rfl rfl rfl (CJ.loc rfl)) ?_;refine dq rfl (Ah rfl rfl rfl rfl rfl) ?_;refine dq rfl (Aw rfl rfl rfl rfl (CJ.loc rfl)) ?_;refine dp rfl rfl ?_;refine dq rfl (Bo (qA rfl rfl rfl rfl rfl (by omega)) (v':=iL ((w.at_+m:Nat):Int)) (cA _ (by omega))) ?_;refine gh ?_;rw[<-aU];refine Gu rfl rfl rfl (Gb rfl rfl rfl rfl rfl (by kernel_rfl) (EM ia ic U M2 a5 (Du Y) (by omega))) ?_;rintro _ Mc _ ⟨Q,Rc,rfl,aw,cb⟩;refine⟨_,_,mR,Q,λ_ h=>h,λp n=>List.mem_append_right _ n,?_⟩;obtain⟨ca,cc,cM⟩:=aw.form;subst cM;rw[<-aI];refine Gu rfl rfl rfl (Gb rfl rfl rfl rfl rfl (by kernel_rfl) (wHe U ae w.at_ m (by omega) (by omega) ca cc Rc aw (Du Y) ub uc aX aY Mc (Q _ _ be) (Du aa) (by omega) (by omega))) ?_;rintro _ Mp _ ⟨ag,Rr,rfl,av,bZ⟩;refine⟨_,_,mR,(Q.trans ag),λ_ h=>h,λp n=>List.mem_append_right _ n,?_⟩;rw[aI];rw[aU];refine gh ?_;refine lq (Aw rfl rfl rfl rfl (CM.cj ⟨_,_,_,(l.trans (a9.trans (Q.trans ag))) _ _ ai,rfl⟩ _)) ?_;refine gh ?_;have c8:∀p∈Rr,W'.heap.size<=p.1:=λp n=>(bZ p n).elim (λh=>by obtain⟨q,hq,e⟩:=List.mem_map.1 h;rw[<-e];exact(cb q hq).elim (λh=>by cases h) id) id;obtain⟨ra,rc,c6⟩:=av.form;subst c6;refine Tz av (P3 ci c8) ?_;intro Mr d0 dz a8 er c7 bj;cases er;replace bj:=bj.mono (EJ _ _);have cB:NS Mr (.slice ra (Fe w x.key up).length rc) (Fe w x.key up):=by
    refine⟨ra,rc,U.take w.at_++ae++U.drop (w.at_+m),rfl,by rw[<-aM];exact c7,bj,?_,λp n=>?_⟩
    ·unfold Fe;rw[List.map_append,List.map_append,List.map_take,List.map_drop,af,a4,hm]
    rcases mA n with n|n
    ·rcases mA n with n|n
     ·exact (Y p (List.mem_of_mem_take n)).mono (Q.trans (ag.trans a8))
     exact(aa p n).mono (Q.trans (ag.trans a8))
    exact(Y p (List.mem_of_mem_drop n)).mono (Q.trans (ag.trans a8))
   have a2:=Q.trans (ag.trans a8);have aL:Fe w x.key up≠[]:=wQt (λe=>by rw[e]at bQ;exact aD bQ (by decide));have bT:∀y∈Fe w x.key up,Bh y.key:=λy J=>(wHf J).elim (cH y) (λh=>(bM y h).2);have dr:=wHg w x.key up;rw[aM];refine lh (Gb rfl rfl rfl rfl rfl (by kernel_rfl) (by have:=Q7 t w.lv (Fe w x.key up) up ra rc (.slice (sA ub 0) up.length uc) bb Mr b2 (cW.mono a2) bR cB (bO.ns.mono a2) aL (λy J=>(bT y J).1) (λy J=>(bM y J).1) (by omega) (by omega);exact this)) ?_;rintro _ Md _ ⟨co,Rd,rfl,bq,bY⟩;obtain⟨da,dn,dc,e,rfl,O⟩:=BdPost.form bq;refine gj (λbt=>?_) λbt=>?_
   ·refine gh ?_;refine Ga [4] [4] [0,1,102,103,104] _ ([(H,cE [iL e] 40)]) ([]) ?_;refine dq rfl (BC (cs:=[_,_,_,_]) rfl rfl rfl (by rfl)) ?_;refine dq rfl (Aw rfl rfl rfl rfl (CJ.loc rfl)) ?_;refine Dw rfl rfl (Ak rfl rfl rfl rfl rfl rfl rfl rfl) ?_;rintro _ _ _ ⟨rfl,rfl⟩;refine⟨_,_,mR,(by first|exact mR|assumption),λ_ h=>h,by simp,?_⟩;refine Dw rfl rfl (Ak rfl rfl rfl rfl rfl rfl rfl rfl) ?_;rintro _ _ _ ⟨rfl,rfl⟩;refine⟨_,_,mR,(by first|exact mR|assumption),λ_ h=>h,by simp,?_⟩;refine gh ?_;obtain⟨Z,G⟩|⟨rfl,_⟩:=O;rotate_left
    ·exact aD rfl bt
    refine AL (M':=Md) (L':=(g,cE [.slice da dn dc] 79)::(H,cE [iL (e)] 40)::(T,cE [sN,sN,sN,sN] 28)::(S,cE [iL 0] 3)::Rd) (λw9 h=>(h.perm (L':=(aB,cE [iL w.lv,.slice ia w.xs.length ic,iL w.at_] 347)::(g,cE [.slice da dn dc] 79)::(H,cE [iL (e)] 40)::(T,cE [sN,sN,sN,sN] 28)::(S,cE [iL 0] 3)::Rd) BA).tl) ?_;refine jQr ?_;refine⟨e,_,Rd,rfl,Z,rfl,?_⟩;refine ZO ((AB s x.key lev f).length-(pre.length+1)) ?_;rw[ay,Rp,F];exact G
   refine gh ?_;obtain⟨Z,_⟩|⟨rfl,t9,o,Ru,ak,G,rfl,rfl,bf,bs,bk,K,bX⟩:=O
   ·exact aD (nN bt) Z
   have a6:=WA bR G aL bT;have ab:0<o.length/\o.length<=2:=by rw[a6.1];split<;>omega
   obtain⟨g9,cu,E,e9,rfl,bp,_,_,aq⟩:=bk.open (by omega);cases e9;refine AL (M':=Md) (L':=(g9,.cells E IT (0,0))::(g,cE [.slice (sA g9 0) o.length dc] 79)::(H,cE [iL (0)] 40)::(T,cE [sN,sN,sN,sN] 28)::(S,cE [iL 0] 3)::ak) (λw9 h=>(h.perm (L':=(aB,cE [iL w.lv,.slice ia w.xs.length ic,iL w.at_] 347)::(g9,.cells E IT (0,0))::(g,cE [.slice (sA g9 0) o.length dc] 79)::(H,cE [iL (0)] 40)::(T,cE [sN,sN,sN,sN] 28)::(S,cE [iL 0] 3)::ak) BA).tl) ?_;refine AD g9 (P3 ci (R:=[(g9,.cells E IT (0,0))]) (λp n=>(bY p (List.mem_append_left _ n)).elim (λh=>aD h (bX p n)) id) (g9,.cells E IT (0,0)) (List.mem_singleton.2 rfl)) ?_;intro Mz a7 bz;refine wFt ?_;refine⟨t9,o,_,ak,rfl,?_,bs.mono a7,bf,wTv bz bp aq K,a6.2,ab.1,ab.2⟩;rw[length_append,List.length_singleton,ay,Rp,F];exact G
  refine gh ?_;refine Qp [0,1,2,3,4,5,6,7,8,9,10,11,12,13,14,15,16,17,18,19,20,21,22,23,24,25] ?_;refine gj (λcZ=>?_) λcZ=>?_
  ·refine gh ?_;refine Ct 0 (kC (t:=5) rfl (kC (t:=6) rfl (kC (t:=7) rfl (kC (t:=8) rfl (kC (t:=11) rfl (kC (t:=12) rfl (kC (t:=14) rfl (kC (t:=15) rfl Keep.nil)))))))) (by show 0=DA w x.key;unfold DA;rw[List.getElem?_eq_none (by omega)]) (λw h=>h)
  refine gj (λbx=>?_) λbx=>?_
  ·refine gh ?_;have bm:w.at_<w.xs.length:=by omega
   obtain⟨sb,so,e0,bc⟩:=a5.open (by intro e;have:=cA length e;rw[Af Ad 5 Ae,length_nil]at this;omega);cases e0;obtain⟨va,vc,bo,c4,c3⟩:=Av bc af Y bm;refine gh ?_;refine dq rfl (A0 (cs:=Az w.xs[w.at_].key) rfl rfl rfl rfl rfl (λi v hv=>(bo i v (Pe hv)).cj _)) ?_;refine gh ?_;refine dq rfl (A0 (cs:=Az x.key) rfl rfl rfl rfl rfl (λi v hv=>CM.cj ⟨_,_,_,(l.trans a9) _ _ e5,by rw[List.getElem?_toArray,Nat.zero_add];exact Pe hv⟩ _)) ?_;refine Sq rfl rfl rfl (UW (ns:=[w.xs[w.at_].key.kind,w.xs[w.at_].key.id,w.xs[w.at_].key.off]) (ms:=[x.key.kind,x.key.id,x.key.off]) rfl rfl rfl rfl rfl rfl ⟨rfl,rfl⟩) (λbu=>?_) (λbu=>?_)
   ·refine gh ?_;refine Ct 0 (kC (t:=5) rfl (kC (t:=6) rfl (kC (t:=7) rfl (kC (t:=8) rfl (kC (t:=11) rfl (kC (t:=12) rfl (kC (t:=14) rfl (kC (t:=15) rfl Keep.nil)))))))) (by show 0=DA w x.key;unfold DA;rw[List.getElem?_eq_getElem bm];show 0=if w.lv=0/\_ then 0 else 1;rw[iP ⟨bx,wWm bu⟩]) (λw h=>h)
   refine gh ?_;refine Ct 1 (kC (t:=5) rfl (kC (t:=6) rfl (kC (t:=7) rfl (kC (t:=8) rfl (kC (t:=11) rfl (kC (t:=12) rfl (kC (t:=14) rfl (kC (t:=15) rfl Keep.nil)))))))) (by show 1=DA w x.key;unfold DA;rw[List.getElem?_eq_getElem bm];show 1=if w.lv=0/\_ then 0 else 1;rw[iN (λh=>wKo bu h.2)]) (λw h=>h)
  refine gh ?_;refine Ct 1 (kC (t:=5) rfl (kC (t:=6) rfl (kC (t:=7) rfl (kC (t:=8) rfl (kC (t:=11) rfl (kC (t:=12) rfl (kC (t:=14) rfl (kC (t:=15) rfl Keep.nil)))))))) (by show 1=DA w x.key;unfold DA;rw[List.getElem?_eq_getElem (by omega)];show 1=if w.lv=0/\_ then 0 else 1;rw[iN (λh=>bx h.1)]) (λw h=>h)
 ·intro d M3 R3 br cU;obtain⟨t3,B,bC,aC,rfl,F,cr,bg,N,ao,ap,dm⟩:=cU;rw[DT,aF,Nat.sub_self,List.drop_zero]at F;obtain⟨cw,aZ,bL⟩:∃a c,bC=.slice a B.length c:=by obtain⟨b,c,_,_,_,h,_⟩:=id N;exact⟨_,c,h⟩
  subst bL;refine AL (M':=M3) (L':=(d,.deferred (some []))::(g,cE [.slice cw B.length aZ] 79)::(H,cE [iL (0)] 40)::(T,cE [sN,sN,sN,sN] 28)::(S,cE [iL 0] 3)::aC) (λw9 h=>by rw[List.append_nil]at h;exact h) ?_;refine jB (jT ?_);refine Fw (α:=PtZ) (λz=>[(1,iL root),(6,pB T),(7,pB S),(8,pB H),(11,pB g),(12,pB b1)]) (λz=>z.M) (λz=>(d,.deferred (some []))::(g,cE [z.v] 79)::(H,cE [iL (0)] 40)::(T,cE [sN,sN,sN,sN] 28)::(S,cE [iL 0] 3)::z.L) (λz=>PtZI (Kq x ((AB s x.key lev f).length:Int) (Rp s x (AB s x.key lev f))) bb M3 z) ?_ ?_
  ·rintro ⟨tz,bA,Mz,Lz,vz⟩ ⟨ax,aV,aP,ac,V,X⟩;dsimp only at ax aV aP ac V X⊢;obtain⟨dy,cv,K⟩:∃a c,vz=.slice a bA.length c:=by obtain⟨b,c,_,_,_,h,_⟩:=id ac;exact⟨_,c,h⟩
   subst K;refine gh ?_;refine lq (Aw rfl rfl rfl rfl (CM.cj ⟨_,_,_,(l.trans (br.trans X)) _ _ ai,rfl⟩ _)) ?_;refine gC (GY tz root ⟨bV,au⟩ aP bb Mz Lz aV) ?_;rintro _ Mv Rv cl cC;obtain⟨e,rfl,aT⟩:=LvPost.form cC;refine gj (λaW=>?_) λaW=>?_
   ·refine gh ?_;refine Bn (L2:=_) Rm.perm ?_;refine gr ?_;refine⟨?_,rfl⟩;obtain⟨rfl,bl⟩|⟨rfl,_⟩:=aT;rotate_left
    ·exact aD rfl aW
    rw[Jt D k,wHr (by rw[ah];decide) ax bl];exact⟨by decide,rfl⟩
   refine gh ?_;obtain⟨_,_⟩|⟨_,tv,bl,aQ,ch⟩:=aT
   ·exfalso;omega
   obtain⟨cg,⟨dB,_⟩,⟨dE,_⟩⟩:=id aQ;obtain⟨ub,uc,ae,aX,aY,eu,bP,be,a4,aa⟩:=id ac;cases eu;refine VC (s:=tv) ch (by simp) ?_;intro M9 cz cx cy Gh cq e9 k1 k2 k3 k4;have ce:=(ac.mono (cl.trans cq)).ns;obtain⟨ia,ic,U,ei,cJ,a5,af,Y⟩:=id ce;cases ei;obtain⟨sb,so,e0,bc⟩:=a5.open (by intro e;have:=cA length e;rw[Af Ad 5 Ae,length_nil]at this;have h9:=cA length af;rw[length_map]at h9;omega);cases e0;obtain⟨va,vc,bo,c4,c3⟩:=Av bc af Y V;refine DW [0,2,3,4,5,101,106,107,108] [(g,cE [.slice (sA ub 0) bA.length cv] 79)] ?_;refine dq rfl (Aw rfl rfl rfl rfl (CM.cj ⟨_,_,_,(l.trans (br.trans (X.trans (cl.trans cq)))) _ _ ai,rfl⟩ _)) ?_;refine gh ?_;refine dq rfl (Aw rfl rfl rfl rfl (((bo 3 _ rfl).mono (by first|exact mR|assumption)).cj _)) ?_;refine dh rfl (hC (DU tv bb cz cx cy Gh M9 e9 k1 k2 k3 k4 cg (by omega) (by omega))) ?_;rintro _ Ms _ ⟨cR,_,rfl,⟨aK,rfl⟩⟩;refine⟨cR,by simp,?_⟩;obtain⟨q1,q2,q3,q4,rfl,f1,f2,f3,f4⟩:=aK.ex;obtain⟨dH,dG,dv,rfl,_⟩:=id f1;obtain⟨dx,dw,dd,rfl,_⟩:=id f2;obtain⟨d2,d1,rfl,_⟩:=id f3;obtain⟨d4,d3,rfl,_⟩:=id f4;refine Dw rfl rfl (Ak rfl rfl rfl rfl rfl rfl rfl rfl) ?_;rintro _ _ _ ⟨rfl,rfl⟩;refine⟨_,_,mR,(by first|exact mR|assumption),λ_ h=>h,by simp,?_⟩;refine Dw rfl rfl (Ak rfl rfl rfl rfl rfl rfl rfl rfl) ?_;rintro _ _ _ ⟨rfl,rfl⟩;refine⟨_,_,mR,(by first|exact mR|assumption),λ_ h=>h,by simp,?_⟩;refine Dw rfl rfl (Ak rfl rfl rfl rfl rfl rfl rfl rfl) ?_;rintro _ _ _ ⟨rfl,rfl⟩;refine⟨_,_,mR,(by first|exact mR|assumption),λ_ h=>h,by simp,?_⟩;refine gh ?_;refine Bn (L2:=_) Rm.perm ?_;refine gr ?_;refine⟨?_,rfl⟩;obtain⟨y,ys,rfl⟩:=List.exists_cons_of_length_pos V;rw[Jt D k,PO (by rw[ah];decide) ax bl];exact⟨_,rfl,aK,aQ⟩
  refine gj (λcY=>?_) λcY=>?_
  ·refine gh ?_;refine lq (Aw rfl rfl rfl rfl (CM.cj ⟨_,_,_,(l.trans br) _ _ ai,rfl⟩ _)) ?_;refine gh ?_;obtain⟨ub,uc,ae,aX,aY,eu,bP,be,a4,aa⟩:=id N;cases eu;have aJ:B≠[]:=λe=>by rw[e]at ap;exact aD ap (by decide)
   refine gC (Q7 t3 ((AB s x.key lev f).length:Int) B B (sA ub 0) aZ (.slice (sA ub 0) B.length aZ) bb M3 aC cr bg N.ns N.ns aJ (λy J=>(ao y J).2.1) (λy J=>(ao y J).1) (by omega) (by omega)) ?_;rintro _ Md Rd co bq;obtain⟨da,dn,dc,e,rfl,O⟩:=BdPost.form bq;refine gj (λa3=>?_) λa3=>?_
   ·refine gh ?_;refine Ga [4] [4] [0,1,102,103,104] _ ([(H,cE [iL e] 40)]) ([]) ?_;refine dq rfl (BC (cs:=[_,_,_,_]) rfl rfl rfl (by rfl)) ?_;refine dq rfl (Aw rfl rfl rfl rfl (CJ.loc rfl)) ?_;refine Dw rfl rfl (Ak rfl rfl rfl rfl rfl rfl rfl rfl) ?_;rintro _ _ _ ⟨rfl,rfl⟩;refine⟨_,_,mR,(by first|exact mR|assumption),λ_ h=>h,by simp,?_⟩;refine Dw rfl rfl (Ak rfl rfl rfl rfl rfl rfl rfl rfl) ?_;rintro _ _ _ ⟨rfl,rfl⟩;refine⟨_,_,mR,(by first|exact mR|assumption),λ_ h=>h,by simp,?_⟩;refine gh ?_;refine Bn (L2:=_) Rm.perm ?_;refine gr ?_;refine⟨?_,rfl⟩;obtain⟨Z,G⟩|⟨rfl,_⟩:=O;rotate_left
    ·exact aD rfl a3
    rw[Jt D k,Sc (e:=e) (by rw[ah];decide) (by rw[F];show (if 1<B.length then _ else _)=_;rw[iP (by omega)];exact G)];exact⟨Z,rfl⟩
   refine gh ?_;obtain⟨Z,_⟩|⟨rfl,t9,o,Ru,ak,G,rfl,rfl,bf,bs,bk,K,bX⟩:=O
   ·exact aD (nN a3) Z
   have a6:=WA bg G aJ (λy J=>(ao y J).2);have ab:0<o.length/\o.length<=2:=by rw[a6.1];split<;>omega
   obtain⟨g9,cu,E,e9,rfl,bp,_,_,aq⟩:=bk.open (by omega);cases e9;refine AL (M':=Md) (L':=(g9,.cells E IT (0,0))::(d,.deferred (some []))::(g,cE [.slice (sA g9 0) o.length dc] 79)::(H,cE [iL (0)] 40)::(T,cE [sN,sN,sN,sN] 28)::(S,cE [iL 0] 3)::ak) (λw h=>h.perm BA) ?_;refine AD g9 (by simp) ?_;intro Mz a7 bz;refine Ct ⟨t9,o,Mz,ak,_⟩ (kC (t:=1) rfl (kC (t:=6) rfl (kC (t:=7) rfl (kC (t:=8) rfl (kC (t:=11) rfl (kC (t:=12) rfl Keep.nil)))))) ⟨?_,bs.mono a7,bf,wTv bz bp aq K,ab.1,co.trans a7⟩ (λw h=>h);rw[F];show (if 1<B.length then _ else _)=_;rw[iP (by omega)];exact G
  refine gh ?_;refine Ct ⟨t3,B,M3,aC,_⟩ (kC (t:=1) rfl (kC (t:=6) rfl (kC (t:=7) rfl (kC (t:=8) rfl (kC (t:=11) rfl (kC (t:=12) rfl Keep.nil)))))) ⟨?_,cr,bg,N,ap,mR⟩ (λw h=>h);rw[F];show (if 1<B.length then _ else _)=_;rw[iN (by omega)]
 intro d c pre M2 R2 a9 aN hI;obtain⟨e,ad,aC,rfl,cK,rfl,F⟩:=hI;refine gh ?_;refine Bn (L2:=_) Rm.perm ?_;refine gr ?_;refine⟨?_,rfl⟩;rw[Jt D k,Sd (by rw[ah];decide) F];exact⟨cK,rfl⟩
end Go.Proofs.YtjheijhahehnmaaGreatDoor
