/- Walks: an item put in. No statement of the seat is proved here. -/
import Derived.Test.YtjheijhahehnmaaGreatDoorZShp
import Derived.Test.YtjheijhahehnmaaGreatDoorZSp
import Derived.Test.YtjheijhahehnmaaGreatDoorZHn
import Derived.Test.YtjheijhahehnmaaGreatDoorZPar
namespace Go.Proofs.YtjheijhahehnmaaGreatDoor
open Go.Proofs.Tryz
open List (append_assoc length_cons length_append replicate nil_append length length_map length_nil)
set_option linter.unusedSimpArgs false
set_option linter.unusedVariables false
set_option linter.unusedSectionVars false
set_option maxHeartbeats 40000000
set_option maxRecDepth 8000
open Go.RowKit
def Bj(k:Ky):Prop:=(0<=k.kind/\k.kind<256)/\(0<=k.id/\k.id<4294967296)/\(0<=k.off/\k.off<4294967296)
theorem L3{x:It}(r:List By)(e:BB x=false)(hk:Bj x.key):VU (GA x++r)=0/\HN (GA x++r)=x/\(GA x++r).drop (E7 (GA x++r))=r:=by
 obtain⟨⟨u,s⟩,i,h⟩:=hk;have j:=of_decide_eq_false (show decide _=false from e);have w:x.val.length<=12:=by omega
 have y:0<=x.ref/\x.ref<256:=by omega
 have b:GA x++r=[bU x.key.kind]++(CB x.key.id++(CB x.key.off++(Kj x.ref++([bU x.val.length]++(x.val++r))))):=by
  unfold GA;simp only[append_assoc]
 have c:(GA x++r).getD 11 0=bU x.val.length:=by rw[b];rfl
 have g:E7 (GA x++r)=12+x.val.length:=by
  unfold E7;rw[c];have:=Gy x.val.length;omega
 have z:(GA x++r).length=12+x.val.length+r.length:=by
  rw[b];simp[CB,Kj];omega
 have o:(((GA x++r).getD 0 0).toNat:Int)=x.key.kind:=by
  rw[b];show ((bU x.key.kind).toNat:Int)=_;rw[Gy];omega
 have m:Eu (GA x++r) 1 4=x.key.id:=by
  rw[Kd (xs:=GA x++r) (a:=1) (n:=4) [bU x.key.kind] (CB x.key.id) _ b rfl rfl,Kg i]
 have l:Eu (GA x++r) 5 4=x.key.off:=by
  rw[Kd (xs:=GA x++r) (a:=5) (n:=4) ([bU x.key.kind]++CB x.key.id) (CB x.key.off) (Kj x.ref++([bU x.val.length]++(x.val++r))) (by rw[b];simp only[append_assoc]) rfl rfl,Kg h]
 have k:Eu (GA x++r) 9 2=x.ref:=by
  rw[Kd (xs:=GA x++r) (a:=9) (n:=2) ([bU x.key.kind]++CB x.key.id++CB x.key.off) (Kj x.ref) ([bU x.val.length]++(x.val++r)) (by rw[b];simp only[append_assoc]) rfl rfl,Vp (by omega)]
 have d:(GA x++r).drop 12=x.val++r:=by
  rw[b];rfl
 have f:HN (GA x++r)=x:=by
  unfold HN;rw[o,m,l,k,d,g,Nat.add_sub_cancel_left,List.take_left]
 refine⟨?_,f,?_⟩
 ·unfold VU;rw[if_neg (by omega),if_neg (by omega),f];unfold Cd;rw[e];rfl
 rw[g,<-List.drop_drop,d,List.drop_left]
theorem WG:∀(xs:List It)(r:List By)(a:List It),(∀x∈xs,BB x=false)->(∀x∈xs,Bj x.key)->Ce xs.length (xs.flatMap GA++r) a=some (a++xs,r)
 |[],r,a,_,_=>by simp[Ce]
 |x::xs,r,a,d,c=>by
  obtain⟨g,f,e⟩:=L3 (x:=x) (xs.flatMap GA++r) (d x (by simp)) (c x (by simp));rw[List.flatMap_cons,append_assoc,length_cons,Qc g,f,e,WG xs r (a++[x]) (λy b=>d y (by simp[b])) (λy b=>c y (by simp[b]))];simp
variable{lv:Int}{xs:List It}
theorem wUh(c:CD lv xs=true)(hk:∀x∈xs,Bj x.key):Dk (Ks lv xs)=some (lv,xs):=by
 have b:=NdOk.of c;have a:=λx g=>(B5 b.ok x g).1;have l:=GQ a;have j:=b.lev;have k:=b.len;have h:(Dd lv xs).length=3+(xs.flatMap GA).length:=by unfold Dd;rw[length_append];rfl
 have i:(Dd lv xs).length<=124:=by omega
 have m:(Ks lv xs).drop 4=GK (Dd lv xs):=rfl;have d:GK (Dd lv xs)=[78,bU lv,bU xs.length]++(xs.flatMap GA++replicate (124-(Dd lv xs).length) 0):=by
  unfold GK;rw[<-append_assoc];rfl
 have w:((GK (Dd lv xs)).getD 0 0).toNat=78:=by rw[d];rfl
 have u:(((GK (Dd lv xs)).getD 1 0).toNat:Int)=lv:=by rw[d];show ((bU lv).toNat:Int)=_;rw[Gy];omega
 have s:((GK (Dd lv xs)).getD 2 0).toNat=xs.length:=by
  have:(((GK (Dd lv xs)).getD 2 0).toNat:Int)=xs.length:=by rw[d];show ((bU xs.length).toNat:Int)=_;rw[Gy];omega
  omega
 have o:(GK (Dd lv xs)).drop 3=xs.flatMap GA++replicate (124-(Dd lv xs).length) 0:=by rw[d];rfl
 rw[GD m (wEv i) w (by omega),u,s,o,WG xs _ [] a hk];have e:Db (replicate (124-(Dd lv xs).length) 0)=true:=by
  unfold Db;rw[List.all_eq_true];intro y f;rw[(List.mem_replicate.1 f).2];rfl
 have n:C0 lv xs=0:=by unfold C0;rw[if_pos (by simpa using c)]
 show (if C0 lv ([]++xs)=0/\Db (replicate (124-(Dd lv xs).length) 0)=true then some (lv,[]++xs)else none)=_;rw[nil_append,if_pos ⟨n,e⟩]
theorem Hs(xs:List By)(a n:Nat):0<=Eu xs a n/\Eu xs a n<4294967296:=Q4 _
theorem wTo(xs:List By):Bj (HN xs).key:=by
 have:=(xs.getD 0 0).toNat_lt;exact⟨⟨by show (0:Int)<=((xs.getD 0 0).toNat:Int);omega,by show ((xs.getD 0 0).toNat:Int)<256;omega⟩,Hs _ _ _,Hs _ _ _⟩
theorem NV:∀{n:Nat}{r:List By}{b:List It}{a:List It×List By},Ce n r b=some a->(∀x∈b,Bj x.key)->∀x∈a.1,Bj x.key
 |0,r,b,a,h,d=>by rw[Ce]at h;cases h;exact d
 |n+1,r,b,a,h,d=>by
  rw[Ce]at h;split at h
  ·refine NV h λx c=>?_;rcases List.mem_append.1 c with c|c
   ·exact d x c
   rw[List.mem_singleton.1 c];exact wTo _
  cases h
variable{k:Nat}{lv:Int}{s:Sto}{xs:List It}
theorem Jb(h:Ak s k=some (lv,xs)):∀x∈xs,Bj x.key:=by
 grind[Ak,Dk,NV]
theorem GB{q:Ky}:∀{l:Nat}{xs:List It}{k:Nat},Ak s k=some ((l:Int),xs)->A3 s l xs->∀w∈AE s q l xs,(∃j,Ak s j=some (w.lv,w.xs))/\w.at_<=w.xs.length/\(w.lv≠0->w.at_<w.xs.length)
 |0,xs,k,b,f,w,a=>by
  rw[AE]at a;rw[List.mem_singleton.1 a];exact⟨⟨k,b⟩,H4 _ _,λh=>absurd rfl h⟩
 |l+1,xs,k,b,f,w,a=>by
  have e:=Gc b (by omega);have c:=HU (q:=q) e;rw[AE,List.getElem?_eq_getElem c]at a;rcases List.mem_cons.1 a with rfl|a
  ·exact ⟨⟨k,b⟩,by show BO xs q<=xs.length;omega,λ_=>c⟩
  obtain⟨i,g,_,m⟩:=BJ f (List.getElem_mem c);have d:kid s xs[BO xs q]=i:=by unfold kid;rw[g]
  change w∈AE s q l (kid s xs[BO xs q])at a;rw[d]at a;exact GB g m w a
theorem Fk{q:Ky}:∀(l:Nat)(xs:List It),(AE s q l xs).length=l+1
 |0,_=>rfl
 |l+1,xs=>by rw[AE,length_cons,Fk l]
variable{α:Type}{pre:List (α×Nat)}{ps:List α}
theorem wXr{y:α×Nat}(h:pre++[y]<+:bw ps 0):∃h:pre.length<ps.length,y.1=ps[ps.length-1-pre.length]:=by
 obtain⟨r,b⟩:=h;have c:=congrArg length b;rw[D4,length_append,length_append,List.length_singleton]at c;have a:pre.length<ps.length:=by omega
 refine⟨a,?_⟩;have e:=congrArg (λl=>(l.map (·.1))[pre.length]?) b;grind[JB]
def wRy(up:List It):Prop:=∀y∈up,(0<=y.ref/\(y.ref=0\/8<=y.ref)/\y.ref<256)/\Bj y.key
theorem wMt:∀{ps:List (List It)}{s t:Sto}{a up:List It},Av s->Ud lv ps s a=.ok (t,up)->(∀p∈ps,p≠[]/\∀x∈p,Bj x.key)->wRy a->Av t/\up.length=a.length+ps.length/\wRy up
 |[],s,t,a,up,b,h,_,g=>by rw[Ud]at h;cases h;exact⟨b,rfl,g⟩
 |p::ps,s,t,a,up,b,h,i,g=>by
  rw[Ud]at h;split at h
  ·rename_i k;have c:=Hh k b.1.2.1;obtain⟨n,m,l⟩:=wMt (Jc b c.1 c.2.2.1 c.2.2.2) h (λp j=>i p (by simp[j])) (λy d=>by
    rcases List.mem_append.1 d with d|d
    ·exact g y d
    rw[List.mem_singleton.1 d];have o:8<=BH (Am s p):=Mu _ _ _;obtain⟨e,f⟩:=i p (by simp);obtain⟨z,zs,rfl⟩:=List.exists_cons_of_ne_nil e;refine⟨⟨?_,.inr ?_,?_⟩,f z (by simp)⟩
    ·show (0:Int)<=(BH (Am s (z::zs)):Int);omega
    ·show (8:Int)<=(BH (Am s (z::zs)):Int);omega
    show (BH (Am s (z::zs)):Int)<256;omega)
   refine⟨n,?_,l⟩;rw[m,length_append,List.length_singleton,length_cons];omega
  cases h
variable{l up:List It}
theorem XG{t:Sto}{held:List It}(a:Av s)(h:build s lv l held=.ok (t,up))(e:l≠[])(hk:∀x∈l,Bj x.key):up.length=(if 5<l.length then 2 else 1)/\wRy up:=by
 unfold build at h;split at h
 ·cases h
 rename_i g c f;split at h
 ·cases h
 cases h;obtain⟨_,j,i⟩:=wMt a f (λp b=>⟨(GH b).2 e,λx d=>hk x ((GH b).1 x d)⟩) (λ_ h=>by cases h);grind[GI]
variable{e:Int}
theorem wBr{x:It}:∀{ws:List Stp}(k:Nat),Sb s x (ws.drop k)=.error e->Sb s x ws=.error e
 |ws,0,h=>by simpa using h
 |[],k+1,h=>by simpa using h
 |w::ws,k+1,h=>by
  rw[List.drop_succ_cons]at h;rw[Sb,wBr k h]
variable{w:Stp}
theorem wTn{q:Ky}(h:up≠[]):FC w q up≠[]:=λe=>by
 unfold FC at e
 have:=List.append_eq_nil_iff.1 e
 exact h (List.append_eq_nil_iff.1 this.1).2
variable{y:It}
theorem wKw{q:Ky}(h:y∈FC w q up):y∈w.xs\/y∈up:=by
 grind[FC]
theorem wKx(w:Stp)(q:Ky)(a:List It):(FC w q a).length<=w.xs.length+a.length:=by
 grind[FC]
def UF(M:Mem)(v:Value)(up:List It):Prop:=∃b c,∃ps:List Ir,∃vl e,v=.slice (some ⟨b,0,none⟩) up.length c/\up.length<=c/\M b=some (cE (ps.flatMap Ae++vl) e)/\ps.map (·.1)=up/\∀p∈ps,BS M p.2 p.1.val
variable{M M':Mem}
theorem UF.mono{v:Value}(h:UF M v up)(a:MLe M M'):UF M' v up:=by
 obtain⟨b,c,ps,d,e,l,k,j,i,g⟩:=h;exact⟨b,c,ps,d,e,l,k,a _ _ j,i,λp f=>(g p f).mono a⟩
theorem UF.ns{v:Value}(h:UF M v up):NS M v up:=by
 obtain⟨b,c,ps,m,e,l,k,j,g,f⟩:=h;exact⟨_,c,ps,l,k,.inr ⟨b,0,rfl,λi u a=>⟨_,_,_,j,by
  have d:=(List.getElem?_eq_some_iff.1 a).1;rw[Nat.zero_add,List.getElem?_toArray,List.getElem?_append_left d];exact a⟩⟩,g,f⟩
variable{cur:Array Value}{g:Nat}
theorem wWq{a:Nat}(h:M g=some (.cells cur IT (0,0)))(f:up.length<=a)(d:cur.toList.take (up.length*5)=up.flatMap NK)(c:∀x∈up,x.val=[]):UF M (.slice (some ⟨g,0,none⟩) up.length a) up:=by
 refine⟨g,a,up.map (λx=>(x,.slice none 0 0)),cur.toList.drop (up.length*5),IT,rfl,f,?_,by rw[List.map_map];exact List.map_id _,λp e=>?_⟩
 ·rw [h,List.flatMap_map,show (up.flatMap λx=>Ae (x,.slice none 0 0))=up.flatMap NK from rfl,<-d,List.take_append_drop]
 obtain⟨x,b,rfl⟩:=List.mem_map.1 e;exact⟨none,0,by rw[c x b];rfl,by rw[c x b];exact Nat.le_refl _,by rw[c x b];exact .inl rfl⟩
variable{L' Lb:Lc}{bb:Nat}{u:Value}
theorem BdPost.form{r:Except Int (Sto×List It)}(h:BdPost r bb Lb u M' L'):∃a n c e,u=.tuple #[.slice a n c,.int .i64 e]/\((e≠0/\r=.error e)\/(e=0/\∃t up d b,r=.ok (t,up)/\n=up.length/\L'=d++b/\Av t/\BOwn M' bb b t/\Own (.slice a up.length c) d IT 5 up.length (up.flatMap NK)/\(∀x∈up,x.val=[])/\∀p∈d,p.1∉Lb.map (·.1))):=by
 unfold BdPost at h;grind
theorem LvPost.form{root:Int}(h:LvPost s root bb u M' L'):∃e:Int,u=.int .i64 e/\((e=8/\Df s root=none)\/(e=0/\∃t,Df s root=some t/\Av t/\BOwn M' bb L' t)):=by
 rcases h with⟨b,a⟩|⟨t,b,a,d,c⟩
 ·grind
 grind
def zeroSt:List Value:=[.slice none 0 0,.slice none 0 0,.slice none 0 0,.slice none 0 0]
theorem SX{root:Int}{x:It}(h:DS s root x=0):(AQ s root).2=0/\Cd x=0/\(x.ref≠0->¬s.now.getD x.ref.toNat 0=0):=by
 grind[DS,AQ,Cd]
variable{a:Ky}
theorem Lr{b:Ky}(h:decide (¬ [a.kind,a.id,a.off]=[b.kind,b.id,b.off])=true):a≠b:=λe=>by rw[e]at h;exact of_decide_eq_true h rfl
theorem wNj{b:Ky}(h:decide (¬ [a.kind,a.id,a.off]=[b.kind,b.id,b.off])=false)(c:a≠b):False:=by
 have:=Classical.not_not.1 (of_decide_eq_false h);simp only[List.cons.injEq,and_true]at this;obtain⟨f,e,d⟩:=a;simp_all
theorem wKv(ps vs:List Ir)(i m:Nat)(z:i+m<=ps.length)(w:m<=1)(d:Option Addr)(b:Nat)(R:Lc)(a:Own (.slice d ps.length b) R IT 5 ps.length (ps.flatMap Ae))(o:∀x∈ps,x.2.oneCell'=true)(c k:Nat)(g:List Value)(j:TypeId)(M:Mem)(n:M c=some (cE (vs.flatMap Ae++g) j))(l:∀x∈vs,x.2.oneCell'=true)(y:0<vs.length)(f:ps.length+vs.length<=100000):
  SpecL prog 261 #[.slice d ps.length b,.int .i64 i,.int .i64 ((i+m:Nat):Int),.slice (some ⟨c,0,none⟩) vs.length k] M R λu _ L'=>Own u L' IT 5 (ps.length-m+vs.length) ((ps.take i++vs++ps.drop (i+m)).flatMap Ae):=by
 have s:ps.length<=b:=by
  rcases a.2 with⟨e,h,_⟩|⟨_,_,_,e,_,h,_⟩
  ·omega
  grind
 rcases Nat.lt_or_ge 0 m with h|h
 ·obtain rfl:m=1:=by omega
  grind[VN]
 grind[wKt]
variable{F:Fr}{L:Lc}{M0:Mem}{N:Fs}{P:Program}{Q:Exit->Act->World->Prop}{W:World}{X:List Nat}{c:Code}
theorem WD{L2:Lc}(Y:BOwn M bb Lb s)[l:Pick Lb L L2](G:∀p∈Lb,p.1∉X)
  (h:∀M' C m J lv,MLe M M'->M' bb=some (cE [C,m,J,lv] Ew)->LS M' C s.blocks->WS M' m s.waits->BS M' J s.now->BS M' lv s.last->JC P N c F ⟨W,X,M0⟩ M' L2 Q):JC P N c F ⟨W,X,M0⟩ M L Q:=by
 obtain⟨C,m,O,K,lv,Rw,S,rfl,g2,g3,g4,o,y,u,k⟩:=Y;refine Cf (M':=M) (L':=(bb,cE [C,m,.slice O s.now.length K,lv] Ew)::(Rw++(S++L2))) (λw T=>by have:=T.perm l.perm;rwa[List.cons_append,append_assoc]at this) ?_;have B:∀(n:Mem)(j:Value),MLe M n->j=m->WS n j s.waits->JC P N c F ⟨W,X,M0⟩ n ((bb,cE [C,m,.slice O s.now.length K,lv] Ew)::(S++L2)) Q:=λn j d e V=>by
  subst e;refine Je g4 (λp l=>G p (by simp[l])) ?_;intro M2 a2 c2 i e2 H D;refine BL bb (G _ (List.mem_cons_self (a:=(bb,_)))) ?_;intro M3 f R;rw[e2]at R;exact h M3 _ _ _ _ (d.trans (i.trans f)) R (g2.mono (d.trans (i.trans f))) (V.mono (i.trans f)) ⟨_,_,rfl,H,D.mono f⟩ (g3.mono (d.trans (i.trans f)))
 rcases k with k|⟨rfl,U,ba,rfl,g,z⟩
 ·refine Je k (λp l=>G p (by simp[l])) ?_;intro n a1 c1 d e1 I E;exact B n _ d e1.symm ⟨a1,c1,o,rfl,I,E,y,λp l=>(u p l).mono d⟩
 refine B M _ (MLe.refl _) rfl ⟨_,_,o,rfl,Nat.le_refl _,?_,y,u⟩;rcases g with Z|g
 ·exact .inl Z
 obtain⟨b,of,sp⟩:=ba;simp only at g;subst g;exact .inr ⟨b,of,rfl,z⟩
structure PtZ where
 t:Sto
 up:List It
 M:Mem
 L:Lc
 v:Value
structure PtZI(r:Except Int (Sto×List It))(bb:Nat)(M0:Mem)(z:PtZ):Prop where
 eq:r=.ok (z.t,z.up)
 bo:BOwn z.M bb z.L z.t
 ok:Av z.t
 uf:UF z.M z.v z.up
 pos:0<z.up.length
 mle:MLe M0 z.M
variable{lev:Nat}
theorem J0{root:Int}{x:It}(h:DS s root x=0)(a:Ak s root.toNat=some ((lev:Int),xs)):H2 s root x=HG s root x (AE s x.key lev xs):=by
 grind[H2]
variable{ws:List Stp}
theorem Qf{root:Int}{x:It}(h:Ex ws x.key=true):HG s root x ws=.error 120:=by grind[HG]
theorem SW{root:Int}{x:It}(h:¬Ex ws x.key=true)(a:Sb s x ws=.error e):HG s root x ws=.error e:=by unfold HG;rw[if_neg h,a];rfl
theorem SV{root:Int}{x:It}(h:¬Ex ws x.key=true)(a:KO x ws.length (Sb s x ws)=.error e):HG s root x ws=.error e:=by grind[HG]
theorem wLk{t:Sto}{root:Int}{x:It}(h:¬Ex ws x.key=true)(b:KO x ws.length (Sb s x ws)=.ok (t,up))(a:Df t root=none):HG s root x ws=.error 8:=by
 grind[HG,Df]
theorem Qg{t a:Sto}{root:Int}{x:It}(h:¬Ex ws x.key=true)(c:KO x ws.length (Sb s x ws)=.ok (t,y::up))(b:Df t root=some a):HG s root x ws=.ok (a,y.ref):=by
 grind[HG,Df]
def PtPost(r:Except Int (Sto×Int))(u:Value)(M':Mem):Prop:=match r with
 |.error e=>e≠0/\u=.tuple #[.agg zeroSt.toArray,.int .i64 0,.int .i64 e]
 |.ok (t,now)=>∃v,u=.tuple #[v,.int .i64 now,.int .i64 0]/\ST M' v t/\Av t
theorem wLj(s:Sto)(root:Int)(x:It)(xv bv nv lw:Value)(wa:Option Addr)(wc:Nat)(C:List (Wt×Value))(M:Mem)(h1:LS M bv s.blocks)(bH:s.waits.length<=wc)(bD:SM M wa (C.flatMap AZ))(al:C.map (·.1)=s.waits)(aF:∀p∈C,BS M p.2 p.1.2)(h3:BS M nv s.now)(h4:BS M lw s.last)(hx:BS M xv x.val)(cA:Bj x.key):
  SpecL prog 172 #[.agg #[bv,.slice wa s.waits.length wc,nv,lw],.int .i64 root,.agg #[.int .u8 x.key.kind,.int .u32 x.key.id,.int .u32 x.key.off,.int .i64 x.ref,xv]] M [] λu M' L'=>PtPost (H2 s root x) u M'/\L'=[]:=by
 have h2:WS M (.slice wa s.waits.length wc) s.waits:=⟨wa,wc,C,rfl,bH,bD,al,aF⟩;have cL:ST M (.agg #[bv,.slice wa s.waits.length wc,nv,lw]) s:=⟨_,_,_,_,rfl,h1,h2,h3,h4⟩;obtain⟨xa,xc,rfl,d2,d1⟩:=id hx;refine sB func172 ntmps172 ?_;intro W;refine gh ?_;refine lh (Bt (cs:=[bv,.slice wa s.waits.length wc,nv,lw]) rfl rfl rfl rfl) ?_;rintro _ _ _ ⟨b3,rfl,rfl,rfl⟩;refine lh (Bt (cs:=E1 x xa xc) rfl rfl rfl rfl) ?_;rintro _ _ _ ⟨b5,rfl,rfl,rfl⟩;refine W4 λT S H=>?_;refine gQ (wJf s root x _ _ _ _ _ M h1 h2 h3 h4 hx) ?_;refine gj (λaA=>?_) λaA=>?_
 ·refine gr ?_;refine⟨?_,rfl⟩;have:H2 s root x=.error (DS s root x):=by unfold H2;rw[if_pos aA]
  rw[this];exact⟨aA,rfl⟩
 refine gh ?_;have D:DS s root x=0:=Classical.not_not.1 aA;have az:=SX D;obtain⟨bg,bR,au,d6,lev,f,k,bf,_⟩:=CW az.1;obtain⟨cH,⟨c6,_⟩,⟨c9,_⟩⟩:=id bg;have d4:s.waits.length<=4096:=cH.2.1;have dj:=(Ar k).lev;have dd:=Fk (s:=s) (q:=x.key) lev f;refine gc (wJr s root x.key bv _ nv lw lev f M cL ⟨bR,au⟩ bg k bf) ?_;rintro _ Mw cg c2;obtain⟨b2,b1,I,rfl,bG,aD,am,bI⟩:=id c2;have aE:I.length=(AE s x.key lev f).length:=by rw[<-am,length_map]
 simp only[nil_append];refine gg ?_;refine BP rfl rfl (CZ rfl rfl rfl rfl rfl (by kernel_rfl) (wDj (AE s x.key lev f) b2 b1 I Mw bG aD am bI (by omega) x.key (by omega) (λw hw=>by obtain⟨⟨j,h⟩,_⟩:=GB k bf w hw;have:=(Ar h).len;omega))) (λah=>?_) (λah=>?_)
 ·refine gr ?_;refine⟨?_,rfl⟩;rw[J0 D k,Qf ah];exact⟨by decide,rfl⟩
 refine gh ?_;refine lh (Ab (cs:=[_,_,_,_,_]) rfl rfl rfl (by rfl) (by rfl) (by rfl)) ?_;rintro _ _ _ ⟨aj,rfl,rfl,rfl⟩;refine ga λg=>?_;refine gC (Nf s bv nv lw wa wc Mw bH (by omega) (h3.mono cg) (by omega)) ?_;rintro _ Mb _ cm ⟨bb,Rn,na,nc,rfl,rfl,bS⟩;have P:=cg.trans cm;have cS:BOwn Mb bb ((bb,cE [bv,.slice wa s.waits.length s.waits.length,.slice na s.now.length nc,lw] Ew)::Rn) s:=by
  refine⟨bv,_,na,nc,lw,[],Rn,rfl,h1.mono P,h4.mono P,bS,C,al,λp n=>(aF p n).mono P,?_⟩;have cb:(C.flatMap AZ).length=s.waits.length*2:=by rw[Aj AZ 2 BX,<-al,length_map]
  rcases bD with h0|⟨wb,wo,rfl,bC⟩
  ·have hz:s.waits.length=0:=by rw[h0,length_nil]at cb;omega
   rw[h0,hz];cases wa with
   |none=>exact .inl (Own.nil _ _)
   |some ba=>exact .inr ⟨rfl,rfl,ba,rfl,.inl rfl,λi u hu=>by cases hu⟩
  exact .inr ⟨rfl,cb,_,rfl,.inr rfl,λi u hu=>(bC i u hu).mono P⟩
 refine lh (AX rfl rfl) ?_;rintro _ _ _ ⟨bz,rfl,rfl,rfl⟩;refine DE rfl (Ao rfl rfl rfl rfl rfl rfl rfl rfl) ?_;rintro _ _ _ ⟨rfl,rfl⟩;refine Ai (jT (Ah (Ah ?_)));refine BL bz (by simp) ?_;intro Ma cN ai;refine BL aj (by simp) ?_;intro Mq ci bx;refine BL b5 (by simp) ?_;intro Me a1 e5;have a0:=cN.trans (ci.trans a1);replace bx:=a1 _ _ bx;replace ai:=a1 _ _ (ci _ _ ai);refine Cf (M':=Me) (L':=(g,cE [.slice (some ⟨aj,0,none⟩) 1 1] 79)::(H,cE [Value.int .i64 (0)] 40)::(T,cE [Value.slice none 0 0,Value.slice none 0 0,Value.slice none 0 0,Value.slice none 0 0] 28)::(S,cE [Value.int .i64 0] 3)::((bb,cE [bv,.slice wa s.waits.length s.waits.length,.slice na s.now.length nc,lw] Ew)::Rn)) (λw h=>(h.perm (L':=(b3,cE [bv,.slice wa s.waits.length wc,nv,lw] 28)::(g,cE [.slice (some ⟨aj,0,none⟩) 1 1] 79)::(H,cE [Value.int .i64 (0)] 40)::(T,cE [Value.slice none 0 0,Value.slice none 0 0,Value.slice none 0 0,Value.slice none 0 0] 28)::(S,cE [Value.int .i64 0] 3)::((bb,cE [bv,.slice wa s.waits.length s.waits.length,.slice na s.now.length nc,lw] Ew)::Rn)) BE).tl) ?_;have bL:UF Me (.slice (some ⟨aj,0,none⟩) 1 1) [x]:=⟨aj,1,[(x,.slice xa x.val.length xc)],[],_,rfl,Nat.le_refl _,(by rw[bx];rfl),rfl,λp n=>by rw[List.mem_singleton.1 n];exact hx.mono (P.trans a0)⟩;refine gC (bws _ _ _ Me) ?_;rintro _ Mg _ l ⟨cW,rfl,cp,rfl⟩;rw[<-aE]at cp;simp only[nil_append];have ck:MLe Mw Mg:=cm.trans (a0.trans l);refine gh ?_;have bA:wRy [x]:=λy J=>by
  rw[List.mem_singleton.1 J];have:=of_decide_eq_false (show decide _=false from CQ az.2.1);exact⟨by omega,cA⟩
 refine Tf (R:=(g,cE [.slice (some ⟨aj,0,none⟩) 1 1] 79)::(H,cE [Value.int .i64 (0)] 40)::(T,cE [Value.slice none 0 0,Value.slice none 0 0,Value.slice none 0 0,Value.slice none 0 0] 28)::(S,cE [Value.int .i64 0] 3)::((bb,cE [bv,.slice wa s.waits.length s.waits.length,.slice na s.now.length nc,lw] Ew)::Rn)) (xs:=bw I 0) (enc:=(λp:(Stp×Value)×Nat=>[.int .i64 p.2,.agg (A4 p.1).toArray])) (ps:=[42,43]) rfl (by kernel_rfl) (wRh cW b2 b1 I Mg cp (aD.mono ck) (by omega))
  (λpre M' R=>∃t up ad Lb,R=(g,cE [ad] 79)::(H,cE [Value.int .i64 (0)] 40)::(T,cE [Value.slice none 0 0,Value.slice none 0 0,Value.slice none 0 0,Value.slice none 0 0] 28)::(S,cE [Value.int .i64 0] 3)::Lb/\Sb s x ((AE s x.key lev f).drop ((AE s x.key lev f).length-pre.length))=.ok (t,up)/\BOwn M' bb Lb t/\Av t/\UF M' ad up/\wRy up/\0<up.length/\up.length<=2)
  (λc pre M' R=>∃(e:Int)(ad:Value)(Lb:Lc),c=.ret/\e≠0/\R=(g,cE [ad] 79)::(H,cE [Value.int .i64 (e)] 40)::(T,cE [Value.slice none 0 0,Value.slice none 0 0,Value.slice none 0 0,Value.slice none 0 0] 28)::(S,cE [Value.int .i64 0] 3)::Lb/\Sb s x (AE s x.key lev f)=.error e)
  (λ_=>rfl) (by decide) ⟨s,[x],_,((bb,cE [bv,.slice wa s.waits.length s.waits.length,.slice na s.now.length nc,lw] Ew)::Rn),rfl,(by rw[length_nil,Nat.sub_zero,List.drop_length];rfl),cS.mono (a0.trans l),bg,bL.mono l,bA,Nat.le_refl _,(by show 1<=2;omega)⟩ ?_ ?_ ?_
 ·intro l2 W2 pre y M2 R2 cJ a9 cQ aM;obtain⟨t,up,ad,b0,rfl,F,cR,bP,bM,bK,bO,d5⟩:=cQ;obtain⟨d9,J⟩:=wXr aM;obtain⟨⟨w,wv⟩,yi⟩:=y;dsimp only at J;have bF:(w,wv)∈I:=by rw[J];exact List.getElem_mem _
  have cy:w∈AE s x.key lev f:=by rw[<-am];exact List.mem_map_of_mem bF
  have bE:=(bI _ bF).mono (ck.trans a9);dsimp only at bE;obtain⟨ia,ic,U,cz,cD,a5,af,Y⟩:=id bE;subst cz;obtain⟨⟨jw,bY⟩,d3,db⟩:=GB k bf w cy;have aQ:=Ar bY;have bC:=aQ.len;have cY:=aQ.lev;have cB:=Jb bY;have ay:(AE s x.key lev f).drop ((AE s x.key lev f).length-(pre.length+1))=w::(AE s x.key lev f).drop ((AE s x.key lev f).length-pre.length):=by
   have cZ:(AE s x.key lev f).length=I.length:=by rw[<-am,length_map]
   have cC:(AE s x.key lev f).length-(pre.length+1)<(AE s x.key lev f).length:=by omega
   rw[List.drop_eq_getElem_cons cC];congr 1
   ·have:w=(I[I.length-1-pre.length]).1:=by rw[<-J]
    rw[this];simp only[<-am,List.getElem_map,length_map];congr 2;omega
   congr 1;omega
  obtain⟨ub,uc,ae,aW,aX,rfl,bN,bc,a4,aa⟩:=id bM;have aT:U.length=w.xs.length:=by rw[<-af,length_map]
  have aH:ae.length=up.length:=by rw[<-a4,length_map]
  simp only[A4];refine ga λaB=>?_;refine jKN λW' cK=>?_;refine Dm (Ah (Af ?_));refine jp rfl ?_;refine Ai (jT ?_);refine FO (α:=Nat) (λm=>[(5,pB b5),(6,pB T),(7,pB S),(8,pB H),(11,pB g),(12,pB bz),(14,pB aB),(15,.int .i64 (m:Int))]) (λ_=>M2) (λ_=>(aB,cE [.int .i64 w.lv,.slice ia w.xs.length ic,.int .i64 w.at_] 347)::(g,cE [.slice (some ⟨ub,0,none⟩) up.length uc] 79)::(H,cE [Value.int .i64 (0)] 40)::(T,cE [Value.slice none 0 0,Value.slice none 0 0,Value.slice none 0 0,Value.slice none 0 0] 28)::(S,cE [Value.int .i64 0] 3)::b0) (λm=>m=DL w x.key) ?_ ?_
  ·rintro m hm;have d8:m<=1/\w.at_+m<=w.xs.length:=by
    rw[hm];unfold DL;split
    ·omega
    rename_i y cx;have:=(List.getElem?_eq_some_iff.1 cx).1;split<;>omega
   have cf:∀x∈((g,cE [.slice (some ⟨ub,0,none⟩) up.length uc] 79)::(H,cE [Value.int .i64 (0)] 40)::(T,cE [Value.slice none 0 0,Value.slice none 0 0,Value.slice none 0 0,Value.slice none 0 0] 28)::(S,cE [Value.int .i64 0] 3)::b0:Lc).map (·.1),x<W'.heap.size:=by rw[cK];exact cJ
   have aL:U.length-m+ae.length=(FC w x.key up).length:=by unfold FC;rw[<-hm];simp only[length_append,List.length_take,List.length_drop];omega
   refine gh ?_;refine QQ [0,1,2,4,5,6,7,8,9,10,103,111,12] ?_;refine dq rfl (Ac rfl rfl rfl rfl rfl) ?_;refine dq rfl (Ac rfl rfl rfl rfl rfl) ?_;refine dq rfl (Au rfl rfl rfl rfl (CJ.loc rfl)) ?_;refine dq rfl (Ac rfl rfl rfl rfl rfl) ?_;refine dq rfl (Au rfl rfl rfl rfl (CJ.loc rfl)) ?_;refine dq rfl (Ac rfl rfl rfl rfl rfl) ?_;refine dq rfl (Au rfl rfl rfl rfl (CJ.loc rfl)) ?_;refine dp rfl rfl ?_;refine dq rfl (Bh (qA rfl rfl rfl rfl rfl (by omega)) (v':=.int .i64 ((w.at_+m:Nat):Int)) (congrArg _ (by omega))) ?_;refine gh ?_;rw[<-aT];refine GP rfl rfl rfl (Gu rfl rfl rfl rfl rfl (by kernel_rfl) (E2 ia ic U M2 a5 (DD Y) (by omega))) ?_;rintro _ Mc _ ⟨Q,Rc,rfl,aw,bX⟩;refine⟨_,_,MLe.refl _,Q,λ_ h=>h,λp n=>List.mem_append_right _ n,?_⟩;obtain⟨ca,cc,cI⟩:=aw.form;subst cI;rw[<-aH];refine GP rfl rfl rfl (Gu rfl rfl rfl rfl rfl (by kernel_rfl) (wKv U ae w.at_ m (by omega) (by omega) ca cc Rc aw (DD Y) ub uc aW aX Mc (Q _ _ bc) (DD aa) (by omega) (by omega))) ?_;rintro _ Mp _ ⟨ag,Rr,rfl,av,bW⟩;refine⟨_,_,MLe.refl _,(Q.trans ag),λ_ h=>h,λp n=>List.mem_append_right _ n,?_⟩;rw[aH];rw[aT];refine gh ?_;refine lq (Au rfl rfl rfl rfl (CM.cj ⟨_,_,_,(l.trans (a9.trans (Q.trans ag))) _ _ ai,rfl⟩ _)) ?_;refine gh ?_;have c5:∀p∈Rr,W'.heap.size<=p.1:=λp n=>(bW p n).elim (λh=>by obtain⟨q,hq,e⟩:=List.mem_map.1 h;rw[<-e];exact(bX q hq).elim (λh=>by cases h) id) id;obtain⟨ra,rc,c3⟩:=av.form;subst c3;refine Ui av (Qu cf c5) ?_;intro Mr dw dv a8 er c4 bh;cases er;replace bh:=bh.mono (EZ _ _);have c7:NS Mr (.slice ra (FC w x.key up).length rc) (FC w x.key up):=by
    refine⟨ra,rc,U.take w.at_++ae++U.drop (w.at_+m),rfl,by rw[<-aL];exact c4,bh,?_,λp n=>?_⟩
    ·unfold FC;rw[List.map_append,List.map_append,List.map_take,List.map_drop,af,a4,hm]
    rcases List.mem_append.1 n with n|n
    ·rcases List.mem_append.1 n with n|n
     ·exact (Y p (List.mem_of_mem_take n)).mono (Q.trans (ag.trans a8))
     exact(aa p n).mono (Q.trans (ag.trans a8))
    exact(Y p (List.mem_of_mem_drop n)).mono (Q.trans (ag.trans a8))
   have a2:=Q.trans (ag.trans a8);have aK:FC w x.key up≠[]:=wTn (λe=>by rw[e]at bO;exact absurd bO (by decide));have bQ:∀y∈FC w x.key up,Bj y.key:=λy J=>(wKw J).elim (cB y) (λh=>(bK y h).2);have di:=wKx w x.key up;rw[aL];refine lh (Gu rfl rfl rfl rfl rfl (by kernel_rfl) (by have:=RP t w.lv (FC w x.key up) up ra rc (.slice (some ⟨ub,0,none⟩) up.length uc) bb Mr b0 (cR.mono a2) bP c7 (bM.ns.mono a2) aK (λy J=>(bQ y J).1) (λy J=>(bK y J).1) (by omega) (by omega);exact this)) ?_;rintro _ Md _ ⟨cl,Rd,rfl,bo,bV⟩;obtain⟨da,dn,dc,e,rfl,O⟩:=BdPost.form bo;refine gj (λbr=>?_) λbr=>?_
   ·refine gh ?_;refine Gt [4] [4] [0,1,102,103,104] _ ([(H,cE [Value.int .i64 e] 40)]) ([]) ?_;refine dq rfl (BF (cs:=[_,_,_,_]) rfl rfl rfl (by rfl)) ?_;refine dq rfl (Au rfl rfl rfl rfl (CJ.loc rfl)) ?_;refine DF rfl rfl (Ao rfl rfl rfl rfl rfl rfl rfl rfl) ?_;rintro _ _ _ ⟨rfl,rfl⟩;refine⟨_,_,MLe.refl _,(by first|exact MLe.refl _|assumption),λ_ h=>h,by simp,?_⟩;refine DF rfl rfl (Ao rfl rfl rfl rfl rfl rfl rfl rfl) ?_;rintro _ _ _ ⟨rfl,rfl⟩;refine⟨_,_,MLe.refl _,(by first|exact MLe.refl _|assumption),λ_ h=>h,by simp,?_⟩;refine gh ?_;obtain⟨Z,G⟩|⟨rfl,_⟩:=O;rotate_left
    ·exact absurd rfl br
    refine AM (M':=Md) (L':=(g,cE [.slice da dn dc] 79)::(H,cE [Value.int .i64 (e)] 40)::(T,cE [Value.slice none 0 0,Value.slice none 0 0,Value.slice none 0 0,Value.slice none 0 0] 28)::(S,cE [Value.int .i64 0] 3)::Rd) (λw9 h=>(h.perm (L':=(aB,cE [.int .i64 w.lv,.slice ia w.xs.length ic,.int .i64 w.at_] 347)::(g,cE [.slice da dn dc] 79)::(H,cE [Value.int .i64 (e)] 40)::(T,cE [Value.slice none 0 0,Value.slice none 0 0,Value.slice none 0 0,Value.slice none 0 0] 28)::(S,cE [Value.int .i64 0] 3)::Rd) BE).tl) ?_;refine jQr ?_;refine⟨e,_,Rd,rfl,Z,rfl,?_⟩;refine wBr ((AE s x.key lev f).length-(pre.length+1)) ?_;rw[ay,Sb,F];exact G
   refine gh ?_;obtain⟨Z,_⟩|⟨rfl,t9,o,Ru,ak,G,rfl,rfl,bd,bq,bi,K,bT⟩:=O
   ·exact absurd (Classical.not_not.1 br) Z
   have a6:=XG bP G aK bQ;have ab:0<o.length/\o.length<=2:=by rw[a6.1];split<;>omega
   obtain⟨g9,cq,E,e9,rfl,bm,_,_,aq⟩:=bi.open (by omega);cases e9;refine AM (M':=Md) (L':=(g9,.cells E IT (0,0))::(g,cE [.slice (some ⟨g9,0,none⟩) o.length dc] 79)::(H,cE [Value.int .i64 (0)] 40)::(T,cE [Value.slice none 0 0,Value.slice none 0 0,Value.slice none 0 0,Value.slice none 0 0] 28)::(S,cE [Value.int .i64 0] 3)::ak) (λw9 h=>(h.perm (L':=(aB,cE [.int .i64 w.lv,.slice ia w.xs.length ic,.int .i64 w.at_] 347)::(g9,.cells E IT (0,0))::(g,cE [.slice (some ⟨g9,0,none⟩) o.length dc] 79)::(H,cE [Value.int .i64 (0)] 40)::(T,cE [Value.slice none 0 0,Value.slice none 0 0,Value.slice none 0 0,Value.slice none 0 0] 28)::(S,cE [Value.int .i64 0] 3)::ak) BE).tl) ?_;refine AF g9 (Qu cf (R:=[(g9,.cells E IT (0,0))]) (λp n=>(bV p (List.mem_append_left _ n)).elim (λh=>absurd h (bT p n)) id) (g9,.cells E IT (0,0)) (List.mem_singleton.2 rfl)) ?_;intro Mz a7 bu;refine wJi ?_;refine⟨t9,o,_,ak,rfl,?_,bq.mono a7,bd,wWq bu bm aq K,a6.2,ab.1,ab.2⟩;rw[length_append,List.length_singleton,ay,Sb,F];exact G
  refine gh ?_;refine QQ [0,1,2,3,4,5,6,7,8,9,10,11,12,13,14,15,16,17,18,19,20,21,22,23,24,25] ?_;refine gj (λcV=>?_) λcV=>?_
  ·refine gh ?_;refine Cx 0 (Keep.cons (t:=5) rfl (Keep.cons (t:=6) rfl (Keep.cons (t:=7) rfl (Keep.cons (t:=8) rfl (Keep.cons (t:=11) rfl (Keep.cons (t:=12) rfl (Keep.cons (t:=14) rfl (Keep.cons (t:=15) rfl Keep.nil)))))))) (by show 0=DL w x.key;unfold DL;rw[List.getElem?_eq_none (by omega)]) (λw h=>h)
  refine gj (λbt=>?_) λbt=>?_
  ·refine gh ?_;have bk:w.at_<w.xs.length:=by omega
   obtain⟨sb,so,e0,aZ⟩:=a5.open (by intro e;have:=congrArg length e;rw[Aj Ae 5 Ag,length_nil]at this;omega);cases e0;obtain⟨va,vc,bl,c1,c0⟩:=Aw aZ af Y bk;refine gh ?_;refine dq rfl (A1 (cs:=AA w.xs[w.at_].key) rfl rfl rfl rfl rfl (λi v hv=>(bl i v (PB hv)).cj _)) ?_;refine gh ?_;refine dq rfl (A1 (cs:=AA x.key) rfl rfl rfl rfl rfl (λi v hv=>CM.cj ⟨_,_,_,(l.trans a9) _ _ e5,by rw[List.getElem?_toArray,Nat.zero_add];exact PB hv⟩ _)) ?_;refine Td rfl rfl rfl (VX (ns:=[w.xs[w.at_].key.kind,w.xs[w.at_].key.id,w.xs[w.at_].key.off]) (ms:=[x.key.kind,x.key.id,x.key.off]) rfl rfl rfl rfl rfl rfl ⟨rfl,rfl⟩) (λbs=>?_) (λbs=>?_)
   ·refine gh ?_;refine Cx 0 (Keep.cons (t:=5) rfl (Keep.cons (t:=6) rfl (Keep.cons (t:=7) rfl (Keep.cons (t:=8) rfl (Keep.cons (t:=11) rfl (Keep.cons (t:=12) rfl (Keep.cons (t:=14) rfl (Keep.cons (t:=15) rfl Keep.nil)))))))) (by show 0=DL w x.key;unfold DL;rw[List.getElem?_eq_getElem bk];show 0=if w.lv=0/\_ then 0 else 1;rw[if_pos ⟨bt,Lr bs⟩]) (λw h=>h)
   refine gh ?_;refine Cx 1 (Keep.cons (t:=5) rfl (Keep.cons (t:=6) rfl (Keep.cons (t:=7) rfl (Keep.cons (t:=8) rfl (Keep.cons (t:=11) rfl (Keep.cons (t:=12) rfl (Keep.cons (t:=14) rfl (Keep.cons (t:=15) rfl Keep.nil)))))))) (by show 1=DL w x.key;unfold DL;rw[List.getElem?_eq_getElem bk];show 1=if w.lv=0/\_ then 0 else 1;rw[if_neg (λh=>wNj bs h.2)]) (λw h=>h)
  refine gh ?_;refine Cx 1 (Keep.cons (t:=5) rfl (Keep.cons (t:=6) rfl (Keep.cons (t:=7) rfl (Keep.cons (t:=8) rfl (Keep.cons (t:=11) rfl (Keep.cons (t:=12) rfl (Keep.cons (t:=14) rfl (Keep.cons (t:=15) rfl Keep.nil)))))))) (by show 1=DL w x.key;unfold DL;rw[List.getElem?_eq_getElem (by omega)];show 1=if w.lv=0/\_ then 0 else 1;rw[if_neg (λh=>bt h.1)]) (λw h=>h)
 ·intro d M3 R3 bp cO;obtain⟨t3,B,b9,aC,rfl,F,co,be,N,ao,ap,de⟩:=cO;rw[D4,aE,Nat.sub_self,List.drop_zero]at F;obtain⟨ct,aY,bJ⟩:∃a c,b9=.slice a B.length c:=by obtain⟨b,c,_,_,_,h,_⟩:=id N;exact⟨_,c,h⟩
  subst bJ;refine AM (M':=M3) (L':=(d,.deferred (some []))::(g,cE [.slice ct B.length aY] 79)::(H,cE [Value.int .i64 (0)] 40)::(T,cE [Value.slice none 0 0,Value.slice none 0 0,Value.slice none 0 0,Value.slice none 0 0] 28)::(S,cE [Value.int .i64 0] 3)::aC) (λw9 h=>by rw[List.append_nil]at h;exact h) ?_;refine jB (jT ?_);refine FO (α:=PtZ) (λz=>[(1,.int .i64 root),(6,pB T),(7,pB S),(8,pB H),(11,pB g),(12,pB bz)]) (λz=>z.M) (λz=>(d,.deferred (some []))::(g,cE [z.v] 79)::(H,cE [Value.int .i64 (0)] 40)::(T,cE [Value.slice none 0 0,Value.slice none 0 0,Value.slice none 0 0,Value.slice none 0 0] 28)::(S,cE [Value.int .i64 0] 3)::z.L) (λz=>PtZI (KO x ((AE s x.key lev f).length:Int) (Sb s x (AE s x.key lev f))) bb M3 z) ?_ ?_
  ·rintro ⟨tz,b4,Mz,Lz,vz⟩ ⟨ax,aU,aN,ac,V,X⟩;dsimp only at ax aU aN ac V X⊢;obtain⟨du,cr,K⟩:∃a c,vz=.slice a b4.length c:=by obtain⟨b,c,_,_,_,h,_⟩:=id ac;exact⟨_,c,h⟩
   subst K;refine gh ?_;refine lq (Au rfl rfl rfl rfl (CM.cj ⟨_,_,_,(l.trans (bp.trans X)) _ _ ai,rfl⟩ _)) ?_;refine gC (Hj tz root ⟨bR,au⟩ aN bb Mz Lz aU) ?_;rintro _ Mv Rv ch c8;obtain⟨e,rfl,aS⟩:=LvPost.form c8;refine gj (λaV=>?_) λaV=>?_
   ·refine gh ?_;refine Bu (L2:=_) Rm.perm ?_;refine gr ?_;refine⟨?_,rfl⟩;obtain⟨rfl,bj⟩|⟨rfl,_⟩:=aS;rotate_left
    ·exact absurd rfl aV
    rw[J0 D k,wLk (by rw[ah];decide) ax bj];exact⟨by decide,rfl⟩
   refine gh ?_;obtain⟨_,_⟩|⟨_,tv,bj,aP,ce⟩:=aS
   ·exfalso;omega
   obtain⟨cd,⟨d7,_⟩,⟨dA,_⟩⟩:=id aP;obtain⟨ub,uc,ae,aW,aX,eu,bN,bc,a4,aa⟩:=id ac;cases eu;refine WD (s:=tv) ce (by simp) ?_;intro M9 cw cu cv Gs cn e9 k1 k2 k3 k4;have bZ:=(ac.mono (ch.trans cn)).ns;obtain⟨ia,ic,U,ei,cD,a5,af,Y⟩:=id bZ;cases ei;obtain⟨sb,so,e0,aZ⟩:=a5.open (by intro e;have:=congrArg length e;rw[Aj Ae 5 Ag,length_nil]at this;have h9:=congrArg length af;rw[length_map]at h9;omega);cases e0;obtain⟨va,vc,bl,c1,c0⟩:=Aw aZ af Y V;refine D7 [0,2,3,4,5,101,106,107,108] [(g,cE [.slice (some ⟨ub,0,none⟩) b4.length cr] 79)] ?_;refine dq rfl (Au rfl rfl rfl rfl (CM.cj ⟨_,_,_,(l.trans (bp.trans (X.trans (ch.trans cn)))) _ _ ai,rfl⟩ _)) ?_;refine gh ?_;refine dq rfl (Au rfl rfl rfl rfl (((bl 3 _ rfl).mono (by first|exact MLe.refl _|assumption)).cj _)) ?_;refine dh rfl (hC (D5 tv bb cw cu cv Gs M9 e9 k1 k2 k3 k4 cd (by omega) (by omega))) ?_;rintro _ Ms _ ⟨cM,_,rfl,⟨aJ,rfl⟩⟩;refine⟨cM,by simp,?_⟩;obtain⟨q1,q2,q3,q4,rfl,f1,f2,f3,f4⟩:=aJ.ex;obtain⟨dC,dB,dl,rfl,_⟩:=id f1;obtain⟨dr,dm,cX,rfl,_⟩:=id f2;obtain⟨dy,dx,rfl,_⟩:=id f3;obtain⟨d0,dz,rfl,_⟩:=id f4;refine DF rfl rfl (Ao rfl rfl rfl rfl rfl rfl rfl rfl) ?_;rintro _ _ _ ⟨rfl,rfl⟩;refine⟨_,_,MLe.refl _,(by first|exact MLe.refl _|assumption),λ_ h=>h,by simp,?_⟩;refine DF rfl rfl (Ao rfl rfl rfl rfl rfl rfl rfl rfl) ?_;rintro _ _ _ ⟨rfl,rfl⟩;refine⟨_,_,MLe.refl _,(by first|exact MLe.refl _|assumption),λ_ h=>h,by simp,?_⟩;refine DF rfl rfl (Ao rfl rfl rfl rfl rfl rfl rfl rfl) ?_;rintro _ _ _ ⟨rfl,rfl⟩;refine⟨_,_,MLe.refl _,(by first|exact MLe.refl _|assumption),λ_ h=>h,by simp,?_⟩;refine gh ?_;refine Bu (L2:=_) Rm.perm ?_;refine gr ?_;refine⟨?_,rfl⟩;obtain⟨y,ys,rfl⟩:=List.exists_cons_of_length_pos V;rw[J0 D k,Qg (by rw[ah];decide) ax bj];exact⟨_,rfl,aJ,aP⟩
  refine gj (λcU=>?_) λcU=>?_
  ·refine gh ?_;refine lq (Au rfl rfl rfl rfl (CM.cj ⟨_,_,_,(l.trans bp) _ _ ai,rfl⟩ _)) ?_;refine gh ?_;obtain⟨ub,uc,ae,aW,aX,eu,bN,bc,a4,aa⟩:=id N;cases eu;have aI:B≠[]:=λe=>by rw[e]at ap;exact absurd ap (by decide)
   refine gC (RP t3 ((AE s x.key lev f).length:Int) B B (some ⟨ub,0,none⟩) aY (.slice (some ⟨ub,0,none⟩) B.length aY) bb M3 aC co be N.ns N.ns aI (λy J=>(ao y J).2.1) (λy J=>(ao y J).1) (by omega) (by omega)) ?_;rintro _ Md Rd cl bo;obtain⟨da,dn,dc,e,rfl,O⟩:=BdPost.form bo;refine gj (λa3=>?_) λa3=>?_
   ·refine gh ?_;refine Gt [4] [4] [0,1,102,103,104] _ ([(H,cE [Value.int .i64 e] 40)]) ([]) ?_;refine dq rfl (BF (cs:=[_,_,_,_]) rfl rfl rfl (by rfl)) ?_;refine dq rfl (Au rfl rfl rfl rfl (CJ.loc rfl)) ?_;refine DF rfl rfl (Ao rfl rfl rfl rfl rfl rfl rfl rfl) ?_;rintro _ _ _ ⟨rfl,rfl⟩;refine⟨_,_,MLe.refl _,(by first|exact MLe.refl _|assumption),λ_ h=>h,by simp,?_⟩;refine DF rfl rfl (Ao rfl rfl rfl rfl rfl rfl rfl rfl) ?_;rintro _ _ _ ⟨rfl,rfl⟩;refine⟨_,_,MLe.refl _,(by first|exact MLe.refl _|assumption),λ_ h=>h,by simp,?_⟩;refine gh ?_;refine Bu (L2:=_) Rm.perm ?_;refine gr ?_;refine⟨?_,rfl⟩;obtain⟨Z,G⟩|⟨rfl,_⟩:=O;rotate_left
    ·exact absurd rfl a3
    rw[J0 D k,SV (e:=e) (by rw[ah];decide) (by rw[F];show (if 1<B.length then _ else _)=_;rw[if_pos (by omega)];exact G)];exact⟨Z,rfl⟩
   refine gh ?_;obtain⟨Z,_⟩|⟨rfl,t9,o,Ru,ak,G,rfl,rfl,bd,bq,bi,K,bT⟩:=O
   ·exact absurd (Classical.not_not.1 a3) Z
   have a6:=XG be G aI (λy J=>(ao y J).2);have ab:0<o.length/\o.length<=2:=by rw[a6.1];split<;>omega
   obtain⟨g9,cq,E,e9,rfl,bm,_,_,aq⟩:=bi.open (by omega);cases e9;refine AM (M':=Md) (L':=(g9,.cells E IT (0,0))::(d,.deferred (some []))::(g,cE [.slice (some ⟨g9,0,none⟩) o.length dc] 79)::(H,cE [Value.int .i64 (0)] 40)::(T,cE [Value.slice none 0 0,Value.slice none 0 0,Value.slice none 0 0,Value.slice none 0 0] 28)::(S,cE [Value.int .i64 0] 3)::ak) (λw h=>h.perm BE) ?_;refine AF g9 (by simp) ?_;intro Mz a7 bu;refine Cx ⟨t9,o,Mz,ak,_⟩ (Keep.cons (t:=1) rfl (Keep.cons (t:=6) rfl (Keep.cons (t:=7) rfl (Keep.cons (t:=8) rfl (Keep.cons (t:=11) rfl (Keep.cons (t:=12) rfl Keep.nil)))))) ⟨?_,bq.mono a7,bd,wWq bu bm aq K,ab.1,cl.trans a7⟩ (λw h=>h);rw[F];show (if 1<B.length then _ else _)=_;rw[if_pos (by omega)];exact G
  refine gh ?_;refine Cx ⟨t3,B,M3,aC,_⟩ (Keep.cons (t:=1) rfl (Keep.cons (t:=6) rfl (Keep.cons (t:=7) rfl (Keep.cons (t:=8) rfl (Keep.cons (t:=11) rfl (Keep.cons (t:=12) rfl Keep.nil)))))) ⟨?_,co,be,N,ap,MLe.refl _⟩ (λw h=>h);rw[F];show (if 1<B.length then _ else _)=_;rw[if_neg (by omega)]
 intro d c pre M2 R2 a9 aM hI;obtain⟨e,ad,aC,rfl,cG,rfl,F⟩:=hI;refine gh ?_;refine Bu (L2:=_) Rm.perm ?_;refine gr ?_;refine⟨?_,rfl⟩;rw[J0 D k,SW (by rw[ah];decide) F];exact⟨cG,rfl⟩
end Go.Proofs.YtjheijhahehnmaaGreatDoor
