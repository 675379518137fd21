/- Trees, without a program in sight: their form, and their items in a row. No statement of the seat is proved here. -/
import Derived.Test.YtjheijhahehnmaaGreatDoorZHn
import Derived.Test.YtjheijhahehnmaaGreatDoorZHm
import Derived.Test.YtjheijhahehnmaaGreatDoorZTake
import Derived.Test.YtjheijhahehnmaaGreatDoorZOwn
import Derived.Test.YtjheijhahehnmaaGreatDoorZSp
import Derived.Test.YtjheijhahehnmaaGreatDoorZHl
namespace Go.Proofs.YtjheijhahehnmaaGreatDoor
open Go.Proofs.Tryz
open List (length)
set_option linter.unusedSimpArgs false
set_option linter.unusedVariables false
set_option linter.unusedSectionVars false
set_option maxHeartbeats 40000000
set_option maxRecDepth 8000
open Go.RowKit
def tk(x:Int):Prop:=8<=x/\x<256
instance(x:Int):Decidable (tk x):=by unfold tk;exact inferInstance
theorem Gy(x:Int):((bU x).toNat:Int)=x%256:=by
 unfold bU;rw[UInt8.toNat_ofNat'];omega
theorem wPr(x:By):Ei [x]=(x.toNat:Int):=by
 have:∀n:Nat,n<256->Ei [UInt8.ofNat n]=((UInt8.ofNat n).toNat:Int):=by decide +kernel
 have h:=this x.toNat x.toNat_lt;rwa[UInt8.ofNat_toNat]at h
variable{a:Int}
theorem U3(h:0<=a/\a<16777216)(y:By):ND .u32 (MK .u32 a 8) (y.toNat:Int)=a*256+(y.toNat:Int):=by
 have e:=y.toNat_lt;have b:MK .u32 a 8=a*256:=by
  unfold MK;rw[IntKind.wrap_u32,show (2:Int) ^ (min 8 IntKind.u32.bits)=256 by decide];omega
 rw[b];unfold ND;rw[IntKind.wrap_u32];have d:(BitVec.ofInt IntKind.u32.bits (a*256)).toNat=2 ^ 8*a.toNat:=by
  rw[BitVec.toNat_ofInt];show ((a*256)%4294967296).toNat=_;omega
 have c:(BitVec.ofInt IntKind.u32.bits (y.toNat:Int)).toNat=y.toNat:=by
  rw[BitVec.toNat_ofInt];show (((y.toNat:Int))%4294967296).toNat=_;omega
 rw[BitVec.toNat_or,d,c,<-Nat.two_pow_add_eq_or_of_lt (by omega)];omega
theorem W0(x y:By):Ei [x,y]=(x.toNat:Int)*256+(y.toNat:Int):=by
 have a:=x.toNat_lt;show Ei ([x]++[y])=_;rw[Fv,wPr,U3 (by omega)]
theorem wHa(x y z w:By):Ei [x,y,z,w]=(((x.toNat:Int)*256+(y.toNat:Int))*256+(z.toNat:Int))*256+(w.toNat:Int):=by
 have d:=x.toNat_lt;have c:=y.toNat_lt;have b:=z.toNat_lt;have a:Ei [x,y,z]=((x.toNat:Int)*256+(y.toNat:Int))*256+(z.toNat:Int):=by
  show Ei ([x,y]++[z])=_;rw[Fv,W0,U3 (by omega)]
 show Ei ([x,y,z]++[w])=_;rw[Fv,a,U3 (by omega)]
variable{k:Int}
theorem MC(n:Int)(hk:0<k):n.fdiv k=n / k:=by rw[Int.fdiv_eq_ediv_of_nonneg _ (by omega)]
variable{n:Int}
theorem Kg(h:0<=n/\n<4294967296):Ei (CB n).reverse=n:=by
 show Ei [bU (D6 .u32 n 24),bU (D6 .u32 n 16),bU (D6 .u32 n 8),bU n]=n;rw[wHa,Gy,Gy,Gy,Gy];have c:D6 .u32 n 8=n / 256:=MC n (by decide);have b:D6 .u32 n 16=n / 65536:=MC n (by decide);have a:D6 .u32 n 24=n / 16777216:=MC n (by decide);rw[c,b,a];omega
theorem Vp(h:0<=n/\n<65536):Ei (Kj n).reverse=n:=by
 show Ei [bU (D6 .i64 n 8),bU n]=n;rw[W0,Gy,Gy];have a:D6 .i64 n 8=n / 256:=MC n (by decide);rw[a];omega
variable{xs:List By}
theorem Kd(c b post:List By){a n:Nat}(d:xs=c++(b++post))(f:a=c.length)(e:n=b.length):Eu xs a n=Ei b.reverse:=by
 subst d f e;unfold Eu;rw[List.drop_left,List.take_left]
theorem Vq(xs:List By):0<=Kq xs/\Kq xs<4294967296:=by
 unfold Kq U2;rw[IntKind.wrap_u32];omega
theorem wEa(b:List By):(Kr b).drop 4=GK b:=rfl
variable{b:List By}
theorem wEv(h:b.length<=124):CO (Kr b)=0:=by
 unfold CO;rw[if_neg (by rw[JW h];decide),if_neg];rw[wEa,Kd (xs:=Kr b) (a:=0) (n:=4) [] (CB (Kq (GK b))) (GK b) rfl rfl rfl,Kg (Vq _)];exact λh=>h rfl
/- a superblock's numbers in a block -/
/- the superblocks that are found -/
section
variable{P:Program}{ops:Array Oper}{N:Fs}{F:Fr}{E:Ent}{M:Mem}{L:Lc}{o:Oper}
end
def tb(i:Int):By:=UInt8.ofNat (if i=0 then 0 else if i=1 then 1 else if i<=3 then 2 else 3)
section
variable{P:Program}{ops:Array Oper}{N:Fs}{F:Fr}{W:World}{X:List Nat}{M0 M:Mem}{L:Lc}{Q:Exit->Act->World->Prop}{rest:List Oper}
theorem wUw{v:Value}{R L2:Lc}{e:TypeId}{size n:Nat}{xs:List Value}(u:Own v R e size n xs)[s:Pick R L L2](y:∀x∈X,x∈L2.map (·.1))
  (h:∀M' a b,MLe M M'->v=.slice a n b->n<=b->SM M' a xs->JL P ops N Q rest F ⟨W,X,M0⟩ M' L2):JL P ops N Q rest F ⟨W,X,M0⟩ M L:=by
 intro a w B o;have c:=o.perm s.perm;have g:=c.nodup;rw[List.map_append]at g;have z:=(List.nodup_append.1 g).2.2;obtain⟨M',C,b,m,l,k,j,i⟩:=u.freeze (λp f d=>z _ (List.mem_map_of_mem f) _ (y _ d) rfl) c;exact h M' C b m l k j a w B i
end
theorem ZF(s:Sto)(k:Nat)(hk:k<256)(J:Jv s.blocks s.waits)(bv:Value)(C:Option Addr)(B:Nat)(ps:List (Wt×Value))(M:Mem)(h1:LS M bv s.blocks)(V:s.waits.length<=B)(H:SM M C (ps.flatMap AZ))(Q:ps.map (·.1)=s.waits)(hb:∀q∈ps,BS M q.2 q.1.2):
  SpecL prog 284 #[.agg #[bv,.slice C s.waits.length B],.int .i64 k] M [] λu M' L'=>(∃v,u=.tuple #[v,.int .i64 0]/\BS M' v (seen s k))/\L'=[]:=by
 obtain⟨av,au,ab,aa⟩:=id J;have ak:=h1;obtain⟨ba,bc,ao,rfl,ax,ag,K,ah⟩:=h1;obtain⟨bb,bo,e0,af⟩:=ag.open (by intro e;have:=congrArg length e;rw[List.length_map,List.length_nil]at this;have h2:=congrArg length K;rw[List.length_map]at h2;omega);subst e0;obtain⟨va,vc,ad,Y,X⟩:=CX af K ah (k:=k) (by omega);have G:WS M (.slice C s.waits.length B) s.waits:=⟨C,B,ps,rfl,V,H,Q,hb⟩;have aw:s.blocks[k].length=128:=ab _ (List.getElem_mem _);refine sB func284 ntmps284 ?_;intro W;refine ga λb2=>?_;refine lh (Bt (cs:=[.int .i64 k]) rfl rfl rfl rfl) ?_;rintro _ _ _ ⟨b3,rfl,rfl,rfl⟩;refine Ke λO N=>?_;refine gQ (Jw s.blocks s.waits _ _ M ak G J k (by omega)) ?_;refine gt ?_;refine gC (bww _ _ _ M) ?_;rintro _ M1 _ f ⟨al,rfl,m,rfl⟩;have ac:ps.length=s.waits.length:=by grind
 rw[<-ac]at m;refine gh ?_;refine BL b2 (by simp) ?_;intro ay n e2;refine BL b3 (by simp) ?_;intro am i e3;replace e2:=i _ _ e2;replace m:=i _ _ (n _ _ m);replace f:=f.trans (n.trans i);refine Ef (R:=[(N,cE [.int .i64 0] 40),(O,cE [.slice none 0 0] 26)]) (xs:=bw ps 0) (enc:=(λp:(Wt×Value)×Nat=>[.int .i64 p.2,.agg (AZ p.1).toArray])) (ps:=[18,19]) rfl (by kernel_rfl) (RM al C B ps am m (H.mono f) (by omega))
  (λo _ R=>R=[(N,cE [.int .i64 0] 40),(O,cE [.slice none 0 0] 26)]/\∀q∈o,q.1.1.1≠(k:Int))
  (λc _ M' R=>c=.ret/\∃v,R=[(N,cE [.int .i64 0] 40),(O,cE [v] 26)]/\BS M' v (seen s k))
  (λ_=>rfl) (by decide) ⟨rfl,λ_ h=>by cases h⟩ ?_ ?_ ?_
 ·intro l W2 o y U R2 a j g;obtain⟨rfl,j⟩:=j;have E:y.1∈ps:=RN (g.subset (by simp));obtain⟨⟨P,yv⟩,yi⟩:=y;have F:=hb _ E;obtain⟨ya,yc,D,aq,ap⟩:=id F;change yv=Value.slice ya P.2.length yc at D;subst D;refine ga λb8=>?_;refine jK λW'=>?_;refine gh ?_;refine lq (Au rfl rfl rfl rfl (CM.cj ⟨_,_,_,a _ _ e3,rfl⟩ _)) ?_;refine gj (λL=>?_) λL=>?_
  ·refine gC (B6 _ P.2 U (F.mono (f.trans a)) (by have:=(aa P (by rw[<-Q];exact List.mem_map_of_mem E)).2.2;omega)) ?_;rintro _ M3 Rc aj b;refine wUw b (by simp) ?_;intro M4 T S ai ec z w;cases ec;refine gh ?_;refine AB (L':=[(N,cE [.int .i64 0] 40),(O,cE [.slice T P.2.length S] 26)]) (by simp) ?_;refine jQr ?_;refine⟨rfl,_,rfl,?_⟩;rw[MY Q g j L];exact⟨T,S,rfl,z,w⟩
  refine gh ?_;refine AB (L':=[(N,cE [.int .i64 0] 40),(O,cE [.slice none 0 0] 26)]) (by simp) ?_;refine wJi ?_;grind
 ·intro d U R2 a j;obtain⟨rfl,j⟩:=j;have I:=MZ Q j;rw[Ej (by omega)]at I;refine gh ?_;refine lq (Au rfl rfl rfl rfl (CM.cj ⟨_,_,_,a _ _ e2,rfl⟩ _)) ?_;refine lq (Au rfl rfl rfl rfl (CM.cj ⟨_,_,_,a _ _ e3,rfl⟩ _)) ?_;refine gh ?_;refine lq (Au rfl rfl rfl rfl ((ad.mono (f.trans a)).cj _)) ?_;refine gC (B6 _ s.blocks[k] U ⟨va,vc,rfl,Y,X.mono (f.trans a)⟩ (by omega)) ?_;rintro _ M3 Rc aj b;refine Hn b (by simp) ?_;intro M4 T S ai ec z w;cases ec;refine gh ?_;refine Bu (L2:=_) Rm.perm ?_;refine gr ?_;exact⟨⟨_,rfl,by rw[I];exact⟨T,S,rfl,z,w⟩⟩,rfl⟩
 intro d c o U R2 a g j;obtain⟨rfl,v6,rfl,a6,c6,rfl,ae,Z⟩:=j;refine gh ?_;refine Bu (L2:=_) Rm.perm ?_;refine gr ?_;exact⟨⟨_,rfl,a6,c6,rfl,ae,Z⟩,rfl⟩
theorem ZG(s:Sto)(k:Nat)(b a:Value)(M:Mem)(o:LS M b s.blocks)(f:WS M a s.waits)(e:Jv s.blocks s.waits)(hk:k<256):SpecL prog 284 #[.agg #[b,a],.int .i64 k] M [] λu g h=>(∃v,u=.tuple #[v,.int .i64 0]/\BS g v (seen s k))/\h=[]:=by
 obtain⟨j,i,l,rfl,d,c,m,n⟩:=f;grind[ZF]
def wUg(p:Po):Int:=if AN p≠0 then AN p else if p.gen=4294967295 then 9 else 0
theorem poChk_is{p:Po}:AN p=0↔∃x,Cc p.st p.root p.next p.dead=some x:=by
 grind[AN]
variable{s:Sto}
theorem KF:∀{rs a nodes:List Int}{x:List Int×List Int},Cy s rs a nodes=some x->∀r∈rs,EC s r=true
 |[],_,_,_,_,r,b=>by cases b
 |y::rs,a,nodes,x,h,r,b=>by
  rw[Cy]at h;split at h
  ·rename_i c;rcases List.mem_cons.1 b with rfl|b
   ·exact c
   exact KF h r b
  cases h
structure PoOk(p:Po):Prop where
 st:Av p.st
 len:p.dead.length<=40
 dead:∀d∈p.dead,tk d
 root:tk p.root
theorem PoOk.of{p:Po}(h:AN p=0):PoOk p:=by
 obtain⟨x,a⟩:=poChk_is.1 h;unfold Cc at a;split at a
 ·rename_i b;refine⟨b.1,b.2.1,?_,by have:=LE b.2.2;exact⟨this.1,this.2.1⟩⟩;split at a
  ·cases a
  split at a
  ·cases a
  split at a
  ·cases a
  rename_i c;intro d e;have:=LE (KF c d (by unfold Ec;simp[e]));exact⟨this.1,this.2.1⟩
 grind
theorem Wk(c:Nat)(M:Mem):
  SpecL prog 40 #[.slice none 0 c] M [] λv _ a=>Own v a 3 1 0 []:=by
 refine sB func40 ntmps40 ?_;intro W;refine gh ?_;refine lq (Bh (Sf rfl rfl rfl rfl) (v':=.bool true) (by simp)) ?_;refine gr ?_;grind[Own.nil]
theorem Ua(b:Addr)(n c:Nat)(a:List Value)(M:Mem)(hs:SM M (some b) a)(j:a.length=n)(e:∀v∈a,v.oneCell'=true)(i:n<=1000000):
  SpecL prog 40 #[.slice (some b) n c] M [] λv _ g=>Own v g 3 1 n a:=by
 refine sB func40 ntmps40 ?_;intro W;refine gh ?_;refine lq (Bh (Sf rfl rfl rfl rfl) (v':=.bool false) (by simp)) ?_;refine gh ?_;refine lh (Ab (z:=[.int .i64 0]) (cs:=[]) rfl rfl rfl (by rfl) (by rfl) (by rfl)) ?_;rintro _ _ _ ⟨f,rfl,rfl,rfl⟩;refine gh ?_;refine lh (Eh (n:=0) (xs:=[]) (news:=a) rfl rfl rfl rfl (Own.empty f _ _) (by omega) hs rfl e (by omega) (by decide)) ?_;rintro h _ _ ⟨rfl,k,rfl,d⟩;refine jp rfl ?_;refine Ai (jT (Bq ?_));refine FX rfl rfl ?_;grind
theorem Du(a:Option Addr)(n c:Nat)(d:List Value)(M:Mem)(hs:SM M a d)(e:d.length=n)(g:∀v∈d,v.oneCell'=true)(f:n<=1000000):SpecL prog 40 #[.slice a n c] M [] λv _ j=>Own v j 3 1 n d:=by
 cases a with
 |none=>
  have i:d=[]:=hs.elim id (λ⟨_,_,h,_⟩=>by cases h)
  subst i
  have:n=0:=by simpa using e.symm
  subst this
  exact Wk c M
 |some b=>exact Ua b n c d M hs e g f
theorem Zl(p:Po)(pv f g h:Value)(da:Option Addr)(i:Nat)(M:Mem)(J:LS M pv p.st.blocks)(I:WS M f p.st.waits)(H:BS M g p.st.now)(G:BS M h p.st.last)(F:p.dead.length<=i)(l:SM M da (Al p.dead))(a:Av p.st)(m:p.dead.length<=1000000):
  SpecL prog 18 #[.agg (Qh pv f g h p.gen p.root p.next (.slice da p.dead.length i)).toArray] M [] λu P Q=>PT P u p/\Q=[]:=by
 have n:=a.1;have D:p.st.now.length=256:=a.2.1.1;have E:p.st.last.length=256:=a.2.2.1;refine sB func18 ntmps18 ?_;intro W;refine Ke λN b2=>?_;refine Gt [7,9] [7,8,9] [0,1,3,4,102,6,105,107,8,109] M ([(N,cE (Qh pv f g h p.gen p.root p.next (.slice da p.dead.length i)) X0)]) ([]) ?_;refine gh ?_;refine dh rfl (hC (KJ p.st pv f g h M J I H G n (by omega) (by omega))) ?_;rintro _ O _ ⟨d,_,rfl,⟨j,rfl⟩⟩;refine⟨d,by simp,?_⟩;obtain⟨X,V,U,T,rfl,B,z,y,w⟩:=j.ex;obtain⟨ba,bc,L,rfl,_⟩:=id B;obtain⟨S,R,C,rfl,_⟩:=id z;obtain⟨Z,Y,rfl,_⟩:=id y;obtain⟨la,lc,rfl,_⟩:=id w;refine gh ?_;refine dh rfl (hC (Du da _ i (Al p.dead) O (l.mono d) (Ay _) (DU _) m)) ?_;rintro _ M2 _ ⟨c,R2,rfl,e⟩;refine⟨c,by simp,?_⟩;obtain⟨ea,ec,rfl⟩:=e.form;refine Ho rfl rfl (Ao rfl rfl rfl rfl rfl rfl rfl rfl) ?_;rintro _ _ _ ⟨rfl,rfl⟩;refine⟨d.trans c,by simp,?_⟩;refine Kn rfl rfl rfl (Ac rfl rfl rfl rfl rfl) ?_;refine KY rfl rfl (Ao rfl rfl rfl rfl rfl rfl rfl rfl) ?_;rintro _ _ _ ⟨rfl,rfl⟩;refine⟨d.trans c,by simp,?_⟩;refine gh ?_;refine BK e (by simp) ?_;intro M4 a4 c4 s K o k;cases K;refine gr ?_;have b:=c.trans s;exact⟨⟨_,_,_,_,_,rfl,B.mono b,z.mono b,y.mono b,w.mono b,_,_,rfl,o,k⟩,rfl⟩
theorem wPi{p:Po}(h:wUg p=0):PoOk p/\p.gen≠4294967295:=by
 grind[wUg,PoOk.of]
abbrev poZ:List Value:=[.slice none 0 0,.slice none 0 0,.slice none 0 0,.slice none 0 0,.int .u32 0,.int .i64 0,.int .u32 0,.slice none 0 0]
def dskZ:Value:=.agg #[.slice none 0 0,.slice none 0 0]
section
variable{s t:Sto}
end
def G3:Po:=⟨EM st0 0 [],0,8,1,[]⟩
theorem wLy:wUg G3=0:=by decide +kernel
structure Sl where
 a:Option Addr
 n:Nat
 c:Nat
abbrev Sl.v(s:Sl):Value:=.slice s.a s.n s.c
structure V5 where
 b:Sl
 w:Sl
 n:Sl
 l:Sl
 d:Sl
abbrev Bo(x:V5)(g r n:Int):List Value:=Qh x.b.v x.w.v x.n.v x.l.v g r n x.d.v
structure PT5(M:Mem)(x:V5)(p:Po):Prop where
 b:LS M x.b.v p.st.blocks
 w:WS M x.w.v p.st.waits
 n:BS M x.n.v p.st.now
 l:BS M x.l.v p.st.last
 d:NI M x.d.v p.dead
variable{M:Mem}
theorem PT5.mono{M':Mem}{x:V5}{p:Po}(h:PT5 M x p)(a:MLe M M'):PT5 M' x p:=⟨h.b.mono a,h.w.mono a,h.n.mono a,h.l.mono a,h.d.mono a⟩
variable{s:Sl}
theorem LS.len{bs:List (List By)}(h:LS M s.v bs):s.n=bs.length:=by obtain⟨a,c,b,e,_⟩:=h;exact congrArg (λv=>match v with|Value.slice _ n _=>n|_=>0) e
variable{bs:List By}
theorem BS.len(h:BS M s.v bs):s.n=bs.length:=by obtain⟨a,c,e,_⟩:=h;exact congrArg (λv=>match v with|Value.slice _ n _=>n|_=>0) e
theorem BS.sm(h:BS M s.v bs):SM M s.a (Aa bs):=by
 obtain⟨a,c,e,_,h⟩:=h;grind
theorem LS.sl{v:Value}{bs:List (List By)}(h:LS M v bs):∃s:Sl,v=s.v:=by obtain⟨a,c,b,e,_⟩:=h;exact⟨⟨a,_,c⟩,e⟩
theorem WS.sl{v:Value}{bs:List Wt}(h:WS M v bs):∃s:Sl,v=s.v:=by obtain⟨a,c,b,e,_⟩:=h;exact⟨⟨a,_,c⟩,e⟩
theorem BS.sl{v:Value}(h:BS M v bs):∃s:Sl,v=s.v:=by obtain⟨a,c,e,_⟩:=h;exact⟨⟨a,_,c⟩,e⟩
theorem NI.sl{v:Value}{bs:List Int}(h:NI M v bs):∃s:Sl,v=s.v:=by obtain⟨a,c,e,_⟩:=h;exact⟨⟨a,_,c⟩,e⟩
theorem PT.five{v:Value}{p:Po}(h:PT M v p):∃x:V5,v=.agg (Bo x p.gen p.root p.next).toArray/\PT5 M x p:=by
 obtain⟨pv,l,m,n,o,rfl,k,j,i,g,f⟩:=h;obtain⟨a,rfl⟩:=k.sl;obtain⟨b,rfl⟩:=j.sl;obtain⟨c,rfl⟩:=i.sl;obtain⟨d,rfl⟩:=g.sl;obtain⟨e,rfl⟩:=f.sl;exact⟨⟨a,b,c,d,e⟩,rfl,k,j,i,g,f⟩
theorem PT5.pt{x:V5}{p:Po}(h:PT5 M x p):PT M (.agg (Bo x p.gen p.root p.next).toArray) p:=⟨_,_,_,_,_,rfl,h.b,h.w,h.n,h.l,h.d⟩
def PP:V5:=⟨⟨none,0,0⟩,⟨none,0,0⟩,⟨none,0,0⟩,⟨none,0,0⟩,⟨none,0,0⟩⟩
theorem ZK(s:Sto)(v sl:Value)(lv:Int)(xs:List It)(M:Mem)(j:ST M v s)(y:NS M sl xs)(z:∀x∈xs,0<=x.key.kind/\x.key.kind<256)(k:Av s)(o:CD lv xs=true)(m:wYh s xs)(B:BH (Am s xs)<256)(g:s.waits.length<4096):
  SpecL prog 22 #[v,.agg #[.int .i64 lv,sl]] M [] λu C D=>(∃v,u=.tuple #[v,.int .i64 (BH (Am s xs)),.int .i64 0]/\ST C v (EM s lv xs))/\D=[]:=by
 obtain⟨b,w,n,l,rfl,O,⟨F,E,d,rfl,h,e,f,i⟩,N,L⟩:=j.ex;obtain⟨a,c,G,rfl,J,H,I,K⟩:=y;grind[ZJ]
theorem wYe:Av st0:=by decide +kernel
theorem wKk:BH (Am st0 [])=8:=by decide +kernel
theorem V0(v:Value)(M:Mem)(b:ST M v st0):
  SpecL prog 14 #[v] M [] λu i j=>(∃v,u=.tuple #[v,.int .i64 8,.int .i64 0]/\ST i v (EM st0 0 []))/\j=[]:=by
 obtain⟨L,K,H,G,rfl,F,E,D,C⟩:=id b.ex;refine sB func14 ntmps14 ?_;intro W;refine Ke λJ I=>?_;refine gc (ZK st0 _ _ 0 [] M b NS.nil (λ_ h=>by cases h) wYe (by decide) (λk h=>by cases h) (by rw[wKk];decide) (by decide)) ?_;rintro _ N g ⟨l,rfl,a⟩;rw[wKk];obtain⟨B,z,y,w,rfl,f,e,d,c⟩:=a.ex;obtain⟨s,rfl⟩:=f.sl;obtain⟨o,rfl⟩:=e.sl;obtain⟨n,rfl⟩:=d.sl;obtain⟨m,rfl⟩:=c.sl;refine gr ?_;exact⟨⟨_,rfl,_,_,_,_,rfl,f,e,d,c⟩,rfl⟩
theorem Tr(M:Mem):
  SpecL prog 10 #[] M [] λu j k=>PT j u G3/\k=[]:=by
 refine sB func10 ntmps10 ?_;intro W;refine ga λi=>?_;refine gc (wEc M) ?_;rintro _ M0 h a;obtain⟨F,i,D,C,rfl,_⟩:=id a.ex;refine gc (V0 _ M0 a) ?_;rintro _ G g ⟨l,rfl,b⟩;obtain⟨B,z,y,w,rfl,f,e,d,c⟩:=b.ex;obtain⟨s,rfl⟩:=f.sl;obtain⟨o,rfl⟩:=e.sl;obtain⟨n,rfl⟩:=d.sl;obtain⟨m,rfl⟩:=c.sl;refine ga λE=>?_;refine gr ?_;exact⟨⟨_,_,_,_,_,rfl,f,e,d,c,none,0,rfl,Nat.le_refl _,SM.nil⟩,rfl⟩
theorem Zm(p:Po)(v:Value)(M:Mem)(h:PT M v p)(a:Av p.st)(b:p.dead.length<=1000000):SpecL prog 18 #[v] M [] λu c d=>PT c u p/\d=[]:=by
 obtain⟨pv,e,f,g,o,rfl,n,m,l,k,da,s,rfl,j,i⟩:=h;grind[Zl,pv,da]
def Shp(s:Sto):Nat->List It->Prop
 |0,xs=>∀x∈xs,x.ref=0\/¬s.now.getD x.ref.toNat 0=0
 |l+1,xs=>∀x∈xs,∃ys,Ak s x.ref.toNat=some ((l:Int),ys)/\ys≠[]/\BC ys=x.key/\Shp s l ys
variable{l:Nat}{s:Sto}{xs ys:List It}
theorem Shp.sub(h:Shp s l xs)(hs:∀y∈ys,y∈xs):Shp s l ys:=by
 cases l with
 |zero=>exact λx a=>h x (hs x a)
 |succ l=>exact λx a=>h x (hs x a)
theorem Shp.app(h:Shp s l xs)(k:Shp s l ys):Shp s l (xs++ys):=by
 cases l with
 |zero=>exact λx a=>(List.mem_append.1 a).elim (h x) (k x)
 |succ l=>exact λx a=>(List.mem_append.1 a).elim (h x) (k x)
theorem Shp.one(h:Shp s l xs){x:It}(b:x∈xs):Shp s l [x]:=h.sub λy a=>by rw[List.mem_singleton.1 a];exact b
theorem A5(s:Sto)(l:Nat)(xs a:List It):Ax s l (xs++a)=Ax s l xs++Ax s l a:=List.flatMap_append
theorem Dy(s:Sto)(l:Nat)(x:It)(xs:List It):Ax s l (x::xs)=Bc s l x++Ax s l xs:=List.flatMap_cons
theorem Dp(s:Sto)(l:Nat)(x:It):Ax s l [x]=Bc s l x:=by rw[Dy];show _++[]=_;rw[List.append_nil]
theorem Cl(s:Sto)(xs:List It):Ax s 0 xs=xs:=by
 unfold Ax;induction xs with
 |nil=>rfl
 |cons x xs a=>rw[List.flatMap_cons,a];rfl
variable{lv:Int}
theorem Bg{x:It}(h:Ak s x.ref.toNat=some (lv,ys)):Bc s (l+1) x=Ax s l ys:=by
 have:kid s x=ys:=by grind[kid]
 rw[Bc,this];rfl
theorem Qq:∀{l:Nat}{x:It},Shp s l [x]->∃y r,Bc s l x=y::r/\y.key=x.key
 |0,x,_=>⟨x,[],rfl,rfl⟩
 |l+1,x,h=>by
  obtain⟨ys,d,c,b,a⟩:=h x (by simp);obtain⟨z,zs,rfl⟩:=List.exists_cons_of_ne_nil c;obtain⟨y,r,f,e⟩:=Qq (a.one (x:=z) (by simp));exact⟨y,r++Ax s l zs,by rw[Bg d,Dy,f];rfl,by rw[e];exact b⟩
theorem LI{x:It}(h:Shp s l [x]):∃y∈Bc s l x,y.key=x.key:=by
 grind[Qq]
theorem JR:∀{xs:List It},Shp s l xs->Srt (Ax s l xs)->Srt xs
 |[],_,_=>List.Pairwise.nil
 |x::xs,h,d=>by
  rw[Dy]at d;have e:=List.pairwise_append.1 d;refine List.pairwise_cons.2 ⟨λz c=>?_,JR (h.sub λy f=>List.mem_cons_of_mem _ f) e.2.1⟩;obtain⟨a,i,k⟩:=LI (h.one (x:=x) (by simp));obtain⟨b,g,j⟩:=LI (h.one (x:=z) (by simp[c]));have:=e.2.2 a i b (List.mem_flatMap.2 ⟨z,c,g⟩);rwa[k,j]at this
variable{k:Ky}
theorem X6{one:Sp}(h:one.first=k):∀(o:Option Sp),(Bk one o).first=(match o with|none=>k|some p=>p.first)
 |none=>h
 |some p=>rfl
variable{f:It->Sp}
theorem WW:∀{xs:List It}{o:Option Sp},(A6 f o xs).is=true->xs≠[]->(∀x∈xs,(f x).is=true/\(f x).first=x.key)->(A6 f o xs).first=(match o with|none=>BC xs|some p=>p.first)
 |x::xs,o,h,_,a=>by
  have e:=X6 (a x (by simp)).2 o;rw[A6]at h⊢;split at h
  ·rename_i c;rw[if_pos c];cases xs with
   |nil=>exact e
   |cons y ys=>exact(WW h (by simp) (λz b=>a z (List.mem_cons_of_mem _ b))).trans e
  cases h
theorem KH:∀{l:Nat}{xs:List It},A3 s l xs->Shp s l xs
 |0,xs,h=>λx b=>by
  have a:=(GS (h (List.ne_nil_of_mem b)) x b).1;change (decide (x.ref=0)||decide (0<((s.now.getD x.ref.toNat 0).toNat:Int)))=true at a;rw[Bool.or_eq_true]at a;rcases a with a|a
  ·exact .inl (of_decide_eq_true a)
  exact .inr λe=>by rw[e]at a;exact absurd (of_decide_eq_true a) (by decide)
 |l+1,xs,h=>λx b=>by
  have a:=GS (h (List.ne_nil_of_mem b)) x b;obtain⟨ys,j,c,g⟩:=T4 a.1;have d:A3 s l ys:=λ_=>by rw[<-g];exact a.1
  refine⟨ys,j,c,?_,KH d⟩;have i:=WW (d c) c (GS (d c));have f:=a.2;rw[g,i]at f;exact f
theorem Dl{q:Ky}:∀{xs:List It},Srt xs->(∀z∈xs.take (place xs q),Ap z.key q=true)/\∀z∈xs.drop (place xs q),Ap z.key q=false
 |[],_=>⟨λz a=>(by simp at a),λz a=>(by simp at a)⟩
 |x::xs,h=>by
  have e:=List.pairwise_cons.1 h;obtain⟨g,f⟩:=Dl (q:=q) e.2;by_cases c:Ap x.key q=true
  ·have d:place (x::xs) q=place xs q+1:=by unfold place;rw[List.filter_cons_of_pos (by simpa using c),List.length_cons]
   rw[d,List.take_succ_cons,List.drop_succ_cons];refine⟨λz a=>?_,f⟩;rcases List.mem_cons.1 a with rfl|a
   ·exact c
   exact g z a
  have b:∀z∈x::xs,Ap z.key q=false:=λz a=>by
   rcases List.mem_cons.1 a with rfl|a
   ·simpa using c
   exact J7 (wZf c) (KV (e.1 z a))
  have d:place (x::xs) q=0:=Yx b;rw[d];exact⟨λz a=>(by simp at a),λz a=>b z (by simpa using a)⟩
end Go.Proofs.YtjheijhahehnmaaGreatDoor
