/- An item taken out on a bench, as plain functions. No statement of the seat is proved here. -/
import Derived.Test.YtdahhoicackcaaaGreatZHn
import Derived.Test.YtdahhoicackcaaaGreatZMlaw
import Derived.Test.YtdahhoicackcaaaGreatZNdr
import Derived.Test.YtdahhoicackcaaaGreatZPutf
namespace Go.Proofs.YtdahhoicackcaaaGreat
open Go.Proofs.Tryz
set_option linter.unusedSimpArgs false
set_option linter.unusedVariables false
set_option linter.unusedSectionVars false
open Go.RowKit
set_option maxRecDepth 8000
set_option maxHeartbeats 40000000
def VS(M:Mem)(s:Sl)(vs:List Vo):Prop:=s.n=vs.length/\vs.length<=s.c/\SM M s.a (vs.flatMap CU)
def VlP(p:Po)(u:Value)(M':Mem):Prop:=∃(s:Sl),u=.tuple #[s.v,.int .i64 (Ax p)]/\∀vs refs nodes,cens p.st p.root p.next p.dead=some (vs,refs,nodes)->VS M' s vs
theorem wCy(p:Po)(x:V5)(M:Mem)(h:PT5 M x p)(c:p.dead.length<=1000000)(b:cens p.st p.root p.next p.dead=none):
  SpecL prog 34 #[.agg (AO x p.gen p.root p.next).toArray] M [] λu M' e=>VlP p u M'/\e=[]:=by
 refine sB func34 ntmps34 ?_;intro W
 refine ga λf=>?_
 refine gc (Cu p _ M h.pt c) ?_;rintro _ g d a
 unfold TakeP at a
 rw[b]at a
 subst a
 refine gu ?_
 exact⟨⟨⟨none,0,0⟩,by unfold Ax;rw[b];rfl,λvs refs nodes h=>by rw[b]at h;cases h⟩,rfl⟩
theorem YM(p:Po)(x:V5)(M:Mem)(h:PT5 M x p)(n:p.dead.length<=1000000)(vs:List Vo)(refs nodes:List Int)(j:cens p.st p.root p.next p.dead=some (vs,refs,nodes)):
  SpecL prog 34 #[.agg (AO x p.gen p.root p.next).toArray] M [] λu M' r=>VlP p u M'/\r=[]:=by
 refine sB func34 ntmps34 ?_;intro W
 refine ga λE=>?_
 refine gc (Cu p _ M h.pt n) ?_;rintro _ F o a
 unfold TakeP at a
 rw[j]at a
 obtain⟨D,C,s,y,B,t,z,m,l,rfl,i,g,f,e,b⟩:=a
 refine gt ?_
 refine lq (AE rfl rfl rfl rfl ((EW i (FQ e b)).cj _)) ?_
 refine gr ?_
 exact⟨⟨⟨m,vs.length,l⟩,by unfold Ax;rw[j],λk d c h=>by rw[j]at h;cases h;exact⟨rfl,g,f⟩⟩,rfl⟩
theorem Em(p:Po)(x:V5)(M:Mem)(h:PT5 M x p)(a:p.dead.length<=1000000):SpecL prog 34 #[.agg (AO x p.gen p.root p.next).toArray] M [] λu M' d=>VlP p u M'/\d=[]:=by
 cases b:cens p.st p.root p.next p.dead with
 |none=>exact wCy p x M h a b
 |some c=>obtain⟨vs,refs,nodes⟩:=c;exact YM p x M h a vs refs nodes b
def CrP(p:Po)(keep:List Bool)(u:Value)(M':Mem):Prop:=if keep.length=p.st.waits.length then Zg ⟨AW p.st.blocks (CQ keep p.st.waits),[],p.st.now,p.st.last⟩ u M' else u=.tuple #[.agg (AO Sh 0 0 0).toArray,.int .i64 2]
variable{M':Mem}{bs:List (List By)}{c:Prop}{u:Value}
theorem GR[Decidable c](h:if c then ∃d,u=.tuple #[d,.int .i64 0]/\DK M' d bs []else u=.tuple #[.agg #[.slice none 0 0,.slice none 0 0],.int .i64 2]):∃(a b:Sl)(e:Int),u=.tuple #[.agg #[a.v,b.v],.int .i64 e]/\((e=0/\c/\LS M' a.v bs/\WS M' b.v [])\/(e=2/\¬c)):=by
 split at h
 ·rename_i f
  obtain⟨d,rfl,k,j,rfl,i,g⟩:=h
  obtain⟨a,rfl⟩:=i.sl
  obtain⟨b,rfl⟩:=g.sl
  exact⟨a,b,0,rfl,.inl ⟨rfl,f,i,g⟩⟩
 rename_i f
 exact⟨⟨none,0,0⟩,⟨none,0,0⟩,2,h,.inr ⟨rfl,f⟩⟩
theorem Hn(p:Po)(x:V5)(M:Mem)(h:PT5 M x p)(o:dkOk p.st.blocks p.st.waits)(keep:List Bool)(g:Option Addr)(s:Nat)(l:SM M g (Bo keep))(m:keep.length<=1000000):
  SpecL prog 10 #[.agg (AO x p.gen p.root p.next).toArray,.slice g keep.length s] M [] λu M' I=>CrP p keep u M'/\I=[]:=by
 refine sB func10 ntmps10 ?_;intro W
 refine EV λL K=>?_
 refine gc (Fp p.st.blocks p.st.waits x.b.v x.w.v M h.b h.w o keep g s l m) ?_;rintro _ H E r
 obtain⟨a,b,e,rfl,c⟩:=GR r
 refine gA λJ=>?_
 refine gj (λd=>?_) λd=>?_
 ·refine gr ?_
  obtain⟨t,_⟩|⟨rfl,k⟩:=c
  ·exact absurd t d
  exact⟨by unfold CrP;rw[if_neg k];rfl,rfl⟩
 refine gh ?_
 obtain⟨_,n,G,F⟩|⟨t,_⟩:=c
 rotate_left
 ·omega
 refine gc (Jv ⟨AW p.st.blocks (CQ keep p.st.waits),[],p.st.now,p.st.last⟩ H _ ⟨_,_,rfl,G,F⟩) ?_;rintro _ N D i
 obtain⟨y,B,f,z,C,rfl,j⟩:=i
 refine gr ?_
 exact⟨by unfold CrP;rw[if_pos n];exact⟨y,B,f,z,C,rfl,j⟩,rfl⟩
set_option maxRecDepth 8000
set_option maxHeartbeats 40000000
theorem Et(v:Vo):(CU v).length=4:=rfl
def Tv(q:Int)(vs:List Vo):Bool:=vs.any λv=>decide (v.id=q)
def Jj(vs:List Vo)(q:Int):Option Vo:=vs.find? λv=>decide (v.id=q)
def VixP(vs:List Vo)(q i:Int):Prop:=(i= -1/\Jj vs q=none/\Tv q vs=false)\/∃k:Nat,i=k/\∃h:k<vs.length,Jj vs q=some vs[k]/\Tv q vs=true
theorem QL:∀{vs:List Vo}{q:Int},(∀v∈vs,v.id≠q)->Jj vs q=none/\Tv q vs=false
 |[],_,_=>⟨rfl,rfl⟩
 |v::vs,q,h=>by
  have c:=h v (by simp)
  obtain⟨a,b⟩:=QL (vs:=vs) (q:=q) λw d=>h w (by simp[d])
  unfold Jj Tv at *
  rw[List.find?_cons_of_neg (by simpa using c),List.any_cons,decide_eq_false c]
  exact⟨a,b⟩
variable{k:Nat}{vs:List Vo}
theorem wFu{q:Int}(hk:k<vs.length)(h:vs[k].id=q)(l:∀j (d:j<vs.length),j<k->vs[j].id≠q):Jj vs q=some vs[k]/\Tv q vs=true:=by
 have e:vs=vs.take k++vs[k]::vs.drop (k+1):=by rw[<-List.drop_eq_getElem_cons hk,List.take_append_drop]
 obtain⟨a,b⟩:=QL (vs:=vs.take k) (q:=q) λw f=>by
  obtain⟨j,d,c,rfl⟩:∃j,∃d:j<vs.length,j<k/\vs[j]=w:=by
   obtain⟨i,g,e⟩:=List.getElem_of_mem f
   rw[List.length_take]at g
   exact⟨i,by omega,by omega,by rw[<-e,List.getElem_take]⟩
  exact l j d c
 unfold Jj Tv at *
 refine⟨?_,List.any_eq_true.2 ⟨vs[k],List.getElem_mem hk,decide_eq_true h⟩⟩
 conv=>lhs;rw[e]
 rw[List.find?_append,a,List.find?_cons_of_pos (by simpa using h)];rfl
theorem Sg(vs:List Vo)(a:Option Addr)(c:Nat)(b:FuncId)(g:Value)(q:Int)(M:Mem)(hs:SM M a (vs.flatMap CU))(r:EN prog b=true)(C:∀v:Vo,SpecL prog b #[.agg (CU v).toArray,g] M [] λu _ _=>u=.bool (decide (v.id=q)))(J:vs.length<=1000):
  SpecL prog 118 #[.slice a vs.length c,.func (.func b) #[] #[g]] M [] λv _ _=>∃i:Int,v=.int .i64 i/\VixP vs q i:=by
 refine sB func118 ntmps118 ?_;intro W
 refine gh ?_
 refine Cz (α:=Nat) (λk=>[(0,.slice a vs.length c),(1,.func (.func b) #[] #[g]),(7,.int .i64 vs.length),(8,.int .i64 k)]) (λ_=>M) (λ_=>[]) (λk=>k<=vs.length/\∀j (l:j<vs.length),j<k->vs[j].id≠q) (λk=>vs.length-k) 0 ⟨Nat.zero_le _,λ_ _ h=>absurd h (Nat.not_lt_zero _)⟩ ?_
 rintro k ⟨z,m⟩
 try dsimp only at z m⊢
 refine gj (λD=>?_) λD=>?_
 ·refine gh ?_
  have d:k<vs.length:=by omega
  obtain⟨I,H,G,y⟩:=hs.open (by intro e;have:=congrArg List.length e;rw[Aj CU 4 Et,List.length_nil]at this;omega)
  cases G
  have s:=Cs CU 4 Et y (List.getElem?_eq_getElem d)
  refine gh ?_
  refine lq (Bb (cs:=CU vs[k]) rfl rfl rfl rfl rfl (λi v n=>(s i v n).cj _)) ?_
  refine Br rfl rfl (CG rfl rfl rfl rfl rfl r (C vs[k])) (λf=>?_) (λf=>?_)
  ·refine gr ?_
   exact⟨(k:Int),rfl,.inr ⟨k,rfl,d,wFu d (of_decide_eq_true f) m⟩⟩
  refine gh ?_
  refine H1 (k+1) (Keep.cons (t:=0) rfl (Keep.cons (t:=1) rfl (Keep.cons (t:=7) rfl (Keep.cons (t:=8) rfl Keep.nil)))) ⟨by show k+1<=vs.length;omega,λj l B=>by
   by_cases e:j=k
   ·subst e;exact of_decide_eq_false f
   exact m j l (by omega)⟩ (by show vs.length-(k+1)<vs.length-k;omega) (λ_ h=>h)
 refine gr ?_
 have o:k=vs.length:=by omega
 subst o
 obtain⟨F,E⟩:=QL (vs:=vs) (q:=q) λv n=>by obtain⟨j,l,rfl⟩:=List.getElem_of_mem n;exact m j l l
 exact⟨-1,rfl,.inl ⟨rfl,F,E⟩⟩
theorem XD(vs:List Vo)(a:Option Addr)(c:Nat)(b:FuncId)(d:Value)(q:Int)(M:Mem)(hs:SM M a (vs.flatMap CU))(e:EN prog b=true)(j:∀v:Vo,SpecL prog b #[.agg (CU v).toArray,d] M [] λu _ _=>u=.bool (decide (v.id=q)))(g:vs.length<=1000):
  SpecL prog 156 #[.slice a vs.length c,.func (.func b) #[] #[d]] M [] λv _ _=>v=.bool (Tv q vs):=by
 refine sB func156 ntmps156 ?_;intro W
 refine gC (Sg vs a c b d q M hs e j g) ?_;rintro _ n _ l ⟨i,rfl,h⟩
 refine gr ?_
 refine congrArg _ ?_
 rcases h with⟨m,_,f⟩|⟨k,m,_,_,f⟩
 ·rw [f];exact decide_eq_false (by omega)
 rw[f];exact decide_eq_true (by omega)
theorem XB(v:Vo)(q:Int)(b:Nat)(M:Mem)(a:M b=some (cE [.int .u32 q] 33)):
  SpecL prog 119 #[.agg (CU v).toArray,pB b] M [] λu _ _=>u=.bool (decide (v.id=q)):=by
 refine sB func119 ntmps119 ?_;intro W
 refine ga λc=>?_
 refine lq (AE rfl rfl rfl rfl (CM.cj ⟨_,_,_,a,rfl⟩ _)) ?_
 refine gr ?_
 rfl
theorem Zd(w:Vo)(v:Vo)(b:Nat)(M:Mem)(a:M b=some (cE (CU w) 82)):
  SpecL prog 157 #[.agg (CU v).toArray,pB b] M [] λu _ _=>u=.bool (decide (v.id=w.id)):=by
 refine sB func157 ntmps157 ?_;intro W
 refine ga λc=>?_
 refine lq (AE rfl rfl rfl rfl (CM.cj ⟨_,_,_,a,rfl⟩ _)) ?_
 refine gr ?_
 rfl
variable{f:It->List Vo->Option (List Vo)}
theorem Nc:∀{xs ys:List It}{b:List Vo},AY f (xs++ys) b=(AY f xs b).bind λa=>AY f ys a
 |[],ys,b=>rfl
 |x::xs,ys,b=>by
  rw[List.cons_append,AY,AY]
  cases f x b with
  |none=>rfl
  |some a=>exact Nc
variable{gf:It->List Vo->Option (List Vo)}
theorem Lv{k:It->List It}:∀{xs:List It}{b:List Vo},(∀x b,gf x b=AY f (k x) b)->AY gf xs b=AY f (xs.flatMap k) b
 |[],b,_=>rfl
 |x::xs,b,h=>by
  rw[AY,List.flatMap_cons,Nc,h]
  cases AY f (k x) b with
  |none=>rfl
  |some a=>exact Lv h
variable{next:Int}{s:Sto}
theorem HI:∀(l:Nat){xs:List It}{a:List Vo},Ct s next l xs a=AY (KM next) (Aw s l xs) a
 |0,xs,a=>by rw[Ct,B2]
 |l+1,xs,a=>by
  rw[Ct]
  exact Lv λx a=>HI l
theorem MB:∀{xs:List It}{a:List Vo},a.length<=16->AY (KM next) xs a=if (∀x∈xs,Dj x/\x.key.id≠0/\x.key.id<next)/\a.length+xs.length<=16 then some (a++xs.map CA)else none
 |[],a,h=>by rw[AY,if_pos ⟨λx c=>(by cases c),by simpa using h⟩];simp
 |x::xs,a,h=>by
  rw[AY]
  by_cases c:wFn x next a.length
  ·rw [show KM next x a=some (a++[CA x])from if_pos c]
   dsimp only
   have b:=c
   unfold wFn at b
   rw[MB (by rw[List.length_append,List.length_singleton];omega)]
   by_cases e:(∀y∈xs,Dj y/\y.key.id≠0/\y.key.id<next)/\(a++[CA x]).length+xs.length<=16
   ·have f:(∀y∈x::xs,Dj y/\y.key.id≠0/\y.key.id<next)/\a.length+(x::xs).length<=16:=by
     refine⟨λy d=>?_,by have:=e.2;simp at this ⊢;omega⟩
     rcases List.mem_cons.1 d with rfl|d
     ·exact ⟨b.1,b.2.1,b.2.2.1⟩
     exact e.1 y d
    rw[if_pos e,if_pos f];simp
   rw[if_neg e,if_neg λg=>e ⟨λy d=>g.1 y (by simp[d]),by have:=g.2;simp at this ⊢;omega⟩]
  rw[show KM next x a=none from if_neg c]
  dsimp only
  rw[if_neg λg=>c ?_]
  have i:=g.1 x (by simp)
  have j:=g.2
  rw[List.length_cons]at j
  exact⟨i.1,i.2.1,i.2.2,by omega⟩
def volE(p:Po)(q:Int):Int:=match cens p.st p.root p.next p.dead with|none=>8|some (vs,_,_)=>match Jj vs q with|none=>6|some _=>0
def volV(p:Po)(q:Int):Vo:=match cens p.st p.root p.next p.dead with|none=>⟨0,0,false,0⟩|some (vs,_,_)=>(Jj vs q).getD ⟨0,0,false,0⟩
variable{d:List Int}{r:Int}
theorem TX{n:Int}{refs nodes:List Int}(h:cens s r n d=some (vs,refs,nodes)):vs.length<=1000:=by
 unfold cens at h
 split at h
 ·split at h
  ·cases h
  rename_i f c g
  split at h
  ·cases h
  rename_i e a
  split at h
  ·cases h
  split at h
  ·cases h
   rw[HI,MB (by simp)]at a
   split at a
   ·rename_i b;cases a;have:=b.2;simp at this ⊢;omega
   cases a
  cases h
 cases h
theorem wJx(p:Po)(x:V5)(M:Mem)(h:PT5 M x p)(c:p.dead.length<=1000000)(q:Int)(b:cens p.st p.root p.next p.dead=none):
  SpecL prog 64 #[.agg (AO x p.gen p.root p.next).toArray,.int .u32 q] M [] λu M' e=>u=.tuple #[.agg (CU (volV p q)).toArray,.int .i64 (volE p q)]/\e=[]:=by
 refine sB func64 ntmps64 ?_;intro W
 refine ga λi=>?_
 refine lh (Bf rfl rfl rfl rfl) ?_;rintro _ _ _ ⟨g,rfl,rfl,rfl⟩
 refine ga λf=>?_
 refine gc (Cu p _ M h.pt c) ?_;rintro _ j d a
 unfold TakeP at a
 rw[b]at a
 subst a
 refine gu ?_
 exact⟨by unfold volV volE;rw[b];rfl,rfl⟩
theorem wDa(p:Po)(x:V5)(M:Mem)(h:PT5 M x p)(F:p.dead.length<=1000000)(q:Int)(vs:List Vo)(refs nodes:List Int)(l:cens p.st p.root p.next p.dead=some (vs,refs,nodes)):
  SpecL prog 64 #[.agg (AO x p.gen p.root p.next).toArray,.int .u32 q] M [] λu M' K=>u=.tuple #[.agg (CU (volV p q)).toArray,.int .i64 (volE p q)]/\K=[]:=by
 refine sB func64 ntmps64 ?_;intro W
 refine ga λY=>?_
 refine lh (Bf rfl rfl rfl rfl) ?_;rintro _ _ _ ⟨s,rfl,rfl,rfl⟩
 refine ga λX=>?_
 refine gc (Cu p _ M h.pt F) ?_;rintro _ M1 G b
 unfold TakeP at b
 rw[l]at b
 obtain⟨V,T,O,Q,S,P,R,z,y,rfl,g,D,f,d,a⟩:=b
 refine gt ?_
 refine lq (AE rfl rfl rfl rfl ((EW g (FQ d a)).cj _)) ?_
 refine gh ?_
 refine Cx s (by simp) ?_
 intro t c I
 refine gC (Sg vs z y _ _ q t (f.mono c) (by kernel_rfl) (λv=>XB v q s t I) (TX l)) ?_;rintro _ Z _ j ⟨i,rfl,r⟩
 refine gj (λo=>?_) λo=>?_
 ·refine gr ?_
  obtain⟨_,H,_⟩|⟨k,rfl,_⟩:=r
  rotate_left
  ·exfalso;omega
  exact⟨by unfold volV volE;rw[l];dsimp only;rw[H];rfl,rfl⟩
 refine gh ?_
 refine lq (AE rfl rfl rfl rfl (((EW g (FQ d a)).mono (c.trans j)).cj _)) ?_
 refine gh ?_
 obtain⟨U,_⟩|⟨k,rfl,E,m,_⟩:=r
 ·exfalso;omega
 obtain⟨N,L,J,B⟩:=f.open (by intro e;have:=congrArg List.length e;rw[Aj CU 4 Et,List.length_nil]at this;omega)
 cases J
 have n:=Cs CU 4 Et B (List.getElem?_eq_getElem E)
 refine gh ?_
 refine lq (Bb (cs:=CU vs[k]) rfl rfl rfl rfl rfl (λi v C=>(((n i v C).mono (c.trans j))).cj _)) ?_
 refine gr ?_
 exact⟨by unfold volV volE;rw[l];dsimp only;rw[m];rfl,rfl⟩
theorem E1(p:Po)(x:V5)(M:Mem)(h:PT5 M x p)(a:p.dead.length<=1000000)(q:Int):SpecL prog 64 #[.agg (AO x p.gen p.root p.next).toArray,.int .u32 q] M [] λu M' d=>u=.tuple #[.agg (CU (volV p q)).toArray,.int .i64 (volE p q)]/\d=[]:=by
 cases b:cens p.st p.root p.next p.dead with
 |none=>exact wJx p x M h a q b
 |some c=>obtain⟨vs,refs,nodes⟩:=c;exact wDa p x M h a q vs refs nodes b
def BK(p:Po):List Int:=match cens p.st p.root p.next p.dead with|none=>[]|some (_,refs,_)=>refs
theorem wDc(p:Po)(x:V5)(M:Mem)(h:PT5 M x p)(f:p.dead.length<=1000000)(d:cens p.st p.root p.next p.dead=none):
  SpecL prog 36 #[.agg (AO x p.gen p.root p.next).toArray] M [] λu M' i=>(∃(s:Sl),u=.tuple #[s.v,.int .i64 (Ax p)]/\s.n=(BK p).length/\s.n<=s.c/\SM M' s.a (Al (BK p))/\(Ax p=0->(BK p).length=256))/\i=[]:=by
 refine sB func36 ntmps36 ?_;intro W
 refine ga λj=>?_
 refine gc (Cu p _ M h.pt f) ?_;rintro _ k g b
 unfold TakeP at b
 rw[d]at b
 subst b
 refine gu ?_
 have e:BK p=[]:=by unfold BK;rw[d]
 exact⟨⟨⟨none,0,0⟩,by unfold Ax;rw[d];rfl,by rw[e];rfl,Nat.le_refl _,by rw[e];exact SM.nil,λh=>absurd h (by unfold Ax;rw[d];decide)⟩,rfl⟩
theorem YO(p:Po)(x:V5)(M:Mem)(h:PT5 M x p)(t:p.dead.length<=1000000)(vs:List Vo)(refs nodes:List Int)(f:cens p.st p.root p.next p.dead=some (vs,refs,nodes)):
  SpecL prog 36 #[.agg (AO x p.gen p.root p.next).toArray] M [] λu M' z=>(∃(s:Sl),u=.tuple #[s.v,.int .i64 (Ax p)]/\s.n=(BK p).length/\s.n<=s.c/\SM M' s.a (Al (BK p))/\(Ax p=0->(BK p).length=256))/\z=[]:=by
 refine sB func36 ntmps36 ?_;intro W
 refine ga λJ=>?_
 refine gc (Cu p _ M h.pt t) ?_;rintro _ K y d
 unfold TakeP at d
 rw[f]at d
 obtain⟨m,H,B,D,F,C,E,I,G,rfl,e,r,o,b,k⟩:=d
 refine gt ?_
 refine lq (wMn rfl rfl rfl) ?_
 refine gr ?_
 have g:BK p=refs:=by unfold BK;rw[f]
 exact⟨⟨⟨some ⟨m,6,none⟩,256,256⟩,by unfold Ax;rw[f],by rw[g,b],Nat.le_refl _,by rw[g];exact .inr ⟨m,6,rfl,λi u j=>EW e (by
  have l:i<256:=by have:=(List.getElem?_eq_some_iff.1 j).1;rw[Ay]at this;omega
  rw[KF b l rfl]
  rw[<-j];simp[Al,List.getD,b,l])⟩,λ_=>by rw[g];exact b⟩,rfl⟩
theorem JK(p:Po)(x:V5)(M:Mem)(h:PT5 M x p)(b:p.dead.length<=1000000):SpecL prog 36 #[.agg (AO x p.gen p.root p.next).toArray] M [] λu M' e=>(∃(s:Sl),u=.tuple #[s.v,.int .i64 (Ax p)]/\s.n=(BK p).length/\s.n<=s.c/\SM M' s.a (Al (BK p))/\(Ax p=0->(BK p).length=256))/\e=[]:=by
 cases d:cens p.st p.root p.next p.dead with
 |none=>exact wDc p x M h b d
 |some c=>obtain⟨vs,refs,nodes⟩:=c;exact YO p x M h b vs refs nodes d
theorem wCf(xs:List Int)(a:Option Addr)(c:Nat)(q:Int)(M:Mem)(hs:SM M a (Al xs))(B:xs.length<=1000000):
  SpecL prog 168 #[.slice a xs.length c,.int .i64 q] M [] λv _ _=>∃i:Int,v=.int .i64 i/\(0<=i↔q∈xs):=by
 refine sB func168 ntmps168 ?_;intro W
 refine gh ?_
 refine Cz (α:=Nat) (λk=>[(0,.slice a xs.length c),(1,.int .i64 q),(7,.int .i64 xs.length),(8,.int .i64 k)]) (λ_=>M) (λ_=>[]) (λk=>k<=xs.length/\∀j (f:j<xs.length),j<k->xs[j]≠q) (λk=>xs.length-k) 0 ⟨Nat.zero_le _,λ_ _ h=>absurd h (Nat.not_lt_zero _)⟩ ?_
 rintro k ⟨s,m⟩
 try dsimp only at s m⊢
 refine gj (λy=>?_) λy=>?_
 ·refine gh ?_
  have d:k<xs.length:=by omega
  obtain⟨o,n,z,r⟩:=hs.open (by intro e;have:=congrArg List.length e;rw[Ay,List.length_nil]at this;omega)
  cases z
  have l:CM M o (n+k) (.int .i64 xs[k]):=r k _ (by simp[Al,d])
  refine gh ?_
  refine lq (AE rfl rfl rfl rfl ((by rw[Int.toNat_natCast,Nat.mul_one];exact l:CM M o (n+((k:Nat):Int).toNat*1) _).cj _)) ?_
  refine gj (λb=>?_) λb=>?_
  ·refine gr ?_
   exact⟨(k:Int),rfl,λ_=>b▸List.getElem_mem d,λ_=>by omega⟩
  refine gh ?_
  refine H1 (k+1) (Keep.cons (t:=0) rfl (Keep.cons (t:=1) rfl (Keep.cons (t:=7) rfl (Keep.cons (t:=8) rfl Keep.nil)))) ⟨by show k+1<=xs.length;omega,λj f u=>by
   by_cases e:j=k
   ·subst e;exact λe=>b e.symm
   exact m j f (by omega)⟩ (by show xs.length-(k+1)<xs.length-k;omega) (λ_ h=>h)
 refine gr ?_
 have g:k=xs.length:=by omega
 subst g
 exact⟨-1,rfl,λh=>absurd h (by decide),λh=>by obtain⟨j,f,e⟩:=List.getElem_of_mem h;exact absurd e (m j f f)⟩
theorem YE(xs:List Int)(a:Option Addr)(c:Nat)(q:Int)(M:Mem)(hs:SM M a (Al xs))(b:xs.length<=1000000):
  SpecL prog 104 #[.slice a xs.length c,.int .i64 q] M [] λv _ _=>v=.bool (decide (q∈xs)):=by
 refine sB func104 ntmps104 ?_;intro W
 refine gC (wCf xs a c q M hs b) ?_;rintro _ f _ e ⟨i,rfl,d⟩
 refine gr ?_
 exact congrArg _ (decide_eq_decide.2 d)
set_option maxRecDepth 8000
set_option maxHeartbeats 40000000
variable{α:Type}
theorem Sj:∀(A L:List α),(∀f:α->Nat,(A.map f).sum<=(L.map f).sum)->∃G,L.Perm (A++G)
 |[],L,_=>⟨L,List.Perm.refl _⟩
 |a::A,L,h=>by
  classical
  have g:a∈L:=by
   refine Classical.byContradiction λe=>?_
   have c:=h λx=>if x=a then 1 else 0
   have j:∀(l:List α),a∉l->(l.map λx=>if x=a then 1 else 0).sum=0:=λl=>by
    induction l with
    |nil=>intro _;rfl
    |cons y l d=>intro b;simp only[List.mem_cons,not_or]at b;rw[List.map_cons,List.sum_cons,d b.2,if_neg (Ne.symm b.1)]
   rw[j L e]at c
   simp at c
  obtain⟨X,Y,rfl⟩:=List.append_of_mem g
  obtain⟨G,i⟩:=Sj A (X++Y) λf=>by
   have:=h f
   simp only[List.map_append,List.map_cons,List.sum_append,List.sum_cons]at this⊢
   omega
  exact⟨G,List.perm_middle.trans (List.Perm.cons a i)⟩
variable{E:Ent}{L:Lc}{M:Mem}
theorem St.subC{L':Lc}{w:World}(h:St E M L w)(a:∀f:Nat×Obj->Nat,(L'.map f).sum<=(L.map f).sum):St E M L' w:=by
 obtain⟨G,b⟩:=Sj _ _ a
 exact(h.perm b).fewer (List.sublist_append_left _ _)
def Kj(nodes:List Int)(n:Nat):List Int:=((List.range n).filter λk=>decide (0<nodes.getD k 0)).map λk:Nat=>(k:Int)
variable{k:Nat}
theorem Qc{nodes:List Int}:Kj nodes (k+1)=if 0<nodes.getD k 0 then Kj nodes k++[(k:Int)]else Kj nodes k:=by
 unfold Kj
 rw[List.range_succ,List.filter_append,List.map_append]
 split
 ·rename_i h;rw[List.filter_cons_of_pos (by simpa using h)];rfl
 rename_i h;rw[List.filter_cons_of_neg (by simpa using h)];simp
theorem SY(nodes:List Int)(n:Nat):(Kj nodes n).length<=n:=by
 unfold Kj;rw[List.length_map];exact Nat.le_trans (List.length_filter_le _ _) (by simp)
def BH(p:Po):List Int:=match cens p.st p.root p.next p.dead with|none=>[]|some (_,_,nodes)=>Kj nodes 256
variable{d:List Int}{r:Int}{s:Sto}
theorem wKo{n:Int}{x:List Vo×List Int×List Int}(h:cens s r n d=some x):Aq s/\d.length<=40:=by
 unfold cens at h
 split at h
 ·rename_i a;exact⟨a.1,a.2.1⟩
 cases h
def asE(p:Po)(v:Vo):Int:=match cens p.st p.root p.next p.dead with
 |none=>8
 |some (vs,refs,_)=>if v.id=0\/p.next<=v.id\/v.root<8\/256<=v.root then 2 else if Tv v.id vs=false/\16<=vs.length then 9 else if ((p.st.now.getD v.root.toNat 0).toNat:Int)<=refs.getD v.root.toNat 0 then 6 else if (fchk p.st v.root).2=0 then 0 else 8
theorem YR(p:Po)(x:V5)(M:Mem)(h:PT5 M x p)(f:p.dead.length<=1000000)(d:cens p.st p.root p.next p.dead=none):
  SpecL prog 103 #[.agg (AO x p.gen p.root p.next).toArray] M [] λu M' i=>(∃(s:Sl),u=.tuple #[s.v,.int .i64 (Ax p)]/\s.n=(BH p).length/\s.n<=s.c/\SM M' s.a (Al (BH p)))/\i=[]:=by
 refine sB func103 ntmps103 ?_;intro W
 refine ga λj=>?_
 refine gc (Cu p _ M h.pt f) ?_;rintro _ k g b
 unfold TakeP at b
 rw[d]at b
 subst b
 refine gu ?_
 have e:BH p=[]:=by unfold BH;rw[d]
 exact⟨⟨⟨none,0,0⟩,by unfold Ax;rw[d];rfl,by rw[e];rfl,Nat.le_refl _,by rw[e];exact SM.nil⟩,rfl⟩
theorem VP(p:Po)(x:V5)(M:Mem)(h:PT5 M x p)(U:p.dead.length<=1000000)(vs:List Vo)(refs nodes:List Int)(G:cens p.st p.root p.next p.dead=some (vs,refs,nodes)):
  SpecL prog 103 #[.agg (AO x p.gen p.root p.next).toArray] M [] λu M' L'=>(∃(s:Sl),u=.tuple #[s.v,.int .i64 (Ax p)]/\s.n=(BH p).length/\s.n<=s.c/\SM M' s.a (Al (BH p)))/\L'=[]:=by
 refine sB func103 ntmps103 ?_;intro W
 refine ga λO=>?_
 refine gc (Cu p _ M h.pt U) ?_;rintro _ M1 X o
 unfold TakeP at o
 rw[G]at o
 obtain⟨cb,kb,kw,kn,kl,kp,km,ka,kc,rfl,E,S,Q,B,l⟩:=o
 refine gt ?_
 refine Kn rfl rfl (Bb (cs:=Al nodes) rfl rfl rfl rfl (by rw[Ay];exact l) (λj v t=>(EW E (by
  have L:j<256:=by have:=(List.getElem?_eq_some_iff.1 t).1;rw[Ay]at this;omega
  show (Cm _ _ _ _ _ _ _ _ _)[262+j]? =_
  rw[RL B l L rfl,<-t];simp[Al,List.getD,l,L])).cj _)) ?_
 refine gh ?_
 refine Cz (α:=Nat×Value×Lc×List Int) (λz=>[(1,pB O),(2,z.2.1),(18,.agg (Al nodes).toArray),(19,.int .i64 z.1)]) (λ_=>M1) (λz=>z.2.2.1++[(O,cE (AO x p.gen p.root p.next) QJ)]) (λz=>z.1<=256/\Own z.2.1 z.2.2.1 3 1 z.2.2.2.length (Al z.2.2.2)/\z.2.2.2=Kj nodes z.1) (λz=>256-z.1) (0,.slice none 0 0,[],[]) ⟨Nat.zero_le _,Own.nil _ _,rfl⟩ ?_
 rintro⟨k,v,R,b⟩ ⟨T,d,e⟩
 try dsimp only at T d e⊢
 obtain⟨K,J,t⟩:=d.form
 subst t
 refine gj (λI=>?_) λI=>?_
 ·refine gh ?_
  have D:k<256:=by omega
  refine lq (Z7 (v:=.int .i64 (nodes.getD k 0)) rfl rfl rfl rfl rfl (by omega) (by rw[Nat.mul_one,Int.toNat_natCast];simp[Al,List.getD,l,D])) ?_
  refine gj (λr=>?_) λr=>?_
  ·refine gh ?_
   refine lh (Aa (cs:=[_]) rfl rfl rfl (by rfl) (by rfl) (by rfl)) ?_;rintro _ _ _ ⟨aa,rfl,rfl,rfl⟩
   have H:=SY nodes k
   rw[<-e]at H
   refine lh (Ba (R:=R) (m:=1) (news:=[Value.int .i64 k]) rfl rfl rfl rfl d rfl (λi v t=>CJ.loc (by simpa using t)) rfl (by rfl) (by simp[Value.oneCell']) (by omega) (by omega)) ?_;rintro s' _ _ ⟨rfl,P,rfl,g,_⟩
   obtain⟨a4,Z,rfl⟩:=g.form
   refine gh ?_
   refine Bw (k+1,.slice a4 (b.length+1) Z,P,b++[(k:Int)]) ⟨by show k+1<=256;omega,by show Own _ P _ 1 (b++[_]).length (Al (b++[_]));rw[List.length_append];unfold Al at g ⊢;rw[List.map_append];exact g,by show b++[_]=Kj nodes (k+1);rw[Qc,if_pos r,e]⟩ (hs:=λ_ h=>h.subC λf=>by simp only[List.map_append,List.map_cons,List.map_nil,List.sum_append,List.sum_cons,List.sum_nil];omega)
  refine gh ?_
  refine Bw (k+1,.slice K b.length J,R,b) ⟨by show k+1<=256;omega,d,by show b=Kj nodes (k+1);rw[Qc,if_neg r,e]⟩
 refine gh ?_
 have C:k=256:=by omega
 subst C
 refine Cj d (by simp) ?_
 intro M2 a2 c2 V Y F y;cases Y
 refine gr ?_
 have N:BH p=b:=by unfold BH;rw[G];exact e.symm
 exact⟨⟨⟨K,b.length,J⟩,by unfold Ax;rw[G],by rw[N],F,by rw[N];exact y⟩,rfl⟩
theorem TF(p:Po)(x:V5)(M:Mem)(h:PT5 M x p)(b:p.dead.length<=1000000):SpecL prog 103 #[.agg (AO x p.gen p.root p.next).toArray] M [] λu M' e=>(∃(s:Sl),u=.tuple #[s.v,.int .i64 (Ax p)]/\s.n=(BH p).length/\s.n<=s.c/\SM M' s.a (Al (BH p)))/\e=[]:=by
 cases d:cens p.st p.root p.next p.dead with
 |none=>exact YR p x M h b d
 |some c=>obtain⟨vs,refs,nodes⟩:=c;exact VP p x M h b vs refs nodes d
theorem wKb(p:Po)(x:V5)(M:Mem)(h:PT5 M x p)(c:p.dead.length<=1000000)(v:Vo)(b:cens p.st p.root p.next p.dead=none):
  SpecL prog 91 #[.agg (AO x p.gen p.root p.next).toArray,.agg (CU v).toArray] M [] λu M' e=>u=.int .i64 (asE p v)/\e=[]:=by
 refine sB func91 ntmps91 ?_;intro W
 refine EV λg f=>?_
 refine gc (Cu p _ M h.pt c) ?_;rintro _ i d a
 unfold TakeP at a
 rw[b]at a
 subst a
 refine gu ?_
 exact⟨by unfold asE;rw[b];rfl,rfl⟩
theorem wDm(p:Po)(x:V5)(M:Mem)(h:PT5 M x p)(T:p.dead.length<=1000000)(v:Vo)(vs:List Vo)(refs nodes:List Int)(f:cens p.st p.root p.next p.dead=some (vs,refs,nodes)):
  SpecL prog 91 #[.agg (AO x p.gen p.root p.next).toArray,.agg (CU v).toArray] M [] λu M' U=>u=.int .i64 (asE p v)/\U=[]:=by
 obtain⟨F,_⟩:=wKo f
 have R:p.st.now.length=256:=F.2.1.1
 refine sB func91 ntmps91 ?_;intro W
 refine EV λb2 O=>?_
 refine gc (Cu p _ M h.pt T) ?_;rintro _ M1 l o
 unfold TakeP at o
 rw[f]at o
 obtain⟨cb,kb,V,Y,kl,X,Z,Q,P,rfl,k,S,G,g,m⟩:=o
 refine gt ?_
 refine gj (λN=>?_) λN=>?_
 ·refine gr ?_
  refine⟨?_,rfl⟩
  unfold asE;rw[f];dsimp only
  first|rw[if_pos (by omega)]|(rw[if_neg (by omega)];first|rw[if_pos ⟨by assumption,by omega⟩]|(rw[if_neg (λa=>by first|(have:=a.2;omega)|(rw[c]at a;cases a.1))];first|rw[if_pos (by omega)]|(rw[if_neg (by omega)];first|rw[if_pos (by omega)]|rw[if_neg (by omega)])))
 refine gj (λL=>?_) λL=>?_
 ·refine gr ?_
  refine⟨?_,rfl⟩
  unfold asE;rw[f];dsimp only
  first|rw[if_pos (by omega)]|(rw[if_neg (by omega)];first|rw[if_pos ⟨by assumption,by omega⟩]|(rw[if_neg (λa=>by first|(have:=a.2;omega)|(rw[c]at a;cases a.1))];first|rw[if_pos (by omega)]|(rw[if_neg (by omega)];first|rw[if_pos (by omega)]|rw[if_neg (by omega)])))
 refine gj (λK=>?_) λK=>?_
 ·refine gr ?_
  refine⟨?_,rfl⟩
  unfold asE;rw[f];dsimp only
  first|rw[if_pos (by omega)]|(rw[if_neg (by omega)];first|rw[if_pos ⟨by assumption,by omega⟩]|(rw[if_neg (λa=>by first|(have:=a.2;omega)|(rw[c]at a;cases a.1))];first|rw[if_pos (by omega)]|(rw[if_neg (by omega)];first|rw[if_pos (by omega)]|rw[if_neg (by omega)])))
 refine gj (λJ=>?_) λJ=>?_
 ·refine gr ?_
  refine⟨?_,rfl⟩
  unfold asE;rw[f];dsimp only
  first|rw[if_pos (by omega)]|(rw[if_neg (by omega)];first|rw[if_pos ⟨by assumption,by omega⟩]|(rw[if_neg (λa=>by first|(have:=a.2;omega)|(rw[c]at a;cases a.1))];first|rw[if_pos (by omega)]|(rw[if_neg (by omega)];first|rw[if_pos (by omega)]|rw[if_neg (by omega)])))
 refine gh ?_
 refine lq (AE rfl rfl rfl rfl ((EW k (FQ g m)).cj _)) ?_
 refine gh ?_
 refine Cx O (by simp) ?_
 intro z d t
 refine Br rfl rfl (CG rfl rfl rfl rfl rfl (by kernel_rfl) (XD vs Q P _ _ v.id z (G.mono d) (by kernel_rfl) (λw=>Zd v w O z t) (TX f))) (λc=>?_) (λc=>?_)
 ·refine gh ?_
  refine JG [0,1,2,3,4,5,6,7,8,9,10,11,12,13,14,15] ?_
  refine gh ?_
  refine dq rfl (AE rfl rfl rfl rfl (CM.cj ⟨_,_,_,t,rfl⟩ _)) ?_
  obtain⟨D,C,y,B⟩:=h.n.sm.open (by intro e;have:=congrArg List.length e;rw[Af,List.length_nil]at this;omega)
  have E:x.n.n=p.st.now.length:=h.n.len
  have H:=(p.st.now.getD v.root.toNat 0).toNat_lt
  refine dq rfl (Ca (b:=D) (off:=C) rfl rfl (by show some (Value.slice _ _ _)=_;rw[y]) rfl (by omega)) ?_
  refine dq rfl (AE (v:=.int .u8 ((p.st.now.getD v.root.toNat 0).toNat:Int)) rfl rfl rfl rfl (((B _ _ (by rw[Nat.mul_one];exact Cc (xs:=p.st.now) (j:=v.root.toNat) (by omega))).mono (l.trans d)).cj _)) ?_
  refine dq rfl (B7 rfl rfl rfl (by omega)) ?_
  refine gh ?_
  refine dq rfl (AE rfl rfl rfl rfl (CM.cj ⟨_,_,_,t,rfl⟩ _)) ?_
  refine gh ?_
  refine dq rfl (GU rfl rfl rfl rfl (by omega)) ?_
  refine dq rfl (AE rfl rfl rfl rfl (((EW k (KF g (i:=v.root.toNat) (by omega) (by omega))).mono d).cj _)) ?_
  refine gj (λs=>?_) λs=>?_
  ·refine gr ?_
   refine⟨?_,rfl⟩
   unfold asE;rw[f];dsimp only
   first|rw[if_pos (by omega)]|(rw[if_neg (by omega)];first|rw[if_pos ⟨by assumption,by omega⟩]|(rw[if_neg (λa=>by first|(have:=a.2;omega)|(rw[c]at a;cases a.1))];first|rw[if_pos (by omega)]|(rw[if_neg (by omega)];first|rw[if_pos (by omega)]|rw[if_neg (by omega)])))
  refine gh ?_
  refine lq (AE rfl rfl rfl rfl (CM.cj ⟨_,_,_,t,rfl⟩ _)) ?_
  refine gQ (Hw p.st _ v.root z ((h.mono l).mono d).st) ?_
  refine gj (λr=>?_) λr=>?_
  ·refine gr ?_
   refine⟨?_,rfl⟩
   unfold asE;rw[f];dsimp only
   first|rw[if_pos (by omega)]|(rw[if_neg (by omega)];first|rw[if_pos ⟨by assumption,by omega⟩]|(rw[if_neg (λa=>by first|(have:=a.2;omega)|(rw[c]at a;cases a.1))];first|rw[if_pos (by omega)]|(rw[if_neg (by omega)];first|rw[if_pos (by omega)]|rw[if_neg (by omega)])))
  refine gr ?_
  refine⟨?_,rfl⟩
  unfold asE;rw[f];dsimp only
  first|rw[if_pos (by omega)]|(rw[if_neg (by omega)];first|rw[if_pos ⟨by assumption,by omega⟩]|(rw[if_neg (λa=>by first|(have:=a.2;omega)|(rw[c]at a;cases a.1))];first|rw[if_pos (by omega)]|(rw[if_neg (by omega)];first|rw[if_pos (by omega)]|rw[if_neg (by omega)])))
 refine gh ?_
 refine lq (AE rfl rfl rfl rfl (((EW k (FQ g m)).mono (d)).cj _)) ?_
 refine gj (λI=>?_) λI=>?_
 ·refine gr ?_
  refine⟨?_,rfl⟩
  unfold asE;rw[f];dsimp only
  first|rw[if_pos (by omega)]|(rw[if_neg (by omega)];first|rw[if_pos ⟨by assumption,by omega⟩]|(rw[if_neg (λa=>by first|(have:=a.2;omega)|(rw[c]at a;cases a.1))];first|rw[if_pos (by omega)]|(rw[if_neg (by omega)];first|rw[if_pos (by omega)]|rw[if_neg (by omega)])))
 refine gh ?_
 refine JG [0,1,2,3,4,5,6,7,8,9,10,11,12,13,14,15] ?_
 refine gh ?_
 refine dq rfl (AE rfl rfl rfl rfl (CM.cj ⟨_,_,_,t,rfl⟩ _)) ?_
 obtain⟨D,C,y,B⟩:=h.n.sm.open (by intro e;have:=congrArg List.length e;rw[Af,List.length_nil]at this;omega)
 have E:x.n.n=p.st.now.length:=h.n.len
 have H:=(p.st.now.getD v.root.toNat 0).toNat_lt
 refine dq rfl (Ca (b:=D) (off:=C) rfl rfl (by show some (Value.slice _ _ _)=_;rw[y]) rfl (by omega)) ?_
 refine dq rfl (AE (v:=.int .u8 ((p.st.now.getD v.root.toNat 0).toNat:Int)) rfl rfl rfl rfl (((B _ _ (by rw[Nat.mul_one];exact Cc (xs:=p.st.now) (j:=v.root.toNat) (by omega))).mono (l.trans d)).cj _)) ?_
 refine dq rfl (B7 rfl rfl rfl (by omega)) ?_
 refine gh ?_
 refine dq rfl (AE rfl rfl rfl rfl (CM.cj ⟨_,_,_,t,rfl⟩ _)) ?_
 refine gh ?_
 refine dq rfl (GU rfl rfl rfl rfl (by omega)) ?_
 refine dq rfl (AE rfl rfl rfl rfl (((EW k (KF g (i:=v.root.toNat) (by omega) (by omega))).mono d).cj _)) ?_
 refine gj (λs=>?_) λs=>?_
 ·refine gr ?_
  refine⟨?_,rfl⟩
  unfold asE;rw[f];dsimp only
  first|rw[if_pos (by omega)]|(rw[if_neg (by omega)];first|rw[if_pos ⟨by assumption,by omega⟩]|(rw[if_neg (λa=>by first|(have:=a.2;omega)|(rw[c]at a;cases a.1))];first|rw[if_pos (by omega)]|(rw[if_neg (by omega)];first|rw[if_pos (by omega)]|rw[if_neg (by omega)])))
 refine gh ?_
 refine lq (AE rfl rfl rfl rfl (CM.cj ⟨_,_,_,t,rfl⟩ _)) ?_
 refine gQ (Hw p.st _ v.root z ((h.mono l).mono d).st) ?_
 refine gj (λr=>?_) λr=>?_
 ·refine gr ?_
  refine⟨?_,rfl⟩
  unfold asE;rw[f];dsimp only
  first|rw[if_pos (by omega)]|(rw[if_neg (by omega)];first|rw[if_pos ⟨by assumption,by omega⟩]|(rw[if_neg (λa=>by first|(have:=a.2;omega)|(rw[c]at a;cases a.1))];first|rw[if_pos (by omega)]|(rw[if_neg (by omega)];first|rw[if_pos (by omega)]|rw[if_neg (by omega)])))
 refine gr ?_
 refine⟨?_,rfl⟩
 unfold asE;rw[f];dsimp only
 first|rw[if_pos (by omega)]|(rw[if_neg (by omega)];first|rw[if_pos ⟨by assumption,by omega⟩]|(rw[if_neg (λa=>by first|(have:=a.2;omega)|(rw[c]at a;cases a.1))];first|rw[if_pos (by omega)]|(rw[if_neg (by omega)];first|rw[if_pos (by omega)]|rw[if_neg (by omega)])))
set_option maxRecDepth 8000
section
variable{P:Program}{ops:Array Oper}{N:Fs}{F:Fr}{M:Mem}{L:Lc}{o:Oper}
theorem HF.monoB{E:Ent}{K g:Value->Mem->Lc->Prop}(h:HF P ops N F E M L o K)(hk:∀w v M' L',K v M' L'->St E M' L' w->∃b c,St E b c w/\g v b c):HF P ops N F E M L o g:=λa w f d=>
 ⟨(h a w f d).1,λQ=>Oper.wpIn_mono (λn i ⟨v,M',L',e,j,k⟩=>by
  obtain⟨b,c,m,l⟩:=hk i v M' L' k j
  exact⟨v,b,c,e,m,l⟩) ((h a w f d).2 Q)⟩
end
def PP:It:=⟨⟨0,0,0⟩,0,[]⟩
variable{M':Mem}{root:Int}{s:Sto}{u:Value}
theorem wDk{q:Ky}(h:FdPost s root q u M'):∃(y:It)(c:Value)(a:Int),u=.tuple #[.agg #[.int .u8 y.key.kind,.int .u32 y.key.id,.int .u32 y.key.off,.int .i64 y.ref,c],.int .i64 a]/\BS M' c y.val/\
  ((fchk s root).2=0->(fnd s root q=some y/\a=0)\/(fnd s root q=none/\a=6/\y=PP)):=by
 unfold FdPost at h
 by_cases b:(fchk s root).2=0
 ·rw [if_pos b]at h
  revert h
  cases j:fnd s root q with
  |none=>exact λh=>⟨PP,.slice none 0 0,6,h,BS.nil,λ_=>.inr ⟨rfl,rfl,rfl⟩⟩
  |some y=>exact λ⟨e,d,i,g,f⟩=>⟨y,.slice e y.val.length d,0,i,⟨e,d,rfl,g,f⟩,λ_=>.inl ⟨rfl,rfl⟩⟩
 rw[if_neg b]at h
 exact⟨PP,.slice none 0 0,_,h,BS.nil,λh=>absurd h b⟩
set_option maxRecDepth 8000
section
variable{P:Program}{ops:Array Oper}{N:Fs}{F:Fr}{E:Ent}{M:Mem}{L:Lc}{o:Oper}
theorem PI(z:List Value)(a:Nat)(c:z.length=a):∀n,(Builtin.zeroCells z.toArray n).toList=(List.replicate n z).flatten:=λn=>by
 have e:∀n,(List.range (n*a)).map (λi=>z[i%a]!)=(List.replicate n z).flatten:=by
  intro n
  induction n with
  |zero=>simp
  |succ n d=>
   rw[Nat.succ_mul,List.range_add,List.map_append,d,List.replicate_succ',List.flatten_append]
   congr 1
   rw[List.map_map]
   apply List.ext_getElem
   ·simp [c]
   intro i f h
   have b:i<a:=by simpa using f
   have:(n*a+i)%a=i:=by rw[Nat.mul_comm,Nat.mul_add_mod,Nat.mod_eq_of_lt b]
   simp[this,c,b]
 rw[<-e]
 simp only[Builtin.zeroCells,Array.toList_map,Array.toList_range]
 simp only[List.size_toArray,c]
 apply List.map_congr_left
 intro i g
 simp
theorem VD{x:Operand}{t e:TypeId}{b off n c f r:Nat}{z l:List Value}{i:TypeId}{L':Lc}(S:gd ops F o=some true)
  (K:o.op=.call { callee:=.builtin .clear,args:=#[x],argTypes:=#[t] }) (I:ev F x=some (.slice (some ⟨b,off,none⟩) n c)) [J:Und P t (.slice e)] [C:Lay P e f r z]
  (Y:0<n) (V:∀v∈z,v.oneCell'=true) [at_:At b (.cells l.toArray i (0,0)) L] (D:off+n*f<=l.length)
  [hp:PutAt b (.cells l.toArray i (0,0)) (.cells (l.take off++(List.replicate n z).flatten++l.drop (off+((List.replicate n z).flatten).length)).toArray i (0,0)) L L']:
  HF P ops N F E M L o (λ_ M' s=>M=M'/\s=L'):=Dw S λa w U u=>by
 obtain⟨X,W,R,Q,O,G,j⟩:=C.info
 have T:=(u.locs _ at_.mem).1
 have d:=C.len
 have B:((List.replicate n z).flatten).length=n*f:=by simp[d]
 refine⟨.tuple #[],_,M,L',.inl ?_,u.put hp,rfl,rfl⟩
 have m:=run_storeCells_at P b off i ((List.replicate n z).flatten) 0 l.toArray w T (by simp[d];omega) (λv g=>by
  obtain⟨y,H,g⟩:=List.mem_flatten.1 g
  rw[(List.mem_replicate.1 H).2]at g;exact V v g)
 obtain⟨k,rfl⟩:∃k,n=k+1:=⟨n-1,by omega⟩
 simp[execOp,K,resolve,invoke,builtin,U.ev I,Builtin.clear_,run_underlying J.h,zeroValue,typeInfo,R,G,j,PI z f d,m]
theorem Pe{x y:Operand}{t e:TypeId}{b off n c m u:Nat}{i:Option Addr}{d:Nat}{l cs:List Value}{k:TypeId}{L':Lc}{J:Nat}{z:List Value}(Y:gd ops F o=some true)
  (V:o.op=.call { callee:=.builtin .append,args:=#[x,y],argTypes:=#[t,t] }) (S:ev F x=some (.slice (some ⟨b,off,none⟩) n c)) (R:ev F y=some (.slice i m u)) [U:Und P t (.slice e)] [W:Lay P e d J z]
  (D:cs.length=m*d) (I:SJ M L i cs) (h1:∀v∈cs,v.oneCell'=true) (f:n+m<=c) [at_:At b (.cells l.toArray k (0,0)) L] (O:off+n*d+cs.length<=l.length)
  [hp:PutAt b (.cells l.toArray k (0,0)) (.cells (l.take (off+n*d)++cs++l.drop (off+n*d+cs.length)).toArray k (0,0)) L L']:
  HF P ops N F E M L o (λv M' K=>v=.slice (some ⟨b,off,none⟩) (n+m) c/\M=M'/\K=L'):=Dw Y λa w Q B=>by
 obtain⟨ti,zv,X,G,_⟩:=W.info
 have hb:=(B.locs _ at_.mem).1
 refine⟨_,_,M,L',.inl ?_,B.put hp,rfl,rfl,rfl⟩
 have C:=run_storeCells_at P b (off+n*d) k cs 0 l.toArray w hb (by simp;omega) h1
 have H:(Builtin.firstCells d m (.slice i m u)).run P w=.ok cs.toArray w:=by
  rcases I with rfl|⟨s,r,rfl,Z⟩
  ·rw [List.length_nil]at D
   have h0:m*d=0:=D.symm
   cases i<;>simp[Builtin.firstCells,h0,loadCells,loadCellsFrom]
  have g:∀j,(⟨s,r,none⟩:Addr).add j=⟨s,r+j,none⟩:=λj=>by unfold Addr.add;split<;>simp_all
  exact run_firstCells_some (P:=P) w d m ⟨s,r,none⟩ m u cs D (λj v T=>by rw[g];exact(Z j v T).cell B.js)
 simp[execOp,V,resolve,invoke,builtin,Q.ev S,Q.ev R,Builtin.append_,run_underlying U.h,sizeOf,typeInfo,X,G,Builtin.lenOf,f,H,Addr.add_lit,C]
theorem YG{x y:Operand}{t l e:TypeId}{k G:IntKind}{n c f:Nat}{z:List Value}(hg:gd ops F o=some true)
  (W:o.op=.call { callee:=.builtin .append,args:=#[x,y],argTypes:=#[t,l] }) (S:ev F x=some (.slice none 0 0)) (R:ev F y=some (.int k n)) [U:Und P t (.slice e)] [u:Und P l (.int G)] [I:Lay P e c f z]
  (s:Nat.blt 0 c=true) (h0:0<n) (X:n<=1000000000) (D:f<=100000):
  HF P ops N F E M L o (λK M' L'=>M=M'/\∃b g d,K=.slice (some ⟨b,0,none⟩) n g/\L'=(b,.cells d e (0,0))::L/\n<=g/\g<=maxLen/\d.size=g*c):=Dw hg λa w J T=>by
 obtain⟨O,j,Z,Y,B,Q,r⟩:=I.info
 have m:j.cells.size=c:=by rw[r];simpa using I.len
 have V:0<c:=by simpa [Nat.blt_eq]using s
 have hb:n*f<=1000000000*100000:=Nat.mul_le_mul X D
 have H:=Go.Lib.run_append_nil_zeros (P:=P) w t l o.type e O j k G U.h u.h Z Q n h0 (by omega) (by omega) (by rw[B];omega)
 have C:=grownCap_ge w n 0 e
 have i:(Builtin.zeroCells j.cells n++Builtin.zeroCells j.cells (grownCap w n 0 e-n)).size=grownCap w n 0 e*c:=by
  simp only[Array.size_append,size_zeroCells,m,<-Nat.add_mul];congr 1;omega
 generalize Builtin.zeroCells j.cells n++Builtin.zeroCells j.cells (grownCap w n 0 e-n)=d at H i
 have hd:St E M L w.drew:={ T with }
 refine⟨_,w.drew.alloc (.cells d e),M,(w.drew.heap.size,.cells d e (0,0))::L,.inl ?_,hd.alloc (.cells d e),rfl,w.heap.size,_,d,rfl,rfl,C,grownCap_le_maxLen w n 0 e (by unfold maxLen;omega),i⟩
 simp[execOp,W,resolve,invoke,builtin,J.ev S,J.ev R,H]
theorem Ri{t e:TypeId}{n:Nat}{ps:List (Nat×Operand)}{vs:List (Nat×Value)}{c B:Nat}{z cs:List Value}(T:gd ops F o=some true)(G:o.op=.buildSlice t n ps.toArray)(Q:evp F ps=some vs)[D:Und P t (.slice e)][I:Lay P e c B z]
  (U:GW (λi=>some (i*c,c)) (List.replicate n z).flatten vs=some cs) (d:Nat.ble (n*c) 16777216=true) (g:Nat.blt 0 c=true):
  HF P ops N F E M L o (λv M' Z=>∃b,v=.slice (some ⟨b,0,none⟩) n n/\M=M'/\Z=(b,.cells cs.toArray e (0,0))::L/\E.W.heap.size<=b):=Dw T λa w V C=>by
 have f:=I.len
 obtain⟨ti,zv,u,k,_,O,m⟩:=I.info
 refine⟨_,_,M,_,.inl ?_,C.alloc (.cells cs.toArray e (0,0)),_,rfl,rfl,rfl,C.size⟩
 have J:=V.evp Q
 have X:((ps.toArray).map λx=>(x.1,a.eval x.2)).toList=vs:=by rw[<-J];simp
 have R:¬(16777216<n*c):=by simpa [Nat.ble_eq]using d
 have h0:0<c:=by simpa [Nat.blt_eq]using g
 have l:(Array.range (n*c)).map (λi=>z.toArray[i%z.toArray.size]!)=((List.replicate n z).flatten).toArray:=by
  have S:∀n,(List.range (n*c)).map (λi=>z[i%c]!)=(List.replicate n z).flatten:=by
   intro n
   induction n with
   |zero=>simp
   |succ n K=>
    rw[Nat.succ_mul,List.range_add,List.map_append,K,List.replicate_succ',List.flatten_append]
    congr 1
    rw[List.map_map]
    apply List.ext_getElem
    ·simp [f]
    intro i Y h2
    have j:i<c:=by simpa using Y
    have:(n*c+i)%c=i:=by rw[Nat.mul_comm,Nat.mul_add_mod,Nat.mod_eq_of_lt j]
    simp[this,f,j]
  apply Array.ext'
  simp only[Array.toList_map,Array.toList_range]
  rw[<-S n]
  apply List.map_congr_left
  intro i u
  simp[f]
 have y:=MR (λi=>some (i*c,c)) vs _ _ U
 by_cases H:n*c=0
 ·have s:n=0:=by rcases Nat.mul_eq_zero.1 H with h|h<;>omega
  subst s
  simp only[List.replicate_zero,List.flatten_nil]at y
  simp[execOp,G,Instr.buildSlice,run_underlying D.h,sizeOf,typeInfo,u,k,J,y,newRow,Array.range_zero']
 have r:¬(n*c>2 ^ 24):=R
 simp only[execOp,G,Instr.buildSlice,Sem.run_bind,run_underlying D.h,Result.andThen_ok,sizeOf,typeInfo,run_program,u,Sem.run_pure,k,if_neg r,if_neg H,zeroValue,O,m,X,l,y]
 simp[newRow]
theorem Jf{W:World}{X:List Nat}{g:Mem}{t e:TypeId}{n:Nat}{ps:List (Nat×Operand)}{vs:List (Nat×Value)}{c f:Nat}{z cs:List Value}(u:∀x∈X,x<W.heap.size)(r:gd ops F o=some true)(m:o.op=.buildSlice t n ps.toArray)(k:evp F ps=some vs)[J:Und P t (.slice e)][K:Lay P e c f z]
  (s:GW (λi=>some (i*c,c)) (List.replicate n z).flatten vs=some cs) (a:Nat.ble (n*c) 16777216=true) (d:Nat.blt 0 c=true):
  HF P ops N F ⟨W,X,g⟩ M L o (λv M' h=>∃b,v=.slice (some ⟨b,0,none⟩) n n/\h=L/\MLe M M'/\M' b=some (.cells cs.toArray e (0,0))):=
 (Ri (E:=⟨W,X,g⟩) r m k s a d).monoB λw v M' h ⟨b,I,H,G,D⟩ l=>by
  subst H;subst G
  obtain⟨C,B,y⟩:=St.freeze' (λj=>by have:=u b j;have O:W.heap.size<=b:=D;omega) l
  exact⟨_,_,C,b,I,rfl,B,y⟩
end
set_option maxRecDepth 8000
def nxt(w:Stp):Option Nat:=if w.at_+1=w.xs.length then (if w.at_=0 then none else some (w.at_-1))else some (w.at_+1)
def AA(t:Sto)(w:Stp)(l:List It):List It×Nat×Nat:=match nxt w with
 |none=>(l,w.at_,1)
 |some p=>match w.xs[p]? with
  |none=>(l,w.at_,1)
  |some y=>if 5<(kid t y).length+l.length then (l,w.at_,1)else if p<w.at_ then (kid t y++l,p,2)else (l++kid t y,w.at_,2)
def Cb(t:Sto)(lv:Int)(l:List It)(held:Int):Except Int (Sto×Int):=
 if mkE t lv l=0 then
  (if 0<held then (if looseE (mkS t lv l) held.toNat=0 then .ok (AF (mkS t lv l) held.toNat,(mkAt (Ag t l):Int))else .error (looseE (mkS t lv l) held.toNat))
  else .ok (mkS t lv l,(mkAt (Ag t l):Int)))
 else .error (mkE t lv l)
def Gm(w:Stp):List It:=w.xs.take w.at_++w.xs.drop (w.at_+1)
def PK(w:Stp)(j:List It×Nat×Nat)(a:Int):List It:=w.xs.take j.2.1++[⟨Bt j.1,a,[]⟩]++w.xs.drop (j.2.1+j.2.2)
def wFm(t:Sto)(w:Stp)(l:List It)(held:Int):Except Int (Sto×List It×Int):=
 if l=[]then .ok (t,Gm w,0)
 else match Cb t (w.lv-1) (AA t w l).1 held with
  |.error e=>.error e
  |.ok (u,a)=>.ok (u,PK w (AA t w l) a,a)
def dn(s:Sto)(l0:List It):List Stp->Except Int (Sto×List It×Int)
 |[]=>.ok (s,l0,0)
 |w::ws=>match dn s l0 ws with
  |.error e=>.error e
  |.ok (t,l,held)=>wFm t w l held
def Ds:Nat->Sto->Int->Except Int (Sto×Int)
 |0,t,r=>.ok (t,r)
 |n+1,t,r=>match Ai t r.toNat with
  |none=>.error 8
  |some (lv,xs)=>if lv=0 then .ok (t,r)else match xs with
   |[x]=>if shareE t x.ref.toNat=0 then (match leave (AQ t x.ref.toNat) r with
     |none=>.error 8
     |some u=>Ds n u x.ref)else .error (shareE t x.ref.toNat)
   |_=>.ok (t,r)
def HC(n:Int):Except Int (Sto×List It×Int)->Except Int (Sto×Int)
 |.error e=>.error e
 |.ok (t,l,held)=>Cb t (if l=[]then 0 else n) l held
def Lq:Except Int (Sto×Int)->Except Int (Sto×Int)
 |.error e=>.error e
 |.ok (t,a)=>Ds 7 t a
def HD(root:Int):Except Int (Sto×Int)->Except Int (Sto×Int)
 |.error e=>.error e
 |.ok (t,r)=>match leave t root with
  |none=>.error 8
  |some u=>.ok (u,r)
def Dt(ws:List Stp):List It:=match ws.getLast? with|some w=>Gm w|none=>[]
def Jh(s:Sto)(root:Int)(ws:List Stp):Except Int (Sto×Int):=HD root (Lq (HC ((ws.length:Int)-1) (dn s (Dt ws) ws.dropLast)))
def GO(s:Sto)(root:Int)(q:Ky):Except Int (Sto×Int):=
 if (fchk s root).2=0 then
  match Ai s root.toNat with
  |none=>.error 8
  |some (lv,xs)=>match Bg s q lv.toNat xs with
   |none=>.error 6
   |some _=>Jh s root (Av s q lv.toNat xs)
 else .error (fchk s root).2
variable{k:Nat}{s:Sto}
theorem FK(hk:k<s.now.length)(g:2<=(s.now.getD k 0).toNat):ExtB s (AF s k)/\∀n,Ai (AF s k) n=Ai s n:=by
 have d:¬s.now.getD k 0=0:=FG (by omega)
 have c:=MD d
 have a:∀n,(AF s k).now.getD n 0=0↔s.now.getD n 0=0:=λn=>by
  show (s.now.set k _).getD n 0=0↔_
  by_cases e:n=k
  ·subst e;rw[AU hk]
   exact⟨λh=>by rw[h]at c;have i:(0:By).toNat=0:=rfl;omega,λh=>absurd h d⟩
  rw[Az e]
 have b:∀n,Ai (AF s k) n=Ai s n:=λn=>by
  have f:seen (AF s k) n=seen s n:=rfl
  unfold Ai
  rw[f]
  by_cases h:s.now.getD n 0=0
  ·rw [if_pos h,if_pos ((a n).2 h)]
  rw[if_neg h,if_neg λe=>h ((a n).1 e)]
 exact⟨⟨λn r h=>by rw[b];exact h,λn h e=>h ((a n).1 e)⟩,b⟩
theorem FC(hk:k<s.now.length)(h:shareE s k=0):ExtB s (AQ s k)/\∀n,Ai (AQ s k) n=Ai s n:=by
 obtain⟨i,c⟩:=HP h
 have f:=Gu hk c
 have a:∀n,(AQ s k).now.getD n 0=0↔s.now.getD n 0=0:=λn=>by
  have g:(0:By).toNat=0:=rfl
  by_cases e:n=k
  ·subst e
   have:=f n
   rw[if_pos rfl]at this
   exact⟨λh=>by rw[h]at this;omega,λh=>absurd h i⟩
  show (s.now.set k _).getD n 0=0↔_
  rw[Az e]
 have b:∀n,Ai (AQ s k) n=Ai s n:=λn=>by
  have d:seen (AQ s k) n=seen s n:=rfl
  unfold Ai
  rw[d]
  by_cases h:s.now.getD n 0=0
  ·rw [if_pos h,if_pos ((a n).2 h)]
  rw[if_neg h,if_neg λe=>h ((a n).1 e)]
 exact⟨⟨λn r h=>by rw[b];exact h,λn h e=>h ((a n).1 e)⟩,b⟩
theorem HO(h:Aq s)(hk:8<=k):Aq (AQ s k):=⟨h.1,Gn hk h.2.1,h.2.2⟩
variable{R:List Int}{S:List Nat}
theorem En.share{k:Int}(h:En s S R)(hk:8<=k/\k<256)(m:shareE s k.toNat=0):En (AQ s k.toNat) S (k::R):=by
 have z:s.now.length=256:=h.ok.2.1.1
 obtain⟨o,e⟩:=HP m
 obtain⟨l,c⟩:=FC (by omega) m
 have y:=Gu (s:=s) (k:=k.toNat) (by omega) e
 have u:∀j,wS (AQ s k.toNat) S j=wS s S j:=λj=>by
  unfold wS;refine congrArg List.sum (List.map_congr_left λn _=>?_);unfold Be;rw[c]
 refine⟨HO h.ok (by omega),h.nodup,λj o t=>?_,λn d g f=>h.disj n d g (by rw[<-c];exact f),λn d r g f i x l=>?_⟩
 ·have:=h.enough j o t
  grind
 rw[c]at f
 obtain⟨a,zs,b⟩:=h.closed n d r g f i x l
 grind
end Go.Proofs.YtdahhoicackcaaaGreat
