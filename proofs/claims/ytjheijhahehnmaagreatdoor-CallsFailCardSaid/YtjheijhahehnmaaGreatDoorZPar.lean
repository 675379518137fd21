/- THE WALKING LAYER: operations that are ready at once and only make new things: their order tells nothing. No statement of the seat is proved here. -/
import Derived.Test.YtjheijhahehnmaaGreatDoorZHn
import Derived.Test.YtjheijhahehnmaaGreatDoorZRep
import Derived.Test.YtjheijhahehnmaaGreatDoorZHl
namespace Go.Proofs.YtjheijhahehnmaaGreatDoor
open Go.Proofs.Tryz
set_option linter.unusedSimpArgs false
set_option linter.unusedVariables false
set_option linter.unusedSectionVars false
set_option maxHeartbeats 40000000
set_option maxRecDepth 8000
open Go.RowKit
theorem bws(a:Option Addr)(n c:Nat)(M:Mem):
  SpecL prog 260 #[.slice a n c] M [] λu M' f=>∃b,u=.func (.func 311) #[] #[pB b]/\M' b=some (.cells #[.slice a n c] 340 (0,0))/\f=[]:=by
 refine sB func260 ntmps260 ?_;intro W;refine gh ?_;refine lh (Bt (cs:=[.slice a n c]) rfl rfl rfl rfl) ?_;rintro _ _ _ ⟨e,rfl,rfl,rfl⟩;refine gh ?_;refine AF e (by simp) ?_;intro h d g;refine gr ?_;grind
theorem wRi(b:Nat)(a:Option Addr)(c:Nat)(xs:List (Stp×Value))(M:Mem)(H:M b=some (.cells #[.slice a xs.length c] 340 (0,0)))(hs:SM M a (xs.flatMap A4))(R:xs.length<=1000000)(l:Nat)(J D:List ((Stp×Value)×Nat)->Mem->Lc->Prop)(j:Mem)(z:Lc)(B:MLe M j)(I:∀d y M2 L2,MLe j M2->J d M2 L2->d++[y]<+:bw xs 0->Em prog l ((λp:(Stp×Value)×Nat=>[.int .i64 p.2,.agg (A4 p.1).toArray]) y).toArray M2 L2 λv M' L'=>(v=.bool true/\J (d++[y]) M' L')\/(v=.bool false/\D (d++[y]) M' L'))(K:J [] j z):
  SpecL prog 311 #[.func (.yield l) #[] #[],pB b] j z λ_ M' L'=>J (bw xs 0) M' L'\/∃d,d<+:bw xs 0/\D d M' L':=by
 have n:∀{M2:Mem}(L:Lc),MLe j M2->CJ M2 L b 0 (.slice a xs.length c):=λL h=>(CM.cj ⟨_,_,_,h _ _ (B _ _ H),rfl⟩ L);refine sB func311 ntmps311 ?_;intro W;refine gh ?_;refine lq (Au rfl rfl rfl rfl (n _ (MLe.refl _))) ?_;refine gh ?_;refine CC (α:=Int×Mem×Lc) (λx=>[(0,.func (.yield l) #[] #[]),(1,pB b),(3,.int .i64 x.1)]) (λx=>x.2.1) (λx=>x.2.2) (λx=> -1<=x.1/\x.1<xs.length/\MLe j x.2.1/\J (bw xs (x.1+1).toNat) x.2.1 x.2.2) (λx=>(x.1+1).toNat) ((xs.length:Int)-1,j,z) ⟨by show -1<=(xs.length:Int)-1;omega,by show (xs.length:Int)-1<xs.length;omega,MLe.refl _,by show J (bw xs ((xs.length:Int)-1+1).toNat) _ _;rw[show ((xs.length:Int)-1+1).toNat=xs.length by omega,RO];exact K⟩ ?_;rintro⟨i,O,P⟩ ⟨s,G,f,o⟩;try dsimp only at s G f o⊢
 refine gj (λu=>?_) λu=>?_
 ·refine gh ?_;obtain⟨k,rfl⟩:∃k:Nat,i=k:=⟨i.toNat,by omega⟩;have g:k<xs.length:=by omega
  obtain⟨sb,Q,N,E⟩:=hs.open (by intro e;have:=congrArg List.length e;rw[Aj A4 3 Dq,List.length_nil]at this;omega);subst N;refine lq (Au rfl rfl rfl rfl (n _ f)) ?_;refine gh ?_;refine lq (A1 (cs:=A4 xs[k]) rfl rfl rfl rfl rfl (λi v F=>((Bs A4 3 Dq E (show xs[k]? =some xs[k]by simp[g]) i v F).mono (B.trans f)).cj _)) ?_;refine lh (K4 rfl rfl rfl rfl (I (bw xs (k+1)) (xs[k],k) O P f (by rwa[show ((k:Int)+1).toNat=k+1 by omega]at o) (by rw[<-EP xs g];exact C3 xs k))) ?_;rintro _ M' _ ⟨w,C,rfl,m⟩;rw[<-EP xs g]at m;rcases m with⟨rfl,m⟩|⟨rfl,m⟩
  ·refine gh ?_;refine BD ((k:Int)-1,M',C) ⟨by show -1<=(k:Int)-1;omega,by show (k:Int)-1<xs.length;omega,f.trans w,by show J (bw xs ((k:Int)-1+1).toNat) _ _;rw[show ((k:Int)-1+1).toNat=k by omega];exact m⟩
  refine gh ?_;refine AB (L':=C) (by simp) ?_;refine Pi (rs:=[]) rfl .nil ?_;grind[C3]
 refine gh ?_;refine YU ?_;refine Pi (rs:=[]) rfl .nil ?_;grind
theorem wRh(b:Nat)(a:Option Addr)(c:Nat)(xs:List (Stp×Value))(M:Mem)(e:M b=some (.cells #[.slice a xs.length c] 340 (0,0)))(hs:SM M a (xs.flatMap A4))(d:xs.length<=1000000):Iter prog 311 [pB b] M (λp:(Stp×Value)×Nat=>[.int .i64 p.2,.agg (A4 p.1).toArray]) (bw xs 0):=
 λl J k i j f g h=>wRi b a c xs M e hs d l J k i j f g h
theorem Zb(c:Nat)(M:Mem):
  SpecL prog 262 #[.slice none 0 c] M [] λv _ a=>Own v a IT 5 0 []:=by
 refine sB func262 ntmps262 ?_;intro W;refine gh ?_;refine lq (Bh (Sf rfl rfl rfl rfl) (v':=.bool true) (by simp)) ?_;refine gr ?_;grind[Own.nil]
theorem wLt(b:Nat):Own (.slice (some ⟨b,0,none⟩) 0 0) [(b,cE ([]:List Value) IT)] IT 5 0 []:=⟨rfl,.inr ⟨b,0,_,rfl,rfl,Nat.le_refl _,Nat.zero_le _,rfl,rfl⟩⟩
theorem WK(b:Addr)(n c:Nat)(a:List Value)(M:Mem)(hs:SM M (some b) a)(e:a.length=n*5)(f:∀v∈a,v.oneCell'=true)(j:n<=1000000):
  SpecL prog 262 #[.slice (some b) n c] M [] λv _ h=>Own v h IT 5 n a:=by
 refine sB func262 ntmps262 ?_;intro W;refine gh ?_;refine lq (Bh (Sf rfl rfl rfl rfl) (v':=.bool false) (by simp)) ?_;refine gh ?_;refine lh (Ab (z:=zeroIt) (cs:=[]) rfl rfl rfl (by rfl) (by rfl) (by rfl)) ?_;rintro _ _ _ ⟨g,rfl,rfl,rfl⟩;refine gh ?_;refine lh (Eh (n:=0) (xs:=[]) (news:=a) rfl rfl rfl rfl (wLt g) e hs rfl f (by omega) (by decide)) ?_;rintro i _ _ ⟨rfl,k,rfl,d⟩;refine jp rfl ?_;refine Ai (jT (Bq ?_));refine FX rfl rfl ?_;grind
theorem E2(a:Option Addr)(c:Nat)(ps:List Ir)(M:Mem)(hs:SM M a (ps.flatMap Ae))(e:∀x∈ps,x.2.oneCell'=true)(d:ps.length<=1000000):SpecL prog 262 #[.slice a ps.length c] M [] λv _ g=>Own v g IT 5 ps.length (ps.flatMap Ae):=by
 cases a with
 |none=>
  have f:ps.flatMap Ae=[]:=hs.elim id (λ⟨_,_,h,_⟩=>by cases h)
  have:ps=[]:=by
   cases ps with
   |nil=>rfl
   |cons p ps=>simp[Ae]at f
  subst this
  exact Zb c M
 |some b=>exact WK b ps.length c (ps.flatMap Ae) M hs (fl ps) (B2 e) d
variable{M:Mem}{ps:List Ir}
theorem DD(h:∀p∈ps,BS M p.2 p.1.val):∀x∈ps,x.2.oneCell'=true:=λx a=>by
 obtain⟨_,_,e,_⟩:=h x a;rw[e];rfl
theorem wKt(ps vs:List Ir)(i:Nat)(s:i<=ps.length)(f:Option Addr)(d:Nat)(R:Lc)(b:Own (.slice f ps.length d) R IT 5 ps.length (ps.flatMap Ae))(j:∀x∈ps,x.2.oneCell'=true)(k:ps.length<=d)(e n:Nat)(l:List Value)(m:TypeId)(M:Mem)(h:M e=some (cE (vs.flatMap Ae++l) m))(g:∀x∈vs,x.2.oneCell'=true)(o:0<vs.length)(c:ps.length+vs.length<=100000):
  SpecL prog 261 #[.slice f ps.length d,.int .i64 i,.int .i64 i,.slice (some ⟨e,0,none⟩) vs.length n] M R λu _ L'=>Own u L' IT 5 (ps.length+vs.length) ((ps.take i++vs++ps.drop i).flatMap Ae):=by
 refine sB func261 ntmps261 ?_;intro W;refine gh ?_;refine lq (CL rfl rfl rfl (.no _) (.of (v:=i) rfl (by omega) rfl) (.of (v:=i) rfl (by omega) rfl) (by omega) (by simp)) ?_;refine gt ?_;refine gC (wNw ps vs i s f d R b j k e n l m M h g o c) ?_;rintro _ y w _ a;refine gh ?_;refine AB (L':=w) (by simp) ?_;refine FX rfl rfl ?_;exact a
theorem X2(w:Stp)(a:Option Addr)(c:Nat)(M:Mem):
  SpecL prog 310 #[.agg #[.int .i64 w.lv,.slice a w.xs.length c,.int .i64 w.at_]] M [] λv _ _=>v=.bool (decide (w.xs.length<5)):=by
 refine sB func310 ntmps310 ?_;intro W;refine gh ?_;refine lh (Bt (cs:=[.int .i64 w.lv,.slice a w.xs.length c,.int .i64 w.at_]) rfl rfl rfl rfl) ?_;rintro _ _ _ ⟨b,rfl,rfl,rfl⟩;refine gr ?_;exact congrArg _ (decide_eq_decide.2 (by omega))
variable{k sb:Nat}{ws:List Stp}
theorem JN{g:Nat}{ps:List (Stp×Value)}(h:∀i u,(ps.flatMap A4)[i]? =some u->CM M sb (g+i) u)(n:ps.map (·.1)=ws)(j:∀p∈ps,NS M p.2 p.1.xs)(hk:k<ws.length):
  ∃a c,(∀i v,([.int .i64 ws[k].lv,.slice a ws[k].xs.length c,.int .i64 ws[k].at_]:List Value)[i]? =some v->CM M sb (g+k*3+i) v)/\NS M (.slice a ws[k].xs.length c) ws[k].xs:=by
 have b:k<ps.length:=by grind
 have f:ws[k]=ps[k].1:=by grind
 have d:=j ps[k] (List.getElem_mem b);obtain⟨a,c,l,e,y,w,s,o⟩:=id d;rw[<-f]at e d;refine⟨a,c,λi v m=>Bs A4 3 Dq h (show ps[k]? =some ps[k]by simp[b]) i v ?_,by rw[e]at d;exact d⟩;grind[A4]
theorem wRv(h:k<ws.length):(ws.take (k+1)).any (λw=>decide (w.xs.length<5))=((ws.take k).any (λw=>decide (w.xs.length<5))||decide (ws[k].xs.length<5)):=by
 rw[List.take_succ_eq_append_getElem h,List.any_append];simp
theorem wDt(b:List Stp)(a:Option Addr)(c:Nat)(ps:List (Stp×Value))(M:Mem)(F:b.length<=c)(hs:SM M a (ps.flatMap A4))(l:ps.map (·.1)=b)(y:∀p∈ps,NS M p.2 p.1.xs)(E:b.length<=1000):
  SpecL prog 332 #[.slice a b.length c,.func (.func 310) #[] #[]] M [] λv _ _=>∃i:Int,v=.int .i64 i/\(0<=i↔b.any (λw=>decide (w.xs.length<5))=true):=by
 refine sB func332 ntmps332 ?_;intro W;refine gh ?_;refine CC (α:=Nat) (λk=>[(0,.slice a b.length c),(1,.func (.func 310) #[] #[]),(7,.int .i64 b.length),(8,.int .i64 k)]) (λ_=>M) (λ_=>[]) (λk=>k<=b.length/\(b.take k).any (λw=>decide (w.xs.length<5))=false) (λk=>b.length-k) 0 ⟨Nat.zero_le _,rfl⟩ ?_;rintro k ⟨u,m⟩;try dsimp only at u m⊢
 refine gj (λz=>?_) λz=>?_
 ·refine gh ?_;have d:k<b.length:=by omega
  obtain⟨sb,D,C,n⟩:=hs.open (by intro e;have:=congrArg List.length e;rw[Aj A4 3 Dq,List.length_nil]at this;have B:=congrArg List.length l;rw[List.length_map]at B;omega);cases C;obtain⟨j,h,g,o⟩:=JN n l y d;refine gh ?_;refine lq (A1 (cs:=[.int .i64 b[k].lv,.slice j b[k].xs.length h,.int .i64 b[k].at_]) rfl rfl rfl rfl rfl (λi v s=>(g i v s).cj _)) ?_;refine BP rfl rfl (CZ rfl rfl rfl rfl rfl (by kernel_rfl) (X2 b[k] j h M)) (λf=>?_) (λf=>?_)
  ·refine gr ?_;grind
  refine gh ?_;refine BD (k+1) ⟨by omega,by rw[wRv d,m,f];rfl⟩
 refine gr ?_;grind
theorem wDu(b:List Stp)(a:Option Addr)(c:Nat)(ps:List (Stp×Value))(M:Mem)(f:b.length<=c)(hs:SM M a (ps.flatMap A4))(d:ps.map (·.1)=b)(g:∀p∈ps,NS M p.2 p.1.xs)(e:b.length<=1000):
  SpecL prog 309 #[.slice a b.length c,.func (.func 310) #[] #[]] M [] λv _ _=>v=.bool (b.any (λw=>decide (w.xs.length<5))):=by
 refine sB func309 ntmps309 ?_;intro W;refine gC (wDt b a c ps M f hs d g e) ?_;rintro _ k _ h ⟨i,rfl,j⟩;refine gr ?_;grind
theorem wDj(b:List Stp)(a:Option Addr)(c:Nat)(ps:List (Stp×Value))(M:Mem)(L:b.length<=c)(hs:SM M a (ps.flatMap A4))(C:ps.map (·.1)=b)(G:∀p∈ps,NS M p.2 p.1.xs)(K:b.length<=1000)(q:Ky)(O:0<b.length)(B:∀w∈b,w.xs.length<=100):
  SpecL prog 259 #[.slice a b.length c,.agg (AA q).toArray] M [] λv _ _=>v=.bool (Ex b q):=by
 refine sB func259 ntmps259 ?_;intro W;refine gh ?_;refine lh (Bt (cs:=[.int .u8 q.kind,.int .u32 q.id,.int .u32 q.off]) rfl rfl rfl rfl) ?_;rintro _ _ _ ⟨P,rfl,rfl,rfl⟩;refine gg ?_;refine BP rfl rfl (CZ rfl rfl rfl rfl rfl (by kernel_rfl) (wDu b a c ps M L hs C G K)) (λN=>?_) (λN=>?_)
 ·refine gh ?_;refine QQ [0,1,2,3,4,5,6,7,8,9,10,11,12,13] ?_;iterate 2 refine dp rfl rfl ?_
  refine dq rfl (FY rfl rfl rfl) ?_;refine dq rfl (Bh (qA rfl rfl rfl rfl rfl (by omega)) (v':=.int .i64 ((b.length-1:Nat):Int)) (congrArg _ (by omega))) ?_;have g:b.length-1<b.length:=by omega
  obtain⟨sb,J,I,F⟩:=hs.open (by intro e;have:=congrArg List.length e;rw[Aj A4 3 Dq,List.length_nil]at this;have H:=congrArg List.length C;rw[List.length_map]at H;omega);cases I;obtain⟨z,y,s,l⟩:=JN F C G g;obtain⟨E,D,h,ev,m,j,k,o⟩:=id l;cases ev;refine gh ?_;refine dq rfl (A1 (cs:=[.int .i64 b[b.length-1].lv,.slice z b[b.length-1].xs.length y]) rfl rfl rfl rfl rfl (λi v d=>(s i v (by match i,d with|0,d=>exact d|1,d=>exact d|n+2,d=>simp at d)).cj _)) ?_;refine dq rfl (HO rfl rfl rfl rfl rfl) ?_;refine dq rfl (qC (FD _ b[b.length-1].xs q z y h M m j k o (by have:=B _ (List.getElem_mem g);omega))) ?_;iterate 2 refine dp rfl rfl ?_
  refine Td rfl rfl rfl (qP rfl rfl) (λu=>?_) (λu=>?_)
  ·refine gj (λf=>?_) λf=>?_
   ·refine gr ?_;grind[Ex]
   refine gr ?_;grind[Ex]
  refine gj (λf=>?_) λf=>?_
  ·refine gr ?_;grind[Ex]
  refine gr ?_;grind[Ex]
 refine gh ?_;refine QQ [0,1,2,3,4,5,6,7,8,9,10,11,12,13] ?_;iterate 2 refine dp rfl rfl ?_
 refine dq rfl (FY rfl rfl rfl) ?_;refine dq rfl (Bh (qA rfl rfl rfl rfl rfl (by omega)) (v':=.int .i64 ((b.length-1:Nat):Int)) (congrArg _ (by omega))) ?_;have g:b.length-1<b.length:=by omega
 obtain⟨sb,J,I,F⟩:=hs.open (by intro e;have:=congrArg List.length e;rw[Aj A4 3 Dq,List.length_nil]at this;have H:=congrArg List.length C;rw[List.length_map]at H;omega);cases I;obtain⟨z,y,s,l⟩:=JN F C G g;obtain⟨E,D,h,ev,m,j,k,o⟩:=id l;cases ev;refine gh ?_;refine dq rfl (A1 (cs:=[.int .i64 b[b.length-1].lv,.slice z b[b.length-1].xs.length y]) rfl rfl rfl rfl rfl (λi v d=>(s i v (by match i,d with|0,d=>exact d|1,d=>exact d|n+2,d=>simp at d)).cj _)) ?_;refine dq rfl (HO rfl rfl rfl rfl rfl) ?_;refine dq rfl (qC (FD _ b[b.length-1].xs q z y h M m j k o (by have:=B _ (List.getElem_mem g);omega))) ?_;iterate 2 refine dp rfl rfl ?_
 refine Td rfl rfl rfl (qP rfl rfl) (λu=>?_) (λu=>?_)
 ·refine gj (λf=>?_) λf=>?_
  ·refine gr ?_;grind[Ex]
  refine gr ?_;grind[Ex]
 refine gj (λf=>?_) λf=>?_
 ·refine gr ?_;grind[Ex]
 refine gr ?_;grind[Ex]
theorem chk8{x:It}(h:¬Cd x=0):Cd x=8:=by
 rcases Jg x with⟨_,a⟩|⟨_,a⟩
 ·exact a
 omega
theorem wJf(s:Sto)(root:Int)(x:It)(z:Value)(m i k l:Value)(M:Mem)(N:LS M m s.blocks)(L:WS M i s.waits)(C:BS M k s.now)(K:BS M l s.last)(B:BS M z x.val):
  SpecL prog 257 #[.agg #[m,i,k,l],.int .i64 root,.agg #[.int .u8 x.key.kind,.int .u32 x.key.id,.int .u32 x.key.off,.int .i64 x.ref,z]] M [] λv _ _=>v=.int .i64 (DS s root x):=by
 have y:ST M (.agg #[m,i,k,l]) s:=⟨_,_,_,_,rfl,N,L,C,K⟩;obtain⟨E,D,rfl,H,F⟩:=id B;refine sB func257 ntmps257 ?_;intro W;refine gh ?_;refine lh (Bt (cs:=[m,i,k,l]) rfl rfl rfl rfl) ?_;rintro _ _ _ ⟨T,rfl,rfl,rfl⟩;refine lh (Bt (cs:=E1 x E D) rfl rfl rfl rfl) ?_;rintro _ _ _ ⟨S,rfl,rfl,rfl⟩;refine gQ (Jp s _ root M y) ?_;refine gj (λg=>?_) λg=>?_
 ·refine gr ?_;grind[AQ,DS]
 refine gQ (CT x _ M B) ?_;refine gj (λf=>?_) λf=>?_
 ·refine gr ?_;grind[DS,chk8]
 refine gj (λd=>?_) λd=>?_
 ·refine gh ?_;have b:(AQ s root).2=0:=Classical.not_not.1 g;have n:=(CW b).1;have w:s.now.length=256:=n.2.1.1;obtain⟨R,P,rfl,I,u⟩:=id C;obtain⟨Q,no,O,o⟩:=u.open (by intro e;have:=congrArg List.length e;rw[Ad,List.length_nil]at this;omega);cases O;have a:Cd x=0:=Classical.not_not.1 f;have J:=of_decide_eq_false (show decide _=false from CQ a);have G:0<=x.ref/\x.ref<256:=by omega
  refine gh ?_;refine lq (Au rfl rfl rfl rfl ((o _ _ (by rw[Nat.mul_one];exact Ca (j:=x.ref.toNat) (by omega))).cj _)) ?_;refine gj (λc=>?_) λc=>?_
  ·refine gr ?_;refine congrArg _ ?_;unfold DS;rw[if_pos b,if_pos a,if_pos ⟨d,UInt8.toNat.inj (by simpa using c)⟩]
  refine gr ?_;refine congrArg _ ?_;unfold DS;rw[if_pos b,if_pos a,if_neg (λh=>c (by rw[h.2];rfl))]
 refine gr ?_;grind[DS]
section
variable{P:Program}{ops:Array Oper}{N:Fs}{F:Fr}{M:Mem}{L:Lc}{o:Oper}
theorem HF.monoB{E:Ent}{K g:Value->Mem->Lc->Prop}(h:HF P ops N F E M L o K)(hk:∀w v M' L',K v M' L'->St E M' L' w->∃b c,St E b c w/\g v b c):HF P ops N F E M L o g:=λa w f d=>
 ⟨(h a w f d).1,λQ=>Oper.wpIn_mono (λn i ⟨v,M',L',e,j,k⟩=>by
  obtain⟨b,c,m,l⟩:=hk i v M' L' k j
  exact⟨v,b,c,e,m,l⟩) ((h a w f d).2 Q)⟩
end
def Sx:It:=⟨⟨0,0,0⟩,0,[]⟩
variable{M':Mem}{s:Sto}{u:Value}
theorem wQd{root:Int}{q:Ky}(h:FdPost s root q u M'):∃(y:It)(c:Value)(a:Int),u=.tuple #[.agg #[.int .u8 y.key.kind,.int .u32 y.key.id,.int .u32 y.key.off,.int .i64 y.ref,c],.int .i64 a]/\BS M' c y.val/\
  ((AQ s root).2=0->(N3 s root q=some y/\a=0)\/(N3 s root q=none/\a=6/\y=Sx)):=by
 unfold FdPost at h;by_cases b:(AQ s root).2=0
 ·rw [if_pos b]at h;revert h;cases j:N3 s root q with
  |none=>exact λh=>⟨Sx,.slice none 0 0,6,h,BS.nil,λ_=>.inr ⟨rfl,rfl,rfl⟩⟩
  |some y=>exact λ⟨e,d,i,g,f⟩=>⟨y,.slice e y.val.length d,0,i,⟨e,d,rfl,g,f⟩,λ_=>.inl ⟨rfl,rfl⟩⟩
 rw[if_neg b]at h;exact⟨Sx,.slice none 0 0,_,h,BS.nil,λh=>absurd h b⟩
section
variable{P:Program}{ops:Array Oper}{N:Fs}{F:Fr}{E:Ent}{M:Mem}{L:Lc}{o:Oper}
theorem Sc(z:List Value)(a:Nat)(c:z.length=a):∀n,(Builtin.zeroCells z.toArray n).toList=(List.replicate n z).flatten:=λn=>by
 have e:∀n,(List.range (n*a)).map (λi=>z[i%a]!)=(List.replicate n z).flatten:=by
  intro n;induction n with
  |zero=>simp
  |succ n d=>
   rw[Nat.succ_mul,List.range_add,List.map_append,d,List.replicate_succ',List.flatten_append]
   congr 1
   rw[List.map_map]
   apply List.ext_getElem
   ·simp [c]
   intro i f h
   have b:i<a:=by simpa using f
   have:(n*a+i)%a=i:=by rw[Nat.mul_comm,Nat.mul_add_mod,Nat.mod_eq_of_lt b]
   simp[this,c,b]
 rw[<-e]
 simp only[Builtin.zeroCells,Array.toList_map,Array.toList_range]
 simp only[List.size_toArray,c]
 apply List.map_congr_left
 intro i g
 simp
theorem Zd{x:Operand}{t e:TypeId}{b off n c f s:Nat}{z l:List Value}{i:TypeId}{L':Lc}(V:gd ops F o=some true)
  (R:o.op=.call { callee:=.builtin .clear,args:=#[x],argTypes:=#[t] }) (K:ev F x=some (.slice (some ⟨b,off,none⟩) n c)) [O:Und P t (.slice e)] [G:Lay P e f s z]
  (h0:0<n) (Y:∀v∈z,v.oneCell'=true) [u:At b (.cells l.toArray i (0,0)) L] (H:off+n*f<=l.length)
  [Q:PutAt b (.cells l.toArray i (0,0)) (.cells (l.take off++(List.replicate n z).flatten++l.drop (off+((List.replicate n z).flatten).length)).toArray i (0,0)) L L']:
  HF P ops N F E M L o (λ_ M' B=>M=M'/\B=L'):=CP V λa w X C=>by
 obtain⟨ti,Z,U,T,S,I,j⟩:=G.info
 have W:=(C.locs _ u.mem).1
 have d:=G.len
 have D:((List.replicate n z).flatten).length=n*f:=by simp[d]
 refine⟨.tuple #[],_,M,L',.inl ?_,C.put Q,rfl,rfl⟩
 have m:=run_storeCells_at P b off i ((List.replicate n z).flatten) 0 l.toArray w W (by simp[d];omega) (λv g=>by
  obtain⟨y,J,g⟩:=List.mem_flatten.1 g
  rw[(List.mem_replicate.1 J).2]at g;exact Y v g)
 obtain⟨k,rfl⟩:∃k,n=k+1:=⟨n-1,by omega⟩
 simp[execOp,R,resolve,invoke,builtin,X.ev K,Builtin.clear_,run_underlying O.h,zeroValue,typeInfo,U,I,j,Sc z f d,m]
theorem QZ{x y:Operand}{t e:TypeId}{b off n c m u:Nat}{i:Option Addr}{d:Nat}{l cs:List Value}{k:TypeId}{L':Lc}{J:Nat}{z:List Value}(hg:gd ops F o=some true)
  (X:o.op=.call { callee:=.builtin .append,args:=#[x,y],argTypes:=#[t,t] }) (T:ev F x=some (.slice (some ⟨b,off,none⟩) n c)) (S:ev F y=some (.slice i m u)) [V:Und P t (.slice e)] [Y:Lay P e d J z]
  (D:cs.length=m*d) (I:SJ M L i cs) (h1:∀v∈cs,v.oneCell'=true) (f:n+m<=c) [K:At b (.cells l.toArray k (0,0)) L] (Q:off+n*d+cs.length<=l.length)
  [W:PutAt b (.cells l.toArray k (0,0)) (.cells (l.take (off+n*d)++cs++l.drop (off+n*d+cs.length)).toArray k (0,0)) L L']:
  HF P ops N F E M L o (λv M' O=>v=.slice (some ⟨b,off,none⟩) (n+m) c/\M=M'/\O=L'):=CP hg λa w R B=>by
 obtain⟨ti,zv,Z,G,_⟩:=Y.info
 have hb:=(B.locs _ K.mem).1
 refine⟨_,_,M,L',.inl ?_,B.put W,rfl,rfl,rfl⟩
 have C:=run_storeCells_at P b (off+n*d) k cs 0 l.toArray w hb (by simp;omega) h1
 have H:(Builtin.firstCells d m (.slice i m u)).run P w=.ok cs.toArray w:=by
  rcases I with rfl|⟨sb,s,rfl,hc⟩
  ·rw [List.length_nil]at D;have h0:m*d=0:=D.symm;cases i<;>simp[Builtin.firstCells,h0,loadCells,loadCellsFrom]
  have g:∀j,(⟨sb,s,none⟩:Addr).add j=⟨sb,s+j,none⟩:=λj=>by unfold Addr.add;split<;>simp_all
  exact run_firstCells_some (P:=P) w d m ⟨sb,s,none⟩ m u cs D (λj v U=>by rw[g];exact(hc j v U).cell B.js)
 simp[execOp,X,resolve,invoke,builtin,R.ev T,R.ev S,Builtin.append_,run_underlying V.h,sizeOf,typeInfo,Z,G,Builtin.lenOf,f,H,Addr.add_lit,C]
theorem wGs{x y:Operand}{t j e:TypeId}{k G:IntKind}{n size d:Nat}{z:List Value}(hg:gd ops F o=some true)
  (W:o.op=.call { callee:=.builtin .append,args:=#[x,y],argTypes:=#[t,j] }) (S:ev F x=some (.slice none 0 0)) (R:ev F y=some (.int k n)) [U:Und P t (.slice e)] [u:Und P j (.int G)] [I:Lay P e size d z]
  (s:Nat.blt 0 size=true) (h0:0<n) (X:n<=1000000000) (D:d<=100000):
  HF P ops N F E M L o (λK M' L'=>M=M'/\∃b f c,K=.slice (some ⟨b,0,none⟩) n f/\L'=(b,.cells c e (0,0))::L/\n<=f/\f<=maxLen/\c.size=f*size):=CP hg λa w J T=>by
 obtain⟨O,i,Z,Y,B,Q,m⟩:=I.info
 have l:i.cells.size=size:=by rw[m];simpa using I.len
 have V:0<size:=by simpa [Nat.blt_eq]using s
 have hb:n*d<=1000000000*100000:=Nat.mul_le_mul X D
 have H:=Go.Lib.run_append_nil_zeros (P:=P) w t j o.type e O i k G U.h u.h Z Q n h0 (by omega) (by omega) (by rw[B];omega)
 have C:=grownCap_ge w n 0 e
 have g:(Builtin.zeroCells i.cells n++Builtin.zeroCells i.cells (grownCap w n 0 e-n)).size=grownCap w n 0 e*size:=by
  simp only[Array.size_append,size_zeroCells,l,<-Nat.add_mul];congr 1;omega
 generalize Builtin.zeroCells i.cells n++Builtin.zeroCells i.cells (grownCap w n 0 e-n)=c at H g
 have hd:St E M L w.drew:={ T with }
 refine⟨_,w.drew.alloc (.cells c e),M,(w.drew.heap.size,.cells c e (0,0))::L,.inl ?_,hd.alloc (.cells c e),rfl,w.heap.size,_,c,rfl,rfl,C,grownCap_le_maxLen w n 0 e (by unfold maxLen;omega),g⟩
 simp[execOp,W,resolve,invoke,builtin,J.ev S,J.ev R,H]
theorem Um{t e:TypeId}{n:Nat}{ps:List (Nat×Operand)}{vs:List (Nat×Value)}{c C:Nat}{z cs:List Value}(U:gd ops F o=some true)(H:o.op=.buildSlice t n ps.toArray)(R:evp F ps=some vs)[G:Und P t (.slice e)][J:Lay P e c C z]
  (V:Gl (λi=>some (i*c,c)) (List.replicate n z).flatten vs=some cs) (d:Nat.ble (n*c) 16777216=true) (g:Nat.blt 0 c=true):
  HF P ops N F E M L o (λv M' L'=>∃b,v=.slice (some ⟨b,0,none⟩) n n/\M=M'/\L'=(b,.cells cs.toArray e (0,0))::L/\E.W.heap.size<=b):=CP U λa w X D=>by
 have f:=J.len
 obtain⟨ti,zv,y,k,_,Q,m⟩:=J.info
 refine⟨_,_,M,_,.inl ?_,D.alloc (.cells cs.toArray e (0,0)),_,rfl,rfl,rfl,D.size⟩
 have K:=X.evp R
 have Y:((ps.toArray).map λx=>(x.1,a.eval x.2)).toList=vs:=by rw[<-K];simp
 have S:¬(16777216<n*c):=by simpa [Nat.ble_eq]using d
 have h0:0<c:=by simpa [Nat.blt_eq]using g
 have l:(Array.range (n*c)).map (λi=>z.toArray[i%z.toArray.size]!)=((List.replicate n z).flatten).toArray:=by
  have T:∀n,(List.range (n*c)).map (λi=>z[i%c]!)=(List.replicate n z).flatten:=by
   intro n;induction n with
   |zero=>simp
   |succ n O=>
    rw[Nat.succ_mul,List.range_add,List.map_append,O,List.replicate_succ',List.flatten_append]
    congr 1
    rw[List.map_map]
    apply List.ext_getElem
    ·simp [f]
    intro i Z h2
    have j:i<c:=by simpa using Z
    have:(n*c+i)%c=i:=by rw[Nat.mul_comm,Nat.mul_add_mod,Nat.mod_eq_of_lt j]
    simp[this,f,j]
  apply Array.ext';simp only[Array.toList_map,Array.toList_range];rw[<-T n];apply List.map_congr_left;intro i y;simp[f]
 have B:=MB (λi=>some (i*c,c)) vs _ _ V
 by_cases I:n*c=0
 ·have u:n=0:=by rcases Nat.mul_eq_zero.1 I with h|h<;>omega
  subst u;simp only[List.replicate_zero,List.flatten_nil]at B;simp[execOp,H,Instr.buildSlice,run_underlying G.h,sizeOf,typeInfo,y,k,K,B,newRow,Array.range_zero']
 have s:¬(n*c>2 ^ 24):=S
 simp only[execOp,H,Instr.buildSlice,Sem.run_bind,run_underlying G.h,Result.andThen_ok,sizeOf,typeInfo,run_program,y,Sem.run_pure,k,if_neg s,if_neg I,zeroValue,Q,m,Y,l,B]
 simp[newRow]
theorem DO{W:World}{X:List Nat}{g:Mem}{t e:TypeId}{n:Nat}{ps:List (Nat×Operand)}{vs:List (Nat×Value)}{c f:Nat}{z cs:List Value}(y:∀x∈X,x<W.heap.size)(s:gd ops F o=some true)(m:o.op=.buildSlice t n ps.toArray)(k:evp F ps=some vs)[K:Und P t (.slice e)][O:Lay P e c f z]
  (u:Gl (λi=>some (i*c,c)) (List.replicate n z).flatten vs=some cs) (a:Nat.ble (n*c) 16777216=true) (d:Nat.blt 0 c=true):
  HF P ops N F ⟨W,X,g⟩ M L o (λv M' h=>∃b,v=.slice (some ⟨b,0,none⟩) n n/\h=L/\MLe M M'/\M' b=some (.cells cs.toArray e (0,0))):=
 (Um (E:=⟨W,X,g⟩) s m k u a d).monoB λw v M' h ⟨b,J,I,H,G⟩ l=>by
  subst I;subst H
  obtain⟨D,C,B⟩:=St.freeze' (λj=>by have:=y b j;have Q:W.heap.size<=b:=G;omega) l
  exact⟨_,_,D,b,J,rfl,C,B⟩
end
section
variable{P:Program}{ops:Array Oper}{N:Fs}{Q:Exit->Act->World->Prop}{F F':Fr}{E:Ent}{M Mi:Mem}{L Li:Lc}
def Wc(ops:Array Oper)(fin:Array Bool):Nat->Array Bool->List Nat->Bool
 |0,l,rs=>rs.isEmpty&&l==fin
 |n+1,l,rs=>bif rs.isEmpty then l==fin else !(Region.ready .any ops l).isEmpty&&(Region.ready .any ops l).all λi=>rs.contains i&&Wc ops fin n (l.setIfInBounds i true) (rs.erase i)
structure Par(P:Program)(ops:Array Oper)(N:Fs)(F:Fr)(E:Ent)(M:Mem)(i d:Nat)(Φ:Value->Lc->Mem->Prop):Prop where
 op:∃o,ops[i]? =some o/\o.dst=some d/\Nat.blt d N.n=true/\lk d F=none/\∀F' M' L',Keep F' F->MLe M M'->HF P ops N F' E M' L' o λv M2 L2=>MLe M' M2/\∃R,L2=R++L'/\Φ v R M2
 up:∀v R M1 M2,MLe M1 M2->Φ v R M1->Φ v R M2
theorem Rp{rs:List Nat}{i:Nat}(f:rs.Nodup)(g:i∈rs):∀{a:List Nat},a.Nodup->i∈a->(a.filter λj=>decide (j∉rs.erase i)).Perm (i::a.filter λj=>decide (j∉rs))
 |j::a,l,m=>by
  obtain⟨s,o⟩:=List.nodup_cons.1 l;by_cases c:j=i
  ·subst c;rw[List.filter_cons_of_pos (by simpa using f.not_mem_erase),List.filter_cons_of_neg (by simpa using g)];refine List.Perm.cons _ (List.Perm.of_eq (List.filter_congr λk n=>?_));have:k≠j:=λe=>s (e▸n);simp only[List.mem_erase_of_ne this]
  have d:=Rp f g o ((List.mem_cons.1 m).resolve_left λe=>c e.symm);by_cases b:j∈rs
  ·rw [List.filter_cons_of_neg (by simpa using (List.mem_erase_of_ne c).2 b),List.filter_cons_of_neg (by simpa using b)];exact d
  rw[List.filter_cons_of_pos (by simpa using λh=>b (List.mem_of_mem_erase h)),List.filter_cons_of_pos (by simpa using b)];exact(List.Perm.cons _ d).trans (List.Perm.swap _ _ _)
theorem JSs.of{b:Nat}{a:Array Bool}:∀{rs:List Nat},(∀i∈rs,JS P ops N Q b a F E M L Mi Li i)->JSs P ops N Q b a F E M L Mi Li rs
 |[],_=>trivial
 |_::_,h=>⟨h _ (by simp),JSs.of λi c=>h i (by simp[c])⟩
theorem wMy{d:Nat->Nat}{vs:Nat->Value}{t:Nat}{v:Value}:∀{a:List Nat},lk t (a.map (λi=>(d i,vs i))++F)=some v->(∃i∈a,t=d i/\v=vs i)\/lk t F=some v
 |[],h=>.inr h
 |i::a,h=>by
  rw[List.map_cons,List.cons_append]at h;unfold lk at h;cases b:Nat.beq (d i) t with
  |true=>rw[b]at h;cases h;exact .inl ⟨i,by simp,(Nat.eq_of_beq_eq_true b).symm,rfl⟩
  |false=>
   rw[b]at h
   rcases wMy h with⟨j,c,f,e⟩|h
   ·exact .inl ⟨j,by simp[c],f,e⟩
   exact .inr h
theorem wYx{g:List Nat}{d:Nat->Nat}{Φ:Nat->Value->Lc->Mem->Prop}{X:Array Bool}{C:Nat}(J:g.Nodup)(K:∀i∈g,∀j∈g,d i=d j->i=j)(hP:∀i∈g,Par P ops N F E M i (d i) (Φ i))(ab:∀p∈Li,p∈L)
  (k:∀(vs:Nat->Value)(Rs:Nat->Lc) M',MLe M M'->(∀i∈g,Φ i (vs i) (Rs i) M')->JA P ops N Q C X (g.map (λi=>(d i,vs i))++F) E M' (g.flatMap Rs++L) Mi Li):
  ∀(n:Nat)(rs:List Nat)(listed:Array Bool)(c:Fr)(f:Mem)(s:Lc)(vs:Nat->Value)(Rs:Nat->Lc),Wc ops X n listed rs=true->rs.Sublist g->MLe M f->MLe Mi f->Keep c F->s.Perm ((g.filter λj=>decide (j∉rs)).flatMap Rs++L)->(∀i∈rs,lk (d i) c=none)->(∀i∈g,i∉rs->lk (d i) c=some (vs i)/\Φ i (vs i) (Rs i) f)->JA P ops N Q (C+rs.length) listed c E f s Mi Li:=by
 have done:∀(rs:List Nat)(listed:Array Bool)(c:Fr)(f:Mem)(s:Lc)(vs:Nat->Value)(Rs:Nat->Lc),rs.isEmpty=true->(listed==X)=true->MLe M f->MLe Mi f->Keep c F->s.Perm ((g.filter λj=>decide (j∉rs)).flatMap Rs++L)->(∀i∈g,i∉rs->lk (d i) c=some (vs i)/\Φ i (vs i) (Rs i) f)->JA P ops N Q (C+rs.length) listed c E f s Mi Li:=λrs listed c f s vs Rs he hl U l V S T=>by
  obtain rfl:=List.isEmpty_iff.1 he;obtain rfl:=eq_of_beq hl;have ac:s.Perm (g.flatMap Rs++L):=by rwa[List.filter_eq_self.2 λj G=>by simp]at S
  refine Cp (λw hw=>hw.perm ac) l (λp h=>List.mem_append_right _ (ab p h)) (BZ ⟨λt v h=>?_⟩ (k vs Rs f U λi B=>(T i B (by simp)).2));rcases wMy h with⟨i,B,rfl,rfl⟩|h
  ·exact (T i B (by simp)).1
  exact V.sub t v h
 intro n;induction n with
 |zero=>
  intro rs listed c f s vs Rs a b U l V S hn T
  unfold Wc at a
  rw[Bool.and_eq_true]at a
  exact done rs listed c f s vs Rs a.1 a.2 U l V S T
 |succ n ih=>
  intro rs listed c f s vs Rs a b U l V S hn T
  unfold Wc at a
  cases he:rs.isEmpty with
  |true=>rw[he]at a;exact done rs listed c f s vs Rs he a U l V S T
  |false=>
   rw[he]at a
   simp only[cond_false,Bool.and_eq_true,List.all_eq_true,Bool.not_eq_true',List.contains_iff_mem]at a
   obtain⟨m,hm⟩:∃m,rs.length=m+1:=⟨rs.length-1,by cases rs<;>simp_all⟩
   rw[hm,<-Nat.add_assoc]
   refine Bf (Region.ready .any ops listed) (beq_self_eq_true _) a.1 (JSs.of λi B=>?_)
   obtain⟨B,Z⟩:=a.2 i B
   have H:=b.subset B
   obtain⟨o,ho,O,hN,_,hh⟩:=(hP i H).op
   refine⟨o,ho,by rw[O];exact hN,_,hh c f s V U,?_⟩
   rintro v M2 L2 ⟨I,R,rfl,hv⟩
   have Y:rs.Nodup:=b.nodup J
   refine⟨Mi,Li,MLe.refl _,l.trans I,λ_ h=>h,λp h=>List.mem_append_right _ (S.mem_iff.2 (List.mem_append_right _ (ab p h))),?_⟩
   rw[O]
   have aa:(rs.erase i).length=m:=by rw[List.length_erase_of_mem B];omega
   rw[<-aa]
   have y:∀t,t≠d i->lk t ((d i,v)::c)=lk t c:=λt ht=>by
    show (bif Nat.beq (d i) t then some v else lk t c)=_
    cases hb:Nat.beq (d i) t with
    |true=>exact absurd (Nat.eq_of_beq_eq_true hb).symm ht
    |false=>rfl
   refine ih (rs.erase i) _ _ M2 _ (λj=>if j=i then v else vs j) (λj=>if j=i then R else Rs j) Z (List.erase_sublist.trans b) (U.trans I) (l.trans I) ⟨λt u h=>?_⟩ ?_ (λj G=>?_) λj G ad=>?_
   ·have W:=V.sub t u h
    rw[y t λe=>by rw[e,hn i B]at W;cases W];exact W
   ·have W:((g.filter λj=>decide (j∉rs.erase i)).flatMap λj=>if j=i then R else Rs j).Perm (R++(g.filter λj=>decide (j∉rs)).flatMap Rs):=by
     refine((Rp Y B J H).flatMap_right _).trans ?_
     rw[List.flatMap_cons,if_pos rfl]
     refine List.Perm.append_left _ (List.Perm.of_eq ?_)
     rw[List.flatMap_def,List.flatMap_def]
     congr 1
     refine List.map_congr_left λj G=>if_neg λe=>?_
     have:=(List.mem_filter.1 G).2
     rw[e]at this;simp[B]at this
    refine(List.Perm.append_left R S).trans ?_
    rw[<-List.append_assoc]
    exact List.Perm.append_right _ W.symm
   ·have D:=List.mem_of_mem_erase G
    rw[y _ λe=>by have:=K j (b.subset D) i H e;subst this;exact absurd G (Y.not_mem_erase)]
    exact hn j D
   by_cases z:j=i
   ·subst z
    rw[if_pos rfl,if_pos rfl]
    refine⟨?_,hv⟩
    show (bif Nat.beq (d j) (d j)then some v else _)=_
    rw[Nat.beq_refl];rfl
   rw[if_neg z,if_neg z]
   have D:j∉rs:=λh=>ad ((List.mem_erase_of_ne z).2 h)
   obtain⟨W,h2⟩:=T j G D
   exact⟨by rw[y _ λe=>z (K j G i H e)];exact W,(hP j G).up _ _ _ _ I h2⟩
theorem wNo(b:List Nat)(d:Nat->Nat)(u:Nat->Value->Lc->Mem->Prop)(l:Array Bool)(e:Nat){c:Nat}{a:Array Bool}(w:∀i∈b,Par P ops N F E M i (d i) (u i))(s:∀p∈Li,p∈L)(o:MLe Mi M)
  (k:∀(vs:Nat->Value)(Rs:Nat->Lc) M',MLe M M'->(∀i∈b,u i (vs i) (Rs i) M')->JA P ops N Q e l (b.map (λi=>(d i,vs i))++F) E M' (b.flatMap Rs++L) Mi Li)
  (m:Wc ops l b.length a b=true:=by kernel_rfl) (f:b.Nodup:=by decide) (g:∀i∈b,∀j∈b,d i=d j->i=j:=by decide) (B:c=e+b.length:=by rfl):JA P ops N Q c a F E M L Mi Li:=
 B▸wYx f g w s k b.length b a F M L (λ_=>undef) (λ_=>[]) m (.refl _) (MLe.refl _) o ⟨λ_ _ h=>h⟩ (List.Perm.of_eq (by rw[List.filter_eq_nil_iff.2 (λj z=>by simpa using z)];rfl)) (λi n=>let ⟨_,_,_,_,y,_⟩:=(w i n).op;y) λi n h=>absurd n h
theorem wCd(k:Keep F' F){x:Operand}{v:Value}(h:ev F x=some v):ev F' x=some v:=by
 cases x with
 |tmp t=>exact k.sub t v h
 |const u=>exact h
 |global g=>exact h
 |func f=>exact h
theorem GX(k:Keep F' F):∀{xs:List Operand}{vs:List Value},evs F xs=some vs->evs F' xs=some vs
 |[],vs,h=>h
 |x::xs,vs,h=>by
  unfold evs at h;split at h
  ·rename_i v ws b a;cases h;unfold evs;rw[wCd k b,GX k a]
  cases h
theorem Par.call{x:Operand}{xs:List Operand}{T:Array TypeId}{f:FuncId}{first a vs c:List Value}{i d:Nat}{o:Oper}{e:Value->Lc->Mem->Prop}(hs:∀M',MLe M M'->SpecL P f c.toArray M' [] λu M2 L2=>e u L2 M2)(j:∀v R h M2,MLe h M2->e v R h->e v R M2)(m:ops[i]? =some o:=by rfl)(y:o.dst=some d:=by rfl)(z:Nat.blt d N.n=true:=by rfl)(s:lk d F=none:=by rfl)(w:∀F',gd ops F' o=some true:=by intro;rfl)(g:o.op=.call { callee:=.value x,args:=xs.toArray,argTypes:=T }:=by rfl)(k:∀F',ev F' x=some (.func (.func f) first.toArray a.toArray):=by intro;rfl)(l:evs F xs=some vs:=by rfl)(b:first++vs++a=c:=by rfl)(hgo:Dn P f=true:=by kernel_rfl): Par P ops N F E M i d e:=
 ⟨⟨o,m,y,z,s,λF' M' I C B=>(BV (L2:=I) (w F') g (k F') (GX C l) b hgo (hs M' B)).imp λv M2 L2 ⟨H,R,G,D⟩=>⟨H,R,G,D⟩⟩,j⟩
theorem Xl(k:Keep F' F):∀{xs:List (Nat×Operand)}{vs:List (Nat×Value)},evp F xs=some vs->evp F' xs=some vs
 |[],vs,h=>h
 |(i,x)::xs,vs,h=>by
  unfold evp at h;split at h
  ·rename_i v ws b a;cases h;unfold evp;rw[wCd k b,Xl k a]
  cases h
theorem Par.slice{W:World}{L:Mem}{t e:TypeId}{n:Nat}{ps:List (Nat×Operand)}{vs:List (Nat×Value)}{c k:Nat}{z cs:List Value}{i d:Nat}{o:Oper}{g:Value->Lc->Mem->Prop}(h:∀b M',MLe M M'->M' b=some (.cells cs.toArray e (0,0))->g (.slice (some ⟨b,0,none⟩) n n) [] M')(s:∀v R m M2,MLe m M2->g v R m->g v R M2)(w:ops[i]? =some o:=by rfl)(C:o.dst=some d:=by rfl)(E:Nat.blt d N.n=true:=by rfl)(y:lk d F=none:=by rfl)(B:∀F',gd ops F' o=some true:=by intro;rfl)(j:o.op=.buildSlice t n ps.toArray:=by rfl)(u:evp F ps=some vs:=by rfl)[O:Und P t (.slice e)][Q:Lay P e c k z]
  (D:Gl (λi=>some (i*c,c)) (List.replicate n z).flatten vs=some cs:=by rfl) (a:Nat.ble (n*c) 16777216=true:=by rfl) (f:Nat.blt 0 c=true:=by rfl):Par P ops N F ⟨W,[],L⟩ M i d g:=
 ⟨⟨o,w,C,E,y,λF' M' T H G=>(DO (by simp) (B F') j (Xl H u) D a f).imp λv M2 S ⟨b,K,J,l,I⟩=>by subst K;subst J;exact⟨l,[],rfl,h b _ (G.trans l) I⟩⟩,s⟩
theorem par2{a:Nat->Prop}{i j:Nat}(d:a i)(c:a j):∀k∈[i,j],a k:=λk b=>by
 rcases List.mem_cons.1 b with rfl|b
 ·exact d
 rw[List.mem_singleton.1 b];exact c
theorem par3{a:Nat->Prop}{i j l:Nat}(e:a i)(d:a j)(c:a l):∀k∈[i,j,l],a k:=λk b=>by
 rcases List.mem_cons.1 b with rfl|b
 ·exact e
 exact par2 d c k b
end
section
variable{P:Program}{ops:Array Oper}{N:Fs}{Q:Exit->Act->World->Prop}{F:Fr}{E:Ent}{M Mi:Mem}{L Li:Lc}{fuel:Nat}{listed fin:Array Bool}{i j l d1 d2 d3:Nat}{Φ1 Φ2 Φ3:Value->Lc->Mem->Prop}
def wAg(ops:Array Oper)(listed:Array Bool):Bool:=(List.range ops.size).all λj=> !(listed.getD j false)||(match ops[j]? with
 |some o=>o.after.all λe=> !(Region.binds .any e)||listed.getD e.on false
 |none=>true)
theorem Ye(h:wAg ops listed=true):Shut .any ops listed:=λj f a b e c d=>by
 have:=List.all_eq_true.1 h j (List.mem_range.2 (Array.getElem?_eq_some_iff.1 a).1)
 rw[b,a]at this
 simp only[Bool.not_true,Bool.false_or,Array.all_eq_true_iff_forall_mem,List.all_eq_true]at this
 simpa [d]using this e c
theorem Th{Q:Exit->Act->World->Prop}(c:List Nat)(h:JD P ops N {} Mi Li (NoPanic Q) (Ep c) F E M L Mi Li)(hs:(Region.noSelect ops&&Dc ops)=true:=by kernel_rfl)(e:Da ops (Ep c) listed=true:=by kernel_rfl)(d:wAg ops listed=true:=by kernel_rfl)(b:(Ep c).length=fuel:=by rfl):JA P ops N (NoPanic Q) fuel listed F E M L Mi Li:=λg i a f=>by
 subst b
 exact JO.toAC hs (Qk _) (λ_ _ _ _ _ h=>h) _ true listed F _ _ _ a (Ye d) e (h g i (MLe.refl _) (λ_ h=>h)) f
def QS(P:Program)(ops:Array Oper)(N:Fs)(Mi:Mem)(Li:Lc):List Nat->Fr->(Fr->Prop)->Prop
 |[],F,K=>K F
 |i::qs,F,K=>∃o d v,ops[i]? =some o/\o.dst=some d/\Nat.blt d N.n=true/\QF P ops N F Mi Li o v/\QS P ops N Mi Li qs ((d,v)::F) K
theorem qsN{K:Fr->Prop}(h:K F):QS P ops N Mi Li [] F K:=h
theorem qsP{K:Fr->Prop}{b:List Nat}{o:Oper}{d:Nat}{v:Value}(c:ops[i]? =some o)(a:DC N ops F o=some (d,v))(h:QS P ops N Mi Li b ((d,v)::F) K):QS P ops N Mi Li (i::b) F K:=⟨o,d,v,c,(B1 a).1,(B1 a).2.1,(B1 a).2.2 P Mi Li,h⟩
def Pf(ops:Array Oper):List Nat->Array Bool->Bool
 |[],_=>true
 |i::qs,l=>(Region.ready .any ops l).contains i&&Region.free .any ops l i&&Pf ops qs (l.setIfInBounds i true)
def B0(l:Array Bool):List Nat->Array Bool
 |[]=>l
 |i::qs=>B0 (l.setIfInBounds i true) qs
def Si(ops:Array Oper)(qs:List Nat):List Nat:=qs.filterMap λi=>ops[i]?.bind (·.dst)
theorem QC{t:Nat}{F:Fr}:∀{V:Fr},lk t (V++F)=(match lk t V with
 |some v=>some v
 |none=>lk t F)
 |[]=>rfl
 |(s,u)::V=>by
  show (bif Nat.beq s t then some u else lk t (V++F))=(match (bif Nat.beq s t then some u else lk t V)with
   |some v=>some v
   |none=>lk t F)
  cases Nat.beq s t with
  |true=>rfl
  |false=>exact QC
theorem wMx{t:Nat}:∀{V:Fr},(∀p∈V,p.1≠t)->lk t V=none
 |[],_=>rfl
 |(s,u)::V,h=>by
  show (bif Nat.beq s t then some u else lk t V)=none;cases b:Nat.beq s t with
  |true=>exact absurd (Nat.eq_of_beq_eq_true b) (h (s,u) (by simp))
  |false=>exact wMx λp a=>h p (by simp[a])
theorem Tg{Q:Exit->Act->World->Prop}{K:Fr->Prop}{F0:Fr}(hs:(Region.noSelect ops&&Dc ops)=true):∀(c:List Nat)(listed:Array Bool)(F F0:Fr),Keep F F0->Pf ops c listed=true->QS P ops N Mi Li c F0 K->(∀V:Fr,(∀p∈V,p.1∈Si ops c)->K (V++F0)->JA P ops N (NoPanic Q) fuel (B0 listed c) (V++F) E M L Mi Li)->JA P ops N (NoPanic Q) (fuel+c.length) listed F E M L Mi Li
 |[],listed,F,F0,_,_,h,k=>k [] (by simp) h
 |i::c,listed,F,F0,j,b,⟨o,d,v,g,l,y,s,h⟩,k=>by
  unfold Pf at b;rw[Bool.and_eq_true]at b;refine Et g hs b.1 l y (λa w=>s a (w.keep j)) ?_;refine Tg (F0:=F0) hs c _ ((d,v)::F) ((d,v)::F0) ⟨λt u e=>?_⟩ b.2 h λV n z=>?_
  ·show (bif Nat.beq d t then some v else lk t F)=_;have e:(bif Nat.beq d t then some v else lk t F0)=some u:=e;cases m:Nat.beq d t with
   |true=>rw[m]at e;exact e
   |false=>rw[m]at e;exact j.sub t u e
  have:=k (V++[(d,v)]) (λp f=>by
   unfold Si at n⊢;rcases List.mem_append.1 f with f|f
   ·have:=n p f;rw[List.filterMap_cons];split
    ·exact this
    exact List.mem_cons_of_mem _ this
   rw[List.mem_singleton.1 f,List.filterMap_cons];rw[g,Option.bind_some,l];exact List.mem_cons_self ..) (by rw[List.append_assoc];exact z)
  rwa[List.append_assoc]at this
theorem wNk{Q:Exit->Act->World->Prop}(i j:Nat)(g m:List Nat){x:Operand}{xs:List Operand}{T:Array TypeId}{f:FuncId}{first d vs ac:List Value}{o:Oper}{post:Value->Mem->Prop}{t:TypeId}{sz ai:Nat}{z:List Value}{o2:Oper}
  (hs:∀M',MLe M M'->SpecL P f ac.toArray M' [] λu M2 L2=>post u M2/\L2=[])
  (k:∀v M',MLe M M'->post v M'->QS P ops N Mi Li g ((d1,v)::F) λF'=>∀b,JD P ops N {} Mi Li (NoPanic Q) (Ep m) ((d2,pB b)::F') E M' ((b,.cells z.toArray t (0,0))::L) Mi Li)
  [hl:Lay P t sz ai z] (y:MLe Mi M:=by first|exact MLe.refl _|assumption) (ab:∀p∈Li,p∈L:=by simp) (ho:ops[i]? =some o:=by rfl) (hd:o.dst=some d1:=by rfl) (hN:Nat.blt d1 N.n=true:=by rfl) (hn:lk d1 F=none:=by rfl) (hg:∀F',gd ops F' o=some true:=by intro;rfl) (J:o.op=.call { callee:=.value x,args:=xs.toArray,argTypes:=T }:=by rfl) (hx:∀F',ev F' x=some (.func (.func f) first.toArray d.toArray):=by intro;rfl) (hv:evs F xs=some vs:=by rfl) (C:first++vs++d=ac:=by rfl) (hgo:Dn P f=true:=by kernel_rfl)
  (O:ops[j]? =some o2:=by rfl) (Y:o2.dst=some d2:=by rfl) (aa:Nat.blt d2 N.n=true:=by rfl) (S:lk d2 F=none:=by rfl) (W:∀F',gd ops F' o2=some true:=by intro;rfl) (B:o2.op=.alloc t:=by rfl) (G:Nat.beq d1 d2=false:=by rfl)
  (hr:(Region.ready .any ops listed==[i,j])=true:=by kernel_rfl) (ae:(Region.ready .any ops (listed.setIfInBounds j true)==[i])=true:=by kernel_rfl)
  (ag:Pf ops g (listed.setIfInBounds i true)=true:=by kernel_rfl) (af:Pf ops g ((listed.setIfInBounds j true).setIfInBounds i true)=true:=by kernel_rfl)
  (ad:(Region.ready .any ops (B0 (listed.setIfInBounds i true) g)==[j])=true:=by kernel_rfl) (ah:((B0 (listed.setIfInBounds i true) g).setIfInBounds j true==B0 ((listed.setIfInBounds j true).setIfInBounds i true) g)=true:=by kernel_rfl)
  (X:((Si ops g).contains d2)=false:=by kernel_rfl)
  (l:(Region.noSelect ops&&Dc ops)=true:=by kernel_rfl) (K:Da ops (Ep m) (B0 ((listed.setIfInBounds j true).setIfInBounds i true) g)=true:=by kernel_rfl) (I:wAg ops (B0 ((listed.setIfInBounds j true).setIfInBounds i true) g)=true:=by kernel_rfl) (U:fuel=(Ep m).length+1+g.length+1:=by rfl):JA P ops N (NoPanic Q) fuel listed F E M L Mi Li:=by
 subst U;have aj:d1≠d2:=λe=>by subst e;rw[Nat.beq_refl]at G;cases G
 have hw:∀(c:Nat)(ob:Obj),∀p∈Li,p∈(c,ob)::L:=λc ob p D=>List.mem_cons_of_mem _ (ab p D);refine Bf [i,j] hr rfl ⟨?_,?_,trivial⟩
 ·refine Km ho hd hN (BV (L2:=L) (hg F) J (hx F) hv C hgo (hs M (MLe.refl _))) ?_;rintro v M' L' ⟨H,R,rfl,D,rfl⟩;refine Cw (y.trans H) ab ?_;rw[show (Ep m).length+1+g.length=((Ep m).length+1)+g.length from rfl];refine Tg (F0:=F) l g _ _ _ ⟨λ_ _ h=>h⟩ ag (k v M' H D) λV Z hK=>?_;refine KZ ad (Km O Y aa (AX (L:=L) (W _) B) ?_);rintro _ _ _ ⟨b,rfl,rfl,rfl⟩;refine Cw (y.trans H) (hw _ _) ?_;exact B3 (eq_of_beq ah) (Th m (hK b) l K I rfl)
 refine Km O Y aa (AX (L:=L) (W _) B) ?_;rintro _ _ _ ⟨b,rfl,rfl,rfl⟩;refine Cw y (hw _ _) ?_;rw[show (Ep m).length+1+g.length=(Ep m).length+g.length+1 by omega];have k2:Keep ((d2,pB b)::F) F:=⟨λt u a=>by
  show (bif Nat.beq d2 t then _ else lk t F)=_;cases s:Nat.beq d2 t with
  |true=>rw[Nat.eq_of_beq_eq_true s]at S;rw[S]at a;cases a
  |false=>exact a⟩
 refine KZ ae (Km ho hd hN (BV (L2:=_) (hg _) J (hx _) (GX k2 hv) C hgo (hs M (MLe.refl _))) ?_);rintro v M' L' ⟨H,R,rfl,D,rfl⟩;refine Cw (y.trans H) (hw _ _) ?_;refine Tg (F0:=F) l g _ ((d1,v)::(d2,pB b)::F) ((d1,v)::F) ⟨λt u a=>?_⟩ af (k v M' H D) λV Z hK=>?_
 ·show (bif Nat.beq d1 t then some v else lk t ((d2,_)::F))=_;have a:(bif Nat.beq d1 t then some v else lk t F)=some u:=a;cases s:Nat.beq d1 t with
  |true=>rw[s]at a;exact a
  |false=>rw[s]at a;exact k2.sub t u a
 refine BZ ⟨λt u a=>?_⟩ (Th m (hK b) l K I rfl);have a:(bif Nat.beq d2 t then some (pB b)else lk t (V++(d1,v)::F))=some u:=a;cases s:Nat.beq d2 t with
 |true=>
  rw[s]at a
  obtain rfl:=Nat.eq_of_beq_eq_true s
  rw[QC,wMx λp D e=>by
   have h1:=Z p D
   rw[e]at h1
   rw[List.contains_iff_mem.2 h1]at X;cases X]
  show (bif Nat.beq d1 d2 then some v else lk d2 ((d2,_)::F))=_
  rw[G]
  show (bif Nat.beq d2 d2 then _ else _)=_
  rw[Nat.beq_refl]
  exact a
 |false=>
  rw[s]at a
  have a:lk t (V++(d1,v)::F)=some u:=a
  rw[QC]at a⊢
  cases Z:lk t V with
  |some w=>rw[Z]at a;exact a
  |none=>
   rw[Z]at a
   have a:(bif Nat.beq d1 t then some v else lk t F)=some u:=a
   show (bif Nat.beq d1 t then some v else bif Nat.beq d2 t then _ else lk t F)=_
   rw[s];exact a
theorem gz{A:Prop}{C:Nat->Prop}(h:∀b,C b)(f:Hid (∀b,C b)->A:=by
 intro h;repeat (refine qsP rfl rfl ?_)
 refine qsN ?_;exact h.out):A:=f ⟨h⟩
end
end Go.Proofs.YtjheijhahehnmaaGreatDoor
