/- Walks: items put into a row of one's own. -/
import Derived.Test.YtdahhoicackcaaaGreatZHn
import Derived.Test.YtdahhoicackcaaaGreatZLeave
import Derived.Test.YtdahhoicackcaaaGreatZSp
import Derived.Lib.AppendZerosOnto
import Derived.Lib.Overlaps
import Derived.Test.YtdahhoicackcaaaGreatZMake
namespace Go.Proofs.YtdahhoicackcaaaGreat
open Go.Proofs.Tryz
set_option linter.unusedSimpArgs false
set_option linter.unusedVariables false
set_option linter.unusedSectionVars false
open Go.RowKit
set_option maxRecDepth 8000
set_option maxHeartbeats 40000000
variable{lv:Int}{s:Sto}{xs:List It}
theorem GE(h:mkE s lv xs=0)(a:s.waits.length<=4096):Cw lv xs=true/\shE s xs=0/\mkAt (Ag s xs)<256/\s.waits.length<4096:=by
 grind[mkE,Cw,shE,mkAt,Ag,wHw]
def PS(M:Mem)(v:Value)(ls:List (List It)):Prop:=∃a c,∃ps:List (List It×Value),v=.slice a ls.length c/\ls.length<=c/\SM M a (ps.map (·.2))/\ps.map (·.1)=ls/\∀p∈ps,NS M p.2 p.1
theorem PS.get{M:Mem}{sb so:Nat}{ls:List (List It)}{ps:List (List It×Value)}(hx:∀i u,(ps.map (·.2))[i]? =some u->CM M sb (so+i) u)(hp:ps.map (·.1)=ls)(hb:∀p∈ps,NS M p.2 p.1){k:Nat}(hk:k<ls.length):
  ∃v,CM M sb (so+k*1) v/\NS M v ls[k]:=by
 grind
variable{M:Mem}{a:Option Addr}{c:Nat}
theorem NS.take{n:Nat}(h:NS M (.slice a xs.length c) xs)(k:n<=xs.length):NS M (.slice a n c) (xs.take n):=by
 obtain⟨t,s,ps,e,r,d,o,m⟩:=h
 cases e
 refine⟨a,c,ps.take n,by rw[List.length_take,Nat.min_eq_left k],by rw[List.length_take];omega,?_,by rw[List.map_take,o],λp j=>m p (List.mem_of_mem_take j)⟩
 rcases d with d|⟨b,f,rfl,d⟩
 ·left
  have:ps=[]:=by
   cases ps with
   |nil=>rfl
   |cons p ps=>simp[Ac]at d
  rw[this];simp
 right
 refine⟨b,f,rfl,λi u g=>d i u ?_⟩
 have l:=(List.getElem?_eq_some_iff.1 g).1
 have e:ps.flatMap Ac=(ps.take n).flatMap Ac++(ps.drop n).flatMap Ac:=by rw[<-List.flatMap_append,List.take_append_drop]
 rw[e,List.getElem?_append_left l];exact g
theorem NS.drop{n:Nat}(h:NS M (.slice a xs.length c) xs)(o:n<xs.length):NS M (.slice (H7 a n c 5) (xs.length-n) (c-n)) (xs.drop n):=by
 obtain⟨y,t,ps,e,s,d,m,l⟩:=h
 cases e
 have j:ps.length=xs.length:=by grind
 refine⟨_,_,ps.drop n,by rw[List.length_drop],by rw[List.length_drop];omega,?_,by rw[List.map_drop,m],λp k=>l p (List.mem_of_mem_drop k)⟩
 rcases d with d|⟨b,f,rfl,d⟩
 ·exfalso
  have:=congrArg List.length d
  rw[Aj Ac 5 Ad,List.length_nil]at this;omega
 right
 refine⟨b,f+n*5,AB (by omega),λi u g=>?_⟩
 have e:ps.flatMap Ac=(ps.take n).flatMap Ac++(ps.drop n).flatMap Ac:=by rw[<-List.flatMap_append,List.take_append_drop]
 have r:((ps.take n).flatMap Ac).length=n*5:=by rw[Aj Ac 5 Ad,List.length_take,Nat.min_eq_left (by omega)]
 have:=d (n*5+i) u (by rw[e,List.getElem?_append_right (by omega),show n*5+i-((ps.take n).flatMap Ac).length=i by omega];exact g)
 grind
def Ly(x:It):List Value:=Ac (x,.slice none 0 0)
variable{j:Nat}{ps:List (List It)}{up:List It}
theorem S7(h:j<ps.length):Mx lv (ps.drop j) s up=if mkE s lv ps[j]=0 then Mx lv (ps.drop (j+1)) (mkS s lv ps[j]) (up++[PJ s ps[j]])else .error (mkE s lv ps[j]):=by
 rw[List.drop_eq_getElem_cons h,Mx]
theorem K6(h:j<xs.length):Fx (xs.drop j) s=if xs[j].ref=0 then Fx (xs.drop (j+1)) s else if looseE s xs[j].ref.toNat=0 then Fx (xs.drop (j+1)) (AF s xs[j].ref.toNat)else .error (looseE s xs[j].ref.toNat):=by
 rw[List.drop_eq_getElem_cons h,Fx]
theorem F7{l p:List It}(h:p∈A5 l):(∀x∈p,x∈l)/\(l≠[]->p≠[]):=by
 unfold A5 at h
 split at h
 ·rename_i b
  simp only[List.mem_cons,List.not_mem_nil,or_false]at h
  rcases h with rfl|rfl
  ·exact ⟨λx a=>List.mem_of_mem_take a,λ_ e=>by have:=congrArg List.length e;rw[List.length_take,List.length_nil]at this;omega⟩
  exact⟨λx a=>List.mem_of_mem_drop a,λ_ e=>by have:=congrArg List.length e;rw[List.length_drop,List.length_nil]at this;omega⟩
 grind
theorem Ga(l:List It):(A5 l).length=if 5<l.length then 2 else 1:=by grind[A5]
theorem Vd(s:Sto)(lv:Int)(xs:List It):(mkS s lv xs).waits.length=s.waits.length+1:=by
 show ((Ag s xs).waits++[_]).length=_
 grind[CB]
variable{va:Option Addr}{vc:Nat}
theorem MO{x:It}{i:Nat}{v:Value}(a:(AG x.key)[i]? =some v):(Fk x va vc)[i]? =some v:=by
 match i,a with
 |0,a=>exact a
 |1,a=>exact a
 |2,a=>exact a
 |n+3,a=>simp[AG]at a
theorem XE{p:List It}(h:0<p.length):Ly (PJ s p)=AG p[0].key++[.int .i64 (mkAt (Ag s p):Int),.slice none 0 0]:=by
 obtain⟨x,xs,rfl⟩:=List.exists_cons_of_length_pos h
 rfl
def BdPost(r:Except Int (Sto×List It))(bb:Nat)(Lb:Lc)(u:Value)(M':Mem)(L':Lc):Prop:=match r with
 |.error e=>e≠0/\u=.tuple #[.slice none 0 0,.int .i64 e]
 |.ok (t,up)=>∃a c Ru Lb',u=.tuple #[.slice a up.length c,.int .i64 0]/\L'=Ru++Lb'/\Aq t/\BOwn M' bb Lb' t/\Own (.slice a up.length c) Ru IT 5 up.length (up.flatMap Ly)/\(∀x∈up,x.val=[])/\∀p∈Ru,p.1∉Lb.map (·.1)
structure B1S where
 j:Nat
 s:Sto
 up:List It
 M:Mem
 L:Lc
 R:Lc
 v:Value
structure B1I(bb:Nat)(s0:Sto)(lv:Int)(l:List It)(Mz:Mem)(W:World)(x:B1S):Prop where
 le:x.j<=(A5 l).length
 mle:MLe Mz x.M
 bo:BOwn x.M bb x.L x.s
 ok:Aq x.s
 own:Own x.v x.R IT 5 x.up.length (x.up.flatMap Ly)
 eq:Mx lv (A5 l) s0 []=Mx lv ((A5 l).drop x.j) x.s x.up
 ul:x.up.length=x.j
 val:∀y∈x.up,y.val=[]
 nw:∀p∈x.R,W.heap.size<=p.1
theorem PB(r:Sto)(lv:Int)(l held:List It)(E:Option Addr)(k:Nat)(F:Value)(u:Nat)(M:Mem)(X:Lc)(aI:BOwn M u X r)(a1:Aq r)(B:NS M (.slice E l.length k) l)(aA:NS M F held)(a6:l≠[])(a7:∀x∈l,0<=x.key.kind/\x.key.kind<256)(aB:∀x∈held,0<=x.ref/\(x.ref=0\/8<=x.ref)/\x.ref<256)(aX:l.length<=100)(aZ:held.length<=100):
  SpecL prog 113 #[pB u,.int .i64 lv,.slice E l.length k,F] M X (BdPost (build r lv l held) u X):=by
 obtain⟨ha,hc,aU,rfl,ba,am,ao,aC⟩:=id aA
 have aY:l.length<=k:=by obtain⟨_,_,_,e,h,_⟩:=id B;cases e;exact h
 refine UA (vs:=[_,_,_,_]) 73 _ func113 rfl ntmps113 rfl rfl ?_;intro W hX
 refine gh ?_
 refine lh (Aa (cs:=[_]) rfl rfl rfl (by rfl) (by rfl) (by rfl)) ?_;rintro _ _ _ ⟨aq,rfl,rfl,rfl⟩
 refine jp rfl ?_
 refine Am (jT ?_)
 refine Du (α:=Mem×Value) (λz=>[(0,pB u),(1,.int .i64 lv),(3,.slice ha held.length hc),(8,.slice none 0 0),(10,z.2)]) (λz=>z.1) (λ_=>X) (λz=>MLe M z.1/\PS z.1 z.2 (A5 l)) ?_ ?_
 ·rintro ⟨Mz,pv⟩ ⟨C,ad⟩
  try dsimp only at C ad⊢
  obtain⟨pa,pc,aS,rfl,aV,ae,af,a5⟩:=id ad
  have aP:0<(A5 l).length/\(A5 l).length<=2:=by grind[Ga]
  obtain⟨pb,po,e0,a3⟩:=ae.open (by intro e;have:=congrArg List.length e;rw[List.length_map,List.length_nil]at this;have h2:=congrArg List.length af;rw[List.length_map]at h2;omega)
  cases e0
  refine gh ?_
  refine Cz (α:=B1S) (λx=>[(0,pB u),(1,.int .i64 lv),(3,.slice ha held.length hc),(8,x.v),(28,.slice (some ⟨pb,po,none⟩) (A5 l).length pc),(29,.int .i64 (A5 l).length),(30,.int .i64 x.j)]) (λx=>x.M) (λx=>x.R++x.L) (λx=>B1I u r lv l Mz W x) (λx=>(A5 l).length-x.j) ⟨0,r,[],Mz,X,[],.slice none 0 0⟩ ⟨Nat.zero_le _,MLe.refl _,aI.mono C,a1,Own.nil _ _,rfl,rfl,λ_ h=>(by cases h),λ_ h=>(by cases h)⟩ ?_
  rintro⟨j,s,up,Mk,Lk,Rk,v⟩ a
  try dsimp only
  obtain⟨av,au,aa⟩:=a.own.form
  try dsimp only at aa
  subst aa
  have al:=a.le
  try dsimp only at al
  refine gj (λaK=>?_) λaK=>?_
  ·refine gh ?_
   have b:j<(A5 l).length:=by omega
   obtain⟨aQ,aD,aj⟩:=PS.get a3 af a5 b
   obtain⟨qa,qc,aw,rfl,a2,ab,J,ac⟩:=aj.mono a.mle
   have ag:=F7 (List.getElem_mem b)
   have ah:0<(A5 l)[j].length:=List.length_pos_iff.2 (ag.2 a6)
   refine gh ?_
   refine lq (AE rfl rfl rfl rfl ((aD.mono a.mle).cj _)) ?_
   refine gh ?_
   have d:s.now.length=256/\s.last.length=256/\s.waits.length<=4096:=⟨a.ok.2.1.1,a.ok.2.2.1,a.ok.1.2.1⟩
   refine lh (hC (Ls s lv (A5 l)[j] qa qc aw Mk a2 ab J ac (λx Z=>a7 x (ag.1 x Z)) u Lk a.bo d.1 d.2.1 d.2.2)) ?_;rintro _ Mm _ ⟨Q,R',rfl,⟨at_,e,rfl,he,S⟩⟩
   refine gj (λD=>?_) λD=>?_
   ·refine gr ?_
    have n:build r lv l held=.error (mkE s lv (A5 l)[j]):=by
     have h9:Mx lv (A5 l) r []=.error (mkE s lv (A5 l)[j]):=by have:=a.eq;rw[this];show Mx _ _ _ _=_;rw[S7 b,if_neg (by rw[<-he];exact D)]
     grind[build]
    rw[n,<-he]
    exact⟨D,rfl⟩
   refine gh ?_
   obtain⟨sb,so,e0,Z⟩:=(ab.mono Q).open (by intro e;have:=congrArg List.length e;rw[Aj Ac 5 Ad,List.length_nil]at this;have h2:=congrArg List.length J;rw[List.length_map]at h2;omega)
   cases e0
   obtain⟨va,vc,P,ay,ax⟩:=Au Z J (λp G=>(ac p G).mono Q) ah
   have ap:e=0:=Classical.not_not.1 D
   obtain⟨aE,aH⟩:=S ap
   have H:mkE s lv (A5 l)[j]=0:=he.symm.trans ap
   have O:=GE H a.ok.1.2.1
   have az:=a.ul
   try dsimp only at az
   refine gh ?_
   refine lq (Bb (cs:=AG (A5 l)[j][0].key) rfl rfl rfl rfl rfl (λi v F=>(P i v (MO F)).cj _)) ?_
   refine gh ?_
   refine lh (Aa (cs:=[_,_,_,_,_]) rfl rfl rfl (by rfl) (by rfl) (by rfl)) ?_;rintro _ _ _ ⟨bc,rfl,rfl,rfl⟩
   refine lh (Ty (R:=Rk) (m:=1) (news:=Ly (PJ s (A5 l)[j])) rfl rfl rfl rfl a.own rfl (λi v F=>CJ.loc (by rw[<-F,XE ah,aE];show _=_;rw[Nat.zero_add];rfl)) rfl (by rfl) (by simp[Ly,Ac,Value.oneCell']) (by show up.length+1<=_;omega) (by omega)) ?_;rintro s' _ _ ⟨rfl,Rq,rfl,N,_,ai⟩
   obtain⟨a4,c4,rfl⟩:=N.form
   refine gh ?_
   refine Bw ⟨j+1,mkS s lv (A5 l)[j],up++[PJ s (A5 l)[j]],Mm,R',Rq,.slice a4 (up.length+1) c4⟩ ⟨by show j+1<=_;omega,a.mle.trans Q,aH,Hl a.ok O.1 O.2.2.1 O.2.2.2,?_,?_,?_,?_,ai a.nw⟩ (hs:=λw h=>h.dropAt.perm BW)
   ·grind
   ·have:=a.eq;rw[this];show Mx _ _ _ _=_;rw[S7 b,if_pos H]
   ·grind
   intro y Y;rcases List.mem_append.1 Y with Y|Y
   ·exact a.val y Y
   rw[List.mem_singleton.1 Y];rfl
  refine gh ?_
  have a8:j=(A5 l).length:=by omega
  have aW:Mx lv (A5 l) r []=.ok (s,up):=by have:=a.eq;rw[this];show Mx _ ((A5 l).drop j) _ _=_;rw[a8,List.drop_length];rfl
  refine Cz (α:=Nat×Sto×Mem×Lc) (λx=>[(0,pB u),(8,.slice av up.length au),(55,.slice ha held.length hc),(56,.int .i64 held.length),(57,.int .i64 x.1)]) (λx=>x.2.2.1) (λx=>Rk++x.2.2.2) (λx=>x.1<=held.length/\MLe Mk x.2.2.1/\BOwn x.2.2.1 u x.2.2.2 x.2.1/\Aq x.2.1/\Fx held s=Fx (held.drop x.1) x.2.1) (λx=>held.length-x.1) (0,s,Mk,Lk) ⟨Nat.zero_le _,MLe.refl _,a.bo,a.ok,rfl⟩ ?_
  rintro⟨j,t,Mj,Lj⟩ ⟨hj,o,hB,c,f⟩
  try dsimp only at hj o hB c f⊢
  refine gj (λaJ=>?_) λaJ=>?_
  ·refine gh ?_
   have b:j<held.length:=by omega
   obtain⟨sb,so,e0,Z⟩:=(am.mono (C.trans (a.mle.trans o))).open (by intro e;have:=congrArg List.length e;rw[Aj Ac 5 Ad,List.length_nil]at this;have h2:=congrArg List.length ao;rw[List.length_map]at h2;omega)
   cases e0
   obtain⟨va,vc,P,ay,ax⟩:=Au Z ao (λp G=>(aC p G).mono (C.trans (a.mle.trans o))) b
   have aT:=aB held[j] (List.getElem_mem b)
   have a0:t.now.length=256:=c.2.1.1
   refine gh ?_
   refine lq (Bb (cs:=Fk held[j] va vc) rfl rfl rfl rfl rfl (λi v F=>(P i v F).cj _)) ?_
   refine gA λbe=>?_
   refine gj (λU=>?_) λU=>?_
   ·refine gh ?_
    refine Bw (j+1,t,Mj,Lj) ⟨by show j+1<=held.length;omega,o,hB,c,by show _=Fx (held.drop (j+1)) t;rw[f,K6 b,if_pos U]⟩ (hs:=λw h=>h.tl)
   refine gh ?_
   have ak:((held[j].ref.toNat:Nat):Int)=held[j].ref:=Int.toNat_of_nonneg (by omega)
   refine lh (Bu rfl rfl rfl rfl rfl (by kernel_rfl) (by have:=Gc t held[j].ref.toNat u (by omega) Mj Lj hB;rwa[ak]at this)) ?_;rintro _ Mq _ ⟨aF,R',rfl,⟨rfl,S⟩⟩
   refine gj (λT=>?_) λT=>?_
   ·refine gr ?_
    have n:build r lv l held=.error (looseE t held[j].ref.toNat):=by grind[build,Fx,K6]
    rw[n]
    exact⟨T,rfl⟩
   refine gh ?_
   have I:=Classical.not_not.1 T
   refine Bw (j+1,AF t held[j].ref.toNat,Mq,R') ⟨by show j+1<=held.length;omega,o.trans aF,S I,CY c (by omega),by show _=Fx (held.drop (j+1)) _;rw[f,K6 b,if_neg U,if_pos I]⟩ (hs:=λw h=>h.dropAt.perm BW)
  refine Am (jT (Ao (FM rfl (Kr (wLi (wLi (jBx (jT (Ao (Ah ?_))))))))))
  iterate 3 refine jp rfl ?_
  refine Am (jT (Bs ?_))
  refine wFo rfl rfl rfl ?_
  have a9:j=held.length:=by omega
  subst a9
  rw[List.drop_length]at f
  have n:build r lv l held=.ok (t,up):=by grind[build,Fx]
  rw[n]
  exact⟨_,_,Rk,Lj,rfl,rfl,c,hB,a.own,a.val,NP hX a.nw⟩
 refine gj (λaL=>?_) λaL=>?_
 ·refine gh ?_
  refine JG [0,1,2,3,104,5] ?_
  refine gh ?_
  refine dq rfl (Bc (C6 rfl rfl rfl (.no _) (.of (v:=3) rfl (by omega) rfl) (.no _) (by omega) (by simp)) (v':=.slice E 3 k) (by rw[AZ];rfl)) ?_
  refine gh ?_
  refine dq rfl (C6 rfl rfl rfl (.no _) (.no _) (.of (v:=3) rfl (by omega) rfl) (by omega) (by simp)) ?_
  refine DA rfl rfl rfl (Aa (cs:=[_,_]) rfl rfl rfl (by rfl) (by rfl) (by rfl)) ?_;rintro _ _ _ ⟨V,rfl,rfl,rfl⟩
  refine Cp (MLe.refl _) (λ_ h=>List.mem_cons_of_mem _ h) (by first|exact MLe.refl _|assumption) (by simp) ?_
  refine gh ?_
  refine AK (M':=M) (L':=(V,cE [Value.slice E 3 k,Value.slice (H7 E 3 k 5) (l.length-3) (k-3)] 133)::X) (λw h=>St.dropAt (A:=[_]) h) ?_
  refine N5 V (λ_ h=>h) ?_
  intro Mf g aM
  refine AS (Mf,.slice (some ⟨V,0,none⟩) 2 2) (Keep.cons (t:=0) rfl (Keep.cons (t:=1) rfl (Keep.cons (t:=3) rfl (Keep.cons (t:=8) rfl (Keep.cons (t:=10) rfl Keep.nil))))) ⟨g,?_⟩ (λw h=>h)
  have K:A5 l=[l.take 3,l.drop 3]:=if_pos (by omega)
  show PS Mf _ (A5 l)
  rw[K]
  refine⟨_,2,[(l.take 3,.slice E 3 k),(l.drop 3,.slice (H7 E 3 k 5) (l.length-3) (k-3))],rfl,Nat.le_refl _,SM.of_block aM,rfl,λp G=>?_⟩
  simp only[List.mem_cons,List.not_mem_nil,or_false]at G
  rcases G with rfl|rfl
  ·exact (B.take (by omega)).mono g
  exact(B.drop (by omega)).mono g
 refine gh ?_
 refine N5 aq (λ_ h=>h) ?_
 intro Mf g aN
 refine AS (Mf,.slice (some ⟨aq,0,none⟩) 1 1) (Keep.cons (t:=0) rfl (Keep.cons (t:=1) rfl (Keep.cons (t:=3) rfl (Keep.cons (t:=8) rfl (Keep.cons (t:=10) rfl Keep.nil))))) ⟨g,?_⟩ (λw h=>h)
 have K:A5 l=[l]:=if_neg (by omega)
 show PS Mf _ (A5 l)
 rw[K]
 refine⟨_,1,[(l,.slice E l.length k)],rfl,Nat.le_refl _,SM.of_block aN,rfl,λp G=>?_⟩
 rw[List.mem_singleton.1 G];exact B.mono g
set_option maxRecDepth 8000
set_option maxHeartbeats 40000000
def askE(s:Sto)(k:Int):Int:=if Aq s then (if k<8\/256<=k then 2 else if s.now.getD k.toNat 0=0 then 6 else 0)else 8
theorem Sn(s:Sto):Dp s=if Aq s then 0 else 8:=by grind[Dp]
variable{k:Int}{s:Sto}
theorem RT(h:askE s k=0):Aq s/\8<=k/\k<256/\¬s.now.getD k.toNat 0=0:=by
 grind[askE]
theorem Xt(c:Aq s)(b:8<=k/\k<256)(a:¬s.now.getD k.toNat 0=0):askE s k=0:=by
 grind[askE]
theorem PE(s:Sto)(k:Int)(t o nv lv:Value)(M:Mem)(c:ST M (.agg #[t,o,nv,lv]) s):
  SpecL prog 132 #[.agg #[t,o,nv,lv],.int .i64 k] M [] λu _ _=>u=.int .i64 (askE s k):=by
 obtain⟨E,y,z,B,d,O,N,D,L⟩:=c.ex
 simp only[Value.agg.injEq,Array.mk.injEq,List.cons.injEq,and_true]at d
 obtain⟨rfl,rfl,rfl,rfl⟩:=d
 obtain⟨I,G,rfl,C,g⟩:=D
 have l:=Sn s
 refine sB func132 ntmps132 ?_;intro W
 refine ga λP=>?_
 refine gQ (CD s _ M c) ?_
 refine gj (λr=>?_) λr=>?_
 ·refine gr ?_
  grind[Aq,Dp,askE]
 refine gj (λn=>?_) λn=>?_
 ·refine gr ?_
  grind[Aq,askE]
 refine gj (λm=>?_) λm=>?_
 ·refine gr ?_
  grind[Aq,askE]
 refine gh ?_
 have a:Aq s:=Classical.byContradiction λh=>r (by rw[l,if_neg h];decide)
 have i:s.now.length=256:=a.2.1.1
 obtain⟨H,F,d,f⟩:=g.open (by intro e;have:=congrArg List.length e;rw[Af,List.length_nil]at this;omega)
 subst d
 refine gh ?_
 refine lq (AE rfl rfl rfl rfl ((f _ _ (by rw[Nat.mul_one];exact Cc (j:=k.toNat) (by omega))).cj _)) ?_
 refine gj (λb=>?_) λb=>?_
 ·refine gr ?_
  unfold askE;rw[if_pos a,if_neg (by omega),if_pos (UInt8.toNat_inj.1 (show (s.now.getD k.toNat 0).toNat=(0:UInt8).toNat by have K:((s.now.getD k.toNat 0).toNat:Int)=0:=b;have J:(0:UInt8).toNat=0:=rfl;omega))]
 refine gr ?_
 unfold askE;rw[if_pos a,if_neg (by omega),if_neg (λe=>b (by rw[e];rfl))]
theorem UK(s:Sto)(k:Nat)(hk:k<256)(J:Aq s)(Z:Value)(D:Option Addr)(C:Nat)(ps:List (Wt×Value))(M:Mem)(h1:LS M Z s.blocks)(ad:s.waits.length<=C)(F:SM M D (ps.flatMap AT))(hp:ps.map (·.1)=s.waits)(hb:∀q∈ps,BS M q.2 q.1.2):
  SpecL prog 134 #[.agg #[Z,.slice D s.waits.length C],.int .i64 k] M [] λu M' L'=>BS M' u (seen s k)/\L'=[]:=by
 obtain⟨⟨ah,ag,af,ae⟩,⟨ai,_⟩,_⟩:=id J
 obtain⟨ba,bc,aa,rfl,aj,O,t,P⟩:=h1
 obtain⟨bb,bo,e0,N⟩:=O.open (by intro e;have:=congrArg List.length e;rw[List.length_map,List.length_nil]at this;have h2:=congrArg List.length t;rw[List.length_map]at h2;omega)
 subst e0
 obtain⟨va,vc,L,H,G⟩:=Cn N t P (k:=k) (by omega)
 refine sB func134 ntmps134 ?_;intro W
 refine ga λb2=>?_
 refine lh (Bf (cs:=[.int .i64 k]) rfl rfl rfl rfl) ?_;rintro _ _ _ ⟨b3,rfl,rfl,rfl⟩
 refine ga λB=>?_
 refine gC (bww _ _ _ M) ?_;rintro _ M1 _ b ⟨S,rfl,j,rfl⟩
 have K:ps.length=s.waits.length:=by grind
 rw[<-K]at j
 refine gh ?_
 refine B1 b2 (by simp) ?_
 intro ak m Q
 refine B1 b3 (by simp) ?_
 intro T g Y
 replace Q:=g _ _ Q
 replace j:=g _ _ (m _ _ j)
 replace b:=b.trans (m.trans g)
 refine D1 (R:=[(B,cE [.slice none 0 0] 30)]) (xs:=bw ps 0) (enc:=(λp:(Wt×Value)×Nat=>[.int .i64 p.2,.agg (AT p.1).toArray])) (ps:=[10,11]) rfl (by kernel_rfl) (Py S D C ps T j (F.mono b) (by omega))
  (λpre _ R=>R=[(B,cE [.slice none 0 0] 30)]/\∀q∈pre,q.1.1.1≠(k:Int))
  (λc _ M' R=>c=.ret/\∃v,R=[(B,cE [v] 30)]/\BS M' v (seen s k))
  (λ_=>rfl) (by decide) ⟨rfl,λ_ h=>by cases h⟩ ?_ ?_ ?_
 ·intro l W2 pre y M2 R2 a i f
  obtain⟨rfl,i⟩:=i
  have E:y.1∈ps:=Pz (f.subset (by simp))
  obtain⟨⟨U,yv⟩,yi⟩:=y
  have o:=hb _ E
  obtain⟨X,V,n,ac,ab⟩:=id o
  change yv=Value.slice X U.2.length V at n;subst n
  refine ga λb6=>?_
  refine jK λW'=>?_
  refine gh ?_
  refine lq (AE rfl rfl rfl rfl (CM.cj ⟨_,_,_,a _ _ Y,rfl⟩ _)) ?_
  refine gj (λz=>?_) λz=>?_
  ·refine gh ?_
   refine AD (L':=[(B,cE [.slice X U.2.length V] 30)]) (by simp) ?_
   refine jQr ?_
   refine⟨rfl,_,rfl,?_⟩
   rw[KT hp f i z]
   exact o.mono (b.trans a)
  refine gh ?_
  refine AD (L':=[(B,cE [.slice none 0 0] 30)]) (by simp) ?_
  refine Zj ?_
  grind
 ·intro d M2 R2 a i
  obtain⟨rfl,i⟩:=i
  have r:=KU hp i
  rw[Dy (by omega)]at r
  refine gh ?_
  refine lq (AE rfl rfl rfl rfl (CM.cj ⟨_,_,_,a _ _ Q,rfl⟩ _)) ?_
  refine lq (AE rfl rfl rfl rfl (CM.cj ⟨_,_,_,a _ _ Y,rfl⟩ _)) ?_
  refine gh ?_
  refine lq (AE rfl rfl rfl rfl ((L.mono (b.trans a)).cj _)) ?_
  refine gh ?_
  refine Bi (L2:=_) Rm.perm ?_
  refine gr ?_
  exact⟨by rw[r];exact⟨va,vc,rfl,H,G.mono (b.trans a)⟩,rfl⟩
 intro d c pre M2 R2 a f i
 obtain⟨rfl,v6,rfl,I⟩:=i
 refine gh ?_
 refine Bi (L2:=_) Rm.perm ?_
 refine gr ?_
 exact⟨I,rfl⟩
def RnPost(s:Sto)(k:Int)(u:Value)(M':Mem):Prop:=
 if askE s k=0 then BnPost s k.toNat u M' else u=.tuple #[.agg zeroNd.toArray,.int .i64 (askE s k)]
theorem Qd{k:Nat}(h:¬s.now.getD k 0=0):Ai s k=C1 (seen s k):=by grind[Ai]
theorem UO(s:Sto)(k:Int)(o C nv lv:Value)(M:Mem)(m:ST M (.agg #[o,C,nv,lv]) s):
  SpecL prog 74 #[.agg #[o,C,nv,lv],.int .i64 k] M [] λu M' U=>RnPost s k u M'/\U=[]:=by
 obtain⟨S,F,I,J,E,R,Q,g3,g4⟩:=m.ex
 simp only[Value.agg.injEq,Array.mk.injEq,List.cons.injEq,and_true]at E
 obtain⟨rfl,rfl,rfl,rfl⟩:=E
 obtain⟨H,G,ps,rfl,y,t,K,N⟩:=id Q
 refine sB func74 ntmps74 ?_;intro W
 refine EV λb2 b4=>?_
 refine gQ (PE s k o _ nv lv M m) ?_
 refine gj (λf=>?_) λf=>?_
 ·refine gr ?_
  exact⟨by unfold RnPost;rw[if_neg f];rfl,rfl⟩
 refine gh ?_
 have a:=Classical.not_not.1 f
 obtain⟨h,L,B,c⟩:=RT a
 obtain⟨r,rfl⟩:∃n:Nat,k=(n:Int):=⟨k.toNat,by omega⟩
 rw[Int.toNat_natCast]at c
 have l:r<256:=by omega
 refine gc (UK s r l h o H G ps M R y t K N) ?_;rintro _ T P g
 refine gc (U4 _ (seen s r) T g (by rw[Nx h l];omega)) ?_;rintro _ M3 O z
 obtain⟨V,Z,X,Y,e,rfl,b⟩:=NdPost.form z
 refine gA λb7=>?_
 refine gj (λd=>?_) λd=>?_
 ·refine gr ?_
  refine⟨?_,rfl⟩
  unfold RnPost;rw[if_pos a,Int.toNat_natCast]
  unfold BnPost;rw[Qd c]
  rcases b with⟨D,i⟩|⟨rfl,xs,i,j⟩
  ·rw [i];first|rfl|exact absurd D d
  omega
 refine gr ?_
 refine⟨?_,rfl⟩
 unfold RnPost;rw[if_pos a,Int.toNat_natCast]
 unfold BnPost;rw[Qd c]
 rcases b with⟨D,i⟩|⟨rfl,xs,i,j⟩
 ·omega
 rw[i];first|exact⟨_,rfl,j⟩|exact absurd rfl d
theorem Jp(s:Sto)(v:Value)(k:Int)(M:Mem)(h:ST M v s):SpecL prog 74 #[v,.int .i64 k] M [] λu M' a=>RnPost s k u M'/\a=[]:=by
 obtain⟨g,b,nv,lv,rfl,f,e,d,c⟩:=h.ex
 grind[UO]
set_option maxRecDepth 8000
set_option maxHeartbeats 40000000
variable{M':Mem}{lev:Nat}{s:Sto}{u:Value}{xs:List It}
theorem RnPost.nd{k:Int}(h:RnPost s k u M')(b:askE s k=0)(a:Ai s k.toNat=some ((lev:Int),xs)):∃sl,u=.tuple #[.agg #[.int .i64 (lev:Int),sl],.int .i64 0]/\NS M' sl xs:=by
 grind[RnPost,BnPost]
variable{k:Nat}{r:Int×List It}
theorem Q6(h:Ai s k=some r):¬s.now.getD k 0=0:=λe=>by unfold Ai at h;rw[if_pos e]at h;cases h
variable{blk:List By}{lv:Int}
theorem Ya(h:C1 blk=some (lv,xs)):Cw lv xs=true:=by
 grind[C1,CW,Cw]
theorem wHt(h:Ai s k=some (lv,xs)):Cw lv xs=true:=by
 grind[Ai,Ya]
theorem FH(h:Ai s k=some (lv,xs))(a:0<lv):xs≠[]:=λe=>by
 have:=wHt h
 unfold Cw at this
 rw[Bool.and_eq_true,decide_eq_true_eq]at this
 exact this.1.2.2.2 a (by rw[e];rfl)
theorem G6{q:Ky}(h:xs≠[]):Bz xs q<xs.length:=by
 have:=Hg xs q
 have a:0<xs.length:=List.length_pos_iff.2 h
 unfold Bz
 split
 ·simp_all [EU]
 omega
def A0(p:Stp×Value):List Value:=[.int .i64 p.1.lv,p.2,.int .i64 p.1.at_]
theorem Dc(p:Stp×Value):(A0 p).length=3:=rfl
def SS(M:Mem)(v:Value)(ws:List Stp):Prop:=∃a c,∃ps:List (Stp×Value),v=.slice a ws.length c/\ws.length<=c/\SM M a (ps.flatMap A0)/\ps.map (·.1)=ws/\∀p∈ps,NS M p.2 p.1.xs
structure WyS where
 k:Int
 l:Nat
 xs:List It
 ps:List (Stp×Value)
 M:Mem
 R:Lc
 v:Value
structure WyI(s:Sto)(q:Ky)(lev:Nat)(xs0:List It)(M0:Mem)(x:WyS):Prop where
 rng:8<=x.k/\x.k<256
 nd:Ai s x.k.toNat=some ((x.l:Int),x.xs)
 tr:AV s x.l x.xs
 mle:MLe M0 x.M
 own:Own x.v x.R 185 3 x.ps.length (x.ps.flatMap A0)
 ns:∀p∈x.ps,NS x.M p.2 p.1.xs
 eq:Av s q lev xs0=x.ps.map (·.1)++Av s q x.l x.xs
 len:x.ps.length+x.l=lev
theorem Zp(s:Sto)(f:Int)(q:Ky)(bv wv nv lw:Value)(j:Nat)(o:List It)(M:Mem)(ap:ST M (.agg #[bv,wv,nv,lw]) s)(hr:8<=f/\f<256)(ak:Aq s)(F:Ai s f.toNat=some ((j:Int),o))(aj:AV s j o):
  SpecL prog 107 #[.agg #[bv,wv,nv,lw],.int .i64 f,.agg (AG q).toArray] M [] λu M' L'=>SS M' u (Av s q j o)/\L'=[]:=by
 have av:=(Ar F).lev
 refine sB func107 ntmps107 ?_;intro W
 refine gh ?_
 refine lh (Bf (cs:=[bv,wv,nv,lw]) rfl rfl rfl rfl) ?_;rintro _ _ _ ⟨b3,rfl,rfl,rfl⟩
 refine lh (Bf (cs:=[.int .u8 q.kind,.int .u32 q.id,.int .u32 q.off]) rfl rfl rfl rfl) ?_;rintro _ _ _ ⟨b5,rfl,rfl,rfl⟩
 refine gh ?_
 refine Cz (α:=WyS) (λx=>[(3,pB b3),(5,pB b5),(6,x.v),(7,.int .i64 x.k)]) (λx=>x.M) (λx=>x.R++[(b5,cE [.int .u8 q.kind,.int .u32 q.id,.int .u32 q.off] 43),(b3,cE [bv,wv,nv,lw] 32)]) (λx=>WyI s q j o M x) (λx=>x.l) ⟨f,j,o,[],M,[],.slice none 0 0⟩ ⟨hr,F,aj,MLe.refl _,Own.nil _ _,λ_ h=>(by cases h),rfl,by show 0+j=j;omega⟩ ?_
 rintro⟨k,l,xs,ps,Mk,Rk,v⟩ hI
 try dsimp only
 obtain⟨ac,g,V,E,c,B,X,aa⟩:=hI
 dsimp only at ac g V E c B X aa
 obtain⟨ay,ax,ai⟩:=c.form
 subst ai
 have D:=Ar g
 have aw:=(Ar g).len
 have az:=(Ar g).lev
 refine gc (Jp s _ k Mk (ap.mono E)) ?_;rintro _ Mn n am
 obtain⟨sl,rfl,r⟩:=am.nd (Xt ak ac (Q6 g)) g
 obtain⟨G,C,ad,rfl,ao,L,t,O⟩:=id r
 simp only[List.nil_append]
 refine ga λb8=>?_
 refine lq (qC (Fb _ xs q G C ad Mn ao L t O (by omega))) ?_
 iterate 2 refine jp rfl ?_
 refine Zi rfl (λU=>?_) (λU=>?_)
 ·iterate 2 refine jp rfl ?_
  refine Am (jT (Ao (Ao (Ah ?_))))
  refine lq (Ak rfl rfl rfl rfl rfl) ?_
  refine lq (AE rfl rfl rfl rfl (CJ.loc rfl)) ?_
  refine js rfl (λT=>?_) (λT=>?_)
  ·refine gg ?_
   refine lh (Aa (cs:=[_,_,_]) rfl rfl rfl (by rfl) (by rfl) (by rfl)) ?_;rintro _ _ _ ⟨au,rfl,rfl,rfl⟩
   have P:l<6:=by omega
   refine lh (Ba (R:=Rk) (m:=1) (news:=A0 (⟨((l:Nat):Int),xs,place xs q⟩,.slice G xs.length C)) rfl rfl rfl rfl c rfl (λi v K=>CJ.loc (by rw[<-K];show _[0+i]? =_;rw[Nat.zero_add];rfl)) rfl (by rfl) (by simp[A0,Value.oneCell']) (by omega) (by omega)) ?_;rintro s' _ _ ⟨rfl,Rq,rfl,a,_⟩
   obtain⟨Z,Y,rfl⟩:=a.form
   refine gh ?_
   refine Cj (R:=Rq) a (by simp) ?_
   intro Mf af cf z ef S al;cases ef
   refine gr ?_
   have y:l=0:=by omega
   subst y
   refine⟨?_,rfl⟩
   rw[X]
   refine⟨Z,Y,ps++[(⟨((0:Nat):Int),xs,place xs q⟩,.slice G xs.length C)],?_,?_,?_,?_,?_⟩
   ·rw [List.length_append,List.length_map];rfl
   ·rw [List.length_append,List.length_map];exact S
   ·grind
   ·rw [List.map_append];rfl
   intro p b;rcases List.mem_append.1 b with b|b
   ·exact (B p b).mono (n.trans z)
   rw[List.mem_singleton.1 b];exact r.mono z
  refine gg ?_
  have y:l≠0:=by omega
  obtain⟨l,rfl⟩:∃l2,l=l2+1:=⟨l-1,by omega⟩
  have N:=FH g (by show (0:Int)<((l+1:Nat):Int);omega)
  have d:=G6 (q:=q) N
  have J:Bz xs q=place xs q:=if_pos U
  rw[<-J]
  refine gh ?_
  refine lh (Aa (cs:=[_,_,_]) rfl rfl rfl (by rfl) (by rfl) (by rfl)) ?_;rintro _ _ _ ⟨aq,rfl,rfl,rfl⟩
  have P:l<6:=by omega
  refine lh (Ba (R:=Rk) (m:=1) (news:=A0 (⟨((l+1:Nat):Int),xs,Bz xs q⟩,.slice G xs.length C)) rfl rfl rfl rfl c rfl (λi v K=>CJ.loc (by rw[<-K];show _[0+i]? =_;rw[Nat.zero_add];rfl)) rfl (by rfl) (by simp[A0,Value.oneCell']) (by omega) (by omega)) ?_;rintro s' _ _ ⟨rfl,Rq,rfl,a,_⟩
  obtain⟨Z,Y,rfl⟩:=a.form
  refine gh ?_
  obtain⟨sb,so,e0,hx⟩:=L.open (by intro e;have:=congrArg List.length e;rw[Aj Ac 5 Ad,List.length_nil]at this;have h2:=congrArg List.length t;rw[List.length_map]at h2;omega)
  cases e0
  obtain⟨va,vc,Q,ah,ag⟩:=Au hx t O d
  refine gh ?_
  refine lq (AE rfl rfl rfl rfl ((Q 3 _ rfl).cj _)) ?_
  refine gh ?_
  obtain⟨ys,I,ae,H⟩:=BA V (List.getElem_mem d)
  have ab:kid s xs[Bz xs q]=ys:=by grind[kid]
  refine Bw ⟨xs[Bz xs q].ref,l,ys,ps++[(⟨((l+1:Nat):Int),xs,Bz xs q⟩,.slice (some ⟨sb,so,none⟩) xs.length C)],Mn,Rq,.slice Z (ps.length+1) Y⟩ ⟨by have:=D.ref _ (List.getElem_mem d);have:=D.up (by omega) _ (List.getElem_mem d);show 8<=xs[Bz xs q].ref/\xs[Bz xs q].ref<256;omega,I,H,E.trans n,?_,?_,?_,?_⟩ (hs:=λw h=>h.dropAt.dropAt.perm BW)
  ·grind
  ·intro p b;rcases List.mem_append.1 b with b|b
   ·exact (B p b).mono n
   grind
  ·grind [Av,kid,Bz]
  grind
 iterate 2 refine jp rfl ?_
 refine Am (jT (Ao (Ao (Ah ?_))))
 refine lq (Ak rfl rfl rfl rfl rfl) ?_
 refine lq (AE rfl rfl rfl rfl (CJ.loc rfl)) ?_
 refine js rfl (λT=>?_) (λT=>?_)
 ·refine gg ?_
  refine lh (Aa (cs:=[_,_,_]) rfl rfl rfl (by rfl) (by rfl) (by rfl)) ?_;rintro _ _ _ ⟨au,rfl,rfl,rfl⟩
  have P:l<6:=by omega
  refine lh (Ba (R:=Rk) (m:=1) (news:=A0 (⟨((l:Nat):Int),xs,place xs q⟩,.slice G xs.length C)) rfl rfl rfl rfl c rfl (λi v K=>CJ.loc (by rw[<-K];show _[0+i]? =_;rw[Nat.zero_add];rfl)) rfl (by rfl) (by simp[A0,Value.oneCell']) (by omega) (by omega)) ?_;rintro s' _ _ ⟨rfl,Rq,rfl,a,_⟩
  obtain⟨Z,Y,rfl⟩:=a.form
  refine gg ?_
  refine Cj (R:=Rq) a (by simp) ?_
  intro Mf af cf z ef S al;cases ef
  refine AD (L':=[]) (List.nil_sublist _) ?_
  refine Gd rfl rfl ?_
  have y:l=0:=by omega
  subst y
  refine⟨?_,rfl⟩
  rw[X]
  refine⟨Z,Y,ps++[(⟨((0:Nat):Int),xs,place xs q⟩,.slice G xs.length C)],?_,?_,?_,?_,?_⟩
  ·rw [List.length_append,List.length_map];rfl
  ·rw [List.length_append,List.length_map];exact S
  ·grind
  ·rw [List.map_append];rfl
  intro p b;rcases List.mem_append.1 b with b|b
  ·exact (B p b).mono (n.trans z)
  rw[List.mem_singleton.1 b];exact r.mono z
 refine gg ?_
 have y:l≠0:=by omega
 obtain⟨l,rfl⟩:∃l2,l=l2+1:=⟨l-1,by omega⟩
 have N:=FH g (by show (0:Int)<((l+1:Nat):Int);omega)
 have d:=G6 (q:=q) N
 have J:Bz xs q=place xs q-1:=if_neg (by rw[U];decide)
 refine gg ?_
 refine lq (Bc (qMax rfl rfl rfl rfl) (v':=.int .i64 ((Bz xs q:Nat):Int)) (congrArg _ (by rw[J];omega))) ?_
 refine gg ?_
 refine lh (Aa (cs:=[_,_,_]) rfl rfl rfl (by rfl) (by rfl) (by rfl)) ?_;rintro _ _ _ ⟨aq,rfl,rfl,rfl⟩
 have P:l<6:=by omega
 refine lh (Ba (R:=Rk) (m:=1) (news:=A0 (⟨((l+1:Nat):Int),xs,Bz xs q⟩,.slice G xs.length C)) rfl rfl rfl rfl c rfl (λi v K=>CJ.loc (by rw[<-K];show _[0+i]? =_;rw[Nat.zero_add];rfl)) rfl (by rfl) (by simp[A0,Value.oneCell']) (by omega) (by omega)) ?_;rintro s' _ _ ⟨rfl,Rq,rfl,a,_⟩
 obtain⟨Z,Y,rfl⟩:=a.form
 refine gg ?_
 obtain⟨sb,so,e0,hx⟩:=L.open (by intro e;have:=congrArg List.length e;rw[Aj Ac 5 Ad,List.length_nil]at this;have h2:=congrArg List.length t;rw[List.length_map]at h2;omega)
 cases e0
 obtain⟨va,vc,Q,ah,ag⟩:=Au hx t O d
 refine gh ?_
 refine lq (AE rfl rfl rfl rfl ((Q 3 _ rfl).cj _)) ?_
 refine gh ?_
 obtain⟨ys,I,ae,H⟩:=BA V (List.getElem_mem d)
 have ab:kid s xs[Bz xs q]=ys:=by grind[kid]
 refine Bw ⟨xs[Bz xs q].ref,l,ys,ps++[(⟨((l+1:Nat):Int),xs,Bz xs q⟩,.slice (some ⟨sb,so,none⟩) xs.length C)],Mn,Rq,.slice Z (ps.length+1) Y⟩ ⟨by have:=D.ref _ (List.getElem_mem d);have:=D.up (by omega) _ (List.getElem_mem d);show 8<=xs[Bz xs q].ref/\xs[Bz xs q].ref<256;omega,I,H,E.trans n,?_,?_,?_,?_⟩ (hs:=λw h=>h.dropAt.dropAt.perm BW)
 ·grind
 ·intro p b;rcases List.mem_append.1 b with b|b
  ·exact (B p b).mono n
  grind
 ·grind [Av,kid,Bz]
 grind
set_option maxRecDepth 8000
section
variable{P:Program}{ops:Array Oper}{N:Fs}{F:Fr}{E:Ent}{M:Mem}{L:Lc}{o:Oper}
theorem EO{x y:Operand}{t u e:TypeId}{b off dn dc:Nat}{g:Option Addr}{c m d:Nat}{l cs:List Value}{i:TypeId}{L':Lc}{H:Nat}{z:List Value}(W:gd ops F o=some true)
  (T:o.op=.call { callee:=.builtin .copy,args:=#[x,y],argTypes:=#[t,u] }) (Q:ev F x=some (.slice (some ⟨b,off,none⟩) dn dc)) (O:ev F y=some (.slice g c m)) [S:Und P t (.slice e)] [U:Lay P e d H z]
  (B:cs.length=min c dn*d) (G:SJ M L g cs) (Z:∀v∈cs,v.oneCell'=true) [at_:At b (.cells l.toArray i (0,0)) L] (J:off+cs.length<=l.length)
  [hp:PutAt b (.cells l.toArray i (0,0)) (.cells (l.take off++cs++l.drop (off+cs.length)).toArray i (0,0)) L L']:
  HF P ops N F E M L o (λv M' I=>v=.int .i64 (min c dn:Nat)/\M=M'/\I=L'):=Dw W λa w K r=>by
 obtain⟨ti,zv,V,C,_⟩:=U.info
 have Y:=(r.locs _ at_.mem).1
 refine⟨.int .i64 (min c dn:Nat),_,M,L',.inl ?_,r.put hp,rfl,rfl,rfl⟩
 have s:=run_storeCells_at P b off i cs 0 l.toArray w Y (by simp;omega) Z
 have D:(Builtin.firstCells d (min c dn) (.slice g c m)).run P w=.ok cs.toArray w:=by
  rcases G with rfl|⟨n,k,rfl,X⟩
  ·rw [List.length_nil]at B
   have h0:min c dn*d=0:=B.symm
   cases g<;>simp[Builtin.firstCells,h0,loadCells,loadCellsFrom]
  have f:∀j,(⟨n,k,none⟩:Addr).add j=⟨n,k+j,none⟩:=λj=>by unfold Addr.add;split<;>simp_all
  exact run_firstCells_some (P:=P) w d (min c dn) ⟨n,k,none⟩ c m cs B (λj v R=>by rw[f];exact(X j v R).cell r.js)
 simp[execOp,T,resolve,invoke,builtin,K.ev Q,K.ev O,Builtin.copy_,run_underlying S.h,sizeOf,typeInfo,V,C,Builtin.lenOf,D,s,goInt]
theorem Qm{x y:Operand}{t J e:TypeId}{k Z:IntKind}{b off n c d f:Nat}{Y:Int}(m:Nat){z xs:List Value}(hg:gd ops F o=some true)
  (ho:o.op=.call { callee:=.builtin .append,args:=#[x,y],argTypes:=#[t,J] }) (hx:ev F x=some (.slice (some ⟨b,off,none⟩) n c)) (hy:ev F y=some (.int k Y)) (U:Y=(m:Int)) [ht:Und P t (.slice e)] [S:Und P J (.int Z)] [hl:Lay P e d f z]
  (R:xs.length=n*d) (hold:∀i v,xs[i]? =some v->CJ M L b (off+i) v) (Q:Nat.blt 0 d=true) (h0:0<m) (hc:c<n+m) (H:n+m<=1000000000) (X:f<=100000):
  HF P ops N F E M L o (λv' M' L'=>M=M'/\∃g l zs,v'=.slice (some ⟨g,0,none⟩) (n+m) l/\L'=(g,.cells (xs++zs).toArray e (0,0))::L/\n+m<=l/\l<=maxLen/\zs.length=(l-n)*d):=Dw hg λa w ha hw=>by
 subst U
 obtain⟨ti,r,hi,D,C,hz,O⟩:=hl.info
 have K:r.cells.size=d:=by rw[O];simpa using hl.len
 have T:0<d:=by simpa [Nat.blt_eq]using Q
 have I:∀j,(⟨b,off,none⟩:Addr).add j=⟨b,off+j,none⟩:=λj=>by unfold Addr.add;split<;>simp_all
 have hd:St E M L w.drew:={ hw with }
 have ab:(n+m)*f<=1000000000*100000:=Nat.mul_le_mul H X
 have aa:m*f<=(n+m)*f:=Nat.mul_le_mul_right _ (by omega)
 have hr:=Go.Lib.run_append_grow_zeros (P:=P) w t J o.type e ti r k Z ht.h S.h hi hz (some ⟨b,off,none⟩) n c xs
  (by rw[D];exact run_firstCells_some (P:=P) w.drew d n ⟨b,off,none⟩ n c xs R (λj u hu=>by rw[I];exact(hold j u hu).cell hd.js))
  m h0 (by rw[D];exact T) hc (by omega) (by rw[C];omega) (growslice_fits (by omega) (by rw[C];omega))
 have V:=grownCap_ge w (n+m) c e
 have W:grownCap w (n+m) c e<=maxLen:=grownCap_le_maxLen w (n+m) c e (by unfold maxLen;omega)
 obtain⟨zs,B⟩:∃zs:List Value,zs=(Builtin.zeroCells r.cells m).toList++(Builtin.zeroCells r.cells (grownCap w (n+m) c e-(n+m))).toList:=⟨_,rfl⟩
 have s:zs.length=(grownCap w (n+m) c e-n)*d:=by
  rw[B,List.length_append,Array.length_toList,Array.length_toList,size_zeroCells,size_zeroCells,K,<-Nat.add_mul]
  congr 1;omega
 have G:xs.toArray++Builtin.zeroCells r.cells m++Builtin.zeroCells r.cells (grownCap w (n+m) c e-(n+m))=(xs++zs).toArray:=by
  rw[B];apply Array.ext';simp
 rw[G]at hr
 refine⟨_,w.drew.alloc (.cells (xs++zs).toArray e),M,(w.drew.heap.size,.cells (xs++zs).toArray e (0,0))::L,.inl ?_,hd.alloc (.cells (xs++zs).toArray e),rfl,w.heap.size,_,zs,rfl,rfl,V,W,s⟩
 simp[execOp,ho,resolve,invoke,builtin,ha.ev hx,ha.ev hy,hr]
theorem wJs{x:Operand}{t e:TypeId}{a:Option Addr}{c:Nat}(i:gd ops F o=some true)(g:o.op=.call { callee:=.builtin .clear,args:=#[x],argTypes:=#[t] })(b:ev F x=some (.slice a 0 c))[f:Und P t (.slice e)]:
  HF P ops N F E M L o (λ_ M' k=>M=M'/\k=L):=Dw i λl w j d=>by
 refine⟨.tuple #[],w,M,L,.inl ?_,d,rfl,rfl⟩
 cases a<;>simp[execOp,g,resolve,invoke,builtin,j.ev b,Builtin.clear_,run_underlying f.h]
theorem Z6{x y:Operand}{T:Array TypeId}{f:FuncId}{g:Func}{t tr e:TypeId}{c i j B b off lb u G C:Nat}{z E l:List Value}{D K:TypeId}(Z:gd ops F o=some true)
  (V:o.op=.call { callee:=.value (.func f),args:=#[x,y],argTypes:=T }) (Q:ev F x=some (.slice (some ⟨c,i,none⟩) j B)) (O:ev F y=some (.slice (some ⟨b,off,none⟩) lb u))
  (hf : P.funcs[f]? = some g) (a : (g.name == "runtime.NumGoroutine") = false) (hb : g.body.isNone = true) (W : Extern.findNext g = none) (he : Extern.find g = some (Extern.SlicesOverlaps.overlaps #[t, t] #[tr]))
  [S:Und P t (.slice e)] [X:Lay P e G C z] (R:M c=some (.cells E.toArray D (0,0))) (d:(b,Obj.cells l.toArray K (0,0))∈L) (k:c≠b) (m:l.length≠0):QF P ops N F M L o (.bool false):=BG Z λac J w H=>by
 obtain⟨ti,zv,Y,n,_⟩:=X.info
 have s:=H.agree c _ R
 have h2:=H.locs _ d
 have U:=Go.Lib.run_overlaps_apart (P:=P) w t tr e S.h G (λw=>by simp[sizeOf,typeInfo,Y,n]) ⟨c,i,none⟩ ⟨b,off,none⟩ j B lb u k D K E.length l.length
  (by simp[World.shape?,s]) (by simp[World.shape?,h2]) m (by simp[World.frozen?,s]) (by simp[World.frozen?,s])
 have I:=run_callFunc_extern (P:=P) hf a hb W he #[.slice (some ⟨c,i,none⟩) j B,.slice (some ⟨b,off,none⟩) lb u] w
 rw[U]at I
 have r:(ac.eval (.func f))=.func (.func f) #[] #[]:=rfl
 simp[execOp,V,resolve,J.ev Q,J.ev O,r,Deferred.ofValue,invoke,I,Result.andThen]
theorem Yd{x y:Operand}{T:Array TypeId}{f:FuncId}{g:Func}{t tr e:TypeId}{c i k C b off lb B G D:Nat}{z j l:List Value}{E K:TypeId}(Z:gd ops F o=some true)
  (V:o.op=.call { callee:=.value (.func f),args:=#[y,x],argTypes:=T }) (O:ev F y=some (.slice (some ⟨b,off,none⟩) lb B)) (Q:ev F x=some (.slice (some ⟨c,i,none⟩) k C))
  (hf : P.funcs[f]? = some g) (a : (g.name == "runtime.NumGoroutine") = false) (hb : g.body.isNone = true) (W : Extern.findNext g = none) (he : Extern.find g = some (Extern.SlicesOverlaps.overlaps #[t, t] #[tr]))
  [S:Und P t (.slice e)] [X:Lay P e G D z] (R:M c=some (.cells j.toArray E (0,0))) (d:(b,Obj.cells l.toArray K (0,0))∈L) (m:c≠b) (n:j.length≠0):QF P ops N F M L o (.bool false):=BG Z λac J w H=>by
 obtain⟨ti,zv,Y,r,_⟩:=X.info
 have h1:=H.agree c _ R
 have u:=H.locs _ d
 have U:=Go.Lib.run_overlaps_apart (P:=P) w t tr e S.h G (λw=>by simp[sizeOf,typeInfo,Y,r]) ⟨b,off,none⟩ ⟨c,i,none⟩ lb B k C (Ne.symm m) K E l.length j.length
  (by simp[World.shape?,u]) (by simp[World.shape?,h1]) n (by simp[World.frozen?,u]) (by simp[World.frozen?,u])
 have I:=run_callFunc_extern (P:=P) hf a hb W he #[.slice (some ⟨b,off,none⟩) lb B,.slice (some ⟨c,i,none⟩) k C] w
 rw[U]at I
 have s:(ac.eval (.func f))=.func (.func f) #[] #[]:=rfl
 simp[execOp,V,resolve,J.ev Q,J.ev O,s,Deferred.ofValue,invoke,I,Result.andThen]
theorem Tj{Q:Exit->Act->World->Prop}{c:List Oper}{d b:Nat}{g i:Obj}(j:M d=some g)(k:(b,i)∈L)(h:d≠b->JL P ops N Q c F E M L):JL P ops N Q c F E M L:=λa w l f=>
 h (λe=>by subst e;have:=(f.locs _ k).2.2;rw[j]at this;cases this) a w l f
end
set_option maxRecDepth 8000
set_option maxHeartbeats 40000000
abbrev Ir:=It×Value
theorem wCe(A B V c:List Value)(a b v:Nat)(f:A.length=a)(e:B.length=b)(d:V.length=v)(hs:v<=c.length):
  ((((A++(B++c)).take (a+v)++B++(A++(B++c)).drop (a+v+B.length)).take a)++V++(((A++(B++c)).take (a+v)++B++(A++(B++c)).drop (a+v+B.length)).drop (a+V.length)))=A++V++B++(c.drop v):=by
 subst f e d
 have h:(A++(B++c)).take (A.length+V.length)=A++(B++c).take V.length:=by grind
 have g:(A++(B++c)).drop (A.length+V.length+B.length)=c.drop V.length:=by
  rw[<-List.append_assoc,List.drop_append,List.drop_eq_nil_of_le (by simp only[List.length_append];omega),List.nil_append];congr 1;all_goals (simp only[List.length_append];omega)
 grind
theorem wPi(A B V zs:List Value)(a b v:Nat)(e:A.length=a)(d:B.length=b)(c:V.length=v)(hs:v+b<=zs.length):
  ((((A++zs).take a++V++(A++zs).drop (a+V.length)).take (a+v))++B++(((A++zs).take a++V++(A++zs).drop (a+V.length)).drop (a+v+B.length)))=A++V++B++zs.drop (v+b):=by
 subst e d c
 have f:(A++zs).drop (A.length+V.length)=zs.drop V.length:=by simp_all
 rw[List.take_left,f]
 have h:(A++V++zs.drop V.length).take (A.length+V.length)=A++V:=by grind
 have g:(A++V++zs.drop V.length).drop (A.length+V.length+B.length)=zs.drop (V.length+B.length):=by
  rw[List.drop_append,List.drop_eq_nil_of_le (by rw[List.length_append];omega),List.nil_append,List.drop_drop];congr 1;rw[List.length_append];omega
 grind
theorem fl(p:List Ir):(p.flatMap Ac).length=p.length*5:=Aj Ac 5 Ad p
theorem BM{p:List Ir}(h:∀x∈p,x.2.oneCell'=true):∀u∈p.flatMap Ac,u.oneCell'=true:=λu a=>by
 obtain⟨x,b,a⟩:=List.mem_flatMap.1 a
 simp only[Ac,List.mem_cons,List.not_mem_nil,or_false]at a
 rcases a with rfl|rfl|rfl|rfl|rfl
 ·rfl
 ·rfl
 ·rfl
 ·rfl
 exact h x b
variable{A:List Value}{L:Lc}{M:Mem}{e:TypeId}{g:Nat}
theorem UD{off:Nat}{B b:List Value}(d:(g,cE (A++(B++b)) e)∈L)(c:off=A.length):SJ M L (some ⟨g,off,none⟩) B:=
 .inr ⟨g,off,rfl,λi v a=>⟨_,_,_,.inr d,by
  subst c
  have f:=(List.getElem?_eq_some_iff.1 a).1
  rw[List.getElem?_toArray,List.getElem?_append_right (by omega),Nat.add_sub_cancel_left,List.getElem?_append_left f];exact a⟩⟩
theorem wEk{B:List Value}(b:(g,cE (A++B) e)∈L):∀i v,A[i]? =some v->CJ M L g (0+i) v:=λi v a=>⟨_,_,_,.inr b,by
 have c:=(List.getElem?_eq_some_iff.1 a).1
 rw[List.getElem?_toArray,Nat.zero_add,List.getElem?_append_left c];exact a⟩
variable{l xs:List Value}
theorem GC{n a:Nat}{b:List Value}(f:l=xs++b)(c:xs.length=n*5)(d:n<=a)(h:a<=maxLen)(hs:l.length=a*5):Own (.slice (some ⟨g,0,none⟩) n a) [(g,.cells l.toArray e (0,0))] e 5 n xs:=
 ⟨c,.inr ⟨g,a,l.toArray,rfl,rfl,d,h,by simpa using hs,by rw[f,<-c];exact List.take_left⟩⟩
variable{b:Nat}{fz:Nat×Nat}
theorem SM.of_block_pre{ys:List Value}(h:M b=some (.cells (xs++ys).toArray e fz)):SM M (some ⟨b,0,none⟩) xs:=
 .inr ⟨b,0,rfl,λi u a=>⟨_,_,_,h,by
  have c:=(List.getElem?_eq_some_iff.1 a).1
  rw[List.getElem?_toArray,Nat.zero_add,List.getElem?_append_left c];exact a⟩⟩
theorem wJp(p1 p2 vs:List Ir)(g c:Nat)(sp:List Value)(vb vc:Nat)(vl:List Value)(ve:TypeId)(M:Mem)(hvb:M vb=some (.cells (vs.flatMap Ac++vl).toArray ve (0,0)))(hvo:∀x∈vs,x.2.oneCell'=true)(hpo:∀x∈p2,x.2.oneCell'=true)(hm:0<vs.length)(h2:0<p2.length)(hc:p1.length+p2.length<=c)(hcm:c<=maxLen)(hsp:sp.length=(c-(p1.length+p2.length))*5)(hbig:p1.length+p2.length+vs.length<=100000):
  SpecL prog 174 #[.slice (some ⟨g,0,none⟩) (p1.length+p2.length) c,.int .i64 p1.length,.slice (some ⟨vb,0,none⟩) vs.length vc] M [(g,.cells (p1.flatMap Ac++(p2.flatMap Ac++sp)).toArray IT (0,0))] λu M' L'=>Own u L' IT 5 (p1.length+vs.length+p2.length) ((p1++vs++p2).flatMap Ac):=by
 refine sB func174 ntmps174 ?_;intro W
 refine gh ?_
 refine lq (C6 rfl rfl rfl (.no _) (.no _) (.of (v:=p1.length) rfl (by omega) (by omega)) (by omega) (by simp)) ?_
 refine gt ?_
 refine lq (QZ rfl rfl rfl) ?_
 refine gj (λh31=>?_) λh31=>?_
 ·refine gh ?_
  refine lq (Bc (C6 rfl rfl rfl (.no _) (.of (v:=p1.length) rfl (by omega) (by omega)) (.no _) (by omega) (by simp)) (v':=.slice (some ⟨g,0,none⟩) (p1.length) (c)) (by rw[AZ];rfl)) ?_
  refine gh ?_
  refine lh (Qm (m:=vs.length+p2.length) (xs:=p1.flatMap Ac) rfl rfl rfl rfl (by omega) (fl p1) (wEk (List.Mem.head _)) rfl (by omega) (by omega) (by omega) (by omega)) ?_;rintro _ _ _ ⟨rfl,g2,c2,zs,rfl,rfl,hc2a,hc2b,hzs⟩
  refine gh ?_
  refine lq (Bc (C6 rfl rfl rfl (.no _) (.no _) (.of (v:=p1.length) rfl (by omega) (by omega)) (by omega) (by simp)) (v':=.slice (some ⟨g2,p1.length*5,none⟩) (p1.length+(vs.length+p2.length)-p1.length) (c2-p1.length)) (by rw[AB (by omega)];exact congrArg (λk=>Value.slice (some ⟨g2,k,none⟩) _ _) (by omega))) ?_
  refine gh ?_
  refine lh (EO (cs:=vs.flatMap Ac) rfl rfl rfl rfl (by rw[fl];congr 1;omega) ((SM.of_block_pre hvb).sj _) (BM hvo) (by simp only[List.length_append,List.length_take,List.length_drop,fl];omega)) ?_;rintro _ _ _ ⟨rfl,rfl,rfl⟩
  refine gh ?_
  refine LL [0,1,2,3,4,5,6,7,108] [] ?_
  refine gh ?_
  refine dq rfl (Bc (C6 rfl rfl rfl (.no _) (.no _) (.of (v:=p1.length+vs.length) rfl (by omega) (by omega)) (by omega) (by simp)) (v':=.slice (some ⟨g2,p1.length*5+vs.length*5,none⟩) (p1.length+(vs.length+p2.length)-(p1.length+vs.length)) (c2-(p1.length+vs.length))) (by rw[AB (by omega)];exact congrArg (λk=>Value.slice (some ⟨g2,k,none⟩) _ _) (by omega))) ?_
  refine gh ?_
  refine dq rfl (Bc (C6 rfl rfl rfl (.no _) (.no _) (.of (v:=p1.length) rfl (by omega) (by omega)) (by omega) (by simp)) (v':=.slice (some ⟨g,p1.length*5,none⟩) ((p1.length+p2.length)-p1.length) (c-p1.length)) (by rw[AB (by omega)];exact congrArg (λk=>Value.slice (some ⟨g,k,none⟩) _ _) (by omega))) ?_
  refine dh rfl (EO (cs:=p2.flatMap Ac) rfl rfl rfl rfl (by rw[fl];congr 1;omega) (UD (List.Mem.tail _ (List.Mem.head _)) (fl p1).symm) (BM hpo) (by simp only[List.length_append,List.length_take,List.length_drop,fl];omega)) ?_;rintro _ _ _ ⟨rfl,rfl,rfl⟩
  refine⟨MLe.refl _,by simp,?_⟩
  refine gh ?_
  refine AD (List.Sublist.cons_cons _ (List.nil_sublist _)) ?_
  refine Gd rfl rfl ?_
  grind[GC,wPi,fl]
 refine gh ?_
 refine lq (Bc (C6 rfl rfl rfl (.no _) (.of (v:=p1.length+p2.length+vs.length) rfl (by omega) (by omega)) (.no _) (by omega) (by simp)) (v':=.slice (some ⟨g,0,none⟩) (p1.length+p2.length+vs.length) (c)) (by rw[AZ];rfl)) ?_
 refine gh ?_
 refine lq (Bc (C6 rfl rfl rfl (.no _) (.no _) (.of (v:=p1.length+vs.length) rfl (by omega) (by omega)) (by omega) (by simp)) (v':=.slice (some ⟨g,p1.length*5+vs.length*5,none⟩) (p1.length+p2.length+vs.length-(p1.length+vs.length)) (c-(p1.length+vs.length))) (by rw[AB (by omega)];exact congrArg (λk=>Value.slice (some ⟨g,k,none⟩) _ _) (by omega))) ?_
 refine Tj hvb (List.Mem.head _) (λhne=>?_)
 refine lq (Bc (Z6 (t:=133) (tr:=4) rfl rfl rfl rfl func175 rfl rfl (by kernel_rfl) (by kernel_rfl) hvb (List.Mem.head _) hne (by simp only[List.length_append,fl];omega)) (v':=.bool false) (by rfl)) ?_
 refine gh ?_
 refine LL [0,1,2,3,4,5,6,7,108] [] ?_
 refine gh ?_
 refine dq rfl (Bc (C6 rfl rfl rfl (.no _) (.no _) (.of (v:=p1.length+vs.length) rfl (by omega) (by omega)) (by omega) (by simp)) (v':=.slice (some ⟨g,p1.length*5+vs.length*5,none⟩) (p1.length+p2.length+vs.length-(p1.length+vs.length)) (c-(p1.length+vs.length))) (by rw[AB (by omega)];exact congrArg (λk=>Value.slice (some ⟨g,k,none⟩) _ _) (by omega))) ?_
 refine gh ?_
 refine dq rfl (Bc (C6 rfl rfl rfl (.no _) (.no _) (.of (v:=p1.length) rfl (by omega) (by omega)) (by omega) (by simp)) (v':=.slice (some ⟨g,p1.length*5,none⟩) (p1.length+p2.length+vs.length-p1.length) (c-p1.length)) (by rw[AB (by omega)];exact congrArg (λk=>Value.slice (some ⟨g,k,none⟩) _ _) (by omega))) ?_
 refine dh rfl (EO (cs:=p2.flatMap Ac) rfl rfl rfl rfl (by rw[fl];congr 1;omega) (UD (List.Mem.head _) (fl p1).symm) (BM hpo) (by simp only[List.length_append,List.length_take,List.length_drop,fl];omega)) ?_;rintro _ _ _ ⟨rfl,rfl,rfl⟩
 refine⟨MLe.refl _,by simp,?_⟩
 refine gh ?_
 refine lq (Bc (C6 rfl rfl rfl (.no _) (.no _) (.of (v:=p1.length) rfl (by omega) (by omega)) (by omega) (by simp)) (v':=.slice (some ⟨g,p1.length*5,none⟩) (p1.length+p2.length+vs.length-p1.length) (c-p1.length)) (by rw[AB (by omega)];exact congrArg (λk=>Value.slice (some ⟨g,k,none⟩) _ _) (by omega))) ?_
 refine gh ?_
 refine lh (EO (cs:=vs.flatMap Ac) rfl rfl rfl rfl (by rw[fl];congr 1;omega) ((SM.of_block_pre hvb).sj _) (BM hvo) (by simp only[List.length_append,List.length_take,List.length_drop,fl];omega)) ?_;rintro _ _ _ ⟨rfl,rfl,rfl⟩
 refine Am (jT (Ao (Ah ?_)))
 iterate 2 refine jp rfl ?_
 refine Am (jT (Bs (wLj ?_)))
 refine Gd rfl rfl ?_
 rw[show p1.length+p2.length+vs.length=p1.length+vs.length+p2.length by omega]
 exact GC ((wCe _ _ _ sp (p1.length*5) (p2.length*5) (vs.length*5) (fl p1) (fl p2) (fl vs) (by omega)).trans (by rw[List.flatMap_append,List.flatMap_append])) (by rw[fl,List.length_append,List.length_append]) (by omega) hcm (by simp only[List.length_append,List.length_take,List.length_drop,fl];omega)
theorem wJq(ps vs:List Ir)(g:Option Addr)(b:Nat)(R:Lc)(a:Own (.slice g ps.length b) R IT 5 ps.length (ps.flatMap Ac))(l:ps.length<=b)(f k:Nat)(i:List Value)(j:TypeId)(M:Mem)(d:M f=some (cE (vs.flatMap Ac++i) j))(c:∀x∈vs,x.2.oneCell'=true)(r:0<vs.length)(h:ps.length+vs.length<=100000):
  SpecL prog 174 #[.slice g ps.length b,.int .i64 ps.length,.slice (some ⟨f,0,none⟩) vs.length k] M R λu M' L'=>Own u L' IT 5 (ps.length+vs.length) ((ps++vs).flatMap Ac):=by
 refine sB func174 ntmps174 ?_;intro W
 refine gh ?_
 refine lq (C6 rfl rfl rfl (.no _) (.no _) (.of (v:=ps.length) rfl (by omega) (by omega)) (by omega) (by simp)) ?_
 refine gt ?_
 refine lh (Dx (R:=R) (n:=ps.length) (m:=vs.length) (news:=vs.flatMap Ac) rfl rfl rfl rfl a (fl vs) (SM.of_block_pre d) rfl (BM c) (by omega) (by omega)) ?_;rintro _ _ _ ⟨rfl,o,rfl,e⟩
 refine gh ?_
 refine AD (L':=o) (by simp) ?_
 refine Gd rfl rfl ?_
 grind
theorem HU{ps:List Ir}{sa:Option Addr}{sc i:Nat}{R:Lc}(h:Own (.slice sa ps.length sc) R IT 5 ps.length (ps.flatMap Ac))(hi:i<ps.length):
  ∃g sp,sa=some ⟨g,0,none⟩/\R=[(g,.cells ((ps.take i).flatMap Ac++((ps.drop i).flatMap Ac++sp)).toArray IT (0,0))]/\ps.length<=sc/\sc<=maxLen/\sp.length=(sc-ps.length)*5:=by
 obtain⟨g,cap,cur,e,rfl,h1,h2,h3,h4⟩:=h.open (by omega)
 cases e
 refine⟨g,cur.toList.drop (ps.length*5),rfl,?_,h1,h2,?_⟩
 ·rw [<-List.append_assoc,<-List.flatMap_append,List.take_append_drop,<-h4,List.take_append_drop,Array.toArray_toList]
 grind
theorem wCd(ps vs:List Ir)(i:Nat)(F:i<=ps.length)(o:Option Addr)(b:Nat)(R:Lc)(a:Own (.slice o ps.length b) R IT 5 ps.length (ps.flatMap Ac))(f:∀x∈ps,x.2.oneCell'=true)(y:ps.length<=b)(c n:Nat)(l:List Value)(m:TypeId)(M:Mem)(e:M c=some (cE (vs.flatMap Ac++l) m))(d:∀x∈vs,x.2.oneCell'=true)(z:0<vs.length)(r:ps.length+vs.length<=100000):
  SpecL prog 174 #[.slice o ps.length b,.int .i64 i,.slice (some ⟨c,0,none⟩) vs.length n] M R λu _ D=>Own u D IT 5 (ps.length+vs.length) ((ps.take i++vs++ps.drop i).flatMap Ac):=by
 by_cases h:i=ps.length
 ·grind [wJq]
 obtain⟨g,s,rfl,rfl,G,C,B⟩:=HU a (i:=i) (by omega)
 have k:(ps.take i).length=i:=by grind
 have j:(ps.drop i).length=ps.length-i:=List.length_drop
 have E:=wJp (ps.take i) (ps.drop i) vs g b s c n l m M e d (λx t=>f x (List.mem_of_mem_drop t)) z (by omega) (by omega) C (by rw[k,j];rw[show i+(ps.length-i)=ps.length by omega];exact B) (by omega)
 grind
end Go.Proofs.YtdahhoicackcaaaGreat
