/- Walks: an item of a row of one's own replaced. -/
import Derived.Test.YtjheijhahehnmaaGreatDoorZHn
import Derived.Test.YtjheijhahehnmaaGreatDoorZRoom
import Derived.Lib.AppendZerosOnto
import Derived.Lib.Overlaps
import Derived.Test.YtjheijhahehnmaaGreatDoorZLoose
namespace Go.Proofs.YtjheijhahehnmaaGreatDoor
open Go.Proofs.Tryz
set_option linter.unusedSimpArgs false
set_option linter.unusedVariables false
set_option linter.unusedSectionVars false
set_option maxHeartbeats 40000000
set_option maxRecDepth 8000
open Go.RowKit
variable{M':Mem}{lev:Nat}{s:Sto}{u:Value}{xs:List It}
theorem RnPost.nd{k:Int}(h:RnPost s k u M')(b:DW s k=0)(a:Ak s k.toNat=some ((lev:Int),xs)):∃sl,u=.tuple #[.agg #[.int .i64 (lev:Int),sl],.int .i64 0]/\NS M' sl xs:=by
 grind[RnPost,BnPost]
variable{k:Nat}
theorem Ub{r:Int×List It}(h:Ak s k=some r):¬s.now.getD k 0=0:=λe=>by unfold Ak at h;rw[if_pos e]at h;cases h
variable{blk:List By}{lv:Int}
theorem wEm(h:Dk blk=some (lv,xs)):CD lv xs=true:=by
 grind[Dk,C0,CD]
theorem wUi(h:Ak s k=some (lv,xs)):CD lv xs=true:=by
 grind[Ak,wEm]
theorem Gc(h:Ak s k=some (lv,xs))(a:0<lv):xs≠[]:=λe=>by
 have:=wUi h
 unfold CD at this
 rw[Bool.and_eq_true,decide_eq_true_eq]at this
 exact this.1.2.2.2 a (by rw[e];rfl)
theorem HU{q:Ky}(h:xs≠[]):BO xs q<xs.length:=by
 have:=H4 xs q;have a:0<xs.length:=List.length_pos_iff.2 h;unfold BO;split
 ·simp_all [Fo]
 omega
def A4(p:Stp×Value):List Value:=[.int .i64 p.1.lv,p.2,.int .i64 p.1.at_]
theorem Dq(p:Stp×Value):(A4 p).length=3:=rfl
def SS(M:Mem)(v:Value)(ws:List Stp):Prop:=∃a c,∃ps:List (Stp×Value),v=.slice a ws.length c/\ws.length<=c/\SM M a (ps.flatMap A4)/\ps.map (·.1)=ws/\∀p∈ps,NS M p.2 p.1.xs
structure WyS where
 k:Int
 l:Nat
 xs:List It
 ps:List (Stp×Value)
 M:Mem
 R:Lc
 v:Value
structure WyI(s:Sto)(q:Ky)(lev:Nat)(xs0:List It)(M0:Mem)(x:WyS):Prop where
 rng:8<=x.k/\x.k<256
 nd:Ak s x.k.toNat=some ((x.l:Int),x.xs)
 tr:A3 s x.l x.xs
 mle:MLe M0 x.M
 own:Own x.v x.R 347 3 x.ps.length (x.ps.flatMap A4)
 ns:∀p∈x.ps,NS x.M p.2 p.1.xs
 eq:AE s q lev xs0=x.ps.map (·.1)++AE s q x.l x.xs
 len:x.ps.length+x.l=lev
theorem wJr(s:Sto)(root:Int)(q:Ky)(bv wv nv lw:Value)(g:Nat)(n:List It)(M:Mem)(ap:ST M (.agg #[bv,wv,nv,lw]) s)(hr:8<=root/\root<256)(ak:Av s)(G:Ak s root.toNat=some ((g:Int),n))(aj:A3 s g n):
  SpecL prog 258 #[.agg #[bv,wv,nv,lw],.int .i64 root,.agg (AA q).toArray] M [] λu M' L'=>SS M' u (AE s q g n)/\L'=[]:=by
 have av:=(Ar G).lev;refine sB func258 ntmps258 ?_;intro W;refine gh ?_;refine lh (Bt (cs:=[bv,wv,nv,lw]) rfl rfl rfl rfl) ?_;rintro _ _ _ ⟨b3,rfl,rfl,rfl⟩;refine lh (Bt (cs:=[.int .u8 q.kind,.int .u32 q.id,.int .u32 q.off]) rfl rfl rfl rfl) ?_;rintro _ _ _ ⟨b5,rfl,rfl,rfl⟩;refine gh ?_;refine CC (α:=WyS) (λx=>[(3,pB b3),(5,pB b5),(6,x.v),(7,.int .i64 x.k)]) (λx=>x.M) (λx=>x.R++[(b5,cE [.int .u8 q.kind,.int .u32 q.id,.int .u32 q.off] 92),(b3,cE [bv,wv,nv,lw] 28)]) (λx=>WyI s q g n M x) (λx=>x.l) ⟨root,g,n,[],M,[],.slice none 0 0⟩ ⟨hr,G,aj,MLe.refl _,Own.nil _ _,λ_ h=>(by cases h),rfl,by show 0+g=g;omega⟩ ?_;rintro⟨k,l,xs,ps,Mk,Rk,v⟩ hI;try dsimp only
 obtain⟨ac,f,X,F,c,C,Y,aa⟩:=hI;dsimp only at ac f X F c C Y aa;obtain⟨ay,ax,ai⟩:=c.form;subst ai;have E:=Ar f;have aw:=(Ar f).len;have az:=(Ar f).lev;refine gc (KL s _ k Mk (ap.mono F)) ?_;rintro _ Mn j am;obtain⟨sl,rfl,o⟩:=am.nd (wCn ak ac (Ub f)) f;obtain⟨H,D,ad,rfl,ao,N,y,P⟩:=id o;simp only[List.nil_append];refine ga λb8=>?_;refine lq (qC (FD _ xs q H D ad Mn ao N y P (by omega))) ?_;iterate 2 refine jp rfl ?_
 refine LZ rfl (λV=>?_) (λV=>?_)
 ·iterate 2 refine jp rfl ?_
  refine Ai (jT (Ah (Ah (Af ?_))));refine lq (Ac rfl rfl rfl rfl rfl) ?_;refine lq (Au rfl rfl rfl rfl (CJ.loc rfl)) ?_;refine js rfl (λU=>?_) (λU=>?_)
  ·refine gg ?_;refine lh (Ab (cs:=[_,_,_]) rfl rfl rfl (by rfl) (by rfl) (by rfl)) ?_;rintro _ _ _ ⟨au,rfl,rfl,rfl⟩;have Q:l<6:=by omega
   refine lh (AY (R:=Rk) (m:=1) (news:=A4 (⟨((l:Nat):Int),xs,place xs q⟩,.slice H xs.length D)) rfl rfl rfl rfl c rfl (λi v L=>CJ.loc (by rw[<-L];show _[0+i]? =_;rw[Nat.zero_add];rfl)) rfl (by rfl) (by simp[A4,Value.oneCell']) (by omega) (by omega)) ?_;rintro s' _ _ ⟨rfl,Rq,rfl,a,_⟩;obtain⟨a4,Z,rfl⟩:=a.form;refine gh ?_;refine BK (R:=Rq) a (by simp) ?_;intro Mf af cf B ef T al;cases ef;refine gr ?_;have z:l=0:=by omega
   subst z;refine⟨?_,rfl⟩;rw[Y];refine⟨a4,Z,ps++[(⟨((0:Nat):Int),xs,place xs q⟩,.slice H xs.length D)],?_,?_,?_,?_,?_⟩
   ·rw [List.length_append,List.length_map];rfl
   ·rw [List.length_append,List.length_map];exact T
   ·grind
   ·rw [List.map_append];rfl
   intro p b;rcases List.mem_append.1 b with b|b
   ·exact (C p b).mono (j.trans B)
   rw[List.mem_singleton.1 b];exact o.mono B
  refine gg ?_;have z:l≠0:=by omega
  obtain⟨l,rfl⟩:∃l2,l=l2+1:=⟨l-1,by omega⟩;have O:=Gc f (by show (0:Int)<((l+1:Nat):Int);omega);have d:=HU (q:=q) O;have K:BO xs q=place xs q:=if_pos V;rw[<-K];refine gh ?_;refine lh (Ab (cs:=[_,_,_]) rfl rfl rfl (by rfl) (by rfl) (by rfl)) ?_;rintro _ _ _ ⟨aq,rfl,rfl,rfl⟩;have Q:l<6:=by omega
  refine lh (AY (R:=Rk) (m:=1) (news:=A4 (⟨((l+1:Nat):Int),xs,BO xs q⟩,.slice H xs.length D)) rfl rfl rfl rfl c rfl (λi v L=>CJ.loc (by rw[<-L];show _[0+i]? =_;rw[Nat.zero_add];rfl)) rfl (by rfl) (by simp[A4,Value.oneCell']) (by omega) (by omega)) ?_;rintro s' _ _ ⟨rfl,Rq,rfl,a,_⟩;obtain⟨a4,Z,rfl⟩:=a.form;refine gh ?_;obtain⟨sb,so,e0,hx⟩:=N.open (by intro e;have:=congrArg List.length e;rw[Aj Ae 5 Ag,List.length_nil]at this;have h2:=congrArg List.length y;rw[List.length_map]at h2;omega);cases e0;obtain⟨va,vc,S,ah,ag⟩:=Aw hx y P d;refine gh ?_;refine lq (Au rfl rfl rfl rfl ((S 3 _ rfl).cj _)) ?_;refine gh ?_;obtain⟨ys,J,ae,I⟩:=BJ X (List.getElem_mem d);have ab:kid s xs[BO xs q]=ys:=by grind[kid]
  refine BD ⟨xs[BO xs q].ref,l,ys,ps++[(⟨((l+1:Nat):Int),xs,BO xs q⟩,.slice (some ⟨sb,so,none⟩) xs.length D)],Mn,Rq,.slice a4 (ps.length+1) Z⟩ ⟨by have:=E.ref _ (List.getElem_mem d);have:=E.up (by omega) _ (List.getElem_mem d);show 8<=xs[BO xs q].ref/\xs[BO xs q].ref<256;omega,J,I,F.trans j,?_,?_,?_,?_⟩ (hs:=λw h=>h.dropAt.dropAt.perm BE)
  ·grind
  ·intro p b;rcases List.mem_append.1 b with b|b
   ·exact (C p b).mono j
   grind
  ·grind [AE,kid,BO]
  grind
 iterate 2 refine jp rfl ?_
 refine Ai (jT (Ah (Ah (Af ?_))));refine lq (Ac rfl rfl rfl rfl rfl) ?_;refine lq (Au rfl rfl rfl rfl (CJ.loc rfl)) ?_;refine js rfl (λU=>?_) (λU=>?_)
 ·refine gg ?_;refine lh (Ab (cs:=[_,_,_]) rfl rfl rfl (by rfl) (by rfl) (by rfl)) ?_;rintro _ _ _ ⟨au,rfl,rfl,rfl⟩;have Q:l<6:=by omega
  refine lh (AY (R:=Rk) (m:=1) (news:=A4 (⟨((l:Nat):Int),xs,place xs q⟩,.slice H xs.length D)) rfl rfl rfl rfl c rfl (λi v L=>CJ.loc (by rw[<-L];show _[0+i]? =_;rw[Nat.zero_add];rfl)) rfl (by rfl) (by simp[A4,Value.oneCell']) (by omega) (by omega)) ?_;rintro s' _ _ ⟨rfl,Rq,rfl,a,_⟩;obtain⟨a4,Z,rfl⟩:=a.form;refine gg ?_;refine BK (R:=Rq) a (by simp) ?_;intro Mf af cf B ef T al;cases ef;refine AB (L':=[]) (List.nil_sublist _) ?_;refine FX rfl rfl ?_;have z:l=0:=by omega
  subst z;refine⟨?_,rfl⟩;rw[Y];refine⟨a4,Z,ps++[(⟨((0:Nat):Int),xs,place xs q⟩,.slice H xs.length D)],?_,?_,?_,?_,?_⟩
  ·rw [List.length_append,List.length_map];rfl
  ·rw [List.length_append,List.length_map];exact T
  ·grind
  ·rw [List.map_append];rfl
  intro p b;rcases List.mem_append.1 b with b|b
  ·exact (C p b).mono (j.trans B)
  rw[List.mem_singleton.1 b];exact o.mono B
 refine gg ?_;have z:l≠0:=by omega
 obtain⟨l,rfl⟩:∃l2,l=l2+1:=⟨l-1,by omega⟩;have O:=Gc f (by show (0:Int)<((l+1:Nat):Int);omega);have d:=HU (q:=q) O;have K:BO xs q=place xs q-1:=if_neg (by rw[V];decide);refine gg ?_;refine lq (Bh (wYr rfl rfl rfl rfl) (v':=.int .i64 ((BO xs q:Nat):Int)) (congrArg _ (by rw[K];omega))) ?_;refine gg ?_;refine lh (Ab (cs:=[_,_,_]) rfl rfl rfl (by rfl) (by rfl) (by rfl)) ?_;rintro _ _ _ ⟨aq,rfl,rfl,rfl⟩;have Q:l<6:=by omega
 refine lh (AY (R:=Rk) (m:=1) (news:=A4 (⟨((l+1:Nat):Int),xs,BO xs q⟩,.slice H xs.length D)) rfl rfl rfl rfl c rfl (λi v L=>CJ.loc (by rw[<-L];show _[0+i]? =_;rw[Nat.zero_add];rfl)) rfl (by rfl) (by simp[A4,Value.oneCell']) (by omega) (by omega)) ?_;rintro s' _ _ ⟨rfl,Rq,rfl,a,_⟩;obtain⟨a4,Z,rfl⟩:=a.form;refine gg ?_;obtain⟨sb,so,e0,hx⟩:=N.open (by intro e;have:=congrArg List.length e;rw[Aj Ae 5 Ag,List.length_nil]at this;have h2:=congrArg List.length y;rw[List.length_map]at h2;omega);cases e0;obtain⟨va,vc,S,ah,ag⟩:=Aw hx y P d;refine gh ?_;refine lq (Au rfl rfl rfl rfl ((S 3 _ rfl).cj _)) ?_;refine gh ?_;obtain⟨ys,J,ae,I⟩:=BJ X (List.getElem_mem d);have ab:kid s xs[BO xs q]=ys:=by grind[kid]
 refine BD ⟨xs[BO xs q].ref,l,ys,ps++[(⟨((l+1:Nat):Int),xs,BO xs q⟩,.slice (some ⟨sb,so,none⟩) xs.length D)],Mn,Rq,.slice a4 (ps.length+1) Z⟩ ⟨by have:=E.ref _ (List.getElem_mem d);have:=E.up (by omega) _ (List.getElem_mem d);show 8<=xs[BO xs q].ref/\xs[BO xs q].ref<256;omega,J,I,F.trans j,?_,?_,?_,?_⟩ (hs:=λw h=>h.dropAt.dropAt.perm BE)
 ·grind
 ·intro p b;rcases List.mem_append.1 b with b|b
  ·exact (C p b).mono j
  grind
 ·grind [AE,kid,BO]
 grind
section
variable{P:Program}{ops:Array Oper}{N:Fs}{F:Fr}{E:Ent}{M:Mem}{L:Lc}{o:Oper}
theorem Fd{x y:Operand}{t u e:TypeId}{b off dn dc:Nat}{g:Option Addr}{c m d:Nat}{l cs:List Value}{i:TypeId}{L':Lc}{I:Nat}{z:List Value}(Z:gd ops F o=some true)
  (W:o.op=.call { callee:=.builtin .copy,args:=#[x,y],argTypes:=#[t,u] }) (S:ev F x=some (.slice (some ⟨b,off,none⟩) dn dc)) (R:ev F y=some (.slice g c m)) [U:Und P t (.slice e)] [X:Lay P e d I z]
  (C:cs.length=min c dn*d) (H:SJ M L g cs) (h1:∀v∈cs,v.oneCell'=true) [J:At b (.cells l.toArray i (0,0)) L] (O:off+cs.length<=l.length)
  [V:PutAt b (.cells l.toArray i (0,0)) (.cells (l.take off++cs++l.drop (off+cs.length)).toArray i (0,0)) L L']:
  HF P ops N F E M L o (λv M' K=>v=.int .i64 (min c dn:Nat)/\M=M'/\K=L'):=CP Z λa w Q s=>by
 obtain⟨ti,zv,Y,D,_⟩:=X.info
 have hb:=(s.locs _ J.mem).1
 refine⟨.int .i64 (min c dn:Nat),_,M,L',.inl ?_,s.put V,rfl,rfl,rfl⟩
 have B:=run_storeCells_at P b off i cs 0 l.toArray w hb (by simp;omega) h1
 have G:(Builtin.firstCells d (min c dn) (.slice g c m)).run P w=.ok cs.toArray w:=by
  rcases H with rfl|⟨n,k,rfl,hc⟩
  ·rw [List.length_nil]at C;have h0:min c dn*d=0:=C.symm;cases g<;>simp[Builtin.firstCells,h0,loadCells,loadCellsFrom]
  have f:∀j,(⟨n,k,none⟩:Addr).add j=⟨n,k+j,none⟩:=λj=>by unfold Addr.add;split<;>simp_all
  exact run_firstCells_some (P:=P) w d (min c dn) ⟨n,k,none⟩ c m cs C (λj v T=>by rw[f];exact(hc j v T).cell s.js)
 simp[execOp,W,resolve,invoke,builtin,Q.ev S,Q.ev R,Builtin.copy_,run_underlying U.h,sizeOf,typeInfo,Y,D,Builtin.lenOf,G,B,goInt]
theorem Tk{x y:Operand}{t K e:TypeId}{k kn:IntKind}{b off n c size d:Nat}{Z:Int}(m:Nat){z xs:List Value}(hg:gd ops F o=some true)
  (ho:o.op=.call { callee:=.builtin .append,args:=#[x,y],argTypes:=#[t,K] }) (hx:ev F x=some (.slice (some ⟨b,off,none⟩) n c)) (hy:ev F y=some (.int k Z)) (V:Z=(m:Int)) [ht:Und P t (.slice e)] [T:Und P K (.int kn)] [hl:Lay P e size d z]
  (S:xs.length=n*size) (C:∀i v,xs[i]? =some v->CJ M L b (off+i) v) (R:Nat.blt 0 size=true) (h0:0<m) (hc:c<n+m) (I:n+m<=1000000000) (Y:d<=100000):
  HF P ops N F E M L o (λv' M' L'=>M=M'/\∃g f zs,v'=.slice (some ⟨g,0,none⟩) (n+m) f/\L'=(g,.cells (xs++zs).toArray e (0,0))::L/\n+m<=f/\f<=maxLen/\zs.length=(f-n)*size):=CP hg λa w ha hw=>by
 subst V
 obtain⟨ti,l,hi,G,D,hz,Q⟩:=hl.info
 have O:l.cells.size=size:=by rw[Q];simpa using hl.len
 have U:0<size:=by simpa [Nat.blt_eq]using R
 have J:∀j,(⟨b,off,none⟩:Addr).add j=⟨b,off+j,none⟩:=λj=>by unfold Addr.add;split<;>simp_all
 have hd:St E M L w.drew:={ hw with }
 have ab:(n+m)*d<=1000000000*100000:=Nat.mul_le_mul I Y
 have aa:m*d<=(n+m)*d:=Nat.mul_le_mul_right _ (by omega)
 have hr:=Go.Lib.run_append_grow_zeros (P:=P) w t K o.type e ti l k kn ht.h T.h hi hz (some ⟨b,off,none⟩) n c xs
  (by rw[G];exact run_firstCells_some (P:=P) w.drew size n ⟨b,off,none⟩ n c xs S (λj u hu=>by rw[J];exact(C j u hu).cell hd.js))
  m h0 (by rw[G];exact U) hc (by omega) (by rw[D];omega) (growslice_fits (by omega) (by rw[D];omega))
 have W:=grownCap_ge w (n+m) c e
 have X:grownCap w (n+m) c e<=maxLen:=grownCap_le_maxLen w (n+m) c e (by unfold maxLen;omega)
 obtain⟨zs,B⟩:∃zs:List Value,zs=(Builtin.zeroCells l.cells m).toList++(Builtin.zeroCells l.cells (grownCap w (n+m) c e-(n+m))).toList:=⟨_,rfl⟩
 have s:zs.length=(grownCap w (n+m) c e-n)*size:=by
  rw[B,List.length_append,Array.length_toList,Array.length_toList,size_zeroCells,size_zeroCells,O,<-Nat.add_mul];congr 1;omega
 have H:xs.toArray++Builtin.zeroCells l.cells m++Builtin.zeroCells l.cells (grownCap w (n+m) c e-(n+m))=(xs++zs).toArray:=by
  rw[B];apply Array.ext';simp
 rw[H]at hr
 refine⟨_,w.drew.alloc (.cells (xs++zs).toArray e),M,(w.drew.heap.size,.cells (xs++zs).toArray e (0,0))::L,.inl ?_,hd.alloc (.cells (xs++zs).toArray e),rfl,w.heap.size,_,zs,rfl,rfl,W,X,s⟩
 simp[execOp,ho,resolve,invoke,builtin,ha.ev hx,ha.ev hy,hr]
theorem wVf{x:Operand}{t e:TypeId}{a:Option Addr}{c:Nat}(i:gd ops F o=some true)(g:o.op=.call { callee:=.builtin .clear,args:=#[x],argTypes:=#[t] })(b:ev F x=some (.slice a 0 c))[f:Und P t (.slice e)]:
  HF P ops N F E M L o (λ_ M' k=>M=M'/\k=L):=CP i λl w j d=>by
 refine⟨.tuple #[],w,M,L,.inl ?_,d,rfl,rfl⟩
 cases a<;>simp[execOp,g,resolve,invoke,builtin,j.ev b,Builtin.clear_,run_underlying f.h]
theorem wLg{x y:Operand}{T:Array TypeId}{f:FuncId}{g:Func}{t tr e:TypeId}{c i j C b off lb B H D:Nat}{z G l:List Value}{E O:TypeId}(hg:gd ops F o=some true)
  (W:o.op=.call { callee:=.value (.func f),args:=#[x,y],argTypes:=T }) (R:ev F x=some (.slice (some ⟨c,i,none⟩) j C)) (Q:ev F y=some (.slice (some ⟨b,off,none⟩) lb B))
  (hf : P.funcs[f]? = some g) (a : (g.name == "runtime.NumGoroutine") = false) (hb : g.body.isNone = true) (X : Extern.findNext g = none) (he : Extern.find g = some (Extern.SlicesOverlaps.overlaps #[t, t] #[tr]))
  [U:Und P t (.slice e)] [Y:Lay P e H D z] (S:M c=some (.cells G.toArray E (0,0))) (d:(b,Obj.cells l.toArray O (0,0))∈L) (k:c≠b) (m:l.length≠0):QF P ops N F M L o (.bool false):=Bv hg λac K w I=>by
 obtain⟨ti,zv,Z,n,_⟩:=Y.info
 have u:=I.agree c _ S
 have h2:=I.locs _ d
 have V:=Go.Lib.run_overlaps_apart (P:=P) w t tr e U.h H (λw=>by simp[sizeOf,typeInfo,Z,n]) ⟨c,i,none⟩ ⟨b,off,none⟩ j C lb B k E O G.length l.length
  (by simp[World.shape?,u]) (by simp[World.shape?,h2]) m (by simp[World.frozen?,u]) (by simp[World.frozen?,u])
 have J:=run_callFunc_extern (P:=P) hf a hb X he #[.slice (some ⟨c,i,none⟩) j C,.slice (some ⟨b,off,none⟩) lb B] w
 rw[V]at J
 have s:(ac.eval (.func f))=.func (.func f) #[] #[]:=rfl
 simp[execOp,W,resolve,K.ev R,K.ev Q,s,Deferred.ofValue,invoke,J,Result.andThen]
theorem wEn{x y:Operand}{T:Array TypeId}{f:FuncId}{g:Func}{t tr e:TypeId}{c i k D b off lb C H E:Nat}{z j l:List Value}{G O:TypeId}(hg:gd ops F o=some true)
  (W:o.op=.call { callee:=.value (.func f),args:=#[y,x],argTypes:=T }) (Q:ev F y=some (.slice (some ⟨b,off,none⟩) lb C)) (R:ev F x=some (.slice (some ⟨c,i,none⟩) k D))
  (hf : P.funcs[f]? = some g) (a : (g.name == "runtime.NumGoroutine") = false) (hb : g.body.isNone = true) (X : Extern.findNext g = none) (he : Extern.find g = some (Extern.SlicesOverlaps.overlaps #[t, t] #[tr]))
  [U:Und P t (.slice e)] [Y:Lay P e H E z] (S:M c=some (.cells j.toArray G (0,0))) (d:(b,Obj.cells l.toArray O (0,0))∈L) (m:c≠b) (n:j.length≠0):QF P ops N F M L o (.bool false):=Bv hg λac K w I=>by
 obtain⟨ti,zv,Z,s,_⟩:=Y.info
 have h1:=I.agree c _ S
 have B:=I.locs _ d
 have V:=Go.Lib.run_overlaps_apart (P:=P) w t tr e U.h H (λw=>by simp[sizeOf,typeInfo,Z,s]) ⟨b,off,none⟩ ⟨c,i,none⟩ lb C k D (Ne.symm m) O G l.length j.length
  (by simp[World.shape?,B]) (by simp[World.shape?,h1]) n (by simp[World.frozen?,B]) (by simp[World.frozen?,B])
 have J:=run_callFunc_extern (P:=P) hf a hb X he #[.slice (some ⟨b,off,none⟩) lb C,.slice (some ⟨c,i,none⟩) k D] w
 rw[V]at J
 have u:(ac.eval (.func f))=.func (.func f) #[] #[]:=rfl
 simp[execOp,W,resolve,K.ev R,K.ev Q,u,Deferred.ofValue,invoke,J,Result.andThen]
theorem WB{Q:Exit->Act->World->Prop}{c:List Oper}{d b:Nat}{g i:Obj}(j:M d=some g)(k:(b,i)∈L)(h:d≠b->JL P ops N Q c F E M L):JL P ops N Q c F E M L:=λa w l f=>
 h (λe=>by subst e;have:=(f.locs _ k).2.2;rw[j]at this;cases this) a w l f
end
abbrev Ir:=It×Value
theorem wNx(A B V c:List Value)(a b v:Nat)(f:A.length=a)(e:B.length=b)(d:V.length=v)(hs:v<=c.length):
  ((((A++(B++c)).take (a+v)++B++(A++(B++c)).drop (a+v+B.length)).take a)++V++(((A++(B++c)).take (a+v)++B++(A++(B++c)).drop (a+v+B.length)).drop (a+V.length)))=A++V++B++(c.drop v):=by
 subst f e d;have h:(A++(B++c)).take (A.length+V.length)=A++(B++c).take V.length:=by grind
 have g:(A++(B++c)).drop (A.length+V.length+B.length)=c.drop V.length:=by
  rw[<-List.append_assoc,List.drop_append,List.drop_eq_nil_of_le (by simp only[List.length_append];omega),List.nil_append];congr 1;all_goals (simp only[List.length_append];omega)
 grind
theorem WH(A B V zs:List Value)(a b v:Nat)(e:A.length=a)(d:B.length=b)(c:V.length=v)(hs:v+b<=zs.length):
  ((((A++zs).take a++V++(A++zs).drop (a+V.length)).take (a+v))++B++(((A++zs).take a++V++(A++zs).drop (a+V.length)).drop (a+v+B.length)))=A++V++B++zs.drop (v+b):=by
 subst e d c;have f:(A++zs).drop (A.length+V.length)=zs.drop V.length:=by simp_all
 rw[List.take_left,f];have h:(A++V++zs.drop V.length).take (A.length+V.length)=A++V:=by grind
 have g:(A++V++zs.drop V.length).drop (A.length+V.length+B.length)=zs.drop (V.length+B.length):=by
  rw[List.drop_append,List.drop_eq_nil_of_le (by rw[List.length_append];omega),List.nil_append,List.drop_drop];congr 1;rw[List.length_append];omega
 grind
theorem fl(p:List Ir):(p.flatMap Ae).length=p.length*5:=Aj Ae 5 Ag p
theorem B2{p:List Ir}(h:∀x∈p,x.2.oneCell'=true):∀u∈p.flatMap Ae,u.oneCell'=true:=λu a=>by
 obtain⟨x,b,a⟩:=List.mem_flatMap.1 a
 simp only[Ae,List.mem_cons,List.not_mem_nil,or_false]at a
 rcases a with rfl|rfl|rfl|rfl|rfl
 ·rfl
 ·rfl
 ·rfl
 ·rfl
 exact h x b
variable{A:List Value}{L:Lc}{M:Mem}{e:TypeId}{g:Nat}
theorem Yc{off:Nat}{B b:List Value}(d:(g,cE (A++(B++b)) e)∈L)(c:off=A.length):SJ M L (some ⟨g,off,none⟩) B:=
 .inr ⟨g,off,rfl,λi v a=>⟨_,_,_,.inr d,by
  subst c
  have f:=(List.getElem?_eq_some_iff.1 a).1
  rw[List.getElem?_toArray,List.getElem?_append_right (by omega),Nat.add_sub_cancel_left,List.getElem?_append_left f];exact a⟩⟩
theorem wQw{B:List Value}(b:(g,cE (A++B) e)∈L):∀i v,A[i]? =some v->CJ M L g (0+i) v:=λi v a=>⟨_,_,_,.inr b,by
 have c:=(List.getElem?_eq_some_iff.1 a).1
 rw[List.getElem?_toArray,Nat.zero_add,List.getElem?_append_left c];exact a⟩
variable{l xs:List Value}
theorem Hg{n a:Nat}{b:List Value}(f:l=xs++b)(c:xs.length=n*5)(d:n<=a)(h:a<=maxLen)(hs:l.length=a*5):Own (.slice (some ⟨g,0,none⟩) n a) [(g,.cells l.toArray e (0,0))] e 5 n xs:=
 ⟨c,.inr ⟨g,a,l.toArray,rfl,rfl,d,h,by simpa using hs,by rw[f,<-c];exact List.take_left⟩⟩
variable{b:Nat}
theorem SM.of_block_pre{c:List Value}{fz:Nat×Nat}(h:M b=some (.cells (xs++c).toArray e fz)):SM M (some ⟨b,0,none⟩) xs:=
 .inr ⟨b,0,rfl,λi u a=>⟨_,_,_,h,by
  have d:=(List.getElem?_eq_some_iff.1 a).1
  rw[List.getElem?_toArray,Nat.zero_add,List.getElem?_append_left d];exact a⟩⟩
theorem wVb(p1 p2 vs:List Ir)(g c:Nat)(sp:List Value)(vb vc:Nat)(vl:List Value)(ve:TypeId)(M:Mem)(hvb:M vb=some (.cells (vs.flatMap Ae++vl).toArray ve (0,0)))(hvo:∀x∈vs,x.2.oneCell'=true)(hpo:∀x∈p2,x.2.oneCell'=true)(hm:0<vs.length)(h2:0<p2.length)(hc:p1.length+p2.length<=c)(hcm:c<=maxLen)(hsp:sp.length=(c-(p1.length+p2.length))*5)(hbig:p1.length+p2.length+vs.length<=100000):
  SpecL prog 312 #[.slice (some ⟨g,0,none⟩) (p1.length+p2.length) c,.int .i64 p1.length,.slice (some ⟨vb,0,none⟩) vs.length vc] M [(g,.cells (p1.flatMap Ae++(p2.flatMap Ae++sp)).toArray IT (0,0))] λu M' L'=>Own u L' IT 5 (p1.length+vs.length+p2.length) ((p1++vs++p2).flatMap Ae):=by
 refine sB func312 ntmps312 ?_;intro W;refine gh ?_;refine lq (CL rfl rfl rfl (.no _) (.no _) (.of (v:=p1.length) rfl (by omega) (by omega)) (by omega) (by simp)) ?_;refine gt ?_;refine lq (T1 rfl rfl rfl) ?_;refine gj (λh31=>?_) λh31=>?_
 ·refine gh ?_;refine lq (Bh (CL rfl rfl rfl (.no _) (.of (v:=p1.length) rfl (by omega) (by omega)) (.no _) (by omega) (by simp)) (v':=.slice (some ⟨g,0,none⟩) (p1.length) (c)) (by rw[AU];rfl)) ?_;refine gh ?_;refine lh (Tk (m:=vs.length+p2.length) (xs:=p1.flatMap Ae) rfl rfl rfl rfl (by omega) (fl p1) (wQw (List.Mem.head _)) rfl (by omega) (by omega) (by omega) (by omega)) ?_;rintro _ _ _ ⟨rfl,g2,c2,zs,rfl,rfl,hc2a,hc2b,hzs⟩;refine gh ?_;refine lq (Bh (CL rfl rfl rfl (.no _) (.no _) (.of (v:=p1.length) rfl (by omega) (by omega)) (by omega) (by simp)) (v':=.slice (some ⟨g2,p1.length*5,none⟩) (p1.length+(vs.length+p2.length)-p1.length) (c2-p1.length)) (by rw[AH (by omega)];exact congrArg (λk=>Value.slice (some ⟨g2,k,none⟩) _ _) (by omega))) ?_;refine gh ?_;refine lh (Fd (cs:=vs.flatMap Ae) rfl rfl rfl rfl (by rw[fl];congr 1;omega) ((SM.of_block_pre hvb).sj _) (B2 hvo) (by simp only[List.length_append,List.length_take,List.length_drop,fl];omega)) ?_;rintro _ _ _ ⟨rfl,rfl,rfl⟩;refine gh ?_;refine D7 [0,1,2,3,4,5,6,7,108] [] ?_;refine gh ?_;refine dq rfl (Bh (CL rfl rfl rfl (.no _) (.no _) (.of (v:=p1.length+vs.length) rfl (by omega) (by omega)) (by omega) (by simp)) (v':=.slice (some ⟨g2,p1.length*5+vs.length*5,none⟩) (p1.length+(vs.length+p2.length)-(p1.length+vs.length)) (c2-(p1.length+vs.length))) (by rw[AH (by omega)];exact congrArg (λk=>Value.slice (some ⟨g2,k,none⟩) _ _) (by omega))) ?_;refine gh ?_;refine dq rfl (Bh (CL rfl rfl rfl (.no _) (.no _) (.of (v:=p1.length) rfl (by omega) (by omega)) (by omega) (by simp)) (v':=.slice (some ⟨g,p1.length*5,none⟩) ((p1.length+p2.length)-p1.length) (c-p1.length)) (by rw[AH (by omega)];exact congrArg (λk=>Value.slice (some ⟨g,k,none⟩) _ _) (by omega))) ?_;refine dh rfl (Fd (cs:=p2.flatMap Ae) rfl rfl rfl rfl (by rw[fl];congr 1;omega) (Yc (List.Mem.tail _ (List.Mem.head _)) (fl p1).symm) (B2 hpo) (by simp only[List.length_append,List.length_take,List.length_drop,fl];omega)) ?_;rintro _ _ _ ⟨rfl,rfl,rfl⟩;refine⟨MLe.refl _,by simp,?_⟩;refine gh ?_;refine AB (List.Sublist.cons_cons _ (List.nil_sublist _)) ?_;refine FX rfl rfl ?_;grind[Hg,WH,fl]
 refine gh ?_;refine lq (Bh (CL rfl rfl rfl (.no _) (.of (v:=p1.length+p2.length+vs.length) rfl (by omega) (by omega)) (.no _) (by omega) (by simp)) (v':=.slice (some ⟨g,0,none⟩) (p1.length+p2.length+vs.length) (c)) (by rw[AU];rfl)) ?_;refine gh ?_;refine lq (Bh (CL rfl rfl rfl (.no _) (.no _) (.of (v:=p1.length+vs.length) rfl (by omega) (by omega)) (by omega) (by simp)) (v':=.slice (some ⟨g,p1.length*5+vs.length*5,none⟩) (p1.length+p2.length+vs.length-(p1.length+vs.length)) (c-(p1.length+vs.length))) (by rw[AH (by omega)];exact congrArg (λk=>Value.slice (some ⟨g,k,none⟩) _ _) (by omega))) ?_;refine WB hvb (List.Mem.head _) (λhne=>?_);refine lq (Bh (wLg (t:=79) (tr:=4) rfl rfl rfl rfl func313 rfl rfl (by kernel_rfl) (by kernel_rfl) hvb (List.Mem.head _) hne (by simp only[List.length_append,fl];omega)) (v':=.bool false) (by rfl)) ?_;refine gh ?_;refine D7 [0,1,2,3,4,5,6,7,108] [] ?_;refine gh ?_;refine dq rfl (Bh (CL rfl rfl rfl (.no _) (.no _) (.of (v:=p1.length+vs.length) rfl (by omega) (by omega)) (by omega) (by simp)) (v':=.slice (some ⟨g,p1.length*5+vs.length*5,none⟩) (p1.length+p2.length+vs.length-(p1.length+vs.length)) (c-(p1.length+vs.length))) (by rw[AH (by omega)];exact congrArg (λk=>Value.slice (some ⟨g,k,none⟩) _ _) (by omega))) ?_;refine gh ?_;refine dq rfl (Bh (CL rfl rfl rfl (.no _) (.no _) (.of (v:=p1.length) rfl (by omega) (by omega)) (by omega) (by simp)) (v':=.slice (some ⟨g,p1.length*5,none⟩) (p1.length+p2.length+vs.length-p1.length) (c-p1.length)) (by rw[AH (by omega)];exact congrArg (λk=>Value.slice (some ⟨g,k,none⟩) _ _) (by omega))) ?_;refine dh rfl (Fd (cs:=p2.flatMap Ae) rfl rfl rfl rfl (by rw[fl];congr 1;omega) (Yc (List.Mem.head _) (fl p1).symm) (B2 hpo) (by simp only[List.length_append,List.length_take,List.length_drop,fl];omega)) ?_;rintro _ _ _ ⟨rfl,rfl,rfl⟩;refine⟨MLe.refl _,by simp,?_⟩;refine gh ?_;refine lq (Bh (CL rfl rfl rfl (.no _) (.no _) (.of (v:=p1.length) rfl (by omega) (by omega)) (by omega) (by simp)) (v':=.slice (some ⟨g,p1.length*5,none⟩) (p1.length+p2.length+vs.length-p1.length) (c-p1.length)) (by rw[AH (by omega)];exact congrArg (λk=>Value.slice (some ⟨g,k,none⟩) _ _) (by omega))) ?_;refine gh ?_;refine lh (Fd (cs:=vs.flatMap Ae) rfl rfl rfl rfl (by rw[fl];congr 1;omega) ((SM.of_block_pre hvb).sj _) (B2 hvo) (by simp only[List.length_append,List.length_take,List.length_drop,fl];omega)) ?_;rintro _ _ _ ⟨rfl,rfl,rfl⟩;refine Ai (jT (Ah (Af ?_)));iterate 2 refine jp rfl ?_
 refine Ai (jT (Bq (wJh ?_)));refine FX rfl rfl ?_;rw[show p1.length+p2.length+vs.length=p1.length+vs.length+p2.length by omega];exact Hg ((wNx _ _ _ sp (p1.length*5) (p2.length*5) (vs.length*5) (fl p1) (fl p2) (fl vs) (by omega)).trans (by rw[List.flatMap_append,List.flatMap_append])) (by rw[fl,List.length_append,List.length_append]) (by omega) hcm (by simp only[List.length_append,List.length_take,List.length_drop,fl];omega)
theorem wVc(ps vs:List Ir)(g:Option Addr)(b:Nat)(R:Lc)(a:Own (.slice g ps.length b) R IT 5 ps.length (ps.flatMap Ae))(l:ps.length<=b)(f k:Nat)(i:List Value)(j:TypeId)(M:Mem)(d:M f=some (cE (vs.flatMap Ae++i) j))(c:∀x∈vs,x.2.oneCell'=true)(s:0<vs.length)(h:ps.length+vs.length<=100000):
  SpecL prog 312 #[.slice g ps.length b,.int .i64 ps.length,.slice (some ⟨f,0,none⟩) vs.length k] M R λu M' L'=>Own u L' IT 5 (ps.length+vs.length) ((ps++vs).flatMap Ae):=by
 refine sB func312 ntmps312 ?_;intro W;refine gh ?_;refine lq (CL rfl rfl rfl (.no _) (.no _) (.of (v:=ps.length) rfl (by omega) (by omega)) (by omega) (by simp)) ?_;refine gt ?_;refine lh (Eh (R:=R) (n:=ps.length) (m:=vs.length) (news:=vs.flatMap Ae) rfl rfl rfl rfl a (fl vs) (SM.of_block_pre d) rfl (B2 c) (by omega) (by omega)) ?_;rintro _ _ _ ⟨rfl,o,rfl,e⟩;refine gh ?_;refine AB (L':=o) (by simp) ?_;refine FX rfl rfl ?_;grind
theorem J2{ps:List Ir}{sa:Option Addr}{sc i:Nat}{R:Lc}(h:Own (.slice sa ps.length sc) R IT 5 ps.length (ps.flatMap Ae))(hi:i<ps.length):
  ∃g sp,sa=some ⟨g,0,none⟩/\R=[(g,.cells ((ps.take i).flatMap Ae++((ps.drop i).flatMap Ae++sp)).toArray IT (0,0))]/\ps.length<=sc/\sc<=maxLen/\sp.length=(sc-ps.length)*5:=by
 obtain⟨g,cap,cur,e,rfl,h1,h2,h3,h4⟩:=h.open (by omega);cases e;refine⟨g,cur.toList.drop (ps.length*5),rfl,?_,h1,h2,?_⟩
 ·rw [<-List.append_assoc,<-List.flatMap_append,List.take_append_drop,<-h4,List.take_append_drop,Array.toArray_toList]
 grind
theorem wNw(ps vs:List Ir)(i:Nat)(G:i<=ps.length)(o:Option Addr)(b:Nat)(R:Lc)(a:Own (.slice o ps.length b) R IT 5 ps.length (ps.flatMap Ae))(f:∀x∈ps,x.2.oneCell'=true)(z:ps.length<=b)(c n:Nat)(l:List Value)(m:TypeId)(M:Mem)(e:M c=some (cE (vs.flatMap Ae++l) m))(d:∀x∈vs,x.2.oneCell'=true)(B:0<vs.length)(s:ps.length+vs.length<=100000):
  SpecL prog 312 #[.slice o ps.length b,.int .i64 i,.slice (some ⟨c,0,none⟩) vs.length n] M R λu _ E=>Own u E IT 5 (ps.length+vs.length) ((ps.take i++vs++ps.drop i).flatMap Ae):=by
 by_cases h:i=ps.length
 ·grind [wVc]
 obtain⟨g,w,rfl,rfl,H,D,C⟩:=J2 a (i:=i) (by omega);have k:(ps.take i).length=i:=by grind
 have j:(ps.drop i).length=ps.length-i:=List.length_drop;have F:=wVb (ps.take i) (ps.drop i) vs g b w c n l m M e d (λx y=>f x (List.mem_of_mem_drop y)) B (by omega) (by omega) D (by rw[k,j];rw[show i+(ps.length-i)=ps.length by omega];exact C) (by omega);grind
theorem wNv(A B V T:List Value)(a b v:Nat)(e:A.length=a)(d:B.length=b)(c:V.length=v)(hs:v<=T.length):
  ((((A++T).take (a+v)++B++(A++T).drop (a+v+B.length)).take a)++V++(((A++T).take (a+v)++B++(A++T).drop (a+v+B.length)).drop (a+V.length)))=A++V++B++(T.drop (v+b)):=by
 subst e d c;have g:(A++T).take (A.length+V.length)=A++T.take V.length:=by grind
 have f:(A++T).drop (A.length+V.length+B.length)=T.drop (V.length+B.length):=by
  rw[List.drop_append,List.drop_eq_nil_of_le (by omega),List.nil_append];congr 1;omega
 grind
theorem wUd(A V Y T:List Value)(a:Nat)(c:A.length=a)(b:V.length=Y.length):(A++(Y++T)).take a++V++(A++(Y++T)).drop (a+V.length)=A++(V++T):=by
 grind
theorem wLx(A V B T:List Value)(a:Nat)(b:A.length+V.length=a):(A++(V++(B++T))).take a++B++(A++(V++(B++T))).drop (a+B.length)=A++V++B++T:=by
 subst b;rw[<-List.append_assoc,show A.length+V.length=(A++V).length by rw[List.length_append],List.take_left,<-List.append_assoc (A++V) B T,show (A++V).length+B.length=(A++V++B).length by simp only[List.length_append],List.drop_left]
variable{A:List Value}{L:Lc}{M:Mem}{e:TypeId}{g:Nat}
theorem LA{off:Nat}{Y B a:List Value}(c:(g,cE (A++(Y++(B++a))) e)∈L)(b:off=A.length+Y.length):SJ M L (some ⟨g,off,none⟩) B:=
 Yc (A:=A++Y) (by rw[List.append_assoc];exact c) (by rw[List.length_append];exact b)
theorem wTj(a:List Ir)(y:Ir)(p2 vs:List Ir)(g c:Nat)(s:List Value)(o F:Nat)(D:List Value)(E:TypeId)(M:Mem)(b:M o=some (cE (vs.flatMap Ae++D) E))(d:∀x∈vs,x.2.oneCell'=true)(e:∀x∈p2,x.2.oneCell'=true)(J:0<vs.length)(L:0<p2.length)(K:a.length+1+p2.length<=c)(j:c<=maxLen)(H:s.length=(c-(a.length+1+p2.length))*5)(B:a.length+1+p2.length+vs.length<=100000):
  SpecL prog 261 #[.slice (some ⟨g,0,none⟩) (a.length+1+p2.length) c,.int .i64 a.length,.int .i64 ((a.length+1:Nat):Int),.slice (some ⟨o,0,none⟩) vs.length F] M [(g,cE (a.flatMap Ae++(Ae y++(p2.flatMap Ae++s))) IT)] λu M' I=>Own u I IT 5 (a.length+vs.length+p2.length) ((a++vs++p2).flatMap Ae):=by
 refine sB func261 ntmps261 ?_;intro W;refine gh ?_;refine lq (CL rfl rfl rfl (.no _) (.of (v:=a.length+1) rfl (by omega) (by omega)) (.of (v:=a.length) rfl (by omega) (by omega)) (by omega) (by simp)) ?_;refine gt ?_;refine D7 [0,1,2,3,4,5,6,7,8,9,10,11,12] [] ?_;refine gh ?_;refine dq rfl (Bh (CL rfl rfl rfl (.no _) (.of (v:=a.length) rfl (by omega) (by omega)) (.no _) (by omega) (by simp)) (v':=.slice (some ⟨g,0,none⟩) (a.length) (c)) (by rw[AU];rfl)) ?_;refine gh ?_;refine dq rfl (Bh (CL rfl rfl rfl (.no _) (.no _) (.of (v:=a.length+1) rfl (by omega) (by omega)) (by omega) (by simp)) (v':=.slice (some ⟨g,a.length*5+5,none⟩) (a.length+1+p2.length-(a.length+1)) (c-(a.length+1))) (by rw[AH (by omega)];exact congrArg (λk=>Value.slice (some ⟨g,k,none⟩) _ _) (by omega))) ?_;refine gh ?_;refine lq (T1 rfl rfl rfl) ?_;refine gj (λn=>?_) λn=>?_
 ·refine gh ?_;refine lq (Bh (CL rfl rfl rfl (.no _) (.of (v:=a.length) rfl (by omega) (by omega)) (.no _) (by omega) (by simp)) (v':=.slice (some ⟨g,0,none⟩) (a.length) (c)) (by rw[AU];rfl)) ?_;refine gh ?_;refine lh (Tk (m:=vs.length+p2.length) (xs:=a.flatMap Ae) rfl rfl rfl rfl (by omega) (fl a) (wQw (List.Mem.head _)) rfl (by omega) (by omega) (by omega) (by omega)) ?_;rintro _ _ _ ⟨rfl,f,C,zs,rfl,rfl,z,w,G⟩;refine gh ?_;refine lq (Bh (CL rfl rfl rfl (.no _) (.no _) (.of (v:=a.length) rfl (by omega) (by omega)) (by omega) (by simp)) (v':=.slice (some ⟨f,a.length*5,none⟩) (a.length+(vs.length+p2.length)-a.length) (C-a.length)) (by rw[AH (by omega)];exact congrArg (λk=>Value.slice (some ⟨f,k,none⟩) _ _) (by omega))) ?_;refine gh ?_;refine lh (Fd (cs:=vs.flatMap Ae) rfl rfl rfl rfl (by rw[fl];congr 1;omega) ((SM.of_block_pre b).sj _) (B2 d) (by simp only[List.length_append,List.length_take,List.length_drop,fl,Ag];omega)) ?_;rintro _ _ _ ⟨rfl,rfl,rfl⟩;refine gh ?_;refine D7 [0,1,2,3,4,5,6,7,8,109] [] ?_;refine gh ?_;refine dq rfl (Bh (CL rfl rfl rfl (.no _) (.no _) (.of (v:=a.length+vs.length) rfl (by omega) (by omega)) (by omega) (by simp)) (v':=.slice (some ⟨f,a.length*5+vs.length*5,none⟩) (a.length+(vs.length+p2.length)-(a.length+vs.length)) (C-(a.length+vs.length))) (by rw[AH (by omega)];exact congrArg (λk=>Value.slice (some ⟨f,k,none⟩) _ _) (by omega))) ?_;refine gh ?_;refine dq rfl (Bh (CL rfl rfl rfl (.no _) (.no _) (.of (v:=a.length+1) rfl (by omega) (by omega)) (by omega) (by simp)) (v':=.slice (some ⟨g,a.length*5+5,none⟩) (a.length+1+p2.length-(a.length+1)) (c-(a.length+1))) (by rw[AH (by omega)];exact congrArg (λk=>Value.slice (some ⟨g,k,none⟩) _ _) (by omega))) ?_;refine dh rfl (Fd (cs:=p2.flatMap Ae) rfl rfl rfl rfl (by rw[fl];congr 1;omega) (LA (List.Mem.tail _ (List.Mem.head _)) (by rw[fl];show _=a.length*5+5;omega)) (B2 e) (by simp only[List.length_append,List.length_take,List.length_drop,fl,Ag];omega)) ?_;rintro _ _ _ ⟨rfl,rfl,rfl⟩;refine⟨MLe.refl _,by simp,?_⟩;refine gh ?_;refine AB (List.Sublist.cons_cons _ (List.nil_sublist _)) ?_;refine FX rfl rfl ?_;grind[Hg,WH,fl,Ag]
 refine gh ?_;refine lq (Bh (CL rfl rfl rfl (.no _) (.of (v:=a.length+vs.length+p2.length) rfl (by omega) (by omega)) (.no _) (by omega) (by simp)) (v':=.slice (some ⟨g,0,none⟩) (a.length+vs.length+p2.length) (c)) (by rw[AU];exact congrArg (λk=>Value.slice _ k _) (by omega))) ?_;refine gj (λl=>?_) λl=>?_
 ·refine gh ?_;refine lq (Bh (CL rfl rfl rfl (.no _) (.no _) (.of (v:=a.length) rfl (by omega) (by omega)) (by omega) (by simp)) (v':=.slice (some ⟨g,a.length*5,none⟩) (a.length+vs.length+p2.length-a.length) (c-a.length)) (by rw[AH (by omega)];exact congrArg (λk=>Value.slice (some ⟨g,k,none⟩) _ _) (by omega))) ?_;refine gh ?_;refine lh (Fd (cs:=vs.flatMap Ae) rfl rfl rfl rfl (by rw[fl];congr 1;omega) ((SM.of_block_pre b).sj _) (B2 d) (by simp only[List.length_append,List.length_take,List.length_drop,fl,Ag];omega)) ?_;rintro _ _ _ ⟨rfl,rfl,rfl⟩;have h:vs.length=1:=by omega
  rw[wUd _ _ _ _ _ (fl a) (by rw[fl,h];rfl)];refine gh ?_;refine D7 [0,1,2,3,4,5,6,7,8,109] [] ?_;refine gh ?_;refine dq rfl (Bh (CL rfl rfl rfl (.no _) (.no _) (.of (v:=a.length+vs.length) rfl (by omega) (by omega)) (by omega) (by simp)) (v':=.slice (some ⟨g,a.length*5+vs.length*5,none⟩) (a.length+vs.length+p2.length-(a.length+vs.length)) (c-(a.length+vs.length))) (by rw[AH (by omega)];exact congrArg (λk=>Value.slice (some ⟨g,k,none⟩) _ _) (by omega))) ?_;refine gh ?_;refine dq rfl (Bh (CL rfl rfl rfl (.no _) (.no _) (.of (v:=a.length+1) rfl (by omega) (by omega)) (by omega) (by simp)) (v':=.slice (some ⟨g,a.length*5+5,none⟩) (a.length+1+p2.length-(a.length+1)) (c-(a.length+1))) (by rw[AH (by omega)];exact congrArg (λk=>Value.slice (some ⟨g,k,none⟩) _ _) (by omega))) ?_;refine dh rfl (Fd (cs:=p2.flatMap Ae) rfl rfl rfl rfl (by rw[fl];congr 1;omega) (LA (List.Mem.head _) (by rw[fl,fl];omega)) (B2 e) (by simp only[List.length_append,List.length_take,List.length_drop,fl,Ag];omega)) ?_;rintro _ _ _ ⟨rfl,rfl,rfl⟩;refine⟨MLe.refl _,by simp,?_⟩;refine gh ?_;refine lq (Bh (CL rfl rfl rfl (.no _) (.no _) (.of (v:=a.length+vs.length+p2.length) rfl (by omega) (by omega)) (by omega) (by simp)) (v':=.slice (HE (some ⟨g,0,none⟩) (a.length+vs.length+p2.length) c 5) 0 (c-(a.length+vs.length+p2.length))) (by congr 1;omega)) ?_;refine DE rfl (wVf rfl rfl rfl) ?_;rintro _ _ _ ⟨rfl,rfl⟩;refine Ai (jT (Ah (Af ?_)));iterate 2 refine jp rfl ?_
  refine Ai (jT (Bq (wJh ?_)));refine FX rfl rfl ?_;grind[Hg,wLx,fl,Ag]
 refine gh ?_;refine lq (Bh (CL rfl rfl rfl (.no _) (.no _) (.of (v:=a.length+vs.length) rfl (by omega) (by omega)) (by omega) (by simp)) (v':=.slice (some ⟨g,a.length*5+vs.length*5,none⟩) (a.length+vs.length+p2.length-(a.length+vs.length)) (c-(a.length+vs.length))) (by rw[AH (by omega)];exact congrArg (λk=>Value.slice (some ⟨g,k,none⟩) _ _) (by omega))) ?_;refine gh ?_;refine WB b (List.Mem.head _) (λi=>?_);refine lq (Bh (wEn (t:=79) (tr:=4) rfl rfl rfl rfl func313 rfl rfl (by kernel_rfl) (by kernel_rfl) b (List.Mem.head _) i (by simp only[List.length_append,fl];omega)) (v':=.bool false) (by rfl)) ?_;refine gh ?_;refine D7 [0,1,2,3,4,5,6,7,8,109] [] ?_;refine gh ?_;refine dq rfl (Bh (CL rfl rfl rfl (.no _) (.no _) (.of (v:=a.length+vs.length) rfl (by omega) (by omega)) (by omega) (by simp)) (v':=.slice (some ⟨g,a.length*5+vs.length*5,none⟩) (a.length+vs.length+p2.length-(a.length+vs.length)) (c-(a.length+vs.length))) (by rw[AH (by omega)];exact congrArg (λk=>Value.slice (some ⟨g,k,none⟩) _ _) (by omega))) ?_;refine gh ?_;refine dq rfl (Bh (CL rfl rfl rfl (.no _) (.no _) (.of (v:=a.length+1) rfl (by omega) (by omega)) (by omega) (by simp)) (v':=.slice (some ⟨g,a.length*5+5,none⟩) (a.length+1+p2.length-(a.length+1)) (c-(a.length+1))) (by rw[AH (by omega)];exact congrArg (λk=>Value.slice (some ⟨g,k,none⟩) _ _) (by omega))) ?_;refine dh rfl (Fd (cs:=p2.flatMap Ae) rfl rfl rfl rfl (by rw[fl];congr 1;omega) (LA (List.Mem.head _) (by rw[fl];show _=a.length*5+5;omega)) (B2 e) (by simp only[List.length_append,List.length_take,List.length_drop,fl,Ag];omega)) ?_;rintro _ _ _ ⟨rfl,rfl,rfl⟩;refine⟨MLe.refl _,by simp,?_⟩;refine gh ?_;refine lq (Bh (CL rfl rfl rfl (.no _) (.no _) (.of (v:=a.length) rfl (by omega) (by omega)) (by omega) (by simp)) (v':=.slice (some ⟨g,a.length*5,none⟩) (a.length+vs.length+p2.length-a.length) (c-a.length)) (by rw[AH (by omega)];exact congrArg (λk=>Value.slice (some ⟨g,k,none⟩) _ _) (by omega))) ?_;refine gh ?_;refine lh (Fd (cs:=vs.flatMap Ae) rfl rfl rfl rfl (by rw[fl];congr 1;omega) ((SM.of_block_pre b).sj _) (B2 d) (by simp only[List.length_append,List.length_take,List.length_drop,fl,Ag];omega)) ?_;rintro _ _ _ ⟨rfl,rfl,rfl⟩;refine Ai (jT (Ah (Af ?_)));iterate 2 refine jp rfl ?_
 refine Ai (jT (Bq (wJh ?_)));refine FX rfl rfl ?_;exact Hg ((wNv _ _ _ _ (a.length*5) (p2.length*5) (vs.length*5) (fl a) (fl p2) (fl vs) (by simp only[List.length_append,fl,Ag];omega)).trans (by rw[List.flatMap_append,List.flatMap_append])) (by rw[fl,List.length_append,List.length_append]) (by omega) j (by simp only[List.length_append,List.length_take,List.length_drop,fl,Ag];omega)
theorem wTk(a:List Ir)(y:Ir)(vs:List Ir)(g c:Nat)(d:List Value)(i o:Nat)(k:List Value)(l:TypeId)(M:Mem)(f:M i=some (cE (vs.flatMap Ae++k) l))(e:∀x∈vs,x.2.oneCell'=true)(C:0<vs.length)(D:a.length+1<=c)(h:c<=maxLen)(s:d.length=(c-(a.length+1))*5)(j:a.length+1+vs.length<=100000):
  SpecL prog 261 #[.slice (some ⟨g,0,none⟩) (a.length+1) c,.int .i64 a.length,.int .i64 ((a.length+1:Nat):Int),.slice (some ⟨i,0,none⟩) vs.length o] M [(g,cE (a.flatMap Ae++(Ae y++d)) IT)] λu M' L'=>Own u L' IT 5 (a.length+vs.length) ((a++vs).flatMap Ae):=by
 refine sB func261 ntmps261 ?_;intro W;refine gh ?_;refine lq (CL rfl rfl rfl (.no _) (.of (v:=a.length+1) rfl (by omega) (by omega)) (.of (v:=a.length) rfl (by omega) (by omega)) (by omega) (by simp)) ?_;refine gt ?_;refine lq (Bh (CL rfl rfl rfl (.no _) (.of (v:=a.length) rfl (by omega) (by omega)) (.no _) (by omega) (by simp)) (v':=.slice (some ⟨g,0,none⟩) (a.length) (c)) (by rw[AU];rfl)) ?_;refine gh ?_;refine lh (Eh (R:=[(g,cE (a.flatMap Ae++(Ae y++d)) IT)]) (n:=a.length) (m:=vs.length) (xs:=a.flatMap Ae) (news:=vs.flatMap Ae) rfl rfl rfl rfl (Hg rfl (fl a) (by omega) h (by simp only[List.length_append,fl,Ag];omega)) (fl vs) (SM.of_block_pre f) rfl (B2 e) (by omega) (by omega)) ?_;rintro _ _ _ ⟨rfl,w,rfl,b⟩;obtain⟨B,z,rfl⟩:=b.form;refine gt ?_;refine AB (L':=w) (by simp) ?_;refine FX rfl rfl ?_;grind
theorem VN(ps vs:List Ir)(i:Nat)(z:i<ps.length)(w:Option Addr)(k:Nat)(R:Lc)(e:Own (.slice w ps.length k) R IT 5 ps.length (ps.flatMap Ae))(o:∀x∈ps,x.2.oneCell'=true)(j n:Nat)(l:List Value)(m:TypeId)(M:Mem)(d:M j=some (cE (vs.flatMap Ae++l) m))(c:∀x∈vs,x.2.oneCell'=true)(y:0<vs.length)(B:ps.length+vs.length<=100000):
  SpecL prog 261 #[.slice w ps.length k,.int .i64 i,.int .i64 ((i+1:Nat):Int),.slice (some ⟨j,0,none⟩) vs.length n] M R λu _ H=>Own u H IT 5 (ps.length-1+vs.length) ((ps.take i++vs++ps.drop (i+1)).flatMap Ae):=by
 obtain⟨g,s,rfl,rfl,I,D,C⟩:=J2 e z;have a:(ps.take i).length=i:=by rw[List.length_take];omega
 have f:(ps.drop (i+1)).length=ps.length-(i+1):=List.length_drop;have G:ps.drop i=ps[i]::ps.drop (i+1):=List.drop_eq_getElem_cons z;rw[G,List.flatMap_cons,List.append_assoc];by_cases h:i+1=ps.length
 ·have F:ps.drop (i+1)=[]:=List.drop_eq_nil_of_le (by omega);have b:=wTk (ps.take i) ps[i] vs g k s j n l m M d c y (by omega) D (by rw[a,h];exact C) (by omega);rw[a,show i+vs.length=ps.length-1+vs.length by omega]at b;rw[F,List.flatMap_nil,List.nil_append,List.append_nil,<-h];rw[<-h]at b;exact b
 have b:=wTj (ps.take i) ps[i] (ps.drop (i+1)) vs g k s j n l m M d c (λx E=>o x (List.mem_of_mem_drop E)) y (by omega) (by omega) D (by rw[a,f,show i+1+(ps.length-(i+1))=ps.length by omega];exact C) (by omega);rw[a,f,show i+1+(ps.length-(i+1))=ps.length by omega,show i+vs.length+(ps.length-(i+1))=ps.length-1+vs.length by omega]at b;exact b
end Go.Proofs.YtjheijhahehnmaaGreatDoor
