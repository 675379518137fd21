/- From a contract of the law's function to what a row asks. No statement of the seat is proved here. -/
import Derived.Test.YtbhkdjheooknfaaGreatZHf
import Derived.ProofKit
import Derived.Carry
namespace Go.Proofs.YtbhkdjheooknfaaGreat
set_option linter.unusedVariables false
set_option linter.unusedSectionVars false
set_option linter.unusedSimpArgs false
open Go.ChangeShapes Go.WideShapes Go.ChangeAt Go.RowKit
def wHf (W : World) : Mem := fun b => W.heap[b]?
theorem SpecL.run {P : Program} {f : FuncId} {args : Array Value} {W : World} {v : Value} (h : SpecL P f args (wHf W) [] fun u _ _ => u = v) : Calls P f args W fun e w' => e = .returned v ∧ Below W.heap.size W w' := by
 have hin : St ⟨W, ([] : Lc).map (·.1), wHf W⟩ (wHf W) [] W :=
  {os := rfl, tape := rfl, output := rfl, size := Nat.le_refl _, same := fun _ _ _ => rfl, fresh := fun _ _ => rfl, agree := fun _ _ h => h
   locs := fun p hp => by cases hp
   nodup := by simp }
 refine (h W hin).mono fun e w' hh => ?_
 obtain ⟨u, M', R', rfl, rfl, hst⟩ := hh
 exact ⟨rfl, ⟨hst.os, hst.tape, hst.output, hst.size, fun k hk => hst.same k hk (by simp)⟩⟩
theorem wJo {H : Type} {enc : TypeId × Value → H} {P : Program} (hl : laidOutB P = true) {W W' : World} (hb : Below W.heap.size W W') : ∀ (ts : List TypeId) (vs : List Value) (ds : List (DataW H)) (ps : List MemPlace),
  ts.all (fun t => P.readableRec t && decide (t < P.types.size)) = true → (∀ x ∈ ps, x.block < W.heap.size) →
  DataW.TrodAll enc P W 0 (fun _ => true) true ts vs ds ps → DataW.TrodAll enc P W' 0 (fun b => decide (b < W.heap.size)) true ts vs ds ps
 | [], [], [], ps, _, _, h => h
 | t :: ts, v :: vs, d :: ds, ps, hr, hlt, h => by
  obtain ⟨p, q, h1, h2, rfl⟩ := h
  simp only [List.all_cons, Bool.and_eq_true, decide_eq_true_eq] at hr
  exact ⟨p, q, Below.trod hl hr.1.1 hr.1.2 h1 hb (fun x hx => hlt x (by simp [hx])), wJo hl hb ts vs ds q hr.2 (fun x hx => hlt x (by simp [hx])) h2, rfl⟩
 | [], _ :: _, _, _, _, _, h => h.elim
 | [], [], _ :: _, _, _, _, h => h.elim
 | _ :: _, [], _, _, _, _, h => h.elim
 | _ :: _, _ :: _, [], _, _, _, h => h.elim
theorem A.laid : laidOutB Tryz.prog = true := by kernel_rfl
theorem A.own : ownKnob Tryz.prog.godebug = none := by kernel_rfl
theorem law_post {H : Type} {enc : TypeId × Value → H} {f : Func} {s : ChangeSpec} {W W' : World} {args : Array Value} {ds gs : List (DataW H)} {p : List MemPlace}
  (hW : DataW.Whole enc Tryz.prog f.params.toList s.vars false W args.toList ds gs p) (hr : f.params.toList.all (fun t => Tryz.prog.readableRec t && decide (t < Tryz.prog.types.size)) = true)
  (hv : s.vars = []) (hres : f.resultTypes = #[4]) (hfn : (s.fn H (ds ++ gs)) = { results := [.lit (.bool true)], args := ds }) (hb : Below W.heap.size W W') :
  s.post enc Tryz.prog f false true false false W args (.bool true) W' := by
 have hW' := hW
 obtain ⟨p1, q1, hA, hV, rfl, hfz, hnd⟩ := hW
 rw [hv] at hV
 obtain ⟨rfl, rfl⟩ := trodVars_none hV
 refine ⟨ds, [], p1 ++ [], [], p1, [], hW', ?_, ?_, ?_, hb.frame _, fun h => by cases h⟩
 ·rw [hfn, hres]; exact trodAll_mk1 (shut_bool Tryz.underlying4 _)
 ·rw [hfn]
  exact wJo A.laid hb _ _ _ _ hr (fun x hx => hW'.lt x (by simp [hx])) hA
 rw [hfn, hv]; exact rfl
theorem int_wf {n : Int} (h : (Lit.int .i64 n).wf = true) : -9223372036854775808 ≤ n ∧ n ≤ 9223372036854775807 := by
 simp [Lit.wf, IntKind.min, IntKind.max, IntKind.signed, IntKind.bits] at h; omega
theorem u8_wf {n : Int} (h : (Lit.int .u8 n).wf = true) : 0 ≤ n ∧ n < 256 := by
 simp [Lit.wf, IntKind.min, IntKind.max, IntKind.signed, IntKind.bits] at h; omega
end Go.Proofs.YtbhkdjheooknfaaGreat
