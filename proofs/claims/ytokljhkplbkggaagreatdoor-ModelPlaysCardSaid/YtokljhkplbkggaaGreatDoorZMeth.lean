/- Each method, whatever its call. No statement of the seat is proved here. -/
import Derived.Test.YtokljhkplbkggaaGreatDoorZOpsa
import Derived.Test.YtokljhkplbkggaaGreatDoorZOpsc
import Derived.Test.YtokljhkplbkggaaGreatDoorZMake
import Derived.Test.YtokljhkplbkggaaGreatDoorZShare
import Derived.Test.YtokljhkplbkggaaGreatDoorZList
namespace Go.Proofs.YtokljhkplbkggaaGreatDoor
set_option linter.unusedVariables false
set_option linter.unusedSectionVars false
set_option linter.unusedSimpArgs false
open Go.RowKit Go.MapKept
def wJe (f k : Nat) : Prop := ∀ (S : CS) (hS : S.Ok) (n : Nat) (hwf : WFS n S.abs) (hn : n ≤ 100) (M : Mem) (c : CL) (ca : Option Addr) (ck : Nat) (hC : CallOk M c ca ck) (w : Wy) (na : Option Addr) (nc : Nat) (hW : WyOk M w na nc) (o : Wy) (oa : Option Addr) (oc : Nat) (hO : WyOk M o oa oc),
 SpecL Tryz.prog f #[pt S.b, clV c ca ck, wyV w na nc, wyV o oa oc] M S.own fun u M' L' => OpP S.b (opI insB S.abs c w o k) u M' L'
theorem m1 : wJe 37 1 := make_spec
theorem m2 : wJe 38 2 := snap_spec
theorem m3 : wJe 39 3 := fun S hS n hwf hn M c ca ck hC w na nc hW o oa oc hO => by
 cases hv : wAm c.a S.vols with
 | none => exact freeze_none S hS n hwf hn M c ca ck hC w na nc hW o oa oc hO hv
 | some v => exact freeze_some S hS n hwf hn M c ca ck hC w na nc hW o oa oc hO v hv
theorem m4 : wJe 40 4 := fun S hS n hwf hn M c ca ck hC w na nc hW o oa oc hO => by
 cases hv : wAm c.a S.vols with
 | none => exact remove_none S hS n hwf hn M c ca ck hC w na nc hW o oa oc hO hv
 | some v => exact remove_some S hS n hwf hn M c ca ck hC w na nc hW o oa oc hO v hv
theorem create_spec (S : CS) (hS : S.Ok) (n : Nat) (hwf : WFS n S.abs) (hn : n ≤ 100) (M : Mem) (c : CL) (ca : Option Addr) (ck : Nat) (hC : CallOk M c ca ck) (w : Wy) (na : Option Addr) (nc : Nat) (hW : WyOk M w na nc) (o : Wy) (oa : Option Addr) (oc : Nat) (hO : WyOk M o oa oc) :
  SpecL Tryz.prog 41 #[pt S.b, clV c ca ck, wyV w na nc, wyV o oa oc] M S.own fun u M' L' => OpP S.b (wDg S.abs c w) u M' L' := by
 cases hf : wBo S.abs w w.1 none with
 | error e => exact create_e S hS n hwf hn M c ca ck hC w na nc hW o oa oc hO e hf
 | ok d =>
  obtain ⟨hone, ho1, hop, v, xd, hv, hxd, hdd, hno, hlen⟩ := wEq hwf hf
  cases hz : wAr S.abs w.1 with
  | true => exact create_frz S hS n hwf hn M c ca ck hC w na nc hW o oa oc hO d hf v xd hv hxd hz
  | false => exact create_ok S hS n hwf hn M c ca ck hC w na nc hW o oa oc hO d hf v xd hv hxd hdd hno hone hz
theorem m5 : wJe 41 5 := create_spec
theorem m6 : wJe 41 6 := create_spec
theorem m7 : wJe 42 7 := write_spec
theorem m8 : wJe 43 8 := fun S hS n hwf hn M c ca ck hC w na nc hW o oa oc hO => by
 cases hb : (inI c.a 0 4096 && inI c.b 0 4096) with
 | false => exact read_no S hS n hwf hn M c ca ck hC w na nc hW o oa oc hO hb
 | true =>
  cases hw : wCh S.abs w with
  | error e => exact read_e S hS n hwf hn M c ca ck hC w na nc hW o oa oc hO hb e hw
  | ok id =>
   obtain ⟨v, x, hv, hx, _⟩ := wEi hwf hw
   exact read_ok S hS n hwf hn M c ca ck hC w na nc hW o oa oc hO hb id hw v x hv hx
theorem m9 : wJe 44 9 := size_spec
theorem m10 : wJe 45 10 := punch_spec
theorem m11 : wJe 46 11 := fun S hS n hwf hn M c ca ck hC w na nc hW o oa oc hO => by
 cases hb : wGp c with
 | false => exact share_no S hS n hwf hn M c ca ck hC w na nc hW o oa oc hO hb
 | true =>
  cases hw : wCh S.abs w with
  | error e => exact share_e S hS n hwf hn M c ca ck hC w na nc hW o oa oc hO hb e hw
  | ok id =>
   obtain ⟨v, x, hv, hx, _⟩ := wEi hwf hw
   exact share_ok S hS n hwf hn M c ca ck hC w na nc hW o oa oc hO hb id hw v x hv hx
theorem m12 : wJe 47 12 := fun S hS n hwf hn M c ca ck hC w na nc hW o oa oc hO => by
 cases hw : wCh S.abs w with
 | error e => exact link_e1 S hS n hwf hn M c ca ck hC w na nc hW o oa oc hO e hw
 | ok id =>
  cases hf : wBo S.abs o w.1 none with
  | error e => exact link_e2 S hS n hwf hn M c ca ck hC w na nc hW o oa oc hO id hw e hf
  | ok d =>
   obtain ⟨v, x, hv, hx, _⟩ := wEi hwf hw
   obtain ⟨hone, ho1, hop, v2, xd, hv2, hxd, hdd, hno, hlen⟩ := wEq hwf hf
   rw [ho1, hv] at hv2; cases hv2
   cases hz : wAr S.abs w.1 with
   | true => exact link_frz S hS n hwf hn M c ca ck hC w na nc hW o oa oc hO id hw d hf v x xd hv hx hxd hz
   | false => exact link_ok S hS n hwf hn M c ca ck hC w na nc hW o oa oc hO id hw d hf v x xd hv hx hxd hz
theorem m13 : wJe 48 13 := fun S hS n hwf hn M c ca ck hC w na nc hW o oa oc hO => by
 cases hw : wCh S.abs w with
 | error e => exact unlink_e1 S hS n hwf hn M c ca ck hC w na nc hW o oa oc hO e hw
 | ok id =>
  obtain ⟨v, x, hv, hx, _⟩ := wEi hwf hw
  cases hz : wAr S.abs w.1 with
  | true => exact unlink_frz S hS n hwf hn M c ca ck hC w na nc hW o oa oc hO id hw v x hv hx hz
  | false => exact unlink_ok S hS n hwf hn M c ca ck hC w na nc hW o oa oc hO id hw v x hv hx hz
theorem m14 : wJe 49 14 := fun S hS n hwf hn M c ca ck hC w na nc hW o oa oc hO => by
 by_cases he : w.2 = []
 ·exact rename_root S hS n hwf hn M c ca ck hC w na nc hW o oa oc hO he
 cases hw : wBb S.abs w.1 w.2 with
 | error e => exact rename_e1 S hS n hwf hn M c ca ck hC w na nc hW o oa oc hO he e hw
 | ok id =>
  obtain ⟨v, x, hv, hx, hwv⟩ := wGo hwf hw
  obtain ⟨d, v2, xd, hpl, hv2, hxd, hdd, hl⟩ := wHg hwf he hw
  rw [hv] at hv2; cases hv2
  cases hf : wBo S.abs o w.1 (some d) with
  | error e => exact rename_e2 S hS n hwf hn M c ca ck hC w na nc hW o oa oc hO he id hw v x hv hx d xd hpl hxd hdd e hf
  | ok t =>
   obtain ⟨hone, ho1, hop, v2, xt, hv2, hxt, htd, hno, hlen⟩ := wEq hwf hf
   rw [ho1, hv] at hv2; cases hv2
   cases hd : x.pf.dir with
   | true =>
    cases hi : insD (wEf v.files) t id with
    | true => exact rename_loop S hS n hwf hn M c ca ck hC w na nc hW o oa oc hO he id hw v x hv hx d xd hpl hxd hdd t xt hf hxt hd hi
    | false =>
     cases hz : wAr S.abs w.1 with
     | true => exact rename_frz S hS n hwf hn M c ca ck hC w na nc hW o oa oc hO he id hw v x hv hx d xd hpl hxd hdd t xt hf hxt (fun _ => hi) hz
     | false => exact rename_ok S hS n hwf hn M c ca ck hC w na nc hW o oa oc hO he id hw v x hv hx d xd hpl hxd hdd t xt hf hxt (fun _ => hi) hz
   | false =>
    cases hz : wAr S.abs w.1 with
    | true => exact rename_frz S hS n hwf hn M c ca ck hC w na nc hW o oa oc hO he id hw v x hv hx d xd hpl hxd hdd t xt hf hxt (fun h => by rw [hd] at h; cases h) hz
    | false => exact rename_ok S hS n hwf hn M c ca ck hC w na nc hW o oa oc hO he id hw v x hv hx d xd hpl hxd hdd t xt hf hxt (fun h => by rw [hd] at h; cases h) hz
theorem m15 : wJe 50 15 := fun S hS n hwf hn M c ca ck hC w na nc hW o oa oc hO => by
 cases hw : wBb S.abs w.1 w.2 with
 | error e => exact unmake_e1 S hS n hwf hn M c ca ck hC w na nc hW o oa oc hO e hw
 | ok id =>
  obtain ⟨v, x, hv, hx, hwv⟩ := wGo hwf hw
  cases hd : x.pf.dir with
  | false => exact unmake_nd S hS n hwf hn M c ca ck hC w na nc hW o oa oc hO id hw v x hv hx hd
  | true =>
   by_cases he : w.2 = []
   ·exact unmake_root S hS n hwf hn M c ca ck hC w na nc hW o oa oc hO id hw v x hv hx hd he
   by_cases hl : x.pf.names = []
   ·cases hz : wAr S.abs w.1 with
    | true => exact unmake_frz S hS n hwf hn M c ca ck hC w na nc hW o oa oc hO id hw v x hv hx hd he hl hz
    | false => exact unmake_ok S hS n hwf hn M c ca ck hC w na nc hW o oa oc hO id hw v x hv hx hd he hl hz
   exact unmake_full S hS n hwf hn M c ca ck hC w na nc hW o oa oc hO id hw v x hv hx hd he (List.length_pos_iff.2 hl)
theorem m16 : wJe 51 16 := list_spec
theorem m17 : wJe 52 17 := fun S hS n hwf hn M c ca ck hC w na nc hW o oa oc hO => by
 cases hw : wBb S.abs w.1 w.2 with
 | error e => exact stat_err S hS n hwf hn M c ca ck hC w na nc hW o oa oc hO e hw
 | ok id => exact stat_ok S hS n hwf hn M c ca ck hC w na nc hW o oa oc hO id hw
theorem m18 : wJe 53 18 := reap_walk
end Go.Proofs.YtokljhkplbkggaaGreatDoor
