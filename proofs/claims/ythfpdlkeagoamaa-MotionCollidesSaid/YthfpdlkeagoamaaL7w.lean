import Derived.Test.YthfpdlkeagoamaaWr
import Derived.Test.YthfpdlkeagoamaaFrame3
namespace Go.Proofs.Ythfpdlkeagoamaa.motionCollides
open Go.RowKit
set_option linter.unusedVariables false
theorem mos_below {w w' : World} {a : Option Addr} {n : Nat} {F : Nat → Int × Int × Int × Int} (h : Mos w a n F) (hb : Below w.heap.size w w') : Mos w' a n F := fun hp => by
  obtain ⟨b, off, h1, h2, h3⟩ := h hp
  refine ⟨b, off, h1, Nat.lt_of_lt_of_le h2 hb.size, fun i hi => ?_⟩
  obtain ⟨x0, x1, x2, x3, r⟩ := h3 i hi
  exact ⟨(hb.cell h2).trans x0, (hb.cell h2).trans x1, (hb.cell h2).trans x2, (hb.cell h2).trans x3, r⟩
set_option maxHeartbeats 4000000 in
theorem core (GW GH : Int) (ca : Option Addr) (clen ccap : Nat) (c : Nat → Int) (size : Int) (ma : Option Addr) (n mcap : Nat) (F : Nat → Int × Int × Int × Int) (hn : n ≤ 60) (hcl : clen ≤ 2500) (w : World) (hc : Hid (Costs w ca clen c)) (hm : Hid (Mos w ma n F)) :
    Calls Try.prog 9 #[gv GW GH ca clen ccap, .int .i64 size, .slice ma n mcap] w fun e w' => e = .returned (.bool true) ∧ Below w.heap.size w w' := by
  have hn' : (n : Int) ≤ 60 := by omega
  have hcl' : (clen : Int) ≤ 2500 := by omega
  have HBW : ∀ w', Below (w.alloc (.cells #[.int .i64 GW, .int .i64 GH, .slice ca clen ccap] 46)).heap.size (w.alloc (.cells #[.int .i64 GW, .int .i64 GH, .slice ca clen ccap] 46)) w' → Below w.heap.size w w' := fun w' h => below_box h
  have HP := hid (fun w' (h : Below w.heap.size w w') => coll_any GW GH ca clen ccap c size ma n mcap F hn hcl w' (hid (costs_below hc.out h)) (hid (mos_below hm.out h)))
  have HQ := hid (fun w' (h : Below w.heap.size w w') => rcoll_any GW GH ca clen ccap c size ma n mcap F hn hcl w' (hid (costs_below hc.out h)) (hid (mos_below hm.out h)))
  have HBH := hid HBW
  clear HBW
  generalize colR size GW GH clen n (fun i => freeB GW GH size (F i).1 (F i).2.1 c) = r at *
  cases r
  all_goals
    go_enter Try.func9, Try.ntmps9
    go_upto_region 3 with fail
    have hl0 : ∀ (z : Later (w.alloc (.cells #[.int .i64 GW, .int .i64 GH, .slice ca clen ccap] 46))) (o : Nat), z.val.cell? ⟨w.heap.size, o, none⟩ = (w.alloc (.cells #[.int .i64 GW, .int .i64 GH, .slice ca clen ccap] 46)).cell? ⟨w.heap.size, o, none⟩ := fun z o => z.cell (by simp <;> omega)
    refine wp_region_later (Below.refl _ _) (by kernel_rfl) (by kernel_rfl) ?_
    repeat (go_big_quiet_step ((first
      | (go_at_call 26; with_reducible exact calls_later (HP.out _ (HBH.out _ (Later.ok _))))
      | (go_at_call 27; with_reducible exact calls_later (HQ.out _ (HBH.out _ (Later.ok _))))
      | (go_at_call 14; exact calls_later (awake_any _)))))
    refine wpQuiet_nil ?_
    intro _ hw'
    obtain ⟨y0, hw''⟩ := hw'
    subst hw''
    go_wp2
    go_ret
    exact ⟨rfl, below_box y0.ok⟩
theorem far (GW GH : Int) (ca : Option Addr) (clen ccap : Nat) (size : Int) (ma : Option Addr) (n mcap : Nat) (h : 2500 < clen ∨ (clen ≤ 2500 ∧ 60 < n)) (w : World) : Calls Try.prog 9 #[gv GW GH ca clen ccap, .int .i64 size, .slice ma n mcap] w fun e w' => e = .returned (.bool true) ∧ Below w.heap.size w w' := by
  rcases h with h | ⟨h, h2⟩
  · have h1 : 2500 < (clen : Int) := by omega
    go_enter Try.func9, Try.ntmps9
    go_wp2_with (first | (go_at_call 14; refine (awake_any _).mono ?_; rintro e w5 ⟨rfl, hb5⟩))
    go_ret
    exact ⟨rfl, below_box hb5⟩
  · have h1 : (clen : Int) ≤ 2500 := by omega
    have h3 : 60 < (n : Int) := by omega
    go_enter Try.func9, Try.ntmps9
    go_wp2_with (first | (go_at_call 14; refine (awake_any _).mono ?_; rintro e w5 ⟨rfl, hb5⟩))
    go_ret
    exact ⟨rfl, below_box hb5⟩
end Go.Proofs.Ythfpdlkeagoamaa.motionCollides
