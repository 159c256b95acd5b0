/- TrackerPlays: the two trackers in one tongue. -/
import Derived.Test.YtdcclpdnnhaeoaaWy
import Derived.Test.YtdcclpdnnhaeoaaWo
namespace Go.Proofs.Ytdcclpdnnhaeoaa
open Go.RowKit
set_option linter.unusedVariables false
set_option linter.unusedSimpArgs false
/-- what a tracker has followed -/
structure Pst where
  len : Nat
  X : Nat → Int
  Y : Nat → Int
  pr : Nat
  ax : Int
  ay : Int
  ai : Bool
structure Pst.ok (p : Pst) : Prop where
  l0 : 0 < p.len
  l1 : p.len ≤ 4096
  pl : p.pr < p.len
  re : ∀ i, i < p.len → rchB (p.X i) (p.Y i) = true
  az : p.ai = false → p.ax = 0 ∧ p.ay = 0
/-- a tracker in memory, apart from another's block -/
def TK (w : World) (n0 g o : Nat) (S A B ah tl : Int) (p : Pst) : Prop := ∃ g2 cap, Trk w g (.slice (some ⟨g2, 0, none⟩) p.len cap) S A B 0 0 ah tl p.pr p.ax p.ay p.ai ∧ n0 ≤ g2 ∧ g2 < w.heap.size ∧ g2 ≠ g ∧ g2 ≠ o ∧ p.len ≤ cap ∧ ∀ i, i < p.len → w.cell? ⟨g2, i * 2, none⟩ = some (.int .i64 (p.X i)) ∧ w.cell? ⟨g2, i * 2 + 1, none⟩ = some (.int .i64 (p.Y i))
theorem TK.keep {w w' : World} {n0 g o : Nat} {S A B ah tl : Int} {p : Pst} (h : TK w n0 g o S A B ah tl p) (hs : w.heap.size ≤ w'.heap.size) (hb : ∀ b, b < w.heap.size → b ≠ o → w'.heap[b]? = w.heap[b]?) (hg : g ≠ o) : TK w' n0 g o S A B ah tl p := by
  obtain ⟨g2, cap, t, h1, h2, h3, h4, h5, h6⟩ := h
  have k := hb g2 h2 h4
  exact ⟨g2, cap, t.keep hs (hb g t.lt hg), h1, Nat.lt_of_lt_of_le h2 hs, h3, h4, h5, fun i hi => ⟨(World.cell?_of_block k).trans (h6 i hi).1, (World.cell?_of_block k).trans (h6 i hi).2⟩⟩
theorem TK.below {w w' : World} {n0 g o : Nat} {S A B ah tl : Int} {p : Pst} (h : TK w n0 g o S A B ah tl p) (hb : Below w.heap.size w w') (hg : g ≠ o) : TK w' n0 g o S A B ah tl p := h.keep hb.size (fun b hl _ => hb.block b hl) hg
theorem TK.other {w w' : World} {n0 g o : Nat} {S A B ah tl : Int} {p : Pst} (h : TK w n0 g o S A B ah tl p) (hb : Bex o w w') (hg : g ≠ o) : TK w' n0 g o S A B ah tl p := h.keep hb.size hb.block hg
theorem TK.lt {w : World} {n0 g o : Nat} {S A B ah tl : Int} {p : Pst} (h : TK w n0 g o S A B ah tl p) : g < w.heap.size := by
  obtain ⟨_, _, t, _⟩ := h
  exact t.lt
theorem TK.re {w : World} {n0 g o o' : Nat} {S A B ah tl : Int} {p : Pst} (h : TK w n0 g o S A B ah tl p) (ho : w.heap.size ≤ o') : TK w n0 g o' S A B ah tl p := by
  obtain ⟨g2, cap, t, h1, h2, h3, h4, h5, h6⟩ := h
  exact ⟨g2, cap, t, h1, h2, h3, by omega, h5, h6⟩
def nJ (p : Pst) (px py ah : Int) : Nat := adv px py p.X p.Y p.len ah (p.len - p.pr) p.pr
def nL (p : Pst) (px py : Int) : Int := dst px py p.X p.Y (p.len - 1)
def nF (p : Pst) (px py tl : Int) : Bool := decide (nL p px py ≤ tl)
def nK (p : Pst) (px py ah tl : Int) : Nat := if nF p px py tl = true then p.len - 1 else min (nJ p px py ah + 1) (p.len - 1)
def nVX (p : Pst) (px py S B ah tl : Int) : Int := if nF p px py tl = true then 0 else scl (sqr (p.X (nK p px py ah tl) - px) (p.Y (nK p px py ah tl) - py)) (p.X (nK p px py ah tl) - px) (max (min S (spd (nL p px py) B)) 0)
def nVY (p : Pst) (px py S B ah tl : Int) : Int := if nF p px py tl = true then 0 else scl (sqr (p.X (nK p px py ah tl) - px) (p.Y (nK p px py ah tl) - py)) (p.Y (nK p px py ah tl) - py) (max (min S (spd (nL p px py) B)) 0)
def nxt (p : Pst) (px py ah tl : Int) : Pst := ⟨p.len, p.X, p.Y, nJ p px py ah, p.X (nK p px py ah tl), p.Y (nK p px py ah tl), true⟩
theorem nJ_lt {p : Pst} (h : p.ok) (px py ah : Int) : nJ p px py ah < p.len := (adv_lt _ _ h.pl).2
theorem nxt_ok {p : Pst} (h : p.ok) (px py ah tl : Int) : (nxt p px py ah tl).ok := ⟨h.l0, h.l1, nJ_lt h px py ah, h.re, fun e => by cases e⟩
theorem nK_lt {p : Pst} (h : p.ok) (px py ah tl : Int) : nK p px py ah tl < p.len := by
  have := h.l0
  unfold nK
  split <;> omega
/-- the velocity is at most the speed -/
theorem nV_le {p : Pst} (h : p.ok) {px py S B ah tl : Int} (p1 : -1048576 ≤ px) (p2 : px ≤ 1048576) (p3 : -1048576 ≤ py) (p4 : py ≤ 1048576) (hS : 0 ≤ S) (hB : 1 ≤ B) : sqr (nVX p px py S B ah tl) (nVY p px py S B ah tl) ≤ S * S := by
  have hk := nK_lt h px py ah tl
  obtain ⟨a1, a2, a3, a4⟩ := rchB_true (h.re _ hk)
  unfold nVX nVY
  cases nF p px py tl with
  | true =>
    simp only [if_true]
    exact Int.mul_nonneg hS hS
  | false =>
    simp only [Bool.false_eq_true, if_false]
    have b := sqr_bnd (a := p.X (nK p px py ah tl) - px) (b := p.Y (nK p px py ah tl) - py) (by omega) (by omega) (by omega) (by omega)
    obtain ⟨_, _, _, _, h5⟩ := scl_spec (x := p.X (nK p px py ah tl) - px) (y := p.Y (nK p px py ah tl) - py) (l := max (min S (spd (nL p px py) B)) 0) (by omega) (by omega)
    have h6 := sq_le (a := max (min S (spd (nL p px py) B)) 0) (b := S) (by omega) (by omega)
    omega
theorem tk_next {w : World} {n0 g o : Nat} {S A B ah tl : Int} {p : Pst} (hp : p.ok) (T : TK w n0 g o S A B ah tl p) {px py vx vy : Int} (p1 : -1048576 ≤ px) (p2 : px ≤ 1048576) (p3 : -1048576 ≤ py) (p4 : py ≤ 1048576) (s1 : 1 ≤ S) (s2 : S ≤ 4096) (b1 : 1 ≤ B) (b2 : B ≤ 4096) :
    Calls Try.prog 16 #[.pointer (some ⟨g, 0, none⟩), mo px py vx vy] w fun e w' => e = .returned (.tuple #[pt (nVX p px py S B ah tl) (nVY p px py S B ah tl), .bool (nF p px py tl)]) ∧ TK w' n0 g o S A B ah tl (nxt p px py ah tl) ∧ Bex g w w' := by
  obtain ⟨g2, cap, t, h1, h2, h3, h4, h5, h6⟩ := T
  have l0 := hp.l0
  have hmk : ∀ w', Trk w' g (.slice (some ⟨g2, 0, none⟩) p.len cap) S A B 0 0 ah tl (nJ p px py ah) (p.X (nK p px py ah tl)) (p.Y (nK p px py ah tl)) true → Bex g w w' → TK w' n0 g o S A B ah tl (nxt p px py ah tl) := fun w' t' hb =>
    ⟨g2, cap, t', h1, Nat.lt_of_lt_of_le h2 hb.size, h3, h4, h5, fun i hi => ⟨(hb.cell h2 h3).trans (h6 i hi).1, (hb.cell h2 h3).trans (h6 i hi).2⟩⟩
  cases hF : nF p px py tl with
  | true =>
    have hk : nK p px py ah tl = p.len - 1 := by unfold nK; rw [hF, if_pos rfl]
    have e1 : nVX p px py S B ah tl = 0 := by unfold nVX; rw [hF, if_pos rfl]
    have e2 : nVY p px py S B ah tl = 0 := by unfold nVY; rw [hF, if_pos rfl]
    rw [e1, e2]
    rw [hk] at hmk
    exact (next_goal g g2 p.len cap p.pr px py vx vy p.X p.Y S A B 0 0 ah tl p.ax p.ay p.ai l0 hp.l1 hp.pl (hid hp.re) p1 p2 p3 p4 s1 s2 b1 b2 h3 w (hid t) h2 (hid h6) _ (hid rfl) _ (p.len - 1) (by omega) (hid rfl) (of_decide_eq_true hF)).mono fun e w' h => ⟨h.1, hmk w' h.2.1 h.2.2, h.2.2⟩
  | false =>
    have hk : nK p px py ah tl = min (nJ p px py ah + 1) (p.len - 1) := by unfold nK; rw [hF, if_neg (by simp)]
    have e1 : nVX p px py S B ah tl = scl (sqr (p.X (nK p px py ah tl) - px) (p.Y (nK p px py ah tl) - py)) (p.X (nK p px py ah tl) - px) (max (min S (spd (nL p px py) B)) 0) := by unfold nVX; rw [hF, if_neg (by simp)]
    have e2 : nVY p px py S B ah tl = scl (sqr (p.X (nK p px py ah tl) - px) (p.Y (nK p px py ah tl) - py)) (p.Y (nK p px py ah tl) - py) (max (min S (spd (nL p px py) B)) 0) := by unfold nVY; rw [hF, if_neg (by simp)]
    rw [e1, e2]
    have hF' := of_decide_eq_false hF
    exact (next_on g g2 p.len cap p.pr px py vx vy p.X p.Y S A B 0 0 ah tl p.ax p.ay p.ai l0 hp.l1 hp.pl (hid hp.re) p1 p2 p3 p4 s1 s2 b1 b2 h3 w (hid t) h2 (hid h6) (nJ p px py ah) (hid rfl) (nL p px py) (p.len - 1) (by omega) (hid rfl) (by omega) (nK p px py ah tl) (by rw [hk]; omega)).mono fun e w' h => ⟨h.1, hmk w' h.2.1 h.2.2, h.2.2⟩
theorem tk_rnext {w : World} {n0 g o : Nat} {S A B ah tl : Int} {p : Pst} (hp : p.ok) (T : TK w n0 g o S A B ah tl p) {px py vx vy : Int} (p1 : -1048576 ≤ px) (p2 : px ≤ 1048576) (p3 : -1048576 ≤ py) (p4 : py ≤ 1048576) (s1 : 1 ≤ S) (s2 : S ≤ 4096) (b1 : 1 ≤ B) (b2 : B ≤ 4096) :
    Calls Try.prog 17 #[.pointer (some ⟨g, 0, none⟩), mo px py vx vy] w fun e w' => e = .returned (.tuple #[pt (nVX p px py S B ah tl) (nVY p px py S B ah tl), .bool (nF p px py tl)]) ∧ TK w' n0 g o S A B ah tl (nxt p px py ah tl) ∧ Bex g w w' := by
  obtain ⟨g2, cap, t, h1, h2, h3, h4, h5, h6⟩ := T
  have l0 := hp.l0
  have hmk : ∀ w', Trk w' g (.slice (some ⟨g2, 0, none⟩) p.len cap) S A B 0 0 ah tl (nJ p px py ah) (p.X (nK p px py ah tl)) (p.Y (nK p px py ah tl)) true → Bex g w w' → TK w' n0 g o S A B ah tl (nxt p px py ah tl) := fun w' t' hb =>
    ⟨g2, cap, t', h1, Nat.lt_of_lt_of_le h2 hb.size, h3, h4, h5, fun i hi => ⟨(hb.cell h2 h3).trans (h6 i hi).1, (hb.cell h2 h3).trans (h6 i hi).2⟩⟩
  cases hF : nF p px py tl with
  | true =>
    have hk : nK p px py ah tl = p.len - 1 := by unfold nK; rw [hF, if_pos rfl]
    have e1 : nVX p px py S B ah tl = 0 := by unfold nVX; rw [hF, if_pos rfl]
    have e2 : nVY p px py S B ah tl = 0 := by unfold nVY; rw [hF, if_pos rfl]
    rw [e1, e2]
    rw [hk] at hmk
    exact (rnext_goal g g2 p.len cap p.pr px py vx vy p.X p.Y S A B 0 0 ah tl p.ax p.ay p.ai l0 hp.l1 hp.pl (hid hp.re) p1 p2 p3 p4 s1 s2 b1 b2 h3 w (hid t) h2 (hid h6) _ (hid rfl) _ (p.len - 1) (by omega) (hid rfl) (of_decide_eq_true hF)).mono fun e w' h => ⟨h.1, hmk w' h.2.1 h.2.2, h.2.2⟩
  | false =>
    have hk : nK p px py ah tl = min (nJ p px py ah + 1) (p.len - 1) := by unfold nK; rw [hF, if_neg (by simp)]
    have e1 : nVX p px py S B ah tl = scl (sqr (p.X (nK p px py ah tl) - px) (p.Y (nK p px py ah tl) - py)) (p.X (nK p px py ah tl) - px) (max (min S (spd (nL p px py) B)) 0) := by unfold nVX; rw [hF, if_neg (by simp)]
    have e2 : nVY p px py S B ah tl = scl (sqr (p.X (nK p px py ah tl) - px) (p.Y (nK p px py ah tl) - py)) (p.Y (nK p px py ah tl) - py) (max (min S (spd (nL p px py) B)) 0) := by unfold nVY; rw [hF, if_neg (by simp)]
    rw [e1, e2]
    have hF' := of_decide_eq_false hF
    exact (rnext_on g g2 p.len cap p.pr px py vx vy p.X p.Y S A B 0 0 ah tl p.ax p.ay p.ai l0 hp.l1 hp.pl (hid hp.re) p1 p2 p3 p4 s1 s2 b1 b2 h3 w (hid t) h2 (hid h6) (nJ p px py ah) (hid rfl) (nL p px py) (p.len - 1) (by omega) (hid rfl) (by omega) (nK p px py ah tl) (by rw [hk]; omega)).mono fun e w' h => ⟨h.1, hmk w' h.2.1 h.2.2, h.2.2⟩
/-- a path anew -/
def rst (len : Nat) (X Y : Nat → Int) : Pst := ⟨len, X, Y, 0, 0, 0, false⟩
theorem rst_ok {len : Nat} {X Y : Nat → Int} (h : pchk len X Y = 0) : (rst len X Y).ok := by
  obtain ⟨h1, h2, h3⟩ := pchk_zero h
  exact ⟨h1, h2, h1, inAll_get h3, fun _ => ⟨rfl, rfl⟩⟩
theorem tk_replace {w : World} {n0 g o : Nat} {S A B ah tl : Int} {p : Pst} (T : TK w n0 g o S A B ah tl p) (hn : n0 ≤ w.heap.size) (ho : o < w.heap.size) (a : Option Addr) (len cap : Nat) (X Y : Nat → Int) (hp : pchk len X Y = 0) (ha : Hid (Wants w a len X Y)) :
    Calls Try.prog 14 #[.pointer (some ⟨g, 0, none⟩), .slice a len cap] w fun e w' => e = .returned (.int .i64 0) ∧ TK w' n0 g o S A B ah tl (rst len X Y) ∧ Bex g w w' := by
  obtain ⟨g2, cap0, t, h1, h2, h3, h4, h5, h6⟩ := T
  have hg := t.lt
  exact (replace_ok g a len cap X Y hp w ha (hid t)).mono fun e w' h => by
    obtain ⟨k1, g3, cap3, k2, k3, k4, k5, k6, k7⟩ := h
    exact ⟨k1, ⟨g3, cap3, k2, by omega, k4, by omega, by omega, k5, k6.out⟩, k7⟩
theorem tk_rreplace {w : World} {n0 g o : Nat} {S A B ah tl : Int} {p : Pst} (T : TK w n0 g o S A B ah tl p) (hn : n0 ≤ w.heap.size) (ho : o < w.heap.size) (a : Option Addr) (len cap : Nat) (X Y : Nat → Int) (hp : pchk len X Y = 0) (ha : Hid (Wants w a len X Y)) :
    Calls Try.prog 15 #[.pointer (some ⟨g, 0, none⟩), .slice a len cap] w fun e w' => e = .returned (.int .i64 0) ∧ TK w' n0 g o S A B ah tl (rst len X Y) ∧ Bex g w w' := by
  obtain ⟨g2, cap0, t, h1, h2, h3, h4, h5, h6⟩ := T
  have hg := t.lt
  exact (rreplace_ok g a len cap X Y hp w ha (hid t)).mono fun e w' h => by
    obtain ⟨k1, g3, cap3, k2, k3, k4, k5, k6, k7⟩ := h
    exact ⟨k1, ⟨g3, cap3, k2, by omega, k4, by omega, by omega, k5, k6.out⟩, k7⟩
theorem tk_target {w : World} {n0 g o : Nat} {S A B ah tl : Int} {p : Pst} (hp : p.ok) (T : TK w n0 g o S A B ah tl p) : Calls Try.prog 18 #[.pointer (some ⟨g, 0, none⟩)] w fun e w' => e = .returned (.tuple #[pt p.ax p.ay, .bool p.ai]) ∧ Below w.heap.size w w' := by
  obtain ⟨g2, cap, t, _⟩ := T
  exact target_any hp.az w t
theorem tk_progress {w : World} {n0 g o : Nat} {S A B ah tl : Int} {p : Pst} (T : TK w n0 g o S A B ah tl p) : Calls Try.prog 19 #[.pointer (some ⟨g, 0, none⟩)] w fun e w' => e = .returned (.int .i64 p.pr) ∧ w = w' := by
  obtain ⟨g2, cap, t, _⟩ := T
  exact progress_any g p.pr w t.c8
/-- the deviation -/
def nD (p : Pst) (px py : Int) : Int := mnF (dst px py p.X p.Y) (dst px py p.X p.Y p.pr) p.pr (p.len - p.pr)
theorem tk_dev {w : World} {n0 g o : Nat} {S A B ah tl : Int} {p : Pst} (hp : p.ok) (T : TK w n0 g o S A B ah tl p) {px py : Int} (p1 : -1048576 ≤ px) (p2 : px ≤ 1048576) (p3 : -1048576 ≤ py) (p4 : py ≤ 1048576) : Calls Try.prog 20 #[.pointer (some ⟨g, 0, none⟩), pt px py] w fun e w' => e = .returned (.int .i64 (nD p px py)) ∧ Below w.heap.size w w' := by
  obtain ⟨g2, cap, t, h1, h2, h3, h4, h5, h6⟩ := T
  have l0 := hp.l0
  have := deviation_any g g2 p.len cap p.pr (p.len - 1) px py p.X p.Y hp.l1 hp.pl h5 (by omega) (hid hp.re) p1 p2 p3 p4 w t h2 (hid h6)
  rw [dev_eq _ hp.pl (by omega)] at this
  exact this
theorem tk_rdev {w : World} {n0 g o : Nat} {S A B ah tl : Int} {p : Pst} (hp : p.ok) (T : TK w n0 g o S A B ah tl p) {px py : Int} (p1 : -1048576 ≤ px) (p2 : px ≤ 1048576) (p3 : -1048576 ≤ py) (p4 : py ≤ 1048576) : Calls Try.prog 21 #[.pointer (some ⟨g, 0, none⟩), pt px py] w fun e w' => e = .returned (.int .i64 (nD p px py)) ∧ Below w.heap.size w w' := by
  obtain ⟨g2, cap, t, h1, h2, h3, h4, h5, h6⟩ := T
  exact rdeviation_any g g2 p.len cap p.pr px py p.X p.Y hp.l1 hp.pl (hid hp.re) p1 p2 p3 p4 w t h2 (hid h6)
end Go.Proofs.Ytdcclpdnnhaeoaa
