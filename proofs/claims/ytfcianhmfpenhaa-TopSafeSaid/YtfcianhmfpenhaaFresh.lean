/- A region that draws its order: a head that is quiet in all worlds above w0, then operations that make one new block each (they may come up anywhere), then a tail in the order of the text. One walk serves every order; the new blocks are letters. Holds of any program. -/
import Derived.Test.YtfcianhmfpenhaaTail
namespace Go.Proofs.Ytfcianhmfpenhaa
open Go.RowKit

abbrev SHeap := Nat → Option Obj
def upd (F : SHeap) (g : Nat) (o : Obj) : SHeap := fun h => if h = g then some o else F h
def nil0 : SHeap := fun _ => none
theorem upd_comm {F : SHeap} {g h : Nat} {o o' : Obj} (hne : g ≠ h) : upd (upd F g o) h o' = upd (upd F h o') g o := by
  funext k
  unfold upd
  by_cases h1 : k = h
  · subst h1; rw [if_pos rfl, if_neg (Ne.symm hne), if_pos rfl]
  · rw [if_neg h1, if_neg h1]
theorem upd_same {F : SHeap} {g : Nat} {o : Obj} : upd F g o g = some o := by unfold upd; rw [if_pos rfl]
theorem upd_ne {F : SHeap} {g h : Nat} {o : Obj} (hne : h ≠ g) : upd F g o h = F h := by unfold upd; rw [if_neg hne]
theorem upd_none {F : SHeap} {g h : Nat} {o : Obj} (e : upd F g o h = none) : h ≠ g ∧ F h = none := by
  unfold upd at e
  by_cases h1 : h = g
  · rw [if_pos h1] at e; cases e
  · rw [if_neg h1] at e; exact ⟨h1, e⟩

/-- all blocks of w0 are as they were, and the blocks of F hold what F says -/
structure St (w0 : World) (F : SHeap) (w : World) : Prop where
  below : Below w0.heap.size w0 w
  own : ∀ g o, F g = some o → w0.heap.size ≤ g ∧ w.heap[g]? = some o

section
variable {P : Program} {ops : Array Oper} {md : Region.Mode} {w0 : World} {n1 : Nat} {obs : Nat → Obj}

theorem St.lt {F : SHeap} {w : World} (h : St w0 F w) {g : Nat} {o : Obj} (e : F g = some o) : g < w.heap.size := by
  rcases Nat.lt_or_ge g w.heap.size with h' | h'
  · exact h'
  · have := (h.own g o e).2
    rw [Array.getElem?_eq_none h'] at this; cases this
theorem St.next {F : SHeap} {w w' : World} (h : St w0 F w) (hb : Below w.heap.size w w') : St w0 F w' :=
  ⟨h.below.trans (hb.mono h.below.size), fun g o e => ⟨(h.own g o e).1, by rw [hb.block g (h.lt e)]; exact (h.own g o e).2⟩⟩
theorem St.alloc {F : SHeap} {w : World} (h : St w0 F w) (o : Obj) : F w.heap.size = none ∧ St w0 (upd F w.heap.size o) (w.alloc o) := by
  have hn : F w.heap.size = none := by
    cases e : F w.heap.size with
    | none => rfl
    | some o' => exact absurd (h.lt e) (Nat.lt_irrefl _)
  refine ⟨hn, h.below.trans ((Below.refl _ _).alloc h.below.size _), fun g o' e => ?_⟩
  by_cases hg : g = w.heap.size
  · subst hg
    rw [upd_same] at e
    refine ⟨h.below.size, ?_⟩
    show (w.heap.push o)[w.heap.size]? = _
    rw [Array.getElem?_push_size]; exact e
  · rw [upd_ne hg] at e
    exact ⟨(h.own g o' e).1, by rw [Below.heap_alloc _ _ _ (h.lt e)]; exact (h.own g o' e).2⟩
theorem St.of_drew {w : World} : St w nil0 { w with drawn := w.drawn + 1 } :=
  ⟨(Below.refl w.heap.size w).drew, fun _ _ e => by cases e⟩

def calmUpon (P : Program) (w : World) (v : Value) : Result Next → Prop
  | .ok (.value u) w' => w' = w ∧ u = v
  | .ok .skip w' => w' = w ∧ v = undef
  | .ok (.enter f args) w' => w' = w ∧ Calls P f args w (fun e w'' => e = .returned v ∧ Below w.heap.size w w'')
  | _ => False
def Calm (P : Program) (ops : Array Oper) (w0 : World) (o : Oper) (v : Value) (a : Act) : Prop :=
  (Region.wanted o (yielded ops a.tmps) = true ∧ ∀ w, Below w0.heap.size w0 w → calmUpon P w v ((execOp a.eval o).run P w)) ∨
  (Region.wanted o (yielded ops a.tmps) = false ∧ v = undef)
def Fresh (P : Program) (ops : Array Oper) (o : Oper) (ob : Obj) (a : Act) : Prop :=
  Region.wanted o (yielded ops a.tmps) = true ∧ ∀ w, (execOp a.eval o).run P w = .ok (.value (.pointer (some ⟨w.heap.size, 0, none⟩))) (w.alloc ob)
abbrev ptr (g : Nat) : Value := .pointer (some ⟨g, 0, none⟩)

/-- what operation i does: the head is calm, the others make a block -/
def Does (P : Program) (ops : Array Oper) (w0 : World) (n1 : Nat) (obs : Nat → Obj) (i : Nat) (o : Oper) (K : Act → SHeap → Prop) (a : Act) (F : SHeap) : Prop :=
  if i < n1 then ∃ v, Calm P ops w0 o v a ∧ K (a.put o.dst v) F
  else Fresh P ops o (obs i) a ∧ ∀ g, w0.heap.size ≤ g → F g = none → K (a.put o.dst (ptr g)) (upd F g (obs i))
def hOp (P : Program) (ops : Array Oper) (w0 : World) (n1 : Nat) (obs : Nat → Obj) (i : Nat) (K : Act → SHeap → Prop) (a : Act) (F : SHeap) : Prop :=
  ∃ o, ops[i]? = some o ∧ Does P ops w0 n1 obs i o K a F

theorem Does_mono {i : Nat} {o : Oper} {K K' : Act → SHeap → Prop} {a : Act} {F : SHeap} (h : ∀ a F, K a F → K' a F) (hh : Does P ops w0 n1 obs i o K a F) : Does P ops w0 n1 obs i o K' a F := by
  unfold Does at *
  split
  · rename_i hc; rw [if_pos hc] at hh; obtain ⟨v, h1, h2⟩ := hh; exact ⟨v, h1, h _ _ h2⟩
  · rename_i hc; rw [if_neg hc] at hh; exact ⟨hh.1, fun g hg e => h _ _ (hh.2 g hg e)⟩
theorem hOp_mono {i : Nat} {K K' : Act → SHeap → Prop} {a : Act} {F : SHeap} (h : ∀ a F, K a F → K' a F) (hh : hOp P ops w0 n1 obs i K a F) : hOp P ops w0 n1 obs i K' a F :=
  let ⟨o, ho, hd⟩ := hh
  ⟨o, ho, Does_mono h hd⟩

theorem Calm.of_same {o : Oper} {v : Value} {a a' : Act} (hy : Calm P ops w0 o v a) (he : execOp a'.eval o = execOp a.eval o)
    (hw : Region.wanted o (yielded ops a'.tmps) = Region.wanted o (yielded ops a.tmps)) : Calm P ops w0 o v a' := by
  unfold Calm at *
  rw [he, hw]
  exact hy
theorem Fresh.of_same {o : Oper} {ob : Obj} {a a' : Act} (hy : Fresh P ops o ob a) (he : execOp a'.eval o = execOp a.eval o)
    (hw : Region.wanted o (yielded ops a'.tmps) = Region.wanted o (yielded ops a.tmps)) : Fresh P ops o ob a' := by
  unfold Fresh at *
  rw [he, hw]
  exact hy

theorem wpOp_of_hOp {i : Nat} {a : Act} {F : SHeap} {K : Act → SHeap → Prop} {K' : Act → World → Prop} {Q' : Exit → Act → World → Prop} {w : World} (hS : St w0 F w) (h : ∀ a' F' w', St w0 F' w' → K a' F' → K' a' w') (hh : hOp P ops w0 n1 obs i K a F) : wpOp P ops Q' i K' a w := by
  obtain ⟨o, ho, hd⟩ := hh
  unfold wpOp
  simp only [ho]
  unfold Does at hd
  split at hd
  · obtain ⟨v, hc, hK⟩ := hd
    rcases hc with ⟨hw, hv⟩ | ⟨hw, rfl⟩
    · rw [if_pos hw]
      refine .inl ?_
      have h3 := hv w hS.below
      unfold Oper.wp
      generalize (execOp a.eval o).run P w = r at *
      cases r with
      | ok n w' =>
        cases n <;> simp only [calmUpon] at h3 <;> simp only [Oper.upon]
        case value u =>
          obtain ⟨e1, e2⟩ := h3
          rw [e1, e2]
          exact h _ _ _ hS hK
        case skip =>
          obtain ⟨e1, e2⟩ := h3
          rw [e1, ← e2]
          exact h _ _ _ hS hK
        case enter f args =>
          obtain ⟨e1, hc⟩ := h3
          rw [e1]
          exact hc.mono fun e w'' ⟨he, hw''⟩ => by subst he; exact h _ _ _ (hS.next hw'') hK
      | halt x w' => simp only [calmUpon] at h3
    · rw [if_neg (by rw [hw]; exact Bool.false_ne_true)]
      exact h _ _ _ hS hK
  · obtain ⟨⟨hw, hv⟩, hK⟩ := hd
    rw [if_pos hw]
    refine .inl ?_
    unfold Oper.wp
    rw [hv w]
    simp only [Oper.upon]
    obtain ⟨e1, e2⟩ := hS.alloc (obs i)
    exact h _ _ _ e2 (hK w.heap.size hS.below.size e1)

def wpAnyHL (P : Program) (md : Region.Mode) (ops : Array Oper) (w0 : World) (n1 : Nat) (obs : Nat → Obj) (n : Nat) (L : Array Bool → Act → SHeap → Prop) : Nat → Array Bool → Act → SHeap → Prop
  | 0, listed, a, F => L listed a F
  | f + 1, listed, a, F =>
    Region.ready md ops listed ≠ [] ∧ ∀ i ∈ Region.ready md ops listed, i < n ∧ hOp P ops w0 n1 obs i (wpAnyHL P md ops w0 n1 obs n L f (listed.setIfInBounds i true)) a F

theorem wpAny_of_hhead {n g : Nat} {L : Array Bool → Act → SHeap → Prop} {Q' : Exit → Act → World → Prop} (hL : ∀ listed a F w, St w0 F w → L listed a F → wpAny P md ops Q' g listed a w) :
    ∀ (f : Nat) (listed : Array Bool) (a : Act) (F : SHeap) (w : World), St w0 F w → wpAnyHL P md ops w0 n1 obs n L f listed a F → wpAny P md ops Q' (f + g) listed a w
  | 0, listed, a, F, w, hw, h => by rw [Nat.zero_add]; exact hL _ _ _ _ hw h
  | f + 1, listed, a, F, w, hw, h => by
    rw [show f + 1 + g = (f + g) + 1 by omega]
    exact ⟨fun h0 => absurd h0 h.1, fun i hi => wpOp_of_hOp hw (fun a' F' w' hw' h' => wpAny_of_hhead hL f _ a' F' w' hw' h') (h.2 i hi).2⟩

/-- what is known of operation i ahead of its turn -/
def Knows (P : Program) (ops : Array Oper) (w0 : World) (n1 : Nat) (obs : Nat → Obj) (i : Nat) (o : Oper) (v : Value) (a : Act) : Prop :=
  if i < n1 then Calm P ops w0 o v a else Fresh P ops o (obs i) a
def Then (w0 : World) (n1 : Nat) (obs : Nat → Obj) (i : Nat) (o : Oper) (v : Value) (K : Act → SHeap → Prop) (a : Act) (F : SHeap) : Prop :=
  if i < n1 then K (a.put o.dst v) F else ∀ g, w0.heap.size ≤ g → F g = none → K (a.put o.dst (ptr g)) (upd F g (obs i))
theorem does_of {i : Nat} {o : Oper} {v : Value} {K : Act → SHeap → Prop} {a : Act} {F : SHeap} (h1 : Knows P ops w0 n1 obs i o v a) (h2 : Then w0 n1 obs i o v K a F) : Does P ops w0 n1 obs i o K a F := by
  unfold Knows at h1
  unfold Then at h2
  unfold Does
  split
  · rename_i hc; rw [if_pos hc] at h1 h2; exact ⟨v, h1, h2⟩
  · rename_i hc; rw [if_neg hc] at h1 h2; exact ⟨h1, h2⟩
theorem knows_of_does {i : Nat} {o : Oper} {K : Act → SHeap → Prop} {a : Act} {F : SHeap} (h : Does P ops w0 n1 obs i o K a F) : ∃ v, Knows P ops w0 n1 obs i o v a ∧ Then w0 n1 obs i o v K a F := by
  unfold Does at h
  unfold Knows Then
  split at h
  · rename_i hc; obtain ⟨v, h1, h2⟩ := h; exact ⟨v, by rw [if_pos hc]; exact h1, by rw [if_pos hc]; exact h2⟩
  · rename_i hc; exact ⟨undef, by rw [if_neg hc]; exact h.1, by rw [if_neg hc]; exact h.2⟩

theorem knows_keep {i : Nat} {oi oj : Oper} {v : Value} {a : Act} {u : Value} (hsi : ∀ cs b, oi.op ≠ .select cs b) (h3 : ∀ d, oj.dst = some d → d ∉ oi.looksAt ops) (h : Knows P ops w0 n1 obs i oi v a) : Knows P ops w0 n1 obs i oi v (a.put oj.dst u) := by
  unfold Knows at *
  split
  · rename_i hc; rw [if_pos hc] at h; exact h.of_same (execOp_put oi hsi a oj.dst u h3) (wanted_put oi a oj.dst u h3)
  · rename_i hc; rw [if_neg hc] at h; exact h.of_same (execOp_put oi hsi a oj.dst u h3) (wanted_put oi a oj.dst u h3)

/-- The exchange: j may come ahead of i. -/
theorem hOp_put {i j : Nat} {oi oj : Oper} {v : Value} (hj : ops[j]? = some oj) (hap : oi.apart ops oj = true) (hij : n1 ≤ i → n1 ≤ j)
    (hsi : ∀ cs b, oi.op ≠ .select cs b) (hsj : ∀ cs b, oj.op ≠ .select cs b) {K : Act → SHeap → Prop} {a : Act} {F : SHeap}
    (hy : Knows P ops w0 n1 obs i oi v a) (hfin : ∃ N, ∀ g, N ≤ g → F g = none) (h : Then w0 n1 obs i oi v (fun a' F' => hOp P ops w0 n1 obs j K a' F') a F) :
    hOp P ops w0 n1 obs j (fun a' F' => Knows P ops w0 n1 obs i oi v a' ∧ Then w0 n1 obs i oi v K a' F') a F := by
  obtain ⟨h1, h2, h3⟩ := Oper.apart_spec hap
  refine ⟨oj, hj, ?_⟩
  unfold Then at h
  by_cases hc : i < n1
  · rw [if_pos hc] at h
    obtain ⟨oj', hj', hd⟩ := h
    have : oj' = oj := Option.some.inj (hj'.symm.trans hj)
    subst this
    unfold Does at hd ⊢
    by_cases hcj : j < n1
    · rw [if_pos hcj] at hd ⊢
      obtain ⟨u, hu, hK⟩ := hd
      refine ⟨u, hu.of_same ?_ ?_, knows_keep hsi h3 hy, ?_⟩
      · exact (execOp_put oj' hsj a oi.dst v h1).symm
      · exact (wanted_put oj' a oi.dst v h1).symm
      · unfold Then; rw [if_pos hc, ← Act.put_comm a v u h2]; exact hK
    · rw [if_neg hcj] at hd ⊢
      obtain ⟨hu, hK⟩ := hd
      refine ⟨hu.of_same ?_ ?_, fun g hg e => ⟨knows_keep hsi h3 hy, ?_⟩⟩
      · exact (execOp_put oj' hsj a oi.dst v h1).symm
      · exact (wanted_put oj' a oi.dst v h1).symm
      · unfold Then; rw [if_pos hc, ← Act.put_comm a v _ h2]; exact hK g hg e
  · rw [if_neg hc] at h
    have hcj : ¬ j < n1 := by have := hij (by omega); omega
    unfold Does
    rw [if_neg hcj]
    refine ⟨?_, fun g hg e => ⟨knows_keep hsi h3 hy, ?_⟩⟩
    · obtain ⟨N, hN⟩ := hfin
      obtain ⟨oj', hj', hd⟩ := h (max N w0.heap.size) (by omega) (hN _ (by omega))
      have : oj' = oj := Option.some.inj (hj'.symm.trans hj)
      subst this
      unfold Does at hd
      rw [if_neg hcj] at hd
      exact hd.1.of_same (execOp_put oj' hsj a oi.dst _ h1).symm (wanted_put oj' a oi.dst _ h1).symm
    · unfold Then
      rw [if_neg hc]
      intro g' hg' e'
      obtain ⟨hne, e''⟩ := upd_none e'
      obtain ⟨oj', hj', hd⟩ := h g' hg' e''
      have : oj' = oj := Option.some.inj (hj'.symm.trans hj)
      subst this
      unfold Does at hd
      rw [if_neg hcj] at hd
      have := hd.2 g hg (by rw [upd_ne (Ne.symm hne)]; exact e)
      rw [← Act.put_comm a _ _ h2, ← upd_comm hne]
      exact this

theorem fin_upd {F : SHeap} {g : Nat} {o : Obj} (h : ∃ N, ∀ g, N ≤ g → F g = none) : ∃ N, ∀ h, N ≤ h → upd F g o h = none := by
  obtain ⟨N, hN⟩ := h
  exact ⟨max N (g + 1), fun k hk => by rw [upd_ne (by omega)]; exact hN k (by omega)⟩
theorem does_fin {i : Nat} {o : Oper} {K : Act → SHeap → Prop} {a : Act} {F : SHeap} (hfin : ∃ N, ∀ g, N ≤ g → F g = none) (h : Does P ops w0 n1 obs i o K a F) : Does P ops w0 n1 obs i o (fun a' F' => (∃ N, ∀ g, N ≤ g → F' g = none) ∧ K a' F') a F := by
  unfold Does at *
  split
  · rename_i hc; rw [if_pos hc] at h; obtain ⟨v, h1, h2⟩ := h; exact ⟨v, h1, hfin, h2⟩
  · rename_i hc; rw [if_neg hc] at h; exact ⟨h.1, fun g hg e => ⟨fin_upd hfin, h.2 g hg e⟩⟩

theorem wpAnyHL_first {n i : Nat} {oi : Oper} {v : Value} {L : Array Bool → Act → SHeap → Prop} (hi : ops[i]? = some oi) (hsel : ∀ (j : Nat) (o : Oper) cs b, ops[j]? = some o → o.op ≠ .select cs b)
    (hs : Region.sinkB md ops n = true) (hc : Region.chainB md ops n = true) (hn : n < ops.size) (hin : i < n)
    (hdone : ∀ listed a F, L listed a F → ∀ j ∈ Region.ready md ops listed, n ≤ j) :
    ∀ (f : Nat) (listed : Array Bool) (a : Act) (F : SHeap), HeadInv md ops n listed → (∃ N, ∀ g, N ≤ g → F g = none) → (∀ j, listed.getD j true = false → n1 ≤ i → n1 ≤ j) →
      (∀ j oj, ops[j]? = some oj → j ≠ i → listed.getD j true = false → (∀ e ∈ oj.after, Region.binds md e = true → e.on ≠ i) → oi.apart ops oj = true) →
      i ∈ Region.ready md ops listed → Knows P ops w0 n1 obs i oi v a →
      Then w0 n1 obs i oi v (wpAnyHL P md ops w0 n1 obs n L f (listed.setIfInBounds i true)) a F → wpAnyHL P md ops w0 n1 obs n L (f + 1) listed a F := by
  intro f
  induction f with
  | zero =>
    intro listed a F inv hfin hlow _ hr hy H
    have hun := (mem_ready.1 hr).1
    refine ⟨fun h => (by rw [h] at hr; cases hr), fun j hj => ?_⟩
    have hjn : j < n := by
      rcases Nat.lt_or_ge j n with h | h
      · exact h
      · exact absurd hj (tail_waits hs hc hn inv _ i rfl hin hun j h)
    refine ⟨hjn, ?_⟩
    by_cases hji : j = i
    · subst hji; exact ⟨oi, hi, does_of hy H⟩
    · exfalso
      unfold Then at H
      split at H
      · have := hdone _ _ _ H j (ready_mono hj hji); omega
      · obtain ⟨N, hN⟩ := hfin
        have := hdone _ _ _ (H (max N w0.heap.size) (by omega) (hN _ (by omega))) j (ready_mono hj hji); omega
  | succ f ih =>
    intro listed a F inv hfin hlow hfree hr hy H
    have hun := (mem_ready.1 hr).1
    refine ⟨fun h => (by rw [h] at hr; cases hr), fun j hj => ?_⟩
    have hjn : j < n := by
      rcases Nat.lt_or_ge j n with h | h
      · exact h
      · exact absurd hj (tail_waits hs hc hn inv _ i rfl hin hun j h)
    refine ⟨hjn, ?_⟩
    by_cases hji : j = i
    · subst hji; exact ⟨oi, hi, does_of hy H⟩
    · obtain ⟨hjun, oj, hoj, hall⟩ := mem_ready.1 hj
      have h1 : Then w0 n1 obs i oi v (fun a' F' => hOp P ops w0 n1 obs j (wpAnyHL P md ops w0 n1 obs n L f ((listed.setIfInBounds i true).setIfInBounds j true)) a' F') a F := by
        unfold Then at H ⊢
        split
        · rename_i hc'; rw [if_pos hc'] at H; exact (H.2 j (ready_mono hj hji)).2
        · rename_i hc'; rw [if_neg hc'] at H; exact fun g hg e => ((H g hg e).2 j (ready_mono hj hji)).2
      have hnot : ∀ e ∈ oj.after, Region.binds md e = true → e.on ≠ i := fun e he hb heq => by
        have h1 := hall e he hb
        rw [heq, getD_both hun] at h1
        cases h1
      have h2 := hOp_put hoj (hfree j oj hoj hji hjun hnot) (hlow j hjun) (fun cs b => hsel i oi cs b hi) (fun cs b => hsel j oj cs b hoj) hy hfin h1
      have hfree' : ∀ k ok, ops[k]? = some ok → k ≠ i → (listed.setIfInBounds j true).getD k true = false →
          (∀ e ∈ ok.after, Region.binds md e = true → e.on ≠ i) → oi.apart ops ok = true := fun k ok hk hki hun hno => by
        refine hfree k ok hk hki ?_ hno
        by_cases hjk : j = k
        · subst hjk; exact hjun
        · rw [getD_set_ne true hjk] at hun; exact hun
      have hlow' : ∀ k, (listed.setIfInBounds j true).getD k true = false → n1 ≤ i → n1 ≤ k := fun k hun hi => by
        by_cases hjk : j = k
        · subst hjk; exact hlow j hjun hi
        · rw [getD_set_ne true hjk] at hun; exact hlow k hun hi
      obtain ⟨oj', hoj', hd⟩ := h2
      refine ⟨oj', hoj', Does_mono (fun a' F' h3 => ih (listed.setIfInBounds j true) a' F' (inv.set hj hjn) h3.1 hlow' hfree' (ready_mono hr (Ne.symm hji)) h3.2.1 ?_) (does_fin hfin hd)⟩
      rw [Array.setIfInBounds_comm _ _ hji]
      exact h3.2.2

/-- the walk in the order of the text, from operation k on -/
def wpHead (P : Program) (ops : Array Oper) (w0 : World) (n1 : Nat) (obs : Nat → Obj) (Q : Act → SHeap → Prop) : Nat → List Oper → Act → SHeap → Prop
  | _, [], a, F => Q a F
  | k, o :: l, a, F => Does P ops w0 n1 obs k o (wpHead P ops w0 n1 obs Q (k + 1) l) a F

theorem wpAnyHL_lex {n g : Nat} {Lq : Act → SHeap → Prop} (hsel : Region.noSelect ops = true) (hs : Region.sinkB md ops n = true) (hc : Region.chainB md ops n = true) (hn : n < ops.size) :
    ∀ (l : List Oper) (k : Nat) (listed : Array Bool) (a : Act) (F : SHeap), (∀ j, j < l.length → l[j]? = ops[k + j]?) → k + l.length = n → HeadInv md ops n listed → (∃ N, ∀ g, N ≤ g → F g = none) → (∀ j, j < k → listed.getD j true = true) →
    Region.lexHead md ops g l.length k listed = true → wpHead P ops w0 n1 obs Lq k l a F →
    wpAnyHL P md ops w0 n1 obs n (fun listed' a' F' => Region.seqB md ops g n listed' = true ∧ Lq a' F') l.length listed a F
  | [], k, listed, a, F, _, hk, _, _, _, hB, h => by
    have : k = n := by simpa using hk
    subst this
    exact ⟨by simpa [Region.lexHead] using hB, h⟩
  | o :: l, k, listed, a, F, hl, hk, inv, hfin, hlow, hB, h => by
    have h0 : ops[k]? = some o := by simpa using (hl 0 (by simp)).symm
    simp only [List.length_cons, Region.lexHead, Bool.and_eq_true] at hB
    obtain ⟨⟨hr, hf⟩, hB'⟩ := hB
    have hkn : k < n := by simp only [List.length_cons] at hk; omega
    have hr' : k ∈ Region.ready md ops listed := by simpa using hr
    have hlow' : ∀ j, j < k + 1 → (listed.setIfInBounds k true).getD j true = true := fun j hj => by
      by_cases hjk : k = j
      · subst hjk
        rcases Nat.lt_or_ge k listed.size with h' | h'
        · simp [h']
        · simp
      · rw [getD_set_ne true hjk]; exact hlow j (by omega)
    obtain ⟨v, hy, hK⟩ := knows_of_does (does_fin hfin h)
    refine wpAnyHL_first h0 (Region.noSelect_spec hsel) hs hc hn hkn (fun listed' a' F' hL => seqB_ready hL.1) l.length listed a F inv hfin (fun j hj hi => ?_) (Region.free_spec h0 hf) hr' hy ?_
    · rcases Nat.lt_or_ge j n1 with h' | h'
      · rw [hlow j (by omega)] at hj; cases hj
      · exact h'
    · have next : ∀ a' F', ((∃ N, ∀ g, N ≤ g → F' g = none) ∧ wpHead P ops w0 n1 obs Lq (k + 1) l a' F') → wpAnyHL P md ops w0 n1 obs n (fun listed' a' F' => Region.seqB md ops g n listed' = true ∧ Lq a' F') l.length (listed.setIfInBounds k true) a' F' := fun a' F' h' =>
        wpAnyHL_lex hsel hs hc hn l (k + 1) _ _ _ (fun j hj => by have := hl (j + 1) (by simp; omega); simpa [Nat.add_assoc, Nat.add_comm 1 j] using this) (by simp only [List.length_cons] at hk; omega) (inv.set hr' hkn) h'.1 hlow' hB' h'.2
      unfold Then at hK ⊢
      split
      · rename_i hc'; rw [if_pos hc'] at hK; exact next _ _ hK
      · rename_i hc'; rw [if_neg hc'] at hK; exact fun g hg e => next _ _ (hK g hg e)

/-! from the kit's quiet walk, made at every later world with ONE frame at its end -/
def dstsOk (n : Nat) : List Oper → Bool
  | [] => true
  | o :: l => (match o.dst with | some d => decide (d < n) && l.all (fun o' => o'.dst != some d) | none => false) && dstsOk n l

theorem put_size (a : Act) (d : Option Tmp) (v : Value) : (a.put d v).tmps.size = a.tmps.size := by cases d <;> simp [Act.put]
theorem quiet_final {C : World → Prop} {A : Act} {d : Tmp} : ∀ (l : List Oper) (a : Act), (l.all fun o' => o'.dst != some d) = true → wpQuiet P ops C (fun a' => a' = A) l a → A.tmps[d]? = a.tmps[d]?
  | [], a, _, h => by rw [show a = A from h]
  | o :: l, a, hd, h => by
    simp only [List.all_cons, Bool.and_eq_true, bne_iff_ne, ne_eq] at hd
    have key : ∀ v, (a.put o.dst v).tmps[d]? = a.tmps[d]? := fun v => by
      cases hdst : o.dst with
      | none => rfl
      | some d' =>
        have hne : d' ≠ d := fun e => hd.1 (by rw [hdst, e])
        simp [Act.put, Array.getElem?_setIfInBounds_ne hne]
    unfold wpQuiet at h
    split at h
    · obtain ⟨v, _, h2⟩ := h
      rw [quiet_final l _ hd.2 h2, key]
    · rw [quiet_final l _ hd.2 h, key]

theorem calm_of_quiet {A : Act} : ∀ (l : List Oper) (a : Act), dstsOk a.tmps.size l = true →
    (∀ w1, Below w0.heap.size w0 w1 → wpQuiet P ops (fun w' => ∃ y : Later w1, w' = y.val) (fun a' => a' = A) l a) →
    ∀ (Q : Act → SHeap → Prop) (k : Nat) (F : SHeap) (l' : List Oper), k + l.length ≤ n1 → wpHead P ops w0 n1 obs Q (k + l.length) l' A F → wpHead P ops w0 n1 obs Q k (l ++ l') a F
  | [], a, _, h, Q, k, F, l', _, hQ => by
    have : a = A := h w0 (Below.refl _ _)
    subst this
    exact hQ
  | o :: l, a, hd, h, Q, k, F, l', hk, hQ => by
    simp only [dstsOk, Bool.and_eq_true] at hd
    obtain ⟨hd1, hd2⟩ := hd
    have hkn : k < n1 := by simp only [List.length_cons] at hk; omega
    have hrest : ∀ v, (∀ w1, Below w0.heap.size w0 w1 → wpQuiet P ops (fun w' => ∃ y : Later w1, w' = y.val) (fun a' => a' = A) l (a.put o.dst v)) → wpHead P ops w0 n1 obs Q (k + 1) (l ++ l') (a.put o.dst v) F := fun v hv =>
      calm_of_quiet l _ (by rw [put_size]; exact hd2) hv Q (k + 1) F l' (by simp only [List.length_cons] at hk; omega) (by rw [show k + 1 + l.length = k + (o :: l).length from by simp only [List.length_cons]; omega]; exact hQ)
    show Does P ops w0 n1 obs k o (wpHead P ops w0 n1 obs Q (k + 1) (l ++ l')) a F
    unfold Does
    rw [if_pos hkn]
    by_cases hw : Region.wanted o (yielded ops a.tmps) = true
    · cases hdst : o.dst with
      | none => rw [hdst] at hd1; cases hd1
      | some d =>
        rw [hdst] at hd1
        simp only [Bool.and_eq_true, decide_eq_true_eq] at hd1
        obtain ⟨hdlt, hall⟩ := hd1
        have uni : ∀ w1, Below w0.heap.size w0 w1 → (∀ w, (∃ y : Later w1, w = y.val) → o.quietAt P a (fun w' => ∃ y : Later w1, w' = y.val) w ((A.tmps[d]?).getD undef)) ∧ wpQuiet P ops (fun w' => ∃ y : Later w1, w' = y.val) (fun a' => a' = A) l (a.put o.dst ((A.tmps[d]?).getD undef)) := fun w1 hb => by
          have h1 := h w1 hb
          unfold wpQuiet at h1
          rw [if_pos hw] at h1
          obtain ⟨v, h2, h3⟩ := h1
          have e := quiet_final (d := d) l _ hall h3
          rw [hdst] at e
          simp only [Act.put, Array.getElem?_setIfInBounds_self_of_lt hdlt] at e
          have ev : (A.tmps[d]?).getD undef = v := by rw [e]; rfl
          rw [ev]
          exact ⟨h2, h3⟩
        refine ⟨(A.tmps[d]?).getD undef, .inl ⟨hw, fun w hb => ?_⟩, ?_⟩
        · have h2 := (uni w hb).1 w ⟨⟨w, Below.refl _ _⟩, rfl⟩
          unfold Oper.quietAt at h2
          generalize (execOp a.eval o).run P w = r at *
          cases r with
          | ok n w' =>
            cases n <;> simp only [Oper.quietUpon] at h2 <;> simp only [calmUpon]
            case value u => exact h2
            case skip => exact h2
            case enter f args =>
              refine ⟨h2.1, h2.2.mono fun e w'' ⟨he, y, hy⟩ => ⟨he, ?_⟩⟩
              rw [hy]; exact y.ok
          | halt x w' => simp only [Oper.quietUpon] at h2
        · have := hrest ((A.tmps[d]?).getD undef) (fun w1 hb => (uni w1 hb).2)
          rw [hdst] at this
          exact this
    · have hw' : Region.wanted o (yielded ops a.tmps) = false := by simpa using hw
      refine ⟨undef, .inr ⟨hw', rfl⟩, hrest undef fun w1 hb => ?_⟩
      have h1 := h w1 hb
      unfold wpQuiet at h1
      rw [if_neg hw] at h1
      exact h1

/-- THE LAW. n1: how many operations the head has; n2: where the tail begins; obs: the new blocks' contents by the operation's number. -/
theorem wp_region_fresh {id : Nat} {Q : Exit → Act → World → Prop} {a : Act} {w : World} {l : List Oper} (n1 n2 : Nat) (obs : Nat → Obj) (hm : P.follows .mixedOrders = true) (hB : Region.lexTailB .any l.toArray n2 = true)
    (hn : n1 ≤ n2) (hd : dstsOk a.tmps.size (l.take n1) = true)
    (h : ∃ A, (∀ w1, Below w.heap.size w w1 → wpQuiet P l.toArray (fun w' => ∃ y : Later w1, w' = y.val) (fun a' => a' = A) (l.take n1) a) ∧
      wpHead P l.toArray w n1 obs (fun a' F => ∀ w', St w F w' → wpList P l.toArray Q (l.drop n2) a' w') n1 ((l.take n2).drop n1) A nil0) : (Code.region id l.toArray true).wp P Q a w := by
  obtain ⟨A, h1, h2⟩ := h
  simp only [Region.lexTailB, Bool.and_eq_true, decide_eq_true_eq] at hB
  obtain ⟨⟨⟨⟨hsel, hn'⟩, hs⟩, hc⟩, hlex⟩ := hB
  have hlt : n2 < l.length := by simpa using hn'
  have htl : (l.take n2).length = n2 := by simp; omega
  have ht1 : (l.take n1).length = n1 := by simp; omega
  have hdl : (l.drop n2).length = l.toArray.size - n2 := by simp
  have inv0 : HeadInv .any l.toArray n2 (Array.replicate l.toArray.size false) :=
    ⟨by simp, fun j oj _ hl => (by rw [getD_replicate_false] at hl; cases hl), fun t _ ht => getD_in (by simpa using ht) (getD_replicate_false _ _)⟩
  have hsplit : l.take n1 ++ (l.take n2).drop n1 = l.take n2 := by
    rw [show l.take n1 = (l.take n2).take n1 from by rw [List.take_take, Nat.min_eq_left hn]]
    exact List.take_append_drop _ _
  have hw : wpHead P l.toArray w n1 obs (fun a' F => ∀ w', St w F w' → wpList P l.toArray Q (l.drop n2) a' w') 0 (l.take n2) a nil0 := by
    rw [← hsplit]
    exact calm_of_quiet _ _ hd h1 _ 0 nil0 _ (by omega) (by rw [ht1, Nat.zero_add]; exact h2)
  have H := wpAnyHL_lex (md := .any) (g := l.toArray.size - n2) hsel hs hc hn' (l.take n2) 0 _ a nil0 (fun j hj => by
    have hj' : j < n2 := by rw [htl] at hj; exact hj
    simp [hj']) (by simpa using htl) inv0 ⟨0, fun _ _ => rfl⟩ (fun j hj => by omega) (by rw [htl]; exact hlex) hw
  refine wp_region_any hm ?_
  have := wpAny_of_hhead (Q' := Q) (g := l.toArray.size - n2) (fun listed a' F w' hw' hL => by
    have := wpAny_of_seq (md := .any) (Q' := Q) (l.drop n2) n2 listed a' w' (fun j => by simp [List.getElem?_drop]) (by rw [hdl]; exact hL.1) (hL.2 w' hw')
    rwa [hdl] at this) _ _ _ _ _ (St.of_drew (w := w)) H
  rw [htl, show n2 + (l.toArray.size - n2) = l.toArray.size by omega] at this
  exact this
theorem wpHead_new {k : Nat} {o : Oper} {l : List Oper} {a : Act} {F : SHeap} {Q : Act → SHeap → Prop} (hk : ¬ k < n1) (hw : Region.wanted o (yielded ops a.tmps) = true) (hr : ∀ w, (execOp a.eval o).run P w = .ok (.value (.pointer (some ⟨w.heap.size, 0, none⟩))) (w.alloc (obs k)))
    (h : ∀ g, w0.heap.size ≤ g → F g = none → wpHead P ops w0 n1 obs Q (k + 1) l (a.put o.dst (ptr g)) (upd F g (obs k))) : wpHead P ops w0 n1 obs Q k (o :: l) a F := by
  show Does P ops w0 n1 obs k o _ a F
  unfold Does
  rw [if_neg hk]
  exact ⟨⟨hw, hr⟩, h⟩
end
theorem block_cells {w : World} {g : Nat} {c : Array Value} {t : TypeId} (h : w.heap[g]? = some (.cells c t (0, 0))) : (∀ i, w.cell? ⟨g, i, none⟩ = c[i]?) ∧ ∀ i, w.frozen? ⟨g, i, none⟩ = false := by
  refine ⟨fun i => ?_, fun i => ?_⟩
  · unfold World.cell?
    simp only [h]
    rfl
  · unfold World.frozen?
    simp only [h]
    simp
end Go.Proofs.Ytfcianhmfpenhaa
