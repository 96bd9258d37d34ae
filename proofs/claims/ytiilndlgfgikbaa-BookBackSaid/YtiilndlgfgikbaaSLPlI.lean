/- Contracts of functions of the given program over its translation, each proved by walking its text; used by the laws' rows. It proves no given statement by itself. -/
import Derived.Test.YtiilndlgfgikbaaSLPlK3
set_option autoImplicit false
set_option linter.unusedSectionVars false
set_option linter.unusedSimpArgs false
set_option linter.unusedVariables false
set_option maxRecDepth 4000
namespace Go.Proofs.Ytiilndlgfgikbaa
open Go Go.SL Go.Proofs
/-- One price a level, the best first. -/
def SrtP (s : Int) (ps : List Int) : Prop := ps.Pairwise (fun a b => better s a b = true)
def Srt (s : Int) (l : List Lv) : Prop := SrtP s (l.map (·.p))
/-- All that stands there is of this side, and at its level's price. -/
def AtS (s : Int) (l : List Lv) : Prop := ∀ lv ∈ l, ∀ e ∈ lv.es, e.o.side = s ∧ e.o.price = lv.p
def SubL (l' l : List Lv) : Prop := ∀ lv' ∈ l', ∃ lv ∈ l, lv'.p = lv.p ∧ ∀ e' ∈ lv'.es, ∃ e ∈ lv.es, ∃ n, e'.o = wq e.o n
def sumL : List Lv → Int
  | [] => 0
  | lv :: r => sumE (fun x => x.o.qty) lv.es + sumL r
def sumF : List Fl → Int
  | [] => 0
  | f :: r => f.qty + sumF r
def lastP : List Fl → Int → Int
  | [], d => d
  | f :: r, _ => lastP r f.price
def FlsOk (firm oth : Int) : Int → Int → List Fl → Prop
  | _, _, [] => True
  | no, q, f :: r => 1 ≤ f.qty ∧ f.maker.firm ≠ firm ∧ f.maker.side = oth ∧ f.no = no + 1 ∧ f.price = f.maker.price ∧ f.taker.qty = q ∧ FlsOk firm oth (no + 1) (q - f.qty) r
theorem better_self (s p : Int) : better s p p = false := by unfold better; split <;> simp
theorem better_not {s a b : Int} (h : better s a b = true) : better s b a = false := by
  unfold better at h ⊢; split at h <;> simp_all <;> omega
theorem better_tot {s a b : Int} (h : better s a b = false) (hn : a ≠ b) : better s b a = true := by
  unfold better at h ⊢; split at h <;> simp_all <;> omega
theorem better_trans {s a b c : Int} (h : better s a b = true) (h2 : better s b c = true) : better s a c = true := by
  unfold better at h h2 ⊢; split at h <;> simp_all <;> omega
theorem better_no {s a b c : Int} (h : better s b a = false) (h2 : better s c b = false) : better s c a = false := by
  unfold better at h h2 ⊢; split at h <;> simp_all <;> omega
theorem sumF_append (l m : List Fl) : sumF (l ++ m) = sumF l + sumF m := by
  induction l with
  | nil => simp [sumF]
  | cons x l ih => simp only [List.cons_append, sumF, ih]; omega
theorem sumL_append (l m : List Lv) : sumL (l ++ m) = sumL l + sumL m := by
  induction l with
  | nil => simp [sumL]
  | cons x l ih => simp only [List.cons_append, sumL, ih]; omega
theorem lastP_append (l m : List Fl) (d : Int) : lastP (l ++ m) d = lastP m (lastP l d) := by
  induction l generalizing d with
  | nil => rfl
  | cons x l ih => simp only [List.cons_append, lastP, ih]
theorem lastP_get {l : List Fl} {d : Int} {f : Fl} (h : l[l.length - 1]? = some f) : lastP l d = f.price := by
  induction l generalizing d with
  | nil => simp at h
  | cons x l ih =>
    cases l with
    | nil => simp at h; subst h; rfl
    | cons y l => exact ih (d := x.price) (by simpa using h)
theorem flsOk_append {firm oth : Int} : ∀ (l m : List Fl) (no q : Int), FlsOk firm oth no q (l ++ m) ↔ FlsOk firm oth no q l ∧ FlsOk firm oth (no + l.length) (q - sumF l) m
  | [], m, no, q => by simp [FlsOk, sumF]
  | f :: l, m, no, q => by
    have ih := flsOk_append (firm := firm) (oth := oth) l m (no + 1) (q - f.qty)
    have e1 : no + 1 + (l.length : Int) = no + ((f :: l).length : Nat) := by rw [List.length_cons]; push_cast; omega
    have e2 : q - f.qty - sumF l = q - sumF (f :: l) := by simp only [sumF]; omega
    rw [e1, e2] at ih
    simp only [List.cons_append, FlsOk, ih]
    constructor
    · rintro ⟨a, b, c, d, e, f, g, h⟩; exact ⟨⟨a, b, c, d, e, f, g⟩, h⟩
    · rintro ⟨⟨a, b, c, d, e, f, g⟩, h⟩; exact ⟨a, b, c, d, e, f, g, h⟩
theorem flls_mem {o : Ord} {p no : Int} {l : List (Ord × Int)} {f : Fl} (h : f ∈ flls o p no l) : f.price = p ∧ ∃ x ∈ l, f.maker = x.1 ∧ f.qty = x.2 := by
  induction l generalizing o no with
  | nil => cases h
  | cons a r ih =>
    rcases List.mem_cons.1 h with rfl | h
    · exact ⟨rfl, a, List.mem_cons_self .., rfl, rfl⟩
    · obtain ⟨h1, x, hx, h2⟩ := ih h
      exact ⟨h1, x, List.mem_cons_of_mem _ hx, h2⟩
theorem flls_sum (o : Ord) (p no : Int) (l : List (Ord × Int)) : sumF (flls o p no l) = sumH l := by
  induction l generalizing o no with
  | nil => rfl
  | cons a r ih => simp only [flls, sumF, sumH, ih]
theorem flls_last (o : Ord) (p no d : Int) (l : List (Ord × Int)) : lastP (flls o p no l) d = if l = [] then d else p := by
  induction l generalizing o no d with
  | nil => rfl
  | cons a r ih =>
    simp only [flls, lastP, ih]
    split <;> simp
theorem flls_ok {firm oth p : Int} : ∀ (l : List (Ord × Int)) (o : Ord) (no : Int), (∀ h ∈ l, 1 ≤ h.2 ∧ h.1.firm ≠ firm ∧ h.1.side = oth ∧ h.1.price = p) → FlsOk firm oth no o.qty (flls o p no l)
  | [], _, _, _ => trivial
  | a :: r, o, no, h => by
    obtain ⟨h1, h2, h3, h4⟩ := h a (List.mem_cons_self ..)
    exact ⟨h1, h2, h3, rfl, h4.symm, rfl, flls_ok r (wq o (o.qty - a.2)) (no + 1) fun x m => h x (List.mem_cons_of_mem _ m)⟩
theorem crosses_wq (o : Ord) (q p : Int) : crosses (wq o q) p = crosses o p := rfl
variable [Base]
theorem giveE_sub {e : Ent} {l : List Ent} {n : Int} {x : Ent} (h : x ∈ giveE e l n) : ∃ y ∈ e :: l, ∃ m, x.o = wq y.o m := by
  unfold giveE at h
  split at h
  · rcases List.mem_cons.1 h with rfl | h
    · exact ⟨e, List.mem_cons_self .., _, rfl⟩
    · exact ⟨x, List.mem_cons_of_mem _ h, x.o.qty, rfl⟩
  · split at h
    · rcases List.mem_append.1 h with h | h
      · exact ⟨x, List.mem_cons_of_mem _ h, x.o.qty, rfl⟩
      · simp only [List.mem_singleton] at h
        subst h
        exact ⟨e, List.mem_cons_self .., _, rfl⟩
    · exact ⟨x, List.mem_cons_of_mem _ h, x.o.qty, rfl⟩
theorem take_sub {firm : Int} (k : Nat) : ∀ (q : Int) (es : List Ent), q.toNat ≤ k → LB es → (∀ h ∈ (take firm q es).1, ∃ e ∈ es, ∃ n, h.1 = wq e.o n) ∧ (∀ e' ∈ (take firm q es).2.2, ∃ e ∈ es, ∃ n, e'.o = wq e.o n) := by
  induction k with
  | zero =>
    intro q es hq hb
    rw [take_le (by omega)]
    exact ⟨(fun _ m => nomatch m), fun x m => ⟨x, m, x.o.qty, rfl⟩⟩
  | succ k ih =>
    intro q es hq hb
    by_cases h : 0 < q
    · cases es with
      | nil => rw [take_nil]; exact ⟨(fun _ m => nomatch m), fun _ m => nomatch m⟩
      | cons e l =>
        by_cases hf : e.o.firm = firm
        · rw [take_own h hf]; exact ⟨(fun _ m => nomatch m), fun x m => ⟨x, m, x.o.qty, rfl⟩⟩
        · have he := hb.2 e (by simp)
          rw [take_cons h hf he.2.2.1]
          have hg := giveE_LB (n := min q e.seen) hb (by omega) (by omega)
          obtain ⟨i1, i2⟩ := ih (q - min q e.seen) (giveE e l (min q e.seen)) (by omega) hg.1
          refine ⟨fun x m => ?_, fun x m => ?_⟩
          · rcases List.mem_cons.1 m with rfl | m
            · exact ⟨e, List.mem_cons_self .., e.o.qty, rfl⟩
            · obtain ⟨y, hy, n, e1⟩ := i1 x m
              obtain ⟨z, hz, n2, e2⟩ := giveE_sub hy
              exact ⟨z, hz, n, by rw [e1, e2]; rfl⟩
          · obtain ⟨y, hy, n, e1⟩ := i2 x m
            obtain ⟨z, hz, n2, e2⟩ := giveE_sub hy
            exact ⟨z, hz, n, by rw [e1, e2]; rfl⟩
    · rw [take_le (by omega)]
      exact ⟨(fun _ m => nomatch m), fun x m => ⟨x, m, x.o.qty, rfl⟩⟩
/-- What a match leaves, and tells. -/
structure MSub (o : Ord) (l : List Lv) (last : Int) (m : MR) : Prop where
  ps : ∃ k, m.lvs.map (·.p) = (l.map (·.p)).drop k
  sub : SubL m.lvs l
  fs : ∀ f ∈ m.fs, ∃ lv ∈ l, f.price = lv.p ∧ crosses o lv.p = true ∧ ∃ e ∈ lv.es, ∃ n, f.maker = wq e.o n
  stop : 0 < m.qty → m.self = false → meets o m.lvs = false
  sum : sumL l = sumF m.fs + sumL m.lvs
  qty : m.qty = o.qty - sumF m.fs
  last : m.last = lastP m.fs last
  best : ∀ s, Srt s l → m.fs.Pairwise (fun a b => better s b.price a.price = false) ∧ ∀ f ∈ m.fs, ∀ lv ∈ m.lvs, better s lv.p f.price = false
theorem match_sub : ∀ (l : List Lv) (o : Ord) (last no : Int), (∀ lv ∈ l, lv.Ok) → 0 ≤ o.qty → MSub o l last (matchL o l last no)
  | [], o, last, no, _, hq => ⟨⟨0, rfl⟩, (fun _ m => nomatch m), (fun _ m => nomatch m), (fun _ _ => rfl), rfl, by simp [matchL, sumF], rfl, fun s _ => ⟨.nil, fun _ m => nomatch m⟩⟩
  | lv :: r, o, last, no, hok, hq => by
    have hl := hok lv (by simp)
    have hr : ∀ lv ∈ r, lv.Ok := fun x m => hok x (List.mem_cons_of_mem _ m)
    unfold matchL
    split
    · rename_i hc
      have t := take_is (firm := o.firm) o.qty.toNat o.qty lv.es (Nat.le_refl _) hq hl.1
      have ts := take_sub (firm := o.firm) o.qty.toNat o.qty lv.es (Nat.le_refl _) hl.1
      generalize take o.firm o.qty lv.es = T at *
      have hsum := flls_sum o lv.p no T.1
      have hlast := flls_last o lv.p no last T.1
      have hmem : ∀ f ∈ flls o lv.p no T.1, f.price = lv.p ∧ ∃ e ∈ lv.es, ∃ n, f.maker = wq e.o n := by
        intro f m
        obtain ⟨h1, x, hx, h2, -⟩ := flls_mem m
        obtain ⟨e, he, n, h3⟩ := ts.1 x hx
        exact ⟨h1, e, he, n, by rw [h2, h3]⟩
      have hpw : ∀ s, (flls o lv.p no T.1).Pairwise (fun a b => better s b.price a.price = false) := fun s => List.Pairwise.imp_of_mem (R := fun _ _ => True) (fun {a b} ha hb _ => by rw [(hmem a ha).1, (hmem b hb).1]; exact better_self _ _) (List.pairwise_of_forall fun _ _ => trivial)
      have hhd : ∀ s, Srt s (lv :: r) → ∀ x ∈ r, better s x.p lv.p = false := fun s hs x m => better_not ((List.pairwise_cons.1 hs).1 x.p (List.mem_map_of_mem m))
      have hfs : ∀ f ∈ flls o lv.p no T.1, ∃ lv1 ∈ lv :: r, f.price = lv1.p ∧ crosses o lv1.p = true ∧ ∃ e ∈ lv1.es, ∃ n, f.maker = wq e.o n := by
        intro f m
        obtain ⟨h1, h2⟩ := hmem f m
        exact ⟨lv, List.mem_cons_self .., h1, hc.2, h2⟩
      have hsub : SubL (⟨lv.p, T.2.2⟩ :: r) (lv :: r) := by
        intro x m
        rcases List.mem_cons.1 m with rfl | m
        · exact ⟨lv, List.mem_cons_self .., rfl, ts.2⟩
        · exact ⟨x, List.mem_cons_of_mem _ m, rfl, fun e me => ⟨e, me, e.o.qty, rfl⟩⟩
      have hsub2 : SubL r (lv :: r) := fun x m => hsub x (List.mem_cons_of_mem _ m)
      have hbst : ∀ s, Srt s (lv :: r) → ∀ f ∈ flls o lv.p no T.1, ∀ x ∈ (⟨lv.p, T.2.2⟩ :: r : List Lv), better s x.p f.price = false := by
        intro s hs f mf x mx
        rw [(hmem f mf).1]
        rcases List.mem_cons.1 mx with rfl | mx
        · exact better_self _ _
        · exact hhd s hs x mx
      split
      · split
        · rename_i he
          refine ⟨⟨1, rfl⟩, hsub2, hfs, (fun _ h => by cases h), ?_, by rw [hsum], hlast.symm, fun s hs => ⟨hpw s, fun f mf x mx => hbst s hs f mf x (List.mem_cons_of_mem _ mx)⟩⟩
          have := t.sum
          rw [he] at this
          simp only [sumL, sumE, hsum] at this ⊢; omega
        · refine ⟨⟨0, rfl⟩, hsub, hfs, (fun _ h => by cases h), ?_, by rw [hsum], hlast.symm, fun s hs => ⟨hpw s, hbst s hs⟩⟩
          have := t.sum
          simp only [sumL, hsum] at this ⊢; omega
      · rename_i hself
        split
        · rename_i he
          have ih := match_sub r (wq o (o.qty - sumH T.1)) (if T.1 = [] then last else lv.p) (no + T.1.length) hr (by have := t.le; show 0 ≤ o.qty - _; omega)
          have hwq : (wq o (o.qty - sumH T.1)).qty = o.qty - sumH T.1 := rfl
          generalize matchL (wq o (o.qty - sumH T.1)) r (if T.1 = [] then last else lv.p) (no + T.1.length) = M at *
          obtain ⟨⟨k, i1⟩, i2, i3, i4, i5, i6, i7, i8⟩ := ih
          refine ⟨⟨k + 1, by simpa [MR.pre] using i1⟩, ?_, ?_, i4, ?_, ?_, ?_, ?_⟩
          · intro x m
            obtain ⟨y, hy, h⟩ := i2 x m
            exact ⟨y, List.mem_cons_of_mem _ hy, h⟩
          · intro f m
            rcases List.mem_append.1 m with m | m
            · exact hfs f m
            · obtain ⟨y, hy, h⟩ := i3 f m
              exact ⟨y, List.mem_cons_of_mem _ hy, h⟩
          · have := t.sum
            rw [he] at this
            show _ = sumF (_ ++ _) + sumL M.lvs
            rw [sumF_append, hsum]
            simp only [sumL, sumE] at this ⊢; omega
          · show M.qty = o.qty - sumF (_ ++ _)
            rw [sumF_append, hsum]; omega
          · show M.last = lastP (_ ++ _) last
            rw [lastP_append, hlast]; exact i7
          · intro s hs
            obtain ⟨j1, j2⟩ := i8 s (List.pairwise_cons.1 hs).2
            refine ⟨List.pairwise_append.2 ⟨hpw s, j1, ?_⟩, ?_⟩
            · intro a ha b hb
              obtain ⟨y, hy, h1, -⟩ := i3 b hb
              rw [(hmem a ha).1, h1]; exact hhd s hs y hy
            · intro f mf x mx
              rcases List.mem_append.1 mf with mf | mf
              · obtain ⟨y, hy, h1, -⟩ := i2 x mx
                rw [(hmem f mf).1, h1]; exact hhd s hs y hy
              · exact j2 f mf x mx
        · rename_i he
          refine ⟨⟨0, rfl⟩, hsub, hfs, ?_, ?_, by rw [hsum], hlast.symm, fun s hs => ⟨hpw s, hbst s hs⟩⟩
          · intro h1 _
            have h1 : 0 < o.qty - sumH T.1 := h1
            have := (t.all (by simpa using hself)).resolve_right he
            omega
          · have := t.sum
            simp only [sumL, hsum] at this ⊢; omega
    · rename_i hc
      refine ⟨⟨0, rfl⟩, (fun x m => ⟨x, m, rfl, fun e me => ⟨e, me, e.o.qty, rfl⟩⟩), (fun _ m => nomatch m), ?_, by simp [sumF], by simp [sumF], rfl, fun s _ => ⟨.nil, fun _ m => nomatch m⟩⟩
      intro h _
      have h : 0 < o.qty := h
      show crosses o lv.p = false
      cases hx : crosses o lv.p with
      | false => rfl
      | true => exact absurd ⟨h, hx⟩ hc
/-- A match's trades, in order. -/
theorem match_fls {oth : Int} : ∀ (l : List Lv) (o : Ord) (last no : Int), (∀ lv ∈ l, lv.Ok) → AtS oth l → 0 ≤ o.qty → FlsOk o.firm oth no o.qty (matchL o l last no).fs
  | [], o, last, no, _, _, hq => trivial
  | lv :: r, o, last, no, hok, hat, hq => by
    have hl := hok lv (by simp)
    have hr : ∀ lv ∈ r, lv.Ok := fun x m => hok x (List.mem_cons_of_mem _ m)
    unfold matchL
    split
    · rename_i hc
      have t := take_is (firm := o.firm) o.qty.toNat o.qty lv.es (Nat.le_refl _) hq hl.1
      have ts := take_sub (firm := o.firm) o.qty.toNat o.qty lv.es (Nat.le_refl _) hl.1
      generalize take o.firm o.qty lv.es = T at *
      have hf : FlsOk o.firm oth no o.qty (flls o lv.p no T.1) := by
        refine flls_ok T.1 o no fun h m => ?_
        have h1 := t.hits h m
        obtain ⟨e, he, n, h2⟩ := ts.1 h m
        have h3 := hat lv (by simp) e he
        exact ⟨h1.1, h1.2.2, by rw [h2]; exact h3.1, by rw [h2]; exact h3.2⟩
      split
      · exact hf
      · split
        · have ih := match_fls (oth := oth) r (wq o (o.qty - sumH T.1)) (if T.1 = [] then last else lv.p) (no + T.1.length) hr (fun x m => hat x (List.mem_cons_of_mem _ m)) (by have := t.le; show 0 ≤ o.qty - _; omega)
          refine (flsOk_append _ _ _ _).2 ⟨hf, ?_⟩
          rw [flls_len, flls_sum]; exact ih
        · exact hf
    · trivial
end Go.Proofs.Ytiilndlgfgikbaa
