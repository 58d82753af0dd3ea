/- The value machine: small laws that every seat needs; orders, and lists that are sorted. No condition. -/
import Derived.Test.YtpodlpemlkkojaaVnB6
import Derived.Test.YtpodlpemlkkojaaVnB5
set_option linter.unusedSimpArgs false
set_option linter.unusedVariables false
namespace Go.Vn

@[simp] theorem index_rs {P : Program} {t e o sz n cap : Nat} {ag : Bool} {k : IntKind} {i : Int} (hu : P.underlying t = some (.slice e)) (hs : tsize P e = some sz) (h0 : 0 ≤ i) (h1 : i < n) : indexAddrAV P t (.rs o 0 sz ag n cap) (.int k i) = some (.ptr o (i.toNat * sz)) := by
  simp [indexAddrAV, hu, hs, h0, h1]
@[simp] theorem len_rs {P : Program} {t e o off sz n cap : Nat} {ag : Bool} (hu : P.underlying t = some (.slice e)) : lenAV P t (.rs o off sz ag n cap) = some (.int .i64 n) := by
  simp [lenAV, hu]
@[simp] theorem take_rs {P : Program} {t e o off sz n cap : Nat} {ag : Bool} {k : IntKind} {i : Int} (hu : P.underlying t = some (.slice e)) (hs : tsize P e = some sz) (h0 : 0 ≤ i) (h1 : i ≤ n) (h2 : n ≤ cap) : sliceAV P t (.rs o off sz ag n cap) none (some (.int k i)) none = some (.rs o off sz ag i.toNat cap) := by
  have : i ≤ cap := by omega
  simp [sliceAV, hu, hs, obound, bound, h0, this]

theorem SV.isCell {sz : Nat} {xs : List AV} {v : AV} (k : SV sz xs v) : v.isCell = true := by
  rcases k with ⟨rfl, _⟩ | ⟨_, _, _, rfl⟩ | ⟨_, rfl, _⟩ <;> rfl
theorem SV.cells {sz : Nat} {xs : List AV} {v : AV} (k : SV sz xs v) : v.cells = [v] := by
  rcases k with ⟨rfl, _⟩ | ⟨_, _, _, rfl⟩ | ⟨_, rfl, _⟩ <;> rfl

theorem wrap64 {n : Int} (h0 : -9223372036854775808 ≤ n) (h1 : n ≤ 9223372036854775807) : IntKind.i64.wrap n = n := by
  simp only [IntKind.wrap, IntKind.signed, IntKind.bits]
  simp
  split <;> omega

@[simp] theorem wrap_l0 : IntKind.i64.wrap 0 = 0 := by rfl
@[simp] theorem wrap_l1 : IntKind.i64.wrap 1 = 1 := by rfl
@[simp] theorem wrap_l2 : IntKind.i64.wrap 2 = 2 := by rfl
@[simp] theorem wrap_l3 : IntKind.i64.wrap 3 = 3 := by rfl
@[simp] theorem wrap_l4 : IntKind.i64.wrap 4 = 4 := by rfl
@[simp] theorem wrap_l5 : IntKind.i64.wrap 5 = 5 := by rfl
@[simp] theorem wrap_l6 : IntKind.i64.wrap 6 = 6 := by rfl
@[simp] theorem wrap_l7 : IntKind.i64.wrap 7 = 7 := by rfl
@[simp] theorem wrap_l8 : IntKind.i64.wrap 8 = 8 := by rfl
@[simp] theorem wrap_l9 : IntKind.i64.wrap 9 = 9 := by rfl
@[simp] theorem wrap_l10 : IntKind.i64.wrap 10 = 10 := by rfl
@[simp] theorem wrap_l11 : IntKind.i64.wrap 11 = 11 := by rfl
@[simp] theorem wrap_l12 : IntKind.i64.wrap 12 = 12 := by rfl
@[simp] theorem wrap_l13 : IntKind.i64.wrap 13 = 13 := by rfl
@[simp] theorem wrap_l14 : IntKind.i64.wrap 14 = 14 := by rfl
@[simp] theorem wrap_l15 : IntKind.i64.wrap 15 = 15 := by rfl
@[simp] theorem wrap_l16 : IntKind.i64.wrap 16 = 16 := by rfl
@[simp] theorem wrap_l17 : IntKind.i64.wrap 17 = 17 := by rfl
@[simp] theorem wrap_l18 : IntKind.i64.wrap 18 = 18 := by rfl
@[simp] theorem wrap_l19 : IntKind.i64.wrap 19 = 19 := by rfl
@[simp] theorem wrap_l20 : IntKind.i64.wrap 20 = 20 := by rfl
@[simp] theorem wrap_l21 : IntKind.i64.wrap 21 = 21 := by rfl
@[simp] theorem wrap_l22 : IntKind.i64.wrap 22 = 22 := by rfl
@[simp] theorem wrap_l23 : IntKind.i64.wrap 23 = 23 := by rfl
@[simp] theorem wrap_l24 : IntKind.i64.wrap 24 = 24 := by rfl
@[simp] theorem wrap_l25 : IntKind.i64.wrap 25 = 25 := by rfl
@[simp] theorem wrap_l26 : IntKind.i64.wrap 26 = 26 := by rfl
@[simp] theorem wrap_l27 : IntKind.i64.wrap 27 = 27 := by rfl
@[simp] theorem wrap_l28 : IntKind.i64.wrap 28 = 28 := by rfl
@[simp] theorem wrap_l29 : IntKind.i64.wrap 29 = 29 := by rfl
@[simp] theorem wrap_l30 : IntKind.i64.wrap 30 = 30 := by rfl
@[simp] theorem wrap_l31 : IntKind.i64.wrap 31 = 31 := by rfl
@[simp] theorem wrap_l32 : IntKind.i64.wrap 32 = 32 := by rfl


theorem with_loop {P : Program} {T : Tab} {g : Fx} {args : List AV} {h : Hp Fm} {Q : AV → Hp Fm → Prop} (y : Nat) (lr : ALoop Fm) (hg : Mp.get h.obj y = some (.loop lr)) (k : ∀ lr', lr' = lr → Mp.get h.obj y = some (.loop lr') → A P T g args h Q) : A P T g args h Q := k lr rfl hg

theorem AC.ofX {h0 h h' : Hp Fm} {sz : Nat} {acc : List AV} {v : AV} {S : Nat → Prop} (k : AC h0 h sz acc v) (he : HX S (fun _ => False) h h') : AC h0 h' sz acc v := by
  rcases k with h | ⟨g, off, cap, a, b, c, d⟩
  · exact .inl h
  · exact .inr ⟨g, off, cap, a, (he.len g c (fun e => e)).trans b, Nat.lt_of_lt_of_le c he.ng, d⟩

theorem SV.drop {P : Program} {t e : TypeId} {sz : Nat} {xs : List AV} {v : AV} (h : SV sz xs v) (hu : P.underlying t = some (.slice e)) (hs : tsize P e = some sz) {k : IntKind} {i : Int} (h0 : 0 ≤ i) (h1 : i ≤ xs.length) :
    ∃ r, sliceAV P t v (some (.int k i)) none none = some r ∧ SV sz (xs.drop i.toNat) r := by
  rcases h with ⟨rfl, rfl⟩ | ⟨g, off, cp, rfl⟩ | ⟨c, rfl, rfl⟩
  · have : i = 0 := by simp at h1; omega
    subst this
    exact ⟨.nils, by simp [sliceAV, hu, hs, obound, bound], .inl ⟨rfl, by simp⟩⟩
  · have hz : (0 : Int) ≤ xs.length := by omega
    refine ⟨.sl g (off + i.toNat) sz (cp - i.toNat) ((xs.drop i.toNat).take (xs.length - i.toNat)), by simp [sliceAV, hu, hs, obound, bound, h0, h1, hz], .inr (.inl ⟨g, off + i.toNat, cp - i.toNat, ?_⟩)⟩
    rw [List.take_of_length_le (by simp)]
  · have : i = 0 := by simp at h1; omega
    subst this
    exact ⟨.esl c, by simp [sliceAV, hu, hs, obound, bound], .inr (.inr ⟨c, rfl, by simp⟩)⟩


theorem HE.x2 {a h h' : Hp Fm} {S G : Nat → Prop} (k : HE a h) (hx : HX S G h h') (hS : ∀ q, S q → a.no ≤ q) (hG : ∀ g, G g → a.ng ≤ g) : HE a h' :=
  ⟨Nat.le_trans k.no hx.no, Nat.le_trans k.ng hx.ng, hx.pol.trans k.pol,
    fun q hq => (hx.obj q (Nat.lt_of_lt_of_le hq k.no) (fun e => by have := hS q e; omega)).trans (k.obj q hq),
    fun g hg => (hx.len g (Nat.lt_of_lt_of_le hg k.ng) (fun e => by have := hG g e; omega)).trans (k.len g hg)⟩

theorem RS.rows {lo : Nat} {h : Hp Fm} {sz : Nat} {ag : Bool} {els : List AV} {v : AV} (k : RS lo h sz ag els v) : ∀ q, isRow v q → lo ≤ q := by
  rcases k with ⟨rfl, _⟩ | ⟨o, cap, rfl, hlo, _⟩
  · rintro q ⟨_, _, _, _, _, e⟩; cases e
  · rintro q ⟨_, _, _, _, _, e⟩; injection e with e; omega

theorem RS.he {lo : Nat} {h h' : Hp Fm} {sz : Nat} {ag : Bool} {els : List AV} {v : AV} (k : RS lo h sz ag els v) (he : HE h h') : RS lo h' sz ag els v :=
  k.of (he.x (fun _ => False) (fun _ => False)) (fun _ _ e => e)

/-- The last thing is written over. -/
theorem RS.last {lo : Nat} {h : Hp Fm} {sz : Nat} {ag : Bool} {acc : List AV} {a x : AV} {v : AV} (k : RS lo h sz ag (acc ++ [a]) v) (hf : ∀ e ∈ acc, Fit ag sz e) (ha : Fit ag sz a) (hx : Fit ag sz x) :
    ∃ o cap cs, v = .rs o 0 sz ag (acc.length + 1) cap ∧ Mp.get h.obj o = some (.row cs) ∧ acc.length * sz + sz ≤ cs.length ∧ lo ≤ o ∧ RS lo { h with obj := Mp.set h.obj o (.row (splice cs (acc.length * sz) x.cells)) } sz ag (acc ++ [x]) v := by
  rcases k with ⟨_, e⟩ | ⟨o, cap, rfl, hlo, ⟨J, h1, h2⟩, hc, ho⟩
  · simp at e
  · have e1 : (acc ++ [a]).flatMap AV.cells ++ J = acc.flatMap AV.cells ++ (a.cells ++ J) := by simp
    have e2 := fits_len hf
    refine ⟨o, cap, _, by simp, h1, ?_, hlo, .inr ⟨o, cap, by simp, hlo, ⟨J, ?_, by simpa using h2⟩, by simpa using hc, ho⟩⟩
    · rw [e1, List.length_append, e2, List.length_append, ha.len]; omega
    · simp only [Mp.get_set, if_true, splice]
      have e3 : (acc.flatMap AV.cells ++ (a.cells ++ J)).take (acc.length * sz) = acc.flatMap AV.cells := by rw [← e2, List.take_left]
      have e4 : (acc.flatMap AV.cells ++ (a.cells ++ J)).drop (acc.length * sz + x.cells.length) = J := by
        rw [← List.drop_drop, ← e2, List.drop_left, hx.len, ← ha.len, List.drop_left]
      rw [e1, e3, e4]; simp

/-- What is handed back. -/
theorem RS.frz {lo : Nat} {h : Hp Fm} {sz : Nat} {ag : Bool} {els : List AV} {v : AV} (k : RS lo h sz ag els v) (hf : ∀ e ∈ els, Fit ag sz e) (h0 : 0 < sz) (h1 : ag = false → sz = 1) :
    SV sz els (Vn.frz 3 v h).1 ∧ HX (isRow v) (fun _ => False) h (Vn.frz 3 v h).2 := by
  rcases k with ⟨rfl, rfl⟩ | ⟨o, cap, rfl, hlo, ⟨J, h2, h3⟩, hc, ho⟩
  · exact ⟨.inl ⟨rfl, rfl⟩, HX.refl _ _ _⟩
  · have hl : (els.flatMap AV.cells ++ J).length = cap * sz := by
      rw [List.length_append, fits_len hf, h3, ← Nat.add_mul]; congr 1; omega
    have hle : ¬ (els.flatMap AV.cells ++ J).length < 0 + cap * sz := by omega
    have hels : rsEls h o 0 sz ag els.length = some els := by
      simp only [rsEls, h2]
      rw [if_pos ⟨h0, h1, by rw [List.length_append, fits_len hf]; omega⟩, List.drop_zero, chunk_fit els J hf]
    simp only [Vn.frz, h2, hels, if_neg hle]
    exact ⟨.inr (.inl ⟨_, _, _, rfl⟩), ((HX.refl _ _ h).set (fun _ => ⟨_, _, _, _, _, rfl⟩) _).newSl _⟩


section
variable {E : Type}
/-- An order by numbers. -/
structure CmpOk (c : E → E → Int) : Prop where
  anti : ∀ a b, c a b < 0 ↔ 0 < c b a
  zero : ∀ a b, c a b = 0 ↔ c b a = 0
  tr : ∀ a b d, c a b ≤ 0 → c b d ≤ 0 → c a d ≤ 0
  tz : ∀ a b d, c a b = 0 → c b d = 0 → c a d = 0
  ltl : ∀ a b d, c a b < 0 → c b d ≤ 0 → c a d < 0
  ltr : ∀ a b d, c a b ≤ 0 → c b d < 0 → c a d < 0

end

theorem CmpOk.pull {E D : Type} {c : E → E → Int} (k : CmpOk c) (f : D → E) : CmpOk (fun a b => c (f a) (f b)) :=
  ⟨fun a b => k.anti _ _, fun a b => k.zero _ _, fun a b d => k.tr _ _ _, fun a b d => k.tz _ _ _, fun a b d => k.ltl _ _ _, fun a b d => k.ltr _ _ _⟩

theorem CmpOk.lex {E : Type} {c d : E → E → Int} (k : CmpOk c) (l : CmpOk d) : CmpOk (fun a b => if c a b ≠ 0 then c a b else d a b) := by
  have g : ∀ a b, ((if c a b ≠ 0 then c a b else d a b) < 0 ↔ (c a b < 0 ∨ (c a b = 0 ∧ d a b < 0))) ∧ (0 < (if c a b ≠ 0 then c a b else d a b) ↔ (0 < c a b ∨ (c a b = 0 ∧ 0 < d a b))) ∧ ((if c a b ≠ 0 then c a b else d a b) = 0 ↔ (c a b = 0 ∧ d a b = 0)) ∧ ((if c a b ≠ 0 then c a b else d a b) ≤ 0 ↔ (c a b < 0 ∨ (c a b = 0 ∧ d a b ≤ 0))) := by
    intro a b
    by_cases q : c a b = 0
    · rw [if_neg (by simp [q])]; omega
    · rw [if_pos q]; omega
  constructor
  · intro a b
    show (if c a b ≠ 0 then c a b else d a b) < 0 ↔ 0 < (if c b a ≠ 0 then c b a else d b a)
    rw [(g a b).1, (g b a).2.1]
    have := k.anti a b; have := l.anti a b; have := k.zero a b
    omega
  · intro a b
    show (if c a b ≠ 0 then c a b else d a b) = 0 ↔ (if c b a ≠ 0 then c b a else d b a) = 0
    rw [(g a b).2.2.1, (g b a).2.2.1]
    have := k.zero a b; have := l.zero a b
    omega
  · intro a b e h1 h2
    show (if c a e ≠ 0 then c a e else d a e) ≤ 0
    replace h1 := (g a b).2.2.2.mp h1; replace h2 := (g b e).2.2.2.mp h2
    rw [(g a e).2.2.2]
    have := k.tz a b e; have := k.ltl a b e; have := k.ltr a b e; have := l.tr a b e
    omega
  · intro a b e h1 h2
    show (if c a e ≠ 0 then c a e else d a e) = 0
    replace h1 := (g a b).2.2.1.mp h1; replace h2 := (g b e).2.2.1.mp h2
    rw [(g a e).2.2.1]
    exact ⟨k.tz a b e h1.1 h2.1, l.tz a b e h1.2 h2.2⟩
  · intro a b e h1 h2
    show (if c a e ≠ 0 then c a e else d a e) < 0
    replace h1 := (g a b).1.mp h1; replace h2 := (g b e).2.2.2.mp h2
    rw [(g a e).1]
    have := k.tz a b e; have := k.ltl a b e; have := k.ltr a b e; have := l.ltl a b e
    omega
  · intro a b e h1 h2
    show (if c a e ≠ 0 then c a e else d a e) < 0
    replace h1 := (g a b).2.2.2.mp h1; replace h2 := (g b e).1.mp h2
    rw [(g a e).1]
    have := k.tz a b e; have := k.ltl a b e; have := k.ltr a b e; have := l.ltr a b e
    omega

/-- Of a list the things alike. -/
def alike {E : Type} (c : E → E → Int) (x : E) (l : List E) : List E := l.filter fun y => decide (c y x = 0)

/-- Each is at most the next ones. -/
def Sorted {E : Type} (c : E → E → Int) : List E → Prop
  | [] => True
  | a :: l => (∀ b ∈ l, c a b ≤ 0) ∧ Sorted c l


/-- Sorted lists with the same things alike, in one row, are the same. -/
theorem sorted_unique {E : Type} {c : E → E → Int} (k : CmpOk c) : ∀ (l m : List E), Sorted c l → Sorted c m → (∀ x, alike c x l = alike c x m) → l = m
  | [], [], _, _, _ => rfl
  | [], b :: m, _, _, h => by
    have h0 : c b b = 0 := by have := k.anti b b; omega
    have := h b
    simp [alike, h0] at this
  | a :: l, [], _, _, h => by
    have h0 : c a a = 0 := by have := k.anti a a; omega
    have := h a
    simp [alike, h0] at this
  | a :: l, b :: m, hl, hm, h => by
    have ha0 : c a a = 0 := by have := k.anti a a; omega
    have hb0 : c b b = 0 := by have := k.anti b b; omega
    have hmem : ∀ (x : E) (p q : List E), (∀ y, alike c y p = alike c y q) → x ∈ p → x ∈ q := by
      intro x p q hpq hx
      have h0 : c x x = 0 := by have := k.anti x x; omega
      have : x ∈ alike c x p := List.mem_filter.mpr ⟨hx, by simp [h0]⟩
      rw [hpq x] at this
      exact (List.mem_filter.mp this).1
    have hab : c b a ≤ 0 := by
      have := hmem a _ _ h (List.mem_cons_self ..)
      rcases List.mem_cons.mp this with e | e
      · subst e; omega
      · exact hm.1 a e
    have hba : c a b ≤ 0 := by
      have := hmem b _ _ (fun y => (h y).symm) (List.mem_cons_self ..)
      rcases List.mem_cons.mp this with e | e
      · subst e; omega
      · exact hl.1 b e
    have hz : c b a = 0 := by have := k.anti a b; have := k.anti b a; omega
    have ha := h a
    simp only [alike, List.filter_cons, ha0, hz, decide_true, if_true] at ha
    injection ha with e1 e2
    subst e1
    congr 1
    refine sorted_unique k l m hl.2 hm.2 fun x => ?_
    have hx := h x
    simp only [alike, List.filter_cons] at hx ⊢
    split at hx
    · injection hx
    · exact hx

theorem sorted_append {E : Type} {c : E → E → Int} : ∀ (l m : List E), Sorted c l → Sorted c m → (∀ a ∈ l, ∀ b ∈ m, c a b ≤ 0) → Sorted c (l ++ m)
  | [], m, _, hm, _ => hm
  | a :: l, m, hl, hm, h => by
    refine ⟨fun b hb => ?_, sorted_append l m hl.2 hm fun x hx => h x (List.mem_cons_of_mem _ hx)⟩
    rcases List.mem_append.mp hb with q | q
    · exact hl.1 b q
    · exact h a (List.mem_cons_self ..) b q
theorem sorted_split {E : Type} {c : E → E → Int} : ∀ (l m : List E), Sorted c (l ++ m) → Sorted c l ∧ Sorted c m ∧ ∀ a ∈ l, ∀ b ∈ m, c a b ≤ 0
  | [], m, h => ⟨trivial, h, fun a ha => by cases ha⟩
  | a :: l, m, h => by
    obtain ⟨h1, h2, h3⟩ := sorted_split l m h.2
    refine ⟨⟨fun b hb => h.1 b (List.mem_append_left _ hb), h1⟩, h2, fun x hx b hb => ?_⟩
    rcases List.mem_cons.mp hx with q | q
    · subst q; exact h.1 b (List.mem_append_right _ hb)
    · exact h3 x q b hb
theorem sorted_last {E : Type} {c : E → E → Int} (k : CmpOk c) {l : List E} (h : Sorted c l) (hn : l ≠ []) : ∀ a ∈ l, c a (l.getLast hn) ≤ 0 := by
  intro a ha
  have e := List.dropLast_concat_getLast hn
  rw [← e] at h ha
  obtain ⟨_, _, h3⟩ := sorted_split _ _ h
  rcases List.mem_append.mp ha with q | q
  · exact h3 a q _ (List.mem_singleton.mpr rfl)
  · rw [List.mem_singleton.mp q]
    have := k.anti (l.getLast hn) (l.getLast hn); omega

/-- before ++ behind is sorted; x belongs between them. -/
theorem put_in {E : Type} {c : E → E → Int} (k : CmpOk c) {l m : List E} {x : E} (h : Sorted c (l ++ m)) (hl : ∀ hn : l ≠ [], ¬ c x (l.getLast hn) < 0) (hm : ∀ b ∈ m, c x b < 0) :
    Sorted c (l ++ [x] ++ m) ∧ ∀ y, alike c y (l ++ [x] ++ m) = alike c y (l ++ m) ++ alike c y [x] := by
  obtain ⟨h1, h2, h3⟩ := sorted_split l m h
  have hlx : ∀ a ∈ l, c a x ≤ 0 := by
    intro a ha
    have hn : l ≠ [] := fun e => by subst e; cases ha
    have q := hl hn
    have := k.anti x (l.getLast hn)
    have := k.anti (l.getLast hn) x
    exact k.tr _ _ _ (sorted_last k h1 hn a ha) (by omega)
  refine ⟨?_, fun y => ?_⟩
  · rw [List.append_assoc]
    refine sorted_append l _ h1 ⟨fun b hb => by have := hm b (by simpa using hb); omega, by simpa using h2⟩ fun a ha b hb => ?_
    rcases List.mem_cons.mp (by simpa using hb : b ∈ x :: m) with q | q
    · subst q; exact hlx a ha
    · exact h3 a ha b q
  · simp only [alike, List.filter_append, List.append_assoc]
    congr 1
    by_cases q : c x y = 0
    · have : List.filter (fun z => decide (c z y = 0)) m = [] := by
        rw [List.filter_eq_nil_iff]
        intro b hb hz
        have hz' : c b y = 0 := of_decide_eq_true hz
        have := hm b hb
        have := k.tz x y b q ((k.zero _ _).mp hz')
        omega
      rw [this]; simp
    · simp [q]

theorem sort_one {E : Type} {c : E → E → Int} (k : CmpOk c) (m : List E) (hm : Sorted c m) (x : E) : ∃ m', Sorted c m' ∧ ∀ y, alike c y m' = alike c y m ++ alike c y [x] := by
  have hsp : m.takeWhile (fun y => !decide (c x y < 0)) ++ m.dropWhile (fun y => !decide (c x y < 0)) = m := List.takeWhile_append_dropWhile
  obtain ⟨a, ha⟩ : ∃ a, a = m.takeWhile (fun y => !decide (c x y < 0)) := ⟨_, rfl⟩
  obtain ⟨b, hb⟩ : ∃ b, b = m.dropWhile (fun y => !decide (c x y < 0)) := ⟨_, rfl⟩
  rw [← ha, ← hb] at hsp
  have h1 : ∀ y ∈ a, ¬ c x y < 0 := by
    intro y hy
    rw [ha] at hy
    have : ∀ (l : List E), y ∈ l.takeWhile (fun y => !decide (c x y < 0)) → (!decide (c x y < 0)) = true := by
      intro l
      induction l with
      | nil => intro h; cases h
      | cons z r ih =>
        intro h
        rw [List.takeWhile_cons] at h
        split at h
        · rename_i hz
          rcases List.mem_cons.mp h with e | e
          · subst e; exact hz
          · exact ih e
        · cases h
    simpa using this m hy
  have h2 : ∀ y ∈ b, c x y < 0 := by
    have hs : Sorted c b := by rw [← hsp] at hm; exact (sorted_split a b hm).2.1
    cases b with
    | nil => intro y hy; cases hy
    | cons b0 r =>
      have h0 : c x b0 < 0 := by
        have hne : m.dropWhile (fun y => !decide (c x y < 0)) ≠ [] := by rw [← hb]; simp
        have := List.head_dropWhile_not (fun y => !decide (c x y < 0)) hne
        simp only [← hb, List.head_cons] at this
        simpa using this
      intro y hy
      rcases List.mem_cons.mp hy with e | e
      · subst e; exact h0
      · exact k.ltl _ _ _ h0 (hs.1 y e)
  obtain ⟨p1, p2⟩ := put_in k (l := a) (m := b) (x := x) (by rw [hsp]; exact hm) (fun hn => h1 _ (List.getLast_mem hn)) h2
  exact ⟨_, p1, fun y => by rw [p2 y, hsp]⟩

theorem sort_all {E : Type} {c : E → E → Int} (k : CmpOk c) (l : List E) : ∃ m, Sorted c m ∧ ∀ y, alike c y m = alike c y l := by
  suffices h : ∀ n, ∀ l : List E, l.length = n → ∃ m, Sorted c m ∧ ∀ y, alike c y m = alike c y l from h _ l rfl
  intro n
  induction n with
  | zero => intro l hl; exact ⟨[], trivial, fun y => by rw [List.length_eq_zero_iff.mp hl]⟩
  | succ n ih =>
    intro l hl
    have hne : l ≠ [] := fun e => by rw [e] at hl; simp at hl
    obtain ⟨m, h1, h2⟩ := ih l.dropLast (by simp; omega)
    obtain ⟨m', h3, h4⟩ := sort_one k m h1 (l.getLast hne)
    refine ⟨m', h3, fun y => ?_⟩
    rw [h4 y, h2 y]
    have := congrArg (alike c y) (List.dropLast_concat_getLast hne)
    rw [← this]
    unfold alike; rw [List.filter_append]

theorem alike_mem {E : Type} {c : E → E → Int} (k : CmpOk c) {l m : List E} (h : ∀ y, alike c y l = alike c y m) {x : E} (hx : x ∈ l) : x ∈ m := by
  have h0 : c x x = 0 := by have := k.anti x x; omega
  have : x ∈ alike c x l := List.mem_filter.mpr ⟨hx, by simp [h0]⟩
  rw [h x] at this
  exact (List.mem_filter.mp this).1


theorem sorted_at {E : Type} {c : E → E → Int} : ∀ (l : List E), Sorted c l → ∀ i j (hj : j < l.length) (hi : i < j), c (l[i]'(by omega)) l[j] ≤ 0
  | [], _, i, j, hj, _ => by simp at hj
  | a :: l, h, 0, j + 1, hj, _ => h.1 _ (List.getElem_mem (by simpa using hj))
  | a :: l, h, i + 1, j + 1, hj, hi => sorted_at l h.2 i j (by simpa using hj) (by omega)
  | a :: l, h, i, 0, hj, hi => absurd hi (Nat.not_lt_zero _)


def cmpI (a b : Int) : Int := if a < b then -1 else if a > b then 1 else 0
theorem cmpI_ok : CmpOk cmpI := by
  constructor <;> intros <;> unfold cmpI at * <;> (repeat' split at *) <;> omega
@[simp] theorem len_sl {P : Program} {t e g o sz cp : Nat} {xs : List AV} (hu : P.underlying t = some (.slice e)) : lenAV P t (.sl g o sz cp xs) = some (.int .i64 xs.length) := by
  simp [lenAV, hu]
@[simp] theorem index_sl {P : Program} {t e g o sz cp : Nat} {xs : List AV} {k : IntKind} {i : Int} (hu : P.underlying t = some (.slice e)) (hs : tsize P e = some sz) (h0 : 0 ≤ i) : indexAddrAV P t (.sl g o sz cp xs) (.int k i) = (xs[i.toNat]?).map fun v => .el v 0 := by
  simp [indexAddrAV, hu, hs, h0]
end Go.Vn

/- Pieces of time: the plain law of what is over what. -/
namespace Go.Vn

/-- A span that may be. -/
def May (a b : Int) : Prop := 0 ≤ a ∧ a < b ∧ b ≤ 1099511627776
instance (a b : Int) : Decidable (May a b) := by unfold May; infer_instance
/-- A time in a span. -/
def Has (a b t : Int) : Prop := May a b ∧ a ≤ t ∧ t < b
instance (a b t : Int) : Decidable (Has a b t) := by unfold Has; infer_instance

/-- A piece. -/
structure Pc where
  fr : Int
  to : Int
  val : List UInt8
deriving Inhabited, DecidableEq

/-- What stands at a time: the first piece's in whose span it lies. -/
def atP (l : List Pc) (t : Int) : Option (List UInt8) := (l.find? fun p => decide (Has p.fr p.to t)).map Pc.val

theorem atP_nil (t : Int) : atP [] t = none := rfl
theorem atP_cons (p : Pc) (l : List Pc) (t : Int) : atP (p :: l) t = if Has p.fr p.to t then some p.val else atP l t := by
  unfold atP
  by_cases q : Has p.fr p.to t <;> simp [q]
theorem atP_append (l m : List Pc) (t : Int) : atP (l ++ m) t = (atP l t).or (atP m t) := by
  induction l with
  | nil => simp [atP_nil]
  | cons p l ih =>
    rw [List.cons_append, atP_cons, atP_cons, ih]
    split <;> rfl

/-- The times of a span that are not of the other (which may be). -/
def minusS (a b c d : Int) : List (Int × Int) :=
  if ¬ May a b then [] else
  if ¬ May (max a c) (min b d) then [(a, b)] else
  (if May a (max a c) then [(a, max a c)] else []) ++ (if May (min b d) b then [(min b d, b)] else [])
def minusP (c d : Int) (p : Pc) : List Pc := (minusS p.fr p.to c d).map fun s => ⟨s.1, s.2, p.val⟩
def withoutP (l : List Pc) (c d : Int) : List Pc := if May c d then l.flatMap (minusP c d) else l
def overP (l : List Pc) (p : Pc) : List Pc := if May p.fr p.to then
    (withoutP l p.fr p.to).takeWhile (fun o => decide (o.fr < p.to)) ++ [p] ++ (withoutP l p.fr p.to).dropWhile (fun o => decide (o.fr < p.to)) else l

theorem minus_at (c d : Int) (hm : May c d) (p : Pc) (t : Int) : atP (minusP c d p) t = if Has c d t then none else if Has p.fr p.to t then some p.val else none := by
  unfold minusP minusS
  by_cases h1 : May p.fr p.to
  · rw [if_neg (by simp [h1])]
    by_cases h2 : May (max p.fr c) (min p.to d)
    · rw [if_neg (by simp [h2])]
      rw [List.map_append, atP_append]
      have e1 : atP (List.map (fun s : Int × Int => (⟨s.1, s.2, p.val⟩ : Pc)) (if May p.fr (max p.fr c) then [(p.fr, max p.fr c)] else [])) t = if Has p.fr (max p.fr c) t then some p.val else none := by
        by_cases q : May p.fr (max p.fr c)
        · rw [if_pos q]; simp [atP_cons, atP_nil]
        · rw [if_neg q, if_neg (fun k => q k.1)]; rfl
      have e2 : atP (List.map (fun s : Int × Int => (⟨s.1, s.2, p.val⟩ : Pc)) (if May (min p.to d) p.to then [(min p.to d, p.to)] else [])) t = if Has (min p.to d) p.to t then some p.val else none := by
        by_cases q : May (min p.to d) p.to
        · rw [if_pos q]; simp [atP_cons, atP_nil]
        · rw [if_neg q, if_neg (fun k => q k.1)]; rfl
      rw [e1, e2]
      by_cases q0 : Has c d t
      · rw [if_pos q0, if_neg, if_neg]
        · rfl
        · unfold Has May at *; omega
        · unfold Has May at *; omega
      · rw [if_neg q0]
        by_cases q1 : Has p.fr p.to t
        · rw [if_pos q1]
          by_cases q2 : Has p.fr (max p.fr c) t
          · rw [if_pos q2]; rfl
          · rw [if_neg q2, if_pos]
            · rfl
            · unfold Has May at *; omega
        · rw [if_neg q1, if_neg, if_neg]
          · rfl
          · unfold Has May at *; omega
          · unfold Has May at *; omega
    · rw [if_pos (by simp [h2])]
      simp only [List.map_cons, List.map_nil, atP_cons, atP_nil]
      by_cases q0 : Has c d t
      · rw [if_pos q0, if_neg]
        unfold Has May at *; omega
      · rw [if_neg q0]
  · rw [if_pos (by simp [h1])]
    simp only [List.map_nil, atP_nil]
    rw [if_neg (fun k : Has p.fr p.to t => h1 k.1)]; simp

theorem without_at (l : List Pc) (c d t : Int) : atP (withoutP l c d) t = if Has c d t then none else atP l t := by
  unfold withoutP
  by_cases hm : May c d
  · rw [if_pos hm]
    induction l with
    | nil => simp [atP_nil]
    | cons p l ih =>
      rw [List.flatMap_cons, atP_append, minus_at c d hm, ih, atP_cons]
      by_cases q0 : Has c d t
      · simp [q0]
      · simp only [if_neg q0]
        by_cases q1 : Has p.fr p.to t <;> simp [q1]
  · rw [if_neg hm, if_neg (fun k => hm k.1)]

theorem over_at (l : List Pc) (p : Pc) (t : Int) : atP (overP l p) t = if Has p.fr p.to t then some p.val else atP l t := by
  unfold overP
  by_cases hm : May p.fr p.to
  · rw [if_pos hm, atP_append, atP_append, atP_cons, atP_nil]
    have h := without_at l p.fr p.to t
    have hs : (withoutP l p.fr p.to).takeWhile (fun o => decide (o.fr < p.to)) ++ (withoutP l p.fr p.to).dropWhile (fun o => decide (o.fr < p.to)) = withoutP l p.fr p.to := List.takeWhile_append_dropWhile
    rw [← hs, atP_append] at h
    by_cases q : Has p.fr p.to t
    · rw [if_pos q] at h
      have h1 : atP ((withoutP l p.fr p.to).takeWhile (fun o => decide (o.fr < p.to))) t = none := by
        cases e : atP ((withoutP l p.fr p.to).takeWhile (fun o => decide (o.fr < p.to))) t with
        | none => rfl
        | some x => rw [e] at h; cases h
      rw [h1]; simp [q]
    · rw [if_neg q] at h
      rw [if_neg q, if_neg q, ← h]; simp
  · rw [if_neg hm, if_neg (fun k => hm k.1)]

/-- Pieces in order: each may be, and begins where the one ahead ends, or later. -/
def OrdP : Int → List Pc → Prop
  | _, [] => True
  | n, p :: l => May p.fr p.to ∧ n ≤ p.fr ∧ OrdP p.to l

theorem OrdP.mono {l : List Pc} {n m : Int} (h : OrdP n l) (k : m ≤ n) : OrdP m l := by
  cases l with
  | nil => trivial
  | cons p l => exact ⟨h.1, Int.le_trans k h.2.1, h.2.2⟩
theorem OrdP.append {l m : List Pc} {n e : Int} (h : OrdP n l) (hl : ∀ p ∈ l, p.to ≤ e) (hne : n ≤ e) (k : OrdP e m) : OrdP n (l ++ m) := by
  induction l generalizing n with
  | nil => exact k.mono hne
  | cons p l ih => exact ⟨h.1, h.2.1, ih h.2.2 (fun q hq => hl q (List.mem_cons_of_mem _ hq)) (hl p (List.mem_cons_self ..))⟩
theorem OrdP.from_ {l : List Pc} {n : Int} (h : OrdP n l) : ∀ p ∈ l, n ≤ p.fr ∧ May p.fr p.to := by
  induction l generalizing n with
  | nil => intro p hp; cases hp
  | cons q l ih =>
    intro p hp
    rcases List.mem_cons.mp hp with e | e
    · subst e; exact ⟨h.2.1, h.1⟩
    · have h1 := ih h.2.2 p e
      have h2 := h.1
      have h3 := h.2.1
      refine ⟨?_, h1.2⟩
      have := h1.1
      unfold May at h2; omega

theorem minus_ord (c d : Int) (hm : May c d) (p : Pc) (n : Int) (h : May p.fr p.to) (hn : n ≤ p.fr) : OrdP n (minusP c d p) ∧ ∀ q ∈ minusP c d p, q.to ≤ p.to ∧ p.fr ≤ q.fr := by
  unfold minusP minusS
  rw [if_neg (by simp [h])]
  by_cases h2 : May (max p.fr c) (min p.to d)
  · rw [if_neg (by simp [h2])]
    by_cases q1 : May p.fr (max p.fr c) <;> by_cases q2 : May (min p.to d) p.to <;> simp only [q1, q2, if_true, if_false, List.nil_append, List.append_nil, List.map_nil, List.map_cons, List.singleton_append]
    · refine ⟨⟨q1, hn, q2, ?_, trivial⟩, ?_⟩
      · unfold May at *; simp only; omega
      · intro q hq
        simp only [List.mem_cons, List.not_mem_nil, or_false] at hq
        rcases hq with rfl | rfl <;> simp only <;> (unfold May at *; omega)
    · refine ⟨⟨q1, hn, trivial⟩, ?_⟩
      intro q hq
      rw [List.mem_singleton.mp hq]; simp only; unfold May at *; omega
    · refine ⟨⟨q2, ?_, trivial⟩, ?_⟩
      · unfold May at *; simp only; omega
      · intro q hq
        rw [List.mem_singleton.mp hq]; simp only; unfold May at *; omega
    · exact ⟨trivial, fun q hq => by cases hq⟩
  · rw [if_pos (by simp [h2])]
    refine ⟨⟨h, hn, trivial⟩, ?_⟩
    intro q hq
    rw [List.mem_singleton.mp hq]; exact ⟨Int.le_refl _, Int.le_refl _⟩

theorem without_ord {l : List Pc} {n : Int} (h : OrdP n l) (c d : Int) : OrdP n (withoutP l c d) := by
  unfold withoutP
  by_cases hm : May c d
  · rw [if_pos hm]
    induction l generalizing n with
    | nil => trivial
    | cons p l ih =>
      rw [List.flatMap_cons]
      obtain ⟨h1, h2⟩ := minus_ord c d hm p n h.1 h.2.1
      exact h1.append (fun q hq => (h2 q hq).1) (by have := h.1; have := h.2.1; unfold May at *; omega) (ih h.2.2)
  · rw [if_neg hm]; exact h

/-- What is left lies elsewhere than in the span. -/
theorem without_off {l : List Pc} {n c d : Int} (h : OrdP n l) (hm : May c d) : ∀ q ∈ withoutP l c d, q.to ≤ c ∨ d ≤ q.fr := by
  unfold withoutP
  rw [if_pos hm]
  intro q hq
  obtain ⟨p, hp, hq⟩ := List.mem_flatMap.mp hq
  have hpm := (h.from_ p hp).2
  unfold minusP minusS at hq
  rw [if_neg (by simp [hpm])] at hq
  by_cases h2 : May (max p.fr c) (min p.to d)
  · rw [if_neg (by simp [h2])] at hq
    obtain ⟨s, hs, rfl⟩ := List.mem_map.mp hq
    rcases List.mem_append.mp hs with hs | hs
    · split at hs
      · rw [List.mem_singleton.mp hs]; simp only; unfold May at *; omega
      · cases hs
    · split at hs
      · rw [List.mem_singleton.mp hs]; simp only; unfold May at *; omega
      · cases hs
  · rw [if_pos (by simp [h2])] at hq
    obtain ⟨s, hs, rfl⟩ := List.mem_map.mp hq
    rw [List.mem_singleton.mp hs]; simp only; unfold May at *; omega

theorem ord_split {l : List Pc} {n b : Int} (h : OrdP n l) : OrdP n (l.takeWhile fun o => decide (o.fr < b)) ∧ (∀ p ∈ l.takeWhile fun o => decide (o.fr < b), p.fr < b) ∧ OrdP b (l.dropWhile fun o => decide (o.fr < b)) := by
  induction l generalizing n with
  | nil => exact ⟨trivial, (fun p hp => by cases hp), trivial⟩
  | cons p l ih =>
    by_cases q : p.fr < b
    · rw [List.takeWhile_cons, List.dropWhile_cons]
      simp only [q, decide_true, if_true]
      obtain ⟨h1, h2, h3⟩ := ih h.2.2
      refine ⟨⟨h.1, h.2.1, h1⟩, fun x hx => ?_, h3⟩
      rcases List.mem_cons.mp hx with e | e
      · subst e; exact q
      · exact h2 x e
    · rw [List.takeWhile_cons, List.dropWhile_cons]
      simp only [q, decide_false, if_false]
      refine ⟨trivial, fun x hx => by simp at hx, ?_⟩
      exact ⟨h.1, by omega, h.2.2⟩

theorem over_ord {l : List Pc} (h : OrdP 0 l) (p : Pc) : OrdP 0 (overP l p) := by
  unfold overP
  by_cases hm : May p.fr p.to
  · rw [if_pos hm]
    have h0 := without_ord h p.fr p.to
    have hoff := without_off h hm
    obtain ⟨h1, h2, h3⟩ := ord_split (b := p.to) h0
    rw [List.append_assoc]
    refine h1.append (e := p.fr) (fun q hq => ?_) hm.1 ⟨hm, Int.le_refl _, h3⟩
    have := h2 q hq
    have hmem : q ∈ withoutP l p.fr p.to := (List.takeWhile_sublist _).mem hq
    rcases hoff q hmem with e | e
    · exact e
    · omega
  · rw [if_neg hm]; exact h

/-- One piece more, where what touches and is alike is one. -/
def leastS (out : List Pc) (p : Pc) : List Pc := match out.getLast? with
  | some q => if q.to = p.fr ∧ q.val = p.val then out.dropLast ++ [⟨q.fr, p.to, q.val⟩] else out ++ [p]
  | none => [p]
def leastP (l : List Pc) : List Pc := l.foldl leastS []

/-- No two that touch are alike. -/
def Apart : List Pc → Prop
  | [] => True
  | [_] => True
  | p :: q :: l => ¬ (p.to = q.fr ∧ p.val = q.val) ∧ Apart (q :: l)

theorem leastS_nil (p : Pc) : leastS [] p = [p] := rfl
theorem leastS_snoc (out : List Pc) (q p : Pc) : leastS (out ++ [q]) p = if q.to = p.fr ∧ q.val = p.val then out ++ [⟨q.fr, p.to, q.val⟩] else out ++ [q] ++ [p] := by
  unfold leastS
  rw [List.getLast?_concat, List.dropLast_concat]

theorem snoc_cases (l : List Pc) : l = [] ∨ ∃ m q, l = m ++ [q] := by
  by_cases h : l = []
  · exact .inl h
  · exact .inr ⟨_, _, (List.dropLast_concat_getLast h).symm⟩

theorem apart_snoc2 (l : List Pc) (p q : Pc) : Apart (l ++ [p] ++ [q]) ↔ Apart (l ++ [p]) ∧ ¬ (p.to = q.fr ∧ p.val = q.val) := by
  induction l with
  | nil => simp [Apart]
  | cons a l ih =>
    cases l with
    | nil => simp [Apart]
    | cons b l =>
      simp only [List.cons_append, Apart] at ih ⊢
      rw [ih]
      constructor
      · rintro ⟨h1, h2, h3⟩; exact ⟨⟨h1, h2⟩, h3⟩
      · rintro ⟨⟨h1, h2⟩, h3⟩; exact ⟨h1, h2, h3⟩
theorem apart_last (l : List Pc) (q r : Pc) (h : q.fr = r.fr) (hv : q.val = r.val) : Apart (l ++ [q]) → Apart (l ++ [r]) := by
  rcases snoc_cases l with rfl | ⟨m, x, rfl⟩
  · intro _; trivial
  · rw [apart_snoc2, apart_snoc2, h, hv]; exact id

theorem leastS_apart (out : List Pc) (p : Pc) (h : Apart out) : Apart (leastS out p) := by
  rcases snoc_cases out with rfl | ⟨m, q, rfl⟩
  · trivial
  · rw [leastS_snoc]
    split
    · exact apart_last m q _ rfl rfl h
    · rename_i k
      exact (apart_snoc2 m q p).mpr ⟨h, k⟩
theorem least_apart_go : ∀ (l out : List Pc), Apart out → Apart (l.foldl leastS out)
  | [], out, h => h
  | p :: l, out, h => least_apart_go l _ (leastS_apart out p h)
theorem least_apart (l : List Pc) : Apart (leastP l) := least_apart_go l [] trivial

theorem least_idem_go : ∀ (l out : List Pc), Apart (out ++ l) → l.foldl leastS out = out ++ l
  | [], out, _ => by simp
  | p :: l, out, h => by
    have e : leastS out p = out ++ [p] := by
      rcases snoc_cases out with rfl | ⟨m, q, rfl⟩
      · rfl
      · rw [leastS_snoc, if_neg]
        have : Apart (m ++ [q] ++ [p]) := by
          have hs : ∀ (a b : List Pc), Apart (a ++ b) → Apart a := by
            intro a
            induction a with
            | nil => intro b _; trivial
            | cons x a ih =>
              intro b hb
              cases a with
              | nil => trivial
              | cons y a => exact ⟨hb.1, ih b hb.2⟩
          exact hs (m ++ [q] ++ [p]) l (by simpa using h)
        exact ((apart_snoc2 m q p).mp this).2
    rw [List.foldl_cons, e, least_idem_go l (out ++ [p]) (by simpa using h)]
    simp
theorem least_idem (l : List Pc) (h : Apart l) : leastP l = l := least_idem_go l [] h

theorem ord_snoc {l : List Pc} {n : Int} {q : Pc} : OrdP n (l ++ [q]) ↔ OrdP n l ∧ May q.fr q.to ∧ n ≤ q.fr ∧ ∀ p ∈ l, p.to ≤ q.fr := by
  induction l generalizing n with
  | nil => simp [OrdP]
  | cons p l ih =>
    simp only [List.cons_append, OrdP]
    rw [ih]
    constructor
    · rintro ⟨h1, h2, h3, h4, h5, h6⟩
      refine ⟨⟨h1, h2, h3⟩, h4, by unfold May at *; omega, fun x hx => ?_⟩
      rcases List.mem_cons.mp hx with e | e
      · subst e; exact h5
      · exact h6 x e
    · rintro ⟨⟨h1, h2, h3⟩, h4, h5, h6⟩
      exact ⟨h1, h2, h3, h4, h6 p (List.mem_cons_self ..), fun x hx => h6 x (List.mem_cons_of_mem _ hx)⟩

/-- Least pieces: as they are, in order; and what stands at a time is as it was. -/
theorem leastS_law (out : List Pc) (p : Pc) (h : OrdP 0 (out ++ [p])) : (∀ r, OrdP 0 (out ++ [p] ++ r) → OrdP 0 (leastS out p ++ r)) ∧ ∀ t, atP (leastS out p) t = atP (out ++ [p]) t := by
  rcases snoc_cases out with rfl | ⟨m, q, rfl⟩
  · exact ⟨fun r k => k, fun t => rfl⟩
  · rw [leastS_snoc]
    by_cases k : q.to = p.fr ∧ q.val = p.val
    · rw [if_pos k]
      obtain ⟨h1, h2, h3, h4⟩ := ord_snoc.mp h
      obtain ⟨h5, h6, h7, h8⟩ := ord_snoc.mp h1
      constructor
      · intro r hr
        clear h1 h5
        have go : ∀ (m : List Pc) (n : Int), n ≤ q.fr → (∀ x ∈ m, x.to ≤ q.fr) → OrdP n (m ++ [q] ++ [p] ++ r) → OrdP n (m ++ [⟨q.fr, p.to, q.val⟩] ++ r) := by
          intro m
          induction m with
          | nil =>
            intro n hn _ hh
            simp only [List.nil_append, List.cons_append, OrdP] at hh ⊢
            refine ⟨?_, hh.2.1, hh.2.2.2.2⟩
            have := hh.1; have := hh.2.2.1; have := hh.2.2.2.1
            unfold May at *; omega
          | cons x m ih =>
            intro n hn hx hh
            simp only [List.cons_append, OrdP] at hh ⊢
            exact ⟨hh.1, hh.2.1, by simpa using ih x.to (hx x (List.mem_cons_self ..)) (fun y hy => hx y (List.mem_cons_of_mem _ hy)) (by simpa using hh.2.2)⟩
        exact go m 0 h7 h8 hr
      · intro t
        rw [atP_append, atP_append, atP_append, atP_cons, atP_nil, atP_cons, atP_nil, atP_cons, atP_nil, Option.or_assoc]
        congr 1
        by_cases a1 : Has q.fr q.to t
        · rw [if_pos a1, if_pos]
          · rfl
          · unfold Has May at *; simp only; omega
        · rw [if_neg a1]
          by_cases a2 : Has p.fr p.to t
          · rw [if_pos a2, if_pos]
            · simp [k.2]
            · unfold Has May at *; simp only; omega
          · rw [if_neg a2, if_neg]
            · rfl
            · unfold Has May at *; simp only; omega
    · rw [if_neg k]
      exact ⟨fun r hr => hr, fun t => rfl⟩
theorem least_go : ∀ (l out : List Pc), OrdP 0 (out ++ l) → OrdP 0 (l.foldl leastS out) ∧ ∀ t, atP (l.foldl leastS out) t = atP (out ++ l) t
  | [], out, h => ⟨by simpa using h, fun t => by simp⟩
  | p :: l, out, h => by
    have hs : OrdP 0 (out ++ [p]) := by
      have : ∀ (a b : List Pc) (n : Int), OrdP n (a ++ b) → OrdP n a := by
        intro a
        induction a with
        | nil => intro b n _; trivial
        | cons x a ih => intro b n hb; exact ⟨hb.1, hb.2.1, ih b _ hb.2.2⟩
      exact this (out ++ [p]) l 0 (by simpa using h)
    obtain ⟨h1, h2⟩ := leastS_law out p hs
    obtain ⟨h3, h4⟩ := least_go l (leastS out p) (h1 l (by simpa using h))
    refine ⟨h3, fun t => ?_⟩
    rw [List.foldl_cons, h4 t, atP_append, h2 t, ← atP_append]
    simp
theorem least_law (l : List Pc) (h : OrdP 0 l) : OrdP 0 (leastP l) ∧ ∀ t, atP (leastP l) t = atP l t := by
  have k := least_go l [] h
  exact ⟨k.1, fun t => k.2 t⟩

/-- What stands at a piece's first time is the piece's; at its last one, too; right behind it nothing, or another one. -/
theorem piece_at {l m : List Pc} {p : Pc} (h : OrdP 0 (l ++ p :: m)) (t : Int) (ht : p.fr ≤ t ∧ t < p.to) : atP (l ++ p :: m) t = some p.val := by
  have go : ∀ (l : List Pc) (n : Int), OrdP n (l ++ p :: m) → atP (l ++ p :: m) t = some p.val := by
    intro l
    induction l with
    | nil => intro n hh; rw [List.nil_append, atP_cons, if_pos ⟨hh.1, ht⟩]
    | cons q l ih =>
      intro n hh
      rw [List.cons_append, atP_cons, if_neg, ih q.to hh.2.2]
      intro k
      have := (hh.2.2.from_ p (by simp)).1
      unfold Has at k; omega
  exact go l 0 h
theorem piece_behind {l m : List Pc} {p : Pc} (h : OrdP 0 (l ++ p :: m)) (ha : Apart (l ++ p :: m)) : atP (l ++ p :: m) p.to ≠ some p.val := by
  have hp : May p.fr p.to := (h.from_ p (by simp)).2
  have go : ∀ (l : List Pc) (n : Int), OrdP n (l ++ p :: m) → Apart (l ++ p :: m) → atP (l ++ p :: m) p.to ≠ some p.val := by
    intro l
    induction l with
    | nil =>
      intro n hh hap
      rw [List.nil_append, atP_cons, if_neg (by unfold Has; omega)]
      cases m with
      | nil => simp [atP_nil]
      | cons q m =>
        have hq := hh.2.2
        rw [atP_cons]
        by_cases k : Has q.fr q.to p.to
        · rw [if_pos k]
          intro e
          injection e with e
          have : p.to = q.fr := by have := hq.2.1; unfold Has at k; omega
          exact hap.1 ⟨this, e.symm⟩
        · rw [if_neg k]
          have hlt : p.to < q.to := by have := hq.1; have := hq.2.1; unfold May at *; omega
          have hn : atP m p.to = none := by
            have : ∀ (m : List Pc) (n : Int), OrdP n m → p.to < n → atP m p.to = none := by
              intro m
              induction m with
              | nil => intro n _ _; rfl
              | cons r m ihm =>
                intro n hr hn
                have := hr.2.1
                have := hr.1
                rw [atP_cons, if_neg (by unfold Has; omega), ihm r.to hr.2.2 (by unfold May at *; omega)]
            exact this m q.to hq.2.2 hlt
          rw [hn]; simp
    | cons q l ih =>
      intro n hh hap
      have h1 := (hh.2.2.from_ p (by simp)).1
      rw [List.cons_append, atP_cons, if_neg (by unfold Has; unfold May at hp; omega)]
      refine ih q.to hh.2.2 ?_
      cases l with
      | nil => exact hap.2
      | cons r l => exact hap.2
  exact go l 0 h ha
end Go.Vn
