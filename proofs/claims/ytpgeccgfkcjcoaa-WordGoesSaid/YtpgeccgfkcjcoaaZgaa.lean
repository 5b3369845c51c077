/- Joined texts: WordQ WordF WordG. -/
import Derived.Test.YtpgeccgfkcjcoaaZfaa
import Derived.Test.YtpgeccgfkcjcoaaZdaa
import Derived.Test.YtpgeccgfkcjcoaaZfac
/- Words: what going from word to word says of the list, plainly. -/
namespace Go.Proofs.Ytpgeccgfkcjcoaa

/-- z is the first end behind c; n, if there is none -/
def IsFirst (L : List (Nat × Nat)) (n c z : Nat) : Prop := (z = n ∧ ∀ x ∈ L, ¬ c < x.2) ∨ ((∃ x ∈ L, x.2 = z) ∧ c < z ∧ ∀ x ∈ L, c < x.2 → z ≤ x.2)
/-- z is the last beginning ahead of c; 0, if there is none -/
def IsLast (L : List (Nat × Nat)) (c z : Nat) : Prop := (z = 0 ∧ ∀ x ∈ L, ¬ x.1 < c) ∨ ((∃ x ∈ L, x.1 = z) ∧ z < c ∧ ∀ x ∈ L, x.1 < c → x.1 ≤ z)
theorem runE_bd2 {n : Nat} {nt : Nat → Nat} {ins : Nat → Bool} {P : Nat → Prop} (hP : ∀ b, b < n → P b → P (nt b)) : ∀ m b, n - b = m → P b → P (runE n nt ins b) := by
  intro m
  induction m using Nat.strongRecOn with
  | _ m ih =>
    intro b hm hb
    rw [runE]
    split
    · rename_i h
      exact ih (n - nt b) (by omega) (nt b) rfl (hP b h.1 hb)
    · exact hb
theorem runE_bd' {n : Nat} {nt : Nat → Nat} {ins : Nat → Bool} (hN : ∀ b, b < n → nt b ≤ n) (m b : Nat) (hm : n - b = m) (hb : b ≤ n) : runE n nt ins b ≤ n := runE_bd2 (P := fun b => b ≤ n) (fun b h _ => hN b h) m b hm hb
section
variable {n : Nat} {nt pv : Nat → Nat} {ins : Nat → Bool} {B : Nat → Prop}
theorem wrds_ends (hn : ∀ b, b < n → b < nt b) (hN : ∀ b, b < n → nt b ≤ n) : ∀ m b, n - b = m → b ≤ n → (∀ x ∈ wrds n nt ins b, b ≤ x.1 ∧ x.1 < x.2 ∧ x.2 ≤ n) ∧ (wrds n nt ins b).Pairwise (fun x y => x.2 ≤ y.1) := by
  intro m
  induction m using Nat.strongRecOn with
  | _ m ih =>
    intro b hm hb
    by_cases hlt : b < n
    · have h2 := hn b hlt
      cases hi : ins b with
      | true =>
        have hg := runE_gt hlt h2 hi
        have hr : runE n nt ins b ≤ n := runE_bd' hN _ b rfl hb
        obtain ⟨i1, i2⟩ := ih (n - runE n nt ins b) (by omega) (runE n nt ins b) rfl hr
        rw [wrds_in hlt h2 hi]
        refine ⟨fun x hx => ?_, List.pairwise_cons.2 ⟨fun y hy => (i1 y hy).1, i2⟩⟩
        rcases List.mem_cons.1 hx with rfl | hx
        · exact ⟨Nat.le_refl _, hg, hr⟩
        · have := i1 x hx; omega
      | false =>
        obtain ⟨i1, i2⟩ := ih (n - nt b) (by omega) (nt b) rfl (hN b hlt)
        rw [wrds_out hlt h2 hi]
        exact ⟨fun x hx => by have := i1 x hx; omega, i2⟩
    · rw [wrds_end hlt]
      exact ⟨fun x hx => by simp at hx, .nil⟩
theorem run_mid (hn : ∀ b, b < n → b < nt b) (hB : ∀ b, b < n → B b → B (nt b)) (hg : ∀ b c, b < n → B b → B c → b < c → nt b ≤ c) : ∀ m b c, n - b = m → B b → B c → b ≤ c → c < runE n nt ins b → ins c = true ∧ runE n nt ins c = runE n nt ins b := by
  intro m
  induction m using Nat.strongRecOn with
  | _ m ih =>
    intro b c hm hb hc hbc hcr
    have hlt : b < n := by
      by_cases h : b < n
      · exact h
      · rw [runE_end h] at hcr; omega
    have hi : ins b = true := by
      cases h : ins b with
      | true => rfl
      | false => rw [runE_stop h] at hcr; omega
    by_cases e : b = c
    · subst e; exact ⟨hi, rfl⟩
    · have h2 := hn b hlt
      have h3 := hg b c hlt hb hc (by omega)
      rw [runE_step hlt h2 hi] at hcr ⊢
      exact ih (n - nt b) (by omega) (nt b) c rfl (hB b hlt hb) hc h3 hcr
theorem run_out (hn : ∀ b, b < n → b < nt b) : ∀ m b, n - b = m → ins (runE n nt ins b) = false ∨ ¬ runE n nt ins b < n := by
  intro m
  induction m using Nat.strongRecOn with
  | _ m ih =>
    intro b hm
    by_cases hlt : b < n
    · cases hi : ins b with
      | true => rw [runE_step hlt (hn b hlt) hi]; exact ih (n - nt b) (by have := hn b hlt; omega) (nt b) rfl
      | false => rw [runE_stop hi]; exact .inl hi
    · rw [runE_end hlt]; exact .inr hlt
theorem fwd_first (hn : ∀ b, b < n → b < nt b) (hN : ∀ b, b < n → nt b ≤ n) (hB : ∀ b, b < n → B b → B (nt b)) (hg : ∀ b c, b < n → B b → B c → b < c → nt b ≤ c) : ∀ m b c, n - b = m → B b → B c → b ≤ c → c ≤ n → IsFirst (wrds n nt ins b) n c (runE n nt ins (skp n nt ins c)) := by
  intro m
  induction m using Nat.strongRecOn with
  | _ m ih =>
    intro b c hm hb hc hbc hcn
    by_cases hlt : b < n
    · have h2 := hn b hlt
      cases hi : ins b with
      | true =>
        have hgt := runE_gt hlt h2 hi
        have hrn : runE n nt ins b ≤ n := runE_bd' hN _ b rfl (by omega)
        have hBr : B (runE n nt ins b) := runE_bd2 hB _ b rfl hb
        rw [wrds_in hlt h2 hi]
        by_cases hcr : c < runE n nt ins b
        · obtain ⟨c1, c2⟩ := run_mid hn hB hg _ b c rfl hb hc hbc hcr
          rw [skp_stop c1, c2]
          refine .inr ⟨⟨_, List.mem_cons_self, rfl⟩, hcr, fun x hx _ => ?_⟩
          rcases List.mem_cons.1 hx with rfl | hx
          · exact Nat.le_refl _
          · have := (wrds_ends hn hN _ _ rfl hrn).1 x hx; omega
        · rcases ih (n - runE n nt ins b) (by omega) (runE n nt ins b) c rfl hBr hc (by omega) hcn with ⟨h, k⟩ | ⟨⟨y, hy, hz⟩, h, k⟩
          · refine .inl ⟨h, fun x hx => ?_⟩
            rcases List.mem_cons.1 hx with rfl | hx
            · exact hcr
            · exact k x hx
          · refine .inr ⟨⟨y, List.mem_cons_of_mem _ hy, hz⟩, h, fun x hx hcx => ?_⟩
            rcases List.mem_cons.1 hx with rfl | hx
            · exact absurd hcx hcr
            · exact k x hx hcx
      | false =>
        rw [wrds_out hlt h2 hi]
        by_cases e : b = c
        · subst e
          have hE := (wrds_ends (ins := ins) hn hN _ (nt b) rfl (hN b hlt)).1
          rw [skp_step hlt h2 hi]
          rcases ih (n - nt b) (by omega) (nt b) (nt b) rfl (hB b hlt hb) (hB b hlt hb) (Nat.le_refl _) (hN b hlt) with ⟨h, k⟩ | ⟨hz, h, k⟩
          · exact .inl ⟨h, fun x hx _ => k x hx (by have := hE x hx; omega)⟩
          · exact .inr ⟨hz, by omega, fun x hx _ => k x hx (by have := hE x hx; omega)⟩
        · exact ih (n - nt b) (by omega) (nt b) c rfl (hB b hlt hb) hc (hg b c hlt hb hc (by omega)) hcn
    · have : c = n := by omega
      subst this
      rw [skp_end (by omega), runE_end (by omega), wrds_end (by omega)]
      exact .inl ⟨rfl, fun x hx => by simp at hx⟩
/-- where words begin -/
theorem begs_is (hn : ∀ b, b < n → b < nt b) (hN : ∀ b, b < n → nt b ≤ n) (hB : ∀ b, b < n → B b → B (nt b)) (hg : ∀ b c, b < n → B b → B c → b < c → nt b ≤ c)
    (hp : ∀ c, B c → 0 < c → B (pv c) ∧ pv c < c ∧ nt (pv c) = c) (hBn : ∀ b, B b → b ≤ n) : ∀ m b, n - b = m → B b → ∀ z, (∃ x ∈ wrds n nt ins b, x.1 = z) ↔ (B z ∧ b ≤ z ∧ z < n ∧ ins z = true ∧ (z = b ∨ ins (pv z) = false)) := by
  have hpn : ∀ b, b < n → B b → pv (nt b) = b := by
    intro b hlt hb
    have h2 := hn b hlt
    obtain ⟨p1, p2, p3⟩ := hp (nt b) (hB b hlt hb) (by omega)
    rcases Nat.lt_trichotomy (pv (nt b)) b with h | h | h
    · have := hg _ b (by omega) p1 hb h; omega
    · exact h
    · have := hg b _ hlt hb p1 h; omega
  intro m
  induction m using Nat.strongRecOn with
  | _ m ih =>
    intro b hm hb z
    by_cases hlt : b < n
    · have h2 := hn b hlt
      cases hi : ins b with
      | true =>
        have hgt := runE_gt hlt h2 hi
        have hBr : B (runE n nt ins b) := runE_bd2 hB _ b rfl hb
        have hout := run_out (ins := ins) hn _ b rfl
        have hI := ih (n - runE n nt ins b) (by omega) (runE n nt ins b) rfl hBr z
        rw [wrds_in hlt h2 hi]
        constructor
        · rintro ⟨x, hx, rfl⟩
          rcases List.mem_cons.1 hx with rfl | hx
          · exact ⟨hb, Nat.le_refl _, hlt, hi, .inl rfl⟩
          · obtain ⟨q1, q2, q3, q4, q5⟩ := hI.1 ⟨x, hx, rfl⟩
            refine ⟨q1, by omega, q3, q4, .inr ?_⟩
            rcases q5 with q5 | q5
            · rcases hout with h | h
              · rw [q5, h] at q4; cases q4
              · omega
            · exact q5
        · rintro ⟨q1, q2, q3, q4, q5⟩
          by_cases e : z = b
          · exact ⟨_, List.mem_cons_self, e.symm⟩
          · have q5' := q5.resolve_left e
            have hz : ¬ z < runE n nt ins b := by
              intro hz
              obtain ⟨p1, p2, p3⟩ := hp z q1 (by omega)
              have hbp : b ≤ pv z := by
                by_cases h : b ≤ pv z
                · exact h
                · have := hg (pv z) b (by omega) p1 hb (by omega); omega
              have := (run_mid (ins := ins) hn hB hg _ b (pv z) rfl hb p1 hbp (by omega)).1
              rw [this] at q5'; cases q5'
            obtain ⟨x, hx, hxz⟩ := hI.2 ⟨q1, by omega, q3, q4, .inr q5'⟩
            exact ⟨x, List.mem_cons_of_mem _ hx, hxz⟩
      | false =>
        rw [wrds_out hlt h2 hi, ih (n - nt b) (by omega) (nt b) rfl (hB b hlt hb) z]
        constructor
        · rintro ⟨q1, q2, q3, q4, q5⟩
          refine ⟨q1, by omega, q3, q4, .inr ?_⟩
          rcases q5 with q5 | q5
          · rw [q5, hpn b hlt hb, hi]
          · exact q5
        · rintro ⟨q1, q2, q3, q4, q5⟩
          have e : z ≠ b := fun e => by rw [e, hi] at q4; cases q4
          exact ⟨q1, hg b z hlt hb q1 (by omega), q3, q4, .inr (q5.resolve_left e)⟩
    · rw [wrds_end hlt]
      constructor
      · rintro ⟨x, hx, _⟩; simp at hx
      · rintro ⟨q1, q2, q3, _⟩; omega
theorem bck_last (hn : ∀ b, b < n → b < nt b) (hN : ∀ b, b < n → nt b ≤ n) (hB : ∀ b, b < n → B b → B (nt b)) (hg : ∀ b c, b < n → B b → B c → b < c → nt b ≤ c)
    (hp : ∀ c, B c → 0 < c → B (pv c) ∧ pv c < c ∧ nt (pv c) = c) (hBn : ∀ b, B b → b ≤ n) (hB0 : B 0) (c : Nat) (hc : B c) : IsLast (wrds n nt ins 0) c (bck pv ins c false) := by
  have hbeg := begs_is (ins := ins) hn hN hB hg hp hBn _ 0 rfl hB0
  generalize wrds n nt ins 0 = W at hbeg
  have skip : ∀ p z, B p → p < n → (¬ ∃ x ∈ W, x.1 = p) → IsLast W p z → IsLast W (nt p) z := by
    intro p z hp1 hpn hno h
    have key : ∀ x ∈ W, x.1 < nt p → x.1 < p := by
      intro x hx hxn
      have hBx := ((hbeg x.1).1 ⟨x, hx, rfl⟩).1
      rcases Nat.lt_trichotomy x.1 p with h | h | h
      · exact h
      · exact absurd ⟨x, hx, h⟩ hno
      · have := hg p x.1 hpn hp1 hBx h; omega
    have := hn p hpn
    rcases h with ⟨h, k⟩ | ⟨hz, h, k⟩
    · exact .inl ⟨h, fun x hx hl => k x hx (key x hx hl)⟩
    · exact .inr ⟨hz, by omega, fun x hx hl => k x hx (key x hx hl)⟩
  have here : ∀ p, B p → p < n → (∃ x ∈ W, x.1 = p) → IsLast W (nt p) p := by
    intro p hp1 hpn hz
    refine .inr ⟨hz, hn p hpn, fun x hx hl => ?_⟩
    have hBx := ((hbeg x.1).1 ⟨x, hx, rfl⟩).1
    by_cases h : p < x.1
    · have := hg p x.1 hpn hp1 hBx h; omega
    · omega
  have C : ∀ p, B p → p < n → ins p = true → IsLast W (nt p) (bck pv ins p true) := by
    intro p
    induction p using Nat.strongRecOn with
    | _ p ih =>
      intro hp1 hpn hi
      by_cases h0 : p = 0
      · subst h0
        rw [bck_zero]
        exact here 0 hp1 hpn ((hbeg 0).2 ⟨hp1, Nat.le_refl _, hpn, hi, .inl rfl⟩)
      · obtain ⟨q1, q2, q3⟩ := hp p hp1 (by omega)
        cases hq : ins (pv p) with
        | true =>
          rw [bck_in (by omega) q2 hq]
          have := ih (pv p) q2 q1 (by omega) hq
          rw [q3] at this
          refine skip p _ hp1 hpn (fun he => ?_) this
          obtain ⟨_, _, _, _, h5⟩ := (hbeg p).1 he
          rcases h5 with h5 | h5
          · exact h0 h5
          · rw [hq] at h5; cases h5
        | false =>
          rw [bck_stop (by omega) q2 hq]
          exact here p hp1 hpn ((hbeg p).2 ⟨hp1, Nat.zero_le _, hpn, hi, .inr hq⟩)
  induction c using Nat.strongRecOn with
  | _ c ih =>
    by_cases h0 : c = 0
    · subst h0
      rw [bck_zero]
      exact .inl ⟨rfl, fun x hx => by omega⟩
    · obtain ⟨q1, q2, q3⟩ := hp c hc (by omega)
      have hpn : pv c < n := by have := hBn c hc; omega
      cases hq : ins (pv c) with
      | true =>
        rw [bck_in (by omega) q2 hq]
        have := C (pv c) q1 hpn hq
        rwa [q3] at this
      | false =>
        rw [bck_out (by omega) q2 hq]
        have := skip (pv c) _ q1 hpn (fun he => by have := ((hbeg _).1 he).2.2.2.1; rw [hq] at this; cases this) (ih (pv c) q2 q1)
        rwa [q3] at this
end
/-- a place that is the end or where a cluster begins -/
def Bd (T : Tab) (s : List Int) (b : Nat) : Prop := b ≤ s.length ∧ (b = s.length ∨ begAt T s b = true)
theorem Bd.zero (T : Tab) (s : List Int) : Bd T s 0 := by
  refine ⟨Nat.zero_le _, ?_⟩
  cases s with
  | nil => exact .inl rfl
  | cons x l => exact .inr rfl
theorem Bd.isB {T : Tab} {s : List Int} {b : Nat} (h : Bd T s b) : isB T s b = true := by
  rcases h.2 with h | h
  · subst h; exact isB_len T s
  · rw [isB_lt (begAt_lt h)]; exact h
theorem Bd.of {T : Tab} {s : List Int} {b : Nat} (hb : b ≤ s.length) (h : Go.Proofs.Ytpgeccgfkcjcoaa.isB T s b = true) : Bd T s b := by
  refine ⟨hb, ?_⟩
  by_cases e : b = s.length
  · exact .inl e
  · rw [isB_lt (by omega)] at h; exact .inr h
theorem Bd.isI {T : Tab} {s : List Int} {b : Nat} (h : Bd T s b) : isI T s (b : Int) = true := by
  unfold Go.Proofs.Ytpgeccgfkcjcoaa.isI
  rw [decide_eq_true (by omega), decide_eq_true (by have := h.1; omega), Bool.true_and, Bool.true_and]
  exact h.isB
theorem bd_next {T : Tab} (H : T.Ok) {s : List Int} (b : Nat) (hl : b < s.length) (hb : Bd T s b) : Bd T s (nxt T s b) :=
  ⟨(nx_spec H (hb.2.resolve_left (by omega))).2.1, (nx_spec H (hb.2.resolve_left (by omega))).2.2.2⟩
theorem bd_gap {T : Tab} (H : T.Ok) {s : List Int} (b c : Nat) (hl : b < s.length) (hb : Bd T s b) (hc : Bd T s c) (h : b < c) : nxt T s b ≤ c := by
  obtain ⟨h1, h2, h3, h4⟩ := nx_spec H (hb.2.resolve_left (by omega))
  by_cases e : c < nxt T s b
  · have := h3 c h e
    rcases hc.2 with hc | hc
    · unfold nxt at e; omega
    · rw [this] at hc; cases hc
  · omega
theorem bd_prev {T : Tab} (H : T.Ok) {s : List Int} (c : Nat) (hc : Bd T s c) (h0 : 0 < c) : Bd T s (prv T s c) ∧ prv T s c < c ∧ nxt T s (prv T s c) = c := by
  have hlt := prv_lt T h0 hc.1
  have hle := hc.1
  have hv : prv T s c = floorB T s (c - 1) := by
    unfold prv prevI
    rw [show max (min (c : Int) ((s.length : Int) + 1)) 0 - 1 = ((c - 1 : Nat) : Int) by omega]
    by_cases e : c - 1 = 0
    · rw [floorI_nonpos (by omega), e]; rfl
    · rw [floorI_mid (by omega) (by omega)]
  have hp : Bd T s (prv T s c) := by
    rcases floorB_is T s (c - 1) with h | h
    · rw [hv, h]; exact Bd.zero T s
    · rw [hv]; exact Bd.of (by omega) h
  refine ⟨hp, hlt, ?_⟩
  have h1 := bd_gap H _ c (by omega) hp hc hlt
  have h2 := nxt_gt T (s := s) (b := prv T s c) (by omega)
  have h3 := bd_next H _ (by omega) hp
  by_cases e : nxt T s (prv T s c) = c
  · exact e
  · have := floorB_none T s (c - 1) (nxt T s (prv T s c)) (by omega) (by omega)
    rw [h3.isB] at this; cases this
theorem fwdI_first {R : List Rw} (H : (tabOf R).Ok) {s : List Int} {a : Int} {c : Nat} (ha : ceilI (tabOf R) s a = c) (hc : Bd (tabOf R) s c) : IsFirst (wrdsR R s) s.length c (fwdI R s a) := by
  unfold fwdI wrdsR
  rw [ha]
  exact fwd_first (B := Bd (tabOf R) s) (fun b h => nxt_gt _ h) (fun b h => nxt_le _ (by omega)) (bd_next H) (bd_gap H) _ 0 c rfl (Bd.zero _ _) hc (Nat.zero_le _) hc.1
theorem bckI_last {R : List Rw} (H : (tabOf R).Ok) {s : List Int} {a : Int} {c : Nat} (ha : floorI (tabOf R) s a = c) (hc : Bd (tabOf R) s c) : IsLast (wrdsR R s) c (bckI R s a) := by
  unfold bckI wrdsR
  rw [ha]
  exact bck_last (B := Bd (tabOf R) s) (fun b h => nxt_gt _ h) (fun b h => nxt_le _ (by omega)) (bd_next H) (bd_gap H) (bd_prev H) (fun b h => h.1) (Bd.zero _ _) c hc
theorem wrdsR_ends (R : List Rw) (s : List Int) : (∀ x ∈ wrdsR R s, x.1 < x.2 ∧ x.2 ≤ s.length) ∧ (wrdsR R s).Pairwise (fun x y => x.2 ≤ y.1) := by
  obtain ⟨h1, h2⟩ := wrds_ends (n := s.length) (nt := nxt (tabOf R) s) (ins := insR R s) (fun b h => nxt_gt _ h) (fun b h => nxt_le _ (by omega)) _ 0 rfl (Nat.zero_le _)
  exact ⟨fun x hx => (h1 x hx).2, h2⟩
theorem wrds_bd {n : Nat} {nt : Nat → Nat} {ins : Nat → Bool} {B : Nat → Prop} (hn : ∀ b, b < n → b < nt b) (hB : ∀ b, b < n → B b → B (nt b)) : ∀ m b, n - b = m → B b → ∀ x ∈ wrds n nt ins b, B x.1 ∧ B x.2 := by
  intro m
  induction m using Nat.strongRecOn with
  | _ m ih =>
    intro b hm hb x hx
    by_cases hlt : b < n
    · have h2 := hn b hlt
      cases hi : ins b with
      | true =>
        have hgt := runE_gt hlt h2 hi
        have hBr : B (runE n nt ins b) := runE_bd2 hB _ b rfl hb
        rw [wrds_in hlt h2 hi] at hx
        rcases List.mem_cons.1 hx with rfl | hx
        · exact ⟨hb, hBr⟩
        · exact ih (n - runE n nt ins b) (by omega) _ rfl hBr x hx
      | false =>
        rw [wrds_out hlt h2 hi] at hx
        exact ih (n - nt b) (by omega) _ rfl (hB b hlt hb) x hx
    · rw [wrds_end hlt] at hx; simp at hx
theorem wrdsR_bd {R : List Rw} (H : (tabOf R).Ok) {s : List Int} : ∀ x ∈ wrdsR R s, Bd (tabOf R) s x.1 ∧ Bd (tabOf R) s x.2 :=
  wrds_bd (B := Bd (tabOf R) s) (fun b h => nxt_gt _ h) (bd_next H) _ 0 rfl (Bd.zero _ _)
end Go.Proofs.Ytpgeccgfkcjcoaa

/- The document's Forward and Back; WordWalks: its walk. -/
namespace Go.Proofs.Ytpgeccgfkcjcoaa
open Go.RowKit

theorem ceilI_bd {T : Tab} {s : List Int} {b : Nat} (h : Bd T s b) : ceilI T s (b : Int) = b := by
  rcases h.2 with e | e
  · subst e
    by_cases h0 : s.length = 0
    · rw [h0]; exact ceilI_nonpos (Int.le_refl _)
    · exact ceilI_big (by omega) (Int.le_refl _)
  · exact ceilI_beg e
theorem floorI_bd {T : Tab} {s : List Int} {b : Nat} (h : Bd T s b) : floorI T s (b : Int) = b := by
  by_cases h0 : b = 0
  · subst h0; exact floorI_nonpos (Int.le_refl _)
  · by_cases e : b = s.length
    · subst e; exact floorI_big (by omega) (Int.le_refl _)
    · have := h.1
      rw [floorI_mid (by omega) (by omega)]
      exact floorB_eq (Nat.le_refl _) (.inr h.isB) (fun j h1 h2 => by omega)
section
variable {L : List (Nat × Nat)} {n : Nat}
theorem pairs_order (h2 : L.Pairwise (fun x y => x.2 ≤ y.1)) {i j : Nat} {x y : Nat × Nat} (hx : L[i]? = some x) (hy : L[j]? = some y) (h : i < j) : x.2 ≤ y.1 := by
  rw [List.pairwise_iff_getElem] at h2
  obtain ⟨a1, a2⟩ := List.getElem?_eq_some_iff.1 hx
  obtain ⟨b1, b2⟩ := List.getElem?_eq_some_iff.1 hy
  have := h2 i j a1 b1 h
  rw [a2, b2] at this
  exact this
theorem first_at (h1 : ∀ x ∈ L, x.1 < x.2 ∧ x.2 ≤ n) (h2 : L.Pairwise (fun x y => x.2 ≤ y.1)) {c z k : Nat} {x : Nat × Nat} (hz : IsFirst L n c z) (hx : L[k]? = some x) (hc : c < x.2) (hno : ∀ j y, L[j]? = some y → j < k → ¬ c < y.2) : z = x.2 := by
  rcases hz with ⟨_, h⟩ | ⟨⟨y, hy, rfl⟩, h3, h4⟩
  · exact absurd hc (h x (List.mem_of_getElem? hx))
  · obtain ⟨j, hj⟩ := List.mem_iff_getElem?.1 hy
    have h5 := h4 x (List.mem_of_getElem? hx) hc
    rcases Nat.lt_trichotomy j k with h | h | h
    · exact absurd h3 (hno j y hj h)
    · subst h; rw [hj] at hx; injection hx with hx; rw [hx]
    · have := pairs_order h2 hx hj h
      have := (h1 y hy).1
      omega
theorem first_none {c z : Nat} (hz : IsFirst L n c z) (hno : ∀ x ∈ L, ¬ c < x.2) : z = n := by
  rcases hz with ⟨h, _⟩ | ⟨⟨y, hy, rfl⟩, h3, h4⟩
  · exact h
  · exact absurd h3 (hno y hy)
theorem last_at (h1 : ∀ x ∈ L, x.1 < x.2 ∧ x.2 ≤ n) (h2 : L.Pairwise (fun x y => x.2 ≤ y.1)) {c z k : Nat} {x : Nat × Nat} (hz : IsLast L c z) (hx : L[k]? = some x) (hc : x.1 < c) (hno : ∀ j y, L[j]? = some y → k < j → ¬ y.1 < c) : z = x.1 := by
  rcases hz with ⟨_, h⟩ | ⟨⟨y, hy, rfl⟩, h3, h4⟩
  · exact absurd hc (h x (List.mem_of_getElem? hx))
  · obtain ⟨j, hj⟩ := List.mem_iff_getElem?.1 hy
    have h5 := h4 x (List.mem_of_getElem? hx) hc
    rcases Nat.lt_trichotomy j k with h | h | h
    · have := pairs_order h2 hj hx h
      have := (h1 y hy).1
      omega
    · subst h; rw [hj] at hx; injection hx with hx; rw [hx]
    · exact absurd h3 (hno j y hj h)
theorem last_none {c z : Nat} (hz : IsLast L c z) (hno : ∀ x ∈ L, ¬ x.1 < c) : z = 0 := by
  rcases hz with ⟨h, _⟩ | ⟨⟨y, hy, rfl⟩, h3, h4⟩
  · exact h
  · exact absurd h3 (hno y hy)
end
section
variable {R : List Rw} {s : List Int} {w : World} {v sv : Value} {tp : Nat}
set_option maxRecDepth 100000 in
set_option maxHeartbeats 8000000 in
theorem rfwd_any (u : Int) (c z : Nat) (hu : ∀ x ∈ wrdsR R s, ((x.2 : Nat) : Int) > u ↔ c < x.2) (hz : IsFirst (wrdsR R s) s.length c z) (H : (tabOf R).Ok) (hR : RowsIn w v R) (hs : RunesIn w sv s) (ok : RunesOk s) (hl : s.length ≤ 1000000) :
    Calls Try.prog 28 #[v, sv, .int .i64 u] w fun e w' => e = .returned (.int .i64 ((z : Nat) : Int)) ∧ Below w.heap.size w w' := by
  have HWd := Lib.hid (rwords_any H hR hs ok hl)
  obtain ⟨sl, cap, rfl, hcap, hmax, _⟩ := runes_cells hs
  unfold maxLen at hmax
  obtain ⟨g1, g2⟩ := wrdsR_ends R s
  have HU := Lib.hid hu
  have HZ := Lib.hid hz
  have HG1 := Lib.hid g1
  have HG2 := Lib.hid g2
  clear hu hz g1 g2 H hR hs ok
  generalize wrdsR R s = L at HWd HU HZ HG1 HG2
  go_enter Try.func28, Try.ntmps28
  go_wp2_with fail
  refine HWd.out.mono ?_
  rintro e w1 ⟨u1, rfl, hB1, hI⟩
  have HB1 := Lib.hid hB1
  have HI := Lib.hid hI
  obtain ⟨a1, c1, rfl, j1, j2⟩ := pairs_shape hI
  unfold maxLen at j2
  clear hB1 hI HWd
  go_wp2_with fail
  go_loopw [8] (fun iv wr => ∃ k : Nat, k ≤ L.length ∧ iv = .int .i64 ((k : Nat) : Int) ∧ Below w1.heap.size w1 wr ∧ ∀ j y, L[j]? = some y → j < k → ¬ c < y.2) (fun iv _ => L.length - (intOf iv).toNat)
  case atStart => exact ⟨0, Nat.zero_le _, rfl, .refl _ _, fun j y _ h => by omega⟩
  case round =>
    obtain ⟨k, hk, rfl, hB, hN⟩ := hrel
    have HB := Lib.hid hB
    have HN := Lib.hid hN
    have HIr := Lib.hid (HI.out.below hB)
    clear hB hN
    by_cases hlt : k < L.length
    · obtain ⟨x, hx⟩ : ∃ x, L[k]? = some x := ⟨L[k], List.getElem?_eq_getElem hlt⟩
      obtain ⟨b, off, cap', hv, _, _, _, _, d0, d1⟩ := pairs_cell HIr.out hx
      cases hv
      have q1 : (0 : Int) ≤ (k : Int) := by omega
      have q2 : (k : Int) < (L.length : Int) := by omega
      have hux := HU.out x (List.mem_of_getElem? hx)
      by_cases hc : c < x.2
      · have q3 : ((x.2 : Nat) : Int) > u := hux.2 hc
        have HF := Lib.hid (first_at HG1.out HG2.out HZ.out hx hc HN.out)
        clear hx hux HN
        go_wp2_with fail
        go_ret
        exact ⟨ret_i (by rw [HF.out]), below_trans' HB1.out HB.out⟩
      · have q3 : decide (((x.2 : Nat) : Int) > u) = false := by rw [decide_eq_false_iff_not]; exact fun h => hc (hux.1 h)
        have HN2 := Lib.hid (show ∀ j y, L[j]? = some y → j < k + 1 → ¬ c < y.2 from fun j y hy hj => by
          by_cases e : j = k
          · subst e; rw [hx] at hy; injection hy with hy; rw [← hy]; exact hc
          · exact HN.out j y hy (by omega))
        clear hx hux HN
        go_wp2_with fail
        go_roundw
        case rel => exact ⟨k + 1, by omega, by go_num, HB.out, HN2.out⟩
        case measure => simp [intOf] <;> omega
    · have hke : k = L.length := by omega
      have HF := Lib.hid (first_none HZ.out (fun x hx => by
        obtain ⟨j, hj⟩ := List.mem_iff_getElem?.1 hx
        exact HN.out j x hj (by have := (List.getElem?_eq_some_iff.1 hj).1; omega)))
      clear HN
      subst hke
      clear hlt hk
      go_wp2_with fail
      go_ret
      exact ⟨ret_i (by rw [HF.out]), below_trans' HB1.out HB.out⟩
set_option maxRecDepth 100000 in
set_option maxHeartbeats 8000000 in
theorem rback_any (u : Int) (c z : Nat) (hu : ∀ x ∈ wrdsR R s, ((x.1 : Nat) : Int) < u ↔ x.1 < c) (hz : IsLast (wrdsR R s) c z) (H : (tabOf R).Ok) (hR : RowsIn w v R) (hs : RunesIn w sv s) (ok : RunesOk s) (hl : s.length ≤ 1000000) :
    Calls Try.prog 30 #[v, sv, .int .i64 u] w fun e w' => e = .returned (.int .i64 ((z : Nat) : Int)) ∧ Below w.heap.size w w' := by
  have HWd := Lib.hid (rwords_any H hR hs ok hl)
  obtain ⟨sl, cap, rfl, hcap, hmax, _⟩ := runes_cells hs
  unfold maxLen at hmax
  obtain ⟨g1, g2⟩ := wrdsR_ends R s
  have HU := Lib.hid hu
  have HZ := Lib.hid hz
  have HG1 := Lib.hid g1
  have HG2 := Lib.hid g2
  clear hu hz g1 g2 H hR hs ok
  generalize wrdsR R s = L at HWd HU HZ HG1 HG2
  go_enter Try.func30, Try.ntmps30
  go_wp2_with fail
  refine HWd.out.mono ?_
  rintro e w1 ⟨u1, rfl, hB1, hI⟩
  have HB1 := Lib.hid hB1
  have HI := Lib.hid hI
  obtain ⟨a1, c1, rfl, j1, j2⟩ := pairs_shape hI
  unfold maxLen at j2
  have s0 := IntWalk.i64_in ((L.length : Int) - 1) (by omega)
  clear hB1 hI HWd
  go_wp2_with fail
  go_loopw [8] (fun iv wr => ∃ (j : Nat) (m : Int), j ≤ L.length ∧ iv = .int .i64 m ∧ m = (j : Int) - 1 ∧ Below w1.heap.size w1 wr ∧ ∀ i y, L[i]? = some y → j ≤ i → ¬ y.1 < c) (fun iv _ => (intOf iv + 1).toNat)
  case atStart => exact ⟨L.length, _, Nat.le_refl _, rfl, rfl, .refl _ _, fun i y hy h => by have := (List.getElem?_eq_some_iff.1 hy).1; omega⟩
  case round =>
    obtain ⟨j, m, hj, rfl, hm, hB, hN⟩ := hrel
    have HB := Lib.hid hB
    have HN := Lib.hid hN
    have HIr := Lib.hid (HI.out.below hB)
    clear hB hN
    rcases j with _ | k
    · have hm' : m = -1 := by omega
      subst hm'
      have HF := Lib.hid (last_none HZ.out (fun x hx => by
        obtain ⟨j, hj⟩ := List.mem_iff_getElem?.1 hx
        exact HN.out j x hj (Nat.zero_le _)))
      clear HN hm
      go_wp2_with fail
      go_ret
      exact ⟨ret_i (by rw [HF.out]; rfl), below_trans' HB1.out HB.out⟩
    · have hm' : m = (k : Int) := by omega
      subst hm'
      clear hm
      obtain ⟨x, hx⟩ : ∃ x, L[k]? = some x := ⟨L[k], List.getElem?_eq_getElem (by omega)⟩
      obtain ⟨b, off, cap', hv, _, _, _, _, d0, d1⟩ := pairs_cell HIr.out hx
      cases hv
      have q0 : (k : Int) ≥ 0 := by omega
      have q1 : (0 : Int) ≤ (k : Int) := by omega
      have q2 : (k : Int) < (L.length : Int) := by omega
      have r2 := IntWalk.i64_in ((k : Int) - 1) (by omega)
      have hux := HU.out x (List.mem_of_getElem? hx)
      by_cases hc : x.1 < c
      · have q3 : ((x.1 : Nat) : Int) < u := hux.2 hc
        have HF := Lib.hid (last_at HG1.out HG2.out HZ.out hx hc (fun i y hy hi => HN.out i y hy hi))
        clear hx hux HN
        go_wp2_with fail
        go_ret
        exact ⟨ret_i (by rw [HF.out]), below_trans' HB1.out HB.out⟩
      · have q3 : decide (((x.1 : Nat) : Int) < u) = false := by rw [decide_eq_false_iff_not]; exact fun h => hc (hux.1 h)
        have HN2 := Lib.hid (show ∀ i y, L[i]? = some y → k ≤ i → ¬ y.1 < c from fun i y hy hi => by
          by_cases e : i = k
          · subst e; rw [hx] at hy; injection hy with hy; rw [← hy]; exact hc
          · exact HN.out i y hy (by omega))
        clear hx hux HN
        go_wp2_with fail
        go_roundw
        case rel => exact ⟨k, _, by omega, rfl, rfl, HB.out, HN2.out⟩
        case measure => simp [intOf] <;> omega
end
end Go.Proofs.Ytpgeccgfkcjcoaa

/- WordWalks: its walk. -/
namespace Go.Proofs.Ytpgeccgfkcjcoaa
open Go.RowKit

section
variable {R : List Rw} {s : List Int} {L : List (Nat × Nat)}
theorem walk_next {n i p z : Nat} {x : Nat × Nat} (h1 : ∀ x ∈ L, x.1 < x.2 ∧ x.2 ≤ n) (h2 : L.Pairwise (fun x y => x.2 ≤ y.1)) (hP : ∀ j y, L[j]? = some y → (p < y.2 ↔ i ≤ j)) (hz : IsFirst L n p z) (hx : L[i]? = some x) : z = x.2 ∧ ∀ j y, L[j]? = some y → (x.2 < y.2 ↔ i + 1 ≤ j) := by
  refine ⟨first_at h1 h2 hz hx ((hP i x hx).2 (Nat.le_refl _)) (fun j y hy hj h => by have := (hP j y hy).1 h; omega), fun j y hy => ?_⟩
  have hy1 := (h1 y (List.mem_of_getElem? hy)).1
  have hx1 := (h1 x (List.mem_of_getElem? hx)).1
  rcases Nat.lt_trichotomy j i with h | h | h
  · have := pairs_order h2 hy hx h
    exact ⟨fun _ => by omega, fun _ => by omega⟩
  · subst h
    rw [hx] at hy; injection hy with hy; subst hy
    exact ⟨fun _ => by omega, fun _ => by omega⟩
  · have := pairs_order h2 hx hy h
    exact ⟨fun _ => by omega, fun _ => by omega⟩
theorem walk_prev {n j p z : Nat} {x : Nat × Nat} (h1 : ∀ x ∈ L, x.1 < x.2 ∧ x.2 ≤ n) (h2 : L.Pairwise (fun x y => x.2 ≤ y.1)) (hP : ∀ k y, L[k]? = some y → (y.1 < p ↔ k < j + 1)) (hz : IsLast L p z) (hx : L[j]? = some x) : z = x.1 ∧ ∀ k y, L[k]? = some y → (y.1 < x.1 ↔ k < j) := by
  refine ⟨last_at h1 h2 hz hx ((hP j x hx).2 (by omega)) (fun k y hy hk h => by have := (hP k y hy).1 h; omega), fun k y hy => ?_⟩
  have hy1 := (h1 y (List.mem_of_getElem? hy)).1
  have hx1 := (h1 x (List.mem_of_getElem? hx)).1
  rcases Nat.lt_trichotomy k j with h | h | h
  · have := pairs_order h2 hy hx h
    exact ⟨fun _ => by omega, fun _ => by omega⟩
  · subst h
    rw [hx] at hy; injection hy with hy; subst hy
    exact ⟨fun _ => by omega, fun _ => by omega⟩
  · have := pairs_order h2 hx hy h
    exact ⟨fun _ => by omega, fun _ => by omega⟩
end
set_option maxRecDepth 100000 in
set_option maxHeartbeats 8000000 in
theorem wordWalks_any (v0 : Value) (l0 : List Int) (w : World) (hl : RunesIn w v0 l0) (hok : RunesOk l0) :
    Calls Try.prog 7 #[v0] w fun e w' => e = .returned (.bool true) ∧ Below w.heap.size w w' := by
  obtain ⟨R, HFc, hrows⟩ := apiRows_any
  have HF := Lib.hid HFc
  have HRows := Lib.hid hrows
  have HTk := Lib.hid HFc.seg.tab
  have HFew := Lib.hid (few_any hl 100)
  clear HFc hrows hl
  obtain ⟨l, hll⟩ : ∃ l, l = l0.take 100 := ⟨_, rfl⟩
  rw [← hll] at HFew
  have HOk := Lib.hid (show RunesOk l by rw [hll]; exact hok.take 100)
  have hlen : l.length ≤ 1000000 := by rw [hll, List.length_take]; omega
  clear hll hok
  have HFst := Lib.hid (fun p (hp : Bd (tabOf R) l p) => fwdI_first (a := (p : Int)) HTk.out (ceilI_bd hp) hp)
  have HLst := Lib.hid (fun p (hp : Bd (tabOf R) l p) => bckI_last (a := (p : Int)) HTk.out (floorI_bd hp) hp)
  have HE1 := Lib.hid (wrdsR_ends R l).1
  have HE2 := Lib.hid (wrdsR_ends R l).2
  have HBd := Lib.hid (wrdsR_bd (s := l) HTk.out)
  go_enter Try.func7, Try.ntmps7
  go_wp2_with fail
  refine HFew.out.mono ?_
  rintro e w' ⟨⟨sv, rfl, hS⟩, rfl⟩
  have HS := Lib.hid hS
  clear hS HFew
  go_wp2_with fail
  refine (HRows.out w).mono ?_
  rintro e w1 ⟨v, rfl, hB1, hR1⟩
  have HB1 := Lib.hid hB1
  have HR1 := Lib.hid hR1
  have HS1 := Lib.hid (HS.out.below hB1)
  clear hB1 hR1 HS
  go_wp2_with fail
  refine (build_tb v R w1 HR1.out HF.out.ok).mono ?_
  rintro e w2 ⟨tp, rfl, hB2, hT⟩
  have HT2 := Lib.hid hT
  have HR2 := Lib.hid (HR1.out.below hB2)
  have HS2 := Lib.hid (HS1.out.below hB2)
  have HB2 := Lib.hid (below_trans' HB1.out hB2)
  clear hB2 hT HB1 HR1 HS1
  go_wp2_with fail
  refine (rwords_any HTk.out HR2.out HS2.out HOk.out hlen).mono ?_
  rintro e w3 ⟨u, rfl, hB3, hI⟩
  have HT3 := Lib.hid (HT2.out.below hB3)
  have HR3 := Lib.hid (HR2.out.below hB3)
  have HS3 := Lib.hid (HS2.out.below hB3)
  have HB3 := Lib.hid (below_trans' HB2.out hB3)
  have HI3 := Lib.hid hI
  clear hB3 hI HR2 HS2 HB2 HT2
  generalize wrdsR R l = L at HI3 HFst HLst HE1 HE2 HBd
  obtain ⟨a1, c1, rfl, j1, j2⟩ := pairs_shape HI3.out
  unfold maxLen at j2
  obtain ⟨sl, cap, rfl, hcap, hmax, _⟩ := runes_cells HS3.out
  unfold maxLen at hmax
  have s0 := IntWalk.i64_in ((L.length : Int) - 1) (by omega)
  go_wp2_with fail
  go_loopw [6, 7] (fun av iv wr => ∃ i p : Nat, i ≤ L.length ∧ iv = .int .i64 ((i : Nat) : Int) ∧ av = .int .i64 ((p : Nat) : Int) ∧ Bd (tabOf R) l p ∧ (∀ j y, L[j]? = some y → (p < y.2 ↔ i ≤ j)) ∧ Below w3.heap.size w3 wr) (fun _ iv _ => L.length - (intOf iv).toNat)
  case atStart => exact ⟨0, 0, Nat.zero_le _, rfl, rfl, Bd.zero _ _, fun j y hy => ⟨fun _ => Nat.zero_le _, fun _ => by have := HE1.out y (List.mem_of_getElem? hy); omega⟩, .refl _ _⟩
  case round =>
    obtain ⟨i, p, hi, rfl, rfl, hbd, hP, hB⟩ := hrel
    have HTr := Lib.hid (HT3.out.below hB)
    have HSr := Lib.hid (HS3.out.below hB)
    have HRr := Lib.hid (HR3.out.below hB)
    have HIr := Lib.hid (HI3.out.below hB)
    have HBw := Lib.hid hB
    have HP := Lib.hid hP
    have HZ := Lib.hid (HFst.out p hbd)
    clear hB hP
    by_cases hlt : i < L.length
    · obtain ⟨x, hx⟩ : ∃ x, L[i]? = some x := ⟨L[i], List.getElem?_eq_getElem hlt⟩
      obtain ⟨hz, hP2⟩ := walk_next HE1.out HE2.out HP.out HZ.out hx
      have HN := Lib.hid hz
      have HP2 := Lib.hid hP2
      have hb2 := (HBd.out x (List.mem_of_getElem? hx)).2
      have HIs := Lib.hid (fun w5 (hb5 : Below w3.heap.size w3 w5) => isI_any ((x.2 : Nat) : Int) (HR3.out.below hb5) (HS3.out.below hb5) HOk.out hlen)
      rw [hb2.isI] at HIs
      have HX := Lib.hid hx
      have q1 : (0 : Int) ≤ (i : Int) := by omega
      have q2 : (i : Int) < (L.length : Int) := by omega
      clear hz hP2 hx HP HZ
      go_wp2_with fail
      refine (fwd_any (p : Int) HTk.out HTr.out HSr.out HOk.out hlen).mono ?_
      rintro e w4 ⟨rfl, hB4⟩
      rw [HN.out]
      obtain ⟨b, off, cap', hv, _, _, _, _, d0, d1⟩ := pairs_cell (HIr.out.below hB4) HX.out
      cases hv
      have HB4 := Lib.hid (HBw.out.trans (hB4.mono HBw.out.size))
      have HIy := Lib.hid (HIs.out w4 HB4.out)
      clear hB4 HIs HX
      go_wp2_with fail
      refine HIy.out.mono ?_
      rintro e w5 ⟨rfl, hB5⟩
      have HB5 := Lib.hid (HB4.out.trans (hB5.mono HB4.out.size))
      clear hB5 HIy
      go_wp2_with fail
      go_roundw
      case rel => exact ⟨i + 1, x.2, by omega, by go_num, rfl, hb2, HP2.out, HB5.out⟩
      case measure => simp [intOf] <;> omega
    · have hil : i = L.length := by omega
      have HN := Lib.hid (first_none HZ.out (fun x hx h => by
        obtain ⟨j, hj⟩ := List.mem_iff_getElem?.1 hx
        have := (HP.out j x hj).1 h
        have := (List.getElem?_eq_some_iff.1 hj).1; omega))
      subst hil
      clear hlt hi HP HZ
      go_wp2_with fail
      refine (fwd_any (p : Int) HTk.out HTr.out HSr.out HOk.out hlen).mono ?_
      rintro e w4 ⟨rfl, hB4⟩
      rw [HN.out]
      have HB4 := Lib.hid (HBw.out.trans (hB4.mono HBw.out.size))
      have HT4 := Lib.hid (HT3.out.below HB4.out)
      have HS4 := Lib.hid (HS3.out.below HB4.out)
      have HR4 := Lib.hid (HR3.out.below HB4.out)
      have HI4 := Lib.hid (HI3.out.below HB4.out)
      clear hB4 HTr HSr HRr HIr
      go_wp2_with fail
      go_loopw [6, 8] (fun av iv wr => ∃ (j p : Nat) (m : Int), j ≤ L.length ∧ iv = .int .i64 m ∧ m = (j : Int) - 1 ∧ av = .int .i64 ((p : Nat) : Int) ∧ Bd (tabOf R) l p ∧ (∀ k y, L[k]? = some y → (y.1 < p ↔ k < j)) ∧ Below w4.heap.size w4 wr) (fun _ iv _ => (intOf iv + 1).toNat)
      case atStart => exact ⟨L.length, l.length, _, Nat.le_refl _, rfl, rfl, rfl, ⟨Nat.le_refl _, .inl rfl⟩, fun k y hy => ⟨fun _ => (List.getElem?_eq_some_iff.1 hy).1, fun _ => by have := HE1.out y (List.mem_of_getElem? hy); omega⟩, .refl _ _⟩
      case round =>
        obtain ⟨j, p', m, hj, rfl, hm, rfl, hbd', hP, hB⟩ := hrel
        have HTr := Lib.hid (HT4.out.below hB)
        have HSr := Lib.hid (HS4.out.below hB)
        have HIr := Lib.hid (HI4.out.below hB)
        have HBv := Lib.hid hB
        have HP := Lib.hid hP
        have HZ := Lib.hid (HLst.out p' hbd')
        clear hB hP
        rcases j with _ | j
        · have hm' : m = -1 := by omega
          subst hm'
          have HN := Lib.hid (last_none HZ.out (fun x hx h => by
            obtain ⟨k, hk⟩ := List.mem_iff_getElem?.1 hx
            have := (HP.out k x hk).1 h; omega))
          clear hm HP HZ
          go_wp2_with fail
          refine (wback_any (p' : Int) HTk.out HTr.out HSr.out HOk.out hlen).mono ?_
          rintro e w5 ⟨rfl, hB5⟩
          rw [HN.out]
          have HB5 := Lib.hid (below_trans' HB3.out (HB4.out.trans ((HBv.out.trans (hB5.mono HBv.out.size)).mono HB4.out.size)))
          clear hB5
          go_wp2_with fail
          refine (fin12 HB5.out).mono ?_
          rintro e w9 ⟨rfl, hB9⟩
          go_wp2_with fail
          go_ret
          exact ⟨rfl, hB9⟩
        · have hm' : m = (j : Int) := by omega
          subst hm'
          clear hm
          obtain ⟨x, hx⟩ : ∃ x, L[j]? = some x := ⟨L[j], List.getElem?_eq_getElem (by omega)⟩
          obtain ⟨hz, hP2⟩ := walk_prev HE1.out HE2.out HP.out HZ.out hx
          have HN := Lib.hid hz
          have HP2 := Lib.hid hP2
          have hb2 := (HBd.out x (List.mem_of_getElem? hx)).1
          have HIs := Lib.hid (fun w5 (hb5 : Below w4.heap.size w4 w5) => isI_any ((x.1 : Nat) : Int) (HR4.out.below hb5) (HS4.out.below hb5) HOk.out hlen)
          rw [hb2.isI] at HIs
          have HX := Lib.hid hx
          have q0 : (j : Int) ≥ 0 := by omega
          have q1 : (0 : Int) ≤ (j : Int) := by omega
          have q2 : (j : Int) < (L.length : Int) := by omega
          have r2 := IntWalk.i64_in ((j : Int) - 1) (by omega)
          clear hz hP2 hx HP HZ
          go_wp2_with fail
          refine (wback_any (p' : Int) HTk.out HTr.out HSr.out HOk.out hlen).mono ?_
          rintro e w5 ⟨rfl, hB5⟩
          rw [HN.out]
          obtain ⟨b, off, cap', hv, _, _, _, _, d0, d1⟩ := pairs_cell (HIr.out.below hB5) HX.out
          cases hv
          have HB5 := Lib.hid (HBv.out.trans (hB5.mono HBv.out.size))
          have HIy := Lib.hid (HIs.out w5 HB5.out)
          clear hB5 HIs HX
          go_wp2_with fail
          refine HIy.out.mono ?_
          rintro e w6 ⟨rfl, hB6⟩
          have HB6 := Lib.hid (HB5.out.trans (hB6.mono HB5.out.size))
          clear hB6 HIy
          go_wp2_with fail
          go_roundw
          case rel => exact ⟨j, x.1, _, by omega, rfl, rfl, rfl, hb2, HP2.out, HB6.out⟩
          case measure => simp [intOf] <;> omega
end Go.Proofs.Ytpgeccgfkcjcoaa
